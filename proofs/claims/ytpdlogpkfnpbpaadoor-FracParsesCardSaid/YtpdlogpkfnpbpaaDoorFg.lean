/- Walk of the reference's Valid; the law FracValid walked. Conditions: the arguments are within their kinds. -/
import Derived.Test.YtpdlogpkfnpbpaaDoorFf
namespace Go.Proofs.YtpdlogpkfnpbpaaDoor
open Go.RowKit

theorem rat_one {n d : Int} (hd : 1 ≤ d) (h : Int.gcd n d = 1) : (rat n d).num = n ∧ ((rat n d).den : Int) = d := by
  obtain ⟨h1, h2⟩ := rat_parts (n := n) hd
  rw [h1, h2, h, Nat.div_one]
  exact ⟨by simp, by omega⟩
theorem rat_more {n d : Int} (hd : 1 ≤ d) (h : Int.gcd n d ≠ 1) : ((rat n d).den : Int) ≠ d := by
  obtain ⟨_, h2⟩ := rat_parts (n := n) hd
  have hg : 0 < Int.gcd n d := Int.gcd_pos_of_ne_zero_right _ (by omega)
  have h3 : (rat n d).den < d.toNat := by
    rw [h2]
    exact Nat.div_lt_self (by omega) (by omega)
  omega
theorem rat_inq {n d : Int} (h1 : 1 ≤ d) (h2 : d ≤ 1000000000) (h3 : -1000000000 ≤ n) (h4 : n ≤ 1000000000) : InQ (rat n d) := by
  have h0 : d.natAbs ≠ 0 := by omega
  have h5 := qdiv (n := n) (d := d) (by omega)
  have h6 := Q.mk_abs (neg := decide (n < 0)) (n := n.natAbs) h0
  have h7 := Q.mk_den' (neg := decide (n < 0)) (n := n.natAbs) h0
  rw [h5] at h6 h7
  unfold InQ rat
  rw [h6, h7]
  have := Nat.div_le_self n.natAbs (n.natAbs.gcd d.natAbs)
  have := Nat.div_le_self d.natAbs (n.natAbs.gcd d.natAbs)
  omega

set_option maxHeartbeats 1000000 in
theorem rvalid_any (n d : Int) (w : World) (hn : IsI n) (hd : IsI d) : Calls Tryd.prog 12 #[frv n d] w fun e w' => e = .returned (.bool (vldB n d)) ∧ Below w.heap.size w w' := by
  have HN := Lib.hid hn
  have HD := Lib.hid hd
  have hn1 := hn.1
  have hn2 := hn.2
  have hd1 := hd.1
  have hd2 := hd.2
  clear hn hd
  by_cases h1 : 1 ≤ d
  · by_cases h2 : d ≤ 1000000000
    · by_cases h3 : -1000000000 ≤ n
      · by_cases h4 : n ≤ 1000000000
        · have hz := fun W => of_any n d W HN.out.1 HN.out.2 HD.out.1 HD.out.2 (by omega)
          have hf := fun v W (hv : QAt W v ((n : Rat) / (d : Rat))) => rfrac_yes v _ W hv (rat_inq h1 h2 h3 h4)
          have hb0 : ∀ x, Below w.heap.size w (w.alloc x) := fun x => (Below.refl _ _).alloc (Nat.le_refl _) _
          have HB0 := Lib.hid hb0
          by_cases h5 : Int.gcd n d = 1
          · obtain ⟨e1, e2⟩ := rat_one h1 h5
            rw [vldB_yes ⟨h1, h2, h3, h4, h5⟩]
            unfold rat at e1 e2
            rw [e1, e2] at hf
            unfold frv at hz hf ⊢
            have HZ := Lib.hid hz
            have HF := Lib.hid hf
            clear hz hf h5 e1 e2 hb0
            go_enter Tryd.func12, Tryd.ntmps12
            go_wp2_with (first
              | (go_at_call 28; refine (HZ.out _).mono ?_; rintro e w1 ⟨v1, rfl, hq1, hx1⟩; obtain ⟨s1, A1, n1, c1, B1, m1, d1, rfl⟩ := q_form hq1)
              | (go_at_call 24; refine (HF.out _ _ hq1).mono ?_; rintro e w2 ⟨rfl, hx2⟩; have E2 := ext_trans hx1 hx2; obtain ⟨hc, hf, hlt⟩ := new_cell E2))
            go_ret
            exact ⟨rfl, (ext_trans (HB0.out _) E2).alloc (by omega) _⟩
          · have e2 := rat_more h1 h5
            rw [vldB_no (fun h => h5 h.2.2.2.2)]
            unfold rat at e2
            generalize ((n : Rat) / (d : Rat)) = q at *
            have e3 : ((q.den : Int) == d) = false := by simp; omega
            unfold frv at hz hf ⊢
            have HZ := Lib.hid hz
            have HF := Lib.hid hf
            clear hz hf h5 e2 hb0
            go_enter Tryd.func12, Tryd.ntmps12
            go_wp2_with (first
              | (go_at_call 28; refine (HZ.out _).mono ?_; rintro e w1 ⟨v1, rfl, hq1, hx1⟩; obtain ⟨s1, A1, n1, c1, B1, m1, d1, rfl⟩ := q_form hq1)
              | (go_at_call 24; refine (HF.out _ _ hq1).mono ?_; rintro e w2 ⟨rfl, hx2⟩; have E2 := ext_trans hx1 hx2; obtain ⟨hc, hf, hlt⟩ := new_cell E2))
            all_goals
              go_ret
              exact ⟨ret_bool (by simp [*]), (ext_trans (HB0.out _) E2).alloc (by omega) _⟩
        · rw [vldB_no (fun h => h4 h.2.2.2.1)]
          unfold frv
          go_enter Tryd.func12, Tryd.ntmps12
          go_wp2
          go_ret
          exact ⟨rfl, (Below.refl _ _).alloc (Nat.le_refl _) _⟩
      · rw [vldB_no (fun h => h3 h.2.2.1)]
        unfold frv
        go_enter Tryd.func12, Tryd.ntmps12
        go_wp2
        go_ret
        exact ⟨rfl, (Below.refl _ _).alloc (Nat.le_refl _) _⟩
    · rw [vldB_no (fun h => h2 h.2.1)]
      unfold frv
      go_enter Tryd.func12, Tryd.ntmps12
      go_wp2
      go_ret
      exact ⟨rfl, (Below.refl _ _).alloc (Nat.le_refl _) _⟩
  · rw [vldB_no (fun h => h1 h.1)]
    unfold frv
    go_enter Tryd.func12, Tryd.ntmps12
    go_wp2
    go_ret
    exact ⟨rfl, (Below.refl _ _).alloc (Nat.le_refl _) _⟩
end Go.Proofs.YtpdlogpkfnpbpaaDoor
