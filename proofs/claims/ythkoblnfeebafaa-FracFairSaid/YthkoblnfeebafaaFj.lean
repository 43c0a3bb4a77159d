/- Walks of the reference's New, Mediant, Add, Sub, Mul, Div. Conditions: the arguments are within their kinds. -/
import Derived.Test.YthkoblnfeebafaaFi
import Derived.Test.YthkoblnfeebafaaFg
namespace Go.Proofs.Ythkoblnfeebafaa
open Go.RowKit

set_option maxRecDepth 100000 in
set_option maxHeartbeats 400000 in
theorem rnew_any (n d : Int) (w : World) (hn : IsI n) (hd : IsI d) : Calls Try.prog 26 #[.int .i64 n, .int .i64 d] w (RetA w (newA n d)) := by
  unfold newA
  by_cases h0 : d = 0
  · subst h0
    rw [if_pos rfl]
    clear hn hd
    go_enter Try.func26, Try.ntmps26
    go_wp2
    go_returns
    exact ⟨rfl, (Below.refl _ _).alloc (Nat.le_refl _) _⟩
  · rw [if_neg h0]
    have z1 := qok_int hn.1 hn.2
    have z2 := qok_int hd.1 hd.2
    have hne : (d : Rat) ≠ 0 := by intro h; exact h0 (Rat.intCast_eq_zero_iff.1 h)
    have HI1 := Lib.hid (fun W => int_any n W hn.1 hn.2)
    have HI2 := Lib.hid (fun W => int_any d W hd.1 hd.2)
    have hd0 : ((d : Int) == 0) = false := by simpa using h0
    have HO := Lib.hid (fun va vb W ha hb => over_any va vb (n : Rat) (d : Rat) W ha hb z1 z2 hne)
    have HA := Lib.hid (fun v W (hq : QAt W v (rat n d)) => answer_any v (rat n d) W hq)
    have hx0 : ∀ x, Below w.heap.size w (w.alloc x) := fun x => (Below.refl _ _).alloc (Nat.le_refl _) _
    have HX0 := Lib.hid hx0
    clear hx0 hn hd z1 z2 hne h0
    unfold rat at HA ⊢
    generalize ans ((n : Rat) / (d : Rat)) = a at *
    go_enter Try.func26, Try.ntmps26
    go_wp2_with (first
      | (go_at_call_of 80 (Value.int .i64 n); refine (HI1.out _).mono ?_; rintro e w1 ⟨v1, rfl, hq1, hx1⟩; obtain ⟨s1, A1, n1, c1, B1, m1, d1, rfl⟩ := q_form hq1)
      | (go_at_call_of 80 (Value.int .i64 d); refine (HI2.out _).mono ?_; rintro e w2 ⟨v2, rfl, hq2, hx2⟩; obtain ⟨s2, A2, n2, c2, B2, m2, d2, rfl⟩ := q_form hq2; have E2 := ext_trans hx1 hx2)
      | (go_at_call 38; refine (HO.out _ _ _ (hq1.ext hx2) hq2).mono ?_; rintro e w3 ⟨v3, rfl, hq3, hx3⟩; obtain ⟨s3, A3, n3, c3, B3, m3, d3, rfl⟩ := q_form hq3; have E3 := ext_trans E2 hx3)
      | (go_at_call 79; refine (HA.out _ _ hq3).mono ?_; unfold RetA frv; rintro e w4 ⟨rfl, hx4⟩; have E4 := ext_trans E3 hx4; obtain ⟨hc, hf, hz⟩ := new_cell E4))
    refine bodyPost_ret (v := .tuple #[.agg #[.int .i64 a.1, .int .i64 a.2.1], .int .i64 a.2.2]) (by simp [results, Try.results26, go_sem, hc]) rfl ?_
    exact ⟨rfl, below2 (ext_trans (HX0.out _) E4) (Nat.le_refl _) _ _⟩

set_option maxRecDepth 100000 in
set_option maxHeartbeats 2000000 in
theorem rmediant_any (an ad bn bd : Int) (w : World) (ha1 : IsI an) (ha2 : IsI ad) (hb1 : IsI bn) (hb2 : IsI bd) :
    Calls Try.prog 24 #[frv an ad, frv bn bd] w (RetA w (two an ad bn bd (rat (an + bn) (ad + bd)))) := by
  have h1 := fun W => rvalid_any an ad W ha1 ha2
  have h2 := fun W => rvalid_any bn bd W hb1 hb2
  have hx0 : ∀ x y z, Below w.heap.size w (((w.alloc x).alloc y).alloc z) := fun x y z => (((Below.refl _ _).alloc (Nat.le_refl _) _).alloc (by simp) _).alloc (by simp; omega) _
  have HX0 := Lib.hid hx0
  clear hx0
  unfold frv two at *
  cases hv : vldB an ad
  · rw [if_neg (by simp)]
    rw [hv] at h1
    have H1 := Lib.hid h1
    clear h1 h2 hv ha1 ha2 hb1 hb2
    go_enter Try.func24, Try.ntmps24
    go_wp2_with (go_at_call 21; refine (H1.out _).mono ?_; rintro e w1 ⟨rfl, hx1⟩; obtain ⟨k1, k2, k3, k4, k5⟩ := three_cells hx1)
    refine bodyPost_ret (v := .tuple #[.agg #[.int .i64 0, .int .i64 0], .int .i64 2]) (by simp [results, Try.results24, go_sem, k3]) rfl ?_
    exact ⟨rfl, below2 (ext_trans (HX0.out _ _ _) hx1) (by omega) _ _⟩
  · cases hv2 : vldB bn bd
    · rw [if_neg (by simp)]
      rw [hv] at h1
      rw [hv2] at h2
      have H1 := Lib.hid h1
      have H2 := Lib.hid h2
      clear h1 h2 hv hv2 ha1 ha2 hb1 hb2
      go_enter Try.func24, Try.ntmps24
      go_wp2_with (first
        | (go_at_call_of 21 (Value.int .i64 an); refine (H1.out _).mono ?_; rintro e w1 ⟨rfl, hx1⟩; obtain ⟨k1, k2, k3, k4, k5⟩ := three_cells hx1)
        | (go_at_call_of 21 (Value.int .i64 bn); refine (H2.out _).mono ?_; rintro e w2 ⟨rfl, hx2⟩; have E2 := ext_trans hx1 hx2; obtain ⟨k1, k2, k3, k4, k5⟩ := three_cells E2))
      refine bodyPost_ret (v := .tuple #[.agg #[.int .i64 0, .int .i64 0], .int .i64 2]) (by simp [results, Try.results24, go_sem, k3]) rfl ?_
      exact ⟨rfl, below2 (ext_trans (HX0.out _ _ _) E2) (by omega) _ _⟩
    · rw [if_pos (by simp)]
      obtain ⟨a1, a2, a3, a4, _⟩ := of_decide_eq_true hv
      obtain ⟨b1, b2, b3, b4, _⟩ := of_decide_eq_true hv2
      rw [hv] at h1
      rw [hv2] at h2
      have H1 := Lib.hid h1
      have H2 := Lib.hid h2
      have hz := fun W => rnew_any (an + bn) (ad + bd) W ⟨by omega, by omega⟩ ⟨by omega, by omega⟩
      unfold newA at hz
      rw [if_neg (by omega)] at hz
      have HZ := Lib.hid hz
      clear hz
      generalize ans (rat (an + bn) (ad + bd)) = a at *
      clear h1 h2 hv hv2 ha1 ha2 hb1 hb2
      go_enter Try.func24, Try.ntmps24
      go_wp2_with (first
        | (go_at_call_of 21 (Value.int .i64 an); refine (H1.out _).mono ?_; rintro e w1 ⟨rfl, hx1⟩; obtain ⟨k1, k2, k3, k4, k5⟩ := three_cells hx1)
        | (go_at_call_of 21 (Value.int .i64 bn); refine (H2.out _).mono ?_; rintro e w2 ⟨rfl, hx2⟩; have E2 := ext_trans hx1 hx2; obtain ⟨k1, k2, k3, k4, k5⟩ := three_cells E2)
        | (go_at_call 26; refine (HZ.out _).mono ?_; unfold RetA frv; rintro e w3 ⟨rfl, hx3⟩; have E3 := ext_trans E2 hx3; obtain ⟨k1, k2, k3, k4, k5⟩ := three_cells E3))
      refine bodyPost_ret (v := .tuple #[.agg #[.int .i64 a.1, .int .i64 a.2.1], .int .i64 a.2.2]) (by simp [results, Try.results24, go_sem, k3]) rfl ?_
      exact ⟨rfl, below2 (ext_trans (HX0.out _ _ _) E3) (by omega) _ _⟩
end Go.Proofs.Ythkoblnfeebafaa
