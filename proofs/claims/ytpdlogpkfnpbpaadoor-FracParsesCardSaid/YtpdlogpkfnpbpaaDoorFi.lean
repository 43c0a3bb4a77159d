/- Walks of frac's New, Whole, Div, Neg, Abs. Conditions: the arguments are within their kinds. -/
import Derived.Test.YtpdlogpkfnpbpaaDoorFh
namespace Go.Proofs.YtpdlogpkfnpbpaaDoor
open Go.RowKit

noncomputable def newA (n d : Int) : Int × Int × Int := if d = 0 then (0, 0, 4) else ans (rat n d)

theorem rat_zero (d : Int) : Q.mk false (0 : Int).natAbs d.natAbs = rat 0 d := by
  unfold rat
  rw [Int.natAbs_zero, Q.mk_zero, Rat.intCast_zero, Rat.div_def, Rat.zero_mul]

set_option maxRecDepth 100000 in
set_option maxHeartbeats 400000 in
theorem new_any (n d : Int) (w : World) (hn : IsI n) (hd : IsI d) : Calls Tryd.prog 18 #[.int .i64 n, .int .i64 d] w (RetA w (newA n d)) := by
  unfold newA
  by_cases h0 : d = 0
  · subst h0
    rw [if_pos rfl]
    clear hn hd
    go_enter Tryd.func18, Tryd.ntmps18
    go_wp2
    go_returns
    exact ⟨rfl, (Below.refl _ _).alloc (Nat.le_refl _) _⟩
  · rw [if_neg h0]
    have hz : ∀ s, Q.mk s n.natAbs d.natAbs = rat n d → ∀ W, Calls Tryd.prog 36 #[.bool s, .int .u64 (n.natAbs : Int), .int .u64 (d.natAbs : Int)] W (RetA W (ans (rat n d))) := fun s h W => lowest_at s n d _ W hn hd h0 h
    have HSN := Lib.hid (fun W => size_any n W hn.1 hn.2)
    have HSD := Lib.hid (fun W => size_any d W hd.1 hd.2)
    have hd0 : ((d : Int) == 0) = false := by simpa using h0
    have hx0 : ∀ x, Below w.heap.size w (w.alloc x) := fun x => (Below.refl _ _).alloc (Nat.le_refl _) _
    have HX0 := Lib.hid hx0
    clear hx0
    clear hn hd
    by_cases h1 : n = 0
    · subst h1
      have HZ := Lib.hid (hz false (rat_zero d))
      generalize ans (rat 0 d) = a at *
      clear hz h0
      go_enter Tryd.func18, Tryd.ntmps18
      go_wp2_with (first
        | (go_at_call_of 26 (Value.int .i64 d); refine (HSD.out _).mono ?_; rintro e w1 ⟨rfl, rfl⟩)
        | (go_at_call 26; refine (HSN.out _).mono ?_; rintro e w1 ⟨rfl, rfl⟩)
        | (go_at_call 36; refine (HZ.out _).mono ?_; unfold RetA frv; rintro e w1 ⟨rfl, hx1⟩; obtain ⟨hc, hf, hz⟩ := new_cell hx1))
      refine bodyPost_ret (v := .tuple #[.agg #[.int .i64 a.1, .int .i64 a.2.1], .int .i64 a.2.2]) (by simp [results, Tryd.results18, go_sem, hc]) rfl ?_
      exact ⟨rfl, below2 (ext_trans (HX0.out _) hx1) (Nat.le_refl _) _ _⟩
    · have hz2 := hz _ (qdiv' h1 h0)
      have hn0 : ((n : Int) != 0) = true := by simpa using h1
      generalize ans (rat n d) = a at *
      by_cases h2 : n < 0
      all_goals by_cases h3 : d < 0
      all_goals
        simp only [h2, h3, decide_true, decide_false, bne_self_eq_false, Bool.bne_true, Bool.bne_false, Bool.not_false] at hz2
        have HZ := Lib.hid hz2
        clear hz hz2 h0 h1
        go_enter Tryd.func18, Tryd.ntmps18
        go_wp2_with (first
          | (go_at_call_of 26 (Value.int .i64 d); refine (HSD.out _).mono ?_; rintro e w1 ⟨rfl, rfl⟩)
          | (go_at_call 26; refine (HSN.out _).mono ?_; rintro e w1 ⟨rfl, rfl⟩)
          | (go_at_call 36; refine (HZ.out _).mono ?_; unfold RetA frv; rintro e w1 ⟨rfl, hx1⟩; obtain ⟨hc, hf, hz⟩ := new_cell hx1))
        refine bodyPost_ret (v := .tuple #[.agg #[.int .i64 a.1, .int .i64 a.2.1], .int .i64 a.2.2]) (by simp [results, Tryd.results18, go_sem, hc]) rfl ?_
        exact ⟨rfl, below2 (ext_trans (HX0.out _) hx1) (Nat.le_refl _) _ _⟩

end Go.Proofs.YtpdlogpkfnpbpaaDoor
