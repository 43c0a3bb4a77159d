/- FracSums walked. Conditions: the slice reads as a list of fractions, whose parts are within int. -/
import Derived.Test.YthkoblnfeebafaaSb
import Derived.Test.YthkoblnfeebafaaFf
namespace Go.Proofs.Ythkoblnfeebafaa
open Go.RowKit

set_option maxRecDepth 100000 in
set_option maxHeartbeats 2000000 in
theorem law_sums (A : Option Addr) (cap : Nat) (l : List (Int × Int)) (w : World) (hh : l.length ≤ 9223372036854775807 ∧ FSl w A l ∧ ∀ x ∈ l, IsI x.1 ∧ IsI x.2) :
    Calls Try.prog 6 #[.slice A l.length cap] w fun e w' => e = .returned (.bool true) ∧ Below w.heap.size w w' := by
  obtain ⟨hl, hf, hi⟩ := hh
  have h1 := fun W (h : FSl W A l) => sum_any A cap l W hl h hi
  have h2 := fun W (h : FSl W A l) => rsum_any A cap l W hl h hi
  generalize sumA l = a at *
  unfold RetA frv at *
  have H1 := Lib.hid h1
  have H2 := Lib.hid h2
  have HF := Lib.hid hf
  clear h1 h2 hf hi
  go_enter Try.func6, Try.ntmps6
  go_wp2_with (first
    | (go_at_call 28; refine (H1.out _ HF.out).mono ?_; rintro e w1 ⟨rfl, hx1⟩; have E1 := ext_trans hx1 ((Below.refl _ _).alloc (Nat.le_refl _) (.cells #[.int .i64 a.1, .int .i64 a.2.1] 23)))
    | (go_at_call 29; refine (H2.out _ (HF.out.ext E1)).mono ?_; rintro e w2 ⟨rfl, hx2⟩; obtain ⟨c1, c2, c3⟩ := new_cell hx2)
    | (go_at_call 22; refine (awake_any _).mono ?_; rintro e w3 ⟨rfl, hx3⟩))
  go_ret
  exact ⟨rfl, ext_trans E1 (ext_trans hx2 (ext_trans ((Below.refl _ _).alloc (Nat.le_refl _) _) hx3))⟩
end Go.Proofs.Ythkoblnfeebafaa
