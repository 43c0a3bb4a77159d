/- FracFromTerms walked. Conditions: the slice reads as a list of ints. -/
import Derived.Test.YthkoblnfeebafaaTc
import Derived.Test.YthkoblnfeebafaaFf
namespace Go.Proofs.Ythkoblnfeebafaa
open Go.RowKit

set_option maxRecDepth 100000 in
set_option maxHeartbeats 2000000 in
theorem law_fromterms (A : Option Addr) (cap : Nat) (l : List Int) (w : World) (hh : l.length ≤ cap ∧ cap ≤ 9223372036854775807 ∧ ISl w A l ∧ ∀ x ∈ l, IsI x) :
    Calls Try.prog 7 #[.slice A l.length cap] w fun e w' => e = .returned (.bool true) ∧ Below w.heap.size w w' := by
  obtain ⟨hl, hc, hf, hi⟩ := hh
  have h1 := fun W (h : ISl W A l) => fromterms_any A cap l W (Nat.le_trans hl hc) h hi
  have h2 := fun W (h : ISl W A l) => rfromterms_any A cap l W hl hc h hi
  rw [rtA_ftA] at h2
  generalize ftA l = a at *
  unfold RetA frv at *
  have H1 := Lib.hid h1
  have H2 := Lib.hid h2
  have HF := Lib.hid hf
  clear h1 h2 hf hi hl hc
  go_enter Try.func7, Try.ntmps7
  go_wp2_with (first
    | (go_at_call 30; refine (H1.out _ HF.out).mono ?_; rintro e w1 ⟨rfl, hx1⟩; have E1 := ext_trans hx1 ((Below.refl _ _).alloc (Nat.le_refl _) (.cells #[.int .i64 a.1, .int .i64 a.2.1] 23)))
    | (go_at_call 31; refine (H2.out _ (HF.out.ext E1)).mono ?_; rintro e w2 ⟨rfl, hx2⟩; obtain ⟨c1, c2, c3⟩ := new_cell hx2)
    | (go_at_call 22; refine (awake_any _).mono ?_; rintro e w3 ⟨rfl, hx3⟩))
  go_ret
  exact ⟨rfl, ext_trans E1 (ext_trans hx2 (ext_trans ((Below.refl _ _).alloc (Nat.le_refl _) _) hx3))⟩
end Go.Proofs.Ythkoblnfeebafaa
