/- FracBlends walked. Conditions: the slices read as lists of fractions and of ints, within int. -/
import Derived.Test.YthkoblnfeebafaaKb
import Derived.Test.YthkoblnfeebafaaKc
import Derived.Test.YthkoblnfeebafaaFf
namespace Go.Proofs.Ythkoblnfeebafaa
open Go.RowKit

set_option maxRecDepth 100000 in
set_option maxHeartbeats 2000000 in
theorem law_blends (A : Option Addr) (cap : Nat) (l : List (Int × Int)) (B : Option Addr) (cap2 : Nat) (v : List Int) (w : World) (hh : l.length ≤ 9223372036854775807 ∧ FSl w A l ∧ ∀ x ∈ l, IsI x.1 ∧ IsI x.2)
    (hh2 : v.length ≤ cap2 ∧ cap2 ≤ 9223372036854775807 ∧ ISl w B v ∧ ∀ x ∈ v, IsI x) :
    Calls Try.prog 14 #[.slice A l.length cap, .slice B v.length cap2] w fun e w' => e = .returned (.bool true) ∧ Below w.heap.size w w' := by
  obtain ⟨hl, hf, hi⟩ := hh
  obtain ⟨hl2, hc2, hf2, hi2⟩ := hh2
  have h1 := fun W (h : FSl W A l) (h' : ISl W B v) => blend_any A B cap cap2 l v W hl (by omega) h h' hi hi2
  have h2 := fun W (h : FSl W A l) (h' : ISl W B v) => rblend_any A B cap cap2 l v W hl (by omega) h h' hi hi2
  generalize blA l v = a at *
  unfold RetA frv at *
  have H1 := Lib.hid h1
  have H2 := Lib.hid h2
  have HF := Lib.hid hf
  have HF2 := Lib.hid hf2
  clear h1 h2 hf hi hf2 hi2 hl hl2 hc2
  go_enter Try.func14, Try.ntmps14
  go_wp2_with (first
    | (go_at_call 55; refine (H1.out _ HF.out HF2.out).mono ?_; rintro e w1 ⟨rfl, hx1⟩; have E1 := ext_trans hx1 ((Below.refl _ _).alloc (Nat.le_refl _) (.cells #[.int .i64 a.1, .int .i64 a.2.1] 23)))
    | (go_at_call 56; refine (H2.out _ (HF.out.ext E1) (HF2.out.ext E1)).mono ?_; rintro e w2 ⟨rfl, hx2⟩; obtain ⟨c1, c2, c3⟩ := new_cell hx2)
    | (go_at_call 22; refine (awake_any _).mono ?_; rintro e w3 ⟨rfl, hx3⟩))
  go_ret
  exact ⟨rfl, ext_trans E1 (ext_trans hx2 (ext_trans ((Below.refl _ _).alloc (Nat.le_refl _) _) hx3))⟩
end Go.Proofs.Ythkoblnfeebafaa
