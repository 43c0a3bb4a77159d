/- FracParses walked. Conditions: the table of powers of ten is laid. -/
import Derived.Test.YtpdlogpkfnpbpaaDoorPw
import Derived.Test.YtpdlogpkfnpbpaaDoorPx
import Derived.Test.YtpdlogpkfnpbpaaDoorFf
namespace Go.Proofs.YtpdlogpkfnpbpaaDoor
open Go.RowKit

set_option maxRecDepth 100000 in
set_option maxHeartbeats 2000000 in
theorem law_parses (l : List UInt8) (w : World) (hl : l.length ≤ 9223372036854775807) (ht : P10 w) :
    Calls Tryd.prog 4 #[.string (BS l)] w fun e w' => e = .returned (.bool true) ∧ Below w.heap.size w w' := by
  have H1 := Lib.hid (fun W (h : Below w.heap.size w W) => parse_any l W hl (ht.ext h))
  have H2 := Lib.hid (fun W (h : Below w.heap.size w W) => rparse_any l W hl (ht.ext h))
  unfold RetP at H1 H2
  have HU := Lib.hid (fun t t' (h : PaR l t) (h' : PaR l t') => paR_uniq h h')
  obtain ⟨s, hs⟩ : ∃ s, s = BS l := ⟨_, rfl⟩
  rw [← hs] at H1 H2 ⊢
  clear hl ht hs
  go_enter Tryd.func4, Tryd.ntmps4
  go_wp2_with (first
    | (go_at_call 8; refine (H1.out _ (Below.refl _ _)).mono ?_; rintro e w1 ⟨t, hp, rfl, hx1⟩; obtain ⟨x, y, z⟩ := t; have HT := Lib.hid hp; clear hp; have E1 := ext_trans hx1 ((Below.refl _ _).alloc (Nat.le_refl _) (.cells #[.int .i64 x, .int .i64 y] 23)))
    | (go_at_call 9; refine (H2.out _ E1).mono ?_; rintro e w2 ⟨t, hp, rfl, hx2⟩; obtain rfl := HU.out _ _ HT.out hp; clear hp; obtain ⟨c1, c2, c3⟩ := new_cell hx2)
    | (go_at_call 7; refine (awake_any _).mono ?_; rintro e w3 ⟨rfl, hx3⟩))
  go_ret
  exact ⟨rfl, ext_trans E1 (ext_trans hx2 (ext_trans ((Below.refl _ _).alloc (Nat.le_refl _) _) hx3))⟩
end Go.Proofs.YtpdlogpkfnpbpaaDoor
