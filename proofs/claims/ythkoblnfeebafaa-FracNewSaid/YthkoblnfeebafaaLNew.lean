/- FracNew walked. No conditions but that the numbers are within int. -/
import Derived.Test.YthkoblnfeebafaaFj
import Derived.Test.YthkoblnfeebafaaFi
namespace Go.Proofs.Ythkoblnfeebafaa
open Go.RowKit

set_option maxRecDepth 100000 in
set_option maxHeartbeats 2000000 in
theorem law_new (n d : Int) (w : World) (hn : IsI n) (hd : IsI d) :
    Calls Try.prog 5 #[.int .i64 n, .int .i64 d] w fun e w' => e = .returned (.bool true) ∧ Below w.heap.size w w' := by
  have h1 := fun W => new_any n d W hn hd
  have h2 := fun W => rnew_any n d W hn hd
  have h3 := fun W => whole_any n W hn
  have h4 := fun W => rnew_any n 1 W hn ⟨by decide, by decide⟩
  generalize newA n d = a at *
  generalize newA n 1 = b at *
  have H1 := Lib.hid h1
  have H2 := Lib.hid h2
  have H3 := Lib.hid h3
  have H4 := Lib.hid h4
  clear h1 h2 h3 h4 hn hd
  go_enter Try.func5, Try.ntmps5
  go_wp2_with (first
    | (go_at_call 25; refine (H1.out _).mono ?_; unfold RetA frv; rintro e w1 ⟨rfl, hx1⟩)
    | (go_at_call_of 26 (Value.int .i64 d); refine (H2.out _).mono ?_; unfold RetA frv; rintro e w2 ⟨rfl, hx2⟩; have E2 := hx2)
    | (go_at_call 27; refine (H3.out _).mono ?_; unfold RetA frv; rintro e w3 ⟨rfl, hx3⟩; have F2 := hx3; have E3 := ext_trans E2 (ext_trans ((Below.refl _ _).alloc (Nat.le_refl _) _) hx3))
    | (go_at_call 26; refine (H4.out _).mono ?_; unfold RetA frv; rintro e w4 ⟨rfl, hx4⟩; obtain ⟨c1, c2, c3⟩ := new_cell hx4; obtain ⟨d1, d2, d3⟩ := new_cell (ext_trans hx3 (ext_trans ((Below.refl _ _).alloc (Nat.le_refl _) _) hx4)); obtain ⟨e1, e2, e3⟩ := new_cell (ext_trans E3 (ext_trans ((Below.refl _ _).alloc (Nat.le_refl _) _) hx4)))
    | (go_at_call 22; refine (awake_any _).mono ?_; rintro e w5 ⟨rfl, hx5⟩))
  go_ret
  exact ⟨rfl, ext_trans hx1 (ext_trans ((Below.refl _ _).alloc (Nat.le_refl _) _) (ext_trans E3 (ext_trans ((Below.refl _ _).alloc (Nat.le_refl _) _) (ext_trans hx4 (ext_trans ((Below.refl _ _).alloc (Nat.le_refl _) _) hx5)))))⟩
end Go.Proofs.Ythkoblnfeebafaa
