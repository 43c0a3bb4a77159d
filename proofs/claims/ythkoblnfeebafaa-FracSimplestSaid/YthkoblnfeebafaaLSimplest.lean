/- FracSimplest walked. No conditions but that the parts are within int. -/
import Derived.Test.YthkoblnfeebafaaHj
namespace Go.Proofs.Ythkoblnfeebafaa
open Go.RowKit

theorem SpA.same {an ad bn bd : Int} {x y : Int × Int × Int} (hx : SpA an ad bn bd x) (hy : SpA an ad bn bd y) : x = y := by
  rcases hx with ⟨h1, rfl⟩ | ⟨h1, s, t, hw, rfl⟩ <;> rcases hy with ⟨h2, rfl⟩ | ⟨h2, s', t', hw', rfl⟩
  · rfl
  · exact absurd h2 h1
  · exact absurd h1 h2
  · obtain ⟨rfl, rfl⟩ := Sp.Weak.same hw hw'
    rfl

set_option maxRecDepth 100000 in
set_option maxHeartbeats 2000000 in
theorem law_simplest (an ad bn bd : Int) (w : World) (ha1 : IsI an) (ha2 : IsI ad) (hb1 : IsI bn) (hb2 : IsI bd) :
    Calls Try.prog 12 #[frv an ad, frv bn bd] w fun e w' => e = .returned (.bool true) ∧ Below w.heap.size w w' := by
  have h1 := fun W => simplest_fn an ad bn bd W ha1 ha2 hb1 hb2
  have h2 := fun W => rsimplest_fn an ad bn bd W ha1 ha2 hb1 hb2
  have H1 := Lib.hid h1
  have H2 := Lib.hid h2
  have hx0 : ∀ x y, Below w.heap.size w ((w.alloc x).alloc y) := fun x y => ((Below.refl _ _).alloc (Nat.le_refl _) _).alloc (by simp) _
  have HX0 := Lib.hid hx0
  clear hx0 h1 h2 ha1 ha2 hb1 hb2
  unfold frv at *
  go_enter Try.func12, Try.ntmps12
  go_wp2_with (first
    | (go_at_call 53; refine (H1.out _).mono ?_; unfold RetA frv; rintro e w1 ⟨⟨x1, x2, x3⟩, hsx, rfl, hx1⟩; have HSX := Lib.hid hsx; clear hsx; obtain ⟨k1, k2, k3, k4, k5⟩ := two_cells hx1; have k6 : w.heap.size < w1.heap.size := by omega)
    | (go_at_call 54; refine (H2.out _).mono ?_; unfold RetA frv; rintro e w2 ⟨y, hsy, rfl, hx2⟩; obtain rfl := SpA.same HSX.out hsy; clear hsy; obtain ⟨hc, hf, hz⟩ := new_cell hx2)
    | (go_at_call 22; refine (awake_any _).mono ?_; rintro e w3 ⟨rfl, hx3⟩))
  go_ret
  exact ⟨rfl, ext_trans (HX0.out _ _) (ext_trans hx1 (ext_trans ((Below.refl _ _).alloc (Nat.le_refl _) _) (ext_trans hx2 (ext_trans ((Below.refl _ _).alloc (Nat.le_refl _) _) hx3))))⟩
end Go.Proofs.Ythkoblnfeebafaa
