/- FracRounds walked. No conditions but that the parts are within int. -/
import Derived.Test.YthkoblnfeebafaaGi
namespace Go.Proofs.Ythkoblnfeebafaa
open Go.RowKit

set_option maxRecDepth 100000 in
set_option maxHeartbeats 4000000 in
theorem law_rounds (an ad bn bd m : Int) (w : World) (ha1 : IsI an) (ha2 : IsI ad) (hb1 : IsI bn) (hb2 : IsI bd) (_hm : IsI m) :
    Calls Try.prog 11 #[frv an ad, frv bn bd, .int .i64 m] w fun e w' => e = .returned (.bool true) ∧ Below w.heap.size w w' := by
  have h1 := fun W => round_fn an ad m W ha1 ha2
  have h2 := fun W => rround_fn an ad m W ha1 ha2
  have h3 := fun W => roundto_any an ad bn bd m W ha1 ha2 hb1 hb2
  have h4 := fun W => rroundto_any an ad bn bd m W ha1 ha2 hb1 hb2
  generalize rdA an ad m = c at *
  generalize rtoA an ad bn bd m = x at *
  unfold RetA RetI2 frv at *
  have H1 := Lib.hid h1
  have H2 := Lib.hid h2
  have H3 := Lib.hid h3
  have H4 := Lib.hid h4
  have hx0 : ∀ x y, Below w.heap.size w ((w.alloc x).alloc y) := fun x y => ((Below.refl _ _).alloc (Nat.le_refl _) _).alloc (by simp) _
  have HX0 := Lib.hid hx0
  clear hx0 ha1 ha2 hb1 hb2 h1 h2 h3 h4
  have sz0 : ∀ x y : Obj, ((w.alloc x).alloc y).heap.size = w.heap.size + 2 := by intro x y; simp
  have SZ0 := Lib.hid sz0
  clear sz0
  go_enter Try.func11, Try.ntmps11
  go_wp2_with (first
    | (go_at_call 50; refine (H1.out _).mono ?_; rintro e w1 ⟨rfl, hx1⟩; have B1 := bext (HX0.out _ _) hx1 (by rw [SZ0.out]; omega); have A1 := ((Ce.new w _ _).alloc _).ext hx1; have C1 := (Ce.new (w.alloc _) _ _).ext hx1; obtain ⟨a1, a2, a3⟩ := A1.facts; obtain ⟨c1, c2, c3⟩ := C1.facts; simp only [World.size_alloc] at C1 c1 c2 c3)
    | (go_at_call 51; refine (H2.out _).mono ?_; rintro e w2 ⟨rfl, hx2⟩; have B2 := bext B1 hx2 (by omega); have A2 := A1.ext hx2; have C2 := C1.ext hx2; obtain ⟨a1, a2, a3⟩ := A2.facts; obtain ⟨c1, c2, c3⟩ := C2.facts)
    | (go_at_call 32; refine (H3.out _).mono ?_; rintro e w4 ⟨rfl, hx4⟩; have B4 := bext B2 hx4 (by omega); have A4 := A2.ext hx4; have C4 := C2.ext hx4; obtain ⟨a1, a2, a3⟩ := A4.facts; obtain ⟨c1, c2, c3⟩ := C4.facts)
    | (go_at_call 52; refine (H4.out _).mono ?_; rintro e w5 ⟨rfl, hx5⟩; have B5 := bext (B4.alloc (by omega) _) hx5 (by simp; omega); have A5 := (A4.alloc _).ext hx5; have C5 := (C4.alloc _).ext hx5; have F5 := (Ce.new w4 _ _).ext hx5; have q1 : w.heap.size + 1 < w4.heap.size := c3; obtain ⟨a1, a2, a3⟩ := A5.facts; obtain ⟨c1, c2, c3⟩ := C5.facts; obtain ⟨f1, f2, f3⟩ := F5.facts)
    | (go_at_call 22; refine (awake_any _).mono ?_; rintro e w3 ⟨rfl, hx3⟩; have B3 := bext (B5.alloc (by omega) _) hx3 (by simp; omega)))
  go_ret
  exact ⟨rfl, B3⟩
end Go.Proofs.Ythkoblnfeebafaa
