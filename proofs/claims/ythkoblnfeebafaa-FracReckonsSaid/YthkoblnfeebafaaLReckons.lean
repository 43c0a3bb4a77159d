/- FracReckons walked. No conditions but that the parts are within int. -/
import Derived.Test.YthkoblnfeebafaaFo
namespace Go.Proofs.Ythkoblnfeebafaa
open Go.RowKit

set_option maxRecDepth 100000 in
set_option maxHeartbeats 4000000 in
theorem law_reckons (an ad bn bd : Int) (w : World) (ha1 : IsI an) (ha2 : IsI ad) (hb1 : IsI bn) (hb2 : IsI bd) :
    Calls Try.prog 15 #[frv an ad, frv bn bd] w fun e w' => e = .returned (.bool true) ∧ Below w.heap.size w w' := by
  have h1 := fun W => cmp_any an ad bn bd W ha1 ha2 hb1 hb2
  have h2 := fun W => rcmp_any an ad bn bd W ha1 ha2 hb1 hb2
  have h3 := fun W => add_any an ad bn bd W ha1 ha2 hb1 hb2
  have h4 := fun W => radd_any an ad bn bd W ha1 ha2 hb1 hb2
  have h5 := fun W => sub_any an ad bn bd W ha1 ha2 hb1 hb2
  have h6 := fun W => rsub_any an ad bn bd W ha1 ha2 hb1 hb2
  have h7 := fun W => mul_any an ad bn bd W ha1 ha2 hb1 hb2
  have h8 := fun W => rmul_any an ad bn bd W ha1 ha2 hb1 hb2
  have h9 := fun W => div_any an ad bn bd W ha1 ha2 hb1 hb2
  have h10 := fun W => rdiv_any an ad bn bd W ha1 ha2 hb1 hb2
  have h11 := fun W => neg_any an ad W ha1 ha2
  have h12 := fun W => rneg_any an ad W ha1 ha2
  have h13 := fun W => abs_any an ad W ha1 ha2
  have h14 := fun W => rabs_any an ad W ha1 ha2
  generalize cmpA an ad bn bd = c at *
  generalize two an ad bn bd (rat an ad + rat bn bd) = x at *
  generalize two an ad bn bd (rat an ad - rat bn bd) = y at *
  generalize two an ad bn bd (rat an ad * rat bn bd) = z at *
  generalize divA an ad bn bd = u at *
  generalize negA an ad = v at *
  generalize absA an ad = s at *
  unfold frv at *
  have H1 := Lib.hid h1
  have H2 := Lib.hid h2
  have H3 := Lib.hid h3
  have H4 := Lib.hid h4
  have H5 := Lib.hid h5
  have H6 := Lib.hid h6
  have H7 := Lib.hid h7
  have H8 := Lib.hid h8
  have H9 := Lib.hid h9
  have H10 := Lib.hid h10
  have H11 := Lib.hid h11
  have H12 := Lib.hid h12
  have H13 := Lib.hid h13
  have H14 := Lib.hid h14
  have hx0 : ∀ x y, Below w.heap.size w ((w.alloc x).alloc y) := fun x y => ((Below.refl _ _).alloc (Nat.le_refl _) _).alloc (by simp) _
  have HX0 := Lib.hid hx0
  clear hx0 ha1 ha2 hb1 hb2 h1 h2 h3 h4 h5 h6 h7 h8 h9 h10 h11 h12 h13 h14
  have sz0 : ∀ x y : Obj, ((w.alloc x).alloc y).heap.size = w.heap.size + 2 := by intro x y; simp
  have SZ0 := Lib.hid sz0
  clear sz0
  go_enter Try.func15, Try.ntmps15
  go_wp2_with (first
    | (go_at_call 48; refine (H1.out _).mono ?_; rintro e w1 ⟨rfl, hx1⟩; have B1 := bext (HX0.out _ _) hx1 (by rw [SZ0.out]; omega); have A1 := ((Ce.new w _ _).alloc _).ext hx1; have C1 := (Ce.new (w.alloc _) _ _).ext hx1; obtain ⟨a1, a2, a3⟩ := A1.facts; obtain ⟨c1, c2, c3⟩ := C1.facts; simp only [World.size_alloc] at C1 c1 c2 c3)
    | (go_at_call 57; refine (H2.out _).mono ?_; rintro e w2 ⟨rfl, hx2⟩; have B2 := bext B1 hx2 (by omega); have A2 := A1.ext hx2; have C2 := C1.ext hx2; obtain ⟨a1, a2, a3⟩ := A2.facts; obtain ⟨c1, c2, c3⟩ := C2.facts)
    | (go_at_call 22; refine (awake_any _).mono ?_; rintro e w3 ⟨rfl, hx3⟩; have B3 := bext B2 hx3 (by omega); have A3 := A2.ext hx3; have C3 := C2.ext hx3; obtain ⟨a1, a2, a3⟩ := A3.facts; obtain ⟨c1, c2, c3⟩ := C3.facts)
    | (go_at_call 44; refine (H3.out _).mono ?_; unfold RetA frv; rintro e w4 ⟨rfl, hx4⟩; have B4 := bext B3 hx4 (by omega); have A4 := A3.ext hx4; have C4 := C3.ext hx4; obtain ⟨a1, a2, a3⟩ := A4.facts; obtain ⟨c1, c2, c3⟩ := C4.facts)
    | (go_at_call 58; refine (H4.out _).mono ?_; unfold RetA frv; rintro e w5 ⟨rfl, hx5⟩; have B5 := bext (B4.alloc (by omega) _) hx5 (by simp; omega); have A5 := (A4.alloc _).ext hx5; have C5 := (C4.alloc _).ext hx5; have F5 := (Ce.new w4 _ _).ext hx5; have q1 : w.heap.size + 1 < w4.heap.size := c3; obtain ⟨a1, a2, a3⟩ := A5.facts; obtain ⟨c1, c2, c3⟩ := C5.facts; obtain ⟨f1, f2, f3⟩ := F5.facts)
    | (go_at_call 45; refine (H5.out _).mono ?_; unfold RetA frv; rintro e w6 ⟨rfl, hx6⟩; have B6 := bext (B5.alloc (by omega) _) hx6 (by simp; omega); have A6 := (A5.alloc _).ext hx6; have C6 := (C5.alloc _).ext hx6; have F6 := (F5.alloc _).ext hx6; have G6 := (Ce.new w5 _ _).ext hx6; have q2 : w4.heap.size < w5.heap.size := f3; obtain ⟨a1, a2, a3⟩ := A6.facts; obtain ⟨c1, c2, c3⟩ := C6.facts; obtain ⟨f1, f2, f3⟩ := F6.facts; obtain ⟨g1, g2, g3⟩ := G6.facts)
    | (go_at_call 59; refine (H6.out _).mono ?_; unfold RetA frv; rintro e w7 ⟨rfl, hx7⟩; have B7 := bext (bset2 B6 (by omega) _ _) hx7 (by simp; omega); have A7 := (A6.set_ne' (by omega) _ _).ext hx7; have C7 := (C6.set_ne' (by omega) _ _).ext hx7; have F7 := (F6.set2 _ _).ext hx7; have G7 := (G6.set_ne' (by omega) _ _).ext hx7; obtain ⟨a1, a2, a3⟩ := A7.facts; obtain ⟨c1, c2, c3⟩ := C7.facts; obtain ⟨f1, f2, f3⟩ := F7.facts; obtain ⟨g1, g2, g3⟩ := G7.facts)
    | (go_at_call 46; refine (H7.out _).mono ?_; unfold RetA frv; rintro e w8 ⟨rfl, hx8⟩; have B8 := bext (bset2 B7 (by omega) _ _) hx8 (by simp; omega); have A8 := (A7.set_ne' (by omega) _ _).ext hx8; have C8 := (C7.set_ne' (by omega) _ _).ext hx8; have F8 := (F7.set_ne' (by omega) _ _).ext hx8; have G8 := (G7.set2 _ _).ext hx8; obtain ⟨a1, a2, a3⟩ := A8.facts; obtain ⟨c1, c2, c3⟩ := C8.facts; obtain ⟨f1, f2, f3⟩ := F8.facts; obtain ⟨g1, g2, g3⟩ := G8.facts)
    | (go_at_call 60; refine (H8.out _).mono ?_; unfold RetA frv; rintro e w9 ⟨rfl, hx9⟩; have B9 := bext (bset2 B8 (by omega) _ _) hx9 (by simp; omega); have A9 := (A8.set_ne' (by omega) _ _).ext hx9; have C9 := (C8.set_ne' (by omega) _ _).ext hx9; have F9 := (F8.set2 _ _).ext hx9; have G9 := (G8.set_ne' (by omega) _ _).ext hx9; obtain ⟨a1, a2, a3⟩ := A9.facts; obtain ⟨c1, c2, c3⟩ := C9.facts; obtain ⟨f1, f2, f3⟩ := F9.facts; obtain ⟨g1, g2, g3⟩ := G9.facts)
    | (go_at_call 47; refine (H9.out _).mono ?_; unfold RetA frv; rintro e w10 ⟨rfl, hx10⟩; have B10 := bext (bset2 B9 (by omega) _ _) hx10 (by simp; omega); have A10 := (A9.set_ne' (by omega) _ _).ext hx10; have C10 := (C9.set_ne' (by omega) _ _).ext hx10; have F10 := (F9.set_ne' (by omega) _ _).ext hx10; have G10 := (G9.set2 _ _).ext hx10; obtain ⟨a1, a2, a3⟩ := A10.facts; obtain ⟨c1, c2, c3⟩ := C10.facts; obtain ⟨f1, f2, f3⟩ := F10.facts; obtain ⟨g1, g2, g3⟩ := G10.facts)
    | (go_at_call 61; refine (H10.out _).mono ?_; unfold RetA frv; rintro e w11 ⟨rfl, hx11⟩; have B11 := bext (bset2 B10 (by omega) _ _) hx11 (by simp; omega); have A11 := (A10.set_ne' (by omega) _ _).ext hx11; have C11 := (C10.set_ne' (by omega) _ _).ext hx11; have F11 := (F10.set2 _ _).ext hx11; have G11 := (G10.set_ne' (by omega) _ _).ext hx11; obtain ⟨a1, a2, a3⟩ := A11.facts; obtain ⟨c1, c2, c3⟩ := C11.facts; obtain ⟨f1, f2, f3⟩ := F11.facts; obtain ⟨g1, g2, g3⟩ := G11.facts)
    | (go_at_call 49; refine (H11.out _).mono ?_; unfold RetA frv; rintro e w12 ⟨rfl, hx12⟩; have B12 := bext (bset2 B11 (by omega) _ _) hx12 (by simp; omega); have A12 := (A11.set_ne' (by omega) _ _).ext hx12; have C12 := (C11.set_ne' (by omega) _ _).ext hx12; have F12 := (F11.set_ne' (by omega) _ _).ext hx12; have G12 := (G11.set2 _ _).ext hx12; obtain ⟨a1, a2, a3⟩ := A12.facts; obtain ⟨c1, c2, c3⟩ := C12.facts; obtain ⟨f1, f2, f3⟩ := F12.facts; obtain ⟨g1, g2, g3⟩ := G12.facts)
    | (go_at_call 62; refine (H12.out _).mono ?_; unfold RetA frv; rintro e w13 ⟨rfl, hx13⟩; have B13 := bext (bset2 B12 (by omega) _ _) hx13 (by simp; omega); have A13 := (A12.set_ne' (by omega) _ _).ext hx13; have C13 := (C12.set_ne' (by omega) _ _).ext hx13; have F13 := (F12.set2 _ _).ext hx13; have G13 := (G12.set_ne' (by omega) _ _).ext hx13; obtain ⟨a1, a2, a3⟩ := A13.facts; obtain ⟨c1, c2, c3⟩ := C13.facts; obtain ⟨f1, f2, f3⟩ := F13.facts; obtain ⟨g1, g2, g3⟩ := G13.facts)
    | (go_at_call 63; refine (H13.out _).mono ?_; unfold RetA frv; rintro e w14 ⟨rfl, hx14⟩; have B14 := bext (bset2 B13 (by omega) _ _) hx14 (by simp; omega); have A14 := (A13.set_ne' (by omega) _ _).ext hx14; have C14 := (C13.set_ne' (by omega) _ _).ext hx14; have F14 := (F13.set_ne' (by omega) _ _).ext hx14; have G14 := (G13.set2 _ _).ext hx14; obtain ⟨a1, a2, a3⟩ := A14.facts; obtain ⟨c1, c2, c3⟩ := C14.facts; obtain ⟨f1, f2, f3⟩ := F14.facts; obtain ⟨g1, g2, g3⟩ := G14.facts)
    | (go_at_call 64; refine (H14.out _).mono ?_; unfold RetA frv; rintro e w15 ⟨rfl, hx15⟩; have B15 := bext (bset2 B14 (by omega) _ _) hx15 (by simp; omega); have A15 := (A14.set_ne' (by omega) _ _).ext hx15; have C15 := (C14.set_ne' (by omega) _ _).ext hx15; have F15 := (F14.set2 _ _).ext hx15; have G15 := (G14.set_ne' (by omega) _ _).ext hx15; obtain ⟨a1, a2, a3⟩ := A15.facts; obtain ⟨c1, c2, c3⟩ := C15.facts; obtain ⟨f1, f2, f3⟩ := F15.facts; obtain ⟨g1, g2, g3⟩ := G15.facts))
  go_ret
  exact ⟨rfl, bset2 B15 (by omega) _ _⟩
end Go.Proofs.Ythkoblnfeebafaa
