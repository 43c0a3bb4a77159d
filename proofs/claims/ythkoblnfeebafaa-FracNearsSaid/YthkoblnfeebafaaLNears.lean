/- FracNears walked. No conditions but that the parts are within int. -/
import Derived.Test.YthkoblnfeebafaaIe
namespace Go.Proofs.Ythkoblnfeebafaa
open Go.RowKit

theorem ar_lo {n D d a b c e er : Int} {x : Int × Int × Int} (h : ArOk n D d a b c e er) (hx : LoA n D d x) : x = (a, b, er) := by
  rcases h with ⟨h0, rfl, rfl, rfl, rfl, rfl⟩ | ⟨h0, har, rfl⟩ <;> rcases hx with ⟨h1, rfl⟩ | ⟨h1, a', b', c', e', har', rfl⟩
  · rfl
  · exact absurd h1 h0
  · exact absurd h0 h1
  · obtain ⟨rfl, rfl, rfl, rfl⟩ := around_same har har'
    rfl
theorem ar_hi {n D d a b c e er : Int} {x : Int × Int × Int} (h : ArOk n D d a b c e er) (hx : HiA n D d x) : x = (c, e, er) := by
  rcases h with ⟨h0, rfl, rfl, rfl, rfl, rfl⟩ | ⟨h0, har, rfl⟩ <;> rcases hx with ⟨h1, rfl⟩ | ⟨h1, a', b', c', e', har', rfl⟩
  · rfl
  · exact absurd h1 h0
  · exact absurd h0 h1
  · obtain ⟨rfl, rfl, rfl, rfl⟩ := around_same har har'
    rfl
theorem nr_same {n D d : Int} {x y : Int × Int × Int} (hx : NrA n D d x) (hy : NrA n D d y) : x = y := by
  rcases hx with ⟨h0, rfl⟩ | ⟨h0, a, b, c, e, har, rfl⟩ <;> rcases hy with ⟨h1, rfl⟩ | ⟨h1, a', b', c', e', har', rfl⟩
  · rfl
  · exact absurd h1 h0
  · exact absurd h0 h1
  · obtain ⟨rfl, rfl, rfl, rfl⟩ := around_same har har'
    rfl

set_option maxRecDepth 100000 in
set_option maxHeartbeats 4000000 in
theorem law_nears (n D d : Int) (w : World) (hn : IsI n) (hD : IsI D) (hd : IsI d) :
    Calls Try.prog 17 #[frv n D, .int .i64 d] w fun e w' => e = .returned (.bool true) ∧ Below w.heap.size w w' := by
  have h1 := fun W => below_any n D d W hn hD hd
  have h2 := fun W => above_any n D d W hn hD hd
  have h3 := fun W => near_any n D d W hn hD hd
  have h4 := fun W => around_any n D d W hn hD hd
  have h5 := fun W => rnear_any n D d W hn hD hd
  unfold RetA RetAr frv at *
  have H1 := Lib.hid h1
  have H2 := Lib.hid h2
  have H3 := Lib.hid h3
  have H4 := Lib.hid h4
  have H5 := Lib.hid h5
  have hx0 : ∀ x, Below w.heap.size w (w.alloc x) := fun x => (Below.refl _ _).alloc (Nat.le_refl _) _
  have HX0 := Lib.hid hx0
  have sz0 : ∀ x : Obj, (w.alloc x).heap.size = w.heap.size + 1 := by intro x; simp
  have SZ0 := Lib.hid sz0
  clear hx0 h1 h2 h3 h4 h5 hn hD hd sz0
  go_enter Try.func17, Try.ntmps17
  go_wp2_with (first
    | (go_at_call 41; refine (H1.out _).mono ?_; rintro r w1 ⟨⟨x1, x2, x3⟩, hlo, rfl, hx1⟩; have HLO := Lib.hid hlo; clear hlo; have B1 := bext (HX0.out _) hx1 (by rw [SZ0.out]; omega); have F1 := (Ce.new w _ _).ext hx1; obtain ⟨f1, f2, f3⟩ := F1.facts)
    | (go_at_call 42; refine (H2.out _).mono ?_; rintro r w2 ⟨⟨y1, y2, y3⟩, hhi, rfl, hx2⟩; have HHI := Lib.hid hhi; clear hhi; have B2 := bext (B1.alloc (by omega) _) hx2 (by simp; omega); have F2 := (F1.alloc _).ext hx2; have L2 := (Ce.new w1 _ _).ext hx2; obtain ⟨f1, f2, f3⟩ := F2.facts)
    | (go_at_call 68; refine (H3.out _).mono ?_; rintro r w3 ⟨⟨z1, z2, z3⟩, hnr, rfl, hx3⟩; have HNR := Lib.hid hnr; clear hnr; have B3 := bext (B2.alloc (by omega) _) hx3 (by simp; omega); have F3 := (F2.alloc _).ext hx3; have L3 := (L2.alloc _).ext hx3; have U3 := (Ce.new w2 _ _).ext hx3; obtain ⟨f1, f2, f3⟩ := F3.facts)
    | (go_at_call 69; refine (H4.out _).mono ?_; rintro r w4 ⟨a, b, c, e, er, rfl, har, hx4⟩; have hl := ar_lo har HLO.out; have hh := ar_hi har HHI.out; injection hl with hl1 hl2; injection hl2 with hl2 hl3; injection hh with hh1 hh2; injection hh2 with hh2 hh3; subst hl1 hl2 hl3 hh1 hh2 hh3; clear har; have B4 := bext (B3.alloc (by omega) _) hx4 (by simp; omega); have F4 := (F3.alloc _).ext hx4; have L4 := (L3.alloc _).ext hx4; have U4 := (U3.alloc _).ext hx4; have G4 := (Ce.new w3 _ _).ext hx4; obtain ⟨f1, f2, f3⟩ := F4.facts)
    | (go_at_call 70; refine (H5.out _).mono ?_; rintro r w5 ⟨⟨v1, v2, v3⟩, hnr, rfl, hx5⟩; have hs := nr_same HNR.out hnr; injection hs with hs1 hs2; injection hs2 with hs2 hs3; subst hs1 hs2 hs3; clear hnr; have B5 := bext ((B4.alloc (by omega) _).alloc (by simp; omega) _) hx5 (by simp; omega); have L5 := ((L4.alloc _).alloc _).ext hx5; have U5 := ((U4.alloc _).alloc _).ext hx5; have G5 := ((G4.alloc _).alloc _).ext hx5; have X5 := ((Ce.new w4 _ _).alloc _).ext hx5; have Y5 := (Ce.new (w4.alloc _) _ _).ext hx5; simp only [World.size_alloc] at Y5; obtain ⟨l1, l2, l3⟩ := L5.facts; obtain ⟨u1, u2, u3⟩ := U5.facts; obtain ⟨g1, g2, g3⟩ := G5.facts; obtain ⟨p1, p2, p3⟩ := X5.facts; obtain ⟨q1, q2, q3⟩ := Y5.facts)
    | (go_at_call 22; refine (awake_any _).mono ?_; rintro r w6 ⟨rfl, hx6⟩; have B6 := bext (B5.alloc (by omega) _) hx6 (by simp; omega)))
  go_ret
  exact ⟨rfl, B6⟩
end Go.Proofs.Ythkoblnfeebafaa
