/- The journal opened and added to, walked. Conditions: an empty disk with power; a journal without records. -/
import Derived.Test.YtjadbipbidghdaaGreatDoorHc
namespace Go.Proofs.YtjadbipbidghdaaGreatDoor
open Go.RowKit

set_option maxRecDepth 100000 in
set_option maxHeartbeats 8000000 in
theorem sopennil_any (w : World) : Calls Tryz.prog 29 #[.pointer none] w fun e w' => e = .returned (.tuple #[.pointer none, .int .i64 1]) ∧ w' = w := by
  go_enter Tryz.func29, Tryz.ntmps29
  go_wp2
  refine bodyPost_ret (v := .tuple #[.pointer none, .int .i64 1]) (by simp [results, Tryz.results29, go_sem]) rfl ?_
  exact ⟨rfl, rfl⟩
set_option maxRecDepth 100000 in
set_option maxHeartbeats 8000000 in
theorem sopen_any (D : Nat) (w : World) (h : Dk w D (.slice none 0 0) 0) :
    Calls Tryz.prog 29 #[.pointer (some ⟨D, 0, none⟩)] w fun e w' => ∃ L, e = .returned (.tuple #[.pointer (some ⟨L, 0, none⟩), .int .i64 0]) ∧ w.heap.size ≤ L ∧ Lg w' L (.slice none 0 0) D ∧ ∃ v, ∃ n : Nat, Dk w' D v (n : Int) ∧ By w.heap.size w' v n ∧ n ≤ 100 ∧ Chg (· = D) w w' := by
  have HX := Lib.hid (ext_alloc w (.cells #[.int .i64 0, .slice none 0 0, .slice none 0 0, .pointer (some ⟨D, 0, none⟩), .int .i64 (-1), .bool false] 134))
  have HB := Lib.hid (Bk.new 134 w #[.int .i64 0, .slice none 0 0, .slice none 0 0, .pointer (some ⟨D, 0, none⟩), .int .i64 (-1), .bool false])
  have HD := Lib.hid h
  have hDw : D < w.heap.size := h.lt
  unfold Dk dkC at h
  obtain ⟨f1, f2, f3⟩ := h.facts
  clear h
  go_enter Tryz.func29, Tryz.ntmps29
  go_upto_region 4 with (fail)
  obtain ⟨X, hX⟩ : ∃ X, X = w.alloc (.cells #[.int .i64 0, .slice none 0 0, .slice none 0 0, .pointer (some ⟨D, 0, none⟩), .int .i64 (-1), .bool false] 134) := ⟨_, rfl⟩
  obtain ⟨L, hL⟩ : ∃ L, L = w.heap.size := ⟨_, rfl⟩
  rw [← hX] at HX HB ⊢
  rw [← hL] at HB ⊢
  have hwL : w.heap.size ≤ L := by omega
  have hDL : D ≠ L := by omega
  clear hX hL f1 f2 f3
  go_wp2_with (fail)
  go_loopg [25, 5] 2 (fun gg z v wr => ∃ i : Nat, z = .int .i64 i ∧ i ≤ 2 ∧ gg = 2 - i ∧ v = .bool false ∧ Below w.heap.size w wr ∧ Bk 134 wr L #[.int .i64 0, .slice none 0 0, .slice none 0 0, .pointer (some ⟨D, 0, none⟩), .int .i64 (-1), .bool false])
  case atStart => exact ⟨0, rfl, by omega, by omega, rfl, HX.out, HB.out⟩
  case round =>
    obtain ⟨i, rfl, hi, hgg, rfl, hx, hb⟩ := hrel
    have HG := Lib.hid hgg
    have HX2 := Lib.hid hx
    have HB2 := Lib.hid hb
    have HD2 := Lib.hid (show Dk wr D (.slice none 0 0) 0 from Bk.ext HD.out hx)
    clear hgg hx hb HX HB
    rcases (by omega : i = 0 ∨ i = 1 ∨ i = 2) with rfl | rfl | rfl
    · have HRD := Lib.hid (read0_any D 0 wr HD2.out)
      have HPA := Lib.hid (sparse0_any wr)
      go_upto_region 12 with (first
        | (go_at_call 65; refine (HRD.out).mono ?_; rintro e w1 ⟨rfl, rfl⟩)
        | (go_at_call 66; refine (HPA.out).mono ?_; rintro e w2 ⟨rfl, hx2⟩; have HX3 := Lib.hid hx2; clear hx2))
      have HXC := Lib.hid (ext_trans HX3.out (ext_alloc w2 (.cells #[.int .i64 0, .slice none 0 0, .slice none 0 0] 132)))
      have HCB := Lib.hid (Bk.new 132 w2 #[.int .i64 0, .slice none 0 0, .slice none 0 0])
      obtain ⟨Y, hY⟩ : ∃ Y, Y = w2.alloc (.cells #[.int .i64 0, .slice none 0 0, .slice none 0 0] 132) := ⟨_, rfl⟩
      obtain ⟨p, hp⟩ : ∃ p, p = w2.heap.size := ⟨_, rfl⟩
      rw [← hY] at HXC HCB ⊢
      rw [← hp] at HCB ⊢
      have HBY := Lib.hid (HB2.out.ext HXC.out)
      have HXY := Lib.hid (ext_trans HX2.out HXC.out)
      clear hY hp HX3 HXC
      obtain ⟨f1, f2, f3⟩ := HBY.out.facts
      obtain ⟨g1, g2, g3⟩ := HCB.out.facts
      go_quiet (fail)
      go_wp2
      go_roundg (2 - (0 + 1))
      case measure => have := HG.out; omega
      case rel => exact ⟨0 + 1, by go_num, by omega, rfl, rfl, ext_trans HXY.out (ext_drewN _ _), HBY.out.ext (ext_drewN _ _)⟩
    · have HRD := Lib.hid (read1_any D 0 wr HD2.out)
      have HPA := Lib.hid (sparse0_any wr)
      go_upto_region 12 with (first
        | (go_at_call 65; refine (HRD.out).mono ?_; rintro e w1 ⟨rfl, rfl⟩)
        | (go_at_call 66; refine (HPA.out).mono ?_; rintro e w2 ⟨rfl, hx2⟩; have HX3 := Lib.hid hx2; clear hx2))
      have HXC := Lib.hid (ext_trans HX3.out (ext_alloc w2 (.cells #[.int .i64 0, .slice none 0 0, .slice none 0 0] 132)))
      have HCB := Lib.hid (Bk.new 132 w2 #[.int .i64 0, .slice none 0 0, .slice none 0 0])
      obtain ⟨Y, hY⟩ : ∃ Y, Y = w2.alloc (.cells #[.int .i64 0, .slice none 0 0, .slice none 0 0] 132) := ⟨_, rfl⟩
      obtain ⟨p, hp⟩ : ∃ p, p = w2.heap.size := ⟨_, rfl⟩
      rw [← hY] at HXC HCB ⊢
      rw [← hp] at HCB ⊢
      have HBY := Lib.hid (HB2.out.ext HXC.out)
      have HXY := Lib.hid (ext_trans HX2.out HXC.out)
      clear hY hp HX3 HXC
      obtain ⟨f1, f2, f3⟩ := HBY.out.facts
      obtain ⟨g1, g2, g3⟩ := HCB.out.facts
      go_quiet (fail)
      go_wp2
      go_roundg (2 - (1 + 1))
      case measure => have := HG.out; omega
      case rel => exact ⟨1 + 1, by go_num, by omega, rfl, rfl, ext_trans HXY.out (ext_drewN _ _), HBY.out.ext (ext_drewN _ _)⟩
    · have h2 : ¬ ((2 : Nat) : Int) < 2 := by omega
      obtain ⟨f1, f2, f3⟩ := HB2.out.facts
      go_upto_region 22 with (fail)
      have HC := Lib.hid ((((Chg.of (S := fun k => k = D ∨ k = L) (Below.refl _ wr)).trans (Chg.set (fun k => k = D ∨ k = L) wr (.inr rfl) (j := 0) (.int .i64 1)) fun _ _ e => e).trans (Chg.set (fun k => k = D ∨ k = L) _ (.inr rfl) (j := 1) (.slice none 0 0)) fun _ _ e => e).trans (Chg.set (fun k => k = D ∨ k = L) _ (.inr rfl) (j := 2) (.slice none 0 0)) fun _ _ e => e)
      have HC := Lib.hid (HC.out.trans (Chg.set (fun k => k = D ∨ k = L) _ (.inr rfl) (j := 4) (.int .i64 0)) fun _ _ e => e)
      have HL := Lib.hid (show Lg _ L (.slice none 0 0) D from ((((HB2.out.set 0 (.int .i64 1)).set 1 (.slice none 0 0)).set 2 (.slice none 0 0)).set 4 (.int .i64 0)))
      have HDV := Lib.hid (show Dk _ D (.slice none 0 0) 0 from ((((Bk.set_ne HD2.out (k := L) (j := 0) hDL (.int .i64 1)).set_ne (k := L) (j := 1) hDL (.slice none 0 0)).set_ne (k := L) (j := 2) hDL (.slice none 0 0)).set_ne (k := L) (j := 4) hDL (.int .i64 0)))
      obtain ⟨V, hV⟩ : ∃ V, V = (((wr.setCell ⟨L, 0, none⟩ (.int .i64 1)).setCell ⟨L, 1, none⟩ (.slice none 0 0)).setCell ⟨L, 2, none⟩ (.slice none 0 0)).setCell ⟨L, 4, none⟩ (.int .i64 0) := ⟨_, rfl⟩
      rw [← hV] at HC HL HDV ⊢
      have hwV : w.heap.size ≤ V.heap.size := Nat.le_trans HX2.out.size HC.out.size
      clear hV f1 f2 f3
      have HF := Lib.hid (show ∀ W, Chg (fun k => k = D) V W → W.cell? ⟨L, 0, none⟩ = some (.int .i64 1) ∧ W.cell? ⟨L, 1, none⟩ = some (.slice none 0 0) ∧ W.cell? ⟨L, 2, none⟩ = some (.slice none 0 0) ∧ W.cell? ⟨L, 3, none⟩ = some (.pointer (some ⟨D, 0, none⟩)) ∧ W.cell? ⟨L, 4, none⟩ = some (.int .i64 0) ∧ W.cell? ⟨L, 5, none⟩ = some (.bool false) ∧ L < W.heap.size from fun W hW => by
        have hk := hW.bk HL.out (fun e => hDL e.symm)
        exact ⟨hk.cell 0, hk.cell 1, hk.cell 2, hk.cell 3, hk.cell 4, hk.cell 5, hk.lt⟩)
      have HWR := Lib.hid (fun W (hW : Below V.heap.size V W) => write_any D 0 W (Bk.ext HDV.out hW))
      refine wp_region_T (S := (fun W => Chg (fun k => k = D) V W)) 10 (by kernel_rfl) (Chg.of (ext_drew _)) (fun hHeld => ?_)
      refine wpAnyT_take (i := 0) (v := ?v1) [] rfl (by kernel_rfl) (fun _ _ _ h => h) (Or.inl ⟨by rfl, ?hy1⟩) hHeld ?rst1
      case hy1 => (intro wx hSw; obtain ⟨q0, q1, q2, q3, q4, q5, q6⟩ := HF.out wx hSw; go_simp; try (with_reducible rfl))
      try simp only [List.getElem_toArray, List.getElem_cons_zero, Act.put, List.setIfInBounds_toArray, List.set_cons_zero, List.set_cons_succ]
      refine wpAnyT_take (i := 1) (v := ?v2) [] rfl (by kernel_rfl) (fun _ _ _ h => h) (Or.inl ⟨by rfl, ?hy2⟩) hHeld ?rst2
      case hy2 => (intro wx hSw; obtain ⟨q0, q1, q2, q3, q4, q5, q6⟩ := HF.out wx hSw; go_simp; try (with_reducible rfl))
      try simp only [List.getElem_toArray, List.getElem_cons_zero, List.getElem_cons_succ, Act.put, List.setIfInBounds_toArray, List.set_cons_zero, List.set_cons_succ]
      refine wpAnyT_take (i := 2) (v := ?v3) [] rfl (by kernel_rfl) (fun _ _ _ h => h) (Or.inl ⟨by rfl, ?hy3⟩) hHeld ?rst3
      case hy3 => (intro wx hSw; obtain ⟨q0, q1, q2, q3, q4, q5, q6⟩ := HF.out wx hSw; go_simp; try (with_reducible rfl))
      try simp only [List.getElem_toArray, List.getElem_cons_zero, List.getElem_cons_succ, Act.put, List.setIfInBounds_toArray, List.set_cons_zero, List.set_cons_succ]
      refine wpAnyT_take (i := 3) (v := ?v4) [] rfl (by kernel_rfl) (fun _ _ _ h => h) (Or.inl ⟨by rfl, ?hy4⟩) hHeld ?rst4
      case hy4 => (intro wx hSw; obtain ⟨q0, q1, q2, q3, q4, q5, q6⟩ := HF.out wx hSw; go_simp; try (with_reducible rfl))
      try simp only [List.getElem_toArray, List.getElem_cons_zero, List.getElem_cons_succ, Act.put, List.setIfInBounds_toArray, List.set_cons_zero, List.set_cons_succ]
      refine wpAnyT_take (i := 4) (v := ?v5) [] rfl (by kernel_rfl) (fun _ _ _ h => h) (Or.inl ⟨by rfl, ?hy5⟩) hHeld ?rst5
      case hy5 => (intro wx hSw; obtain ⟨q0, q1, q2, q3, q4, q5, q6⟩ := HF.out wx hSw; go_simp; try (with_reducible rfl))
      try simp only [List.getElem_toArray, List.getElem_cons_zero, List.getElem_cons_succ, Act.put, List.setIfInBounds_toArray, List.set_cons_zero, List.set_cons_succ]
      refine wpAnyT_take (i := 5) (v := ?v6) [] rfl (by kernel_rfl) (fun _ _ _ h => h) (Or.inl ⟨by rfl, ?hy6⟩) hHeld ?rst6
      case hy6 => (intro wx hSw; obtain ⟨q0, q1, q2, q3, q4, q5, q6⟩ := HF.out wx hSw; go_simp; try (with_reducible rfl))
      try simp only [List.getElem_toArray, List.getElem_cons_zero, List.getElem_cons_succ, Act.put, List.setIfInBounds_toArray, List.set_cons_zero, List.set_cons_succ]
      refine wpAnyT_take (i := 6) (v := ?v7) [] rfl (by kernel_rfl) (fun _ _ _ h => h) (Or.inl ⟨by rfl, ?hy7⟩) hHeld ?rst7
      case hy7 => (intro wx hSw; obtain ⟨q0, q1, q2, q3, q4, q5, q6⟩ := HF.out wx hSw; go_simp; try (with_reducible rfl))
      try simp only [List.getElem_toArray, List.getElem_cons_zero, List.getElem_cons_succ, Act.put, List.setIfInBounds_toArray, List.set_cons_zero, List.set_cons_succ]
      refine wpAnyT_take (i := 7) (v := ?v8) [] rfl (by kernel_rfl) (fun _ _ _ h => h) (Or.inl ⟨by rfl, ?hy8⟩) hHeld ?rst8
      case hy8 => (intro wx hSw; obtain ⟨q0, q1, q2, q3, q4, q5, q6⟩ := HF.out wx hSw; go_simp; try (with_reducible rfl))
      try simp only [List.getElem_toArray, List.getElem_cons_zero, List.getElem_cons_succ, Act.put, List.setIfInBounds_toArray, List.set_cons_zero, List.set_cons_succ]
      refine wpAnyT_take (i := 8) (v := ?v9) [] rfl (by kernel_rfl) (fun _ _ _ h => h) (Or.inl ⟨by rfl, ?hy9⟩) hHeld ?rst9
      case hy9 => (intro wx hSw; obtain ⟨q0, q1, q2, q3, q4, q5, q6⟩ := HF.out wx hSw; go_simp; try (with_reducible rfl))
      try simp only [List.getElem_toArray, List.getElem_cons_zero, List.getElem_cons_succ, Act.put, List.setIfInBounds_toArray, List.set_cons_zero, List.set_cons_succ]
      refine wpAnyT_one (i := 9) (by kernel_rfl) rfl (fun K hK => ?_)
      go_simp
      go_at_call 63
      refine (HWR.out _ (by first | exact hHeld | exact ext_drew _ | exact Below.refl _ _)).mono ?_
      rintro e8 w8 ⟨rfl, v8, n8, hd8, hv8, hn8, hc8⟩
      have B8 := Chg.trans (S := fun k => k = D) hHeld hc8 fun k _ e => e
      have HD8 := Lib.hid hd8
      have HV8 := Lib.hid hv8
      clear hc8 hd8 hv8
      refine hK.out _ _ (B8) (fun hHeld => ?_)
      clear hK K
      try simp only [List.getElem_toArray, List.getElem_cons_zero, List.getElem_cons_succ, Act.put, List.setIfInBounds_toArray, List.set_cons_zero, List.set_cons_succ]
      refine wpAnyT_last (by kernel_rfl) (by kernel_rfl) rfl (fun K hK => ?_)
      go_simp
      refine hK.out _ _ ?_
      clear hK K
      have HLZ := Lib.hid (hHeld.bk HL.out (fun e => hDL e.symm))
      have HCZ := Lib.hid hHeld
      go_wp2
      refine bodyPost_ret (v := .tuple #[.pointer (some ⟨L, 0, none⟩), .int .i64 0]) (by simp [results, Tryz.results29, go_sem]) rfl ?_
      have h1 := Chg.trans (S := fun k => k = D) (Chg.of HX2.out) (HC.out.mono (S' := fun k => k = D ∨ w.heap.size ≤ k) fun k e => e.elim .inl fun e => .inr (by omega)) fun k hk e => e.elim id fun e => by omega
      exact ⟨L, rfl, hwL, HLZ.out, v8, n8, HD8.out, HV8.out.base hwV, hn8, h1.trans HCZ.out fun k _ e => e⟩
theorem ready_any (L : Nat) (rec : Value) (D : Nat) (A : Option Addr) (m c : Nat) (w : World) (h : Lg w L rec D) (hm : m ≤ 5000) : Calls Tryz.prog 52 #[.pointer (some ⟨L, 0, none⟩), .slice A m c] w fun e w' => e = .returned (.int .i64 0) ∧ w' = w := by
  have HN := Lib.hid (lognone_any L _ D w h)
  unfold Lg at h
  obtain ⟨f1, f2, f3⟩ := h.facts
  have h6 : ¬ (65536 : Int) < (m : Int) := by omega
  clear h
  go_enter Tryz.func52, Tryz.ntmps52
  go_wp2_with (go_at_call 68; refine (HN.out).mono ?_; rintro e w1 ⟨rfl, rfl⟩)
  go_ret
  exact ⟨rfl, rfl⟩
end Go.Proofs.YtjadbipbidghdaaGreatDoor
