/- A house's state: the first one, a copy. Conditions: a state without kinds, hides, hands, couples. -/
import Derived.Test.YtjadbipbidghdaaGreatDoorHc
import Derived.Deep.WholeRow
import Derived.Test.YtjadbipbidghdaaGreatDoorRgT
namespace Go.Proofs.YtjadbipbidghdaaGreatDoor
open Go.RowKit

/-- the state of a house without lines, its kinds at hand -/
def stC (ks : Value) (b : Nat) : Array Value := #[.int .i64 0, ks, .pointer none, .int .i64 1, .int .i64 1, .int .i64 1, .int .i64 1, .int .i64 1000, .int .i64 1000, .int .i64 1000, .int .i64 1000, .int .i64 1, .slice none 0 0, .int .i64 0, .int .i64 0, .int .i64 0, .int .i64 0, .int .i64 0, .int .i64 0, .int .i64 0, .int .i64 0, .slice none 0 0, .slice none 0 0, .slice none 0 0, .pointer (some ⟨b, 0, none⟩)]
def stZ : Array Value := #[.int .i64 0, .slice none 0 0, .pointer none, .int .i64 0, .int .i64 0, .int .i64 0, .int .i64 0, .int .i64 0, .int .i64 0, .int .i64 0, .int .i64 0, .int .i64 0, .slice none 0 0, .int .i64 0, .int .i64 0, .int .i64 0, .int .i64 0, .int .i64 0, .int .i64 0, .int .i64 0, .int .i64 0, .slice none 0 0, .slice none 0 0, .slice none 0 0, .pointer none]
theorem stC_one (b : Nat) : (stC (.slice none 0 0) b).all (·.oneCell') = true := by simp [stC, Value.oneCell']
def St (w : World) (s : Nat) (ks : Value) (b : Nat) : Prop := Bk 72 w s (stC ks b)
section
variable {w w' : World} {s b : Nat} {ks : Value}
theorem St.lt (h : St w s ks b) : s < w.heap.size := lt_of_block h
theorem St.ext (h : St w s ks b) (hb : Below w.heap.size w w') : St w' s ks b := Bk.ext h hb
theorem St.at1 (h : St w s (.slice none 0 0) b) : w.cell? ⟨s, 1, none⟩ = some (.slice none 0 0) ∧ w.frozen? ⟨s, 1, none⟩ = false ∧ s < w.heap.size := ⟨Bk.cell h 1, Bk.frozen h 1, lt_of_block h⟩
theorem St.set1 (h : St w s (.slice none 0 0) b) : St (w.setCell ⟨s, 1, none⟩ (.slice none 0 0)) s (.slice none 0 0) b := Bk.set h 1 _
theorem St.at12 (h : St w s (.slice none 0 0) b) : w.cell? ⟨s, 12, none⟩ = some (.slice none 0 0) ∧ w.frozen? ⟨s, 12, none⟩ = false ∧ s < w.heap.size := ⟨Bk.cell h 12, Bk.frozen h 12, lt_of_block h⟩
theorem St.set12 (h : St w s (.slice none 0 0) b) : St (w.setCell ⟨s, 12, none⟩ (.slice none 0 0)) s (.slice none 0 0) b := Bk.set h 12 _
theorem St.at21 (h : St w s (.slice none 0 0) b) : w.cell? ⟨s, 21, none⟩ = some (.slice none 0 0) ∧ w.frozen? ⟨s, 21, none⟩ = false ∧ s < w.heap.size := ⟨Bk.cell h 21, Bk.frozen h 21, lt_of_block h⟩
theorem St.set21 (h : St w s (.slice none 0 0) b) : St (w.setCell ⟨s, 21, none⟩ (.slice none 0 0)) s (.slice none 0 0) b := Bk.set h 21 _
theorem St.at22 (h : St w s (.slice none 0 0) b) : w.cell? ⟨s, 22, none⟩ = some (.slice none 0 0) ∧ w.frozen? ⟨s, 22, none⟩ = false ∧ s < w.heap.size := ⟨Bk.cell h 22, Bk.frozen h 22, lt_of_block h⟩
theorem St.set22 (h : St w s (.slice none 0 0) b) : St (w.setCell ⟨s, 22, none⟩ (.slice none 0 0)) s (.slice none 0 0) b := Bk.set h 22 _
theorem St.at23 (h : St w s (.slice none 0 0) b) : w.cell? ⟨s, 23, none⟩ = some (.slice none 0 0) ∧ w.frozen? ⟨s, 23, none⟩ = false ∧ s < w.heap.size := ⟨Bk.cell h 23, Bk.frozen h 23, lt_of_block h⟩
theorem St.set23 (h : St w s (.slice none 0 0) b) : St (w.setCell ⟨s, 23, none⟩ (.slice none 0 0)) s (.slice none 0 0) b := Bk.set h 23 _
theorem St.at24 (h : St w s ks b) : w.cell? ⟨s, 24, none⟩ = some (.pointer (some ⟨b, 0, none⟩)) ∧ w.frozen? ⟨s, 24, none⟩ = false ∧ s < w.heap.size := ⟨Bk.cell h 24, Bk.frozen h 24, lt_of_block h⟩
theorem St.set24 (h : St w s ks b) (b' : Nat) : St (w.setCell ⟨s, 24, none⟩ (.pointer (some ⟨b', 0, none⟩))) s ks b' := Bk.set h 24 _
end
set_option maxRecDepth 100000 in
set_option maxHeartbeats 8000000 in
theorem first_any (w : World) : Calls Tryz.prog 30 #[] w fun e w' => ∃ b, e = .returned (.agg (stC (.slice none 0 0) b)) ∧ Bo w' b ∧ Below w.heap.size w w' := by
  go_enter Tryz.func30, Tryz.ntmps30
  have HN := Lib.hid (newbook_any (w.alloc (.cells (stZ) 72)))
  have HX := Lib.hid (ext_alloc w (.cells (stZ) 72))
  have HBZ := Lib.hid (Bk.new 72 w (stZ))
  unfold stZ at HN HX HBZ
  go_upto_region 1 with (fail)
  obtain ⟨X, hX⟩ : ∃ X, X = w.alloc (.cells #[.int .i64 0, .slice none 0 0, .pointer none, .int .i64 0, .int .i64 0, .int .i64 0, .int .i64 0, .int .i64 0, .int .i64 0, .int .i64 0, .int .i64 0, .int .i64 0, .slice none 0 0, .int .i64 0, .int .i64 0, .int .i64 0, .int .i64 0, .int .i64 0, .int .i64 0, .int .i64 0, .int .i64 0, .slice none 0 0, .slice none 0 0, .slice none 0 0, .pointer none] 72) := ⟨_, rfl⟩
  obtain ⟨c, hc⟩ : ∃ c, c = w.heap.size := ⟨_, rfl⟩
  rw [← hX] at HN HX HBZ ⊢
  rw [← hc] at HBZ ⊢
  have hwc : w.heap.size ≤ c := by omega
  clear hX hc
  go_wp2_with (first
    | (go_at_call 67; refine (HN.out).mono ?_; rintro e w1 ⟨rfl, hb1, hx1⟩; have HB1 := Lib.hid hb1; have HX1 := Lib.hid hx1; have HBC := Lib.hid (show w1.heap[c]? = some (.cells #[.int .i64 0, .slice none 0 0, .pointer none, .int .i64 0, .int .i64 0, .int .i64 0, .int .i64 0, .int .i64 0, .int .i64 0, .int .i64 0, .int .i64 0, .int .i64 0, .slice none 0 0, .int .i64 0, .int .i64 0, .int .i64 0, .int .i64 0, .int .i64 0, .int .i64 0, .int .i64 0, .int .i64 0, .slice none 0 0, .slice none 0 0, .slice none 0 0, .pointer none] 72 (0, 0)) from Bk.ext HBZ.out hx1); clear hb1 hx1)
    | (refine wpList_store_row rfl 72 _ _ rfl c (stC (.slice none 0 0) X.heap.size) (by rfl) (by rfl) 72 _ HBC.out (by kernel_rfl) (by rfl) (stC_one _) ?_))
  refine bodyPost_ret (v := .agg (stC (.slice none 0 0) X.heap.size)) (results_cell_row (p := 0) (ty := 72) rfl _ _ c 72 _ (0, 0) _ rfl (setRow_heap w1 c _ _ _ _ HBC.out) Tryz.underlying72 rfl (by kernel_rfl)) rfl ?_
  refine ⟨X.heap.size, rfl, ?_, ?_⟩
  · obtain ⟨cs, q1, q2, q3⟩ := HB1.out
    exact ⟨cs, (setRow_other w1 c _ _ (by have := lt_of_block HBZ.out; omega)).trans q1, q2, q3⟩
  · have h1 := ext_trans HX.out HX1.out
    exact ⟨h1.os, h1.tape, h1.output, by rw [setRow_size]; exact h1.size, fun k hk => (setRow_other w1 c k _ (by omega)).trans (h1.block k hk)⟩
theorem nil_nilK (W : World) : (binOp .eql 57 (.slice none 0 0) (.slice none 0 0)).run Tryz.prog W = .ok (.bool true) W := by kernel_rfl
set_option maxRecDepth 100000 in
set_option maxHeartbeats 4000000 in
theorem cloneK_any (w : World) : Calls Tryz.prog 45 #[.slice none 0 0] w fun e w' => e = .returned (.slice none 0 0) ∧ w' = w := by
  have hnn := nil_nilK
  go_enter Tryz.func45, Tryz.ntmps45
  go_wp2
  go_ret
  exact ⟨rfl, rfl⟩
theorem nil_nilS (W : World) : (binOp .eql 63 (.slice none 0 0) (.slice none 0 0)).run Tryz.prog W = .ok (.bool true) W := by kernel_rfl
set_option maxRecDepth 100000 in
set_option maxHeartbeats 4000000 in
theorem cloneS_any (w : World) : Calls Tryz.prog 46 #[.slice none 0 0] w fun e w' => e = .returned (.slice none 0 0) ∧ w' = w := by
  have hnn := nil_nilS
  go_enter Tryz.func46, Tryz.ntmps46
  go_wp2
  go_ret
  exact ⟨rfl, rfl⟩
theorem nil_nilH (W : World) : (binOp .eql 67 (.slice none 0 0) (.slice none 0 0)).run Tryz.prog W = .ok (.bool true) W := by kernel_rfl
set_option maxRecDepth 100000 in
set_option maxHeartbeats 4000000 in
theorem cloneH_any (w : World) : Calls Tryz.prog 47 #[.slice none 0 0] w fun e w' => e = .returned (.slice none 0 0) ∧ w' = w := by
  have hnn := nil_nilH
  go_enter Tryz.func47, Tryz.ntmps47
  go_wp2
  go_ret
  exact ⟨rfl, rfl⟩
theorem nil_nilA (W : World) : (binOp .eql 68 (.slice none 0 0) (.slice none 0 0)).run Tryz.prog W = .ok (.bool true) W := by kernel_rfl
set_option maxRecDepth 100000 in
set_option maxHeartbeats 4000000 in
theorem cloneA_any (w : World) : Calls Tryz.prog 48 #[.slice none 0 0] w fun e w' => e = .returned (.slice none 0 0) ∧ w' = w := by
  have hnn := nil_nilA
  go_enter Tryz.func48, Tryz.ntmps48
  go_wp2
  go_ret
  exact ⟨rfl, rfl⟩
theorem nil_nilC (W : World) : (binOp .eql 69 (.slice none 0 0) (.slice none 0 0)).run Tryz.prog W = .ok (.bool true) W := by kernel_rfl
set_option maxRecDepth 100000 in
set_option maxHeartbeats 4000000 in
theorem cloneC_any (w : World) : Calls Tryz.prog 49 #[.slice none 0 0] w fun e w' => e = .returned (.slice none 0 0) ∧ w' = w := by
  have hnn := nil_nilC
  go_enter Tryz.func49, Tryz.ntmps49
  go_wp2
  go_ret
  exact ⟨rfl, rfl⟩
set_option maxRecDepth 100000 in
set_option maxHeartbeats 16000000 in
theorem copied_any (s b0 : Nat) (w : World) (h : St w s (.slice none 0 0) b0) (hb : Bo w b0) :
    Calls Tryz.prog 14 #[.pointer (some ⟨s, 0, none⟩)] w fun e w' => ∃ s' b, e = .returned (.pointer (some ⟨s', 0, none⟩)) ∧ w.heap.size ≤ s' ∧ St w' s' (.slice none 0 0) b ∧ Bo w' b ∧ Below w.heap.size w w' := by
  have HX := Lib.hid (ext_alloc w (.cells (stC (.slice none 0 0) b0) 72))
  have HB := Lib.hid (Bk.new 72 w (stC (.slice none 0 0) b0))
  have HS := Lib.hid h
  have HBO := Lib.hid hb
  have hs0 : s < w.heap.size := h.lt
  unfold St at h
  have c1 : w.cell? ⟨s, 1, none⟩ = some (.slice none 0 0) := h.cell 1
  have c12 : w.cell? ⟨s, 12, none⟩ = some (.slice none 0 0) := h.cell 12
  have c24 : w.cell? ⟨s, 24, none⟩ = some (.pointer (some ⟨b0, 0, none⟩)) := h.cell 24
  have HSS := Lib.hid (show w.heap[s]? = some (.cells (stC (.slice none 0 0) b0) 72 (0, 0)) from h)
  have f3 : s < w.heap.size := hs0
  clear h hb
  go_enter Tryz.func14, Tryz.ntmps14
  go_upto_region 2 with (first
    | (refine wpList_load_row rfl 72 _ rfl s (by rfl) _ _ _ _ HSS.out Tryz.underlying72 rfl (by kernel_rfl) ?_)
    | (refine wpList_store_row rfl 72 _ _ rfl w.heap.size (stC (.slice none 0 0) b0) (by rfl) (by rfl) 72 _ (heap_alloc_last w _) (by kernel_rfl) (by rfl) (stC_one b0) ?_; rw [World.setRow_alloc_new]))
  have HX0 := Lib.hid HX.out
  obtain ⟨X, hX⟩ : ∃ X, X = w.alloc (.cells (stC (.slice none 0 0) b0) 72) := ⟨_, rfl⟩
  obtain ⟨c, hc⟩ : ∃ c, c = w.heap.size := ⟨_, rfl⟩
  rw [← hX] at HX HB ⊢
  rw [← hc] at HB ⊢
  have hwc : w.heap.size ≤ c := by omega
  have hsc : s ≠ c := by omega
  clear hX hc HX0
  have HCC := Lib.hid (show St X c (.slice none 0 0) b0 from HB.out)
  have HS1 := Lib.hid (show St X s (.slice none 0 0) b0 from HS.out.ext HX.out)
  clear c1 c12 c24 HB HSS
  obtain ⟨m1, m2, m3⟩ := HS1.out.at1
  obtain ⟨k1, k2, k3⟩ := HCC.out.at1
  have HK1 := Lib.hid (cloneK_any X)
  go_upto_region 3 with (go_at_call 45; refine (HK1.out).mono ?_; rintro e w1 ⟨rfl, rfl⟩)
  have HC1 := Lib.hid (HCC.out.set1)
  have HS2 := Lib.hid (show St (w1.setCell ⟨c, 1, none⟩ (.slice none 0 0)) s (.slice none 0 0) b0 from Bk.set_ne HS1.out hsc _)
  have HG1 := Lib.hid (Chg.trans (S := fun k => k = c) (Chg.of HX.out) (Chg.set (fun k => k = c) w1 rfl (j := 1) (.slice none 0 0)) fun _ _ e => e)
  obtain ⟨V1, hV1⟩ : ∃ V1, V1 = w1.setCell ⟨c, 1, none⟩ (.slice none 0 0) := ⟨_, rfl⟩
  rw [← hV1] at HC1 HS2 HG1 ⊢
  clear hV1 m1 m2 m3 k1 k2 k3 HK1 HS1 HCC
  obtain ⟨m1, m2, m3⟩ := HS2.out.at12
  obtain ⟨k1, k2, k3⟩ := HC1.out.at12
  have HK2 := Lib.hid (cloneS_any V1)
  go_upto_region 4 with (go_at_call 46; refine (HK2.out).mono ?_; rintro e w2 ⟨rfl, rfl⟩)
  have HC := Lib.hid (HC1.out.set12)
  have HS3 := Lib.hid (show St (w2.setCell ⟨c, 12, none⟩ (.slice none 0 0)) s (.slice none 0 0) b0 from Bk.set_ne HS2.out hsc _)
  have HG2 := Lib.hid (HG1.out.trans (Chg.set (fun k => k = c) w2 rfl (j := 12) (.slice none 0 0)) fun _ _ e => e)
  obtain ⟨V, hV⟩ : ∃ V, V = w2.setCell ⟨c, 12, none⟩ (.slice none 0 0) := ⟨_, rfl⟩
  rw [← hV] at HC HS3 HG2 ⊢
  clear hV m1 m2 m3 k1 k2 k3 HK2 HS2 HC1 HG1
  have HF := Lib.hid (show ∀ W, Chg (fun k => k = c) V W → W.cell? ⟨s, 21, none⟩ = some (.slice none 0 0) ∧ W.cell? ⟨s, 22, none⟩ = some (.slice none 0 0) ∧ W.cell? ⟨s, 23, none⟩ = some (.slice none 0 0) ∧ s < W.heap.size from fun W hW => by
    have hk : St W s (.slice none 0 0) b0 := hW.bk HS3.out hsc
    exact ⟨hk.at21.1, hk.at22.1, hk.at23.1, hk.lt⟩)
  refine wp_region_T (S := (fun W => Chg (fun k => k = c) V W ∧ St W c (.slice none 0 0) b0)) 20 (by kernel_rfl) (⟨Chg.of (ext_drew _), Bk.ext HC.out (ext_drew _)⟩) (fun hHeld => ?_)
  refine wpAnyT_take (i := 0) (v := ?v1) [] rfl (by kernel_rfl) (fun _ _ _ h => h) (Or.inl ⟨by rfl, ?hy1⟩) hHeld ?rst1
  case hy1 => (intro wx hSw; obtain ⟨q1, q2, q3, q4⟩ := HF.out wx hSw.1; have q5 := hSw.2.lt; go_simp; try (with_reducible rfl))
  try simp only [List.getElem_toArray, List.getElem_cons_zero, Act.put, List.setIfInBounds_toArray, List.set_cons_zero, List.set_cons_succ]
  refine wpAnyT_take (i := 1) (v := ?v2) [] rfl (by kernel_rfl) (fun _ _ _ h => h) (Or.inl ⟨by rfl, ?hy2⟩) hHeld ?rst2
  case hy2 => (intro wx hSw; obtain ⟨q1, q2, q3, q4⟩ := HF.out wx hSw.1; have q5 := hSw.2.lt; go_simp; try (with_reducible rfl))
  try simp only [List.getElem_toArray, List.getElem_cons_zero, List.getElem_cons_succ, Act.put, List.setIfInBounds_toArray, List.set_cons_zero, List.set_cons_succ]
  refine wpAnyT_take (i := 2) (v := ?v3) [] rfl (by kernel_rfl) (fun _ _ _ h => h) (Or.inl ⟨by rfl, ?hy3⟩) hHeld ?rst3
  case hy3 => (intro wx hSw; obtain ⟨q1, q2, q3, q4⟩ := HF.out wx hSw.1; have q5 := hSw.2.lt; go_simp; try (with_reducible rfl))
  try simp only [List.getElem_toArray, List.getElem_cons_zero, List.getElem_cons_succ, Act.put, List.setIfInBounds_toArray, List.set_cons_zero, List.set_cons_succ]
  refine wpAnyT_take (i := 3) (v := ?v4) [] rfl (by kernel_rfl) (fun _ _ _ h => h) (Or.inl ⟨by rfl, ?hy4⟩) hHeld ?rst4
  case hy4 => (intro wx hSw; obtain ⟨q1, q2, q3, q4⟩ := HF.out wx hSw.1; have q5 := hSw.2.lt; go_simp; try (with_reducible rfl))
  try simp only [List.getElem_toArray, List.getElem_cons_zero, List.getElem_cons_succ, Act.put, List.setIfInBounds_toArray, List.set_cons_zero, List.set_cons_succ]
  refine wpAnyT_take (i := 5) (v := ?v5) [] rfl (by kernel_rfl) (fun _ _ _ h => h) (Or.inl ⟨by rfl, ?hy5⟩) hHeld ?rst5
  case hy5 => (intro wx hSw; obtain ⟨q1, q2, q3, q4⟩ := HF.out wx hSw.1; have q5 := hSw.2.lt; go_simp; try (with_reducible rfl))
  try simp only [List.getElem_toArray, List.getElem_cons_zero, List.getElem_cons_succ, Act.put, List.setIfInBounds_toArray, List.set_cons_zero, List.set_cons_succ]
  refine wpAnyT_take (i := 6) (v := ?v6) [] rfl (by kernel_rfl) (fun _ _ _ h => h) (Or.inl ⟨by rfl, ?hy6⟩) hHeld ?rst6
  case hy6 => (intro wx hSw; obtain ⟨q1, q2, q3, q4⟩ := HF.out wx hSw.1; have q5 := hSw.2.lt; go_simp; try (with_reducible rfl))
  try simp only [List.getElem_toArray, List.getElem_cons_zero, List.getElem_cons_succ, Act.put, List.setIfInBounds_toArray, List.set_cons_zero, List.set_cons_succ]
  refine wpAnyT_take (i := 7) (v := ?v7) [] rfl (by kernel_rfl) (fun _ _ _ h => h) (Or.inl ⟨by rfl, ?hy7⟩) hHeld ?rst7
  case hy7 => (intro wx hSw; obtain ⟨q1, q2, q3, q4⟩ := HF.out wx hSw.1; have q5 := hSw.2.lt; go_simp; try (with_reducible rfl))
  try simp only [List.getElem_toArray, List.getElem_cons_zero, List.getElem_cons_succ, Act.put, List.setIfInBounds_toArray, List.set_cons_zero, List.set_cons_succ]
  refine wpAnyT_take (i := 8) (v := ?v8) [] rfl (by kernel_rfl) (fun _ _ _ h => h) (Or.inl ⟨by rfl, ?hy8⟩) hHeld ?rst8
  case hy8 => (intro wx hSw; obtain ⟨q1, q2, q3, q4⟩ := HF.out wx hSw.1; have q5 := hSw.2.lt; go_simp; try (with_reducible rfl))
  try simp only [List.getElem_toArray, List.getElem_cons_zero, List.getElem_cons_succ, Act.put, List.setIfInBounds_toArray, List.set_cons_zero, List.set_cons_succ]
  refine wpAnyT_take (i := 10) (v := ?v9) [] rfl (by kernel_rfl) (fun _ _ _ h => h) (Or.inl ⟨by rfl, ?hy9⟩) hHeld ?rst9
  case hy9 => (intro wx hSw; obtain ⟨q1, q2, q3, q4⟩ := HF.out wx hSw.1; have q5 := hSw.2.lt; go_simp; try (with_reducible rfl))
  try simp only [List.getElem_toArray, List.getElem_cons_zero, List.getElem_cons_succ, Act.put, List.setIfInBounds_toArray, List.set_cons_zero, List.set_cons_succ]
  refine wpAnyT_take (i := 11) (v := ?v10) [] rfl (by kernel_rfl) (fun _ _ _ h => h) (Or.inl ⟨by rfl, ?hy10⟩) hHeld ?rst10
  case hy10 => (intro wx hSw; obtain ⟨q1, q2, q3, q4⟩ := HF.out wx hSw.1; have q5 := hSw.2.lt; go_simp; try (with_reducible rfl))
  try simp only [List.getElem_toArray, List.getElem_cons_zero, List.getElem_cons_succ, Act.put, List.setIfInBounds_toArray, List.set_cons_zero, List.set_cons_succ]
  refine wpAnyT_take (i := 12) (v := ?v11) [] rfl (by kernel_rfl) (fun _ _ _ h => h) (Or.inl ⟨by rfl, ?hy11⟩) hHeld ?rst11
  case hy11 => (intro wx hSw; obtain ⟨q1, q2, q3, q4⟩ := HF.out wx hSw.1; have q5 := hSw.2.lt; go_simp; try (with_reducible rfl))
  try simp only [List.getElem_toArray, List.getElem_cons_zero, List.getElem_cons_succ, Act.put, List.setIfInBounds_toArray, List.set_cons_zero, List.set_cons_succ]
  refine wpAnyT_take (i := 13) (v := ?v12) [] rfl (by kernel_rfl) (fun _ _ _ h => h) (Or.inl ⟨by rfl, ?hy12⟩) hHeld ?rst12
  case hy12 => (intro wx hSw; obtain ⟨q1, q2, q3, q4⟩ := HF.out wx hSw.1; have q5 := hSw.2.lt; go_simp; try (with_reducible rfl))
  try simp only [List.getElem_toArray, List.getElem_cons_zero, List.getElem_cons_succ, Act.put, List.setIfInBounds_toArray, List.set_cons_zero, List.set_cons_succ]
  refine wpAnyT_one (i := 4) (by kernel_rfl) rfl (fun K hK => ?_)
  go_simp
  go_at_call 47
  refine (cloneH_any _).mono ?_
  rintro e4 w4 ⟨rfl, hw4⟩
  subst hw4
  refine hK.out _ _ (hHeld) (fun hHeld => ?_)
  clear hK K
  try simp only [List.getElem_toArray, List.getElem_cons_zero, List.getElem_cons_succ, Act.put, List.setIfInBounds_toArray, List.set_cons_zero, List.set_cons_succ]
  refine wpAnyT_one (i := 9) (by kernel_rfl) rfl (fun K hK => ?_)
  go_simp
  go_at_call 48
  refine (cloneA_any _).mono ?_
  rintro e9 w9 ⟨rfl, hw9⟩
  subst hw9
  refine hK.out _ _ (hHeld) (fun hHeld => ?_)
  clear hK K
  try simp only [List.getElem_toArray, List.getElem_cons_zero, List.getElem_cons_succ, Act.put, List.setIfInBounds_toArray, List.set_cons_zero, List.set_cons_succ]
  refine wpAnyT_one (i := 14) (by kernel_rfl) rfl (fun K hK => ?_)
  go_simp
  go_at_call 49
  refine (cloneC_any _).mono ?_
  rintro e14 w14 ⟨rfl, hw14⟩
  subst hw14
  refine hK.out _ _ (hHeld) (fun hHeld => ?_)
  clear hK K
  try simp only [List.getElem_toArray, List.getElem_cons_zero, List.getElem_cons_succ, Act.put, List.setIfInBounds_toArray, List.set_cons_zero, List.set_cons_succ]
  refine wpAnyT_take (i := 15) (v := ?v13) [] rfl (by kernel_rfl) (fun _ _ _ h => h) (Or.inl ⟨by rfl, ?hy13⟩) hHeld ?rst13
  case hy13 => (intro wx hSw; obtain ⟨q1, q2, q3, q4⟩ := HF.out wx hSw.1; have q5 := hSw.2.lt; go_simp; try (with_reducible rfl))
  try simp only [List.getElem_toArray, List.getElem_cons_zero, List.getElem_cons_succ, Act.put, List.setIfInBounds_toArray, List.set_cons_zero, List.set_cons_succ]
  refine wpAnyT_one (i := 16) (by kernel_rfl) rfl (fun K hK => ?_)
  obtain ⟨k1, k2, k3⟩ := hHeld.2.at21
  go_simp
  have C16 : _ ∧ _ := And.intro (Chg.trans hHeld.1 (Chg.set (fun k => k = c) _ rfl (j := 21) (.slice none 0 0)) fun k _ e => e) (hHeld.2.set21)
  clear k1 k2 k3
  refine hK.out _ _ (C16) (fun hHeld => ?_)
  clear hK K
  try simp only [List.getElem_toArray, List.getElem_cons_zero, List.getElem_cons_succ, Act.put, List.setIfInBounds_toArray, List.set_cons_zero, List.set_cons_succ]
  refine wpAnyT_take (i := 17) (v := ?v14) [] rfl (by kernel_rfl) (fun _ _ _ h => h) (Or.inl ⟨by rfl, ?hy14⟩) hHeld ?rst14
  case hy14 => (intro wx hSw; obtain ⟨q1, q2, q3, q4⟩ := HF.out wx hSw.1; have q5 := hSw.2.lt; go_simp; try (with_reducible rfl))
  try simp only [List.getElem_toArray, List.getElem_cons_zero, List.getElem_cons_succ, Act.put, List.setIfInBounds_toArray, List.set_cons_zero, List.set_cons_succ]
  refine wpAnyT_one (i := 18) (by kernel_rfl) rfl (fun K hK => ?_)
  obtain ⟨k1, k2, k3⟩ := hHeld.2.at22
  go_simp
  have C18 : _ ∧ _ := And.intro (Chg.trans hHeld.1 (Chg.set (fun k => k = c) _ rfl (j := 22) (.slice none 0 0)) fun k _ e => e) (hHeld.2.set22)
  clear k1 k2 k3
  refine hK.out _ _ (C18) (fun hHeld => ?_)
  clear hK K
  try simp only [List.getElem_toArray, List.getElem_cons_zero, List.getElem_cons_succ, Act.put, List.setIfInBounds_toArray, List.set_cons_zero, List.set_cons_succ]
  refine wpAnyT_take (i := 19) (v := ?v15) [] rfl (by kernel_rfl) (fun _ _ _ h => h) (Or.inl ⟨by rfl, ?hy15⟩) hHeld ?rst15
  case hy15 => (intro wx hSw; obtain ⟨q1, q2, q3, q4⟩ := HF.out wx hSw.1; have q5 := hSw.2.lt; go_simp; try (with_reducible rfl))
  try simp only [List.getElem_toArray, List.getElem_cons_zero, List.getElem_cons_succ, Act.put, List.setIfInBounds_toArray, List.set_cons_zero, List.set_cons_succ]
  refine wpAnyT_last (by kernel_rfl) (by kernel_rfl) rfl (fun K hK => ?_)
  obtain ⟨k1, k2, k3⟩ := hHeld.2.at23
  go_simp
  refine hK.out _ _ ?_
  clear hK K
  have HZ1 := Lib.hid (show Chg (fun k => k = c) V ((((V.setCell ⟨c, 21, none⟩ (.slice none 0 0)).setCell ⟨c, 22, none⟩ (.slice none 0 0)).setCell ⟨c, 23, none⟩ (.slice none 0 0)).drew) from Chg.trans hHeld.1 (Chg.set (fun k => k = c) _ rfl (j := 23) (.slice none 0 0)) fun k _ e => e)
  have HZ2 := Lib.hid (show St ((((V.setCell ⟨c, 21, none⟩ (.slice none 0 0)).setCell ⟨c, 22, none⟩ (.slice none 0 0)).setCell ⟨c, 23, none⟩ (.slice none 0 0)).drew) c (.slice none 0 0) b0 from hHeld.2.set23)
  obtain ⟨Z, hZ⟩ : ∃ Z, Z = (((V.setCell ⟨c, 21, none⟩ (.slice none 0 0)).setCell ⟨c, 22, none⟩ (.slice none 0 0)).setCell ⟨c, 23, none⟩ (.slice none 0 0)).drew := ⟨_, rfl⟩
  rw [← hZ] at HZ1 HZ2 ⊢
  clear hZ hHeld HF
  have HGZ := Lib.hid (HG2.out.trans HZ1.out fun _ _ e => e)
  have HSZ := Lib.hid (show St Z s (.slice none 0 0) b0 from HZ1.out.bk HS3.out hsc)
  have HBZ := Lib.hid (show Bo Z b0 from by
    obtain ⟨cs, h1, h2, h3⟩ := HBO.out
    exact ⟨cs, HGZ.out.bk h1 (fun e => by have := lt_of_block h1; omega), h2, h3⟩)
  obtain ⟨m1, m2, m3⟩ := HSZ.out.at24
  have HSV := Lib.hid (save_any b0 Z HBZ.out)
  have HLD := Lib.hid (load_any Z)
  go_wp2_with (first
    | (go_at_call 51; refine (HSV.out).mono ?_; rintro e w5 ⟨rfl, rfl⟩)
    | (go_at_call 50; refine (HLD.out).mono ?_; rintro e w6 ⟨rfl, hb6, hx6⟩; have HB6 := Lib.hid hb6; have HX6 := Lib.hid hx6; have HC6 := Lib.hid (HZ2.out.ext hx6); clear hb6 hx6; obtain ⟨k1, k2, k3⟩ := HC6.out.at24))
  go_ret
  have h1 := HGZ.out.ext HX6.out
  have h2 := Chg.trans h1 (Chg.set (fun k => k = c) w6 rfl (j := 24) (.pointer (some ⟨w5.heap.size, 0, none⟩))) fun _ _ e => e
  refine ⟨c, w5.heap.size, rfl, hwc, HC6.out.set24 _, ?_, h2.below (Nat.le_refl _) fun k hk e => by omega⟩
  obtain ⟨cs, q1, q2, q3⟩ := HB6.out
  exact ⟨cs, Bk.set_ne q1 (fun e => by have := HZ2.out.lt; omega) _, q2, q3⟩
end Go.Proofs.YtjadbipbidghdaaGreatDoor
