/- The smallest board made and answered, walked. Conditions: the skin and the kind lie in memory. -/
import Derived.Test.YtjadbipbidghdaaGreatDoorHu
import Derived.Test.YtjadbipbidghdaaGreatDoorRg2
import Derived.Test.YtjadbipbidghdaaGreatDoorHs
import Derived.WideKeyPair
import Derived.DeepKeys4
namespace Go.Proofs.YtjadbipbidghdaaGreatDoor
open Go.RowKit

set_option maxRecDepth 100000 in
set_option maxHeartbeats 8000000 in
theorem whole0_any (x bs bk m : Nat) (w : World) (h : Bd w x bs bk m) : Calls Tryz.prog 191 #[.pointer (some ⟨x, 0, none⟩)] w fun e w' => e = .returned (.agg #[.int .i64 0, .int .i64 0, .int .i64 1, .int .i64 1]) ∧ Below w.heap.size w w' := by
  have HX := Lib.hid (ext_alloc w (.cells #[.int .i64 0, .int .i64 0, .int .i64 0, .int .i64 0] 286))
  have HR := Lib.hid (Bk.new 286 w #[.int .i64 0, .int .i64 0, .int .i64 0, .int .i64 0])
  have HB := Lib.hid h
  clear h
  go_enter Tryz.func191, Tryz.ntmps191
  go_upto_region 1 with (fail)
  obtain ⟨X, hX⟩ : ∃ X, X = w.alloc (.cells #[.int .i64 0, .int .i64 0, .int .i64 0, .int .i64 0] 286) := ⟨_, rfl⟩
  obtain ⟨q, hq⟩ : ∃ q, q = w.heap.size := ⟨_, rfl⟩
  rw [← hX] at HX HR ⊢
  rw [← hq] at HR ⊢
  have hwq : w.heap.size ≤ q := by omega
  clear hX hq
  obtain ⟨f1, f2, f3⟩ := Bk.facts (show Bk 284 X x #[.slice (some ⟨bs, 0, none⟩) 1 1, .slice (some ⟨bk, 0, none⟩) 1 1, .int .i64 1, .int .i64 1, .map (some m)] from Bk.ext HB.out HX.out)
  obtain ⟨g1, g2, g3⟩ := HR.out.facts
  go_region
  have HB7 := Lib.hid (((((HR.out.set 0 (.int .i64 0)).set 1 (.int .i64 0)).set 2 (.int .i64 1)).set 3 (.int .i64 1)).ext (ext_drew _))
  have HX7 := Lib.hid (((((HX.out.setCell (p := ⟨q, 0, none⟩) hwq (.int .i64 0)).setCell (p := ⟨q, 1, none⟩) hwq (.int .i64 0)).setCell (p := ⟨q, 2, none⟩) hwq (.int .i64 1)).setCell (p := ⟨q, 3, none⟩) hwq (.int .i64 1)).drew)
  have c0 := HB7.out.cell 0
  have c1 := HB7.out.cell 1
  have c2 := HB7.out.cell 2
  have c3 := HB7.out.cell 3
  simp only [List.setIfInBounds_toArray, List.set_cons_zero, List.set_cons_succ, List.getElem?_toArray, List.getElem?_cons_zero, List.getElem?_cons_succ] at c0 c1 c2 c3
  obtain ⟨Z, hZ⟩ : ∃ Z, Z = ((((X.setCell ⟨q, 0, none⟩ (.int .i64 0)).setCell ⟨q, 1, none⟩ (.int .i64 0)).setCell ⟨q, 2, none⟩ (.int .i64 1)).setCell ⟨q, 3, none⟩ (.int .i64 1)).drew := ⟨_, rfl⟩
  rw [← hZ] at HX7 HB7 c0 c1 c2 c3 ⊢
  have l3 := HB7.out.lt
  clear hZ f1 f2 f3 g1 g2 g3
  go_wp2
  refine bodyPost_ret (v := .agg #[.int .i64 0, .int .i64 0, .int .i64 1, .int .i64 1]) (by simp [results, Tryz.results191, go_sem, c0, c1, c2, c3]) rfl ?_
  exact ⟨rfl, HX7.out⟩
set_option maxRecDepth 100000 in
set_option maxHeartbeats 8000000 in
theorem best0_any (x bs bk m : Nat) (w : World) (h : Bd w x bs bk m) (hk : Kn0 w bk) : Calls Tryz.prog 189 #[.pointer (some ⟨x, 0, none⟩)] w fun e w' => ∃ bb, e = .returned (.slice (some ⟨bb, 0, none⟩) 1 1) ∧ Bk 3 w' bb #[.int .i64 0] ∧ Below w.heap.size w w' := by
  have HX := Lib.hid (ext_alloc w (.cells #[.pointer (some ⟨x, 0, none⟩)] 278))
  have HP := Lib.hid (Bk.new 278 w #[.pointer (some ⟨x, 0, none⟩)])
  have HB := Lib.hid h
  have HK := Lib.hid hk
  clear h hk
  go_enter Tryz.func189, Tryz.ntmps189
  go_upto_region 1 with (fail)
  obtain ⟨V, hV⟩ : ∃ V, V = w.alloc (.cells #[.pointer (some ⟨x, 0, none⟩)] 278) := ⟨_, rfl⟩
  obtain ⟨p1, hp1⟩ : ∃ p1, p1 = w.heap.size := ⟨_, rfl⟩
  rw [← hV] at HX HP ⊢
  rw [← hp1] at HP ⊢
  clear hV hp1
  have HBD := Lib.hid (show Bk 284 V x #[.slice (some ⟨bs, 0, none⟩) 1 1, .slice (some ⟨bk, 0, none⟩) 1 1, .int .i64 1, .int .i64 1, .map (some m)] from Bk.ext HB.out HX.out)
  have HKN := Lib.hid (show Kn0 V bk from Bk.ext HK.out HX.out)
  refine wp_region_T (S := (fun W => Below V.heap.size V W)) 13 (by kernel_rfl) (ext_drew _) (fun hHeld => ?_)
  refine wpAnyT_take (i := 0) (v := ?v1) [] rfl (by kernel_rfl) (fun _ _ _ h => h) (Or.inl ⟨by rfl, ?hy1⟩) hHeld ?rst1
  case hy1 => (intro wx hSw; obtain ⟨d1, d2, d3⟩ := Bk.facts (Bk.ext HBD.out hSw); obtain ⟨a1, a2, a3⟩ := (HP.out.ext hSw).facts; go_simp; try (with_reducible rfl))
  try simp only [List.getElem_toArray, List.getElem_cons_zero, Act.put, List.setIfInBounds_toArray, List.set_cons_zero, List.set_cons_succ]
  refine wpAnyT_take (i := 1) (v := ?v2) [] rfl (by kernel_rfl) (fun _ _ _ h => h) (Or.inl ⟨by rfl, ?hy2⟩) hHeld ?rst2
  case hy2 => (intro wx hSw; obtain ⟨d1, d2, d3⟩ := Bk.facts (Bk.ext HBD.out hSw); obtain ⟨a1, a2, a3⟩ := (HP.out.ext hSw).facts; go_simp; try (with_reducible rfl))
  try simp only [List.getElem_toArray, List.getElem_cons_zero, List.getElem_cons_succ, Act.put, List.setIfInBounds_toArray, List.set_cons_zero, List.set_cons_succ]
  refine wpAnyT_take (i := 2) (v := ?v3) [] rfl (by kernel_rfl) (fun _ _ _ h => h) (Or.inl ⟨by rfl, ?hy3⟩) hHeld ?rst3
  case hy3 => (intro wx hSw; obtain ⟨d1, d2, d3⟩ := Bk.facts (Bk.ext HBD.out hSw); obtain ⟨a1, a2, a3⟩ := (HP.out.ext hSw).facts; go_simp; try (with_reducible rfl))
  try simp only [List.getElem_toArray, List.getElem_cons_zero, List.getElem_cons_succ, Act.put, List.setIfInBounds_toArray, List.set_cons_zero, List.set_cons_succ]
  refine wpAnyT_take (i := 3) (v := ?v4) [] rfl (by kernel_rfl) (fun _ _ _ h => h) (Or.inl ⟨by rfl, ?hy4⟩) hHeld ?rst4
  case hy4 => (intro wx hSw; obtain ⟨d1, d2, d3⟩ := Bk.facts (Bk.ext HBD.out hSw); obtain ⟨a1, a2, a3⟩ := (HP.out.ext hSw).facts; go_simp; try (with_reducible rfl))
  try simp only [List.getElem_toArray, List.getElem_cons_zero, List.getElem_cons_succ, Act.put, List.setIfInBounds_toArray, List.set_cons_zero, List.set_cons_succ]
  refine wpAnyT_take (i := 4) (v := ?v5) [] rfl (by kernel_rfl) (fun _ _ _ h => h) (Or.inl ⟨by rfl, ?hy5⟩) hHeld ?rst5
  case hy5 => (intro wx hSw; obtain ⟨d1, d2, d3⟩ := Bk.facts (Bk.ext HBD.out hSw); obtain ⟨a1, a2, a3⟩ := (HP.out.ext hSw).facts; go_simp; try (with_reducible rfl))
  try simp only [List.getElem_toArray, List.getElem_cons_zero, List.getElem_cons_succ, Act.put, List.setIfInBounds_toArray, List.set_cons_zero, List.set_cons_succ]
  refine wpAnyT_take (i := 5) (v := ?v6) [] rfl (by kernel_rfl) (fun _ _ _ h => h) (Or.inl ⟨by rfl, ?hy6⟩) hHeld ?rst6
  case hy6 => (intro wx hSw; obtain ⟨d1, d2, d3⟩ := Bk.facts (Bk.ext HBD.out hSw); obtain ⟨a1, a2, a3⟩ := (HP.out.ext hSw).facts; go_simp; try (with_reducible rfl))
  try simp only [List.getElem_toArray, List.getElem_cons_zero, List.getElem_cons_succ, Act.put, List.setIfInBounds_toArray, List.set_cons_zero, List.set_cons_succ]
  refine wpAnyT_take (i := 6) (v := ?v7) [] rfl (by kernel_rfl) (fun _ _ _ h => h) (Or.inl ⟨by rfl, ?hy7⟩) hHeld ?rst7
  case hy7 => (intro wx hSw; obtain ⟨d1, d2, d3⟩ := Bk.facts (Bk.ext HBD.out hSw); obtain ⟨a1, a2, a3⟩ := (HP.out.ext hSw).facts; go_simp; try (with_reducible rfl))
  try simp only [List.getElem_toArray, List.getElem_cons_zero, List.getElem_cons_succ, Act.put, List.setIfInBounds_toArray, List.set_cons_zero, List.set_cons_succ]
  refine wpAnyT_take (i := 7) (v := ?v8) [] rfl (by kernel_rfl) (fun _ _ _ h => h) (Or.inl ⟨by rfl, ?hy8⟩) hHeld ?rst8
  case hy8 => (intro wx hSw; obtain ⟨d1, d2, d3⟩ := Bk.facts (Bk.ext HBD.out hSw); obtain ⟨a1, a2, a3⟩ := (HP.out.ext hSw).facts; go_simp; try (with_reducible rfl))
  try simp only [List.getElem_toArray, List.getElem_cons_zero, List.getElem_cons_succ, Act.put, List.setIfInBounds_toArray, List.set_cons_zero, List.set_cons_succ]
  refine wpAnyT_one (i := 8) (by kernel_rfl) rfl (fun K hK => ?_)
  go_simp
  go_at_call 238
  refine (rects_any _).mono ?_
  rintro e8 w8 ⟨rfl, rfl⟩
  refine hK.out _ _ (by first | exact hHeld | exact ext_drew _ | exact Below.refl _ _) (fun hHeld => ?_)
  clear hK K
  try simp only [List.getElem_toArray, List.getElem_cons_zero, List.getElem_cons_succ, Act.put, List.setIfInBounds_toArray, List.set_cons_zero, List.set_cons_succ]
  refine wpAnyT_take (i := 9) (v := ?v9) [] rfl (by kernel_rfl) (fun _ _ _ h => h) (Or.inl ⟨by rfl, ?hy9⟩) hHeld ?rst9
  case hy9 => (intro wx hSw; obtain ⟨d1, d2, d3⟩ := Bk.facts (Bk.ext HBD.out hSw); obtain ⟨a1, a2, a3⟩ := (HP.out.ext hSw).facts; go_simp; try (with_reducible rfl))
  try simp only [List.getElem_toArray, List.getElem_cons_zero, List.getElem_cons_succ, Act.put, List.setIfInBounds_toArray, List.set_cons_zero, List.set_cons_succ]
  refine wpAnyT_take (i := 10) (v := ?v10) [] rfl (by kernel_rfl) (fun _ _ _ h => h) (Or.inl ⟨by rfl, ?hy10⟩) hHeld ?rst10
  case hy10 => (intro wx hSw; obtain ⟨d1, d2, d3⟩ := Bk.facts (Bk.ext HBD.out hSw); obtain ⟨a1, a2, a3⟩ := (HP.out.ext hSw).facts; go_simp; try (with_reducible rfl))
  try simp only [List.getElem_toArray, List.getElem_cons_zero, List.getElem_cons_succ, Act.put, List.setIfInBounds_toArray, List.set_cons_zero, List.set_cons_succ]
  refine wpAnyT_take (i := 11) (v := ?v11) [] rfl (by kernel_rfl) (fun _ _ _ h => h) (Or.inl ⟨by rfl, ?hy11⟩) hHeld ?rst11
  case hy11 => (intro wx hSw; obtain ⟨d1, d2, d3⟩ := Bk.facts (Bk.ext HBD.out hSw); obtain ⟨a1, a2, a3⟩ := (HP.out.ext hSw).facts; go_simp; try (with_reducible rfl))
  try simp only [List.getElem_toArray, List.getElem_cons_zero, List.getElem_cons_succ, Act.put, List.setIfInBounds_toArray, List.set_cons_zero, List.set_cons_succ]
  refine wpAnyT_take (i := 12) (v := ?v12) [] rfl (by kernel_rfl) (fun _ _ _ h => h) (Or.inl ⟨by rfl, ?hy12⟩) hHeld ?rst12
  case hy12 => (intro wx hSw; obtain ⟨d1, d2, d3⟩ := Bk.facts (Bk.ext HBD.out hSw); obtain ⟨a1, a2, a3⟩ := (HP.out.ext hSw).facts; go_simp; try (with_reducible rfl))
  try simp only [List.getElem_toArray, List.getElem_cons_zero, List.getElem_cons_succ, Act.put, List.setIfInBounds_toArray, List.set_cons_zero, List.set_cons_succ]
  refine wpAnyT_last (by kernel_rfl) (by kernel_rfl) rfl (fun K hK => ?_)
  go_simp
  refine hK.out _ _ ?_
  clear hK K
  have HXD := Lib.hid (ext_trans HX.out hHeld)
  have HPD := Lib.hid (HP.out.ext hHeld)
  have HBE := Lib.hid (Bk.ext HBD.out hHeld)
  have HKE := Lib.hid (Bk.ext HKN.out hHeld)
  obtain ⟨W, hW⟩ : ∃ W, W = V.drew := ⟨_, rfl⟩
  rw [← hW] at HXD HPD HBE HKE ⊢
  clear hW hHeld HX HP HBD HKN HB HK
  have hms : ∀ W, (Instr.makeSlice 77 (.int .i64 1) (.int .i64 1)).run Tryz.prog W = .ok (.slice (some ⟨W.heap.size, 0, none⟩) 1 1) (W.alloc (.cells #[.int .i64 0] 3)) := fun W => run_zeros 1 (by omega) W
  go_upto_region 3 with (fail)
  have y1 := Bk.new 3 W #[.int .i64 0]
  have y2 := Bk.new 77 (W.alloc (.cells #[.int .i64 0] 3)) #[.slice (some ⟨W.heap.size, 0, none⟩) 1 1]
  have x1 := ext_alloc W (.cells #[.int .i64 0] 3)
  have x2 := ext_alloc (W.alloc (.cells #[.int .i64 0] 3)) (.cells #[.slice (some ⟨W.heap.size, 0, none⟩) 1 1] 77)
  have e1 : (W.alloc (.cells #[.int .i64 0] 3)).heap.size = W.heap.size + 1 := by simp
  rw [e1] at y2
  have hwb : w.heap.size ≤ W.heap.size := HXD.out.size
  have HE := Lib.hid (show En _ p1 (W.heap.size + 1) x bs bk m W.heap.size from ⟨HPD.out.ext (ext_trans x1 x2), y2, Bk.ext HBE.out (ext_trans x1 x2), Bk.ext HKE.out (ext_trans x1 x2), y1.ext x2⟩)
  have HX3 := Lib.hid (ext_trans HXD.out (ext_trans x1 x2))
  clear e1 hms x1 x2 y1 y2
  obtain ⟨p2, hp2⟩ : ∃ p2, p2 = W.heap.size + 1 := ⟨_, rfl⟩
  obtain ⟨bb, hbb⟩ : ∃ bb, bb = W.heap.size := ⟨_, rfl⟩
  obtain ⟨Y, hY⟩ : ∃ Y, Y = (W.alloc (.cells #[.int .i64 0] 3)).alloc (.cells #[.slice (some ⟨W.heap.size, 0, none⟩) 1 1] 77) := ⟨_, rfl⟩
  rw [← hY] at HE HX3 ⊢
  rw [← hp2] at HE ⊢
  rw [← hbb] at HE hwb ⊢
  clear hY hp2 hbb HXD HPD HBE HKE
  obtain ⟨a1, b1, d1, k1, o1⟩ := HE.out.facts
  have HEA := Lib.hid (each_any p1 p2 x bs bk m bb Y HE.out)
  go_wp2_with (go_at_call 239; refine (HEA.out).mono ?_; rintro e w5 ⟨rfl, he5, hc5⟩; have HE5 := Lib.hid he5; have HC5 := Lib.hid hc5; have c2 := he5.c2.cell 0; have l2 := he5.c2.lt; clear he5 hc5)
  go_ret
  exact ⟨bb, rfl, HE5.out.ow, HX3.out.trans (HC5.out.below HX3.out.size fun k hk e => by omega)⟩
/-- a map without entries -/
def M0 (w : World) (m : Nat) : Prop := w.heap[m]? = some (.map #[] 0)
theorem M0.lt {w : World} {m : Nat} (h : M0 w m) : m < w.heap.size := lt_of_block h
theorem M0.ext {w w' : World} {m : Nat} (h : M0 w m) (hb : Below w.heap.size w w') : M0 w' m := (hb.block m h.lt).trans h
theorem chk1 (b : Bool) (w : World) : (Instr.checkKey b 10000 3 (.int .i64 1)).run Tryz.prog w = .ok () w := by cases b <;> kernel_rfl
theorem fnd1 (w : World) : (Instr.findKey 3 (.int .i64 1) []).run Tryz.prog w = .ok none w := by kernel_rfl
theorem zer1 (w : World) : (zeroValue 340).run Tryz.prog w = .ok (.pointer none) w := by kernel_rfl
theorem M0.look {w : World} {m : Nat} (h : M0 w m) : (Instr.lookup 282 (.map (some m)) (.int .i64 1) false).run Tryz.prog w = .ok (.pointer none) w := by
  unfold M0 at h
  simp [Instr.lookup, run_underlying Tryz.underlying282, MapKept.run_getObj_map h, Result.andThen, chk1, fnd1]
theorem M0.store {w : World} {m : Nat} (h : M0 w m) (v : Value) : ∃ w', (Instr.mapUpdate 282 (.map (some m)) (.int .i64 1) v).run Tryz.prog w = .ok () w' ∧ Chg (· = m) w w' := by
  unfold M0 at h
  refine ⟨ChangeMaps.setBlock w m (.map #[{ key := .int .i64 1, val := v, born := 0 }] 1), ?_, ⟨rfl, rfl, rfl, by simp [ChangeMaps.setBlock], fun i _ hi => ChangeMaps.heap_setBlock_other h _ (fun e => hi (by rw [e]))⟩⟩
  simp [Instr.mapUpdate, run_underlying Tryz.underlying282, MapKept.run_getObj_map h, MapKept.run_setObj_map _ h, Result.andThen, ChangeMaps.setBlock, chk1, fnd1]
set_option maxRecDepth 100000 in
set_option maxHeartbeats 16000000 in
theorem newboard0_any (bs bk : Nat) (w : World) (hs : Sk0 w bs) (hk : Kn0 w bk) : Calls Tryz.prog 188 #[.slice (some ⟨bs, 0, none⟩) 1 1, .slice (some ⟨bk, 0, none⟩) 1 1] w fun e w' => ∃ x m, e = .returned (.pointer (some ⟨x, 0, none⟩)) ∧ Bd w' x bs bk m ∧ Below w.heap.size w w' := by
  have HSW := Lib.hid hs
  have HKW := Lib.hid hk
  have HV := Lib.hid (valid0_any bs w hs)
  obtain ⟨f1, f2, f3⟩ := Bk.facts (show Bk 9 w bs #[.string ⟨#[48]⟩] from hs)
  clear hs hk
  go_enter Tryz.func188, Tryz.ntmps188
  go_upto_region 3 with (first
    | (go_at_call 104; refine (HV.out).mono ?_; rintro e w1 ⟨rfl, hx1⟩; have HX1 := Lib.hid hx1; obtain ⟨g1, g2, g3⟩ := Bk.facts (show Bk 9 w1 bs #[.string ⟨#[48]⟩] from Bk.ext HSW.out hx1); clear hx1)
    | (go_at_call 236; refine (sides_any 1 1 (by omega) (by omega) _).mono ?_; rintro e w2 ⟨rfl, rfl⟩))
  obtain ⟨V, hV⟩ : ∃ V, V = w2 := ⟨_, rfl⟩
  rw [← hV] at HX1 g1 g2 g3 ⊢
  have HSK := Lib.hid (show Bk 9 V bs #[.string ⟨#[48]⟩] from Bk.ext HSW.out HX1.out)
  have HKV := Lib.hid (show Kn0 V bk from Bk.ext HKW.out HX1.out)
  clear hV f1 f2 f3 g1 g2 g3 HV
  have hmm := @run_makeMap Tryz.prog
  obtain ⟨g1, g2, g3⟩ := HSK.out.facts
  go_upto_region 4 with (fail)
  have y1 : M0 (V.alloc (.map #[] 0)) V.heap.size := by unfold M0; simpa using heap_alloc_new V _
  have x1 := ext_alloc V (.map #[] 0)
  have x2 := ext_alloc (V.alloc (.map #[] 0)) (.cells #[.slice (some ⟨bs, 0, none⟩) 1 1, .slice (some ⟨bk, 0, none⟩) 1 1, .int .i64 1, .int .i64 1, .map (some V.heap.size)] 284)
  have y2 := Bk.new 284 (V.alloc (.map #[] 0)) #[.slice (some ⟨bs, 0, none⟩) 1 1, .slice (some ⟨bk, 0, none⟩) 1 1, .int .i64 1, .int .i64 1, .map (some V.heap.size)]
  have e1 : (V.alloc (.map #[] 0)).heap.size = V.heap.size + 1 := by simp
  rw [e1] at y2
  have HM := Lib.hid (y1.ext x2)
  have HB := Lib.hid (show Bd _ (V.heap.size + 1) bs bk V.heap.size from y2)
  have HS := Lib.hid (show Sk0 _ bs from Bk.ext HSK.out (ext_trans x1 x2))
  have HK := Lib.hid (show Kn0 _ bk from Bk.ext HKV.out (ext_trans x1 x2))
  have HX := Lib.hid (ext_trans HX1.out (ext_trans x1 x2))
  have hwm : w.heap.size ≤ V.heap.size := HX1.out.size
  clear e1 x1 x2 y1 y2 g1 g2 g3 hmm HX1 HSK HKV HSW HKW
  obtain ⟨x, hx⟩ : ∃ x, x = V.heap.size + 1 := ⟨_, rfl⟩
  obtain ⟨m, hm⟩ : ∃ m, m = V.heap.size := ⟨_, rfl⟩
  obtain ⟨Y, hY⟩ : ∃ Y, Y = (V.alloc (.map #[] 0)).alloc (.cells #[.slice (some ⟨bs, 0, none⟩) 1 1, .slice (some ⟨bk, 0, none⟩) 1 1, .int .i64 1, .int .i64 1, .map (some V.heap.size)] 284) := ⟨_, rfl⟩
  rw [← hY] at HM HB HS HK HX ⊢
  rw [← hx] at HB ⊢
  rw [← hm] at HM HB hwm ⊢
  have HXM := Lib.hid (show x ≠ m from by omega)
  clear hY hx hm
  go_wp2_with (fail)
  go_loopg [39] 1 (fun gg z wr => (z = .int .i64 0 ∧ gg = 1 ∧ wr = Y) ∨ (z = .int .i64 1 ∧ gg = 0 ∧ Below w.heap.size w wr ∧ Bd wr x bs bk m))
  case atStart => exact .inl ⟨rfl, rfl, rfl⟩
  case round =>
    rcases hrel with ⟨rfl, rfl, rfl⟩ | ⟨rfl, rfl, hx, hb⟩
    · obtain ⟨k1, k2, k3⟩ := Bk.facts (show Bk 74 wr bk #[.int .i64 2, .int .i64 1, .int .i64 1, .int .i64 5, .bool false] from HK.out)
      go_upto_region 7 with (fail)
      have HXK := Lib.hid (ext_alloc wr (.cells #[.int .i64 2, .int .i64 1, .int .i64 1, .int .i64 5, .bool false] 74))
      have HP := Lib.hid (Bk.new 74 wr #[.int .i64 2, .int .i64 1, .int .i64 1, .int .i64 5, .bool false])
      obtain ⟨Z, hZ⟩ : ∃ Z, Z = wr.alloc (.cells #[.int .i64 2, .int .i64 1, .int .i64 1, .int .i64 5, .bool false] 74) := ⟨_, rfl⟩
      obtain ⟨p, hp⟩ : ∃ p, p = wr.heap.size := ⟨_, rfl⟩
      rw [← hZ] at HXK HP ⊢
      rw [← hp] at HP ⊢
      clear hZ hp k1 k2 k3
      have HM1 := Lib.hid (HM.out.ext HXK.out)
      have hl : ∀ n, (Instr.lookup 282 (.map (some m)) (.int .i64 1) false).run Tryz.prog (Z.drewN n) = .ok (.pointer none) (Z.drewN n) := fun n => (HM1.out.ext (ext_drewN Z n)).look
      have HB1 := Lib.hid (show Bk 284 Z x #[.slice (some ⟨bs, 0, none⟩) 1 1, .slice (some ⟨bk, 0, none⟩) 1 1, .int .i64 1, .int .i64 1, .map (some m)] from Bk.ext HB.out HXK.out)
      obtain ⟨k1, k2, k3⟩ := HP.out.facts
      obtain ⟨d1, d2, d3⟩ := HB1.out.facts
      go_upto_region 9 with (go_at_call 236; refine (sides_any 2 1 (by omega) (by omega) _).mono ?_; rintro e w5 ⟨rfl, rfl⟩)
      go_quiet (fail)
      have HBD := Lib.hid (Bk.ext HB1.out (ext_drewN w5 nq))
      have HPV := Lib.hid (HP.out.ext (ext_drewN w5 nq))
      have HMV := Lib.hid (HM1.out.ext (ext_drewN w5 nq))
      have HXV := Lib.hid (ext_trans HXK.out (ext_drewN w5 nq))
      obtain ⟨V2, hV2⟩ : ∃ V2, V2 = w5.drewN nq := ⟨_, rfl⟩
      rw [← hV2] at HBD HPV HMV HXV ⊢
      have HSK := Lib.hid (Bk.ext HS.out HXV.out)
      clear hV2 k1 k2 k3 d1 d2 d3 hl HM1 HP HB1 HXK HM
      have HP := Lib.hid HPV.out
      have HM := Lib.hid HMV.out
      clear HPV HMV
      have HPM := Lib.hid (show p ≠ m from fun e => by
        have h1 := HP.out
        have h2 := HM.out
        unfold Bk at h1
        unfold M0 at h2
        rw [e, h2] at h1
        cases h1)
      go_upto_region 10 with (fail)
      refine wp_region_T (S := (fun W => Chg (· = m) V2 W)) 13 (by kernel_rfl) (Chg.of (ext_drew _)) (fun hHeld => ?_)
      refine wpAnyT_take (i := 0) (v := ?v13) [] rfl (by kernel_rfl) (fun _ _ _ h => h) (Or.inl ⟨by rfl, ?hy13⟩) hHeld ?rst13
      case hy13 => (intro wx hSw; obtain ⟨d1, d2, d3⟩ := Bk.facts (hSw.bk HBD.out HXM.out); obtain ⟨a1, a2, a3⟩ := (hSw.bk HP.out HPM.out).facts; go_simp; try (with_reducible rfl))
      try simp only [List.getElem_toArray, List.getElem_cons_zero, Act.put, List.setIfInBounds_toArray, List.set_cons_zero, List.set_cons_succ]
      refine wpAnyT_take (i := 1) (v := ?v14) [] rfl (by kernel_rfl) (fun _ _ _ h => h) (Or.inl ⟨by rfl, ?hy14⟩) hHeld ?rst14
      case hy14 => (intro wx hSw; obtain ⟨d1, d2, d3⟩ := Bk.facts (hSw.bk HBD.out HXM.out); obtain ⟨a1, a2, a3⟩ := (hSw.bk HP.out HPM.out).facts; go_simp; try (with_reducible rfl))
      try simp only [List.getElem_toArray, List.getElem_cons_zero, List.getElem_cons_succ, Act.put, List.setIfInBounds_toArray, List.set_cons_zero, List.set_cons_succ]
      refine wpAnyT_take (i := 2) (v := ?v15) [] rfl (by kernel_rfl) (fun _ _ _ h => h) (Or.inl ⟨by rfl, ?hy15⟩) hHeld ?rst15
      case hy15 => (intro wx hSw; obtain ⟨d1, d2, d3⟩ := Bk.facts (hSw.bk HBD.out HXM.out); obtain ⟨a1, a2, a3⟩ := (hSw.bk HP.out HPM.out).facts; go_simp; try (with_reducible rfl))
      try simp only [List.getElem_toArray, List.getElem_cons_zero, List.getElem_cons_succ, Act.put, List.setIfInBounds_toArray, List.set_cons_zero, List.set_cons_succ]
      refine wpAnyT_take (i := 3) (v := ?v16) [] rfl (by kernel_rfl) (fun _ _ _ h => h) (Or.inl ⟨by rfl, ?hy16⟩) hHeld ?rst16
      case hy16 => (intro wx hSw; obtain ⟨d1, d2, d3⟩ := Bk.facts (hSw.bk HBD.out HXM.out); obtain ⟨a1, a2, a3⟩ := (hSw.bk HP.out HPM.out).facts; go_simp; try (with_reducible rfl))
      try simp only [List.getElem_toArray, List.getElem_cons_zero, List.getElem_cons_succ, Act.put, List.setIfInBounds_toArray, List.set_cons_zero, List.set_cons_succ]
      refine wpAnyT_take (i := 4) (v := ?v17) [] rfl (by kernel_rfl) (fun _ _ _ h => h) (Or.inl ⟨by rfl, ?hy17⟩) hHeld ?rst17
      case hy17 => (intro wx hSw; obtain ⟨d1, d2, d3⟩ := Bk.facts (hSw.bk HBD.out HXM.out); obtain ⟨a1, a2, a3⟩ := (hSw.bk HP.out HPM.out).facts; go_simp; try (with_reducible rfl))
      try simp only [List.getElem_toArray, List.getElem_cons_zero, List.getElem_cons_succ, Act.put, List.setIfInBounds_toArray, List.set_cons_zero, List.set_cons_succ]
      refine wpAnyT_take (i := 5) (v := ?v18) [] rfl (by kernel_rfl) (fun _ _ _ h => h) (Or.inl ⟨by rfl, ?hy18⟩) hHeld ?rst18
      case hy18 => (intro wx hSw; obtain ⟨d1, d2, d3⟩ := Bk.facts (hSw.bk HBD.out HXM.out); obtain ⟨a1, a2, a3⟩ := (hSw.bk HP.out HPM.out).facts; go_simp; try (with_reducible rfl))
      try simp only [List.getElem_toArray, List.getElem_cons_zero, List.getElem_cons_succ, Act.put, List.setIfInBounds_toArray, List.set_cons_zero, List.set_cons_succ]
      refine wpAnyT_take (i := 6) (v := ?v19) [] rfl (by kernel_rfl) (fun _ _ _ h => h) (Or.inl ⟨by rfl, ?hy19⟩) hHeld ?rst19
      case hy19 => (intro wx hSw; obtain ⟨d1, d2, d3⟩ := Bk.facts (hSw.bk HBD.out HXM.out); obtain ⟨a1, a2, a3⟩ := (hSw.bk HP.out HPM.out).facts; go_simp; try (with_reducible rfl))
      try simp only [List.getElem_toArray, List.getElem_cons_zero, List.getElem_cons_succ, Act.put, List.setIfInBounds_toArray, List.set_cons_zero, List.set_cons_succ]
      refine wpAnyT_take (i := 7) (v := ?v20) [] rfl (by kernel_rfl) (fun _ _ _ h => h) (Or.inl ⟨by rfl, ?hy20⟩) hHeld ?rst20
      case hy20 => (intro wx hSw; obtain ⟨d1, d2, d3⟩ := Bk.facts (hSw.bk HBD.out HXM.out); obtain ⟨a1, a2, a3⟩ := (hSw.bk HP.out HPM.out).facts; go_simp; try (with_reducible rfl))
      try simp only [List.getElem_toArray, List.getElem_cons_zero, List.getElem_cons_succ, Act.put, List.setIfInBounds_toArray, List.set_cons_zero, List.set_cons_succ]
      refine wpAnyT_take (i := 8) (v := ?v21) [] rfl (by kernel_rfl) (fun _ _ _ h => h) (Or.inl ⟨by rfl, ?hy21⟩) hHeld ?rst21
      case hy21 => (intro wx hSw; obtain ⟨d1, d2, d3⟩ := Bk.facts (hSw.bk HBD.out HXM.out); obtain ⟨a1, a2, a3⟩ := (hSw.bk HP.out HPM.out).facts; go_simp; try (with_reducible rfl))
      try simp only [List.getElem_toArray, List.getElem_cons_zero, List.getElem_cons_succ, Act.put, List.setIfInBounds_toArray, List.set_cons_zero, List.set_cons_succ]
      refine wpAnyT_one (i := 9) (by kernel_rfl) rfl (fun K hK => ?_)
      go_simp
      go_at_call 237
      refine (newtable0_any bs _ (Bk.ext HSK.out (by first | exact ext_drew _ | exact Below.refl _ _))).mono ?_
      rintro e8 w8 ⟨qt, rfl, hx8⟩
      have B8 := ext_trans (show Below V2.heap.size V2 _ from by first | exact ext_drew _ | exact Below.refl _ _) hx8
      clear hx8
      refine hK.out _ _ (Chg.of B8) (fun hHeld => ?_)
      clear hK K
      try simp only [List.getElem_toArray, List.getElem_cons_zero, List.getElem_cons_succ, Act.put, List.setIfInBounds_toArray, List.set_cons_zero, List.set_cons_succ]
      refine wpAnyT_take (i := 10) (v := ?v22) [] rfl (by kernel_rfl) (fun _ _ _ h => h) (Or.inl ⟨by rfl, ?hy22⟩) hHeld ?rst22
      case hy22 => (intro wx hSw; obtain ⟨d1, d2, d3⟩ := Bk.facts (hSw.bk HBD.out HXM.out); obtain ⟨a1, a2, a3⟩ := (hSw.bk HP.out HPM.out).facts; go_simp; try (with_reducible rfl))
      try simp only [List.getElem_toArray, List.getElem_cons_zero, List.getElem_cons_succ, Act.put, List.setIfInBounds_toArray, List.set_cons_zero, List.set_cons_succ]
      refine wpAnyT_take (i := 11) (v := ?v23) [] rfl (by kernel_rfl) (fun _ _ _ h => h) (Or.inl ⟨by rfl, ?hy23⟩) hHeld ?rst23
      case hy23 => (intro wx hSw; obtain ⟨d1, d2, d3⟩ := Bk.facts (hSw.bk HBD.out HXM.out); obtain ⟨a1, a2, a3⟩ := (hSw.bk HP.out HPM.out).facts; go_simp; try (with_reducible rfl))
      try simp only [List.getElem_toArray, List.getElem_cons_zero, List.getElem_cons_succ, Act.put, List.setIfInBounds_toArray, List.set_cons_zero, List.set_cons_succ]
      refine wpAnyT_two (i := 12) (j := 13) (by kernel_rfl) rfl rfl (fun K hK => ?_) (fun K hK => ?_)
      · go_simp
        refine hK.out _ _ hHeld (fun hHeld => ?_)
        clear hK K
        try simp only [List.getElem_toArray, List.getElem_cons_zero, List.getElem_cons_succ, Act.put, List.setIfInBounds_toArray, List.set_cons_zero, List.set_cons_succ]
        refine wpAnyT_last (by kernel_rfl) (by kernel_rfl) rfl (fun K hK => ?_)
        obtain ⟨d1, d2, d3⟩ := Bk.facts (Bk.ext HBD.out B8)
        obtain ⟨w9, hm9, hc9⟩ := M0.store (HM.out.ext B8) (.pointer (some ⟨qt, 0, none⟩))
        go_simp
        refine hK.out _ _ ?_
        clear hK K
        have HB9 := Lib.hid (hc9.bk (Bk.ext HBD.out B8) HXM.out)
        have HX9 := Lib.hid (HX.out.trans (((Chg.ext (S := (· = m)) (Chg.of HXV.out) B8).trans (S' := (· = m)) hc9 (fun _ _ e => e)).below HX.out.size fun k hk e => by omega))
        clear hHeld hc9 hm9 d1 d2 d3
        go_wp2
        go_roundg 0
        case measure => omega
        case rel => exact .inr ⟨rfl, rfl, HX9.out, HB9.out⟩
      · obtain ⟨d1, d2, d3⟩ := Bk.facts (Bk.ext HBD.out B8)
        obtain ⟨w9, hm9, hc9⟩ := M0.store (HM.out.ext B8) (.pointer (some ⟨qt, 0, none⟩))
        go_simp
        refine hK.out _ _ ((Chg.of B8).trans (S := (· = m)) hc9 (fun _ _ e => e)) (fun hHeld => ?_)
        clear hK K
        try simp only [List.getElem_toArray, List.getElem_cons_zero, List.getElem_cons_succ, Act.put, List.setIfInBounds_toArray, List.set_cons_zero, List.set_cons_succ]
        refine wpAnyT_one (i := 12) (by kernel_rfl) rfl (fun K hK => ?_)
        go_simp
        refine hK.out _ _ hHeld (fun hHeld => ?_)
        clear hK K
        try simp only [List.getElem_toArray, List.getElem_cons_zero, List.getElem_cons_succ, Act.put, List.setIfInBounds_toArray, List.set_cons_zero, List.set_cons_succ]
        refine ⟨by kernel_rfl, ?_⟩
        have HB9 := Lib.hid (hc9.bk (Bk.ext HBD.out B8) HXM.out)
        have HX9 := Lib.hid (HX.out.trans (((Chg.ext (S := (· = m)) (Chg.of HXV.out) B8).trans (S' := (· = m)) hc9 (fun _ _ e => e)).below HX.out.size fun k hk e => by omega))
        clear hHeld hc9 hm9 d1 d2 d3
        go_wp2
        go_roundg 0
        case measure => omega
        case rel => exact .inr ⟨rfl, rfl, HX9.out, HB9.out⟩
    · have HX9 := Lib.hid hx
      have HB9 := Lib.hid hb
      clear hx hb
      go_wp2
      go_ret
      exact ⟨x, m, rfl, HB9.out, HX9.out⟩
set_option maxRecDepth 100000 in
set_option maxHeartbeats 16000000 in
theorem cutbest_any (bs bk : Nat) (w : World) (hs : Sk0 w bs) (hk : Kn0 w bk) : Calls Tryz.prog 125 #[.slice (some ⟨bs, 0, none⟩) 1 1, .slice (some ⟨bk, 0, none⟩) 1 1] w fun e w' => e = .returned (.tuple #[.int .i64 0, .int .i64 0]) ∧ Below w.heap.size w w' := by
  have HN := Lib.hid (newboard0_any bs bk w hs hk)
  have HK := Lib.hid hk
  clear hs hk
  go_enter Tryz.func125, Tryz.ntmps125
  go_upto_region 4 with (go_at_call 188; refine (HN.out).mono ?_; rintro e w1 ⟨x, m, rfl, hb1, hx1⟩; have HX := Lib.hid hx1; have HB := Lib.hid hb1; clear hx1 hb1)
  have HKN := Lib.hid (show Kn0 w1 bk from Bk.ext HK.out HX.out)
  obtain ⟨V, hV⟩ : ∃ V, V = w1 := ⟨_, rfl⟩
  rw [← hV] at HX HB HKN ⊢
  clear hV HN
  refine wp_region_T (S := (fun W => Below V.heap.size V W)) 16 (by kernel_rfl) (ext_drew _) (fun hHeld => ?_)
  refine wpAnyT_take (i := 0) (v := ?v24) [] rfl (by kernel_rfl) (fun _ _ _ h => h) (Or.inl ⟨by rfl, ?hy24⟩) hHeld ?rst24
  case hy24 => (intro wx hSw; obtain ⟨d1, d2, d3⟩ := Bk.facts (Bk.ext HB.out hSw); go_simp; try (with_reducible rfl))
  try simp only [List.getElem_toArray, List.getElem_cons_zero, Act.put, List.setIfInBounds_toArray, List.set_cons_zero, List.set_cons_succ]
  refine wpAnyT_take (i := 2) (v := ?v25) [] rfl (by kernel_rfl) (fun _ _ _ h => h) (Or.inl ⟨by rfl, ?hy25⟩) hHeld ?rst25
  case hy25 => (intro wx hSw; obtain ⟨d1, d2, d3⟩ := Bk.facts (Bk.ext HB.out hSw); go_simp; try (with_reducible rfl))
  try simp only [List.getElem_toArray, List.getElem_cons_zero, List.getElem_cons_succ, Act.put, List.setIfInBounds_toArray, List.set_cons_zero, List.set_cons_succ]
  refine wpAnyT_take (i := 3) (v := ?v26) [] rfl (by kernel_rfl) (fun _ _ _ h => h) (Or.inl ⟨by rfl, ?hy26⟩) hHeld ?rst26
  case hy26 => (intro wx hSw; obtain ⟨d1, d2, d3⟩ := Bk.facts (Bk.ext HB.out hSw); go_simp; try (with_reducible rfl))
  try simp only [List.getElem_toArray, List.getElem_cons_zero, List.getElem_cons_succ, Act.put, List.setIfInBounds_toArray, List.set_cons_zero, List.set_cons_succ]
  refine wpAnyT_take (i := 4) (v := ?v27) [] rfl (by kernel_rfl) (fun _ _ _ h => h) (Or.inl ⟨by rfl, ?hy27⟩) hHeld ?rst27
  case hy27 => (intro wx hSw; obtain ⟨d1, d2, d3⟩ := Bk.facts (Bk.ext HB.out hSw); go_simp; try (with_reducible rfl))
  try simp only [List.getElem_toArray, List.getElem_cons_zero, List.getElem_cons_succ, Act.put, List.setIfInBounds_toArray, List.set_cons_zero, List.set_cons_succ]
  refine wpAnyT_take (i := 5) (v := ?v28) [] rfl (by kernel_rfl) (fun _ _ _ h => h) (Or.inl ⟨by rfl, ?hy28⟩) hHeld ?rst28
  case hy28 => (intro wx hSw; obtain ⟨d1, d2, d3⟩ := Bk.facts (Bk.ext HB.out hSw); go_simp; try (with_reducible rfl))
  try simp only [List.getElem_toArray, List.getElem_cons_zero, List.getElem_cons_succ, Act.put, List.setIfInBounds_toArray, List.set_cons_zero, List.set_cons_succ]
  refine wpAnyT_take (i := 6) (v := ?v29) [] rfl (by kernel_rfl) (fun _ _ _ h => h) (Or.inl ⟨by rfl, ?hy29⟩) hHeld ?rst29
  case hy29 => (intro wx hSw; obtain ⟨d1, d2, d3⟩ := Bk.facts (Bk.ext HB.out hSw); go_simp; try (with_reducible rfl))
  try simp only [List.getElem_toArray, List.getElem_cons_zero, List.getElem_cons_succ, Act.put, List.setIfInBounds_toArray, List.set_cons_zero, List.set_cons_succ]
  refine wpAnyT_take (i := 7) (v := ?v30) [] rfl (by kernel_rfl) (fun _ _ _ h => h) (Or.inl ⟨by rfl, ?hy30⟩) hHeld ?rst30
  case hy30 => (intro wx hSw; obtain ⟨d1, d2, d3⟩ := Bk.facts (Bk.ext HB.out hSw); go_simp; try (with_reducible rfl))
  try simp only [List.getElem_toArray, List.getElem_cons_zero, List.getElem_cons_succ, Act.put, List.setIfInBounds_toArray, List.set_cons_zero, List.set_cons_succ]
  refine wpAnyT_take (i := 8) (v := ?v31) [] rfl (by kernel_rfl) (fun _ _ _ h => h) (Or.inl ⟨by rfl, ?hy31⟩) hHeld ?rst31
  case hy31 => (intro wx hSw; obtain ⟨d1, d2, d3⟩ := Bk.facts (Bk.ext HB.out hSw); go_simp; try (with_reducible rfl))
  try simp only [List.getElem_toArray, List.getElem_cons_zero, List.getElem_cons_succ, Act.put, List.setIfInBounds_toArray, List.set_cons_zero, List.set_cons_succ]
  refine wpAnyT_take (i := 9) (v := ?v32) [] rfl (by kernel_rfl) (fun _ _ _ h => h) (Or.inl ⟨by rfl, ?hy32⟩) hHeld ?rst32
  case hy32 => (intro wx hSw; obtain ⟨d1, d2, d3⟩ := Bk.facts (Bk.ext HB.out hSw); go_simp; try (with_reducible rfl))
  try simp only [List.getElem_toArray, List.getElem_cons_zero, List.getElem_cons_succ, Act.put, List.setIfInBounds_toArray, List.set_cons_zero, List.set_cons_succ]
  refine wpAnyT_take (i := 10) (v := ?v33) [] rfl (by kernel_rfl) (fun _ _ _ h => h) (Or.inl ⟨by rfl, ?hy33⟩) hHeld ?rst33
  case hy33 => (intro wx hSw; obtain ⟨d1, d2, d3⟩ := Bk.facts (Bk.ext HB.out hSw); go_simp; try (with_reducible rfl))
  try simp only [List.getElem_toArray, List.getElem_cons_zero, List.getElem_cons_succ, Act.put, List.setIfInBounds_toArray, List.set_cons_zero, List.set_cons_succ]
  refine wpAnyT_one (i := 1) (by kernel_rfl) rfl (fun K hK => ?_)
  go_simp
  go_at_call 189
  refine (best0_any x bs bk m _ (Bk.ext HB.out (by (first | exact hHeld | exact ext_drew _ | exact Below.refl _ _))) (Bk.ext HKN.out (by (first | exact hHeld | exact ext_drew _ | exact Below.refl _ _)))).mono ?_
  rintro e6 w6 ⟨bb, rfl, hb6, hx6⟩
  have B6 := ext_trans (show Below V.heap.size V _ from by (first | exact hHeld | exact ext_drew _ | exact Below.refl _ _)) hx6
  have HB6 := Lib.hid hb6
  clear hx6 hb6
  refine hK.out _ _ (B6) (fun hHeld => ?_)
  clear hK K
  try simp only [List.getElem_toArray, List.getElem_cons_zero, List.getElem_cons_succ, Act.put, List.setIfInBounds_toArray, List.set_cons_zero, List.set_cons_succ]
  refine wpAnyT_one (i := 11) (by kernel_rfl) rfl (fun K hK => ?_)
  go_simp
  go_at_call 191
  refine (whole0_any x bs bk m _ (Bk.ext HB.out hHeld)).mono ?_
  rintro e7 w7 ⟨rfl, hx7⟩
  have B7 := ext_trans hHeld hx7
  have HB7 := Lib.hid (HB6.out.ext hx7)
  clear hx7
  refine hK.out _ _ (B7) (fun hHeld => ?_)
  clear hK K
  try simp only [List.getElem_toArray, List.getElem_cons_zero, List.getElem_cons_succ, Act.put, List.setIfInBounds_toArray, List.set_cons_zero, List.set_cons_succ]
  refine wpAnyT_one (i := 12) (by kernel_rfl) rfl (fun K hK => ?_)
  go_simp
  go_at_call 190
  refine (number0_any _).mono ?_
  rintro e8 w8 ⟨rfl, hx8⟩
  have B8 := ext_trans hHeld hx8
  have HB8 := Lib.hid (HB7.out.ext hx8)
  clear hx8
  obtain ⟨k1, k2, k3⟩ := HB8.out.facts
  refine hK.out _ _ (B8) (fun hHeld => ?_)
  clear hK K
  try simp only [List.getElem_toArray, List.getElem_cons_zero, List.getElem_cons_succ, Act.put, List.setIfInBounds_toArray, List.set_cons_zero, List.set_cons_succ]
  refine wpAnyT_one (i := 13) (by kernel_rfl) rfl (fun K hK => ?_)
  go_simp
  refine hK.out _ _ (hHeld) (fun hHeld => ?_)
  clear hK K
  try simp only [List.getElem_toArray, List.getElem_cons_zero, List.getElem_cons_succ, Act.put, List.setIfInBounds_toArray, List.set_cons_zero, List.set_cons_succ]
  refine wpAnyT_one (i := 14) (by kernel_rfl) rfl (fun K hK => ?_)
  go_simp
  refine hK.out _ _ (hHeld) (fun hHeld => ?_)
  clear hK K
  try simp only [List.getElem_toArray, List.getElem_cons_zero, List.getElem_cons_succ, Act.put, List.setIfInBounds_toArray, List.set_cons_zero, List.set_cons_succ]
  refine wpAnyT_take (i := 15) (v := ?v34) [] rfl (by kernel_rfl) (fun _ _ _ h => h) (Or.inl ⟨by rfl, ?hy34⟩) hHeld ?rst34
  case hy34 => (intro wx hSw; obtain ⟨d1, d2, d3⟩ := Bk.facts (Bk.ext HB.out hSw); go_simp; try (with_reducible rfl))
  try simp only [List.getElem_toArray, List.getElem_cons_zero, List.getElem_cons_succ, Act.put, List.setIfInBounds_toArray, List.set_cons_zero, List.set_cons_succ]
  refine wpAnyT_last (by kernel_rfl) (by kernel_rfl) rfl (fun K hK => ?_)
  have HV9 := Lib.hid hHeld
  go_simp
  refine hK.out _ _ ?_
  clear hK K
  go_wp2
  refine bodyPost_ret (v := .tuple #[.int .i64 0, .int .i64 0]) (by simp [results, Tryz.results125, go_sem]) rfl ?_
  exact ⟨rfl, ext_trans HX.out HV9.out⟩
end Go.Proofs.YtjadbipbidghdaaGreatDoor
