/- The journal added to, walked. Conditions: a journal without records on a disk with power. -/
import Derived.Test.YtjadbipbidghdaaGreatDoorHd
import Derived.Deep.AppendLies
namespace Go.Proofs.YtjadbipbidghdaaGreatDoor
open Go.RowKit

theorem some_nilb (W : World) (a : Addr) (n c : Nat) : (binOp .eql 47 (.slice (some a) n c) (.slice none 0 0)).run Tryz.prog W = .ok (.bool false) W := by kernel_rfl
set_option maxRecDepth 100000 in
set_option maxHeartbeats 2000000 in
theorem cloneb_any (a : Addr) (m c B2 : Nat) (w : World) (hm : m ≤ 10000) (h : Rd B2 w (.slice (some a) m c) m) :
    Calls Tryz.prog 57 #[.slice (some a) m c] w fun e w' => ∃ A' c', e = .returned (.slice A' m c') ∧ Below w.heap.size w w' := by
  have hsn := some_nilb
  have hx := ext_alloc w (.cells #[] 5)
  have HX := Lib.hid hx
  have HOW := Lib.hid (show By w.heap.size (w.alloc (.cells #[] 5)) (.slice (some ⟨w.heap.size, 0, none⟩) 0 0) 0 from ⟨[], own_new (news := []) (m := 0) rfl (by decide) (Nat.le_refl _) rfl, fun _ h => by cases h⟩)
  have HR := Lib.hid (show Rd B2 (w.alloc (.cells #[] 5)) (.slice (some a) m c) m from by
    rcases h with ⟨h, _⟩ | ⟨g, off, c', h1, h2, h3, h4⟩
    · cases h
    · exact .inr ⟨g, off, c', h1, h2, Nat.lt_of_lt_of_le h3 hx.size, fun j hj => by
        obtain ⟨u, hu⟩ := h4 j hj
        exact ⟨u, (hx.cell (p := ⟨g, off + j, none⟩) h3).trans hu⟩⟩)
  have hbs : w.heap.size ≤ (w.alloc (.cells #[] 5)).heap.size := hx.size
  clear hx h
  go_enter Tryz.func57, Tryz.ntmps57
  go_wp2_with (at_builtin; refine wpList_app _ rfl _ _ rfl w.heap.size B2 HOW.out (by rfl) HR.out (by rfl) (by omega) (by omega) hbs ?_; intro v5 w5 hv5 hb5 _; obtain ⟨A5, c5, he5, _, _⟩ := hv5.sl; subst he5; have HB5 := Lib.hid ((HX.out).trans hb5); clear hv5 hb5)
  go_ret
  exact ⟨A5, c5, by first | rfl | rw [Nat.zero_add], HB5.out⟩
theorem info_bsl : (Tryz.prog.info? 47).map (fun i => (i.zero, i.size, i.bytes)) = some (some (.slice none 0 0), 1, 24) := by kernel_rfl
set_option maxRecDepth 100000 in
set_option maxHeartbeats 8000000 in
theorem add_any (L D : Nat) (v0 : Value) (n0 s0 : Nat) (B0 : Nat) (a : Addr) (m c : Nat) (w : World) (h : Lg w L (.slice none 0 0) D) (hd : Dk w D v0 (s0 : Int)) (hv : By B0 w v0 n0) (hB0 : B0 ≤ w.heap.size) (hp : Rd w.heap.size w (.slice (some a) m c) m) (hn : n0 ≤ 1000) (hm : m ≤ 5000) (hne : a.block ≠ D ∧ ¬ v0.ownBlock = some a.block) :
    Calls Tryz.prog 15 #[.pointer (some ⟨L, 0, none⟩), .slice (some a) m c] w fun e w' => e = .returned (.int .i64 0) ∧ Chg (fun k => k = L ∨ k = D ∨ v0.ownBlock = some k) w w' := by
  have HRY := Lib.hid (ready_any L _ D (some a) m c w h hm)
  have hLD : L ≠ D := fun e => by
    subst e
    have h1 : w.heap[L]? = _ := h
    have h2 : w.heap[L]? = _ := hd
    rw [h1] at h2
    injection h2 with h2
    injection h2 with _ h2 _
    exact absurd h2 (by decide)
  have hLv : ¬ v0.ownBlock = some L := fun e => by
    obtain ⟨xs, hx, _⟩ := hv
    exact own_ne hx h (by decide) e.symm
  have HLG := Lib.hid h
  have HDK := Lib.hid hd
  have HBY := Lib.hid hv
  have HP := Lib.hid hp
  clear h hd hv hp
  go_enter Tryz.func15, Tryz.ntmps15
  go_upto_region 4 with (go_at_call 52; refine (HRY.out).mono ?_; rintro e w1 ⟨rfl, rfl⟩)
  obtain ⟨V, hV⟩ : ∃ V, V = w1 := ⟨_, rfl⟩
  rw [← hV] at HLG HDK HBY HP hB0 ⊢
  have HVW := Lib.hid hV
  clear hV HRY
  have HF := Lib.hid (show ∀ W, Chg (fun k => k = D ∨ v0.ownBlock = some k) V W → W.cell? ⟨L, 0, none⟩ = some (.int .i64 1) ∧ W.cell? ⟨L, 1, none⟩ = some (.slice none 0 0) ∧ W.cell? ⟨L, 2, none⟩ = some (.slice none 0 0) ∧ W.cell? ⟨L, 3, none⟩ = some (.pointer (some ⟨D, 0, none⟩)) ∧ W.cell? ⟨L, 4, none⟩ = some (.int .i64 0) ∧ W.cell? ⟨L, 5, none⟩ = some (.bool false) ∧ L < W.heap.size from fun W hW => by
    have hk := hW.bk HLG.out (fun e => e.elim hLD hLv)
    exact ⟨hk.cell 0, hk.cell 1, hk.cell 2, hk.cell 3, hk.cell 4, hk.cell 5, hk.lt⟩)
  have HFR := Lib.hid (fun W (hW : Below V.heap.size V W) => (frame_any W.heap.size (.slice none 0 0) (.slice (some a) m c) 0 m W (By.nil _ _) (by
    rcases HP.out with ⟨h, _⟩ | ⟨g, off, c', h1, h2, h3, h4⟩
    · cases h
    · exact .inr ⟨g, off, c', h1, Nat.lt_of_lt_of_le h2 hW.size, Nat.lt_of_lt_of_le h3 hW.size, fun j hj => by
        obtain ⟨u, hu⟩ := h4 j hj
        exact ⟨u, (hW.cell (p := ⟨g, off + j, none⟩) h3).trans hu⟩⟩) (Nat.le_refl _) (by omega) (by omega)).mono (R' := fun e w' => ∃ v', e = .returned v' ∧ By V.heap.size w' v' (m + 8) ∧ Below V.heap.size V w') fun e w' hr => by obtain ⟨v', k1, k2, k3⟩ := hr; rw [Nat.zero_add] at k2; exact ⟨v', k1, k2.base hW.size, hW.trans (k3.mono hW.size)⟩)
  have HAP := Lib.hid (fun v W (hW : Below V.heap.size V W) (hv : By V.heap.size W v (m + 8)) => appendD_any D v0 n0 (s0 : Int) B0 v (m + 8) W.heap.size W (Bk.ext HDK.out hW) (HBY.out.ext hW) (Nat.le_trans hB0 hW.size) (hv.rd (Nat.le_refl _)) (by omega) (by omega))
  refine wp_region_T (S := (fun W => Chg (fun k => k = D ∨ v0.ownBlock = some k) V W)) 11 (by kernel_rfl) (Chg.of (ext_drew _)) (fun hHeld => ?_)
  refine wpAnyT_take (i := 0) (v := ?v1) [] rfl (by kernel_rfl) (fun _ _ _ h => h) (Or.inl ⟨by rfl, ?hy1⟩) hHeld ?rst1
  case hy1 => (intro wx hSw; obtain ⟨q0, q1, q2, q3, q4, q5, q6⟩ := HF.out wx hSw; go_simp; try (with_reducible rfl))
  try simp only [List.getElem_toArray, List.getElem_cons_zero, Act.put, List.setIfInBounds_toArray, List.set_cons_zero, List.set_cons_succ]
  refine wpAnyT_take (i := 1) (v := ?v2) [] rfl (by kernel_rfl) (fun _ _ _ h => h) (Or.inl ⟨by rfl, ?hy2⟩) hHeld ?rst2
  case hy2 => (intro wx hSw; obtain ⟨q0, q1, q2, q3, q4, q5, q6⟩ := HF.out wx hSw; go_simp; try (with_reducible rfl))
  try simp only [List.getElem_toArray, List.getElem_cons_zero, List.getElem_cons_succ, Act.put, List.setIfInBounds_toArray, List.set_cons_zero, List.set_cons_succ]
  refine wpAnyT_take (i := 2) (v := ?v3) [] rfl (by kernel_rfl) (fun _ _ _ h => h) (Or.inl ⟨by rfl, ?hy3⟩) hHeld ?rst3
  case hy3 => (intro wx hSw; obtain ⟨q0, q1, q2, q3, q4, q5, q6⟩ := HF.out wx hSw; go_simp; try (with_reducible rfl))
  try simp only [List.getElem_toArray, List.getElem_cons_zero, List.getElem_cons_succ, Act.put, List.setIfInBounds_toArray, List.set_cons_zero, List.set_cons_succ]
  refine wpAnyT_take (i := 3) (v := ?v4) [] rfl (by kernel_rfl) (fun _ _ _ h => h) (Or.inl ⟨by rfl, ?hy4⟩) hHeld ?rst4
  case hy4 => (intro wx hSw; obtain ⟨q0, q1, q2, q3, q4, q5, q6⟩ := HF.out wx hSw; go_simp; try (with_reducible rfl))
  try simp only [List.getElem_toArray, List.getElem_cons_zero, List.getElem_cons_succ, Act.put, List.setIfInBounds_toArray, List.set_cons_zero, List.set_cons_succ]
  refine wpAnyT_take (i := 4) (v := ?v5) [] rfl (by kernel_rfl) (fun _ _ _ h => h) (Or.inl ⟨by rfl, ?hy5⟩) hHeld ?rst5
  case hy5 => (intro wx hSw; obtain ⟨q0, q1, q2, q3, q4, q5, q6⟩ := HF.out wx hSw; go_simp; try (with_reducible rfl))
  try simp only [List.getElem_toArray, List.getElem_cons_zero, List.getElem_cons_succ, Act.put, List.setIfInBounds_toArray, List.set_cons_zero, List.set_cons_succ]
  refine wpAnyT_take (i := 5) (v := ?v6) [] rfl (by kernel_rfl) (fun _ _ _ h => h) (Or.inl ⟨by rfl, ?hy6⟩) hHeld ?rst6
  case hy6 => (intro wx hSw; obtain ⟨q0, q1, q2, q3, q4, q5, q6⟩ := HF.out wx hSw; go_simp; try (with_reducible rfl))
  try simp only [List.getElem_toArray, List.getElem_cons_zero, List.getElem_cons_succ, Act.put, List.setIfInBounds_toArray, List.set_cons_zero, List.set_cons_succ]
  refine wpAnyT_take (i := 6) (v := ?v7) [] rfl (by kernel_rfl) (fun _ _ _ h => h) (Or.inl ⟨by rfl, ?hy7⟩) hHeld ?rst7
  case hy7 => (intro wx hSw; obtain ⟨q0, q1, q2, q3, q4, q5, q6⟩ := HF.out wx hSw; go_simp; try (with_reducible rfl))
  try simp only [List.getElem_toArray, List.getElem_cons_zero, List.getElem_cons_succ, Act.put, List.setIfInBounds_toArray, List.set_cons_zero, List.set_cons_succ]
  refine wpAnyT_take (i := 7) (v := ?v8) [] rfl (by kernel_rfl) (fun _ _ _ h => h) (Or.inl ⟨by rfl, ?hy8⟩) hHeld ?rst8
  case hy8 => (intro wx hSw; obtain ⟨q0, q1, q2, q3, q4, q5, q6⟩ := HF.out wx hSw; go_simp; try (with_reducible rfl))
  try simp only [List.getElem_toArray, List.getElem_cons_zero, List.getElem_cons_succ, Act.put, List.setIfInBounds_toArray, List.set_cons_zero, List.set_cons_succ]
  refine wpAnyT_take (i := 8) (v := ?v9) [] rfl (by kernel_rfl) (fun _ _ _ h => h) (Or.inl ⟨by rfl, ?hy9⟩) hHeld ?rst9
  case hy9 => (intro wx hSw; obtain ⟨q0, q1, q2, q3, q4, q5, q6⟩ := HF.out wx hSw; go_simp; try (with_reducible rfl))
  try simp only [List.getElem_toArray, List.getElem_cons_zero, List.getElem_cons_succ, Act.put, List.setIfInBounds_toArray, List.set_cons_zero, List.set_cons_succ]
  refine wpAnyT_one (i := 9) (by kernel_rfl) rfl (fun K hK => ?_)
  go_simp
  go_at_call 54
  refine (HFR.out _ (by first | exact ext_drew _ | exact Below.refl _ _)).mono ?_
  rintro e8 w8 ⟨v8, rfl, hv8, hx8⟩
  have X8 := Lib.hid hx8
  have B8 := Chg.of (S := fun k => k = D ∨ v0.ownBlock = some k) hx8
  have HV8 := Lib.hid hv8
  obtain ⟨A8, c8, he8, _, _⟩ := hv8.sl
  subst he8
  clear hx8 hv8
  refine hK.out _ _ (Chg.of (S := fun k => k = D ∨ v0.ownBlock = some k) X8.out) (fun hHeld => ?_)
  clear hK K
  try simp only [List.getElem_toArray, List.getElem_cons_zero, List.getElem_cons_succ, Act.put, List.setIfInBounds_toArray, List.set_cons_zero, List.set_cons_succ]
  refine wpAnyT_one (i := 10) (by kernel_rfl) rfl (fun K hK => ?_)
  go_simp
  go_at_call 53
  refine (HAP.out _ _ X8.out HV8.out).mono ?_
  rintro e9 w9 ⟨rfl, v9, hd9, hv9, hc9⟩
  have B9 := Chg.trans (S := fun k => k = D ∨ v0.ownBlock = some k) hHeld hc9 fun k _ e => e
  have HD9 := Lib.hid hd9
  have HV9 := Lib.hid hv9
  clear hd9 hv9 hc9
  refine hK.out _ _ (B9) (fun hHeld => ?_)
  clear hK K
  try simp only [List.getElem_toArray, List.getElem_cons_zero, List.getElem_cons_succ, Act.put, List.setIfInBounds_toArray, List.set_cons_zero, List.set_cons_succ]
  refine wpAnyT_last (by kernel_rfl) (by kernel_rfl) rfl (fun K hK => ?_)
  go_simp
  refine hK.out _ _ ?_
  clear hK K
  have HC9 := Lib.hid (show Chg (fun k => k = D ∨ v0.ownBlock = some k) V w9 from hHeld)
  have HL2 := Lib.hid (show Lg w9 L (.slice none 0 0) D from HC9.out.bk HLG.out (fun e => e.elim hLD hLv))
  have HP2 := Lib.hid (show Rd w9.heap.size w9 (.slice (some a) m c) m from by
    rcases HP.out with ⟨h, _⟩ | ⟨g, off, c', h1, h2, h3, h4⟩
    · cases h
    · cases h1
      exact .inr ⟨g, off, c, rfl, Nat.lt_of_lt_of_le h3 HC9.out.size, Nat.lt_of_lt_of_le h3 HC9.out.size, fun j hj => by
        obtain ⟨u, hu⟩ := h4 j hj
        exact ⟨u, HC9.out.cell hu (fun e => e.elim hne.1 hne.2)⟩⟩)
  clear hHeld
  go_upto_region 7 with (fail)
  obtain ⟨V2, hV2⟩ : ∃ V2, V2 = w9 := ⟨_, rfl⟩
  rw [← hV2] at HC9 HL2 HP2 HD9 HV9 ⊢
  clear hV2
  have HF2 := Lib.hid (show ∀ W, Chg (fun k => k = D) V2 W → W.cell? ⟨L, 0, none⟩ = some (.int .i64 1) ∧ W.cell? ⟨L, 1, none⟩ = some (.slice none 0 0) ∧ W.cell? ⟨L, 2, none⟩ = some (.slice none 0 0) ∧ W.cell? ⟨L, 3, none⟩ = some (.pointer (some ⟨D, 0, none⟩)) ∧ W.cell? ⟨L, 4, none⟩ = some (.int .i64 0) ∧ W.cell? ⟨L, 5, none⟩ = some (.bool false) ∧ L < W.heap.size from fun W hW => by
    have hk := hW.bk HL2.out hLD
    exact ⟨hk.cell 0, hk.cell 1, hk.cell 2, hk.cell 3, hk.cell 4, hk.cell 5, hk.lt⟩)
  have HSY := Lib.hid (fun W (hW : Below V2.heap.size V2 W) => sync_any D v9 (n0 + (m + 8)) (s0 : Int) B0 W (Bk.ext HD9.out hW) (HV9.out.ext hW))
  refine wp_region_T (S := (fun W => Chg (fun k => k = D) V2 W)) 9 (by kernel_rfl) (Chg.of (ext_drew _)) (fun hHeld => ?_)
  refine wpAnyT_take (i := 0) (v := ?v10) [] rfl (by kernel_rfl) (fun _ _ _ h => h) (Or.inl ⟨by rfl, ?hy10⟩) hHeld ?rst10
  case hy10 => (intro wx hSw; obtain ⟨q0, q1, q2, q3, q4, q5, q6⟩ := HF2.out wx hSw; go_simp; try (with_reducible rfl))
  try simp only [List.getElem_toArray, List.getElem_cons_zero, Act.put, List.setIfInBounds_toArray, List.set_cons_zero, List.set_cons_succ]
  refine wpAnyT_take (i := 1) (v := ?v11) [] rfl (by kernel_rfl) (fun _ _ _ h => h) (Or.inl ⟨by rfl, ?hy11⟩) hHeld ?rst11
  case hy11 => (intro wx hSw; obtain ⟨q0, q1, q2, q3, q4, q5, q6⟩ := HF2.out wx hSw; go_simp; try (with_reducible rfl))
  try simp only [List.getElem_toArray, List.getElem_cons_zero, List.getElem_cons_succ, Act.put, List.setIfInBounds_toArray, List.set_cons_zero, List.set_cons_succ]
  refine wpAnyT_take (i := 2) (v := ?v12) [] rfl (by kernel_rfl) (fun _ _ _ h => h) (Or.inl ⟨by rfl, ?hy12⟩) hHeld ?rst12
  case hy12 => (intro wx hSw; obtain ⟨q0, q1, q2, q3, q4, q5, q6⟩ := HF2.out wx hSw; go_simp; try (with_reducible rfl))
  try simp only [List.getElem_toArray, List.getElem_cons_zero, List.getElem_cons_succ, Act.put, List.setIfInBounds_toArray, List.set_cons_zero, List.set_cons_succ]
  refine wpAnyT_take (i := 3) (v := ?v13) [] rfl (by kernel_rfl) (fun _ _ _ h => h) (Or.inl ⟨by rfl, ?hy13⟩) hHeld ?rst13
  case hy13 => (intro wx hSw; obtain ⟨q0, q1, q2, q3, q4, q5, q6⟩ := HF2.out wx hSw; go_simp; try (with_reducible rfl))
  try simp only [List.getElem_toArray, List.getElem_cons_zero, List.getElem_cons_succ, Act.put, List.setIfInBounds_toArray, List.set_cons_zero, List.set_cons_succ]
  refine wpAnyT_take (i := 4) (v := ?v14) [] rfl (by kernel_rfl) (fun _ _ _ h => h) (Or.inl ⟨by rfl, ?hy14⟩) hHeld ?rst14
  case hy14 => (intro wx hSw; obtain ⟨q0, q1, q2, q3, q4, q5, q6⟩ := HF2.out wx hSw; go_simp; try (with_reducible rfl))
  try simp only [List.getElem_toArray, List.getElem_cons_zero, List.getElem_cons_succ, Act.put, List.setIfInBounds_toArray, List.set_cons_zero, List.set_cons_succ]
  refine wpAnyT_take (i := 5) (v := ?v15) [] rfl (by kernel_rfl) (fun _ _ _ h => h) (Or.inl ⟨by rfl, ?hy15⟩) hHeld ?rst15
  case hy15 => (intro wx hSw; obtain ⟨q0, q1, q2, q3, q4, q5, q6⟩ := HF2.out wx hSw; go_simp; try (with_reducible rfl))
  try simp only [List.getElem_toArray, List.getElem_cons_zero, List.getElem_cons_succ, Act.put, List.setIfInBounds_toArray, List.set_cons_zero, List.set_cons_succ]
  refine wpAnyT_take (i := 6) (v := ?v16) [] rfl (by kernel_rfl) (fun _ _ _ h => h) (Or.inl ⟨by rfl, ?hy16⟩) hHeld ?rst16
  case hy16 => (intro wx hSw; obtain ⟨q0, q1, q2, q3, q4, q5, q6⟩ := HF2.out wx hSw; go_simp; try (with_reducible rfl))
  try simp only [List.getElem_toArray, List.getElem_cons_zero, List.getElem_cons_succ, Act.put, List.setIfInBounds_toArray, List.set_cons_zero, List.set_cons_succ]
  refine wpAnyT_take (i := 7) (v := ?v17) [] rfl (by kernel_rfl) (fun _ _ _ h => h) (Or.inl ⟨by rfl, ?hy17⟩) hHeld ?rst17
  case hy17 => (intro wx hSw; obtain ⟨q0, q1, q2, q3, q4, q5, q6⟩ := HF2.out wx hSw; go_simp; try (with_reducible rfl))
  try simp only [List.getElem_toArray, List.getElem_cons_zero, List.getElem_cons_succ, Act.put, List.setIfInBounds_toArray, List.set_cons_zero, List.set_cons_succ]
  refine wpAnyT_one (i := 8) (by kernel_rfl) rfl (fun K hK => ?_)
  go_simp
  go_at_call 56
  refine (HSY.out _ (by first | exact ext_drew _ | exact Below.refl _ _)).mono ?_
  rintro e10 w10 ⟨rfl, hd10, hc10⟩
  have B10 := Chg.trans (S := fun k => k = D) (Chg.of (by first | exact ext_drew V2 | exact Below.refl _ _)) hc10 fun k _ e => e
  clear hd10 hc10
  refine hK.out _ _ (B10) (fun hHeld => ?_)
  clear hK K
  try simp only [List.getElem_toArray, List.getElem_cons_zero, List.getElem_cons_succ, Act.put, List.setIfInBounds_toArray, List.set_cons_zero, List.set_cons_succ]
  refine wpAnyT_last (by kernel_rfl) (by kernel_rfl) rfl (fun K hK => ?_)
  go_simp
  refine hK.out _ _ ?_
  clear hK K
  have HC10 := Lib.hid (show Chg (fun k => k = D) V2 w10 from hHeld)
  have HL3 := Lib.hid (show Lg w10 L (.slice none 0 0) D from HC10.out.bk HL2.out hLD)
  have HP3 := Lib.hid (show Rd w10.heap.size w10 (.slice (some a) m c) m from by
    rcases HP2.out with ⟨h, _⟩ | ⟨g, off, c', h1, h2, h3, h4⟩
    · cases h
    · cases h1
      exact .inr ⟨g, off, c, rfl, Nat.lt_of_lt_of_le h3 HC10.out.size, Nat.lt_of_lt_of_le h3 HC10.out.size, fun j hj => by
        obtain ⟨u, hu⟩ := h4 j hj
        exact ⟨u, HC10.out.cell hu hne.1⟩⟩)
  clear hHeld HSY HF2 HP2
  go_upto_region 10 with (fail)
  obtain ⟨V3, hV3⟩ : ∃ V3, V3 = w10 := ⟨_, rfl⟩
  rw [← hV3] at HC10 HL3 HP3 ⊢
  clear hV3
  have HF3 := Lib.hid (show ∀ W, Below V3.heap.size V3 W → W.cell? ⟨L, 0, none⟩ = some (.int .i64 1) ∧ W.cell? ⟨L, 1, none⟩ = some (.slice none 0 0) ∧ W.cell? ⟨L, 2, none⟩ = some (.slice none 0 0) ∧ W.cell? ⟨L, 3, none⟩ = some (.pointer (some ⟨D, 0, none⟩)) ∧ W.cell? ⟨L, 4, none⟩ = some (.int .i64 0) ∧ W.cell? ⟨L, 5, none⟩ = some (.bool false) ∧ L < W.heap.size ∧ W.frozen? ⟨L, 2, none⟩ = false from fun W hW => by
    have hk := Bk.ext HL3.out hW
    exact ⟨hk.cell 0, hk.cell 1, hk.cell 2, hk.cell 3, hk.cell 4, hk.cell 5, hk.lt, hk.frozen 2⟩)
  have HCLN := Lib.hid (fun W (hW : Below V3.heap.size V3 W) => cloneb_any a m c W.heap.size W (by omega) (by
    rcases HP3.out with ⟨h, _⟩ | ⟨g, off, c', h1, h2, h3, h4⟩
    · cases h
    · exact .inr ⟨g, off, c', h1, Nat.lt_of_lt_of_le h3 hW.size, Nat.lt_of_lt_of_le h3 hW.size, fun j hj => by
        obtain ⟨u, hu⟩ := h4 j hj
        exact ⟨u, (hW.cell (p := ⟨g, off + j, none⟩) h3).trans hu⟩⟩))
  obtain ⟨i0, hi0, hz0, hz1, hz2⟩ := info_parts info_bsl
  refine wp_region_T (S := (fun W => Below V3.heap.size V3 W)) 13 (by kernel_rfl) (ext_drew _) (fun hHeld => ?_)
  refine wpAnyT_take (i := 0) (v := ?v18) [] rfl (by kernel_rfl) (fun _ _ _ h => h) (Or.inl ⟨by rfl, ?hy18⟩) hHeld ?rst18
  case hy18 => (intro wx hSw; obtain ⟨q0, q1, q2, q3, q4, q5, q6, q7⟩ := HF3.out wx hSw; go_simp; try (with_reducible rfl))
  try simp only [List.getElem_toArray, List.getElem_cons_zero, Act.put, List.setIfInBounds_toArray, List.set_cons_zero, List.set_cons_succ]
  refine wpAnyT_take (i := 1) (v := ?v19) [] rfl (by kernel_rfl) (fun _ _ _ h => h) (Or.inl ⟨by rfl, ?hy19⟩) hHeld ?rst19
  case hy19 => (intro wx hSw; obtain ⟨q0, q1, q2, q3, q4, q5, q6, q7⟩ := HF3.out wx hSw; go_simp; try (with_reducible rfl))
  try simp only [List.getElem_toArray, List.getElem_cons_zero, List.getElem_cons_succ, Act.put, List.setIfInBounds_toArray, List.set_cons_zero, List.set_cons_succ]
  refine wpAnyT_take (i := 2) (v := ?v20) [] rfl (by kernel_rfl) (fun _ _ _ h => h) (Or.inl ⟨by rfl, ?hy20⟩) hHeld ?rst20
  case hy20 => (intro wx hSw; obtain ⟨q0, q1, q2, q3, q4, q5, q6, q7⟩ := HF3.out wx hSw; go_simp; try (with_reducible rfl))
  try simp only [List.getElem_toArray, List.getElem_cons_zero, List.getElem_cons_succ, Act.put, List.setIfInBounds_toArray, List.set_cons_zero, List.set_cons_succ]
  refine wpAnyT_take (i := 3) (v := ?v21) [] rfl (by kernel_rfl) (fun _ _ _ h => h) (Or.inl ⟨by rfl, ?hy21⟩) hHeld ?rst21
  case hy21 => (intro wx hSw; obtain ⟨q0, q1, q2, q3, q4, q5, q6, q7⟩ := HF3.out wx hSw; go_simp; try (with_reducible rfl))
  try simp only [List.getElem_toArray, List.getElem_cons_zero, List.getElem_cons_succ, Act.put, List.setIfInBounds_toArray, List.set_cons_zero, List.set_cons_succ]
  refine wpAnyT_take (i := 4) (v := ?v22) [] rfl (by kernel_rfl) (fun _ _ _ h => h) (Or.inl ⟨by rfl, ?hy22⟩) hHeld ?rst22
  case hy22 => (intro wx hSw; obtain ⟨q0, q1, q2, q3, q4, q5, q6, q7⟩ := HF3.out wx hSw; go_simp; try (with_reducible rfl))
  try simp only [List.getElem_toArray, List.getElem_cons_zero, List.getElem_cons_succ, Act.put, List.setIfInBounds_toArray, List.set_cons_zero, List.set_cons_succ]
  refine wpAnyT_take (i := 5) (v := ?v23) [] rfl (by kernel_rfl) (fun _ _ _ h => h) (Or.inl ⟨by rfl, ?hy23⟩) hHeld ?rst23
  case hy23 => (intro wx hSw; obtain ⟨q0, q1, q2, q3, q4, q5, q6, q7⟩ := HF3.out wx hSw; go_simp; try (with_reducible rfl))
  try simp only [List.getElem_toArray, List.getElem_cons_zero, List.getElem_cons_succ, Act.put, List.setIfInBounds_toArray, List.set_cons_zero, List.set_cons_succ]
  refine wpAnyT_take (i := 6) (v := ?v24) [] rfl (by kernel_rfl) (fun _ _ _ h => h) (Or.inl ⟨by rfl, ?hy24⟩) hHeld ?rst24
  case hy24 => (intro wx hSw; obtain ⟨q0, q1, q2, q3, q4, q5, q6, q7⟩ := HF3.out wx hSw; go_simp; try (with_reducible rfl))
  try simp only [List.getElem_toArray, List.getElem_cons_zero, List.getElem_cons_succ, Act.put, List.setIfInBounds_toArray, List.set_cons_zero, List.set_cons_succ]
  refine wpAnyT_one (i := 7) (by kernel_rfl) rfl (fun K hK => ?_)
  go_simp
  go_at_call 57
  refine (HCLN.out _ (by first | exact ext_drew _ | exact Below.refl _ _)).mono ?_
  rintro e11 w11 ⟨A11, c11, rfl, hx11⟩
  have B11 := ext_trans (by first | exact ext_drew V3 | exact Below.refl _ _) hx11
  clear hx11
  refine hK.out _ _ (B11) (fun hHeld => ?_)
  clear hK K
  try simp only [List.getElem_toArray, List.getElem_cons_zero, List.getElem_cons_succ, Act.put, List.setIfInBounds_toArray, List.set_cons_zero, List.set_cons_succ]
  refine wpAnyT_one (i := 8) (by kernel_rfl) rfl (fun K hK => ?_)
  go_simp
  refine hK.out _ _ (B11.alloc B11.size _) (fun hHeld => ?_)
  clear hK K
  try simp only [List.getElem_toArray, List.getElem_cons_zero, List.getElem_cons_succ, Act.put, List.setIfInBounds_toArray, List.set_cons_zero, List.set_cons_succ]
  refine wpAnyT_one (i := 9) (by kernel_rfl) rfl (fun K hK => ?_)
  refine step_append_lies _ (by rfl) _ _ _ (by rfl) V3.heap.size 47 i0 _ 1 24 Tryz.underlying105 hi0 hz0 hz1 hz2 rfl (by decide) (.slice none 0 0) 0 [] (by rfl) (own_nil _ _ _ _) ⟨w11.heap.size, 0, none⟩ 1 1 [.slice A11 m c11] (by rfl) (by rfl) (World.news_of_block (cs := #[.slice A11 m c11]) (t := 47) (fr := (0, 0)) (heap_alloc_new _ _)) (by simp [Value.oneCell']) (by omega) (by unfold maxLen; omega) (by omega) (by have := B11.size; simp; omega) _ rfl ?_
  intro g12 c12 w12 hown12 hgr12 hat12 hlt12
  have B12 := hHeld.grown hgr12 (by have := hHeld.size; omega) (fun k hk2 => by cases hk2)
  clear hown12 hgr12 hat12
  refine hK.out _ _ (B12) (fun hHeld => ?_)
  clear hK K
  try simp only [List.getElem_toArray, List.getElem_cons_zero, List.getElem_cons_succ, Act.put, List.setIfInBounds_toArray, List.set_cons_zero, List.set_cons_succ]
  refine wpAnyT_take (i := 10) (v := ?v25) [12, 11] rfl (by kernel_rfl) (fun _ _ _ h => h) (Or.inl ⟨by rfl, ?hy25⟩) hHeld ?rst25
  case hy25 => (intro wx hSw; obtain ⟨q0, q1, q2, q3, q4, q5, q6, q7⟩ := HF3.out wx hSw; go_simp; try (with_reducible rfl))
  try simp only [List.getElem_toArray, List.getElem_cons_zero, List.getElem_cons_succ, Act.put, List.setIfInBounds_toArray, List.set_cons_zero, List.set_cons_succ]
  refine wpAnyT_take (i := 11) (v := ?v26) [12] rfl (by kernel_rfl) (fun _ _ _ h => h) (Or.inl ⟨by rfl, ?hy26⟩) hHeld ?rst26
  case hy26 => (intro wx hSw; obtain ⟨q0, q1, q2, q3, q4, q5, q6, q7⟩ := HF3.out wx hSw; go_simp; try (with_reducible rfl))
  try simp only [List.getElem_toArray, List.getElem_cons_zero, List.getElem_cons_succ, Act.put, List.setIfInBounds_toArray, List.set_cons_zero, List.set_cons_succ]
  refine wpAnyT_take (i := 12) (v := ?v27) [] rfl (by kernel_rfl) (fun _ _ _ h => h) (Or.inl ⟨by rfl, ?hy27⟩) hHeld ?rst27
  case hy27 => (intro wx hSw; obtain ⟨q0, q1, q2, q3, q4, q5, q6, q7⟩ := HF3.out wx hSw; go_simp; try (with_reducible rfl))
  try simp only [List.getElem_toArray, List.getElem_cons_zero, List.getElem_cons_succ, Act.put, List.setIfInBounds_toArray, List.set_cons_zero, List.set_cons_succ]
  refine wpAnyT_last (by kernel_rfl) (by kernel_rfl) rfl (fun K hK => ?_)
  obtain ⟨q0, q1, q2, q3, q4, q5, q6, q7⟩ := HF3.out _ hHeld
  go_simp
  refine hK.out _ _ ?_
  clear hK K
  go_wp2
  go_ret
  have h1 := HC9.out.trans HC10.out fun k _ e => .inl e
  have h2 := Chg.trans (S := fun k => k = D ∨ v0.ownBlock = some k) h1 (Chg.of (S := fun k => k = D ∨ v0.ownBlock = some k) (by assumption)) fun k _ e => e
  rw [← HVW.out]
  refine ⟨rfl, (h2.mono (S' := fun k => k = L ∨ k = D ∨ v0.ownBlock = some k) fun k e => .inr e).trans (Chg.set (S := fun k => k = L) _ rfl (j := 2) _) fun k _ e => .inl e⟩
end Go.Proofs.YtjadbipbidghdaaGreatDoor
