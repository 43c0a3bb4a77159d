/- slices.Clone at moves and parted, walked. Conditions: the slice reads as a list of moves. -/
import Derived.Test.YtbhjhajnhpohlaaParP
import Derived.Test.YtbhjhajnhpohlaaTl
import Derived.Deep.RegionLaw
namespace Go.Proofs.Ytbhjhajnhpohlaa
open Go.RowKit

theorem some_nilM (W : World) (a : Addr) (n c : Nat) : (binOp .eql 57 (.slice (some a) n c) (.slice none 0 0)).run Try.prog W = .ok (.bool false) W := by kernel_rfl
theorem wrapI (x : Int) : IntKind.i64.wrap x = wrap64 x := by rw [IntKind.wrap_i64, wrap64]
theorem addr_add (b off j : Nat) : (⟨b, off, none⟩ : Addr).add j = ⟨b, off + j, none⟩ := by
  simp only [Addr.add]
  split <;> simp_all
/-- the cells of a slice of moves -/
theorem msl_cells {w : World} {b off : Nat} {l : List Mv} (h : ∀ j (h : j < l.length), w.cell? ⟨b, off + j * 2, none⟩ = some (.int .i64 l[j].k) ∧ w.cell? ⟨b, off + j * 2 + 1, none⟩ = some (.bool l[j].r)) :
    ∀ (j : Nat) u, (l.flatMap Mv.cells)[j]? = some u → w.cell? ((⟨b, off, none⟩ : Addr).add j) = some u := by
  intro j u hu
  have hf : ∀ a : Mv, (Mv.cells a).length = 2 := fun _ => rfl
  have hj := (List.getElem?_eq_some_iff.1 hu).1
  rw [flat_len hf] at hj
  rw [addr_add]
  obtain ⟨c1, c2⟩ := h (j / 2) (by omega)
  rcases (by omega : j = j / 2 * 2 + 0 ∨ j = j / 2 * 2 + 1) with e | e
  · rw [e, flat_get hf l (j / 2) 0 (by omega) (by omega)] at hu
    have e2 : off + j = off + j / 2 * 2 := by omega
    rw [e2, c1]; exact hu
  · rw [e, flat_get hf l (j / 2) 1 (by omega) (by omega)] at hu
    have e2 : off + j = off + j / 2 * 2 + 1 := by omega
    rw [e2, c2]; exact hu
theorem mvs_one {l : List Mv} : ∀ u ∈ l.flatMap Mv.cells, u.oneCell' = true := by
  intro u hu
  obtain ⟨m, _, hm⟩ := List.mem_flatMap.1 hu
  simp [Mv.cells] at hm
  rcases hm with rfl | rfl <;> rfl
set_option maxRecDepth 100000 in
set_option maxHeartbeats 2000000 in
theorem cloneM_any (b off cap : Nat) (l : List Mv) (w : World) (hl : l.length ≤ 1000) (hb : b < w.heap.size) (h : ∀ j (h : j < l.length), w.cell? ⟨b, off + j * 2, none⟩ = some (.int .i64 l[j].k) ∧ w.cell? ⟨b, off + j * 2 + 1, none⟩ = some (.bool l[j].r)) :
    Calls Try.prog 98 #[.slice (some ⟨b, off, none⟩) l.length cap] w fun e w' => ∃ A' c', e = .returned (.slice A' l.length c') ∧ Vm 72 w.heap.size w' (.slice A' l.length c') l ∧ Below w.heap.size w w' := by
  have hsn := some_nilM
  have hx := ext_alloc w (.cells #[] 72)
  have HOW := Lib.hid (show (w.alloc (.cells #[] 72)).ownsRow w.heap.size 72 2 (.slice (some ⟨w.heap.size, 0, none⟩) 0 0) 0 [] from own_new (Nat.le_refl _) rfl (by decide))
  have HN := Lib.hid (msl_cells (w := w.alloc (.cells #[] 72)) fun j hj => ⟨(hx.cell (p := ⟨b, _, none⟩) hb).trans (h j hj).1, (hx.cell (p := ⟨b, _, none⟩) hb).trans (h j hj).2⟩)
  have HNL := Lib.hid (flat_len (sz := 2) (f := Mv.cells) (fun _ => rfl) l)
  obtain ⟨i, hi, hz, hsz, hby⟩ := info_parts info_move
  have HI := Lib.hid (And.intro hi (And.intro hz (And.intro hsz hby)))
  clear hx h hi hz hsz hby
  go_enter Try.func98, Try.ntmps98
  go_wp2_with (at_builtin; refine wpList_append_own _ rfl _ _ 57 rfl w.heap.size 72 i _ 2 16 Try.underlying57 HI.out.1 HI.out.2.1 HI.out.2.2.1 HI.out.2.2.2 rfl (by decide) _ 0 [] (by rfl) HOW.out ⟨b, off, none⟩ l.length cap (l.flatMap Mv.cells) (by rfl) HNL.out HN.out mvs_one (by unfold maxLen; omega) (by omega) (by simp) ?_; intro v' w' hv hgr _; have HV := Lib.hid hv; have HGR := Lib.hid hgr; clear hv hgr)
  have hv := HV.out
  rw [Nat.zero_add, List.nil_append] at hv
  obtain ⟨A2, cap2, hv2, k1, k2, k3⟩ := Vm.msl (l := l) hv
  subst hv2
  go_ret
  exact ⟨A2, cap2, rfl, hv, ((Below.refl _ w).alloc (Nat.le_refl _) _).grown HGR.out (by simp) (fun k hk => by injection hk with hk; simp at hk; omega)⟩
theorem Vr.base {R M : TypeId} {base base' : Nat} {w : World} {v : Value} {ls : List (List Mv)} (h : Vr R M base w v ls) (hb : base' ≤ base) : Vr R M base' w v ls := by
  obtain ⟨vs, h1, h2, h3⟩ := h
  exact ⟨vs, h1, own_base h2 hb, fun j h h' => own_base (h3 j h h') hb⟩
/-- two rows of moves behind each other -/
theorem vm_cat {M : TypeId} {base : Nat} {w : World} {v : Value} {a b : List Mv} {n m : Nat} (h : w.ownsRow base M 2 v (n + m) (a.flatMap Mv.cells ++ b.flatMap Mv.cells)) (ha : a.length = n) (hb : b.length = m) : Vm M base w v (a ++ b) := by
  unfold Vm
  rw [List.flatMap_append, List.length_append, ha, hb]
  exact h
theorem rotJ_none {ms : List Mv} (h : jmp ms < 0) : rotJ ms = ms := by
  cases hf : ms.findIdx? fun m => decide (m.k < 0) with
  | none => unfold rotJ; rw [hf]
  | some i =>
    unfold jmp at h
    rw [hf] at h
    have h' : (i : Int) < 0 := h
    omega
theorem rotJ_some {ms : List Mv} {q : Nat} (h : jmp ms = (q : Int)) : q < ms.length ∧ rotJ ms = ms.drop (q + 1) ++ ms.take (q + 1) := by
  cases hf : ms.findIdx? fun m => decide (m.k < 0) with
  | none =>
    unfold jmp at h
    rw [hf] at h
    have h' : (-1 : Int) = (q : Int) := h
    omega
  | some i =>
    unfold jmp at h
    rw [hf] at h
    have h' : (i : Int) = (q : Int) := h
    obtain rfl : i = q := by omega
    unfold rotJ
    rw [hf]
    exact ⟨(List.findIdx?_eq_some_iff_getElem.1 hf).1, rfl⟩
set_option maxRecDepth 100000 in
set_option maxHeartbeats 4000000 in
theorem parted_any (C : Option Addr) (cc : Nat) (ms : List Mv) (w : World) (hn : ms.length ≤ 1000) (hcc : ms.length ≤ cc) (hcm : cc ≤ 9223372036854775807) (hr : MSl w C ms) :
    Calls Try.prog 89 #[.slice C ms.length cc] w fun e w' => ∃ v, e = .returned v ∧ Vr 57 72 w.heap.size w' v (spl [] (rotJ ms)) ∧ Below w.heap.size w w' := by
  have HIX := Lib.hid (indexJ_any C cc ms w (by omega) hr)
  have HM := Lib.hid hr
  clear hr
  obtain ⟨ji, hji⟩ : ∃ ji, ji = jmp ms := ⟨_, rfl⟩
  rw [← hji] at HIX
  have HJI := Lib.hid hji
  clear hji
  go_enter Try.func89, Try.ntmps89
  go_upto_region 2 with (go_at_call 96; refine HIX.out.mono ?_; rintro e w1 ⟨rfl, hx1⟩)
  go_cut [11] (fun z wx => z = .bool (decide (0 ≤ ji)) ∧ wx = w1)
  case first =>
    go_wp2
    go_meet
    case rel => exact ⟨rfl, rfl⟩
  case rest =>
    obtain ⟨rfl, rfl⟩ := hcut
    rename_i hKc
    refine hKc _ _ ?_
    go_cut [0] (fun z wx => ∃ A' c', z = .slice A' ms.length c' ∧ MSl wx A' (rotJ ms) ∧ ms.length ≤ c' ∧ c' ≤ 9223372036854775807 ∧ Below w.heap.size w wx)
    case first =>
      by_cases hj0 : 0 ≤ ji
      · obtain ⟨q, rfl⟩ := Int.eq_ofNat_of_zero_le hj0
        obtain ⟨hq, hrot⟩ := rotJ_some HJI.out.symm
        have HR := Lib.hid hrot
        rcases HM.out with hf | ⟨b, off, rfl, hblt, hcl⟩
        · rw [hf] at hq; simp at hq
        have HMI := Lib.hid hcl
        clear hrot hcl hj0
        have hcut1 : decide ((0 : Int) ≤ (q : Int)) = true := by simp
        rw [hcut1]
        go_upto_region 3 with fail
        have i1 : IntKind.i64.wrap ((q : Int) + 1) = ((q + 1 : Nat) : Int) := by rw [wrapI]; unfold wrap64; omega
        have i0 : (0 : Int) ≤ (q : Int) + 1 := by omega
        have i2 : (q : Int) + 1 ≤ (ms.length : Int) := by omega
        have i3 : (q : Int) + 1 ≤ (cc : Int) := by omega
        have HNL := Lib.hid (flat_len (sz := 2) (f := Mv.cells) (fun _ => rfl) (ms.take (q + 1)))
        have hdl : (ms.drop (q + 1)).length = ms.length - (q + 1) := List.length_drop
        have htl : (ms.take (q + 1)).length = q + 1 := by rw [List.length_take]; omega
        have HTL := Lib.hid htl
        have HDL := Lib.hid hdl
        have HX1 := Lib.hid hx1
        have HDR := Lib.hid (show ∀ W, Below w.heap.size w W → (cc = q + 1 ∨ off + (q + 1) * 2 = off + (q + 1) * 2) → ∀ j (h : j < (ms.drop (q + 1)).length), W.cell? ⟨b, off + (q + 1) * 2 + j * 2, none⟩ = some (.int .i64 (ms.drop (q + 1))[j].k) ∧ W.cell? ⟨b, off + (q + 1) * 2 + j * 2 + 1, none⟩ = some (.bool (ms.drop (q + 1))[j].r) from fun W hW _ j hj => by
          obtain ⟨c1, c2⟩ := HMI.out (q + 1 + j) (by omega)
          rw [List.getElem_drop]
          refine ⟨(hW.cell (p := ⟨b, _, none⟩) hblt).trans ?_, (hW.cell (p := ⟨b, _, none⟩) hblt).trans ?_⟩
          · rw [show off + (q + 1) * 2 + j * 2 = off + (q + 1 + j) * 2 by omega]; exact c1
          · rw [show off + (q + 1) * 2 + j * 2 + 1 = off + (q + 1 + j) * 2 + 1 by omega]; exact c2)
        clear hdl htl
        have HTK := Lib.hid (show ∀ W, Below w.heap.size w W → ∀ j (h : j < (ms.take (q + 1)).length), W.cell? ⟨b, off + j * 2, none⟩ = some (.int .i64 (ms.take (q + 1))[j].k) ∧ W.cell? ⟨b, off + j * 2 + 1, none⟩ = some (.bool (ms.take (q + 1))[j].r) from fun W hW j hj => by
          obtain ⟨c1, c2⟩ := HMI.out j (by rw [HTL.out] at hj; omega)
          rw [List.getElem_take]
          exact ⟨(hW.cell (p := ⟨b, _, none⟩) hblt).trans c1, (hW.cell (p := ⟨b, _, none⟩) hblt).trans c2⟩)
        obtain ⟨ii, hi, hz, hsz, hby⟩ := info_parts info_move
        have HI := Lib.hid (And.intro hi (And.intro hz (And.intro hsz hby)))
        clear hi hz hsz hby
        by_cases hce : cc = q + 1
        · subst hce
          have hml : ms.length = q + 1 := by omega
          have HML := Lib.hid hml
          refine wp_region_T (S := fun wx => Below w.heap.size w wx) 10 (by kernel_rfl) (bdrewN hx1 1) (fun hHeld => ?_)
          refine wpAnyT_take (i := 0) (v := ?v1) [] rfl (by kernel_rfl) (fun _ _ _ h => h) (Or.inl ⟨by rfl, ?hy1⟩) hHeld ?rst1
          case hy1 => (intro wx hSw; skip; go_simp; try (with_reducible rfl))
          try simp only [List.getElem_toArray, List.getElem_cons_zero, Act.put, List.setIfInBounds_toArray, List.set_cons_zero, List.set_cons_succ]
          refine wpAnyT_take (i := 1) (v := ?v2) [] rfl (by kernel_rfl) (fun _ _ _ h => h) (Or.inl ⟨by rfl, ?hy2⟩) hHeld ?rst2
          case hy2 => (intro wx hSw; skip; go_simp; try (with_reducible rfl))
          try simp only [List.getElem_toArray, List.getElem_cons_zero, List.getElem_cons_succ, Act.put, List.setIfInBounds_toArray, List.set_cons_zero, List.set_cons_succ]
          refine wpAnyT_take (i := 2) (v := ?v3) [] rfl (by kernel_rfl) (fun _ _ _ h => h) (Or.inl ⟨by rfl, ?hy3⟩) hHeld ?rst3
          case hy3 => (intro wx hSw; skip; go_simp; try (with_reducible rfl))
          try simp only [List.getElem_toArray, List.getElem_cons_zero, List.getElem_cons_succ, Act.put, List.setIfInBounds_toArray, List.set_cons_zero, List.set_cons_succ]
          refine wpAnyT_take (i := 3) (v := ?v4) [] rfl (by kernel_rfl) (fun _ _ _ h => h) (Or.inl ⟨by rfl, ?hy4⟩) hHeld ?rst4
          case hy4 => (intro wx hSw; skip; go_simp; try (with_reducible rfl))
          try simp only [List.getElem_toArray, List.getElem_cons_zero, List.getElem_cons_succ, Act.put, List.setIfInBounds_toArray, List.set_cons_zero, List.set_cons_succ]
          refine wpAnyT_take (i := 5) (v := ?v5) [] rfl (by kernel_rfl) (fun _ _ _ h => h) (Or.inl ⟨by rfl, ?hy5⟩) hHeld ?rst5
          case hy5 => (intro wx hSw; skip; go_simp; try (with_reducible rfl))
          try simp only [List.getElem_toArray, List.getElem_cons_zero, List.getElem_cons_succ, Act.put, List.setIfInBounds_toArray, List.set_cons_zero, List.set_cons_succ]
          refine wpAnyT_take (i := 6) (v := ?v6) [] rfl (by kernel_rfl) (fun _ _ _ h => h) (Or.inl ⟨by rfl, ?hy6⟩) hHeld ?rst6
          case hy6 => (intro wx hSw; skip; go_simp; try (with_reducible rfl))
          try simp only [List.getElem_toArray, List.getElem_cons_zero, List.getElem_cons_succ, Act.put, List.setIfInBounds_toArray, List.set_cons_zero, List.set_cons_succ]
          refine wpAnyT_take (i := 7) (v := ?v7) [] rfl (by kernel_rfl) (fun _ _ _ h => h) (Or.inl ⟨by rfl, ?hy7⟩) hHeld ?rst7
          case hy7 => (intro wx hSw; skip; go_simp; try (with_reducible rfl))
          try simp only [List.getElem_toArray, List.getElem_cons_zero, List.getElem_cons_succ, Act.put, List.setIfInBounds_toArray, List.set_cons_zero, List.set_cons_succ]
          refine wpAnyT_take (i := 8) (v := ?v8) [] rfl (by kernel_rfl) (fun _ _ _ h => h) (Or.inl ⟨by rfl, ?hy8⟩) hHeld ?rst8
          case hy8 => (intro wx hSw; skip; go_simp; try (with_reducible rfl))
          try simp only [List.getElem_toArray, List.getElem_cons_zero, List.getElem_cons_succ, Act.put, List.setIfInBounds_toArray, List.set_cons_zero, List.set_cons_succ]
          refine wpAnyT_one (i := 4) (by kernel_rfl) rfl (fun K hK => ?_)
          go_simp
          go_at_call 98
          skip
          refine (cloneM_any b off 0 ([] : List Mv) _ (by simp) (by have := HX1.out.size; simp; omega) (fun j hj => absurd hj (by simp))).mono ?_
          rintro e w2 ⟨A2, c2, rfl, hv2, hx2⟩
          have B2 := bext (bdrewN HX1.out 1) hx2 HX1.out.size
          have HV2 := Lib.hid hv2
          clear hv2
          refine hK.out _ _ (B2) (fun hHeld => ?_)
          clear hK K
          try simp only [List.getElem_toArray, List.getElem_cons_zero, List.getElem_cons_succ, Act.put, List.setIfInBounds_toArray, List.set_cons_zero, List.set_cons_succ]
          refine wpAnyT_one (i := 9) (by kernel_rfl) rfl (fun K hK => ?_)
          refine step_append_lies _ (by rfl) _ _ 57 (by rfl) w.heap.size 72 ii _ 2 16 Try.underlying57 HI.out.1 HI.out.2.1 HI.out.2.2.1 HI.out.2.2.2 rfl (by decide) _ 0 [] (by rfl) (HV2.out.base HX1.out.size) ⟨b, off, none⟩ (q + 1) (q + 1) ((ms.take (q + 1)).flatMap Mv.cells) (by rfl) (HNL.out.trans (by rw [HTL.out])) (msl_cells (HTK.out _ B2)) mvs_one (by omega) (by have := HDL.out; unfold maxLen; omega) (by have := HDL.out; omega) (by have := B2.size; omega) _ rfl ?_
          intro g9 c9 w9 hv hgr _ _
          have B3 := B2.grown hgr B2.size (fun k hk => Nat.le_trans HX1.out.size (own_lt HV2.out k hk).1)
          have HV3 := Lib.hid (vm_cat (a := ([] : List Mv)) (b := ms.take (q + 1)) hv (by rfl) HTL.out)
          clear hv hgr
          refine hK.out _ _ (B3) (fun hHeld => ?_)
          clear hK K
          try simp only [List.getElem_toArray, List.getElem_cons_zero, List.getElem_cons_succ, Act.put, List.setIfInBounds_toArray, List.set_cons_zero, List.set_cons_succ]
          refine wpAnyT_last (by kernel_rfl) (by kernel_rfl) rfl (fun K hK => ?_)
          go_simp
          refine hK.out _ _ ?_
          clear hK K
          go_wp2
          go_meet
          case rel =>
            have hv := HV3.out
            obtain ⟨A3, c3, hv3, k1, k2, k3⟩ := hv.msl
            injection hv3 with e1 e2 e3
            refine ⟨some ⟨g9, 0, none⟩, c9, by rw [HML.out], ?_, ?_, ?_, B3⟩
            · rw [HR.out, e1, List.drop_of_length_le (by omega)]; exact k3
            · rw [e3, HML.out]; simpa [HTL.out] using k1
            · rw [e3]; unfold maxLen at k2; omega
        · skip
          refine wp_region_T (S := fun wx => Below w.heap.size w wx) 10 (by kernel_rfl) (bdrewN hx1 1) (fun hHeld => ?_)
          refine wpAnyT_take (i := 0) (v := ?v9) [] rfl (by kernel_rfl) (fun _ _ _ h => h) (Or.inl ⟨by rfl, ?hy9⟩) hHeld ?rst9
          case hy9 => (intro wx hSw; skip; go_simp; try (with_reducible rfl))
          try simp only [List.getElem_toArray, List.getElem_cons_zero, Act.put, List.setIfInBounds_toArray, List.set_cons_zero, List.set_cons_succ]
          refine wpAnyT_take (i := 1) (v := ?v10) [] rfl (by kernel_rfl) (fun _ _ _ h => h) (Or.inl ⟨by rfl, ?hy10⟩) hHeld ?rst10
          case hy10 => (intro wx hSw; skip; go_simp; try (with_reducible rfl))
          try simp only [List.getElem_toArray, List.getElem_cons_zero, List.getElem_cons_succ, Act.put, List.setIfInBounds_toArray, List.set_cons_zero, List.set_cons_succ]
          refine wpAnyT_take (i := 2) (v := ?v11) [] rfl (by kernel_rfl) (fun _ _ _ h => h) (Or.inl ⟨by rfl, ?hy11⟩) hHeld ?rst11
          case hy11 => (intro wx hSw; skip; go_simp; try (with_reducible rfl))
          try simp only [List.getElem_toArray, List.getElem_cons_zero, List.getElem_cons_succ, Act.put, List.setIfInBounds_toArray, List.set_cons_zero, List.set_cons_succ]
          refine wpAnyT_take (i := 3) (v := ?v12) [] rfl (by kernel_rfl) (fun _ _ _ h => h) (Or.inl ⟨by rfl, ?hy12⟩) hHeld ?rst12
          case hy12 => (intro wx hSw; skip; go_simp; try (with_reducible rfl))
          try simp only [List.getElem_toArray, List.getElem_cons_zero, List.getElem_cons_succ, Act.put, List.setIfInBounds_toArray, List.set_cons_zero, List.set_cons_succ]
          refine wpAnyT_take (i := 5) (v := ?v13) [] rfl (by kernel_rfl) (fun _ _ _ h => h) (Or.inl ⟨by rfl, ?hy13⟩) hHeld ?rst13
          case hy13 => (intro wx hSw; skip; go_simp; try (with_reducible rfl))
          try simp only [List.getElem_toArray, List.getElem_cons_zero, List.getElem_cons_succ, Act.put, List.setIfInBounds_toArray, List.set_cons_zero, List.set_cons_succ]
          refine wpAnyT_take (i := 6) (v := ?v14) [] rfl (by kernel_rfl) (fun _ _ _ h => h) (Or.inl ⟨by rfl, ?hy14⟩) hHeld ?rst14
          case hy14 => (intro wx hSw; skip; go_simp; try (with_reducible rfl))
          try simp only [List.getElem_toArray, List.getElem_cons_zero, List.getElem_cons_succ, Act.put, List.setIfInBounds_toArray, List.set_cons_zero, List.set_cons_succ]
          refine wpAnyT_take (i := 7) (v := ?v15) [] rfl (by kernel_rfl) (fun _ _ _ h => h) (Or.inl ⟨by rfl, ?hy15⟩) hHeld ?rst15
          case hy15 => (intro wx hSw; skip; go_simp; try (with_reducible rfl))
          try simp only [List.getElem_toArray, List.getElem_cons_zero, List.getElem_cons_succ, Act.put, List.setIfInBounds_toArray, List.set_cons_zero, List.set_cons_succ]
          refine wpAnyT_take (i := 8) (v := ?v16) [] rfl (by kernel_rfl) (fun _ _ _ h => h) (Or.inl ⟨by rfl, ?hy16⟩) hHeld ?rst16
          case hy16 => (intro wx hSw; skip; go_simp; try (with_reducible rfl))
          try simp only [List.getElem_toArray, List.getElem_cons_zero, List.getElem_cons_succ, Act.put, List.setIfInBounds_toArray, List.set_cons_zero, List.set_cons_succ]
          refine wpAnyT_one (i := 4) (by kernel_rfl) rfl (fun K hK => ?_)
          go_simp
          go_at_call 98
          rw [← HDL.out]
          refine (cloneM_any b (off + (q + 1) * 2) (cc - (q + 1)) (ms.drop (q + 1)) _ (by rw [HDL.out]; omega) (by have := HX1.out.size; simp; omega) (HDR.out _ (bdrewN HX1.out 1) (.inr rfl))).mono ?_
          rintro e w2 ⟨A2, c2, rfl, hv2, hx2⟩
          have B2 := bext (bdrewN HX1.out 1) hx2 HX1.out.size
          have HV2 := Lib.hid hv2
          clear hv2
          refine hK.out _ _ (B2) (fun hHeld => ?_)
          clear hK K
          try simp only [List.getElem_toArray, List.getElem_cons_zero, List.getElem_cons_succ, Act.put, List.setIfInBounds_toArray, List.set_cons_zero, List.set_cons_succ]
          refine wpAnyT_one (i := 9) (by kernel_rfl) rfl (fun K hK => ?_)
          refine step_append_lies _ (by rfl) _ _ 57 (by rfl) w.heap.size 72 ii _ 2 16 Try.underlying57 HI.out.1 HI.out.2.1 HI.out.2.2.1 HI.out.2.2.2 rfl (by decide) _ (ms.drop (q + 1)).length ((ms.drop (q + 1)).flatMap Mv.cells) (by rfl) (HV2.out.base HX1.out.size) ⟨b, off, none⟩ (q + 1) cc ((ms.take (q + 1)).flatMap Mv.cells) (by rfl) (HNL.out.trans (by rw [HTL.out])) (msl_cells (HTK.out _ B2)) mvs_one (by omega) (by have := HDL.out; unfold maxLen; omega) (by have := HDL.out; omega) (by have := B2.size; omega) _ rfl ?_
          intro g9 c9 w9 hv hgr _ _
          have B3 := B2.grown hgr B2.size (fun k hk => Nat.le_trans HX1.out.size (own_lt HV2.out k hk).1)
          have HV3 := Lib.hid (vm_cat (a := (ms.drop (q + 1))) (b := ms.take (q + 1)) hv (by rfl) HTL.out)
          clear hv hgr
          refine hK.out _ _ (B3) (fun hHeld => ?_)
          clear hK K
          try simp only [List.getElem_toArray, List.getElem_cons_zero, List.getElem_cons_succ, Act.put, List.setIfInBounds_toArray, List.set_cons_zero, List.set_cons_succ]
          refine wpAnyT_last (by kernel_rfl) (by kernel_rfl) rfl (fun K hK => ?_)
          go_simp
          refine hK.out _ _ ?_
          clear hK K
          go_wp2
          go_meet
          case rel =>
            have hv := HV3.out
            obtain ⟨A3, c3, hv3, k1, k2, k3⟩ := hv.msl
            injection hv3 with e1 e2 e3
            have hl := HDL.out
            have hl2 := HTL.out
            rw [List.length_append, hl, hl2] at k1
            refine ⟨some ⟨g9, 0, none⟩, c9, by congr 1; omega, ?_, ?_, ?_, B3⟩
            · rw [HR.out, e1]; exact k3
            · rw [e3]; omega
            · rw [e3]; unfold maxLen at k2; omega
      · have HR := Lib.hid (rotJ_none (by rw [← HJI.out]; omega))
        have hcut1 : decide ((0 : Int) ≤ ji) = false := by simpa using hj0
        rw [hcut1]
        go_wp2
        go_meet
        case rel => exact ⟨C, cc, rfl, by rw [HR.out]; exact HM.out.ext hx1, hcc, hcm, hx1⟩
    case rest =>
      obtain ⟨A', c', rfl, hm, hc1, hc2, hb⟩ := hcut
      go_step
      obtain ⟨gs, hgs⟩ : ∃ gs, gs = rotJ ms := ⟨_, rfl⟩
      have HGL := Lib.hid (show gs.length = ms.length by rw [hgs]; exact (rotJ_perm ms).length_eq)
      rw [← hgs] at hm
      have HGS := Lib.hid hgs
      have HM2 := Lib.hid hm
      obtain ⟨wo, hwo⟩ : ∃ wo : World, wo = wc := ⟨_, rfl⟩
      subst hwo
      have HB := Lib.hid hb
      have hwsz := hb.size
      clear hm hgs hb
      go_wp2_with (fail)
      go_loopg [24, 4, 5] gs.length (fun g i z y wr => ∃ (k : Nat) (R : List (List Mv)) (acc : List Mv) (wB : World), i = .int .i64 k ∧ k ≤ gs.length ∧ g = gs.length - k ∧ Below wo.heap.size wo wB ∧ Below wB.heap.size wB wr ∧ Vr 57 72 wo.heap.size wB z R ∧ Vm 72 wB.heap.size wr y acc ∧ spl [] gs = R ++ spl acc (gs.drop k) ∧ R.length + acc.length ≤ k)
      case atStart => exact ⟨0, [], [], wo, rfl, by omega, by omega, Below.refl _ _, Below.refl _ _, Vr.nil _ _ _ _, Vm.nil _ _ _, rfl, by simp⟩
      case round =>
        obtain ⟨k, R, acc, wB, rfl, hk, hg, hbB, hbR, hvr, hvm, hsp, hln⟩ := hrel
        have hbr := bext hbB hbR hbB.size
        have HBB := Lib.hid hbB
        have HBR := Lib.hid hbR
        have hszB := hbR.size
        have HVRB := Lib.hid hvr
        have hvr := hvr.ext hbR
        have HG := Lib.hid hg
        have HVR := Lib.hid hvr
        have HVM := Lib.hid hvm
        have HSP := Lib.hid hsp
        obtain ⟨A1, c1, hz1, -, -, -⟩ := hvr.rsl
        obtain ⟨A2, c2, hz2, -, -, -⟩ := hvm.msl
        subst hz1 hz2
        have hgl := HGL.out
        clear hg hvr hvm hsp hbB hbR
        by_cases hlt : k < gs.length
        · rcases HM2.out.ext hbr with hf | ⟨b, off, rfl, hblt, hcl⟩
          · rw [hf] at hlt; simp at hlt
          obtain ⟨d1, d2⟩ := hcl k hlt
          have HDR := Lib.hid (List.drop_eq_getElem_cons hlt)
          obtain ⟨m, hm⟩ : ∃ m, m = gs[k] := ⟨_, rfl⟩
          rw [← hm] at d1 d2 HDR
          clear hm hcl
          obtain ⟨mk, mr⟩ := m
          dsimp only at d1 d2
          have hlt2 : k < ms.length := by omega
          have HX2 := Lib.hid (ext_alloc wr (.cells #[.int .i64 mk, .bool mr] 72))
          have HB2 := Lib.hid (Bk.new 72 wr #[.int .i64 mk, .bool mr])
          by_cases hj : 0 ≤ mk
          · have HSP2 := Lib.hid (show spl [] gs = R ++ spl (acc ++ [⟨mk, mr⟩]) (gs.drop (k + 1)) by rw [HSP.out, HDR.out, spl_keep (show (0 : Int) ≤ (⟨mk, mr⟩ : Mv).k from hj)])
            go_wp2_with (at_builtin; refine wpList_pushM Try.underlying57 info_move _ rfl _ _ rfl wB.heap.size (own_ext HVM.out HX2.out) (by rfl) (by rfl) (by simp) ?hn5 ?hb5 ?_; (case hn5 => omega); (case hb5 => simp; omega); intro v5 w5 hv5 hb5 hk5; have HV5 := Lib.hid hv5; have HB5 := Lib.hid hb5; have HK5 := Lib.hid hk5; clear hv5 hb5 hk5)
            go_roundg (ms.length - (k + 1))
            case measure => have := HG.out; omega
            case rel =>
              exact ⟨k + 1, R, acc ++ [⟨mk, mr⟩], wB, by go_num, by omega, by omega, HBB.out, (bext HBR.out HX2.out HBR.out.size).trans HB5.out, HVRB.out, HV5.out, HSP2.out, by simp; omega⟩
          · have HSP2 := Lib.hid (show spl [] gs = (R ++ [acc]) ++ spl [] (gs.drop (k + 1)) by rw [HSP.out, HDR.out, spl_jump (show (⟨mk, mr⟩ : Mv).k < 0 from by show mk < 0; omega)]; simp)
            go_wp2_with (at_builtin; refine wpList_pushR Try.underlying47 info_moves (by decide) _ rfl _ _ rfl wo.heap.size (HVR.out.ext HX2.out) (by rfl) (own_base (own_ext HVM.out HX2.out) HBB.out.size) (by rfl) (by simp) ?hn6 ?hb6 ?_; (case hn6 => omega); (case hb6 => have := hbr.size; simp; omega); intro v6 w6 hv6 hb6 hk6; have HV6 := Lib.hid hv6; have HB6 := Lib.hid hb6; clear hv6 hb6 hk6)
            go_roundg (ms.length - (k + 1))
            case measure => have := HG.out; omega
            case rel => exact ⟨k + 1, R ++ [acc], [], _, by go_num, by omega, by omega, (bext hbr HX2.out hbr.size).trans HB6.out, Below.refl _ _, HV6.out, Vm.nil _ _ _, HSP2.out, by simp; omega⟩
        · obtain rfl : k = gs.length := by omega
          have hsp2 := HSP.out
          rw [List.drop_length] at hsp2
          by_cases hac : acc = []
          · have HF := Lib.hid (show spl [] (rotJ ms) = R by rw [← HGS.out, hsp2, hac]; simp [spl_nil])
            subst hac
            clear hsp2
            go_wp2_with (fail)
            go_ret
            exact ⟨_, rfl, by rw [HF.out]; exact HVR.out.base hwsz, bext HB.out hbr hwsz⟩
          · have HF := Lib.hid (show spl [] (rotJ ms) = R ++ [acc] by rw [← HGS.out, hsp2, spl_nil_open hac])
            have hal : 0 < acc.length := List.length_pos_iff.2 hac
            clear hsp2 hac
            go_wp2_with (at_builtin; refine wpList_pushR Try.underlying47 info_moves (by decide) _ rfl _ _ rfl wo.heap.size HVR.out (by rfl) (own_base HVM.out HBB.out.size) (by rfl) (by simp) ?hn6 ?hb6 ?_; (case hn6 => omega); (case hb6 => have := hbr.size; simp; omega); intro v6 w6 hv6 hb6 hk6; have HV6 := Lib.hid hv6; have HB6 := Lib.hid hb6; clear hv6 hb6 hk6)
            go_ret
            exact ⟨_, rfl, by rw [HF.out]; exact HV6.out.base hwsz, (bext HB.out hbr hwsz).trans (HB6.out.mono hwsz)⟩
end Go.Proofs.Ytbhjhajnhpohlaa
