/- Thread walked, the program's. Conditions: the slice reads as a list of seams. -/
import Derived.Test.YtbhjhajnhpohlaaThP
namespace Go.Proofs.Ytbhjhajnhpohlaa
open Go.RowKit

/-- what Thread answers -/
def RetTh (w : World) (N : Int) (l : List Sm) (e : Ending) (w' : World) : Prop :=
  Below w.heap.size w w' ∧ ((¬ GOk N l ∧ e = .returned (.tuple #[.slice none 0 0, .int .i64 2])) ∨ (GOk N l ∧ ∃ b, e = .returned (.tuple #[.slice (some ⟨b, 0, none⟩) 8 8, .int .i64 0]) ∧ Ow 3 b 8 (thV N l) w'))
theorem RetTh.cpd {w : World} {N : Int} {l : List Sm} {e : Ending} {w' : World} (h : RetTh w N (cpy l) e w') : RetTh w N l e w' := by
  obtain ⟨hb, h⟩ := h
  refine ⟨hb, ?_⟩
  rcases h with ⟨h1, h2⟩ | ⟨h1, h2⟩
  · exact .inl ⟨fun h => h1 (cpy_ok.2 h), h2⟩
  · have hg := cpy_ok.1 h1
    rw [cpy_eq hg] at h2
    exact .inr ⟨hg, h2⟩
/-- Thread's own memory: the graph's box, the numbers -/
def ThS (w : World) (N : Int) (A : Option Addr) (m cap : Nat) (T : TypeId) (ob : Nat) (d : Nat → Int) (wr : World) : Prop :=
  Below w.heap.size w wr ∧ Bk T wr w.heap.size #[.int .i64 N, .slice A m cap] ∧ Ow 3 ob 8 d wr ∧ w.heap.size < ob
section
variable {w : World} {N : Int} {A : Option Addr} {m cap : Nat} {T : TypeId} {ob : Nat} {d : Nat → Int} {wr w' : World}
theorem ThS.ext (h : ThS w N A m cap T ob d wr) (hb : Below wr.heap.size wr w') : ThS w N A m cap T ob d w' := ⟨bext h.1 hb h.1.size, h.2.1.ext hb, h.2.2.1.ext hb, h.2.2.2⟩
theorem ThS.set (h : ThS w N A m cap T ob d wr) (i : Nat) (x : Int) : ThS w N A m cap T ob (upd d i x) (wr.setCell ⟨ob, i, none⟩ (.int .i64 x)) :=
  ⟨h.1.setCell (by show w.heap.size ≤ ob; have := h.2.2.2; omega) _, h.2.1.set_ne (by have := h.2.2.2; omega) _, h.2.2.1.set i x, h.2.2.2⟩
end
theorem zeros8 (W : World) : (Instr.makeSlice 35 (.int .i64 8) (.int .i64 8)).run Try.prog W = .ok (.slice (some ⟨W.heap.size, 0, none⟩) 8 8) (W.alloc (.cells (cellsOf 8 fun _ => 0) 3)) := run_zeros 8 (by omega) W
theorem addR_bd {N : Int} {l : List Sm} (hl : ∀ s ∈ l, SmOk N s) {R : List (List Mv)} (hR : ∀ r ∈ R, 0 ≤ runT l r) (t k : Nat) (hk : k ≤ R.length) : 0 ≤ addR l (addS (fun _ => 0) l l.length) R k t ∧ addR l (addS (fun _ => 0) l l.length) R k t ≤ 30000 * l.length + 10 * k := by
  have h1 := addS_bd hl t l.length (Nat.le_refl _)
  rw [addR_cnt _ R hR t k hk]
  have h2 : ((R.take k).countP fun r => decide (runT l r = (t : Int))) ≤ k := Nat.le_trans List.countP_le_length (by rw [List.length_take]; omega)
  omega
set_option maxRecDepth 100000 in
set_option maxHeartbeats 8000000 in
theorem Thread_any (N : Int) (A : Option Addr) (cap : Nat) (l : List Sm) (w : World) (hc : l.length ≤ cap) (hcm : cap ≤ 9223372036854775807) (h : SSl w A l) :
    Calls Try.prog 52 #[.agg #[.int .i64 N, .slice A l.length cap]] w (RetTh w N l) := by
  have HV := Lib.hid (fun W (h : SSl W A l) => valid_any N A cap l W hc hcm h)
  have HX := Lib.hid (ext_alloc w (.cells #[.int .i64 N, .slice A l.length cap] 30))
  have HB := Lib.hid (Bk.new 30 w #[.int .i64 N, .slice A l.length cap])
  have H := Lib.hid h
  by_cases hok : GOk N l
  · have hv := vldG_yes hok
    rw [hv] at HV
    have HOK := Lib.hid hok
    have l64 := hok.2.2.1
    have HR := Lib.hid (show ∀ W, SSl W A l → Calls Try.prog 71 #[.agg #[.int .i64 N, .slice A l.length cap]] W fun e w' => ∃ v R, e = .returned v ∧ Vr 57 72 W.heap.size w' v R ∧ RunsI l (fun _ => True) (cE N l) R ∧ Below W.heap.size W w' from fun W h => by
      obtain ⟨n, hn⟩ := Int.eq_ofNat_of_zero_le (show 0 ≤ N by have := hok.1; omega)
      subst hn
      exact runs7_any n A cap l W hok hc hcm h)
    have hmk := zeros8
    clear hok hv h
    go_enter Try.func52, Try.ntmps52
    go_wp2_with (go_at_call 21; refine (HV.out _ (H.out.ext HX.out)).mono ?_; rintro e w1 ⟨rfl, hx1⟩; have B1 := bext HX.out hx1 HX.out.size; have hb1 := HB.out.ext hx1; obtain ⟨f1, f2, f3⟩ := hb1.facts; have HT1 := Lib.hid (show ThS w N A l.length cap 30 w1.heap.size (addS (fun _ => 0) l 0) (w1.alloc (.cells (cellsOf 8 fun _ => 0) 3)) from ⟨bext B1 (ext_alloc _ _) B1.size, hb1.alloc _, Ow.new _ w1 8 _, hb1.lt⟩); clear hx1 hb1)
    clear hmk f1 f2 f3 B1
    obtain ⟨ob, hob⟩ : ∃ ob, ob = w1.heap.size := ⟨_, rfl⟩
    rw [← hob] at HT1 ⊢
    clear hob
    go_loopg [16] l.length (fun g i wr => ∃ k : Nat, i = .int .i64 (k : Int) ∧ k ≤ l.length ∧ g = l.length - k ∧ ThS w N A l.length cap 30 ob (addS (fun _ => 0) l k) wr)
    case atStart => exact ⟨0, rfl, by omega, by omega, HT1.out⟩
    case round =>
      obtain ⟨k, rfl, hk, hg, hts⟩ := hrel
      have HG := Lib.hid hg
      have HTS := Lib.hid hts
      obtain ⟨f1, f2, f3⟩ := hts.2.1.facts
      clear hg hts HT1
      by_cases hlt : k < l.length
      · rcases H.out.ext HTS.out.1 with hf | ⟨b, off, rfl, hblt, hcl⟩
        · rw [hf] at hlt; simp at hlt
        obtain ⟨c1, c2, c3, c4⟩ := hcl k hlt
        have hso := HOK.out.2.2.2 _ (List.getElem_mem hlt)
        obtain ⟨s, hs⟩ : ∃ s, s = l[k] := ⟨_, rfl⟩
        rw [← hs] at c1 c2 c3 c4 hso
        obtain ⟨a, b', n, th⟩ := s
        dsimp only at c1 c2 c3 c4
        obtain ⟨-, -, -, -, o5, o6, o7, o8⟩ := hso
        dsimp only at o5 o6 o7 o8
        obtain ⟨j, rfl⟩ := Int.eq_ofNat_of_zero_le o7
        have hsu := addS_succ (d := fun _ => 0) hlt hs (j := j) rfl
        have hbd := addS_bd HOK.out.2.2.2 j k hk
        have HSET := Lib.hid (fun W (h : ThS w N (some ⟨b, off, none⟩) l.length cap 30 ob (addS (fun _ => 0) l k) W) => h.set j (addS (fun _ => 0) l k j + 3 * n))
        have hj8 : j < 8 := by omega
        obtain ⟨x, hx⟩ : ∃ x, x = addS (fun _ => 0) l k j := ⟨_, rfl⟩
        rw [← hx] at hbd HSET hsu
        dsimp only at hsu
        rw [← hsu] at HSET
        have HXX := Lib.hid hx
        clear hs hcl hsu hx
        go_upto_region 7 with fail
        obtain ⟨W7, hW7⟩ : ∃ W7, wr.alloc (.cells #[.int .i64 a, .int .i64 b', .int .i64 n, .int .i64 (j : Int)] 106) = W7 := ⟨_, rfl⟩
        have hk6 : Bk 106 W7 wr.heap.size #[.int .i64 a, .int .i64 b', .int .i64 n, .int .i64 (j : Int)] := by rw [← hW7]; exact Bk.new _ _ _
        have hts7 := HTS.out.ext (show Below wr.heap.size wr W7 by rw [← hW7]; exact ext_alloc _ _)
        rw [hW7]
        have HTS7 := Lib.hid (hts7.ext (ext_drew W7))
        have HF7 := Lib.hid (show W7.drew.cell? ⟨wr.heap.size, 3, none⟩ = some (.int .i64 (j : Int)) ∧ W7.drew.cell? ⟨wr.heap.size, 2, none⟩ = some (.int .i64 n) ∧ W7.drew.cell? ⟨ob, j, none⟩ = some (.int .i64 x) ∧ W7.drew.frozen? ⟨ob, j, none⟩ = false ∧ ob < W7.drew.heap.size from
          ⟨hk6.cell 3, hk6.cell 2, by rw [HXX.out]; exact hts7.2.2.1.cell hj8, hts7.2.2.1.frozen j, hts7.2.2.1.lt⟩)
        clear hk6 hts7 hW7
        refine wp_region_T (S := fun wx => wx = W7.drew) 10 (by kernel_rfl) (rfl) (fun hHeld => ?_)
        refine wpAnyT_take (i := 0) (v := ?v1) [] rfl (by kernel_rfl) (fun _ _ _ h => h) (Or.inl ⟨by rfl, ?hy1⟩) hHeld ?rst1
        case hy1 => (intro wx hSw; subst hSw; obtain ⟨q1, q2, q3, q4, q5⟩ := HF7.out; go_simp; try (with_reducible rfl))
        try simp only [List.getElem_toArray, List.getElem_cons_zero, Act.put, List.setIfInBounds_toArray, List.set_cons_zero, List.set_cons_succ]
        refine wpAnyT_take (i := 1) (v := ?v2) [] rfl (by kernel_rfl) (fun _ _ _ h => h) (Or.inl ⟨by rfl, ?hy2⟩) hHeld ?rst2
        case hy2 => (intro wx hSw; subst hSw; obtain ⟨q1, q2, q3, q4, q5⟩ := HF7.out; go_simp; try (with_reducible rfl))
        try simp only [List.getElem_toArray, List.getElem_cons_zero, List.getElem_cons_succ, Act.put, List.setIfInBounds_toArray, List.set_cons_zero, List.set_cons_succ]
        refine wpAnyT_take (i := 2) (v := ?v3) [] rfl (by kernel_rfl) (fun _ _ _ h => h) (Or.inl ⟨by rfl, ?hy3⟩) hHeld ?rst3
        case hy3 => (intro wx hSw; subst hSw; obtain ⟨q1, q2, q3, q4, q5⟩ := HF7.out; go_simp; try (with_reducible rfl))
        try simp only [List.getElem_toArray, List.getElem_cons_zero, List.getElem_cons_succ, Act.put, List.setIfInBounds_toArray, List.set_cons_zero, List.set_cons_succ]
        refine wpAnyT_take (i := 3) (v := ?v4) [] rfl (by kernel_rfl) (fun _ _ _ h => h) (Or.inl ⟨by rfl, ?hy4⟩) hHeld ?rst4
        case hy4 => (intro wx hSw; subst hSw; obtain ⟨q1, q2, q3, q4, q5⟩ := HF7.out; go_simp; try (with_reducible rfl))
        try simp only [List.getElem_toArray, List.getElem_cons_zero, List.getElem_cons_succ, Act.put, List.setIfInBounds_toArray, List.set_cons_zero, List.set_cons_succ]
        refine wpAnyT_take (i := 4) (v := ?v5) [] rfl (by kernel_rfl) (fun _ _ _ h => h) (Or.inl ⟨by rfl, ?hy5⟩) hHeld ?rst5
        case hy5 => (intro wx hSw; subst hSw; obtain ⟨q1, q2, q3, q4, q5⟩ := HF7.out; go_simp; try (with_reducible rfl))
        try simp only [List.getElem_toArray, List.getElem_cons_zero, List.getElem_cons_succ, Act.put, List.setIfInBounds_toArray, List.set_cons_zero, List.set_cons_succ]
        refine wpAnyT_take (i := 5) (v := ?v6) [] rfl (by kernel_rfl) (fun _ _ _ h => h) (Or.inl ⟨by rfl, ?hy6⟩) hHeld ?rst6
        case hy6 => (intro wx hSw; subst hSw; obtain ⟨q1, q2, q3, q4, q5⟩ := HF7.out; go_simp; try (with_reducible rfl))
        try simp only [List.getElem_toArray, List.getElem_cons_zero, List.getElem_cons_succ, Act.put, List.setIfInBounds_toArray, List.set_cons_zero, List.set_cons_succ]
        refine wpAnyT_take (i := 6) (v := ?v7) [] rfl (by kernel_rfl) (fun _ _ _ h => h) (Or.inl ⟨by rfl, ?hy7⟩) hHeld ?rst7
        case hy7 => (intro wx hSw; subst hSw; obtain ⟨q1, q2, q3, q4, q5⟩ := HF7.out; go_simp; try (with_reducible rfl))
        try simp only [List.getElem_toArray, List.getElem_cons_zero, List.getElem_cons_succ, Act.put, List.setIfInBounds_toArray, List.set_cons_zero, List.set_cons_succ]
        refine wpAnyT_take (i := 7) (v := ?v8) [] rfl (by kernel_rfl) (fun _ _ _ h => h) (Or.inl ⟨by rfl, ?hy8⟩) hHeld ?rst8
        case hy8 => (intro wx hSw; subst hSw; obtain ⟨q1, q2, q3, q4, q5⟩ := HF7.out; go_simp; try (with_reducible rfl))
        try simp only [List.getElem_toArray, List.getElem_cons_zero, List.getElem_cons_succ, Act.put, List.setIfInBounds_toArray, List.set_cons_zero, List.set_cons_succ]
        refine wpAnyT_take (i := 8) (v := ?v9) [] rfl (by kernel_rfl) (fun _ _ _ h => h) (Or.inl ⟨by rfl, ?hy9⟩) hHeld ?rst9
        case hy9 => (intro wx hSw; subst hSw; obtain ⟨q1, q2, q3, q4, q5⟩ := HF7.out; go_simp; try (with_reducible rfl))
        try simp only [List.getElem_toArray, List.getElem_cons_zero, List.getElem_cons_succ, Act.put, List.setIfInBounds_toArray, List.set_cons_zero, List.set_cons_succ]
        refine wpAnyT_take (i := 9) (v := ?v10) [] rfl (by kernel_rfl) (fun _ _ _ h => h) (Or.inl ⟨by rfl, ?hy10⟩) hHeld ?rst10
        case hy10 => (intro wx hSw; subst hSw; obtain ⟨q1, q2, q3, q4, q5⟩ := HF7.out; go_simp; try (with_reducible rfl))
        try simp only [List.getElem_toArray, List.getElem_cons_zero, List.getElem_cons_succ, Act.put, List.setIfInBounds_toArray, List.set_cons_zero, List.set_cons_succ]
        refine wpAnyT_last (by kernel_rfl) (by kernel_rfl) rfl (fun K hK => ?_)
        (obtain ⟨q1, q2, q3, q4, q5⟩ := HF7.out; go_simp)
        refine hK.out _ _ ?_
        clear hK K
        go_wp2_with (fail)
        go_roundg (l.length - (k + 1))
        case measure => have := HG.out; omega
        case rel => exact ⟨k + 1, by go_num, by omega, rfl, HSET.out _ HTS7.out⟩
      · obtain rfl : k = l.length := by omega
        obtain ⟨wo, hwo⟩ : ∃ wo : World, wo = wr := ⟨_, rfl⟩
        subst hwo
        go_wp2_with (go_at_call 71; refine (HR.out _ (H.out.ext HTS.out.1)).mono ?_; rintro e w3 ⟨v3, R, rfl, hv3, hri, hx3⟩; have HX3 := Lib.hid hx3; have HV3 := Lib.hid hv3; have HRI := Lib.hid hri; obtain ⟨A3, c3, rfl, k31, k32, -⟩ := hv3.rsl; unfold maxLen at k32; have HTS3 := Lib.hid (HTS.out.ext hx3); clear hv3 hri hx3)
        clear f1 f2 f3
        have HRT := Lib.hid (show ∀ r ∈ R, 0 ≤ runT l r from fun r hr => (runT_rng HOK.out.2.2.2 (HRI.out.good r hr)).1)
        have hRl := HRI.out.len
        go_loopg [34] R.length (fun g i wr => ∃ k : Nat, i = .int .i64 (k : Int) ∧ k ≤ R.length ∧ g = R.length - k ∧ ThS w N A l.length cap 30 ob (addR l (addS (fun _ => 0) l l.length) R k) wr ∧ ∀ x, x ≠ ob → wr.heap[x]? = w3.heap[x]?)
        case atStart => exact ⟨0, rfl, by omega, by omega, HTS3.out, fun _ _ => rfl⟩
        case round =>
          obtain ⟨k, rfl, hk2, hg2, hts2, hon⟩ := hrel
          have HG2 := Lib.hid hg2
          have HT2 := Lib.hid hts2
          have HON := Lib.hid hon
          obtain ⟨f1, f2, f3⟩ := hts2.2.1.facts
          have hobs : ob < wo.heap.size := HTS.out.2.2.1.lt
          clear hg2 hts2 hon
          by_cases hlt2 : k < R.length
          · obtain ⟨vs, v1, v2, v3⟩ := HV3.out
            obtain ⟨A4, c4, hv4, -, -, h4⟩ := own_cells v2
            obtain ⟨g4, hA4, hb4, hg4, hc4⟩ := h4.resolve_left (by omega)
            injection hv4 with e1 _ e3
            have e3' : c3 = c4 := e3
            subst e1 e3' hA4
            have hgood := HRI.out.good R[k] (List.getElem_mem hlt2)
            have hvk := v3 k (by omega) hlt2
            have hck := hc4 k _ (List.getElem?_eq_getElem (by omega))
            obtain ⟨A5, c5, hv5, k51, k52, h5⟩ := own_cells hvk
            have hRT := HRT.out R[k] (List.getElem_mem hlt2)
            obtain ⟨run, hrun⟩ : ∃ run, run = R[k] := ⟨_, rfl⟩
            rw [← hrun] at hgood hv5 k51 h5 hRT
            rw [hv5] at hck
            have h0 : 0 < run.length := List.length_pos_iff.2 hgood.1
            obtain ⟨g5, hA5, hb5, hg5, hc5⟩ := h5.resolve_left (by omega)
            subst hA5
            obtain ⟨⟨hin1, hin2⟩, -, -⟩ := hgood.2 0 h0
            rw [getD_get h0] at hin1 hin2
            have hm1 := hc5 0 (.int .i64 (run[0]).k) (by
              have := flat_get (f := Mv.cells) (sz := 2) (fun _ => rfl) run 0 0 h0 (by omega)
              rw [Nat.zero_mul, Nat.add_zero] at this
              rw [this]; rfl)
            have hthr : runT l run = (l.getD (run[0]).k.toNat ⟨0, 0, 0, 0⟩).t := by
              unfold runT Mv.thr
              rw [getD_get h0, List.getElem?_eq_getElem (by omega), List.getD_eq_getElem?_getD, List.getElem?_eq_getElem (by omega)]; rfl
            obtain ⟨q, hq⟩ := Int.eq_ofNat_of_zero_le hin1
            rw [hq] at hm1 hin2 hthr
            rw [Int.toNat_natCast] at hthr
            have hql : q < l.length := by omega
            rw [List.getD_eq_getElem?_getD, List.getElem?_eq_getElem hql, Option.getD_some] at hthr
            obtain ⟨b3, off3, hA3, hb3, hcc3⟩ := (H.out).resolve_left (fun h => by rw [h] at hql; simp at hql)
            subst hA3
            obtain ⟨-, -, -, d4⟩ := hcc3 q hql
            obtain ⟨j, hj⟩ := Int.eq_ofNat_of_zero_le hRT
            have hj8 : j < 8 := by
              have := (runT_rng HOK.out.2.2.2 hgood).2
              omega
            rw [← hthr, hj] at d4
            have har := addR_succ (l := l) (d := addS (fun _ => 0) l l.length) hlt2 hrun hj
            have hbd := addR_bd HOK.out.2.2.2 HRT.out j k hk2
            have HSET := Lib.hid (fun W (h : ThS w N (some ⟨b3, off3, none⟩) l.length cap 30 ob (addR l (addS (fun _ => 0) l l.length) R k) W) => h.set j (addR l (addS (fun _ => 0) l l.length) R k j + 10))
            rw [← har] at HSET
            obtain ⟨x, hx⟩ : ∃ x, x = addR l (addS (fun _ => 0) l l.length) R k j := ⟨_, rfl⟩
            rw [← hx] at hbd HSET
            have HXX := Lib.hid hx
            have hwo3 := HX3.out.size
            have z1 : wr.cell? ⟨g4, k, none⟩ = some (.slice (some ⟨g5, 0, none⟩) run.length c5) := (cell_of_heap (HON.out g4 (by omega))).trans hck
            have z2 : wr.cell? ⟨g5, 0, none⟩ = some (.int .i64 (q : Int)) := (cell_of_heap (HON.out g5 (by omega))).trans hm1
            have z3 : wr.cell? ⟨b3, off3 + q * 4 + 3, none⟩ = some (.int .i64 (j : Int)) := (HT2.out.1.cell (p := ⟨b3, _, none⟩) hb3).trans d4
            have hi1 : (0 : Int) ≤ (q : Int) := by omega
            have hi2 : (q : Int) < (l.length : Int) := by omega
            have HG4 := Lib.hid hb4
            have hi3 : (j : Int) < 8 := by omega
            have hi4 : (0 : Int) ≤ (j : Int) := by omega
            clear hgood hvk hck hv5 h5 hrun hm1 hthr hq hcc3 d4 hj hRT har hx v1 v2 v3 h4 hc4 hc5 hin1 hin2
            go_upto_region 12 with fail
            obtain ⟨W8, hW8⟩ : ∃ W8 : World, W8 = wr := ⟨_, rfl⟩
            subst hW8
            have HF8 := Lib.hid (show W8.drew.cell? ⟨w.heap.size, 1, none⟩ = some (.slice (some ⟨b3, off3, none⟩) l.length cap) ∧ W8.drew.cell? ⟨g5, 0, none⟩ = some (.int .i64 (q : Int)) ∧ W8.drew.cell? ⟨b3, off3 + q * 4 + 3, none⟩ = some (.int .i64 (j : Int)) ∧ W8.drew.cell? ⟨ob, j, none⟩ = some (.int .i64 x) ∧ W8.drew.frozen? ⟨ob, j, none⟩ = false ∧ ob < W8.drew.heap.size from
              ⟨HT2.out.2.1.cell 1, z2, z3, by rw [HXX.out]; exact HT2.out.2.2.1.cell hj8, HT2.out.2.2.1.frozen j, HT2.out.2.2.1.lt⟩)
            refine wp_region_T (S := fun wx => wx = W8.drew) 14 (by kernel_rfl) (rfl) (fun hHeld => ?_)
            refine wpAnyT_take (i := 0) (v := ?v11) [] rfl (by kernel_rfl) (fun _ _ _ h => h) (Or.inl ⟨by rfl, ?hy11⟩) hHeld ?rst11
            case hy11 => (intro wx hSw; subst hSw; obtain ⟨q1, q2, q3, q4, q5, q6⟩ := HF8.out; go_simp; try (with_reducible rfl))
            try simp only [List.getElem_toArray, List.getElem_cons_zero, Act.put, List.setIfInBounds_toArray, List.set_cons_zero, List.set_cons_succ]
            refine wpAnyT_take (i := 1) (v := ?v12) [] rfl (by kernel_rfl) (fun _ _ _ h => h) (Or.inl ⟨by rfl, ?hy12⟩) hHeld ?rst12
            case hy12 => (intro wx hSw; subst hSw; obtain ⟨q1, q2, q3, q4, q5, q6⟩ := HF8.out; go_simp; try (with_reducible rfl))
            try simp only [List.getElem_toArray, List.getElem_cons_zero, List.getElem_cons_succ, Act.put, List.setIfInBounds_toArray, List.set_cons_zero, List.set_cons_succ]
            refine wpAnyT_take (i := 2) (v := ?v13) [] rfl (by kernel_rfl) (fun _ _ _ h => h) (Or.inl ⟨by rfl, ?hy13⟩) hHeld ?rst13
            case hy13 => (intro wx hSw; subst hSw; obtain ⟨q1, q2, q3, q4, q5, q6⟩ := HF8.out; go_simp; try (with_reducible rfl))
            try simp only [List.getElem_toArray, List.getElem_cons_zero, List.getElem_cons_succ, Act.put, List.setIfInBounds_toArray, List.set_cons_zero, List.set_cons_succ]
            refine wpAnyT_take (i := 3) (v := ?v14) [] rfl (by kernel_rfl) (fun _ _ _ h => h) (Or.inl ⟨by rfl, ?hy14⟩) hHeld ?rst14
            case hy14 => (intro wx hSw; subst hSw; obtain ⟨q1, q2, q3, q4, q5, q6⟩ := HF8.out; go_simp; try (with_reducible rfl))
            try simp only [List.getElem_toArray, List.getElem_cons_zero, List.getElem_cons_succ, Act.put, List.setIfInBounds_toArray, List.set_cons_zero, List.set_cons_succ]
            refine wpAnyT_take (i := 4) (v := ?v15) [] rfl (by kernel_rfl) (fun _ _ _ h => h) (Or.inl ⟨by rfl, ?hy15⟩) hHeld ?rst15
            case hy15 => (intro wx hSw; subst hSw; obtain ⟨q1, q2, q3, q4, q5, q6⟩ := HF8.out; go_simp; try (with_reducible rfl))
            try simp only [List.getElem_toArray, List.getElem_cons_zero, List.getElem_cons_succ, Act.put, List.setIfInBounds_toArray, List.set_cons_zero, List.set_cons_succ]
            refine wpAnyT_take (i := 5) (v := ?v16) [] rfl (by kernel_rfl) (fun _ _ _ h => h) (Or.inl ⟨by rfl, ?hy16⟩) hHeld ?rst16
            case hy16 => (intro wx hSw; subst hSw; obtain ⟨q1, q2, q3, q4, q5, q6⟩ := HF8.out; go_simp; try (with_reducible rfl))
            try simp only [List.getElem_toArray, List.getElem_cons_zero, List.getElem_cons_succ, Act.put, List.setIfInBounds_toArray, List.set_cons_zero, List.set_cons_succ]
            refine wpAnyT_take (i := 6) (v := ?v17) [] rfl (by kernel_rfl) (fun _ _ _ h => h) (Or.inl ⟨by rfl, ?hy17⟩) hHeld ?rst17
            case hy17 => (intro wx hSw; subst hSw; obtain ⟨q1, q2, q3, q4, q5, q6⟩ := HF8.out; go_simp; try (with_reducible rfl))
            try simp only [List.getElem_toArray, List.getElem_cons_zero, List.getElem_cons_succ, Act.put, List.setIfInBounds_toArray, List.set_cons_zero, List.set_cons_succ]
            refine wpAnyT_take (i := 7) (v := ?v18) [] rfl (by kernel_rfl) (fun _ _ _ h => h) (Or.inl ⟨by rfl, ?hy18⟩) hHeld ?rst18
            case hy18 => (intro wx hSw; subst hSw; obtain ⟨q1, q2, q3, q4, q5, q6⟩ := HF8.out; go_simp; try (with_reducible rfl))
            try simp only [List.getElem_toArray, List.getElem_cons_zero, List.getElem_cons_succ, Act.put, List.setIfInBounds_toArray, List.set_cons_zero, List.set_cons_succ]
            refine wpAnyT_take (i := 8) (v := ?v19) [] rfl (by kernel_rfl) (fun _ _ _ h => h) (Or.inl ⟨by rfl, ?hy19⟩) hHeld ?rst19
            case hy19 => (intro wx hSw; subst hSw; obtain ⟨q1, q2, q3, q4, q5, q6⟩ := HF8.out; go_simp; try (with_reducible rfl))
            try simp only [List.getElem_toArray, List.getElem_cons_zero, List.getElem_cons_succ, Act.put, List.setIfInBounds_toArray, List.set_cons_zero, List.set_cons_succ]
            refine wpAnyT_take (i := 9) (v := ?v20) [] rfl (by kernel_rfl) (fun _ _ _ h => h) (Or.inl ⟨by rfl, ?hy20⟩) hHeld ?rst20
            case hy20 => (intro wx hSw; subst hSw; obtain ⟨q1, q2, q3, q4, q5, q6⟩ := HF8.out; go_simp; try (with_reducible rfl))
            try simp only [List.getElem_toArray, List.getElem_cons_zero, List.getElem_cons_succ, Act.put, List.setIfInBounds_toArray, List.set_cons_zero, List.set_cons_succ]
            refine wpAnyT_take (i := 10) (v := ?v21) [] rfl (by kernel_rfl) (fun _ _ _ h => h) (Or.inl ⟨by rfl, ?hy21⟩) hHeld ?rst21
            case hy21 => (intro wx hSw; subst hSw; obtain ⟨q1, q2, q3, q4, q5, q6⟩ := HF8.out; go_simp; try (with_reducible rfl))
            try simp only [List.getElem_toArray, List.getElem_cons_zero, List.getElem_cons_succ, Act.put, List.setIfInBounds_toArray, List.set_cons_zero, List.set_cons_succ]
            refine wpAnyT_take (i := 11) (v := ?v22) [] rfl (by kernel_rfl) (fun _ _ _ h => h) (Or.inl ⟨by rfl, ?hy22⟩) hHeld ?rst22
            case hy22 => (intro wx hSw; subst hSw; obtain ⟨q1, q2, q3, q4, q5, q6⟩ := HF8.out; go_simp; try (with_reducible rfl))
            try simp only [List.getElem_toArray, List.getElem_cons_zero, List.getElem_cons_succ, Act.put, List.setIfInBounds_toArray, List.set_cons_zero, List.set_cons_succ]
            refine wpAnyT_take (i := 12) (v := ?v23) [] rfl (by kernel_rfl) (fun _ _ _ h => h) (Or.inl ⟨by rfl, ?hy23⟩) hHeld ?rst23
            case hy23 => (intro wx hSw; subst hSw; obtain ⟨q1, q2, q3, q4, q5, q6⟩ := HF8.out; go_simp; try (with_reducible rfl))
            try simp only [List.getElem_toArray, List.getElem_cons_zero, List.getElem_cons_succ, Act.put, List.setIfInBounds_toArray, List.set_cons_zero, List.set_cons_succ]
            refine wpAnyT_take (i := 13) (v := ?v24) [] rfl (by kernel_rfl) (fun _ _ _ h => h) (Or.inl ⟨by rfl, ?hy24⟩) hHeld ?rst24
            case hy24 => (intro wx hSw; subst hSw; obtain ⟨q1, q2, q3, q4, q5, q6⟩ := HF8.out; go_simp; try (with_reducible rfl))
            try simp only [List.getElem_toArray, List.getElem_cons_zero, List.getElem_cons_succ, Act.put, List.setIfInBounds_toArray, List.set_cons_zero, List.set_cons_succ]
            refine wpAnyT_last (by kernel_rfl) (by kernel_rfl) rfl (fun K hK => ?_)
            (obtain ⟨q1, q2, q3, q4, q5, q6⟩ := HF8.out; go_simp)
            refine hK.out _ _ ?_
            clear hK K
            go_wp2_with (fail)
            go_roundg (R.length - (k + 1))
            case measure => have := HG2.out; omega
            case rel => exact ⟨k + 1, by go_num, by omega, rfl, HSET.out _ (HT2.out.ext (ext_drew W8)), fun y hy => (Below.heap_setCell _ _ _ _ (show y ≠ ob from hy)).trans (HON.out y hy)⟩
          · obtain rfl : k = R.length := by omega
            have HTF := Lib.hid (show Ow 3 ob 8 (thV N l) wr from HT2.out.2.2.1.congr (fun i hi => thV_prog HOK.out.2.2.2 HRI.out hi))
            have hbF := HT2.out.1
            go_wp2_with (fail)
            go_ret2
            exact ⟨hbF, .inr ⟨HOK.out, ob, rfl, HTF.out⟩⟩
  · have hv := vldG_no hok
    rw [hv] at HV
    have HOK := Lib.hid hok
    clear hok hv
    go_enter Try.func52, Try.ntmps52
    go_wp2_with (go_at_call 21; refine (HV.out _ (H.out.ext HX.out)).mono ?_; rintro e w1 ⟨rfl, hx1⟩; have B1 := bext HX.out hx1 HX.out.size; obtain ⟨f1, f2, f3⟩ := (HB.out.ext hx1).facts)
    go_ret2
    exact ⟨B1, .inl ⟨HOK.out, rfl⟩⟩
end Go.Proofs.Ytbhjhajnhpohlaa
