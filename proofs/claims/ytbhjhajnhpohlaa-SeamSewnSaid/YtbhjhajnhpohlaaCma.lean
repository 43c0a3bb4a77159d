/- Compile walked, the program's. Conditions: the graph and the runs read as lists. -/
import Derived.Test.YtbhjhajnhpohlaaCmp
import Derived.Test.YtbhjhajnhpohlaaMv
import Derived.Test.YtbhjhajnhpohlaaRs
import Derived.Test.YtbhjhajnhpohlaaVa
import Derived.Deep.AppendLies
namespace Go.Proofs.Ytbhjhajnhpohlaa
open Go.RowKit

set_option maxRecDepth 100000 in
set_option maxHeartbeats 8000000 in
theorem Compile_any (N : Int) (A : Option Addr) (cap : Nat) (l : List Sm) (C : Option Addr) (cc : Nat) (ls : List (List Mv)) (w : World) (hc : l.length ≤ cap) (hcm : cap ≤ 9223372036854775807) (h : SSl w A l) (hcc : ls.length ≤ cc) (hcc2 : cc ≤ 9223372036854775807) (hr : RSl w C ls) :
    Calls Try.prog 50 #[.agg #[.int .i64 N, .slice A l.length cap], .slice C ls.length cc] w (RetCm w N l ls) := by
  have HV := Lib.hid (fun W (h : SSl W A l) => valid_any N A cap l W hc hcm h)
  have HX := Lib.hid (ext_alloc w (.cells #[.int .i64 N, .slice A l.length cap] 30))
  have HB := Lib.hid (Bk.new 30 w #[.int .i64 N, .slice A l.length cap])
  have HW := Lib.hid (fun W (hW : Below w.heap.size w W) => And.intro (h.ext hW) (hr.ext hW))
  have HSW := Lib.hid (fun W hok h hr => sews_any N A cap l C cc ls W hok hc hcm h hcc hcc2 hr)
  clear h hr
  by_cases hok : GOk N l
  · have hv := vldG_yes hok
    rw [hv] at HV
    have HOK := Lib.hid hok
    have l64 := hok.2.2.1
    clear hok hv
    obtain ⟨sb, hsb⟩ : ∃ sb, sb = sewB l ls := ⟨_, rfl⟩
    rw [← hsb] at HSW
    have HSB := Lib.hid hsb
    clear hsb
    cases sb
    · go_enter Try.func50, Try.ntmps50
      go_wp2_with (first
        | (go_at_call 21; refine (HV.out _ (HW.out _ HX.out).1).mono ?_; rintro e w1 ⟨rfl, hx1⟩; have B1 := bext HX.out hx1 HX.out.size; obtain ⟨f1, f2, f3⟩ := (HB.out.ext hx1).facts)
        | (go_at_call 61; refine (HSW.out _ HOK.out (HW.out _ B1).1 (HW.out _ B1).2).mono ?_; rintro e w2 ⟨rfl, hx2⟩; have B2 := bext B1 hx2 B1.size))
      go_ret2
      exact ⟨B2, .inr (.inl ⟨HOK.out, HSB.out.symm, rfl⟩)⟩
    · have hsew := sewB_iff.1 HSB.out.symm
      have hnum := hsew.num
      have HSEW := Lib.hid hsew
      clear hsew
      go_enter Try.func50, Try.ntmps50
      go_wp2_with (first
        | (go_at_call 21; refine (HV.out _ (HW.out _ HX.out).1).mono ?_; rintro e w1 ⟨rfl, hx1⟩; have B1 := bext HX.out hx1 HX.out.size; obtain ⟨f1, f2, f3⟩ := (HB.out.ext hx1).facts)
        | (go_at_call 61; refine (HSW.out _ HOK.out (HW.out _ B1).1 (HW.out _ B1).2).mono ?_; rintro e w2 ⟨rfl, hx2⟩; have B2 := Lib.hid (bext B1 hx2 B1.size); have HG2 := Lib.hid ((HB.out.ext hx1).ext hx2)))
      clear f1 f2 f3 B1 hx1 hx2
      go_loopg [24, 6] ls.length (fun g i v wr => ∃ k : Nat, i = .int .i64 (k : Int) ∧ k ≤ ls.length ∧ g = ls.length - k ∧ Below w.heap.size w wr ∧ Bk 30 wr w.heap.size #[.int .i64 N, .slice A l.length cap] ∧ Vo 128 (w.heap.size + 1) wr v (cmp l (ls.take k)))
      case atStart => exact ⟨0, rfl, by omega, by omega, B2.out, HG2.out, Vo.nil _ _ _⟩
      case round =>
        obtain ⟨k, rfl, hk, hg, hbw, hgr, hvo⟩ := hrel
        have HG := Lib.hid hg
        have HVO := Lib.hid hvo
        have HBW := Lib.hid hbw
        have HGR := Lib.hid hgr
        obtain ⟨f1, f2, f3⟩ := hgr.facts
        obtain ⟨A6, c6, hv6, k61, k62, k63⟩ := hvo.osl
        subst hv6
        clear hg hvo hgr
        by_cases hlt : k < ls.length
        · rcases (HW.out w (Below.refl _ _)).2 with hf | ⟨b, off, rfl, hblt, hcl⟩
          · rw [hf] at hlt; simp at hlt
          obtain ⟨A', c', c1w, k1, k2, hm⟩ := hcl k hlt
          have c1 := (hbw.cell (p := ⟨b, off + k, none⟩) hblt).trans c1w
          clear c1w
          have hgood := HSEW.out.1 ls[k] (List.getElem_mem hlt)
          have HTK := Lib.hid (fun run hr => takeSnoc hlt (x := run) hr)
          have hcb := cmp_len l (ls.take k)
          have htf := take_flat (ls := ls) k
          rw [HSEW.out.2.2] at htf
          rw [List.length_take] at hcb
          have hrl : ls[k].length ≤ 64 := by
            have h1 := take_flat (ls := ls) (k + 1)
            rw [takeSnoc hlt rfl, List.flatten_append, List.length_append, HSEW.out.2.2] at h1
            simp at h1
            omega
          obtain ⟨run, hrun⟩ : ∃ run, run = ls[k] := ⟨_, rfl⟩
          rw [← hrun] at c1 k1 hm hgood hrl
          have HTK2 := Lib.hid (HTK.out run hrun)
          have hcb2 : (cmp l (ls.take k)).length ≤ 400 := by omega
          clear hrun hcl hcb htf
          have h0 : 0 < run.length := List.length_pos_iff.2 hgood.1
          obtain ⟨⟨hin1, hin2⟩, -, -⟩ := hgood.2 0 h0
          rcases hm with hm | ⟨b2, off2, rfl, hb2, hmc⟩
          · rw [hm] at h0; simp at h0
          obtain ⟨m1, m2⟩ := hmc 0 h0
          have hg0 := getD_get h0
          have HRB := Lib.hid (show runB l run = (run[0]).from l from by unfold runB; rw [hg0])
          have HRT := Lib.hid (show runT l run = (run[0]).thr l from by unfold runT; rw [hg0])
          rw [hg0] at hin1 hin2
          have HEN := Lib.hid (fun W (hW : Below w.heap.size w W) => ends_any N A cap l run[0] W hc hcm (HW.out _ hW).1 ⟨hin1, hin2⟩)
          obtain ⟨mv, hmv⟩ : ∃ mv, mv = run[0] := ⟨_, rfl⟩
          rw [← hmv] at m1 m2 HRB HRT HEN hin1 hin2
          obtain ⟨mk, mr⟩ := mv
          dsimp only at m1 m2 hin1 hin2
          obtain ⟨q, rfl⟩ := Int.eq_ofNat_of_zero_le hin1
          have hql : q < l.length := by omega
          obtain ⟨b3, off3, hA3, hb3, hc3⟩ := ((HW.out w (Below.refl _ _)).1).resolve_left (fun h => by rw [h] at hql; simp at hql)
          subst hA3
          obtain ⟨-, -, -, d4⟩ := hc3 q hql
          have hthr : runT l run = l[q].t := by rw [HRT.out]; unfold Mv.thr; dsimp only; rw [Int.toNat_natCast, List.getElem?_eq_getElem hql]
          obtain ⟨th, hth⟩ : ∃ th, th = l[q].t := ⟨_, rfl⟩
          rw [← hth] at d4 hthr
          have HTHR := Lib.hid hthr
          have HMC := Lib.hid hmc
          have hi1 : (0 : Int) ≤ (q : Int) := by omega
          have hi2 : (q : Int) < (l.length : Int) := by omega
          have HF := Lib.hid (show ∀ wx, Below (w.heap.size + 1) wr wx → wx.cell? ⟨w.heap.size, 0, none⟩ = some (.int .i64 N) ∧ wx.cell? ⟨w.heap.size, 1, none⟩ = some (.slice (some ⟨b3, off3, none⟩) l.length cap) ∧ wx.cell? ⟨b2, off2, none⟩ = some (.int .i64 (q : Int)) ∧ wx.cell? ⟨b2, off2 + 1, none⟩ = some (.bool mr) ∧ wx.cell? ⟨b3, off3 + q * 4 + 3, none⟩ = some (.int .i64 th) ∧ True from fun wx hb => by
            have hbx : Below w.heap.size w wx := HBW.out.trans (hb.mono (by omega))
            have hgx : Bk 30 wx w.heap.size #[.int .i64 N, .slice (some ⟨b3, off3, none⟩) l.length cap] := HGR.out.below hb (by omega)
            rw [Nat.zero_mul, Nat.add_zero] at m1 m2
            exact ⟨hgx.cell 0, hgx.cell 1, (hbx.cell (p := ⟨b2, _, none⟩) hb2).trans m1, (hbx.cell (p := ⟨b2, _, none⟩) hb2).trans m2, (hbx.cell (p := ⟨b3, _, none⟩) hb3).trans d4, trivial⟩)
          obtain ⟨rb, hrb⟩ : ∃ rb, rb = (⟨(q : Int), mr⟩ : Mv).from l := ⟨_, rfl⟩
          obtain ⟨re, hre⟩ : ∃ re, re = (⟨(q : Int), mr⟩ : Mv).to_ l := ⟨_, rfl⟩
          rw [← hrb, ← hre] at HEN
          rw [← hrb] at HRB
          have hval : (⟨(q : Int), mr⟩ : Mv).val = .agg #[.int .i64 (q : Int), .bool mr] := rfl
          rw [hval] at HEN
          clear hmv hg0 hgood hth hthr hc3 hmc hin1 m1 m2 d4 hrb hre hval
          go_upto_region 9 with fail
          refine wp_region_T (S := fun wx => Below (w.heap.size + 1) wr wx) 9 (by kernel_rfl) (ext_drew1 _ _) (fun hHeld => ?_)
          refine wpAnyT_take (i := 0) (v := ?v1) [] rfl (by kernel_rfl) (fun _ _ _ h => h) (Or.inl ⟨by rfl, ?hy1⟩) hHeld ?rst1
          case hy1 => (intro wx hSw; obtain ⟨q1, q2, q3, q4, q5, q6⟩ := HF.out wx hSw; go_simp; try (with_reducible rfl))
          try simp only [List.getElem_toArray, List.getElem_cons_zero, Act.put, List.setIfInBounds_toArray, List.set_cons_zero, List.set_cons_succ]
          refine wpAnyT_take (i := 1) (v := ?v2) [] rfl (by kernel_rfl) (fun _ _ _ h => h) (Or.inl ⟨by rfl, ?hy2⟩) hHeld ?rst2
          case hy2 => (intro wx hSw; obtain ⟨q1, q2, q3, q4, q5, q6⟩ := HF.out wx hSw; go_simp; try (with_reducible rfl))
          try simp only [List.getElem_toArray, List.getElem_cons_zero, List.getElem_cons_succ, Act.put, List.setIfInBounds_toArray, List.set_cons_zero, List.set_cons_succ]
          refine wpAnyT_take (i := 2) (v := ?v3) [] rfl (by kernel_rfl) (fun _ _ _ h => h) (Or.inl ⟨by rfl, ?hy3⟩) hHeld ?rst3
          case hy3 => (intro wx hSw; obtain ⟨q1, q2, q3, q4, q5, q6⟩ := HF.out wx hSw; go_simp; try (with_reducible rfl))
          try simp only [List.getElem_toArray, List.getElem_cons_zero, List.getElem_cons_succ, Act.put, List.setIfInBounds_toArray, List.set_cons_zero, List.set_cons_succ]
          refine wpAnyT_take (i := 3) (v := ?v4) [] rfl (by kernel_rfl) (fun _ _ _ h => h) (Or.inl ⟨by rfl, ?hy4⟩) hHeld ?rst4
          case hy4 => (intro wx hSw; obtain ⟨q1, q2, q3, q4, q5, q6⟩ := HF.out wx hSw; go_simp; try (with_reducible rfl))
          try simp only [List.getElem_toArray, List.getElem_cons_zero, List.getElem_cons_succ, Act.put, List.setIfInBounds_toArray, List.set_cons_zero, List.set_cons_succ]
          refine wpAnyT_one (i := 4) (by kernel_rfl) rfl (fun K hK => ?_)
          go_simp
          go_at_call 73
          refine (HEN.out _ (HBW.out.trans (hHeld.mono (by omega)))).mono ?_
          rintro e w9 ⟨rfl, hx9⟩
          have B9 := hHeld.trans (hx9.mono (by have := hHeld.size; omega))
          refine hK.out _ _ (B9) (fun hHeld => ?_)
          clear hK K
          try simp only [List.getElem_toArray, List.getElem_cons_zero, List.getElem_cons_succ, Act.put, List.setIfInBounds_toArray, List.set_cons_zero, List.set_cons_succ]
          refine wpAnyT_take (i := 5) (v := ?v5) [] rfl (by kernel_rfl) (fun _ _ _ h => h) (Or.inl ⟨by rfl, ?hy5⟩) hHeld ?rst5
          case hy5 => (intro wx hSw; obtain ⟨q1, q2, q3, q4, q5, q6⟩ := HF.out wx hSw; go_simp; try (with_reducible rfl))
          try simp only [List.getElem_toArray, List.getElem_cons_zero, List.getElem_cons_succ, Act.put, List.setIfInBounds_toArray, List.set_cons_zero, List.set_cons_succ]
          refine wpAnyT_take (i := 6) (v := ?v6) [] rfl (by kernel_rfl) (fun _ _ _ h => h) (Or.inl ⟨by rfl, ?hy6⟩) hHeld ?rst6
          case hy6 => (intro wx hSw; obtain ⟨q1, q2, q3, q4, q5, q6⟩ := HF.out wx hSw; go_simp; try (with_reducible rfl))
          try simp only [List.getElem_toArray, List.getElem_cons_zero, List.getElem_cons_succ, Act.put, List.setIfInBounds_toArray, List.set_cons_zero, List.set_cons_succ]
          refine wpAnyT_take (i := 7) (v := ?v7) [] rfl (by kernel_rfl) (fun _ _ _ h => h) (Or.inl ⟨by rfl, ?hy7⟩) hHeld ?rst7
          case hy7 => (intro wx hSw; obtain ⟨q1, q2, q3, q4, q5, q6⟩ := HF.out wx hSw; go_simp; try (with_reducible rfl))
          try simp only [List.getElem_toArray, List.getElem_cons_zero, List.getElem_cons_succ, Act.put, List.setIfInBounds_toArray, List.set_cons_zero, List.set_cons_succ]
          refine wpAnyT_take (i := 8) (v := ?v8) [] rfl (by kernel_rfl) (fun _ _ _ h => h) (Or.inl ⟨by rfl, ?hy8⟩) hHeld ?rst8
          case hy8 => (intro wx hSw; obtain ⟨q1, q2, q3, q4, q5, q6⟩ := HF.out wx hSw; go_simp; try (with_reducible rfl))
          try simp only [List.getElem_toArray, List.getElem_cons_zero, List.getElem_cons_succ, Act.put, List.setIfInBounds_toArray, List.set_cons_zero, List.set_cons_succ]
          refine wpAnyT_last (by kernel_rfl) (by kernel_rfl) rfl (fun K hK => ?_)
          go_simp
          refine hK.out _ _ ?_
          clear hK K
          have HVO9 := Lib.hid (own_ext (own_ext HVO.out (ext_drew wr)) hx9)
          go_upto_region 10 with fail
          obtain ⟨W10, hW10⟩ : ∃ W10 : World, W10 = w9 := ⟨_, rfl⟩
          subst hW10
          have HB10 := Lib.hid B9
          have HF10 := Lib.hid (show ∀ wx, Below (w.heap.size + 1) W10 wx → wx.cell? ⟨w.heap.size, 1, none⟩ = some (.slice (some ⟨b3, off3, none⟩) l.length cap) ∧ wx.cell? ⟨b2, off2, none⟩ = some (.int .i64 (q : Int)) ∧ wx.cell? ⟨b3, off3 + q * 4 + 3, none⟩ = some (.int .i64 th) ∧ wx.cell? ⟨w.heap.size, 0, none⟩ = some (.int .i64 N) ∧ True from fun wx hb => by
            obtain ⟨q1, q2, q3, q4, q5, _⟩ := HF.out wx (HB10.out.trans hb)
            exact ⟨q2, q3, q5, q1, trivial⟩)
          obtain ⟨i0, hi0, hz0, hz1, hz2⟩ := info_parts info_op
          have HV10 := Lib.hid (own_ext (own_ext HVO9.out (ext_drew W10)) (ext_alloc W10.drew (.cells #[.int .i64 1, .int .i64 rb, .bool false, .int .i64 0, .int .i64 th, .bool false, .int .i64 2, .int .i64 0, .bool false] 128)))
          have hsw10 := B9.size
          have hszd : W10.drew.heap.size = W10.heap.size := rfl
          clear B9 hx9 hHeld
          refine wp_region_T (S := fun wx => Below (w.heap.size + 1) W10 wx) 16 (by kernel_rfl) (ext_drew1 _ _) (fun hHeld => ?_)
          refine wpAnyT_take (i := 0) (v := ?v30) [] rfl (by kernel_rfl) (fun _ _ _ h => h) (Or.inl ⟨by rfl, ?hy30⟩) hHeld ?rst30
          case hy30 => (intro wx hSw; obtain ⟨q1, q2, q3, q4, q5⟩ := HF10.out wx hSw; go_simp; try (with_reducible rfl))
          try simp only [List.getElem_toArray, List.getElem_cons_zero, Act.put, List.setIfInBounds_toArray, List.set_cons_zero, List.set_cons_succ]
          refine wpAnyT_take (i := 1) (v := ?v31) [] rfl (by kernel_rfl) (fun _ _ _ h => h) (Or.inl ⟨by rfl, ?hy31⟩) hHeld ?rst31
          case hy31 => (intro wx hSw; obtain ⟨q1, q2, q3, q4, q5⟩ := HF10.out wx hSw; go_simp; try (with_reducible rfl))
          try simp only [List.getElem_toArray, List.getElem_cons_zero, List.getElem_cons_succ, Act.put, List.setIfInBounds_toArray, List.set_cons_zero, List.set_cons_succ]
          refine wpAnyT_take (i := 2) (v := ?v32) [] rfl (by kernel_rfl) (fun _ _ _ h => h) (Or.inl ⟨by rfl, ?hy32⟩) hHeld ?rst32
          case hy32 => (intro wx hSw; obtain ⟨q1, q2, q3, q4, q5⟩ := HF10.out wx hSw; go_simp; try (with_reducible rfl))
          try simp only [List.getElem_toArray, List.getElem_cons_zero, List.getElem_cons_succ, Act.put, List.setIfInBounds_toArray, List.set_cons_zero, List.set_cons_succ]
          refine wpAnyT_take (i := 3) (v := ?v33) [] rfl (by kernel_rfl) (fun _ _ _ h => h) (Or.inl ⟨by rfl, ?hy33⟩) hHeld ?rst33
          case hy33 => (intro wx hSw; obtain ⟨q1, q2, q3, q4, q5⟩ := HF10.out wx hSw; go_simp; try (with_reducible rfl))
          try simp only [List.getElem_toArray, List.getElem_cons_zero, List.getElem_cons_succ, Act.put, List.setIfInBounds_toArray, List.set_cons_zero, List.set_cons_succ]
          refine wpAnyT_take (i := 4) (v := ?v34) [] rfl (by kernel_rfl) (fun _ _ _ h => h) (Or.inl ⟨by rfl, ?hy34⟩) hHeld ?rst34
          case hy34 => (intro wx hSw; obtain ⟨q1, q2, q3, q4, q5⟩ := HF10.out wx hSw; go_simp; try (with_reducible rfl))
          try simp only [List.getElem_toArray, List.getElem_cons_zero, List.getElem_cons_succ, Act.put, List.setIfInBounds_toArray, List.set_cons_zero, List.set_cons_succ]
          refine wpAnyT_take (i := 5) (v := ?v35) [] rfl (by kernel_rfl) (fun _ _ _ h => h) (Or.inl ⟨by rfl, ?hy35⟩) hHeld ?rst35
          case hy35 => (intro wx hSw; obtain ⟨q1, q2, q3, q4, q5⟩ := HF10.out wx hSw; go_simp; try (with_reducible rfl))
          try simp only [List.getElem_toArray, List.getElem_cons_zero, List.getElem_cons_succ, Act.put, List.setIfInBounds_toArray, List.set_cons_zero, List.set_cons_succ]
          refine wpAnyT_take (i := 6) (v := ?v36) [] rfl (by kernel_rfl) (fun _ _ _ h => h) (Or.inl ⟨by rfl, ?hy36⟩) hHeld ?rst36
          case hy36 => (intro wx hSw; obtain ⟨q1, q2, q3, q4, q5⟩ := HF10.out wx hSw; go_simp; try (with_reducible rfl))
          try simp only [List.getElem_toArray, List.getElem_cons_zero, List.getElem_cons_succ, Act.put, List.setIfInBounds_toArray, List.set_cons_zero, List.set_cons_succ]
          refine wpAnyT_take (i := 7) (v := ?v37) [] rfl (by kernel_rfl) (fun _ _ _ h => h) (Or.inl ⟨by rfl, ?hy37⟩) hHeld ?rst37
          case hy37 => (intro wx hSw; obtain ⟨q1, q2, q3, q4, q5⟩ := HF10.out wx hSw; go_simp; try (with_reducible rfl))
          try simp only [List.getElem_toArray, List.getElem_cons_zero, List.getElem_cons_succ, Act.put, List.setIfInBounds_toArray, List.set_cons_zero, List.set_cons_succ]
          refine wpAnyT_take (i := 8) (v := ?v38) [] rfl (by kernel_rfl) (fun _ _ _ h => h) (Or.inl ⟨by rfl, ?hy38⟩) hHeld ?rst38
          case hy38 => (intro wx hSw; obtain ⟨q1, q2, q3, q4, q5⟩ := HF10.out wx hSw; go_simp; try (with_reducible rfl))
          try simp only [List.getElem_toArray, List.getElem_cons_zero, List.getElem_cons_succ, Act.put, List.setIfInBounds_toArray, List.set_cons_zero, List.set_cons_succ]
          refine wpAnyT_take (i := 9) (v := ?v39) [] rfl (by kernel_rfl) (fun _ _ _ h => h) (Or.inl ⟨by rfl, ?hy39⟩) hHeld ?rst39
          case hy39 => (intro wx hSw; obtain ⟨q1, q2, q3, q4, q5⟩ := HF10.out wx hSw; go_simp; try (with_reducible rfl))
          try simp only [List.getElem_toArray, List.getElem_cons_zero, List.getElem_cons_succ, Act.put, List.setIfInBounds_toArray, List.set_cons_zero, List.set_cons_succ]
          refine wpAnyT_take (i := 10) (v := ?v40) [] rfl (by kernel_rfl) (fun _ _ _ h => h) (Or.inl ⟨by rfl, ?hy40⟩) hHeld ?rst40
          case hy40 => (intro wx hSw; obtain ⟨q1, q2, q3, q4, q5⟩ := HF10.out wx hSw; go_simp; try (with_reducible rfl))
          try simp only [List.getElem_toArray, List.getElem_cons_zero, List.getElem_cons_succ, Act.put, List.setIfInBounds_toArray, List.set_cons_zero, List.set_cons_succ]
          refine wpAnyT_take (i := 11) (v := ?v41) [] rfl (by kernel_rfl) (fun _ _ _ h => h) (Or.inl ⟨by rfl, ?hy41⟩) hHeld ?rst41
          case hy41 => (intro wx hSw; obtain ⟨q1, q2, q3, q4, q5⟩ := HF10.out wx hSw; go_simp; try (with_reducible rfl))
          try simp only [List.getElem_toArray, List.getElem_cons_zero, List.getElem_cons_succ, Act.put, List.setIfInBounds_toArray, List.set_cons_zero, List.set_cons_succ]
          refine wpAnyT_take (i := 12) (v := ?v42) [] rfl (by kernel_rfl) (fun _ _ _ h => h) (Or.inl ⟨by rfl, ?hy42⟩) hHeld ?rst42
          case hy42 => (intro wx hSw; obtain ⟨q1, q2, q3, q4, q5⟩ := HF10.out wx hSw; go_simp; try (with_reducible rfl))
          try simp only [List.getElem_toArray, List.getElem_cons_zero, List.getElem_cons_succ, Act.put, List.setIfInBounds_toArray, List.set_cons_zero, List.set_cons_succ]
          refine wpAnyT_take (i := 13) (v := ?v43) [] rfl (by kernel_rfl) (fun _ _ _ h => h) (Or.inl ⟨by rfl, ?hy43⟩) hHeld ?rst43
          case hy43 => (intro wx hSw; obtain ⟨q1, q2, q3, q4, q5⟩ := HF10.out wx hSw; go_simp; try (with_reducible rfl))
          try simp only [List.getElem_toArray, List.getElem_cons_zero, List.getElem_cons_succ, Act.put, List.setIfInBounds_toArray, List.set_cons_zero, List.set_cons_succ]
          refine wpAnyT_one (i := 14) (by kernel_rfl) rfl (fun K hK => ?_)
          go_simp
          refine hK.out _ _ (hHeld.alloc (by have := hHeld.size; omega) _) (fun hHeld => ?_)
          clear hK K
          try simp only [List.getElem_toArray, List.getElem_cons_zero, List.getElem_cons_succ, Act.put, List.setIfInBounds_toArray, List.set_cons_zero, List.set_cons_succ]
          refine wpAnyT_one (i := 15) (by kernel_rfl) rfl (fun K hK => ?_)
          refine step_append_lies _ (by rfl) _ _ _ (by rfl) (w.heap.size + 1) 128 i0 _ 3 24 Try.underlying79 hi0 hz0 hz1 hz2 rfl (by omega) _ _ _ (by rfl) HV10.out ⟨W10.heap.size, 0, none⟩ 3 3 [.int .i64 1, .int .i64 rb, .bool false, .int .i64 0, .int .i64 th, .bool false, .int .i64 2, .int .i64 0, .bool false] (by rfl) (by rfl) (World.news_of_block (cs := #[.int .i64 1, .int .i64 rb, .bool false, .int .i64 0, .int .i64 th, .bool false, .int .i64 2, .int .i64 0, .bool false]) (t := 128) (fr := (0, 0)) (heap_alloc_new _ _)) (by simp [Value.oneCell']) (by omega) (by unfold maxLen; omega) (by omega) (by simp; omega) _ rfl ?_
          intro g11 c11 w11 hown11 hgr11 hat11 hlt11
          have HO11 := Lib.hid hown11
          have B11 := hHeld.grown hgr11 (by have := hHeld.size; omega) (fun k hk2 => (own_lt HV10.out k hk2).1)
          clear hown11 hgr11 hat11
          refine hK.out _ _ (B11) (fun hHeld => ?_)
          clear hK K
          try simp only [List.getElem_toArray, List.getElem_cons_zero, List.getElem_cons_succ, Act.put, List.setIfInBounds_toArray, List.set_cons_zero, List.set_cons_succ]
          refine wpAnyT_last (by kernel_rfl) (by kernel_rfl) rfl (fun K hK => ?_)
          go_simp
          refine hK.out _ _ ?_
          clear hK K
          have HV11 := Lib.hid (show Vo 128 (w.heap.size + 1) w11 (.slice (some ⟨g11, 0, none⟩) ((cmp l (ls.take k)).length + 3) c11) (cmp l (ls.take k) ++ opB l run) from vo_cat (a := cmp l (ls.take k)) (b := opB l run) (by
            have e : (opB l run).flatMap Opr.cells = [.int .i64 1, .int .i64 rb, .bool false, .int .i64 0, .int .i64 th, .bool false, .int .i64 2, .int .i64 0, .bool false] := by unfold opB; rw [HRB.out, HTHR.out]; rfl
            rw [e]; exact HO11.out) rfl rfl)
          have HB11 := Lib.hid (HB10.out.trans B11)
          have hc1x : w11.heap.size ≥ W10.heap.size := B11.size
          clear hHeld B11 hlt11
          go_wp2_with (fail)
          go_loopg [54, 6] run.length (fun g i v wy => ∃ p : Nat, i = .int .i64 (p : Int) ∧ p ≤ run.length ∧ g = run.length - p ∧ Below (w.heap.size + 1) w11 wy ∧ Vo 128 (w.heap.size + 1) wy v (cmp l (ls.take k) ++ opB l run ++ (run.take p).map opM))
          case atStart => exact ⟨0, rfl, by omega, by omega, Below.refl _ _, by rw [List.take_zero, List.map_nil, List.append_nil]; have h := HV11.out; exact h⟩
          case round =>
            obtain ⟨p, rfl, hp, hgp, hby, hvy⟩ := hrel
            have HGP := Lib.hid hgp
            have HVY := Lib.hid hvy
            have HBY := Lib.hid hby
            have hbW : Below w.heap.size w _ := HBW.out.trans ((HB11.out.trans hby).mono (by omega))
            have hwy : w.heap.size + 1 ≤ w11.heap.size ∧ w11.heap.size ≤ _ := ⟨by omega, hby.size⟩
            obtain ⟨A7, c7, hv7, -, -, -⟩ := hvy.osl
            have hl7 : (cmp l (ls.take k) ++ opB l run ++ (run.take p).map opM).length = (cmp l (ls.take k)).length + 3 + p := by
              rw [List.length_append, List.length_append, List.length_map, List.length_take, Nat.min_eq_left hp]; rfl
            rw [hl7] at hv7
            subst hv7
            clear hgp hvy hby hl7
            by_cases hpl : p < run.length
            · obtain ⟨e1w, e2w⟩ := HMC.out p hpl
              have e1 := (hbW.cell (p := ⟨b2, _, none⟩) hb2).trans e1w
              have e2 := (hbW.cell (p := ⟨b2, _, none⟩) hb2).trans e2w
              have htk := takeSnoc hpl (x := run[p]) rfl
              obtain ⟨mv, hmv⟩ : ∃ mv, mv = run[p] := ⟨_, rfl⟩
              rw [← hmv] at e1 e2 htk
              obtain ⟨pk, pr⟩ := mv
              dsimp only at e1 e2
              have HTP := Lib.hid htk
              have HXB := Lib.hid (ext_alloc wr (.cells #[.int .i64 pk, .bool pr] 72))
              clear hmv e1w e2w htk
              go_wp2_with (at_builtin; refine wpList_pushO Try.underlying79 info_op _ rfl _ _ rfl (w.heap.size + 1) (own_ext HVY.out HXB.out) (by rfl) (by rfl) (by simp) ?hn5 ?hb5 ?_; (case hn5 => rw [List.length_append, List.length_append, List.length_map, List.length_take]; simp [opB]; omega); (case hb5 => simp; omega); intro v5 w5 hv5 hb5 hk5; have HV5 := Lib.hid hv5; have HB5 := Lib.hid hb5; clear hv5 hb5 hk5)
              go_roundg (run.length - (p + 1))
              case measure => have := HGP.out; omega
              case rel => exact ⟨p + 1, by go_num, by omega, rfl, (HBY.out.alloc (by omega) _).trans HB5.out, by rw [HTP.out, List.map_append]; have h := HV5.out; rw [List.append_assoc] at h; exact h⟩
            · obtain rfl : p = run.length := by omega
              have hvz := HVY.out
              rw [List.take_length] at hvz
              have HVZ := Lib.hid hvz
              clear hvz
              have hlz : (cmp l (ls.take k) ++ opB l run ++ run.map opM).length = (cmp l (ls.take k)).length + 3 + run.length := by
                rw [List.length_append, List.length_append, List.length_map]; rfl
              have HLZ := Lib.hid hlz
              have HHZ := Lib.hid (show (cmp l (ls.take k) ++ opB l run ++ run.map opM).length ≤ 500 by rw [hlz]; omega)
              clear hlz
              go_wp2_with (at_builtin; refine wpList_push _ rfl _ _ _ rfl (w.heap.size + 1) 128 _ 3 24 Try.underlying79 info_op rfl (by decide) HVZ.out (by rfl) (m := 2) (news := [.int .i64 2, .int .i64 0, .bool false, .int .i64 4, .int .i64 0, .bool false]) (by rfl) (by simp) rfl (by simp [Value.oneCell']) (by decide) (by have := HHZ.out; unfold maxLen; omega) (by have := HHZ.out; omega) (by omega) ?_; intro v5 w5 hv5 hb5 hk5 _; have HV5 := Lib.hid (vo_cat (a := cmp l (ls.take k) ++ opB l run ++ run.map opM) (b := opE) hv5 rfl rfl); have HB5 := Lib.hid hb5; clear hv5 hb5 hk5)
              go_roundg (ls.length - (k + 1))
              case measure => have := HG.out; omega
              case rel =>
                have hall := (HB11.out.trans HBY.out).trans HB5.out
                refine ⟨k + 1, by go_num, by omega, rfl, HBW.out.trans (hall.mono (by omega)), HGR.out.below hall (by omega), ?_⟩
                rw [HTK2.out, cmp_snoc]
                have h := HV5.out
                rw [List.append_assoc, List.append_assoc] at h
                rw [List.append_assoc]
                exact h
        · obtain rfl : k = ls.length := by omega
          have hvf := HVO.out
          rw [List.take_length] at hvf k63 k61
          have H63 := Lib.hid k63
          have HSBT := Lib.hid HSB.out.symm
          clear hvf k63
          go_wp2_with (fail)
          go_ret2
          exact ⟨hbw, .inr (.inr ⟨HOK.out, HSBT.out, A6, c6, by rw [List.take_length]; rfl, k61, k62, H63.out⟩)⟩
  · have hv := vldG_no hok
    rw [hv] at HV
    have HOK := Lib.hid hok
    clear hok hv
    go_enter Try.func50, Try.ntmps50
    go_wp2_with (go_at_call 21; refine (HV.out _ (HW.out _ HX.out).1).mono ?_; rintro e w1 ⟨rfl, hx1⟩; have B1 := bext HX.out hx1 HX.out.size; obtain ⟨f1, f2, f3⟩ := (HB.out.ext hx1).facts)
    go_ret2
    exact ⟨B1, .inl ⟨HOK.out, rfl⟩⟩
end Go.Proofs.Ytbhjhajnhpohlaa
