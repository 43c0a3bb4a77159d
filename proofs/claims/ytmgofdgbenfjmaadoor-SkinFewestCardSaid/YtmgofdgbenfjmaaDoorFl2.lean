/- flood walked again: the neighbours by a method's value. Conditions: the closures answer as next and is; what is reached lies in a finite list. -/
import Derived.Test.YtmgofdgbenfjmaaDoorFl
namespace Go.Proofs.YtmgofdgbenfjmaaDoor
open Go.RowKit

set_option maxRecDepth 100000 in
set_option maxHeartbeats 8000000 in
theorem flood2_any (x y : Int) (S : List Cel) (b : Nat) (KN KI : FuncId) (rb : Nat) (ci : Array Value) (next : Cel → List Cel) (is : Cel → Bool) (U : List Cel) (n : Nat) (w : World)
    (hm : Mp b S w) (hn : (x, y) ∉ S) (hc : IsC (x, y)) (hEN : Enters KN) (hEI : Enters KI)
    (hN : ∀ W, But1 b w W → ∀ x' y', (x', y') ∈ (x, y) :: U → Calls Tryd.prog KN #[.pointer (some ⟨rb, 0, none⟩), .agg #[.int .i64 x', .int .i64 y']] W (RetC (next (x', y')) W))
    (hI : ∀ W, But1 b w W → ∀ x' y', Sml (x', y') → Calls Tryd.prog KI (#[.agg #[.int .i64 x', .int .i64 y']] ++ ci) W fun e w' => e = .returned (.bool (is (x', y'))) ∧ Below W.heap.size W w')
    (hU : ∀ c, is c = true → c ∈ U) (hx : ∀ c ∈ (x, y) :: U, ∀ d ∈ next c, Sml d) (hl : U.length + 1 ≤ n) (hn2 : n ≤ 100000) (hx2 : ∀ c, (next c).length ≤ 8) :
    Calls Tryd.prog 47 #[.agg #[.int .i64 x, .int .i64 y], .map (some b), .func (.func KN) #[.pointer (some ⟨rb, 0, none⟩)] #[], .func (.func KI) #[] ci] w (RetFl b w (fld next is n S (x, y))) := by
  have hlt := hm.lt
  obtain ⟨w1, e1, hm1, hb1⟩ := (hm.ext (ext_alloc w (.cells #[.int .i64 x, .int .i64 y] 71))).store hc hn
  have e1' : (Instr.mapUpdate 73 (.map (some b)) (.agg #[.int .i64 x, .int .i64 y]) (.bool true)).run Tryd.prog (w.alloc (.cells #[.int .i64 x, .int .i64 y] 71)) = .ok () w1 := e1
  have hbk1 := hb1.bk (Bk.new 71 w #[.int .i64 x, .int .i64 y]) (by omega)
  have hs1 : w.heap.size + 1 ≤ w1.heap.size := hbk1.lt
  have HS0 := Lib.hid (show FlS b w x y (S ++ [(x, y)], [(x, y)]) (.slice (some ⟨w1.heap.size, 0, none⟩) 1 1) (w1.alloc (.cells #[.int .i64 x, .int .i64 y] 71)) from
    ⟨hm1.ext (ext_alloc _ _), own_new (sz := 2) (news := [.int .i64 x, .int .i64 y]) (m := 1) rfl (by decide) hs1 rfl, hbk1.ext (ext_alloc _ _), (But1.of (ext_alloc _ _)).trans (hb1.trans (But1.of (ext_alloc _ _)))⟩)
  have hU' : ∀ c, is c = true → c ∈ (x, y) :: U := fun c h => List.mem_cons_of_mem _ (hU c h)
  have HI0 := Lib.hid (show FlI ((x, y) :: U) (S ++ [(x, y)], [(x, y)]) from ⟨fun c h => by simp at h; subst h; simp, by simp, fun c h => by simp at h; subst h; simp⟩)
  obtain ⟨r, hr⟩ : ∃ r, r = fld next is n S (x, y) := ⟨_, rfl⟩
  rw [← hr]
  have HR := Lib.hid (show r = flGo next is (n - 0) 0 (S ++ [(x, y)], [(x, y)]) from hr)
  have hUl : ((x, y) :: U).length ≤ n := by simpa using hl
  obtain ⟨U', hU2⟩ : ∃ U', U' = (x, y) :: U := ⟨_, rfl⟩
  rw [← hU2] at hN hx hU' HI0 hUl
  have HN := Lib.hid hN
  have HII := Lib.hid hI
  have HU := Lib.hid hU'
  have HX := Lib.hid hx
  have HX2 := Lib.hid hx2
  have HLN := Lib.hid hUl
  unfold Enters at hEN hEI
  obtain ⟨f1, f2, f3⟩ := hbk1.facts
  clear hm hn hc hN hI hU hx hl e1 hm1 hb1 hbk1 hU' hr hUl hU2 hx2
  go_enter Tryd.func47, Tryd.ntmps47
  go_wp2
  clear e1' f1 f2 f3
  go_loopg [10, 9] n (fun g i v wr => ∃ (k : Nat) (st : List Cel × List Cel), i = .int .i64 k ∧ k ≤ st.2.length ∧ g = n - k ∧ FlS b w x y st v wr ∧ FlI U' st ∧ r = flGo next is (n - k) k st)
  case atStart => exact ⟨0, _, rfl, by simp, by omega, HS0.out, HI0.out, HR.out⟩
  case round =>
    obtain ⟨k, st, rfl, hk, hg, hs, hi, hr⟩ := hrel
    have HG := Lib.hid hg
    have HS := Lib.hid hs
    have HI := Lib.hid hi
    have HRK := Lib.hid hr
    have hlen : st.2.length ≤ n := Nat.le_trans hi.len HLN.out
    obtain ⟨A, cap, hv, k1, k2, k3⟩ := hs.2.1.csl
    subst hv
    have HK := Lib.hid k3
    have k2' : cap ≤ 9223372036854775807 := by unfold maxLen at k2; omega
    clear hg hs hi hr k2 k3 HS0 HI0 HR
    by_cases hlt2 : k < st.2.length
    · rcases HK.out with h0 | ⟨g0, off, rfl, hg0, hgs, hcl⟩
      · rw [h0] at hlt2; simp at hlt2
      · obtain ⟨c1, c2⟩ := hcl k hlt2
        have hmem : st.2[k] ∈ U' := HI.out.2.2 _ (List.getElem_mem hlt2)
        have HRS := Lib.hid (show r = flGo next is (n - (k + 1)) (k + 1) ((next st.2[k]).foldl (flStep is) st) from by
          have h := HRK.out
          rw [show n - k = (n - (k + 1)) + 1 by omega] at h
          rw [h]; exact flGo_step next is _ k st hlt2)
        obtain ⟨cc, hcc⟩ : ∃ cc, cc = st.2[k] := ⟨_, rfl⟩
        rw [← hcc] at c1 c2 hmem HRS
        obtain ⟨cx, cy⟩ := cc
        dsimp only at c1 c2
        have HNX := Lib.hid (HN.out _ HS.out.2.2.2 cx cy hmem)
        have HXC := Lib.hid (HX.out _ hmem)
        have hl8 := HX2.out (cx, cy)
        clear hcl hcc hmem
        go_upto_region 7 with (refine (HNX.out).mono ?_; rintro e w6 ⟨A6, cap6, rfl, m1, m2, m3, hx6⟩)
        obtain ⟨ns, hns⟩ : ∃ ns, ns = next (cx, cy) := ⟨_, rfl⟩
        rw [← hns] at HRS HXC hl8 m1 m3 ⊢
        have HS6 := Lib.hid (HS.out.ext hx6)
        have HK6 := Lib.hid (show NsK wr.heap.size w6 A6 ns (.slice (some ⟨g0, off, none⟩) st.2.length cap) from ⟨m3, fun hne g off' e h => by
          rcases m3 with h1 | ⟨g2, off2, e2, hb2, _, _⟩
          · exact absurd h1 hne
          · rw [e] at e2
            injection e2 with e2
            injection e2 with e3 e4
            subst e3
            injection h with h
            simp only at h
            omega⟩)
        have hbw : w.heap.size + 1 ≤ wr.heap.size := HS.out.2.2.1.lt
        clear hns m3 hx6 c1 c2 HNX HK HS HRK
        obtain ⟨BN, hBN⟩ : ∃ BN, BN = wr.heap.size := ⟨_, rfl⟩
        rw [← hBN] at HK6 hbw
        clear hBN
        go_wp2
        go_loopg [30, 9] ns.length (fun g i v wr => ∃ (j : Nat) (st2 : List Cel × List Cel), i = .int .i64 j ∧ j ≤ ns.length ∧ g = ns.length - j ∧ FlS b w x y st2 v wr ∧ FlI U' st2 ∧ st2 = (ns.take j).foldl (flStep is) st ∧ NsK BN wr A6 ns v)
        case atStart => exact ⟨0, st, rfl, by omega, by omega, HS6.out, HI.out, rfl, HK6.out⟩
        case round =>
          obtain ⟨j, st2, rfl, hj, hg2, hs2, hi2, hst2, hk2⟩ := hrel
          have HG2 := Lib.hid hg2
          have HS2 := Lib.hid hs2
          have HI2 := Lib.hid hi2
          have HST2 := Lib.hid hst2
          have HK2 := Lib.hid hk2
          have hlen2 : st2.2.length ≤ n := Nat.le_trans hi2.len HLN.out
          obtain ⟨x1, x2, x3⟩ := hs2.2.2.1.facts
          clear hg2 hs2 hi2 hst2 hk2 HS6 HK6
          by_cases hjl : j < ns.length
          · rcases HK2.out.1 with h0 | ⟨g2, off2, rfl, hg2, hgs2, hcl2⟩
            · rw [h0] at hjl; simp at hjl
            · obtain ⟨d1, d2⟩ := hcl2 j hjl
              have HCC := Lib.hid (HXC.out _ (List.getElem_mem hjl))
              have HFT := Lib.hid (foldl_take (flStep is) ns st hjl)
              obtain ⟨dd, hdd⟩ : ∃ dd, dd = ns[j] := ⟨_, rfl⟩
              rw [← hdd] at d1 d2 HCC HFT
              rw [← HST2.out] at HFT
              obtain ⟨dx, dy⟩ := dd
              dsimp only at d1 d2
              clear hcl2 hdd
              have HSX := Lib.hid (HS2.out.ext (ext_alloc wr (.cells #[.int .i64 dx, .int .i64 dy] 71)))
              have HKX := Lib.hid (HK2.out.ext (ext_alloc wr (.cells #[.int .i64 dx, .int .i64 dy] 71)))
              have HBX := Lib.hid (Bk.new 71 wr #[.int .i64 dx, .int .i64 dy])
              go_upto_region 9 with (fail)
              obtain ⟨X, hX⟩ : ∃ X, X = wr.alloc (.cells #[.int .i64 dx, .int .i64 dy] 71) := ⟨_, rfl⟩
              rw [← hX] at HSX HKX HBX ⊢
              obtain ⟨B, hB⟩ : ∃ B, B = wr.heap.size := ⟨_, rfl⟩
              have hBw : w.heap.size + 1 ≤ B := by have := HS2.out.2.2.1.lt; omega
              rw [← hB] at HBX ⊢
              clear hX hB d1 d2 x1 x2 x3 HS2 HK2 hgs2
              obtain ⟨q1, q2, q3⟩ := HBX.out.facts
              obtain ⟨x1, x2, x3⟩ := HSX.out.2.2.1.facts
              have hlook := HSX.out.1.look HCC.out.isC
              have hlook' : (Instr.lookup 73 (.map (some b)) (.agg #[.int .i64 dx, .int .i64 dy]) false).run Tryd.prog X = .ok (.bool (decide ((dx, dy) ∈ st2.1))) X := hlook
              clear hlook
              by_cases hin : (dx, dy) ∈ st2.1
              · rw [decide_eq_true hin] at hlook'
                have HFT2 := Lib.hid (HFT.out.trans (flStep_old hin))
                clear hin
                go_wp2
                go_roundg (ns.length - (j + 1))
                case measure => have := HG2.out; omega
                case rel => exact ⟨j + 1, st2, by go_num, by omega, rfl, HSX.out, HI2.out, HFT2.out.symm, HKX.out⟩
              · rw [decide_eq_false hin] at hlook'
                have HIS := Lib.hid (HII.out _ HSX.out.2.2.2 dx dy HCC.out)
                have HIN := Lib.hid hin
                clear hin
                cases his : is (dx, dy)
                · rw [his] at HIS
                  have HFT2 := Lib.hid (HFT.out.trans (flStep_no HIN.out his))
                  clear his
                  go_wp2_with (refine (HIS.out).mono ?_; rintro e w9 ⟨rfl, hx9⟩)
                  have HS9 := Lib.hid (HSX.out.ext hx9)
                  have HK9 := Lib.hid (HKX.out.ext hx9)
                  clear hx9
                  go_roundg (ns.length - (j + 1))
                  case measure => have := HG2.out; omega
                  case rel => exact ⟨j + 1, st2, by go_num, by omega, rfl, HS9.out, HI2.out, HFT2.out.symm, HK9.out⟩
                · rw [his] at HIS
                  have HFT2 := Lib.hid (HFT.out.trans (flStep_new HIN.out his))
                  have HI3 := Lib.hid (show FlI U' (st2.1 ++ [(dx, dy)], st2.2 ++ [(dx, dy)]) from by
                    have h := HI2.out.step HU.out (dx, dy)
                    rw [flStep_new HIN.out his] at h; exact h)
                  clear his
                  go_upto_region 10 with (refine (HIS.out).mono ?_; rintro e w9 ⟨rfl, hx9⟩)
                  have HS9 := Lib.hid (HSX.out.ext hx9)
                  have HK9 := Lib.hid (HKX.out.ext hx9)
                  have HB9 := Lib.hid (HBX.out.ext hx9)
                  clear hx9 q1 q2 q3 x1 x2 x3 hlook'
                  obtain ⟨q1, q2, q3⟩ := HB9.out.facts
                  obtain ⟨w10, u1, hm10, hb10⟩ := HS9.out.1.store HCC.out.isC HIN.out
                  have u1' : (Instr.mapUpdate 73 (.map (some b)) (.agg #[.int .i64 dx, .int .i64 dy]) (.bool true)).run Tryd.prog w9 = .ok () w10 := u1
                  have HS10 := Lib.hid (HS9.out.store hlt hm10 hb10)
                  have HK10 := Lib.hid (HK9.out.store hb10 (by omega))
                  have HB10 := Lib.hid (hb10.bk HB9.out (by omega))
                  clear u1 hm10 hb10
                  go_upto_region 11 with (fail)
                  clear u1' q1 q2 q3
                  obtain ⟨q1, q2, q3⟩ := HB10.out.facts
                  have hbase : w.heap.size + 1 ≤ w10.heap.size := by omega
                  have hv10 := HS10.out.2.1
                  dsimp only at hv10
                  have HV10 := Lib.hid hv10
                  clear hv10
                  go_wp2_with (at_builtin; refine wpList_pushC _ rfl _ _ rfl (w.heap.size + 1) HV10.out (by rfl) (by rfl) rfl (by omega) hbase ?_; intro v5 w5 hv5 hb5 hk5 hk6; have HS11 := Lib.hid (FlS.push (c := (dx, dy)) HS10.out hlt hv5 hb5 hk5); have HK11 := Lib.hid (HK10.out.push hb5.size hk5 hk6); clear hv5 hb5 hk5 hk6)
                  go_roundg (ns.length - (j + 1))
                  case measure => have := HG2.out; omega
                  case rel => exact ⟨j + 1, _, by go_num, by omega, rfl, HS11.out, HI3.out, HFT2.out.symm, HK11.out⟩
          · obtain rfl : j = ns.length := by omega
            have hst : st2 = ns.foldl (flStep is) st := by have h := HST2.out; rw [List.take_length] at h; exact h
            have HR2 := Lib.hid (show r = flGo next is (n - (k + 1)) (k + 1) st2 from by rw [hst]; exact HRS.out)
            have hkl : k + 1 ≤ st2.2.length := by rw [hst]; exact Nat.le_trans hlt2 (flSteps_len is ns st)
            clear hst
            go_wp2
            go_roundg (n - (k + 1))
            case measure => have := HG.out; omega
            case rel => exact ⟨k + 1, st2, by go_num, hkl, rfl, HS2.out, HI2.out, HR2.out⟩
    · have HE := Lib.hid (show r = st from by
        have h := HRK.out
        rw [flGo_end _ _ _ _ _ (by omega)] at h
        exact h)
      obtain rfl : k = st.2.length := by omega
      go_wp2
      go_ret
      refine ⟨A, cap, by rw [HE.out]; rfl, by rw [HE.out]; exact k1, k2', ?_, by rw [HE.out]; exact HS.out.1, HS.out.2.2.2⟩
      rw [HE.out]
      exact HK.out.mono (by omega)
end Go.Proofs.YtmgofdgbenfjmaaDoor
