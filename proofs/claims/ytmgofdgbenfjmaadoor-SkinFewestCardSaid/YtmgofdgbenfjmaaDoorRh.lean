/- What alternating ways reach, walked (a closure that calls itself by a variable). Conditions: the chords and the rows in memory. -/
import Derived.Test.YtmgofdgbenfjmaaDoorFn1
import Derived.Test.YtmgofdgbenfjmaaDoorVh1
import Derived.StillTailTactics
namespace Go.Proofs.YtmgofdgbenfjmaaDoor
open Go.RowKit

/-- what reach leaves -/
def RhR (F S : List Chd) (m : Nat → Int) (B0 p2 p3 p5 p10 p11 p12 mb ib sb : Nat) (W : World) (r : RcS) (e : Ending) (w' : World) : Prop :=
  e = .returned (.tuple #[]) ∧ ReK F S m B0 p2 p3 p5 p10 p11 p12 mb ib sb w' ∧ OwB ib F.length r.1 w' ∧ OwB sb S.length r.2 w' ∧ But2 ib sb W w'
theorem rc_mono {adj : Nat → Nat → Bool} {n f i : Nat} {m : Nat → Int} {s : RcS} (h : unm s.2 n < f) : ∀ j, s.2 j = true → (rc adj n m f i s).2 j = true := (rc_ok f i s h).1.ms
set_option maxRecDepth 100000 in
set_option maxHeartbeats 8000000 in
theorem reach_any (F S : List Chd) (hFn : F.length ≤ 100000) (hSn : S.length ≤ 100000) (m : Nat → Int) (hrg : ∀ j, m j < (F.length : Int)) (B0 p2 p3 p5 p10 p11 p12 mb ib sb : Nat) : ∀ (f i : Nat) (st : RcS) (W : World), unm st.2 S.length < f → ReK F S m B0 p2 p3 p5 p10 p11 p12 mb ib sb W → OwB ib F.length st.1 W → OwB sb S.length st.2 W → i < F.length →
    Calls Tryd.prog 132 #[.int .i64 (i : Int), .pointer (some ⟨p10, 0, none⟩), .pointer (some ⟨p3, 0, none⟩), .pointer (some ⟨p11, 0, none⟩), .pointer (some ⟨p2, 0, none⟩), .pointer (some ⟨p5, 0, none⟩), .pointer (some ⟨p12, 0, none⟩)] W (RhR F S m B0 p2 p3 p5 p10 p11 p12 mb ib sb W (rc (adjC F S) S.length m f i st))
  | 0, _, _, _, h, _, _, _, _ => by omega
  | f + 1, i, st, W, hf, hk, hI, hV, hi => by
    have HIH := Lib.hid (fun v s V h1 h2 h3 h4 h5 => reach_any F S hFn hSn m hrg B0 p2 p3 p5 p10 p11 p12 mb ib sb f v s V h1 h2 h3 h4 h5)
    have HRG := Lib.hid hrg
    obtain ⟨r, hr⟩ : ∃ r, r = rc (adjC F S) S.length m (f + 1) i st := ⟨_, rfl⟩
    rw [← hr]
    have HK0 := Lib.hid hk
    have HI0 := Lib.hid hI
    have HV0 := Lib.hid hV
    have HF0 := Lib.hid (show unm st.2 S.length ≤ f from by omega)
    have hic := hI.cell hi
    have hif := hI.frozen i
    obtain ⟨_, ⟨AS, cS, hc3, hS⟩, hc5, hc10, hc11, hc12, _⟩ := hk
    have HSA := Lib.hid hS
    clear hrg hf hI hV hS
    cases hsi : st.1 i with
    | true =>
      rw [hsi] at hic
      have HR := Lib.hid (show r = st from by rw [hr, rc, if_pos hsi])
      clear hr hsi
      go_enter Tryd.func132, Tryd.ntmps132
      go_wp2
      refine bodyPost_ret (v := .tuple #[]) (by simp [results, Tryd.results132, go_sem]) rfl ?_
      rw [HR.out]
      exact ⟨rfl, HK0.out, HI0.out, HV0.out, But2.refl _ _ _⟩
    | false =>
      rw [hsi] at hic
      have HR := Lib.hid (show r = rcGo (adjC F S) m (rc (adjC F S) S.length m f) i ((List.range S.length).drop 0) (upB st.1 i, st.2) from by rw [hr, rc, if_neg (by simp [hsi])]; rfl)
      clear hr hsi
      have hI1 := HI0.out.set i true
      have HI1 := Lib.hid (show OwB ib F.length (upB st.1 i) (W.setCell ⟨ib, i, none⟩ (.bool true)) from hI1)
      have HB1 := Lib.hid (But2.set1 W ib sb i (.bool true))
      have HK1 := Lib.hid (HK0.out.but HB1.out)
      have HV1 := Lib.hid (HV0.out.set_ne (k := ib) (j := i) (Ne.symm HK0.out.nb.2.2) (.bool true))
      clear hI1
      go_enter Tryd.func132, Tryd.ntmps132
      go_upto_region 2 with (fail)
      obtain ⟨W1, hW1⟩ : ∃ W1, W1 = W.setCell ⟨ib, i, none⟩ (.bool true) := ⟨_, rfl⟩
      rw [← hW1] at HI1 HB1 HK1 HV1 ⊢
      clear hW1 hic hif hc3 hc5 hc10 hc11 hc12 HK0 HI0 HV0
      obtain ⟨_, ⟨AS1, cS1, hc3, hS1⟩, _⟩ := HK1.out
      have HSA := Lib.hid hS1
      clear hS1
      go_wp2_with (fail)
      clear hc3
      go_loopg [19] S.length (fun gg z wr => ∃ (j : Nat) (s : RcS), z = .int .i64 j ∧ j ≤ S.length ∧ gg = S.length - j ∧ ReK F S m B0 p2 p3 p5 p10 p11 p12 mb ib sb wr ∧ OwB ib F.length s.1 wr ∧ OwB sb S.length s.2 wr ∧ But2 ib sb W wr ∧ But2 ib sb W1 wr ∧ r = rcGo (adjC F S) m (rc (adjC F S) S.length m f) i ((List.range S.length).drop j) s ∧ unm s.2 S.length ≤ f)
      case atStart => exact ⟨0, (upB st.1 i, st.2), rfl, by omega, by omega, HK1.out, HI1.out, HV1.out, HB1.out, But2.refl _ _ _, HR.out, HF0.out⟩
      case round =>
        obtain ⟨j, s, rfl, hj, hgg, hk, hI, hV, hb, hb1, hr, hu⟩ := hrel
        have HG := Lib.hid hgg
        have HR1 := Lib.hid hr
        have HU := Lib.hid hu
        by_cases hjl : j < S.length
        · have HSW := HSA.out.cells (w' := wr) fun b i v hlt hc => hb1.cell hc (by have := hk.nb; omega) (by have := hk.nb; omega)
          rcases HSW with h0 | ⟨bS, offS, rfl, hbS, hcl⟩
          · rw [h0] at hjl; simp at hjl
          · obtain ⟨c1, c2, c3, c4⟩ := hcl j hjl
            have HAD := Lib.hid (adjC_at (F := F) hi hjl)
            obtain ⟨cc, hcc⟩ : ∃ cc, cc = S[j] := ⟨_, rfl⟩
            rw [← hcc] at c1 c2 c3 c4 HAD
            obtain ⟨⟨d1, d2⟩, d3, d4⟩ := cc
            dsimp only at c1 c2 c3 c4
            have HX := Lib.hid (ext_alloc wr (.cells #[.int .i64 d1, .int .i64 d2, .int .i64 d3, .int .i64 d4] 156))
            have HB := Lib.hid (Bk.new 156 wr #[.int .i64 d1, .int .i64 d2, .int .i64 d3, .int .i64 d4])
            have HKX := Lib.hid (hk.ext HX.out)
            have HIX := Lib.hid (hI.ext HX.out)
            have HVX := Lib.hid (hV.ext HX.out)
            have HBX := Lib.hid (hb.trans (But2.of HX.out))
            have HBX1 := Lib.hid (hb1.trans (But2.of HX.out))
            have hpi : ib < wr.heap.size := hI.lt
            have hpv : sb < wr.heap.size := hV.lt
            clear hcl hcc hgg hk hI hV hb hb1 hr hu
            go_upto_region 5 with (fail)
            obtain ⟨X, hX⟩ : ∃ X, X = wr.alloc (.cells #[.int .i64 d1, .int .i64 d2, .int .i64 d3, .int .i64 d4] 156) := ⟨_, rfl⟩
            obtain ⟨p9, hp9⟩ : ∃ p9, p9 = wr.heap.size := ⟨_, rfl⟩
            rw [← hp9] at hpi hpv
            rw [← hX] at HB HX HKX HIX HVX HBX HBX1 ⊢
            rw [← hp9] at HB ⊢
            clear hX hp9 c1 c2 c3 c4 HX
            obtain ⟨q1, q2, q3⟩ := HB.out.facts
            have hvc := HVX.out.cell hjl
            obtain ⟨⟨AF', cF', hc2, hF⟩, _, hc5, hc10, hc11, hc12, hcR, _⟩ := HKX.out
            clear hcR
            rcases hF with h0 | ⟨bF, offF, rfl, hbF, hclF⟩
            · rw [h0] at hi; simp at hi
            · obtain ⟨e1, e2, e3, e4⟩ := hclF i hi
              obtain ⟨ca, hca⟩ : ∃ ca, ca = F[i] := ⟨_, rfl⟩
              rw [← hca] at e1 e2 e3 e4 HAD
              obtain ⟨⟨a1, a2⟩, a3, a4⟩ := ca
              dsimp only at e1 e2 e3 e4
              clear hclF hca
              cases hsj : s.2 j with
              | true =>
                rw [hsj] at hvc
                have HR2 := Lib.hid (HR1.out.trans (rcD_skip hjl (.inl hsj)))
                clear hsj
                go_quiet (fail)
                go_wp2
                go_roundg (S.length - (j + 1))
                case measure => have := HG.out; omega
                case rel => exact ⟨j + 1, s, by go_num, by omega, rfl, HKX.out.ext (ext_drewN _ _), HIX.out.ext (ext_drewN _ _), HVX.out.ext (ext_drewN _ _), HBX.out.trans (But2.of (ext_drewN _ _)), HBX1.out.trans (But2.of (ext_drewN _ _)), HR2.out, HU.out⟩
              | false =>
                rw [hsj] at hvc
                have HSJ := Lib.hid hsj
                clear hsj
                obtain ⟨z, hz⟩ : ∃ z, z = adjC (F := F) (S := S) i j := ⟨_, rfl⟩
                have HME := Lib.hid (fun V => (show Calls Tryd.prog 131 #[.agg #[.int .i64 a1, .int .i64 a2, .int .i64 a3, .int .i64 a4], .agg #[.int .i64 d1, .int .i64 d2, .int .i64 d3, .int .i64 d4]] V fun e w' => e = .returned (.bool z) ∧ Below V.heap.size V w' from by rw [hz, HAD.out]; exact meet_any ((a1, a2), (a3, a4)) ((d1, d2), (d3, d4)) V))
                have HZ := Lib.hid hz.symm
                clear hz
                go_still_tail 11, (by kernel_rfl)
                have HKY := Lib.hid (HKX.out.ext (ext_drew X))
                have HIY := Lib.hid (HIX.out.ext (ext_drew X))
                have HVY := Lib.hid (HVX.out.ext (ext_drew X))
                have HBY := Lib.hid (HBX.out.trans (But2.of (ext_drew X)))
                have HBY1 := Lib.hid (HBX1.out.trans (But2.of (ext_drew X)))
                change wpList _ _ _ _ _ X.drew
                obtain ⟨Y, hY⟩ : ∃ Y, Y = X.drew := ⟨_, rfl⟩
                rw [← hY] at HKY HIY HVY HBY HBY1 ⊢
                clear hY q1 q2 q3 hvc hc2 hc5 hc10 hc11 hc12 e1 e2 e3 e4 HKX HIX HVX HBX HBX1 HB
                cases z with
                | false =>
                  have HR2 := Lib.hid (HR1.out.trans (rcD_skip hjl (.inr HZ.out)))
                  go_wp2_with (go_at_call 131; refine (HME.out _).mono ?_; rintro e w5 ⟨rfl, hx5⟩; have HX5 := Lib.hid hx5; clear hx5)
                  go_roundg (S.length - (j + 1))
                  case measure => have := HG.out; omega
                  case rel => exact ⟨j + 1, s, by go_num, by omega, rfl, HKY.out.ext HX5.out, HIY.out.ext HX5.out, HVY.out.ext HX5.out, HBY.out.trans (But2.of HX5.out), HBY1.out.trans (But2.of HX5.out), HR2.out, HU.out⟩
                | true =>
                  go_upto_region 6 with (go_at_call 131; refine (HME.out _).mono ?_; rintro e w5 ⟨rfl, hx5⟩)
                  have HK5 := Lib.hid (HKY.out.ext hx5)
                  have HI5 := Lib.hid (HIY.out.ext hx5)
                  have HV5 := Lib.hid (HVY.out.ext hx5)
                  have HB5 := Lib.hid (HBY.out.trans (But2.of hx5))
                  have HB51 := Lib.hid (HBY1.out.trans (But2.of hx5))
                  have hf5 := HV5.out.frozen j
                  have hc5 := HV5.out.cell hjl
                  have hc11 := HK5.out.cV
                  have hV6 := HV5.out.set j true
                  have HV6 := Lib.hid (show OwB sb S.length (upB s.2 j) (w5.setCell ⟨sb, j, none⟩ (.bool true)) from hV6)
                  have HB6 := Lib.hid (But2.set2 w5 ib sb j (.bool true))
                  have HK6 := Lib.hid (HK5.out.but HB6.out)
                  have HI6 := Lib.hid (HI5.out.set_ne (k := sb) (j := j) HK5.out.nb.2.2 (.bool true))
                  have HBZ := Lib.hid (HB5.out.trans HB6.out)
                  have HBZ1 := Lib.hid (HB51.out.trans HB6.out)
                  clear hx5 hV6 HKY HIY HVY HBY HBY1 HME
                  go_upto_region 7 with (fail)
                  obtain ⟨Z, hZ⟩ : ∃ Z, Z = w5.setCell ⟨sb, j, none⟩ (.bool true) := ⟨_, rfl⟩
                  rw [← hZ] at HV6 HK6 HI6 HBZ HBZ1 ⊢
                  clear hZ hf5 hc5 hc11 HB6 HK5 HI5 HV5 HB5 HB51
                  obtain ⟨_, _, hc5, _, _, hc12, hcR, _⟩ := HK6.out
                  have hmc := hcR.cell hjl
                  clear hcR
                  obtain ⟨mj, hmj⟩ : ∃ mj, mj = m j := ⟨_, rfl⟩
                  rw [← hmj] at hmc
                  have HMJ := Lib.hid hmj
                  have hmr : mj < (F.length : Int) := by rw [hmj]; exact HRG.out j
                  clear hmj
                  have HUU := Lib.hid (show unm (upB s.2 j) S.length < f from by have := unm_up HSJ.out S.length hjl; have := HU.out; omega)
                  by_cases h0 : 0 ≤ mj
                  · obtain ⟨v, rfl⟩ : ∃ v : Nat, mj = (v : Int) := ⟨mj.toNat, by omega⟩
                    go_upto_region 8 with (fail)
                    go_still_tail 5, (by kernel_rfl)
                    have HK7 := Lib.hid (HK6.out.ext (ext_drew Z))
                    have HI7 := Lib.hid (HI6.out.ext (ext_drew Z))
                    have HV7 := Lib.hid (HV6.out.ext (ext_drew Z))
                    have HB7 := Lib.hid (HBZ.out.trans (But2.of (ext_drew Z)))
                    have HB71 := Lib.hid (HBZ1.out.trans (But2.of (ext_drew Z)))
                    change wpList _ _ _ _ _ Z.drew
                    obtain ⟨Y2, hY2⟩ : ∃ Y2, Y2 = Z.drew := ⟨_, rfl⟩
                    rw [← hY2] at HK7 HI7 HV7 HB7 HB71 ⊢
                    clear hY2 hc5 hc12 hmc HK6 HI6 HV6 HBZ HBZ1
                    have HI := Lib.hid (HIH.out v (s.1, upB s.2 j) Y2 HUU.out HK7.out HI7.out HV7.out (by omega))
                    have HMO := Lib.hid (rc_mono (adj := adjC F S) (n := S.length) (f := f) (i := v) (m := m) (s := (s.1, upB s.2 j)) HUU.out)
                    have HR2 := Lib.hid (HR1.out.trans (rcD_go hjl HSJ.out HZ.out (by rw [← HMJ.out]; exact h0)))
                    rw [← HMJ.out, Int.toNat_natCast] at HR2
                    obtain ⟨s2, hs2⟩ : ∃ s2, s2 = rc (adjC F S) S.length m f v (s.1, upB s.2 j) := ⟨_, rfl⟩
                    rw [← hs2] at HI HMO HR2
                    have HU2 := Lib.hid (show unm s2.2 S.length ≤ f from by have h1 := unm_le HMO.out S.length; have h2 := HUU.out; dsimp only at h1; omega)
                    clear hs2 HK7 HI7 HV7 HMO
                    go_wp2_with (go_at_call 132; refine (HI.out).mono ?_; rintro e w8 ⟨rfl, hk8, hi8, hv8, hb8⟩; have HK8 := Lib.hid hk8; have HI8 := Lib.hid hi8; have HV8 := Lib.hid hv8; have HB8 := Lib.hid (HB7.out.trans hb8); have HB81 := Lib.hid (HB71.out.trans hb8); clear hk8 hi8 hv8 hb8)
                    go_roundg (S.length - (j + 1))
                    case measure => have := HG.out; omega
                    case rel => exact ⟨j + 1, s2, by go_num, by omega, rfl, HK8.out, HI8.out, HV8.out, HB8.out, HB81.out, HR2.out, HU2.out⟩
                  · have HR2 := Lib.hid (HR1.out.trans (rcD_mark hjl HSJ.out HZ.out (by rw [← HMJ.out]; exact h0)))
                    have HU2 := Lib.hid (show unm (upB s.2 j) S.length ≤ f from by have := HUU.out; omega)
                    go_wp2
                    go_roundg (S.length - (j + 1))
                    case measure => have := HG.out; omega
                    case rel => exact ⟨j + 1, (s.1, upB s.2 j), by go_num, by omega, rfl, HK6.out, HI6.out, HV6.out, HBZ.out, HBZ1.out, HR2.out, HU2.out⟩
        · obtain rfl : j = S.length := by omega
          have HR2 := Lib.hid (HR1.out.trans rcD_end)
          have HK := Lib.hid hk
          have HI := Lib.hid hI
          have HV := Lib.hid hV
          have HBB := Lib.hid hb
          clear hgg hk hI hV hb hb1 hr hu
          go_wp2
          refine bodyPost_ret (v := .tuple #[]) (by simp [results, Tryd.results132, go_sem]) rfl ?_
          rw [HR2.out]
          exact ⟨rfl, HK.out, HI.out, HV.out, HBB.out⟩
end Go.Proofs.YtmgofdgbenfjmaaDoor
