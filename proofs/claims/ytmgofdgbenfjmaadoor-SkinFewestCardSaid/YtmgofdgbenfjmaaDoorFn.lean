/- Kuhn's search walked (a closure that calls itself by a variable). Conditions: the chords and the partners' row in memory. -/
import Derived.Test.YtmgofdgbenfjmaaDoorFn1
import Derived.Test.YtmgofdgbenfjmaaDoorVh1
import Derived.StillTailTactics
namespace Go.Proofs.YtmgofdgbenfjmaaDoor
open Go.RowKit

/-- what find leaves -/
def FnR (F S : List Chd) (B0 B1 p2 p3 p5 p8 mb sb : Nat) (W : World) (r : Bool × KuS) (e : Ending) (w' : World) : Prop :=
  e = .returned (.bool r.1) ∧ FiK F S B0 B1 p2 p3 p5 p8 mb w' ∧ Ow 3 mb S.length r.2.2 w' ∧ OwB sb S.length r.2.1 w' ∧ But2 mb sb W w'
set_option maxRecDepth 100000 in
set_option maxHeartbeats 8000000 in
theorem find_any (F S : List Chd) (hFn : F.length ≤ 100000) (hSn : S.length ≤ 100000) (B0 B1 p2 p3 p5 p8 mb sb : Nat) (hsb : B1 ≤ sb) : ∀ (f i : Nat) (st : KuS) (W : World), unm st.1 S.length < f → FiK F S B0 B1 p2 p3 p5 p8 mb W → Ow 3 mb S.length st.2 W → OwB sb S.length st.1 W → i < F.length → (∀ j, st.2 j < (F.length : Int)) →
    Calls Tryd.prog 130 #[.int .i64 (i : Int), .slice (some ⟨sb, 0, none⟩) S.length S.length, .pointer (some ⟨p3, 0, none⟩), .pointer (some ⟨p2, 0, none⟩), .pointer (some ⟨p5, 0, none⟩), .pointer (some ⟨p8, 0, none⟩)] W (FnR F S B0 B1 p2 p3 p5 p8 mb sb W (ku (adjC F S) S.length f i st))
  | 0, _, _, _, h, _, _, _, _, _ => by omega
  | f + 1, i, st, W, hf, hk, hm, hs, hi, hrg => by
    have HIH := Lib.hid (fun v s V h1 h2 h3 h4 h5 h6 => find_any F S hFn hSn B0 B1 p2 p3 p5 p8 mb sb hsb f v s V h1 h2 h3 h4 h5 h6)
    obtain ⟨r, hr⟩ : ∃ r, r = ku (adjC F S) S.length (f + 1) i st := ⟨_, rfl⟩
    have HR := Lib.hid (show r = kuGo (adjC F S) (ku (adjC F S) S.length f) i ((List.range S.length).drop 0) st from hr)
    rw [← hr]
    have HK0 := Lib.hid hk
    have HM0 := Lib.hid hm
    have HS0 := Lib.hid hs
    have HF0 := Lib.hid (show unm st.1 S.length ≤ f from by omega)
    have HRG0 := Lib.hid hrg
    obtain ⟨⟨AF, cF, hc2, hF⟩, ⟨AS, cS, hc3, hS⟩, hc5, hc8, _⟩ := hk
    have HSA := Lib.hid hS
    clear hr hf hm hs hrg hF hS
    have hmb : mb ≠ sb := by have := HK0.out.nm; omega
    go_enter Tryd.func130, Tryd.ntmps130
    go_wp2_with (fail)
    clear hc2 hc3 hc5 hc8
    go_loopg [13] S.length (fun gg z wr => ∃ (j : Nat) (s : KuS), z = .int .i64 j ∧ j ≤ S.length ∧ gg = S.length - j ∧ FiK F S B0 B1 p2 p3 p5 p8 mb wr ∧ Ow 3 mb S.length s.2 wr ∧ OwB sb S.length s.1 wr ∧ But2 mb sb W wr ∧ r = kuGo (adjC F S) (ku (adjC F S) S.length f) i ((List.range S.length).drop j) s ∧ unm s.1 S.length ≤ f ∧ (∀ j, s.2 j < (F.length : Int)))
    case atStart => exact ⟨0, st, rfl, by omega, by omega, HK0.out, HM0.out, HS0.out, But2.refl _ _ _, HR.out, HF0.out, HRG0.out⟩
    case round =>
      obtain ⟨j, s, rfl, hj, hgg, hk, hm, hs, hb, hr, hu, hrg⟩ := hrel
      have HG := Lib.hid hgg
      have HR1 := Lib.hid hr
      have HU := Lib.hid hu
      have HRG := Lib.hid hrg
      by_cases hjl : j < S.length
      · have HSW := HSA.out.cells (w' := wr) fun b i v hlt hc => hb.cell hc (by have := hk.nm; omega) (by have := hk.nm; omega)
        rcases HSW with h0 | ⟨bS, offS, rfl, hbS, hcl⟩
        · rw [h0] at hjl; simp at hjl
        · obtain ⟨c1, c2, c3, c4⟩ := hcl j hjl
          have HAD := Lib.hid (adjC_at (F := F) hi hjl)
          obtain ⟨cc, hcc⟩ : ∃ cc, cc = S[j] := ⟨_, rfl⟩
          rw [← hcc] at c1 c2 c3 c4 HAD
          obtain ⟨⟨d1, d2⟩, d3, d4⟩ := cc
          dsimp only at c1 c2 c3 c4
          have HX := Lib.hid (ext_alloc wr (.cells #[.int .i64 d1, .int .i64 d2, .int .i64 d3, .int .i64 d4] 156))
          have HB := Lib.hid (Bk.new 156 wr #[.int .i64 d1, .int .i64 d2, .int .i64 d3, .int .i64 d4])
          have HKX := Lib.hid (hk.ext HX.out)
          have HMX := Lib.hid (hm.ext HX.out)
          have HSX := Lib.hid (hs.ext HX.out)
          have HBX := Lib.hid (hb.trans (But2.of HX.out))
          have hpn : sb < wr.heap.size := hs.lt
          clear hcl hcc hgg hk hm hs hb hr hu hrg
          go_upto_region 4 with (fail)
          obtain ⟨X, hX⟩ : ∃ X, X = wr.alloc (.cells #[.int .i64 d1, .int .i64 d2, .int .i64 d3, .int .i64 d4] 156) := ⟨_, rfl⟩
          obtain ⟨p10, hp10⟩ : ∃ p10, p10 = wr.heap.size := ⟨_, rfl⟩
          have hpb : sb < p10 := by omega
          rw [← hX] at HB HX HKX HMX HSX HBX ⊢
          rw [← hp10] at HB ⊢
          clear hX hp10 c1 c2 c3 c4 HX hpn
          obtain ⟨q1, q2, q3⟩ := HB.out.facts
          have hsc := HSX.out.cell hjl
          obtain ⟨⟨AF', cF', hc2, hF⟩, _, hc5, hc8, _⟩ := HKX.out
          rcases hF with h0 | ⟨bF, offF, rfl, hbF, hclF⟩
          · rw [h0] at hi; simp at hi
          · obtain ⟨e1, e2, e3, e4⟩ := hclF i hi
            obtain ⟨ca, hca⟩ : ∃ ca, ca = F[i] := ⟨_, rfl⟩
            rw [← hca] at e1 e2 e3 e4 HAD
            obtain ⟨⟨a1, a2⟩, a3, a4⟩ := ca
            dsimp only at e1 e2 e3 e4
            clear hclF hca
            cases hsj : s.1 j with
            | true =>
              rw [hsj] at hsc
              have HR2 := Lib.hid (HR1.out.trans (kuD_skip hjl (.inl hsj)))
              clear hsj
              go_quiet (fail)
              go_wp2
              go_roundg (S.length - (j + 1))
              case measure => have := HG.out; omega
              case rel => exact ⟨j + 1, s, by go_num, by omega, rfl, HKX.out.ext (ext_drewN _ _), HMX.out.ext (ext_drewN _ _), HSX.out.ext (ext_drewN _ _), HBX.out.trans (But2.of (ext_drewN _ _)), HR2.out, HU.out, HRG.out⟩
            | false =>
              rw [hsj] at hsc
              have HSJ := Lib.hid hsj
              clear hsj
              obtain ⟨z, hz⟩ : ∃ z, z = adjC (F := F) (S := S) i j := ⟨_, rfl⟩
              have HME := Lib.hid (fun V => (show Calls Tryd.prog 131 #[.agg #[.int .i64 a1, .int .i64 a2, .int .i64 a3, .int .i64 a4], .agg #[.int .i64 d1, .int .i64 d2, .int .i64 d3, .int .i64 d4]] V fun e w' => e = .returned (.bool z) ∧ Below V.heap.size V w' from by rw [hz, HAD.out]; exact meet_any ((a1, a2), (a3, a4)) ((d1, d2), (d3, d4)) V))
              have HZ := Lib.hid hz.symm
              clear hz
              go_still_tail 10, (by kernel_rfl)
              have HKY := Lib.hid (HKX.out.ext (ext_drew X))
              have HMY := Lib.hid (HMX.out.ext (ext_drew X))
              have HSY := Lib.hid (HSX.out.ext (ext_drew X))
              have HBY := Lib.hid (HBX.out.trans (But2.of (ext_drew X)))
              have HDY := Lib.hid (HB.out.ext (ext_drew X))
              change wpList _ _ _ _ _ X.drew
              obtain ⟨Y, hY⟩ : ∃ Y, Y = X.drew := ⟨_, rfl⟩
              rw [← hY] at HKY HMY HSY HBY HDY ⊢
              clear hY q1 q2 q3 hsc hc2 hc5 hc8 e1 e2 e3 e4 HKX HMX HSX HBX HB
              cases z with
              | false =>
                have HR2 := Lib.hid (HR1.out.trans (kuD_skip hjl (.inr HZ.out)))
                go_wp2_with (go_at_call 131; refine (HME.out _).mono ?_; rintro e w5 ⟨rfl, hx5⟩; have HX5 := Lib.hid hx5; clear hx5)
                go_roundg (S.length - (j + 1))
                case measure => have := HG.out; omega
                case rel => exact ⟨j + 1, s, by go_num, by omega, rfl, HKY.out.ext HX5.out, HMY.out.ext HX5.out, HSY.out.ext HX5.out, HBY.out.trans (But2.of HX5.out), HR2.out, HU.out, HRG.out⟩
              | true =>
                go_upto_region 5 with (go_at_call 131; refine (HME.out _).mono ?_; rintro e w5 ⟨rfl, hx5⟩)
                have HK5 := Lib.hid (HKY.out.ext hx5)
                have HM5 := Lib.hid (HMY.out.ext hx5)
                have HS5 := Lib.hid (HSY.out.ext hx5)
                have HB5 := Lib.hid (HBY.out.trans (But2.of hx5))
                have hf5 := HS5.out.frozen j
                have hc5 := HS5.out.cell hjl
                have hS6 := HS5.out.set j true
                have HS6 := Lib.hid (show OwB sb S.length (upB s.1 j) (w5.setCell ⟨sb, j, none⟩ (.bool true)) from hS6)
                have HB6 := Lib.hid (But2.set2 w5 mb sb j (.bool true))
                have HK6 := Lib.hid (HK5.out.but hsb HB6.out)
                have HM6 := Lib.hid (HM5.out.set_ne (k := sb) (j := j) hmb (.bool true))
                clear hx5 hS6 HKY HMY HSY HBY HDY HME
                have HBZ := Lib.hid (HB5.out.trans HB6.out)
                go_upto_region 6 with (fail)
                obtain ⟨Z, hZ⟩ : ∃ Z, Z = w5.setCell ⟨sb, j, none⟩ (.bool true) := ⟨_, rfl⟩
                rw [← hZ] at HS6 HK6 HM6 HBZ ⊢
                clear hZ hf5 hc5 HB6 HK5 HM5 HS5 HB5
                obtain ⟨_, _, hc5, hc8, _⟩ := HK6.out
                have hmc := HM6.out.cell hjl
                have hmf := HM6.out.frozen j
                obtain ⟨mj, hmj⟩ : ∃ mj, mj = s.2 j := ⟨_, rfl⟩
                rw [← hmj] at hmc
                have HMJ := Lib.hid hmj
                have hmr : mj < (F.length : Int) := by rw [hmj]; exact HRG.out j
                clear hmj
                have HUU := Lib.hid (show unm (upB s.1 j) S.length < f from by have := unm_up HSJ.out S.length hjl; have := HU.out; omega)
                by_cases h0 : mj < 0
                · have HR2 := Lib.hid (HR1.out.trans (kuD_free hjl HSJ.out HZ.out (by rw [← HMJ.out]; exact h0)))
                  go_quiet (fail)
                  go_upto_region 7 with (fail)
                  obtain ⟨Y2, hY2⟩ : ∃ Y2, Y2 = Z.drewN nq := ⟨_, rfl⟩
                  have HK7 := Lib.hid (HK6.out.ext (ext_drewN Z nq))
                  have HM7 := Lib.hid (HM6.out.ext (ext_drewN Z nq))
                  have HS7 := Lib.hid (HS6.out.ext (ext_drewN Z nq))
                  have HB7 := Lib.hid (HBZ.out.trans (But2.of (ext_drewN Z nq)))
                  rw [← hY2] at HK7 HM7 HS7 HB7 ⊢
                  clear hY2 hc5 hc8 hmc hmf
                  obtain ⟨_, _, hc5, _, _⟩ := HK7.out
                  have hmc := HM7.out.cell hjl
                  have hmf := HM7.out.frozen j
                  have hM8 := HM7.out.set j (i : Int)
                  have HM8 := Lib.hid (show Ow 3 mb S.length (upI s.2 j i) (Y2.setCell ⟨mb, j, none⟩ (.int .i64 (i : Int))) from hM8)
                  have HB8 := Lib.hid (But2.set1 Y2 mb sb j (.int .i64 (i : Int)))
                  have HK8 := Lib.hid (HK7.out.but hsb HB8.out)
                  have HS8 := Lib.hid (HS7.out.set_ne (k := mb) (j := j) (Ne.symm hmb) (.int .i64 (i : Int)))
                  clear hM8
                  go_wp2
                  go_ret
                  rw [HR2.out]
                  exact ⟨rfl, HK8.out, HM8.out, HS8.out, HB7.out.trans HB8.out⟩
                · have h0' : 0 ≤ mj := by omega
                  obtain ⟨v, rfl⟩ : ∃ v : Nat, mj = (v : Int) := ⟨mj.toNat, by omega⟩
                  go_still_tail 12, (by kernel_rfl)
                  have HK7 := Lib.hid (HK6.out.ext (ext_drew Z))
                  have HM7 := Lib.hid (HM6.out.ext (ext_drew Z))
                  have HS7 := Lib.hid (HS6.out.ext (ext_drew Z))
                  have HB7 := Lib.hid (HBZ.out.trans (But2.of (ext_drew Z)))
                  change wpList _ _ _ _ _ Z.drew
                  obtain ⟨Y2, hY2⟩ : ∃ Y2, Y2 = Z.drew := ⟨_, rfl⟩
                  rw [← hY2] at HK7 HM7 HS7 HB7 ⊢
                  clear hY2 hc5 hc8 hmc hmf HK6 HM6 HS6 HBZ
                  have HI := Lib.hid (HIH.out v (upB s.1 j, s.2) Y2 HUU.out HK7.out HM7.out HS7.out (by omega) HRG.out)
                  have HRG2 := Lib.hid (ku_rg (adj := adjC F S) (n := S.length) f v (upB s.1 j, s.2) (by omega) HRG.out)
                  have HMO := Lib.hid (ku_mono (adj := adjC F S) (n := S.length) (f := f) (i := v) (st := (upB s.1 j, s.2)) HUU.out)
                  have hmn : ¬ s.2 j < 0 := by rw [← HMJ.out]; exact h0
                  have hvt : (s.2 j).toNat = v := by rw [← HMJ.out]; rfl
                  have HYES := Lib.hid (fun (s2 : KuS) (hh : ku (adjC F S) S.length f v (upB s.1 j, s.2) = (true, s2)) => HR1.out.trans (kuD_yes hjl HSJ.out HZ.out hmn (by rw [hvt]; exact hh)))
                  have HNO := Lib.hid (fun (s2 : KuS) (hh : ku (adjC F S) S.length f v (upB s.1 j, s.2) = (false, s2)) => HR1.out.trans (kuD_no hjl HSJ.out HZ.out hmn (by rw [hvt]; exact hh)))
                  obtain ⟨r2, hr2⟩ : ∃ r2, r2 = ku (adjC F S) S.length f v (upB s.1 j, s.2) := ⟨_, rfl⟩
                  rw [← hr2] at HI HRG2 HMO HYES HNO
                  have HU2 := Lib.hid (show unm r2.2.1 S.length ≤ f from by have h1 := unm_le HMO.out S.length; have h2 := HUU.out; dsimp only at h1; omega)
                  obtain ⟨ok, s2⟩ := r2
                  dsimp only at HRG2 HU2
                  clear hr2 hmn hvt HK7 HM7 HS7 HMO
                  cases ok with
                  | true =>
                    have HR2 := Lib.hid (HYES.out s2 rfl)
                    clear HYES HNO
                    go_upto_region 7 with (go_at_call 130; refine (HI.out).mono ?_; rintro e w8 ⟨rfl, hk8, hm8, hs8, hb8⟩)
                    have HK8 := Lib.hid hk8
                    have HM8 := Lib.hid hm8
                    have HS8 := Lib.hid hs8
                    have HB8 := Lib.hid (HB7.out.trans hb8)
                    clear hk8 hm8 hs8 hb8
                    obtain ⟨_, _, hc5, _, _⟩ := HK8.out
                    have hmc := HM8.out.cell hjl
                    have hmf := HM8.out.frozen j
                    have hM9 := HM8.out.set j (i : Int)
                    have HM9 := Lib.hid (show Ow 3 mb S.length (upI s2.2 j i) (w8.setCell ⟨mb, j, none⟩ (.int .i64 (i : Int))) from hM9)
                    have HB9 := Lib.hid (But2.set1 w8 mb sb j (.int .i64 (i : Int)))
                    have HK9 := Lib.hid (HK8.out.but hsb HB9.out)
                    have HS9 := Lib.hid (HS8.out.set_ne (k := mb) (j := j) (Ne.symm hmb) (.int .i64 (i : Int)))
                    clear hM9
                    go_wp2
                    go_ret
                    rw [HR2.out]
                    exact ⟨rfl, HK9.out, HM9.out, HS9.out, HB8.out.trans HB9.out⟩
                  | false =>
                    have HR2 := Lib.hid (HNO.out s2 rfl)
                    clear HYES HNO
                    go_wp2_with (go_at_call 130; refine (HI.out).mono ?_; rintro e w8 ⟨rfl, hk8, hm8, hs8, hb8⟩; have HK8 := Lib.hid hk8; have HM8 := Lib.hid hm8; have HS8 := Lib.hid hs8; have HB8 := Lib.hid (HB7.out.trans hb8); clear hk8 hm8 hs8 hb8)
                    go_roundg (S.length - (j + 1))
                    case measure => have := HG.out; omega
                    case rel => exact ⟨j + 1, s2, by go_num, by omega, rfl, HK8.out, HM8.out, HS8.out, HB8.out, HR2.out, HU2.out, HRG2.out⟩
      · obtain rfl : j = S.length := by omega
        have HR2 := Lib.hid (HR1.out.trans kuD_end)
        have HK := Lib.hid hk
        have HM := Lib.hid hm
        have HS := Lib.hid hs
        have HBB := Lib.hid hb
        clear hgg hk hm hs hb hr hu hrg
        go_wp2
        go_ret
        rw [HR2.out]
        exact ⟨rfl, HK.out, HM.out, HS.out, HBB.out⟩
end Go.Proofs.YtmgofdgbenfjmaaDoor
