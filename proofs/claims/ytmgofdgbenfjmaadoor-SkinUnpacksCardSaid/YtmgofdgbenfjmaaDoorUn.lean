/- The program's Unpack walked. Conditions: the string's length is an int; the table of powers of ten and the greatest length of an index are laid. -/
import Derived.Test.YtmgofdgbenfjmaaDoorUnP
import Derived.Lib.ConvBytes
import Derived.Lib.AtoiErrMem
namespace Go.Proofs.YtmgofdgbenfjmaaDoor
open Go.RowKit

set_option maxRecDepth 100000 in
set_option maxHeartbeats 8000000 in
theorem unpack_any (t : ByteArray) (w : World) (ht : t.size ≤ 9223372036854775807) (hp : P10 w) (hm : MxI w) :
    Calls Tryd.prog 28 #[.string t] w (RetUn w t) := by
  by_cases hbig : 2352 < t.size
  · have HN := Lib.hid (un_long hbig)
    have hbI : (2352 : Int) < (t.size : Int) := by omega
    clear hp hm
    go_enter Tryd.func28, Tryd.ntmps28
    go_wp2
    refine bodyPost_ret (v := .tuple #[.slice none 0 0, .int .i64 6]) (by simp [results, Tryd.results28, go_sem]) rfl ?_
    exact ⟨Below.refl _ _, .inr ⟨HN.out, rfl⟩⟩
  · have hbI : ¬ (2352 : Int) < (t.size : Int) := by omega
    have ht2 : t.size ≤ 2352 := by omega
    have HSP := Lib.hid (split_any t w (by omega) hm)
    have HPT := Lib.hid (fun W (hW : Below w.heap.size w W) => hp.ext hW)
    have HPK := Lib.hid (fun A cap l W hc hcm (h : TSl W A l) hz (hW : Below w.heap.size w W) => pack_any A cap l W hc hcm h hz (HPT.out W hW))
    clear hp hm hbig
    go_enter Tryd.func28, Tryd.ntmps28
    go_wp2_with (go_at_call 66; refine (HSP.out).mono ?_; rintro e w1 ⟨hx1, L, rfl, hLl, hbl, hcl, hmap, hsz⟩; have HXW := Lib.hid hx1; have HSZ := Lib.hid hsz; clear hx1 hsz)
    clear HSP
    obtain ⟨R, hR⟩ : ∃ R, R = pdRows (L.map (·.data.toList)) := ⟨_, rfl⟩
    have hR2 := hR
    rw [hmap] at hR2
    have HNR := Lib.hid (show R = none → ∀ s, SkOk s → BS (packL s) ≠ t from fun h => un_none (hR2.symm.trans h))
    have HRB := Lib.hid (show ∀ ss : List ByteArray, R = some (ss.map (·.data.toList)) → ¬ (SkOk ss ∧ BS (packL ss) = t) → ∀ s, SkOk s → BS (packL s) ≠ t from fun ss h => un_bad (hR2.symm.trans h))
    have HR0 := Lib.hid (show RoI R [] ((L.map (·.data.toList)).drop 0) from by rw [hR]; exact RoI.start _)
    have HLC := Lib.hid (show ∀ W, Below w1.heap.size w1 W → w.heap.size < W.heap.size ∧ ∀ j (hj : j < L.length), W.cell? ⟨w.heap.size, j, none⟩ = some (.string L[j]) from fun W hW => ⟨Nat.lt_of_lt_of_le hbl hW.size, fun j hj => (hW.cell (p := ⟨w.heap.size, j, none⟩) hbl).trans (hcl j hj)⟩)
    have HV0 := Lib.hid (Vs.nil w1.heap.size w1)
    have HB0 := Lib.hid (Below.refl w1.heap.size w1)
    have hw1 : w.heap.size ≤ w1.heap.size := by omega
    clear hR hR2 hmap hcl hbl
    go_loopg [19, 4] L.length (fun gg z v wr => ∃ (k : Nat) (ss : List ByteArray), z = .int .i64 k ∧ k ≤ L.length ∧ gg = L.length - k ∧ ss.length ≤ k ∧ (∀ r ∈ ss, r.size ≤ 1000000) ∧ RoI R ss ((L.map (·.data.toList)).drop k) ∧ Vs w1.heap.size wr v ss ∧ Below w1.heap.size w1 wr)
    case atStart => exact ⟨0, [], rfl, by omega, by omega, by simp, by simp, HR0.out, HV0.out, HB0.out⟩
    case round =>
      obtain ⟨k, ss, rfl, hk, hgg, hssl, hssz, hro, hv, hb⟩ := hrel
      have HG1 := Lib.hid hgg
      have HV1 := Lib.hid hv
      have HB1 := Lib.hid hb
      have HRO := Lib.hid hro
      have HSS := Lib.hid hssz
      clear hgg hv hb hro hssz HR0 HV0 HB0
      obtain ⟨V0, hV0⟩ : ∃ V0, V0 = wr := ⟨_, rfl⟩
      subst hV0
      by_cases hlt : k < L.length
      · obtain ⟨cb, cc⟩ := HLC.out _ HB1.out
        have ck := cc k hlt
        have hdr : (L.map (·.data.toList)).drop k = L[k].data.toList :: (L.map (·.data.toList)).drop (k + 1) := by
          rw [List.drop_eq_getElem_cons (by simpa using hlt)]; simp
        have hszk := HSZ.out L[k] (List.getElem_mem _)
        have hro := HRO.out
        rw [hdr] at hro
        obtain ⟨s, hs⟩ : ∃ s, s = L[k] := ⟨_, rfl⟩
        rw [← hs] at ck hszk hro
        have hss48 : s.size ≤ 2352 := by omega
        obtain ⟨F, hF⟩ : ∃ F, F = foldO pdStep ([], 0) s.data.toList := ⟨_, rfl⟩
        have HNF := Lib.hid (show F = none → R = none from fun h => hro.fail (hF.symm.trans h))
        have HYF := Lib.hid (show ∀ row n, F = some (row, n) → RoI R (ss ++ [BS row]) ((L.map (·.data.toList)).drop (k + 1)) from fun row n h => hro.step (hF.symm.trans h))
        have HF0 := Lib.hid (show FoI pdStep F ([], 0) (s.data.toList.drop 0) from by rw [List.drop_zero]; exact hF)
        have hcv := Lib.run_convert_string_bytes (P := Tryd.prog) V0 9 101 5 s Tryd.underlying9 Tryd.underlying101 Tryd.underlying5
        have HXB := Lib.hid (Lib.bytesWorld_below V0 5 s)
        have HBC := Lib.hid (show ∀ j (hj : j < s.data.size), (Lib.bytesWorld V0 5 s).cell? ⟨V0.heap.size, j, none⟩ = some (.int .u8 (s.data[j].toNat : Int)) from fun j hj => by
          rw [Lib.bytesWorld_cell V0 5 s j hj]
          rw [getD_at hj])
        have hbs := Lib.bytesWorld_size V0 5 s
        have HVB := Lib.hid (HV1.out.ext HXB.out)
        have HBB := Lib.hid (bext HB1.out HXB.out HB1.out.size)
        have HLT := Lib.hid hlt
        have hk1 : (k : Int) < (L.length : Int) := by omega
        clear cc hdr hro hs hF hszk
        go_wp2_with (fail)
        obtain ⟨rb, hrb⟩ : ∃ rb, rb = V0.heap.size := ⟨_, rfl⟩
        obtain ⟨wb, hwb⟩ : ∃ wb, wb = Lib.bytesWorld V0 5 s := ⟨_, rfl⟩
        rw [← hwb, ← hrb]
        rw [← hwb, ← hrb] at HBC hbs
        rw [← hwb] at HVB HBB
        have hrbw : rb < wb.heap.size := by omega
        have hbw0 : w1.heap.size ≤ wb.heap.size := HBB.out.size
        have HVN := Lib.hid (Vb.nil wb.heap.size wb)
        have HBN := Lib.hid (Below.refl wb.heap.size wb)
        have HBC := Lib.hid (show ∀ W, Below wb.heap.size wb W → rb < W.heap.size ∧ ∀ j (hj : j < s.data.size), W.cell? ⟨rb, j, none⟩ = some (.int .u8 (s.data[j].toNat : Int)) from fun W hW => ⟨Nat.lt_of_lt_of_le hrbw hW.size, fun j hj => (hW.cell (p := ⟨rb, j, none⟩) hrbw).trans (HBC.out j hj)⟩)
        clear hwb hrb hcv hbs HXB ck cb HV1 HB1
        go_loopg [26, 7, 8] s.size (fun gg z v z2 wr => ∃ (i : Nat) (row : List UInt8) (n : Nat), z = .int .i64 i ∧ z2 = .int .i64 n ∧ i ≤ s.size ∧ gg = s.size - i ∧ n ≤ 500 ∧ row.length ≤ 48 * i ∧ FoI pdStep F (row, n) (s.data.toList.drop i) ∧ Vb wb.heap.size wr v row ∧ Below wb.heap.size wb wr)
        case atStart => exact ⟨0, [], 0, rfl, rfl, by omega, by omega, by omega, by simp, HF0.out, HVN.out, HBN.out⟩
        case round =>
          obtain ⟨i, row, n, rfl, rfl, hi, hgg, hn5, hrl, hf, hv, hb⟩ := hrel
          have HG2 := Lib.hid hgg
          have HV2 := Lib.hid hv
          have HB2 := Lib.hid hb
          have HF2 := Lib.hid hf
          clear hgg hv hb hf HF0 HVN HBN
          have HB3 := Lib.hid (HBB.out.trans (HB2.out.mono hbw0))
          by_cases hin : i < s.size
          · have hi4 : i < s.data.size := hin
            obtain ⟨cb, cc⟩ := HBC.out _ HB2.out
            have ci := cc i hi4
            obtain ⟨x, hx⟩ : ∃ x, x = s.data[i]'hi4 := ⟨_, rfl⟩
            have HX := Lib.hid hx
            rw [← hx] at ci
            have HFA := Lib.hid (show pdStep (row, n) x = none → F = none from fun h => HF2.out.fail (hi := hi4) (by rw [← hx]; exact h))
            have HFS := Lib.hid (show ∀ a', pdStep (row, n) x = some a' → FoI pdStep F a' (s.data.toList.drop (i + 1)) from fun a' h => HF2.out.step (hi := hi4) (by rw [← hx]; exact h))
            obtain ⟨cn, hcn⟩ : ∃ cn, cn = x.toNat := ⟨_, rfl⟩
            rw [← hcn] at ci
            have hcn8 : cn < 256 := by rw [hcn]; exact UInt8.toNat_lt x
            have HCN := Lib.hid hcn
            have hiI : (i : Int) < (s.size : Int) := by omega
            clear cc hx hcn
            by_cases hsw : 48 ≤ cn ∧ cn ≤ 57 ∧ n ≤ 48
            · have HFN := Lib.hid (HFS.out _ (pd_dig (by rw [← HCN.out]; exact hsw)))
              rw [← HCN.out] at HFN
              obtain ⟨h1, h2, h3⟩ := hsw
              obtain ⟨dn, hdn⟩ : ∃ dn, dn = cn - 48 := ⟨_, rfl⟩
              have hdI : (cn : Int) - 48 = (dn : Int) := by omega
              have hd9 : dn ≤ 9 := by omega
              rw [← hdn] at HFN
              have i1 : (48 : Int) ≤ (cn : Int) := by omega
              have i2 : (cn : Int) ≤ 57 := by omega
              have i3 : (n : Int) ≤ 48 := by omega
              clear hdn
              go_wp2_with (fail)
              go_roundg (s.size - (i + 1))
              case measure => have := HG2.out; omega
              case rel => exact ⟨i + 1, row, 10 * n + dn, by go_num, by go_num, by omega, rfl, by omega, by omega, HFN.out, HV2.out, HB2.out⟩
            · by_cases hsw2 : 97 ≤ cn ∧ cn ≤ 106 ∧ n ≤ 48
              · have HFN := Lib.hid (HFS.out _ (pd_let (by rw [← HCN.out]; exact hsw2)))
                obtain ⟨h1, h2, h3⟩ := hsw2
                have i1 : (48 : Int) ≤ (cn : Int) := by omega
                have i2 : ¬ (cn : Int) ≤ 57 := by omega
                have i2N : ¬ cn ≤ 57 := by omega
                have i3 : (n : Int) ≤ 48 := by omega
                have i4 : (97 : Int) ≤ (cn : Int) := by omega
                have i5 : (cn : Int) ≤ 106 := by omega
                obtain ⟨m, hm⟩ : ∃ m, m = max n 1 := ⟨_, rfl⟩
                have hmI : max (n : Int) 1 = (m : Int) := by omega
                have hm48 : m ≤ 48 := by omega
                rw [← hm] at HFN
                have hux : (48 + (cn : Int) - 97) % 256 = ((x - 49).toNat : Int) := by
                  have hc := HCN.out
                  rw [UInt8.toNat_sub_of_le _ _ (by rw [UInt8.le_iff_toNat_le, ← hc]; show 49 ≤ cn; omega), ← hc]
                  show (48 + (cn : Int) - 97) % 256 = ((cn - 49 : Nat) : Int)
                  omega
                have HUX := Lib.hid hux
                clear hux hm hsw
                go_wp2_with (fail)
                go_loopg [60, 7] m (fun gg z v wr => ∃ q : Nat, z = .int .i64 q ∧ q ≤ m ∧ gg = m - q ∧ Vb wb.heap.size wr v (row ++ List.replicate q (x - 49)) ∧ Below wb.heap.size wb wr)
                case atStart => exact ⟨0, rfl, by omega, by omega, by rw [List.replicate_zero, List.append_nil]; exact HV2.out, HB2.out⟩
                case round =>
                  obtain ⟨q, rfl, hq, hgg, hv, hb⟩ := hrel
                  have HG3 := Lib.hid hgg
                  have HV4 := Lib.hid hv
                  have HB4 := Lib.hid hb
                  clear hgg hv hb HV2 HB2
                  by_cases hqm : q < m
                  · have hrl2 : (row ++ List.replicate q (x - 49)).length ≤ 1000000 := by rw [List.length_append, List.length_replicate]; omega
                    go_wp2_with (at_builtin; refine wpList_pushB _ rfl _ _ rfl wb.heap.size HV4.out (by rfl) (x - 49) (by first | exact HUX.out | (rw [← HUX.out]; omega)) (by rfl) rfl hrl2 HB4.out.size ?_; intro v5 w5 hv5 hb5 hk5 hk6; have HV5 := Lib.hid hv5; have HB5 := Lib.hid (HB4.out.trans hb5); clear hv5 hb5 hk5 hk6)
                    go_roundg (m - (q + 1))
                    case measure => have := HG3.out; omega
                    case rel => exact ⟨q + 1, by go_num, by omega, rfl, by rw [replicate_snoc]; exact HV5.out, HB5.out⟩
                  · obtain rfl : q = m := by omega
                    clear hqm
                    go_wp2_with (fail)
                    go_roundg (s.size - (i + 1))
                    case measure => have := HG2.out; omega
                    case rel => exact ⟨i + 1, _, 0, by go_num, by go_num, by omega, rfl, by omega, by rw [List.length_append, List.length_replicate]; omega, HFN.out, HV4.out, HB4.out⟩
              · have HNO := Lib.hid (HNR.out (HNF.out (HFA.out (pd_bad (by rw [← HCN.out]; exact hsw) (by rw [← HCN.out]; exact hsw2)))))
                have HBW := Lib.hid (bext HXW.out HB3.out HXW.out.size)
                by_cases j1 : 48 ≤ cn
                · have i1 : (48 : Int) ≤ (cn : Int) := by omega
                  by_cases j2 : cn ≤ 57
                  · have i2 : (cn : Int) ≤ 57 := by omega
                    have i3 : ¬ (n : Int) ≤ 48 := by omega
                    have j3 : ¬ n ≤ 48 := by omega
                    have i4 : ¬ (97 : Int) ≤ (cn : Int) := by omega
                    have j4 : ¬ 97 ≤ cn := by omega
                    clear hsw hsw2
                    go_wp2_with (fail)
                    (try simp only [Exit.inBlock, Exit.then])
                    refine bodyPost_ret (v := .tuple #[.slice none 0 0, .int .i64 6]) (by simp [results, Tryd.results28, go_sem]) rfl ?_
                    exact ⟨HBW.out, .inr ⟨HNO.out, rfl⟩⟩
                  · have i2 : ¬ (cn : Int) ≤ 57 := by omega
                    by_cases j4 : 97 ≤ cn
                    · have i4 : (97 : Int) ≤ (cn : Int) := by omega
                      by_cases j5 : cn ≤ 106
                      · have i5 : (cn : Int) ≤ 106 := by omega
                        have i3 : ¬ (n : Int) ≤ 48 := by omega
                        have j3 : ¬ n ≤ 48 := by omega
                        clear hsw hsw2
                        go_wp2_with (fail)
                        (try simp only [Exit.inBlock, Exit.then])
                        refine bodyPost_ret (v := .tuple #[.slice none 0 0, .int .i64 6]) (by simp [results, Tryd.results28, go_sem]) rfl ?_
                        exact ⟨HBW.out, .inr ⟨HNO.out, rfl⟩⟩
                      · have i5 : ¬ (cn : Int) ≤ 106 := by omega
                        clear hsw hsw2
                        go_wp2_with (fail)
                        (try simp only [Exit.inBlock, Exit.then])
                        refine bodyPost_ret (v := .tuple #[.slice none 0 0, .int .i64 6]) (by simp [results, Tryd.results28, go_sem]) rfl ?_
                        exact ⟨HBW.out, .inr ⟨HNO.out, rfl⟩⟩
                    · have i4 : ¬ (97 : Int) ≤ (cn : Int) := by omega
                      clear hsw hsw2
                      go_wp2_with (fail)
                      (try simp only [Exit.inBlock, Exit.then])
                      refine bodyPost_ret (v := .tuple #[.slice none 0 0, .int .i64 6]) (by simp [results, Tryd.results28, go_sem]) rfl ?_
                      exact ⟨HBW.out, .inr ⟨HNO.out, rfl⟩⟩
                · have i1 : ¬ (48 : Int) ≤ (cn : Int) := by omega
                  have i4 : ¬ (97 : Int) ≤ (cn : Int) := by omega
                  have j4 : ¬ 97 ≤ cn := by omega
                  clear hsw hsw2
                  go_wp2_with (fail)
                  (try simp only [Exit.inBlock, Exit.then])
                  refine bodyPost_ret (v := .tuple #[.slice none 0 0, .int .i64 6]) (by simp [results, Tryd.results28, go_sem]) rfl ?_
                  exact ⟨HBW.out, .inr ⟨HNO.out, rfl⟩⟩
          · obtain rfl : i = s.size := by omega
            have HYN := Lib.hid (HYF.out _ _ HF2.out.done)
            have hcv2 := vb_conv HV2.out
            have HVW := Lib.hid (HVB.out.ext HB2.out)
            have hrz : (BS row).size ≤ 1000000 := by rw [BS_size]; omega
            obtain ⟨sr, hsr⟩ : ∃ sr, sr = BS row := ⟨_, rfl⟩
            rw [← hsr] at hcv2 hrz HYN
            have hsl1 : ss.length ≤ 1000000 := by omega
            clear hin hsr
            go_wp2_with (at_builtin; refine wpList_pushS _ rfl _ _ rfl w1.heap.size HVW.out (by rfl) sr (by rfl) rfl hsl1 HB3.out.size ?_; intro v5 w5 hv5 hb5 hk5 hk6; have HV5 := Lib.hid hv5; have HB5 := Lib.hid (HB3.out.trans hb5); clear hv5 hb5 hk5 hk6)
            go_roundg (L.length - (k + 1))
            case measure => have := HG1.out; have := HLT.out; omega
            case rel => exact ⟨k + 1, ss ++ [sr], by go_num, by have := HLT.out; omega, rfl, by rw [List.length_append]; simp; omega, fun r hr => (List.mem_append.1 hr).elim (HSS.out r) (fun h => by simp at h; rw [h]; exact hrz), HYN.out, HV5.out, HB5.out⟩
      · obtain rfl : k = L.length := by omega
        have hro := HRO.out
        rw [List.drop_of_length_le (by simp)] at hro
        have HRB2 := Lib.hid (HRB.out ss hro.done)
        obtain ⟨A2, c2, rfl, hc2, hm2, hs2⟩ := HV1.out.tsl
        have HBW := Lib.hid (bext HXW.out HB1.out HXW.out.size)
        have HTZ := Lib.hid (show TSz ss from fun r hr => by have := HSS.out r hr; omega)
        have HP1 := Lib.hid (HPK.out A2 c2 ss V0 hc2 hm2 hs2 HTZ.out HBW.out)
        have HS2 := Lib.hid hs2
        have HC2 := Lib.hid hc2
        have HM2 := Lib.hid hm2
        clear hro hs2 hlt
        by_cases hok : SkOk ss
        · have HOK := Lib.hid hok
          have HP1 := Lib.hid (HP1.out.mono (R' := fun e w' => Below V0.heap.size V0 w' ∧ e = .returned (.tuple #[.string (BS (packL ss)), .int .i64 0])) (fun e w' hr => ⟨hr.1, hr.2.elim (fun h => absurd hok h.1) (fun h => h.2)⟩))
          obtain ⟨sp, hsp⟩ : ∃ sp, sp = BS (packL ss) := ⟨_, rfl⟩
          rw [← hsp] at HP1
          have HSP := Lib.hid hsp
          clear hsp hok
          by_cases hq : sp = t
          · have HQ := Lib.hid hq
            have t1 : (sp.toList == t.toList) = true := by rw [hq]; simp
            have t2 : (sp.toList != t.toList) = false := by rw [hq]; simp
            clear hq
            go_wp2_with (go_at_call 26; refine (HP1.out).mono ?_; rintro e w6 ⟨hx6, rfl⟩; have HX6 := Lib.hid hx6; clear hx6)
            (try simp only [Exit.inBlock, Exit.then])
            refine bodyPost_ret (v := .tuple #[.slice A2 ss.length c2, .int .i64 0]) (by simp [results, Tryd.results28, go_sem]) rfl ?_
            exact ⟨bext HBW.out HX6.out HBW.out.size, .inl ⟨A2, c2, ss, HOK.out, by rw [← HSP.out]; exact HQ.out, rfl, HC2.out, HM2.out, HS2.out.ext HX6.out, HTZ.out⟩⟩
          · have HNO := Lib.hid (HRB2.out (fun h => hq (HSP.out.trans h.2)))
            have t1 : (sp.toList == t.toList) = false := by simpa using fun h => hq (toList_inj h)
            have t2 : (sp.toList != t.toList) = true := by simpa using fun h => hq (toList_inj h)
            clear hq
            go_wp2_with (go_at_call 26; refine (HP1.out).mono ?_; rintro e w6 ⟨hx6, rfl⟩; have HX6 := Lib.hid hx6; clear hx6)
            (try simp only [Exit.inBlock, Exit.then])
            refine bodyPost_ret (v := .tuple #[.slice none 0 0, .int .i64 6]) (by simp [results, Tryd.results28, go_sem]) rfl ?_
            exact ⟨bext HBW.out HX6.out HBW.out.size, .inr ⟨HNO.out, rfl⟩⟩
        · have HP1 := Lib.hid (HP1.out.mono (R' := fun e w' => Below V0.heap.size V0 w' ∧ e = .returned (.tuple #[.string ⟨#[]⟩, .int .i64 2])) (fun e w' hr => ⟨hr.1, hr.2.elim (fun h => h.2) (fun h => absurd h.1 hok)⟩))
          have HNO := Lib.hid (HRB2.out (fun h => hok h.1))
          clear hok
          go_wp2_with (go_at_call 26; refine (HP1.out).mono ?_; rintro e w6 ⟨hx6, rfl⟩; have HX6 := Lib.hid hx6; clear hx6)
          (try simp only [Exit.inBlock, Exit.then])
          refine bodyPost_ret (v := .tuple #[.slice none 0 0, .int .i64 6]) (by simp [results, Tryd.results28, go_sem]) rfl ?_
          exact ⟨bext HBW.out HX6.out HBW.out.size, .inr ⟨HNO.out, rfl⟩⟩
end Go.Proofs.YtmgofdgbenfjmaaDoor
