/- The reference's Unpack walked. Conditions: the string's length is an int; the table of powers of ten is laid. -/
import Derived.Test.YtmgofdgbenfjmaaDoorUnP
import Derived.Test.YtmgofdgbenfjmaaDoorPr2
namespace Go.Proofs.YtmgofdgbenfjmaaDoor
open Go.RowKit

theorem rn_long {t : ByteArray} (h : 4656 < t.size) : ∀ s, SkOk s → BS (packL s) ≠ t := un_long (by omega)
theorem rn_none {t : ByteArray} (h : foldO rdStep ⟨[], [], 0⟩ t.data.toList = none) : ∀ s, SkOk s → BS (packL s) ≠ t := fun s hs e => by
  obtain ⟨s1, r1, e1, _⟩ := rd_pack hs
  rw [← e, BS_list, e1] at h; cases h
theorem rn_same {t : ByteArray} {ss : List ByteArray} {row : List UInt8} {n : Nat} (h : foldO rdStep ⟨[], [], 0⟩ t.data.toList = some ⟨ss.map (·.data.toList), row, n⟩) {s : List ByteArray} (hs : SkOk s) (e : BS (packL s) = t) : s = ss ++ [BS row] := by
  obtain ⟨s1, r1, e1, e2⟩ := rd_pack hs
  rw [← e, BS_list, e1] at h
  injection h with h
  injection h with h1 h2 h3
  subst h1; subst h2
  refine map_data_inj (e2.symm.trans ?_)
  simp [BS_list]
theorem rn_bad {t : ByteArray} {ss : List ByteArray} {row : List UInt8} {n : Nat} (h : foldO rdStep ⟨[], [], 0⟩ t.data.toList = some ⟨ss.map (·.data.toList), row, n⟩) (hn : ¬ (SkOk (ss ++ [BS row]) ∧ BS (packL (ss ++ [BS row])) = t)) : ∀ s, SkOk s → BS (packL s) ≠ t := fun s hs e => by
  have := rn_same h hs e
  subst this
  exact hn ⟨hs, e⟩
theorem rs_dig {S : List (List UInt8)} {row : List UInt8} {n : Nat} {c : UInt8} (h : 48 ≤ c.toNat ∧ c.toNat ≤ 57) (h1 : row.length ≤ 48) (h2 : S.length ≤ 48) : rdStep ⟨S, row, n⟩ c = some ⟨S, row, min (10 * n + (c.toNat - 48)) 1000⟩ := by
  unfold rdStep; rw [if_pos h]; exact rdChk_ok h1 h2
theorem rs_let {S : List (List UInt8)} {row : List UInt8} {n : Nat} {c : UInt8} (h : 97 ≤ c.toNat ∧ c.toNat ≤ 106) : rdStep ⟨S, row, n⟩ c = rdChk ⟨S, row ++ List.replicate (max n 1) (c - 49), 0⟩ := by
  unfold rdStep; rw [if_neg (by omega), if_pos h]
theorem rs_sl {S : List (List UInt8)} {row : List UInt8} {n : Nat} {c : UInt8} (h : c.toNat = 47) : rdStep ⟨S, row, n⟩ c = rdChk ⟨S ++ [row], [], n⟩ := by
  unfold rdStep; rw [if_neg (by omega), if_neg (by omega), if_pos (UInt8.toNat_inj.1 h)]
theorem rs_bad {S : List (List UInt8)} {row : List UInt8} {n : Nat} {c : UInt8} (h1 : ¬ (48 ≤ c.toNat ∧ c.toNat ≤ 57)) (h2 : ¬ (97 ≤ c.toNat ∧ c.toNat ≤ 106)) (h3 : c.toNat ≠ 47) : rdStep ⟨S, row, n⟩ c = none := by
  unfold rdStep; rw [if_neg h1, if_neg h2, if_neg (fun e => h3 (by rw [e]; rfl))]
theorem rdChk_no {st : Rd} (h : 48 < st.row.length ∨ 48 < st.s.length) : rdChk st = none := by
  unfold rdChk; rw [if_pos h]

set_option maxRecDepth 100000 in
set_option maxHeartbeats 8000000 in
theorem runpack_any (t : ByteArray) (w : World) (ht : t.size ≤ 9223372036854775807) (hp : P10 w) :
    Calls Tryd.prog 36 #[.string t] w (RetUn w t) := by
  by_cases hbig : 4656 < t.size
  · have HN := Lib.hid (rn_long hbig)
    have hbI : (4656 : Int) < (t.size : Int) := by omega
    clear hp
    go_enter Tryd.func36, Tryd.ntmps36
    go_wp2
    refine bodyPost_ret (v := .tuple #[.slice none 0 0, .int .i64 6]) (by simp [results, Tryd.results36, go_sem]) rfl ?_
    exact ⟨Below.refl _ _, .inr ⟨HN.out, rfl⟩⟩
  · have hbI : ¬ (4656 : Int) < (t.size : Int) := by omega
    have ht2 : t.size ≤ 4656 := by omega
    have HPT := Lib.hid (fun W (hW : Below w.heap.size w W) => hp.ext hW)
    have HPK := Lib.hid (fun A cap l W hc hcm (h : TSl W A l) hz (hW : Below w.heap.size w W) => rpack_any A cap l W hc hcm h hz (HPT.out W hW))
    obtain ⟨F, hF⟩ : ∃ F, F = foldO rdStep ⟨[], [], 0⟩ t.data.toList := ⟨_, rfl⟩
    have HNF := Lib.hid (show F = none → ∀ s, SkOk s → BS (packL s) ≠ t from fun h => rn_none (hF.symm.trans h))
    have HRB := Lib.hid (show ∀ (ss : List ByteArray) row n, F = some ⟨ss.map (·.data.toList), row, n⟩ → ¬ (SkOk (ss ++ [BS row]) ∧ BS (packL (ss ++ [BS row])) = t) → ∀ s, SkOk s → BS (packL s) ≠ t from fun ss row n h => rn_bad (hF.symm.trans h))
    have HF0 := Lib.hid (show FoI rdStep F ⟨([] : List ByteArray).map (·.data.toList), [], 0⟩ (t.data.toList.drop 0) from by rw [List.drop_zero]; exact hF)
    have HV0 := Lib.hid (Vs.nil w.heap.size w)
    have HB0 := Lib.hid (Below.refl w.heap.size w)
    clear hp hbig hF
    go_enter Tryd.func36, Tryd.ntmps36
    go_wp2_with (fail)
    go_loopg [16, 4, 5, 6] t.size (fun gg z v z2 z3 wr => ∃ (i : Nat) (ss : List ByteArray) (row : List UInt8) (n : Nat), z = .int .i64 i ∧ z2 = .string (BS row) ∧ z3 = .int .i64 n ∧ i ≤ t.size ∧ gg = t.size - i ∧ n ≤ 1000 ∧ row.length ≤ 48 ∧ ss.length ≤ 48 ∧ TSz ss ∧ FoI rdStep F ⟨ss.map (·.data.toList), row, n⟩ (t.data.toList.drop i) ∧ Vs w.heap.size wr v ss ∧ Below w.heap.size w wr)
    case atStart => exact ⟨0, [], [], 0, rfl, rfl, rfl, by omega, by omega, by omega, by simp, by simp, fun r hr => by simp at hr, HF0.out, HV0.out, HB0.out⟩
    case round =>
      obtain ⟨i, ss, row, n, rfl, rfl, rfl, hi, hgg, hn5, hrl, hsl, htz, hf, hv, hb⟩ := hrel
      have HG1 := Lib.hid hgg
      have HV1 := Lib.hid hv
      have HB1 := Lib.hid hb
      have HF1 := Lib.hid hf
      have HTZ := Lib.hid htz
      clear hgg hv hb hf htz HF0 HV0 HB0
      obtain ⟨sr, hsr⟩ : ∃ sr, sr = BS row := ⟨_, rfl⟩
      have hsrs : sr.size = row.length := by rw [hsr, BS_size]
      have hs48 : sr.size ≤ 48 := by omega
      rw [← hsr]
      have HSR := Lib.hid hsr
      have HSS := Lib.hid hsrs
      clear hsr hsrs
      by_cases hin : i < t.size
      · have hi4 : i < t.data.size := hin
        obtain ⟨x, hx⟩ : ∃ x, x = t.data[i]'hi4 := ⟨_, rfl⟩
        have HFA := Lib.hid (show rdStep ⟨ss.map (·.data.toList), row, n⟩ x = none → F = none from fun h => HF1.out.fail (hi := hi4) (by rw [← hx]; exact h))
        have HFS := Lib.hid (show ∀ a', rdStep ⟨ss.map (·.data.toList), row, n⟩ x = some a' → FoI rdStep F a' (t.data.toList.drop (i + 1)) from fun a' h => HF1.out.step (hi := hi4) (by rw [← hx]; exact h))
        obtain ⟨cn, hcn⟩ : ∃ cn, (t[i]'hi4).toNat = cn := ⟨_, rfl⟩
        have hcx : cn = x.toNat := by rw [← hcn, hx]; rfl
        have hcn8 : cn < 256 := by rw [hcx]; exact UInt8.toNat_lt x
        have HCN := Lib.hid hcx
        have hml : (ss.map (·.data.toList)).length ≤ 48 := by simpa using hsl
        have HML := Lib.hid hml
        have hslI : (ss.length : Int) ≤ 48 := by omega
        have hiI : (i : Int) < (t.size : Int) := by omega
        clear hx hcx hml
        by_cases hsw : 48 ≤ cn ∧ cn ≤ 57
        · have HFN := Lib.hid (HFS.out _ (rs_dig (by rw [← HCN.out]; exact hsw) hrl HML.out))
          rw [← HCN.out] at HFN
          obtain ⟨h1, h2⟩ := hsw
          obtain ⟨dn, hdn⟩ : ∃ dn, dn = cn - 48 := ⟨_, rfl⟩
          have hdI : (cn : Int) - 48 = (dn : Int) := by omega
          have hd9 : dn ≤ 9 := by omega
          rw [← hdn] at HFN
          obtain ⟨n2, hn2⟩ : ∃ n2, n2 = min (10 * n + dn) 1000 := ⟨_, rfl⟩
          have hmin : min (10 * (n : Int) + (dn : Int)) 1000 = (n2 : Int) := by omega
          have hn2b : n2 ≤ 1000 := by omega
          rw [← hn2] at HFN
          have i1 : (48 : Int) ≤ (cn : Int) := by omega
          have i2 : (cn : Int) ≤ 57 := by omega
          have i6 : ¬ (48 : Int) < (sr.size : Int) := by omega
          have i7 : ¬ (48 : Int) < (ss.length : Int) := by omega
          have hvs := HV1.out.tsl
          obtain ⟨A2, c2, rfl, hc2, hm2, hs2⟩ := hvs
          clear hdn hn2 hs2
          go_wp2_with (fail)
          go_roundg (t.size - (i + 1))
          case measure => have := HG1.out; omega
          case rel => exact ⟨i + 1, ss, row, n2, by go_num, by rw [HSR.out], rfl, by omega, rfl, hn2b, hrl, hsl, HTZ.out, HFN.out, HV1.out, HB1.out⟩
        · by_cases hsw2 : 97 ≤ cn ∧ cn ≤ 106
          · have HFN := Lib.hid (show rdStep ⟨ss.map (·.data.toList), row, n⟩ x = _ from rs_let (by rw [← HCN.out]; exact hsw2))
            obtain ⟨h1, h2⟩ := hsw2
            have i1 : (48 : Int) ≤ (cn : Int) := by omega
            have i2 : ¬ (cn : Int) ≤ 57 := by omega
            have i2N : ¬ cn ≤ 57 := by omega
            have i4 : (97 : Int) ≤ (cn : Int) := by omega
            have i5 : (cn : Int) ≤ 106 := by omega
            obtain ⟨m, hm⟩ : ∃ m, m = max n 1 := ⟨_, rfl⟩
            have hmI : max (n : Int) 1 = (m : Int) := by omega
            have hm48 : m ≤ 1000 := by omega
            rw [← hm] at HFN
            obtain ⟨sc, hsc⟩ : ∃ sc : ByteArray, sc = ⟨#[x - 49]⟩ := ⟨_, rfl⟩
            have HRP := Lib.hid (fun W => repeat_any (x - 49) m W hm48)
            rw [← hsc] at HRP
            obtain ⟨sm, hsm⟩ : ∃ sm, sm = BS (List.replicate m (x - 49)) := ⟨_, rfl⟩
            rw [← hsm] at HRP
            have hsms : sm.size = m := by rw [hsm, BS_size, List.length_replicate]
            have hsm1 : sm.size ≤ 1000 := by omega
            have hz1 : (sr ++ sm).size ≤ 1048 := by rw [ByteArray.size_append]; omega
            have HZ := Lib.hid (show sr.size + sm.size = row.length + m from by rw [HSS.out, hsms])
            have HSM := Lib.hid (show sr ++ sm = BS (row ++ List.replicate m (x - 49)) from by rw [HSR.out, hsm, BS_app])
            have hcv : ∀ W : World, (convert 101 9 (.slice (some ⟨W.heap.size, 0, none⟩) 1 1)).run Tryd.prog (W.alloc (.cells #[.int .u8 ((cn : Int) - 97 + 48)] 5)) = .ok (.string sc) (W.alloc (.cells #[.int .u8 ((cn : Int) - 97 + 48)] 5)) := fun W => by
              rw [hsc]
              refine row_conv_at _ _ 1 [x - 49] fun j v hj => ?_
              have e := (Bk.new 5 W #[.int .u8 ((cn : Int) - 97 + 48)]).cell j
              rw [e]
              cases j with
              | zero =>
                rw [← hj]
                show some (Value.int .u8 _) = some (Value.int .u8 _)
                congr 2
                have hc := HCN.out
                rw [UInt8.toNat_sub_of_le _ _ (by rw [UInt8.le_iff_toNat_le, ← hc]; show 49 ≤ cn; omega), ← hc]
                show (cn : Int) - 97 + 48 = ((cn - 49 : Nat) : Int)
                omega
              | succ j => simp at hj
            have HV2 := Lib.hid (fun W (hW : Below wr.heap.size wr W) => HV1.out.ext hW)
            have HXA := Lib.hid (ext_alloc wr (.cells #[.int .u8 ((cn : Int) - 97 + 48)] 5))
            have hvs := HV1.out.tsl
            obtain ⟨A2, c2, rfl, hc2, hm2, hs2⟩ := hvs
            clear hsc hsm hsms hm hs2 hsw
            by_cases hbg : row.length + m ≤ 48
            · have HFN := Lib.hid (HFS.out _ (HFN.out.trans (rdChk_ok (by show (row ++ List.replicate m (x - 49)).length ≤ 48; rw [List.length_append, List.length_replicate]; exact hbg) HML.out)))
              have i6 : ¬ (48 : Int) < (sr.size : Int) + (sm.size : Int) := by have := HZ.out; omega
              have i6N : ¬ 48 < sr.size + sm.size := by have := HZ.out; omega
              have i7 : ¬ (48 : Int) < (ss.length : Int) := by omega
              go_wp2_with (go_at_call 76; refine (HRP.out _).mono ?_; rintro e w5 ⟨rfl, hx5⟩; have HX5 := Lib.hid (bext HXA.out hx5 HXA.out.size); clear hx5)
              go_roundg (t.size - (i + 1))
              case measure => have := HG1.out; omega
              case rel => exact ⟨i + 1, ss, _, 0, by go_num, by rw [HSM.out], by go_num, by omega, rfl, by omega, by rw [List.length_append, List.length_replicate]; exact hbg, hsl, HTZ.out, HFN.out, HV2.out _ HX5.out, bext HB1.out HX5.out HB1.out.size⟩
            · have HNO := Lib.hid (HNF.out (HFA.out (HFN.out.trans (rdChk_no (.inl (by show 48 < (row ++ List.replicate m (x - 49)).length; rw [List.length_append, List.length_replicate]; omega))))))
              have i6 : (48 : Int) < (sr.size : Int) + (sm.size : Int) := by have := HZ.out; omega
              have i6N : 48 < sr.size + sm.size := by have := HZ.out; omega
              go_wp2_with (go_at_call 76; refine (HRP.out _).mono ?_; rintro e w5 ⟨rfl, hx5⟩; have HX5 := Lib.hid (bext HXA.out hx5 HXA.out.size); clear hx5)
              (try simp only [Exit.inBlock, Exit.then])
              refine bodyPost_ret (v := .tuple #[.slice none 0 0, .int .i64 6]) (by simp [results, Tryd.results36, go_sem]) rfl ?_
              exact ⟨bext HB1.out HX5.out HB1.out.size, .inr ⟨HNO.out, rfl⟩⟩
          · have i47 : ¬ (48 ≤ cn ∧ cn ≤ 57) := hsw
            by_cases hsl47 : cn = 47
            · have HFN := Lib.hid (show rdStep ⟨ss.map (·.data.toList), row, n⟩ x = _ from rs_sl (by rw [← HCN.out]; exact hsl47))
              have i1 : ¬ (48 : Int) ≤ (cn : Int) := by omega
              have i1N : ¬ 48 ≤ cn := by omega
              have i4 : ¬ (97 : Int) ≤ (cn : Int) := by omega
              have i4N : ¬ 97 ≤ cn := by omega
              have t1 : ((cn : Int) == 47) = true := by simp; omega
              have t1N : (cn == 47) = true := by simp; omega
              have hsl2 : ss.length ≤ 1000000 := by omega
              clear hsw hsw2 i47 hsl47
              go_upto_region 18 with (at_builtin; refine wpList_pushS _ rfl _ _ rfl w.heap.size HV1.out (by rfl) sr (by rfl) rfl hsl2 HB1.out.size ?_; intro v5 w5 hv5 hb5 hk5 hk6; have HV5 := Lib.hid hv5; have HB5 := Lib.hid (HB1.out.trans hb5); clear hb5 hk5 hk6)
              obtain ⟨A2, c2, rfl, hc2, hm2, hs2⟩ := hv5.tsl
              obtain ⟨S2, hS2⟩ : ∃ S2, S2 = ss ++ [sr] := ⟨_, rfl⟩
              have hS2l : S2.length = ss.length + 1 := by rw [hS2]; simp
              rw [← hS2]
              rw [← hS2] at HV5
              have HS2 := Lib.hid hS2
              clear hs2 hv5 hS2
              by_cases hbg : ss.length + 1 ≤ 48
              · have HFN := Lib.hid (HFS.out _ (HFN.out.trans (rdChk_ok (by simp) (by show (ss.map (·.data.toList) ++ [row]).length ≤ 48; rw [List.length_append, List.length_map]; exact hbg))))
                have HFM := Lib.hid (show FoI rdStep F ⟨S2.map (·.data.toList), [], n⟩ (t.data.toList.drop (i + 1)) from by
                  have h := HFN.out
                  rw [show ss.map (·.data.toList) ++ [row] = S2.map (·.data.toList) from by rw [HS2.out, HSR.out]; simp [BS_list]] at h
                  exact h)
                have HTZ2 := Lib.hid (show TSz S2 from fun r hr => by
                  rw [HS2.out] at hr
                  rcases List.mem_append.1 hr with hr | hr
                  · exact HTZ.out r hr
                  · simp at hr; rw [hr]; omega)
                have hS48 : S2.length ≤ 48 := by omega
                have i7 : ¬ (48 : Int) < (S2.length : Int) := by omega
                have i7N : ¬ 48 < S2.length := by omega
                clear hS2l hbg
                go_wp2_with (fail)
                go_roundg (t.size - (i + 1))
                case measure => have := HG1.out; omega
                case rel => exact ⟨i + 1, S2, [], n, by go_num, rfl, rfl, by omega, rfl, hn5, by simp, hS48, HTZ2.out, HFM.out, HV5.out, HB5.out⟩
              · have HNO := Lib.hid (HNF.out (HFA.out (HFN.out.trans (rdChk_no (.inr (by show 48 < (ss.map (·.data.toList) ++ [row]).length; rw [List.length_append, List.length_map]; simp; omega))))))
                have i7 : (48 : Int) < (S2.length : Int) := by omega
                have i7N : 48 < S2.length := by omega
                clear hS2l hbg
                go_wp2_with (fail)
                (try simp only [Exit.inBlock, Exit.then])
                refine bodyPost_ret (v := .tuple #[.slice none 0 0, .int .i64 6]) (by simp [results, Tryd.results36, go_sem]) rfl ?_
                exact ⟨HB5.out, .inr ⟨HNO.out, rfl⟩⟩
            · have HNO := Lib.hid (HNF.out (HFA.out (rs_bad (by rw [← HCN.out]; exact hsw) (by rw [← HCN.out]; exact hsw2) (by rw [← HCN.out]; exact hsl47))))
              have t1 : ((cn : Int) == 47) = false := by simp; omega
              have t1N : (cn == 47) = false := by simp; omega
              by_cases j1 : 48 ≤ cn
              · have i1 : (48 : Int) ≤ (cn : Int) := by omega
                have j2 : ¬ cn ≤ 57 := by omega
                have i2 : ¬ (cn : Int) ≤ 57 := by omega
                by_cases j4 : 97 ≤ cn
                · have i4 : (97 : Int) ≤ (cn : Int) := by omega
                  have i5 : ¬ (cn : Int) ≤ 106 := by omega
                  have j5 : ¬ cn ≤ 106 := by omega
                  clear hsw hsw2 i47 hsl47
                  go_wp2_with (fail)
                  (try simp only [Exit.inBlock, Exit.then])
                  refine bodyPost_ret (v := .tuple #[.slice none 0 0, .int .i64 6]) (by simp [results, Tryd.results36, go_sem]) rfl ?_
                  exact ⟨HB1.out, .inr ⟨HNO.out, rfl⟩⟩
                · have i4 : ¬ (97 : Int) ≤ (cn : Int) := by omega
                  clear hsw hsw2 i47 hsl47
                  go_wp2_with (fail)
                  (try simp only [Exit.inBlock, Exit.then])
                  refine bodyPost_ret (v := .tuple #[.slice none 0 0, .int .i64 6]) (by simp [results, Tryd.results36, go_sem]) rfl ?_
                  exact ⟨HB1.out, .inr ⟨HNO.out, rfl⟩⟩
              · have i1 : ¬ (48 : Int) ≤ (cn : Int) := by omega
                have i4 : ¬ (97 : Int) ≤ (cn : Int) := by omega
                have j4 : ¬ 97 ≤ cn := by omega
                clear hsw hsw2 i47 hsl47
                go_wp2_with (fail)
                (try simp only [Exit.inBlock, Exit.then])
                refine bodyPost_ret (v := .tuple #[.slice none 0 0, .int .i64 6]) (by simp [results, Tryd.results36, go_sem]) rfl ?_
                exact ⟨HB1.out, .inr ⟨HNO.out, rfl⟩⟩
      · obtain rfl : i = t.size := by omega
        have HRB2 := Lib.hid (HRB.out ss row n HF1.out.done)
        rw [← HSR.out] at HRB2
        obtain ⟨S2, hS2⟩ : ∃ S2, S2 = ss ++ [sr] := ⟨_, rfl⟩
        have HTZ2 := Lib.hid (show TSz S2 from fun r hr => by
          rw [hS2] at hr
          rcases List.mem_append.1 hr with hr | hr
          · exact HTZ.out r hr
          · simp at hr; rw [hr]; omega)
        rw [← hS2] at HRB2
        have HS2 := Lib.hid hS2
        have hsl2 : ss.length ≤ 1000000 := by omega
        clear hS2 hin
        go_upto_region 23 with (at_builtin; refine wpList_pushS _ rfl _ _ rfl w.heap.size HV1.out (by rfl) sr (by rfl) rfl hsl2 HB1.out.size ?_; intro v5 w5 hv5 hb5 hk5 hk6; have HB5 := Lib.hid (HB1.out.trans hb5); rw [← HS2.out] at hv5; clear hb5 hk5 hk6)
        obtain ⟨A2, c2, rfl, hc2, hm2, hs2⟩ := hv5.tsl
        have HP1 := Lib.hid (HPK.out A2 c2 S2 w5 hc2 hm2 hs2 HTZ2.out HB5.out)
        have HSL := Lib.hid hs2
        have HC2 := Lib.hid hc2
        have HM2 := Lib.hid hm2
        clear hs2 hv5
        by_cases hok : SkOk S2
        · have HOK := Lib.hid hok
          have HP1 := Lib.hid (HP1.out.mono (R' := fun e w' => Below w5.heap.size w5 w' ∧ e = .returned (.tuple #[.string (BS (packL S2)), .int .i64 0])) (fun e w' hr => ⟨hr.1, hr.2.elim (fun h => absurd hok h.1) (fun h => h.2)⟩))
          obtain ⟨sp, hsp⟩ : ∃ sp, sp = BS (packL S2) := ⟨_, rfl⟩
          rw [← hsp] at HP1
          have HSP := Lib.hid hsp
          clear hsp hok
          by_cases hq : sp = t
          · have HQ := Lib.hid hq
            have t1 : (sp.toList == t.toList) = true := by rw [hq]; simp
            have t2 : (sp.toList != t.toList) = false := by rw [hq]; simp
            clear hq
            go_wp2_with (go_at_call 27; refine (HP1.out).mono ?_; rintro e w6 ⟨hx6, rfl⟩; have HX6 := Lib.hid hx6; clear hx6)
            (try simp only [Exit.inBlock, Exit.then])
            refine bodyPost_ret (v := .tuple #[.slice A2 S2.length c2, .int .i64 0]) (by simp [results, Tryd.results36, go_sem]) rfl ?_
            exact ⟨bext HB5.out HX6.out HB5.out.size, .inl ⟨A2, c2, S2, HOK.out, by rw [← HSP.out]; exact HQ.out, rfl, HC2.out, HM2.out, HSL.out.ext HX6.out, HTZ2.out⟩⟩
          · have HNO := Lib.hid (HRB2.out (fun h => hq (HSP.out.trans h.2)))
            have t1 : (sp.toList == t.toList) = false := by simpa using fun h => hq (toList_inj h)
            have t2 : (sp.toList != t.toList) = true := by simpa using fun h => hq (toList_inj h)
            clear hq
            go_wp2_with (go_at_call 27; refine (HP1.out).mono ?_; rintro e w6 ⟨hx6, rfl⟩; have HX6 := Lib.hid hx6; clear hx6)
            (try simp only [Exit.inBlock, Exit.then])
            refine bodyPost_ret (v := .tuple #[.slice none 0 0, .int .i64 6]) (by simp [results, Tryd.results36, go_sem]) rfl ?_
            exact ⟨bext HB5.out HX6.out HB5.out.size, .inr ⟨HNO.out, rfl⟩⟩
        · have HP1 := Lib.hid (HP1.out.mono (R' := fun e w' => Below w5.heap.size w5 w' ∧ e = .returned (.tuple #[.string ⟨#[]⟩, .int .i64 2])) (fun e w' hr => ⟨hr.1, hr.2.elim (fun h => h.2) (fun h => absurd h.1 hok)⟩))
          have HNO := Lib.hid (HRB2.out (fun h => hok h.1))
          clear hok
          go_wp2_with (go_at_call 27; refine (HP1.out).mono ?_; rintro e w6 ⟨hx6, rfl⟩; have HX6 := Lib.hid hx6; clear hx6)
          (try simp only [Exit.inBlock, Exit.then])
          refine bodyPost_ret (v := .tuple #[.slice none 0 0, .int .i64 6]) (by simp [results, Tryd.results36, go_sem]) rfl ?_
          exact ⟨bext HB5.out HX6.out HB5.out.size, .inr ⟨HNO.out, rfl⟩⟩
end Go.Proofs.YtmgofdgbenfjmaaDoor
