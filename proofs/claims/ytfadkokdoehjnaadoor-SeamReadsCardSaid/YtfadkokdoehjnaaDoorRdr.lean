/- The reference's Read walked. Conditions: the string is at most 40000 bytes; tables laid. -/
import Derived.Test.YtfadkokdoehjnaaDoorRdP
namespace Go.Proofs.YtfadkokdoehjnaaDoor
open Go.RowKit

set_option maxRecDepth 100000 in
set_option maxHeartbeats 8000000 in
theorem rread_any (s : ByteArray) (w : World) (hs : s.size ≤ 40000) (hp : P10 w) (hm : MxI w) :
    Calls Tryd.prog 12 #[.string s] w (RetRd w s) := by
  by_cases hz : s = ⟨#[]⟩
  · subst hz
    clear hp hm
    go_enter Tryd.func12, Tryd.ntmps12
    go_wp2
    refine bodyPost_ret (v := .tuple #[.slice none 0 0, .int .i64 0]) (by simp [results, Tryd.results12, go_sem]) rfl ?_
    exact ⟨Below.refl _ _, .inl ⟨none, 0, [], ⟨by simp, fun o ho => by simp at ho⟩, rfl, rfl, by simp, by simp, .inl rfl⟩⟩
  · have hne : s.data.toList ≠ [] := fun e => hz (by rw [← BS_self s, e]; rfl)
    have hem : s.toList.isEmpty = false := by
      rw [ByteArray.toList_eq]
      cases h : s.data.toList with
      | nil => exact absurd h hne
      | cons a t => rfl
    have HSP := Lib.hid (split_any s w (by omega) hm)
    have HPT := Lib.hid (fun W (hW : Below w.heap.size w W) => hp.ext hW)
    have HPK := Lib.hid (fun A cap l W hc hcm (h : OSl W A l) (hW : Below w.heap.size w W) => rtext_any A cap l W hc hcm h (HPT.out W hW))
    have hf : ∀ o, OpOk o → rdR (txtO o) = some o := fun o ho => rdR_ok ho
    have HNO1 := Lib.hid (tx_none hf hne)
    have HNO2 := Lib.hid (tx_many hf hne)
    have HNO3 := Lib.hid (fun ps h => tx_bad (ps := ps) hf hne h)
    clear hp hm hz hne hf
    go_enter Tryd.func12, Tryd.ntmps12
    go_wp2_with (go_at_call 22; refine (HSP.out).mono ?_; rintro e w1 ⟨hx1, L, rfl, hLl, hbl, hcl, hmap, hsz⟩; have HXW := Lib.hid hx1; have HSZ := Lib.hid hsz; clear hx1 hsz)
    clear HSP
    obtain ⟨R, hR⟩ : ∃ R, R = rdAll rdR (L.map (·.data.toList)) := ⟨_, rfl⟩
    have HNR := Lib.hid (show R = none → ∀ l, TxOk l → BS (txtL l) ≠ s from fun h => HNO1.out (by rw [← hmap, ← hR]; exact h))
    have HNM := Lib.hid (show 4096 < L.length → ∀ l, TxOk l → BS (txtL l) ≠ s from fun h => HNO2.out (by rw [← hmap, List.length_map]; exact h))
    have HNB := Lib.hid (show ∀ ps, R = some ps → ¬ (TxOk ps ∧ BS (txtL ps) = s) → ∀ l, TxOk l → BS (txtL l) ≠ s from fun ps h => HNO3.out ps (by rw [← hmap, ← hR]; exact h))
    have HR0 := Lib.hid (show WoI rdR R [] ((L.map (·.data.toList)).drop 0) from by rw [hR]; exact WoI.start _)
    have HLC := Lib.hid (show ∀ W, Below w1.heap.size w1 W → w.heap.size < W.heap.size ∧ ∀ j (hj : j < L.length), W.cell? ⟨w.heap.size, j, none⟩ = some (.string L[j]) from fun W hW => ⟨Nat.lt_of_lt_of_le hbl hW.size, fun j hj => (hW.cell (p := ⟨w.heap.size, j, none⟩) hbl).trans (hcl j hj)⟩)
    have HV0 := Lib.hid (Vo.nil 34 w1.heap.size w1)
    have HB0 := Lib.hid (Below.refl w1.heap.size w1)
    have hw1 : w.heap.size ≤ w1.heap.size := by omega
    clear hR hmap hcl hbl HNO1 HNO2 HNO3
    go_loopg [19, 4] L.length (fun gg z v wr => ∃ (k : Nat) (ps : List Opr), z = .int .i64 k ∧ k ≤ L.length ∧ gg = L.length - k ∧ ps.length ≤ k ∧ k ≤ ps.length ∧ WoI rdR R ps ((L.map (·.data.toList)).drop k) ∧ Vo 34 w1.heap.size wr v ps ∧ Below w1.heap.size w1 wr)
    case atStart => exact ⟨0, [], rfl, by omega, by omega, by simp, by simp, HR0.out, HV0.out, HB0.out⟩
    case round =>
      obtain ⟨k, ps, rfl, hk, hgg, hp1, hp2, hro, hv, hb⟩ := hrel
      have HG1 := Lib.hid hgg
      have HV1 := Lib.hid hv
      have HB1 := Lib.hid hb
      have HRO := Lib.hid hro
      have HBW := Lib.hid (bext HXW.out hb HXW.out.size)
      obtain ⟨A2, c2, rfl, hc2, hm2, hs2⟩ := hv.osl
      have HC2 := Lib.hid hc2
      have HM2 := Lib.hid hm2
      have HS2 := Lib.hid hs2
      clear hgg hv hb hro HR0 HV0 HB0 hc2 hm2 hs2
      obtain ⟨V0, hV0⟩ : ∃ V0, V0 = wr := ⟨_, rfl⟩
      subst hV0
      by_cases hlt : k < L.length
      · obtain ⟨cb, cc⟩ := HLC.out _ HB1.out
        have ck := cc k hlt
        have hdr : (L.map (·.data.toList)).drop k = L[k].data.toList :: (L.map (·.data.toList)).drop (k + 1) := by
          rw [List.drop_eq_getElem_cons (by simpa using hlt)]; simp
        have hszk := HSZ.out L[k] (List.getElem_mem _)
        have hro := HRO.out
        rw [hdr] at hro
        obtain ⟨t, ht⟩ : ∃ t, t = L[k] := ⟨_, rfl⟩
        rw [← ht] at ck hszk hro
        have hts : t.size ≤ 40000 := by omega
        have HNF := Lib.hid (show rdR t.data.toList = none → R = none from fun h => hro.fail h)
        have HYF := Lib.hid (show ∀ o, rdR t.data.toList = some o → WoI rdR R (ps ++ [o]) ((L.map (·.data.toList)).drop (k + 1)) from fun o h => hro.step h)
        have HCS := Lib.hid (fun W => cutsuf_any t W (by omega))
        have hcl := cutM_len t.data.toList
        rw [len_size] at hcl
        obtain ⟨T1, hT1⟩ : ∃ T1, T1 = (cutM t.data.toList).1 := ⟨_, rfl⟩
        obtain ⟨bk, hbk⟩ : ∃ bk, bk = (cutM t.data.toList).2 := ⟨_, rfl⟩
        rw [← hT1] at hcl
        rw [← hT1, ← hbk] at HCS
        have HT1 := Lib.hid hT1
        have HBK := Lib.hid hbk
        have HLT := Lib.hid hlt
        have hk1 : (k : Int) < (L.length : Int) := by omega
        clear cc hdr hro ht hszk hT1 hbk
        cases T1 with
        | nil =>
          have HNO := Lib.hid (HNR.out (HNF.out (rdR_nil HT1.out.symm)))
          have e0 : BS [] = ⟨#[]⟩ := rfl
          rw [e0] at HCS
          clear hcl
          go_wp2_with (go_at_call 19; refine (HCS.out _).mono ?_; rintro e w2 ⟨rfl, hw2⟩; obtain rfl : V0 = w2 := hw2.symm)
          (try simp only [Exit.inBlock, Exit.then])
          refine bodyPost_ret (v := .tuple #[.slice none 0 0, .int .i64 6]) (by simp [results, Tryd.results12, go_sem]) rfl ?_
          exact ⟨HBW.out, .inr ⟨HNO.out, rfl⟩⟩
        | cons c ds =>
          have HRC := Lib.hid (rdR_cons HT1.out.symm)
          have hixr := ix_range c
          have HIB := Lib.hid (fun W => indexbyte_any letB c W)
          have elb : letB.data.toList = letts := rfl
          rw [elb] at HIB
          obtain ⟨ix, hix⟩ : ∃ ix, ix = Lib.indexByte letts c := ⟨_, rfl⟩
          rw [← hix] at HIB HRC hixr
          rw [← HBK.out] at HRC
          obtain ⟨t1, ht1⟩ : ∃ t1, t1 = BS (c :: ds) := ⟨_, rfl⟩
          have h1s : t1.size = ds.length + 1 := by rw [ht1, BS_size]; rfl
          rw [← ht1] at HCS
          have h1d : t1.data.toList = c :: ds := by rw [ht1, BS_list]
          have HD1 := Lib.hid h1d
          have h10 : 0 < t1.data.size := by have : t1.size = t1.data.size := rfl; omega
          have h1em : t1.toList.isEmpty = false := by rw [ByteArray.toList_eq, h1d]; rfl
          obtain ⟨c0, hc0⟩ : ∃ c0, c0 = c.toNat := ⟨_, rfl⟩
          have hx0 : (t1[0]'h10).toNat = c0 := by
            have e : (t1.data[0]'h10) = c := by
              have h2 : t1.data.toList[0]? = some c := by rw [h1d]; rfl
              rw [Array.getElem?_toList, Array.getElem?_eq_getElem h10] at h2
              exact Option.some.inj h2
            rw [hc0, ← e]; rfl
          rw [← hc0] at HIB
          unfold letB at HIB
          have HIX := Lib.hid hixr
          have HH1 := Lib.hid h1s
          have h1I : (0 : Int) < (t1.size : Int) := by omega
          have hcl2 : t1.size ≤ 40000 := by rw [h1s]; simp at hcl; omega
          clear hix ht1 hc0 h1d hixr hcl
          by_cases hneg : ix < 0
          · have HNO := Lib.hid (HNR.out (HNF.out (HRC.out.trans (if_pos (.inl hneg)))))
            clear h1s
            go_wp2_with (first
              | (go_at_call 19; refine (HCS.out _).mono ?_; rintro e w2 ⟨rfl, hw2⟩; obtain rfl : V0 = w2 := hw2.symm)
              | (go_at_call 23; refine (HIB.out _).mono ?_; rintro e w3 ⟨rfl, hw3⟩; obtain rfl : V0 = w3 := hw3.symm))
            (try simp only [Exit.inBlock, Exit.then])
            refine bodyPost_ret (v := .tuple #[.slice none 0 0, .int .i64 6]) (by simp [results, Tryd.results12, go_sem]) rfl ?_
            exact ⟨HBW.out, .inr ⟨HNO.out, rfl⟩⟩
          · have hngI : ¬ ix < 0 := hneg
            by_cases h3 : 3 < t1.size
            · have HNO := Lib.hid (HNR.out (HNF.out (HRC.out.trans (if_pos (.inr (by omega))))))
              have h3I : (3 : Int) < (t1.size : Int) := by omega
              clear h1s
              go_wp2_with (first
                | (go_at_call 19; refine (HCS.out _).mono ?_; rintro e w2 ⟨rfl, hw2⟩; obtain rfl : V0 = w2 := hw2.symm)
                | (go_at_call 23; refine (HIB.out _).mono ?_; rintro e w3 ⟨rfl, hw3⟩; obtain rfl : V0 = w3 := hw3.symm))
              (try simp only [Exit.inBlock, Exit.then])
              refine bodyPost_ret (v := .tuple #[.slice none 0 0, .int .i64 6]) (by simp [results, Tryd.results12, go_sem]) rfl ?_
              exact ⟨HBW.out, .inr ⟨HNO.out, rfl⟩⟩
            · have h3I : ¬ (3 : Int) < (t1.size : Int) := by omega
              have HRC := Lib.hid (HRC.out.trans (if_neg (by omega)))
              clear h1s
              by_cases hmany : 4096 < ps.length
              · have HNO := Lib.hid (HNM.out (by have := HLT.out; omega))
                have hmI : (4096 : Int) < (ps.length : Int) := by omega
                go_wp2_with (first
                  | (go_at_call 19; refine (HCS.out _).mono ?_; rintro e w2 ⟨rfl, hw2⟩; obtain rfl : V0 = w2 := hw2.symm)
                  | (go_at_call 23; refine (HIB.out _).mono ?_; rintro e w3 ⟨rfl, hw3⟩; obtain rfl : V0 = w3 := hw3.symm))
                (try simp only [Exit.inBlock, Exit.then])
                refine bodyPost_ret (v := .tuple #[.slice none 0 0, .int .i64 6]) (by simp [results, Tryd.results12, go_sem]) rfl ?_
                exact ⟨HBW.out, .inr ⟨HNO.out, rfl⟩⟩
              · have hmI : ¬ (4096 : Int) < (ps.length : Int) := by omega
                obtain ⟨F, hF⟩ : ∃ F, F = foldO digO 0 ds := ⟨_, rfl⟩
                rw [← hF] at HRC
                have HF0 := Lib.hid (show FoI digO F 0 (t1.data.toList.drop 1) from by rw [HD1.out]; exact hF)
                clear hF
                go_wp2_with (first
                  | (go_at_call 19; refine (HCS.out _).mono ?_; rintro e w2 ⟨rfl, hw2⟩; obtain rfl : V0 = w2 := hw2.symm)
                  | (go_at_call 23; refine (HIB.out _).mono ?_; rintro e w3 ⟨rfl, hw3⟩; obtain rfl : V0 = w3 := hw3.symm))
                go_loopg [11, 10] 3 (fun gg z v wr => ∃ (i n : Nat), z = .int .i64 i ∧ v = .int .i64 n ∧ 1 ≤ i ∧ i ≤ t1.size ∧ gg = 4 - i ∧ n ≤ 100000 ∧ (i ≤ 1 → n ≤ 0) ∧ (i ≤ 2 → n ≤ 9) ∧ FoI digO F n (t1.data.toList.drop i) ∧ V0 = wr)
                case atStart => exact ⟨1, 0, rfl, rfl, by omega, by omega, by omega, by omega, by omega, by omega, HF0.out, rfl⟩
                case round =>
                  obtain ⟨i, n, rfl, rfl, hi1, hi2, hgg, hn, hn1, hn2, hfo, hwr⟩ := hrel
                  subst hwr
                  have HG2 := Lib.hid hgg
                  have HF2 := Lib.hid hfo
                  have HN2 := Lib.hid hn2
                  have HN1 := Lib.hid hn1
                  clear hgg hfo HF0 hn2 hn1
                  by_cases hit : i < t1.size
                  · have hi4 : i < t1.data.size := hit
                    have hiI : (i : Int) < (t1.size : Int) := by omega
                    obtain ⟨x, hx⟩ : ∃ x, x = t1.data[i]'hi4 := ⟨_, rfl⟩
                    have HFA := Lib.hid (show digO n x = none → F = none from fun h => HF2.out.fail (hi := hi4) (by rw [← hx]; exact h))
                    have HFS := Lib.hid (show ∀ a', digO n x = some a' → FoI digO F a' (t1.data.toList.drop (i + 1)) from fun a' h => HF2.out.step (hi := hi4) (by rw [← hx]; exact h))
                    obtain ⟨xn, hxn⟩ : ∃ xn, xn = x.toNat := ⟨_, rfl⟩
                    have hxi : (t1[i]'hi4).toNat = xn := by rw [hxn, hx]; rfl
                    have HXN := Lib.hid hxn
                    clear hx hxn
                    by_cases hd : 48 ≤ xn ∧ xn ≤ 57
                    · have HFN := Lib.hid (HFS.out _ (dig_good (by rw [← HXN.out]; exact hd)))
                      rw [← HXN.out] at HFN
                      obtain ⟨d1, d2⟩ := hd
                      obtain ⟨dn, hdn⟩ : ∃ dn, dn = xn - 48 := ⟨_, rfl⟩
                      have hdI : (xn : Int) - 48 = (dn : Int) := by omega
                      have hd9 : dn ≤ 9 := by omega
                      rw [← hdn] at HFN
                      have j1 : ¬ (xn : Int) < 48 := by omega
                      have j2 : ¬ (57 : Int) < (xn : Int) := by omega
                      have j1N : ¬ xn < 48 := by omega
                      have j2N : ¬ 57 < xn := by omega
                      have HDN := Lib.hid hd9
                      clear hdn
                      go_wp2_with (fail)
                      go_roundg (4 - (i + 1))
                      case measure => have := HG2.out; omega
                      case rel => exact ⟨i + 1, 10 * n + dn, by go_num, by go_num, by omega, by omega, rfl, by have := HN2.out; omega, by omega, by have := HN1.out; omega, HFN.out, rfl⟩
                    · have hnone := HFA.out (dig_bad (by rw [← HXN.out]; exact hd))
                      have HNO := Lib.hid (HNR.out (HNF.out (HRC.out.trans (by rw [hnone]))))
                      clear hnone
                      by_cases j1 : xn < 48
                      · have j1I : (xn : Int) < 48 := by omega
                        clear hd
                        go_wp2_with (fail)
                        (try simp only [Exit.inBlock, Exit.then])
                        refine bodyPost_ret (v := .tuple #[.slice none 0 0, .int .i64 6]) (by simp [results, Tryd.results12, go_sem]) rfl ?_
                        exact ⟨HBW.out, .inr ⟨HNO.out, rfl⟩⟩
                      · have j1I : ¬ (xn : Int) < 48 := by omega
                        have j2 : 57 < xn := by omega
                        have j2I : (57 : Int) < (xn : Int) := by omega
                        clear hd
                        go_wp2_with (fail)
                        (try simp only [Exit.inBlock, Exit.then])
                        refine bodyPost_ret (v := .tuple #[.slice none 0 0, .int .i64 6]) (by simp [results, Tryd.results12, go_sem]) rfl ?_
                        exact ⟨HBW.out, .inr ⟨HNO.out, rfl⟩⟩
                  · obtain rfl : i = t1.size := by omega
                    have hdone := HF2.out.done
                    have HYN := Lib.hid (HYF.out ⟨ix, n, bk⟩ (HRC.out.trans (by rw [hdone])))
                    have hpl : ps.length ≤ 1000000 := by omega
                    clear hdone hit
                    go_wp2_with (at_builtin; refine wpList_pushO Tryd.underlying22 info_rop _ rfl _ _ rfl w1.heap.size HV1.out (by rfl) (by rfl) rfl hpl HB1.out.size ?_; intro v5 w5 hv5 hb5 hk5; have HV5 := Lib.hid hv5; have HB5 := Lib.hid (HB1.out.trans hb5); clear hv5 hb5 hk5)
                    go_roundg (L.length - (k + 1))
                    case measure => have := HG1.out; have := HLT.out; omega
                    case rel => exact ⟨k + 1, ps ++ [⟨ix, n, bk⟩], by go_num, by have := HLT.out; omega, rfl, by rw [List.length_append]; simp; omega, by rw [List.length_append]; simp; omega, HYN.out, HV5.out, HB5.out⟩
      · obtain rfl : k = L.length := by omega
        have hro := HRO.out
        rw [List.drop_of_length_le (by simp)] at hro
        have HRB2 := Lib.hid (HNB.out ps hro.done)
        have HP1 := Lib.hid (HPK.out A2 c2 ps V0 HC2.out (by have := HM2.out; unfold maxLen at this; exact this) HS2.out HBW.out)
        clear hro hlt
        by_cases hok : TxOk ps
        · have HOK := Lib.hid hok
          have HP1 := Lib.hid (HP1.out.mono (R' := fun e w' => Below V0.heap.size V0 w' ∧ e = .returned (.tuple #[.string (BS (txtL ps)), .int .i64 0])) (fun e w' hr => ⟨hr.1, hr.2.elim (fun h => h.2) (fun h => absurd hok h.1)⟩))
          obtain ⟨sp, hsp⟩ : ∃ sp, sp = BS (txtL ps) := ⟨_, rfl⟩
          rw [← hsp] at HP1
          have HSP := Lib.hid hsp
          clear hsp hok
          by_cases hq : sp = s
          · have HQ := Lib.hid hq
            have t1 : (sp.toList == s.toList) = true := by rw [hq]; simp
            have t2 : (sp.toList != s.toList) = false := by rw [hq]; simp
            clear hq
            go_wp2_with (go_at_call 8; refine (HP1.out).mono ?_; rintro e w6 ⟨hx6, rfl⟩; have HX6 := Lib.hid hx6; clear hx6)
            (try simp only [Exit.inBlock, Exit.then])
            refine bodyPost_ret (v := .tuple #[.slice A2 ps.length c2, .int .i64 0]) (by simp [results, Tryd.results12, go_sem]) rfl ?_
            exact ⟨bext HBW.out HX6.out HBW.out.size, .inl ⟨A2, c2, ps, HOK.out, by rw [← HSP.out]; exact HQ.out, rfl, HC2.out, (by have := HM2.out; unfold maxLen at this; exact this), HS2.out.ext HX6.out⟩⟩
          · have HNO := Lib.hid (HRB2.out (fun h => hq (HSP.out.trans h.2)))
            have t1 : (sp.toList == s.toList) = false := by simpa using fun h => hq (toList_inj h)
            have t2 : (sp.toList != s.toList) = true := by simpa using fun h => hq (toList_inj h)
            clear hq
            go_wp2_with (go_at_call 8; refine (HP1.out).mono ?_; rintro e w6 ⟨hx6, rfl⟩; have HX6 := Lib.hid hx6; clear hx6)
            (try simp only [Exit.inBlock, Exit.then])
            refine bodyPost_ret (v := .tuple #[.slice none 0 0, .int .i64 6]) (by simp [results, Tryd.results12, go_sem]) rfl ?_
            exact ⟨bext HBW.out HX6.out HBW.out.size, .inr ⟨HNO.out, rfl⟩⟩
        · obtain ⟨z, hz⟩ : ∃ z : Int, z = if 4096 < ps.length then 3 else 2 := ⟨_, rfl⟩
          have hz3 : z = 3 ∨ z = 2 := by rw [hz]; split <;> simp
          have HP1 := Lib.hid (HP1.out.mono (R' := fun e w' => Below V0.heap.size V0 w' ∧ e = .returned (.tuple #[.string ⟨#[]⟩, .int .i64 z])) (fun e w' hr => ⟨hr.1, hr.2.elim (fun h => absurd h.1 hok) (fun h => by rw [hz]; exact h.2)⟩))
          have HNO := Lib.hid (HRB2.out (fun h => hok h.1))
          clear hok hz
          rcases hz3 with rfl | rfl
          all_goals
            go_wp2_with (go_at_call 8; refine (HP1.out).mono ?_; rintro e w6 ⟨hx6, rfl⟩; have HX6 := Lib.hid hx6; clear hx6)
            (try simp only [Exit.inBlock, Exit.then])
            refine bodyPost_ret (v := .tuple #[.slice none 0 0, .int .i64 6]) (by simp [results, Tryd.results12, go_sem]) rfl ?_
            exact ⟨bext HBW.out HX6.out HBW.out.size, .inr ⟨HNO.out, rfl⟩⟩
end Go.Proofs.YtfadkokdoehjnaaDoor
