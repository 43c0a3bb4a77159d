/- Both Text walked. Conditions: the slice reads as a list of ops; the table of powers of ten is laid. -/
import Derived.Test.YtfadkokdoehjnaaDoorTxW
import Derived.Test.YtfadkokdoehjnaaDoorOpn
import Derived.Test.YtfadkokdoehjnaaDoorRgT
namespace Go.Proofs.YtfadkokdoehjnaaDoor
open Go.RowKit

set_option maxRecDepth 100000 in
set_option maxHeartbeats 8000000 in
theorem rtext_any (A : Option Addr) (cap : Nat) (l : List Opr) (w : World) (hc : l.length ≤ cap) (hcm : cap ≤ 9223372036854775807) (h : OSl w A l) (ht : P10 w) :
    Calls Tryd.prog 8 #[.slice A l.length cap] w (RetTx w l) := by
  have HPG := Lib.hid (rprog_any A cap l w hc hcm h)
  by_cases hok : TxOk l
  · have HOK := Lib.hid hok
    have h4 := hok.1
    have h4I : ¬ (4096 : Int) < (l.length : Int) := by omega
    have h4N : ¬ 4096 < l.length := by omega
    have HPR := Lib.hid hok.2
    rw [decide_eq_true hok.2] at HPG
    have HT := Lib.hid (fun W (hW : Below w.heap.size w W) => ht.ext hW)
    have HI := Lib.hid (fun (n : Nat) W (hn : n ≤ 100) (hW : Below w.heap.size w W) => itoa_any n W (by omega) (HT.out W hW))
    have HOP := Lib.hid (fun W (hW : Below w.heap.size w W) => h.ext hW)
    obtain ⟨L, hL⟩ : ∃ L, L = l.map txB := ⟨_, rfl⟩
    have hLl : L.length = l.length := by rw [hL]; simp
    have HLL := Lib.hid hLl
    have HLA := Lib.hid (show ∀ k (hk : k < l.length), L.getD k ⟨#[]⟩ = txB l[k] from fun k hk => by rw [hL, List.getD_eq_getElem?_getD]; simp [hk])
    have HLT := Lib.hid (show ∀ k (hk : k < l.length), L.take (k + 1) = L.take k ++ [txB l[k]] from fun k hk => by
      rw [List.take_succ_eq_append_getElem (by omega)]
      simp [hL])
    have HJ := Lib.hid (fun (A : Option Addr) (c : Nat) W (hA : TSl W A L) (hcap : L.length ≤ c) => join_any A c L W hA (by omega) hcap (by
      rw [hL, map_txB]
      have := txt_len hok
      omega))
    have HJL := Lib.hid (show BS (Lib.join (L.map (·.data.toList)) [32]) = BS (txtL l) from by rw [hL, map_txB]; rfl)
    clear h ht hL hok hLl
    have HVN := Lib.hid (VsT.nil w.heap.size)
    go_enter Tryd.func8, Tryd.ntmps8
    go_wp2_with (go_at_call 17; refine (HPG.out).mono ?_; rintro e w1 ⟨rfl, hx1⟩; have HX1 := Lib.hid hx1; clear hx1)
    go_loopg [16, 4] l.length (fun gg z v wr => ∃ k : Nat, z = .int .i64 k ∧ k ≤ l.length ∧ gg = l.length - k ∧ VsT w.heap.size wr v (L.take k) ∧ Below w.heap.size w wr)
    case atStart => exact ⟨0, rfl, by omega, by omega, by rw [List.take_zero]; exact HVN.out _, HX1.out⟩
    case round =>
      obtain ⟨k, rfl, hk, hgg, hv, hb⟩ := hrel
      have HG1 := Lib.hid hgg
      have HV1 := Lib.hid hv
      have HB1 := Lib.hid hb
      clear hgg hv hb HX1
      by_cases hlt : k < l.length
      · have hkl : (L.take k).length ≤ 1000000 := by have := HLL.out; rw [List.length_take]; omega
        rcases HOP.out _ HB1.out with h0 | ⟨ob, off, rfl, hob, hcl⟩
        · rw [h0] at hlt; simp at hlt
        obtain ⟨c1, c2, c3⟩ := hcl k hlt
        have hv := HPR.out l[k] (List.getElem_mem _)
        have hLk := HLA.out k hlt
        have hLt := HLT.out k hlt
        obtain ⟨q, hq⟩ : ∃ q, q = l[k] := ⟨_, rfl⟩
        rw [← hq] at c1 c2 c3 hv hLk hLt
        obtain ⟨qc, qg, qb⟩ := q
        have hg := op_g hv
        have hc5 := hv.2.1
        have hc0 := hv.1
        dsimp only at c1 c2 c3 hg hc5 hc0
        obtain ⟨kc, rfl⟩ := Int.eq_ofNat_of_zero_le hc0
        obtain ⟨kg, rfl⟩ := Int.eq_ofNat_of_zero_le hg.1
        have hkg : kg < 100 := by omega
        have hk5 : kc ≤ 5 := by omega
        have hlx := letB_at hk5
        obtain ⟨lw, hlw⟩ : ∃ lw, lw = BS [lett (kc : Int)] := ⟨_, rfl⟩
        have hls : lw.size ≤ 1 := by rw [hlw, BS_size]; exact Nat.le_refl _
        rw [← hlw] at hlx
        unfold letB at hlx
        have HLW := Lib.hid hlw
        obtain ⟨sd, hsd⟩ : ∃ sd, sd = BS (Lib.decDigits kg) := ⟨_, rfl⟩
        have hds : sd.size ≤ 2 := by rw [hsd, BS_size]; exact (isD10 kg hkg).1
        have HSD := Lib.hid hsd
        have HIK := Lib.hid (fun W hW => HI.out kg W (by omega) hW)
        rw [← hsd] at HIK
        have HLK := Lib.hid hLk
        have HLKT := Lib.hid hLt
        have hz1 : (lw ++ sd).size ≤ 3 := by rw [ByteArray.size_append]; omega
        have hz2 : (lw ++ sd ++ (⟨#[45]⟩ : ByteArray)).size ≤ 4 := by rw [ByteArray.size_append]; show (lw ++ sd).size + 1 ≤ 4; omega
        have hz3 : (lw ++ (⟨#[45]⟩ : ByteArray)).size ≤ 2 := by rw [ByteArray.size_append]; show lw.size + 1 ≤ 2; omega
        have hkI : (k : Int) < (l.length : Int) := by omega
        have hk0 : (0 : Int) ≤ (k : Int) := by omega
        have hc6 : (kc : Int) ≤ 5 := by omega
        have HLTK := Lib.hid hlt
        clear hcl hq hLk hLt hlw hsd hv hg
        have HXA := Lib.hid (ext_alloc wr (.cells #[.int .i64 (kc : Int), .int .i64 (kg : Int), .bool qb] 34))
        have HO := Lib.hid (Bk.new 34 wr #[.int .i64 (kc : Int), .int .i64 (kg : Int), .bool qb])
        have HV2 := Lib.hid (HV1.out.ext HXA.out)
        have HB2 := Lib.hid (bext HB1.out HXA.out HB1.out.size)
        go_upto_region 9 with (fail)
        obtain ⟨ob2, hob2⟩ : ∃ b, b = wr.heap.size := ⟨_, rfl⟩
        obtain ⟨V, hV⟩ : ∃ V, V = wr.alloc (.cells #[.int .i64 (kc : Int), .int .i64 (kg : Int), .bool qb] 34) := ⟨_, rfl⟩
        rw [← hob2, ← hV]
        rw [← hob2, ← hV] at HO
        rw [← hV] at HV2 HB2
        clear hob2 hV HXA HV1 HB1 c1 c2 c3 hob
        obtain ⟨o1, o2, o3⟩ := HO.out.facts
        by_cases h2 : kc = 2
        ·
          have t2 : ((kc : Int) == 2) = true := by simp; omega
          have t2N : (kc == 2) = true := by simp; omega
          have t2B : ((kc : Int) != 2) = false := by simp; omega
          have t2M : (kc != 2) = false := by simp; omega
          cases qb
          ·
            have HWD := Lib.hid (show lw = txB ⟨(kc : Int), (kg : Int), false⟩ from by
              unfold txB txtO numT
              rw [HLW.out]
              rw [if_pos (by dsimp only; omega)]
              rfl)
            clear h2
            go_wp2_with (first
              | (at_builtin; refine wpList_pushS _ rfl _ _ rfl w.heap.size HV2.out (by rfl) (lw) (by rfl) rfl hkl HB2.out.size ?_; intro v6 w6 hv6 hb6; have HV6 := Lib.hid hv6; have HB6 := Lib.hid (HB2.out.trans hb6); clear hv6 hb6))
            go_roundg (l.length - (k + 1))
            case measure => have := HG1.out; have := HLTK.out; omega
            case rel => exact ⟨k + 1, by go_num, by have := HLTK.out; omega, rfl, by rw [HLKT.out, ← HWD.out]; exact HV6.out, HB6.out⟩
          ·
            have HWD := Lib.hid (show lw ++ (⟨#[45]⟩ : ByteArray) = txB ⟨(kc : Int), (kg : Int), true⟩ from by
              unfold txB txtO numT
              rw [HLW.out]
              rw [if_pos (by dsimp only; omega)]
              exact BS_app _ [45])
            clear h2
            go_wp2_with (first
              | (at_builtin; refine wpList_pushS _ rfl _ _ rfl w.heap.size HV2.out (by rfl) (lw ++ (⟨#[45]⟩ : ByteArray)) (by rfl) rfl hkl HB2.out.size ?_; intro v6 w6 hv6 hb6; have HV6 := Lib.hid hv6; have HB6 := Lib.hid (HB2.out.trans hb6); clear hv6 hb6))
            go_roundg (l.length - (k + 1))
            case measure => have := HG1.out; have := HLTK.out; omega
            case rel => exact ⟨k + 1, by go_num, by have := HLTK.out; omega, rfl, by rw [HLKT.out, ← HWD.out]; exact HV6.out, HB6.out⟩
        · by_cases h4 : kc = 4
          ·
            have t2 : ((kc : Int) == 2) = false := by simp; omega
            have t2N : (kc == 2) = false := by simp; omega
            have t2B : ((kc : Int) != 2) = true := by simp; omega
            have t2M : (kc != 2) = true := by simp; omega
            have t4 : ((kc : Int) == 4) = true := by simp; omega
            have t4N : (kc == 4) = true := by simp; omega
            have t4B : ((kc : Int) != 4) = false := by simp; omega
            have t4M : (kc != 4) = false := by simp; omega
            cases qb
            ·
              have HWD := Lib.hid (show lw = txB ⟨(kc : Int), (kg : Int), false⟩ from by
                unfold txB txtO numT
                rw [HLW.out]
                rw [if_pos (by dsimp only; omega)]
                rfl)
              clear h2 h4
              go_wp2_with (first
                | (at_builtin; refine wpList_pushS _ rfl _ _ rfl w.heap.size HV2.out (by rfl) (lw) (by rfl) rfl hkl HB2.out.size ?_; intro v6 w6 hv6 hb6; have HV6 := Lib.hid hv6; have HB6 := Lib.hid (HB2.out.trans hb6); clear hv6 hb6))
              go_roundg (l.length - (k + 1))
              case measure => have := HG1.out; have := HLTK.out; omega
              case rel => exact ⟨k + 1, by go_num, by have := HLTK.out; omega, rfl, by rw [HLKT.out, ← HWD.out]; exact HV6.out, HB6.out⟩
            ·
              have HWD := Lib.hid (show lw ++ (⟨#[45]⟩ : ByteArray) = txB ⟨(kc : Int), (kg : Int), true⟩ from by
                unfold txB txtO numT
                rw [HLW.out]
                rw [if_pos (by dsimp only; omega)]
                exact BS_app _ [45])
              clear h2 h4
              go_wp2_with (first
                | (at_builtin; refine wpList_pushS _ rfl _ _ rfl w.heap.size HV2.out (by rfl) (lw ++ (⟨#[45]⟩ : ByteArray)) (by rfl) rfl hkl HB2.out.size ?_; intro v6 w6 hv6 hb6; have HV6 := Lib.hid hv6; have HB6 := Lib.hid (HB2.out.trans hb6); clear hv6 hb6))
              go_roundg (l.length - (k + 1))
              case measure => have := HG1.out; have := HLTK.out; omega
              case rel => exact ⟨k + 1, by go_num, by have := HLTK.out; omega, rfl, by rw [HLKT.out, ← HWD.out]; exact HV6.out, HB6.out⟩
          ·
            have t2 : ((kc : Int) == 2) = false := by simp; omega
            have t2N : (kc == 2) = false := by simp; omega
            have t2B : ((kc : Int) != 2) = true := by simp; omega
            have t2M : (kc != 2) = true := by simp; omega
            have t4 : ((kc : Int) == 4) = false := by simp; omega
            have t4N : (kc == 4) = false := by simp; omega
            have t4B : ((kc : Int) != 4) = true := by simp; omega
            have t4M : (kc != 4) = true := by simp; omega
            cases qb
            ·
              have HWD := Lib.hid (show lw ++ sd = txB ⟨(kc : Int), (kg : Int), false⟩ from by
                unfold txB txtO numT
                rw [HLW.out]
                rw [HSD.out, if_neg (by dsimp only; omega)]
                rw [BS_app]
                rw [Int.toNat_natCast]; simp)
              clear h2 h4
              go_wp2_with (first
                | (go_at_call 15; refine (HIK.out _ HB2.out).mono ?_; rintro e w5 ⟨rfl, hx5⟩; have HV5 := Lib.hid (HV2.out.ext hx5); have HB5 := Lib.hid (bext HB2.out hx5 HB2.out.size); have HO5 := Lib.hid (HO.out.ext hx5); clear hx5 o1 o2 o3; obtain ⟨o1, o2, o3⟩ := HO5.out.facts)
                | (at_builtin; refine wpList_pushS _ rfl _ _ rfl w.heap.size HV5.out (by rfl) (lw ++ sd) (by rfl) rfl hkl HB5.out.size ?_; intro v6 w6 hv6 hb6; have HV6 := Lib.hid hv6; have HB6 := Lib.hid (HB5.out.trans hb6); clear hv6 hb6))
              go_roundg (l.length - (k + 1))
              case measure => have := HG1.out; have := HLTK.out; omega
              case rel => exact ⟨k + 1, by go_num, by have := HLTK.out; omega, rfl, by rw [HLKT.out, ← HWD.out]; exact HV6.out, HB6.out⟩
            ·
              have HWD := Lib.hid (show lw ++ sd ++ (⟨#[45]⟩ : ByteArray) = txB ⟨(kc : Int), (kg : Int), true⟩ from by
                unfold txB txtO numT
                rw [HLW.out]
                rw [HSD.out, if_neg (by dsimp only; omega)]
                rw [BS_app]
                exact (BS_app _ [45]).trans (by rw [Int.toNat_natCast]; simp))
              clear h2 h4
              go_wp2_with (first
                | (go_at_call 15; refine (HIK.out _ HB2.out).mono ?_; rintro e w5 ⟨rfl, hx5⟩; have HV5 := Lib.hid (HV2.out.ext hx5); have HB5 := Lib.hid (bext HB2.out hx5 HB2.out.size); have HO5 := Lib.hid (HO.out.ext hx5); clear hx5 o1 o2 o3; obtain ⟨o1, o2, o3⟩ := HO5.out.facts)
                | (at_builtin; refine wpList_pushS _ rfl _ _ rfl w.heap.size HV5.out (by rfl) (lw ++ sd ++ (⟨#[45]⟩ : ByteArray)) (by rfl) rfl hkl HB5.out.size ?_; intro v6 w6 hv6 hb6; have HV6 := Lib.hid hv6; have HB6 := Lib.hid (HB5.out.trans hb6); clear hv6 hb6))
              go_roundg (l.length - (k + 1))
              case measure => have := HG1.out; have := HLTK.out; omega
              case rel => exact ⟨k + 1, by go_num, by have := HLTK.out; omega, rfl, by rw [HLKT.out, ← HWD.out]; exact HV6.out, HB6.out⟩
      · obtain rfl : k = l.length := by omega
        have hv := HV1.out
        rw [← HLL.out, List.take_length] at hv
        obtain ⟨A2, c2, rfl, hc2, hm2, hs2⟩ := hv.tsl
        have HJ1 := Lib.hid (HJ.out A2 c2 wr hs2 hc2)
        rw [HJL.out] at HJ1
        obtain ⟨sp, hsp⟩ : ∃ sp, sp = BS (txtL l) := ⟨_, rfl⟩
        rw [← hsp] at HJ1
        have HSP := Lib.hid hsp
        clear hsp hs2 hv hlt
        go_wp2_with (go_at_call 16; refine (HJ1.out).mono ?_; rintro e w6 ⟨rfl, hx6⟩)
        refine bodyPost_ret (v := .tuple #[.string sp, .int .i64 0]) (by simp [results, Tryd.results8, go_sem]) rfl ?_
        exact ⟨bext HB1.out hx6 HB1.out.size, .inl ⟨HOK.out, by rw [HSP.out]⟩⟩
  · have HOK := Lib.hid hok
    by_cases h4 : 4096 < l.length
    · have HER := Lib.hid (show (if 4096 < l.length then (3 : Int) else 2) = 3 from if_pos h4)
      have h4I : (4096 : Int) < (l.length : Int) := by omega
      clear h ht hok
      go_enter Tryd.func8, Tryd.ntmps8
      go_wp2
      refine bodyPost_ret (v := .tuple #[.string ⟨#[]⟩, .int .i64 3]) (by simp [results, Tryd.results8, go_sem]) rfl ?_
      exact ⟨Below.refl _ _, .inr ⟨HOK.out, by rw [HER.out]⟩⟩
    · have HER := Lib.hid (show (if 4096 < l.length then (3 : Int) else 2) = 2 from if_neg h4)
      have h4I : ¬ (4096 : Int) < (l.length : Int) := by omega
      have hpr : ¬ PrOk l := fun hp => hok ⟨by omega, hp⟩
      rw [decide_eq_false hpr] at HPG
      clear h ht hok hpr
      go_enter Tryd.func8, Tryd.ntmps8
      go_wp2_with (go_at_call 17; refine (HPG.out).mono ?_; rintro e w1 ⟨rfl, hx1⟩)
      refine bodyPost_ret (v := .tuple #[.string ⟨#[]⟩, .int .i64 2]) (by simp [results, Tryd.results8, go_sem]) rfl ?_
      exact ⟨hx1, .inr ⟨HOK.out, by rw [HER.out]⟩⟩
set_option maxRecDepth 100000 in
set_option maxHeartbeats 8000000 in
theorem text_any (A : Option Addr) (cap : Nat) (l : List Opr) (w : World) (hc : l.length ≤ cap) (hcm : cap ≤ 9223372036854775807) (h : OSl w A l) (ht : P10 w) :
    Calls Tryd.prog 6 #[.slice A l.length cap] w (RetTx w l) := by
  have HPG := Lib.hid (prog_any A cap l w hc hcm h)
  by_cases hok : TxOk l
  · have HOK := Lib.hid hok
    have h4 := hok.1
    have h4I : ¬ (4096 : Int) < (l.length : Int) := by omega
    have h4N : ¬ 4096 < l.length := by omega
    have HPR := Lib.hid hok.2
    rw [if_neg h4N, if_pos hok.2] at HPG
    have HT := Lib.hid (fun W (hW : Below w.heap.size w W) => ht.ext hW)
    have HI := Lib.hid (fun (n : Nat) W (hn : n ≤ 100) (hW : Below w.heap.size w W) => itoa_any n W (by omega) (HT.out W hW))
    have HOP := Lib.hid (fun W (hW : Below w.heap.size w W) => h.ext hW)
    obtain ⟨L, hL⟩ : ∃ L, L = l.map txB := ⟨_, rfl⟩
    have hLl : L.length = l.length := by rw [hL]; simp
    have HLL := Lib.hid hLl
    have HLA := Lib.hid (show ∀ k (hk : k < l.length), L.getD k ⟨#[]⟩ = txB l[k] from fun k hk => by rw [hL, List.getD_eq_getElem?_getD]; simp [hk])
    have HLT := Lib.hid (show ∀ k (hk : k < l.length), L.take (k + 1) = L.take k ++ [txB l[k]] from fun k hk => by
      rw [List.take_succ_eq_append_getElem (by omega)]
      simp [hL])
    have HJ := Lib.hid (fun (A : Option Addr) (c : Nat) W (hA : TSl W A L) (hcap : L.length ≤ c) => join_any A c L W hA (by omega) hcap (by
      rw [hL, map_txB]
      have := txt_len hok
      omega))
    have HJL := Lib.hid (show BS (Lib.join (L.map (·.data.toList)) [32]) = BS (txtL l) from by rw [hL, map_txB]; rfl)
    clear h ht hL hok hLl
    have hms := run_strs l.length (by omega)
    go_enter Tryd.func6, Tryd.ntmps6
    go_upto_region 4 with (go_at_call 14; refine (HPG.out).mono ?_; rintro e w1 ⟨rfl, hx1⟩; have HX1 := Lib.hid hx1; clear hx1)
    have HXW := Lib.hid (ext_alloc w1 (.cells (cellsT l.length fun _ => ⟨#[]⟩) 9))
    have HW0 := Lib.hid (OwT.new w1 l.length (fun _ => ⟨#[]⟩))
    have HX2 := Lib.hid (bext HX1.out HXW.out HX1.out.size)
    go_wp2_with (fail)
    obtain ⟨wb, hwb⟩ : ∃ b, b = w1.heap.size := ⟨_, rfl⟩
    obtain ⟨W0, hW0⟩ : ∃ V, V = w1.alloc (.cells (cellsT l.length fun _ => ⟨#[]⟩) 9) := ⟨_, rfl⟩
    rw [← hwb, ← hW0]
    rw [← hwb, ← hW0] at HW0
    rw [← hW0] at HX2
    have hwbw : w.heap.size ≤ wb := by rw [hwb]; exact HX1.out.size
    clear hwb hW0 HXW HX1 hms
    go_loopg [18] l.length (fun gg z wr => ∃ k : Nat, z = .int .i64 k ∧ k ≤ l.length ∧ gg = l.length - k ∧ OwT wb l.length (wdT L k) wr ∧ Below w.heap.size w wr)
    case atStart => exact ⟨0, rfl, by omega, by omega, HW0.out.congr (fun j _ => by unfold wdT; rw [if_neg (by omega)]), HX2.out⟩
    case round =>
      obtain ⟨k, rfl, hk, hgg, hv, hb⟩ := hrel
      have HG1 := Lib.hid hgg
      have HV1 := Lib.hid hv
      have HB1 := Lib.hid hb
      clear hgg hv hb HX2 HW0
      by_cases hlt : k < l.length
      ·
        rcases HOP.out _ HB1.out with h0 | ⟨ob, off, rfl, hob, hcl⟩
        · rw [h0] at hlt; simp at hlt
        obtain ⟨c1, c2, c3⟩ := hcl k hlt
        have hv := HPR.out l[k] (List.getElem_mem _)
        have hLk := HLA.out k hlt
        have hLt := HLT.out k hlt
        obtain ⟨q, hq⟩ : ∃ q, q = l[k] := ⟨_, rfl⟩
        rw [← hq] at c1 c2 c3 hv hLk hLt
        obtain ⟨qc, qg, qb⟩ := q
        have hg := op_g hv
        have hc5 := hv.2.1
        have hc0 := hv.1
        dsimp only at c1 c2 c3 hg hc5 hc0
        obtain ⟨kc, rfl⟩ := Int.eq_ofNat_of_zero_le hc0
        obtain ⟨kg, rfl⟩ := Int.eq_ofNat_of_zero_le hg.1
        have hkg : kg < 100 := by omega
        have hk5 : kc ≤ 5 := by omega
        have hlx := letB_at hk5
        obtain ⟨lw, hlw⟩ : ∃ lw, lw = BS [lett (kc : Int)] := ⟨_, rfl⟩
        have hls : lw.size ≤ 1 := by rw [hlw, BS_size]; exact Nat.le_refl _
        rw [← hlw] at hlx
        unfold letB at hlx
        have HLW := Lib.hid hlw
        obtain ⟨sd, hsd⟩ : ∃ sd, sd = BS (Lib.decDigits kg) := ⟨_, rfl⟩
        have hds : sd.size ≤ 2 := by rw [hsd, BS_size]; exact (isD10 kg hkg).1
        have HSD := Lib.hid hsd
        have HIK := Lib.hid (fun W hW => HI.out kg W (by omega) hW)
        rw [← hsd] at HIK
        have HLK := Lib.hid hLk
        have HLKT := Lib.hid hLt
        have hz1 : (lw ++ sd).size ≤ 3 := by rw [ByteArray.size_append]; omega
        have hz2 : (lw ++ sd ++ (⟨#[45]⟩ : ByteArray)).size ≤ 4 := by rw [ByteArray.size_append]; show (lw ++ sd).size + 1 ≤ 4; omega
        have hz3 : (lw ++ (⟨#[45]⟩ : ByteArray)).size ≤ 2 := by rw [ByteArray.size_append]; show lw.size + 1 ≤ 2; omega
        have hkI : (k : Int) < (l.length : Int) := by omega
        have hk0 : (0 : Int) ≤ (k : Int) := by omega
        have hc6 : (kc : Int) ≤ 5 := by omega
        have HLTK := Lib.hid hlt
        clear hcl hq hLk hLt hlw hsd hv hg
        have HXA := Lib.hid (ext_alloc wr (.cells #[.int .i64 (kc : Int), .int .i64 (kg : Int), .bool qb] 49))
        have HO := Lib.hid (Bk.new 49 wr #[.int .i64 (kc : Int), .int .i64 (kg : Int), .bool qb])
        have HV2 := Lib.hid (HV1.out.ext HXA.out)
        have HB2 := Lib.hid (bext HB1.out HXA.out HB1.out.size)
        go_upto_region 8 with (fail)
        obtain ⟨ob2, hob2⟩ : ∃ b, b = wr.heap.size := ⟨_, rfl⟩
        obtain ⟨V, hV⟩ : ∃ V, V = wr.alloc (.cells #[.int .i64 (kc : Int), .int .i64 (kg : Int), .bool qb] 49) := ⟨_, rfl⟩
        rw [← hob2, ← hV]
        rw [← hob2, ← hV] at HO
        rw [← hV] at HV2 HB2
        have hne : ob2 ≠ wb := by rw [hob2]; have := HV1.out.lt; omega
        clear hob2 hV HXA HV1 HB1 c1 c2 c3 hob
        obtain ⟨o1, o2, o3⟩ := HO.out.facts
        have s1 := HV2.out.cell HLTK.out
        have s2 := HV2.out.frozen k
        have s3 := HV2.out.lt
        go_upto_region 9 with (fail)
        have HV3 := Lib.hid (HV2.out.set k lw)
        have HO3 := Lib.hid (HO.out.set_ne hne (j := k) (.string lw))
        have HB3 := Lib.hid (show Below w.heap.size w (V.setCell ⟨wb, k, none⟩ (.string lw)) from HB2.out.setCell (by show w.heap.size ≤ wb; exact hwbw) _)
        obtain ⟨V3, hV3⟩ : ∃ V3, V3 = V.setCell ⟨wb, k, none⟩ (.string lw) := ⟨_, rfl⟩
        rw [← hV3]
        rw [← hV3] at HV3 HO3 HB3
        clear hV3 o1 o2 o3 s1 s2 s3 HV2 HO HB2
        obtain ⟨o1, o2, o3⟩ := HO3.out.facts
        have s1 := HV3.out.cell HLTK.out
        have s2 := HV3.out.frozen k
        have s3 := HV3.out.lt
        unfold updT at s1
        rw [if_pos rfl] at s1
        by_cases h2 : kc = 2
        ·
          have t2 : ((kc : Int) == 2) = true := by simp; omega
          have t2N : (kc == 2) = true := by simp; omega
          have t2B : ((kc : Int) != 2) = false := by simp; omega
          have t2M : (kc != 2) = false := by simp; omega
          cases qb
          ·
            have HWD := Lib.hid (show lw = txB ⟨(kc : Int), (kg : Int), false⟩ from by
              unfold txB txtO numT
              rw [HLW.out]
              rw [if_pos (by dsimp only; omega)]
              rfl)
            clear h2
            have HVZ := HV3
            have HBZ := HB3
            go_wp2_with (fail)
            go_roundg (l.length - (k + 1))
            case measure => have := HG1.out; have := HLTK.out; omega
            case rel => exact ⟨k + 1, by go_num, by have := HLTK.out; omega, rfl, wdT_next (d := wdT L k) (HVZ.out.congr (fun j hj => by
              unfold updT
              by_cases e : j = k
              · rw [if_pos e, if_pos e, HLK.out, HWD.out]
              · simp only [if_neg e])) (fun _ _ _ => rfl), HBZ.out⟩
          ·
            have HWD := Lib.hid (show lw ++ (⟨#[45]⟩ : ByteArray) = txB ⟨(kc : Int), (kg : Int), true⟩ from by
              unfold txB txtO numT
              rw [HLW.out]
              rw [if_pos (by dsimp only; omega)]
              exact BS_app _ [45])
            clear h2
            have HVZ := Lib.hid (HV3.out.set k (lw ++ (⟨#[45]⟩ : ByteArray)))
            have HBZ := Lib.hid (show Below w.heap.size w (V3.setCell ⟨wb, k, none⟩ (.string (lw ++ (⟨#[45]⟩ : ByteArray)))) from HB3.out.setCell (by show w.heap.size ≤ wb; exact hwbw) _)
            go_wp2_with (fail)
            go_roundg (l.length - (k + 1))
            case measure => have := HG1.out; have := HLTK.out; omega
            case rel => exact ⟨k + 1, by go_num, by have := HLTK.out; omega, rfl, wdT_next (d := wdT L k) (HVZ.out.congr (fun j hj => by
              unfold updT
              by_cases e : j = k
              · rw [if_pos e, if_pos e, HLK.out, HWD.out]
              · simp only [if_neg e])) (fun _ _ _ => rfl), HBZ.out⟩
        · by_cases h4 : kc = 4
          ·
            have t2 : ((kc : Int) == 2) = false := by simp; omega
            have t2N : (kc == 2) = false := by simp; omega
            have t2B : ((kc : Int) != 2) = true := by simp; omega
            have t2M : (kc != 2) = true := by simp; omega
            have t4 : ((kc : Int) == 4) = true := by simp; omega
            have t4N : (kc == 4) = true := by simp; omega
            have t4B : ((kc : Int) != 4) = false := by simp; omega
            have t4M : (kc != 4) = false := by simp; omega
            cases qb
            ·
              have HWD := Lib.hid (show lw = txB ⟨(kc : Int), (kg : Int), false⟩ from by
                unfold txB txtO numT
                rw [HLW.out]
                rw [if_pos (by dsimp only; omega)]
                rfl)
              clear h2 h4
              have HVZ := HV3
              have HBZ := HB3
              go_wp2_with (fail)
              go_roundg (l.length - (k + 1))
              case measure => have := HG1.out; have := HLTK.out; omega
              case rel => exact ⟨k + 1, by go_num, by have := HLTK.out; omega, rfl, wdT_next (d := wdT L k) (HVZ.out.congr (fun j hj => by
                unfold updT
                by_cases e : j = k
                · rw [if_pos e, if_pos e, HLK.out, HWD.out]
                · simp only [if_neg e])) (fun _ _ _ => rfl), HBZ.out⟩
            ·
              have HWD := Lib.hid (show lw ++ (⟨#[45]⟩ : ByteArray) = txB ⟨(kc : Int), (kg : Int), true⟩ from by
                unfold txB txtO numT
                rw [HLW.out]
                rw [if_pos (by dsimp only; omega)]
                exact BS_app _ [45])
              clear h2 h4
              have HVZ := Lib.hid (HV3.out.set k (lw ++ (⟨#[45]⟩ : ByteArray)))
              have HBZ := Lib.hid (show Below w.heap.size w (V3.setCell ⟨wb, k, none⟩ (.string (lw ++ (⟨#[45]⟩ : ByteArray)))) from HB3.out.setCell (by show w.heap.size ≤ wb; exact hwbw) _)
              go_wp2_with (fail)
              go_roundg (l.length - (k + 1))
              case measure => have := HG1.out; have := HLTK.out; omega
              case rel => exact ⟨k + 1, by go_num, by have := HLTK.out; omega, rfl, wdT_next (d := wdT L k) (HVZ.out.congr (fun j hj => by
                unfold updT
                by_cases e : j = k
                · rw [if_pos e, if_pos e, HLK.out, HWD.out]
                · simp only [if_neg e])) (fun _ _ _ => rfl), HBZ.out⟩
          ·
            have t2 : ((kc : Int) == 2) = false := by simp; omega
            have t2N : (kc == 2) = false := by simp; omega
            have t2B : ((kc : Int) != 2) = true := by simp; omega
            have t2M : (kc != 2) = true := by simp; omega
            have t4 : ((kc : Int) == 4) = false := by simp; omega
            have t4N : (kc == 4) = false := by simp; omega
            have t4B : ((kc : Int) != 4) = true := by simp; omega
            have t4M : (kc != 4) = true := by simp; omega
            cases qb
            ·
              have HWD := Lib.hid (show lw ++ sd = txB ⟨(kc : Int), (kg : Int), false⟩ from by
                unfold txB txtO numT
                rw [HLW.out]
                rw [HSD.out, if_neg (by dsimp only; omega)]
                rw [BS_app]
                rw [Int.toNat_natCast]; simp)
              clear h2 h4
              have HF3 := Lib.hid (show ∀ W, Below V3.heap.size V3 W → W.cell? ⟨wb, k, none⟩ = some (.string lw) ∧ wb < W.heap.size ∧ W.cell? ⟨ob2, 1, none⟩ = some (.int .i64 (kg : Int)) ∧ ob2 < W.heap.size from fun W hW => ⟨(hW.cell (p := ⟨wb, k, none⟩) s3).trans s1, Nat.lt_of_lt_of_le s3 hW.size, (HO3.out.ext hW).cell 1, (HO3.out.ext hW).lt⟩)
              go_upto_region 10 with (fail)
              refine wp_region_T (S := fun W => Below V3.heap.size V3 W) 9 (by kernel_rfl) (ext_drew _) (fun hHeld => ?_)
              refine wpAnyT_take (i := 0) (v := ?v1) [] rfl (by kernel_rfl) (fun _ _ _ h => h) (Or.inl ⟨by rfl, ?hy1⟩) hHeld ?rst1
              case hy1 => (intro wx hSw; obtain ⟨q1, q2, q3, q4⟩ := HF3.out wx hSw; go_simp; (try rw [if_neg (by omega)]); try (with_reducible rfl))
              try simp only [List.getElem_toArray, List.getElem_cons_zero, Act.put, List.setIfInBounds_toArray, List.set_cons_zero, List.set_cons_succ]
              refine wpAnyT_take (i := 1) (v := ?v2) [] rfl (by kernel_rfl) (fun _ _ _ h => h) (Or.inl ⟨by rfl, ?hy2⟩) hHeld ?rst2
              case hy2 => (intro wx hSw; obtain ⟨q1, q2, q3, q4⟩ := HF3.out wx hSw; go_simp; (try rw [if_neg (by omega)]); try (with_reducible rfl))
              try simp only [List.getElem_toArray, List.getElem_cons_zero, List.getElem_cons_succ, Act.put, List.setIfInBounds_toArray, List.set_cons_zero, List.set_cons_succ]
              refine wpAnyT_take (i := 2) (v := ?v3) [] rfl (by kernel_rfl) (fun _ _ _ h => h) (Or.inl ⟨by rfl, ?hy3⟩) hHeld ?rst3
              case hy3 => (intro wx hSw; obtain ⟨q1, q2, q3, q4⟩ := HF3.out wx hSw; go_simp; (try rw [if_neg (by omega)]); try (with_reducible rfl))
              try simp only [List.getElem_toArray, List.getElem_cons_zero, List.getElem_cons_succ, Act.put, List.setIfInBounds_toArray, List.set_cons_zero, List.set_cons_succ]
              refine wpAnyT_take (i := 3) (v := ?v4) [] rfl (by kernel_rfl) (fun _ _ _ h => h) (Or.inl ⟨by rfl, ?hy4⟩) hHeld ?rst4
              case hy4 => (intro wx hSw; obtain ⟨q1, q2, q3, q4⟩ := HF3.out wx hSw; go_simp; (try rw [if_neg (by omega)]); try (with_reducible rfl))
              try simp only [List.getElem_toArray, List.getElem_cons_zero, List.getElem_cons_succ, Act.put, List.setIfInBounds_toArray, List.set_cons_zero, List.set_cons_succ]
              refine wpAnyT_take (i := 4) (v := ?v5) [] rfl (by kernel_rfl) (fun _ _ _ h => h) (Or.inl ⟨by rfl, ?hy5⟩) hHeld ?rst5
              case hy5 => (intro wx hSw; obtain ⟨q1, q2, q3, q4⟩ := HF3.out wx hSw; go_simp; (try rw [if_neg (by omega)]); try (with_reducible rfl))
              try simp only [List.getElem_toArray, List.getElem_cons_zero, List.getElem_cons_succ, Act.put, List.setIfInBounds_toArray, List.set_cons_zero, List.set_cons_succ]
              refine wpAnyT_take (i := 5) (v := ?v6) [] rfl (by kernel_rfl) (fun _ _ _ h => h) (Or.inl ⟨by rfl, ?hy6⟩) hHeld ?rst6
              case hy6 => (intro wx hSw; obtain ⟨q1, q2, q3, q4⟩ := HF3.out wx hSw; go_simp; (try rw [if_neg (by omega)]); try (with_reducible rfl))
              try simp only [List.getElem_toArray, List.getElem_cons_zero, List.getElem_cons_succ, Act.put, List.setIfInBounds_toArray, List.set_cons_zero, List.set_cons_succ]
              refine wpAnyT_one (i := 6) (by kernel_rfl) rfl (fun K hK => ?_)
              go_simp
              go_at_call 15
              refine (HIK.out _ (bext HB3.out hHeld HB3.out.size)).mono ?_
              rintro e8 w8 ⟨rfl, hx8⟩
              have B8 := bext hHeld hx8 hHeld.size
              have HV8 := Lib.hid (HV3.out.ext B8)
              have HO8 := Lib.hid (HO3.out.ext B8)
              have HB8 := Lib.hid (bext HB3.out B8 HB3.out.size)
              clear hx8
              refine hK.out _ _ (B8) (fun hHeld => ?_)
              clear hK K
              try simp only [List.getElem_toArray, List.getElem_cons_zero, List.getElem_cons_succ, Act.put, List.setIfInBounds_toArray, List.set_cons_zero, List.set_cons_succ]
              refine wpAnyT_take (i := 7) (v := ?v7) [] rfl (by kernel_rfl) (fun _ _ _ h => h) (Or.inl ⟨by rfl, ?hy7⟩) hHeld ?rst7
              case hy7 => (intro wx hSw; obtain ⟨q1, q2, q3, q4⟩ := HF3.out wx hSw; go_simp; (try rw [if_neg (by omega)]); try (with_reducible rfl))
              try simp only [List.getElem_toArray, List.getElem_cons_zero, List.getElem_cons_succ, Act.put, List.setIfInBounds_toArray, List.set_cons_zero, List.set_cons_succ]
              refine wpAnyT_take (i := 8) (v := ?v8) [] rfl (by kernel_rfl) (fun _ _ _ h => h) (Or.inl ⟨by rfl, ?hy8⟩) hHeld ?rst8
              case hy8 => (intro wx hSw; obtain ⟨q1, q2, q3, q4⟩ := HF3.out wx hSw; go_simp; (try rw [if_neg (by omega)]); try (with_reducible rfl))
              try simp only [List.getElem_toArray, List.getElem_cons_zero, List.getElem_cons_succ, Act.put, List.setIfInBounds_toArray, List.set_cons_zero, List.set_cons_succ]
              refine wpAnyT_last (by kernel_rfl) (by kernel_rfl) rfl (fun K hK => ?_)
              have p2 := HV8.out.frozen k
              have p3 := HV8.out.lt
              have p1 : w8.cell? ⟨wb, k, none⟩ = some (.string lw) := (HF3.out _ B8).1
              go_simp
              refine hK.out _ _ ?_
              clear hK K
              have HV9 := Lib.hid (HV8.out.set k (lw ++ sd))
              have HO9 := Lib.hid (HO8.out.set_ne hne (j := k) (.string (lw ++ sd)))
              have HB9 := Lib.hid (show Below w.heap.size w (w8.setCell ⟨wb, k, none⟩ (.string (lw ++ sd))) from HB8.out.setCell (by show w.heap.size ≤ wb; exact hwbw) _)
              obtain ⟨V9, hV9⟩ : ∃ V9, V9 = w8.setCell ⟨wb, k, none⟩ (.string (lw ++ sd)) := ⟨_, rfl⟩
              rw [← hV9]
              rw [← hV9] at HV9 HO9 HB9
              clear hV9 o1 o2 o3 s1 s2 s3
              obtain ⟨o1, o2, o3⟩ := HO9.out.facts
              have s1 := HV9.out.cell HLTK.out
              have s2 := HV9.out.frozen k
              have s3 := HV9.out.lt
              unfold updT at s1
              rw [if_pos rfl] at s1
              have HVZ := HV9
              have HBZ := HB9
              go_wp2_with (fail)
              go_roundg (l.length - (k + 1))
              case measure => have := HG1.out; have := HLTK.out; omega
              case rel => exact ⟨k + 1, by go_num, by have := HLTK.out; omega, rfl, wdT_next (d := wdT L k) (HVZ.out.congr (fun j hj => by
                unfold updT
                by_cases e : j = k
                · rw [if_pos e, if_pos e, HLK.out, HWD.out]
                · simp only [if_neg e])) (fun _ _ _ => rfl), HBZ.out⟩
            ·
              have HWD := Lib.hid (show lw ++ sd ++ (⟨#[45]⟩ : ByteArray) = txB ⟨(kc : Int), (kg : Int), true⟩ from by
                unfold txB txtO numT
                rw [HLW.out]
                rw [HSD.out, if_neg (by dsimp only; omega)]
                rw [BS_app]
                exact (BS_app _ [45]).trans (by rw [Int.toNat_natCast]; simp))
              clear h2 h4
              have HF3 := Lib.hid (show ∀ W, Below V3.heap.size V3 W → W.cell? ⟨wb, k, none⟩ = some (.string lw) ∧ wb < W.heap.size ∧ W.cell? ⟨ob2, 1, none⟩ = some (.int .i64 (kg : Int)) ∧ ob2 < W.heap.size from fun W hW => ⟨(hW.cell (p := ⟨wb, k, none⟩) s3).trans s1, Nat.lt_of_lt_of_le s3 hW.size, (HO3.out.ext hW).cell 1, (HO3.out.ext hW).lt⟩)
              go_upto_region 10 with (fail)
              refine wp_region_T (S := fun W => Below V3.heap.size V3 W) 9 (by kernel_rfl) (ext_drew _) (fun hHeld => ?_)
              refine wpAnyT_take (i := 0) (v := ?v9) [] rfl (by kernel_rfl) (fun _ _ _ h => h) (Or.inl ⟨by rfl, ?hy9⟩) hHeld ?rst9
              case hy9 => (intro wx hSw; obtain ⟨q1, q2, q3, q4⟩ := HF3.out wx hSw; go_simp; (try rw [if_neg (by omega)]); try (with_reducible rfl))
              try simp only [List.getElem_toArray, List.getElem_cons_zero, Act.put, List.setIfInBounds_toArray, List.set_cons_zero, List.set_cons_succ]
              refine wpAnyT_take (i := 1) (v := ?v10) [] rfl (by kernel_rfl) (fun _ _ _ h => h) (Or.inl ⟨by rfl, ?hy10⟩) hHeld ?rst10
              case hy10 => (intro wx hSw; obtain ⟨q1, q2, q3, q4⟩ := HF3.out wx hSw; go_simp; (try rw [if_neg (by omega)]); try (with_reducible rfl))
              try simp only [List.getElem_toArray, List.getElem_cons_zero, List.getElem_cons_succ, Act.put, List.setIfInBounds_toArray, List.set_cons_zero, List.set_cons_succ]
              refine wpAnyT_take (i := 2) (v := ?v11) [] rfl (by kernel_rfl) (fun _ _ _ h => h) (Or.inl ⟨by rfl, ?hy11⟩) hHeld ?rst11
              case hy11 => (intro wx hSw; obtain ⟨q1, q2, q3, q4⟩ := HF3.out wx hSw; go_simp; (try rw [if_neg (by omega)]); try (with_reducible rfl))
              try simp only [List.getElem_toArray, List.getElem_cons_zero, List.getElem_cons_succ, Act.put, List.setIfInBounds_toArray, List.set_cons_zero, List.set_cons_succ]
              refine wpAnyT_take (i := 3) (v := ?v12) [] rfl (by kernel_rfl) (fun _ _ _ h => h) (Or.inl ⟨by rfl, ?hy12⟩) hHeld ?rst12
              case hy12 => (intro wx hSw; obtain ⟨q1, q2, q3, q4⟩ := HF3.out wx hSw; go_simp; (try rw [if_neg (by omega)]); try (with_reducible rfl))
              try simp only [List.getElem_toArray, List.getElem_cons_zero, List.getElem_cons_succ, Act.put, List.setIfInBounds_toArray, List.set_cons_zero, List.set_cons_succ]
              refine wpAnyT_take (i := 4) (v := ?v13) [] rfl (by kernel_rfl) (fun _ _ _ h => h) (Or.inl ⟨by rfl, ?hy13⟩) hHeld ?rst13
              case hy13 => (intro wx hSw; obtain ⟨q1, q2, q3, q4⟩ := HF3.out wx hSw; go_simp; (try rw [if_neg (by omega)]); try (with_reducible rfl))
              try simp only [List.getElem_toArray, List.getElem_cons_zero, List.getElem_cons_succ, Act.put, List.setIfInBounds_toArray, List.set_cons_zero, List.set_cons_succ]
              refine wpAnyT_take (i := 5) (v := ?v14) [] rfl (by kernel_rfl) (fun _ _ _ h => h) (Or.inl ⟨by rfl, ?hy14⟩) hHeld ?rst14
              case hy14 => (intro wx hSw; obtain ⟨q1, q2, q3, q4⟩ := HF3.out wx hSw; go_simp; (try rw [if_neg (by omega)]); try (with_reducible rfl))
              try simp only [List.getElem_toArray, List.getElem_cons_zero, List.getElem_cons_succ, Act.put, List.setIfInBounds_toArray, List.set_cons_zero, List.set_cons_succ]
              refine wpAnyT_one (i := 6) (by kernel_rfl) rfl (fun K hK => ?_)
              go_simp
              go_at_call 15
              refine (HIK.out _ (bext HB3.out hHeld HB3.out.size)).mono ?_
              rintro e8 w8 ⟨rfl, hx8⟩
              have B8 := bext hHeld hx8 hHeld.size
              have HV8 := Lib.hid (HV3.out.ext B8)
              have HO8 := Lib.hid (HO3.out.ext B8)
              have HB8 := Lib.hid (bext HB3.out B8 HB3.out.size)
              clear hx8
              refine hK.out _ _ (B8) (fun hHeld => ?_)
              clear hK K
              try simp only [List.getElem_toArray, List.getElem_cons_zero, List.getElem_cons_succ, Act.put, List.setIfInBounds_toArray, List.set_cons_zero, List.set_cons_succ]
              refine wpAnyT_take (i := 7) (v := ?v15) [] rfl (by kernel_rfl) (fun _ _ _ h => h) (Or.inl ⟨by rfl, ?hy15⟩) hHeld ?rst15
              case hy15 => (intro wx hSw; obtain ⟨q1, q2, q3, q4⟩ := HF3.out wx hSw; go_simp; (try rw [if_neg (by omega)]); try (with_reducible rfl))
              try simp only [List.getElem_toArray, List.getElem_cons_zero, List.getElem_cons_succ, Act.put, List.setIfInBounds_toArray, List.set_cons_zero, List.set_cons_succ]
              refine wpAnyT_take (i := 8) (v := ?v16) [] rfl (by kernel_rfl) (fun _ _ _ h => h) (Or.inl ⟨by rfl, ?hy16⟩) hHeld ?rst16
              case hy16 => (intro wx hSw; obtain ⟨q1, q2, q3, q4⟩ := HF3.out wx hSw; go_simp; (try rw [if_neg (by omega)]); try (with_reducible rfl))
              try simp only [List.getElem_toArray, List.getElem_cons_zero, List.getElem_cons_succ, Act.put, List.setIfInBounds_toArray, List.set_cons_zero, List.set_cons_succ]
              refine wpAnyT_last (by kernel_rfl) (by kernel_rfl) rfl (fun K hK => ?_)
              have p2 := HV8.out.frozen k
              have p3 := HV8.out.lt
              have p1 : w8.cell? ⟨wb, k, none⟩ = some (.string lw) := (HF3.out _ B8).1
              go_simp
              refine hK.out _ _ ?_
              clear hK K
              have HV9 := Lib.hid (HV8.out.set k (lw ++ sd))
              have HO9 := Lib.hid (HO8.out.set_ne hne (j := k) (.string (lw ++ sd)))
              have HB9 := Lib.hid (show Below w.heap.size w (w8.setCell ⟨wb, k, none⟩ (.string (lw ++ sd))) from HB8.out.setCell (by show w.heap.size ≤ wb; exact hwbw) _)
              obtain ⟨V9, hV9⟩ : ∃ V9, V9 = w8.setCell ⟨wb, k, none⟩ (.string (lw ++ sd)) := ⟨_, rfl⟩
              rw [← hV9]
              rw [← hV9] at HV9 HO9 HB9
              clear hV9 o1 o2 o3 s1 s2 s3
              obtain ⟨o1, o2, o3⟩ := HO9.out.facts
              have s1 := HV9.out.cell HLTK.out
              have s2 := HV9.out.frozen k
              have s3 := HV9.out.lt
              unfold updT at s1
              rw [if_pos rfl] at s1
              have HVZ := Lib.hid (HV9.out.set k (lw ++ sd ++ (⟨#[45]⟩ : ByteArray)))
              have HBZ := Lib.hid (show Below w.heap.size w (V9.setCell ⟨wb, k, none⟩ (.string (lw ++ sd ++ (⟨#[45]⟩ : ByteArray)))) from HB9.out.setCell (by show w.heap.size ≤ wb; exact hwbw) _)
              go_wp2_with (fail)
              go_roundg (l.length - (k + 1))
              case measure => have := HG1.out; have := HLTK.out; omega
              case rel => exact ⟨k + 1, by go_num, by have := HLTK.out; omega, rfl, wdT_next (d := wdT L k) (HVZ.out.congr (fun j hj => by
                unfold updT
                by_cases e : j = k
                · rw [if_pos e, if_pos e, HLK.out, HWD.out]
                · simp only [if_neg e])) (fun _ _ _ => rfl), HBZ.out⟩
      · obtain rfl : k = l.length := by omega
        have hts : TSl wr (some ⟨wb, 0, none⟩) L := .inr ⟨wb, 0, rfl, HV1.out.lt, fun j hj => by
          have hj2 : j < l.length := by have := HLL.out; omega
          rw [Nat.zero_add, HV1.out.cell hj2]
          unfold wdT
          rw [if_pos hj2, List.getD_eq_getElem?_getD, List.getElem?_eq_getElem hj]; rfl⟩
        have HJ1 := Lib.hid (HJ.out (some ⟨wb, 0, none⟩) L.length wr hts (Nat.le_refl _))
        rw [HJL.out, HLL.out] at HJ1
        obtain ⟨sp, hsp⟩ : ∃ sp, sp = BS (txtL l) := ⟨_, rfl⟩
        rw [← hsp] at HJ1
        have HSP := Lib.hid hsp
        clear hsp hts hlt
        go_wp2_with (go_at_call 16; refine (HJ1.out).mono ?_; rintro e w6 ⟨rfl, hx6⟩)
        refine bodyPost_ret (v := .tuple #[.string sp, .int .i64 0]) (by simp [results, Tryd.results6, go_sem]) rfl ?_
        exact ⟨bext HB1.out hx6 HB1.out.size, .inl ⟨HOK.out, by rw [HSP.out]⟩⟩
  · have HOK := Lib.hid hok
    obtain ⟨z, hz⟩ : ∃ z : Int, z = if 4096 < l.length then 3 else 2 := ⟨_, rfl⟩
    have hzz : (if 4096 < l.length then (3 : Int) else if PrOk l then 0 else 2) = z := by
      rw [hz]
      by_cases h4 : 4096 < l.length
      · rw [if_pos h4, if_pos h4]
      · rw [if_neg h4, if_neg h4, if_neg (fun hp => hok ⟨by omega, hp⟩)]
    have hz3 : z = 3 ∨ z = 2 := by rw [hz]; split <;> simp
    rw [hzz] at HPG
    have HZ := Lib.hid hz
    clear h ht hok hz hzz
    rcases hz3 with rfl | rfl
    all_goals
      go_enter Tryd.func6, Tryd.ntmps6
      go_wp2_with (go_at_call 14; refine (HPG.out).mono ?_; rintro e w1 ⟨rfl, hx1⟩)
      refine bodyPost_ret (v := .tuple #[.string ⟨#[]⟩, .int .i64 _]) (by simp [results, Tryd.results6, go_sem]; rfl) rfl ?_
      exact ⟨hx1, .inr ⟨HOK.out, by rw [← HZ.out]⟩⟩
end Go.Proofs.YtfadkokdoehjnaaDoor
