/- Round walked, the reference's. Conditions: the slice reads as a list of seams. -/
import Derived.Test.YtbhjhajnhpohlaaRns
import Derived.Test.YtbhjhajnhpohlaaWy
import Derived.Test.YtbhjhajnhpohlaaOr
namespace Go.Proofs.Ytbhjhajnhpohlaa
open Go.RowKit

set_option maxRecDepth 100000 in
set_option maxHeartbeats 4000000 in
theorem rTotal_any (N : Int) (A : Option Addr) (cap : Nat) (l : List Sm) (w : World) (hok : GOk N l) (_hc : l.length ≤ cap) (_hcm : cap ≤ 9223372036854775807) (h : SSl w A l) :
    Calls Try.prog 39 #[.agg #[.int .i64 N, .slice A l.length cap]] w fun e w' => e = .returned (.int .i64 (sumN l l.length)) ∧ Below w.heap.size w w' := by
  have H := Lib.hid h
  have HOK := Lib.hid hok
  have l64 := hok.2.2.1
  have HB0 := Lib.hid (Bk.new 24 w #[.int .i64 N, .slice A l.length cap])
  have HE0 := Lib.hid (ext_alloc w (.cells #[.int .i64 N, .slice A l.length cap] 24))
  clear h hok
  go_enter Try.func39, Try.ntmps39
  go_wp2
  go_loopg [9, 3] l.length (fun g i z wr => ∃ k : Nat, i = .int .i64 k ∧ z = .int .i64 (sumN l k) ∧ k ≤ l.length ∧ g = l.length - k ∧ Below w.heap.size w wr)
  case atStart => exact ⟨0, rfl, rfl, by omega, by omega, HE0.out⟩
  case round =>
    obtain ⟨k, rfl, rfl, hk, hg, hb⟩ := hrel
    have HG := Lib.hid hg
    clear hg
    by_cases hlt : k < l.length
    · rcases H.out.ext hb with hf' | ⟨b, off, rfl, hblt, hcl⟩
      · rw [hf'] at hlt; simp at hlt
      · obtain ⟨c1, c2, c3, c4⟩ := hcl k hlt
        have hbd := sumN_bd (l := l) (fun s hs => HOK.out.2.2.2 s hs) k
        have hso := HOK.out.2.2.2 _ (List.getElem_mem hlt)
        have HSN := Lib.hid (sumN_succ hlt rfl)
        unfold SmOk at hso
        obtain ⟨s, hs⟩ : ∃ s, s = l[k] := ⟨_, rfl⟩
        rw [← hs] at c1 c2 c3 c4 HSN hso
        obtain ⟨a, b', m, t⟩ := s
        dsimp only at c1 c2 c3 c4 hso
        obtain ⟨-, -, -, -, o5, o6, -, -⟩ := hso
        clear hs hcl
        generalize sumN l k = x at *
        go_wp2
        go_roundg (l.length - (k + 1))
        case measure => have := HG.out; omega
        case rel => exact ⟨k + 1, by go_num, by rw [HSN.out], by omega, rfl, hb.alloc hb.size _⟩
    · obtain rfl : k = l.length := by omega
      go_wp2
      go_ret
      exact ⟨rfl, hb⟩
theorem shr_ex (n i : Nat) (hn : n < 9223372036854775808) : ∃ y : Nat, (n : Int) / 2 ^ i = (y : Int) ∧ (n.testBit i = false → bits .and .i64 (y : Int) 1 = 0) ∧ (n.testBit i = true → bits .and .i64 (y : Int) 1 = 1) := by
  have hy : n / 2 ^ i < 9223372036854775808 := Nat.lt_of_le_of_lt (Nat.div_le_self _ _) hn
  have e1 : bits .and .i64 ((n / 2 ^ i : Nat) : Int) 1 = ((n / 2 ^ i &&& 1 : Nat) : Int) := i64_and _ 1 hy (by decide)
  rw [nat_mask1] at e1
  refine ⟨n / 2 ^ i, by push_cast; rfl, fun h => ?_, fun h => ?_⟩
  · rw [e1]
    rw [Nat.testBit_eq_decide_div_mod_eq] at h
    have := of_decide_eq_false h
    omega
  · rw [e1]
    rw [Nat.testBit_eq_decide_div_mod_eq] at h
    have := of_decide_eq_true h
    omega
/-- the reference's own memory: its table -/
def RrS (w : World) (M a : Nat) (p : Nat → Int × Nat) (wr : World) : Prop := Below w.heap.size w wr ∧ Ow 3 a M (fun s => (p s).1) wr
theorem RrS.ext {w : World} {M a : Nat} {p : Nat → Int × Nat} {wr w' : World} (h : RrS w M a p wr) (hb : Below wr.heap.size wr w') : RrS w M a p w' := ⟨bext h.1 hb h.1.size, h.2.ext hb⟩
theorem inn_min {d : Nat → Nat → Int} {T : Nat → Int} {S i : Nat} {v : Int} {j : Nat} (hij : i < j) (hb : S.testBit j = true) : (inn d T S i v (j + 1)).1 = min (inn d T S i v j).1 (T (wo1 (wo1 S i) j) + d i j) := by
  show (if i < j ∧ S.testBit j = true ∧ T (wo1 (wo1 S i) j) + d i j < (inn d T S i v j).1 then (T (wo1 (wo1 S i) j) + d i j, j) else inn d T S i v j).1 = _
  by_cases h : T (wo1 (wo1 S i) j) + d i j < (inn d T S i v j).1
  · rw [if_pos ⟨hij, hb, h⟩]
    show T _ + _ = _
    omega
  · rw [if_neg (fun e => h e.2.2)]
    omega
theorem dpI_min {d : Nat → Nat → Int} {v : Int} {k n j m : Nat} (hj : low k n < j) (hb : n.testBit j = true) (hm : m = wo1 (wo1 n (low k n)) j) (hn : m ≠ n) (s : Nat) : (dpI d v k n (j + 1) s).1 = if s = n then min (dpI d v k n j n).1 ((dpI d v k n j m).1 + d (low k n) j) else (dpI d v k n j s).1 := by
  rw [dpI_at hn]
  subst hm
  unfold dpI
  by_cases e : s = n
  · rw [if_pos e, if_pos e, if_pos rfl, inn_min hj hb]
  · rw [if_neg e, if_neg e, if_neg e]

set_option maxRecDepth 100000 in
set_option maxHeartbeats 4000000 in
theorem rRound_yes (n f : Nat) (A : Option Addr) (cap : Nat) (l : List Sm) (w : World) (hok : GOk n l) (hf : f < n) (hcn : Conn l f) (hc : l.length ≤ cap) (hcm : cap ≤ 9223372036854775807) (h : SSl w A l) :
    Calls Try.prog 33 #[.agg #[.int .i64 (n : Int), .slice A l.length cap], .int .i64 (f : Int)] w fun e w' => e = .returned (.tuple #[.int .i64 (rndN n l), .int .i64 0]) ∧ Below w.heap.size w w' := by
  have hv := fun W (h : SSl W A l) => rvalid_any n A cap l W hc hcm h
  rw [vldG_yes hok] at hv
  have HV := Lib.hid hv
  have HSH := Lib.hid (fun W (h : SSl W A l) => ways_any n A cap l W hok hc hcm h)
  have ho := fun W (h : SSl W A l) => rodd_any n A cap l (-1) W hok hc hcm h
  have hn16 : n ≤ 16 := by have := hok.2.1; omega
  have he : oddN (chR (-1)) l n = oddN allS l 16 := by
    rw [oddN_congr (ch' := allS) (fun s _ => by unfold chR allS; simp) n]
    exact (oddN_out hok.2.2.2 16 hn16).symm
  rw [he] at ho
  have HO := Lib.hid ho
  have HT := Lib.hid (fun W (h : SSl W A l) => rTotal_any n A cap l W hok hc hcm h)
  have H := Lib.hid h
  have HOK := Lib.hid hok
  have HCN := Lib.hid hcn
  have HB0 := Lib.hid (Bk.new 24 w #[.int .i64 (n : Int), .slice A l.length cap])
  have HE0 := Lib.hid (ext_alloc w (.cells #[.int .i64 (n : Int), .slice A l.length cap] 24))
  have l64 := hok.2.2.1
  have hfn : (f : Int) < (n : Int) := by omega
  have hfn2 : ¬ (n : Int) ≤ (f : Int) := by omega
  clear h hok hcn hv ho he
  go_enter Try.func33, Try.ntmps33
  go_wp2_with (first
    | (go_at_call 22; refine (HV.out _ (H.out.ext HE0.out)).mono ?_; rintro e w1 ⟨rfl, hx1⟩; have B1 := ext_trans HE0.out hx1; have G1 := HB0.out.ext hx1; obtain ⟨f1, f2, f3⟩ := G1.facts)
    | (go_at_call 57; refine (HSH.out _ (H.out.ext B1)).mono ?_; rintro e w2 ⟨rfl, B, hs2⟩; have B2 := Lib.hid (bext B1 hs2.1 B1.size); have G2 := Lib.hid (G1.ext hs2.1); clear f1 f2 f3; obtain ⟨f1, f2, f3⟩ := G2.out.facts; have HWY := Lib.hid hs2; clear hs2 B1 G1 hx1))
  obtain ⟨gw, hgw⟩ : ∃ gw, gw = w1.heap.size + 1 := ⟨_, rfl⟩
  have HGW := Lib.hid hgw
  rw [← hgw]
  clear hgw
  go_loopg [32] l.length (fun g i wr => ∃ k : Nat, i = .int .i64 k ∧ k ≤ l.length ∧ g = l.length - k ∧ Below w2.heap.size w2 wr)
  case atStart => exact ⟨0, rfl, by omega, by omega, Below.refl _ _⟩
  case round =>
    obtain ⟨k, rfl, hk, hg, hb⟩ := hrel
    have HG := Lib.hid hg
    have HBB := Lib.hid hb
    clear hg
    by_cases hlt : k < l.length
    · rcases H.out.ext (bext B2.out hb B2.out.size) with hf' | ⟨b, off, rfl, hblt, hcl⟩
      · rw [hf'] at hlt; simp at hlt
      · obtain ⟨c1, c2, c3, c4⟩ := hcl k hlt
        have hso := HOK.out.2.2.2 _ (List.getElem_mem hlt)
        have hal := HCN.out _ (List.getElem_mem hlt)
        obtain ⟨s, hs⟩ : ∃ s, s = l[k] := ⟨_, rfl⟩
        rw [← hs] at c1 c2 c3 c4 hso hal
        obtain ⟨a, b', m, t⟩ := s
        dsimp only at c1 c2 c3 c4 hal
        obtain ⟨o1, o2, o3, o4, -, -, -, -⟩ := hso
        dsimp only at o1 o2 o3 o4
        obtain ⟨ja, rfl⟩ := Int.eq_ofNat_of_zero_le o1
        rw [Int.toNat_natCast] at hal
        have hja : ja < n := by omega
        have hfar := cls_far HOK.out.2.2.2 hn16 hf hja hal.symm
        have hwy := HWY.out.ext hb
        have q0 := hwy.out (i := f) hf hf
        rw [← HGW.out] at q0
        have q1 := (hwy.2.2.2.1 f hf).2.cell (i := ja) hja
        have q2 := (hwy.2.2.2.1 f hf).2.lt
        have q3 : gw < wr.heap.size := by rw [HGW.out]; exact hwy.2.2.1.lt
        have hlo : 0 ≤ (tbl n l).L f ja := ((tbl_snd HOK.out.2.2.2).rng f ja).1
        obtain ⟨x, hx⟩ : ∃ x, x = (tbl n l).L f ja := ⟨_, rfl⟩
        rw [← hx] at q1 hfar hlo
        have hfar2 : ¬ 1099511627776 ≤ x := by unfold far at hfar; omega
        clear hs hcl hal hx hwy hfar
        go_wp2
        go_quiet (fail)
        rename_i nq
        go_wp2
        go_roundg (l.length - (k + 1))
        case measure => have := HG.out; omega
        case rel => exact ⟨k + 1, by go_num, by omega, rfl, bext (hb.alloc hb.size _) (ext_drewN _ nq) (by have := hb.size; simp; omega)⟩
    · obtain rfl : k = l.length := by omega
      clear HG hlt hk
      have B3 := Lib.hid (bext B2.out hb B2.out.size)
      have G3 := Lib.hid (G2.out.ext hb)
      have HWY3 := Lib.hid (HWY.out.ext hb)
      clear HBB hb f1 f2 f3
      obtain ⟨f1, f2, f3⟩ := G3.out.facts
      go_upto_region 10 with (fail)
      obtain ⟨lo, hlo⟩ : ∃ lo, lo = oddN allS l 16 := ⟨_, rfl⟩
      have HLO := Lib.hid hlo
      have hlo16 : lo.length ≤ 16 := by rw [hlo]; exact oddN_len _ _ _
      have HLR := Lib.hid (show ∀ x ∈ lo, 0 ≤ x ∧ x < n from by rw [hlo]; exact lo_rng HOK.out.2.2.2)
      have HLC := Lib.hid (show ∀ i j, i < lo.length → j < lo.length → (tbl n l).L (jt lo i) (jt lo j) < far from by rw [hlo]; exact lo_con HOK.out.2.2.2 hn16 HCN.out)
      have HLE := Lib.hid (show lo.length % 2 = 0 from by rw [hlo]; exact lo_even HOK.out.2.2.2 hn16)
      rw [← hlo] at HO
      clear hlo
      go_upto_region 11 with (go_at_call 60; refine (HO.out _ (H.out.ext B3.out)).mono ?_; rintro e w3 ⟨v3, rfl, hv3, hx3⟩; have B4 := Lib.hid (bext B3.out hx3 B3.out.size); have G4 := Lib.hid (G3.out.ext hx3); have HWY4 := Lib.hid (HWY3.out.ext hx3); obtain ⟨A3, c3, rfl, hc3, hcm3, hi3⟩ := hv3.isl; have HI3 := Lib.hid hi3; clear hv3 hx3 hi3)
      clear f1 f2 f3 B3 G3 HWY3 HWY G2
      unfold maxLen at hcm3
      obtain ⟨kk, hkk⟩ : ∃ kk, kk = lo.length := ⟨_, rfl⟩
      have HKK := Lib.hid hkk
      rw [← hkk] at hlo16 hc3 ⊢
      obtain ⟨M, HM, M1, hM1, hM2, hM3⟩ := mw_ex kk hlo16
      have hmk : ∀ W, (Instr.makeSlice 35 (.int .i64 (M : Int)) (.int .i64 (M : Int))).run Try.prog W = .ok (.slice (some ⟨W.heap.size, 0, none⟩) M M) (W.alloc (.cells (cellsOf M fun _ => 0) 3)) := fun W => run_zeros M (by omega) W
      obtain ⟨v0, hv0⟩ : ∃ v0, v0 = (1099511627776 : Int) := ⟨_, rfl⟩
      obtain ⟨d, hd⟩ : ∃ d : Nat → Nat → Int, d = fun i j => (tbl n l).L (jt lo i) (jt lo j) := ⟨_, rfl⟩
      have HD := Lib.hid hd
      have HV0 := Lib.hid hv0
      have HS0 := Lib.hid (show RrS w3 M w3.heap.size (dpT d v0 kk 1) (w3.alloc (.cells (cellsOf M fun _ => 0) 3)) from ⟨ext_alloc w3 _, (Ow.new 3 w3 M (fun _ => 0)).congr (fun i _ => by rw [dpT_one])⟩)
      have hDN := HD.out
      have HDD := Lib.hid (show ∀ i j, 0 ≤ d i j from fun i j => by rw [HD.out]; exact ((tbl_snd HOK.out.2.2.2).rng (jt lo i) (jt lo j)).1)
      obtain ⟨a, ha⟩ : ∃ a, a = w3.heap.size := ⟨_, rfl⟩
      have HA := Lib.hid ha
      clear hd hv0 hDN hkk
      go_upto_region 12 with (fail)
      rw [← HA.out] at HS0 ⊢
      clear hmk hM2 hM3 ha
      go_wp2
      go_loopg [11] (M - 1) (fun g i wr => ∃ s : Nat, i = .int .i64 s ∧ 1 ≤ s ∧ s ≤ M ∧ g = M - s ∧ RrS w3 M a (dpT d v0 kk s) wr)
      case atStart => exact ⟨1, rfl, by omega, M1, rfl, HS0.out⟩
      case round =>
        obtain ⟨s, rfl, s1, hs, hg, hst⟩ := hrel
        have HG := Lib.hid hg
        have HST := Lib.hid hst
        clear hg hst HS0
        by_cases hlt : s < M
        · obtain ⟨b1, b2, b3⟩ := low_exM HM.out hlt s1
          have f2 := HST.out.2.frozen s
          have f3 := HST.out.2.lt
          have f1 := HST.out.2.cell (i := s) hlt
          go_upto_region 16 with (fail)
          clear f1 f2 f3
          have HS1 := Lib.hid (show RrS w3 M a (dpI d v0 kk s (low kk s + 1)) (wr.setCell ⟨a, s, none⟩ (.int .i64 1099511627776)) from by
            refine ⟨HST.out.1.setCell (by show w3.heap.size ≤ a; rw [HA.out]; exact Nat.le_refl _) _, (HST.out.2.set s _).congr (fun x _ => ?_)⟩
            rw [dpI_start d v0 kk s (Nat.le_refl _), HV0.out]
            unfold upd
            dsimp only
            by_cases e : x = s
            · simp only [if_pos e]
            · simp only [if_neg e])
          obtain ⟨W1, hW1⟩ : ∃ W1, W1 = wr.setCell ⟨a, s, none⟩ (.int .i64 1099511627776) := ⟨_, rfl⟩
          rw [← hW1] at HS1 ⊢
          clear hW1 HST
          go_wp2
          go_loopg [12] kk (fun g i wx => ∃ q : Nat, i = .int .i64 q ∧ q ≤ low kk s ∧ g = kk - q ∧ wx = W1)
          case atStart => exact ⟨0, rfl, by omega, by omega, rfl⟩
          case round =>
            obtain ⟨q, rfl, hq, hgq, hww⟩ := hrel
            subst hww
            obtain ⟨y, y1, y2, y3⟩ := shr_ex s q (by omega)
            by_cases hql : q < low kk s
            · have y4 := y2 (b3 q hql)
              clear y2 y3
              go_wp2
              go_roundg (kk - (q + 1))
              case measure => omega
              case rel => exact ⟨q + 1, by go_num, by omega, rfl, rfl⟩
            · obtain rfl : q = low kk s := by omega
              have y4 := y3 b1
              have HB1 := Lib.hid b1
              clear b1 b3 y2 y3
              obtain ⟨q, hq'⟩ : ∃ q, q = low kk s := ⟨_, rfl⟩
              rw [← hq'] at HB1 b2 y1 hq hql hgq HS1 ⊢
              have HQ := Lib.hid hq'
              clear hq' hq hql hgq
              go_upto_region 19 with (fail)
              clear y1 y4
              go_wp2
              go_loopg [13] (kk - (q + 1)) (fun g z wx => ∃ j : Nat, z = .int .i64 j ∧ q + 1 ≤ j ∧ j ≤ kk ∧ g = kk - j ∧ RrS w3 M a (dpI d v0 kk s j) wx)
              case atStart => exact ⟨q + 1, by go_num, Nat.le_refl _, by omega, rfl, HS1.out⟩
              case round =>
                obtain ⟨j, rfl, hj1, hj, hgj, hst⟩ := hrel
                have HGJ := Lib.hid hgj
                have HST := Lib.hid hst
                clear hgj hst HS1
                by_cases hlj : j < kk
                · obtain ⟨y, y1, y2, y3⟩ := shr_ex s j (by omega)
                  cases hbj : s.testBit j
                  · have y4 := y2 hbj
                    have HN := Lib.hid (dpI_skip (d := d) (v := v0) (k := kk) hbj)
                    clear y2 y3 hbj
                    go_wp2
                    go_roundg (kk - (j + 1))
                    case measure => have := HGJ.out; omega
                    case rel => exact ⟨j + 1, by go_num, by omega, by omega, rfl, by rw [HN.out]; exact HST.out⟩
                  · have y4 := y3 hbj
                    have HBJ := Lib.hid hbj
                    clear y2 y3 hbj
                    go_upto_region 23 with (fail)
                    clear y1 y4
                    obtain ⟨e1, e2, e3⟩ := wo_facts HB1.out (by omega) HBJ.out
                    obtain ⟨P0, HP0, -, r1, r2⟩ := pw_ex' q (by omega)
                    obtain ⟨P, HP, -, p1, p2⟩ := pw_ex' j (by omega)
                    have o1 := off_yes (n := s) (by omega) (by omega) HP0.out HB1.out
                    obtain ⟨u, hu⟩ : ∃ u, u = wo1 s q := ⟨_, rfl⟩
                    rw [← hu] at e1 e2 e3 o1
                    have o2 := off_yes (n := u) (by omega) (by omega) HP.out e1
                    obtain ⟨m, hm⟩ : ∃ m, m = wo1 u j := ⟨_, rfl⟩
                    rw [← hm] at e3 o2
                    have HU := Lib.hid (show m = wo1 (wo1 s q) j from by rw [hm, hu])
                    clear hu hm e1
                    have hmM : m < M := by omega
                    have HMN := Lib.hid (show m ≠ s from by omega)
                    obtain ⟨T, hT⟩ : ∃ T, T = (dpI d v0 kk s j m).1 := ⟨_, rfl⟩
                    obtain ⟨c, hc⟩ : ∃ c, c = (dpI d v0 kk s j s).1 := ⟨_, rfl⟩
                    have hT2 : 0 ≤ T ∧ T ≤ 1099511627776 := by
                      have h := dpI_bd (d := d) (v := v0) (k := kk) HDD.out (by rw [HV0.out]; decide) s j m
                      rw [← hT, HV0.out] at h
                      exact h
                    rcases HI3.out with hf | ⟨b0, off, rfl, hblt, hcl⟩
                    · have := HKK.out; rw [hf] at this; simp at this; omega
                    have hqk : q < lo.length := by have := HKK.out; omega
                    have hjk : j < lo.length := by have := HKK.out; omega
                    have hcq := hcl q hqk
                    have hcj := hcl j hjk
                    have hx1 := HLR.out _ (List.getElem_mem hqk)
                    have hx2 := HLR.out _ (List.getElem_mem hjk)
                    have hj1' : jt lo q = (lo[q]).toNat := by unfold jt; rw [List.getD_eq_getElem?_getD, List.getElem?_eq_getElem hqk]; rfl
                    have hj2' : jt lo j = (lo[j]).toNat := by unfold jt; rw [List.getD_eq_getElem?_getD, List.getElem?_eq_getElem hjk]; rfl
                    obtain ⟨x, hx⟩ : ∃ x : Nat, (x : Int) = lo[q] := ⟨(lo[q]).toNat, by omega⟩
                    obtain ⟨y, hy⟩ : ∃ y : Nat, (y : Int) = lo[j] := ⟨(lo[j]).toNat, by omega⟩
                    rw [← hx] at hcq hx1 hj1'
                    rw [← hy] at hcj hx2 hj2'
                    rw [Int.toNat_natCast] at hj1' hj2'
                    have hxn : x < n := by omega
                    have hyn : y < n := by omega
                    have hrow := HWY4.out.out (i := x) hxn hxn
                    rw [← HGW.out] at hrow
                    obtain ⟨hrb, hro⟩ := HWY4.out.2.2.2.1 x hxn
                    have hrc := hro.cell (i := y) hyn
                    have hgl : gw < w3.heap.size := by rw [HGW.out]; exact HWY4.out.2.2.1.lt
                    obtain ⟨z, hz⟩ : ∃ z, z = (tbl n l).L x y := ⟨_, rfl⟩
                    rw [← hz] at hrc
                    have hz2 : 0 ≤ z ∧ z ≤ 1099511627776 := by rw [hz]; exact (tbl_snd HOK.out.2.2.2).rng x y
                    have hwr : IntKind.i64.wrap (T + z) = T + z := by rw [IntKind.wrap_i64]; omega
                    have HZ := Lib.hid (show d q j = z from by rw [HD.out, hz]; show (tbl n l).L (jt lo q) (jt lo j) = _; rw [hj1', hj2'])
                    have HTT := Lib.hid hT
                    have HCC := Lib.hid hc
                    have HF23 := Lib.hid (fun (W : World) (hS : RrS w3 M a (dpI d v0 kk s j) W) => (show W.cell? ⟨a, s, none⟩ = some (.int .i64 c) ∧ W.cell? ⟨a, m, none⟩ = some (.int .i64 T) ∧ W.cell? ⟨b0, off + q, none⟩ = some (.int .i64 (x : Int)) ∧ W.cell? ⟨b0, off + j, none⟩ = some (.int .i64 (y : Int)) ∧ W.cell? ⟨gw, x, none⟩ = some (.slice (some ⟨B x, 0, none⟩) n n) ∧ W.cell? ⟨B x, y, none⟩ = some (.int .i64 z) from
                      ⟨by rw [HCC.out]; exact hS.2.cell hlt, by rw [HTT.out]; exact hS.2.cell hmM, (hS.1.cell (p := ⟨b0, _, none⟩) hblt).trans hcq, (hS.1.cell (p := ⟨b0, _, none⟩) hblt).trans hcj, (hS.1.cell (p := ⟨gw, _, none⟩) hgl).trans hrow, (hS.1.cell (p := ⟨B x, _, none⟩) hro.lt).trans hrc⟩))
                    have HG23 := Lib.hid (fun (W : World) (hS : RrS w3 M a (dpI d v0 kk s j) W) => (show W.frozen? ⟨a, s, none⟩ = false ∧ a < W.heap.size from ⟨hS.2.frozen s, hS.2.lt⟩))
                    have HW23 := Lib.hid (HST.out.ext (ext_drew wr))
                    clear hcl hx1 hx2 hx hy hj1' hj2' hT hc hz hcq hcj hrow hrb hro hrc hgl hblt
                    refine wp_region_T (S := fun W => RrS w3 M a (dpI d v0 kk s j) W) 32 (by kernel_rfl) (HW23.out) (fun hHeld => ?_)
                    refine wpAnyT_take (i := 0) (v := ?v1) [] rfl (by kernel_rfl) (fun _ _ _ h => h) (Or.inl ⟨by rfl, ?hy1⟩) hHeld ?rst1
                    case hy1 => (intro wx hSw; obtain ⟨g1, g2, g3, g4, g5, g6⟩ := HF23.out wx hSw; go_simp; try (with_reducible rfl))
                    try simp only [List.getElem_toArray, List.getElem_cons_zero, Act.put, List.setIfInBounds_toArray, List.set_cons_zero, List.set_cons_succ]
                    refine wpAnyT_take (i := 1) (v := ?v2) [] rfl (by kernel_rfl) (fun _ _ _ h => h) (Or.inl ⟨by rfl, ?hy2⟩) hHeld ?rst2
                    case hy2 => (intro wx hSw; obtain ⟨g1, g2, g3, g4, g5, g6⟩ := HF23.out wx hSw; go_simp; try (with_reducible rfl))
                    try simp only [List.getElem_toArray, List.getElem_cons_zero, List.getElem_cons_succ, Act.put, List.setIfInBounds_toArray, List.set_cons_zero, List.set_cons_succ]
                    refine wpAnyT_take (i := 2) (v := ?v3) [] rfl (by kernel_rfl) (fun _ _ _ h => h) (Or.inl ⟨by rfl, ?hy3⟩) hHeld ?rst3
                    case hy3 => (intro wx hSw; obtain ⟨g1, g2, g3, g4, g5, g6⟩ := HF23.out wx hSw; go_simp; try (with_reducible rfl))
                    try simp only [List.getElem_toArray, List.getElem_cons_zero, List.getElem_cons_succ, Act.put, List.setIfInBounds_toArray, List.set_cons_zero, List.set_cons_succ]
                    refine wpAnyT_take (i := 3) (v := ?v4) [] rfl (by kernel_rfl) (fun _ _ _ h => h) (Or.inl ⟨by rfl, ?hy4⟩) hHeld ?rst4
                    case hy4 => (intro wx hSw; obtain ⟨g1, g2, g3, g4, g5, g6⟩ := HF23.out wx hSw; go_simp; try (with_reducible rfl))
                    try simp only [List.getElem_toArray, List.getElem_cons_zero, List.getElem_cons_succ, Act.put, List.setIfInBounds_toArray, List.set_cons_zero, List.set_cons_succ]
                    refine wpAnyT_take (i := 4) (v := ?v5) [] rfl (by kernel_rfl) (fun _ _ _ h => h) (Or.inl ⟨by rfl, ?hy5⟩) hHeld ?rst5
                    case hy5 => (intro wx hSw; obtain ⟨g1, g2, g3, g4, g5, g6⟩ := HF23.out wx hSw; go_simp; try (with_reducible rfl))
                    try simp only [List.getElem_toArray, List.getElem_cons_zero, List.getElem_cons_succ, Act.put, List.setIfInBounds_toArray, List.set_cons_zero, List.set_cons_succ]
                    refine wpAnyT_take (i := 5) (v := ?v6) [] rfl (by kernel_rfl) (fun _ _ _ h => h) (Or.inl ⟨by rfl, ?hy6⟩) hHeld ?rst6
                    case hy6 => (intro wx hSw; obtain ⟨g1, g2, g3, g4, g5, g6⟩ := HF23.out wx hSw; go_simp; try (with_reducible rfl))
                    try simp only [List.getElem_toArray, List.getElem_cons_zero, List.getElem_cons_succ, Act.put, List.setIfInBounds_toArray, List.set_cons_zero, List.set_cons_succ]
                    refine wpAnyT_take (i := 6) (v := ?v7) [] rfl (by kernel_rfl) (fun _ _ _ h => h) (Or.inl ⟨by rfl, ?hy7⟩) hHeld ?rst7
                    case hy7 => (intro wx hSw; obtain ⟨g1, g2, g3, g4, g5, g6⟩ := HF23.out wx hSw; go_simp; try (with_reducible rfl))
                    try simp only [List.getElem_toArray, List.getElem_cons_zero, List.getElem_cons_succ, Act.put, List.setIfInBounds_toArray, List.set_cons_zero, List.set_cons_succ]
                    refine wpAnyT_take (i := 7) (v := ?v8) [] rfl (by kernel_rfl) (fun _ _ _ h => h) (Or.inl ⟨by rfl, ?hy8⟩) hHeld ?rst8
                    case hy8 => (intro wx hSw; obtain ⟨g1, g2, g3, g4, g5, g6⟩ := HF23.out wx hSw; go_simp; try (with_reducible rfl))
                    try simp only [List.getElem_toArray, List.getElem_cons_zero, List.getElem_cons_succ, Act.put, List.setIfInBounds_toArray, List.set_cons_zero, List.set_cons_succ]
                    refine wpAnyT_take (i := 8) (v := ?v9) [] rfl (by kernel_rfl) (fun _ _ _ h => h) (Or.inl ⟨by rfl, ?hy9⟩) hHeld ?rst9
                    case hy9 => (intro wx hSw; obtain ⟨g1, g2, g3, g4, g5, g6⟩ := HF23.out wx hSw; go_simp; try (with_reducible rfl))
                    try simp only [List.getElem_toArray, List.getElem_cons_zero, List.getElem_cons_succ, Act.put, List.setIfInBounds_toArray, List.set_cons_zero, List.set_cons_succ]
                    refine wpAnyT_take (i := 9) (v := ?v10) [] rfl (by kernel_rfl) (fun _ _ _ h => h) (Or.inl ⟨by rfl, ?hy10⟩) hHeld ?rst10
                    case hy10 => (intro wx hSw; obtain ⟨g1, g2, g3, g4, g5, g6⟩ := HF23.out wx hSw; go_simp; try (with_reducible rfl))
                    try simp only [List.getElem_toArray, List.getElem_cons_zero, List.getElem_cons_succ, Act.put, List.setIfInBounds_toArray, List.set_cons_zero, List.set_cons_succ]
                    refine wpAnyT_take (i := 10) (v := ?v11) [] rfl (by kernel_rfl) (fun _ _ _ h => h) (Or.inl ⟨by rfl, ?hy11⟩) hHeld ?rst11
                    case hy11 => (intro wx hSw; obtain ⟨g1, g2, g3, g4, g5, g6⟩ := HF23.out wx hSw; go_simp; try (with_reducible rfl))
                    try simp only [List.getElem_toArray, List.getElem_cons_zero, List.getElem_cons_succ, Act.put, List.setIfInBounds_toArray, List.set_cons_zero, List.set_cons_succ]
                    refine wpAnyT_take (i := 11) (v := ?v12) [] rfl (by kernel_rfl) (fun _ _ _ h => h) (Or.inl ⟨by rfl, ?hy12⟩) hHeld ?rst12
                    case hy12 => (intro wx hSw; obtain ⟨g1, g2, g3, g4, g5, g6⟩ := HF23.out wx hSw; go_simp; try (with_reducible rfl))
                    try simp only [List.getElem_toArray, List.getElem_cons_zero, List.getElem_cons_succ, Act.put, List.setIfInBounds_toArray, List.set_cons_zero, List.set_cons_succ]
                    refine wpAnyT_take (i := 12) (v := ?v13) [] rfl (by kernel_rfl) (fun _ _ _ h => h) (Or.inl ⟨by rfl, ?hy13⟩) hHeld ?rst13
                    case hy13 => (intro wx hSw; obtain ⟨g1, g2, g3, g4, g5, g6⟩ := HF23.out wx hSw; go_simp; try (with_reducible rfl))
                    try simp only [List.getElem_toArray, List.getElem_cons_zero, List.getElem_cons_succ, Act.put, List.setIfInBounds_toArray, List.set_cons_zero, List.set_cons_succ]
                    refine wpAnyT_take (i := 13) (v := ?v14) [] rfl (by kernel_rfl) (fun _ _ _ h => h) (Or.inl ⟨by rfl, ?hy14⟩) hHeld ?rst14
                    case hy14 => (intro wx hSw; obtain ⟨g1, g2, g3, g4, g5, g6⟩ := HF23.out wx hSw; go_simp; try (with_reducible rfl))
                    try simp only [List.getElem_toArray, List.getElem_cons_zero, List.getElem_cons_succ, Act.put, List.setIfInBounds_toArray, List.set_cons_zero, List.set_cons_succ]
                    refine wpAnyT_take (i := 14) (v := ?v15) [] rfl (by kernel_rfl) (fun _ _ _ h => h) (Or.inl ⟨by rfl, ?hy15⟩) hHeld ?rst15
                    case hy15 => (intro wx hSw; obtain ⟨g1, g2, g3, g4, g5, g6⟩ := HF23.out wx hSw; go_simp; try (with_reducible rfl))
                    try simp only [List.getElem_toArray, List.getElem_cons_zero, List.getElem_cons_succ, Act.put, List.setIfInBounds_toArray, List.set_cons_zero, List.set_cons_succ]
                    refine wpAnyT_take (i := 15) (v := ?v16) [] rfl (by kernel_rfl) (fun _ _ _ h => h) (Or.inl ⟨by rfl, ?hy16⟩) hHeld ?rst16
                    case hy16 => (intro wx hSw; obtain ⟨g1, g2, g3, g4, g5, g6⟩ := HF23.out wx hSw; go_simp; try (with_reducible rfl))
                    try simp only [List.getElem_toArray, List.getElem_cons_zero, List.getElem_cons_succ, Act.put, List.setIfInBounds_toArray, List.set_cons_zero, List.set_cons_succ]
                    refine wpAnyT_take (i := 16) (v := ?v17) [] rfl (by kernel_rfl) (fun _ _ _ h => h) (Or.inl ⟨by rfl, ?hy17⟩) hHeld ?rst17
                    case hy17 => (intro wx hSw; obtain ⟨g1, g2, g3, g4, g5, g6⟩ := HF23.out wx hSw; go_simp; try (with_reducible rfl))
                    try simp only [List.getElem_toArray, List.getElem_cons_zero, List.getElem_cons_succ, Act.put, List.setIfInBounds_toArray, List.set_cons_zero, List.set_cons_succ]
                    refine wpAnyT_take (i := 17) (v := ?v18) [] rfl (by kernel_rfl) (fun _ _ _ h => h) (Or.inl ⟨by rfl, ?hy18⟩) hHeld ?rst18
                    case hy18 => (intro wx hSw; obtain ⟨g1, g2, g3, g4, g5, g6⟩ := HF23.out wx hSw; go_simp; try (with_reducible rfl))
                    try simp only [List.getElem_toArray, List.getElem_cons_zero, List.getElem_cons_succ, Act.put, List.setIfInBounds_toArray, List.set_cons_zero, List.set_cons_succ]
                    refine wpAnyT_take (i := 18) (v := ?v19) [] rfl (by kernel_rfl) (fun _ _ _ h => h) (Or.inl ⟨by rfl, ?hy19⟩) hHeld ?rst19
                    case hy19 => (intro wx hSw; obtain ⟨g1, g2, g3, g4, g5, g6⟩ := HF23.out wx hSw; go_simp; try (with_reducible rfl))
                    try simp only [List.getElem_toArray, List.getElem_cons_zero, List.getElem_cons_succ, Act.put, List.setIfInBounds_toArray, List.set_cons_zero, List.set_cons_succ]
                    refine wpAnyT_take (i := 19) (v := ?v20) [] rfl (by kernel_rfl) (fun _ _ _ h => h) (Or.inl ⟨by rfl, ?hy20⟩) hHeld ?rst20
                    case hy20 => (intro wx hSw; obtain ⟨g1, g2, g3, g4, g5, g6⟩ := HF23.out wx hSw; go_simp; try (with_reducible rfl))
                    try simp only [List.getElem_toArray, List.getElem_cons_zero, List.getElem_cons_succ, Act.put, List.setIfInBounds_toArray, List.set_cons_zero, List.set_cons_succ]
                    refine wpAnyT_take (i := 20) (v := ?v21) [] rfl (by kernel_rfl) (fun _ _ _ h => h) (Or.inl ⟨by rfl, ?hy21⟩) hHeld ?rst21
                    case hy21 => (intro wx hSw; obtain ⟨g1, g2, g3, g4, g5, g6⟩ := HF23.out wx hSw; go_simp; try (with_reducible rfl))
                    try simp only [List.getElem_toArray, List.getElem_cons_zero, List.getElem_cons_succ, Act.put, List.setIfInBounds_toArray, List.set_cons_zero, List.set_cons_succ]
                    refine wpAnyT_take (i := 21) (v := ?v22) [] rfl (by kernel_rfl) (fun _ _ _ h => h) (Or.inl ⟨by rfl, ?hy22⟩) hHeld ?rst22
                    case hy22 => (intro wx hSw; obtain ⟨g1, g2, g3, g4, g5, g6⟩ := HF23.out wx hSw; go_simp; try (with_reducible rfl))
                    try simp only [List.getElem_toArray, List.getElem_cons_zero, List.getElem_cons_succ, Act.put, List.setIfInBounds_toArray, List.set_cons_zero, List.set_cons_succ]
                    refine wpAnyT_take (i := 22) (v := ?v23) [] rfl (by kernel_rfl) (fun _ _ _ h => h) (Or.inl ⟨by rfl, ?hy23⟩) hHeld ?rst23
                    case hy23 => (intro wx hSw; obtain ⟨g1, g2, g3, g4, g5, g6⟩ := HF23.out wx hSw; go_simp; try (with_reducible rfl))
                    try simp only [List.getElem_toArray, List.getElem_cons_zero, List.getElem_cons_succ, Act.put, List.setIfInBounds_toArray, List.set_cons_zero, List.set_cons_succ]
                    refine wpAnyT_take (i := 23) (v := ?v24) [] rfl (by kernel_rfl) (fun _ _ _ h => h) (Or.inl ⟨by rfl, ?hy24⟩) hHeld ?rst24
                    case hy24 => (intro wx hSw; obtain ⟨g1, g2, g3, g4, g5, g6⟩ := HF23.out wx hSw; go_simp; try (with_reducible rfl))
                    try simp only [List.getElem_toArray, List.getElem_cons_zero, List.getElem_cons_succ, Act.put, List.setIfInBounds_toArray, List.set_cons_zero, List.set_cons_succ]
                    refine wpAnyT_take (i := 24) (v := ?v25) [] rfl (by kernel_rfl) (fun _ _ _ h => h) (Or.inl ⟨by rfl, ?hy25⟩) hHeld ?rst25
                    case hy25 => (intro wx hSw; obtain ⟨g1, g2, g3, g4, g5, g6⟩ := HF23.out wx hSw; go_simp; try (with_reducible rfl))
                    try simp only [List.getElem_toArray, List.getElem_cons_zero, List.getElem_cons_succ, Act.put, List.setIfInBounds_toArray, List.set_cons_zero, List.set_cons_succ]
                    refine wpAnyT_take (i := 25) (v := ?v26) [] rfl (by kernel_rfl) (fun _ _ _ h => h) (Or.inl ⟨by rfl, ?hy26⟩) hHeld ?rst26
                    case hy26 => (intro wx hSw; obtain ⟨g1, g2, g3, g4, g5, g6⟩ := HF23.out wx hSw; go_simp; try (with_reducible rfl))
                    try simp only [List.getElem_toArray, List.getElem_cons_zero, List.getElem_cons_succ, Act.put, List.setIfInBounds_toArray, List.set_cons_zero, List.set_cons_succ]
                    refine wpAnyT_take (i := 26) (v := ?v27) [] rfl (by kernel_rfl) (fun _ _ _ h => h) (Or.inl ⟨by rfl, ?hy27⟩) hHeld ?rst27
                    case hy27 => (intro wx hSw; obtain ⟨g1, g2, g3, g4, g5, g6⟩ := HF23.out wx hSw; go_simp; try (with_reducible rfl))
                    try simp only [List.getElem_toArray, List.getElem_cons_zero, List.getElem_cons_succ, Act.put, List.setIfInBounds_toArray, List.set_cons_zero, List.set_cons_succ]
                    refine wpAnyT_take (i := 27) (v := ?v28) [] rfl (by kernel_rfl) (fun _ _ _ h => h) (Or.inl ⟨by rfl, ?hy28⟩) hHeld ?rst28
                    case hy28 => (intro wx hSw; obtain ⟨g1, g2, g3, g4, g5, g6⟩ := HF23.out wx hSw; go_simp; try (with_reducible rfl))
                    try simp only [List.getElem_toArray, List.getElem_cons_zero, List.getElem_cons_succ, Act.put, List.setIfInBounds_toArray, List.set_cons_zero, List.set_cons_succ]
                    refine wpAnyT_take (i := 28) (v := ?v29) [] rfl (by kernel_rfl) (fun _ _ _ h => h) (Or.inl ⟨by rfl, ?hy29⟩) hHeld ?rst29
                    case hy29 => (intro wx hSw; obtain ⟨g1, g2, g3, g4, g5, g6⟩ := HF23.out wx hSw; go_simp; try (with_reducible rfl))
                    try simp only [List.getElem_toArray, List.getElem_cons_zero, List.getElem_cons_succ, Act.put, List.setIfInBounds_toArray, List.set_cons_zero, List.set_cons_succ]
                    refine wpAnyT_take (i := 29) (v := ?v30) [] rfl (by kernel_rfl) (fun _ _ _ h => h) (Or.inl ⟨by rfl, ?hy30⟩) hHeld ?rst30
                    case hy30 => (intro wx hSw; obtain ⟨g1, g2, g3, g4, g5, g6⟩ := HF23.out wx hSw; go_simp; try (with_reducible rfl))
                    try simp only [List.getElem_toArray, List.getElem_cons_zero, List.getElem_cons_succ, Act.put, List.setIfInBounds_toArray, List.set_cons_zero, List.set_cons_succ]
                    refine wpAnyT_take (i := 30) (v := ?v31) [] rfl (by kernel_rfl) (fun _ _ _ h => h) (Or.inl ⟨by rfl, ?hy31⟩) hHeld ?rst31
                    case hy31 => (intro wx hSw; obtain ⟨g1, g2, g3, g4, g5, g6⟩ := HF23.out wx hSw; go_simp; try (with_reducible rfl))
                    try simp only [List.getElem_toArray, List.getElem_cons_zero, List.getElem_cons_succ, Act.put, List.setIfInBounds_toArray, List.set_cons_zero, List.set_cons_succ]
                    refine wpAnyT_take (i := 31) (v := ?v32) [] rfl (by kernel_rfl) (fun _ _ _ h => h) (Or.inl ⟨by rfl, ?hy32⟩) hHeld ?rst32
                    case hy32 => (intro wx hSw; obtain ⟨g1, g2, g3, g4, g5, g6⟩ := HF23.out wx hSw; go_simp; try (with_reducible rfl))
                    try simp only [List.getElem_toArray, List.getElem_cons_zero, List.getElem_cons_succ, Act.put, List.setIfInBounds_toArray, List.set_cons_zero, List.set_cons_succ]
                    refine wpAnyT_last (by kernel_rfl) (by kernel_rfl) rfl (fun K hK => ?_)
                    obtain ⟨k1, k2⟩ := HG23.out _ hHeld; obtain ⟨g1, g2, g3, g4, g5, g6⟩ := HF23.out _ hHeld; go_simp
                    refine hK.out _ _ ?_
                    clear hK K
                    all_goals
                      have HMI := Lib.hid (fun x => dpI_min (d := d) (v := v0) (k := kk) (n := s) (j := j) (by rw [← HQ.out]; omega) HBJ.out (by rw [← HQ.out]; exact HU.out) HMN.out x)
                      clear hHeld
                      go_wp2
                    all_goals
                      go_roundg (kk - (j + 1))
                      case measure => have := HGJ.out; omega
                      case rel =>
                        refine ⟨j + 1, by go_num, by omega, by omega, rfl, HW23.out.1.setCell (by show w3.heap.size ≤ a; rw [HA.out]; exact Nat.le_refl _) _, (HW23.out.2.set s _).congr (fun x _ => ?_)⟩
                        rw [HMI.out x, ← HQ.out, HZ.out, ← HTT.out, ← HCC.out]
                        unfold upd
                        dsimp only
                        by_cases e : x = s
                        · simp only [if_pos e]; omega
                        · simp only [if_neg e]
                · obtain rfl : j = kk := by omega
                  have HN := Lib.hid (dpI_end d v0 j (n := s) s1)
                  go_wp2
                  go_roundg (M - (s + 1))
                  case measure => have := HG.out; omega
                  case rel => exact ⟨s + 1, by go_num, by omega, by omega, rfl, by rw [← HN.out]; exact HST.out⟩
        · obtain rfl : s = M := by omega
          obtain ⟨t, rfl⟩ : ∃ t, s = t + 1 := ⟨s - 1, by omega⟩
          have hbw : Below w.heap.size w wr := bext B4.out HST.out.1 B4.out.size
          have HBW := Lib.hid hbw
          have HGR := Lib.hid (G4.out.ext HST.out.1)
          have HSW := Lib.hid (H.out.ext hbw)
          obtain ⟨v, hv⟩ : ∃ v, v = (dpT d v0 kk (t + 1) t).1 := ⟨_, rfl⟩
          have hdb : 0 ≤ v ∧ v ≤ 1099511627776 := by
            have h := dpT_bd (d := d) (v := v0) (k := kk) HDD.out (by rw [HV0.out]; decide) (t + 1) t
            rw [← hv, HV0.out] at h
            exact h
          have hsb := sumN_bd (l := l) (fun s hs => HOK.out.2.2.2 s hs) l.length
          have hMt : t = 2 ^ kk - 1 := by have := HM.out; omega
          have hvv : v = (dpv (fun i j => (tbl n l).L (jt (oddN allS l 16) i) (jt (oddN allS l 16) j)) 17592186044416 (oddN allS l 16).length (2 ^ (oddN allS l 16).length - 1)).1 := by
            have e1 : dpT d v0 kk (t + 1) t = dpv d v0 kk t := dpT_old d v0 kk (t + 1) t (by omega)
            have e2 := dpv_same (d := d) (D := 655360000) (v := v0) (v' := 17592186044416) (k := kk) (fun i j hi hj => ⟨HDD.out i j, by
              rw [HD.out]
              exact tbl_bq HOK.out.2.2.2 hn16 (HLC.out i j (by rw [← HKK.out]; exact hi) (by rw [← HKK.out]; exact hj))⟩) (by rw [HV0.out]; omega) (by omega) (by decide) t t (Nat.le_refl _) (by have := HM.out; omega) (by rw [hMt, cntB_full kk kk (Nat.le_refl _), HKK.out]; exact HLE.out)
            rw [hv, e1, e2, hMt, HD.out, HKK.out, HLO.out]
          have HVV := Lib.hid hvv
          have q9 := HST.out.2.cell (i := t) (by omega)
          rw [← hv] at q9
          have ht3 : (0 : Int) ≤ (t : Int) := by omega
          have ht4 : (t : Int) < (t : Int) + 1 := by omega
          have ht6 : (t : Int) < ((t + 1 : Nat) : Int) := by omega
          have ht5 : IntKind.i64.wrap (t : Int) = (t : Int) := i64_wrapN t (by omega)
          have ht7 : IntKind.i64.wrap (((t + 1 : Nat) : Int) - 1) = (t : Int) := by rw [show (((t + 1 : Nat) : Int) - 1) = (t : Int) by omega]; exact ht5
          have ht8 : IntKind.i64.wrap ((t : Int) + 1 - 1) = (t : Int) := by rw [show ((t : Int) + 1 - 1) = (t : Int) by omega]; exact ht5
          have hww : IntKind.i64.wrap (sumN l l.length + v) = sumN l l.length + v := by rw [IntKind.wrap_i64]; omega
          clear hv
          obtain ⟨f1, f2, f3⟩ := HGR.out.facts
          have g0 : wr.cell? ⟨w.heap.size, 0, none⟩ = some (.int .i64 (n : Int)) := f1 0
          have g1 : wr.cell? ⟨w.heap.size, 1, none⟩ = some (.slice A l.length cap) := f1 1
          have g4 := HST.out.2.lt
          have HK := Lib.hid (fun (W W' : World) (h1 : Below W.heap.size W W') (h2 : Below wr.heap.size wr W) =>
            have h3 := bext h2 h1 h2.size
            (show Below wr.heap.size wr W' ∧ W'.cell? ⟨w.heap.size, 0, none⟩ = some (.int .i64 (n : Int)) ∧ W'.cell? ⟨w.heap.size, 1, none⟩ = some (.slice A l.length cap) ∧ W'.cell? ⟨a, t, none⟩ = some (.int .i64 v) from
              ⟨h3, (h3.cell (p := ⟨w.heap.size, 0, none⟩) f3).trans g0, (h3.cell (p := ⟨w.heap.size, 1, none⟩) f3).trans g1, (h3.cell (p := ⟨a, t, none⟩) g4).trans q9⟩))
          clear hvv HST HG f1 f2 hbw hMt
          go_upto_region 24 with (fail)
          go_region_held3 (fun wx => Below wr.heap.size wr wx ∧ wx.cell? ⟨w.heap.size, 0, none⟩ = some (.int .i64 (n : Int)) ∧ wx.cell? ⟨w.heap.size, 1, none⟩ = some (.slice A l.length cap) ∧ wx.cell? ⟨a, t, none⟩ = some (.int .i64 v))
            (first | exact HK.out _ _ (by assumption) (And.left (by assumption)) | exact HK.out _ _ (ext_drew _) (Below.refl _ _))
            (first
              | (go_at_call 39; refine (HT.out _ ?_).mono ?_; exact HSW.out.ext (And.left (by assumption)); rintro e w5 ⟨rfl, hx5⟩))
          all_goals
            go_wp2
            go_ret2
            exact ⟨by rw [HVV.out]; rfl, bext HBW.out (And.left (by assumption)) HBW.out.size⟩
end Go.Proofs.Ytbhjhajnhpohlaa
