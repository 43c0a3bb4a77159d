/- The reference's odd and Odd walked. Conditions: the slice reads as a list of seams. -/
import Derived.Test.YtbhjhajnhpohlaaOe
namespace Go.Proofs.Ytbhjhajnhpohlaa
open Go.RowKit

/-- the seams of a thread (-1: all) -/
def chR (t : Int) (s : Sm) : Bool := decide (t < 0 ∨ s.t = t)

set_option maxRecDepth 100000 in
set_option maxHeartbeats 4000000 in
theorem rodd_any (n : Nat) (A : Option Addr) (cap : Nat) (l : List Sm) (t : Int) (w : World) (hok : GOk n l) (_hc : l.length ≤ cap) (_hcm : cap ≤ 9223372036854775807) (h : SSl w A l) :
    Calls Try.prog 60 #[.agg #[.int .i64 (n : Int), .slice A l.length cap], .int .i64 t] w fun e w' => ∃ v, e = .returned v ∧ Vi w.heap.size w' v (oddN (chR t) l n) ∧ Below w.heap.size w w' := by
  have H := Lib.hid h
  have HOK := Lib.hid hok
  have HB0 := Lib.hid (Bk.new 24 w #[.int .i64 (n : Int), .slice A l.length cap])
  have l64 := hok.2.2.1
  have n1 : 1 ≤ n := by have := hok.1; omega
  have n2 : n ≤ 16 := by have := hok.2.1; omega
  clear h hok
  go_enter Try.func60, Try.ntmps60
  go_wp2
  go_loopg [12, 5] n (fun g i v wr => ∃ k : Nat, i = .int .i64 k ∧ k ≤ n ∧ g = n - k ∧ Vi w.heap.size wr v (oddN (chR t) l k) ∧ Below w.heap.size w wr ∧ Bk 24 wr w.heap.size #[.int .i64 (n : Int), .slice A l.length cap])
  case atStart => exact ⟨0, rfl, by omega, rfl, Vi.nil _ _, ext_alloc _ _, HB0.out⟩
  case round =>
    obtain ⟨k, rfl, hk, hg, hv, hb, hbk⟩ := hrel
    have HG := Lib.hid hg
    have HV := Lib.hid hv
    have HB := Lib.hid hb
    have HBK := Lib.hid hbk
    obtain ⟨f1, f2, f3⟩ := hbk.facts
    clear hg hv hb hbk HB0
    by_cases hlt : k < n
    · obtain ⟨wo, rfl⟩ : ∃ wo : World, wo = wr := ⟨_, rfl⟩
      go_wp2
      go_loopg [18, 7] l.length (fun g i z wr => ∃ q : Nat, i = .int .i64 q ∧ z = .int .i64 (deg (chR t) (l.take q) k) ∧ q ≤ l.length ∧ g = l.length - q ∧ Below wo.heap.size wo wr)
      case atStart => exact ⟨0, rfl, rfl, by omega, by omega, Below.refl _ _⟩
      case round =>
        obtain ⟨q, rfl, rfl, hq, hg, hb2⟩ := hrel
        have HG2 := Lib.hid hg
        have HB2 := Lib.hid hb2
        clear hg
        by_cases hql : q < l.length
        · have hf := H.out.ext (bext HB.out hb2 HB.out.size)
          rcases hf with hf | ⟨b, off, rfl, hblt, hcl⟩
          · rw [hf] at hql; simp at hql
          · obtain ⟨c1, c2, c3, c4⟩ := hcl q hql
            have hd := deg_take (chR t) hql k
            have hso := HOK.out.2.2.2 _ (List.getElem_mem hql)
            obtain ⟨s, hs⟩ : ∃ s, s = l[q] := ⟨_, rfl⟩
            rw [← hs] at c1 c2 c3 c4 hd hso
            clear hs hcl
            obtain ⟨a, b', m, t'⟩ := s
            dsimp only at c1 c2 c3 c4
            have r1 := deg_range (chR t) (l.take q) k
            have r2 : (l.take q).length ≤ 64 := by rw [List.length_take]; omega
            have HD := Lib.hid hd
            clear hd hso
            generalize deg (chR t) (l.take q) k = x at *
            go_wp2
            all_goals
              go_roundg (l.length - (q + 1))
              case measure => have := HG2.out; omega
              case rel =>
                refine ⟨q + 1, by go_num, ?_, by omega, rfl, HB2.out.alloc HB2.out.size _⟩
                rw [HD.out]
                unfold chR inc
                dsimp only
                simp only [decide_eq_true_eq]
                simp only [bne_iff_ne, ne_eq, beq_iff_eq, bne_eq_false_iff_eq, beq_eq_false_iff_ne] at *
                (repeat' split) <;> first | (exfalso; omega) | (congr 1; omega) | rfl
        · obtain rfl : q = l.length := by omega
          rw [List.take_length]
          have r1 := deg_range (chR t) l k
          have hlen := oddN_len (chR t) l k
          have hbw := bext HB.out hb2 HB.out.size
          have HV2 := Lib.hid (HV.out.ext hb2)
          have HBK2 := Lib.hid (HBK.out.ext hb2)
          by_cases ho : deg (chR t) l k % 2 = 1
          · have HN := Lib.hid (show oddN (chR t) l (k + 1) = oddN (chR t) l k ++ [(k : Int)] from by
              show (if deg (chR t) l k % 2 = 1 then _ else _) = _
              rw [if_pos ho])
            generalize deg (chR t) l k = x at *
            go_wp2_with (at_builtin; refine wpList_pushI _ rfl _ _ rfl w.heap.size HV2.out (by rfl) (by rfl) rfl (by omega) hbw.size ?_; intro v5 w5 hv5 hb5 hk5; have hk6 := (hk5 _ HBK2.out.lt (HV2.out.ne HBK2.out (by decide))).trans HBK2.out)
            go_roundg (n - (k + 1))
            case measure => have := HG.out; omega
            case rel => exact ⟨k + 1, by go_num, by omega, rfl, by rw [HN.out]; exact hv5, hbw.trans hb5, hk6⟩
          · have ho2 : (deg (chR t) l k % 2 == 1) = false := by simpa using ho
            have HN := Lib.hid (show oddN (chR t) l (k + 1) = oddN (chR t) l k from by
              show (if deg (chR t) l k % 2 = 1 then _ else _) = _
              rw [if_neg ho])
            generalize deg (chR t) l k = x at *
            go_wp2
            go_roundg (n - (k + 1))
            case measure => have := HG.out; omega
            case rel => exact ⟨k + 1, by go_num, by omega, rfl, by rw [HN.out]; exact HV2.out, hbw, HBK2.out⟩
    · obtain rfl : k = n := by omega
      go_wp2
      go_ret
      exact ⟨_, rfl, HV.out, HB.out⟩

theorem chR_chT {t : Int} (h : 0 ≤ t) (s : Sm) : chR t s = chT t s := by
  unfold chR chT
  rw [Bool.eq_iff_iff, decide_eq_true_iff, decide_eq_true_iff]
  omega
set_option maxRecDepth 100000 in
set_option maxHeartbeats 4000000 in
theorem rOdd_any (N : Int) (A : Option Addr) (cap : Nat) (l : List Sm) (t : Int) (w : World) (hc : l.length ≤ cap) (hcm : cap ≤ 9223372036854775807) (h : SSl w A l) :
    Calls Try.prog 20 #[.agg #[.int .i64 N, .slice A l.length cap], .int .i64 t] w (RetOd w N l t) := by
  have HV := Lib.hid (fun W (h : SSl W A l) => rvalid_any N A cap l W hc hcm h)
  have H := Lib.hid h
  have HB1 := Lib.hid (Bk.new 24 w #[.int .i64 N, .slice A l.length cap])
  have HW := Lib.hid (fun W (hW : Below w.heap.size w W) => H.out.ext hW)
  clear h
  by_cases hok : GOk N l
  · have hv := vldG_yes hok
    rw [hv] at HV
    by_cases ht : 0 ≤ t ∧ t < 8
    · have HT := Lib.hid (show GOk N l ∧ 0 ≤ t ∧ t < 8 from ⟨hok, ht⟩)
      obtain ⟨n, hn⟩ := Int.eq_ofNat_of_zero_le (show 0 ≤ N by have := hok.1; omega)
      subst hn
      have HE := Lib.hid (show oddN (chR t) l n = oddN (chT t) l (n : Int).toNat from by rw [Int.toNat_natCast]; exact oddN_congr (fun s _ => chR_chT ht.1 s) n)
      have HOD := Lib.hid (fun W (h : SSl W A l) => rodd_any n A cap l t W hok hc hcm h)
      obtain ⟨t1, t2⟩ := ht
      clear hok hv
      go_enter Try.func20, Try.ntmps20
      go_wp2_with (first
        | (go_at_call 22; refine (HV.out _ (HW.out _ (ext_alloc _ _))).mono ?_; rintro e w1 ⟨rfl, hx1⟩; have B1 := ext_trans (ext_alloc w _) hx1; obtain ⟨f1, f2, f3⟩ := (HB1.out.ext hx1).facts)
        | (go_at_call 60; refine (HOD.out _ (HW.out _ B1)).mono ?_; rintro e w2 ⟨v2, rfl, hv2, hx2⟩; obtain ⟨A2, cap2, rfl, -, -, hi2⟩ := hv2.isl))
      go_ret2
      rw [HE.out] at hi2
      exact ⟨bext B1 hx2 B1.size, .inr ⟨HT.out, A2, cap2, by rw [HE.out]; rfl, hi2⟩⟩
    · have HT := Lib.hid (show ¬ (GOk N l ∧ 0 ≤ t ∧ t < 8) from fun h => ht h.2)
      clear hok hv
      rcases (by omega : t < 0 ∨ 8 ≤ t) with h1 | h1
      all_goals
        clear ht
        go_enter Try.func20, Try.ntmps20
        go_wp2_with (go_at_call 22; refine (HV.out _ (HW.out _ (ext_alloc _ _))).mono ?_; rintro e w1 ⟨rfl, hx1⟩; have B1 := ext_trans (ext_alloc w _) hx1; obtain ⟨f1, f2, f3⟩ := (HB1.out.ext hx1).facts)
        go_ret2
        exact ⟨B1, .inl ⟨HT.out, rfl⟩⟩
  · have hv := vldG_no hok
    rw [hv] at HV
    have HT := Lib.hid (show ¬ (GOk N l ∧ 0 ≤ t ∧ t < 8) from fun h => hok h.1)
    clear hok hv
    go_enter Try.func20, Try.ntmps20
    go_wp2_with (go_at_call 22; refine (HV.out _ (HW.out _ (ext_alloc _ _))).mono ?_; rintro e w1 ⟨rfl, hx1⟩; have B1 := ext_trans (ext_alloc w _) hx1; obtain ⟨f1, f2, f3⟩ := (HB1.out.ext hx1).facts)
    go_ret2
    exact ⟨B1, .inl ⟨HT.out, rfl⟩⟩
end Go.Proofs.Ytbhjhajnhpohlaa
