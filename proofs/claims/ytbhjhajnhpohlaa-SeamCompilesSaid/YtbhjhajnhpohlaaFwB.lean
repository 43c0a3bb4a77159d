/- The reference's runs and Fewest walked. Conditions: the slice reads as a list of seams. -/
import Derived.Test.YtbhjhajnhpohlaaFwA
import Derived.Test.YtbhjhajnhpohlaaOr
import Derived.Test.YtbhjhajnhpohlaaRc
namespace Go.Proofs.Ytbhjhajnhpohlaa
open Go.RowKit

theorem lnsC_has {ch : Sm → Bool} {l : List Sm} {k : Nat} (h : k < l.length) {s : Sm} (hs : s = l[k]) : decide (lnsC ch l (k + 1) ≠ []) = (decide (lnsC ch l k ≠ []) || ch s) := by
  cases hc : ch s
  · rw [lnsC_no h hs hc, Bool.or_false]
  · rw [lnsC_yes h hs hc, Bool.or_true]
    exact decide_eq_true (by simp)
theorem cnt_take {p : Int → Bool} {o : List Int} {k : Nat} (h : k < o.length) {x : Int} (hx : x = o[k]) : ((o.take (k + 1)).countP p : Int) = ((o.take k).countP p : Int) + if p x = true then 1 else 0 := by
  rw [List.take_succ_eq_append_getElem h, List.countP_append, ← hx, List.countP_cons, List.countP_nil]
  push_cast
  split <;> simp_all
theorem odd_cnt {n : Nat} {l : List Sm} {t c : Int} (h : ∀ s ∈ l, SmOk n s) (hn : n ≤ 16) (ht : 0 ≤ t) : (oddN (chR t) l n).countP (fun x => decide (kls l t x.toNat = c)) = (oddN (chJ l t c) l 16).length := by
  have e1 : oddN (chR t) l n = oddN (chT t) l 16 := by
    rw [oddN_out h 16 hn]
    exact oddN_congr (fun s _ => decide_eq_decide.2 ⟨fun h => h.resolve_left (by omega), .inr⟩) n
  rw [e1, List.countP_eq_length_filter, ends_filter h ht]
theorem oddR_rng {n : Nat} {l : List Sm} {t : Int} (h : ∀ s ∈ l, SmOk n s) (m : Nat) : ∀ x ∈ oddN (chR t) l m, 0 ≤ x ∧ x < n := by
  intro x hx
  obtain ⟨j, rfl, _, hd⟩ := oddN_mem m x hx
  refine ⟨by omega, Int.not_le.1 fun hj => ?_⟩
  rw [deg_out h (by omega)] at hd
  omega
set_option maxRecDepth 100000 in
set_option maxHeartbeats 8000000 in
theorem rruns_any (n : Nat) (A : Option Addr) (cap : Nat) (l : List Sm) (t : Nat) (w : World) (hok : GOk n l) (hc : l.length ≤ cap) (hcm : cap ≤ 9223372036854775807) (h : SSl w A l) :
    Calls Try.prog 72 #[.agg #[.int .i64 (n : Int), .slice A l.length cap], .int .i64 (t : Int)] w fun e w' => e = .returned (.int .i64 (fwT l t n : Int)) ∧ Below w.heap.size w w' := by
  have H := Lib.hid h
  have HOK := Lib.hid hok
  have HCL := Lib.hid (fun W (h : SSl W A l) => rclasses_any n A cap l t (-1) W hok hc hcm h)
  have HOD := Lib.hid (fun W (h : SSl W A l) => rodd_any n A cap l t W hok hc hcm h)
  have HB0 := Lib.hid (Bk.new 24 w #[.int .i64 (n : Int), .slice A l.length cap])
  have HE0 := Lib.hid (ext_alloc w (.cells #[.int .i64 (n : Int), .slice A l.length cap] 24))
  have l64 := hok.2.2.1
  have n1 : 1 ≤ n := by have := hok.1; omega
  have n2 : n ≤ 16 := by have := hok.2.1; omega
  clear h hok
  go_enter Try.func72, Try.ntmps72
  go_wp2_with (go_at_call 76; refine (HCL.out _ (H.out.ext HE0.out)).mono ?_; rintro e w1 ⟨bc, rfl, hO, hbc, hx1⟩; have B1 := Lib.hid (bext HE0.out hx1 HE0.out.size); have HG1 := Lib.hid (HB0.out.ext hx1); obtain ⟨f1, f2, f3⟩ := (HB0.out.ext hx1).facts; have HO := Lib.hid (show Ow 3 bc n (kls l t) w1 from hO); clear hO hbc hx1)
  clear f1 f2 f3
  go_loopg [19, 6] n (fun g i z wr => ∃ k : Nat, i = .int .i64 (k : Int) ∧ z = .int .i64 (fwT l t k : Int) ∧ k ≤ n ∧ g = n - k ∧ fwT l t k ≤ 8 * k ∧ Below w1.heap.size w1 wr)
  case atStart => exact ⟨0, rfl, rfl, by omega, by omega, by simp [fwT], Below.refl _ _⟩
  case round =>
    obtain ⟨k, rfl, rfl, hk, hg, hfb, hb⟩ := hrel
    have HG := Lib.hid hg
    have hbw := bext B1.out hb B1.out.size
    obtain ⟨f1, f2, f3⟩ := (HG1.out.ext hb).facts
    have HB := Lib.hid hb
    have HFS := Lib.hid (show fwT l t (k + 1) = fwT l t k + fwJ l t k from rfl)
    have HFJ := Lib.hid (show fwJ l t k ≤ 8 from by unfold fwJ; have := oddN_len (chJ l t k) l 16; split <;> omega)
    have HFD := Lib.hid (show fwJ l t k = if lnsC (chJ l t k) l l.length = [] then 0 else max 1 ((oddN (chJ l t k) l 16).length / 2) from rfl)
    obtain ⟨fx, hfx⟩ : ∃ fx, fx = fwT l t k := ⟨_, rfl⟩
    rw [← hfx] at hfb HFS ⊢
    have HFX := Lib.hid hfx
    clear hg hfx
    by_cases hlt : k < n
    · obtain ⟨wo, hwo⟩ : ∃ wo : World, wo = wr := ⟨_, rfl⟩
      subst hwo
      go_wp2_with (fail)
      go_loopg [25, 8] l.length (fun g i z wr => ∃ q : Nat, i = .int .i64 (q : Int) ∧ z = .bool (decide (lnsC (chJ l t k) l q ≠ [])) ∧ q ≤ l.length ∧ g = l.length - q ∧ Below wo.heap.size wo wr)
      case atStart => exact ⟨0, rfl, rfl, by omega, by omega, Below.refl _ _⟩
      case round =>
        obtain ⟨q, rfl, rfl, hq, hg2, hb2⟩ := hrel
        have HG2 := Lib.hid hg2
        have hbw2 := bext hbw hb2 hbw.size
        obtain ⟨g1, g2, g3⟩ := ((HG1.out.ext HB.out).ext hb2).facts
        clear hg2
        by_cases hql : q < l.length
        · rcases H.out.ext hbw2 with hf | ⟨b, off, rfl, hblt, hcl⟩
          · rw [hf] at hql; simp at hql
          obtain ⟨c1, c2, c3, c4⟩ := hcl q hql
          have hso := HOK.out.2.2.2 _ (List.getElem_mem hql)
          obtain ⟨s, hs⟩ : ∃ s, s = l[q] := ⟨_, rfl⟩
          rw [← hs] at c1 c2 c3 c4 hso
          have hhas := lnsC_has (ch := chJ l t k) hql hs
          obtain ⟨a, b', m, th⟩ := s
          dsimp only at c1 c2 c3 c4
          obtain ⟨o1, o2, o3, o4, -, -, -, -⟩ := hso
          dsimp only at o1 o2
          obtain ⟨ja, rfl⟩ := Int.eq_ofNat_of_zero_le o1
          have d1 := ((HO.out.ext HB.out).ext hb2).cell (i := ja) (by omega)
          have hbc := ((HO.out.ext HB.out).ext hb2).lt
          have hch : chJ l t k ⟨ja, b', m, th⟩ = (decide (th = (t : Int)) && decide (kls l t ja = (k : Int))) := by unfold chJ; rw [Int.toNat_natCast]
          rw [hch] at hhas
          generalize kls l t ja = kj at *
          have HHAS := Lib.hid hhas
          generalize decide (lnsC (chJ l t k) l q ≠ []) = hb0 at *
          clear hs hcl hch hhas
          cases hb0
          · by_cases hth : th = (t : Int)
            · by_cases hkk : kj = (k : Int)
              · have HR := Lib.hid (show decide (lnsC (chJ l t k) l (q + 1) ≠ []) = true from HHAS.out.trans (by simp [hth, hkk]))
                go_wp2_with (fail)
                go_roundg (l.length - (q + 1))
                case measure => have := HG2.out; omega
                case rel => exact ⟨q + 1, by go_num, by rw [HR.out], by omega, rfl, hb2.alloc hb2.size _⟩
              · have HR := Lib.hid (show decide (lnsC (chJ l t k) l (q + 1) ≠ []) = false from HHAS.out.trans (by simp [hth, hkk]))
                have hkk2 : (kj == (k : Int)) = false := by simpa using hkk
                go_wp2_with (fail)
                go_roundg (l.length - (q + 1))
                case measure => have := HG2.out; omega
                case rel => exact ⟨q + 1, by go_num, by rw [HR.out], by omega, rfl, hb2.alloc hb2.size _⟩
            · have HR := Lib.hid (show decide (lnsC (chJ l t k) l (q + 1) ≠ []) = false from HHAS.out.trans (by simp [hth]))
              have hth2 : (th == (t : Int)) = false := by simpa using hth
              go_wp2_with (fail)
              go_roundg (l.length - (q + 1))
              case measure => have := HG2.out; omega
              case rel => exact ⟨q + 1, by go_num, by rw [HR.out], by omega, rfl, hb2.alloc hb2.size _⟩
          · have HR := Lib.hid (show decide (lnsC (chJ l t k) l (q + 1) ≠ []) = true from HHAS.out.trans (by simp []))
            go_wp2_with (fail)
            go_roundg (l.length - (q + 1))
            case measure => have := HG2.out; omega
            case rel => exact ⟨q + 1, by go_num, by rw [HR.out], by omega, rfl, hb2.alloc hb2.size _⟩
        · obtain rfl : q = l.length := by omega
          have HB2 := Lib.hid hb2
          have HBW2 := Lib.hid hbw2
          have hHF := HFD.out
          obtain ⟨hb0, hhb0⟩ : ∃ hb0, hb0 = decide (lnsC (chJ l t k) l l.length ≠ []) := ⟨_, rfl⟩
          rw [← hhb0]
          have HHB := Lib.hid hhb0
          have HFC := Lib.hid (odd_cnt (n := n) (l := l) (t := (t : Int)) (c := (k : Int)) HOK.out.2.2.2 n2 (by omega))
          have hol := oddN_len (chR t) l n
          have hor := oddR_rng (n := n) (t := (t : Int)) HOK.out.2.2.2 n
          have HOR := Lib.hid hor
          obtain ⟨o, ho⟩ : ∃ o, o = oddN (chR t) l n := ⟨_, rfl⟩
          rw [← ho] at HOD HFC hol HOR
          clear ho hor hHF hhb0 hbw2 hb2
          go_wp2_with (go_at_call 60; refine (HOD.out _ (H.out.ext HBW2.out)).mono ?_; rintro e w2 ⟨v, rfl, hv, hx2⟩; have HX2 := Lib.hid hx2; obtain ⟨A2, c2, rfl, k1, k2, hi2⟩ := hv.isl; have HI2 := Lib.hid hi2; unfold maxLen at k2; clear hv hi2 hx2)
          go_loopg [50, 11] o.length (fun g i z wr => ∃ q : Nat, i = .int .i64 (q : Int) ∧ z = .int .i64 (((o.take q).countP fun x => decide (kls l t x.toNat = (k : Int)) : Nat) : Int) ∧ q ≤ o.length ∧ g = o.length - q ∧ wr = w2)
          case atStart => exact ⟨0, rfl, rfl, by omega, by omega, rfl⟩
          case round =>
            obtain ⟨q, rfl, rfl, hq2, hg3, rfl⟩ := hrel
            have HG3 := Lib.hid hg3
            clear hg3
            by_cases hqo : q < o.length
            · rcases HI2.out with hf | ⟨b, off, rfl, hblt, hcl⟩
              · rw [hf] at hqo; simp at hqo
              have c1 := hcl q hqo
              obtain ⟨x, hx⟩ : ∃ x, x = o[q] := ⟨_, rfl⟩
              have hct := cnt_take (p := fun x => decide (kls l t x.toNat = (k : Int))) hqo hx
              have hxr := HOR.out x (by rw [hx]; exact List.getElem_mem hqo)
              rw [← hx] at c1
              obtain ⟨jx, rfl⟩ := Int.eq_ofNat_of_zero_le hxr.1
              have d1 := (((HO.out.ext HB.out).ext HB2.out).ext HX2.out).cell (i := jx) (by omega)
              simp only [Int.toNat_natCast, decide_eq_true_eq] at hct
              have hcl2 : ((o.take q).countP fun x => decide (kls l t x.toNat = (k : Int))) ≤ 16 := Nat.le_trans List.countP_le_length (by rw [List.length_take]; omega)
              generalize ((o.take q).countP fun x => decide (kls l t x.toNat = (k : Int))) = cn at *
              obtain ⟨kj, hkj⟩ : ∃ kj, kj = kls l t jx := ⟨_, rfl⟩
              rw [← hkj] at d1
              simp only [← hkj] at hct
              clear hkj
              have HCT := Lib.hid hct
              clear hx hct hcl
              by_cases hkk : kj = (k : Int)
              · have HR := Lib.hid (HCT.out.trans (by rw [if_pos hkk]))
                go_wp2_with (fail)
                go_roundg (o.length - (q + 1))
                case measure => have := HG3.out; omega
                case rel => exact ⟨q + 1, by go_num, by rw [HR.out], by omega, rfl, rfl⟩
              · have hkk2 : (kj == (k : Int)) = false := by simpa using hkk
                have HR := Lib.hid (HCT.out.trans (by rw [if_neg hkk]))
                go_wp2_with (fail)
                go_roundg (o.length - (q + 1))
                case measure => have := HG3.out; omega
                case rel => exact ⟨q + 1, by go_num, by rw [HR.out]; simp, by omega, rfl, rfl⟩
            · obtain rfl : q = o.length := by omega
              have hbf := bext HB.out (ext_trans HB2.out HX2.out) HB.out.size
              have HBF := Lib.hid hbf
              rw [List.take_length, HFC.out]
              have hel := oddN_len (chJ l t k) l 16
              generalize (oddN (chJ l t k) l 16).length = ek at *
              have hquo : ((ek : Int)).tdiv 2 = ((ek / 2 : Nat) : Int) := by rw [Int.tdiv_eq_ediv_of_nonneg (by omega)]; omega
              cases hb0
              · have hlc : lnsC (chJ l t k) l l.length = [] := by
                  have := HHB.out
                  simpa using this.symm
                have HF0 := Lib.hid (show fwJ l t k = 0 from by rw [HFD.out, if_pos hlc])
                go_wp2_with (fail)
                go_roundg (n - (k + 1))
                case measure => have := HG.out; omega
                case rel => exact ⟨k + 1, by go_num, by rw [HFS.out, HF0.out]; rfl, by omega, rfl, by rw [HFS.out, HF0.out]; omega, HBF.out⟩
              · have hlc : lnsC (chJ l t k) l l.length ≠ [] := by
                  have := HHB.out
                  exact of_decide_eq_true this.symm
                have HF0 := Lib.hid (show fwJ l t k = max 1 (ek / 2) from by rw [HFD.out, if_neg hlc])
                clear hlc
                go_wp2_with (fail)
                all_goals
                  go_roundg (n - (k + 1))
                  case measure => have := HG.out; omega
                  case rel =>
                    have hmx := HF0.out
                    have hle := HFJ.out
                    exact ⟨k + 1, by go_num, by rw [HFS.out, HF0.out]; congr 1; omega, by omega, rfl, by rw [HFS.out]; omega, HBF.out⟩
    · obtain rfl : k = n := by omega
      go_wp2_with (fail)
      go_ret
      exact ⟨by rw [← HFX.out]; rfl, hbw⟩
set_option maxRecDepth 100000 in
set_option maxHeartbeats 4000000 in
theorem rFewest_any (N : Int) (A : Option Addr) (cap : Nat) (l : List Sm) (w : World) (hc : l.length ≤ cap) (hcm : cap ≤ 9223372036854775807) (h : SSl w A l) :
    Calls Try.prog 48 #[.agg #[.int .i64 N, .slice A l.length cap]] w (RetFw w N l) := by
  have HV := Lib.hid (fun W (h : SSl W A l) => rvalid_any N A cap l W hc hcm h)
  have HX := Lib.hid (ext_alloc w (.cells #[.int .i64 N, .slice A l.length cap] 24))
  have HB := Lib.hid (Bk.new 24 w #[.int .i64 N, .slice A l.length cap])
  have HW := Lib.hid (fun W (hW : Below w.heap.size w W) => h.ext hW)
  clear h
  by_cases hok : GOk N l
  · have hv := vldG_yes hok
    rw [hv] at HV
    have HOK := Lib.hid hok
    obtain ⟨n, hn⟩ := Int.eq_ofNat_of_zero_le (show 0 ≤ N by have := hok.1; omega)
    subst hn
    have HR := Lib.hid (fun (t : Nat) W h => rruns_any n A cap l t W hok hc hcm h)
    have n2 : n ≤ 16 := by have := hok.2.1; omega
    have HFT := Lib.hid (show ∀ t : Nat, fwT l t n ≤ 8 * 16 from fun t => by
      have : ∀ m, fwT l t m ≤ 8 * m := by
        intro m
        induction m with
        | zero => simp [fwT]
        | succ m ih =>
          have : fwJ l t m ≤ 8 := by unfold fwJ; have := oddN_len (chJ l t m) l 16; split <;> omega
          show fwT l t m + fwJ l t m ≤ _; omega
      have := this n; omega)
    clear hok hv
    go_enter Try.func48, Try.ntmps48
    go_wp2_with (go_at_call 22; refine (HV.out _ (HW.out _ HX.out)).mono ?_; rintro e w1 ⟨rfl, hx1⟩; have B1 := Lib.hid (bext HX.out hx1 HX.out.size); have HB1 := Lib.hid (HB.out.ext hx1); clear hx1)
    go_loopg [9, 4] 8 (fun g i z wr => ∃ t : Nat, i = .int .i64 (t : Int) ∧ z = .int .i64 (fwA l n t : Int) ∧ t ≤ 8 ∧ g = 8 - t ∧ fwA l n t ≤ 128 * t ∧ Below w1.heap.size w1 wr)
    case atStart => exact ⟨0, rfl, rfl, by omega, by omega, by simp [fwA], Below.refl _ _⟩
    case round =>
      obtain ⟨t, rfl, rfl, ht, hg, hfb, hb⟩ := hrel
      have HG := Lib.hid hg
      have hbw := bext B1.out hb B1.out.size
      obtain ⟨f1, f2, f3⟩ := (HB1.out.ext hb).facts
      have HFS := Lib.hid (show fwA l n (t + 1) = fwA l n t + fwT l t n from rfl)
      have hft := HFT.out t
      have HRT := Lib.hid (HR.out t)
      clear hg
      by_cases hlt : t < 8
      · generalize fwA l n t = fx at *
        generalize fwT l t n = ft at *
        go_wp2_with (go_at_call 72; refine (HRT.out _ (HW.out _ hbw)).mono ?_; rintro e w2 ⟨rfl, hx2⟩)
        go_roundg (8 - (t + 1))
        case measure => have := HG.out; omega
        case rel => exact ⟨t + 1, by go_num, by rw [HFS.out]; rfl, by omega, rfl, by rw [HFS.out]; omega, bext hb hx2 hb.size⟩
      · obtain rfl : t = 8 := by omega
        go_wp2_with (fail)
        go_ret2
        exact ⟨hbw, .inr ⟨HOK.out, rfl⟩⟩
  · have hv := vldG_no hok
    rw [hv] at HV
    have HOK := Lib.hid hok
    clear hok hv
    go_enter Try.func48, Try.ntmps48
    go_wp2_with (go_at_call 22; refine (HV.out _ (HW.out _ HX.out)).mono ?_; rintro e w1 ⟨rfl, hx1⟩; have B1 := bext HX.out hx1 HX.out.size; obtain ⟨f1, f2, f3⟩ := (HB.out.ext hx1).facts)
    go_ret2
    exact ⟨B1, .inl ⟨HOK.out, rfl⟩⟩
end Go.Proofs.Ytbhjhajnhpohlaa
