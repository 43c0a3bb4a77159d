/- Parse of the program walked; printed by wip/gen_pw.py. Conditions: the table of powers of ten is laid, the string's length is an int. -/
import Derived.Test.YtpdlogpkfnpbpaaDoorPu
namespace Go.Proofs.YtpdlogpkfnpbpaaDoor
open Go.RowKit

set_option maxRecDepth 100000 in
set_option maxHeartbeats 4000000 in

theorem parse_any (l : List UInt8) (w : World) (hl : l.length ≤ 9223372036854775807) (ht : P10 w) :
    Calls Tryd.prog 8 #[.string (BS l)] w (RetP w l) := by
  have hx0 := pext_alloc w (.cells #[.int .i64 0, .int .i64 0] 23)
  obtain ⟨W0, hW0⟩ : ∃ W0, W0 = w.alloc (.cells #[.int .i64 0, .int .i64 0] 23) := ⟨_, rfl⟩
  have HW0 := Lib.hid hW0
  rw [← hW0] at hx0
  have HT := Lib.hid (fun W (h : Below W0.heap.size W0 W) => ht.ext (ext_trans hx0 h))
  have hl1 := sgnP_len l
  have hl2 := wpP_len (sgnP l).2
  have hl3 := ndP_len (wpP (sgnP l).2).2
  have hl4 := cut1_len 32 (sgnP l).2
  have HCP := Lib.hid (fun W => cutpre_any l W)
  have HC1 := Lib.hid (fun W => cut_any 32 (sgnP l).2 W (by omega))
  have HCN := Lib.hid (fun W => contains_any (sgnP l).2 W)
  have HC2 := Lib.hid (fun W => cut_any 47 (wpP (sgnP l).2).2 W (by omega))
  have HN1 := Lib.hid (fun W => number_any (whL l) W (by unfold whL; omega))
  have HN2 := Lib.hid (fun W => number_any (nuL l) W (by unfold nuL; omega))
  have HN3 := Lib.hid (fun W => number_any (deL l) W (by unfold deL; omega))
  have HWP := Lib.hid (show wpP (sgnP l).2 = if (cut1 32 (sgnP l).2).2.2 = false ∧ 47 ∈ (sgnP l).2 then ([48], (sgnP l).2) else ((cut1 32 (sgnP l).2).1, (cut1 32 (sgnP l).2).2.1) from rfl)
  have HND := Lib.hid (show ndP (wpP (sgnP l).2).2 = if (wpP (sgnP l).2).2 = [] then ([48], [49]) else ((cut1 47 (wpP (sgnP l).2).2).1, (cut1 47 (wpP (sgnP l).2).2).2.1) from rfl)
  have HPE := Lib.hid (bytes_empty (l := (wpP (sgnP l).2).2))
  have HBAD := Lib.hid (fun h => paR_bad (s := l) h)
  have HFAR := Lib.hid (fun h => paR_far (s := l) h)
  have HOTH := Lib.hid (fun h => paR_other (s := l) h)
  have HYES := Lib.hid (fun hq h => paR_yes (s := l) hq h)
  have HSB := Lib.hid (str_beq (printP (qN l).num (qN l).den) l)
  have HQ := Lib.hid (show qN l = rat (sgI (sgnP l).1 (((numV (ndP (wpP (sgnP l).2).2).1).1 : Int) + ((numV (wpP (sgnP l).2).1).1 : Int) * ((numV (ndP (wpP (sgnP l).2).2).2).1 : Int))) ((numV (ndP (wpP (sgnP l).2).2).2).1 : Int) from rfl)
  unfold whL at HN1
  unfold nuL at HN2
  unfold deL at HN3
  unfold okN wN xN yN whL nuL deL at HBAD
  obtain ⟨s, hs⟩ : ∃ s, s = BS l := ⟨_, rfl⟩
  rw [← hs] at HCP HSB ⊢
  have HB0 := Lib.hid (Below.refl W0.heap.size W0)
  clear hl1 hl2 hl3 hl4 hl hs ht hx0
  unfold RetP
  generalize qN l = q at *
  generalize sgnP l = p at *
  obtain ⟨ng, T⟩ := p
  dsimp only at *
  generalize cut1 32 T = c at *
  obtain ⟨A, B, bb⟩ := c
  generalize wpP T = v at *
  obtain ⟨wh, pt⟩ := v
  dsimp only at *
  generalize cut1 47 pt = c2 at *
  obtain ⟨C, D, b2⟩ := c2
  generalize ndP pt = nd at *
  obtain ⟨nu, de⟩ := nd
  dsimp only at *
  have hb1 := numV_lt wh
  have hb2 := numV_lt nu
  have hb3 := numV_lt de
  generalize numV wh = n1 at *
  generalize numV nu = n2 at *
  generalize numV de = n3 at *
  obtain ⟨wv, a1⟩ := n1
  obtain ⟨xv, a2⟩ := n2
  obtain ⟨yv, a3⟩ := n3
  dsimp only at *
  have HWT := Lib.hid (show bb = false ∧ 47 ∈ T → wh = [48] ∧ pt = T from fun h => by have := HWP.out; rw [if_pos h] at this; injection this with e1 e2; exact ⟨e1, e2⟩)
  have HWF := Lib.hid (show ¬ (bb = false ∧ 47 ∈ T) → wh = A ∧ pt = B from fun h => by have := HWP.out; rw [if_neg h] at this; injection this with e1 e2; exact ⟨e1, e2⟩)
  have HNT := Lib.hid (show pt = [] → nu = [48] ∧ de = [49] from fun h => by have := HND.out; rw [if_pos h] at this; injection this with e1 e2; exact ⟨e1, e2⟩)
  have HNF := Lib.hid (show ¬ pt = [] → nu = C ∧ de = D from fun h => by have := HND.out; rw [if_neg h] at this; injection this with e1 e2; exact ⟨e1, e2⟩)
  clear HWP HND
  have hpe := HPE.out
  clear HPE
  obtain ⟨kb, hkb⟩ : ∃ kb : Bool, kb = decide (bb = false ∧ 47 ∈ T) := ⟨_, rfl⟩
  have HKT := Lib.hid (show kb = true → wh = [48] ∧ pt = T from fun h => HWT.out (of_decide_eq_true (by rw [← hkb]; exact h)))
  have HKF := Lib.hid (show kb = false → wh = A ∧ pt = B from fun h => HWF.out (of_decide_eq_false (by rw [← hkb]; exact h)))
  have HK0 := Lib.hid (show bb = true → kb = false from fun h => by rw [hkb, h]; simp)
  have HK1 := Lib.hid (show bb = false → decide (47 ∈ T) = kb from fun h => by rw [hkb, h]; simp)
  obtain ⟨pe, hpe2⟩ : ∃ pe : Bool, pe = decide (pt = []) := ⟨_, rfl⟩
  rw [← hpe2] at hpe
  have HPT := Lib.hid (show pe = true → nu = [48] ∧ de = [49] from fun h => HNT.out (of_decide_eq_true (by rw [← hpe2]; exact h)))
  have HPF := Lib.hid (show pe = false → nu = C ∧ de = D from fun h => HNF.out (of_decide_eq_false (by rw [← hpe2]; exact h)))
  clear HWT HWF HNT HNF hkb hpe2
  have HCN2 := Lib.hid (fun (h : bb = false) W => (show Calls Tryd.prog 16 #[.string (BS T), .string ⟨#[47]⟩] W fun e w' => e = .returned (.bool kb) ∧ w' = W from by have := HCN.out W; rw [HK1.out h] at this; exact this))
  clear HK1 HCN
  go_enter Tryd.func8, Tryd.ntmps8
  go_upto_region 1 with (fail)
  rw [← HW0.out]
  clear hW0
  go_upto_region 3 with (first
    | (go_at_call 14; refine (HCP.out _).mono ?_; rintro e W0 ⟨rfl, rfl⟩)
    | (go_at_call 15; refine (HC1.out _).mono ?_; rintro e w2 ⟨rfl, hx2⟩))
  have HB2 := Lib.hid hx2
  clear hx2
  go_cut [37] (fun z wx => z = .bool kb ∧ wx = w2)
  case first =>
    cases bb
    · have HCN3 := Lib.hid (HCN2.out rfl)
      go_wp2_with (go_at_call 16; refine (HCN3.out _).mono ?_; rintro e w3 ⟨rfl, rfl⟩)
      go_meet
      case rel => exact ⟨rfl, rfl⟩
    · obtain rfl := HK0.out rfl
      go_wp2
      go_meet
      case rel => exact ⟨rfl, rfl⟩
  case rest =>
    obtain ⟨rfl, hw⟩ := hcut
    subst hw
    rename_i hKc
    refine hKc _ _ ?_
    clear hKc
    go_cut [6, 7] (fun y z wx => y = .string (BS wh) ∧ z = .string (BS pt) ∧ wx = wc)
    case first =>
      cases kb
      · obtain ⟨rfl, rfl⟩ := HKF.out rfl
        go_wp2
        go_meet
        case rel => exact ⟨rfl, rfl, rfl⟩
      · obtain ⟨rfl, rfl⟩ := HKT.out rfl
        go_wp2
        go_meet
        case rel => exact ⟨rfl, rfl, rfl⟩
    case rest =>
      obtain ⟨rfl, rfl, hw⟩ := hcut
      subst hw
      go_upto_region 6 with (fail)
      go_cut [40] (fun z wx => z = .bool (!pe) ∧ wx = wc)
      case first =>
        go_wp2
        go_meet
        case rel => exact ⟨rfl, rfl⟩
      case rest =>
        obtain ⟨rfl, hw⟩ := hcut
        subst hw
        rename_i hKc
        refine hKc _ _ ?_
        clear hKc
        go_cut [9, 10] (fun y z wx => y = .string (BS nu) ∧ z = .string (BS de) ∧ Below W0.heap.size W0 wx)
        case first =>
          cases pe
          · obtain ⟨rfl, rfl⟩ := HPF.out rfl
            go_wp2_with (go_at_call 15; refine (HC2.out _).mono ?_; rintro e w4 ⟨rfl, hx4⟩)
            go_meet
            case rel => exact ⟨rfl, rfl, ext_trans HB2.out hx4⟩
          · obtain ⟨rfl, rfl⟩ := HPT.out rfl
            go_wp2
            go_meet
            case rel => exact ⟨rfl, rfl, HB2.out⟩
        case rest =>
          obtain ⟨rfl, rfl, hb4⟩ := hcut
          clear hpe HKT HKF HK0 HPT HPF HC1 HC2 HCN2 HCP HB2
          go_upto_region 11 with (first
            | (go_at_call_of 17 (Value.string (BS wh)); refine (HN1.out _).mono ?_; rintro e w5 ⟨rfl, hx5⟩; have hb5 := ext_trans hb4 hx5)
            | (go_at_call_of 17 (Value.string (BS nu)); refine (HN2.out _).mono ?_; rintro e w6 ⟨rfl, hx6⟩; have hb6 := ext_trans hb5 hx6)
            | (go_at_call_of 17 (Value.string (BS de)); refine (HN3.out _).mono ?_; rintro e w7 ⟨rfl, hx7⟩; have hb7 := ext_trans hb6 hx7))
          have HB7 := Lib.hid hb7
          clear hb4 hb5 hb6 hb7 hx5 hx6 hx7 HN1 HN2 HN3
          obtain ⟨bd, hbd⟩ : ∃ bd : Bool, bd = decide (¬ ((a1 = true ∧ a2 = true ∧ a3 = true) ∧ 1 ≤ yv ∧ yv ≤ 1000000000 ∧ wv ≤ 1000000000 ∧ xv ≤ 1000000000)) := ⟨_, rfl⟩
          have HBT := Lib.hid (fun h => hbd.trans (decide_eq_true (p := ¬ ((a1 = true ∧ a2 = true ∧ a3 = true) ∧ 1 ≤ yv ∧ yv ≤ 1000000000 ∧ wv ≤ 1000000000 ∧ xv ≤ 1000000000)) h))
          have HBF := Lib.hid (fun h => hbd.trans (decide_eq_false (p := ¬ ((a1 = true ∧ a2 = true ∧ a3 = true) ∧ 1 ≤ yv ∧ yv ≤ 1000000000 ∧ wv ≤ 1000000000 ∧ xv ≤ 1000000000)) h))
          have HBC := Lib.hid (show bd = true ∨ (bd = false ∧ (a1 = true ∧ a2 = true ∧ a3 = true) ∧ 1 ≤ yv ∧ yv ≤ 1000000000 ∧ wv ≤ 1000000000 ∧ xv ≤ 1000000000) from by
            cases hx : bd
            · rw [hx] at hbd
              exact .inr ⟨rfl, Classical.byContradiction fun h => by rw [decide_eq_true h] at hbd; cases hbd⟩
            · exact .inl rfl)
          have HBAD2 := Lib.hid (show bd = true → PaR l (0, 0, 6) from fun h => HBAD.out (of_decide_eq_true (by rw [← hbd]; exact h)))
          clear hbd HBAD
          go_cut [87] (fun z wx => z = .bool bd ∧ wx = w7)
          case first =>
            clear HT HQ HFAR HOTH HYES HSB HB7 HW0 HB0 HBC HBAD2
            cases a1
            · have HX := Lib.hid (HBT.out (fun h => by cases h.1.1))
              clear HBT HBF
              go_wp2
              go_meet
              case rel => exact ⟨by rw [HX.out], rfl⟩
            · cases a2
              · have HX := Lib.hid (HBT.out (fun h => by cases h.1.2.1))
                clear HBT HBF
                go_wp2
                go_meet
                case rel => exact ⟨by rw [HX.out], rfl⟩
              · cases a3
                · have HX := Lib.hid (HBT.out (fun h => by cases h.1.2.2))
                  clear HBT HBF
                  go_wp2
                  go_meet
                  case rel => exact ⟨by rw [HX.out], rfl⟩
                · by_cases y0 : yv = 0
                  · have HX := Lib.hid (HBT.out (fun h => by have := h.2.1; omega))
                    have t1 : ((yv : Int) == 0) = true := by simpa using y0
                    clear y0 HBT HBF
                    go_wp2
                    go_meet
                    case rel => exact ⟨by rw [HX.out], rfl⟩
                  · have t1 : ((yv : Int) == 0) = false := by simpa using y0
                    by_cases w9 : 1000000000 < wv
                    · have HX := Lib.hid (HBT.out (fun h => by have := h.2.2.2.1; omega))
                      have t2 : (1000000000 : Int) < (wv : Int) := by omega
                      clear w9 y0 HBT HBF
                      go_wp2
                      go_meet
                      case rel => exact ⟨by rw [HX.out], rfl⟩
                    · have t2 : ¬ (1000000000 : Int) < (wv : Int) := by omega
                      by_cases x9 : 1000000000 < xv
                      · have HX := Lib.hid (HBT.out (fun h => by have := h.2.2.2.2; omega))
                        have t3 : (1000000000 : Int) < (xv : Int) := by omega
                        clear x9 w9 y0 HBT HBF
                        go_wp2
                        go_meet
                        case rel => exact ⟨by rw [HX.out], rfl⟩
                      · have t3 : ¬ (1000000000 : Int) < (xv : Int) := by omega
                        by_cases y9 : 1000000000 < yv
                        · have HX := Lib.hid (HBT.out (fun h => by have := h.2.2.1; omega))
                          have t4 : (1000000000 : Int) < (yv : Int) := by omega
                          clear x9 w9 y9 y0 HBT HBF
                          go_wp2
                          go_meet
                          case rel => exact ⟨by rw [HX.out], rfl⟩
                        · have t4 : ¬ (1000000000 : Int) < (yv : Int) := by omega
                          have HX := Lib.hid (HBF.out (fun h => h ⟨⟨rfl, rfl, rfl⟩, by omega, by omega, by omega, by omega⟩))
                          clear x9 w9 y9 y0 HBT HBF
                          go_wp2
                          go_meet
                          case rel => exact ⟨by rw [HX.out], rfl⟩
          case rest =>
            obtain ⟨rfl, hw⟩ := hcut
            subst hw
            rename_i hKc
            refine hKc _ _ ?_
            clear hKc HBT HBF
            have hbn := HB7.out
            rw [HW0.out] at hbn
            have HBN := Lib.hid hbn
            obtain ⟨hc, hf, hz⟩ := new_cell hbn
            have c0 := hc 0
            have c1 := hc 1
            clear hbn
            rcases HBC.out with hbt | ⟨hbf, ⟨rfl, rfl, rfl⟩, y1, y2, w1, x1⟩
            · subst hbt
              have HX := Lib.hid (HBAD2.out rfl)
              clear HT HQ HFAR HOTH HYES HSB HB7 HW0 HB0 HBC HBAD2
              go_wp2
              (try simp only [Exit.inBlock, Exit.then])
              refine bodyPost_ret (v := .tuple #[.agg #[.int .i64 0, .int .i64 0], .int .i64 6]) ?_ (by kernel_rfl) ?_
              · (simp [results, Tryd.results8, go_sem, hc]; done)
              exact ⟨(0, 0, 6), HX.out, rfl, res_below HBN.out _ _⟩
            · subst hbf
              clear HBC HBAD2
              obtain ⟨pv, hpv⟩ : ∃ pv : Nat, pv = wv * yv := ⟨_, rfl⟩
              have hpb : pv ≤ 1000000000 * 1000000000 := by rw [hpv]; exact Nat.mul_le_mul w1 y2
              have e1 : (wv : Int) * (yv : Int) = (pv : Int) := by rw [hpv]; push_cast; rfl
              rw [e1] at HQ
              obtain ⟨nv, hnv⟩ : ∃ nv : Int, nv = sgI ng ((xv : Int) + (pv : Int)) := ⟨_, rfl⟩
              rw [← hnv] at HQ
              have hnb : -1000000002000000000 ≤ nv ∧ nv ≤ 1000000002000000000 := by rw [hnv]; unfold sgI; split <;> omega
              have HNW := Lib.hid (fun W => (show Calls Tryd.prog 18 #[.int .i64 nv, .int .i64 (yv : Int)] W (RetA W (ans q)) from by
                have h := new_any nv yv W ⟨by omega, by omega⟩ ⟨by omega, by omega⟩
                unfold newA at h
                rw [if_neg (by omega), ← HQ.out] at h
                exact h))
              unfold RetA frv at HNW
              have HS1 := Lib.hid (show ng = true → -((xv : Int) + (pv : Int)) = nv from fun h => by rw [hnv, h]; rfl)
              have HS0 := Lib.hid (show ng = false → (xv : Int) + (pv : Int) = nv from fun h => by rw [hnv, h]; rfl)
              obtain ⟨zv, hzv⟩ : ∃ zv : Int, zv = (xv : Int) + (pv : Int) := ⟨_, rfl⟩
              have e2 : (xv : Int) + (pv : Int) = zv := hzv.symm
              have hzb : 0 ≤ zv ∧ zv ≤ 1000000002000000000 := by omega
              rw [e2] at HS1 HS0
              clear hpv hnv HQ hb1 hb2 hb3 y1 hnb hzv
              go_upto_region 14 with (fail)
              clear e1 e2 hpb w1 x1
              go_cut [94] (fun z wx => z = .bool ng ∧ wx = wc)
              case first =>
                go_wp2
                go_meet
                case rel => exact ⟨rfl, rfl⟩
              case rest =>
                obtain ⟨rfl, hw⟩ := hcut
                subst hw
                rename_i hKc
                refine hKc _ _ ?_
                clear hKc
                go_cut [13] (fun z wx => z = .int .i64 nv ∧ wx = wc)
                case first =>
                  cases ng
                  · have hs := HS0.out rfl
                    subst hs
                    go_wp2
                    go_meet
                    case rel => exact ⟨rfl, rfl⟩
                  · have hs := HS1.out rfl
                    have HSS := Lib.hid hs
                    clear HS0 HS1
                    go_wp2
                    go_meet
                    case rel => exact ⟨rfl, rfl⟩
                case rest =>
                  obtain ⟨rfl, hw⟩ := hcut
                  subst hw
                  clear HS0 HS1 hzb
                  by_cases hq : InQ q
                  · have HNW2 := Lib.hid (fun W => (show Calls Tryd.prog 18 #[.int .i64 nv, .int .i64 (yv : Int)] W fun e w' => e = .returned (.tuple #[.agg #[.int .i64 q.num, .int .i64 (q.den : Int)], .int .i64 0]) ∧ Below W.heap.size W w' from by
                      have h := HNW.out W
                      rw [ans_yes hq] at h
                      exact h))
                    have HPR := Lib.hid (fun W (h : P10 W) => (show Calls Tryd.prog 5 #[.agg #[.int .i64 q.num, .int .i64 (q.den : Int)]] W fun e w' => e = .returned (.tuple #[.string (BS (printP q.num q.den)), .int .i64 0]) ∧ Below W.heap.size W w' from by
                      have h2 := print_any q.num (q.den : Int) W ⟨by have := hq.1; omega, by have := hq.1; omega⟩ ⟨by have := hq.2; omega, by have := hq.2; omega⟩ h
                      rw [prS_q hq, inq_vld hq] at h2
                      exact h2))
                    have HY := Lib.hid (show printP q.num q.den = l → PaR l (q.num, (q.den : Int), 0) from fun h => HYES.out hq h)
                    obtain ⟨sp, hsp⟩ : ∃ sp, sp = BS (printP q.num q.den) := ⟨_, rfl⟩
                    rw [← hsp] at HPR HSB
                    have HTT := Lib.hid (fun W (h : Below wc.heap.size wc W) => HT.out W (ext_trans HB7.out h))
                    have HNC := Lib.hid (fun W (h : Below wc.heap.size wc W) => new_cell (ext_trans HBN.out h))
                    obtain ⟨qn, hqn⟩ : ∃ qn, qn = q.num := ⟨_, rfl⟩
                    obtain ⟨qd, hqd⟩ : ∃ qd : Int, qd = (q.den : Int) := ⟨_, rfl⟩
                    rw [← hqn, ← hqd] at HNW2 HPR
                    by_cases heq : printP q.num q.den = l
                    · rw [decide_eq_true heq] at HSB
                      have hsb := HSB.out
                      have HY2 := Lib.hid (show PaR l (qn, qd, 0) from by rw [hqn, hqd]; exact HY.out heq)
                      clear heq hsp hqn hqd HFAR HOTH HYES HNW HY HT hq HSB
                      go_upto_region 17 with (go_at_call 18; refine (HNW2.out _).mono ?_; rintro e w8 ⟨rfl, hx8⟩; clear hc hf hz c0 c1)
                      have hx9 := ext_trans hx8 (pext_alloc w8 (.cells #[.int .i64 qn, .int .i64 qd] 23))
                      obtain ⟨kc, kf, kz⟩ := new_cell (Below.refl (w8.alloc (.cells #[.int .i64 qn, .int .i64 qd] 23)).heap.size (w8.alloc (.cells #[.int .i64 qn, .int .i64 qd] 23)))
                      obtain ⟨g8, hg8⟩ : ∃ g8, g8 = w8.heap.size := ⟨_, rfl⟩
                      obtain ⟨X, hX⟩ : ∃ X, X = w8.alloc (.cells #[.int .i64 qn, .int .i64 qd] 23) := ⟨_, rfl⟩
                      rw [← hX] at hx9 kc kf kz ⊢
                      rw [← hg8] at kc kf kz ⊢
                      have HX9 := Lib.hid hx9
                      have HKC := Lib.hid (fun W (h : Below X.heap.size X W) => (show W.cell? ⟨g8, 0, none⟩ = some (.int .i64 qn) ∧ W.cell? ⟨g8, 1, none⟩ = some (.int .i64 qd) from ⟨(h.cell (p := ⟨g8, 0, none⟩) kz).trans (kc 0), (h.cell (p := ⟨g8, 1, none⟩) kz).trans (kc 1)⟩))
                      obtain ⟨e0, e1⟩ := HKC.out _ (Below.refl _ _)
                      clear hg8 hX hx8 hx9 kc kf kz
                      go_wp2_with (go_at_call 5; refine (HPR.out _ (HTT.out _ HX9.out)).mono ?_; rintro e w9 ⟨rfl, hx9⟩; clear e0 e1; obtain ⟨e0, e1⟩ := HKC.out _ hx9; have h9 := ext_trans HX9.out hx9; obtain ⟨hc, hf, hz⟩ := HNC.out _ h9; have c0 := hc 0; have c1 := hc 1)
                      (try simp only [Exit.inBlock, Exit.then])
                      refine bodyPost_ret (v := .tuple #[.agg #[.int .i64 qn, .int .i64 qd], .int .i64 0]) ?_ (by kernel_rfl) ?_
                      · (simp [results, Tryd.results8, go_sem, hc]; done)
                      exact ⟨(qn, qd, 0), HY2.out, rfl, res_below (ext_trans HBN.out h9) _ _⟩
                    · rw [decide_eq_false heq] at HSB
                      have hsb := HSB.out
                      have HX := Lib.hid (HOTH.out heq)
                      clear heq hsp hqn hqd HFAR HOTH HYES HNW HY HT hq HSB
                      go_upto_region 17 with (go_at_call 18; refine (HNW2.out _).mono ?_; rintro e w8 ⟨rfl, hx8⟩; clear hc hf hz c0 c1)
                      have hx9 := ext_trans hx8 (pext_alloc w8 (.cells #[.int .i64 qn, .int .i64 qd] 23))
                      obtain ⟨kc, kf, kz⟩ := new_cell (Below.refl (w8.alloc (.cells #[.int .i64 qn, .int .i64 qd] 23)).heap.size (w8.alloc (.cells #[.int .i64 qn, .int .i64 qd] 23)))
                      obtain ⟨g8, hg8⟩ : ∃ g8, g8 = w8.heap.size := ⟨_, rfl⟩
                      obtain ⟨X, hX⟩ : ∃ X, X = w8.alloc (.cells #[.int .i64 qn, .int .i64 qd] 23) := ⟨_, rfl⟩
                      rw [← hX] at hx9 kc kf kz ⊢
                      rw [← hg8] at kc kf kz ⊢
                      have HX9 := Lib.hid hx9
                      have HKC := Lib.hid (fun W (h : Below X.heap.size X W) => (show W.cell? ⟨g8, 0, none⟩ = some (.int .i64 qn) ∧ W.cell? ⟨g8, 1, none⟩ = some (.int .i64 qd) from ⟨(h.cell (p := ⟨g8, 0, none⟩) kz).trans (kc 0), (h.cell (p := ⟨g8, 1, none⟩) kz).trans (kc 1)⟩))
                      obtain ⟨e0, e1⟩ := HKC.out _ (Below.refl _ _)
                      clear hg8 hX hx8 hx9 kc kf kz
                      go_wp2_with (go_at_call 5; refine (HPR.out _ (HTT.out _ HX9.out)).mono ?_; rintro e w9 ⟨rfl, hx9⟩; clear e0 e1; obtain ⟨e0, e1⟩ := HKC.out _ hx9; have h9 := ext_trans HX9.out hx9; obtain ⟨hc, hf, hz⟩ := HNC.out _ h9; have c0 := hc 0; have c1 := hc 1)
                      (try simp only [Exit.inBlock, Exit.then])
                      refine bodyPost_ret (v := .tuple #[.agg #[.int .i64 0, .int .i64 0], .int .i64 6]) ?_ (by kernel_rfl) ?_
                      · (simp [results, Tryd.results8, go_sem, hc]; done)
                      exact ⟨(0, 0, 6), HX.out, rfl, res_below (ext_trans HBN.out h9) _ _⟩
                  · have HNW2 := Lib.hid (fun W => (show Calls Tryd.prog 18 #[.int .i64 nv, .int .i64 (yv : Int)] W fun e w' => e = .returned (.tuple #[.agg #[.int .i64 0, .int .i64 0], .int .i64 5]) ∧ Below W.heap.size W w' from by
                      have h := HNW.out W
                      rw [ans_no hq] at h
                      exact h))
                    have HX := Lib.hid (HFAR.out hq)
                    have HNC := Lib.hid (fun W (h : Below wc.heap.size wc W) => new_cell (ext_trans HBN.out h))
                    clear HFAR HOTH HYES HNW HT hq HSB
                    go_upto_region 17 with (go_at_call 18; refine (HNW2.out _).mono ?_; rintro e w8 ⟨rfl, hx8⟩; clear hc hf hz c0 c1)
                    have h9 := ext_trans hx8 (pext_alloc w8 (.cells #[.int .i64 0, .int .i64 0] 23))
                    obtain ⟨X, hX⟩ : ∃ X, X = w8.alloc (.cells #[.int .i64 0, .int .i64 0] 23) := ⟨_, rfl⟩
                    rw [← hX] at h9 ⊢
                    obtain ⟨hc, hf, hz⟩ := HNC.out _ h9
                    have c0 := hc 0
                    have c1 := hc 1
                    clear hX hx8 HNW2
                    go_wp2
                    (try simp only [Exit.inBlock, Exit.then])
                    refine bodyPost_ret (v := .tuple #[.agg #[.int .i64 0, .int .i64 0], .int .i64 6]) ?_ (by kernel_rfl) ?_
                    · (simp [results, Tryd.results8, go_sem, hc]; done)
                    exact ⟨(0, 0, 6), HX.out, rfl, res_below (ext_trans HBN.out h9) _ _⟩
end Go.Proofs.YtpdlogpkfnpbpaaDoor
