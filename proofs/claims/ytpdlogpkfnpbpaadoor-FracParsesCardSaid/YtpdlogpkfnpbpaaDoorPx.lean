/- Parse of the reference walked; printed by wip/gen_px.py. Conditions: the table of powers of ten is laid, the string's length is an int. -/
import Derived.Test.YtpdlogpkfnpbpaaDoorPu
import Derived.Test.YtpdlogpkfnpbpaaDoorPq
import Derived.Test.YtpdlogpkfnpbpaaDoorQd
import Derived.Test.YtpdlogpkfnpbpaaDoorGd
import Derived.Test.YtpdlogpkfnpbpaaDoorFk
namespace Go.Proofs.YtpdlogpkfnpbpaaDoor
open Go.RowKit

theorem ndP_cut (p : List UInt8) : ndP p = ((cut1 47 (if p = [] then [48, 47, 49] else p)).1, (cut1 47 (if p = [] then [48, 47, 49] else p)).2.1) := by
  unfold ndP
  by_cases h : p = []
  · rw [if_pos h, if_pos h]; decide
  · rw [if_neg h, if_neg h]
theorem cut1_none {c : UInt8} : ∀ {l : List UInt8}, (cut1 c l).2.2 = false → (cut1 c l).1 = l
  | [], _ => rfl
  | x :: l, h => by
    unfold cut1 at h ⊢
    by_cases hx : x = c
    · rw [if_pos hx] at h; cases h
    · rw [if_neg hx] at h ⊢
      rw [cut1_none h]
theorem rat_sum {w x y : Nat} (hy : 1 ≤ y) : ((w : Int) : Rat) + ((x : Int) : Rat) / ((y : Int) : Rat) = rat ((x : Int) + (w : Int) * (y : Int)) (y : Int) := by
  have h0 : ((y : Int) : Rat) ≠ 0 := by
    intro h
    have : (y : Int) = 0 := by exact Rat.intCast_eq_zero_iff.1 h
    omega
  unfold rat
  rw [Rat.intCast_add, Rat.intCast_mul, Rat.div_def, Rat.div_def, Rat.add_mul, Rat.mul_assoc, Rat.mul_inv_cancel _ h0, Rat.mul_one, Rat.add_comm]
theorem rat_neg (n d : Int) : rat (-n) d = -rat n d := by
  unfold rat
  rw [Rat.intCast_neg, Rat.div_def, Rat.div_def, Rat.neg_mul]
set_option maxRecDepth 100000 in
set_option maxHeartbeats 4000000 in
theorem rparse_any (l : List UInt8) (w : World) (hl : l.length ≤ 9223372036854775807) (ht : P10 w) :
    Calls Tryd.prog 9 #[.string (BS l)] w (RetP w l) := by
  have hx0 := pext_alloc w (.cells #[.int .i64 0, .int .i64 0] 23)
  obtain ⟨W0, hW0⟩ : ∃ W0, W0 = w.alloc (.cells #[.int .i64 0, .int .i64 0] 23) := ⟨_, rfl⟩
  have HW0 := Lib.hid hW0
  rw [← hW0] at hx0
  have HT := Lib.hid (fun W (h : Below W0.heap.size W0 W) => ht.ext (ext_trans hx0 h))
  have hl1 := sgnP_len l
  have hl2 := wpP_len (sgnP l).2
  have hl3 := ndP_len (wpP (sgnP l).2).2
  have hl4 := cut1_len 32 (sgnP l).2
  have HCP := Lib.hid (fun W => cutpre_any l W)
  have HC1 := Lib.hid (fun W => cut_any 32 (sgnP l).2 W (by omega))
  have HCN := Lib.hid (fun W => contains_any (sgnP l).2 W)
  have hl5 : (if (wpP (sgnP l).2).2 = [] then [48, 47, 49] else (wpP (sgnP l).2).2).length ≤ 9223372036854775807 := by
    split
    · decide
    · omega
  have HC2 := Lib.hid (fun W => cut_any 47 (if (wpP (sgnP l).2).2 = [] then [48, 47, 49] else (wpP (sgnP l).2).2) W hl5)
  have HAT := Lib.hid (fun (h : (cut1 32 (sgnP l).2).2.2 = false) => cut1_none h)
  have HN1 := Lib.hid (fun W => digits_any (whL l) W (by unfold whL; omega))
  have HN2 := Lib.hid (fun W => digits_any (nuL l) W (by unfold nuL; omega))
  have HN3 := Lib.hid (fun W => digits_any (deL l) W (by unfold deL; omega))
  have HWP := Lib.hid (show wpP (sgnP l).2 = if (cut1 32 (sgnP l).2).2.2 = false ∧ 47 ∈ (sgnP l).2 then ([48], (sgnP l).2) else ((cut1 32 (sgnP l).2).1, (cut1 32 (sgnP l).2).2.1) from rfl)
  have HND := Lib.hid (ndP_cut (wpP (sgnP l).2).2)
  have HPE := Lib.hid (bytes_empty (l := (wpP (sgnP l).2).2))
  have HBAD := Lib.hid (fun h => paR_bad (s := l) h)
  have HFAR := Lib.hid (fun h => paR_far (s := l) h)
  have HOTH := Lib.hid (fun h => paR_other (s := l) h)
  have HYES := Lib.hid (fun hq h => paR_yes (s := l) hq h)
  have HSB := Lib.hid (str_beq (printP (qN l).num (qN l).den) l)
  have HQ := Lib.hid (show qN l = rat (sgI (sgnP l).1 (((numV (ndP (wpP (sgnP l).2).2).1).1 : Int) + ((numV (wpP (sgnP l).2).1).1 : Int) * ((numV (ndP (wpP (sgnP l).2).2).2).1 : Int))) ((numV (ndP (wpP (sgnP l).2).2).2).1 : Int) from rfl)
  unfold whL at HN1
  unfold nuL at HN2
  unfold deL at HN3
  unfold okN wN xN yN whL nuL deL at HBAD
  obtain ⟨s, hs⟩ : ∃ s, s = BS l := ⟨_, rfl⟩
  rw [← hs] at HCP HSB ⊢
  have HB0 := Lib.hid (Below.refl W0.heap.size W0)
  clear hl1 hl2 hl3 hl4 hl5 hl hs ht hx0
  unfold RetP
  generalize qN l = q at *
  generalize sgnP l = p at *
  obtain ⟨ng, T⟩ := p
  dsimp only at *
  generalize cut1 32 T = c at *
  obtain ⟨A, B, bb⟩ := c
  generalize wpP T = v at *
  obtain ⟨wh, pt⟩ := v
  dsimp only at *
  have HPZT := Lib.hid (fun (h : pt = []) => show (if pt = [] then [48, 47, 49] else pt) = ([48, 47, 49] : List UInt8) from if_pos h)
  have HPZF := Lib.hid (fun (h : ¬ pt = []) => show (if pt = [] then [48, 47, 49] else pt) = pt from if_neg h)
  generalize (if pt = [] then ([48, 47, 49] : List UInt8) else pt) = pz at *
  generalize cut1 47 pz = c2 at *
  obtain ⟨C, D, b2⟩ := c2
  generalize ndP pt = nd at *
  obtain ⟨nu, de⟩ := nd
  dsimp only at *
  have hb1 := numV_lt wh
  have hb2 := numV_lt nu
  have hb3 := numV_lt de
  generalize numV wh = n1 at *
  generalize numV nu = n2 at *
  generalize numV de = n3 at *
  obtain ⟨wv, a1⟩ := n1
  obtain ⟨xv, a2⟩ := n2
  obtain ⟨yv, a3⟩ := n3
  dsimp only at *
  have HWT := Lib.hid (show bb = false ∧ 47 ∈ T → wh = [48] ∧ pt = T from fun h => by have := HWP.out; rw [if_pos h] at this; injection this with e1 e2; exact ⟨e1, e2⟩)
  have HWF := Lib.hid (show ¬ (bb = false ∧ 47 ∈ T) → wh = A ∧ pt = B from fun h => by have := HWP.out; rw [if_neg h] at this; injection this with e1 e2; exact ⟨e1, e2⟩)
  have HNE := Lib.hid (show nu = C ∧ de = D from by have := HND.out; injection this with e1 e2; exact ⟨e1, e2⟩)
  clear HWP HND
  have hpe := HPE.out
  clear HPE
  obtain ⟨kb, hkb⟩ : ∃ kb : Bool, kb = decide (bb = false ∧ 47 ∈ T) := ⟨_, rfl⟩
  have HKT := Lib.hid (show kb = true → wh = [48] ∧ pt = T from fun h => HWT.out (of_decide_eq_true (by rw [← hkb]; exact h)))
  have HKF := Lib.hid (show kb = false → wh = A ∧ pt = B from fun h => HWF.out (of_decide_eq_false (by rw [← hkb]; exact h)))
  have HK0 := Lib.hid (show bb = true → kb = false from fun h => by rw [hkb, h]; simp)
  have HK1 := Lib.hid (show bb = false → decide (47 ∈ T) = kb from fun h => by rw [hkb, h]; simp)
  obtain ⟨pe, hpe2⟩ : ∃ pe : Bool, pe = decide (pt = []) := ⟨_, rfl⟩
  rw [← hpe2] at hpe
  have HPT := Lib.hid (show pe = true → pz = [48, 47, 49] from fun h => HPZT.out (of_decide_eq_true (by rw [← hpe2]; exact h)))
  have HPF := Lib.hid (show pe = false → pz = pt from fun h => HPZF.out (of_decide_eq_false (by rw [← hpe2]; exact h)))
  obtain ⟨rfl, rfl⟩ := HNE.out
  clear HWT HWF HPZT HPZF HNE hkb hpe2
  have HCN2 := Lib.hid (fun (h : bb = false) W => (show Calls Tryd.prog 16 #[.string (BS T), .string ⟨#[47]⟩] W fun e w' => e = .returned (.bool kb) ∧ w' = W from by have := HCN.out W; rw [HK1.out h] at this; exact this))
  clear HK1 HCN
  go_enter Tryd.func9, Tryd.ntmps9
  go_upto_region 1 with (fail)
  rw [← HW0.out]
  clear hW0
  go_upto_region 3 with (first
    | (go_at_call 14; refine (HCP.out _).mono ?_; rintro e W0 ⟨rfl, rfl⟩)
    | (go_at_call 15; refine (HC1.out _).mono ?_; rintro e w2 ⟨rfl, hx2⟩))
  have HB2 := Lib.hid hx2
  clear hx2
  go_cut [39] (fun z wx => z = .bool kb ∧ wx = w2)
  case first =>
    cases bb
    · have HCN3 := Lib.hid (HCN2.out rfl)
      obtain rfl : A = T := HAT.out rfl
      go_wp2_with (go_at_call 16; refine (HCN3.out _).mono ?_; rintro e w3 ⟨rfl, rfl⟩)
      go_meet
      case rel => exact ⟨rfl, rfl⟩
    · obtain rfl := HK0.out rfl
      go_wp2
      go_meet
      case rel => exact ⟨rfl, rfl⟩
  case rest =>
    obtain ⟨rfl, hw⟩ := hcut
    subst hw
    rename_i hKc
    refine hKc _ _ ?_
    clear hKc
    go_cut [6, 7] (fun y z wx => y = .string (BS wh) ∧ z = .string (BS pt) ∧ wx = wc)
    case first =>
      cases kb
      · obtain ⟨rfl, rfl⟩ := HKF.out rfl
        go_wp2
        go_meet
        case rel => exact ⟨rfl, rfl, rfl⟩
      · have HA : A = T := by
          cases hbb : bb
          · exact HAT.out hbb
          · exact absurd (HK0.out hbb) (by decide)
        obtain ⟨rfl, h2⟩ := HKT.out rfl
        subst HA
        subst h2
        go_wp2
        go_meet
        case rel => exact ⟨rfl, rfl, rfl⟩
    case rest =>
      obtain ⟨rfl, rfl, hw⟩ := hcut
      subst hw
      go_upto_region 6 with (go_at_call 19; refine (HN1.out _).mono ?_; rintro e w5 ⟨rfl, rfl⟩)
      go_cut [47] (fun z wx => z = .bool pe ∧ wx = w5)
      case first =>
        go_wp2
        go_meet
        case rel => exact ⟨rfl, rfl⟩
      case rest =>
        obtain ⟨rfl, hw⟩ := hcut
        subst hw
        rename_i hKc
        refine hKc _ _ ?_
        clear hKc
        go_cut [7] (fun y wx => y = .string (BS pz) ∧ wx = wc)
        case first =>
          cases pe
          · obtain rfl := HPF.out rfl
            go_wp2
            go_meet
            case rel => exact ⟨rfl, rfl⟩
          · obtain rfl := HPT.out rfl
            go_wp2
            go_meet
            case rel => exact ⟨rfl, rfl⟩
        case rest =>
          obtain ⟨rfl, hw⟩ := hcut
          subst hw
          have hb4 := HB2.out
          clear hpe HKT HKF HK0 HPT HPF HC1 HCN2 HCP HB2 HAT HN1
          go_upto_region 11 with (first
            | (go_at_call 15; refine (HC2.out _).mono ?_; rintro e w7 ⟨rfl, hx7⟩; have hb7 := ext_trans hb4 hx7)
            | (go_at_call_of 19 (Value.string (BS nu)); refine (HN2.out _).mono ?_; rintro e w7 ⟨rfl, rfl⟩)
            | (go_at_call_of 19 (Value.string (BS de)); refine (HN3.out _).mono ?_; rintro e w7 ⟨rfl, rfl⟩))
          have HB7 := Lib.hid hb7
          clear hb4 hb7 hx7 HN2 HN3 HC2
          obtain ⟨bd, hbd⟩ : ∃ bd : Bool, bd = decide (¬ ((a1 = true ∧ a2 = true ∧ a3 = true) ∧ 1 ≤ yv)) := ⟨_, rfl⟩
          have HBT := Lib.hid (fun h => hbd.trans (decide_eq_true (p := ¬ ((a1 = true ∧ a2 = true ∧ a3 = true) ∧ 1 ≤ yv)) h))
          have HBF := Lib.hid (fun h => hbd.trans (decide_eq_false (p := ¬ ((a1 = true ∧ a2 = true ∧ a3 = true) ∧ 1 ≤ yv)) h))
          have HBC := Lib.hid (show bd = true ∨ (bd = false ∧ (a1 = true ∧ a2 = true ∧ a3 = true) ∧ 1 ≤ yv) from by
            cases hx : bd
            · rw [hx] at hbd
              exact .inr ⟨rfl, Classical.byContradiction fun h => by rw [decide_eq_true h] at hbd; cases hbd⟩
            · exact .inl rfl)
          have HBAD2 := Lib.hid (show bd = true → PaR l (0, 0, 6) from fun h => HBAD.out (fun h2 => of_decide_eq_true (p := ¬ ((a1 = true ∧ a2 = true ∧ a3 = true) ∧ 1 ≤ yv)) (by rw [← hbd]; exact h) ⟨h2.1, h2.2.1⟩))
          clear hbd HBAD
          go_cut [77] (fun z wx => z = .bool bd ∧ wx = w7)
          case first =>
            clear HT HQ HFAR HOTH HYES HSB HB7 HW0 HB0 HBC HBAD2
            cases a1
            · have HX := Lib.hid (HBT.out (fun h => by cases h.1.1))
              clear HBT HBF
              go_wp2
              go_meet
              case rel => exact ⟨by rw [HX.out], rfl⟩
            · cases a2
              · have HX := Lib.hid (HBT.out (fun h => by cases h.1.2.1))
                clear HBT HBF
                go_wp2
                go_meet
                case rel => exact ⟨by rw [HX.out], rfl⟩
              · cases a3
                · have HX := Lib.hid (HBT.out (fun h => by cases h.1.2.2))
                  clear HBT HBF
                  go_wp2
                  go_meet
                  case rel => exact ⟨by rw [HX.out], rfl⟩
                · by_cases y0 : yv = 0
                  · have HX := Lib.hid (HBT.out (fun h => by have := h.2; omega))
                    have t1 : ((yv : Int) == 0) = true := by simpa using y0
                    clear y0 HBT HBF
                    go_wp2
                    go_meet
                    case rel => exact ⟨by rw [HX.out], rfl⟩
                  · have t1 : ((yv : Int) == 0) = false := by simpa using y0
                    have HX := Lib.hid (HBF.out (fun h => h ⟨⟨rfl, rfl, rfl⟩, by omega⟩))
                    clear y0 HBT HBF
                    go_wp2
                    go_meet
                    case rel => exact ⟨by rw [HX.out], rfl⟩
          case rest =>
            obtain ⟨rfl, hw⟩ := hcut
            subst hw
            rename_i hKc
            refine hKc _ _ ?_
            clear hKc HBT HBF
            have hbn := HB7.out
            rw [HW0.out] at hbn
            have HBN := Lib.hid hbn
            obtain ⟨hc, hf, hz⟩ := new_cell hbn
            have c0 := hc 0
            have c1 := hc 1
            clear hbn
            rcases HBC.out with hbt | ⟨hbf, ⟨rfl, rfl, rfl⟩, y1⟩
            · subst hbt
              have HX := Lib.hid (HBAD2.out rfl)
              clear HT HQ HFAR HOTH HYES HSB HB7 HW0 HB0 HBC HBAD2
              go_wp2
              (try simp only [Exit.inBlock, Exit.then])
              refine bodyPost_ret (v := .tuple #[.agg #[.int .i64 0, .int .i64 0], .int .i64 6]) ?_ (by kernel_rfl) ?_
              · (simp [results, Tryd.results9, go_sem, hc]; done)
              exact ⟨(0, 0, 6), HX.out, rfl, res_below HBN.out _ _⟩
            · subst hbf
              clear HBC HBAD2
              have h0y : ((yv : Int) : Rat) ≠ 0 := by
                intro h
                have : (yv : Int) = 0 := Rat.intCast_eq_zero_iff.1 h
                omega
              obtain ⟨qs, hqs⟩ : ∃ qs : Rat, qs = rat ((xv : Int) + (wv : Int) * (yv : Int)) (yv : Int) := ⟨_, rfl⟩
              have HS1 := Lib.hid (show ng = true → -qs = q from fun h => by rw [HQ.out, h, hqs, ← rat_neg]; rfl)
              have HS0 := Lib.hid (show ng = false → qs = q from fun h => by rw [HQ.out, h, hqs]; rfl)
              have HIW := Lib.hid (fun W => int_any (wv : Int) W (by omega) (by omega))
              have HIX := Lib.hid (fun W => int_any (xv : Int) W (by omega) (by omega))
              have HIY := Lib.hid (fun W => int_any (yv : Int) W (by omega) (by omega))
              have HOV := Lib.hid (fun vx vy W hx hy => over_any vx vy ((xv : Int) : Rat) ((yv : Int) : Rat) W hx hy (qok_int (by omega) (by omega)) (qok_int (by omega) (by omega)) h0y)
              have HPL := Lib.hid (fun va vo W ha hb => (show Calls Tryd.prog 20 #[va, vo] W (RetQ W qs) from by
                have h := plus_q va vo ((wv : Int) : Rat) (((xv : Int) : Rat) / ((yv : Int) : Rat)) W ha hb (qok_int (by omega) (by omega)) (show QOk (rat (xv : Int) (yv : Int)) from qok_rat (by omega) (by omega) (by omega))
                rw [rat_sum y1, ← hqs] at h
                exact h))
              have HMI := Lib.hid (fun v W h => minus_any v qs W h)
              unfold RetQ at HIW HIX HIY HOV HPL HMI
              clear HQ h0y hqs y1 hb1 hb2 hb3
              clear c0 c1 hc hf hz
              go_upto_region 14 with (first
                | (go_at_call_of 21 (Value.int .i64 (wv : Int)); refine (HIW.out _).mono ?_; rintro e w8 ⟨v1, rfl, q1, x1⟩)
                | (go_at_call_of 21 (Value.int .i64 (xv : Int)); refine (HIX.out _).mono ?_; rintro e w9 ⟨v2, rfl, q2, x2⟩)
                | (go_at_call_of 21 (Value.int .i64 (yv : Int)); refine (HIY.out _).mono ?_; rintro e w10 ⟨v3, rfl, q3, x3⟩)
                | (go_at_call 22; refine (HOV.out _ _ _ (q2.ext x3) q3).mono ?_; rintro e w11 ⟨v4, rfl, q4, x4⟩)
                | (go_at_call 20; refine (HPL.out _ _ _ (((q1.ext x2).ext x3).ext x4) q4).mono ?_; rintro e w12 ⟨v5, rfl, q5, x5⟩; obtain ⟨p5, rfl, hp5⟩ := q_formV q5))
              have HB12 := Lib.hid (ext_trans (ext_trans (ext_trans (ext_trans x1 x2) x3) x4) x5)
              clear q1 q2 q3 q4 q5 x1 x2 x3 x4 x5 HIW HIX HIY HOV HPL
              have HQB := Lib.hid (QB.new hp5)
              have HBV := Lib.hid (pext_alloc w12 (.cells #[.bool p5.s, .slice p5.A p5.n p5.c, .slice p5.B p5.m p5.d] 45))
              obtain ⟨g5, hg5⟩ : ∃ g5, g5 = w12.heap.size := ⟨_, rfl⟩
              obtain ⟨V1, hV1⟩ : ∃ V1, V1 = w12.alloc (.cells #[.bool p5.s, .slice p5.A p5.n p5.c, .slice p5.B p5.m p5.d] 45) := ⟨_, rfl⟩
              rw [← hV1] at HQB HBV ⊢
              rw [← hg5] at HQB HBV ⊢
              have HG5 := Lib.hid hg5
              clear hp5 hg5 hV1
              go_cut [87] (fun z wx => z = .bool ng ∧ wx = V1)
              case first =>
                go_wp2
                go_meet
                case rel => exact ⟨rfl, rfl⟩
              case rest =>
                obtain ⟨rfl, hw⟩ := hcut
                subst hw
                rename_i hKc
                refine hKc _ _ ?_
                clear hKc
                go_cut [87] (fun z wx => z = .bool ng ∧ (∃ p6, QB wx g5 p6 q) ∧ Below g5 w12 wx)
                case first =>
                  cases ng
                  · have hs := HS0.out rfl
                    subst hs
                    go_wp2
                    go_meet
                    case rel => exact ⟨rfl, ⟨p5, HQB.out⟩, HBV.out⟩
                  · have HSS := Lib.hid (HS1.out rfl)
                    have hqb := HQB.out
                    obtain ⟨d0, d1, d2⟩ := hqb.1.cells
                    obtain ⟨_, df, dl⟩ := hqb.1.facts
                    have HM1 := Lib.hid (HMI.out _ _ hqb.2)
                    clear hqb HS0 HS1
                    go_wp2_with (go_at_call 23; refine (HM1.out).mono ?_; rintro e w13 ⟨v6, rfl, q6, x6⟩; obtain ⟨p6, rfl, hp6⟩ := q_formV q6; clear d0 d1 d2 df; have hqb := HQB.out.1.ext x6; obtain ⟨d0, d1, d2⟩ := hqb.cells; obtain ⟨_, df, dl⟩ := hqb.facts)
                    go_meet
                    case rel =>
                      have h13 := Res3.setQ hqb.res hp6
                      rw [HSS.out] at h13
                      exact ⟨rfl, ⟨p6, h13⟩, (((HBV.out.trans (x6.mono (by have := HBV.out.size; omega))).setCell (Nat.le_refl _) _).setCell (Nat.le_refl _) _).setCell (Nat.le_refl _) _⟩
                case rest =>
                  obtain ⟨rfl, ⟨p6, hqb⟩, hb13⟩ := hcut
                  have HQ6 := Lib.hid hqb
                  rw [HG5.out] at hb13
                  have HB13 := Lib.hid (HB12.out.trans (hb13.mono HB12.out.size))
                  clear hb13 HBV HQB HS0 HS1 HMI
                  obtain ⟨d0, d1, d2⟩ := hqb.1.cells
                  obtain ⟨_, df, dl⟩ := hqb.1.facts
                  have HNC := Lib.hid (fun W (h : Below wc.heap.size wc W) => new_cell (ext_trans HBN.out (ext_trans HB13.out h)))
                  obtain ⟨qn, hqn⟩ : ∃ qn, qn = q.num := ⟨_, rfl⟩
                  obtain ⟨qd, hqd⟩ : ∃ qd : Int, qd = (q.den : Int) := ⟨_, rfl⟩
                  by_cases hq : InQ q
                  · have HFR := Lib.hid (rfrac_yes _ q wc hqb.2 hq)
                    have HPR := Lib.hid (fun W (h : P10 W) => (show Calls Tryd.prog 6 #[.agg #[.int .i64 q.num, .int .i64 (q.den : Int)]] W fun e w' => e = .returned (.tuple #[.string (BS (printP q.num q.den)), .int .i64 0]) ∧ Below W.heap.size W w' from by
                      have h2 := rprint_any q.num (q.den : Int) W ⟨by have := hq.1; omega, by have := hq.1; omega⟩ ⟨by have := hq.2; omega, by have := hq.2; omega⟩ h
                      rw [prS_q hq, inq_vld hq] at h2
                      exact h2))
                    have HY := Lib.hid (show printP q.num q.den = l → PaR l (q.num, (q.den : Int), 0) from fun h => HYES.out hq h)
                    obtain ⟨sp, hsp⟩ : ∃ sp, sp = BS (printP q.num q.den) := ⟨_, rfl⟩
                    rw [← hsp] at HPR HSB
                    have HTT := Lib.hid (fun W (h : Below wc.heap.size wc W) => HT.out W (ext_trans HB7.out (ext_trans HB13.out h)))
                    unfold frv at HFR
                    rw [← hqn, ← hqd] at HFR HPR
                    by_cases heq : printP q.num q.den = l
                    · rw [decide_eq_true heq] at HSB
                      have hsb := HSB.out
                      have HY2 := Lib.hid (show PaR l (qn, qd, 0) from by rw [hqn, hqd]; exact HY.out heq)
                      clear heq hsp hqn hqd HFAR HOTH HYES HY HT hq HSB hqb
                      go_wp2_with (first
                        | (go_at_call 24; refine (HFR.out).mono ?_; rintro e w14 ⟨rfl, x7⟩; clear d0 d1 d2 df dl)
                        | (go_at_call 6; refine (HPR.out _ (HTT.out _ (ext_trans x7 (pext_alloc _ _)))).mono ?_; rintro e w15 ⟨rfl, x8⟩; have h9 := ext_trans (ext_trans x7 (pext_alloc w14 _)) x8; obtain ⟨hc, hf, hz⟩ := HNC.out _ h9; obtain ⟨kc, kf, kz⟩ := new_cell x8; have c0 := hc 0; have c1 := hc 1; have e0 := kc 0; have e1 := kc 1))
                      (try simp only [Exit.inBlock, Exit.then])
                      refine bodyPost_ret (v := .tuple #[.agg #[.int .i64 qn, .int .i64 qd], .int .i64 0]) ?_ (by kernel_rfl) ?_
                      · (simp [results, Tryd.results9, go_sem, hc]; done)
                      exact ⟨(qn, qd, 0), HY2.out, rfl, res_below (ext_trans HBN.out (ext_trans HB13.out h9)) _ _⟩
                    · rw [decide_eq_false heq] at HSB
                      have hsb := HSB.out
                      have HX := Lib.hid (HOTH.out heq)
                      clear heq hsp hqn hqd HFAR HOTH HYES HY HT hq HSB hqb
                      go_wp2_with (first
                        | (go_at_call 24; refine (HFR.out).mono ?_; rintro e w14 ⟨rfl, x7⟩; clear d0 d1 d2 df dl)
                        | (go_at_call 6; refine (HPR.out _ (HTT.out _ (ext_trans x7 (pext_alloc _ _)))).mono ?_; rintro e w15 ⟨rfl, x8⟩; have h9 := ext_trans (ext_trans x7 (pext_alloc w14 _)) x8; obtain ⟨hc, hf, hz⟩ := HNC.out _ h9; obtain ⟨kc, kf, kz⟩ := new_cell x8; have c0 := hc 0; have c1 := hc 1; have e0 := kc 0; have e1 := kc 1))
                      (try simp only [Exit.inBlock, Exit.then])
                      refine bodyPost_ret (v := .tuple #[.agg #[.int .i64 0, .int .i64 0], .int .i64 6]) ?_ (by kernel_rfl) ?_
                      · (simp [results, Tryd.results9, go_sem, hc]; done)
                      exact ⟨(0, 0, 6), HX.out, rfl, res_below (ext_trans HBN.out (ext_trans HB13.out h9)) _ _⟩
                  · have HFR := Lib.hid (rfrac_no _ q wc hqb.2 hq)
                    unfold frv at HFR
                    have HX := Lib.hid (HFAR.out hq)
                    clear HFAR HOTH HYES HT hq HSB hqb
                    go_wp2_with (go_at_call 24; refine (HFR.out).mono ?_; rintro e w14 ⟨rfl, x7⟩; clear d0 d1 d2 df dl; have h9 := ext_trans x7 (pext_alloc w14 (.cells #[.int .i64 0, .int .i64 0] 23)); obtain ⟨hc, hf, hz⟩ := HNC.out _ h9; have c0 := hc 0; have c1 := hc 1)
                    (try simp only [Exit.inBlock, Exit.then])
                    refine bodyPost_ret (v := .tuple #[.agg #[.int .i64 0, .int .i64 0], .int .i64 6]) ?_ (by kernel_rfl) ?_
                    · (simp [results, Tryd.results9, go_sem, hc]; done)
                    exact ⟨(0, 0, 6), HX.out, rfl, res_below (ext_trans HBN.out (ext_trans HB13.out h9)) _ _⟩
end Go.Proofs.YtpdlogpkfnpbpaaDoor
