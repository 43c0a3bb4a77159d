/- Print of the reference walked. Conditions: the table of powers of ten is laid. -/
import Derived.Test.YtpdlogpkfnpbpaaDoorPr
import Derived.Test.YtpdlogpkfnpbpaaDoorFg
import Derived.BigQuiet
import Derived.Deep.RegionHeld3
namespace Go.Proofs.YtpdlogpkfnpbpaaDoor
open Go.RowKit

set_option maxRecDepth 100000 in
set_option maxHeartbeats 4000000 in
theorem rprint_any (a d : Int) (w : World) (hn : IsI a) (hd : IsI d) (ht : P10 w) :
    Calls Tryd.prog 6 #[.agg #[.int .i64 a, .int .i64 d]] w fun e w' => e = .returned (.tuple #[.string (BS (prS a d)), .int .i64 (if vldB a d = true then 0 else 2)]) ∧ Below w.heap.size w w' := by
  have hx0 := pext_alloc w (.cells #[.int .i64 a, .int .i64 d] 23)
  obtain ⟨W0, hW0⟩ : ∃ W0, W0 = w.alloc (.cells #[.int .i64 a, .int .i64 d] 23) := ⟨_, rfl⟩
  rw [← hW0] at hx0
  have HX0 := Lib.hid hx0
  have hS : ∀ w', Below W0.heap.size W0 w' → w'.cell? ⟨w.heap.size, 0, none⟩ = some (.int .i64 a) ∧ w'.cell? ⟨w.heap.size, 1, none⟩ = some (.int .i64 d) := by
    intro w' h
    have hlt : w.heap.size < W0.heap.size := by rw [hW0]; simp
    refine ⟨?_, ?_⟩ <;> (rw [h.cell hlt, hW0]; simp [go_sem])
  have HSS := Lib.hid hS
  have HT := Lib.hid (fun w' (h : Below W0.heap.size W0 w') => ht.ext (ext_trans hx0 h))
  have HV := Lib.hid (fun W => rvalid_any a d W hn hd)
  unfold frv at HV
  have HW0 := Lib.hid hW0
  have HB0 := Lib.hid (Below.refl W0.heap.size W0)
  clear hS hx0
  cases hv : vldB a d
  · rw [hv] at HV
    have HP := Lib.hid (show prS a d = [] from by unfold prS; rw [hv]; rfl)
    obtain ⟨c1, c2⟩ := HSS.out _ HB0.out
    clear hn hd
    go_enter Tryd.func6, Tryd.ntmps6
    go_upto_region 1 with (fail)
    rw [← HW0.out]
    clear hW0
    go_wp2_with (go_at_call 12; refine (HV.out _).mono ?_; rintro e w1 ⟨rfl, hx1⟩)
    refine bodyPost_ret (v := .tuple #[.string ⟨#[]⟩, .int .i64 2]) (by simp [results, Tryd.results6, go_sem]) rfl ?_
    exact ⟨by rw [HP.out]; rfl, ext_trans HX0.out hx1⟩
  · rw [hv] at HV
    have hvl : Vld a d := of_decide_eq_true hv
    obtain ⟨D, hD⟩ : ∃ D : Nat, D = d.toNat := ⟨_, rfl⟩
    have hdD : d = (D : Int) := by have := hvl.1; omega
    subst hdD
    obtain ⟨N, hN⟩ : ∃ N : Nat, N = a.natAbs := ⟨_, rfl⟩
    have hD1 : 1 ≤ D := by have := hvl.1; omega
    have hD9 : D ≤ 1000000000 := by have := hvl.2.1; omega
    have hN9 : N ≤ 1000000000 := by have := hvl.2.2.1; have := hvl.2.2.2.1; omega
    have HP := Lib.hid (show prS a D = (if a < 0 then [45] else []) ++ absP N D from by unfold prS; rw [if_pos hv, Int.toNat_natCast, hN]; rfl)
    unfold absP at HP
    obtain ⟨q1, q2⟩ := quo_nat N D hN9
    have hle : N / D ≤ N := Nat.div_le_self _ _
    have hmo : N % D < D := Nat.mod_lt _ hD1
    obtain ⟨Wq, hWq⟩ : ∃ Wq, Wq = N / D := ⟨_, rfl⟩
    obtain ⟨R, hR⟩ : ∃ R, R = N % D := ⟨_, rfl⟩
    rw [← hWq] at q1 hle HP
    rw [← hR] at q2 hmo HP
    have hD0 : (D : Int) ≠ 0 := by omega
    have hDz : ((D : Int) == 0) = false := by simpa using hD0
    have HI := Lib.hid (fun (n : Nat) W (h : n ≤ 1000000000) (hb : Below W0.heap.size W0 W) => itoa_any n W (by omega) (HT.out W hb))
    have hR9 : R ≤ 1000000000 := by omega
    have hW9 : Wq ≤ 1000000000 := by omega
    have hab : -1000000000 ≤ a ∧ a ≤ 1000000000 := by omega
    have hdm := Nat.div_add_mod N D
    rw [← hWq, ← hR] at hdm
    have HLT := Lib.hid (show (Wq = 0 → (N : Int) < (D : Int)) ∧ (¬ Wq = 0 → ¬ (N : Int) < (D : Int)) from by
      refine ⟨fun h => ?_, fun h => ?_⟩
      · rw [h, Nat.mul_zero] at hdm; omega
      · have := Nat.mul_le_mul_left D (show 1 ≤ Wq by omega)
        rw [Nat.mul_one] at this
        omega)
    clear hn hd hD hvl hv hWq hR hdm
    obtain ⟨c1, c2⟩ := HSS.out _ HB0.out
    by_cases h0 : a < 0
    · have hneg : -a = (N : Int) := by omega
      rw [if_pos h0] at HP
      clear hN
      go_enter Tryd.func6, Tryd.ntmps6
      go_upto_region 1 with (fail)
      rw [← HW0.out]
      clear hW0
      go_upto_region 3 with (go_at_call 12; refine (HV.out _).mono ?_; rintro e w1 ⟨rfl, hx1⟩)
      clear c1 c2
      have HB1 := Lib.hid hx1
      obtain ⟨c1, c2⟩ := HSS.out _ HB1.out
      have hlt1 : w.heap.size < w1.heap.size := by have := HB1.out.size; have : w.heap.size < W0.heap.size := by { rw [HW0.out]; simp }; omega
      go_quiet (fail)
      obtain ⟨w2, hw2⟩ : ∃ w2, w2 = w1.drewN nq := ⟨_, rfl⟩
      have HB2 := Lib.hid (show Below W0.heap.size W0 w2 from by rw [hw2]; exact pdrewN HB1.out nq)
      rw [← hw2]
      clear hw2 c1 c2 hx1
      obtain ⟨c1, c2⟩ := HSS.out _ HB2.out
      go_upto_region 6 with (fail)
      go_cut [6] (fun z wx => z = .string (BS (Lib.decDigits R ++ 47 :: Lib.decDigits D)) ∧ Below W0.heap.size W0 wx)
      case first =>
        have hbw := ext_trans HB2.out (ext_drew w2)
        obtain ⟨c1, c2⟩ := HSS.out _ hbw
        have hl1 := dec_len 9 R (by omega)
        have hl2 := dec_len 9 D (by omega)
        have HIR := Lib.hid (fun W hb => HI.out R W hR9 hb)
        have HID := Lib.hid (fun W hb => HI.out D W hD9 hb)
        obtain ⟨sR, hsR⟩ : ∃ sR, sR = BS (Lib.decDigits R) := ⟨_, rfl⟩
        obtain ⟨sD, hsD⟩ : ∃ sD, sD = BS (Lib.decDigits D) := ⟨_, rfl⟩
        have HAB := Lib.hid (show sR ++ (⟨#[47]⟩ : ByteArray) ++ sD = BS (Lib.decDigits R ++ 47 :: Lib.decDigits D) from by
          rw [hsR, hsD, show (⟨#[47]⟩ : ByteArray) = BS [47] from rfl, BS_app, BS_app, List.append_assoc]; rfl)
        have hz1 : sR.size ≤ 10 := by rw [hsR, BS_size]; exact hl1
        have hz2 : sD.size ≤ 10 := by rw [hsD, BS_size]; exact hl2
        have hz3 : (sR ++ (⟨#[47]⟩ : ByteArray)).size ≤ 11 := by rw [ByteArray.size_append]; show sR.size + 1 ≤ 11; omega
        rw [← hsR] at HIR
        rw [← hsD] at HID
        clear hl1 hl2 hsR hsD
        go_region_with (first
          | (go_at_call_of 11 (Value.int .i64 (R : Int)); refine (HIR.out _ ?_).mono ?_; (first | exact hbD | exact hbw); rintro e w4 ⟨rfl, hx4⟩; have hbR : Below W0.heap.size W0 w4 := (by first | exact ext_trans hbD hx4 | exact ext_trans hbw hx4); obtain ⟨c1, c2⟩ := HSS.out _ hbR)
          | (go_at_call_of 11 (Value.int .i64 (D : Int)); refine (HID.out _ ?_).mono ?_; (first | exact hbR | exact hbw); rintro e w5 ⟨rfl, hx5⟩; have hbD : Below W0.heap.size W0 w5 := (by first | exact ext_trans hbR hx5 | exact ext_trans hbw hx5); obtain ⟨c1, c2⟩ := HSS.out _ hbD))
        all_goals
          simp only [List.getElem_toArray, List.getElem_cons_zero, List.getElem_cons_succ, Act.put, List.setIfInBounds_toArray, List.set_cons_zero, List.set_cons_succ]
          go_wp2
          go_meet
          case rel =>
            first
            | exact ⟨by rw [← HAB.out], hbD⟩
            | exact ⟨by rw [← HAB.out], hbR⟩
      case rest =>
        obtain ⟨rfl, hbc⟩ := hcut
        have HBC := Lib.hid hbc
        obtain ⟨sp, hsp⟩ : ∃ sp, sp = BS (Lib.decDigits R ++ 47 :: Lib.decDigits D) := ⟨_, rfl⟩
        have hz4 : sp.size ≤ 21 := by
          have h1 := dec_len 9 R (by omega)
          have h2 := dec_len 9 D (by omega)
          rw [hsp, BS_size, List.length_append, List.length_cons]; omega
        have hz5 := dec_len 9 Wq (by omega)
        have HIW := Lib.hid (fun W hb => HI.out Wq W hW9 hb)
        obtain ⟨sw, hsw⟩ : ∃ sw, sw = BS (Lib.decDigits Wq) := ⟨_, rfl⟩
        have hz6 : sw.size ≤ 10 := by rw [hsw, BS_size]; exact hz5
        rw [← hsw] at HIW
        rw [← hsp]
        have HSP := Lib.hid hsp
        have HSW := Lib.hid hsw
        clear hsp hsw hz5 hbc c1 c2
        obtain ⟨c1, c2⟩ := HSS.out _ HBC.out
        have hlt3 : w.heap.size < wc.heap.size := by have := HBC.out.size; have : w.heap.size < W0.heap.size := by { rw [HW0.out]; simp }; omega
        by_cases hr0 : R = 0
        · rw [if_pos hr0] at HP
          have hr1 : (R : Int) = 0 := by omega
          have hr2 : ((R : Int) == 0) = true := by simpa using hr1
          have HE := Lib.hid (show (⟨#[45]⟩ : ByteArray) ++ sw = BS (prS a D) from by rw [HP.out, HSW.out, show (⟨#[45]⟩ : ByteArray) = BS [45] from rfl, BS_app])
          go_wp2_with (go_at_call 11; refine (HIW.out _ HBC.out).mono ?_; rintro e w6 ⟨rfl, hx6⟩)
          refine bodyPost_ret (v := .tuple #[.string ((⟨#[45]⟩ : ByteArray) ++ sw), .int .i64 0]) (by simp [results, Tryd.results6, go_sem]) rfl ?_
          exact ⟨by rw [HE.out], ext_trans HX0.out (ext_trans HBC.out hx6)⟩
        · rw [if_neg hr0] at HP
          have hr1 : (R : Int) ≠ 0 := by omega
          have hr2 : ((R : Int) == 0) = false := by simpa using hr1
          by_cases hw0 : Wq = 0
          · rw [if_pos hw0] at HP
            have hw1 : ((Wq : Int) == 0) = true := by simpa using hw0
            have HE := Lib.hid (show (⟨#[45]⟩ : ByteArray) ++ sp = BS (prS a D) from by rw [HP.out, HSP.out, show (⟨#[45]⟩ : ByteArray) = BS [45] from rfl, BS_app])
            have hn1 := HLT.out.1 hw0
            clear hr1 hw0 hr0 hw1
            go_wp2
            refine bodyPost_ret (v := .tuple #[.string ((⟨#[45]⟩ : ByteArray) ++ sp), .int .i64 0]) (by simp [results, Tryd.results6, go_sem]) rfl ?_
            exact ⟨by rw [HE.out], ext_trans HX0.out HBC.out⟩
          · rw [if_neg hw0] at HP
            have hw1 : ((Wq : Int) == 0) = false := by simpa using hw0
            have hz7 : ((⟨#[45]⟩ : ByteArray) ++ sw).size ≤ 11 := by
              have h1 : ((⟨#[45]⟩ : ByteArray)).size ≤ 1 := by decide
              rw [ByteArray.size_append]
              omega
            have hz8 : ((⟨#[45]⟩ : ByteArray) ++ sw ++ (⟨#[32]⟩ : ByteArray)).size ≤ 12 := by rw [ByteArray.size_append]; show ((⟨#[45]⟩ : ByteArray) ++ sw).size + 1 ≤ 12; omega
            have HE := Lib.hid (show (⟨#[45]⟩ : ByteArray) ++ sw ++ (⟨#[32]⟩ : ByteArray) ++ sp = BS (prS a D) from by rw [HP.out, HSP.out, HSW.out, show (⟨#[32]⟩ : ByteArray) = BS [32] from rfl, show (⟨#[45]⟩ : ByteArray) = BS [45] from rfl, BS_app, BS_app, BS_app, List.append_assoc, List.append_assoc]; rfl)
            have hn1 := HLT.out.2 hw0
            clear hr1 hw0 hr0 hw1
            go_wp2_with (go_at_call 11; refine (HIW.out _ HBC.out).mono ?_; rintro e w6 ⟨rfl, hx6⟩)
            refine bodyPost_ret (v := .tuple #[.string ((⟨#[45]⟩ : ByteArray) ++ sw ++ (⟨#[32]⟩ : ByteArray) ++ sp), .int .i64 0]) (by simp [results, Tryd.results6, go_sem]) rfl ?_
            exact ⟨by rw [HE.out], ext_trans HX0.out (ext_trans HBC.out hx6)⟩
    · have hpos : a = (N : Int) := by omega
      subst hpos
      rw [if_neg h0] at HP
      clear hN
      go_enter Tryd.func6, Tryd.ntmps6
      go_upto_region 1 with (fail)
      rw [← HW0.out]
      clear hW0
      go_upto_region 3 with (go_at_call 12; refine (HV.out _).mono ?_; rintro e w1 ⟨rfl, hx1⟩)
      clear c1 c2
      have HB1 := Lib.hid hx1
      obtain ⟨c1, c2⟩ := HSS.out _ HB1.out
      have hlt1 : w.heap.size < w1.heap.size := by have := HB1.out.size; have : w.heap.size < W0.heap.size := by { rw [HW0.out]; simp }; omega
      go_quiet (fail)
      obtain ⟨w2, hw2⟩ : ∃ w2, w2 = w1.drewN nq := ⟨_, rfl⟩
      have HB2 := Lib.hid (show Below W0.heap.size W0 w2 from by rw [hw2]; exact pdrewN HB1.out nq)
      rw [← hw2]
      clear hw2 c1 c2 hx1
      obtain ⟨c1, c2⟩ := HSS.out _ HB2.out
      go_upto_region 6 with (fail)
      go_cut [6] (fun z wx => z = .string (BS (Lib.decDigits R ++ 47 :: Lib.decDigits D)) ∧ Below W0.heap.size W0 wx)
      case first =>
        have hbw := ext_trans HB2.out (ext_drew w2)
        obtain ⟨c1, c2⟩ := HSS.out _ hbw
        have hl1 := dec_len 9 R (by omega)
        have hl2 := dec_len 9 D (by omega)
        have HIR := Lib.hid (fun W hb => HI.out R W hR9 hb)
        have HID := Lib.hid (fun W hb => HI.out D W hD9 hb)
        obtain ⟨sR, hsR⟩ : ∃ sR, sR = BS (Lib.decDigits R) := ⟨_, rfl⟩
        obtain ⟨sD, hsD⟩ : ∃ sD, sD = BS (Lib.decDigits D) := ⟨_, rfl⟩
        have HAB := Lib.hid (show sR ++ (⟨#[47]⟩ : ByteArray) ++ sD = BS (Lib.decDigits R ++ 47 :: Lib.decDigits D) from by
          rw [hsR, hsD, show (⟨#[47]⟩ : ByteArray) = BS [47] from rfl, BS_app, BS_app, List.append_assoc]; rfl)
        have hz1 : sR.size ≤ 10 := by rw [hsR, BS_size]; exact hl1
        have hz2 : sD.size ≤ 10 := by rw [hsD, BS_size]; exact hl2
        have hz3 : (sR ++ (⟨#[47]⟩ : ByteArray)).size ≤ 11 := by rw [ByteArray.size_append]; show sR.size + 1 ≤ 11; omega
        rw [← hsR] at HIR
        rw [← hsD] at HID
        clear hl1 hl2 hsR hsD
        go_region_with (first
          | (go_at_call_of 11 (Value.int .i64 (R : Int)); refine (HIR.out _ ?_).mono ?_; (first | exact hbD | exact hbw); rintro e w4 ⟨rfl, hx4⟩; have hbR : Below W0.heap.size W0 w4 := (by first | exact ext_trans hbD hx4 | exact ext_trans hbw hx4); obtain ⟨c1, c2⟩ := HSS.out _ hbR)
          | (go_at_call_of 11 (Value.int .i64 (D : Int)); refine (HID.out _ ?_).mono ?_; (first | exact hbR | exact hbw); rintro e w5 ⟨rfl, hx5⟩; have hbD : Below W0.heap.size W0 w5 := (by first | exact ext_trans hbR hx5 | exact ext_trans hbw hx5); obtain ⟨c1, c2⟩ := HSS.out _ hbD))
        all_goals
          simp only [List.getElem_toArray, List.getElem_cons_zero, List.getElem_cons_succ, Act.put, List.setIfInBounds_toArray, List.set_cons_zero, List.set_cons_succ]
          go_wp2
          go_meet
          case rel =>
            first
            | exact ⟨by rw [← HAB.out], hbD⟩
            | exact ⟨by rw [← HAB.out], hbR⟩
      case rest =>
        obtain ⟨rfl, hbc⟩ := hcut
        have HBC := Lib.hid hbc
        obtain ⟨sp, hsp⟩ : ∃ sp, sp = BS (Lib.decDigits R ++ 47 :: Lib.decDigits D) := ⟨_, rfl⟩
        have hz4 : sp.size ≤ 21 := by
          have h1 := dec_len 9 R (by omega)
          have h2 := dec_len 9 D (by omega)
          rw [hsp, BS_size, List.length_append, List.length_cons]; omega
        have hz5 := dec_len 9 Wq (by omega)
        have HIW := Lib.hid (fun W hb => HI.out Wq W hW9 hb)
        obtain ⟨sw, hsw⟩ : ∃ sw, sw = BS (Lib.decDigits Wq) := ⟨_, rfl⟩
        have hz6 : sw.size ≤ 10 := by rw [hsw, BS_size]; exact hz5
        rw [← hsw] at HIW
        rw [← hsp]
        have HSP := Lib.hid hsp
        have HSW := Lib.hid hsw
        clear hsp hsw hz5 hbc c1 c2
        obtain ⟨c1, c2⟩ := HSS.out _ HBC.out
        have hlt3 : w.heap.size < wc.heap.size := by have := HBC.out.size; have : w.heap.size < W0.heap.size := by { rw [HW0.out]; simp }; omega
        by_cases hr0 : R = 0
        · rw [if_pos hr0] at HP
          have hr1 : (R : Int) = 0 := by omega
          have hr2 : ((R : Int) == 0) = true := by simpa using hr1
          have HE := Lib.hid (show (⟨#[]⟩ : ByteArray) ++ sw = BS (prS (N : Int) D) from by rw [HP.out, HSW.out, show (⟨#[]⟩ : ByteArray) = BS [] from rfl, BS_app])
          go_wp2_with (go_at_call 11; refine (HIW.out _ HBC.out).mono ?_; rintro e w6 ⟨rfl, hx6⟩)
          refine bodyPost_ret (v := .tuple #[.string ((⟨#[]⟩ : ByteArray) ++ sw), .int .i64 0]) (by simp [results, Tryd.results6, go_sem]) rfl ?_
          exact ⟨by rw [HE.out], ext_trans HX0.out (ext_trans HBC.out hx6)⟩
        · rw [if_neg hr0] at HP
          have hr1 : (R : Int) ≠ 0 := by omega
          have hr2 : ((R : Int) == 0) = false := by simpa using hr1
          by_cases hw0 : Wq = 0
          · rw [if_pos hw0] at HP
            have hw1 : ((Wq : Int) == 0) = true := by simpa using hw0
            have HE := Lib.hid (show (⟨#[]⟩ : ByteArray) ++ sp = BS (prS (N : Int) D) from by rw [HP.out, HSP.out, show (⟨#[]⟩ : ByteArray) = BS [] from rfl, BS_app])
            have hn1 := HLT.out.1 hw0
            clear hr1 hw0 hr0 hw1
            go_wp2
            refine bodyPost_ret (v := .tuple #[.string ((⟨#[]⟩ : ByteArray) ++ sp), .int .i64 0]) (by simp [results, Tryd.results6, go_sem]) rfl ?_
            exact ⟨by rw [HE.out], ext_trans HX0.out HBC.out⟩
          · rw [if_neg hw0] at HP
            have hw1 : ((Wq : Int) == 0) = false := by simpa using hw0
            have hz7 : ((⟨#[]⟩ : ByteArray) ++ sw).size ≤ 11 := by
              have h1 : ((⟨#[]⟩ : ByteArray)).size ≤ 1 := by decide
              rw [ByteArray.size_append]
              omega
            have hz8 : ((⟨#[]⟩ : ByteArray) ++ sw ++ (⟨#[32]⟩ : ByteArray)).size ≤ 12 := by rw [ByteArray.size_append]; show ((⟨#[]⟩ : ByteArray) ++ sw).size + 1 ≤ 12; omega
            have HE := Lib.hid (show (⟨#[]⟩ : ByteArray) ++ sw ++ (⟨#[32]⟩ : ByteArray) ++ sp = BS (prS (N : Int) D) from by rw [HP.out, HSP.out, HSW.out, show (⟨#[32]⟩ : ByteArray) = BS [32] from rfl, show (⟨#[]⟩ : ByteArray) = BS [] from rfl, BS_app, BS_app, BS_app, List.append_assoc, List.append_assoc]; rfl)
            have hn1 := HLT.out.2 hw0
            clear hr1 hw0 hr0 hw1
            go_wp2_with (go_at_call 11; refine (HIW.out _ HBC.out).mono ?_; rintro e w6 ⟨rfl, hx6⟩)
            refine bodyPost_ret (v := .tuple #[.string ((⟨#[]⟩ : ByteArray) ++ sw ++ (⟨#[32]⟩ : ByteArray) ++ sp), .int .i64 0]) (by simp [results, Tryd.results6, go_sem]) rfl ?_
            exact ⟨by rw [HE.out], ext_trans HX0.out (ext_trans HBC.out hx6)⟩
end Go.Proofs.YtpdlogpkfnpbpaaDoor
