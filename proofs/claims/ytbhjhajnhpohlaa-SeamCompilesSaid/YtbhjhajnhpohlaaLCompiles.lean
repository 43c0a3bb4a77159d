/- SeamCompiles walked. Conditions: the graph and the runs read as lists, each slice within 2^47 bytes. -/
import Derived.Test.YtbhjhajnhpohlaaCma
import Derived.Test.YtbhjhajnhpohlaaCmb
import Derived.Test.YtbhjhajnhpohlaaOpc
import Derived.Test.YtbhjhajnhpohlaaThb
import Derived.Test.YtbhjhajnhpohlaaRo
namespace Go.Proofs.Ytbhjhajnhpohlaa
open Go.RowKit

/-- all that Compile can answer -/
theorem RetCm.one (N : Int) (l : List Sm) (ls : List (List Mv)) : ∃ (P : List Opr) (z : Int), P.length ≤ 400 ∧ ∀ w e w', RetCm w N l ls e w' → (∃ A c, e = .returned (.tuple #[.slice A (List.length P) c, .int .i64 z]) ∧ P.length ≤ c ∧ c ≤ maxLen ∧ OSl w' A P) ∧ Below w.heap.size w w' := by
  by_cases h1 : GOk N l
  · cases h2 : sewB l ls
    · refine ⟨[], 6, by simp, fun w e w' h => ?_⟩
      rcases h.2 with ⟨h3, _⟩ | ⟨_, _, h3⟩ | ⟨_, h3, _⟩
      · exact absurd h1 h3
      · exact ⟨⟨none, 0, h3, by simp, by unfold maxLen; omega, .inl rfl⟩, h.1⟩
      · rw [h2] at h3; cases h3
    · refine ⟨cmp l ls, 0, ?_, fun w e w' h => ?_⟩
      · have hs := sewB_iff.1 h2
        rw [cmp_len, hs.2.2]
        have := hs.num
        have := h1.2.2.1
        omega
      · rcases h.2 with ⟨h3, _⟩ | ⟨_, h3, _⟩ | ⟨_, _, A', c', h3, h4, h5, h6⟩
        · exact absurd h1 h3
        · rw [h2] at h3; cases h3
        · exact ⟨⟨A', c', h3, h4, h5, h6⟩, h.1⟩
  · refine ⟨[], 2, by simp, fun w e w' h => ?_⟩
    rcases h.2 with ⟨_, h3⟩ | ⟨h3, _⟩ | ⟨h3, _⟩
    · exact ⟨⟨none, 0, h3, by simp, by unfold maxLen; omega, .inl rfl⟩, h.1⟩
    · exact absurd h3 h1
    · exact absurd h3 h1
/-- all that Thread can answer -/
theorem RetTh.one (N : Int) (l : List Sm) : ∃ (T : List Int) (z : Int), T.length ≤ 8 ∧ ∀ w e w', RetTh w N l e w' → (∃ A c, e = .returned (.tuple #[.slice A (List.length T) c, .int .i64 z]) ∧ ISl w' A T) ∧ Below w.heap.size w w' := by
  by_cases h1 : GOk N l
  · refine ⟨(List.range 8).map (thV N l), 0, by simp, fun w e w' h => ?_⟩
    rcases h.2 with ⟨h3, _⟩ | ⟨_, b, h3, h4⟩
    · exact absurd h1 h3
    · refine ⟨⟨some ⟨b, 0, none⟩, 8, by rw [h3]; simp, h4.isl (by simp) (fun j hj => by simp)⟩, h.1⟩
  · refine ⟨[], 2, by simp, fun w e w' h => ?_⟩
    rcases h.2 with ⟨_, h3⟩ | ⟨h3, _⟩
    · exact ⟨⟨none, 0, h3, .inl rfl⟩, h.1⟩
    · exact absurd h3 h1
set_option maxRecDepth 100000 in
set_option maxHeartbeats 8000000 in
theorem law_compiles (N : Int) (A : Option Addr) (cap : Nat) (l : List Sm) (C : Option Addr) (cc : Nat) (ls : List (List Mv)) (w : World) (hc : l.length ≤ cap) (hcm : cap ≤ 9223372036854775807) (h : SSl w A l) (hcc : ls.length ≤ cc) (hcc2 : cc ≤ 9223372036854775807) (hr : RSl w C ls) (hz : RSz ls) :
    Calls Try.prog 13 #[.agg #[.int .i64 N, .slice A l.length cap], .slice C ls.length cc] w fun e w' => e = .returned (.bool true) ∧ Below w.heap.size w w' := by
  obtain ⟨P, z, hP, hcone⟩ := RetCm.one N l ls
  obtain ⟨T, y, hT, htone⟩ := RetTh.one N l
  have HG := Lib.hid (fun W (h : SSl W A l) => graph_any N A cap l W hc hcm h)
  have HL := Lib.hid (fun W (h : RSl W C ls) => long_any C cc ls W hcc hcc2 h)
  have HU := Lib.hid (fun W (h : RSl W C ls) => runs_any C cc ls W hcc hcc2 hz h)
  have HCO := Lib.hid (fun A' cap' C' cc' W (h1 : (cpy l).length ≤ cap') (h2 : cap' ≤ 9223372036854775807) (h : SSl W A' (cpy l)) (h3 : ls.length ≤ cc') (h4 : cc' ≤ 9223372036854775807) (hr : RSl W C' ls) => (Compile_any N A' cap' (cpy l) C' cc' ls W h1 h2 h h3 h4 hr).mono fun e w' h => hcone _ _ _ h.cpd)
  have HRC := Lib.hid (fun W h hr => (rCompile_any N A cap l C cc ls W hc hcm h hcc hcc2 hr).mono fun e w' h => hcone _ _ _ h)
  have HTH := Lib.hid (fun A' cap' W (h1 : (cpy l).length ≤ cap') (h2 : cap' ≤ 9223372036854775807) (h : SSl W A' (cpy l)) => (Thread_any N A' cap' (cpy l) W h1 h2 h).mono fun e w' h => htone _ _ _ h.cpd)
  have HRT := Lib.hid (fun W h => (rThread_any N A cap l W hc hcm h).mono fun e w' h => htone _ _ _ h)
  have HW := Lib.hid (fun W (hW : Below w.heap.size w W) => And.intro (h.ext hW) (hr.ext hW))
  have HB0 := Lib.hid (Bk.new 24 w #[.int .i64 N, .slice A l.length cap])
  have HE0 := Lib.hid (ext_alloc w (.cells #[.int .i64 N, .slice A l.length cap] 24))
  clear h hr hz hcone htone
  go_enter Try.func13, Try.ntmps13
  go_upto_region 3 with (first
    | (go_at_call 24; refine (HL.out _ (HW.out _ HE0.out).2).mono ?_; rintro e w1 ⟨⟨b, rfl⟩, hx1⟩; have B1 := bext HE0.out hx1 HE0.out.size; obtain ⟨f1, f2, f3⟩ := (HB0.out.ext hx1).facts; cases b)
    | (go_at_call 18; refine (awake_any _).mono ?_; rintro e w2 ⟨rfl, hx2⟩; have B2 := bext B1 hx2 B1.size))
  rotate_left
  · go_ret
    exact ⟨rfl, B2⟩
  · clear f1 f2 f3
    have HBW := Lib.hid (HB0.out.ext hx1)
    obtain ⟨f1, f2, f3⟩ := HBW.out.facts
    go_upto_region 5 with (first
      | (go_at_call 16; refine (HG.out _ (HW.out _ B1).1).mono ?_; rintro e w2 ⟨A2, c2, rfl, k1, k2, hs2, hx2⟩; have B2 := bext B1 hx2 B1.size; have HS2 := Lib.hid hs2; have HK2 := Lib.hid (HBW.out.ext hx2); clear hs2 hx2)
      | (go_at_call 26; refine (HU.out _ (HW.out _ B2).2).mono ?_; rintro e w3 ⟨A3, c3, rfl, k3, k4, hr3, hx3⟩; have B3 := bext B2 hx3 B2.size; have HS3 := Lib.hid (HS2.out.ext hx3); have HR3 := Lib.hid hr3; have HK3 := Lib.hid (HK2.out.ext hx3); clear hr3 hx3)
      | (go_at_call 50; refine (HCO.out _ _ _ _ _ k1 k2 HS3.out k3 k4 HR3.out).mono ?_; rintro e w4 ⟨⟨A4, c4, rfl, k5, k6, ho4⟩, hx4⟩; have B4 := bext B3 hx4 B3.size; have HO4 := Lib.hid ho4; have HK4 := Lib.hid (HK3.out.ext hx4); clear ho4 hx4 f1 f2 f3; obtain ⟨f1, f2, f3⟩ := HK4.out.facts)
      | (go_at_call 51; refine (HRC.out _ (HW.out _ B4).1 (HW.out _ B4).2).mono ?_; rintro e w5 ⟨⟨A5, c5, rfl, k7, k8, ho5⟩, hx5⟩; have B5 := bext B4 hx5 B4.size; have HO5 := Lib.hid ho5; have HO45 := Lib.hid (HO4.out.ext hx5); have HK5 := Lib.hid (HK4.out.ext hx5); clear ho5 hx5 f1 f2 f3; obtain ⟨f1, f2, f3⟩ := HK5.out.facts))
    go_upto_region 7 with (first
      | (go_at_call 16; refine (HG.out _ (HW.out _ B5).1).mono ?_; rintro e w6 ⟨A6, c6, rfl, k9, k10, hs6, hx6⟩; have B6 := bext B5 hx6 B5.size; have HS6 := Lib.hid hs6; have HK6 := Lib.hid (HK5.out.ext hx6); have HO46 := Lib.hid (HO45.out.ext hx6); have HO56 := Lib.hid (HO5.out.ext hx6); clear hs6 hx6)
      | (go_at_call 52; refine (HTH.out _ _ _ k9 k10 HS6.out).mono ?_; rintro e w7 ⟨⟨A7, c7, rfl, hi7⟩, hx7⟩; have B7 := bext B6 hx7 B6.size; have HI7 := Lib.hid hi7; have HK7 := Lib.hid (HK6.out.ext hx7); have HO47 := Lib.hid (HO46.out.ext hx7); have HO57 := Lib.hid (HO56.out.ext hx7); clear hi7 hx7 f1 f2 f3; obtain ⟨f1, f2, f3⟩ := HK7.out.facts)
      | (go_at_call 53; refine (HRT.out _ (HW.out _ B7).1).mono ?_; rintro e w8 ⟨⟨A8, c8, rfl, hi8⟩, hx8⟩; have B8 := bext B7 hx8 B7.size; have HI8 := Lib.hid hi8; have HI78 := Lib.hid (HI7.out.ext hx8); have HO48 := Lib.hid (HO47.out.ext hx8); have HO58 := Lib.hid (HO57.out.ext hx8); clear hi8 hx8 f1 f2 f3))
    unfold maxLen at k6 k8
    go_wp2_with (first
      | (go_at_call 55; refine (opsL_any A4 c4 P _ k5 (by omega) (by omega) HO48.out).mono ?_; rintro e w9 ⟨A9, c9, rfl, k11, k12, ho9, hx9⟩; have B9 := bext B8 hx9 B8.size; have HO9 := Lib.hid ho9; have HO59 := Lib.hid (HO58.out.ext hx9); have HI79 := Lib.hid (HI78.out.ext hx9); have HI89 := Lib.hid (HI8.out.ext hx9); clear ho9 hx9)
      | (go_at_call 54; refine (equalO_same A9 A5 c9 c5 P _ (by omega) HO9.out HO59.out).mono ?_; rintro e w10 ⟨rfl, hx10⟩; have B10 := bext B9 hx10 B9.size; have HI7a := Lib.hid (HI79.out.ext hx10); have HI8a := Lib.hid (HI89.out.ext hx10); clear hx10)
      | (go_at_call 23; refine (equal_same A7 A8 c7 c8 T _ (by omega) HI7a.out HI8a.out).mono ?_; rintro e w11 ⟨rfl, hx11⟩; have B11 := bext B10 hx11 B10.size; clear hx11)
      | (go_at_call 18; refine (awake_any _).mono ?_; rintro e w12 ⟨rfl, hx12⟩; have B12 := bext B11 hx12 B11.size))
    go_ret
    exact ⟨rfl, B12⟩
end Go.Proofs.Ytbhjhajnhpohlaa
