/- SeamFuel walked; printed by wip/gen_lfuel.py. Conditions: the graph and the program read as lists. -/
import Derived.Test.YtbhjhajnhpohlaaAlk
import Derived.Test.YtbhjhajnhpohlaaOpn
import Derived.Test.YtbhjhajnhpohlaaMxf
import Derived.Test.YtbhjhajnhpohlaaRo
import Derived.Test.YtbhjhajnhpohlaaGr
namespace Go.Proofs.Ytbhjhajnhpohlaa
open Go.RowKit

/-- the fuel of the law -/
def fu0 (fuel : Int) : Int := wrap64 ((IntKind.u64.wrap fuel).tmod 50000)
theorem fu0_bd (fuel : Int) : 0 ≤ fu0 fuel ∧ fu0 fuel ≤ 49999 := by
  unfold fu0
  have h0 : 0 ≤ IntKind.u64.wrap fuel := by simp [IntKind.wrap, IntKind.signed]; omega
  have h1 : 0 ≤ (IntKind.u64.wrap fuel).tmod 50000 := Int.tmod_nonneg _ h0
  have h2 : (IntKind.u64.wrap fuel).tmod 50000 < 50000 := Int.tmod_lt_of_pos _ (by decide)
  have h3 : wrap64 ((IntKind.u64.wrap fuel).tmod 50000) = (IntKind.u64.wrap fuel).tmod 50000 := by unfold wrap64; omega
  omega
/-- Run at a copied graph, read -/
def RunIs (N : Int) (l : List Sm) (ops : List Opr) (F f s a h k er : Int) (L U : List Int) : Prop :=
  ∀ (A' : Option Addr) (cap' : Nat) (C' : Option Addr) (cc' : Nat) W, (cpy l).length ≤ cap' → cap' ≤ 9223372036854775807 → SSl W A' (cpy l) → ops.length ≤ cc' → cc' ≤ 9223372036854775807 → OSl W C' ops → Calls Try.prog 41 #[.agg #[.int .i64 N, .slice A' (cpy l).length cap'], .slice C' ops.length cc', .int .i64 F] W fun e W' => Below W.heap.size W W' ∧ ∃ v, e = .returned (.tuple #[v, .int .i64 er]) ∧ RepIs W' v f s a h k L U
theorem RunIs.no {N : Int} {l : List Sm} {ops : List Opr} {F : Int} (hn : ¬ RnOk N l ops F) : RunIs N l ops F 0 0 0 0 0 (rnErr N l ops F) [] [] :=
  fun A' cap' C' cc' W h1 h2 h3 h4 h5 h6 => (Run_any N A' cap' (cpy l) C' cc' ops F W h1 h2 h3 h4 h5 h6).mono fun _ _ hr => (hr.cpd cpy_ok cpy_eq).no hn
theorem RunIs.yes {N : Int} {l : List Sm} {ops : List Opr} {F : Int} (hn : RnOk N l ops F) : RunIs N l ops F (rnT N l ops F).1 (rnT N l ops F).2.s (rnT N l ops F).2.a (rnT N l ops F).2.h (rnT N l ops F).2.k 0 (tabL l.length (rnT N l ops F).2.sw) (tabL 8 (rnT N l ops F).2.us) :=
  fun A' cap' C' cc' W h1 h2 h3 h4 h5 h6 => (Run_any N A' cap' (cpy l) C' cc' ops F W h1 h2 h3 h4 h5 h6).mono fun _ _ hr => (hr.cpd cpy_ok cpy_eq).yes hn
section
variable (N : Int) (A : Option Addr) (cap : Nat) (l : List Sm) (C : Option Addr) (cc : Nat) (ops : List Opr) (fuel : Int) (w : World) (hc : l.length ≤ cap) (hcm : cap ≤ 9223372036854775807) (h : SSl w A l) (hcc : ops.length ≤ cc) (hcc2 : cc ≤ 9223372036854775807) (hr : OSl w C ops)
include hc hcm h hcc hcc2 hr
set_option maxRecDepth 100000 in
set_option maxHeartbeats 4000000 in
theorem fuel_nograph (F : Int) (hfu : F = wrap64 ((IntKind.u64.wrap fuel).tmod 50000)) (hF0 : 0 ≤ F) (hF1 : F ≤ 49999) (h5 : ¬ 4096 < ops.length) (hok : ¬ GOk N l) (f s a hh k : Int) (L U : List Int) (f' s' a' hh' k' : Int) (L' U' : List Int) (h1 : RunIs N l ops F f s a hh k 2 L U) (h2 : RunIs N l ops (2 * F + 1) f' s' a' hh' k' 2 L' U') : Calls Try.prog 10 #[.agg #[.int .i64 N, .slice A l.length cap], .slice C ops.length cc, .int .i64 fuel] w fun e w' => e = .returned (.bool true) ∧ Below w.heap.size w w' := by
  have HB0 := Lib.hid (Bk.new 24 w #[.int .i64 N, .slice A l.length cap])
  have HE0 := Lib.hid (ext_alloc w (.cells #[.int .i64 N, .slice A l.length cap] 24))
  have HG := Lib.hid (fun W (h : SSl W A l) => graph_any N A cap l W hc hcm h)
  have HP := Lib.hid (fun W (h : OSl W C ops) => program_any C cc ops W hcc hcc2 (by omega) h)
  have HW := Lib.hid (fun W (hW : Below w.heap.size w W) => And.intro (h.ext hW) (hr.ext hW))
  have HFU := Lib.hid hfu
  have HR1 := Lib.hid h1
  have HR2 := Lib.hid h2
  have HV := Lib.hid (fun W (h : SSl W A l) => rvalid_any N A cap l W hc hcm h)
  rw [vldG_no hok] at HV
  clear h hr h1 h2 hfu
  clear hok
  go_enter Try.func10, Try.ntmps10
  go_upto_region 4 with (fail)
  rw [← HFU.out]
  clear HFU
  obtain ⟨f1, f2, f3⟩ := HB0.out.facts
  go_upto_region 5 with (first
    | (go_at_call 16; refine (HG.out _ (HW.out _ HE0.out).1).mono ?_; rintro e w1 ⟨A2, c2, rfl, k1, k2, hs1, hx1⟩; have B1 := bext HE0.out hx1 HE0.out.size)
    | (go_at_call 42; refine (HP.out _ (HW.out _ B1).2).mono ?_; rintro e w2 ⟨A3, c3, rfl, k3, k4, ho2, hx2⟩; have B2 := bext B1 hx2 B1.size; have hs2 := hs1.ext hx2)
    | (go_at_call 41; refine (HR1.out _ _ _ _ _ k1 k2 hs2 k3 k4 ho2).mono ?_; rintro e w3 ⟨hx3, v, rfl, hv⟩; have B3 := bext B2 hx3 B2.size; obtain ⟨q1, q2, q3, q4, rfl, hv1, hv2⟩ := hv))
  have hx4 := ext_alloc w3 (.cells #[.int .i64 f, .int .i64 s, .int .i64 a, .int .i64 hh, .int .i64 k, .slice q1 L.length q2, .slice q3 U.length q4] 76)
  have hn4 := Bk.new 76 w3 #[.int .i64 f, .int .i64 s, .int .i64 a, .int .i64 hh, .int .i64 k, .slice q1 L.length q2, .slice q3 U.length q4]
  obtain ⟨X, hX⟩ : ∃ X, X = w3.alloc (.cells #[.int .i64 f, .int .i64 s, .int .i64 a, .int .i64 hh, .int .i64 k, .slice q1 L.length q2, .slice q3 U.length q4] 76) := ⟨_, rfl⟩
  rw [← hX] at hx4 hn4 ⊢
  have B4 := bext B3 hx4 B3.size
  have HBX := Lib.hid ((((HB0.out.ext hx1).ext hx2).ext hx3).ext hx4)
  have HNX := Lib.hid hn4
  have HV1 := Lib.hid (show RepIs X (.agg #[.int .i64 f, .int .i64 s, .int .i64 a, .int .i64 hh, .int .i64 k, .slice q1 L.length q2, .slice q3 U.length q4]) f s a hh k L U from RepIs.ext ⟨_, _, _, _, rfl, hv1, hv2⟩ hx4)
  clear hX f1 f2 f3 hx1 hx2 hx3 hx4 hn4 hv1 hv2 hs1 hs2 ho2 B1 B2 B3 k1 k2 k3 k4 HR1
  obtain ⟨f1, f2, f3⟩ := HBX.out.facts
  have hw2 : IntKind.i64.wrap (2 * F) = 2 * F := IntWalk.i64_in _ ⟨by omega, by omega⟩
  have hw3 : IntKind.i64.wrap (2 * F + 1) = 2 * F + 1 := IntWalk.i64_in _ ⟨by omega, by omega⟩
  go_upto_region 6 with (first
    | (go_at_call 16; refine (HG.out _ (HW.out _ B4).1).mono ?_; rintro e w5 ⟨A2, c2, rfl, k1, k2, hs1, hx5⟩; have B5 := bext B4 hx5 B4.size)
    | (go_at_call 42; refine (HP.out _ (HW.out _ B5).2).mono ?_; rintro e w6 ⟨A3, c3, rfl, k3, k4, ho2, hx6⟩; have B6 := bext B5 hx6 B5.size; have hs2 := hs1.ext hx6)
    | (go_at_call 41; refine (HR2.out _ _ _ _ _ k1 k2 hs2 k3 k4 ho2).mono ?_; rintro e w7 ⟨hx7, v, rfl, hv⟩; have B7 := bext B6 hx7 B6.size; obtain ⟨r1, r2, r3, r4, rfl, hv1, hv2⟩ := hv))
  have hx8 := ext_alloc w7 (.cells #[.int .i64 f', .int .i64 s', .int .i64 a', .int .i64 hh', .int .i64 k', .slice r1 L'.length r2, .slice r3 U'.length r4] 76)
  have hn8 := Bk.new 76 w7 #[.int .i64 f', .int .i64 s', .int .i64 a', .int .i64 hh', .int .i64 k', .slice r1 L'.length r2, .slice r3 U'.length r4]
  obtain ⟨Y, hY⟩ : ∃ Y, Y = w7.alloc (.cells #[.int .i64 f', .int .i64 s', .int .i64 a', .int .i64 hh', .int .i64 k', .slice r1 L'.length r2, .slice r3 U'.length r4] 76) := ⟨_, rfl⟩
  rw [← hY] at hx8 hn8 ⊢
  have B8 := bext B7 hx8 B7.size
  have HV2 := Lib.hid (show RepIs Y (.agg #[.int .i64 f', .int .i64 s', .int .i64 a', .int .i64 hh', .int .i64 k', .slice r1 L'.length r2, .slice r3 U'.length r4]) f' s' a' hh' k' L' U' from RepIs.ext ⟨_, _, _, _, rfl, hv1, hv2⟩ hx8)
  have HV3 := Lib.hid ((((HV1.out.ext hx5).ext hx6).ext hx7).ext hx8)
  have HBY := Lib.hid ((((HBX.out.ext hx5).ext hx6).ext hx7).ext hx8)
  have h9 := (((HNX.out.ext hx5).ext hx6).ext hx7).ext hx8
  clear f1 f2 f3
  have HN8 := Lib.hid hn8
  have HN9 := Lib.hid h9
  obtain ⟨f1, f2, f3⟩ := hn8.facts
  obtain ⟨g1, g2, g3⟩ := h9.facts
  obtain ⟨e1, e2, e3⟩ := HBY.out.facts
  clear hY hx5 hx6 hx7 hx8 hn8 h9 hv1 hv2 B4 B5 B6 B7 k1 k2 k3 k4 hs1 hs2 ho2 HR2 HG HP
  go_wp2_with (first
    | (go_at_call 22; refine (HV.out _ (HW.out _ B8).1).mono ?_; rintro e w9 ⟨rfl, hx9⟩; have B9 := bext B8 hx9 B8.size)
    | (go_at_call 18; refine (awake_any _).mono ?_; rintro e w11 ⟨rfl, hx11⟩; have B11 := bext B9 hx11 B9.size))
  go_ret
  exact ⟨rfl, B11⟩
set_option maxRecDepth 100000 in
set_option maxHeartbeats 4000000 in
theorem fuel_noprog (F : Int) (hfu : F = wrap64 ((IntKind.u64.wrap fuel).tmod 50000)) (hF0 : 0 ≤ F) (hF1 : F ≤ 49999) (h5 : ¬ 4096 < ops.length) (hok : GOk N l) (hp : ¬ PrOk ops) (f s a hh k : Int) (L U : List Int) (f' s' a' hh' k' : Int) (L' U' : List Int) (h1 : RunIs N l ops F f s a hh k 2 L U) (h2 : RunIs N l ops (2 * F + 1) f' s' a' hh' k' 2 L' U') : Calls Try.prog 10 #[.agg #[.int .i64 N, .slice A l.length cap], .slice C ops.length cc, .int .i64 fuel] w fun e w' => e = .returned (.bool true) ∧ Below w.heap.size w w' := by
  have HB0 := Lib.hid (Bk.new 24 w #[.int .i64 N, .slice A l.length cap])
  have HE0 := Lib.hid (ext_alloc w (.cells #[.int .i64 N, .slice A l.length cap] 24))
  have HG := Lib.hid (fun W (h : SSl W A l) => graph_any N A cap l W hc hcm h)
  have HP := Lib.hid (fun W (h : OSl W C ops) => program_any C cc ops W hcc hcc2 (by omega) h)
  have HW := Lib.hid (fun W (hW : Below w.heap.size w W) => And.intro (h.ext hW) (hr.ext hW))
  have HFU := Lib.hid hfu
  have HR1 := Lib.hid h1
  have HR2 := Lib.hid h2
  have HV := Lib.hid (fun W (h : SSl W A l) => rvalid_any N A cap l W hc hcm h)
  rw [vldG_yes hok] at HV
  have HPR := Lib.hid (fun W (h : OSl W C ops) => rprog_any C cc ops W hcc hcc2 h)
  have hpt : decide (PrOk ops) = false := decide_eq_false hp
  rw [hpt] at HPR
  clear h hr h1 h2 hfu
  clear hok hp hpt
  go_enter Try.func10, Try.ntmps10
  go_upto_region 4 with (fail)
  rw [← HFU.out]
  clear HFU
  obtain ⟨f1, f2, f3⟩ := HB0.out.facts
  go_upto_region 5 with (first
    | (go_at_call 16; refine (HG.out _ (HW.out _ HE0.out).1).mono ?_; rintro e w1 ⟨A2, c2, rfl, k1, k2, hs1, hx1⟩; have B1 := bext HE0.out hx1 HE0.out.size)
    | (go_at_call 42; refine (HP.out _ (HW.out _ B1).2).mono ?_; rintro e w2 ⟨A3, c3, rfl, k3, k4, ho2, hx2⟩; have B2 := bext B1 hx2 B1.size; have hs2 := hs1.ext hx2)
    | (go_at_call 41; refine (HR1.out _ _ _ _ _ k1 k2 hs2 k3 k4 ho2).mono ?_; rintro e w3 ⟨hx3, v, rfl, hv⟩; have B3 := bext B2 hx3 B2.size; obtain ⟨q1, q2, q3, q4, rfl, hv1, hv2⟩ := hv))
  have hx4 := ext_alloc w3 (.cells #[.int .i64 f, .int .i64 s, .int .i64 a, .int .i64 hh, .int .i64 k, .slice q1 L.length q2, .slice q3 U.length q4] 76)
  have hn4 := Bk.new 76 w3 #[.int .i64 f, .int .i64 s, .int .i64 a, .int .i64 hh, .int .i64 k, .slice q1 L.length q2, .slice q3 U.length q4]
  obtain ⟨X, hX⟩ : ∃ X, X = w3.alloc (.cells #[.int .i64 f, .int .i64 s, .int .i64 a, .int .i64 hh, .int .i64 k, .slice q1 L.length q2, .slice q3 U.length q4] 76) := ⟨_, rfl⟩
  rw [← hX] at hx4 hn4 ⊢
  have B4 := bext B3 hx4 B3.size
  have HBX := Lib.hid ((((HB0.out.ext hx1).ext hx2).ext hx3).ext hx4)
  have HNX := Lib.hid hn4
  have HV1 := Lib.hid (show RepIs X (.agg #[.int .i64 f, .int .i64 s, .int .i64 a, .int .i64 hh, .int .i64 k, .slice q1 L.length q2, .slice q3 U.length q4]) f s a hh k L U from RepIs.ext ⟨_, _, _, _, rfl, hv1, hv2⟩ hx4)
  clear hX f1 f2 f3 hx1 hx2 hx3 hx4 hn4 hv1 hv2 hs1 hs2 ho2 B1 B2 B3 k1 k2 k3 k4 HR1
  obtain ⟨f1, f2, f3⟩ := HBX.out.facts
  have hw2 : IntKind.i64.wrap (2 * F) = 2 * F := IntWalk.i64_in _ ⟨by omega, by omega⟩
  have hw3 : IntKind.i64.wrap (2 * F + 1) = 2 * F + 1 := IntWalk.i64_in _ ⟨by omega, by omega⟩
  go_upto_region 6 with (first
    | (go_at_call 16; refine (HG.out _ (HW.out _ B4).1).mono ?_; rintro e w5 ⟨A2, c2, rfl, k1, k2, hs1, hx5⟩; have B5 := bext B4 hx5 B4.size)
    | (go_at_call 42; refine (HP.out _ (HW.out _ B5).2).mono ?_; rintro e w6 ⟨A3, c3, rfl, k3, k4, ho2, hx6⟩; have B6 := bext B5 hx6 B5.size; have hs2 := hs1.ext hx6)
    | (go_at_call 41; refine (HR2.out _ _ _ _ _ k1 k2 hs2 k3 k4 ho2).mono ?_; rintro e w7 ⟨hx7, v, rfl, hv⟩; have B7 := bext B6 hx7 B6.size; obtain ⟨r1, r2, r3, r4, rfl, hv1, hv2⟩ := hv))
  have hx8 := ext_alloc w7 (.cells #[.int .i64 f', .int .i64 s', .int .i64 a', .int .i64 hh', .int .i64 k', .slice r1 L'.length r2, .slice r3 U'.length r4] 76)
  have hn8 := Bk.new 76 w7 #[.int .i64 f', .int .i64 s', .int .i64 a', .int .i64 hh', .int .i64 k', .slice r1 L'.length r2, .slice r3 U'.length r4]
  obtain ⟨Y, hY⟩ : ∃ Y, Y = w7.alloc (.cells #[.int .i64 f', .int .i64 s', .int .i64 a', .int .i64 hh', .int .i64 k', .slice r1 L'.length r2, .slice r3 U'.length r4] 76) := ⟨_, rfl⟩
  rw [← hY] at hx8 hn8 ⊢
  have B8 := bext B7 hx8 B7.size
  have HV2 := Lib.hid (show RepIs Y (.agg #[.int .i64 f', .int .i64 s', .int .i64 a', .int .i64 hh', .int .i64 k', .slice r1 L'.length r2, .slice r3 U'.length r4]) f' s' a' hh' k' L' U' from RepIs.ext ⟨_, _, _, _, rfl, hv1, hv2⟩ hx8)
  have HV3 := Lib.hid ((((HV1.out.ext hx5).ext hx6).ext hx7).ext hx8)
  have HBY := Lib.hid ((((HBX.out.ext hx5).ext hx6).ext hx7).ext hx8)
  have h9 := (((HNX.out.ext hx5).ext hx6).ext hx7).ext hx8
  clear f1 f2 f3
  have HN8 := Lib.hid hn8
  have HN9 := Lib.hid h9
  obtain ⟨f1, f2, f3⟩ := hn8.facts
  obtain ⟨g1, g2, g3⟩ := h9.facts
  obtain ⟨e1, e2, e3⟩ := HBY.out.facts
  clear hY hx5 hx6 hx7 hx8 hn8 h9 hv1 hv2 B4 B5 B6 B7 k1 k2 k3 k4 hs1 hs2 ho2 HR2 HG HP
  go_wp2_with (first
    | (go_at_call 22; refine (HV.out _ (HW.out _ B8).1).mono ?_; rintro e w9 ⟨rfl, hx9⟩; have B9 := bext B8 hx9 B8.size)
    | (go_at_call 45; refine (HPR.out _ (HW.out _ B9).2).mono ?_; rintro e w10 ⟨rfl, hx10⟩; have B10 := bext B9 hx10 B9.size)
    | (go_at_call 18; refine (awake_any _).mono ?_; rintro e w11 ⟨rfl, hx11⟩; have B11 := bext B10 hx11 B10.size))
  go_ret
  exact ⟨rfl, B11⟩
set_option maxRecDepth 100000 in
set_option maxHeartbeats 4000000 in
theorem fuel_ended (F : Int) (hfu : F = wrap64 ((IntKind.u64.wrap fuel).tmod 50000)) (hF0 : 0 ≤ F) (hF1 : F ≤ 49999) (h5 : ¬ 4096 < ops.length) (f s a hh k : Int) (L U : List Int) (f' s' a' hh' k' : Int) (L' U' : List Int) (h10 : f ≠ 10) (hs : s ≤ F) (hL : L.length ≤ 9223372036854775807) (hU : U.length ≤ 9223372036854775807) (hsame : f' = f ∧ s' = s ∧ a' = a ∧ hh' = hh ∧ k' = k ∧ L' = L ∧ U' = U) (h1 : RunIs N l ops F f s a hh k 0 L U) (h2 : RunIs N l ops (2 * F + 1) f' s' a' hh' k' 0 L' U') : Calls Try.prog 10 #[.agg #[.int .i64 N, .slice A l.length cap], .slice C ops.length cc, .int .i64 fuel] w fun e w' => e = .returned (.bool true) ∧ Below w.heap.size w w' := by
  obtain ⟨rfl, rfl, rfl, rfl, rfl, rfl, rfl⟩ := hsame
  have HB0 := Lib.hid (Bk.new 24 w #[.int .i64 N, .slice A l.length cap])
  have HE0 := Lib.hid (ext_alloc w (.cells #[.int .i64 N, .slice A l.length cap] 24))
  have HG := Lib.hid (fun W (h : SSl W A l) => graph_any N A cap l W hc hcm h)
  have HP := Lib.hid (fun W (h : OSl W C ops) => program_any C cc ops W hcc hcc2 (by omega) h)
  have HW := Lib.hid (fun W (hW : Below w.heap.size w W) => And.intro (h.ext hW) (hr.ext hW))
  have HFU := Lib.hid hfu
  have HR1 := Lib.hid h1
  have HR2 := Lib.hid h2
  have HAL := Lib.hid (fun v v' W (hv : RepIs W v f' s' a' hh' k' L' U') (hv' : RepIs W v' f' s' a' hh' k' L' U') => same_any f' s' a' hh' k' L' U' v v' W hL hU hv hv')
  clear h hr h1 h2 hfu
  clear hL hU
  go_enter Try.func10, Try.ntmps10
  go_upto_region 4 with (fail)
  rw [← HFU.out]
  clear HFU
  obtain ⟨f1, f2, f3⟩ := HB0.out.facts
  go_upto_region 5 with (first
    | (go_at_call 16; refine (HG.out _ (HW.out _ HE0.out).1).mono ?_; rintro e w1 ⟨A2, c2, rfl, k1, k2, hs1, hx1⟩; have B1 := bext HE0.out hx1 HE0.out.size)
    | (go_at_call 42; refine (HP.out _ (HW.out _ B1).2).mono ?_; rintro e w2 ⟨A3, c3, rfl, k3, k4, ho2, hx2⟩; have B2 := bext B1 hx2 B1.size; have hs2 := hs1.ext hx2)
    | (go_at_call 41; refine (HR1.out _ _ _ _ _ k1 k2 hs2 k3 k4 ho2).mono ?_; rintro e w3 ⟨hx3, v, rfl, hv⟩; have B3 := bext B2 hx3 B2.size; obtain ⟨q1, q2, q3, q4, rfl, hv1, hv2⟩ := hv))
  have hx4 := ext_alloc w3 (.cells #[.int .i64 f', .int .i64 s', .int .i64 a', .int .i64 hh', .int .i64 k', .slice q1 L'.length q2, .slice q3 U'.length q4] 76)
  have hn4 := Bk.new 76 w3 #[.int .i64 f', .int .i64 s', .int .i64 a', .int .i64 hh', .int .i64 k', .slice q1 L'.length q2, .slice q3 U'.length q4]
  obtain ⟨X, hX⟩ : ∃ X, X = w3.alloc (.cells #[.int .i64 f', .int .i64 s', .int .i64 a', .int .i64 hh', .int .i64 k', .slice q1 L'.length q2, .slice q3 U'.length q4] 76) := ⟨_, rfl⟩
  rw [← hX] at hx4 hn4 ⊢
  have B4 := bext B3 hx4 B3.size
  have HBX := Lib.hid ((((HB0.out.ext hx1).ext hx2).ext hx3).ext hx4)
  have HNX := Lib.hid hn4
  have HV1 := Lib.hid (show RepIs X (.agg #[.int .i64 f', .int .i64 s', .int .i64 a', .int .i64 hh', .int .i64 k', .slice q1 L'.length q2, .slice q3 U'.length q4]) f' s' a' hh' k' L' U' from RepIs.ext ⟨_, _, _, _, rfl, hv1, hv2⟩ hx4)
  clear hX f1 f2 f3 hx1 hx2 hx3 hx4 hn4 hv1 hv2 hs1 hs2 ho2 B1 B2 B3 k1 k2 k3 k4 HR1
  obtain ⟨f1, f2, f3⟩ := HBX.out.facts
  have hw2 : IntKind.i64.wrap (2 * F) = 2 * F := IntWalk.i64_in _ ⟨by omega, by omega⟩
  have hw3 : IntKind.i64.wrap (2 * F + 1) = 2 * F + 1 := IntWalk.i64_in _ ⟨by omega, by omega⟩
  go_upto_region 6 with (first
    | (go_at_call 16; refine (HG.out _ (HW.out _ B4).1).mono ?_; rintro e w5 ⟨A2, c2, rfl, k1, k2, hs1, hx5⟩; have B5 := bext B4 hx5 B4.size)
    | (go_at_call 42; refine (HP.out _ (HW.out _ B5).2).mono ?_; rintro e w6 ⟨A3, c3, rfl, k3, k4, ho2, hx6⟩; have B6 := bext B5 hx6 B5.size; have hs2 := hs1.ext hx6)
    | (go_at_call 41; refine (HR2.out _ _ _ _ _ k1 k2 hs2 k3 k4 ho2).mono ?_; rintro e w7 ⟨hx7, v, rfl, hv⟩; have B7 := bext B6 hx7 B6.size; obtain ⟨r1, r2, r3, r4, rfl, hv1, hv2⟩ := hv))
  have hx8 := ext_alloc w7 (.cells #[.int .i64 f', .int .i64 s', .int .i64 a', .int .i64 hh', .int .i64 k', .slice r1 L'.length r2, .slice r3 U'.length r4] 76)
  have hn8 := Bk.new 76 w7 #[.int .i64 f', .int .i64 s', .int .i64 a', .int .i64 hh', .int .i64 k', .slice r1 L'.length r2, .slice r3 U'.length r4]
  obtain ⟨Y, hY⟩ : ∃ Y, Y = w7.alloc (.cells #[.int .i64 f', .int .i64 s', .int .i64 a', .int .i64 hh', .int .i64 k', .slice r1 L'.length r2, .slice r3 U'.length r4] 76) := ⟨_, rfl⟩
  rw [← hY] at hx8 hn8 ⊢
  have B8 := bext B7 hx8 B7.size
  have HV2 := Lib.hid (show RepIs Y (.agg #[.int .i64 f', .int .i64 s', .int .i64 a', .int .i64 hh', .int .i64 k', .slice r1 L'.length r2, .slice r3 U'.length r4]) f' s' a' hh' k' L' U' from RepIs.ext ⟨_, _, _, _, rfl, hv1, hv2⟩ hx8)
  have HV3 := Lib.hid ((((HV1.out.ext hx5).ext hx6).ext hx7).ext hx8)
  have HBY := Lib.hid ((((HBX.out.ext hx5).ext hx6).ext hx7).ext hx8)
  have h9 := (((HNX.out.ext hx5).ext hx6).ext hx7).ext hx8
  clear f1 f2 f3
  have HN8 := Lib.hid hn8
  have HN9 := Lib.hid h9
  obtain ⟨f1, f2, f3⟩ := hn8.facts
  obtain ⟨g1, g2, g3⟩ := h9.facts
  obtain ⟨e1, e2, e3⟩ := HBY.out.facts
  clear hY hx5 hx6 hx7 hx8 hn8 h9 hv1 hv2 B4 B5 B6 B7 k1 k2 k3 k4 hs1 hs2 ho2 HR2 HG HP
  go_wp2_with (first
    | (go_at_call 46; refine (HAL.out _ _ _ HV3.out HV2.out).mono ?_; rintro e w9 ⟨rfl, hx9⟩; have B9 := bext B8 hx9 B8.size; clear f1 f2 f3 g1 g2 g3; obtain ⟨f1, f2, f3⟩ := (HN8.out.ext hx9).facts; obtain ⟨g1, g2, g3⟩ := (HN9.out.ext hx9).facts)
    | (go_at_call 18; refine (awake_any _).mono ?_; rintro e w11 ⟨rfl, hx11⟩; have B11 := bext B9 hx11 B9.size))
  go_ret
  exact ⟨rfl, B11⟩
set_option maxRecDepth 100000 in
set_option maxHeartbeats 4000000 in
theorem fuel_outout (F : Int) (hfu : F = wrap64 ((IntKind.u64.wrap fuel).tmod 50000)) (hF0 : 0 ≤ F) (hF1 : F ≤ 49999) (h5 : ¬ 4096 < ops.length) (f s a hh k : Int) (L U : List Int) (f' s' a' hh' k' : Int) (L' U' : List Int) (h10 : f = 10) (hs : s = F) (hf' : f' = 10) (hs' : s' = 2 * F + 1) (h1 : RunIs N l ops F f s a hh k 0 L U) (h2 : RunIs N l ops (2 * F + 1) f' s' a' hh' k' 0 L' U') : Calls Try.prog 10 #[.agg #[.int .i64 N, .slice A l.length cap], .slice C ops.length cc, .int .i64 fuel] w fun e w' => e = .returned (.bool true) ∧ Below w.heap.size w w' := by
  have hs2 := hs.symm
  clear hs
  subst hs2
  subst h10
  subst hf' hs'
  have HB0 := Lib.hid (Bk.new 24 w #[.int .i64 N, .slice A l.length cap])
  have HE0 := Lib.hid (ext_alloc w (.cells #[.int .i64 N, .slice A l.length cap] 24))
  have HG := Lib.hid (fun W (h : SSl W A l) => graph_any N A cap l W hc hcm h)
  have HP := Lib.hid (fun W (h : OSl W C ops) => program_any C cc ops W hcc hcc2 (by omega) h)
  have HW := Lib.hid (fun W (hW : Below w.heap.size w W) => And.intro (h.ext hW) (hr.ext hW))
  have HFU := Lib.hid hfu
  have HR1 := Lib.hid h1
  have HR2 := Lib.hid h2
  clear h hr h1 h2 hfu
  go_enter Try.func10, Try.ntmps10
  go_upto_region 4 with (fail)
  rw [← HFU.out]
  clear HFU
  obtain ⟨f1, f2, f3⟩ := HB0.out.facts
  go_upto_region 5 with (first
    | (go_at_call 16; refine (HG.out _ (HW.out _ HE0.out).1).mono ?_; rintro e w1 ⟨A2, c2, rfl, k1, k2, hs1, hx1⟩; have B1 := bext HE0.out hx1 HE0.out.size)
    | (go_at_call 42; refine (HP.out _ (HW.out _ B1).2).mono ?_; rintro e w2 ⟨A3, c3, rfl, k3, k4, ho2, hx2⟩; have B2 := bext B1 hx2 B1.size; have hs2 := hs1.ext hx2)
    | (go_at_call 41; refine (HR1.out _ _ _ _ _ k1 k2 hs2 k3 k4 ho2).mono ?_; rintro e w3 ⟨hx3, v, rfl, hv⟩; have B3 := bext B2 hx3 B2.size; obtain ⟨q1, q2, q3, q4, rfl, hv1, hv2⟩ := hv))
  have hx4 := ext_alloc w3 (.cells #[.int .i64 10, .int .i64 F, .int .i64 a, .int .i64 hh, .int .i64 k, .slice q1 L.length q2, .slice q3 U.length q4] 76)
  have hn4 := Bk.new 76 w3 #[.int .i64 10, .int .i64 F, .int .i64 a, .int .i64 hh, .int .i64 k, .slice q1 L.length q2, .slice q3 U.length q4]
  obtain ⟨X, hX⟩ : ∃ X, X = w3.alloc (.cells #[.int .i64 10, .int .i64 F, .int .i64 a, .int .i64 hh, .int .i64 k, .slice q1 L.length q2, .slice q3 U.length q4] 76) := ⟨_, rfl⟩
  rw [← hX] at hx4 hn4 ⊢
  have B4 := bext B3 hx4 B3.size
  have HBX := Lib.hid ((((HB0.out.ext hx1).ext hx2).ext hx3).ext hx4)
  have HNX := Lib.hid hn4
  have HV1 := Lib.hid (show RepIs X (.agg #[.int .i64 10, .int .i64 F, .int .i64 a, .int .i64 hh, .int .i64 k, .slice q1 L.length q2, .slice q3 U.length q4]) 10 F a hh k L U from RepIs.ext ⟨_, _, _, _, rfl, hv1, hv2⟩ hx4)
  clear hX f1 f2 f3 hx1 hx2 hx3 hx4 hn4 hv1 hv2 hs1 hs2 ho2 B1 B2 B3 k1 k2 k3 k4 HR1
  obtain ⟨f1, f2, f3⟩ := HBX.out.facts
  have hw2 : IntKind.i64.wrap (2 * F) = 2 * F := IntWalk.i64_in _ ⟨by omega, by omega⟩
  have hw3 : IntKind.i64.wrap (2 * F + 1) = 2 * F + 1 := IntWalk.i64_in _ ⟨by omega, by omega⟩
  go_upto_region 6 with (first
    | (go_at_call 16; refine (HG.out _ (HW.out _ B4).1).mono ?_; rintro e w5 ⟨A2, c2, rfl, k1, k2, hs1, hx5⟩; have B5 := bext B4 hx5 B4.size)
    | (go_at_call 42; refine (HP.out _ (HW.out _ B5).2).mono ?_; rintro e w6 ⟨A3, c3, rfl, k3, k4, ho2, hx6⟩; have B6 := bext B5 hx6 B5.size; have hs2 := hs1.ext hx6)
    | (go_at_call 41; refine (HR2.out _ _ _ _ _ k1 k2 hs2 k3 k4 ho2).mono ?_; rintro e w7 ⟨hx7, v, rfl, hv⟩; have B7 := bext B6 hx7 B6.size; obtain ⟨r1, r2, r3, r4, rfl, hv1, hv2⟩ := hv))
  have hx8 := ext_alloc w7 (.cells #[.int .i64 10, .int .i64 (2 * F + 1), .int .i64 a', .int .i64 hh', .int .i64 k', .slice r1 L'.length r2, .slice r3 U'.length r4] 76)
  have hn8 := Bk.new 76 w7 #[.int .i64 10, .int .i64 (2 * F + 1), .int .i64 a', .int .i64 hh', .int .i64 k', .slice r1 L'.length r2, .slice r3 U'.length r4]
  obtain ⟨Y, hY⟩ : ∃ Y, Y = w7.alloc (.cells #[.int .i64 10, .int .i64 (2 * F + 1), .int .i64 a', .int .i64 hh', .int .i64 k', .slice r1 L'.length r2, .slice r3 U'.length r4] 76) := ⟨_, rfl⟩
  rw [← hY] at hx8 hn8 ⊢
  have B8 := bext B7 hx8 B7.size
  have HV2 := Lib.hid (show RepIs Y (.agg #[.int .i64 10, .int .i64 (2 * F + 1), .int .i64 a', .int .i64 hh', .int .i64 k', .slice r1 L'.length r2, .slice r3 U'.length r4]) 10 (2 * F + 1) a' hh' k' L' U' from RepIs.ext ⟨_, _, _, _, rfl, hv1, hv2⟩ hx8)
  have HV3 := Lib.hid ((((HV1.out.ext hx5).ext hx6).ext hx7).ext hx8)
  have HBY := Lib.hid ((((HBX.out.ext hx5).ext hx6).ext hx7).ext hx8)
  have h9 := (((HNX.out.ext hx5).ext hx6).ext hx7).ext hx8
  clear f1 f2 f3
  obtain ⟨f1, f2, f3⟩ := hn8.facts
  obtain ⟨g1, g2, g3⟩ := h9.facts
  obtain ⟨e1, e2, e3⟩ := HBY.out.facts
  clear hY hx5 hx6 hx7 hx8 hn8 h9 hv1 hv2 B4 B5 B6 B7 k1 k2 k3 k4 hs1 hs2 ho2 HR2 HG HP
  go_wp2_with (go_at_call 18; refine (awake_any _).mono ?_; rintro e w11 ⟨rfl, hx11⟩; have B11 := bext B8 hx11 B8.size)
  all_goals
    go_ret
    exact ⟨rfl, B11⟩
set_option maxRecDepth 100000 in
set_option maxHeartbeats 4000000 in
theorem fuel_outin (F : Int) (hfu : F = wrap64 ((IntKind.u64.wrap fuel).tmod 50000)) (hF0 : 0 ≤ F) (hF1 : F ≤ 49999) (h5 : ¬ 4096 < ops.length) (f s a hh k : Int) (L U : List Int) (f' s' a' hh' k' : Int) (L' U' : List Int) (h10 : f = 10) (hs : s = F) (hf' : ¬ f' = 10) (hs' : F ≤ s') (h1 : RunIs N l ops F f s a hh k 0 L U) (h2 : RunIs N l ops (2 * F + 1) f' s' a' hh' k' 0 L' U') : Calls Try.prog 10 #[.agg #[.int .i64 N, .slice A l.length cap], .slice C ops.length cc, .int .i64 fuel] w fun e w' => e = .returned (.bool true) ∧ Below w.heap.size w w' := by
  have hs2 := hs.symm
  clear hs
  subst hs2
  subst h10
  have hfb : (f' == 10) = false := by simpa using hf'
  have HB0 := Lib.hid (Bk.new 24 w #[.int .i64 N, .slice A l.length cap])
  have HE0 := Lib.hid (ext_alloc w (.cells #[.int .i64 N, .slice A l.length cap] 24))
  have HG := Lib.hid (fun W (h : SSl W A l) => graph_any N A cap l W hc hcm h)
  have HP := Lib.hid (fun W (h : OSl W C ops) => program_any C cc ops W hcc hcc2 (by omega) h)
  have HW := Lib.hid (fun W (hW : Below w.heap.size w W) => And.intro (h.ext hW) (hr.ext hW))
  have HFU := Lib.hid hfu
  have HR1 := Lib.hid h1
  have HR2 := Lib.hid h2
  clear h hr h1 h2 hfu
  go_enter Try.func10, Try.ntmps10
  go_upto_region 4 with (fail)
  rw [← HFU.out]
  clear HFU
  obtain ⟨f1, f2, f3⟩ := HB0.out.facts
  go_upto_region 5 with (first
    | (go_at_call 16; refine (HG.out _ (HW.out _ HE0.out).1).mono ?_; rintro e w1 ⟨A2, c2, rfl, k1, k2, hs1, hx1⟩; have B1 := bext HE0.out hx1 HE0.out.size)
    | (go_at_call 42; refine (HP.out _ (HW.out _ B1).2).mono ?_; rintro e w2 ⟨A3, c3, rfl, k3, k4, ho2, hx2⟩; have B2 := bext B1 hx2 B1.size; have hs2 := hs1.ext hx2)
    | (go_at_call 41; refine (HR1.out _ _ _ _ _ k1 k2 hs2 k3 k4 ho2).mono ?_; rintro e w3 ⟨hx3, v, rfl, hv⟩; have B3 := bext B2 hx3 B2.size; obtain ⟨q1, q2, q3, q4, rfl, hv1, hv2⟩ := hv))
  have hx4 := ext_alloc w3 (.cells #[.int .i64 10, .int .i64 F, .int .i64 a, .int .i64 hh, .int .i64 k, .slice q1 L.length q2, .slice q3 U.length q4] 76)
  have hn4 := Bk.new 76 w3 #[.int .i64 10, .int .i64 F, .int .i64 a, .int .i64 hh, .int .i64 k, .slice q1 L.length q2, .slice q3 U.length q4]
  obtain ⟨X, hX⟩ : ∃ X, X = w3.alloc (.cells #[.int .i64 10, .int .i64 F, .int .i64 a, .int .i64 hh, .int .i64 k, .slice q1 L.length q2, .slice q3 U.length q4] 76) := ⟨_, rfl⟩
  rw [← hX] at hx4 hn4 ⊢
  have B4 := bext B3 hx4 B3.size
  have HBX := Lib.hid ((((HB0.out.ext hx1).ext hx2).ext hx3).ext hx4)
  have HNX := Lib.hid hn4
  have HV1 := Lib.hid (show RepIs X (.agg #[.int .i64 10, .int .i64 F, .int .i64 a, .int .i64 hh, .int .i64 k, .slice q1 L.length q2, .slice q3 U.length q4]) 10 F a hh k L U from RepIs.ext ⟨_, _, _, _, rfl, hv1, hv2⟩ hx4)
  clear hX f1 f2 f3 hx1 hx2 hx3 hx4 hn4 hv1 hv2 hs1 hs2 ho2 B1 B2 B3 k1 k2 k3 k4 HR1
  obtain ⟨f1, f2, f3⟩ := HBX.out.facts
  have hw2 : IntKind.i64.wrap (2 * F) = 2 * F := IntWalk.i64_in _ ⟨by omega, by omega⟩
  have hw3 : IntKind.i64.wrap (2 * F + 1) = 2 * F + 1 := IntWalk.i64_in _ ⟨by omega, by omega⟩
  go_upto_region 6 with (first
    | (go_at_call 16; refine (HG.out _ (HW.out _ B4).1).mono ?_; rintro e w5 ⟨A2, c2, rfl, k1, k2, hs1, hx5⟩; have B5 := bext B4 hx5 B4.size)
    | (go_at_call 42; refine (HP.out _ (HW.out _ B5).2).mono ?_; rintro e w6 ⟨A3, c3, rfl, k3, k4, ho2, hx6⟩; have B6 := bext B5 hx6 B5.size; have hs2 := hs1.ext hx6)
    | (go_at_call 41; refine (HR2.out _ _ _ _ _ k1 k2 hs2 k3 k4 ho2).mono ?_; rintro e w7 ⟨hx7, v, rfl, hv⟩; have B7 := bext B6 hx7 B6.size; obtain ⟨r1, r2, r3, r4, rfl, hv1, hv2⟩ := hv))
  have hx8 := ext_alloc w7 (.cells #[.int .i64 f', .int .i64 s', .int .i64 a', .int .i64 hh', .int .i64 k', .slice r1 L'.length r2, .slice r3 U'.length r4] 76)
  have hn8 := Bk.new 76 w7 #[.int .i64 f', .int .i64 s', .int .i64 a', .int .i64 hh', .int .i64 k', .slice r1 L'.length r2, .slice r3 U'.length r4]
  obtain ⟨Y, hY⟩ : ∃ Y, Y = w7.alloc (.cells #[.int .i64 f', .int .i64 s', .int .i64 a', .int .i64 hh', .int .i64 k', .slice r1 L'.length r2, .slice r3 U'.length r4] 76) := ⟨_, rfl⟩
  rw [← hY] at hx8 hn8 ⊢
  have B8 := bext B7 hx8 B7.size
  have HV2 := Lib.hid (show RepIs Y (.agg #[.int .i64 f', .int .i64 s', .int .i64 a', .int .i64 hh', .int .i64 k', .slice r1 L'.length r2, .slice r3 U'.length r4]) f' s' a' hh' k' L' U' from RepIs.ext ⟨_, _, _, _, rfl, hv1, hv2⟩ hx8)
  have HV3 := Lib.hid ((((HV1.out.ext hx5).ext hx6).ext hx7).ext hx8)
  have HBY := Lib.hid ((((HBX.out.ext hx5).ext hx6).ext hx7).ext hx8)
  have h9 := (((HNX.out.ext hx5).ext hx6).ext hx7).ext hx8
  clear f1 f2 f3
  obtain ⟨f1, f2, f3⟩ := hn8.facts
  obtain ⟨g1, g2, g3⟩ := h9.facts
  obtain ⟨e1, e2, e3⟩ := HBY.out.facts
  clear hY hx5 hx6 hx7 hx8 hn8 h9 hv1 hv2 B4 B5 B6 B7 k1 k2 k3 k4 hs1 hs2 ho2 HR2 HG HP
  go_wp2_with (go_at_call 18; refine (awake_any _).mono ?_; rintro e w11 ⟨rfl, hx11⟩; have B11 := bext B8 hx11 B8.size)
  all_goals
    go_ret
    exact ⟨rfl, B11⟩
end
set_option maxRecDepth 100000 in
theorem law_fuel (N : Int) (A : Option Addr) (cap : Nat) (l : List Sm) (C : Option Addr) (cc : Nat) (ops : List Opr) (fuel : Int) (w : World) (hc : l.length ≤ cap) (hcm : cap ≤ 9223372036854775807) (h : SSl w A l) (hcc : ops.length ≤ cc) (hcc2 : cc ≤ 9223372036854775807) (hr : OSl w C ops) : Calls Try.prog 10 #[.agg #[.int .i64 N, .slice A l.length cap], .slice C ops.length cc, .int .i64 fuel] w fun e w' => e = .returned (.bool true) ∧ Below w.heap.size w w' := by
  by_cases h5 : 4096 < ops.length
  · have HE0 := Lib.hid (ext_alloc w (.cells #[.int .i64 N, .slice A l.length cap] 24))
    clear h hr hc hcm
    go_enter Try.func10, Try.ntmps10
    go_wp2_with (go_at_call 18; refine (awake_any _).mono ?_; rintro e w2 ⟨rfl, hx2⟩; have B2 := bext HE0.out hx2 HE0.out.size)
    go_ret
    exact ⟨rfl, B2⟩
  · obtain ⟨b0, b1⟩ := fu0_bd fuel
    by_cases hok : GOk N l
    · by_cases hp : PrOk ops
      · have y1 : RnOk N l ops (fu0 fuel) := ⟨hok, b0, by omega, by omega, hp⟩
        have y2 : RnOk N l ops (2 * fu0 fuel + 1) := ⟨hok, by omega, by omega, by omega, hp⟩
        have hl := hok.2.2.1
        have hfu : Fu (fu0 fuel) (rnT N l ops (fu0 fuel)) (rnT N l ops (2 * fu0 fuel + 1)) := fuel_any b0 (by omega)
        have hfu2 : Fu (2 * fu0 fuel + 1) (rnT N l ops (2 * fu0 fuel + 1)) (rnT N l ops (2 * fu0 fuel + 1)) := fuel_any (by omega) (Int.le_refl _)
        by_cases h10 : (rnT N l ops (fu0 fuel)).1 = 10
        · by_cases h11 : (rnT N l ops (2 * fu0 fuel + 1)).1 = 10
          · exact fuel_outout N A cap l C cc ops fuel w hc hcm h hcc hcc2 hr (fu0 fuel) rfl b0 b1 h5 _ _ _ _ _ _ _ _ _ _ _ _ _ _ h10 (hfu.2.1 h10).1 h11 (hfu2.2.1 h11).1 (RunIs.yes y1) (RunIs.yes y2)
          · exact fuel_outin N A cap l C cc ops fuel w hc hcm h hcc hcc2 hr (fu0 fuel) rfl b0 b1 h5 _ _ _ _ _ _ _ _ _ _ _ _ _ _ h10 (hfu.2.1 h10).1 h11 (hfu.2.1 h10).2 (RunIs.yes y1) (RunIs.yes y2)
        · have e := hfu.2.2 h10
          exact fuel_ended N A cap l C cc ops fuel w hc hcm h hcc hcc2 hr (fu0 fuel) rfl b0 b1 h5 _ _ _ _ _ _ _ _ _ _ _ _ _ _ h10 hfu.1 (by rw [tabL_length]; omega) (by rw [tabL_length]; omega) (by rw [e]; exact ⟨rfl, rfl, rfl, rfl, rfl, rfl, rfl⟩) (RunIs.yes y1) (RunIs.yes y2)
      · have e1 : ∀ F, rnErr N l ops F = 2 := by
          intro F; unfold rnErr; simp [h5]
        have n1 := RunIs.no (N := N) (l := l) (ops := ops) (F := fu0 fuel) (fun h => hp h.2.2.2.2)
        have n2 := RunIs.no (N := N) (l := l) (ops := ops) (F := 2 * fu0 fuel + 1) (fun h => hp h.2.2.2.2)
        rw [e1] at n1 n2
        exact fuel_noprog N A cap l C cc ops fuel w hc hcm h hcc hcc2 hr (fu0 fuel) rfl b0 b1 h5 hok hp _ _ _ _ _ _ _ _ _ _ _ _ _ _ n1 n2
    · have e1 : ∀ F, rnErr N l ops F = 2 := by
        intro F; unfold rnErr; rw [if_pos (fun h => hok h.1)]
      have n1 := RunIs.no (N := N) (l := l) (ops := ops) (F := fu0 fuel) (fun h => hok h.1)
      have n2 := RunIs.no (N := N) (l := l) (ops := ops) (F := 2 * fu0 fuel + 1) (fun h => hok h.1)
      rw [e1] at n1 n2
      exact fuel_nograph N A cap l C cc ops fuel w hc hcm h hcc hcc2 hr (fu0 fuel) rfl b0 b1 h5 hok _ _ _ _ _ _ _ _ _ _ _ _ _ _ n1 n2
end Go.Proofs.Ytbhjhajnhpohlaa
