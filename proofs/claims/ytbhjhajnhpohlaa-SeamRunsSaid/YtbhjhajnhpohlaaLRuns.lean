/- SeamRuns walked. Conditions: the graph and the program read as lists. -/
import Derived.Test.YtbhjhajnhpohlaaAlk
import Derived.Test.YtbhjhajnhpohlaaRrn
import Derived.Test.YtbhjhajnhpohlaaRo
import Derived.Test.YtbhjhajnhpohlaaGr
namespace Go.Proofs.Ytbhjhajnhpohlaa
open Go.RowKit

set_option maxRecDepth 100000 in
set_option maxHeartbeats 4000000 in
theorem law_runs (N : Int) (A : Option Addr) (cap : Nat) (l : List Sm) (C : Option Addr) (cc : Nat) (ops : List Opr) (fuel : Int) (w : World) (hc : l.length ≤ cap) (hcm : cap ≤ 9223372036854775807) (h : SSl w A l) (hcc : ops.length ≤ cc) (hcc2 : cc ≤ 9223372036854775807) (hr : OSl w C ops) :
    Calls Try.prog 9 #[.agg #[.int .i64 N, .slice A l.length cap], .slice C ops.length cc, .int .i64 fuel] w fun e w' => e = .returned (.bool true) ∧ Below w.heap.size w w' := by
  have HB0 := Lib.hid (Bk.new 24 w #[.int .i64 N, .slice A l.length cap])
  have HE0 := Lib.hid (ext_alloc w (.cells #[.int .i64 N, .slice A l.length cap] 24))
  by_cases h5 : 5000 < ops.length
  · clear h hr hc hcm
    go_enter Try.func9, Try.ntmps9
    go_wp2_with (go_at_call 18; refine (awake_any _).mono ?_; rintro e w2 ⟨rfl, hx2⟩; have B2 := bext HE0.out hx2 HE0.out.size)
    go_ret
    exact ⟨rfl, B2⟩
  · have HG := Lib.hid (fun W (h : SSl W A l) => graph_any N A cap l W hc hcm h)
    have HP := Lib.hid (fun W (h : OSl W C ops) => program_any C cc ops W hcc hcc2 (by omega) h)
    have HW := Lib.hid (fun W (hW : Below w.heap.size w W) => And.intro (h.ext hW) (hr.ext hW))
    have hone : ∃ (f s a h k er : Int) (L U : List Int), L.length ≤ 9223372036854775807 ∧ U.length ≤ 9223372036854775807 ∧
        (∀ (A' : Option Addr) (cap' : Nat) (C' : Option Addr) (cc' : Nat) W, (cpy l).length ≤ cap' → cap' ≤ 9223372036854775807 → SSl W A' (cpy l) → ops.length ≤ cc' → cc' ≤ 9223372036854775807 → OSl W C' ops → Calls Try.prog 41 #[.agg #[.int .i64 N, .slice A' (cpy l).length cap'], .slice C' ops.length cc', .int .i64 fuel] W fun e W' => Below W.heap.size W W' ∧ ∃ v, e = .returned (.tuple #[v, .int .i64 er]) ∧ RepIs W' v f s a h k L U) ∧
        (∀ W, SSl W A l → OSl W C ops → Calls Try.prog 43 #[.agg #[.int .i64 N, .slice A l.length cap], .slice C ops.length cc, .int .i64 fuel] W fun e W' => Below W.heap.size W W' ∧ ∃ v, e = .returned (.tuple #[v, .int .i64 er]) ∧ RepIs W' v f s a h k L U) := by
      by_cases hn : RnOk N l ops fuel
      · refine ⟨_, _, _, _, _, 0, _, _, ?_, ?_, fun A' cap' C' cc' W h1 h2 h3 h4 h5 h6 => (Run_any N A' cap' (cpy l) C' cc' ops fuel W h1 h2 h3 h4 h5 h6).mono fun e W' hr => (hr.cpd cpy_ok cpy_eq).yes hn, fun W h1 h2 => (rRun_any N A cap l C cc ops fuel W hc hcm h1 hcc hcc2 h2).mono fun e W' hr => hr.yes hn⟩
        · rw [tabL_length]; omega
        · rw [tabL_length]; omega
      · exact ⟨_, _, _, _, _, _, _, _, by simp, by simp, fun A' cap' C' cc' W h1 h2 h3 h4 h5 h6 => (Run_any N A' cap' (cpy l) C' cc' ops fuel W h1 h2 h3 h4 h5 h6).mono fun e W' hr => (hr.cpd cpy_ok cpy_eq).no hn, fun W h1 h2 => (rRun_any N A cap l C cc ops fuel W hc hcm h1 hcc hcc2 h2).mono fun e W' hr => hr.no hn⟩
    obtain ⟨f, s, a, hh, k, er, L, U, hL, hU, h1, h2⟩ := hone
    have HR1 := Lib.hid h1
    have HR2 := Lib.hid h2
    have HAL := Lib.hid (fun v v' W (hv : RepIs W v f s a hh k L U) (hv' : RepIs W v' f s a hh k L U) => alike_any f s a hh k L U v v' W hL hU hv hv')
    clear h hr h1 h2 hL hU
    go_enter Try.func9, Try.ntmps9
    go_upto_region 4 with (first
      | (go_at_call 16; refine (HG.out _ (HW.out _ HE0.out).1).mono ?_; rintro e w1 ⟨A2, c2, rfl, k1, k2, hs1, hx1⟩; have B1 := bext HE0.out hx1 HE0.out.size)
      | (go_at_call 42; refine (HP.out _ (HW.out _ B1).2).mono ?_; rintro e w2 ⟨A3, c3, rfl, k3, k4, ho2, hx2⟩; have B2 := bext B1 hx2 B1.size; have hs2 := hs1.ext hx2)
      | (go_at_call 41; refine (HR1.out _ _ _ _ _ k1 k2 hs2 k3 k4 ho2).mono ?_; rintro e w3 ⟨hx3, v, rfl, hv⟩; have B3 := bext B2 hx3 B2.size; obtain ⟨q1, q2, q3, q4, rfl, hv1, hv2⟩ := hv; obtain ⟨f1, f2, f3⟩ := (((HB0.out.ext hx1).ext hx2).ext hx3).facts))
    have hx4 := ext_alloc w3 (.cells #[.int .i64 f, .int .i64 s, .int .i64 a, .int .i64 hh, .int .i64 k, .slice q1 L.length q2, .slice q3 U.length q4] 76)
    have hn4 := Bk.new 76 w3 #[.int .i64 f, .int .i64 s, .int .i64 a, .int .i64 hh, .int .i64 k, .slice q1 L.length q2, .slice q3 U.length q4]
    obtain ⟨X, hX⟩ : ∃ X, X = w3.alloc (.cells #[.int .i64 f, .int .i64 s, .int .i64 a, .int .i64 hh, .int .i64 k, .slice q1 L.length q2, .slice q3 U.length q4] 76) := ⟨_, rfl⟩
    rw [← hX] at hx4 hn4 ⊢
    have B4 := bext B3 hx4 B3.size
    have HBX := Lib.hid ((((HB0.out.ext hx1).ext hx2).ext hx3).ext hx4)
    have HNX := Lib.hid hn4
    have HV1 := Lib.hid (show RepIs X (.agg #[.int .i64 f, .int .i64 s, .int .i64 a, .int .i64 hh, .int .i64 k, .slice q1 L.length q2, .slice q3 U.length q4]) f s a hh k L U from RepIs.ext ⟨_, _, _, _, rfl, hv1, hv2⟩ hx4)
    clear hX f1 f2 f3 hx1 hx2 hx3 hx4 hn4 hv1 hv2 hs1 hs2 ho2 B1 B2 B3 k1 k2 k3 k4 HG HP HR1
    obtain ⟨f1, f2, f3⟩ := HBX.out.facts
    go_upto_region 5 with (go_at_call 43; refine (HR2.out _ (HW.out _ B4).1 (HW.out _ B4).2).mono ?_; rintro e w5 ⟨hx5, v, rfl, hv⟩; have B5 := bext B4 hx5 B4.size; obtain ⟨r1, r2, r3, r4, rfl, hv1, hv2⟩ := hv)
    have hx6 := ext_alloc w5 (.cells #[.int .i64 f, .int .i64 s, .int .i64 a, .int .i64 hh, .int .i64 k, .slice r1 L.length r2, .slice r3 U.length r4] 81)
    have hn6 := Bk.new 81 w5 #[.int .i64 f, .int .i64 s, .int .i64 a, .int .i64 hh, .int .i64 k, .slice r1 L.length r2, .slice r3 U.length r4]
    obtain ⟨Y, hY⟩ : ∃ Y, Y = w5.alloc (.cells #[.int .i64 f, .int .i64 s, .int .i64 a, .int .i64 hh, .int .i64 k, .slice r1 L.length r2, .slice r3 U.length r4] 81) := ⟨_, rfl⟩
    rw [← hY] at hx6 hn6 ⊢
    have B6 := bext B5 hx6 B5.size
    have HV2 := Lib.hid (show RepIs Y (.agg #[.int .i64 f, .int .i64 s, .int .i64 a, .int .i64 hh, .int .i64 k, .slice r1 L.length r2, .slice r3 U.length r4]) f s a hh k L U from RepIs.ext ⟨_, _, _, _, rfl, hv1, hv2⟩ hx6)
    have HV3 := Lib.hid ((HV1.out.ext hx5).ext hx6)
    have h7 := (HNX.out.ext hx5).ext hx6
    clear f1 f2 f3
    obtain ⟨f1, f2, f3⟩ := hn6.facts
    obtain ⟨g1, g2, g3⟩ := h7.facts
    clear hY hx5 hx6 hn6 h7 hv1 hv2 B4 B5
    go_wp2_with (first
      | (go_at_call 44; refine (HAL.out _ _ _ HV3.out HV2.out).mono ?_; rintro e w7 ⟨rfl, hx7⟩; have B7 := bext B6 hx7 B6.size)
      | (go_at_call 18; refine (awake_any _).mono ?_; rintro e w8 ⟨rfl, hx8⟩; have B8 := bext B7 hx8 B7.size))
    go_ret
    exact ⟨rfl, B8⟩
end Go.Proofs.Ytbhjhajnhpohlaa
