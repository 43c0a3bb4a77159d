/- SeamLeast walked. Conditions: the graph and the runs read as lists, each slice within 2^47 bytes. -/
import Derived.Test.YtbhjhajnhpohlaaFwL
import Derived.Test.YtbhjhajnhpohlaaSe
import Derived.Test.YtbhjhajnhpohlaaRo
namespace Go.Proofs.Ytbhjhajnhpohlaa
open Go.RowKit

set_option maxRecDepth 100000 in
set_option maxHeartbeats 8000000 in
theorem law_least (N : Int) (A : Option Addr) (cap : Nat) (l : List Sm) (C : Option Addr) (cc : Nat) (ls : List (List Mv)) (w : World) (hc : l.length ≤ cap) (hcm : cap ≤ 9223372036854775807) (h : SSl w A l) (hcc : ls.length ≤ cc) (hcc2 : cc ≤ 9223372036854775807) (hr : RSl w C ls) (hz : RSz ls) :
    Calls Try.prog 12 #[.agg #[.int .i64 N, .slice A l.length cap], .slice C ls.length cc] w fun e w' => e = .returned (.bool true) ∧ Below w.heap.size w w' := by
  have HG := Lib.hid (fun W (h : SSl W A l) => graph_any N A cap l W hc hcm h)
  have HL := Lib.hid (fun W (h : RSl W C ls) => long_any C cc ls W hcc hcc2 h)
  have HU := Lib.hid (fun W (h : RSl W C ls) => runs_any C cc ls W hcc hcc2 hz h)
  have HS := Lib.hid (fun A' cap' C' cc' W (h1 : (cpy l).length ≤ cap') (h2 : cap' ≤ 9223372036854775807) (h : SSl W A' (cpy l)) (h3 : ls.length ≤ cc') (h4 : cc' ≤ 9223372036854775807) (hr : RSl W C' ls) => (Sews_any N A' cap' (cpy l) C' cc' ls W h1 h2 h h3 h4 hr).mono fun e w' h => h.cpd)
  have HFW := Lib.hid (fun A' cap' W (h : SSl W A' (cpy l)) (h1 : (cpy l).length ≤ cap') (h2 : cap' ≤ 9223372036854775807) => (Fewest_any N A' cap' (cpy l) W h1 h2 h).mono fun e w' h => h.cpd)
  have HV := Lib.hid (fun W (h : SSl W A l) => rvalid_any N A cap l W hc hcm h)
  have HW := Lib.hid (fun W (hW : Below w.heap.size w W) => And.intro (h.ext hW) (hr.ext hW))
  have HB0 := Lib.hid (Bk.new 24 w #[.int .i64 N, .slice A l.length cap])
  have HE0 := Lib.hid (ext_alloc w (.cells #[.int .i64 N, .slice A l.length cap] 24))
  have hl48 : ls.length ≤ 6000000000000 := by have := hz.1; omega
  clear h hr hz
  by_cases hok : GOk N l
  · have HOK := Lib.hid hok
    have HS2 := Lib.hid (fun A' cap' C' cc' W h1 h2 h h3 h4 hr => (HS.out A' cap' C' cc' W h1 h2 h h3 h4 hr).mono (R' := fun e w' => e = .returned (.tuple #[.bool (sewB l ls), .int .i64 0]) ∧ Below W.heap.size W w') fun e w' hr => by
      rcases hr.2 with ⟨h3, _⟩ | ⟨_, h4⟩
      · exact absurd HOK.out h3
      · exact ⟨h4, hr.1⟩)
    have HFW2 := Lib.hid (fun A' cap' W h h1 h2 => (HFW.out A' cap' W h h1 h2).mono (R' := fun e w' => e = .returned (.tuple #[.int .i64 (fwN N l), .int .i64 0]) ∧ Below W.heap.size W w') fun e w' hr => by
      rcases hr.2 with ⟨h3, _⟩ | ⟨_, h4⟩
      · exact absurd HOK.out h3
      · exact ⟨h4, hr.1⟩)
    have hle : sewB l ls = true → fwN N l ≤ ls.length := fun h => least_all HOK.out (sewB_iff.1 h)
    obtain ⟨sb, hsb⟩ : ∃ sb, sb = sewB l ls := ⟨_, rfl⟩
    obtain ⟨fx, hfx⟩ : ∃ fx, fx = fwN N l := ⟨_, rfl⟩
    rw [← hsb] at HS2 hle
    rw [← hfx] at HFW2 hle
    clear hok hsb hfx HS HFW HV
    go_enter Try.func12, Try.ntmps12
    go_upto_region 3 with (first
      | (go_at_call 24; refine (HL.out _ (HW.out _ HE0.out).2).mono ?_; rintro e w1 ⟨⟨b, rfl⟩, hx1⟩; have B1 := bext HE0.out hx1 HE0.out.size; obtain ⟨f1, f2, f3⟩ := (HB0.out.ext hx1).facts; cases b)
      | (go_at_call 18; refine (awake_any _).mono ?_; rintro e w2 ⟨rfl, hx2⟩; have B2 := bext B1 hx2 B1.size))
    rotate_left
    · go_ret
      exact ⟨rfl, B2⟩
    · clear f1 f2 f3
      have HBW := Lib.hid (HB0.out.ext hx1)
      obtain ⟨f1, f2, f3⟩ := HBW.out.facts
      cases sb
      · clear hle
        go_upto_region 4 with (first
          | (go_at_call 16; refine (HG.out _ (HW.out _ B1).1).mono ?_; rintro e w2 ⟨A2, c2, rfl, k1, k2, hs2, hx2⟩; have B2 := bext B1 hx2 B1.size; have HS22 := Lib.hid hs2; have HK2 := Lib.hid (HBW.out.ext hx2); clear hs2 hx2)
          | (go_at_call 47; refine (HFW2.out _ _ _ HS22.out k1 k2).mono ?_; rintro e w3 ⟨rfl, hx3⟩; have B3 := bext B2 hx3 B2.size; have HK3 := Lib.hid (HK2.out.ext hx3); clear f1 f2 f3 hx3; obtain ⟨f1, f2, f3⟩ := HK3.out.facts))
        go_wp2_with (first
          | (go_at_call 16; refine (HG.out _ (HW.out _ B3).1).mono ?_; rintro e w4 ⟨A4, c4, rfl, k3, k4, hs4, hx4⟩; have B4 := bext B3 hx4 B3.size; have HS4 := Lib.hid hs4; clear hs4 hx4)
          | (go_at_call 26; refine (HU.out _ (HW.out _ B4).2).mono ?_; rintro e w5 ⟨A5, c5, rfl, k5, k6, hr5, hx5⟩; have B5 := bext B4 hx5 B4.size; have HS5 := Lib.hid (HS4.out.ext hx5); have HR5 := Lib.hid hr5; clear hr5 hx5)
          | (go_at_call 25; refine (HS2.out _ _ _ _ _ k3 k4 HS5.out k5 k6 HR5.out).mono ?_; rintro e w6 ⟨rfl, hx6⟩; have B6 := bext B5 hx6 B5.size; clear hx6)
          | (go_at_call 18; refine (awake_any _).mono ?_; rintro e w7 ⟨rfl, hx7⟩; have B7 := bext B6 hx7 B6.size))
        go_ret
        exact ⟨rfl, B7⟩
      · have hle2 := hle rfl
        have hle3 : (fx : Int) ≤ (ls.length : Int) := by omega
        clear hle
        go_upto_region 4 with (first
          | (go_at_call 16; refine (HG.out _ (HW.out _ B1).1).mono ?_; rintro e w2 ⟨A2, c2, rfl, k1, k2, hs2, hx2⟩; have B2 := bext B1 hx2 B1.size; have HS22 := Lib.hid hs2; have HK2 := Lib.hid (HBW.out.ext hx2); clear hs2 hx2)
          | (go_at_call 47; refine (HFW2.out _ _ _ HS22.out k1 k2).mono ?_; rintro e w3 ⟨rfl, hx3⟩; have B3 := bext B2 hx3 B2.size; have HK3 := Lib.hid (HK2.out.ext hx3); clear f1 f2 f3 hx3; obtain ⟨f1, f2, f3⟩ := HK3.out.facts))
        go_wp2_with (first
          | (go_at_call 16; refine (HG.out _ (HW.out _ B3).1).mono ?_; rintro e w4 ⟨A4, c4, rfl, k3, k4, hs4, hx4⟩; have B4 := bext B3 hx4 B3.size; have HS4 := Lib.hid hs4; clear hs4 hx4)
          | (go_at_call 26; refine (HU.out _ (HW.out _ B4).2).mono ?_; rintro e w5 ⟨A5, c5, rfl, k5, k6, hr5, hx5⟩; have B5 := bext B4 hx5 B4.size; have HS5 := Lib.hid (HS4.out.ext hx5); have HR5 := Lib.hid hr5; clear hr5 hx5)
          | (go_at_call 25; refine (HS2.out _ _ _ _ _ k3 k4 HS5.out k5 k6 HR5.out).mono ?_; rintro e w6 ⟨rfl, hx6⟩; have B6 := bext B5 hx6 B5.size; clear hx6)
          | (go_at_call 18; refine (awake_any _).mono ?_; rintro e w7 ⟨rfl, hx7⟩; have B7 := bext B6 hx7 B6.size))
        go_ret
        exact ⟨rfl, B7⟩
  · have HOK := Lib.hid hok
    have hv := vldG_no hok
    rw [hv] at HV
    have HS2 := Lib.hid (fun A' cap' C' cc' W h1 h2 h h3 h4 hr => (HS.out A' cap' C' cc' W h1 h2 h h3 h4 hr).mono (R' := fun e w' => e = .returned (.tuple #[.bool false, .int .i64 2]) ∧ Below W.heap.size W w') fun e w' hr => by
      rcases hr.2 with ⟨_, h4⟩ | ⟨h3, _⟩
      · exact ⟨h4, hr.1⟩
      · exact absurd h3 HOK.out)
    have HFW2 := Lib.hid (fun A' cap' W h h1 h2 => (HFW.out A' cap' W h h1 h2).mono (R' := fun e w' => e = .returned (.tuple #[.int .i64 0, .int .i64 2]) ∧ Below W.heap.size W w') fun e w' hr => by
      rcases hr.2 with ⟨_, h4⟩ | ⟨h3, _⟩
      · exact ⟨h4, hr.1⟩
      · exact absurd h3 HOK.out)
    clear hok hv HS HFW
    go_enter Try.func12, Try.ntmps12
    go_upto_region 3 with (first
      | (go_at_call 24; refine (HL.out _ (HW.out _ HE0.out).2).mono ?_; rintro e w1 ⟨⟨b, rfl⟩, hx1⟩; have B1 := bext HE0.out hx1 HE0.out.size; obtain ⟨f1, f2, f3⟩ := (HB0.out.ext hx1).facts; cases b)
      | (go_at_call 18; refine (awake_any _).mono ?_; rintro e w2 ⟨rfl, hx2⟩; have B2 := bext B1 hx2 B1.size))
    rotate_left
    · go_ret
      exact ⟨rfl, B2⟩
    · clear f1 f2 f3
      have HBW := Lib.hid (HB0.out.ext hx1)
      obtain ⟨f1, f2, f3⟩ := HBW.out.facts
      go_upto_region 4 with (first
        | (go_at_call 16; refine (HG.out _ (HW.out _ B1).1).mono ?_; rintro e w2 ⟨A2, c2, rfl, k1, k2, hs2, hx2⟩; have B2 := bext B1 hx2 B1.size; have HS22 := Lib.hid hs2; have HK2 := Lib.hid (HBW.out.ext hx2); clear hs2 hx2)
        | (go_at_call 47; refine (HFW2.out _ _ _ HS22.out k1 k2).mono ?_; rintro e w3 ⟨rfl, hx3⟩; have B3 := bext B2 hx3 B2.size; have HK3 := Lib.hid (HK2.out.ext hx3); clear f1 f2 f3 hx3; obtain ⟨f1, f2, f3⟩ := HK3.out.facts))
      go_wp2_with (first
        | (go_at_call 16; refine (HG.out _ (HW.out _ B3).1).mono ?_; rintro e w4 ⟨A4, c4, rfl, k3, k4, hs4, hx4⟩; have B4 := bext B3 hx4 B3.size; have HS4 := Lib.hid hs4; have HK4 := Lib.hid (HK3.out.ext hx4); clear hs4 hx4)
        | (go_at_call 26; refine (HU.out _ (HW.out _ B4).2).mono ?_; rintro e w5 ⟨A5, c5, rfl, k5, k6, hr5, hx5⟩; have B5 := bext B4 hx5 B4.size; have HS5 := Lib.hid (HS4.out.ext hx5); have HR5 := Lib.hid hr5; have HK5 := Lib.hid (HK4.out.ext hx5); clear hr5 hx5)
        | (go_at_call 25; refine (HS2.out _ _ _ _ _ k3 k4 HS5.out k5 k6 HR5.out).mono ?_; rintro e w6 ⟨rfl, hx6⟩; have B6 := bext B5 hx6 B5.size; have HK6 := Lib.hid (HK5.out.ext hx6); clear hx6 f1 f2 f3; obtain ⟨f1, f2, f3⟩ := HK6.out.facts)
        | (go_at_call 22; refine (HV.out _ (HW.out _ B6).1).mono ?_; rintro e w7 ⟨rfl, hx7⟩; have B7 := bext B6 hx7 B6.size)
        | (go_at_call 18; refine (awake_any _).mono ?_; rintro e w8 ⟨rfl, hx8⟩; have B8 := bext B7 hx8 B7.size))
      go_ret
      exact ⟨rfl, B8⟩
end Go.Proofs.Ytbhjhajnhpohlaa
