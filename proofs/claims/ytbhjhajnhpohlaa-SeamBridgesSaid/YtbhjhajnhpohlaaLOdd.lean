/- SeamOdd walked. Conditions: the slice reads as a list of seams. -/
import Derived.Test.YtbhjhajnhpohlaaOr
import Derived.Test.YtbhjhajnhpohlaaRo
import Derived.Test.YtbhjhajnhpohlaaGr
import Derived.Test.YtbhjhajnhpohlaaEq
namespace Go.Proofs.Ytbhjhajnhpohlaa
open Go.RowKit

theorem RetOd.cpy {w : World} {N : Int} {l : List Sm} {t : Int} {e : Ending} {w' : World} (h : RetOd w N (cpy l) t e w') : RetOd w N l t e w' := by
  obtain ⟨hb, h⟩ := h
  refine ⟨hb, ?_⟩
  rcases h with ⟨h1, h2⟩ | ⟨h1, h2⟩
  · exact .inl ⟨by rw [cpy_ok] at h1; exact h1, h2⟩
  · have hg := cpy_ok.1 h1.1
    rw [cpy_eq hg] at h2
    exact .inr ⟨⟨hg, h1.2⟩, h2⟩
theorem vld_cpy (N : Int) (l : List Sm) : vldG N (cpy l) = vldG N l := by
  unfold vldG
  rw [decide_eq_decide]
  exact cpy_ok

set_option maxRecDepth 100000 in
set_option maxHeartbeats 4000000 in
theorem law_odd (N : Int) (A : Option Addr) (cap : Nat) (l : List Sm) (t : Int) (w : World) (hc : l.length ≤ cap) (hcm : cap ≤ 9223372036854775807) (h : SSl w A l) :
    Calls Try.prog 4 #[.agg #[.int .i64 N, .slice A l.length cap], .int .i64 t] w fun e w' => e = .returned (.bool true) ∧ Below w.heap.size w w' := by
  have HG := Lib.hid (fun W (h : SSl W A l) => graph_any N A cap l W hc hcm h)
  have HO := Lib.hid (fun A' cap' W (h : SSl W A' (cpy l)) (h1 : (cpy l).length ≤ cap') (h2 : cap' ≤ 9223372036854775807) => (Odd_any N A' cap' (cpy l) t W h1 h2 h).mono fun e w' h => h.cpy)
  have HV := Lib.hid (fun A' cap' W (h : SSl W A' (cpy l)) (h1 : (cpy l).length ≤ cap') (h2 : cap' ≤ 9223372036854775807) => (show Calls Try.prog 21 #[.agg #[.int .i64 N, .slice A' (cpy l).length cap']] W (fun e w' => e = .returned (.bool (vldG N l)) ∧ Below W.heap.size W w') from by
    rw [← vld_cpy]; exact valid_any N A' cap' (cpy l) W h1 h2 h))
  have HRV := Lib.hid (fun W (h : SSl W A l) => rvalid_any N A cap l W hc hcm h)
  have HRO := Lib.hid (fun W (h : SSl W A l) => rOdd_any N A cap l t W hc hcm h)
  have H := Lib.hid h
  have HB0 := Lib.hid (Bk.new 24 w #[.int .i64 N, .slice A l.length cap])
  have HE0 := Lib.hid (ext_alloc w (.cells #[.int .i64 N, .slice A l.length cap] 24))
  clear h
  have hvv : (vldG N l == vldG N l) = true := by simp
  by_cases hok : GOk N l ∧ 0 ≤ t ∧ t < 8
  · have HOK := Lib.hid hok
    have hlen : (oddN (chT t) l N.toNat).length ≤ 9223372036854775807 := by
      have := oddN_len (chT t) l N.toNat
      have := hok.1.2.1
      omega
    obtain ⟨q, hq⟩ : ∃ q, q = oddN (chT t) l N.toNat := ⟨_, rfl⟩
    have HO2 := Lib.hid (fun A' cap' W h h1 h2 => (HO.out A' cap' W h h1 h2).mono (R' := fun e w' => ∃ B c, e = .returned (.tuple #[.slice B q.length c, .int .i64 0]) ∧ ISl w' B q ∧ Below W.heap.size W w') fun e w' hr => by
      rcases hr.2 with ⟨h3, _⟩ | ⟨_, B, c, h4, h5⟩
      · exact absurd HOK.out h3
      · rw [hq]; exact ⟨B, c, h4, h5, hr.1⟩)
    have HRO2 := Lib.hid (fun W h => (HRO.out W h).mono (R' := fun e w' => ∃ B c, e = .returned (.tuple #[.slice B q.length c, .int .i64 0]) ∧ ISl w' B q ∧ Below W.heap.size W w') fun e w' hr => by
      rcases hr.2 with ⟨h3, _⟩ | ⟨_, B, c, h4, h5⟩
      · exact absurd HOK.out h3
      · rw [hq]; exact ⟨B, c, h4, h5, hr.1⟩)
    rw [← hq] at hlen
    have HEQ := Lib.hid (fun B B' c c' W (h : ISl W B q) (h' : ISl W B' q) => equal_same B B' c c' q W hlen h h')
    clear hok hq hlen
    go_enter Try.func4, Try.ntmps4
    go_upto_region 3 with (first
      | (go_at_call 16; refine (HG.out _ (H.out.ext HE0.out)).mono ?_; rintro e w1 ⟨A1, c1, rfl, k1, k2, hs1, hx1⟩; have B1 := ext_trans HE0.out hx1)
      | (go_at_call 19; refine (HO2.out _ _ _ hs1 k1 k2).mono ?_; rintro e w2 ⟨A2, c2, rfl, hi2, hx2⟩; have B2 := bext B1 hx2 B1.size; obtain ⟨f1, f2, f3⟩ := ((HB0.out.ext hx1).ext hx2).facts)
      | (go_at_call 20; refine (HRO2.out _ (H.out.ext B2)).mono ?_; rintro e w3 ⟨A3, c3, rfl, hi3, hx3⟩; have B3 := bext B2 hx3 B2.size; have G3 := ((HB0.out.ext hx1).ext hx2).ext hx3; obtain ⟨f1, f2, f3⟩ := G3.facts))
    have HI2 := Lib.hid (hi2.ext hx3)
    have HI3 := Lib.hid hi3
    have HB3 := Lib.hid B3
    have HK := Lib.hid (show ∀ wx wy, Below wx.heap.size wx wy → Below w3.heap.size w3 wx → (Below w3.heap.size w3 wy ∧ wy.cell? ⟨w.heap.size, 0, none⟩ = some (.int .i64 N) ∧ wy.cell? ⟨w.heap.size, 1, none⟩ = some (.slice A l.length cap)) from fun wx wy h1 h2 =>
      have h3 := bext h2 h1 h2.size
      ⟨h3, (G3.ext h3).cell 0, (G3.ext h3).cell 1⟩)
    clear hi2 hi3 hx1 hx2 hx3 B1 B2 B3 G3 hs1
    go_region_held3 (fun wx => Below w3.heap.size w3 wx ∧ wx.cell? ⟨w.heap.size, 0, none⟩ = some (.int .i64 N) ∧ wx.cell? ⟨w.heap.size, 1, none⟩ = some (.slice A l.length cap))
      (first | exact HK.out _ _ (by assumption) (And.left (by assumption)) | exact HK.out _ _ (ext_drew _) (Below.refl _ _))
      (first
        | (go_at_call 16; refine (HG.out _ ?_).mono ?_; exact H.out.ext (bext HB3.out (And.left (by assumption)) HB3.out.size); rintro e w4 ⟨A4, c4, rfl, k3, k4, hs4, hx4⟩)
        | (go_at_call 21; refine (HV.out _ _ _ hs4 k3 k4).mono ?_; rintro e w5 ⟨rfl, hx5⟩)
        | (go_at_call 22; refine (HRV.out _ ?_).mono ?_; exact H.out.ext (bext HB3.out (And.left (by assumption)) HB3.out.size); rintro e w6 ⟨rfl, hx6⟩)
        | (go_at_call 23; refine (HEQ.out _ _ _ _ _ ?_ ?_).mono ?_; exact HI2.out.ext (And.left (by assumption)); exact HI3.out.ext (And.left (by assumption)); rintro e w7 ⟨rfl, hx7⟩)
        | (go_at_call 18; refine (awake_any _).mono ?_; rintro e w8 ⟨rfl, hx8⟩))
    all_goals
      go_wp2
      go_ret
      exact ⟨rfl, bext HB3.out (And.left (by assumption)) HB3.out.size⟩
  · have HOK := Lib.hid hok
    have HO2 := Lib.hid (fun A' cap' W h h1 h2 => (HO.out A' cap' W h h1 h2).mono (R' := fun e w' => e = .returned (.tuple #[.slice none 0 0, .int .i64 2]) ∧ Below W.heap.size W w') fun e w' hr => by
      rcases hr.2 with ⟨_, h3⟩ | ⟨h3, _⟩
      · exact ⟨h3, hr.1⟩
      · exact absurd h3 HOK.out)
    have HRO2 := Lib.hid (fun W h => (HRO.out W h).mono (R' := fun e w' => e = .returned (.tuple #[.slice none 0 0, .int .i64 2]) ∧ Below W.heap.size W w') fun e w' hr => by
      rcases hr.2 with ⟨_, h3⟩ | ⟨h3, _⟩
      · exact ⟨h3, hr.1⟩
      · exact absurd h3 HOK.out)
    have HEQ := Lib.hid (show ∀ B B' c c' W, Calls Try.prog 23 #[.slice B 0 c, .slice B' 0 c'] W fun e w' => e = .returned (.bool true) ∧ Below W.heap.size W w' from fun B B' c c' W => equal_same B B' c c' [] W (by simp) (.inl rfl) (.inl rfl))
    clear hok
    go_enter Try.func4, Try.ntmps4
    go_upto_region 3 with (first
      | (go_at_call 16; refine (HG.out _ (H.out.ext HE0.out)).mono ?_; rintro e w1 ⟨A1, c1, rfl, k1, k2, hs1, hx1⟩; have B1 := ext_trans HE0.out hx1)
      | (go_at_call 19; refine (HO2.out _ _ _ hs1 k1 k2).mono ?_; rintro e w2 ⟨rfl, hx2⟩; have B2 := bext B1 hx2 B1.size; obtain ⟨f1, f2, f3⟩ := ((HB0.out.ext hx1).ext hx2).facts)
      | (go_at_call 20; refine (HRO2.out _ (H.out.ext B2)).mono ?_; rintro e w3 ⟨rfl, hx3⟩; have B3 := bext B2 hx3 B2.size; have G3 := ((HB0.out.ext hx1).ext hx2).ext hx3; obtain ⟨f1, f2, f3⟩ := G3.facts))
    have HB3 := Lib.hid B3
    have HK := Lib.hid (show ∀ wx wy, Below wx.heap.size wx wy → Below w3.heap.size w3 wx → (Below w3.heap.size w3 wy ∧ wy.cell? ⟨w.heap.size, 0, none⟩ = some (.int .i64 N) ∧ wy.cell? ⟨w.heap.size, 1, none⟩ = some (.slice A l.length cap)) from fun wx wy h1 h2 =>
      have h3 := bext h2 h1 h2.size
      ⟨h3, (G3.ext h3).cell 0, (G3.ext h3).cell 1⟩)
    clear hx1 hx2 hx3 B1 B2 B3 G3 hs1
    go_region_held3 (fun wx => Below w3.heap.size w3 wx ∧ wx.cell? ⟨w.heap.size, 0, none⟩ = some (.int .i64 N) ∧ wx.cell? ⟨w.heap.size, 1, none⟩ = some (.slice A l.length cap))
      (first | exact HK.out _ _ (by assumption) (And.left (by assumption)) | exact HK.out _ _ (ext_drew _) (Below.refl _ _))
      (first
        | (go_at_call 16; refine (HG.out _ ?_).mono ?_; exact H.out.ext (bext HB3.out (And.left (by assumption)) HB3.out.size); rintro e w4 ⟨A4, c4, rfl, k3, k4, hs4, hx4⟩)
        | (go_at_call 21; refine (HV.out _ _ _ hs4 k3 k4).mono ?_; rintro e w5 ⟨rfl, hx5⟩)
        | (go_at_call 22; refine (HRV.out _ ?_).mono ?_; exact H.out.ext (bext HB3.out (And.left (by assumption)) HB3.out.size); rintro e w6 ⟨rfl, hx6⟩)
        | (go_at_call 23; refine (HEQ.out _ _ _ _ _).mono ?_; rintro e w7 ⟨rfl, hx7⟩)
        | (go_at_call 18; refine (awake_any _).mono ?_; rintro e w8 ⟨rfl, hx8⟩))
    all_goals
      go_wp2
      go_ret
      exact ⟨rfl, bext HB3.out (And.left (by assumption)) HB3.out.size⟩
end Go.Proofs.Ytbhjhajnhpohlaa
