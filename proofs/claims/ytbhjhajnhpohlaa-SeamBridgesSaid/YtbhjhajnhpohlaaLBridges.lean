/- SeamBridges walked. Conditions: the slice reads as a list of seams. -/
import Derived.Test.YtbhjhajnhpohlaaBs
import Derived.Test.YtbhjhajnhpohlaaLOdd
namespace Go.Proofs.Ytbhjhajnhpohlaa
open Go.RowKit

theorem RetPi.cpy {w : World} {N : Int} {l : List Sm} {e : Ending} {w' : World} (h : RetPi w N (cpy l) e w') : RetPi w N l e w' := by
  obtain ⟨hb, h⟩ := h
  refine ⟨hb, ?_⟩
  rcases h with ⟨h1, h2⟩ | ⟨h1, h2⟩
  · exact .inl ⟨by rw [cpy_ok] at h1; exact h1, h2⟩
  · have hg := cpy_ok.1 h1
    rw [cpy_eq hg] at h2
    exact .inr ⟨hg, h2⟩
theorem RetBr.cpy {w : World} {N : Int} {l : List Sm} {e : Ending} {w' : World} (h : RetBr w N (cpy l) e w') : RetBr w N l e w' := by
  obtain ⟨hb, h⟩ := h
  refine ⟨hb, ?_⟩
  rcases h with ⟨h1, h2⟩ | ⟨h1, h2⟩
  · exact .inl ⟨by rw [cpy_ok] at h1; exact h1, h2⟩
  · have hg := cpy_ok.1 h1
    rw [cpy_eq hg] at h2
    exact .inr ⟨hg, h2⟩

set_option maxRecDepth 100000 in
set_option maxHeartbeats 4000000 in
theorem law_bridges (N : Int) (A : Option Addr) (cap : Nat) (l : List Sm) (w : World) (hc : l.length ≤ cap) (hcm : cap ≤ 9223372036854775807) (h : SSl w A l) :
    Calls Try.prog 6 #[.agg #[.int .i64 N, .slice A l.length cap]] w fun e w' => e = .returned (.bool true) ∧ Below w.heap.size w w' := by
  have HG := Lib.hid (fun W (h : SSl W A l) => graph_any N A cap l W hc hcm h)
  have HP := Lib.hid (fun A' cap' W (h : SSl W A' (cpy l)) (h1 : (cpy l).length ≤ cap') (h2 : cap' ≤ 9223372036854775807) => (Pieces_any N A' cap' (cpy l) W h1 h2 h).mono fun e w' h => h.cpy)
  have HQ := Lib.hid (fun A' cap' W (h : SSl W A' (cpy l)) (h1 : (cpy l).length ≤ cap') (h2 : cap' ≤ 9223372036854775807) => (Bridges_any N A' cap' (cpy l) W h1 h2 h).mono fun e w' h => h.cpy)
  have HRP := Lib.hid (fun W (h : SSl W A l) => rPieces_any N A cap l W hc hcm h)
  have HRQ := Lib.hid (fun W (h : SSl W A l) => rBridges_any N A cap l W hc hcm h)
  have H := Lib.hid h
  have HB0 := Lib.hid (Bk.new 24 w #[.int .i64 N, .slice A l.length cap])
  have HE0 := Lib.hid (ext_alloc w (.cells #[.int .i64 N, .slice A l.length cap] 24))
  clear h
  by_cases hok : GOk N l
  · have HOK := Lib.hid hok
    obtain ⟨p, hp⟩ : ∃ p, p = pcs N.toNat l (-1) := ⟨_, rfl⟩
    obtain ⟨q, hq⟩ : ∃ q, q = brd N.toNat l l.length := ⟨_, rfl⟩
    have hlen : q.length ≤ 9223372036854775807 := by
      have := brd_len N.toNat l l.length
      have := hok.2.2.1
      rw [hq]
      omega
    have HP2 := Lib.hid (fun A' cap' W h h1 h2 => (HP.out A' cap' W h h1 h2).mono (R' := fun e w' => e = .returned (.tuple #[.int .i64 (p : Nat), .int .i64 0]) ∧ Below W.heap.size W w') fun e w' hr => by
      rcases hr.2 with ⟨h3, _⟩ | ⟨_, h4⟩
      · exact absurd HOK.out h3
      · rw [hp]; exact ⟨h4, hr.1⟩)
    have HRP2 := Lib.hid (fun W h => (HRP.out W h).mono (R' := fun e w' => e = .returned (.tuple #[.int .i64 (p : Nat), .int .i64 0]) ∧ Below W.heap.size W w') fun e w' hr => by
      rcases hr.2 with ⟨h3, _⟩ | ⟨_, h4⟩
      · exact absurd HOK.out h3
      · rw [hp]; exact ⟨h4, hr.1⟩)
    have HQ2 := Lib.hid (fun A' cap' W h h1 h2 => (HQ.out A' cap' W h h1 h2).mono (R' := fun e w' => ∃ B c, e = .returned (.tuple #[.slice B q.length c, .int .i64 0]) ∧ ISl w' B q ∧ Below W.heap.size W w') fun e w' hr => by
      rcases hr.2 with ⟨h3, _⟩ | ⟨_, B, c, h4, h5⟩
      · exact absurd HOK.out h3
      · rw [hq]; exact ⟨B, c, h4, h5, hr.1⟩)
    have HRQ2 := Lib.hid (fun W h => (HRQ.out W h).mono (R' := fun e w' => ∃ B c, e = .returned (.tuple #[.slice B q.length c, .int .i64 0]) ∧ ISl w' B q ∧ Below W.heap.size W w') fun e w' hr => by
      rcases hr.2 with ⟨h3, _⟩ | ⟨_, B, c, h4, h5⟩
      · exact absurd HOK.out h3
      · rw [hq]; exact ⟨B, c, h4, h5, hr.1⟩)
    have HEQ := Lib.hid (fun B B' c c' W (h : ISl W B q) (h' : ISl W B' q) => equal_same B B' c c' q W hlen h h')
    clear hok hp hq hlen
    go_enter Try.func6, Try.ntmps6
    go_upto_region 2 with (first
      | (go_at_call 16; refine (HG.out _ (H.out.ext HE0.out)).mono ?_; rintro e w1 ⟨A1, c1, rfl, k1, k2, hs1, hx1⟩; have B1 := ext_trans HE0.out hx1)
      | (go_at_call 28; refine (HP2.out _ _ _ hs1 k1 k2).mono ?_; rintro e w2 ⟨rfl, hx2⟩; have B2 := bext B1 hx2 B1.size; have G2 := (HB0.out.ext hx1).ext hx2; obtain ⟨f1, f2, f3⟩ := G2.facts))
    have HB2 := Lib.hid B2
    have HG2 := Lib.hid G2
    clear hs1 hx1 B1 hx2 B2 G2
    go_upto_region 4 with (first
      | (go_at_call 29; refine (HRP2.out _ (H.out.ext HB2.out)).mono ?_; rintro e w3 ⟨rfl, hx3⟩; have B3 := bext HB2.out hx3 HB2.out.size; have G3 := HG2.out.ext hx3; obtain ⟨f1, f2, f3⟩ := G3.facts)
      | (go_at_call 16; refine (HG.out _ (H.out.ext B3)).mono ?_; rintro e w4 ⟨A4, c4, rfl, k3, k4, hs4, hx4⟩; have B4 := bext B3 hx4 B3.size; have G4 := G3.ext hx4)
      | (go_at_call 30; refine (HQ2.out _ _ _ hs4 k3 k4).mono ?_; rintro e w5 ⟨A5, c5, rfl, hi5, hx5⟩; have B5 := bext B4 hx5 B4.size; obtain ⟨f1, f2, f3⟩ := (G4.ext hx5).facts))
    have HB5 := Lib.hid B5
    have HI5 := Lib.hid hi5
    clear hs4 hx3 B3 G3 hx4 B4 G4 hx5 B5 hi5
    go_wp2_with (first
      | (go_at_call 31; refine (HRQ2.out _ (H.out.ext HB5.out)).mono ?_; rintro e w6 ⟨A6, c6, rfl, hi6, hx6⟩; have B6 := bext HB5.out hx6 HB5.out.size; have I6 := HI5.out.ext hx6)
      | (go_at_call 23; refine (HEQ.out _ _ _ _ _ I6 hi6).mono ?_; rintro e w7 ⟨rfl, hx7⟩; have B7 := bext B6 hx7 B6.size)
      | (go_at_call 18; refine (awake_any _).mono ?_; rintro e w8 ⟨rfl, hx8⟩; have B8 := bext B7 hx8 B7.size))
    go_ret
    exact ⟨rfl, B8⟩
  · have HOK := Lib.hid hok
    have HP2 := Lib.hid (fun A' cap' W h h1 h2 => (HP.out A' cap' W h h1 h2).mono (R' := fun e w' => e = .returned (.tuple #[.int .i64 0, .int .i64 2]) ∧ Below W.heap.size W w') fun e w' hr => by
      rcases hr.2 with ⟨_, h4⟩ | ⟨h3, _⟩
      · exact ⟨h4, hr.1⟩
      · exact absurd h3 HOK.out)
    have HRP2 := Lib.hid (fun W h => (HRP.out W h).mono (R' := fun e w' => e = .returned (.tuple #[.int .i64 0, .int .i64 2]) ∧ Below W.heap.size W w') fun e w' hr => by
      rcases hr.2 with ⟨_, h4⟩ | ⟨h3, _⟩
      · exact ⟨h4, hr.1⟩
      · exact absurd h3 HOK.out)
    have HQ2 := Lib.hid (fun A' cap' W h h1 h2 => (HQ.out A' cap' W h h1 h2).mono (R' := fun e w' => e = .returned (.tuple #[.slice none 0 0, .int .i64 2]) ∧ Below W.heap.size W w') fun e w' hr => by
      rcases hr.2 with ⟨_, h4⟩ | ⟨h3, _⟩
      · exact ⟨h4, hr.1⟩
      · exact absurd h3 HOK.out)
    have HRQ2 := Lib.hid (fun W h => (HRQ.out W h).mono (R' := fun e w' => e = .returned (.tuple #[.slice none 0 0, .int .i64 2]) ∧ Below W.heap.size W w') fun e w' hr => by
      rcases hr.2 with ⟨_, h4⟩ | ⟨h3, _⟩
      · exact ⟨h4, hr.1⟩
      · exact absurd h3 HOK.out)
    have HEQ := Lib.hid (show ∀ B B' c c' W, Calls Try.prog 23 #[.slice B 0 c, .slice B' 0 c'] W fun e w' => e = .returned (.bool true) ∧ Below W.heap.size W w' from fun B B' c c' W => equal_same B B' c c' [] W (by simp) (.inl rfl) (.inl rfl))
    clear hok
    go_enter Try.func6, Try.ntmps6
    go_upto_region 2 with (first
      | (go_at_call 16; refine (HG.out _ (H.out.ext HE0.out)).mono ?_; rintro e w1 ⟨A1, c1, rfl, k1, k2, hs1, hx1⟩; have B1 := ext_trans HE0.out hx1)
      | (go_at_call 28; refine (HP2.out _ _ _ hs1 k1 k2).mono ?_; rintro e w2 ⟨rfl, hx2⟩; have B2 := bext B1 hx2 B1.size; have G2 := (HB0.out.ext hx1).ext hx2; obtain ⟨f1, f2, f3⟩ := G2.facts))
    have HB2 := Lib.hid B2
    have HG2 := Lib.hid G2
    clear hs1 hx1 B1 hx2 B2 G2
    go_upto_region 4 with (first
      | (go_at_call 29; refine (HRP2.out _ (H.out.ext HB2.out)).mono ?_; rintro e w3 ⟨rfl, hx3⟩; have B3 := bext HB2.out hx3 HB2.out.size; have G3 := HG2.out.ext hx3; obtain ⟨f1, f2, f3⟩ := G3.facts)
      | (go_at_call 16; refine (HG.out _ (H.out.ext B3)).mono ?_; rintro e w4 ⟨A4, c4, rfl, k3, k4, hs4, hx4⟩; have B4 := bext B3 hx4 B3.size; have G4 := G3.ext hx4)
      | (go_at_call 30; refine (HQ2.out _ _ _ hs4 k3 k4).mono ?_; rintro e w5 ⟨rfl, hx5⟩; have B5 := bext B4 hx5 B4.size; obtain ⟨f1, f2, f3⟩ := (G4.ext hx5).facts))
    have HB5 := Lib.hid B5
    clear hs4 hx3 B3 G3 hx4 B4 G4 hx5 B5
    go_wp2_with (first
      | (go_at_call 31; refine (HRQ2.out _ (H.out.ext HB5.out)).mono ?_; rintro e w6 ⟨rfl, hx6⟩; have B6 := bext HB5.out hx6 HB5.out.size)
      | (go_at_call 23; refine (HEQ.out _ _ _ _ _).mono ?_; rintro e w7 ⟨rfl, hx7⟩; have B7 := bext B6 hx7 B6.size)
      | (go_at_call 18; refine (awake_any _).mono ?_; rintro e w8 ⟨rfl, hx8⟩; have B8 := bext B7 hx8 B7.size))
    go_ret
    exact ⟨rfl, B8⟩
end Go.Proofs.Ytbhjhajnhpohlaa
