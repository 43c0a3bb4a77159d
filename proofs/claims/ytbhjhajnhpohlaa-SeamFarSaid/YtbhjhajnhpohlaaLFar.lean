/- SeamFar walked. Conditions: the slice reads as a list of seams. -/
import Derived.Test.YtbhjhajnhpohlaaFs
import Derived.Test.YtbhjhajnhpohlaaRo
import Derived.Test.YtbhjhajnhpohlaaGr
namespace Go.Proofs.Ytbhjhajnhpohlaa
open Go.RowKit

theorem RetFr.cpd {w : World} {N : Int} {l : List Sm} {a b : Int} {e : Ending} {w' : World} (h : RetFr w N (cpy l) a b e w') : RetFr w N l a b e w' := by
  obtain ⟨hb, h⟩ := h
  refine ⟨hb, ?_⟩
  have hf : FOk N (cpy l) a b ↔ FOk N l a b := by unfold FOk; rw [cpy_ok]
  rcases h with ⟨h1, h2⟩ | ⟨h1, h2⟩ | ⟨h1, h2⟩
  · exact .inl ⟨by rw [← hf]; exact h1, h2⟩
  · have hg := hf.1 h1
    rw [cpy_eq hg.1] at h2
    exact .inr (.inl ⟨hg, h2⟩)
  · have hg := hf.1 h1
    rw [cpy_eq hg.1] at h2
    exact .inr (.inr ⟨hg, h2⟩)
/-- all that Far can answer -/
theorem RetFr.one (N : Int) (l : List Sm) (a b : Int) : ∃ (x : Int) (y : Bool) (z : Int), ∀ w e w', RetFr w N l a b e w' → e = .returned (.tuple #[.int .i64 x, .bool y, .int .i64 z]) ∧ Below w.heap.size w w' := by
  by_cases h1 : FOk N l a b
  · by_cases h2 : (tbl N.toNat l).L a.toNat b.toNat < far
    · refine ⟨(tbl N.toNat l).L a.toNat b.toNat, true, 0, fun w e w' h => ?_⟩
      rcases h.2 with ⟨h3, _⟩ | ⟨_, _, h3⟩ | ⟨_, h3, _⟩
      · exact absurd h1 h3
      · exact ⟨h3, h.1⟩
      · exact absurd h2 h3
    · refine ⟨0, false, 0, fun w e w' h => ?_⟩
      rcases h.2 with ⟨h3, _⟩ | ⟨_, h3, _⟩ | ⟨_, _, h3⟩
      · exact absurd h1 h3
      · exact absurd h3 h2
      · exact ⟨h3, h.1⟩
  · refine ⟨0, false, 2, fun w e w' h => ?_⟩
    rcases h.2 with ⟨_, h3⟩ | ⟨h3, _⟩ | ⟨h3, _⟩
    · exact ⟨h3, h.1⟩
    · exact absurd h3 h1
    · exact absurd h3 h1

set_option maxRecDepth 100000 in
set_option maxHeartbeats 4000000 in
theorem law_far (N : Int) (A : Option Addr) (cap : Nat) (l : List Sm) (a b : Int) (w : World) (hc : l.length ≤ cap) (hcm : cap ≤ 9223372036854775807) (h : SSl w A l) :
    Calls Try.prog 3 #[.agg #[.int .i64 N, .slice A l.length cap], .int .i64 a, .int .i64 b] w fun e w' => e = .returned (.bool true) ∧ Below w.heap.size w w' := by
  obtain ⟨x, y, z, hone⟩ := RetFr.one N l a b
  have HG := Lib.hid (fun W (h : SSl W A l) => graph_any N A cap l W hc hcm h)
  have HF := Lib.hid (fun A' cap' W (h : SSl W A' (cpy l)) (h1 : (cpy l).length ≤ cap') (h2 : cap' ≤ 9223372036854775807) => (Far_any N A' cap' (cpy l) a b W h1 h2 h).mono fun e w' h => hone _ _ _ h.cpd)
  have HR := Lib.hid (fun W (h : SSl W A l) => (rFar_any N A cap l a b W hc hcm h).mono fun e w' h => hone _ _ _ h)
  have H := Lib.hid h
  have HB0 := Lib.hid (Bk.new 24 w #[.int .i64 N, .slice A l.length cap])
  have HE0 := Lib.hid (ext_alloc w (.cells #[.int .i64 N, .slice A l.length cap] 24))
  clear h hone
  go_enter Try.func3, Try.ntmps3
  go_wp2_with (first
    | (go_at_call 16; refine (HG.out _ (H.out.ext HE0.out)).mono ?_; rintro e w1 ⟨A1, c1, rfl, k1, k2, hs1, hx1⟩; have B1 := ext_trans HE0.out hx1)
    | (go_at_call 15; refine (HF.out _ _ _ hs1 k1 k2).mono ?_; rintro e w2 ⟨rfl, hx2⟩; have B2 := bext B1 hx2 B1.size; obtain ⟨f1, f2, f3⟩ := ((HB0.out.ext hx1).ext hx2).facts)
    | (go_at_call 17; refine (HR.out _ (H.out.ext B2)).mono ?_; rintro e w3 ⟨rfl, hx3⟩; have B3 := bext B2 hx3 B2.size)
    | (go_at_call 18; refine (awake_any _).mono ?_; rintro e w4 ⟨rfl, hx4⟩; have B4 := bext B3 hx4 B3.size))
  go_ret
  exact ⟨rfl, B4⟩
end Go.Proofs.Ytbhjhajnhpohlaa
