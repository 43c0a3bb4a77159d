/- Rectangles: right, inside, fits; the reference's Rect, Lies, checked; printed by wip/gen_rc.py. Conditions: each string's length is an int. -/
import Derived.Test.YtmgofdgbenfjmaaDoorMr
namespace Go.Proofs.YtmgofdgbenfjmaaDoor
open Go.RowKit

/-- a rectangle x, y, a wide, b high -/
def RcOk (x y a b : Int) : Prop := 1 ≤ a ∧ 1 ≤ b ∧ 0 ≤ x ∧ 0 ≤ y
instance (x y a b : Int) : Decidable (RcOk x y a b) := by unfold RcOk; infer_instance
/-- it lies within w and h -/
def RcIn (x y a b w h : Int) : Prop := a ≤ w ∧ x ≤ w - a ∧ b ≤ h ∧ y ≤ h - b
instance (x y a b w h : Int) : Decidable (RcIn x y a b w h) := by unfold RcIn; infer_instance
set_option maxRecDepth 100000 in
set_option maxHeartbeats 4000000 in
theorem rrect_any (x y a b : Int) (w : World) : Calls Tryd.prog 23 #[.agg #[.int .i64 x, .int .i64 y, .int .i64 a, .int .i64 b]] w fun e w' => e = .returned (.bool (decide (RcOk x y a b))) ∧ Below w.heap.size w w' := by
  by_cases h0 : 1 ≤ a
  · by_cases h1 : 1 ≤ b
    · by_cases h2 : 0 ≤ x
      · by_cases h3 : 0 ≤ y
        · rw [decide_eq_true (show RcOk x y a b from ⟨h0, h1, h2, h3⟩)]
          go_enter Tryd.func23, Tryd.ntmps23
          go_wp2
          go_ret
          exact ⟨rfl, ext_alloc _ _⟩
        · rw [decide_eq_false (show ¬ (RcOk x y a b) from fun h => h3 h.2.2.2)]
          go_enter Tryd.func23, Tryd.ntmps23
          go_wp2
          go_ret
          exact ⟨rfl, ext_alloc _ _⟩
      · rw [decide_eq_false (show ¬ (RcOk x y a b) from fun h => h2 h.2.2.1)]
        go_enter Tryd.func23, Tryd.ntmps23
        go_wp2
        go_ret
        exact ⟨rfl, ext_alloc _ _⟩
    · rw [decide_eq_false (show ¬ (RcOk x y a b) from fun h => h1 h.2.1)]
      go_enter Tryd.func23, Tryd.ntmps23
      go_wp2
      go_ret
      exact ⟨rfl, ext_alloc _ _⟩
  · rw [decide_eq_false (show ¬ (RcOk x y a b) from fun h => h0 h.1)]
    go_enter Tryd.func23, Tryd.ntmps23
    go_wp2
    go_ret
    exact ⟨rfl, ext_alloc _ _⟩
set_option maxRecDepth 100000 in
set_option maxHeartbeats 4000000 in
theorem inside_any (x y a b w h : Int) (W : World) (ha : 1 ≤ a) (hb : 1 ≤ b) (hw : 0 ≤ w ∧ w ≤ 1000) (hh : 0 ≤ h ∧ h ≤ 1000) : Calls Tryd.prog 93 #[.agg #[.int .i64 x, .int .i64 y, .int .i64 a, .int .i64 b], .int .i64 w, .int .i64 h] W fun e w' => e = .returned (.bool (decide (RcIn x y a b w h))) ∧ Below W.heap.size W w' := by
  obtain ⟨w1, w2⟩ := hw
  obtain ⟨v1, v2⟩ := hh
  by_cases h0 : a ≤ w
  · by_cases h1 : x ≤ w - a
    · by_cases h2 : b ≤ h
      · by_cases h3 : y ≤ h - b
        · rw [decide_eq_true (show RcIn x y a b w h from ⟨h0, h1, h2, h3⟩)]
          go_enter Tryd.func93, Tryd.ntmps93
          go_wp2
          go_ret
          exact ⟨rfl, ext_alloc _ _⟩
        · rw [decide_eq_false (show ¬ (RcIn x y a b w h) from fun h => h3 h.2.2.2)]
          go_enter Tryd.func93, Tryd.ntmps93
          go_wp2
          go_ret
          exact ⟨rfl, ext_alloc _ _⟩
      · rw [decide_eq_false (show ¬ (RcIn x y a b w h) from fun h => h2 h.2.2.1)]
        go_enter Tryd.func93, Tryd.ntmps93
        go_wp2
        go_ret
        exact ⟨rfl, ext_alloc _ _⟩
    · rw [decide_eq_false (show ¬ (RcIn x y a b w h) from fun h => h1 h.2.1)]
      go_enter Tryd.func93, Tryd.ntmps93
      go_wp2
      go_ret
      exact ⟨rfl, ext_alloc _ _⟩
  · rw [decide_eq_false (show ¬ (RcIn x y a b w h) from fun h => h0 h.1)]
    go_enter Tryd.func93, Tryd.ntmps93
    go_wp2
    go_ret
    exact ⟨rfl, ext_alloc _ _⟩
set_option maxRecDepth 100000 in
set_option maxHeartbeats 4000000 in
theorem rlies_any (x y a b w h : Int) (W : World) (ha : 1 ≤ a) (hb : 1 ≤ b) (hw : 0 ≤ w ∧ w ≤ 1000) (hh : 0 ≤ h ∧ h ≤ 1000) : Calls Tryd.prog 24 #[.agg #[.int .i64 x, .int .i64 y, .int .i64 a, .int .i64 b], .int .i64 w, .int .i64 h] W fun e w' => e = .returned (.bool (decide (RcIn x y a b w h))) ∧ Below W.heap.size W w' := by
  obtain ⟨w1, w2⟩ := hw
  obtain ⟨v1, v2⟩ := hh
  by_cases h0 : a ≤ w
  · by_cases h1 : x ≤ w - a
    · by_cases h2 : b ≤ h
      · by_cases h3 : y ≤ h - b
        · rw [decide_eq_true (show RcIn x y a b w h from ⟨h0, h1, h2, h3⟩)]
          go_enter Tryd.func24, Tryd.ntmps24
          go_wp2
          go_ret
          exact ⟨rfl, ext_alloc _ _⟩
        · rw [decide_eq_false (show ¬ (RcIn x y a b w h) from fun h => h3 h.2.2.2)]
          go_enter Tryd.func24, Tryd.ntmps24
          go_wp2
          go_ret
          exact ⟨rfl, ext_alloc _ _⟩
      · rw [decide_eq_false (show ¬ (RcIn x y a b w h) from fun h => h2 h.2.2.1)]
        go_enter Tryd.func24, Tryd.ntmps24
        go_wp2
        go_ret
        exact ⟨rfl, ext_alloc _ _⟩
    · rw [decide_eq_false (show ¬ (RcIn x y a b w h) from fun h => h1 h.2.1)]
      go_enter Tryd.func24, Tryd.ntmps24
      go_wp2
      go_ret
      exact ⟨rfl, ext_alloc _ _⟩
  · rw [decide_eq_false (show ¬ (RcIn x y a b w h) from fun h => h0 h.1)]
    go_enter Tryd.func24, Tryd.ntmps24
    go_wp2
    go_ret
    exact ⟨rfl, ext_alloc _ _⟩
/-- the error of a skin and a rectangle -/
def ftE (l : List ByteArray) (x y a b : Int) : Int := if SkOk l ∧ RcOk x y a b then (if RcIn x y a b (wid l) l.length then 0 else 5) else 2
end Go.Proofs.YtmgofdgbenfjmaaDoor
