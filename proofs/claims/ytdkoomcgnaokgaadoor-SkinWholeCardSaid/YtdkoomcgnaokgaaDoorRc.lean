/- Rectangles: right, inside, fits; the reference's Rect, Lies, checked; printed by wip/gen_rc.py. Conditions: each string's length is an int. -/
import Derived.Test.YtdkoomcgnaokgaaDoorMr
namespace Go.Proofs.YtdkoomcgnaokgaaDoor
open Go.RowKit

/-- a rectangle x, y, a wide, b high -/
def RcOk (x y a b : Int) : Prop := 1 ≤ a ∧ 1 ≤ b ∧ 0 ≤ x ∧ 0 ≤ y
instance (x y a b : Int) : Decidable (RcOk x y a b) := by unfold RcOk; infer_instance
/-- it lies within w and h -/
def RcIn (x y a b w h : Int) : Prop := a ≤ w ∧ x ≤ w - a ∧ b ≤ h ∧ y ≤ h - b
instance (x y a b w h : Int) : Decidable (RcIn x y a b w h) := by unfold RcIn; infer_instance
set_option maxRecDepth 100000 in
set_option maxHeartbeats 4000000 in
theorem right_any (x y a b : Int) (w : World) : Calls Tryd.prog 57 #[.agg #[.int .i64 x, .int .i64 y, .int .i64 a, .int .i64 b]] w fun e w' => e = .returned (.bool (decide (RcOk x y a b))) ∧ Below w.heap.size w w' := by
  by_cases h0 : 1 ≤ a
  · by_cases h1 : 1 ≤ b
    · by_cases h2 : 0 ≤ x
      · by_cases h3 : 0 ≤ y
        · rw [decide_eq_true (show RcOk x y a b from ⟨h0, h1, h2, h3⟩)]
          go_enter Tryd.func57, Tryd.ntmps57
          go_wp2
          go_ret
          exact ⟨rfl, ext_alloc _ _⟩
        · rw [decide_eq_false (show ¬ (RcOk x y a b) from fun h => h3 h.2.2.2)]
          go_enter Tryd.func57, Tryd.ntmps57
          go_wp2
          go_ret
          exact ⟨rfl, ext_alloc _ _⟩
      · rw [decide_eq_false (show ¬ (RcOk x y a b) from fun h => h2 h.2.2.1)]
        go_enter Tryd.func57, Tryd.ntmps57
        go_wp2
        go_ret
        exact ⟨rfl, ext_alloc _ _⟩
    · rw [decide_eq_false (show ¬ (RcOk x y a b) from fun h => h1 h.2.1)]
      go_enter Tryd.func57, Tryd.ntmps57
      go_wp2
      go_ret
      exact ⟨rfl, ext_alloc _ _⟩
  · rw [decide_eq_false (show ¬ (RcOk x y a b) from fun h => h0 h.1)]
    go_enter Tryd.func57, Tryd.ntmps57
    go_wp2
    go_ret
    exact ⟨rfl, ext_alloc _ _⟩
set_option maxRecDepth 100000 in
set_option maxHeartbeats 4000000 in
theorem rrect_any (x y a b : Int) (w : World) : Calls Tryd.prog 18 #[.agg #[.int .i64 x, .int .i64 y, .int .i64 a, .int .i64 b]] w fun e w' => e = .returned (.bool (decide (RcOk x y a b))) ∧ Below w.heap.size w w' := by
  by_cases h0 : 1 ≤ a
  · by_cases h1 : 1 ≤ b
    · by_cases h2 : 0 ≤ x
      · by_cases h3 : 0 ≤ y
        · rw [decide_eq_true (show RcOk x y a b from ⟨h0, h1, h2, h3⟩)]
          go_enter Tryd.func18, Tryd.ntmps18
          go_wp2
          go_ret
          exact ⟨rfl, ext_alloc _ _⟩
        · rw [decide_eq_false (show ¬ (RcOk x y a b) from fun h => h3 h.2.2.2)]
          go_enter Tryd.func18, Tryd.ntmps18
          go_wp2
          go_ret
          exact ⟨rfl, ext_alloc _ _⟩
      · rw [decide_eq_false (show ¬ (RcOk x y a b) from fun h => h2 h.2.2.1)]
        go_enter Tryd.func18, Tryd.ntmps18
        go_wp2
        go_ret
        exact ⟨rfl, ext_alloc _ _⟩
    · rw [decide_eq_false (show ¬ (RcOk x y a b) from fun h => h1 h.2.1)]
      go_enter Tryd.func18, Tryd.ntmps18
      go_wp2
      go_ret
      exact ⟨rfl, ext_alloc _ _⟩
  · rw [decide_eq_false (show ¬ (RcOk x y a b) from fun h => h0 h.1)]
    go_enter Tryd.func18, Tryd.ntmps18
    go_wp2
    go_ret
    exact ⟨rfl, ext_alloc _ _⟩
set_option maxRecDepth 100000 in
set_option maxHeartbeats 4000000 in
theorem inside_any (x y a b w h : Int) (W : World) (ha : 1 ≤ a) (hb : 1 ≤ b) (hw : 0 ≤ w ∧ w ≤ 1000) (hh : 0 ≤ h ∧ h ≤ 1000) : Calls Tryd.prog 58 #[.agg #[.int .i64 x, .int .i64 y, .int .i64 a, .int .i64 b], .int .i64 w, .int .i64 h] W fun e w' => e = .returned (.bool (decide (RcIn x y a b w h))) ∧ Below W.heap.size W w' := by
  obtain ⟨w1, w2⟩ := hw
  obtain ⟨v1, v2⟩ := hh
  by_cases h0 : a ≤ w
  · by_cases h1 : x ≤ w - a
    · by_cases h2 : b ≤ h
      · by_cases h3 : y ≤ h - b
        · rw [decide_eq_true (show RcIn x y a b w h from ⟨h0, h1, h2, h3⟩)]
          go_enter Tryd.func58, Tryd.ntmps58
          go_wp2
          go_ret
          exact ⟨rfl, ext_alloc _ _⟩
        · rw [decide_eq_false (show ¬ (RcIn x y a b w h) from fun h => h3 h.2.2.2)]
          go_enter Tryd.func58, Tryd.ntmps58
          go_wp2
          go_ret
          exact ⟨rfl, ext_alloc _ _⟩
      · rw [decide_eq_false (show ¬ (RcIn x y a b w h) from fun h => h2 h.2.2.1)]
        go_enter Tryd.func58, Tryd.ntmps58
        go_wp2
        go_ret
        exact ⟨rfl, ext_alloc _ _⟩
    · rw [decide_eq_false (show ¬ (RcIn x y a b w h) from fun h => h1 h.2.1)]
      go_enter Tryd.func58, Tryd.ntmps58
      go_wp2
      go_ret
      exact ⟨rfl, ext_alloc _ _⟩
  · rw [decide_eq_false (show ¬ (RcIn x y a b w h) from fun h => h0 h.1)]
    go_enter Tryd.func58, Tryd.ntmps58
    go_wp2
    go_ret
    exact ⟨rfl, ext_alloc _ _⟩
set_option maxRecDepth 100000 in
set_option maxHeartbeats 4000000 in
theorem rlies_any (x y a b w h : Int) (W : World) (ha : 1 ≤ a) (hb : 1 ≤ b) (hw : 0 ≤ w ∧ w ≤ 1000) (hh : 0 ≤ h ∧ h ≤ 1000) : Calls Tryd.prog 19 #[.agg #[.int .i64 x, .int .i64 y, .int .i64 a, .int .i64 b], .int .i64 w, .int .i64 h] W fun e w' => e = .returned (.bool (decide (RcIn x y a b w h))) ∧ Below W.heap.size W w' := by
  obtain ⟨w1, w2⟩ := hw
  obtain ⟨v1, v2⟩ := hh
  by_cases h0 : a ≤ w
  · by_cases h1 : x ≤ w - a
    · by_cases h2 : b ≤ h
      · by_cases h3 : y ≤ h - b
        · rw [decide_eq_true (show RcIn x y a b w h from ⟨h0, h1, h2, h3⟩)]
          go_enter Tryd.func19, Tryd.ntmps19
          go_wp2
          go_ret
          exact ⟨rfl, ext_alloc _ _⟩
        · rw [decide_eq_false (show ¬ (RcIn x y a b w h) from fun h => h3 h.2.2.2)]
          go_enter Tryd.func19, Tryd.ntmps19
          go_wp2
          go_ret
          exact ⟨rfl, ext_alloc _ _⟩
      · rw [decide_eq_false (show ¬ (RcIn x y a b w h) from fun h => h2 h.2.2.1)]
        go_enter Tryd.func19, Tryd.ntmps19
        go_wp2
        go_ret
        exact ⟨rfl, ext_alloc _ _⟩
    · rw [decide_eq_false (show ¬ (RcIn x y a b w h) from fun h => h1 h.2.1)]
      go_enter Tryd.func19, Tryd.ntmps19
      go_wp2
      go_ret
      exact ⟨rfl, ext_alloc _ _⟩
  · rw [decide_eq_false (show ¬ (RcIn x y a b w h) from fun h => h0 h.1)]
    go_enter Tryd.func19, Tryd.ntmps19
    go_wp2
    go_ret
    exact ⟨rfl, ext_alloc _ _⟩
/-- the error of a skin and a rectangle -/
def ftE (l : List ByteArray) (x y a b : Int) : Int := if SkOk l ∧ RcOk x y a b then (if RcIn x y a b (wid l) l.length then 0 else 5) else 2
set_option maxRecDepth 100000 in
set_option maxHeartbeats 4000000 in
theorem fits_any (A : Option Addr) (cap : Nat) (l : List ByteArray) (x y a b : Int) (w : World) (hc : l.length ≤ cap) (hcm : cap ≤ 9223372036854775807) (h : TSl w A l) (hz : TSz l) :
    Calls Tryd.prog 69 #[.slice A l.length cap, .agg #[.int .i64 x, .int .i64 y, .int .i64 a, .int .i64 b]] w fun e w' => e = .returned (.int .i64 (ftE l x y a b)) ∧ Below w.heap.size w w' := by
  have hx0 := ext_alloc w (.cells #[.int .i64 x, .int .i64 y, .int .i64 a, .int .i64 b] 31)
  have HX0 := Lib.hid hx0
  have HB0 := Lib.hid (Bk.new 31 w #[.int .i64 x, .int .i64 y, .int .i64 a, .int .i64 b])
  have HV := Lib.hid (valid_any A cap l _ hc hcm (h.ext hx0) hz)
  have HR := Lib.hid (fun W => right_any x y a b W)
  by_cases hok : SkOk l
  · rw [decide_eq_true hok] at HV
    by_cases hr : RcOk x y a b
    · rw [decide_eq_true hr] at HR
      have HI := Lib.hid (fun W => inside_any x y a b (wid l) l.length W hr.1 hr.2.1 ⟨by omega, by have := hok.2.2.2.1; omega⟩ ⟨by omega, by have := hok.2.1; omega⟩)
      rcases h with h0 | ⟨b', off, rfl, hblt, hcl⟩
      · have h1 := hok.1; rw [h0] at h1; simp at h1
      have HC := Lib.hid (show ∀ W, Below w.heap.size w W → b' < W.heap.size ∧ ∃ r0 : ByteArray, W.cell? ⟨b', off, none⟩ = some (.string r0) ∧ r0.size = wid l from fun W hW => ⟨Nat.lt_of_lt_of_le hblt hW.size, first_row hok (fun j hj => (hW.cell (p := ⟨b', off + j, none⟩) hblt).trans (hcl j hj))⟩)
      have hl0 : 0 < l.length := hok.1
      have HE := Lib.hid (show ftE l x y a b = if RcIn x y a b (wid l) l.length then 0 else 5 from if_pos ⟨hok, hr⟩)
      clear hok hcl hblt hx0 hz
      by_cases hin : RcIn x y a b (wid l) l.length
      · rw [decide_eq_true hin] at HI
        rw [if_pos hin] at HE
        rw [HE.out]
        clear hin hr
        go_enter Tryd.func69, Tryd.ntmps69
        go_upto_region 3 with (first
          | (go_at_call 25; refine (HV.out).mono ?_; rintro e w1 ⟨rfl, hx1⟩; have BB1 := Lib.hid (bext HX0.out hx1 HX0.out.size); have HB1 := Lib.hid (HB0.out.ext hx1); obtain ⟨f1, f2, f3⟩ := HB1.out.facts; clear hx1)
          | (go_at_call 57; refine (HR.out _).mono ?_; rintro e w2 ⟨rfl, hx2⟩; have BB2 := Lib.hid (bext BB1.out hx2 BB1.out.size); have HB2 := Lib.hid (HB1.out.ext hx2); clear hx2 f1 f2 f3; obtain ⟨f1, f2, f3⟩ := HB2.out.facts))
        obtain ⟨hblt, r0, c0, hr0⟩ := HC.out _ BB2.out
        refine wp_region_held_drew (S := (fun wx => Below w2.heap.size w2 wx ∧ wx.cell? ⟨w.heap.size, 0, none⟩ = some (.int .i64 x) ∧ wx.cell? ⟨w.heap.size, 1, none⟩ = some (.int .i64 y) ∧ wx.cell? ⟨w.heap.size, 2, none⟩ = some (.int .i64 a) ∧ wx.cell? ⟨w.heap.size, 3, none⟩ = some (.int .i64 b) ∧ wx.cell? ⟨b', off, none⟩ = some (.string r0))) (by kernel_rfl) (⟨ext_drew _, f1 0, f1 1, f1 2, f1 3, c0⟩) (fun hHeld => ?_)
        refine wpAnyH_take (i := 0) (v := ?v1) rfl (by kernel_rfl) (by kernel_rfl) (by kernel_rfl) (fun _ _ _ h => h) (Or.inl ⟨by rfl, ?hy1⟩) hHeld ?rst1
        case hy1 => (intro wx hSw; (try dsimp only at hSw); go_simp; try (with_reducible rfl))
        try simp only [List.getElem_toArray, List.getElem_cons_zero, Act.put, List.setIfInBounds_toArray, List.set_cons_zero, List.set_cons_succ]
        refine wpAnyH_take (i := 1) (v := ?v2) rfl (by kernel_rfl) (by kernel_rfl) (by kernel_rfl) (fun _ _ _ h => h) (Or.inl ⟨by rfl, ?hy2⟩) hHeld ?rst2
        case hy2 => (intro wx hSw; (try dsimp only at hSw); go_simp; try (with_reducible rfl))
        try simp only [List.getElem_toArray, List.getElem_cons_zero, List.getElem_cons_succ, Act.put, List.setIfInBounds_toArray, List.set_cons_zero, List.set_cons_succ]
        refine wpAnyH_take (i := 2) (v := ?v3) rfl (by kernel_rfl) (by kernel_rfl) (by kernel_rfl) (fun _ _ _ h => h) (Or.inl ⟨by rfl, ?hy3⟩) hHeld ?rst3
        case hy3 => (intro wx hSw; (try dsimp only at hSw); go_simp; try (with_reducible rfl))
        try simp only [List.getElem_toArray, List.getElem_cons_zero, List.getElem_cons_succ, Act.put, List.setIfInBounds_toArray, List.set_cons_zero, List.set_cons_succ]
        refine wpAnyH_take (i := 3) (v := ?v4) rfl (by kernel_rfl) (by kernel_rfl) (by kernel_rfl) (fun _ _ _ h => h) (Or.inl ⟨by rfl, ?hy4⟩) hHeld ?rst4
        case hy4 => (intro wx hSw; (try dsimp only at hSw); go_simp; try (with_reducible rfl))
        try simp only [List.getElem_toArray, List.getElem_cons_zero, List.getElem_cons_succ, Act.put, List.setIfInBounds_toArray, List.set_cons_zero, List.set_cons_succ]
        refine wpAnyH_take (i := 4) (v := ?v5) rfl (by kernel_rfl) (by kernel_rfl) (by kernel_rfl) (fun _ _ _ h => h) (Or.inl ⟨by rfl, ?hy5⟩) hHeld ?rst5
        case hy5 => (intro wx hSw; (try dsimp only at hSw); go_simp; try (with_reducible rfl))
        try simp only [List.getElem_toArray, List.getElem_cons_zero, List.getElem_cons_succ, Act.put, List.setIfInBounds_toArray, List.set_cons_zero, List.set_cons_succ]
        refine wpAnyH_take (i := 5) (v := ?v6) rfl (by kernel_rfl) (by kernel_rfl) (by kernel_rfl) (fun _ _ _ h => h) (Or.inl ⟨by rfl, ?hy6⟩) hHeld ?rst6
        case hy6 => (intro wx hSw; (try dsimp only at hSw); go_simp; try (with_reducible rfl))
        try simp only [List.getElem_toArray, List.getElem_cons_zero, List.getElem_cons_succ, Act.put, List.setIfInBounds_toArray, List.set_cons_zero, List.set_cons_succ]
        refine wpAnyH_take (i := 6) (v := ?v7) rfl (by kernel_rfl) (by kernel_rfl) (by kernel_rfl) (fun _ _ _ h => h) (Or.inl ⟨by rfl, ?hy7⟩) hHeld ?rst7
        case hy7 => (intro wx hSw; (try dsimp only at hSw); go_simp; try (with_reducible rfl))
        try simp only [List.getElem_toArray, List.getElem_cons_zero, List.getElem_cons_succ, Act.put, List.setIfInBounds_toArray, List.set_cons_zero, List.set_cons_succ]
        refine wpAnyH_ready (rs := [7]) (by kernel_rfl) (by simp) ?_
        refine AllReadyH.cons rfl (fun K hK => ?_) AllReadyH.nil
        go_simp
        (go_at_call 58; refine (HI.out _).mono ?_; rintro e w3 ⟨rfl, hx3'⟩; have hx3 := ext_trans (ext_drew w2) hx3'; have HB3 := Lib.hid (HB2.out.ext hx3))
        refine hK.out _ _ (⟨hx3, HB3.out.cell 0, HB3.out.cell 1, HB3.out.cell 2, HB3.out.cell 3, (hx3.cell (p := ⟨b', off, none⟩) hblt).trans c0⟩) (fun hHeld => ?_)
        clear hK K
        try simp only [List.getElem_toArray, List.getElem_cons_zero, List.getElem_cons_succ, Act.put, List.setIfInBounds_toArray, List.set_cons_zero, List.set_cons_succ]
        refine wpAnyH_take (i := 8) (v := ?v8) rfl (by kernel_rfl) (by kernel_rfl) (by kernel_rfl) (fun _ _ _ h => h) (Or.inl ⟨by rfl, ?hy8⟩) hHeld ?rst8
        case hy8 => (intro wx hSw; (try dsimp only at hSw); go_simp; try (with_reducible rfl))
        try simp only [List.getElem_toArray, List.getElem_cons_zero, List.getElem_cons_succ, Act.put, List.setIfInBounds_toArray, List.set_cons_zero, List.set_cons_succ]
        refine wpAnyH_take (i := 9) (v := ?v9) rfl (by kernel_rfl) (by kernel_rfl) (by kernel_rfl) (fun _ _ _ h => h) (Or.inl ⟨by rfl, ?hy9⟩) hHeld ?rst9
        case hy9 => (intro wx hSw; (try dsimp only at hSw); go_simp; try (with_reducible rfl))
        try simp only [List.getElem_toArray, List.getElem_cons_zero, List.getElem_cons_succ, Act.put, List.setIfInBounds_toArray, List.set_cons_zero, List.set_cons_succ]
        refine wpAnyH_done (by kernel_rfl) ?_ _
        go_wp2
        go_ret
        exact ⟨rfl, bext BB2.out hx3 BB2.out.size⟩
      · rw [decide_eq_false hin] at HI
        rw [if_neg hin] at HE
        rw [HE.out]
        clear hin hr
        go_enter Tryd.func69, Tryd.ntmps69
        go_upto_region 3 with (first
          | (go_at_call 25; refine (HV.out).mono ?_; rintro e w1 ⟨rfl, hx1⟩; have BB1 := Lib.hid (bext HX0.out hx1 HX0.out.size); have HB1 := Lib.hid (HB0.out.ext hx1); obtain ⟨f1, f2, f3⟩ := HB1.out.facts; clear hx1)
          | (go_at_call 57; refine (HR.out _).mono ?_; rintro e w2 ⟨rfl, hx2⟩; have BB2 := Lib.hid (bext BB1.out hx2 BB1.out.size); have HB2 := Lib.hid (HB1.out.ext hx2); clear hx2 f1 f2 f3; obtain ⟨f1, f2, f3⟩ := HB2.out.facts))
        obtain ⟨hblt, r0, c0, hr0⟩ := HC.out _ BB2.out
        refine wp_region_held_drew (S := (fun wx => Below w2.heap.size w2 wx ∧ wx.cell? ⟨w.heap.size, 0, none⟩ = some (.int .i64 x) ∧ wx.cell? ⟨w.heap.size, 1, none⟩ = some (.int .i64 y) ∧ wx.cell? ⟨w.heap.size, 2, none⟩ = some (.int .i64 a) ∧ wx.cell? ⟨w.heap.size, 3, none⟩ = some (.int .i64 b) ∧ wx.cell? ⟨b', off, none⟩ = some (.string r0))) (by kernel_rfl) (⟨ext_drew _, f1 0, f1 1, f1 2, f1 3, c0⟩) (fun hHeld => ?_)
        refine wpAnyH_take (i := 0) (v := ?v10) rfl (by kernel_rfl) (by kernel_rfl) (by kernel_rfl) (fun _ _ _ h => h) (Or.inl ⟨by rfl, ?hy10⟩) hHeld ?rst10
        case hy10 => (intro wx hSw; (try dsimp only at hSw); go_simp; try (with_reducible rfl))
        try simp only [List.getElem_toArray, List.getElem_cons_zero, Act.put, List.setIfInBounds_toArray, List.set_cons_zero, List.set_cons_succ]
        refine wpAnyH_take (i := 1) (v := ?v11) rfl (by kernel_rfl) (by kernel_rfl) (by kernel_rfl) (fun _ _ _ h => h) (Or.inl ⟨by rfl, ?hy11⟩) hHeld ?rst11
        case hy11 => (intro wx hSw; (try dsimp only at hSw); go_simp; try (with_reducible rfl))
        try simp only [List.getElem_toArray, List.getElem_cons_zero, List.getElem_cons_succ, Act.put, List.setIfInBounds_toArray, List.set_cons_zero, List.set_cons_succ]
        refine wpAnyH_take (i := 2) (v := ?v12) rfl (by kernel_rfl) (by kernel_rfl) (by kernel_rfl) (fun _ _ _ h => h) (Or.inl ⟨by rfl, ?hy12⟩) hHeld ?rst12
        case hy12 => (intro wx hSw; (try dsimp only at hSw); go_simp; try (with_reducible rfl))
        try simp only [List.getElem_toArray, List.getElem_cons_zero, List.getElem_cons_succ, Act.put, List.setIfInBounds_toArray, List.set_cons_zero, List.set_cons_succ]
        refine wpAnyH_take (i := 3) (v := ?v13) rfl (by kernel_rfl) (by kernel_rfl) (by kernel_rfl) (fun _ _ _ h => h) (Or.inl ⟨by rfl, ?hy13⟩) hHeld ?rst13
        case hy13 => (intro wx hSw; (try dsimp only at hSw); go_simp; try (with_reducible rfl))
        try simp only [List.getElem_toArray, List.getElem_cons_zero, List.getElem_cons_succ, Act.put, List.setIfInBounds_toArray, List.set_cons_zero, List.set_cons_succ]
        refine wpAnyH_take (i := 4) (v := ?v14) rfl (by kernel_rfl) (by kernel_rfl) (by kernel_rfl) (fun _ _ _ h => h) (Or.inl ⟨by rfl, ?hy14⟩) hHeld ?rst14
        case hy14 => (intro wx hSw; (try dsimp only at hSw); go_simp; try (with_reducible rfl))
        try simp only [List.getElem_toArray, List.getElem_cons_zero, List.getElem_cons_succ, Act.put, List.setIfInBounds_toArray, List.set_cons_zero, List.set_cons_succ]
        refine wpAnyH_take (i := 5) (v := ?v15) rfl (by kernel_rfl) (by kernel_rfl) (by kernel_rfl) (fun _ _ _ h => h) (Or.inl ⟨by rfl, ?hy15⟩) hHeld ?rst15
        case hy15 => (intro wx hSw; (try dsimp only at hSw); go_simp; try (with_reducible rfl))
        try simp only [List.getElem_toArray, List.getElem_cons_zero, List.getElem_cons_succ, Act.put, List.setIfInBounds_toArray, List.set_cons_zero, List.set_cons_succ]
        refine wpAnyH_take (i := 6) (v := ?v16) rfl (by kernel_rfl) (by kernel_rfl) (by kernel_rfl) (fun _ _ _ h => h) (Or.inl ⟨by rfl, ?hy16⟩) hHeld ?rst16
        case hy16 => (intro wx hSw; (try dsimp only at hSw); go_simp; try (with_reducible rfl))
        try simp only [List.getElem_toArray, List.getElem_cons_zero, List.getElem_cons_succ, Act.put, List.setIfInBounds_toArray, List.set_cons_zero, List.set_cons_succ]
        refine wpAnyH_ready (rs := [7]) (by kernel_rfl) (by simp) ?_
        refine AllReadyH.cons rfl (fun K hK => ?_) AllReadyH.nil
        go_simp
        (go_at_call 58; refine (HI.out _).mono ?_; rintro e w3 ⟨rfl, hx3'⟩; have hx3 := ext_trans (ext_drew w2) hx3'; have HB3 := Lib.hid (HB2.out.ext hx3))
        refine hK.out _ _ (⟨hx3, HB3.out.cell 0, HB3.out.cell 1, HB3.out.cell 2, HB3.out.cell 3, (hx3.cell (p := ⟨b', off, none⟩) hblt).trans c0⟩) (fun hHeld => ?_)
        clear hK K
        try simp only [List.getElem_toArray, List.getElem_cons_zero, List.getElem_cons_succ, Act.put, List.setIfInBounds_toArray, List.set_cons_zero, List.set_cons_succ]
        refine wpAnyH_take (i := 8) (v := ?v17) rfl (by kernel_rfl) (by kernel_rfl) (by kernel_rfl) (fun _ _ _ h => h) (Or.inl ⟨by rfl, ?hy17⟩) hHeld ?rst17
        case hy17 => (intro wx hSw; (try dsimp only at hSw); go_simp; try (with_reducible rfl))
        try simp only [List.getElem_toArray, List.getElem_cons_zero, List.getElem_cons_succ, Act.put, List.setIfInBounds_toArray, List.set_cons_zero, List.set_cons_succ]
        refine wpAnyH_take (i := 9) (v := ?v18) rfl (by kernel_rfl) (by kernel_rfl) (by kernel_rfl) (fun _ _ _ h => h) (Or.inl ⟨by rfl, ?hy18⟩) hHeld ?rst18
        case hy18 => (intro wx hSw; (try dsimp only at hSw); go_simp; try (with_reducible rfl))
        try simp only [List.getElem_toArray, List.getElem_cons_zero, List.getElem_cons_succ, Act.put, List.setIfInBounds_toArray, List.set_cons_zero, List.set_cons_succ]
        refine wpAnyH_done (by kernel_rfl) ?_ _
        go_wp2
        go_ret
        exact ⟨rfl, bext BB2.out hx3 BB2.out.size⟩
    · rw [decide_eq_false hr] at HR
      rw [show ftE l x y a b = 2 from if_neg (fun h => hr h.2)]
      clear hok hr h hz hx0
      go_enter Tryd.func69, Tryd.ntmps69
      go_wp2_with (first
        | (go_at_call 25; refine (HV.out).mono ?_; rintro e w1 ⟨rfl, hx1⟩; have BB1 := Lib.hid (bext HX0.out hx1 HX0.out.size); obtain ⟨f1, f2, f3⟩ := (HB0.out.ext hx1).facts; clear hx1)
        | (go_at_call 57; refine (HR.out _).mono ?_; rintro e w2 ⟨rfl, hx2⟩; have BB2 := Lib.hid (bext BB1.out hx2 BB1.out.size); clear hx2))
      go_ret
      exact ⟨rfl, BB2.out⟩
  · rw [decide_eq_false hok] at HV
    rw [show ftE l x y a b = 2 from if_neg (fun h => hok h.1)]
    clear hok h hz hx0
    go_enter Tryd.func69, Tryd.ntmps69
    go_wp2_with (go_at_call 25; refine (HV.out).mono ?_; rintro e w1 ⟨rfl, hx1⟩; have BB1 := Lib.hid (bext HX0.out hx1 HX0.out.size); clear hx1)
    go_ret
    exact ⟨rfl, BB1.out⟩
set_option maxRecDepth 100000 in
set_option maxHeartbeats 4000000 in
theorem rchecked_any (A : Option Addr) (cap : Nat) (l : List ByteArray) (x y a b : Int) (w : World) (hc : l.length ≤ cap) (hcm : cap ≤ 9223372036854775807) (h : TSl w A l) (hz : TSz l) :
    Calls Tryd.prog 71 #[.slice A l.length cap, .agg #[.int .i64 x, .int .i64 y, .int .i64 a, .int .i64 b]] w fun e w' => e = .returned (.int .i64 (ftE l x y a b)) ∧ Below w.heap.size w w' := by
  have hx0 := ext_alloc w (.cells #[.int .i64 x, .int .i64 y, .int .i64 a, .int .i64 b] 31)
  have HX0 := Lib.hid hx0
  have HB0 := Lib.hid (Bk.new 31 w #[.int .i64 x, .int .i64 y, .int .i64 a, .int .i64 b])
  have HV := Lib.hid (rvalid_any A cap l _ hc hcm (h.ext hx0) hz)
  have HR := Lib.hid (fun W => rrect_any x y a b W)
  by_cases hok : SkOk l
  · rw [decide_eq_true hok] at HV
    by_cases hr : RcOk x y a b
    · rw [decide_eq_true hr] at HR
      have HI := Lib.hid (fun W => rlies_any x y a b (wid l) l.length W hr.1 hr.2.1 ⟨by omega, by have := hok.2.2.2.1; omega⟩ ⟨by omega, by have := hok.2.1; omega⟩)
      rcases h with h0 | ⟨b', off, rfl, hblt, hcl⟩
      · have h1 := hok.1; rw [h0] at h1; simp at h1
      have HC := Lib.hid (show ∀ W, Below w.heap.size w W → b' < W.heap.size ∧ ∃ r0 : ByteArray, W.cell? ⟨b', off, none⟩ = some (.string r0) ∧ r0.size = wid l from fun W hW => ⟨Nat.lt_of_lt_of_le hblt hW.size, first_row hok (fun j hj => (hW.cell (p := ⟨b', off + j, none⟩) hblt).trans (hcl j hj))⟩)
      have hl0 : 0 < l.length := hok.1
      have HE := Lib.hid (show ftE l x y a b = if RcIn x y a b (wid l) l.length then 0 else 5 from if_pos ⟨hok, hr⟩)
      clear hok hcl hblt hx0 hz
      by_cases hin : RcIn x y a b (wid l) l.length
      · rw [decide_eq_true hin] at HI
        rw [if_pos hin] at HE
        rw [HE.out]
        clear hin hr
        go_enter Tryd.func71, Tryd.ntmps71
        go_upto_region 3 with (first
          | (go_at_call 26; refine (HV.out).mono ?_; rintro e w1 ⟨rfl, hx1⟩; have BB1 := Lib.hid (bext HX0.out hx1 HX0.out.size); have HB1 := Lib.hid (HB0.out.ext hx1); obtain ⟨f1, f2, f3⟩ := HB1.out.facts; clear hx1)
          | (go_at_call 18; refine (HR.out _).mono ?_; rintro e w2 ⟨rfl, hx2⟩; have BB2 := Lib.hid (bext BB1.out hx2 BB1.out.size); have HB2 := Lib.hid (HB1.out.ext hx2); clear hx2 f1 f2 f3; obtain ⟨f1, f2, f3⟩ := HB2.out.facts))
        obtain ⟨hblt, r0, c0, hr0⟩ := HC.out _ BB2.out
        refine wp_region_held_drew (S := (fun wx => Below w2.heap.size w2 wx ∧ wx.cell? ⟨w.heap.size, 0, none⟩ = some (.int .i64 x) ∧ wx.cell? ⟨w.heap.size, 1, none⟩ = some (.int .i64 y) ∧ wx.cell? ⟨w.heap.size, 2, none⟩ = some (.int .i64 a) ∧ wx.cell? ⟨w.heap.size, 3, none⟩ = some (.int .i64 b) ∧ wx.cell? ⟨b', off, none⟩ = some (.string r0))) (by kernel_rfl) (⟨ext_drew _, f1 0, f1 1, f1 2, f1 3, c0⟩) (fun hHeld => ?_)
        refine wpAnyH_take (i := 0) (v := ?v19) rfl (by kernel_rfl) (by kernel_rfl) (by kernel_rfl) (fun _ _ _ h => h) (Or.inl ⟨by rfl, ?hy19⟩) hHeld ?rst19
        case hy19 => (intro wx hSw; (try dsimp only at hSw); go_simp; try (with_reducible rfl))
        try simp only [List.getElem_toArray, List.getElem_cons_zero, Act.put, List.setIfInBounds_toArray, List.set_cons_zero, List.set_cons_succ]
        refine wpAnyH_take (i := 1) (v := ?v20) rfl (by kernel_rfl) (by kernel_rfl) (by kernel_rfl) (fun _ _ _ h => h) (Or.inl ⟨by rfl, ?hy20⟩) hHeld ?rst20
        case hy20 => (intro wx hSw; (try dsimp only at hSw); go_simp; try (with_reducible rfl))
        try simp only [List.getElem_toArray, List.getElem_cons_zero, List.getElem_cons_succ, Act.put, List.setIfInBounds_toArray, List.set_cons_zero, List.set_cons_succ]
        refine wpAnyH_take (i := 2) (v := ?v21) rfl (by kernel_rfl) (by kernel_rfl) (by kernel_rfl) (fun _ _ _ h => h) (Or.inl ⟨by rfl, ?hy21⟩) hHeld ?rst21
        case hy21 => (intro wx hSw; (try dsimp only at hSw); go_simp; try (with_reducible rfl))
        try simp only [List.getElem_toArray, List.getElem_cons_zero, List.getElem_cons_succ, Act.put, List.setIfInBounds_toArray, List.set_cons_zero, List.set_cons_succ]
        refine wpAnyH_take (i := 3) (v := ?v22) rfl (by kernel_rfl) (by kernel_rfl) (by kernel_rfl) (fun _ _ _ h => h) (Or.inl ⟨by rfl, ?hy22⟩) hHeld ?rst22
        case hy22 => (intro wx hSw; (try dsimp only at hSw); go_simp; try (with_reducible rfl))
        try simp only [List.getElem_toArray, List.getElem_cons_zero, List.getElem_cons_succ, Act.put, List.setIfInBounds_toArray, List.set_cons_zero, List.set_cons_succ]
        refine wpAnyH_take (i := 4) (v := ?v23) rfl (by kernel_rfl) (by kernel_rfl) (by kernel_rfl) (fun _ _ _ h => h) (Or.inl ⟨by rfl, ?hy23⟩) hHeld ?rst23
        case hy23 => (intro wx hSw; (try dsimp only at hSw); go_simp; try (with_reducible rfl))
        try simp only [List.getElem_toArray, List.getElem_cons_zero, List.getElem_cons_succ, Act.put, List.setIfInBounds_toArray, List.set_cons_zero, List.set_cons_succ]
        refine wpAnyH_take (i := 5) (v := ?v24) rfl (by kernel_rfl) (by kernel_rfl) (by kernel_rfl) (fun _ _ _ h => h) (Or.inl ⟨by rfl, ?hy24⟩) hHeld ?rst24
        case hy24 => (intro wx hSw; (try dsimp only at hSw); go_simp; try (with_reducible rfl))
        try simp only [List.getElem_toArray, List.getElem_cons_zero, List.getElem_cons_succ, Act.put, List.setIfInBounds_toArray, List.set_cons_zero, List.set_cons_succ]
        refine wpAnyH_take (i := 6) (v := ?v25) rfl (by kernel_rfl) (by kernel_rfl) (by kernel_rfl) (fun _ _ _ h => h) (Or.inl ⟨by rfl, ?hy25⟩) hHeld ?rst25
        case hy25 => (intro wx hSw; (try dsimp only at hSw); go_simp; try (with_reducible rfl))
        try simp only [List.getElem_toArray, List.getElem_cons_zero, List.getElem_cons_succ, Act.put, List.setIfInBounds_toArray, List.set_cons_zero, List.set_cons_succ]
        refine wpAnyH_ready (rs := [7]) (by kernel_rfl) (by simp) ?_
        refine AllReadyH.cons rfl (fun K hK => ?_) AllReadyH.nil
        go_simp
        (go_at_call 19; refine (HI.out _).mono ?_; rintro e w3 ⟨rfl, hx3'⟩; have hx3 := ext_trans (ext_drew w2) hx3'; have HB3 := Lib.hid (HB2.out.ext hx3))
        refine hK.out _ _ (⟨hx3, HB3.out.cell 0, HB3.out.cell 1, HB3.out.cell 2, HB3.out.cell 3, (hx3.cell (p := ⟨b', off, none⟩) hblt).trans c0⟩) (fun hHeld => ?_)
        clear hK K
        try simp only [List.getElem_toArray, List.getElem_cons_zero, List.getElem_cons_succ, Act.put, List.setIfInBounds_toArray, List.set_cons_zero, List.set_cons_succ]
        refine wpAnyH_take (i := 8) (v := ?v26) rfl (by kernel_rfl) (by kernel_rfl) (by kernel_rfl) (fun _ _ _ h => h) (Or.inl ⟨by rfl, ?hy26⟩) hHeld ?rst26
        case hy26 => (intro wx hSw; (try dsimp only at hSw); go_simp; try (with_reducible rfl))
        try simp only [List.getElem_toArray, List.getElem_cons_zero, List.getElem_cons_succ, Act.put, List.setIfInBounds_toArray, List.set_cons_zero, List.set_cons_succ]
        refine wpAnyH_done (by kernel_rfl) ?_ _
        go_wp2
        go_ret
        exact ⟨rfl, bext BB2.out hx3 BB2.out.size⟩
      · rw [decide_eq_false hin] at HI
        rw [if_neg hin] at HE
        rw [HE.out]
        clear hin hr
        go_enter Tryd.func71, Tryd.ntmps71
        go_upto_region 3 with (first
          | (go_at_call 26; refine (HV.out).mono ?_; rintro e w1 ⟨rfl, hx1⟩; have BB1 := Lib.hid (bext HX0.out hx1 HX0.out.size); have HB1 := Lib.hid (HB0.out.ext hx1); obtain ⟨f1, f2, f3⟩ := HB1.out.facts; clear hx1)
          | (go_at_call 18; refine (HR.out _).mono ?_; rintro e w2 ⟨rfl, hx2⟩; have BB2 := Lib.hid (bext BB1.out hx2 BB1.out.size); have HB2 := Lib.hid (HB1.out.ext hx2); clear hx2 f1 f2 f3; obtain ⟨f1, f2, f3⟩ := HB2.out.facts))
        obtain ⟨hblt, r0, c0, hr0⟩ := HC.out _ BB2.out
        refine wp_region_held_drew (S := (fun wx => Below w2.heap.size w2 wx ∧ wx.cell? ⟨w.heap.size, 0, none⟩ = some (.int .i64 x) ∧ wx.cell? ⟨w.heap.size, 1, none⟩ = some (.int .i64 y) ∧ wx.cell? ⟨w.heap.size, 2, none⟩ = some (.int .i64 a) ∧ wx.cell? ⟨w.heap.size, 3, none⟩ = some (.int .i64 b) ∧ wx.cell? ⟨b', off, none⟩ = some (.string r0))) (by kernel_rfl) (⟨ext_drew _, f1 0, f1 1, f1 2, f1 3, c0⟩) (fun hHeld => ?_)
        refine wpAnyH_take (i := 0) (v := ?v27) rfl (by kernel_rfl) (by kernel_rfl) (by kernel_rfl) (fun _ _ _ h => h) (Or.inl ⟨by rfl, ?hy27⟩) hHeld ?rst27
        case hy27 => (intro wx hSw; (try dsimp only at hSw); go_simp; try (with_reducible rfl))
        try simp only [List.getElem_toArray, List.getElem_cons_zero, Act.put, List.setIfInBounds_toArray, List.set_cons_zero, List.set_cons_succ]
        refine wpAnyH_take (i := 1) (v := ?v28) rfl (by kernel_rfl) (by kernel_rfl) (by kernel_rfl) (fun _ _ _ h => h) (Or.inl ⟨by rfl, ?hy28⟩) hHeld ?rst28
        case hy28 => (intro wx hSw; (try dsimp only at hSw); go_simp; try (with_reducible rfl))
        try simp only [List.getElem_toArray, List.getElem_cons_zero, List.getElem_cons_succ, Act.put, List.setIfInBounds_toArray, List.set_cons_zero, List.set_cons_succ]
        refine wpAnyH_take (i := 2) (v := ?v29) rfl (by kernel_rfl) (by kernel_rfl) (by kernel_rfl) (fun _ _ _ h => h) (Or.inl ⟨by rfl, ?hy29⟩) hHeld ?rst29
        case hy29 => (intro wx hSw; (try dsimp only at hSw); go_simp; try (with_reducible rfl))
        try simp only [List.getElem_toArray, List.getElem_cons_zero, List.getElem_cons_succ, Act.put, List.setIfInBounds_toArray, List.set_cons_zero, List.set_cons_succ]
        refine wpAnyH_take (i := 3) (v := ?v30) rfl (by kernel_rfl) (by kernel_rfl) (by kernel_rfl) (fun _ _ _ h => h) (Or.inl ⟨by rfl, ?hy30⟩) hHeld ?rst30
        case hy30 => (intro wx hSw; (try dsimp only at hSw); go_simp; try (with_reducible rfl))
        try simp only [List.getElem_toArray, List.getElem_cons_zero, List.getElem_cons_succ, Act.put, List.setIfInBounds_toArray, List.set_cons_zero, List.set_cons_succ]
        refine wpAnyH_take (i := 4) (v := ?v31) rfl (by kernel_rfl) (by kernel_rfl) (by kernel_rfl) (fun _ _ _ h => h) (Or.inl ⟨by rfl, ?hy31⟩) hHeld ?rst31
        case hy31 => (intro wx hSw; (try dsimp only at hSw); go_simp; try (with_reducible rfl))
        try simp only [List.getElem_toArray, List.getElem_cons_zero, List.getElem_cons_succ, Act.put, List.setIfInBounds_toArray, List.set_cons_zero, List.set_cons_succ]
        refine wpAnyH_take (i := 5) (v := ?v32) rfl (by kernel_rfl) (by kernel_rfl) (by kernel_rfl) (fun _ _ _ h => h) (Or.inl ⟨by rfl, ?hy32⟩) hHeld ?rst32
        case hy32 => (intro wx hSw; (try dsimp only at hSw); go_simp; try (with_reducible rfl))
        try simp only [List.getElem_toArray, List.getElem_cons_zero, List.getElem_cons_succ, Act.put, List.setIfInBounds_toArray, List.set_cons_zero, List.set_cons_succ]
        refine wpAnyH_take (i := 6) (v := ?v33) rfl (by kernel_rfl) (by kernel_rfl) (by kernel_rfl) (fun _ _ _ h => h) (Or.inl ⟨by rfl, ?hy33⟩) hHeld ?rst33
        case hy33 => (intro wx hSw; (try dsimp only at hSw); go_simp; try (with_reducible rfl))
        try simp only [List.getElem_toArray, List.getElem_cons_zero, List.getElem_cons_succ, Act.put, List.setIfInBounds_toArray, List.set_cons_zero, List.set_cons_succ]
        refine wpAnyH_ready (rs := [7]) (by kernel_rfl) (by simp) ?_
        refine AllReadyH.cons rfl (fun K hK => ?_) AllReadyH.nil
        go_simp
        (go_at_call 19; refine (HI.out _).mono ?_; rintro e w3 ⟨rfl, hx3'⟩; have hx3 := ext_trans (ext_drew w2) hx3'; have HB3 := Lib.hid (HB2.out.ext hx3))
        refine hK.out _ _ (⟨hx3, HB3.out.cell 0, HB3.out.cell 1, HB3.out.cell 2, HB3.out.cell 3, (hx3.cell (p := ⟨b', off, none⟩) hblt).trans c0⟩) (fun hHeld => ?_)
        clear hK K
        try simp only [List.getElem_toArray, List.getElem_cons_zero, List.getElem_cons_succ, Act.put, List.setIfInBounds_toArray, List.set_cons_zero, List.set_cons_succ]
        refine wpAnyH_take (i := 8) (v := ?v34) rfl (by kernel_rfl) (by kernel_rfl) (by kernel_rfl) (fun _ _ _ h => h) (Or.inl ⟨by rfl, ?hy34⟩) hHeld ?rst34
        case hy34 => (intro wx hSw; (try dsimp only at hSw); go_simp; try (with_reducible rfl))
        try simp only [List.getElem_toArray, List.getElem_cons_zero, List.getElem_cons_succ, Act.put, List.setIfInBounds_toArray, List.set_cons_zero, List.set_cons_succ]
        refine wpAnyH_done (by kernel_rfl) ?_ _
        go_wp2
        go_ret
        exact ⟨rfl, bext BB2.out hx3 BB2.out.size⟩
    · rw [decide_eq_false hr] at HR
      rw [show ftE l x y a b = 2 from if_neg (fun h => hr h.2)]
      clear hok hr h hz hx0
      go_enter Tryd.func71, Tryd.ntmps71
      go_wp2_with (first
        | (go_at_call 26; refine (HV.out).mono ?_; rintro e w1 ⟨rfl, hx1⟩; have BB1 := Lib.hid (bext HX0.out hx1 HX0.out.size); obtain ⟨f1, f2, f3⟩ := (HB0.out.ext hx1).facts; clear hx1)
        | (go_at_call 18; refine (HR.out _).mono ?_; rintro e w2 ⟨rfl, hx2⟩; have BB2 := Lib.hid (bext BB1.out hx2 BB1.out.size); clear hx2))
      go_ret
      exact ⟨rfl, BB2.out⟩
  · rw [decide_eq_false hok] at HV
    rw [show ftE l x y a b = 2 from if_neg (fun h => hok h.1)]
    clear hok h hz hx0
    go_enter Tryd.func71, Tryd.ntmps71
    go_wp2_with (go_at_call 26; refine (HV.out).mono ?_; rintro e w1 ⟨rfl, hx1⟩; have BB1 := Lib.hid (bext HX0.out hx1 HX0.out.size); clear hx1)
    go_ret
    exact ⟨rfl, BB1.out⟩
end Go.Proofs.YtdkoomcgnaokgaaDoor
