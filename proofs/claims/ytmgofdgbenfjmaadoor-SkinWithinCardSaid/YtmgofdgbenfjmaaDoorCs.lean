/- The closures usable and free, and the boxes' functions, walked. Conditions: a skin; small ints. -/
import Derived.Test.YtmgofdgbenfjmaaDoorGd
import Derived.Test.YtmgofdgbenfjmaaDoorFl
namespace Go.Proofs.YtmgofdgbenfjmaaDoor
open Go.RowKit

set_option maxRecDepth 100000 in
set_option maxHeartbeats 4000000 in
theorem usable_any (x y g : Int) (p q : Nat) (A : Option Addr) (cap : Nat) (l : List ByteArray) (W : World) (hok : SkOk l) (h : TSl W A l) (hp : W.cell? ⟨p, 0, none⟩ = some (.slice A l.length cap)) (hq : W.cell? ⟨q, 0, none⟩ = some (.int .i64 g)) :
    Calls Tryd.prog 44 #[.agg #[.int .i64 x, .int .i64 y], .pointer (some ⟨p, 0, none⟩), .pointer (some ⟨q, 0, none⟩)] W fun e w' => e = .returned (.bool (decide (g ≤ gr l x y))) ∧ Below W.heap.size W w' := by
  have HG := Lib.hid (fun V (hV : Below W.heap.size W V) => grade_any A cap l x y V hok (h.ext hV))
  have hx := ext_alloc W (.cells #[.int .i64 x, .int .i64 y] 71)
  have HB := Lib.hid (Bk.new 71 W #[.int .i64 x, .int .i64 y])
  have hlp : p < W.heap.size := World.block_lt_of_cell? W ⟨p, 0, none⟩ hp
  have hlq : q < W.heap.size := World.block_lt_of_cell? W ⟨q, 0, none⟩ hq
  have hp2 := (hx.cell (p := ⟨p, 0, none⟩) hlp).trans hp
  have hq2 := (hx.cell (p := ⟨q, 0, none⟩) hlq).trans hq
  have HX := Lib.hid hx
  obtain ⟨z, hz⟩ : ∃ z, z = gr l x y := ⟨_, rfl⟩
  rw [← hz] at HG ⊢
  clear hp hq hx hz h hok
  go_enter Tryd.func44, Tryd.ntmps44
  go_upto_region 1 with (fail)
  obtain ⟨X, hX⟩ : ∃ X, X = W.alloc (.cells #[.int .i64 x, .int .i64 y] 71) := ⟨_, rfl⟩
  rw [← hX] at hp2 hq2 HB HX ⊢
  clear hX
  obtain ⟨f1, f2, f3⟩ := HB.out.facts
  go_quiet (exact Calls.quiet_of_same (HG.out _ (ext_trans HX.out (ext_drewN _ _))))
  go_wp2
  go_ret
  exact ⟨rfl, ext_trans HX.out (ext_drewN _ _)⟩
def Bx.val (b : Bx) : Value := .agg #[.int .i64 b.x0, .int .i64 b.y0, .int .i64 b.x1, .int .i64 b.y1]
theorem nowhere_any (w : World) : Calls Tryd.prog 82 #[] w fun e w' => e = .returned (.agg #[.int .i64 48, .int .i64 48, .int .i64 (-1), .int .i64 (-1)]) ∧ Below w.heap.size w w' := by
  have hb := Bk.new 124 w #[.int .i64 48, .int .i64 48, .int .i64 (-1), .int .i64 (-1)]
  have HB := Lib.hid hb
  clear hb
  go_enter Tryd.func82, Tryd.ntmps82
  go_wp2
  have p1 := HB.out.facts.1
  refine bodyPost_ret (v := .agg #[.int .i64 48, .int .i64 48, .int .i64 (-1), .int .i64 (-1)]) (by simp [results, Tryd.results82, go_sem, p1]) rfl ?_
  exact ⟨rfl, ext_alloc _ _⟩
set_option maxRecDepth 100000 in
set_option maxHeartbeats 4000000 in
theorem with_any (a b c d x y : Int) (w : World) : Calls Tryd.prog 83 #[.agg #[.int .i64 a, .int .i64 b, .int .i64 c, .int .i64 d], .int .i64 x, .int .i64 y] w fun e w' => e = .returned (.agg #[.int .i64 (min a x), .int .i64 (min b y), .int .i64 (max c x), .int .i64 (max d y)]) ∧ Below w.heap.size w w' := by
  have hb := Bk.new 124 (w.alloc (.cells #[.int .i64 a, .int .i64 b, .int .i64 c, .int .i64 d] 124)) #[.int .i64 (min a x), .int .i64 (min b y), .int .i64 (max c x), .int .i64 (max d y)]
  rw [World.size_alloc] at hb
  have HB := Lib.hid hb
  clear hb
  go_enter Tryd.func83, Tryd.ntmps83
  go_wp2
  have p1 := HB.out.facts.1
  refine bodyPost_ret (v := .agg #[.int .i64 (min a x), .int .i64 (min b y), .int .i64 (max c x), .int .i64 (max d y)]) (by simp [results, Tryd.results83, go_sem, p1]) rfl ?_
  exact ⟨rfl, ext_trans (ext_alloc _ _) (ext_alloc _ _)⟩
set_option maxRecDepth 100000 in
set_option maxHeartbeats 4000000 in
theorem rect_any (a b c d : Int) (w : World) (h1 : -1000 ≤ a ∧ a ≤ 1000) (h2 : -1000 ≤ b ∧ b ≤ 1000) (h3 : -1000 ≤ c ∧ c ≤ 1000) (h4 : -1000 ≤ d ∧ d ≤ 1000) : Calls Tryd.prog 84 #[.agg #[.int .i64 a, .int .i64 b, .int .i64 c, .int .i64 d]] w fun e w' => e = .returned (.agg #[.int .i64 a, .int .i64 b, .int .i64 (c - a + 1), .int .i64 (d - b + 1)]) ∧ Below w.heap.size w w' := by
  have hb := Bk.new 31 (w.alloc (.cells #[.int .i64 a, .int .i64 b, .int .i64 c, .int .i64 d] 124)) #[.int .i64 a, .int .i64 b, .int .i64 (c - a + 1), .int .i64 (d - b + 1)]
  rw [World.size_alloc] at hb
  have HB := Lib.hid hb
  clear hb
  obtain ⟨a1, a2⟩ := h1
  obtain ⟨b1, b2⟩ := h2
  obtain ⟨c1, c2⟩ := h3
  obtain ⟨d1, d2⟩ := h4
  go_enter Tryd.func84, Tryd.ntmps84
  go_wp2
  have p1 := HB.out.facts.1
  refine bodyPost_ret (v := .agg #[.int .i64 a, .int .i64 b, .int .i64 (c - a + 1), .int .i64 (d - b + 1)]) (by simp [results, Tryd.results84, go_sem, p1]) rfl ?_
  exact ⟨rfl, ext_trans (ext_alloc _ _) (ext_alloc _ _)⟩
set_option maxRecDepth 100000 in
set_option maxHeartbeats 4000000 in
theorem free_any (x y a b c d : Int) (p q m : Nat) (S : List Cel) (W : World) (hc : Sml (x, y)) (hm : Mp m S W) (hp : W.cell? ⟨p, 0, none⟩ = some (.map (some m))) (hb : Bk 124 W q #[.int .i64 a, .int .i64 b, .int .i64 c, .int .i64 d])
    (h1 : -1000 ≤ a ∧ a ≤ 1000) (h2 : -1000 ≤ b ∧ b ≤ 1000) (h3 : -1000 ≤ c ∧ c ≤ 1000) (h4 : -1000 ≤ d ∧ d ≤ 1000) :
    Calls Tryd.prog 86 #[.agg #[.int .i64 x, .int .i64 y], .pointer (some ⟨p, 0, none⟩), .pointer (some ⟨q, 0, none⟩)] W fun e w' => e = .returned (.bool (freeL S ⟨a, b, c, d⟩ (x, y))) ∧ Below W.heap.size W w' := by
  have hx := ext_alloc W (.cells #[.int .i64 x, .int .i64 y] 71)
  have HB := Lib.hid (Bk.new 71 W #[.int .i64 x, .int .i64 y])
  have hlp : p < W.heap.size := World.block_lt_of_cell? W ⟨p, 0, none⟩ hp
  have hp2 := (hx.cell (p := ⟨p, 0, none⟩) hlp).trans hp
  have HQ := Lib.hid (hb.ext hx)
  have HM := Lib.hid (hm.ext hx)
  have HX := Lib.hid hx
  have hlook := (hm.ext hx).look hc.isC
  have hlook' : (Instr.lookup 73 (.map (some m)) (.agg #[.int .i64 x, .int .i64 y]) false).run Tryd.prog (W.alloc (.cells #[.int .i64 x, .int .i64 y] 71)) = .ok (.bool (decide ((x, y) ∈ S))) (W.alloc (.cells #[.int .i64 x, .int .i64 y] 71)) := hlook
  obtain ⟨a1, a2⟩ := h1
  obtain ⟨b1, b2⟩ := h2
  obtain ⟨c1, c2⟩ := h3
  obtain ⟨d1, d2⟩ := h4
  have HR := Lib.hid (show freeL S ⟨a, b, c, d⟩ (x, y) = (!decide ((x, y) ∈ S) && decide (a - 1 ≤ x) && decide (x ≤ c + 1) && decide (b - 1 ≤ y) && decide (y ≤ d + 1)) from by simp [freeL])
  obtain ⟨r, hr⟩ : ∃ r, r = freeL S ⟨a, b, c, d⟩ (x, y) := ⟨_, rfl⟩
  rw [← hr] at HR ⊢
  clear hp hx hm hb hlook hr
  obtain ⟨q1, q2, q3⟩ := HQ.out.facts
  obtain ⟨i, hi⟩ : ∃ i, i = decide ((x, y) ∈ S) := ⟨_, rfl⟩
  rw [← hi] at hlook' HR
  clear hi hc
  cases i
  · by_cases e1 : a - 1 ≤ x
    · by_cases e2 : x ≤ c + 1
      · by_cases e3 : b - 1 ≤ y
        · by_cases e4 : y ≤ d + 1
          · have hr : r = true := by rw [HR.out]; simp [e1, e2, e3, e4]
            subst hr
            clear HR
            go_enter Tryd.func86, Tryd.ntmps86
            go_wp2
            go_ret
            exact ⟨rfl, HX.out⟩
          · have hr : r = false := by rw [HR.out]; simp [e4]
            subst hr
            clear HR
            go_enter Tryd.func86, Tryd.ntmps86
            go_wp2
            go_ret
            exact ⟨rfl, HX.out⟩
        · have hr : r = false := by rw [HR.out]; simp [e3]
          subst hr
          clear HR
          go_enter Tryd.func86, Tryd.ntmps86
          go_wp2
          go_ret
          exact ⟨rfl, HX.out⟩
      · have hr : r = false := by rw [HR.out]; simp [e2]
        subst hr
        clear HR
        go_enter Tryd.func86, Tryd.ntmps86
        go_wp2
        go_ret
        exact ⟨rfl, HX.out⟩
    · have hr : r = false := by rw [HR.out]; simp [e1]
      subst hr
      clear HR
      go_enter Tryd.func86, Tryd.ntmps86
      go_wp2
      go_ret
      exact ⟨rfl, HX.out⟩
  · have hr : r = false := by rw [HR.out]; simp
    subst hr
    clear HR
    go_enter Tryd.func86, Tryd.ntmps86
    go_wp2
    go_ret
    exact ⟨rfl, HX.out⟩
end Go.Proofs.YtmgofdgbenfjmaaDoor
