/- Texts joined: Cs, Pt. Conditions: see each. -/
import Derived.Test.YtmgofdgbenfjmaaDoorSk1
import Derived.Test.YtmgofdgbenfjmaaDoorFl
import Derived.Test.YtmgofdgbenfjmaaDoorPt1
import Derived.Carry
import Derived.Deep.CutBlock
namespace Go.Proofs.YtmgofdgbenfjmaaDoor
open Go.RowKit

set_option maxRecDepth 100000 in
set_option maxHeartbeats 4000000 in
theorem usable_any (x y g : Int) (p q : Nat) (A : Option Addr) (cap : Nat) (l : List ByteArray) (W : World) (hok : SkOk l) (h : TSl W A l) (hp : W.cell? ⟨p, 0, none⟩ = some (.slice A l.length cap)) (hq : W.cell? ⟨q, 0, none⟩ = some (.int .i64 g)) :
    Calls Tryd.prog 44 #[.agg #[.int .i64 x, .int .i64 y], .pointer (some ⟨p, 0, none⟩), .pointer (some ⟨q, 0, none⟩)] W fun e w' => e = .returned (.bool (decide (g ≤ gr l x y))) ∧ Below W.heap.size W w' := by
  have HG := Lib.hid (fun V (hV : Below W.heap.size W V) => grade_any A cap l x y V hok (h.ext hV))
  have hx := ext_alloc W (.cells #[.int .i64 x, .int .i64 y] 71)
  have HB := Lib.hid (Bk.new 71 W #[.int .i64 x, .int .i64 y])
  have hlp : p < W.heap.size := World.block_lt_of_cell? W ⟨p, 0, none⟩ hp
  have hlq : q < W.heap.size := World.block_lt_of_cell? W ⟨q, 0, none⟩ hq
  have hp2 := (hx.cell (p := ⟨p, 0, none⟩) hlp).trans hp
  have hq2 := (hx.cell (p := ⟨q, 0, none⟩) hlq).trans hq
  have HX := Lib.hid hx
  obtain ⟨z, hz⟩ : ∃ z, z = gr l x y := ⟨_, rfl⟩
  rw [← hz] at HG ⊢
  clear hp hq hx hz h hok
  go_enter Tryd.func44, Tryd.ntmps44
  go_upto_region 1 with (fail)
  obtain ⟨X, hX⟩ : ∃ X, X = W.alloc (.cells #[.int .i64 x, .int .i64 y] 71) := ⟨_, rfl⟩
  rw [← hX] at hp2 hq2 HB HX ⊢
  clear hX
  obtain ⟨f1, f2, f3⟩ := HB.out.facts
  go_quiet (exact Calls.quiet_of_same (HG.out _ (ext_trans HX.out (ext_drewN _ _))))
  go_wp2
  go_ret
  exact ⟨rfl, ext_trans HX.out (ext_drewN _ _)⟩
def Bx.val (b : Bx) : Value := .agg #[.int .i64 b.x0, .int .i64 b.y0, .int .i64 b.x1, .int .i64 b.y1]
theorem nowhere_any (w : World) : Calls Tryd.prog 82 #[] w fun e w' => e = .returned (.agg #[.int .i64 48, .int .i64 48, .int .i64 (-1), .int .i64 (-1)]) ∧ Below w.heap.size w w' := by
  have hb := Bk.new 124 w #[.int .i64 48, .int .i64 48, .int .i64 (-1), .int .i64 (-1)]
  have HB := Lib.hid hb
  clear hb
  go_enter Tryd.func82, Tryd.ntmps82
  go_wp2
  have p1 := HB.out.facts.1
  refine bodyPost_ret (v := .agg #[.int .i64 48, .int .i64 48, .int .i64 (-1), .int .i64 (-1)]) (by simp [results, Tryd.results82, go_sem, p1]) rfl ?_
  exact ⟨rfl, ext_alloc _ _⟩
set_option maxRecDepth 100000 in
set_option maxHeartbeats 4000000 in
theorem with_any (a b c d x y : Int) (w : World) : Calls Tryd.prog 83 #[.agg #[.int .i64 a, .int .i64 b, .int .i64 c, .int .i64 d], .int .i64 x, .int .i64 y] w fun e w' => e = .returned (.agg #[.int .i64 (min a x), .int .i64 (min b y), .int .i64 (max c x), .int .i64 (max d y)]) ∧ Below w.heap.size w w' := by
  have hb := Bk.new 124 (w.alloc (.cells #[.int .i64 a, .int .i64 b, .int .i64 c, .int .i64 d] 124)) #[.int .i64 (min a x), .int .i64 (min b y), .int .i64 (max c x), .int .i64 (max d y)]
  rw [World.size_alloc] at hb
  have HB := Lib.hid hb
  clear hb
  go_enter Tryd.func83, Tryd.ntmps83
  go_wp2
  have p1 := HB.out.facts.1
  refine bodyPost_ret (v := .agg #[.int .i64 (min a x), .int .i64 (min b y), .int .i64 (max c x), .int .i64 (max d y)]) (by simp [results, Tryd.results83, go_sem, p1]) rfl ?_
  exact ⟨rfl, ext_trans (ext_alloc _ _) (ext_alloc _ _)⟩
set_option maxRecDepth 100000 in
set_option maxHeartbeats 4000000 in
theorem rect_any (a b c d : Int) (w : World) (h1 : -1000 ≤ a ∧ a ≤ 1000) (h2 : -1000 ≤ b ∧ b ≤ 1000) (h3 : -1000 ≤ c ∧ c ≤ 1000) (h4 : -1000 ≤ d ∧ d ≤ 1000) : Calls Tryd.prog 84 #[.agg #[.int .i64 a, .int .i64 b, .int .i64 c, .int .i64 d]] w fun e w' => e = .returned (.agg #[.int .i64 a, .int .i64 b, .int .i64 (c - a + 1), .int .i64 (d - b + 1)]) ∧ Below w.heap.size w w' := by
  have hb := Bk.new 31 (w.alloc (.cells #[.int .i64 a, .int .i64 b, .int .i64 c, .int .i64 d] 124)) #[.int .i64 a, .int .i64 b, .int .i64 (c - a + 1), .int .i64 (d - b + 1)]
  rw [World.size_alloc] at hb
  have HB := Lib.hid hb
  clear hb
  obtain ⟨a1, a2⟩ := h1
  obtain ⟨b1, b2⟩ := h2
  obtain ⟨c1, c2⟩ := h3
  obtain ⟨d1, d2⟩ := h4
  go_enter Tryd.func84, Tryd.ntmps84
  go_wp2
  have p1 := HB.out.facts.1
  refine bodyPost_ret (v := .agg #[.int .i64 a, .int .i64 b, .int .i64 (c - a + 1), .int .i64 (d - b + 1)]) (by simp [results, Tryd.results84, go_sem, p1]) rfl ?_
  exact ⟨rfl, ext_trans (ext_alloc _ _) (ext_alloc _ _)⟩
set_option maxRecDepth 100000 in
set_option maxHeartbeats 4000000 in
theorem free_any (x y a b c d : Int) (p q m : Nat) (S : List Cel) (W : World) (hc : Sml (x, y)) (hm : Mp m S W) (hp : W.cell? ⟨p, 0, none⟩ = some (.map (some m))) (hb : Bk 124 W q #[.int .i64 a, .int .i64 b, .int .i64 c, .int .i64 d])
    (h1 : -1000 ≤ a ∧ a ≤ 1000) (h2 : -1000 ≤ b ∧ b ≤ 1000) (h3 : -1000 ≤ c ∧ c ≤ 1000) (h4 : -1000 ≤ d ∧ d ≤ 1000) :
    Calls Tryd.prog 86 #[.agg #[.int .i64 x, .int .i64 y], .pointer (some ⟨p, 0, none⟩), .pointer (some ⟨q, 0, none⟩)] W fun e w' => e = .returned (.bool (freeL S ⟨a, b, c, d⟩ (x, y))) ∧ Below W.heap.size W w' := by
  have hx := ext_alloc W (.cells #[.int .i64 x, .int .i64 y] 71)
  have HB := Lib.hid (Bk.new 71 W #[.int .i64 x, .int .i64 y])
  have hlp : p < W.heap.size := World.block_lt_of_cell? W ⟨p, 0, none⟩ hp
  have hp2 := (hx.cell (p := ⟨p, 0, none⟩) hlp).trans hp
  have HQ := Lib.hid (hb.ext hx)
  have HM := Lib.hid (hm.ext hx)
  have HX := Lib.hid hx
  have hlook := (hm.ext hx).look hc.isC
  have hlook' : (Instr.lookup 73 (.map (some m)) (.agg #[.int .i64 x, .int .i64 y]) false).run Tryd.prog (W.alloc (.cells #[.int .i64 x, .int .i64 y] 71)) = .ok (.bool (decide ((x, y) ∈ S))) (W.alloc (.cells #[.int .i64 x, .int .i64 y] 71)) := hlook
  obtain ⟨a1, a2⟩ := h1
  obtain ⟨b1, b2⟩ := h2
  obtain ⟨c1, c2⟩ := h3
  obtain ⟨d1, d2⟩ := h4
  have HR := Lib.hid (show freeL S ⟨a, b, c, d⟩ (x, y) = (!decide ((x, y) ∈ S) && decide (a - 1 ≤ x) && decide (x ≤ c + 1) && decide (b - 1 ≤ y) && decide (y ≤ d + 1)) from by simp [freeL])
  obtain ⟨r, hr⟩ : ∃ r, r = freeL S ⟨a, b, c, d⟩ (x, y) := ⟨_, rfl⟩
  rw [← hr] at HR ⊢
  clear hp hx hm hb hlook hr
  obtain ⟨q1, q2, q3⟩ := HQ.out.facts
  obtain ⟨i, hi⟩ : ∃ i, i = decide ((x, y) ∈ S) := ⟨_, rfl⟩
  rw [← hi] at hlook' HR
  clear hi hc
  cases i
  · by_cases e1 : a - 1 ≤ x
    · by_cases e2 : x ≤ c + 1
      · by_cases e3 : b - 1 ≤ y
        · by_cases e4 : y ≤ d + 1
          · have hr : r = true := by rw [HR.out]; simp [e1, e2, e3, e4]
            subst hr
            clear HR
            go_enter Tryd.func86, Tryd.ntmps86
            go_wp2
            go_ret
            exact ⟨rfl, HX.out⟩
          · have hr : r = false := by rw [HR.out]; simp [e4]
            subst hr
            clear HR
            go_enter Tryd.func86, Tryd.ntmps86
            go_wp2
            go_ret
            exact ⟨rfl, HX.out⟩
        · have hr : r = false := by rw [HR.out]; simp [e3]
          subst hr
          clear HR
          go_enter Tryd.func86, Tryd.ntmps86
          go_wp2
          go_ret
          exact ⟨rfl, HX.out⟩
      · have hr : r = false := by rw [HR.out]; simp [e2]
        subst hr
        clear HR
        go_enter Tryd.func86, Tryd.ntmps86
        go_wp2
        go_ret
        exact ⟨rfl, HX.out⟩
    · have hr : r = false := by rw [HR.out]; simp [e1]
      subst hr
      clear HR
      go_enter Tryd.func86, Tryd.ntmps86
      go_wp2
      go_ret
      exact ⟨rfl, HX.out⟩
  · have hr : r = false := by rw [HR.out]; simp
    subst hr
    clear HR
    go_enter Tryd.func86, Tryd.ntmps86
    go_wp2
    go_ret
    exact ⟨rfl, HX.out⟩

/-- what part knows of a world: the map of the cells, its box, the box's box, the result's block -/
def PaS (m p q : Nat) (w : World) (S : List Cel) (b : Bx) (wr : World) : Prop :=
  Mp m S wr ∧ Bk 73 wr p #[.map (some m)] ∧ Bk 124 wr q #[.int .i64 b.x0, .int .i64 b.y0, .int .i64 b.x1, .int .i64 b.y1] ∧
  Bk 33 wr w.heap.size #[.int .i64 0, .int .i64 0, .int .i64 0, .int .i64 0, .int .i64 0, .int .i64 0, .int .i64 0] ∧ Below w.heap.size w wr
def Apt (m p q : Nat) (w : World) : Prop := w.heap.size < m ∧ w.heap.size < p ∧ w.heap.size < q ∧ m ≠ p ∧ m ≠ q ∧ p ≠ q
section
variable {m p q : Nat} {w wr w' : World} {S : List Cel} {b b' : Bx}
theorem PaS.ext (h : PaS m p q w S b wr) (hb : Below wr.heap.size wr w') : PaS m p q w S b w' := ⟨h.1.ext hb, h.2.1.ext hb, h.2.2.1.ext hb, h.2.2.2.1.ext hb, bext h.2.2.2.2 hb h.2.2.2.2.size⟩
theorem PaS.store (h : PaS m p q w S b wr) (ha : Apt m p q w) {S' : List Cel} (hm : Mp m S' w') (hb : But1 m wr w') : PaS m p q w S' b w' := by
  obtain ⟨a1, a2, a3, a4, a5, a6⟩ := ha
  exact ⟨hm, hb.bk h.2.1 (by omega), hb.bk h.2.2.1 (by omega), hb.bk h.2.2.2.1 (by omega), h.2.2.2.2.trans (hb.below (by omega) h.2.2.2.2.size)⟩
/-- another map's block turns -/
theorem PaS.other (h : PaS m p q w S b wr) {g : Nat} (hb : But1 g wr w') (h1 : g ≠ m) (h2 : g ≠ p) (h3 : g ≠ q) (h4 : w.heap.size < g) : PaS m p q w S b w' :=
  ⟨hb.mp h.1 (Ne.symm h1), hb.bk h.2.1 (Ne.symm h2), hb.bk h.2.2.1 (Ne.symm h3), hb.bk h.2.2.2.1 (by omega), h.2.2.2.2.trans (hb.below (by omega) h.2.2.2.2.size)⟩
theorem four_set {T : TypeId} {w : World} {g : Nat} {c0 c1 c2 c3 : Value} (h : Bk T w g #[c0, c1, c2, c3]) (v0 v1 v2 v3 : Value) : Bk T ((((w.setCell ⟨g, 0, none⟩ v0).setCell ⟨g, 1, none⟩ v1).setCell ⟨g, 2, none⟩ v2).setCell ⟨g, 3, none⟩ v3) g #[v0, v1, v2, v3] := by
  have h0 : Bk T _ g #[v0, c1, c2, c3] := h.set 0 v0
  have h1 : Bk T _ g #[v0, v1, c2, c3] := h0.set 1 v1
  have h2 : Bk T _ g #[v0, v1, v2, c3] := h1.set 2 v2
  have h3 : Bk T _ g #[v0, v1, v2, v3] := h2.set 3 v3
  exact h3
theorem PaS.box (h : PaS m p q w S b wr) (ha : Apt m p q w) (b' : Bx) : PaS m p q w S b' ((((wr.setCell ⟨q, 0, none⟩ (.int .i64 b'.x0)).setCell ⟨q, 1, none⟩ (.int .i64 b'.y0)).setCell ⟨q, 2, none⟩ (.int .i64 b'.x1)).setCell ⟨q, 3, none⟩ (.int .i64 b'.y1)) := by
  obtain ⟨a1, a2, a3, a4, a5, a6⟩ := ha
  refine ⟨(((h.1.set a5 _).set a5 _).set a5 _).set a5 _, (((h.2.1.set_ne a6 _).set_ne a6 _).set_ne a6 _).set_ne a6 _, four_set h.2.2.1 _ _ _ _, ?_, ?_⟩
  · have hn : w.heap.size ≠ q := by omega
    exact (((h.2.2.2.1.set_ne hn _).set_ne hn _).set_ne hn _).set_ne hn _
  · have hq : w.heap.size ≤ q := by omega
    exact (((h.2.2.2.2.setCell hq _).setCell hq _).setCell hq _).setCell hq _
end
def PbS (m p q p7 : Nat) (w : World) (l : List Cel) (b : Bx) (e h : Nat) (wr : World) : Prop :=
  PaS m p q w l b wr ∧ Bk 33 wr p7 #[.int .i64 l.length, .int .i64 e, .int .i64 h, .int .i64 b.x0, .int .i64 b.y0, .int .i64 (b.x1 - b.x0 + 1), .int .i64 (b.y1 - b.y0 + 1)]
def Ap7 (m p q p7 : Nat) (w : World) : Prop := w.heap.size < p7 ∧ p7 ≠ m ∧ p7 ≠ p ∧ p7 ≠ q
section
variable {m p q p7 : Nat} {w wr w' : World} {l : List Cel} {b : Bx} {e h : Nat}
theorem PbS.ext (k : PbS m p q p7 w l b e h wr) (hb : Below wr.heap.size wr w') : PbS m p q p7 w l b e h w' := ⟨k.1.ext hb, k.2.ext hb⟩
theorem PaS.set (k : PaS m p q w l b wr) (h7 : Ap7 m p q p7 w) (i : Nat) (u : Value) : PaS m p q w l b (wr.setCell ⟨p7, i, none⟩ u) := by
  obtain ⟨a1, a2, a3, a4⟩ := h7
  have hn : w.heap.size ≠ p7 := by omega
  exact ⟨k.1.set (Ne.symm a2) _, k.2.1.set_ne (Ne.symm a3) _, k.2.2.1.set_ne (Ne.symm a4) _, k.2.2.2.1.set_ne hn _, k.2.2.2.2.setCell (by show w.heap.size ≤ p7; omega) _⟩
theorem PbS.setE (k : PbS m p q p7 w l b e h wr) (h7 : Ap7 m p q p7 w) (x : Nat) : PbS m p q p7 w l b x h (wr.setCell ⟨p7, 1, none⟩ (.int .i64 x)) := ⟨k.1.set h7 _ _, k.2.set 1 _⟩
theorem PbS.setH (k : PbS m p q p7 w l b e h wr) (h7 : Ap7 m p q p7 w) (x : Nat) : PbS m p q p7 w l b e x (wr.setCell ⟨p7, 2, none⟩ (.int .i64 x)) := ⟨k.1.set h7 _ _, k.2.set 2 _⟩
theorem PbS.other (k : PbS m p q p7 w l b e h wr) {g : Nat} (hb : But1 g wr w') (h1 : g ≠ m) (h2 : g ≠ p) (h3 : g ≠ q) (h4 : w.heap.size < g) (h5 : g ≠ p7) : PbS m p q p7 w l b e h w' :=
  ⟨k.1.other hb h1 h2 h3 h4, hb.bk k.2 (Ne.symm h5)⟩
end
theorem run_idx4 (x y : Int) (j : Nat) (hj : j < 4) (W : World) : (Instr.index 128 (.agg #[.int .i64 x, .int .i64 (y - 1), .int .i64 (x - 1), .int .i64 y, .int .i64 (x + 1), .int .i64 y, .int .i64 x, .int .i64 (y + 1)]) (.int .i64 (j : Int))).run Tryd.prog W = .ok (.agg #[.int .i64 ((sidesL (x, y))[j]'hj).1, .int .i64 ((sidesL (x, y))[j]'hj).2]) W := by
  rcases (by omega : j = 0 ∨ j = 1 ∨ j = 2 ∨ j = 3) with h | h | h | h <;> subst h <;> kernel_rfl
set_option maxRecDepth 100000 in
/-- flood over near and free -/
theorem near_flood (m p q p7 m2 : Nat) (w : World) (l : List Cel) (b : Bx) (e h : Nat) (V : World) (hb : BxIn b) (hs : PbS m p q p7 w l b e h V) (h7 : m2 ≠ m ∧ m2 ≠ p ∧ m2 ≠ q) {S : List Cel} (hm : Mp m2 S V) (x y : Int) (hn : (x, y) ∉ S) (hi : -1 ≤ x ∧ x ≤ 48 ∧ -1 ≤ y ∧ y ≤ 48) :
    Calls Tryd.prog 47 #[.agg #[.int .i64 x, .int .i64 y], .map (some m2), .func (.func 87) #[] #[], .func (.func 86) #[] #[.pointer (some ⟨p, 0, none⟩), .pointer (some ⟨q, 0, none⟩)]] V (RetFl m2 V (fld nearL (freeL l b) 3000 S (x, y))) := by
  have hfr := fun c (hc : c ∈ (x, y) :: frame b) => show -1 ≤ c.1 ∧ c.1 ≤ 48 ∧ -1 ≤ c.2 ∧ c.2 ≤ 48 from by
    rcases List.mem_cons.1 hc with rfl | hc
    · exact hi
    · exact frame_in hb hc
  refine flood_any x y S m2 87 86 #[] #[.pointer (some ⟨p, 0, none⟩), .pointer (some ⟨q, 0, none⟩)] nearL (freeL l b) (frame b) 3000 V hm hn ⟨⟨by show -9223372036854775808 ≤ x; omega, by show x ≤ 9223372036854775807; omega⟩, ⟨by show -9223372036854775808 ≤ y; omega, by show y ≤ 9223372036854775807; omega⟩⟩ (fun _ _ => rfl) (fun _ _ => rfl) ?_ ?_ (fun c hc => free_frame hc) ?_ (by have := frame_len hb; omega) (by omega) (fun c => by simp [nearL])
  · intro W _ x' y' hc
    have h1 := hfr _ hc
    exact near_any x' y' W ⟨by omega, by omega, by omega, by omega⟩
  · intro W hW x' y' hc
    have hbi := hb
    unfold BxIn at hbi
    exact free_any x' y' b.x0 b.y0 b.x1 b.y1 p q m l W hc (hW.mp hs.1.1 (Ne.symm h7.1)) ((hW.bk hs.1.2.1 (Ne.symm h7.2.1)).cell 0) (hW.bk hs.1.2.2.1 (Ne.symm h7.2.2)) ⟨by omega, by omega⟩ ⟨by omega, by omega⟩ ⟨by omega, by omega⟩ ⟨by omega, by omega⟩
  · intro c hc d hd
    have h1 := near_in (hfr c hc) hd
    exact ⟨by omega, by omega, by omega, by omega⟩
theorem seven {T : TypeId} {w : World} {g : Nat} {c0 c1 c2 c3 c4 c5 c6 : Value} (h : Bk T w g #[c0, c1, c2, c3, c4, c5, c6]) (v0 v1 v2 v3 v4 v5 v6 : Value) : Bk T (((((((w.setCell ⟨g, 0, none⟩ v0).setCell ⟨g, 1, none⟩ v1).setCell ⟨g, 2, none⟩ v2).setCell ⟨g, 3, none⟩ v3).setCell ⟨g, 4, none⟩ v4).setCell ⟨g, 5, none⟩ v5).setCell ⟨g, 6, none⟩ v6) g #[v0, v1, v2, v3, v4, v5, v6] := by
  have h0 : Bk T _ g #[v0, c1, c2, c3, c4, c5, c6] := h.set 0 v0
  have h1 : Bk T _ g #[v0, v1, c2, c3, c4, c5, c6] := h0.set 1 v1
  have h2 : Bk T _ g #[v0, v1, v2, c3, c4, c5, c6] := h1.set 2 v2
  have h3 : Bk T _ g #[v0, v1, v2, v3, c4, c5, c6] := h2.set 3 v3
  have h4 : Bk T _ g #[v0, v1, v2, v3, v4, c5, c6] := h3.set 4 v4
  have h5 : Bk T _ g #[v0, v1, v2, v3, v4, v5, c6] := h4.set 5 v5
  have h6 : Bk T _ g #[v0, v1, v2, v3, v4, v5, v6] := h5.set 6 v6
  exact h6
theorem sevenB {B : Nat} {a w : World} {g : Nat} (h : Below B a w) (hg : B ≤ g) (v0 v1 v2 v3 v4 v5 v6 : Value) : Below B a (((((((w.setCell ⟨g, 0, none⟩ v0).setCell ⟨g, 1, none⟩ v1).setCell ⟨g, 2, none⟩ v2).setCell ⟨g, 3, none⟩ v3).setCell ⟨g, 4, none⟩ v4).setCell ⟨g, 5, none⟩ v5).setCell ⟨g, 6, none⟩ v6) :=
  ((((((h.setCell hg v0).setCell hg v1).setCell hg v2).setCell hg v3).setCell hg v4).setCell hg v5).setCell hg v6
/-- what part answers -/
def RetPt (r : Prt) (w : World) (e : Ending) (w' : World) : Prop :=
  e = .returned (.agg #[.int .i64 r.n, .int .i64 r.e, .int .i64 r.h, .int .i64 r.b.x0, .int .i64 r.b.y0, .int .i64 (r.b.x1 - r.b.x0 + 1), .int .i64 (r.b.y1 - r.b.y0 + 1)]) ∧ Below w.heap.size w w'
set_option maxRecDepth 100000 in
set_option maxHeartbeats 8000000 in
theorem part_any (A : Option Addr) (cap : Nat) (l : List Cel) (w : World) (_hc : l.length ≤ cap) (_hcm : cap ≤ 9223372036854775807) (h : CSl 0 w A l) (hg : ∀ c ∈ l, InG c) (hn : l.Nodup) (hl : l.length ≤ 2304) :
    Calls Tryd.prog 46 #[.slice A l.length cap] w (RetPt (partL l 3000) w) := by
  have hmm := @run_makeMap Tryd.prog
  have hmf : ∀ (fn : Fn) (first cap : Array Value) (w : World), (Instr.makeFunc fn first cap).run Tryd.prog w = .ok (.func fn first cap) w := fun _ _ _ _ => rfl
  have HB0 := Lib.hid (Bk.new 33 w #[.int .i64 0, .int .i64 0, .int .i64 0, .int .i64 0, .int .i64 0, .int .i64 0, .int .i64 0])
  go_enter Tryd.func46, Tryd.ntmps46
  go_upto_region 3 with (go_at_call 82; refine (nowhere_any _).mono ?_; rintro e w1 ⟨rfl, hx1⟩)
  have hxa : Below w.heap.size w (((w.alloc (.cells #[.int .i64 0, .int .i64 0, .int .i64 0, .int .i64 0, .int .i64 0, .int .i64 0, .int .i64 0] 33)).alloc (.map #[] 0)).alloc (.cells #[.map (some (w.heap.size + 1))] 73)) := ext_trans (ext_trans (ext_alloc _ _) (ext_alloc _ _)) (ext_alloc _ _)
  have hm0 := Mp.new (w.alloc (.cells #[.int .i64 0, .int .i64 0, .int .i64 0, .int .i64 0, .int .i64 0, .int .i64 0, .int .i64 0] 33))
  have hp0 := Bk.new 73 ((w.alloc (.cells #[.int .i64 0, .int .i64 0, .int .i64 0, .int .i64 0, .int .i64 0, .int .i64 0, .int .i64 0] 33)).alloc (.map #[] 0)) #[.map (some (w.heap.size + 1))]
  simp only [World.size_alloc] at hm0 hp0
  have hs1 : w.heap.size + 1 + 1 + 1 ≤ w1.heap.size := by have := hx1.size; simpa using this
  obtain ⟨m, hm⟩ : ∃ m, m = w.heap.size + 1 := ⟨_, rfl⟩
  obtain ⟨p, hp⟩ : ∃ p, p = w.heap.size + 1 + 1 := ⟨_, rfl⟩
  obtain ⟨q, hq⟩ : ∃ q, q = w1.heap.size := ⟨_, rfl⟩
  have HA := Lib.hid (show Apt m p q w from ⟨by omega, by omega, by omega, by omega, by omega, by omega⟩)
  have hs0 : PaS m p q w [] Bx.no (w1.alloc (.cells #[.int .i64 48, .int .i64 48, .int .i64 (-1), .int .i64 (-1)] 124)) := by
    rw [hm, hp, hq]
    exact ⟨(((hm0.ext (ext_alloc _ _)).ext hx1).ext (ext_alloc _ _)), ((hp0.ext hx1).ext (ext_alloc _ _)), Bk.new _ _ _, ((((HB0.out.alloc _).alloc _).ext hx1).ext (ext_alloc _ _)), ext_trans (ext_trans hxa hx1) (ext_alloc _ _)⟩
  have HS0 := Lib.hid hs0
  rw [← hp, ← hm, ← hq]
  have HC := Lib.hid h
  have HG := Lib.hid hg
  have HN := Lib.hid hn
  clear hs0 hm hp hq hm0 hp0 hxa hx1 hs1 h hg hn HB0
  go_upto_block 0 with (fail)
  go_cut [21] (fun z wx => PaS m p q w l (boxL l) wx)
  case first =>
    go_wp2_with (fail)
    go_loopg [21] l.length (fun g i wr => ∃ k : Nat, i = .int .i64 k ∧ k ≤ l.length ∧ g = l.length - k ∧ PaS m p q w (l.take k) (boxL (l.take k)) wr)
    case atStart => exact ⟨0, rfl, by omega, by omega, HS0.out⟩
    case round =>
      obtain ⟨k, rfl, hk, hg, hs⟩ := hrel
      have HGG := Lib.hid hg
      have HS := Lib.hid hs
      clear hg hs HS0
      by_cases hlt : k < l.length
      · rcases HC.out with h0 | ⟨b, off, rfl, _, hb, hcl⟩
        · rw [h0] at hlt; simp at hlt
        · obtain ⟨c1, c2⟩ := hcl k hlt
          have c1 := (HS.out.2.2.2.2.cell (p := ⟨b, off + k * 2, none⟩) hb).trans c1
          have c2 := (HS.out.2.2.2.2.cell (p := ⟨b, off + k * 2 + 1, none⟩) hb).trans c2
          have hb2 : b < wr.heap.size := Nat.lt_of_lt_of_le hb HS.out.2.2.2.2.size
          have hin := HG.out _ (List.getElem_mem hlt)
          have HBX := Lib.hid (boxL_snoc hlt)
          have HTK := Lib.hid (show l.take (k + 1) = l.take k ++ [l[k]] from List.take_succ_eq_append_getElem hlt)
          have HNT := Lib.hid (show l[k] ∉ l.take k from by
            have h : (l.take k ++ l.drop k).Nodup := by rw [List.take_append_drop]; exact HN.out
            rw [List.nodup_append] at h
            intro hm
            have hmem : l[k] ∈ l.drop k := List.mem_of_getElem? (i := 0) (by rw [List.getElem?_drop, Nat.add_zero, List.getElem?_eq_getElem hlt])
            exact h.2.2 _ hm _ hmem rfl)
          obtain ⟨cc, hcc⟩ : ∃ cc, cc = l[k] := ⟨_, rfl⟩
          rw [← hcc] at c1 c2 hin HBX HTK HNT
          obtain ⟨cx, cy⟩ := cc
          dsimp only at c1 c2
          have HIN := Lib.hid hin
          clear hcl hcc hin
          have HSX := Lib.hid (HS.out.ext (ext_alloc wr (.cells #[.int .i64 cx, .int .i64 cy] 71)))
          have HBC := Lib.hid (Bk.new 71 wr #[.int .i64 cx, .int .i64 cy])
          go_upto_region 6 with (fail)
          obtain ⟨X, hX⟩ : ∃ X, X = wr.alloc (.cells #[.int .i64 cx, .int .i64 cy] 71) := ⟨_, rfl⟩
          rw [← hX] at HSX HBC ⊢
          obtain ⟨B, hB⟩ : ∃ B, B = wr.heap.size := ⟨_, rfl⟩
          have hBw : w.heap.size < B := by have := HS.out.2.2.2.1.lt; omega
          have hBm : B ≠ m := by have := HS.out.1.lt; omega
          have hBq : B ≠ q := by have := HS.out.2.2.1.lt; omega
          rw [← hB] at HBC ⊢
          clear hX hB c1 c2 hb2
          obtain ⟨e1, e2, e3⟩ := HBC.out.facts
          obtain ⟨p1, p2, p3⟩ := HSX.out.2.1.facts
          have hsm : Sml (cx, cy) := by have h := HIN.out; unfold InG at h; unfold Sml; simp only at *; omega
          obtain ⟨w10, u1, hm10, hb10⟩ := HSX.out.1.store hsm.isC HNT.out
          have u1' : (Instr.mapUpdate 73 (.map (some m)) (.agg #[.int .i64 cx, .int .i64 cy]) (.bool true)).run Tryd.prog X = .ok () w10 := u1
          have HS10 := Lib.hid (HSX.out.store HA.out hm10 hb10)
          have HBC10 := Lib.hid (hb10.bk HBC.out hBm)
          clear u1 hm10 hb10 hsm
          go_upto_region 7 with (fail)
          clear u1' e1 e2 e3 p1 p2 p3
          obtain ⟨e1, e2, e3⟩ := HBC10.out.facts
          obtain ⟨q1, q2, q3⟩ := HS10.out.2.2.1.facts
          go_wp2_with (go_at_call 83; refine (with_any _ _ _ _ _ _ _).mono ?_; rintro e w11 ⟨rfl, hx11⟩; have HS11 := Lib.hid (HS10.out.ext hx11); clear q1 q2 q3; obtain ⟨q1, q2, q3⟩ := HS11.out.2.2.1.facts)
          go_roundg (l.length - (k + 1))
          case measure => have := HGG.out; omega
          case rel => exact ⟨k + 1, by go_num, by omega, rfl, by rw [HBX.out, HTK.out]; exact HS11.out.box HA.out _⟩
      · have HE := Lib.hid (show PaS m p q w l (boxL l) wr from by have h := HS.out; rw [List.take_of_length_le (by omega)] at h; exact h)
        obtain rfl : k = l.length := by omega
        go_wp2
        go_meet
        case rel => exact HE.out
  case rest =>
    have HS := Lib.hid hcut
    have HBI := Lib.hid (bxIn_box HG.out)
    clear hcut HS0
    obtain ⟨bb, hbb⟩ : ∃ bb, bb = boxL l := ⟨_, rfl⟩
    have HBB := Lib.hid hbb
    rw [← hbb] at HS HBI
    obtain ⟨x0, y0, x1, y1⟩ := bb
    clear hbb
    obtain ⟨i1, i2, i3, i4, i5, i6, i7, i8⟩ := HBI.out
    dsimp only at i1 i2 i3 i4 i5 i6 i7 i8
    obtain ⟨q1, q2, q3⟩ := HS.out.2.2.1.facts
    dsimp only at q1
    go_upto_region 10 with (go_at_call 84; refine (rect_any _ _ _ _ _ ⟨by omega, by omega⟩ ⟨by omega, by omega⟩ ⟨by omega, by omega⟩ ⟨by omega, by omega⟩).mono ?_; rintro e w2 ⟨rfl, hx2⟩)
    have HS2 := Lib.hid ((HS.out.ext hx2).ext (ext_alloc w2 (.cells #[.int .i64 l.length, .int .i64 0, .int .i64 0, .int .i64 x0, .int .i64 y0, .int .i64 (x1 - x0 + 1), .int .i64 (y1 - y0 + 1)] 33)))
    have HB7 := Lib.hid (Bk.new 33 w2 #[.int .i64 l.length, .int .i64 0, .int .i64 0, .int .i64 x0, .int .i64 y0, .int .i64 (x1 - x0 + 1), .int .i64 (y1 - y0 + 1)])
    obtain ⟨p7, hp7⟩ : ∃ p7, p7 = w2.heap.size := ⟨_, rfl⟩
    have H7 := Lib.hid (show Ap7 m p q p7 w from by
      have h1 := (HS.out.ext hx2).1.lt
      have h2 := (HS.out.ext hx2).2.1.lt
      have h3 := (HS.out.ext hx2).2.2.1.lt
      have h4 := (HS.out.ext hx2).2.2.2.1.lt
      exact ⟨by omega, by omega, by omega, by omega⟩)
    obtain ⟨Y, hY⟩ : ∃ Y, Y = w2.alloc (.cells #[.int .i64 l.length, .int .i64 0, .int .i64 0, .int .i64 x0, .int .i64 y0, .int .i64 (x1 - x0 + 1), .int .i64 (y1 - y0 + 1)] 33) := ⟨_, rfl⟩
    rw [← hp7] at HB7 ⊢
    rw [← hY] at HS2 HB7 ⊢
    have HPB := Lib.hid (show PbS m p q p7 w l ⟨x0, y0, x1, y1⟩ (edgeK l 0) 0 Y from ⟨HS2.out, HB7.out⟩)
    clear hp7 hY hx2 q1 q2 q3 HS HS2 HB7
    go_upto_block 2 with (fail)
    go_cut [41] (fun z wx => PbS m p q p7 w l ⟨x0, y0, x1, y1⟩ (edgeL l) 0 wx)
    case first =>
      go_wp2_with (fail)
      go_loopg [41] l.length (fun g i wr => ∃ k : Nat, i = .int .i64 k ∧ k ≤ l.length ∧ g = l.length - k ∧ PbS m p q p7 w l ⟨x0, y0, x1, y1⟩ (edgeK l k) 0 wr)
      case atStart => exact ⟨0, rfl, by omega, by omega, HPB.out⟩
      case round =>
        obtain ⟨k, rfl, hk, hg, hs⟩ := hrel
        have HGG := Lib.hid hg
        have HS := Lib.hid hs
        clear hg hs HPB
        by_cases hlt : k < l.length
        · rcases HC.out with h0 | ⟨b, off, rfl, _, hb, hcl⟩
          · rw [h0] at hlt; simp at hlt
          · obtain ⟨c1, c2⟩ := hcl k hlt
            have c1 := (HS.out.1.2.2.2.2.cell (p := ⟨b, off + k * 2, none⟩) hb).trans c1
            have c2 := (HS.out.1.2.2.2.2.cell (p := ⟨b, off + k * 2 + 1, none⟩) hb).trans c2
            have hb2 : b < wr.heap.size := Nat.lt_of_lt_of_le hb HS.out.1.2.2.2.2.size
            have hin := HG.out _ (List.getElem_mem hlt)
            have HKS := Lib.hid (edgeK_succ hlt)
            obtain ⟨cc, hcc⟩ : ∃ cc, cc = l[k] := ⟨_, rfl⟩
            rw [← hcc] at c1 c2 hin HKS
            obtain ⟨cx, cy⟩ := cc
            dsimp only at c1 c2
            have HIN := Lib.hid hin
            have HSM := Lib.hid (show Sml (cx, cy) from by have h := hin; unfold InG at h; unfold Sml; simp only at *; omega)
            clear hcl hcc hin
            have HSX := Lib.hid (HS.out.ext (ext_alloc wr (.cells #[.int .i64 cx, .int .i64 cy] 71)))
            have HBC := Lib.hid (Bk.new 71 wr #[.int .i64 cx, .int .i64 cy])
            go_upto_region 13 with (fail)
            obtain ⟨X, hX⟩ : ∃ X, X = wr.alloc (.cells #[.int .i64 cx, .int .i64 cy] 71) := ⟨_, rfl⟩
            rw [← hX] at HSX HBC ⊢
            obtain ⟨B, hB⟩ : ∃ B, B = wr.heap.size := ⟨_, rfl⟩
            rw [← hB] at HBC ⊢
            clear hX hB c1 c2 hb2 HS
            obtain ⟨e1, e2, e3⟩ := HBC.out.facts
            go_upto_region 14 with (go_at_call 85; refine (sides_any _ _ _ HSM.out).mono ?_; rintro e w3 ⟨rfl, hx3⟩)
            have HS3 := Lib.hid (HSX.out.ext hx3)
            clear hx3 e1 e2 e3 HSX HBC
            have hKle := edgeK_le l k
            go_loopg [47] 4 (fun g i wr => ∃ j : Nat, i = .int .i64 j ∧ j ≤ 4 ∧ g = 4 - j ∧ PbS m p q p7 w l ⟨x0, y0, x1, y1⟩ (edgeK l k + edgeJ l (cx, cy) j) 0 wr)
            case atStart => exact ⟨0, rfl, by omega, by omega, HS3.out⟩
            case round =>
              obtain ⟨j, rfl, hj, hg2, hs2⟩ := hrel
              have HG2 := Lib.hid hg2
              have HS4 := Lib.hid hs2
              clear hg2 hs2 HS3
              by_cases hj4 : j < 4
              · have hidx := fun W => run_idx4 cx cy j hj4 W
                have hdm : (sidesL (cx, cy))[j]'hj4 ∈ sidesL (cx, cy) := List.getElem_mem _
                have hdin := sides_in HIN.out hdm
                obtain ⟨dd, hdd⟩ : ∃ dd, dd = (sidesL (cx, cy))[j]'hj4 := ⟨_, rfl⟩
                have HES := Lib.hid (edgeJ_succ (l := l) hj4 hdd)
                rw [← hdd] at hidx hdin
                have hJle := edgeJ_le l (cx, cy) j
                obtain ⟨dx, dy⟩ := dd
                dsimp only at hidx hdin
                have hDC : IsC (dx, dy) := ⟨⟨by show -9223372036854775808 ≤ dx; omega, by show dx ≤ 9223372036854775807; omega⟩, ⟨by show -9223372036854775808 ≤ dy; omega, by show dy ≤ 9223372036854775807; omega⟩⟩
                have HDC := Lib.hid hDC
                clear hdm hdd hdin hDC
                have HSX := Lib.hid (HS4.out.ext (ext_alloc wr (.cells #[.int .i64 dx, .int .i64 dy] 71)))
                have HBC := Lib.hid (Bk.new 71 wr #[.int .i64 dx, .int .i64 dy])
                go_upto_region 16 with (fail)
                obtain ⟨X, hX⟩ : ∃ X, X = wr.alloc (.cells #[.int .i64 dx, .int .i64 dy] 71) := ⟨_, rfl⟩
                rw [← hX] at HSX HBC ⊢
                obtain ⟨B, hB⟩ : ∃ B, B = wr.heap.size := ⟨_, rfl⟩
                rw [← hB] at HBC ⊢
                clear hX hB hidx HS4
                obtain ⟨e1, e2, e3⟩ := HBC.out.facts
                obtain ⟨p1, p2, p3⟩ := HSX.out.1.2.1.facts
                obtain ⟨g1, g2, g3⟩ := HSX.out.2.facts
                have hlook := HSX.out.1.1.look HDC.out
                have hlook' : (Instr.lookup 73 (.map (some m)) (.agg #[.int .i64 dx, .int .i64 dy]) false).run Tryd.prog X = .ok (.bool (decide ((dx, dy) ∈ l))) X := hlook
                clear hlook
                by_cases hin : (dx, dy) ∈ l
                · rw [decide_eq_true hin] at hlook'
                  have HE := Lib.hid (show edgeJ l (cx, cy) (j + 1) = edgeJ l (cx, cy) j from by rw [HES.out, if_pos hin]; rfl)
                  clear hin
                  go_wp2
                  go_roundg (4 - (j + 1))
                  case measure => have := HG2.out; omega
                  case rel => exact ⟨j + 1, by go_num, by omega, rfl, by rw [HE.out]; exact HSX.out⟩
                · rw [decide_eq_false hin] at hlook'
                  have HE := Lib.hid (show edgeJ l (cx, cy) (j + 1) = edgeJ l (cx, cy) j + 1 from by rw [HES.out, if_neg hin])
                  have HSE := Lib.hid (HSX.out.setE H7.out (edgeK l k + edgeJ l (cx, cy) j + 1))
                  clear hin
                  go_wp2
                  go_roundg (4 - (j + 1))
                  case measure => have := HG2.out; omega
                  case rel => exact ⟨j + 1, by go_num, by omega, rfl, by rw [HE.out]; exact HSE.out⟩
              · obtain rfl : j = 4 := by omega
                have HE := Lib.hid (show edgeK l (k + 1) = edgeK l k + edgeJ l (cx, cy) 4 from HKS.out)
                go_wp2
                go_roundg (l.length - (k + 1))
                case measure => have := HGG.out; omega
                case rel => exact ⟨k + 1, by go_num, by omega, rfl, by rw [HE.out]; exact HS4.out⟩
        · obtain rfl : k = l.length := by omega
          go_wp2
          go_meet
          case rel => rw [← edgeK_all]; exact HS.out
    case rest =>
      have HS := Lib.hid hcut
      have HM2 := Lib.hid (Mp.new wc)
      have HSA := Lib.hid (HS.out.ext (ext_alloc wc (.map #[] 0)))
      obtain ⟨m2, hm2⟩ : ∃ m2, m2 = wc.heap.size := ⟨_, rfl⟩
      have HNE := Lib.hid (show m2 ≠ m ∧ m2 ≠ p ∧ m2 ≠ q ∧ w.heap.size < m2 ∧ m2 ≠ p7 from by
        have h1 := hcut.1.1.lt
        have h2 := hcut.1.2.1.lt
        have h3 := hcut.1.2.2.1.lt
        have h4 := hcut.1.2.2.2.1.lt
        have h5 := hcut.2.lt
        exact ⟨by omega, by omega, by omega, by omega, by omega⟩)
      clear hcut HS
      go_upto_region 22 with (fail)
      obtain ⟨V, hV⟩ : ∃ V, V = wc.alloc (.map #[] 0) := ⟨_, rfl⟩
      rw [← hm2] at HM2 ⊢
      rw [← hV] at HM2 HSA ⊢
      clear hm2 hV hmm hmf
      obtain ⟨q1, q2, q3⟩ := HSA.out.1.2.2.1.facts
      dsimp only at q1
      have HFL := Lib.hid (near_flood m p q p7 m2 w l ⟨x0, y0, x1, y1⟩ (edgeL l) 0 V HBI.out HSA.out ⟨HNE.out.1, HNE.out.2.1, HNE.out.2.2.1⟩ HM2.out (x0 - 1) (y0 - 1) (by simp) ⟨by omega, by omega, by omega, by omega⟩)
      go_upto_region 23 with (go_at_call 47; refine (HFL.out).mono ?_; rintro e w3 ⟨A3, cap3, rfl, _, _, _, hm3, hb3⟩)
      have HS3 := Lib.hid (HSA.out.other hb3 HNE.out.1 HNE.out.2.1 HNE.out.2.2.1 HNE.out.2.2.2.1 HNE.out.2.2.2.2)
      have HM3 := Lib.hid hm3
      clear hm3 hb3 HFL HSA HM2 q1 q2 q3
      obtain ⟨S0, hS0⟩ : ∃ S0, S0 = (fld nearL (freeL l ⟨x0, y0, x1, y1⟩) 3000 [] (x0 - 1, y0 - 1)).1 := ⟨_, rfl⟩
      have HS0 := Lib.hid hS0
      rw [← hS0] at HM3
      clear hS0
      obtain ⟨q1, q2, q3⟩ := HS3.out.1.2.2.1.facts
      dsimp only at q1
      go_upto_block 6 with (fail)
      go_cut [14, 15] (fun z1 z2 wx => PbS m p q p7 w l ⟨x0, y0, x1, y1⟩ (edgeL l) ((boxCells ⟨x0, y0, x1, y1⟩).foldl (holeStep l ⟨x0, y0, x1, y1⟩ 3000) (S0, 0)).2 wx)
      case first =>
        go_wp2_with (fail)
        go_loopg [14] (y1 + 1 - y0).toNat (fun g i wr => ∃ (a : Nat) (yy : Int) (st : List Cel × Nat), i = .int .i64 yy ∧ yy = y0 + (a : Int) ∧ a ≤ (y1 + 1 - y0).toNat ∧ g = (y1 + 1 - y0).toNat - a ∧ PbS m p q p7 w l ⟨x0, y0, x1, y1⟩ (edgeL l) st.2 wr ∧ Mp m2 st.1 wr ∧ st = (boxP ⟨x0, y0, x1, y1⟩ a 0).foldl (holeStep l ⟨x0, y0, x1, y1⟩ 3000) (S0, 0))
        case atStart => exact ⟨0, y0, (S0, 0), rfl, by omega, by omega, by omega, HS3.out, HM3.out, by rw [boxP_none]; rfl⟩
        case round =>
          obtain ⟨a, yy, st, rfl, hyy, ha, hg, hs, hm, hst⟩ := hrel
          have HGG := Lib.hid hg
          have HS := Lib.hid hs
          have HM := Lib.hid hm
          have HST := Lib.hid hst
          have HYY := Lib.hid hyy
          have hyb : 0 ≤ yy ∧ yy ≤ 96 := by omega
          obtain ⟨hyb1, hyb2⟩ := hyb
          clear hg hs hm hst HS3 HM3 q1 q2 q3
          obtain ⟨q1, q2, q3⟩ := HS.out.1.2.2.1.facts
          dsimp only at q1
          by_cases hlt : a < (y1 + 1 - y0).toNat
          · have hle : yy ≤ y1 := by omega
            have HLT := Lib.hid hlt
            clear hyy hlt
            go_wp2
            go_loopg [15] (x1 + 1 - x0).toNat (fun g i wr => ∃ (k : Nat) (xx : Int) (st : List Cel × Nat), i = .int .i64 xx ∧ xx = x0 + (k : Int) ∧ k ≤ (x1 + 1 - x0).toNat ∧ g = (x1 + 1 - x0).toNat - k ∧ PbS m p q p7 w l ⟨x0, y0, x1, y1⟩ (edgeL l) st.2 wr ∧ Mp m2 st.1 wr ∧ st = (boxP ⟨x0, y0, x1, y1⟩ a k).foldl (holeStep l ⟨x0, y0, x1, y1⟩ 3000) (S0, 0))
            case atStart => exact ⟨0, x0, st, rfl, by omega, by omega, by omega, HS.out, HM.out, HST.out⟩
            case round =>
              obtain ⟨k, xx, s2, rfl, hxx, hk, hg2, hs2, hm2', hst2⟩ := hrel
              have HG2 := Lib.hid hg2
              have HS2 := Lib.hid hs2
              have HM2 := Lib.hid hm2'
              have HST2 := Lib.hid hst2
              have HXX := Lib.hid hxx
              have hxb : 0 ≤ xx ∧ xx ≤ 96 := by omega
              obtain ⟨hxb1, hxb2⟩ := hxb
              have hsl : s2.2 ≤ 48 * 48 + 48 := by
                have h1 := holeSteps_le l ⟨x0, y0, x1, y1⟩ 3000 (boxP ⟨x0, y0, x1, y1⟩ a k) (S0, 0)
                rw [← hst2] at h1
                have h2 := boxP_len (a := a) (k := k) HBI.out (by omega) (by omega)
                simp only [Nat.zero_add] at h1
                omega
              clear hg2 hs2 hm2' hst2 q1 q2 q3 HS HM HST
              obtain ⟨q1, q2, q3⟩ := HS2.out.1.2.2.1.facts
              dsimp only at q1
              by_cases hltb : k < (x1 + 1 - x0).toNat
              · have hle2 : xx ≤ x1 := by omega
                have HFT := Lib.hid (show (boxP ⟨x0, y0, x1, y1⟩ a (k + 1)).foldl (holeStep l ⟨x0, y0, x1, y1⟩ 3000) (S0, 0) = holeStep l ⟨x0, y0, x1, y1⟩ 3000 s2 (xx, yy) from by
                  rw [boxP_cell, List.foldl_append, ← HST2.out, HXX.out, HYY.out]; rfl)
                have HSM := Lib.hid (show Sml (xx, yy) from ⟨by show -1000 ≤ xx; omega, by show xx ≤ 1000; omega, by show -1000 ≤ yy; omega, by show yy ≤ 1000; omega⟩)
                have HLB := Lib.hid hltb
                clear hxx hltb
                have HSX := Lib.hid (HS2.out.ext (ext_alloc wr (.cells #[.int .i64 xx, .int .i64 yy] 71)))
                have HMX := Lib.hid (HM2.out.ext (ext_alloc wr (.cells #[.int .i64 xx, .int .i64 yy] 71)))
                have HBC := Lib.hid (Bk.new 71 wr #[.int .i64 xx, .int .i64 yy])
                go_upto_region 30 with (fail)
                obtain ⟨X, hX⟩ : ∃ X, X = wr.alloc (.cells #[.int .i64 xx, .int .i64 yy] 71) := ⟨_, rfl⟩
                rw [← hX] at HSX HMX HBC ⊢
                obtain ⟨B, hB⟩ : ∃ B, B = wr.heap.size := ⟨_, rfl⟩
                have hB7 : B ≠ p7 := by have := HS2.out.2.lt; omega
                rw [← hB] at HBC ⊢
                clear hX hB HS2 HM2 q1 q2 q3
                obtain ⟨e1, e2, e3⟩ := HBC.out.facts
                obtain ⟨p1, p2, p3⟩ := HSX.out.1.2.1.facts
                have hlook := HSX.out.1.1.look HSM.out.isC
                have hlook' : (Instr.lookup 73 (.map (some m)) (.agg #[.int .i64 xx, .int .i64 yy]) false).run Tryd.prog X = .ok (.bool (decide ((xx, yy) ∈ l))) X := hlook
                clear hlook
                by_cases hin : (xx, yy) ∈ l
                · rw [decide_eq_true hin] at hlook'
                  have HE := Lib.hid (HFT.out.trans (show _ = s2 from if_pos (.inl hin)))
                  clear hin
                  go_wp2
                  go_roundg ((x1 + 1 - x0).toNat - (k + 1))
                  case measure => have := HG2.out; have := HLB.out; omega
                  case rel => exact ⟨k + 1, xx + 1, s2, by go_num, by have := HXX.out; omega, by have := HLB.out; omega, rfl, HSX.out, HMX.out, HE.out.symm⟩
                · rw [decide_eq_false hin] at hlook'
                  have hlook2 := HMX.out.look HSM.out.isC
                  have hlook3 : (Instr.lookup 73 (.map (some m2)) (.agg #[.int .i64 xx, .int .i64 yy]) false).run Tryd.prog X = .ok (.bool (decide ((xx, yy) ∈ s2.1))) X := hlook2
                  clear hlook2
                  by_cases hin2 : (xx, yy) ∈ s2.1
                  · rw [decide_eq_true hin2] at hlook3
                    have HE := Lib.hid (HFT.out.trans (show _ = s2 from if_pos (.inr hin2)))
                    clear hin hin2
                    go_wp2
                    go_roundg ((x1 + 1 - x0).toNat - (k + 1))
                    case measure => have := HG2.out; have := HLB.out; omega
                    case rel => exact ⟨k + 1, xx + 1, s2, by go_num, by have := HXX.out; omega, by have := HLB.out; omega, rfl, HSX.out, HMX.out, HE.out.symm⟩
                  · rw [decide_eq_false hin2] at hlook3
                    have HE := Lib.hid (HFT.out.trans (show _ = ((fld nearL (freeL l ⟨x0, y0, x1, y1⟩) 3000 s2.1 (xx, yy)).1, s2.2 + 1) from if_neg (fun h => h.elim hin hin2)))
                    have HIN2 := Lib.hid hin2
                    have HSH := Lib.hid (HSX.out.setH H7.out (s2.2 + 1))
                    have HMH := Lib.hid (HMX.out.set (k := p7) (j := 2) HNE.out.2.2.2.2 (.int .i64 ((s2.2 + 1 : Nat) : Int)))
                    have HBH := Lib.hid (HBC.out.set_ne (k := p7) (j := 2) hB7 (.int .i64 ((s2.2 + 1 : Nat) : Int)))
                    obtain ⟨g1, g2, g3⟩ := HSX.out.2.facts
                    clear hin hin2
                    go_upto_region 32 with (fail)
                    obtain ⟨V2, hV2⟩ : ∃ V2, V2 = X.setCell ⟨p7, 2, none⟩ (.int .i64 ((s2.2 + 1 : Nat) : Int)) := ⟨_, rfl⟩
                    have hV2' : X.setCell ⟨p7, 2, none⟩ (.int .i64 ((s2.2 : Int) + 1)) = V2 := by rw [hV2]; rfl
                    rw [hV2']
                    rw [← hV2] at HSH HMH HBH
                    clear hV2 hV2' g1 g2 g3 e1 e2 e3 p1 p2 p3 hlook' hlook3
                    obtain ⟨e1, e2, e3⟩ := HBH.out.facts
                    have HFL := Lib.hid (near_flood m p q p7 m2 w l ⟨x0, y0, x1, y1⟩ (edgeL l) (s2.2 + 1) V2 HBI.out HSH.out ⟨HNE.out.1, HNE.out.2.1, HNE.out.2.2.1⟩ HMH.out xx yy HIN2.out ⟨by omega, by omega, by omega, by omega⟩)
                    obtain ⟨fr, hfr⟩ : ∃ fr, fr = fld nearL (freeL l ⟨x0, y0, x1, y1⟩) 3000 s2.1 (xx, yy) := ⟨_, rfl⟩
                    rw [← hfr] at HE HFL
                    clear hfr
                    go_wp2_with (go_at_call 47; refine (HFL.out).mono ?_; rintro e w5 ⟨A5, cap5, rfl, _, _, _, hm5, hb5⟩; have HS5 := Lib.hid (HSH.out.other hb5 HNE.out.1 HNE.out.2.1 HNE.out.2.2.1 HNE.out.2.2.2.1 HNE.out.2.2.2.2); have HM5 := Lib.hid hm5; clear hm5 hb5)
                    go_roundg ((x1 + 1 - x0).toNat - (k + 1))
                    case measure => have := HG2.out; have := HLB.out; omega
                    case rel => exact ⟨k + 1, xx + 1, (fr.1, s2.2 + 1), by go_num, by have := HXX.out; omega, by have := HLB.out; omega, rfl, HS5.out, HM5.out, HE.out.symm⟩
              · have hle2 : ¬ xx ≤ x1 := by omega
                have HST3 := Lib.hid (show s2 = (boxP ⟨x0, y0, x1, y1⟩ (a + 1) 0).foldl (holeStep l ⟨x0, y0, x1, y1⟩ 3000) (S0, 0) from by
                  rw [← boxP_row]
                  have e : k = (x1 + 1 - x0).toNat := by omega
                  have h := HST2.out
                  rw [e] at h; exact h)
                clear hxx hltb
                go_wp2
                go_roundg ((y1 + 1 - y0).toNat - (a + 1))
                case measure => have := HGG.out; have := HLT.out; omega
                case rel => exact ⟨a + 1, yy + 1, s2, by go_num, by have := HYY.out; omega, by have := HLT.out; omega, rfl, HS2.out, HM2.out, HST3.out⟩
          · have hle : ¬ yy ≤ y1 := by omega
            have HST3 := Lib.hid (show st = (boxCells ⟨x0, y0, x1, y1⟩).foldl (holeStep l ⟨x0, y0, x1, y1⟩ 3000) (S0, 0) from by
              rw [← boxP_all]
              have e : a = (y1 + 1 - y0).toNat := by omega
              have h := HST.out
              rw [e] at h; exact h)
            clear hyy hlt
            go_wp2
            go_meet
            case rel => rw [← HST3.out]; exact HS.out
      case rest =>
        have HS := Lib.hid hcut
        obtain ⟨hn, hhn⟩ : ∃ hn, hn = ((boxCells ⟨x0, y0, x1, y1⟩).foldl (holeStep l ⟨x0, y0, x1, y1⟩ 3000) (S0, 0)).2 := ⟨_, rfl⟩
        rw [← hhn] at HS
        have HH := Lib.hid (show hn = (partL l 3000).h from by
          have e1 : (partL l 3000).h = holesL l (boxL l) 3000 := by unfold partL; with_reducible rfl
          rw [e1, ← HBB.out, hhn]
          unfold holesL
          dsimp only
          rw [← HS0.out])
        clear hcut hhn q1 q2 q3
        obtain ⟨g1, g2, g3⟩ := HS.out.2.facts
        obtain ⟨r1, r2, r3⟩ := HS.out.1.2.2.2.1.facts
        dsimp only at g1
        have hse := Lib.hid (seven HS.out.1.2.2.2.1 (.int .i64 l.length) (.int .i64 (edgeL l)) (.int .i64 hn) (.int .i64 x0) (.int .i64 y0) (.int .i64 (x1 - x0 + 1)) (.int .i64 (y1 - y0 + 1)))
        have hbs := Lib.hid (sevenB HS.out.1.2.2.2.2 (Nat.le_refl _) (.int .i64 l.length) (.int .i64 (edgeL l)) (.int .i64 hn) (.int .i64 x0) (.int .i64 y0) (.int .i64 (x1 - x0 + 1)) (.int .i64 (y1 - y0 + 1)))
        go_wp2
        have p1 := hse.out.facts.1
        refine bodyPost_ret (v := .agg #[.int .i64 l.length, .int .i64 (edgeL l), .int .i64 hn, .int .i64 x0, .int .i64 y0, .int .i64 (x1 - x0 + 1), .int .i64 (y1 - y0 + 1)]) (by simp [results, Tryd.results46, go_sem, p1]) rfl ?_
        refine ⟨?_, hbs.out⟩
        have eb : (partL l 3000).b = ⟨x0, y0, x1, y1⟩ := by
          have h : (partL l 3000).b = boxL l := by unfold partL; with_reducible rfl
          rw [h]; exact HBB.out.symm
        have en : (partL l 3000).n = l.length := by unfold partL; with_reducible rfl
        have ee : (partL l 3000).e = edgeL l := by unfold partL; with_reducible rfl
        rw [eb, ← HH.out, en, ee]
end Go.Proofs.YtmgofdgbenfjmaaDoor
