/- The plane's closure use, flat and steep walked. Conditions: a skin; the plane's cells laid. -/
import Derived.Test.YtmgofdgbenfjmaaDoorSk1
import Derived.Test.YtmgofdgbenfjmaaDoorFl
namespace Go.Proofs.YtmgofdgbenfjmaaDoor
open Go.RowKit

set_option maxRecDepth 100000 in
set_option maxHeartbeats 4000000 in
theorem use_any (x y g : Int) (p q : Nat) (A : Option Addr) (cap : Nat) (l : List ByteArray) (W : World) (hok : SkOk l) (h : TSl W A l) (hp : W.cell? ⟨p, 0, none⟩ = some (.slice A l.length cap)) (hq : W.cell? ⟨q, 0, none⟩ = some (.int .i64 g)) :
    Calls Tryd.prog 70 #[.int .i64 x, .int .i64 y, .pointer (some ⟨p, 0, none⟩), .pointer (some ⟨q, 0, none⟩)] W fun e w' => e = .returned (.bool (decide (g ≤ gr l x y))) ∧ ∃ m, w' = W.drewN m := by
  have HG := Lib.hid (fun V (hV : Below W.heap.size W V) => grade_any A cap l x y V hok (h.ext hV))
  obtain ⟨z, hz⟩ : ∃ z, z = gr l x y := ⟨_, rfl⟩
  rw [← hz] at HG ⊢
  clear hz h hok
  go_enter Tryd.func70, Tryd.ntmps70
  go_upto_region 1 with (fail)
  go_quiet (exact Calls.quiet_of_same (HG.out _ (ext_drewN _ _)))
  go_wp2
  go_ret
  exact ⟨rfl, _, rfl⟩
/-- the plane in block b: its width and height, its closure, its maps -/
structure PlW (W : World) (b : Nat) (l : List ByteArray) (g : Int) (m1 m2 : Value) : Prop where
  ok : SkOk l
  at_ : ∃ p q A cap, TSl W A l ∧ W.cell? ⟨p, 0, none⟩ = some (.slice A l.length cap) ∧ W.cell? ⟨q, 0, none⟩ = some (.int .i64 g) ∧ W.cell? ⟨b, 2, none⟩ = some (.func (.func 70) #[] #[.pointer (some ⟨p, 0, none⟩), .pointer (some ⟨q, 0, none⟩)])
  w_ : W.cell? ⟨b, 0, none⟩ = some (.int .i64 (wid l))
  h_ : W.cell? ⟨b, 1, none⟩ = some (.int .i64 l.length)
  m1_ : W.cell? ⟨b, 3, none⟩ = some m1
  m2_ : W.cell? ⟨b, 4, none⟩ = some m2
theorem PlW.ext {W W' : World} {b : Nat} {l : List ByteArray} {g : Int} {m1 m2 : Value} (h : PlW W b l g m1 m2) (hb : Below W.heap.size W W') : PlW W' b l g m1 m2 := by
  have c : ∀ {k i : Nat} {v : Value}, W.cell? ⟨k, i, none⟩ = some v → W'.cell? ⟨k, i, none⟩ = some v := fun {k i v} hc => (hb.cell (p := ⟨k, i, none⟩) (World.block_lt_of_cell? W ⟨k, i, none⟩ hc)).trans hc
  obtain ⟨p, q, A, cap, h1, h2, h3, h4⟩ := h.at_
  exact ⟨h.ok, ⟨p, q, A, cap, h1.ext hb, c h2, c h3, c h4⟩, c h.w_, c h.h_, c h.m1_, c h.m2_⟩
def us (l : List ByteArray) (g x y : Int) : Bool := decide (g ≤ gr l x y)
theorem PlW.use {W : World} {b : Nat} {l : List ByteArray} {g : Int} {m1 m2 : Value} (h : PlW W b l g m1 m2) : ∃ p q : Nat, W.cell? ⟨b, 2, none⟩ = some (.func (.func 70) #[] #[.pointer (some ⟨p, 0, none⟩), .pointer (some ⟨q, 0, none⟩)]) ∧ ∀ (x y : Int) (V : World), Below W.heap.size W V → Calls Tryd.prog 70 #[.int .i64 x, .int .i64 y, .pointer (some ⟨p, 0, none⟩), .pointer (some ⟨q, 0, none⟩)] V fun e w' => e = .returned (.bool (us l g x y)) ∧ ∃ m, w' = V.drewN m := by
  obtain ⟨p, q, A, cap, h1, h2, h3, h4⟩ := h.at_
  refine ⟨p, q, h4, fun x y V hb => ?_⟩
  have c : ∀ {k i : Nat} {v : Value}, W.cell? ⟨k, i, none⟩ = some v → V.cell? ⟨k, i, none⟩ = some v := fun {k i v} hc => (hb.cell (p := ⟨k, i, none⟩) (World.block_lt_of_cell? W ⟨k, i, none⟩ hc)).trans hc
  exact use_any x y g p q A cap l V h.ok (h1.ext hb) (c h2) (c h3)
set_option maxRecDepth 100000 in
set_option maxHeartbeats 4000000 in
theorem flat_any (x y : Int) (b : Nat) (l : List ByteArray) (g : Int) (m1 m2 : Value) (W : World) (h : PlW W b l g m1 m2) (hx : -1000 ≤ x ∧ x ≤ 1000) (hy : -1000 ≤ y ∧ y ≤ 1000) :
    Calls Tryd.prog 134 #[.pointer (some ⟨b, 0, none⟩), .agg #[.int .i64 x, .int .i64 y]] W fun e w' => e = .returned (.bool (us l g x (y - 1) && us l g x y)) ∧ Below W.heap.size W w' := by
  obtain ⟨p, q, hf, hu⟩ := h.use
  have hx1 := ext_alloc W (.cells #[.int .i64 x, .int .i64 y] 71)
  have HB := Lib.hid (Bk.new 71 W #[.int .i64 x, .int .i64 y])
  have hlb : b < W.heap.size := World.block_lt_of_cell? W ⟨b, 2, none⟩ hf
  have hf2 := (hx1.cell (p := ⟨b, 2, none⟩) hlb).trans hf
  obtain ⟨hxa, hxb⟩ := hx
  obtain ⟨hya, hyb⟩ := hy
  obtain ⟨y1, hy1⟩ : ∃ y1, y - 1 = y1 := ⟨_, rfl⟩
  have hyw : IntKind.i64.wrap y1 = y1 := IntWalk.i64_in _ ⟨by omega, by omega⟩
  rw [hy1]
  obtain ⟨z1, hz1⟩ : ∃ z1, z1 = us l g x y1 := ⟨_, rfl⟩
  obtain ⟨z2, hz2⟩ : ∃ z2, z2 = us l g x y := ⟨_, rfl⟩
  have H1 := Lib.hid (fun V hV => hu x y1 V hV)
  have H2 := Lib.hid (fun V hV => hu x y V hV)
  rw [← hz1] at H1 ⊢
  rw [← hz2] at H2 ⊢
  have HX := Lib.hid hx1
  clear hz1 hz2 hu hf hx1 h
  go_enter Tryd.func134, Tryd.ntmps134
  go_upto_region 1 with (fail)
  obtain ⟨X, hX⟩ : ∃ X, X = W.alloc (.cells #[.int .i64 x, .int .i64 y] 71) := ⟨_, rfl⟩
  rw [← hX] at hf2 HB HX ⊢
  clear hX
  obtain ⟨f1, f2, f3⟩ := HB.out.facts
  cases z1 with
  | true =>
    go_quiet ((first | (go_at_call_of 70 (Value.int .i64 y1); exact Calls.quiet_of (H1.out _ (ext_trans HX.out (by first | exact ext_drewN _ _ | exact Below.refl _ _)))) | (go_at_call_of 70 (Value.int .i64 y); exact Calls.quiet_of (H2.out _ (ext_trans HX.out (by first | exact ext_drewN _ _ | exact Below.refl _ _))))))
    go_wp2
    go_ret
    exact ⟨rfl, ext_trans HX.out (ext_drewN _ _)⟩
  | false =>
    go_quiet ((first | (go_at_call_of 70 (Value.int .i64 y1); exact Calls.quiet_of (H1.out _ (ext_trans HX.out (by first | exact ext_drewN _ _ | exact Below.refl _ _)))) | (go_at_call_of 70 (Value.int .i64 y); exact Calls.quiet_of (H2.out _ (ext_trans HX.out (by first | exact ext_drewN _ _ | exact Below.refl _ _))))))
    go_wp2
    go_ret
    exact ⟨rfl, ext_trans HX.out (ext_drewN _ _)⟩
set_option maxRecDepth 100000 in
set_option maxHeartbeats 4000000 in
theorem steep_any (x y : Int) (b : Nat) (l : List ByteArray) (g : Int) (m1 m2 : Value) (W : World) (h : PlW W b l g m1 m2) (hx : -1000 ≤ x ∧ x ≤ 1000) (hy : -1000 ≤ y ∧ y ≤ 1000) :
    Calls Tryd.prog 135 #[.pointer (some ⟨b, 0, none⟩), .agg #[.int .i64 x, .int .i64 y]] W fun e w' => e = .returned (.bool (us l g (x - 1) y && us l g x y)) ∧ Below W.heap.size W w' := by
  obtain ⟨p, q, hf, hu⟩ := h.use
  have hx1 := ext_alloc W (.cells #[.int .i64 x, .int .i64 y] 71)
  have HB := Lib.hid (Bk.new 71 W #[.int .i64 x, .int .i64 y])
  have hlb : b < W.heap.size := World.block_lt_of_cell? W ⟨b, 2, none⟩ hf
  have hf2 := (hx1.cell (p := ⟨b, 2, none⟩) hlb).trans hf
  obtain ⟨hxa, hxb⟩ := hx
  obtain ⟨hya, hyb⟩ := hy
  obtain ⟨y1, hy1⟩ : ∃ y1, x - 1 = y1 := ⟨_, rfl⟩
  have hyw : IntKind.i64.wrap y1 = y1 := IntWalk.i64_in _ ⟨by omega, by omega⟩
  rw [hy1]
  obtain ⟨z1, hz1⟩ : ∃ z1, z1 = us l g y1 y := ⟨_, rfl⟩
  obtain ⟨z2, hz2⟩ : ∃ z2, z2 = us l g x y := ⟨_, rfl⟩
  have H1 := Lib.hid (fun V hV => hu y1 y V hV)
  have H2 := Lib.hid (fun V hV => hu x y V hV)
  rw [← hz1] at H1 ⊢
  rw [← hz2] at H2 ⊢
  have HX := Lib.hid hx1
  clear hz1 hz2 hu hf hx1 h
  go_enter Tryd.func135, Tryd.ntmps135
  go_upto_region 1 with (fail)
  obtain ⟨X, hX⟩ : ∃ X, X = W.alloc (.cells #[.int .i64 x, .int .i64 y] 71) := ⟨_, rfl⟩
  rw [← hX] at hf2 HB HX ⊢
  clear hX
  obtain ⟨f1, f2, f3⟩ := HB.out.facts
  cases z1 with
  | true =>
    go_quiet ((first | (go_at_call_of 70 (Value.int .i64 y1); exact Calls.quiet_of (H1.out _ (ext_trans HX.out (by first | exact ext_drewN _ _ | exact Below.refl _ _)))) | (go_at_call_of 70 (Value.int .i64 x); exact Calls.quiet_of (H2.out _ (ext_trans HX.out (by first | exact ext_drewN _ _ | exact Below.refl _ _))))))
    go_wp2
    go_ret
    exact ⟨rfl, ext_trans HX.out (ext_drewN _ _)⟩
  | false =>
    go_quiet ((first | (go_at_call_of 70 (Value.int .i64 y1); exact Calls.quiet_of (H1.out _ (ext_trans HX.out (by first | exact ext_drewN _ _ | exact Below.refl _ _)))) | (go_at_call_of 70 (Value.int .i64 x); exact Calls.quiet_of (H2.out _ (ext_trans HX.out (by first | exact ext_drewN _ _ | exact Below.refl _ _))))))
    go_wp2
    go_ret
    exact ⟨rfl, ext_trans HX.out (ext_drewN _ _)⟩
end Go.Proofs.YtmgofdgbenfjmaaDoor
