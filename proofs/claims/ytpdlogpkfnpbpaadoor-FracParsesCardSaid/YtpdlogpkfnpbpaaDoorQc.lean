/- Walks of the reference's Over, Times, Plus on rationals. Conditions: the parts lie in memory as naturals of at most 4,000 digits. -/
import Derived.Test.YtpdlogpkfnpbpaaDoorQb
namespace Go.Proofs.YtpdlogpkfnpbpaaDoor
open Go.RowKit

theorem num_pos_len {q : Rat} (h : q ≠ 0) : q.num.natAbs ≠ 0 := by
  intro h1
  exact h (Rat.num_eq_zero.1 (by omega))
/-- the result's variable, a struct of three cells, in block g -/
def Res3 (T : TypeId) (w : World) (g : Nat) : Prop := ∃ x y z, w.heap[g]? = some (.cells #[x, y, z] T (0, 0))
theorem Res3.facts {T : TypeId} {w : World} {g : Nat} (h : Res3 T w g) : ∃ x y z, (∀ i, w.cell? ⟨g, i, none⟩ = #[x, y, z][i]?) ∧ (∀ i, w.frozen? ⟨g, i, none⟩ = false) ∧ g < w.heap.size := by
  obtain ⟨x, y, z, h⟩ := h
  exact ⟨x, y, z, fun i => cell_of_row w g i _ T (0, 0) h, fun i => frozen_of_row w g i _ T h, lt_of_block h⟩
theorem Res3.typ {T : TypeId} {w : World} {g : Nat} (h : Res3 T w g) : Typ w g T := by
  obtain ⟨x, y, z, h⟩ := h
  exact ⟨_, h⟩
theorem Res3.ext {T : TypeId} {w w' : World} {g : Nat} (h : Res3 T w g) (hb : Below w.heap.size w w') : Res3 T w' g := by
  obtain ⟨x, y, z, h⟩ := h
  exact ⟨x, y, z, (hb.block g (lt_of_block h)).trans h⟩
theorem Res3.set3 {T : TypeId} {w : World} {g : Nat} (h : Res3 T w g) (x y z : Value) : Res3 T (((w.setCell ⟨g, 0, none⟩ x).setCell ⟨g, 1, none⟩ y).setCell ⟨g, 2, none⟩ z) g := by
  obtain ⟨a, b, c, h⟩ := h
  refine ⟨x, y, z, ?_⟩
  have h1 := heap_setCell_same w g 0 _ T x h
  have h2 := heap_setCell_same _ g 1 _ T y h1
  exact heap_setCell_same _ g 2 _ T z h2
/-- what a region knows of the world while it runs: blocks below g are as they were, the result's variable is there -/
def Held (T : TypeId) (g : Nat) (W0 w : World) : Prop := Below g W0 w ∧ Res3 T w g
theorem Held.call {T : TypeId} {g : Nat} {W0 wx w1 : World} (h : Held T g W0 wx) (hb : Below wx.heap.size wx w1) : Held T g W0 w1 := by
  obtain ⟨h1, h2⟩ := h
  have hlt : g < wx.heap.size := by obtain ⟨_, _, _, h⟩ := h2; exact lt_of_block h
  exact ⟨h1.trans (hb.mono (Nat.le_of_lt hlt)), h2.ext hb⟩
theorem Held.store {T : TypeId} {g : Nat} {W0 w : World} (h : Held T g W0 w) (x y z : Value) : Held T g W0 (((w.setCell ⟨g, 0, none⟩ x).setCell ⟨g, 1, none⟩ y).setCell ⟨g, 2, none⟩ z) :=
  ⟨below3 h.1 (Nat.le_refl _) x y z, h.2.set3 x y z⟩
theorem Held.drew {T : TypeId} {g : Nat} {W0 w : World} (h : Held T g W0 w) : Held T g W0 w.drew := ⟨h.1.drew, h.2⟩
theorem Held.from {T : TypeId} {g : Nat} {w W0 w' : World} {B : Nat} (h : Held T g W0 w') (h0 : Below B w W0) (hB : B ≤ g) : Below B w w' := h0.trans (h.1.mono hB)

set_option maxRecDepth 100000 in
set_option maxHeartbeats 4000000 in
theorem over_any (va vb : Value) (a b : Rat) (w : World) (ha : QAt w va a) (hb : QAt w vb b) (za : QOk a) (zb : QOk b) (h0 : b ≠ 0) : Calls Tryd.prog 22 #[va, vb] w (RetQ w (a / b)) := by
  obtain ⟨s, A, n, c, A', n', c', rfl⟩ := q_form ha
  obtain ⟨t, B, m, d, B', m', d', rfl⟩ := q_form hb
  obtain ⟨hs, ha1, ha2⟩ := q_parts ha
  obtain ⟨ht, hb1, hb2⟩ := q_parts hb
  have hn0 := num_pos_len h0
  have hd0 : a.den * b.num.natAbs ≠ 0 := Nat.mul_ne_zero a.den_nz hn0
  have z1 := dig_mul a.num.natAbs b.den
  have z2 := dig_mul a.den b.num.natAbs
  obtain ⟨za1, za2⟩ := za
  obtain ⟨zb1, zb2⟩ := zb
  have hm := Q.div_mk a b
  rw [← hs, ← ht] at hm
  have HM := Lib.hid hm
  clear hm hs ht ha hb
  obtain ⟨W0, hW0⟩ : ∃ W0, W0 = ((w.alloc (.cells #[.bool s, .slice A n c, .slice A' n' c'] 45)).alloc (.cells #[.bool t, .slice B m d, .slice B' m' d'] 45)).alloc (.cells #[.bool false, .slice none 0 0, .slice none 0 0] 45) := ⟨_, rfl⟩
  have hw0 : Below w.heap.size w W0 := by rw [hW0]; exact (((Below.refl _ _).alloc (Nat.le_refl _) _).alloc (by simp) _).alloc (by simp; omega) _
  have hH0 : Held 45 (w.heap.size + 1 + 1) W0 W0 := ⟨Below.refl _ _, by rw [hW0]; exact ⟨_, _, _, by simpa using heap_alloc_new ((w.alloc _).alloc _) _⟩⟩
  have hS : ∀ w', Held 45 (w.heap.size + 1 + 1) W0 w' → (Held 45 (w.heap.size + 1 + 1) W0 w' ∧ w'.cell? ⟨w.heap.size, 0, none⟩ = some (.bool s) ∧ w'.cell? ⟨w.heap.size, 1, none⟩ = some (.slice A n c) ∧ w'.cell? ⟨w.heap.size, 2, none⟩ = some (.slice A' n' c') ∧
      w'.cell? ⟨w.heap.size + 1, 0, none⟩ = some (.bool t) ∧ w'.cell? ⟨w.heap.size + 1, 1, none⟩ = some (.slice B m d) ∧ w'.cell? ⟨w.heap.size + 1, 2, none⟩ = some (.slice B' m' d')) := by
    intro w' h
    obtain ⟨b1, b2⟩ := bcell h.1
    refine ⟨h, ?_, ?_, ?_, ?_, ?_, ?_⟩ <;> (rw [b1 _ _ (by omega), hW0]; simp [go_sem])
  have HSS := Lib.hid hS
  have HW0 := Lib.hid hW0
  have HH0 := Lib.hid hH0
  have HA1 := Lib.hid ha1
  have HA2 := Lib.hid ha2
  have HB1 := Lib.hid hb1
  have HB2 := Lib.hid hb2
  clear hS ha1 ha2 hb1 hb2 hH0
  go_enter Tryd.func22, Tryd.ntmps22
  go_wp2
  rw [← HW0.out]
  clear hW0
  go_region_held3 (fun w' => Held 45 (w.heap.size + 1 + 1) W0 w' ∧ w'.cell? ⟨w.heap.size, 0, none⟩ = some (.bool s) ∧ w'.cell? ⟨w.heap.size, 1, none⟩ = some (.slice A n c) ∧ w'.cell? ⟨w.heap.size, 2, none⟩ = some (.slice A' n' c') ∧
      w'.cell? ⟨w.heap.size + 1, 0, none⟩ = some (.bool t) ∧ w'.cell? ⟨w.heap.size + 1, 1, none⟩ = some (.slice B m d) ∧ w'.cell? ⟨w.heap.size + 1, 2, none⟩ = some (.slice B' m' d'))
    (first | exact HSS.out _ (Held.call (And.left (by assumption)) (by assumption)) | exact HSS.out _ HH0.out.drew | exact HSS.out _ (Held.store (And.left (by assumption)) _ _ _))
    (first
      | (go_at_call_of 37 (Value.slice A n c); refine (times_any _ _ _ _ _ (HA1.out.ext ?_) (HB2.out.ext ?_) (by omega) (by omega)).mono ?_; exact Held.from (And.left (by assumption)) hw0 (by omega); exact Held.from (And.left (by assumption)) hw0 (by omega); rintro e w1 ⟨v1, rfl, hn1, hx1⟩)
      | (go_at_call_of 37 (Value.slice A' n' c'); refine (times_any _ _ _ _ _ (HA2.out.ext ?_) (HB1.out.ext ?_) (by omega) (by omega)).mono ?_; exact Held.from (And.left (by assumption)) hw0 (by omega); exact Held.from (And.left (by assumption)) hw0 (by omega); rintro e w2 ⟨v2, rfl, hn2, hx2⟩)
      | (go_at_call 38; refine (made_any _ _ _ _ _ _ (hn1.ext ?_) (hn2.ext ?_) (by omega) (by omega) hd0).mono ?_; (first | exact Below.refl _ _ | assumption); (first | exact Below.refl _ _ | assumption); rintro e w3 ⟨v3, rfl, hq3, hx3⟩; obtain ⟨s3, A3, n3, c3, B3, m3, d3, rfl⟩ := q_form hq3; have hh3 := Held.call (And.left (by assumption)) hx3; obtain ⟨r0, r1, r2, hc, hf, hz⟩ := hh3.2.facts))
  all_goals
    go_wp2
    refine bodyPost_ret (v := .agg #[.bool s3, .slice A3 n3 c3, .slice B3 m3 d3]) (by simp [results, Tryd.results22, go_sem, hc]) rfl ?_
    have hq4 : QAt w3 (.agg #[.bool s3, .slice A3 n3 c3, .slice B3 m3 d3]) (a / b) := by rw [HM.out]; exact hq3
    exact ⟨_, rfl, hq4.off3 hh3.2.typ (by decide) _ _ _, Held.from (hh3.store _ _ _) hw0 (by omega)⟩
end Go.Proofs.YtpdlogpkfnpbpaaDoor
