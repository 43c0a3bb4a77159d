/- Walks of frac's ratio.frac, New, Whole. Conditions: the arguments are within their kinds. -/
import Derived.Test.YtpdlogpkfnpbpaaDoorFb
namespace Go.Proofs.YtpdlogpkfnpbpaaDoor
open Go.RowKit

/-- the result's variable, a struct of two cells, in block g -/
def Res2 (T : TypeId) (w : World) (g : Nat) : Prop := ∃ x y, w.heap[g]? = some (.cells #[x, y] T (0, 0))
theorem Res2.facts {T : TypeId} {w : World} {g : Nat} (h : Res2 T w g) : ∃ x y, (∀ i, w.cell? ⟨g, i, none⟩ = #[x, y][i]?) ∧ (∀ i, w.frozen? ⟨g, i, none⟩ = false) ∧ g < w.heap.size := by
  obtain ⟨x, y, h⟩ := h
  exact ⟨x, y, fun i => cell_of_row w g i _ T (0, 0) h, fun i => frozen_of_row w g i _ T h, lt_of_block h⟩
theorem Res2.ext {T : TypeId} {w w' : World} {g : Nat} (h : Res2 T w g) (hb : Below w.heap.size w w') : Res2 T w' g := by
  obtain ⟨x, y, h⟩ := h
  exact ⟨x, y, (hb.block g (lt_of_block h)).trans h⟩
theorem Res2.set2 {T : TypeId} {w : World} {g : Nat} (h : Res2 T w g) (x y : Value) : Res2 T ((w.setCell ⟨g, 0, none⟩ x).setCell ⟨g, 1, none⟩ y) g := by
  obtain ⟨a, b, h⟩ := h
  refine ⟨x, y, ?_⟩
  have h1 := heap_setCell_same w g 0 _ T x h
  exact heap_setCell_same _ g 1 _ T y h1
def Held2 (T : TypeId) (g : Nat) (W0 w : World) : Prop := Below g W0 w ∧ Res2 T w g
theorem Held2.call {T : TypeId} {g : Nat} {W0 wx w1 : World} (h : Held2 T g W0 wx) (hb : Below wx.heap.size wx w1) : Held2 T g W0 w1 := by
  obtain ⟨h1, h2⟩ := h
  have hlt : g < wx.heap.size := by obtain ⟨_, _, h⟩ := h2; exact lt_of_block h
  exact ⟨h1.trans (hb.mono (Nat.le_of_lt hlt)), h2.ext hb⟩
theorem Held2.store {T : TypeId} {g : Nat} {W0 w : World} (h : Held2 T g W0 w) (x y : Value) : Held2 T g W0 ((w.setCell ⟨g, 0, none⟩ x).setCell ⟨g, 1, none⟩ y) :=
  ⟨below2 h.1 (Nat.le_refl _) x y, h.2.set2 x y⟩
theorem Held2.drew {T : TypeId} {g : Nat} {W0 w : World} (h : Held2 T g W0 w) : Held2 T g W0 w.drew := ⟨h.1.drew, h.2⟩
theorem Held2.from {T : TypeId} {g : Nat} {w W0 w' : World} {B : Nat} (h : Held2 T g W0 w') (h0 : Below B w W0) (hB : B ≤ g) : Below B w w' := h0.trans (h.1.mono hB)

theorem qdiv {n d : Int} (hd : 0 < d) : Q.mk (decide (n < 0)) n.natAbs d.natAbs = (n : Rat) / (d : Rat) := by
  unfold Q.mk
  have e : (if decide (n < 0) = true then -(n.natAbs : Int) else n.natAbs) = n := by
    by_cases h : n < 0 <;> simp [h] <;> omega
  rw [e, ← Rat.divInt_eq_div, ← Rat.divInt_ofNat]
  congr 1
  omega
theorem qdiv' {n d : Int} (h0 : n ≠ 0) (hd : d ≠ 0) : Q.mk (decide (n < 0) != decide (d < 0)) n.natAbs d.natAbs = (n : Rat) / (d : Rat) := by
  by_cases h : 0 < d
  · have e : decide (d < 0) = false := by simp; omega
    rw [e, ← qdiv h]; simp
  · have e : decide (d < 0) = true := by simp; omega
    have h1 := qdiv (n := -n) (d := -d) (by omega)
    rw [Int.natAbs_neg, Int.natAbs_neg] at h1
    have h2 : decide (-n < 0) = (decide (n < 0) != true) := by
      by_cases h3 : n < 0
      · simp [h3]; omega
      · simp [h3]; omega
    rw [e, ← h2, h1, Rat.intCast_neg, Rat.intCast_neg, ← Rat.divInt_eq_div, Rat.divInt_eq_div]
    grind

theorem lowest_at (s : Bool) (n d : Int) (q : Rat) (w : World) (hn : IsI n) (hd : IsI d) (h0 : d ≠ 0) (hq : Q.mk s n.natAbs d.natAbs = q) :
    Calls Tryd.prog 36 #[.bool s, .int .u64 (n.natAbs : Int), .int .u64 (d.natAbs : Int)] w (RetA w (ans q)) := by
  obtain ⟨h1, h2⟩ := hn
  obtain ⟨h3, h4⟩ := hd
  have := lowest_any s (n.natAbs : Int) (d.natAbs : Int) w (by omega) (by omega) (by omega) (by omega)
  rw [Int.toNat_natCast, Int.toNat_natCast, hq] at this
  exact this

set_option maxRecDepth 100000 in
set_option maxHeartbeats 2000000 in
theorem rfrac_any (n d : Int) (w : World) (hn : IsI n) (hd : IsI d) (h0 : 0 < d) : Calls Tryd.prog 30 #[.agg #[.int .i64 n, .int .i64 d]] w (RetA w (ans ((n : Rat) / (d : Rat)))) := by
  have hz := fun W => lowest_at (decide (n < 0)) n d _ W hn hd (by omega) (qdiv h0)
  have HZ := Lib.hid hz
  have HSN := Lib.hid (fun W => size_any n W hn.1 hn.2)
  have HSD := Lib.hid (fun W => size_any d W hd.1 hd.2)
  generalize ans ((n : Rat) / (d : Rat)) = a at *
  clear hz hn hd h0
  obtain ⟨W0, hW0⟩ : ∃ W0, W0 = (w.alloc (.cells #[.int .i64 n, .int .i64 d] 57)).alloc (.cells #[.int .i64 0, .int .i64 0] 23) := ⟨_, rfl⟩
  have hw0 : Below w.heap.size w W0 := by rw [hW0]; exact ((Below.refl _ _).alloc (Nat.le_refl _) _).alloc (by simp) _
  have hH0 : Held2 23 (w.heap.size + 1) W0 W0 := ⟨Below.refl _ _, by rw [hW0]; exact ⟨_, _, by simpa using heap_alloc_new (w.alloc _) _⟩⟩
  have hS : ∀ w', Held2 23 (w.heap.size + 1) W0 w' → (Held2 23 (w.heap.size + 1) W0 w' ∧ w'.cell? ⟨w.heap.size, 0, none⟩ = some (.int .i64 n) ∧ w'.cell? ⟨w.heap.size, 1, none⟩ = some (.int .i64 d)) := by
    intro w' h
    obtain ⟨b1, b2⟩ := bcell h.1
    refine ⟨h, ?_, ?_⟩ <;> (rw [b1 _ _ (by omega), hW0]; simp [go_sem])
  have HSS := Lib.hid hS
  have HW0 := Lib.hid hW0
  have HH0 := Lib.hid hH0
  clear hS hH0
  go_enter Tryd.func30, Tryd.ntmps30
  go_wp2
  rw [← HW0.out]
  clear hW0
  go_region_held3 (fun w' => Held2 23 (w.heap.size + 1) W0 w' ∧ w'.cell? ⟨w.heap.size, 0, none⟩ = some (.int .i64 n) ∧ w'.cell? ⟨w.heap.size, 1, none⟩ = some (.int .i64 d))
    (first | assumption | exact HSS.out _ (Held2.call (And.left (by assumption)) (by assumption)) | exact HSS.out _ HH0.out.drew | exact HSS.out _ (Held2.store (And.left (by assumption)) _ _))
    (first
      | (go_at_call_of 26 (Value.int .i64 n); refine (HSN.out _).mono ?_; rintro e w1 ⟨rfl, rfl⟩)
      | (go_at_call_of 26 (Value.int .i64 d); refine (HSD.out _).mono ?_; rintro e w1 ⟨rfl, rfl⟩)
      | (go_at_call 36; refine (HZ.out _).mono ?_; unfold RetA frv; rintro e w3 ⟨rfl, hx3⟩; have hh3 := Held2.call (And.left (by assumption)) hx3; obtain ⟨r0, r1, hc, hf, hz⟩ := hh3.2.facts))
  all_goals
    go_wp2
    refine bodyPost_ret (v := .tuple #[.agg #[.int .i64 a.1, .int .i64 a.2.1], .int .i64 a.2.2]) (by simp [results, Tryd.results30, go_sem, hc]) rfl ?_
    exact ⟨rfl, Held2.from (hh3.store _ _) hw0 (by omega)⟩
end Go.Proofs.YtpdlogpkfnpbpaaDoor
