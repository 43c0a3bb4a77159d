/- A block of three cells that holds a rational, carried over calls, new blocks and stores. No conditions. -/
import Derived.Test.YtpdlogpkfnpbpaaDoorFo
namespace Go.Proofs.YtpdlogpkfnpbpaaDoor
open Go.RowKit

theorem mkRat_le (a : Int) (d : Nat) (hd : d ≠ 0) : (mkRat a d).num.natAbs ≤ a.natAbs ∧ (mkRat a d).den ≤ d := by
  refine ⟨?_, ?_⟩
  · rw [Q.mk_num hd, Int.natAbs_ediv_of_dvd (Int.ofNat_dvd_left.2 (Nat.gcd_dvd_left _ _))]
    exact Nat.div_le_self _ _
  · rw [Q.mk_den hd]
    exact Nat.div_le_self _ _
theorem rat_num_pos {q : Rat} (h : 0 < q) : 0 < q.num := by
  have h1 := Rat.num_nonneg.2 (Rat.le_of_lt h)
  have h2 : q.num ≠ 0 := fun h0 => by rw [Rat.num_eq_zero.1 h0] at h; exact absurd h (by decide)
  omega
/-- block g of the world holds the three values -/
def C3 (T : TypeId) (w : World) (g : Nat) (x y z : Value) : Prop := w.heap[g]? = some (.cells #[x, y, z] T (0, 0))
theorem C3.facts {T : TypeId} {w : World} {g : Nat} {x y z : Value} (h : C3 T w g x y z) : (∀ i, w.cell? ⟨g, i, none⟩ = #[x, y, z][i]?) ∧ (∀ i, w.frozen? ⟨g, i, none⟩ = false) ∧ g < w.heap.size :=
  ⟨fun i => cell_of_row w g i _ T (0, 0) h, fun i => frozen_of_row w g i _ T h, lt_of_block h⟩
theorem C3.ext {T : TypeId} {w w' : World} {g : Nat} {x y z : Value} (h : C3 T w g x y z) (hb : Below w.heap.size w w') : C3 T w' g x y z := (hb.block g (lt_of_block h)).trans h
theorem C3.drew {T : TypeId} {w : World} {g : Nat} {x y z : Value} (h : C3 T w g x y z) : C3 T w.drew g x y z := h
theorem C3.typ {T : TypeId} {w : World} {g : Nat} {x y z : Value} (h : C3 T w g x y z) : Typ w g T := ⟨_, h⟩
theorem C3.res {T : TypeId} {w : World} {g : Nat} {x y z : Value} (h : C3 T w g x y z) : Res3 T w g := ⟨x, y, z, h⟩
theorem C3.alloc {T : TypeId} {w : World} {g : Nat} {x y z : Value} (h : C3 T w g x y z) (o : Obj) : C3 T (w.alloc o) g x y z := h.ext ((Below.refl _ _).alloc (Nat.le_refl _) _)
theorem C3.new {T : TypeId} (w : World) (x y z : Value) : C3 T (w.alloc (.cells #[x, y, z] T)) w.heap.size x y z := by simpa [C3] using heap_alloc_new w _
theorem C3.set3 {T : TypeId} {w : World} {g : Nat} {a b c : Value} (h : C3 T w g a b c) (x y z : Value) : C3 T (((w.setCell ⟨g, 0, none⟩ x).setCell ⟨g, 1, none⟩ y).setCell ⟨g, 2, none⟩ z) g x y z := by
  have h1 := heap_setCell_same w g 0 _ T x h
  have h2 := heap_setCell_same _ g 1 _ T y h1
  exact heap_setCell_same _ g 2 _ T z h2
theorem C3.set_ne {T : TypeId} {w : World} {g k : Nat} {x y z : Value} (h : C3 T w g x y z) (hk : g ≠ k) (a b c : Value) : C3 T (((w.setCell ⟨k, 0, none⟩ a).setCell ⟨k, 1, none⟩ b).setCell ⟨k, 2, none⟩ c) g x y z :=
  (heap_setCell_other _ _ g _ hk).trans ((heap_setCell_other _ _ g _ hk).trans ((heap_setCell_other _ _ g _ hk).trans h))
theorem C3.set2_ne {T : TypeId} {w : World} {g k : Nat} {x y z : Value} (h : C3 T w g x y z) (hk : g ≠ k) (a b : Value) : C3 T ((w.setCell ⟨k, 0, none⟩ a).setCell ⟨k, 1, none⟩ b) g x y z :=
  (heap_setCell_other _ _ g _ hk).trans ((heap_setCell_other _ _ g _ hk).trans h)
theorem Ce.set3_ne {T : TypeId} {w : World} {g k : Nat} {x y : Value} (h : Ce T w g x y) (hk : g ≠ k) (a b c : Value) : Ce T (((w.setCell ⟨k, 0, none⟩ a).setCell ⟨k, 1, none⟩ b).setCell ⟨k, 2, none⟩ c) g x y :=
  (heap_setCell_other _ _ g _ hk).trans ((heap_setCell_other _ _ g _ hk).trans ((heap_setCell_other _ _ g _ hk).trans h))
end Go.Proofs.YtpdlogpkfnpbpaaDoor
