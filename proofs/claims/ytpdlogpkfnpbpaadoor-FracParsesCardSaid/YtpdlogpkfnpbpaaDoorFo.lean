/- A block of two cells, with what it holds: carried over calls, new blocks and stores. -/
import Derived.Test.YtpdlogpkfnpbpaaDoorFn
namespace Go.Proofs.YtpdlogpkfnpbpaaDoor
open Go.RowKit

/-- block g of the world holds the two values -/
def Ce (T : TypeId) (w : World) (g : Nat) (x y : Value) : Prop := w.heap[g]? = some (.cells #[x, y] T (0, 0))
theorem Ce.facts {T : TypeId} {w : World} {g : Nat} {x y : Value} (h : Ce T w g x y) : (∀ i, w.cell? ⟨g, i, none⟩ = #[x, y][i]?) ∧ (∀ i, w.frozen? ⟨g, i, none⟩ = false) ∧ g < w.heap.size :=
  ⟨fun i => cell_of_row w g i _ T (0, 0) h, fun i => frozen_of_row w g i _ T h, lt_of_block h⟩
theorem Ce.res {T : TypeId} {w : World} {g : Nat} {x y : Value} (h : Ce T w g x y) : Res2 T w g := ⟨x, y, h⟩
theorem Ce.ext {T : TypeId} {w w' : World} {g : Nat} {x y : Value} (h : Ce T w g x y) (hb : Below w.heap.size w w') : Ce T w' g x y := (hb.block g (lt_of_block h)).trans h
theorem Ce.alloc {T : TypeId} {w : World} {g : Nat} {x y : Value} (h : Ce T w g x y) (o : Obj) : Ce T (w.alloc o) g x y := h.ext ((Below.refl _ _).alloc (Nat.le_refl _) _)
theorem Ce.new {T : TypeId} (w : World) (x y : Value) : Ce T (w.alloc (.cells #[x, y] T)) w.heap.size x y := by simpa [Ce] using heap_alloc_new w _
theorem Ce.set2 {T : TypeId} {w : World} {g : Nat} {a b : Value} (h : Ce T w g a b) (x y : Value) : Ce T ((w.setCell ⟨g, 0, none⟩ x).setCell ⟨g, 1, none⟩ y) g x y := by
  have h1 := heap_setCell_same w g 0 _ T x h
  exact heap_setCell_same _ g 1 _ T y h1
theorem Ce.set_ne {T : TypeId} {w : World} {g k : Nat} {x y : Value} (h : Ce T w g x y) (hk : g < k) (a b : Value) : Ce T ((w.setCell ⟨k, 0, none⟩ a).setCell ⟨k, 1, none⟩ b) g x y :=
  (below2 (Below.refl (g + 1) w) hk a b).block g (Nat.lt_succ_self _) |>.trans h
theorem Ce.set_ne' {T : TypeId} {w : World} {g k : Nat} {x y : Value} (h : Ce T w g x y) (hk : g ≠ k) (a b : Value) : Ce T ((w.setCell ⟨k, 0, none⟩ a).setCell ⟨k, 1, none⟩ b) g x y := by
  exact (heap_setCell_other _ _ g _ hk).trans ((heap_setCell_other _ _ g _ hk).trans h)
theorem bset2 {B : Nat} {w0 w : World} {g : Nat} (h : Below B w0 w) (hB : B ≤ g) (x y : Value) : Below B w0 ((w.setCell ⟨g, 0, none⟩ x).setCell ⟨g, 1, none⟩ y) := below2 h hB x y
theorem bext {B : Nat} {w0 w w' : World} (h : Below B w0 w) (hb : Below w.heap.size w w') (hB : B ≤ w.heap.size) : Below B w0 w' := h.trans (hb.mono hB)
end Go.Proofs.YtpdlogpkfnpbpaaDoor
