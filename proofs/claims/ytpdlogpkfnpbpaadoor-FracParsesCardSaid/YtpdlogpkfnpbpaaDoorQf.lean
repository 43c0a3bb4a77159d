/- Walks of the reference's Down, Whole, Frac, answer, Of on rationals. Conditions: the parts lie in memory as naturals of at most 4,000 digits. -/
import Derived.Test.YtpdlogpkfnpbpaaDoorQe
namespace Go.Proofs.YtpdlogpkfnpbpaaDoor
open Go.RowKit

/-- the first two blocks that a call has made, seen later -/
theorem two_cells {w w' : World} {cs ds : Array Value} {T U : TypeId} (hb : Below ((w.alloc (.cells cs T)).alloc (.cells ds U)).heap.size ((w.alloc (.cells cs T)).alloc (.cells ds U)) w') :
    (∀ i, w'.cell? ⟨w.heap.size, i, none⟩ = cs[i]?) ∧ (∀ i, w'.cell? ⟨w.heap.size + 1, i, none⟩ = ds[i]?) ∧ (∀ i, w'.frozen? ⟨w.heap.size + 1, i, none⟩ = false) ∧ w.heap.size + 1 < w'.heap.size ∧ Typ w' (w.heap.size + 1) U := by
  have hsz : ((w.alloc (.cells cs T)).alloc (.cells ds U)).heap.size = w.heap.size + 2 := by simp
  have hsz1 : (w.alloc (.cells cs T)).heap.size = w.heap.size + 1 := by simp
  have ht : Typ ((w.alloc (.cells cs T)).alloc (.cells ds U)) (w.heap.size + 1) U := by rw [← hsz1]; exact Typ.new _ _ _
  refine ⟨fun i => ?_, fun i => ?_, fun i => ?_, by have := hb.size; omega, ht.ext hb⟩
  · rw [hb.cell (p := ⟨w.heap.size, i, none⟩) (by rw [hsz]; exact Nat.lt_add_of_pos_right (by omega))]; simp [go_sem]
  · rw [hb.cell (p := ⟨w.heap.size + 1, i, none⟩) (by rw [hsz]; exact Nat.lt_succ_self _)]; simp [go_sem]
  · rw [hb.frozen (p := ⟨w.heap.size + 1, i, none⟩) (by rw [hsz]; exact Nat.lt_succ_self _)]; simp [go_sem]
theorem succ_le_of {a b : Nat} (h : a + 1 < b) : a ≤ b := by omega

end Go.Proofs.YtpdlogpkfnpbpaaDoor
