/- A slice of ints in memory. No conditions. -/
import Derived.Test.YthkoblnfeebafaaFo
namespace Go.Proofs.Ythkoblnfeebafaa
open Go.RowKit

/-- a slice of ints -/
def ISl (w : World) (A : Option Addr) (l : List Int) : Prop :=
  l = [] ∨ ∃ b off, A = some ⟨b, off, none⟩ ∧ b < w.heap.size ∧ ∀ j (h : j < l.length), w.cell? ⟨b, off + j, none⟩ = some (.int .i64 l[j])
theorem ISl.ext {w w' : World} {A : Option Addr} {l : List Int} (h : ISl w A l) (hb : Below w.heap.size w w') : ISl w' A l := by
  rcases h with h | ⟨b, off, hA, hlt, hc⟩
  · exact .inl h
  · exact .inr ⟨b, off, hA, Nat.lt_of_lt_of_le hlt hb.size, fun j hj => (hb.cell (p := ⟨b, off + j, none⟩) hlt).trans (hc j hj)⟩

end Go.Proofs.Ythkoblnfeebafaa
