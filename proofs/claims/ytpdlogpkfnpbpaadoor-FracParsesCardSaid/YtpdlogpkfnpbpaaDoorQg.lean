/- Walks of the reference's Whole, Frac, answer, Of on rationals. Conditions: the parts lie in memory as naturals of at most 4,000 digits. -/
import Derived.Test.YtpdlogpkfnpbpaaDoorQf
namespace Go.Proofs.YtpdlogpkfnpbpaaDoor
open Go.RowKit

theorem dig_single {n : Nat} (h : (Num.dig n).length = 1) : ∃ d, Num.dig n = [d] ∧ d = n := by
  match hd : Num.dig n, h with
  | [d], _ =>
    have := Num.val_dig n
    rw [hd] at this
    simp [Num.val] at this
    exact ⟨d, rfl, this⟩

end Go.Proofs.YtpdlogpkfnpbpaaDoor
