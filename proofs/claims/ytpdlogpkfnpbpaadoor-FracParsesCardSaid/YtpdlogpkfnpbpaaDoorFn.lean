/- Walks of the reference's Div, Cmp, Neg, Abs. Conditions: the arguments are within their kinds. -/
import Derived.Test.YtpdlogpkfnpbpaaDoorFl
import Derived.Test.YtpdlogpkfnpbpaaDoorFm
namespace Go.Proofs.YtpdlogpkfnpbpaaDoor
open Go.RowKit

theorem rat_ne {n d : Int} (h : n ≠ 0) (hd : 1 ≤ d) : rat n d ≠ 0 := by
  have e1 := cast_ne hd
  have e2 : (n : Rat) ≠ 0 := by intro h0; exact h (Rat.intCast_eq_zero_iff.1 h0)
  unfold rat
  intro h0
  have := Rat.div_mul_cancel (a := (n : Rat)) e1
  rw [h0, Rat.zero_mul] at this
  exact e2 this.symm

end Go.Proofs.YtpdlogpkfnpbpaaDoor
