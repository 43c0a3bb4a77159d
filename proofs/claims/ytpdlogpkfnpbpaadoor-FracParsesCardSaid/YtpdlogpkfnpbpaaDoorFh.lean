/- Walks of frac's Sub, Mul, Mediant, New, Whole, Div, Neg, Abs. Conditions: the arguments are within their kinds. -/
import Derived.Test.YtpdlogpkfnpbpaaDoorFe
namespace Go.Proofs.YtpdlogpkfnpbpaaDoor
open Go.RowKit

theorem sub_rat {an ad bn bd : Int} (h1 : 1 ≤ ad) (h2 : 1 ≤ bd) : ((an * bd - bn * ad : Int) : Rat) / ((ad * bd : Int) : Rat) = rat an ad - rat bn bd := by
  have e1 := cast_ne h1
  have e2 := cast_ne h2
  unfold rat
  rw [Rat.intCast_sub, Rat.intCast_mul, Rat.intCast_mul, Rat.intCast_mul]
  grind
theorem mul_rat {an ad bn bd : Int} (h1 : 1 ≤ ad) (h2 : 1 ≤ bd) : ((an * bn : Int) : Rat) / ((ad * bd : Int) : Rat) = rat an ad * rat bn bd := by
  have e1 := cast_ne h1
  have e2 := cast_ne h2
  unfold rat
  rw [Rat.intCast_mul, Rat.intCast_mul]
  grind
theorem div_rat {an ad bn bd : Int} (h1 : 1 ≤ ad) (h2 : 1 ≤ bd) (h3 : bn ≠ 0) : ((an * bd : Int) : Rat) / ((ad * bn : Int) : Rat) = rat an ad / rat bn bd := by
  have e1 := cast_ne h1
  have e2 := cast_ne h2
  have e3 : (bn : Rat) ≠ 0 := by intro h0; exact h3 (Rat.intCast_eq_zero_iff.1 h0)
  unfold rat
  rw [Rat.intCast_mul, Rat.intCast_mul]
  grind
theorem mul_bd2 {x y : Int} (h1 : -1000000000 ≤ x) (h2 : x ≤ 1000000000) (h3 : -1000000000 ≤ y) (h4 : y ≤ 1000000000) : -1000000000000000000 ≤ x * y ∧ x * y ≤ 1000000000000000000 := by
  rcases Int.le_total 0 y with h | h
  · have a1 : x * y ≤ 1000000000 * y := Int.mul_le_mul_of_nonneg_right h2 h
    have a2 : -1000000000 * y ≤ x * y := Int.mul_le_mul_of_nonneg_right h1 h
    omega
  · have a1 : 1000000000 * y ≤ x * y := Int.mul_le_mul_of_nonpos_right h2 h
    have a2 : x * y ≤ -1000000000 * y := Int.mul_le_mul_of_nonpos_right h1 h
    omega

end Go.Proofs.YtpdlogpkfnpbpaaDoor
