/- Plain part of the reference's simple: rationals and their parts. No conditions. -/
import Derived.Test.YthkoblnfeebafaaHa
import Derived.Test.YthkoblnfeebafaaGm
namespace Go.Proofs.Ythkoblnfeebafaa

theorem gcd_self (q : Rat) : Int.gcd q.num q.den = 1 := q.reduced
/-- what is left of b above a whole number -/
theorem sub_whole (q : Rat) (A : Int) : q - (A : Rat) = rat (q.num - A * q.den) q.den := by
  have e2 := cast_ne (den_one q)
  conv => lhs; lhs; rw [← rat_selfq q]
  unfold rat
  rw [Rat.intCast_sub, Rat.intCast_mul]
  grind
theorem one_over {n d : Int} (hn : 1 ≤ n) (hd : 1 ≤ d) : ((1 : Int) : Rat) / rat n d = rat d n := by
  have e1 := cast_ne hn
  have e2 := cast_ne hd
  unfold rat
  have e3 : ((1 : Int) : Rat) = 1 := rfl
  rw [e3]
  grind
theorem gcd_left {n d A : Int} (h : Int.gcd n d = 1) : Int.gcd d (n - A * d) = 1 := by
  rw [Int.gcd_comm]
  have e : n - A * d = n + d * (-A) := by grind
  rw [e, Int.gcd_add_mul_left_left]
  exact h
theorem whole_plus {A s t : Int} (hs : 1 ≤ s) (ht : 1 ≤ t) : (A : Rat) + ((1 : Int) : Rat) / rat s t = rat (A * s + t) s := by
  rw [one_over hs ht]
  have e1 := cast_ne hs
  unfold rat
  rw [Rat.intCast_add, Rat.intCast_mul]
  grind
theorem gcd_plus {A s t : Int} (h : Int.gcd s t = 1) : Int.gcd (A * s + t) s = 1 := by
  have e : A * s + t = t + s * A := by grind
  rw [e, Int.gcd_add_mul_left_left, Int.gcd_comm]
  exact h
end Go.Proofs.Ythkoblnfeebafaa
