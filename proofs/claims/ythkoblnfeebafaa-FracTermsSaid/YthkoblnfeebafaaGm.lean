/- Plain facts on rationals and their parts. No conditions. -/
import Derived.Test.YthkoblnfeebafaaGd
namespace Go.Proofs.Ythkoblnfeebafaa

theorem sign_rat {n d : Int} (hd : 1 ≤ d) : (rat n d).num.sign = n.sign := by
  obtain ⟨p1, p2⟩ := rat_parts (n := n) hd
  have hg : 0 < Int.gcd n d := Int.gcd_pos_of_ne_zero_right _ (by omega)
  have d1 : (Int.gcd n d : Int) ∣ n := Int.gcd_dvd_left _ _
  rw [p1]
  generalize Int.gcd n d = g at *
  obtain ⟨a, rfl⟩ := d1
  rw [Int.mul_ediv_cancel_left _ (by omega), Int.sign_mul, Int.sign_eq_one_of_pos (show 0 < (g : Int) by omega), Int.one_mul]
theorem rat_selfq (q : Rat) : rat q.num q.den = q := by
  unfold rat
  rw [← Rat.divInt_eq_div, Rat.num_divInt_den]
theorem den_one (q : Rat) : 1 ≤ (q.den : Int) := by have := q.den_pos; omega
theorem floor_eq (q : Rat) : q.floor = q.num / q.den := by
  by_cases h : q.num < 0
  · rw [floor_neg h]
    have := q.den_pos
    have e1 := Int.mul_ediv_add_emod q.num q.den
    have e2 := Nat.div_add_mod q.num.natAbs q.den
    have e3 := Nat.mod_lt q.num.natAbs q.den_pos
    split
    · rename_i h0
      symm
      refine Int.ediv_eq_of_eq_mul_left (by omega) ?_
      rw [h0] at e2
      have : (q.num.natAbs : Int) = (q.num.natAbs / q.den : Nat) * (q.den : Int) := by
        rw [← Int.natCast_mul, Nat.mul_comm]; omega
      rw [Int.neg_mul, Int.natCast_add, Int.add_mul, ← this]
      omega
    · rename_i h0
      symm
      refine ((Int.ediv_emod_unique (r := (q.den : Int) - (q.num.natAbs % q.den : Nat)) (by omega)).2 ⟨?_, by omega, by omega⟩).1
      have : (q.num.natAbs : Int) = (q.den : Int) * (q.num.natAbs / q.den : Nat) + (q.num.natAbs % q.den : Nat) := by
        rw [← Int.natCast_mul, ← Int.natCast_add]; omega
      rw [Int.natCast_add, Int.mul_neg, Int.mul_add]
      simp only [Int.natCast_one, Int.mul_one]
      omega
  · rw [floor_pos h, Int.natCast_ediv]
    congr 1; omega
/-- what is left -/
theorem rest_eq (q : Rat) : q - (q.floor : Rat) = rat (q.num % q.den) q.den := by
  rw [floor_eq]
  have e1 := Int.mul_ediv_add_emod q.num q.den
  have e2 := cast_ne (den_one q)
  conv => lhs; lhs; rw [← rat_selfq q]
  generalize q.num / q.den = F at *
  generalize q.num % q.den = R at *
  have e3 : (q.num : Rat) = (((q.den : Int)) : Rat) * (F : Rat) + (R : Rat) := by rw [← Rat.intCast_mul, ← Rat.intCast_add, e1]
  unfold rat
  rw [e3]
  generalize (((q.den : Int)) : Rat) = D at *
  grind
theorem neg_eq {a b : Int} : -rat a b = rat (-a) b := by
  unfold rat
  rw [Rat.intCast_neg]
  grind
theorem sub_eq2 {an ad bn bd : Int} (h1 : 1 ≤ ad) (h2 : 1 ≤ bd) : rat an ad - rat bn bd = rat (an * bd - bn * ad) (ad * bd) := by
  have e1 := cast_ne h1
  have e2 := cast_ne h2
  unfold rat
  simp only [Rat.intCast_sub, Rat.intCast_mul]
  grind

end Go.Proofs.Ythkoblnfeebafaa
