/- Plain law of rounding. No conditions. -/
import Derived.Test.YthkoblnfeebafaaGc
import Derived.Test.YthkoblnfeebafaaGd
namespace Go.Proofs.Ythkoblnfeebafaa

def rndQ (q : Rat) (m : Int) : Int := rndV q.num q.den (q.num / q.den) (q.num % q.den) m
theorem up_scale {n d q r m g : Int} (hg : 0 < g) : upB (g * n) (g * d) q (g * r) m = upB n d q r m := by
  have e1 : decide (0 < g * r) = decide (0 < r) := by
    rw [decide_eq_decide]
    exact ⟨fun h => Int.pos_of_mul_pos_right h (by omega), fun h => Int.mul_pos hg h⟩
  have e2 : decide (g * n < 0) = decide (n < 0) := by
    rw [decide_eq_decide]
    constructor
    · intro h
      refine Int.not_le.1 fun h' => ?_
      have := Int.mul_nonneg (Int.le_of_lt hg) h'
      omega
    · intro h
      exact Int.mul_neg_of_pos_of_neg hg h
  have e0 : g * d - g * r = g * (d - r) := by rw [Int.mul_sub]
  have e3 : decide (g * (d - r) ≤ g * r) = decide (d - r ≤ r) := by
    rw [decide_eq_decide]
    exact Int.mul_le_mul_left hg
  have e4 : decide (g * (d - r) < g * r) = decide (d - r < r) := by
    rw [decide_eq_decide]
    exact Int.mul_lt_mul_left hg
  have e5 : decide (g * r = g * (d - r)) = decide (r = d - r) := by
    rw [decide_eq_decide]
    exact ⟨fun h => Int.eq_of_mul_eq_mul_left (by omega) h, fun h => by rw [← h]⟩
  unfold upB
  rw [e0, e1, e2, e3, e4, e5]
theorem rnd_scale {n d m : Int} (hd : 1 ≤ d) : rndV n d (n / d) (n % d) m = rndQ (rat n d) m := by
  obtain ⟨p1, p2⟩ := rat_parts (n := n) hd
  have hg : 0 < Int.gcd n d := Int.gcd_pos_of_ne_zero_right _ (by omega)
  have d1 : (Int.gcd n d : Int) ∣ n := Int.gcd_dvd_left _ _
  have d2 : (Int.gcd n d : Int) ∣ d := Int.gcd_dvd_right _ _
  have p3 : ((rat n d).den : Int) = d / (Int.gcd n d : Int) := by
    rw [p2, Int.natCast_ediv]
    congr 1; omega
  unfold rndQ
  rw [p1, p3]
  clear p1 p2 p3
  generalize Int.gcd n d = g at *
  obtain ⟨a, rfl⟩ := d1
  obtain ⟨b, rfl⟩ := d2
  have hg' : (0 : Int) < (g : Int) := by omega
  rw [Int.mul_ediv_cancel_left _ (by omega), Int.mul_ediv_cancel_left _ (by omega), Int.mul_ediv_mul_of_pos _ _ hg', Int.mul_emod_mul_of_pos _ _ hg']
  unfold rndV
  rw [up_scale hg']
theorem sign_rat {n d : Int} (hd : 1 ≤ d) : (rat n d).num.sign = n.sign := by
  obtain ⟨p1, p2⟩ := rat_parts (n := n) hd
  have hg : 0 < Int.gcd n d := Int.gcd_pos_of_ne_zero_right _ (by omega)
  have d1 : (Int.gcd n d : Int) ∣ n := Int.gcd_dvd_left _ _
  rw [p1]
  generalize Int.gcd n d = g at *
  obtain ⟨a, rfl⟩ := d1
  rw [Int.mul_ediv_cancel_left _ (by omega), Int.sign_mul, Int.sign_eq_one_of_pos (show 0 < (g : Int) by omega), Int.one_mul]
theorem rat_selfq (q : Rat) : rat q.num q.den = q := by
  unfold rat
  rw [← Rat.divInt_eq_div, Rat.num_divInt_den]
theorem den_one (q : Rat) : 1 ≤ (q.den : Int) := by have := q.den_pos; omega
theorem floor_eq (q : Rat) : q.floor = q.num / q.den := by
  by_cases h : q.num < 0
  · rw [floor_neg h]
    have := q.den_pos
    have e1 := Int.mul_ediv_add_emod q.num q.den
    have e2 := Nat.div_add_mod q.num.natAbs q.den
    have e3 := Nat.mod_lt q.num.natAbs q.den_pos
    split
    · rename_i h0
      symm
      refine Int.ediv_eq_of_eq_mul_left (by omega) ?_
      rw [h0] at e2
      have : (q.num.natAbs : Int) = (q.num.natAbs / q.den : Nat) * (q.den : Int) := by
        rw [← Int.natCast_mul, Nat.mul_comm]; omega
      rw [Int.neg_mul, Int.natCast_add, Int.add_mul, ← this]
      omega
    · rename_i h0
      symm
      refine ((Int.ediv_emod_unique (r := (q.den : Int) - (q.num.natAbs % q.den : Nat)) (by omega)).2 ⟨?_, by omega, by omega⟩).1
      have : (q.num.natAbs : Int) = (q.den : Int) * (q.num.natAbs / q.den : Nat) + (q.num.natAbs % q.den : Nat) := by
        rw [← Int.natCast_mul, ← Int.natCast_add]; omega
      rw [Int.natCast_add, Int.mul_neg, Int.mul_add]
      simp only [Int.natCast_one, Int.mul_one]
      omega
  · rw [floor_pos h, Int.natCast_ediv]
    congr 1; omega
/-- what is left -/
theorem rest_eq (q : Rat) : q - (q.floor : Rat) = rat (q.num % q.den) q.den := by
  rw [floor_eq]
  have e1 := Int.mul_ediv_add_emod q.num q.den
  have e2 := cast_ne (den_one q)
  conv => lhs; lhs; rw [← rat_selfq q]
  generalize q.num / q.den = F at *
  generalize q.num % q.den = R at *
  have e3 : (q.num : Rat) = (((q.den : Int)) : Rat) * (F : Rat) + (R : Rat) := by rw [← Rat.intCast_mul, ← Rat.intCast_add, e1]
  unfold rat
  rw [e3]
  generalize (((q.den : Int)) : Rat) = D at *
  grind
theorem half_eq {n d : Int} (hd : 1 ≤ d) : rat n d - ((1 : Int) : Rat) / ((2 : Int) : Rat) = rat (2 * n - d) (2 * d) := by
  have e2 := cast_ne hd
  unfold rat
  simp only [Rat.intCast_sub, Rat.intCast_mul]
  have e3 : ((1 : Int) : Rat) = 1 := rfl
  have e4 : ((2 : Int) : Rat) = 2 := rfl
  rw [e3, e4]
  generalize (n : Rat) = N at *
  generalize (d : Rat) = D at *
  grind
theorem half_floor (F : Int) : ((F : Rat) / ((2 : Int) : Rat)).floor = F / 2 := by
  have e1 : (F : Rat) / ((2 : Int) : Rat) = rat F 2 := rfl
  rw [e1, floor_eq]
  obtain ⟨p1, p2⟩ := rat_parts (n := F) (d := 2) (by omega)
  have hg : 0 < Int.gcd F 2 := Int.gcd_pos_of_ne_zero_right _ (by omega)
  have d1 : (Int.gcd F 2 : Int) ∣ F := Int.gcd_dvd_left _ _
  have d2 : (Int.gcd F 2 : Int) ∣ 2 := Int.gcd_dvd_right _ _
  rw [p1, p2, Int.natCast_ediv]
  generalize Int.gcd F 2 = g at *
  obtain ⟨a, rfl⟩ := d1
  obtain ⟨b, hb⟩ := d2
  have hg' : (0 : Int) < (g : Int) := by omega
  show (g * a / g : Int) / ((2 : Int) / (g : Int)) = _
  rw [Int.mul_ediv_cancel_left _ (by omega), hb, Int.mul_ediv_cancel_left _ (by omega), Int.mul_ediv_mul_of_pos _ _ hg']
/-- the upper one is right wherever the mode goes up if anything is left -/
theorem rnd_high {n d q r m H : Int} (hH : H = if 0 < r then q + 1 else q) (h : upB n d q r m = decide (0 < r)) : rndV n d q r m = H := by
  unfold rndV
  rw [h, hH]
  by_cases h0 : 0 < r <;> simp [h0]
theorem up0 {n d q r : Int} : upB n d q r 0 = false := by unfold upB; simp
theorem up1 {n d q r : Int} : upB n d q r 1 = decide (0 < r) := by unfold upB; simp
theorem up2n {n d q r : Int} (h : n < 0) : upB n d q r 2 = decide (0 < r) := by unfold upB; simp [h]
theorem up2p {n d q r : Int} (h : ¬ n < 0) : upB n d q r 2 = false := by unfold upB; simp [h]
theorem up3n {n d q r : Int} (h : 2 * r - d < 0) : upB n d q r 3 = false := by unfold upB; simp; omega
theorem up3p {n d q r : Int} (h : 0 ≤ 2 * r - d) (hd : 1 ≤ d) : upB n d q r 3 = decide (0 < r) := by
  have h1 : decide (0 < r) = true := decide_eq_true (by omega)
  rw [h1]; unfold upB; simp; omega
theorem up4n {n d q r : Int} (h : 2 * r - d < 0) : upB n d q r 4 = false := by unfold upB; simp; omega
theorem up4e {n d q r : Int} (h : 2 * r - d = 0) (he : q / 2 * 2 - q = 0) : upB n d q r 4 = false := by unfold upB; simp; omega
theorem up4o {n d q r : Int} (h : 2 * r - d = 0) (hd : 1 ≤ d) (he : q / 2 * 2 - q ≠ 0) : upB n d q r 4 = decide (0 < r) := by
  have h1 : decide (0 < r) = true := decide_eq_true (by omega)
  rw [h1]; unfold upB; simp; omega
theorem up4p {n d q r : Int} (h : 0 < 2 * r - d) (hd : 1 ≤ d) : upB n d q r 4 = decide (0 < r) := by
  have h1 : decide (0 < r) = true := decide_eq_true (by omega)
  rw [h1]; unfold upB; simp; omega
end Go.Proofs.Ythkoblnfeebafaa
