/- Plain law of FracClose. No conditions. -/
import Derived.Test.YthkoblnfeebafaaGi
namespace Go.Proofs.Ythkoblnfeebafaa

theorem rnd_off {n d m : Int} (hd : 1 ≤ d) (h0 : 0 ≤ m) (h4 : m ≤ 4) :
    -d < rndV n d (n / d) (n % d) m * d - n ∧ rndV n d (n / d) (n % d) m * d - n < d ∧
      (3 ≤ m → -d ≤ 2 * (rndV n d (n / d) (n % d) m * d - n) ∧ 2 * (rndV n d (n / d) (n % d) m * d - n) ≤ d) := by
  have e1 := Int.mul_ediv_add_emod n d
  have e2 := Int.emod_nonneg n (show d ≠ 0 by omega)
  have e3 := Int.emod_lt_of_pos n (show 0 < d by omega)
  generalize n / d = q at *
  generalize n % d = r at *
  have e4 : q * d = d * q := Int.mul_comm _ _
  have e5 : (q + 1) * d = d * q + d := by grind
  cases hu : upB n d q r m
  · rw [rnd_no hu]
    unfold upB at hu
    refine ⟨by omega, by omega, fun h3 => ?_⟩
    rcases (show m = 3 ∨ m = 4 by omega) with rfl | rfl <;> simp at hu <;> omega
  · rw [rnd_yes hu]
    unfold upB at hu
    rcases (show m = 0 ∨ m = 1 ∨ m = 2 ∨ m = 3 ∨ m = 4 by omega) with rfl | rfl | rfl | rfl | rfl <;> simp at hu <;> (refine ⟨by omega, by omega, fun h3 => by omega⟩)
theorem off_eq {fn fd un ud k : Int} (h1 : 1 ≤ fd) (h2 : 1 ≤ ud) (h3 : 1 ≤ un) :
    (k : Rat) * rat un ud - rat fn fd = rat ((k * (fd * un) - fn * ud) * un) (fd * un * ud) := by
  have e1 := cast_ne h1
  have e2 := cast_ne h2
  have e3 := cast_ne h3
  unfold rat
  simp only [Rat.intCast_sub, Rat.intCast_mul]
  grind
theorem min_eq {s un d ud : Int} (h2 : 1 ≤ ud) (hd : 1 ≤ d) : rat (s * un) (d * ud) - rat un ud = rat ((s - d) * un) (d * ud) := by
  have e1 := cast_ne hd
  have e2 := cast_ne h2
  unfold rat
  simp only [Rat.intCast_sub, Rat.intCast_mul]
  grind
theorem dbl_eq {s un d ud : Int} : rat (s * un) (d * ud) + rat (s * un) (d * ud) = rat (2 * s * un) (d * ud) := by
  unfold rat
  simp only [Rat.intCast_mul]
  have e4 : ((2 : Int) : Rat) = 2 := rfl
  rw [e4]
  grind
theorem neg_eq {a b : Int} : -rat a b = rat (-a) b := by
  unfold rat
  rw [Rat.intCast_neg]
  grind
theorem sub_eq2 {an ad bn bd : Int} (h1 : 1 ≤ ad) (h2 : 1 ≤ bd) : rat an ad - rat bn bd = rat (an * bd - bn * ad) (ad * bd) := by
  have e1 := cast_ne h1
  have e2 := cast_ne h2
  unfold rat
  simp only [Rat.intCast_sub, Rat.intCast_mul]
  grind

/-- what RoundTo's answer means -/
theorem rto_means {fn fd un ud m gn gd : Int} (h : rtoA fn fd un ud m = (gn, gd, 0)) :
    Vld fn fd ∧ Vld un ud ∧ 0 < un ∧ (0 ≤ m ∧ m ≤ 4) ∧ Vld gn gd ∧ ∃ k s d : Int, 1 ≤ d ∧ -d < s ∧ s < d ∧ (3 ≤ m → -d ≤ 2 * s ∧ 2 * s ≤ d) ∧ rat gn gd - rat fn fd = rat (s * un) (d * ud) ∧
      rat gn gd / rat un ud = (k : Rat) ∧ k.natAbs ≤ 4611686018427387904 := by
  unfold rtoA at h
  by_cases hc : (vldB fn fd && vldB un ud && decide (0 < un) && modB m) = true
  · rw [if_pos hc] at h
    rw [Bool.and_eq_true, Bool.and_eq_true] at hc
    obtain ⟨⟨hc1, hc2⟩, hc3⟩ := hc
    obtain ⟨hf, hu⟩ := vld_and hc1
    have hu0 : 0 < un := of_decide_eq_true hc2
    obtain ⟨hm0, hm4⟩ := mod_parts hc3
    have hd : 1 ≤ fd * un := by
      have := Int.mul_le_mul (show (1 : Int) ≤ fd from hf.1) (show (1 : Int) ≤ un by omega) (by omega) (by have := hf.1; omega)
      omega
    obtain ⟨o1, o2, o3⟩ := rnd_off (n := fn * ud) (d := fd * un) (m := m) hd hm0 hm4
    have hkb : (rndV (fn * ud) (fd * un) (fn * ud / (fd * un)) (fn * ud % (fd * un)) m).natAbs ≤ 4611686018427387904 := by
      obtain ⟨p1, p2⟩ := mul_bd hf.2.2.1 hf.2.2.2.1 hu.1 hu.2.1
      obtain ⟨q1, q2⟩ := div_bd (n := fn * ud) (d := fd * un) (B := 1000000000000000000) hd p1 p2 (by omega)
      have := rnd_near (fn * ud) (fd * un) (fn * ud / (fd * un)) (fn * ud % (fd * un)) m
      omega
    generalize rndV (fn * ud) (fd * un) (fn * ud / (fd * un)) (fn * ud % (fd * un)) m = k at *
    by_cases hq : InQ ((k : Rat) * rat un ud)
    · rw [ans_yes hq] at h
      obtain ⟨hq1, hq2⟩ := hq
      have e1 := congrArg (·.1) h
      have e2 := congrArg (·.2.1) h
      simp only at e1 e2
      have hd1 := den_one ((k : Rat) * rat un ud)
      have hv : rat gn gd = (k : Rat) * rat un ud := by rw [← e1, ← e2]; exact rat_selfq _
      refine ⟨hf, hu, hu0, ⟨hm0, hm4⟩, ⟨by omega, by omega, by omega, by omega, ?_⟩, k, k * (fd * un) - fn * ud, fd * un, hd, o1, o2, o3, ?_, ?_, hkb⟩
      · rw [← e1, ← e2]
        exact ((k : Rat) * rat un ud).reduced
      · rw [hv]
        exact off_eq hf.1 hu.1 (by omega)
      · rw [hv]
        have := rat_ne (n := un) (d := ud) (by omega) hu.1
        generalize rat un ud = u at *
        grind
    · rw [ans_no hq] at h
      exact absurd (congrArg (·.2.2) h) (by simp)
  · rw [if_neg hc] at h
    exact absurd (congrArg (·.2.2) h) (by simp)
end Go.Proofs.Ythkoblnfeebafaa
