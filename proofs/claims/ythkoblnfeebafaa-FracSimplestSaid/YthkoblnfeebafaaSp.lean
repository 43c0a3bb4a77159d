/- Plain law of the simplest fraction of an interval, on integers. No conditions. -/
import Derived.Test.YthkoblnfeebafaaNum
namespace Go.Proofs.Ythkoblnfeebafaa
namespace Sp

/-- s/t lies in the interval from an/ad to bn/bd; each pair of the interval has both parts at least as great -/
structure Strong (an ad bn bd s t : Int) : Prop where
  t1 : 1 ≤ t
  lo : an * t ≤ s * ad
  hi : s * bd ≤ bn * t
  min : ∀ u v : Int, 1 ≤ v → an * v ≤ u * ad → u * bd ≤ bn * v → t ≤ v ∧ s ≤ u
/-- the least denominator, and of those the numerator of least absolute value -/
structure Weak (an ad bn bd s t : Int) : Prop where
  t1 : 1 ≤ t
  lo : an * t ≤ s * ad
  hi : s * bd ≤ bn * t
  min : ∀ u v : Int, 1 ≤ v → an * v ≤ u * ad → u * bd ≤ bn * v → t < v ∨ (v = t ∧ (u = s ∨ s.natAbs < u.natAbs))

theorem Weak.same {an ad bn bd s t s' t' : Int} (h : Weak an ad bn bd s t) (h' : Weak an ad bn bd s' t') : s = s' ∧ t = t' := by
  have h1 := h.min s' t' h'.t1 h'.lo h'.hi
  have h2 := h'.min s t h.t1 h.lo h.hi
  omega
theorem Weak.flip {an ad bn bd s t : Int} (h : Weak an ad bn bd s t) : Weak (-bn) bd (-an) ad (-s) t := by
  obtain ⟨h1, h2, h3, h4⟩ := h
  refine ⟨h1, by rw [Int.neg_mul, Int.neg_mul]; omega, by rw [Int.neg_mul, Int.neg_mul]; omega, fun u v hv hl hh => ?_⟩
  rw [Int.neg_mul] at hl hh
  have := h4 (-u) v hv (by rw [Int.neg_mul]; omega) (by rw [Int.neg_mul]; omega)
  omega
/-- a whole number lies in the interval -/
theorem whole_pos {an ad bn bd m : Int} (ha : 1 ≤ ad) (hm : 1 ≤ m) (h1 : an ≤ m * ad) (h2 : m * bd ≤ bn) (h3 : (m - 1) * ad < an) : Weak an ad bn bd m 1 ∧ (1 ≤ an → Strong an ad bn bd m 1) := by
  have key : ∀ u v : Int, 1 ≤ v → an * v ≤ u * ad → m ≤ u := by
    intro u v hv hl
    refine Int.not_lt.1 fun hu => ?_
    have ha0 : 0 < an := by
      have : 0 ≤ (m - 1) * ad := Int.mul_nonneg (by omega) (by omega)
      omega
    have m1 : an * 1 ≤ an * v := Int.mul_le_mul_of_nonneg_left hv (by omega)
    have m2 : u * ad ≤ (m - 1) * ad := Int.mul_le_mul_of_nonneg_right (by omega) (by omega)
    omega
  refine ⟨⟨by omega, by omega, by omega, fun u v hv hl _ => ?_⟩, fun _ => ⟨by omega, by omega, by omega, fun u v hv hl _ => ⟨hv, key u v hv hl⟩⟩⟩
  have := key u v hv hl
  omega
theorem whole_neg {an ad bn bd m : Int} (hb : 1 ≤ bd) (hm : m ≤ -1) (h1 : an ≤ m * ad) (h2 : m * bd ≤ bn) (h3 : bn < (m + 1) * bd) : Weak an ad bn bd m 1 := by
  have e1 : -m * bd = -(m * bd) := Int.neg_mul _ _
  have e2 : -m * ad = -(m * ad) := Int.neg_mul _ _
  have e3 : (-m - 1) * bd = -((m + 1) * bd) := by grind
  have h := (whole_pos (an := -bn) (ad := bd) (bn := -an) (bd := ad) (m := -m) hb (by omega) (by omega) (by omega) (by omega)).1.flip
  rwa [Int.neg_neg, Int.neg_neg, Int.neg_neg] at h
theorem whole_zero {an ad bn bd : Int} (h1 : an ≤ 0) (h2 : 0 ≤ bn) : Weak an ad bn bd 0 1 := by
  refine ⟨by omega, by omega, by omega, fun u v hv _ _ => ?_⟩
  omega

/-- the parts of an inner interval -/
theorem inner {h rest over ad bd u v : Int} (hr : 1 ≤ rest) (hv : 1 ≤ v) (ha : 1 ≤ ad) (hl : (rest + h * ad) * v ≤ u * ad) (hh : u * bd ≤ (over + h * bd) * v) :
    1 ≤ u - h * v ∧ bd * (u - h * v) ≤ v * over ∧ v * rest ≤ ad * (u - h * v) := by
  have e1 : (rest + h * ad) * v = rest * v + h * v * ad := by grind
  have e2 : (over + h * bd) * v = v * over + h * v * bd := by grind
  have e3 : ad * (u - h * v) = u * ad - h * v * ad := by grind
  have e4 : bd * (u - h * v) = u * bd - h * v * bd := by grind
  have e5 : v * rest = rest * v := Int.mul_comm _ _
  refine ⟨?_, by omega, by omega⟩
  have m1 : 1 * v ≤ rest * v := Int.mul_le_mul_of_nonneg_right hr (by omega)
  have h5 : 0 < ad * (u - h * v) := by omega
  have := Int.pos_of_mul_pos_right h5 (by omega)
  omega
/-- both ends strictly between two whole numbers -/
theorem step {h rest over ad bd s t : Int} (ha : 1 ≤ ad) (hb : 1 ≤ bd) (hr : 1 ≤ rest) (ho : 1 ≤ over) (hob : over < bd) (hi : Strong bd over ad rest s t) :
    Weak (rest + h * ad) ad (over + h * bd) bd (h * s + t) s ∧ (0 ≤ h → Strong (rest + h * ad) ad (over + h * bd) bd (h * s + t) s) := by
  obtain ⟨t1, l1, h1, mn⟩ := hi
  have hst : t < s := by
    refine Int.not_le.1 fun hle => ?_
    have m1 : s * over ≤ t * over := Int.mul_le_mul_of_nonneg_right hle (by omega)
    have m2 : t * over < t * bd := Int.mul_lt_mul_of_pos_left hob (by omega)
    have e1 : bd * t = t * bd := Int.mul_comm _ _
    omega
  have LO : (rest + h * ad) * s ≤ (h * s + t) * ad := by
    have e1 : (rest + h * ad) * s = s * rest + h * s * ad := by grind
    have e2 : (h * s + t) * ad = h * s * ad + ad * t := by grind
    omega
  have HI : (h * s + t) * bd ≤ (over + h * bd) * s := by
    have e1 : (over + h * bd) * s = s * over + h * s * bd := by grind
    have e2 : (h * s + t) * bd = h * s * bd + bd * t := by grind
    omega
  refine ⟨⟨by omega, LO, HI, fun u v hv hl hh => ?_⟩, fun h0 => ⟨by omega, LO, HI, fun u v hv hl hh => ?_⟩⟩
  · obtain ⟨i1, i2, i3⟩ := inner hr hv ha hl hh
    obtain ⟨m1, m2⟩ := mn v (u - h * v) i1 i2 i3
    by_cases hvs : v = s
    · subst hvs
      refine .inr ⟨rfl, ?_⟩
      by_cases hw : u - h * v = t
      · exact .inl (by omega)
      · by_cases h0 : 0 ≤ h
        · have : 0 ≤ h * v := Int.mul_nonneg h0 (by omega)
          exact .inr (by omega)
        · exfalso
          generalize hwd : u - h * v = w at *
          have p1 : v * t ≤ (v - 1) * w := by
            have m3 : (v - 1) * (t + 1) ≤ (v - 1) * w := Int.mul_le_mul_of_nonneg_left (by omega) (by omega)
            have e1 : (v - 1) * (t + 1) = v * t + v - t - 1 := by grind
            omega
          have p2 : bd * t ≤ (v - 1) * over := by
            refine Int.not_lt.1 fun hlt => ?_
            have m3 : v * ((v - 1) * over) < v * (bd * t) := Int.mul_lt_mul_of_pos_left hlt (by omega)
            have m4 : bd * (v * t) ≤ bd * ((v - 1) * w) := Int.mul_le_mul_of_nonneg_left p1 (by omega)
            have m5 : (v - 1) * (bd * w) ≤ (v - 1) * (v * over) := Int.mul_le_mul_of_nonneg_left i2 (by omega)
            have e1 : v * (bd * t) = bd * (v * t) := by grind
            have e2 : bd * ((v - 1) * w) = (v - 1) * (bd * w) := by grind
            have e3 : v * ((v - 1) * over) = (v - 1) * (v * over) := by grind
            omega
          have p3 : (v - 1) * rest ≤ ad * t := by
            have e1 : (v - 1) * rest = v * rest - rest := by grind
            omega
          have := (mn (v - 1) t t1 p2 p3).2
          omega
    · exact .inl (by omega)
  · obtain ⟨i1, i2, i3⟩ := inner hr hv ha hl hh
    obtain ⟨m1, m2⟩ := mn v (u - h * v) i1 i2 i3
    have m3 : h * s ≤ h * v := Int.mul_le_mul_of_nonneg_left m2 h0
    exact ⟨m2, by omega⟩
theorem Strong.weak {an ad bn bd s t : Int} (hs : 0 ≤ s) (h : Strong an ad bn bd s t) : Weak an ad bn bd s t := by
  obtain ⟨h1, h2, h3, h4⟩ := h
  refine ⟨h1, h2, h3, fun u v hv hl hh => ?_⟩
  have := h4 u v hv hl hh
  omega
theorem Weak.gcd {an ad bn bd s t : Int} (h : Weak an ad bn bd s t) : Int.gcd s t = 1 := by
  obtain ⟨h1, h2, h3, h4⟩ := h
  have hp : 0 < Int.gcd s t := Int.gcd_pos_of_ne_zero_right _ (by omega)
  have d1 : (Int.gcd s t : Int) ∣ s := Int.gcd_dvd_left _ _
  have d2 : (Int.gcd s t : Int) ∣ t := Int.gcd_dvd_right _ _
  generalize Int.gcd s t = g at *
  obtain ⟨u, rfl⟩ := d1
  obtain ⟨v, rfl⟩ := d2
  have hv : 1 ≤ v := by
    have := Int.pos_of_mul_pos_right (show 0 < (g : Int) * v by omega) (by omega)
    omega
  have e1 : an * (g * v) = g * (an * v) := by grind
  have e2 : g * u * ad = g * (u * ad) := by grind
  have e3 : g * u * bd = g * (u * bd) := by grind
  have e4 : bn * (g * v) = g * (bn * v) := by grind
  rw [e1, e2] at h2
  rw [e3, e4] at h3
  have := h4 u v hv (Int.le_of_mul_le_mul_left h2 (by omega)) (Int.le_of_mul_le_mul_left h3 (by omega))
  have m1 : (1 : Int) * v ≤ g * v := Int.mul_le_mul_of_nonneg_right (by omega) (by omega)
  have h5 : v = g * v := by omega
  have h6 : (1 : Int) * v = g * v := by omega
  have := Int.eq_of_mul_eq_mul_right (by omega) h6
  omega
/-- the parts stay within the limits of the ends -/
theorem Weak.den {an ad bn bd s t : Int} (ha : 1 ≤ ad) (hab : an * bd ≤ bn * ad) (h : Weak an ad bn bd s t) : t ≤ ad := by
  have := h.min an ad ha (Int.le_refl _) hab
  omega
theorem Weak.den' {an ad bn bd s t : Int} (hb : 1 ≤ bd) (hab : an * bd ≤ bn * ad) (h : Weak an ad bn bd s t) : t ≤ bd := by
  have := h.min bn bd hb hab (Int.le_refl _)
  omega
theorem Weak.num_le {an ad bn bd s t M : Int} (hb : 1 ≤ bd) (hab : an * bd ≤ bn * ad) (h : Weak an ad bn bd s t) (hM : bn ≤ M) (h0 : 0 ≤ M) : s ≤ M := by
  have h1 := h.den' hb hab
  have h2 := h.hi
  have h3 := h.t1
  refine Int.not_lt.1 fun hlt => ?_
  have m1 : (M + 1) * bd ≤ s * bd := Int.mul_le_mul_of_nonneg_right (by omega) (by omega)
  have m2 : bn * t ≤ M * t := Int.mul_le_mul_of_nonneg_right hM (by omega)
  have m3 : M * t ≤ M * bd := Int.mul_le_mul_of_nonneg_left h1 h0
  have e1 : (M + 1) * bd = M * bd + bd := by grind
  omega
theorem Weak.num_ge {an ad bn bd s t M : Int} (ha : 1 ≤ ad) (hab : an * bd ≤ bn * ad) (h : Weak an ad bn bd s t) (hM : -M ≤ an) (h0 : 0 ≤ M) : -M ≤ s := by
  have := h.flip.num_le (M := M) ha (by rw [Int.neg_mul, Int.neg_mul]; omega) (by omega) h0
  omega
theorem Strong.num_pos {an ad bn bd s t : Int} (ha : 1 ≤ ad) (h1 : 1 ≤ an) (h : Strong an ad bn bd s t) : 1 ≤ s := by
  have h2 := h.lo
  have h3 := h.t1
  have m1 : 1 * t ≤ an * t := Int.mul_le_mul_of_nonneg_right h1 (by omega)
  have := Int.pos_of_mul_pos_left (show 0 < s * ad by omega) (by omega)
  omega
end Sp
end Go.Proofs.Ythkoblnfeebafaa
