/- Plain law of neighbours: two fractions of determinant 1 around a third, with bounded denominators, are unique. No conditions. -/
import Derived.Test.YthkoblnfeebafaaNum
namespace Go.Proofs.Ythkoblnfeebafaa
namespace Nb

/-- a/b and c/e are neighbours around n/D, denominators at most d -/
structure In (n D d a b c e : Int) : Prop where
  b1 : 1 ≤ b
  e1 : 1 ≤ e
  bd : b ≤ d
  ed : e ≤ d
  det : b * c - a * e = 1
  x0 : 1 ≤ n * b - a * D
  y0 : 1 ≤ c * D - n * e

theorem In.flip {n D d a b c e : Int} (h : In n D d a b c e) : In (-n) D d (-c) e (-a) b := by
  obtain ⟨h1, h2, h3, h4, h5, h6, h7⟩ := h
  refine ⟨h2, h1, h4, h3, ?_, ?_, ?_⟩ <;> grind
theorem In.sum {n D d a b c e : Int} (h : In n D d a b c e) : (n * b - a * D) * e + (c * D - n * e) * b = D := by
  have := h.det
  grind
theorem In.x_le {n D d a b c e : Int} (h : In n D d a b c e) : n * b - a * D ≤ D ∧ c * D - n * e ≤ D := by
  have hs := h.sum
  have hx := h.x0
  have hy := h.y0
  have := h.b1
  have := h.e1
  generalize n * b - a * D = x at *
  generalize c * D - n * e = y at *
  have h1 : x * 1 ≤ x * e := Int.mul_le_mul_of_nonneg_left (by omega) (by omega)
  have h2 : y * 1 ≤ y * b := Int.mul_le_mul_of_nonneg_left (by omega) (by omega)
  have h3 : 0 ≤ x * e := Int.mul_nonneg (by omega) (by omega)
  have h4 : 0 ≤ y * b := Int.mul_nonneg (by omega) (by omega)
  omega
theorem dvd_small {n D b a : Int} (hg : Int.gcd n D = 1) (h0 : n * b - a * D = 0) (hb : 1 ≤ b) : D ≤ b := by
  have h1 : D ∣ n * b := ⟨a, by rw [Int.mul_comm D a]; omega⟩
  have h2 : D ∣ b := by
    have hc : Nat.Coprime D.natAbs n.natAbs := by rw [Nat.coprime_comm]; exact hg
    have h2 := Int.natAbs_dvd_natAbs.2 h1
    rw [Int.natAbs_mul] at h2
    exact Int.natAbs_dvd_natAbs.1 (hc.dvd_of_dvd_mul_left h2)
  exact Int.le_of_dvd (by omega) h2
/-- the lower end moves up -/
theorem In.up {n D d a b c e k : Int} (h : In n D d a b c e) (hg : Int.gcd n D = 1) (hD : d < D) (hk : 0 ≤ k) (hk1 : k ≤ (n * b - a * D) / (c * D - n * e)) (hk2 : k ≤ (d - b) / e) :
    In n D d (a + k * c) (b + k * e) c e := by
  have h1 := h.b1
  have h2 := h.e1
  have h3 : k * e ≤ d - b := Int.le_trans (Int.mul_le_mul_of_nonneg_right hk2 (by omega)) (Int.ediv_mul_le _ (by omega))
  have h4 : k * (c * D - n * e) ≤ n * b - a * D := Int.le_trans (Int.mul_le_mul_of_nonneg_right hk1 (by have := h.y0; omega)) (Int.ediv_mul_le _ (by have := h.y0; omega))
  have h5 : 0 ≤ k * e := Int.mul_nonneg hk (by omega)
  have e1 : n * (b + k * e) - (a + k * c) * D = (n * b - a * D) - k * (c * D - n * e) := by grind
  have hne : n * (b + k * e) - (a + k * c) * D ≠ 0 := fun h0 => by
    have := dvd_small hg h0 (by omega)
    omega
  refine ⟨by omega, h2, by omega, h.ed, ?_, by omega, h.y0⟩
  have := h.det
  grind
theorem In.down {n D d a b c e k : Int} (h : In n D d a b c e) (hg : Int.gcd n D = 1) (hD : d < D) (hk : 0 ≤ k) (hk1 : k ≤ (c * D - n * e) / (n * b - a * D)) (hk2 : k ≤ (d - e) / b) :
    In n D d a b (c + k * a) (e + k * b) := by
  have e1 : -n * e - -c * D = c * D - n * e := by grind
  have e2 : -a * D - -n * b = n * b - a * D := by grind
  have h1 := (h.flip.up (k := k) (by rw [Int.neg_gcd]; exact hg) hD hk (by rw [e1, e2]; exact hk1) hk2).flip
  have e3 : -(-c + k * -a) = c + k * a := by grind
  rw [Int.neg_neg, Int.neg_neg, e3] at h1
  exact h1
/-- the frac's own step down stays above -/
theorem pred_div {x y k : Int} (hx : 1 ≤ x) (h : k ≤ (y - 1) / x) : k ≤ y / x :=
  Int.le_trans h (Int.ediv_le_ediv (by omega) (by omega))
theorem between {n D d a b c e a' b' : Int} (h : In n D d a b c e) (h0 : d < b + e) (hb' : b' ≤ d) (h1 : a * b' < a' * b) : ¬ a' * e < c * b' := by
  intro h2
  have h3 := h.b1
  have h4 := h.e1
  have e1 : (a' * b - a * b') * e + (c * b' - a' * e) * b = b' := by have := h.det; grind
  have m1 : 1 * e ≤ (a' * b - a * b') * e := Int.mul_le_mul_of_nonneg_right (by omega) (by omega)
  have m2 : 1 * b ≤ (c * b' - a' * e) * b := Int.mul_le_mul_of_nonneg_right (by omega) (by omega)
  omega
theorem lt_hi {n D d a b c e a' b' c' e' : Int} (hD : d < D) (h : In n D d a b c e) (h' : In n D d a' b' c' e') : a' * e < c * b' := by
  have h1 := h.y0
  have h2 := h'.x0
  have h3 := h.e1
  have h4 := h'.b1
  have hd : 0 < D := by have := h.bd; have := h.b1; omega
  have m1 : 1 * b' ≤ (c * D - n * e) * b' := Int.mul_le_mul_of_nonneg_right (by omega) (by omega)
  have m2 : 1 * e ≤ (n * b' - a' * D) * e := Int.mul_le_mul_of_nonneg_right (by omega) (by omega)
  have e1 : (c * D - n * e) * b' + (n * b' - a' * D) * e = (c * b' - a' * e) * D := by grind
  have h5 : 0 < (c * b' - a' * e) * D := by omega
  have := Int.pos_of_mul_pos_left h5 hd
  omega
theorem lo_le {n D d a b c e a' b' c' e' : Int} (hD : d < D) (h : In n D d a b c e) (h' : In n D d a' b' c' e') (h0 : d < b + e) : a' * b ≤ a * b' := by
  refine Int.not_lt.1 fun h1 => ?_
  exact between h h0 h'.bd h1 (lt_hi hD h h')
theorem lo_same {n D d a b c e a' b' c' e' : Int} (hD : d < D) (h : In n D d a b c e) (h' : In n D d a' b' c' e') (h0 : d < b + e) (h0' : d < b' + e') : a = a' ∧ b = b' := by
  have h1 := lo_le hD h h' h0
  have h2 := lo_le hD h' h h0'
  have h3 : a * b' = a' * b := by omega
  have hb := h.b1
  have hb' := h'.b1
  have d1 : b ∣ b' := ⟨b' * c - a' * e, by have := h.det; grind⟩
  have d2 : b' ∣ b := ⟨b * c' - a * e', by have := h'.det; grind⟩
  have e1 : b = b' := Int.le_antisymm (Int.le_of_dvd (by omega) d1) (Int.le_of_dvd (by omega) d2)
  subst e1
  exact ⟨Int.eq_of_mul_eq_mul_right (by omega) h3, rfl⟩
/-- the two are fixed by n/D and d -/
theorem same {n D d a b c e a' b' c' e' : Int} (hD : d < D) (h : In n D d a b c e) (h' : In n D d a' b' c' e') (h0 : d < b + e) (h0' : d < b' + e') : a = a' ∧ b = b' ∧ c = c' ∧ e = e' := by
  obtain ⟨h1, h2⟩ := lo_same hD h h' h0 h0'
  obtain ⟨h3, h4⟩ := lo_same hD h.flip h'.flip (by omega) (by omega)
  exact ⟨h1, h2, by omega, h4⟩
theorem start {n D d : Int} (hg : Int.gcd n D = 1) (hd : 1 ≤ d) (hD : d < D) : In n D d (n / D) 1 (n / D + 1) 1 := by
  have h1 := Int.emod_nonneg n (show D ≠ 0 by omega)
  have h2 := Int.emod_lt_of_pos n (show 0 < D by omega)
  have h3 := Int.mul_ediv_add_emod n D
  have e1 : n / D * D = D * (n / D) := Int.mul_comm _ _
  have hne : n * 1 - n / D * D ≠ 0 := fun h0 => by
    have := dvd_small hg h0 (by omega)
    omega
  refine ⟨by omega, by omega, hd, hd, by omega, ?_, ?_⟩
  · omega
  · have e2 : (n / D + 1) * D = n / D * D + D := by grind
    omega
/-- the reference's walk goes on a shifted fraction -/
theorem In.shift {n D d a b c e : Int} (t : Int) (h : In (n - t * D) D d a b c e) : In n D d (a + t * b) b (c + t * e) e := by
  obtain ⟨h1, h2, h3, h4, h5, h6, h7⟩ := h
  refine ⟨h1, h2, h3, h4, ?_, ?_, ?_⟩ <;> grind
/-- the ends are fractions within the limits -/
theorem In.lo_bd {n D d a b c e M : Int} (h : In n D d a b c e) (hD : d < D) (hn : -M ≤ n) (hn' : n ≤ M) : -M ≤ a ∧ a ≤ M := by
  have h1 := h.b1
  have h2 := h.bd
  have h3 := h.x0
  have h4 := h.x_le.1
  have hd : 0 < D := by omega
  have hM : 0 ≤ M := by omega
  constructor
  · -- a * D = n*b - x ≥ -M*(D-1) - D > -(M+1)*D
    refine Int.not_lt.1 fun hlt => ?_
    have m1 : a * D ≤ (-M - 1) * D := Int.mul_le_mul_of_nonneg_right (by omega) (by omega)
    have m2 : -M * b ≤ n * b := Int.mul_le_mul_of_nonneg_right hn (by omega)
    have m3 : M * b ≤ M * D := Int.mul_le_mul_of_nonneg_left (by omega) hM
    have e1 : (-M - 1) * D = -(M * D) - D := by grind
    have e2 : -M * b = -(M * b) := by grind
    -- equality: x = D and so on: then b = D if M > 0
    have h5 : M * b = M * D := by omega
    have h6 : M = 0 := by
      rcases Int.lt_trichotomy M 0 with h | h | h
      · omega
      · exact h
      · have := Int.eq_of_mul_eq_mul_left (by omega) h5
        omega
    subst h6
    have hn0 : n = 0 := by omega
    subst hn0
    have hs := h.sum
    have hy := h.y0
    have he := h.e1
    have hx : 0 * b - a * D = D := by omega
    rw [hx] at hs
    have m4 : D * 1 ≤ D * e := Int.mul_le_mul_of_nonneg_left he (by omega)
    have m5 : 1 * b ≤ (c * D - 0 * e) * b := Int.mul_le_mul_of_nonneg_right (by omega) (by omega)
    omega
  · refine Int.not_lt.1 fun hlt => ?_
    have m1 : (M + 1) * D ≤ a * D := Int.mul_le_mul_of_nonneg_right (by omega) (by omega)
    have m2 : n * b ≤ M * b := Int.mul_le_mul_of_nonneg_right hn' (by omega)
    have m3 : M * b ≤ M * D := Int.mul_le_mul_of_nonneg_left (by omega) hM
    have e1 : (M + 1) * D = M * D + D := by grind
    omega
theorem In.hi_bd {n D d a b c e M : Int} (h : In n D d a b c e) (hD : d < D) (hn : -M ≤ n) (hn' : n ≤ M) : -M ≤ c ∧ c ≤ M := by
  have := h.flip.lo_bd hD (M := M) (by omega) (by omega)
  omega
theorem In.lo_gcd {n D d a b c e : Int} (h : In n D d a b c e) : Int.gcd a b = 1 := by
  have h1 : (Int.gcd a b : Int) ∣ a := Int.gcd_dvd_left _ _
  have h2 : (Int.gcd a b : Int) ∣ b := Int.gcd_dvd_right _ _
  have h3 : (Int.gcd a b : Int) ∣ b * c - a * e := Int.dvd_sub (Int.dvd_mul_of_dvd_left h2) (Int.dvd_mul_of_dvd_left h1)
  rw [h.det] at h3
  have h5 := Int.natAbs_dvd_natAbs.2 h3
  simpa using h5
theorem In.hi_gcd {n D d a b c e : Int} (h : In n D d a b c e) : Int.gcd c e = 1 := by
  have := h.flip.lo_gcd
  rwa [Int.neg_gcd] at this
end Nb
end Go.Proofs.Ythkoblnfeebafaa
