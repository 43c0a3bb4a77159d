/- Plain law of FromTerms: the convergents forward, with their checks, answer as the value reckoned backward. -/
import Derived.Test.YthkoblnfeebafaaFp
namespace Go.Proofs.Ythkoblnfeebafaa

namespace Cf
/-- frac's loop: the convergents, with its checks -/
def conv : Int → Int → Int → Int → List Int → Int × Int × Int
  | _, _, p1, q1, [] => (p1, q1, 0)
  | p0, q0, p1, q1, a :: l =>
    if 1000000000 < a.natAbs then (0, 0, 5)
    else if 1000000000 < (a * p1 + p0).natAbs ∨ 1000000000 < a * q1 + q0 then (0, 0, 5)
    else conv p1 q1 (a * p1 + p0) (a * q1 + q0) l
/-- without checks -/
def cu : Int → Int → Int → Int → List Int → Int × Int
  | _, _, p1, q1, [] => (p1, q1)
  | p0, q0, p1, q1, a :: l => cu p1 q1 (a * p1 + p0) (a * q1 + q0) l
/-- the value, reckoned backward -/
def val : List Int → Rat
  | [] => 0
  | [a] => (a : Rat)
  | a :: b :: l => (a : Rat) + 1 / val (b :: l)

theorem cu_q : ∀ (l : List Int) (p0 q0 p1 q1 : Int), (∀ a ∈ l, 1 ≤ a) → 0 ≤ q0 → 0 ≤ q1 → q1 ≤ (cu p0 q0 p1 q1 l).2
  | [], _, _, _, _, _, _, _ => by unfold cu; omega
  | a :: l, p0, q0, p1, q1, h, h0, h1 => by
    have ha := h a (by simp)
    have hm : 1 * q1 ≤ a * q1 := Int.mul_le_mul_of_nonneg_right ha h1
    have := cu_q l p1 q1 (a * p1 + p0) (a * q1 + q0) (fun x hx => h x (by simp [hx])) h1 (by omega)
    unfold cu
    omega
theorem cu_pos : ∀ (l : List Int) (p0 q0 p1 q1 : Int), (∀ a ∈ l, 1 ≤ a) → 0 ≤ p0 → 0 ≤ p1 → p1 ≤ (cu p0 q0 p1 q1 l).1
  | [], _, _, _, _, _, _, _ => by unfold cu; omega
  | a :: l, p0, q0, p1, q1, h, h0, h1 => by
    have ha := h a (by simp)
    have hm : 1 * p1 ≤ a * p1 := Int.mul_le_mul_of_nonneg_right ha h1
    have := cu_pos l p1 q1 (a * p1 + p0) (a * q1 + q0) (fun x hx => h x (by simp [hx])) h1 (by omega)
    unfold cu
    omega
theorem cu_neg : ∀ (l : List Int) (p0 q0 p1 q1 : Int), (∀ a ∈ l, 1 ≤ a) → p0 ≤ 0 → p1 ≤ 0 → (cu p0 q0 p1 q1 l).1 ≤ p1
  | [], _, _, _, _, _, _, _ => by unfold cu; omega
  | a :: l, p0, q0, p1, q1, h, h0, h1 => by
    have ha := h a (by simp)
    have hm : a * p1 ≤ 1 * p1 := Int.mul_le_mul_of_nonpos_right ha h1
    have := cu_neg l p1 q1 (a * p1 + p0) (a * q1 + q0) (fun x hx => h x (by simp [hx])) h1 (by omega)
    unfold cu
    omega
/-- same signs: the absolute value never falls -/
theorem cu_abs (l : List Int) (p0 q0 p1 q1 : Int) (h : ∀ a ∈ l, 1 ≤ a) (hs : (0 ≤ p0 ∧ 0 ≤ p1) ∨ (p0 ≤ 0 ∧ p1 ≤ 0)) : p1.natAbs ≤ (cu p0 q0 p1 q1 l).1.natAbs := by
  rcases hs with hs | hs
  · have := cu_pos l p0 q0 p1 q1 h hs.1 hs.2
    omega
  · have := cu_neg l p0 q0 p1 q1 h hs.1 hs.2
    omega

def out (x : Int × Int) : Int × Int × Int := if x.1.natAbs ≤ 1000000000 ∧ x.2 ≤ 1000000000 then (x.1, x.2, 0) else (0, 0, 5)
theorem out_no {x : Int × Int} (h : ¬ (x.1.natAbs ≤ 1000000000 ∧ x.2 ≤ 1000000000)) : out x = (0, 0, 5) := if_neg h
theorem conv_same : ∀ (l : List Int) (p0 q0 p1 q1 : Int), (∀ a ∈ l, 1 ≤ a) → 0 ≤ q0 → 1 ≤ q1 → ((0 ≤ p0 ∧ 0 ≤ p1) ∨ (p0 ≤ 0 ∧ p1 ≤ 0)) → p1.natAbs ≤ 1000000000 → q1 ≤ 1000000000 →
    conv p0 q0 p1 q1 l = out (cu p0 q0 p1 q1 l)
  | [], _, _, _, _, _, _, _, _, h1, h2 => by unfold conv cu out; rw [if_pos ⟨h1, h2⟩]
  | a :: l, p0, q0, p1, q1, h, h0, h1, hs, hp, hq => by
    have ha := h a (by simp)
    have hl : ∀ x ∈ l, 1 ≤ x := fun x hx => h x (by simp [hx])
    have hm : a * 1 ≤ a * q1 := Int.mul_le_mul_of_nonneg_left h1 (by omega)
    have hm2 : 1 * q1 ≤ a * q1 := Int.mul_le_mul_of_nonneg_right ha (by omega)
    have hQ := cu_q l p1 q1 (a * p1 + p0) (a * q1 + q0) hl (by omega) (by omega)
    have hs' : (0 ≤ p1 ∧ 0 ≤ a * p1 + p0) ∨ (p1 ≤ 0 ∧ a * p1 + p0 ≤ 0) := by
      rcases hs with hs | hs
      · have : 0 ≤ a * p1 := Int.mul_nonneg (by omega) hs.2
        exact .inl ⟨hs.2, by omega⟩
      · have : a * p1 ≤ a * 0 := Int.mul_le_mul_of_nonneg_left hs.2 (by omega)
        exact .inr ⟨hs.2, by omega⟩
    have hP := cu_abs l p1 q1 (a * p1 + p0) (a * q1 + q0) hl hs'
    unfold conv cu
    split
    · rw [out_no (by omega)]
    · split
      · rw [out_no (by omega)]
      · exact conv_same l p1 q1 _ _ hl (by omega) (by omega) hs' (by omega) (by omega)
/-- the terms behind the first: at least 1, the last one not 1 -/
def Tail : List Int → Prop
  | [] => True
  | [a] => 2 ≤ a
  | a :: b :: l => 1 ≤ a ∧ Tail (b :: l)
theorem Tail.pos : ∀ {l : List Int}, Tail l → ∀ a ∈ l, 1 ≤ a
  | [], _, _, h => by simp at h
  | [a], h, x, hx => by simp at hx; subst hx; unfold Tail at h; omega
  | a :: b :: l, h, x, hx => by
    unfold Tail at h
    rcases List.mem_cons.1 hx with rfl | hx
    · exact h.1
    · exact Tail.pos h.2 x hx
theorem Tail.tail {a : Int} {l : List Int} (h : Tail (a :: l)) : Tail l := by
  cases l with
  | nil => trivial
  | cons b l => unfold Tail at h; exact h.2
/-- a first term below zero: the absolute value never falls below it -/
theorem cu_first (a : Int) (ha : a < 0) : ∀ (l : List Int), Tail l → a.natAbs ≤ (cu 1 0 a 1 l).1.natAbs
  | [], _ => by unfold cu; omega
  | [b], h => by
    unfold Tail at h
    unfold cu cu
    have hm : b * a ≤ 2 * a := Int.mul_le_mul_of_nonpos_right h (by omega)
    show _ ≤ (b * a + 1).natAbs
    omega
  | b :: c :: l, h => by
    have hb := h.pos b (by simp)
    have hc := h.pos c (by simp)
    have hl : ∀ x ∈ l, 1 ≤ x := fun x hx => h.pos x (by simp [hx])
    have hm : b * a ≤ 1 * a := Int.mul_le_mul_of_nonpos_right hb (by omega)
    have hn : c * (b * a + 1) ≤ 1 * (b * a + 1) := Int.mul_le_mul_of_nonpos_right hc (by omega)
    have hp := cu_abs l (b * a + 1) (b * 1 + 0) (c * (b * a + 1) + a) (c * (b * 1 + 0) + 1) hl (.inr ⟨by omega, by omega⟩)
    show _ ≤ (cu (b * a + 1) (b * 1 + 0) (c * (b * a + 1) + a) (c * (b * 1 + 0) + 1) l).1.natAbs
    omega
theorem cu_first' (a : Int) (l : List Int) (h : Tail l) : a.natAbs ≤ (cu 1 0 a 1 l).1.natAbs := by
  by_cases ha : a < 0
  · exact cu_first a ha l h
  · exact cu_abs l 1 0 a 1 h.pos (.inl ⟨by omega, by omega⟩)
theorem conv_all (a : Int) (l : List Int) (h : Tail l) : conv 0 1 1 0 (a :: l) = out (cu 0 1 1 0 (a :: l)) := by
  have e1 : a * 1 + 0 = a := by omega
  have e2 : a * 0 + 1 = 1 := by omega
  have hf := cu_first' a l h
  unfold conv cu
  rw [e1, e2]
  split
  · rw [out_no (by omega)]
  · split
    · rw [out_no (by omega)]
    · by_cases ha : 0 ≤ a
      · exact conv_same l 1 0 a 1 h.pos (by omega) (by omega) (.inl ⟨by omega, by omega⟩) (by omega) (by omega)
      · cases l with
        | nil => unfold conv cu out; rw [if_pos ⟨by show a.natAbs ≤ _; omega, by show (1 : Int) ≤ _; decide⟩]
        | cons b l =>
          have hb := h.pos b (by simp)
          have hm : b * a ≤ 1 * a := Int.mul_le_mul_of_nonpos_right hb (by omega)
          have hl : ∀ x ∈ l, 1 ≤ x := fun x hx => h.pos x (by simp [hx])
          have hs : (0 ≤ a ∧ 0 ≤ b * a + 1) ∨ (a ≤ 0 ∧ b * a + 1 ≤ 0) := .inr ⟨by omega, by omega⟩
          have hP := cu_abs l a 1 (b * a + 1) (b * 1 + 0) hl hs
          have hQ := cu_q l a 1 (b * a + 1) (b * 1 + 0) hl (by omega) (by omega)
          unfold conv cu
          split
          · rw [out_no (by omega)]
          · split
            · rw [out_no (by omega)]
            · exact conv_same l a 1 _ _ hl (by omega) (by omega) hs (by omega) (by omega)
/-- the determinant stays -/
theorem cu_gcd : ∀ (l : List Int) (p0 q0 p1 q1 : Int), (p1 * q0 - p0 * q1 = 1 ∨ p1 * q0 - p0 * q1 = -1) → Int.gcd (cu p0 q0 p1 q1 l).1 (cu p0 q0 p1 q1 l).2 = 1
  | [], p0, q0, p1, q1, h => by
    unfold cu
    show Int.gcd p1 q1 = 1
    have h1 : (Int.gcd p1 q1 : Int) ∣ p1 := Int.gcd_dvd_left _ _
    have h2 : (Int.gcd p1 q1 : Int) ∣ q1 := Int.gcd_dvd_right _ _
    have h3 : (Int.gcd p1 q1 : Int) ∣ p1 * q0 - p0 * q1 := Int.dvd_sub (Int.dvd_mul_of_dvd_left h1) (Int.dvd_mul_of_dvd_right h2)
    have h4 : (Int.gcd p1 q1 : Int) ∣ 1 := by
      rcases h with h | h
      · rw [h] at h3; exact h3
      · rw [h] at h3; exact (Int.dvd_neg).1 h3
    have h5 := Int.natAbs_dvd_natAbs.2 h4
    simpa using h5
  | a :: l, p0, q0, p1, q1, h => by
    unfold cu
    refine cu_gcd l _ _ _ _ ?_
    have e : (a * p1 + p0) * q1 - p1 * (a * q1 + q0) = -(p1 * q0 - p0 * q1) := by grind
    omega
theorem val_pos : ∀ (l : List Int), l ≠ [] → (∀ a ∈ l, 1 ≤ a) → 0 < val l
  | [], h, _ => absurd rfl h
  | [a], _, h => by
    have := h a (by simp)
    unfold val
    exact Rat.intCast_pos.2 (by omega)
  | a :: b :: l, _, h => by
    have ha := h a (by simp)
    have h1 := val_pos (b :: l) (by simp) (fun x hx => h x (by simp [hx]))
    have h2 : (0 : Rat) < (a : Rat) := Rat.intCast_pos.2 (by omega)
    have h3 : 0 < (val (b :: l))⁻¹ := Rat.inv_pos.2 h1
    unfold val
    rw [Rat.div_def, Rat.one_mul]
    grind
theorem cu_val : ∀ (l : List Int) (p0 q0 p1 q1 : Int), l ≠ [] → (∀ a ∈ l, 1 ≤ a) →
    ((cu p0 q0 p1 q1 l).1 : Rat) * ((q1 : Rat) * val l + (q0 : Rat)) = ((cu p0 q0 p1 q1 l).2 : Rat) * ((p1 : Rat) * val l + (p0 : Rat))
  | [], _, _, _, _, h, _ => absurd rfl h
  | [a], p0, q0, p1, q1, _, _ => by
    unfold cu cu val
    simp only [Rat.intCast_add, Rat.intCast_mul]
    grind
  | a :: b :: l, p0, q0, p1, q1, _, h => by
    have ih := cu_val (b :: l) p1 q1 (a * p1 + p0) (a * q1 + q0) (by simp) (fun x hx => h x (by simp [hx]))
    have ht := val_pos (b :: l) (by simp) (fun x hx => h x (by simp [hx]))
    have e1 : val (a :: b :: l) = (a : Rat) + 1 / val (b :: l) := by conv => lhs; unfold val
    have e2 : cu p0 q0 p1 q1 (a :: b :: l) = cu p1 q1 (a * p1 + p0) (a * q1 + q0) (b :: l) := by conv => lhs; unfold cu
    rw [e1, e2]
    generalize cu p1 q1 (a * p1 + p0) (a * q1 + q0) (b :: l) = c at *
    generalize val (b :: l) = t at *
    simp only [Rat.intCast_add, Rat.intCast_mul] at ih
    have h0 : t ≠ 0 := by intro h0; rw [h0] at ht; exact absurd ht (by decide)
    have h1 : t * (1 / t) = 1 := by rw [Rat.div_def, Rat.one_mul]; exact Rat.mul_inv_cancel _ h0
    generalize 1 / t = u at *
    grind
theorem val_rat (a : Int) (l : List Int) (h : Tail l) : val (a :: l) = rat (cu 1 0 a 1 l).1 (cu 1 0 a 1 l).2 ∧ 1 ≤ (cu 1 0 a 1 l).2 := by
  have hQ := cu_q l 1 0 a 1 h.pos (by omega) (by omega)
  refine ⟨?_, hQ⟩
  have hq := cast_ne hQ
  cases l with
  | nil =>
    unfold val cu rat
    rw [show ((1 : Int) : Rat) = 1 from rfl, Rat.div_def]
    grind
  | cons b l =>
    have hv := cu_val (b :: l) 1 0 a 1 (by simp) h.pos
    have ht := val_pos (b :: l) (by simp) h.pos
    have e1 : val (a :: b :: l) = (a : Rat) + 1 / val (b :: l) := by conv => lhs; unfold val
    rw [e1]
    unfold rat
    generalize cu 1 0 a 1 (b :: l) = c at *
    generalize val (b :: l) = t at *
    have h0 : t ≠ 0 := by intro h0; rw [h0] at ht; exact absurd ht (by decide)
    rw [show ((1 : Int) : Rat) = 1 from rfl, show ((0 : Int) : Rat) = 0 from rfl] at hv
    grind
/-- the law -/
theorem conv_ans (a : Int) (l : List Int) (h : Tail l) : conv 0 1 1 0 (a :: l) = ans (val (a :: l)) := by
  obtain ⟨hv, hQ⟩ := val_rat a l h
  have hg := cu_gcd l 1 0 a 1 (by omega)
  have e1 : a * 1 + 0 = a := by omega
  have e2 : a * 0 + 1 = 1 := by omega
  have e3 : cu 0 1 1 0 (a :: l) = cu 1 0 a 1 l := by
    show cu 1 0 (a * 1 + 0) (a * 0 + 1) l = _
    rw [e1, e2]
  rw [conv_all a l h, e3, hv]
  generalize cu 1 0 a 1 l = c at *
  obtain ⟨h1, h2⟩ := rat_one (n := c.1) hQ hg
  unfold out
  by_cases hc : c.1.natAbs ≤ 1000000000 ∧ c.2 ≤ 1000000000
  · rw [if_pos hc, ans_yes ⟨by rw [h1]; exact hc.1, by omega⟩, h1, h2]
  · rw [if_neg hc, ans_no]
    intro hq
    exact hc ⟨by rw [← h1]; exact hq.1, by have := hq.2; omega⟩
end Cf
end Go.Proofs.Ythkoblnfeebafaa
