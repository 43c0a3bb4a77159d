/- Plain laws for FracBack. -/
import Derived.Test.YthkoblnfeebafaaFo
namespace Go.Proofs.Ythkoblnfeebafaa
open Go.RowKit

theorem two_ok {an ad bn bd : Int} {q : Rat} (h : (two an ad bn bd q).2.2 = 0) : vldB an ad = true ∧ vldB bn bd = true ∧ InQ q ∧ two an ad bn bd q = (q.num, (q.den : Int), 0) := by
  unfold two at *
  by_cases hv : (vldB an ad && vldB bn bd) = true
  · rw [if_pos hv] at h ⊢
    by_cases hq : InQ q
    · rw [ans_yes hq]
      rw [Bool.and_eq_true] at hv
      exact ⟨hv.1, hv.2, hq, rfl⟩
    · rw [ans_no hq] at h
      exact absurd h (by decide)
  · rw [if_neg hv] at h
    exact absurd h (by decide)
theorem rat_self (q : Rat) : rat q.num (q.den : Int) = q := by
  unfold rat
  rw [Rat.intCast_natCast, ← Rat.mkRat_eq_div, Rat.mkRat_self]
theorem vld_q {q : Rat} (h : InQ q) : vldB q.num (q.den : Int) = true := by
  have h1 := q.den_pos
  obtain ⟨h2, h3⟩ := h
  refine decide_eq_true ⟨by omega, by omega, by omega, by omega, ?_⟩
  have := q.reduced
  exact this
theorem isI_q {q : Rat} (h : InQ q) : IsI q.num ∧ IsI (q.den : Int) := by
  obtain ⟨h2, h3⟩ := h
  exact ⟨⟨by omega, by omega⟩, ⟨by omega, by omega⟩⟩
theorem ans_rat {n d : Int} (h : vldB n d = true) : ans (rat n d) = (n, d, 0) := by
  obtain ⟨h1, h2, h3, h4, h5⟩ := of_decide_eq_true h
  obtain ⟨e1, e2⟩ := rat_one (n := n) h1 h5
  rw [ans_yes (rat_inq h1 h2 h3 h4), e1, e2]

theorem back_add {an ad bn bd : Int} {x : Int × Int × Int} (hx : two an ad bn bd (rat an ad + rat bn bd) = x) (h : x.2.2 = 0) :
    IsI x.1 ∧ IsI x.2.1 ∧ two x.1 x.2.1 bn bd (rat x.1 x.2.1 - rat bn bd) = (an, ad, 0) := by
  subst hx
  obtain ⟨h1, h2, h3, h4⟩ := two_ok h
  rw [h4]
  refine ⟨(isI_q h3).1, (isI_q h3).2, ?_⟩
  show two _ _ bn bd (rat _ _ - _) = _
  rw [rat_self]
  unfold two
  rw [if_pos (by rw [vld_q h3, h2]; rfl), show rat an ad + rat bn bd - rat bn bd = rat an ad by grind, ans_rat h1]
theorem back_mul {an ad bn bd : Int} {x : Int × Int × Int} (hx : two an ad bn bd (rat an ad * rat bn bd) = x) (h : x.2.2 = 0) (hb : bn ≠ 0) :
    IsI x.1 ∧ IsI x.2.1 ∧ divA x.1 x.2.1 bn bd = (an, ad, 0) := by
  subst hx
  obtain ⟨h1, h2, h3, h4⟩ := two_ok h
  rw [h4]
  refine ⟨(isI_q h3).1, (isI_q h3).2, ?_⟩
  unfold divA
  show (if _ then if _ then _ else ans (rat _ _ / _) else _) = _
  rw [rat_self]
  have hn := rat_ne hb (of_decide_eq_true h2).1
  rw [if_pos (by rw [vld_q h3, h2]; rfl), if_neg hb, show rat an ad * rat bn bd / rat bn bd = rat an ad by grind, ans_rat h1]
theorem back_cmp {an ad bn bd : Int} {x : Int × Int × Int} (hx : two an ad bn bd (rat an ad - rat bn bd) = x) (h : x.2.2 = 0) :
    cmpA an ad bn bd = (x.1.sign, 0) := by
  subst hx
  obtain ⟨h1, h2, h3, h4⟩ := two_ok h
  rw [h4]
  unfold cmpA
  rw [if_pos (by rw [h1, h2]; rfl)]
theorem back_neg {n d : Int} {x : Int × Int × Int} (hx : negA n d = x) (h : x.2.2 = 0) : IsI x.1 ∧ IsI x.2.1 ∧ negA x.1 x.2.1 = (n, d, 0) := by
  subst hx
  unfold negA at *
  by_cases hv : vldB n d = true
  · rw [if_pos hv]
    obtain ⟨h1, h2, h3, h4, h5⟩ := of_decide_eq_true hv
    have hv' : vldB (-n) d = true := decide_eq_true ⟨h1, h2, by omega, by omega, by rw [Int.neg_gcd]; exact h5⟩
    refine ⟨⟨by show _ ≤ -n; omega, by show -n ≤ _; omega⟩, ⟨by show _ ≤ d; omega, by show d ≤ _; omega⟩, ?_⟩
    show (if vldB (-n) d = true then (- -n, d, (0 : Int)) else _) = _
    rw [if_pos hv', Int.neg_neg]
  · rw [if_neg hv] at h
    exact absurd h (by decide)
end Go.Proofs.Ythkoblnfeebafaa
