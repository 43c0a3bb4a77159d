/- The reference's simple walked, and joined by induction. Conditions: an interval of rationals whose parts are within the limits. -/
import Derived.Test.YthkoblnfeebafaaHf
import Derived.Test.YthkoblnfeebafaaHg
namespace Go.Proofs.Ythkoblnfeebafaa
open Go.RowKit

theorem Lim.neg {q : Rat} (h : Lim q) : Lim (-q) := by
  unfold Lim
  rw [Rat.neg_num, Rat.neg_den, Int.natAbs_neg]
  exact h
theorem simple_any : ∀ (n : Nat) (a b : Rat) (va vb : Value) (w : World), 2 * (a.den + b.den) + (if b.num < 0 then 1 else 0) ≤ n → Lim a → Lim b → a.num * b.den ≤ b.num * a.den → QAt w va a → QAt w vb b →
    Calls Try.prog 95 #[va, vb] w (RetSQ w a b) := by
  intro n
  induction n with
  | zero => intro a b va vb w hn; have := a.den_pos; omega
  | succ n ih =>
    intro a b va vb w hn la lb hle ha hb
    have hda := den_one a
    have hdb := den_one b
    by_cases h0 : a.num ≤ 0 ∧ 0 ≤ b.num
    · exact simple_zero va vb a b w ha hb h0.1 h0.2
    · by_cases h2 : b.num < 0
      · have h1 : a.num < 0 := by
          refine Int.not_le.1 fun h => ?_
          have m1 : 0 ≤ a.num * b.den := Int.mul_nonneg h (by omega)
          have m2 : b.num * (a.den : Int) < 0 := Int.mul_neg_of_neg_of_pos h2 (by omega)
          omega
        refine simple_neg va vb a b w ha hb h1 h2 (fun va vb W x y => ih (-b) (-a) va vb W ?_ lb.neg la.neg ?_ x y)
        · rw [if_pos h2] at hn
          rw [Rat.neg_num, Rat.neg_den, Rat.neg_den, if_neg (by omega)]
          omega
        · rw [Rat.neg_num, Rat.neg_den, Rat.neg_num, Rat.neg_den, Int.neg_mul, Int.neg_mul]
          omega
      · have h1 : 1 ≤ a.num := by omega
        have h3 : 1 ≤ b.num := by
          refine Int.not_lt.1 fun h => ?_
          have e : b.num = 0 := by omega
          rw [e, Int.zero_mul] at hle
          have m1 : 0 < a.num * b.den := Int.mul_pos (by omega) (by omega)
          omega
        by_cases h4 : a.num % (a.den : Int) = 0
        · exact simple_low va vb a b w ha hb la h1 h3 h4 hle
        · refine simple_up va vb a b w ha hb la lb h1 h3 h4 hle (fun hnx va vb W x y => ?_)
          obtain ⟨d1, d2, d3, d4, d5⟩ := deep_parts hda hdb rfl h4 hle hnx
          generalize a.num / (a.den : Int) = A at *
          obtain ⟨n1, n2⟩ := rat_one d1 (gcd_left (A := A) (gcd_self b))
          obtain ⟨n3, n4⟩ := rat_one d3 (gcd_left (A := A) (gcd_self a))
          have l2 := la.2
          have l4 := lb.2
          refine ih _ _ va vb W ?_ ?_ ?_ ?_ x y
          · rw [n3, if_neg (by omega)]; omega
          · exact ⟨by omega, by omega⟩
          · exact ⟨by omega, by omega⟩
          · rw [n1, n2, n3, n4]; exact d5
end Go.Proofs.Ythkoblnfeebafaa
