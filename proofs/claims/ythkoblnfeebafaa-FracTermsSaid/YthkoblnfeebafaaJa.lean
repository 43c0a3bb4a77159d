/- Plain law of the continued fraction. No conditions. -/
import Derived.Test.YthkoblnfeebafaaTb
import Derived.Test.YthkoblnfeebafaaGa
namespace Go.Proofs.Ythkoblnfeebafaa

namespace Cf
/-- l is the continued fraction of n/d -/
def fr : Int → Int → List Int → Prop
  | _, _, [] => False
  | n, d, q :: t => q = n / d ∧ ((n % d = 0 ∧ t = []) ∨ (n % d ≠ 0 ∧ fr d (n % d) t))
theorem fr_same : ∀ (l m : List Int) (n d : Int), fr n d l → fr n d m → l = m
  | [], _, _, _, h, _ => by unfold fr at h; exact h.elim
  | _ :: _, [], _, _, _, h => by unfold fr at h; exact h.elim
  | q :: t, q' :: t', n, d, h, h' => by
    unfold fr at h h'
    obtain ⟨rfl, h⟩ := h
    obtain ⟨rfl, h'⟩ := h'
    rcases h with ⟨h0, rfl⟩ | ⟨h0, h⟩ <;> rcases h' with ⟨h1, rfl⟩ | ⟨h1, h'⟩
    · rfl
    · exact absurd h0 h1
    · exact absurd h1 h0
    · rw [fr_same t t' _ _ h h']
theorem fr_len : ∀ (k : Nat) (n d : Int) (l : List Int), 1 ≤ d → d < 2 ^ k → fr n d l → l.length ≤ 2 * k
  | 0, _, _, _, h1, h2, _ => by simp at h2; omega
  | _ + 1, _, _, [], _, _, h => by unfold fr at h; exact h.elim
  | k + 1, n, d, [q], _, _, _ => by simp; omega
  | k + 1, n, d, [q, q2], _, _, _ => by simp; omega
  | k + 1, n, d, q :: q2 :: q3 :: t, h1, h2, h => by
    unfold fr at h
    obtain ⟨_, ⟨_, h⟩ | ⟨h0, h⟩⟩ := h
    · cases h
    · unfold fr at h
      have r1 := Int.emod_nonneg n (show d ≠ 0 by omega)
      have r2 := Int.emod_lt_of_pos n (show 0 < d by omega)
      obtain ⟨_, ⟨_, h⟩ | ⟨h3, h⟩⟩ := h
      · cases h
      · generalize n % d = r at *
        have s1 := Int.emod_nonneg d (show r ≠ 0 by omega)
        have s2 := Int.emod_lt_of_pos d (show 0 < r by omega)
        have e1 := Int.mul_ediv_add_emod d r
        have e2 : 1 ≤ d / r := (Int.le_ediv_iff_mul_le (by omega)).2 (by omega)
        have e3 : r * 1 ≤ r * (d / r) := Int.mul_le_mul_of_nonneg_left e2 (by omega)
        have e4 : (2 : Int) ^ (k + 1) = 2 * 2 ^ k := by rw [Int.pow_succ, Int.mul_comm]
        have := fr_len k r (d % r) (q3 :: t) (by omega) (by omega) h
        simp at this ⊢
        omega
theorem fr_tail : ∀ (t : List Int) (d r : Int), 1 ≤ r → r < d → fr d r t → Tail t
  | [], _, _, _, _, h => by unfold fr at h; exact h.elim
  | [a], d, r, h1, h2, h => by
    unfold fr at h
    obtain ⟨rfl, ⟨h0, _⟩ | ⟨_, h⟩⟩ := h
    · unfold Tail
      have e1 := Int.mul_ediv_add_emod d r
      refine Int.not_lt.1 fun hlt => ?_
      have e3 : r * (d / r) ≤ r * 1 := Int.mul_le_mul_of_nonneg_left (by omega) (by omega)
      omega
    · unfold fr at h; exact h.elim
  | a :: b :: t, d, r, h1, h2, h => by
    unfold fr at h
    obtain ⟨rfl, ⟨_, h⟩ | ⟨h0, h⟩⟩ := h
    · cases h
    · unfold Tail
      have s1 := Int.emod_nonneg d (show r ≠ 0 by omega)
      have s2 := Int.emod_lt_of_pos d (show 0 < r by omega)
      exact ⟨(Int.le_ediv_iff_mul_le (by omega)).2 (by omega), fr_tail (b :: t) r (d % r) (by omega) s2 h⟩
theorem Tail.last : ∀ {t : List Int}, Tail t → ∀ (i : Nat) (hi : i < t.length), i + 1 = t.length → 2 ≤ t[i]
  | [], _, i, hi, _ => by simp at hi
  | [a], h, i, hi, he => by
    unfold Tail at h
    have : i = 0 := by simp at he; omega
    subst this; simpa using h
  | a :: b :: t, h, i, hi, he => by
    unfold Tail at h
    cases i with
    | zero => simp at he
    | succ i =>
      have := Tail.last h.2 i (by simpa using hi) (by simpa using he)
      simpa using this
theorem fr_val : ∀ (l : List Int) (n d : Int), 1 ≤ d → fr n d l → val l = rat n d
  | [], _, _, _, h => by unfold fr at h; exact h.elim
  | [q], n, d, h1, h => by
    unfold fr at h
    obtain ⟨rfl, ⟨h0, _⟩ | ⟨_, h⟩⟩ := h
    · have e1 := Int.mul_ediv_add_emod n d
      have e2 := cast_ne h1
      have e3 : n = d * (n / d) := by omega
      unfold val
      generalize n / d = q at *
      subst e3
      unfold rat
      rw [Rat.intCast_mul]
      grind
    · unfold fr at h; exact h.elim
  | q :: b :: t, n, d, h1, h => by
    unfold fr at h
    obtain ⟨rfl, ⟨_, h⟩ | ⟨h0, h⟩⟩ := h
    · cases h
    · have s1 := Int.emod_nonneg n (show d ≠ 0 by omega)
      have e1 := Int.mul_ediv_add_emod n d
      have ih := fr_val (b :: t) d (n % d) (by omega) h
      unfold val
      rw [ih]
      generalize n / d = q at *
      have e2 := cast_ne h1
      have e3 := cast_ne (show 1 ≤ n % d by omega)
      generalize n % d = r at *
      subst e1
      unfold rat
      rw [Rat.intCast_add, Rat.intCast_mul]
      grind
theorem fr_bd : ∀ (l : List Int) (n d B : Int), 1 ≤ d → d ≤ B → -B ≤ n → n ≤ B → fr n d l → ∀ x ∈ l, -B ≤ x ∧ x ≤ B
  | [], _, _, _, _, _, _, _, h, _, _ => by unfold fr at h; exact h.elim
  | q :: t, n, d, B, h1, h2, h3, h4, h, x, hx => by
    unfold fr at h
    obtain ⟨rfl, h⟩ := h
    rcases List.mem_cons.1 hx with rfl | hx
    · exact div_bd h1 h3 h4 (by omega)
    · rcases h with ⟨_, rfl⟩ | ⟨h0, h⟩
      · simp at hx
      · have s1 := Int.emod_nonneg n (show d ≠ 0 by omega)
        have s2 := Int.emod_lt_of_pos n (show 0 < d by omega)
        exact fr_bd t d (n % d) B (by omega) (by omega) (by omega) h2 h x hx
end Cf
/-- FromTerms of the terms is the fraction -/
theorem fr_ft {n D : Int} {l : List Int} (hv : Vld n D) (h : Cf.fr n D l) : ftA l = (n, D, 0) := by
  have hlen : ¬ 64 < l.length := by
    have := Cf.fr_len 30 n D l hv.1 (by have := hv.2.1; omega) h
    omega
  have hbad : ¬ (Bad l ∨ l = []) := by
    match l, h with
    | [], h => unfold Cf.fr at h; exact h.elim
    | q :: t, h =>
      rintro (⟨i, hi, h0, hb⟩ | hb)
      · unfold Cf.fr at h
        obtain ⟨_, ⟨_, rfl⟩ | ⟨h3, h⟩⟩ := h
        · simp at hi; omega
        · have s1 := Int.emod_nonneg n (show D ≠ 0 by have := hv.1; omega)
          have s2 := Int.emod_lt_of_pos n (show 0 < D by have := hv.1; omega)
          have ht := Cf.fr_tail t D (n % D) (by omega) s2 h
          obtain ⟨j, rfl⟩ : ∃ j, i = j + 1 := ⟨i - 1, by omega⟩
          have hj : j < t.length := by simpa using hi
          simp only [List.getElem_cons_succ] at hb
          have p1 := ht.pos t[j] (List.getElem_mem hj)
          rcases hb with hb | ⟨hb, he⟩
          · omega
          · have := Cf.Tail.last ht j hj (by simpa using he)
            omega
      · cases hb
  rw [← rtA_ftA, rtA_ok hlen hbad, Cf.fr_val l n D hv.1 h, ans_rat (vldB_yes hv)]
end Go.Proofs.Ythkoblnfeebafaa
