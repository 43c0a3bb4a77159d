/- Plain law of the library's merge in place. No conditions. -/
import Derived.Test.YthkoblnfeebafaaMc
namespace Go.Proofs.Ythkoblnfeebafaa

theorem rot_lo {d : Nat → Int} {a m c k : Nat} (h1 : a ≤ k) (h2 : k < a + (c - m)) : rot d a m c k = d (k + (m - a)) := by
  unfold rot; rw [if_pos ⟨h1, h2⟩]
theorem rot_hi {d : Nat → Int} {a m c k : Nat} (h1 : a + (c - m) ≤ k) (h2 : k < c) : rot d a m c k = d (k - (c - m)) := by
  unfold rot; rw [if_neg (by omega), if_pos ⟨h1, h2⟩]
theorem rot_out {d : Nat → Int} {a m c k : Nat} (h : k < a ∨ c ≤ k) (h2 : m ≤ c) (h3 : a ≤ m) : rot d a m c k = d k := by
  unfold rot; rw [if_neg (by omega), if_neg (by omega)]
theorem Sws_rot'' (d : Nat → Int) {a m c : Nat} (h1 : a ≤ m) (h2 : m ≤ c) : Sws a c d (rot d a m c) := by
  by_cases h : a = m ∨ m = c
  · rw [rot_triv h h1 h2]; exact .refl _
  · exact Sws_rot' d (by omega) (by omega)
theorem Sd.mono {K : Int → Int} {d : Nat → Int} {a b a' b' : Nat} (h : Sd K d a b) (ha : a ≤ a') (hb : b' ≤ b) : Sd K d a' b' := fun i j i1 i2 i3 => h i j (by omega) i2 (by omega)
theorem Sd.eq {K : Int → Int} {d d' : Nat → Int} {a b : Nat} (h : Sd K d a b) (he : ∀ k, a ≤ k → k < b → d' k = d k) : Sd K d' a b := fun i j i1 i2 i3 => by
  rw [he i i1 (by omega), he j (by omega) i3]; exact h i j i1 i2 i3

/-- the first of one is put into its place in the rest -/
theorem put_first {K : Int → Int} {d : Nat → Int} {a c i : Nat} (h2 : Sd K d (a + 1) c) (hi1 : a + 1 ≤ i) (hi2 : i ≤ c) (hl : ∀ h, a + 1 ≤ h → h < i → Bf K (d h) (d a)) (hr : ∀ h, i ≤ h → h < c → Bf K (d a) (d h)) :
    Sd K (rot d a (a + 1) i) a c := by
  have e1 : ∀ k, a ≤ k → k + 1 < i → rot d a (a + 1) i k = d (k + 1) := fun k k1 k2 => by rw [rot_lo k1 (by omega)]; congr 1; omega
  have e2 : rot d a (a + 1) i (i - 1) = d a := by rw [rot_hi (by omega) (by omega)]; congr 1; omega
  have e3 : ∀ k, i ≤ k → rot d a (a + 1) i k = d k := fun k k1 => rot_out (by omega) (by omega) (by omega)
  intro x y x1 x2 x3
  rcases Nat.lt_trichotomy (x + 1) i with hx | hx | hx
  · rw [e1 x x1 hx]
    rcases Nat.lt_trichotomy (y + 1) i with hy | hy | hy
    · rw [e1 y (by omega) hy]; exact h2 _ _ (by omega) (by omega) (by omega)
    · rw [show y = i - 1 by omega, e2]; exact hl _ (by omega) (by omega)
    · rw [e3 y (by omega)]; exact (hl _ (by omega) (by omega)).trans (hr y (by omega) x3)
  · rw [show x = i - 1 by omega, e2, e3 y (by omega)]; exact hr y (by omega) x3
  · rw [e3 x (by omega), e3 y (by omega)]; exact h2 x y (by omega) x2 x3
/-- the last of one is put into its place in the rest -/
theorem put_last {K : Int → Int} {d : Nat → Int} {a m i : Nat} (h1 : Sd K d a m) (hi1 : a ≤ i) (hi2 : i ≤ m) (hl : ∀ h, a ≤ h → h < i → Bf K (d h) (d m)) (hr : ∀ h, i ≤ h → h < m → Bf K (d m) (d h)) :
    Sd K (rot d i m (m + 1)) a (m + 1) := by
  have e1 : ∀ k, k < i → rot d i m (m + 1) k = d k := fun k k1 => rot_out (by omega) (by omega) (by omega)
  have e2 : rot d i m (m + 1) i = d m := by rw [rot_lo (by omega) (by omega)]; congr 1; omega
  have e3 : ∀ k, i < k → k < m + 1 → rot d i m (m + 1) k = d (k - 1) := fun k k1 k2 => by rw [rot_hi (by omega) (by omega)]; congr 1; omega
  intro x y x1 x2 x3
  rcases Nat.lt_trichotomy x i with hx | hx | hx
  · rw [e1 x hx]
    rcases Nat.lt_trichotomy y i with hy | hy | hy
    · rw [e1 y hy]; exact h1 x y x1 x2 (by omega)
    · rw [hy, e2]; exact hl x x1 hx
    · rw [e3 y hy x3]; exact (hl x x1 hx).trans (hr _ (by omega) (by omega))
  · rw [hx, e2, e3 y (by omega) x3]; exact hr _ (by omega) (by omega)
  · rw [e3 x hx (by omega), e3 y (by omega) x3]; exact h1 _ _ (by omega) (by omega) (by omega)

/-- where the halves part: behind the change of the two middle ranges the lower half stands before the upper one -/
theorem halves {K : Int → Int} {d : Nat → Int} {a m c s e p : Nat} (h1 : Sd K d a m) (h2 : Sd K d m c) (hlt : ∀ i j, a ≤ i → i < m → m ≤ j → j < c → d i < d j)
    (s1 : a ≤ s) (s2 : s ≤ m) (e1 : m ≤ e) (e2 : e ≤ c) (hp : p + m = s + e) (hlo : s < m → m < e → Bf K (d (e - 1)) (d s)) (hhi : a < s → e < c → Bf K (d (s - 1)) (d e)) :
    let d' := rot d s m e
    (Sd K d' a s ∧ Sd K d' s p ∧ Sd K d' p e ∧ Sd K d' e c) ∧ (∀ i j, a ≤ i → i < s → s ≤ j → j < p → d' i < d' j) ∧ (∀ i j, p ≤ i → i < e → e ≤ j → j < c → d' i < d' j) ∧
      (∀ i j, a ≤ i → i < p → p ≤ j → j < c → Bf K (d' i) (d' j)) := by
  intro d'
  have q1 : ∀ k, k < s → d' k = d k := fun k k1 => rot_out (by omega) e1 s2
  have q2 : ∀ k, s ≤ k → k < p → d' k = d (k + (m - s)) := fun k k1 k2 => rot_lo k1 (by omega)
  have q3 : ∀ k, p ≤ k → k < e → d' k = d (k - (e - m)) := fun k k1 k2 => rot_hi (by omega) k2
  have q4 : ∀ k, e ≤ k → d' k = d k := fun k k1 => rot_out (by omega) e1 s2
  refine ⟨⟨h1.mono (Nat.le_refl _) s2 |>.eq fun k _ k2 => q1 k k2, fun i j i1 i2 i3 => ?_, fun i j i1 i2 i3 => ?_, h2.mono e1 (Nat.le_refl _) |>.eq fun k k1 _ => q4 k k1⟩, fun i j i1 i2 i3 i4 => ?_, fun i j i1 i2 i3 i4 => ?_, fun i j i1 i2 i3 i4 => ?_⟩
  · rw [q2 i i1 (by omega), q2 j (by omega) i3]; exact h2 _ _ (by omega) (by omega) (by omega)
  · rw [q3 i i1 (by omega), q3 j (by omega) i3]; exact h1 _ _ (by omega) (by omega) (by omega)
  · rw [q1 i i2, q2 j i3 i4]; exact hlt _ _ i1 (by omega) (by omega) (by omega)
  · rw [q3 i i1 i2, q4 j i3]; exact hlt _ _ (by omega) (by omega) (by omega) i4
  · have le1 : ∀ x y, a ≤ x → x ≤ y → y < m → x = y ∨ Bf K (d x) (d y) := fun x y x1 x2 x3 => by
      by_cases h : x = y
      · exact .inl h
      · exact .inr (h1 x y x1 (by omega) x3)
    have le2 : ∀ x y, m ≤ x → x ≤ y → y < c → x = y ∨ Bf K (d x) (d y) := fun x y x1 x2 x3 => by
      by_cases h : x = y
      · exact .inl h
      · exact .inr (h2 x y x1 (by omega) x3)
    by_cases hi : i < s
    · rw [q1 i hi]
      by_cases hj : j < e
      · rw [q3 j i3 hj]; exact h1 _ _ i1 (by omega) (by omega)
      · rw [q4 j (by omega)]
        have b := hhi (by omega) (by omega)
        rcases le1 i (s - 1) i1 (by omega) (by omega) with h | h <;> rcases le2 e j e1 (by omega) i4 with h' | h'
        · rw [h, ← h']; exact b
        · rw [h]; exact b.trans h'
        · rw [← h']; exact h.trans b
        · exact h.trans (b.trans h')
    · rw [q2 i (by omega) i2]
      by_cases hj : j < e
      · rw [q3 j i3 hj]
        have b := hlo (by omega) (by omega)
        rcases le2 (i + (m - s)) (e - 1) (by omega) (by omega) (by omega) with h | h <;> rcases le1 s (j - (e - m)) s1 (by omega) (by omega) with h' | h'
        · rw [h, ← h']; exact b
        · rw [h]; exact b.trans h'
        · rw [← h']; exact h.trans b
        · exact h.trans (b.trans h')
      · rw [q4 j (by omega)]; exact h2 _ _ (by omega) (by omega) i4
/-- two halves that are each in order, the lower one before the upper one -/
theorem join_sd {K : Int → Int} {d d1 d2 : Nat → Int} {a p c : Nat} (_hp1 : a ≤ p) (_hp2 : p ≤ c) (hb : ∀ i j, a ≤ i → i < p → p ≤ j → j < c → Bf K (d i) (d j)) (w1 : Sws a p d d1) (s1 : Sd K d1 a p) (w2 : Sws p c d1 d2) (s2 : Sd K d2 p c) :
    Sd K d2 a c := by
  have q : ∀ k, k < p → d2 k = d1 k := fun k k1 => w2.outside (by omega)
  have b1 : ∀ i j, a ≤ i → i < p → p ≤ j → j < c → Bf K (d1 i) (d1 j) := fun i j i1 i2 j1 j2 => by
    rw [w1.outside (k := j) (by omega)]
    exact w1.all (P := fun v => Bf K v (d j)) (fun x x1 x2 => hb x j x1 x2 j1 j2) i i1 i2
  intro x y x1 x2 x3
  by_cases hy : y < p
  · rw [q x (by omega), q y hy]; exact s1 x y x1 x2 hy
  · by_cases hx : x < p
    · rw [q x hx]
      exact w2.all (P := fun v => Bf K (d1 x) v) (fun k k1 k2 => b1 x k x1 hx k1 k2) y (by omega) x3
    · exact s2 x y (by omega) x2 x3
end Go.Proofs.Ythkoblnfeebafaa
