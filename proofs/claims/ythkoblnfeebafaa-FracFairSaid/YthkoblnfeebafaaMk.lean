/- Plain law of the stable sort's blocks. No conditions. -/
import Derived.Test.YthkoblnfeebafaaMe
namespace Go.Proofs.Ythkoblnfeebafaa

/-- blocks of t up to a, of s from there on: each block holds its own numbers, in order -/
def Pm (s t a n : Nat) (K : Int → Int) (d : Nat → Int) : Prop :=
  (∀ k, k < n → 0 ≤ d k ∧ d k < n ∧ (k < a → (d k).toNat / t = k / t) ∧ (a ≤ k → (d k).toNat / s = k / s)) ∧
  (∀ i j, i < j → j < n → (j < a → i / t = j / t → Bf K (d i) (d j)) ∧ (a ≤ i → i / s = j / s → Bf K (d i) (d j)))
theorem Pm.id (t n : Nat) (K : Int → Int) {d : Nat → Int} (h : ∀ k, k < n → d k = k) : Pm 1 t 0 n K d :=
  ⟨fun k hk => ⟨by rw [h k hk]; omega, by rw [h k hk]; omega, fun h => by omega, fun _ => by rw [h k hk]; simp⟩, fun i j h1 h2 => ⟨fun h => by omega, fun _ h3 => by rw [Nat.div_one, Nat.div_one] at h3; omega⟩⟩
/-- two blocks (or what is left of them) become one -/
theorem Pm.step {s t a c n : Nat} {K : Int → Int} {d d' : Nat → Int} (h : Pm s t a n K d) (hst : (s = 1 ∧ t = 20) ∨ (s = 20 ∧ t = 40) ∨ (s = 40 ∧ t = 80)) (ha : a % t = 0) (hac : a ≤ c) (hc : (c = a + t ∧ c ≤ n) ∨ (c = n ∧ n ≤ a + t)) (hw : Sws a c d d') (hs : Sd K d' a c) :
    Pm s t c n K d' := by
  obtain ⟨h1, h2⟩ := h
  have ho : ∀ k, k < a ∨ c ≤ k → d' k = d k := fun k hk => hw.outside hk
  have hin : ∀ k, a ≤ k → k < c → 0 ≤ d' k ∧ d' k < n ∧ (d' k).toNat / t = a / t := hw.all (P := fun v => 0 ≤ v ∧ v < n ∧ v.toNat / t = a / t) (fun k k1 k2 => by
    obtain ⟨x1, x2, x3, x4⟩ := h1 k (by omega)
    refine ⟨x1, x2, ?_⟩
    have := x4 k1
    rcases hst with ⟨rfl, rfl⟩ | ⟨rfl, rfl⟩ | ⟨rfl, rfl⟩ <;> omega)
  refine ⟨fun k hk => ?_, fun i j hij hj => ?_⟩
  · by_cases h3 : k < a
    · rw [ho k (.inl h3)]
      obtain ⟨x1, x2, x3, x4⟩ := h1 k hk
      exact ⟨x1, x2, fun _ => x3 h3, fun h => by omega⟩
    · by_cases h4 : k < c
      · obtain ⟨x1, x2, x3⟩ := hin k (by omega) h4
        refine ⟨x1, x2, fun _ => ?_, fun h => by omega⟩
        rw [x3]
        rcases hst with ⟨rfl, rfl⟩ | ⟨rfl, rfl⟩ | ⟨rfl, rfl⟩ <;> omega
      · rw [ho k (.inr (by omega))]
        obtain ⟨x1, x2, x3, x4⟩ := h1 k hk
        exact ⟨x1, x2, fun h => by omega, fun _ => x4 (by omega)⟩
  · refine ⟨fun hjc he => ?_, fun hi he => ?_⟩
    · by_cases h3 : j < a
      · rw [ho i (.inl (by omega)), ho j (.inl h3)]; exact (h2 i j hij hj).1 h3 he
      · by_cases h4 : i < a
        · exfalso
          rcases hst with ⟨rfl, rfl⟩ | ⟨rfl, rfl⟩ | ⟨rfl, rfl⟩ <;> omega
        · exact hs i j (by omega) hij hjc
    · rw [ho i (.inr hi), ho j (.inr (by omega))]; exact (h2 i j hij hj).2 (by omega) he
/-- what a merge of two neighbouring blocks asks -/
theorem Pm.merge {s t a m c n : Nat} {K : Int → Int} {d : Nat → Int} (h : Pm s t a n K d) (hst : (s = 20 ∧ t = 40) ∨ (s = 40 ∧ t = 80)) (ha : a % t = 0) (hm : m = a + s) (hmc : m < c) (hc : c ≤ a + t) (hcn : c ≤ n) :
    (∀ i, a ≤ i → i < c → 0 ≤ d i ∧ d i < n) ∧ Sd K d a m ∧ Sd K d m c ∧ (∀ i j, a ≤ i → i < m → m ≤ j → j < c → d i < d j) := by
  obtain ⟨h1, h2⟩ := h
  refine ⟨fun i i1 i2 => ⟨(h1 i (by omega)).1, (h1 i (by omega)).2.1⟩, fun i j i1 i2 i3 => (h2 i j i2 (by omega)).2 i1 ?_, fun i j i1 i2 i3 => (h2 i j i2 (by omega)).2 (by omega) ?_, fun i j i1 i2 j1 j2 => ?_⟩
  · rcases hst with ⟨rfl, rfl⟩ | ⟨rfl, rfl⟩ <;> omega
  · rcases hst with ⟨rfl, rfl⟩ | ⟨rfl, rfl⟩ <;> omega
  · obtain ⟨x1, x2, x3, x4⟩ := h1 i (by omega)
    obtain ⟨y1, y2, y3, y4⟩ := h1 j (by omega)
    have e1 := x4 i1
    have e2 := y4 (by omega)
    rcases hst with ⟨rfl, rfl⟩ | ⟨rfl, rfl⟩ <;> omega
/-- what the insertion sort of a block asks -/
theorem Pm.rise {t a c n : Nat} {K : Int → Int} {d : Nat → Int} (h : Pm 1 t a n K d) (hcn : c ≤ n) : (∀ i, a ≤ i → i < c → 0 ≤ d i ∧ d i < n) ∧ (∀ i j, a ≤ i → i < j → j < c → d i < d j) := by
  obtain ⟨h1, h2⟩ := h
  refine ⟨fun i i1 i2 => ⟨(h1 i (by omega)).1, (h1 i (by omega)).2.1⟩, fun i j i1 i2 i3 => ?_⟩
  have e1 := (h1 i (by omega)).2.2.2 i1
  have e2 := (h1 j (by omega)).2.2.2 (by omega)
  rw [Nat.div_one, Nat.div_one] at e1 e2
  omega
/-- the next size -/
theorem Pm.next {s t u n : Nat} {K : Int → Int} {d : Nat → Int} (h : Pm s t n n K d) : Pm t u 0 n K d :=
  ⟨fun k hk => ⟨(h.1 k hk).1, (h.1 k hk).2.1, fun h => by omega, fun _ => (h.1 k hk).2.2.1 hk⟩, fun i j h1 h2 => ⟨fun h => by omega, fun _ he => (h.2 i j h1 h2).1 h2 he⟩⟩
theorem Pm.done {s t n : Nat} {K : Int → Int} {d : Nat → Int} (h : Pm s t 0 n K d) (hn : n ≤ s) : Sd K d 0 n := fun i j _ h1 h2 =>
  (h.2 i j h1 h2).2 (Nat.zero_le _) (by rw [Nat.div_eq_of_lt (by omega), Nat.div_eq_of_lt (by omega)])
end Go.Proofs.Ythkoblnfeebafaa
