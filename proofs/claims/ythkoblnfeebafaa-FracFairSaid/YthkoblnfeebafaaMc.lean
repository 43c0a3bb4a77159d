/- Plain law of the library's stable sort. No conditions. -/
import Derived.Test.YthkoblnfeebafaaMa
namespace Go.Proofs.Ythkoblnfeebafaa

/-- two places changed for each other -/
def sw (d : Nat → Int) (i j : Nat) : Nat → Int := upd (upd d i (d j)) j (d i)
/-- d' comes from d by changing places within [a, b) -/
inductive Sws (a b : Nat) : (Nat → Int) → (Nat → Int) → Prop where
  | refl (d : Nat → Int) : Sws a b d d
  | step {d e : Nat → Int} (i j : Nat) : Sws a b d e → a ≤ i → i < b → a ≤ j → j < b → Sws a b d (sw e i j)
theorem Sws.trans {a b : Nat} {d e f : Nat → Int} (h : Sws a b d e) (k : Sws a b e f) : Sws a b d f := by
  induction k with
  | refl => exact h
  | step i j _ h1 h2 h3 h4 ih => exact .step i j ih h1 h2 h3 h4
theorem Sws.mono {a b a' b' : Nat} {d e : Nat → Int} (h : Sws a b d e) (ha : a' ≤ a) (hb : b ≤ b') : Sws a' b' d e := by
  induction h with
  | refl => exact .refl _
  | step i j _ h1 h2 h3 h4 ih => exact .step i j ih (by omega) (by omega) (by omega) (by omega)
theorem Sws.outside {a b : Nat} {d e : Nat → Int} (h : Sws a b d e) {k : Nat} (hk : k < a ∨ b ≤ k) : e k = d k := by
  induction h with
  | refl => rfl
  | step i j _ h1 h2 h3 h4 ih =>
    unfold sw upd
    rw [if_neg (by omega), if_neg (by omega)]
    exact ih
theorem Sws.all {a b : Nat} {d e : Nat → Int} (h : Sws a b d e) {P : Int → Prop} (hp : ∀ i, a ≤ i → i < b → P (d i)) : ∀ i, a ≤ i → i < b → P (e i) := by
  induction h with
  | refl => exact hp
  | step i j _ h1 h2 h3 h4 ih =>
    intro k k1 k2
    unfold sw upd
    split
    · exact ih i h1 h2
    · split
      · exact ih j h3 h4
      · exact ih k k1 k2
theorem Sws.inj {a b : Nat} {d e : Nat → Int} (h : Sws a b d e) (hp : ∀ i j, a ≤ i → i < b → a ≤ j → j < b → d i = d j → i = j) : ∀ i j, a ≤ i → i < b → a ≤ j → j < b → e i = e j → i = j := by
  induction h with
  | refl => exact hp
  | step x y _ h1 h2 h3 h4 ih =>
    intro i j i1 i2 j1 j2 he
    have key : ∀ (e : Nat → Int) k, sw e x y k = e (if k = y then x else if k = x then y else k) := by
      intro e k
      unfold sw upd
      split
      · rfl
      · split <;> rfl
    rw [key, key] at he
    have h := ih _ _ (by split <;> (try split) <;> omega) (by split <;> (try split) <;> omega) (by split <;> (try split) <;> omega) (by split <;> (try split) <;> omega) he
    split at h <;> split at h <;> (try split at h) <;> (try split at h) <;> omega
theorem Sws_swr (d : Nat → Int) {a c : Nat} : ∀ (k : Nat), a + k ≤ c → Sws a (c + k) d (swr d a c k)
  | 0, _ => by rw [swr_zero]; exact .refl _
  | k + 1, h => by
    rw [← swr_succ (by omega)]
    exact .step (a + k) (c + k) ((Sws_swr d k (by omega)).mono (Nat.le_refl _) (by omega)) (by omega) (by omega) (by omega) (by omega)
theorem Sws_rot : ∀ (g : Nat) (d : Nat → Int) (i j m : Nat), i + j ≤ g → 1 ≤ i → 1 ≤ j → i ≤ m → Sws (m - i) (m + j) d (rot d (m - i) m (m + j))
  | 0, _, _, _, _, h, h1, _, _ => by omega
  | g + 1, d, i, j, m, h, h1, h2, h3 => by
    rcases Nat.lt_trichotomy i j with hij | hij | hij
    · rw [← rot_right hij h3]
      have s1 := (Sws_swr d (a := m - i) (c := m + j - i) i (by omega)).mono (a' := m - i) (b' := m + j) (Nat.le_refl _) (by omega)
      exact s1.trans ((Sws_rot g _ i (j - i) m (by omega) h1 (by omega) h3).mono (Nat.le_refl _) (by omega))
    · subst hij
      rw [← rot_end h3]
      exact (Sws_swr d (a := m - i) (c := m) i (by omega)).mono (Nat.le_refl _) (Nat.le_refl _)
    · rw [← rot_left hij h3]
      have s1 := (Sws_swr d (a := m - i) (c := m) j (by omega)).mono (a' := m - i) (b' := m + j) (Nat.le_refl _) (Nat.le_refl _)
      exact s1.trans ((Sws_rot g _ (i - j) j m (by omega) (by omega) h2 (by omega)).mono (by omega) (Nat.le_refl _))
theorem Sws_rot' (d : Nat → Int) {a m c : Nat} (h1 : a < m) (h2 : m < c) : Sws a c d (rot d a m c) := by
  have := Sws_rot _ d (m - a) (c - m) m (Nat.le_refl _) (by omega) (by omega) (by omega)
  rwa [show m - (m - a) = a by omega, show m + (c - m) = c by omega] at this
theorem rot_triv {d : Nat → Int} {a m c : Nat} (h : a = m ∨ m = c) (h1 : a ≤ m) (h2 : m ≤ c) : rot d a m c = d := by
  funext k
  unfold rot
  repeat' split
  all_goals first | rfl | omega | (congr 1; omega)

/-- x stands before y: the greater key, of equal keys the lower number -/
def Bf (K : Int → Int) (x y : Int) : Prop := K y < K x ∨ (K x = K y ∧ x < y)
theorem Bf.trans {K : Int → Int} {x y z : Int} (h : Bf K x y) (k : Bf K y z) : Bf K x z := by
  unfold Bf at *; omega
theorem Bf.total {K : Int → Int} {x y : Int} (h : ¬ Bf K x y) (hne : x ≠ y) : Bf K y x := by
  unfold Bf at *; omega
theorem Bf.asymm {K : Int → Int} {x y : Int} (h : Bf K x y) : ¬ Bf K y x := by
  unfold Bf at *; omega
/-- the library's test, of a lower number and a higher one -/
theorem Bf.test {K : Int → Int} {x y : Int} (h : x < y) : K x < K y ↔ Bf K y x := by
  unfold Bf; omega
def Sd (K : Int → Int) (d : Nat → Int) (a b : Nat) : Prop := ∀ i j, a ≤ i → i < j → j < b → Bf K (d i) (d j)

/-- the insertion of one element, step by step: it stands at j -/
def Ins (K : Int → Int) (d0 d : Nat → Int) (a i j : Nat) : Prop :=
  Sws a (i + 1) d0 d ∧ a ≤ j ∧ j ≤ i ∧ d j = d0 i ∧ Sd K d a j ∧ Sd K d (j + 1) (i + 1) ∧ (∀ x y, a ≤ x → x < j → j < y → y ≤ i → Bf K (d x) (d y)) ∧ (∀ y, j < y → y ≤ i → Bf K (d j) (d y)) ∧ (∀ x, a ≤ x → x ≤ i → x ≠ j → d x < d0 i)
theorem Ins.start {K : Int → Int} {d : Nat → Int} {a i : Nat} (hs : Sd K d a i) (hi : a ≤ i) (hl : ∀ x, a ≤ x → x < i → d x < d i) : Ins K d d a i i :=
  ⟨.refl _, hi, Nat.le_refl _, rfl, hs, fun x y h1 h2 h3 => by omega, fun x y h1 h2 h3 h4 => by omega, fun y h1 h2 => by omega, fun x h1 h2 h3 => hl x h1 (by omega)⟩
theorem Ins.step {K : Int → Int} {d0 d : Nat → Int} {a i j : Nat} (h : Ins K d0 d a i j) (hj : a < j) (hb : Bf K (d j) (d (j - 1))) : Ins K d0 (sw d j (j - 1)) a i (j - 1) := by
  obtain ⟨s, h1, h2, h3, h4, h5, h6, h7, h8⟩ := h
  have e1 : sw d j (j - 1) (j - 1) = d j := by unfold sw upd; simp
  have e2 : sw d j (j - 1) j = d (j - 1) := by unfold sw upd; rw [if_neg (by omega)]; simp
  have e3 : ∀ k, k ≠ j → k ≠ j - 1 → sw d j (j - 1) k = d k := fun k k1 k2 => by unfold sw upd; rw [if_neg k2, if_neg k1]
  refine ⟨.step j (j - 1) s h1 (by omega) (by omega) (by omega), by omega, by omega, by rw [e1, h3], ?_, ?_, ?_, ?_, ?_⟩
  · intro x y x1 x2 x3
    rw [e3 x (by omega) (by omega), e3 y (by omega) (by omega)]
    exact h4 x y x1 x2 (by omega)
  · intro x y x1 x2 x3
    rw [show j - 1 + 1 = j by omega] at x1
    rw [e3 y (by omega) (by omega)]
    by_cases hx : x = j
    · subst hx; rw [e2]; exact h6 (x - 1) y (by omega) (by omega) (by omega) (by omega)
    · rw [e3 x hx (by omega)]; exact h5 x y (by omega) x2 x3
  · intro x y x1 x2 x3 x4
    rw [e3 x (by omega) (by omega)]
    by_cases hy : y = j
    · subst hy; rw [e2]; exact h4 x (y - 1) x1 (by omega) (by omega)
    · rw [e3 y hy (by omega)]; exact h6 x y x1 (by omega) (by omega) x4
  · intro y y1 y2
    rw [e1]
    by_cases hy : y = j
    · subst hy; rw [e2]; exact hb
    · rw [e3 y hy (by omega)]; exact h7 y (by omega) y2
  · intro x x1 x2 x3
    by_cases hx : x = j
    · subst hx; rw [e2]; exact h8 (x - 1) (by omega) (by omega) (by omega)
    · rw [e3 x hx x3]; exact h8 x x1 x2 hx
theorem Ins.done {K : Int → Int} {d0 d : Nat → Int} {a i j : Nat} (h : Ins K d0 d a i j) (hb : a < j → Bf K (d (j - 1)) (d j)) : Sd K d a (i + 1) := by
  obtain ⟨s, h1, h2, h3, h4, h5, h6, h7, h8⟩ := h
  intro x y x1 x2 x3
  rcases Nat.lt_trichotomy x j with hx | hx | hx
  · rcases Nat.lt_trichotomy y j with hy | hy | hy
    · exact h4 x y x1 x2 hy
    · subst hy
      by_cases he : x = y - 1
      · subst he; exact hb (by omega)
      · exact (h4 x (y - 1) x1 (by omega) (by omega)).trans (hb (by omega))
    · exact h6 x y x1 hx hy (by omega)
  · subst hx; exact h7 y (by omega) (by omega)
  · exact h5 x y (by omega) x2 x3
end Go.Proofs.Ythkoblnfeebafaa
