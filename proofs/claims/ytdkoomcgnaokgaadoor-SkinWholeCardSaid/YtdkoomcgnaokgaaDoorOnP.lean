/- Plain law of Open: it raises no grade, it is idempotent; a cell of the eroded skin. No conditions. -/
import Derived.Test.YtdkoomcgnaokgaaDoorErP
namespace Go.Proofs.YtdkoomcgnaokgaaDoor

theorem c4_congr {e : Bool} {w h k : Nat} {c d : Nat → Nat → Nat} (hcd : ∀ x y, x < w → y < h → c x y = d x y) {x y : Nat} (hx : x < w) (hy : y < h) : c4 e w h k c x y = c4 e w h k d x y := by
  refine bd_ext (e := e) fun t => ?_
  rw [bd_c4 hx hy, bd_c4 hx hy]
  have he : ∀ p q : Int, exP e w h c t p q ↔ exP e w h d t p q := fun p q => by
    unfold exP
    by_cases hin : (0 ≤ p ∧ p < (w : Int)) ∧ (0 ≤ q ∧ q < (h : Int))
    · rw [if_pos hin, if_pos hin, hcd p.toNat q.toNat (by omega) (by omega)]
    · rw [if_neg hin, if_neg hin]
  constructor
  · intro hh p q h1 h2 h3 h4; exact (he p q).1 (hh p q h1 h2 h3 h4)
  · intro hh p q h1 h2 h3 h4; exact (he p q).2 (hh p q h1 h2 h3 h4)
section
variable {w h k : Nat} {c : Nat → Nat → Nat} {x y t : Nat}
/-- t lies below the eroded cell -/
theorem le_ero (hx : x < w) (hy : y < h) : t ≤ c4 true w h k c x y ↔ ∀ p q : Int, (x : Int) - (k : Int) ≤ p → p ≤ (x : Int) + (k : Int) → (y : Int) - (k : Int) ≤ q → q ≤ (y : Int) + (k : Int) → if (0 ≤ p ∧ p < (w : Int)) ∧ (0 ≤ q ∧ q < (h : Int)) then t ≤ c p.toNat q.toNat else t ≤ 48 := by
  have h1 := bd_c4 (e := true) (k := k) (c := c) (t := t) hx hy
  rw [show (bd true t (c4 true w h k c x y) ↔ t ≤ c4 true w h k c x y) from by simp [bd]] at h1
  rw [h1]
  constructor
  · intro hh p q h1 h2 h3 h4
    have := hh p q h1 h2 h3 h4
    unfold exP at this
    split <;> rename_i hin
    · rw [if_pos hin] at this; simpa [bd] using this
    · rw [if_neg hin] at this; exact this rfl
  · intro hh p q h1 h2 h3 h4
    have := hh p q h1 h2 h3 h4
    unfold exP
    split <;> rename_i hin
    · rw [if_pos hin] at this; simpa [bd] using this
    · rw [if_neg hin] at this; exact fun _ => this
/-- the dilated cell lies below t -/
theorem dil_le (hx : x < w) (hy : y < h) : c4 false w h k c x y ≤ t ↔ ∀ p q : Nat, p < w → q < h → x ≤ p + k → p ≤ x + k → y ≤ q + k → q ≤ y + k → c p q ≤ t := by
  have h1 := bd_c4 (e := false) (k := k) (c := c) (t := t) hx hy
  rw [show (bd false t (c4 false w h k c x y) ↔ c4 false w h k c x y ≤ t) from by simp [bd]] at h1
  rw [h1]
  constructor
  · intro hh p q hp hq h1 h2 h3 h4
    have := hh (p : Int) (q : Int) (by omega) (by omega) (by omega) (by omega)
    unfold exP at this
    rw [if_pos ⟨⟨by omega, by omega⟩, by omega, by omega⟩, Int.toNat_natCast, Int.toNat_natCast] at this
    simpa [bd] using this
  · intro hh p q h1 h2 h3 h4
    unfold exP
    split <;> rename_i hin
    · have := hh p.toNat q.toNat (by omega) (by omega) (by omega) (by omega) (by omega) (by omega)
      simpa [bd] using this
    · intro h; cases h
/-- opened -/
def opn (w h k : Nat) (c : Nat → Nat → Nat) : Nat → Nat → Nat := c4 false w h k (c4 true w h k c)
theorem ero_le (hx : x < w) (hy : y < h) {p q : Nat} (hp : p < w) (hq : q < h) (h1 : x ≤ p + k) (h2 : p ≤ x + k) (h3 : y ≤ q + k) (h4 : q ≤ y + k) : c4 true w h k c p q ≤ c x y := by
  have := (le_ero (k := k) (c := c) (t := c4 true w h k c p q) hp hq).1 (Nat.le_refl _) (x : Int) (y : Int) (by omega) (by omega) (by omega) (by omega)
  rw [if_pos ⟨⟨by omega, by omega⟩, by omega, by omega⟩, Int.toNat_natCast, Int.toNat_natCast] at this
  exact this
theorem opn_le (hx : x < w) (hy : y < h) : opn w h k c x y ≤ c x y :=
  (dil_le hx hy).2 fun _ _ hp hq h1 h2 h3 h4 => ero_le hx hy hp hq h1 h2 h3 h4
theorem le_dil (hx : x < w) (hy : y < h) {p q : Nat} (hp : p < w) (hq : q < h) (h1 : x ≤ p + k) (h2 : p ≤ x + k) (h3 : y ≤ q + k) (h4 : q ≤ y + k) : c p q ≤ c4 false w h k c x y :=
  (dil_le (t := c4 false w h k c x y) hx hy).1 (Nat.le_refl _) p q hp hq h1 h2 h3 h4
theorem ero_opn (hx : x < w) (hy : y < h) : c4 true w h k (opn w h k c) x y = c4 true w h k c x y := by
  apply Nat.le_antisymm
  · refine (le_ero hx hy).2 fun p q h1 h2 h3 h4 => ?_
    have := (le_ero (k := k) (c := opn w h k c) (t := c4 true w h k (opn w h k c) x y) hx hy).1 (Nat.le_refl _) p q h1 h2 h3 h4
    split <;> rename_i hin
    · rw [if_pos hin] at this
      exact Nat.le_trans this (opn_le (by omega) (by omega))
    · rw [if_neg hin] at this; exact this
  · refine (le_ero hx hy).2 fun p q h1 h2 h3 h4 => ?_
    split <;> rename_i hin
    · exact le_dil (c := c4 true w h k c) (by omega) (by omega) hx hy (by omega) (by omega) (by omega) (by omega)
    · have := (le_ero (k := k) (c := c) (t := c4 true w h k c x y) hx hy).1 (Nat.le_refl _) p q h1 h2 h3 h4
      rw [if_neg hin] at this; exact this
theorem opn_opn (hx : x < w) (hy : y < h) : opn w h k (opn w h k c) x y = opn w h k c x y :=
  c4_congr (fun _ _ hp hq => ero_opn hp hq) hx hy
/-- a grade of the eroded skin -/
theorem ero_grade (hx : x < w) (hy : y < h) (ht : 48 < t) : t ≤ c4 true w h k c x y ↔ k ≤ x ∧ k ≤ y ∧ x + k < w ∧ y + k < h ∧ ∀ i j, i < 2 * k + 1 → j < 2 * k + 1 → t ≤ c (x - k + i) (y - k + j) := by
  rw [le_ero hx hy]
  constructor
  · intro hh
    have out : ∀ p q : Int, (x : Int) - (k : Int) ≤ p → p ≤ (x : Int) + (k : Int) → (y : Int) - (k : Int) ≤ q → q ≤ (y : Int) + (k : Int) → (0 ≤ p ∧ p < (w : Int)) ∧ (0 ≤ q ∧ q < (h : Int)) ∧ t ≤ c p.toNat q.toNat := fun p q h1 h2 h3 h4 => by
      have := hh p q h1 h2 h3 h4
      split at this <;> rename_i hin
      · exact ⟨hin.1, hin.2, this⟩
      · omega
    have o1 := out ((x : Int) - k) ((y : Int) - k) (by omega) (by omega) (by omega) (by omega)
    have o2 := out ((x : Int) + k) ((y : Int) + k) (by omega) (by omega) (by omega) (by omega)
    refine ⟨by omega, by omega, by omega, by omega, fun i j hi hj => ?_⟩
    have o3 := (out ((x - k + i : Nat) : Int) ((y - k + j : Nat) : Int) (by omega) (by omega) (by omega) (by omega)).2.2
    rw [Int.toNat_natCast, Int.toNat_natCast] at o3
    exact o3
  · rintro ⟨h1, h2, h3, h4, h5⟩ p q k1 k2 k3 k4
    rw [if_pos ⟨⟨by omega, by omega⟩, by omega, by omega⟩]
    have := h5 (p.toNat - (x - k)) (q.toNat - (y - k)) (by omega) (by omega)
    rw [show x - k + (p.toNat - (x - k)) = p.toNat by omega, show y - k + (q.toNat - (y - k)) = q.toNat by omega] at this
    exact this
end
end Go.Proofs.YtdkoomcgnaokgaaDoor
