/- Plain: where a flat cut stops. No conditions. -/
import Derived.Test.YtmgofdgbenfjmaaDoorWaP
namespace Go.Proofs.YtmgofdgbenfjmaaDoor

def tch2 (f : Cel → Bool) (x y : Int) : Bool := f (x, y) || f (x, y - 1)
def stR (f : Cel → Bool) (y t : Int) : Nat → Int → Int
  | 0, _ => t
  | n + 1, x => if x = t then t else if tch2 f x y then x else stR f y t n (x + 1)
def stL (f : Cel → Bool) (y t : Int) : Nat → Int → Int
  | 0, _ => t
  | n + 1, x => if x = t then t else if tch2 f x y then x else stL f y t n (x - 1)
def stopX (f : Cel → Bool) (x y t : Int) : Int := if t < x then stL f y t 60 (x - 1) else stR f y t 60 (x + 1)
section
variable {f : Cel → Bool} {y t : Int}
theorem stR_end (n : Nat) : stR f y t n t = t := by cases n with | zero => rfl | succ n => rw [stR, if_pos rfl]
theorem stR_hit {n : Nat} {x : Int} (h : x ≠ t) (hf : tch2 f x y = true) : stR f y t (n + 1) x = x := by rw [stR, if_neg h, if_pos hf]
theorem stR_go {n : Nat} {x : Int} (h : x ≠ t) (hf : tch2 f x y = false) : stR f y t (n + 1) x = stR f y t n (x + 1) := by rw [stR, if_neg h, if_neg (by simp [hf])]
theorem stL_end (n : Nat) : stL f y t n t = t := by cases n with | zero => rfl | succ n => rw [stL, if_pos rfl]
theorem stL_hit {n : Nat} {x : Int} (h : x ≠ t) (hf : tch2 f x y = true) : stL f y t (n + 1) x = x := by rw [stL, if_neg h, if_pos hf]
theorem stL_go {n : Nat} {x : Int} (h : x ≠ t) (hf : tch2 f x y = false) : stL f y t (n + 1) x = stL f y t n (x - 1) := by rw [stL, if_neg h, if_neg (by simp [hf])]
theorem stR_ok : ∀ (n : Nat) (x : Int), x ≤ t → t ≤ x + n → x ≤ stR f y t n x ∧ stR f y t n x ≤ t ∧ (stR f y t n x = t ∨ tch2 f (stR f y t n x) y = true) ∧ ∀ i, x ≤ i → i < stR f y t n x → tch2 f i y = false
  | 0, x, h1, h2 => by
    have e : x = t := by omega
    subst e
    exact ⟨Int.le_refl _, Int.le_refl _, .inl rfl, fun i k1 k2 => by have k2 : i < x := k2; omega⟩
  | n + 1, x, h1, h2 => by
    rw [stR]
    by_cases e : x = t
    · rw [if_pos e]; exact ⟨by omega, Int.le_refl _, .inl rfl, fun i k1 k2 => by omega⟩
    · rw [if_neg e]
      by_cases hf : tch2 f x y = true
      · rw [if_pos hf]; exact ⟨Int.le_refl _, h1, .inr hf, fun i k1 k2 => by omega⟩
      · rw [if_neg hf]
        obtain ⟨k1, k2, k3, k4⟩ := stR_ok n (x + 1) (by omega) (by omega)
        exact ⟨by omega, k2, k3, fun i j1 j2 => by
          by_cases ei : i = x
          · rw [ei]; simpa using hf
          · exact k4 i (by omega) j2⟩
theorem stL_ok : ∀ (n : Nat) (x : Int), t ≤ x → x - n ≤ t → stL f y t n x ≤ x ∧ t ≤ stL f y t n x ∧ (stL f y t n x = t ∨ tch2 f (stL f y t n x) y = true) ∧ ∀ i, stL f y t n x < i → i ≤ x → tch2 f i y = false
  | 0, x, h1, h2 => by
    have e : x = t := by omega
    subst e
    exact ⟨Int.le_refl _, Int.le_refl _, .inl rfl, fun i k1 k2 => by have k1 : x < i := k1; omega⟩
  | n + 1, x, h1, h2 => by
    rw [stL]
    by_cases e : x = t
    · rw [if_pos e]; exact ⟨by omega, Int.le_refl _, .inl rfl, fun i k1 k2 => by omega⟩
    · rw [if_neg e]
      by_cases hf : tch2 f x y = true
      · rw [if_pos hf]; exact ⟨Int.le_refl _, h1, .inr hf, fun i k1 k2 => by omega⟩
      · rw [if_neg hf]
        obtain ⟨k1, k2, k3, k4⟩ := stL_ok n (x - 1) (by omega) (by omega)
        exact ⟨by omega, k2, k3, fun i j1 j2 => by
          by_cases ei : i = x
          · rw [ei]; simpa using hf
          · exact k4 i j1 (by omega)⟩
/-- the stop, by the steep cuts -/
theorem stop_ok {V : List Chd} (hV : ∀ b ∈ V, b.1.2 < b.2.2) (hf : ∀ c, f c = covV V c.1 c.2) {x : Int} (hx : 0 ≤ x ∧ x ≤ 48) (ht : 0 ≤ t ∧ t ≤ 48) (hn : x ≠ t) : Stp V (x, y) t (stopX f x y t) := by
  have h2 : ∀ i, tch2 f i y = true ↔ tchV V i y := fun i => by
    unfold tch2
    rw [Bool.or_eq_true, hf, hf]
    dsimp only
    rw [covV_iff, covV_iff]
    constructor
    · rintro (⟨b, hb, k1, k2, k3⟩ | ⟨b, hb, k1, k2, k3⟩)
      · exact ⟨b, hb, k1, k2, by omega⟩
      · exact ⟨b, hb, k1, by omega, by omega⟩
    · rintro ⟨b, hb, k1, k2, k3⟩
      have := hV b hb
      by_cases e : y < b.2.2
      · exact .inl ⟨b, hb, k1, k2, e⟩
      · exact .inr ⟨b, hb, k1, by omega, by omega⟩
  unfold Stp stopX
  dsimp only
  by_cases hlt : t < x
  · rw [if_pos hlt]
    obtain ⟨k1, k2, k3, k4⟩ := stL_ok (f := f) (y := y) (t := t) 60 (x - 1) (by omega) (by omega)
    exact ⟨k3.imp id (h2 _).1, .inr ⟨hlt, k2, by omega, fun i j1 j2 hh => by rw [← h2 i, k4 i j1 (by omega)] at hh; cases hh⟩⟩
  · rw [if_neg hlt]
    obtain ⟨k1, k2, k3, k4⟩ := stR_ok (f := f) (y := y) (t := t) 60 (x + 1) (by omega) (by omega)
    exact ⟨k3.imp id (h2 _).1, .inl ⟨by omega, by omega, k2, fun i j1 j2 hh => by rw [← h2 i, k4 i (by omega) j2] at hh; cases hh⟩⟩
end
end Go.Proofs.YtmgofdgbenfjmaaDoor
