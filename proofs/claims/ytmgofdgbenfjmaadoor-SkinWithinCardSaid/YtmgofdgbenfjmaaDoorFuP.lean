/- Plain: a rectangle is usable where it counts as many usable cells as it has. No conditions. -/
import Derived.Test.YtmgofdgbenfjmaaDoorMxP
import Derived.Test.YtmgofdgbenfjmaaDoorTc
import Derived.Test.YtmgofdgbenfjmaaDoorRu
namespace Go.Proofs.YtmgofdgbenfjmaaDoor

theorem rct_fullK (l : List ByteArray) (g : Int) (y x : Nat) : ∀ k, (rct l g y x k = (k : Int) ↔ ∀ i, i < k → usb l g (((x + i : Nat) : Int), (y : Int)) = true)
  | 0 => by rw [rct_zero]; simp
  | k + 1 => by
    have ih := rct_fullK l g y x k
    have hb := rct_bd l g y x k
    rw [rct_succ]
    constructor
    · intro h i hi
      have h1 : usb l g (((x + k : Nat) : Int), (y : Int)) = true := by
        by_cases hu : usb l g (((x + k : Nat) : Int), (y : Int)) = true
        · exact hu
        · rw [if_neg hu] at h; omega
      rw [if_pos h1] at h
      by_cases hik : i = k
      · rw [hik]; exact h1
      · exact ih.1 (by omega) i (by omega)
    · intro h
      rw [if_pos (h k (by omega)), ih.2 fun i hi => h i (by omega)]
      omega
theorem cnt_fullK (l : List ByteArray) (g : Int) (x y a : Nat) : ∀ b, (cnt l g x y a b = (a : Int) * (b : Int) ↔ ∀ i j, i < a → j < b → usb l g (((x + i : Nat) : Int), ((y + j : Nat) : Int)) = true) ∧ cnt l g x y a b ≤ (a : Int) * (b : Int)
  | 0 => by simp [cnt]
  | b + 1 => by
    obtain ⟨ih, hle⟩ := cnt_fullK l g x y a b
    have hb := rct_bd l g (y + b) x a
    have hf := rct_fullK l g (y + b) x a
    have e : (a : Int) * ((b + 1 : Nat) : Int) = (a : Int) * (b : Int) + a := by push_cast; rw [Int.mul_add, Int.mul_one]
    rw [← cnt_snoc, e]
    refine ⟨⟨fun h i j hi hj => ?_, fun h => ?_⟩, by omega⟩
    · by_cases hjb : j = b
      · rw [hjb]; exact hf.1 (by omega) i hi
      · exact ih.1 (by omega) i j hi (by omega)
    · rw [hf.2 fun i hi => h i b hi (by omega), ih.2 fun i j hi hj => h i j hi (by omega)]
/-- usable, where the row may lie above the grid -/
def fuZ (us : Int × Int → Bool) (x : Nat) (y : Int) (a b : Nat) : Bool := decide (0 ≤ y) && fuB us x y.toNat a b
theorem fuZ_neg {us : Int × Int → Bool} {x a b : Nat} {y : Int} (h : y < 0) : fuZ us x y a b = false := by
  unfold fuZ; rw [decide_eq_false (by omega)]; rfl
theorem fuZ_nat (us : Int × Int → Bool) (x y a b : Nat) : fuZ us x (y : Int) a b = fuB us x y a b := by
  unfold fuZ; rw [decide_eq_true (by omega), Int.toNat_natCast]; rfl
theorem usb_inn {l : List ByteArray} {g : Int} (hg : 1 ≤ g) : Inn (usb l g) (wid l) l.length := fun i j h => by
  have := usb_at hg _ h
  dsimp only at this
  omega
theorem cnt_fuB {l : List ByteArray} {g : Int} {x y a b : Nat} : cnt l g x y a b = (a : Int) * (b : Int) ↔ fuB (usb l g) x y a b = true := by
  rw [fuB_iff]; exact (cnt_fullK l g x y a b).1
theorem fuB_in {l : List ByteArray} {g : Int} (hg : 1 ≤ g) {x y a b : Nat} (ha : 1 ≤ a) (hb : 1 ≤ b) (h : fuB (usb l g) x y a b = true) : x + a ≤ wid l ∧ y + b ≤ l.length :=
  Fu.inn (usb_inn hg) ha hb (fu_iff.1 h)
end Go.Proofs.YtmgofdgbenfjmaaDoor
