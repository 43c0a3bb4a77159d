/- Plain law of the table: usable cells of a rectangle by sums. Conditions: none. -/
import Derived.Test.YtmgofdgbenfjmaaDoorPs
namespace Go.Proofs.YtmgofdgbenfjmaaDoor

/-- usable cells of row y left of x -/
def rcn (l : List ByteArray) (g : Int) (y : Nat) : Nat → Int
  | 0 => 0
  | x + 1 => rcn l g y x + if usb l g ((x : Int), (y : Int)) then 1 else 0
/-- usable cells above y and left of x -/
def tab (l : List ByteArray) (g : Int) (x : Nat) : Nat → Int
  | 0 => 0
  | y + 1 => tab l g x y + rcn l g y x
theorem rcn_bd (l : List ByteArray) (g : Int) (y : Nat) : ∀ x, 0 ≤ rcn l g y x ∧ rcn l g y x ≤ x
  | 0 => by simp [rcn]
  | x + 1 => by
    have h := rcn_bd l g y x
    unfold rcn
    split <;> omega
theorem tab_bd (l : List ByteArray) (g : Int) {x : Nat} (hx : x ≤ 48) : ∀ y, 0 ≤ tab l g x y ∧ tab l g x y ≤ 48 * y
  | 0 => by simp [tab]
  | y + 1 => by
    have h := tab_bd l g hx y
    have h2 := rcn_bd l g y x
    unfold tab
    omega
theorem tab_zero (l : List ByteArray) (g : Int) : ∀ y, tab l g 0 y = 0
  | 0 => rfl
  | y + 1 => by unfold tab; rw [tab_zero]; rfl
/-- usable cells of a row from x on, k of them -/
def rct (l : List ByteArray) (g : Int) (y x k : Nat) : Int := rcn l g y (x + k) - rcn l g y x
/-- usable cells of a rectangle -/
def cnt (l : List ByteArray) (g : Int) (x y a : Nat) : Nat → Int
  | 0 => 0
  | b + 1 => cnt l g x y a b + rct l g (y + b) x a
theorem cnt_tab (l : List ByteArray) (g : Int) (x y a : Nat) : ∀ b, cnt l g x y a b = tab l g (x + a) (y + b) - tab l g x (y + b) - tab l g (x + a) y + tab l g x y
  | 0 => by simp only [cnt, Nat.add_zero]; omega
  | b + 1 => by
    have h := cnt_tab l g x y a b
    have e : y + (b + 1) = (y + b) + 1 := by omega
    rw [e]
    simp only [cnt, tab]
    rw [h]
    unfold rct
    omega
theorem rct_zero (l : List ByteArray) (g : Int) (y x : Nat) : rct l g y x 0 = 0 := by unfold rct; rw [Nat.add_zero]; omega
theorem rct_succ (l : List ByteArray) (g : Int) (y x k : Nat) : rct l g y x (k + 1) = rct l g y x k + if usb l g (((x + k : Nat) : Int), (y : Int)) then 1 else 0 := by
  unfold rct
  have e : x + (k + 1) = (x + k) + 1 := by omega
  rw [e]
  rw [show rcn l g y (x + k + 1) = rcn l g y (x + k) + if usb l g (((x + k : Nat) : Int), (y : Int)) then 1 else 0 from rfl]
  omega
theorem rct_bd (l : List ByteArray) (g : Int) (y x : Nat) : ∀ k, 0 ≤ rct l g y x k ∧ rct l g y x k ≤ k
  | 0 => by rw [rct_zero]; omega
  | k + 1 => by
    have h := rct_bd l g y x k
    rw [rct_succ]
    split <;> omega
theorem cnt_bd (l : List ByteArray) (g : Int) (x y : Nat) {a : Nat} (ha : a ≤ 48) : ∀ b, 0 ≤ cnt l g x y a b ∧ cnt l g x y a b ≤ 48 * b
  | 0 => by simp [cnt]
  | b + 1 => by
    have h := cnt_bd l g x y ha b
    have h2 := rct_bd l g (y + b) x a
    unfold cnt
    omega
end Go.Proofs.YtmgofdgbenfjmaaDoor
