/- Plain law of the odd joints. No conditions. -/
import Derived.Test.YtfadkokdoehjnaaDoorWd
namespace Go.Proofs.YtfadkokdoehjnaaDoor

/-- how many ends of the seam are at the joint -/
def inc (s : Sm) (j : Nat) : Int := (if s.a = j then 1 else 0) + (if s.b = j then 1 else 0)
/-- the degree in the chosen seams -/
def deg (ch : Sm → Bool) : List Sm → Nat → Int
  | [], _ => 0
  | s :: l, j => (if ch s then inc s j else 0) + deg ch l j
theorem deg_snoc (ch : Sm → Bool) (l : List Sm) (s : Sm) (j : Nat) : deg ch (l ++ [s]) j = deg ch l j + if ch s then inc s j else 0 := by
  induction l with
  | nil => simp [deg]
  | cons x l ih => simp only [List.cons_append, deg, ih]; omega
theorem deg_range (ch : Sm → Bool) (l : List Sm) (j : Nat) : 0 ≤ deg ch l j ∧ deg ch l j ≤ 2 * l.length := by
  induction l with
  | nil => simp [deg]
  | cons x l ih =>
    simp only [deg, List.length_cons]
    have : 0 ≤ inc x j ∧ inc x j ≤ 2 := by unfold inc; split <;> split <;> omega
    split <;> push_cast <;> omega
theorem take_snoc {α : Type} {l : List α} {k : Nat} (h : k < l.length) : l.take (k + 1) = l.take k ++ [l[k]] := List.take_succ_eq_append_getElem h
theorem deg_take (ch : Sm → Bool) {l : List Sm} {k : Nat} (h : k < l.length) (j : Nat) : deg ch (l.take (k + 1)) j = deg ch (l.take k) j + if ch l[k] then inc l[k] j else 0 := by
  rw [take_snoc h, deg_snoc]
/-- the first n joints of odd degree -/
def oddN (ch : Sm → Bool) (l : List Sm) : Nat → List Int
  | 0 => []
  | n + 1 => if deg ch l n % 2 = 1 then oddN ch l n ++ [(n : Int)] else oddN ch l n
theorem oddN_len (ch : Sm → Bool) (l : List Sm) : ∀ n, (oddN ch l n).length ≤ n
  | 0 => by simp [oddN]
  | n + 1 => by
    have := oddN_len ch l n
    unfold oddN
    split
    · simp; omega
    · omega
theorem deg_out {ch : Sm → Bool} {N : Nat} {l : List Sm} (h : ∀ s ∈ l, SmOk N s) {j : Nat} (hj : N ≤ j) : deg ch l j = 0 := by
  induction l with
  | nil => rfl
  | cons x l ih =>
    have hx := h x (by simp)
    unfold SmOk at hx
    have : inc x j = 0 := by
      unfold inc
      rw [if_neg (by omega), if_neg (by omega)]; rfl
    simp only [deg, this, ih (fun s hs => h s (by simp [hs]))]
    split <;> rfl
theorem oddN_out {ch : Sm → Bool} {N : Nat} {l : List Sm} (h : ∀ s ∈ l, SmOk N s) : ∀ n, N ≤ n → oddN ch l n = oddN ch l N
  | 0, hn => by rw [show N = 0 by omega]
  | n + 1, hn => by
    by_cases he : N = n + 1
    · rw [he]
    · have hd := deg_out (ch := ch) h (j := n) (by omega)
      rw [show oddN ch l (n + 1) = oddN ch l n from by
        show (if deg ch l n % 2 = 1 then _ else _) = _
        rw [hd]; rfl]
      exact oddN_out h n (by omega)
theorem oddN_congr {ch ch' : Sm → Bool} {l : List Sm} (h : ∀ s ∈ l, ch s = ch' s) (n : Nat) : oddN ch l n = oddN ch' l n := by
  have hd : ∀ j, deg ch l j = deg ch' l j := by
    intro j
    clear n
    induction l with
    | nil => rfl
    | cons x l ih => simp only [deg, h x (by simp), ih (fun s hs => h s (by simp [hs]))]
  induction n with
  | zero => rfl
  | succ n ih => simp only [oddN, hd, ih]
end Go.Proofs.YtfadkokdoehjnaaDoor
