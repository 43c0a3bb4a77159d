/- A row of ints of one's own in memory, written in place. No conditions. -/
import Derived.Test.YthkoblnfeebafaaIs
namespace Go.Proofs.Ythkoblnfeebafaa
open Go.RowKit

def cellsOf (n : Nat) (d : Nat → Int) : Array Value := ((List.range n).map fun j => Value.int .i64 (d j)).toArray
theorem cellsOf_size (n : Nat) (d : Nat → Int) : (cellsOf n d).size = n := by simp [cellsOf]
theorem cellsOf_get {n : Nat} {d : Nat → Int} {i : Nat} (h : i < n) : (cellsOf n d)[i]? = some (.int .i64 (d i)) := by
  simp [cellsOf, h]
def upd (d : Nat → Int) (i : Nat) (v : Int) : Nat → Int := fun k => if k = i then v else d k
theorem cellsOf_set {n : Nat} {d : Nat → Int} {i : Nat} {v : Int} : (cellsOf n d).setIfInBounds i (.int .i64 v) = cellsOf n (upd d i v) := by
  unfold cellsOf
  rw [List.setIfInBounds_toArray]
  congr 1
  apply List.ext_getElem
  · simp
  · intro k h1 h2
    rw [List.getElem_set]
    simp only [List.getElem_map, List.getElem_range]
    unfold upd
    by_cases hk : i = k
    · subst hk; simp
    · rw [if_neg hk, if_neg (fun h => hk h.symm)]
/-- block b holds n ints, and nothing else -/
def Ow (b n : Nat) (d : Nat → Int) (w : World) : Prop := w.heap[b]? = some (.cells (cellsOf n d) 3 (0, 0))
theorem Ow.lt {b n : Nat} {d : Nat → Int} {w : World} (h : Ow b n d w) : b < w.heap.size := lt_of_block h
theorem Ow.cell {b n : Nat} {d : Nat → Int} {w : World} (h : Ow b n d w) {i : Nat} (hi : i < n) : w.cell? ⟨b, i, none⟩ = some (.int .i64 (d i)) := by
  rw [cell_of_row w b i _ _ (0, 0) h]; exact cellsOf_get hi
theorem Ow.frozen {b n : Nat} {d : Nat → Int} {w : World} (h : Ow b n d w) (i : Nat) : w.frozen? ⟨b, i, none⟩ = false := frozen_of_row w b i _ _ h
theorem Ow.set {b n : Nat} {d : Nat → Int} {w : World} (h : Ow b n d w) (i : Nat) (v : Int) : Ow b n (upd d i v) (w.setCell ⟨b, i, none⟩ (.int .i64 v)) := by
  have h1 := heap_setCell_same w b i _ _ (.int .i64 v) h
  rw [cellsOf_set] at h1
  exact h1
theorem Ow.ext {b n : Nat} {d : Nat → Int} {w w' : World} (h : Ow b n d w) (hb : Below w.heap.size w w') : Ow b n d w' := (hb.block b h.lt).trans h
/-- everything but block b is as it was -/
def Fr (b : Nat) (w w' : World) : Prop := w.grownBy w' (some b)
theorem Fr.refl (b : Nat) (w : World) : Fr b w w := ⟨rfl, rfl, rfl, Nat.le_refl _, fun _ _ _ => rfl⟩
theorem Fr.trans {b : Nat} {u v w : World} (h : Fr b u v) (k : Fr b v w) : Fr b u w :=
  ⟨k.os.trans h.os, k.tape.trans h.tape, k.output.trans h.output, Nat.le_trans h.size k.size, fun i hi hne => (k.block i (Nat.lt_of_lt_of_le hi h.size) hne).trans (h.block i hi hne)⟩
theorem Fr.below {b : Nat} {w w' : World} (h : Below w.heap.size w w') : Fr b w w' := ⟨h.os, h.tape, h.output, h.size, fun i hi _ => h.block i hi⟩
theorem Fr.set {b : Nat} {w w' : World} (h : Fr b w w') (i : Nat) (v : Value) : Fr b w (w'.setCell ⟨b, i, none⟩ v) :=
  h.trans ⟨rfl, rfl, rfl, by simp, fun k _ hne => Below.heap_setCell _ _ _ _ (fun e => hne (by rw [e]))⟩
theorem Fr.cell {b : Nat} {w w' : World} (h : Fr b w w') {p : Addr} (hp : p.block < w.heap.size) (hne : p.block ≠ b) : w'.cell? p = w.cell? p :=
  World.cell?_of_block (h.block p.block hp (fun e => hne (by injection e)))
/-- as seen from a world that has no block b yet -/
theorem Fr.out {b B : Nat} {u w w' : World} (h : Fr b w w') (hu : Below B u w) (hB : B ≤ b) (hz : B ≤ w.heap.size) : Below B u w' :=
  hu.trans ⟨h.os, h.tape, h.output, h.size, fun k hk => h.block k (Nat.lt_of_lt_of_le hk hz) (fun e => by injection e; omega)⟩

/-- two ranges changed for each other -/
def swr (d : Nat → Int) (a c n : Nat) : Nat → Int := fun k => if a ≤ k ∧ k < a + n then d (k - a + c) else if c ≤ k ∧ k < c + n then d (k - c + a) else d k
theorem swr_zero (d : Nat → Int) (a c : Nat) : swr d a c 0 = d := by
  funext k
  unfold swr
  rw [if_neg (by omega), if_neg (by omega)]
theorem swr_succ {d : Nat → Int} {a c i : Nat} (h : a + i < c) : upd (upd (swr d a c i) (a + i) (swr d a c i (c + i))) (c + i) (swr d a c i (a + i)) = swr d a c (i + 1) := by
  funext k
  unfold upd swr
  repeat' split
  all_goals first | omega | (congr 1; omega) | rfl
/-- [a, m) and [m, b) changed for each other -/
def rot (d : Nat → Int) (a m b : Nat) : Nat → Int := fun k => if a ≤ k ∧ k < a + (b - m) then d (k + (m - a)) else if a + (b - m) ≤ k ∧ k < b then d (k - (b - m)) else d k
theorem rot_left {d : Nat → Int} {i j m : Nat} (h : j < i) (hi : i ≤ m) : rot (swr d (m - i) m j) (m - (i - j)) m (m + j) = rot d (m - i) m (m + j) := by
  funext k
  unfold rot swr
  repeat' split
  all_goals first | omega | (congr 1; omega) | rfl
theorem rot_right {d : Nat → Int} {i j m : Nat} (h : i < j) (hi : i ≤ m) : rot (swr d (m - i) (m + j - i) i) (m - i) m (m + (j - i)) = rot d (m - i) m (m + j) := by
  funext k
  unfold rot swr
  repeat' split
  all_goals first | omega | (congr 1; omega) | rfl
theorem rot_end {d : Nat → Int} {i m : Nat} (hi : i ≤ m) : swr d (m - i) m i = rot d (m - i) m (m + i) := by
  funext k
  unfold rot swr
  repeat' split
  all_goals first | omega | (congr 1; omega) | rfl
end Go.Proofs.Ythkoblnfeebafaa
