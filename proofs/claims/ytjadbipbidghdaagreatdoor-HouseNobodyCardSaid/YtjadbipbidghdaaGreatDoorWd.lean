/- Words for memory (as in chapter 07): a block known whole, rows of ints and bools, slices of ints and of strings. No conditions. -/
import Derived.WalkKit
import Derived.WalkSpells
import Derived.WalkLawsBesides
import Derived.Handy
import Derived.Lib.Hide
import Derived.BigQuiet
import Derived.Deep.QuietTactic
import Derived.Deep.RegionHeld3
import Derived.Deep.DeepCutAuto
import Derived.Deep.LoopGhost
import Derived.Laws.MakeOwn
import Derived.Laws.OwnMore
import Derived.Test.YtjadbipbidghdaaGreatDoorProg
namespace Go.Proofs.YtjadbipbidghdaaGreatDoor
open Go.RowKit

theorem lt_of_block {w : World} {b : Nat} {o : Obj} (h : w.heap[b]? = some o) : b < w.heap.size := by
  rcases Nat.lt_or_ge b w.heap.size with hlt | hge
  · exact hlt
  · rw [Array.getElem?_eq_none hge] at h; cases h
theorem ext_trans {a b c : World} (h : Below a.heap.size a b) (k : Below b.heap.size b c) : Below a.heap.size a c := h.trans (k.mono h.size)
theorem bext {B : Nat} {w0 w w' : World} (h : Below B w0 w) (hb : Below w.heap.size w w') (hB : B ≤ w.heap.size) : Below B w0 w' := h.trans (hb.mono hB)
theorem ext_drewN (w : World) (n : Nat) : Below w.heap.size w (w.drewN n) := ⟨rfl, rfl, rfl, Nat.le_refl _, fun _ _ => rfl⟩
theorem ext_drew (w : World) : Below w.heap.size w w.drew := ⟨rfl, rfl, rfl, Nat.le_refl _, fun _ _ => rfl⟩
theorem ext_alloc (w : World) (o : Obj) : Below w.heap.size w (w.alloc o) := (Below.refl _ _).alloc (Nat.le_refl _) _
theorem bdrewN {B : Nat} {w0 w : World} (h : Below B w0 w) (n : Nat) : Below B w0 (w.drewN n) := ⟨h.os, h.tape, h.output, h.size, h.block⟩
def IsI (x : Int) : Prop := -9223372036854775808 ≤ x ∧ x ≤ 9223372036854775807
theorem ret_int {k : IntKind} {a b : Int} (h : a = b) : Ending.returned (.int k a) = .returned (.int k b) := by rw [h]
theorem ret_bool {a b : Bool} (h : a = b) : Ending.returned (.bool a) = .returned (.bool b) := by rw [h]

/-- block g is these cells, and nothing else -/
def Bk (T : TypeId) (w : World) (g : Nat) (cs : Array Value) : Prop := w.heap[g]? = some (.cells cs T (0, 0))
section
variable {T : TypeId} {w w' : World} {g : Nat} {cs : Array Value}
theorem Bk.lt (h : Bk T w g cs) : g < w.heap.size := lt_of_block h
theorem Bk.cell (h : Bk T w g cs) (i : Nat) : w.cell? ⟨g, i, none⟩ = cs[i]? := cell_of_row w g i _ T (0, 0) h
theorem Bk.frozen (h : Bk T w g cs) (i : Nat) : w.frozen? ⟨g, i, none⟩ = false := frozen_of_row w g i _ T h
theorem Bk.facts (h : Bk T w g cs) : (∀ i, w.cell? ⟨g, i, none⟩ = cs[i]?) ∧ (∀ i, w.frozen? ⟨g, i, none⟩ = false) ∧ g < w.heap.size := ⟨h.cell, h.frozen, h.lt⟩
theorem Bk.ext (h : Bk T w g cs) (hb : Below w.heap.size w w') : Bk T w' g cs := (hb.block g h.lt).trans h
theorem Bk.new (T : TypeId) (w : World) (cs : Array Value) : Bk T (w.alloc (.cells cs T)) w.heap.size cs := by simpa [Bk] using heap_alloc_new w _
theorem Bk.alloc (h : Bk T w g cs) (o : Obj) : Bk T (w.alloc o) g cs := h.ext (ext_alloc _ _)
theorem Bk.set (h : Bk T w g cs) (i : Nat) (x : Value) : Bk T (w.setCell ⟨g, i, none⟩ x) g (cs.setIfInBounds i x) := heap_setCell_same w g i _ T x h
theorem Bk.set_ne (h : Bk T w g cs) {k j : Nat} (hk : g ≠ k) (y : Value) : Bk T (w.setCell ⟨k, j, none⟩ y) g cs := (Below.heap_setCell _ _ _ _ hk).trans h
theorem Bk.below {B : Nat} (h : Bk T w g cs) (hb : Below B w w') (hg : g < B) : Bk T w' g cs := (hb.block g hg).trans h
end

def cellsOf (n : Nat) (d : Nat → Int) : Array Value := ((List.range n).map fun j => Value.int .i64 (d j)).toArray
theorem cellsOf_get {n : Nat} {d : Nat → Int} {i : Nat} (h : i < n) : (cellsOf n d)[i]? = some (.int .i64 (d i)) := by
  simp [cellsOf, h]
theorem cellsOf_size (n : Nat) (d : Nat → Int) : (cellsOf n d).size = n := by simp [cellsOf]
def upd (d : Nat → Int) (i : Nat) (v : Int) : Nat → Int := fun k => if k = i then v else d k
theorem cellsOf_set {n : Nat} {d : Nat → Int} {i : Nat} {v : Int} : (cellsOf n d).setIfInBounds i (.int .i64 v) = cellsOf n (upd d i v) := by
  unfold cellsOf
  rw [List.setIfInBounds_toArray]
  congr 1
  apply List.ext_getElem
  · simp
  · intro k h1 h2
    rw [List.getElem_set]
    simp only [List.getElem_map, List.getElem_range]
    unfold upd
    by_cases hk : i = k
    · subst hk; simp
    · rw [if_neg hk, if_neg (fun h => hk h.symm)]
/-- block b holds n ints, and nothing else -/
def Ow (T : TypeId) (b n : Nat) (d : Nat → Int) (w : World) : Prop := Bk T w b (cellsOf n d)
section
variable {T : TypeId} {b n : Nat} {d e : Nat → Int} {w w' : World}
theorem Ow.lt (h : Ow T b n d w) : b < w.heap.size := lt_of_block h
theorem Ow.cell (h : Ow T b n d w) {i : Nat} (hi : i < n) : w.cell? ⟨b, i, none⟩ = some (.int .i64 (d i)) := (Bk.cell h i).trans (cellsOf_get hi)
theorem Ow.frozen (h : Ow T b n d w) (i : Nat) : w.frozen? ⟨b, i, none⟩ = false := Bk.frozen h i
theorem Ow.set (h : Ow T b n d w) (i : Nat) (v : Int) : Ow T b n (upd d i v) (w.setCell ⟨b, i, none⟩ (.int .i64 v)) := by
  have h1 := Bk.set h i (.int .i64 v)
  rw [cellsOf_set] at h1
  exact h1
theorem Ow.ext (h : Ow T b n d w) (hb : Below w.heap.size w w') : Ow T b n d w' := Bk.ext h hb
theorem Ow.below {B : Nat} (h : Ow T b n d w) (hb : Below B w w') (hg : b < B) : Ow T b n d w' := Bk.below h hb hg
theorem Ow.set_ne (h : Ow T b n d w) {k j : Nat} (hk : b ≠ k) (y : Value) : Ow T b n d (w.setCell ⟨k, j, none⟩ y) := Bk.set_ne h hk y
theorem Ow.congr (h : Ow T b n d w) (hd : ∀ i, i < n → d i = e i) : Ow T b n e w := by
  have : cellsOf n d = cellsOf n e := by
    unfold cellsOf
    congr 1
    apply List.map_congr_left
    intro a ha
    rw [hd a (List.mem_range.1 ha)]
  unfold Ow
  rw [← this]
  exact h
theorem Ow.new (T : TypeId) (w : World) (n : Nat) (d : Nat → Int) : Ow T w.heap.size n d (w.alloc (.cells (cellsOf n d) T)) := Bk.new T w _
end
theorem zero_cells (n : Nat) : madeCells #[Value.int .i64 0] n = cellsOf n fun _ => 0 := by
  apply Array.ext'
  rw [toList_madeCells_one]
  simp [cellsOf]
  apply List.ext_getElem <;> simp
theorem run_zeros (n : Nat) (h : n ≤ 1000000) (W : World) : (Instr.makeSlice 77 (.int .i64 (n : Int)) (.int .i64 (n : Int))).run Tryz.prog W = .ok (.slice (some ⟨W.heap.size, 0, none⟩) n n) (W.alloc (.cells (cellsOf n fun _ => 0) 3)) := by
  obtain ⟨i, hi, hz, hsz, hby⟩ := info_parts (show (Tryz.prog.info? 3).map (fun i => (i.zero, i.size, i.bytes)) = some (some (.int .i64 0), 1, 8) from by kernel_rfl)
  have hr := run_make (P := Tryz.prog) W 77 3 i (.int .i64 0) Tryz.underlying77 hi hz .i64 .i64 n n (by omega) (by omega) (by rw [hby]; omega) (by omega)
  rw [hr, hsz, Nat.mul_one, Int.toNat_natCast]
  rw [show (Value.int .i64 0).cells = #[Value.int .i64 0] from rfl, zero_cells]

def cellsB (n : Nat) (d : Nat → Bool) : Array Value := ((List.range n).map fun j => Value.bool (d j)).toArray
theorem cellsB_get {n : Nat} {d : Nat → Bool} {i : Nat} (h : i < n) : (cellsB n d)[i]? = some (.bool (d i)) := by
  simp [cellsB, h]
def updB (d : Nat → Bool) (i : Nat) (v : Bool) : Nat → Bool := fun k => if k = i then v else d k
theorem cellsB_set {n : Nat} {d : Nat → Bool} {i : Nat} {v : Bool} : (cellsB n d).setIfInBounds i (.bool v) = cellsB n (updB d i v) := by
  unfold cellsB
  rw [List.setIfInBounds_toArray]
  congr 1
  apply List.ext_getElem
  · simp
  · intro k h1 h2
    rw [List.getElem_set]
    simp only [List.getElem_map, List.getElem_range]
    unfold updB
    by_cases hk : i = k
    · subst hk; simp
    · rw [if_neg hk, if_neg (fun h => hk h.symm)]
/-- block b holds n bools, and nothing else -/
def OwB (b n : Nat) (d : Nat → Bool) (w : World) : Prop := Bk 4 w b (cellsB n d)
section
variable {b n : Nat} {d e : Nat → Bool} {w w' : World}
theorem OwB.lt (h : OwB b n d w) : b < w.heap.size := lt_of_block h
theorem OwB.cell (h : OwB b n d w) {i : Nat} (hi : i < n) : w.cell? ⟨b, i, none⟩ = some (.bool (d i)) := (Bk.cell h i).trans (cellsB_get hi)
theorem OwB.frozen (h : OwB b n d w) (i : Nat) : w.frozen? ⟨b, i, none⟩ = false := Bk.frozen h i
theorem OwB.set (h : OwB b n d w) (i : Nat) (v : Bool) : OwB b n (updB d i v) (w.setCell ⟨b, i, none⟩ (.bool v)) := by
  have h1 := Bk.set h i (.bool v)
  rw [cellsB_set] at h1
  exact h1
theorem OwB.ext (h : OwB b n d w) (hb : Below w.heap.size w w') : OwB b n d w' := Bk.ext h hb
theorem OwB.set_ne (h : OwB b n d w) {k j : Nat} (hk : b ≠ k) (y : Value) : OwB b n d (w.setCell ⟨k, j, none⟩ y) := Bk.set_ne h hk y
theorem OwB.new (w : World) (n : Nat) (d : Nat → Bool) : OwB w.heap.size n d (w.alloc (.cells (cellsB n d) 4)) := Bk.new _ w _
end
/-- a slice of ints -/
def ISl (w : World) (A : Option Addr) (l : List Int) : Prop :=
  l = [] ∨ ∃ b off, A = some ⟨b, off, none⟩ ∧ b < w.heap.size ∧ ∀ j (h : j < l.length), w.cell? ⟨b, off + j, none⟩ = some (.int .i64 l[j])
theorem ISl.ext {w w' : World} {A : Option Addr} {l : List Int} (h : ISl w A l) (hb : Below w.heap.size w w') : ISl w' A l := by
  rcases h with h | ⟨b, off, hA, hlt, hc⟩
  · exact .inl h
  · exact .inr ⟨b, off, hA, Nat.lt_of_lt_of_le hlt hb.size, fun j hj => (hb.cell (p := ⟨b, off + j, none⟩) hlt).trans (hc j hj)⟩
theorem Ow.isl {T : TypeId} {b n : Nat} {d : Nat → Int} {w : World} (h : Ow T b n d w) {l : List Int} (hl : l.length = n) (hd : ∀ j (hj : j < l.length), l[j] = d j) : ISl w (some ⟨b, 0, none⟩) l :=
  .inr ⟨b, 0, rfl, h.lt, fun j hj => by rw [Nat.zero_add, h.cell (by omega), hd j hj]⟩


/-- a slice of strings -/
def TSl (w : World) (A : Option Addr) (l : List ByteArray) : Prop :=
  l = [] ∨ ∃ b off, A = some ⟨b, off, none⟩ ∧ b < w.heap.size ∧ ∀ j (h : j < l.length), w.cell? ⟨b, off + j, none⟩ = some (.string l[j])
theorem TSl.ext {w w' : World} {A : Option Addr} {l : List ByteArray} (h : TSl w A l) (hb : Below w.heap.size w w') : TSl w' A l := by
  rcases h with h | ⟨b, off, hA, hlt, hc⟩
  · exact .inl h
  · exact .inr ⟨b, off, hA, Nat.lt_of_lt_of_le hlt hb.size, fun j hj => (hb.cell (p := ⟨b, off + j, none⟩) hlt).trans (hc j hj)⟩
end Go.Proofs.YtjadbipbidghdaaGreatDoor
