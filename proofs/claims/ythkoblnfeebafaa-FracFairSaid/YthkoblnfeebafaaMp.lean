/- What frac.Share's variables hold; rows of zeros. No conditions. -/
import Derived.Test.YthkoblnfeebafaaMl
import Derived.Test.YthkoblnfeebafaaMj
import Derived.Test.YthkoblnfeebafaaMq
namespace Go.Proofs.Ythkoblnfeebafaa
open Go.RowKit

/-- a variable of one cell -/
def C1 (T : TypeId) (w : World) (g : Nat) (x : Value) : Prop := w.heap[g]? = some (.cells #[x] T (0, 0))
theorem C1.facts {T : TypeId} {w : World} {g : Nat} {x : Value} (h : C1 T w g x) : (∀ i, w.cell? ⟨g, i, none⟩ = #[x][i]?) ∧ (∀ i, w.frozen? ⟨g, i, none⟩ = false) ∧ g < w.heap.size :=
  ⟨fun i => cell_of_row w g i _ T (0, 0) h, fun i => frozen_of_row w g i _ T h, lt_of_block h⟩
theorem C1.cell {T : TypeId} {w : World} {g : Nat} {x : Value} (h : C1 T w g x) : w.cell? ⟨g, 0, none⟩ = some x := h.facts.1 0
theorem C1.ext {T : TypeId} {w w' : World} {g : Nat} {x : Value} (h : C1 T w g x) (hb : Below w.heap.size w w') : C1 T w' g x := (hb.block g (lt_of_block h)).trans h
theorem C1.new {T : TypeId} (w : World) (x : Value) : C1 T (w.alloc (.cells #[x] T)) w.heap.size x := by simpa [C1] using heap_alloc_new w _
theorem C1.alloc {T : TypeId} {w : World} {g : Nat} {x : Value} (h : C1 T w g x) (o : Obj) : C1 T (w.alloc o) g x := h.ext ((Below.refl _ _).alloc (Nat.le_refl _) _)
theorem C1.set {T : TypeId} {w : World} {g : Nat} {x : Value} (h : C1 T w g x) (y : Value) : C1 T (w.setCell ⟨g, 0, none⟩ y) g y := heap_setCell_same w g 0 _ T y h
theorem C1.set_ne {T : TypeId} {w : World} {g k j : Nat} {x : Value} (h : C1 T w g x) (hk : g ≠ k) (y : Value) : C1 T (w.setCell ⟨k, j, none⟩ y) g x := (Below.heap_setCell _ _ _ _ hk).trans h
theorem Ow.set_ne {b n : Nat} {d : Nat → Int} {w : World} (h : Ow b n d w) {k j : Nat} (hk : b ≠ k) (y : Value) : Ow b n d (w.setCell ⟨k, j, none⟩ y) := (Below.heap_setCell _ _ _ _ hk).trans h
theorem Ow.congr {b n : Nat} {d e : Nat → Int} {w : World} (h : Ow b n d w) (hd : ∀ i, i < n → d i = e i) : Ow b n e w := by
  have : cellsOf n d = cellsOf n e := by
    unfold cellsOf
    congr 1
    apply List.map_congr_left
    intro a ha
    rw [hd a (List.mem_range.1 ha)]
  unfold Ow
  rw [← this]
  exact h
theorem zero_cells (n : Nat) : madeCells #[Value.int .i64 0] n = cellsOf n fun _ => 0 := by
  apply Array.ext'
  rw [toList_madeCells_one]
  simp [cellsOf]
  apply List.ext_getElem <;> simp
theorem Ow.new (w : World) (n : Nat) (d : Nat → Int) : Ow w.heap.size n d (w.alloc (.cells (cellsOf n d) 3)) := by simpa [Ow] using heap_alloc_new w _
theorem run_zeros (n : Nat) (h : n ≤ 1000000) (W : World) : (Instr.makeSlice 36 (.int .i64 (n : Int)) (.int .i64 (n : Int))).run Try.prog W = .ok (.slice (some ⟨W.heap.size, 0, none⟩) n n) (W.alloc (.cells (cellsOf n fun _ => 0) 3)) := by
  obtain ⟨i, hi, hz, hsz, hby⟩ := info_parts (show (Try.prog.info? 3).map (fun i => (i.zero, i.size, i.bytes)) = some (some (.int .i64 0), 1, 8) from by kernel_rfl)
  have hr := run_make (P := Try.prog) W 36 3 i (.int .i64 0) Try.underlying36 hi hz .i64 .i64 n n (by omega) (by omega) (by rw [hby]; omega) (by omega)
  rw [hr, hsz, Nat.mul_one, Int.toNat_natCast]
  rw [show (Value.int .i64 0).cells = #[Value.int .i64 0] from rfl, zero_cells]

/-- Share's own variables behind its first steps: the pieces, the weights, the sum -/
def SHv (w : World) (nn : Int) (A : Option Addr) (m cap : Nat) (s : Int) (wx : World) : Prop :=
  Below w.heap.size w wx ∧ C1 3 wx w.heap.size (.int .i64 nn) ∧ C1 36 wx (w.heap.size + 1) (.slice A m cap) ∧ C1 3 wx (w.heap.size + 1 + 1) (.int .i64 s)
theorem SHv.set {w : World} {nn : Int} {A : Option Addr} {m cap : Nat} {s : Int} {wx : World} (h : SHv w nn A m cap s wx) (s' : Int) : SHv w nn A m cap s' (wx.setCell ⟨w.heap.size + 1 + 1, 0, none⟩ (.int .i64 s')) := by
  obtain ⟨h1, h2, h3, h4⟩ := h
  exact ⟨h1.setCell (by show w.heap.size ≤ w.heap.size + 1 + 1; omega) _, h2.set_ne (by omega) _, h3.set_ne (by omega) _, h4.set _⟩
theorem SHv.ext {w : World} {nn : Int} {A : Option Addr} {m cap : Nat} {s : Int} {wx wy : World} (h : SHv w nn A m cap s wx) (hb : Below wx.heap.size wx wy) : SHv w nn A m cap s wy := by
  obtain ⟨h1, h2, h3, h4⟩ := h
  exact ⟨bext h1 hb h1.size, h2.ext hb, h3.ext hb, h4.ext hb⟩
theorem SHv.start (w : World) (nn : Int) (A : Option Addr) (m cap : Nat) : SHv w nn A m cap 0 (((w.alloc (.cells #[.int .i64 nn] 3)).alloc (.cells #[.slice A m cap] 36)).alloc (.cells #[.int .i64 0] 3)) := by
  have c1 := C1.new (T := 36) (w.alloc (.cells #[.int .i64 nn] 3)) (.slice A m cap)
  have c2 := C1.new (T := 3) ((w.alloc (.cells #[.int .i64 nn] 3)).alloc (.cells #[.slice A m cap] 36)) (.int .i64 0)
  simp only [World.size_alloc] at c1 c2
  exact ⟨(((Below.refl _ _).alloc (Nat.le_refl _) _).alloc (by simp) _).alloc (by simp; omega) _, ((C1.new w _).alloc _).alloc _, c1.alloc _, c2⟩
theorem SHv.cells {w : World} {nn : Int} {A : Option Addr} {m cap : Nat} {s : Int} {wx : World} (h : SHv w nn A m cap s wx) :
    wx.cell? ⟨w.heap.size, 0, none⟩ = some (.int .i64 nn) ∧ wx.cell? ⟨w.heap.size + 1, 0, none⟩ = some (.slice A m cap) ∧ wx.cell? ⟨w.heap.size + 1 + 1, 0, none⟩ = some (.int .i64 s) ∧ wx.frozen? ⟨w.heap.size + 1 + 1, 0, none⟩ = false ∧ w.heap.size + 1 + 1 < wx.heap.size :=
  ⟨h.2.1.cell, h.2.2.1.cell, h.2.2.2.cell, h.2.2.2.facts.2.1 0, h.2.2.2.facts.2.2⟩
/-- and the two rows -/
def SHo (w : World) (nn : Int) (A : Option Addr) (m cap : Nat) (s : Int) (b o : Nat) (dO dR : Nat → Int) (wx : World) : Prop :=
  SHv w nn A m cap s wx ∧ w.heap.size + 1 + 1 < b ∧ w.heap.size + 1 + 1 < o ∧ b ≠ o ∧ Ow b m dO wx ∧ Ow o m dR wx
theorem SHo.ext {w : World} {nn : Int} {A : Option Addr} {m cap : Nat} {s : Int} {b o : Nat} {dO dR : Nat → Int} {wx wy : World} (h : SHo w nn A m cap s b o dO dR wx) (hb : Below wx.heap.size wx wy) : SHo w nn A m cap s b o dO dR wy := by
  obtain ⟨h1, h2, h3, h4, h5, h6⟩ := h
  exact ⟨h1.ext hb, h2, h3, h4, h5.ext hb, h6.ext hb⟩
theorem SHo.set {w : World} {nn : Int} {A : Option Addr} {m cap : Nat} {s : Int} {b o : Nat} {dO dR : Nat → Int} {wx : World} (h : SHo w nn A m cap s b o dO dR wx) (i : Nat) (x : Int) : SHo w nn A m cap s b o (upd dO i x) dR (wx.setCell ⟨b, i, none⟩ (.int .i64 x)) := by
  obtain ⟨⟨a1, a2, a3, a4⟩, h2, h3, h4, h5, h6⟩ := h
  exact ⟨⟨a1.setCell (by show w.heap.size ≤ b; omega) _, a2.set_ne (by omega) _, a3.set_ne (by omega) _, a4.set_ne (by omega) _⟩, h2, h3, h4, h5.set i x, h6.set_ne (Ne.symm h4) _⟩
theorem SHo.setR {w : World} {nn : Int} {A : Option Addr} {m cap : Nat} {s : Int} {b o : Nat} {dO dR : Nat → Int} {wx : World} (h : SHo w nn A m cap s b o dO dR wx) (i : Nat) (x : Int) : SHo w nn A m cap s b o dO (upd dR i x) (wx.setCell ⟨o, i, none⟩ (.int .i64 x)) := by
  obtain ⟨⟨a1, a2, a3, a4⟩, h2, h3, h4, h5, h6⟩ := h
  exact ⟨⟨a1.setCell (by show w.heap.size ≤ o; omega) _, a2.set_ne (by omega) _, a3.set_ne (by omega) _, a4.set_ne (by omega) _⟩, h2, h3, h4, h5.set_ne h4 _, h6.set i x⟩
/-- behind what turns the row o alone -/
theorem SHo.fr {w : World} {nn : Int} {A : Option Addr} {m cap : Nat} {s : Int} {b o : Nat} {dO dR dR' : Nat → Int} {wx wy : World} (h : SHo w nn A m cap s b o dO dR wx) (hf : Fr o wx wy) (ho : Ow o m dR' wy) : SHo w nn A m cap s b o dO dR' wy := by
  obtain ⟨⟨a1, a2, a3, a4⟩, h2, h3, h4, h5, h6⟩ := h
  have hk : ∀ {g : Nat}, g < wx.heap.size → g ≠ o → wy.heap[g]? = wx.heap[g]? := fun hg hne => hf.block _ hg (fun e => hne (by injection e))
  exact ⟨⟨hf.out a1 (by omega) a1.size, (hk (lt_of_block a2) (by omega)).trans a2, (hk (lt_of_block a3) (by omega)).trans a3, (hk (lt_of_block a4) (by omega)).trans a4⟩, h2, h3, h4, (hk h5.lt h4).trans h5, ho⟩
/-- the first k in place, zeros behind -/
def pre (f : Nat → Int) (k : Nat) : Nat → Int := fun j => if j < k then f j else 0
theorem pre_zero (f : Nat → Int) : pre f 0 = fun _ => 0 := by funext j; unfold pre; rw [if_neg (by omega)]
theorem pre_succ (f : Nat → Int) (k : Nat) : upd (pre f k) k (f k) = pre f (k + 1) := by
  funext j
  unfold upd pre
  by_cases h : j = k
  · rw [if_pos h, if_pos (by omega), h]
  · rw [if_neg h]
    by_cases h2 : j < k
    · rw [if_pos h2, if_pos (by omega)]
    · rw [if_neg h2, if_neg (by omega)]
theorem SHo.start {w : World} {nn : Int} {A : Option Addr} {m cap : Nat} {s : Int} {wx : World} (h : SHv w nn A m cap s wx) : SHo w nn A m cap s wx.heap.size (wx.heap.size + 1) (fun _ => 0) (fun _ => 0) ((wx.alloc (.cells (cellsOf m fun _ => 0) 3)).alloc (.cells (cellsOf m fun _ => 0) 3)) := by
  have h2 := Ow.new (wx.alloc (.cells (cellsOf m fun _ => 0) 3)) m (fun _ => 0)
  have e : (wx.alloc (.cells (cellsOf m fun _ => 0) 3)).heap.size = wx.heap.size + 1 := by simp
  rw [e] at h2
  have hx := ((Below.refl wx.heap.size wx).alloc (Nat.le_refl _) (.cells (cellsOf m fun _ => 0) 3)).alloc (by simp) (.cells (cellsOf m fun _ => 0) 3)
  exact ⟨h.ext hx, h.cells.2.2.2.2, by have := h.cells.2.2.2.2; omega, by omega, (Ow.new wx m _).ext ((Below.refl _ _).alloc (Nat.le_refl _) _), h2⟩
theorem SHo.startR {w : World} {nn : Int} {A : Option Addr} {m cap : Nat} {s : Int} {wx : World} (h : SHv w nn A m cap s wx) : SHo w nn A m cap s (wx.heap.size + 1) wx.heap.size (fun _ => 0) (fun _ => 0) ((wx.alloc (.cells (cellsOf m fun _ => 0) 3)).alloc (.cells (cellsOf m fun _ => 0) 3)) := by
  obtain ⟨h1, h2, h3, h4, h5, h6⟩ := SHo.start h
  exact ⟨h1, h3, h2, Ne.symm h4, h6, h5⟩
theorem Ow.isl {b n : Nat} {d : Nat → Int} {w : World} (h : Ow b n d w) {l : List Int} (hl : l.length = n) (hd : ∀ j (hj : j < l.length), l[j] = d j) : ISl w (some ⟨b, 0, none⟩) l :=
  .inr ⟨b, 0, rfl, h.lt, fun j hj => by rw [Nat.zero_add, h.cell (by omega), hd j hj]⟩
/-- what Share answers -/
def RetSh (w : World) (nn : Int) (v : List Int) (e : Ending) (w' : World) : Prop :=
  Below w.heap.size w w' ∧ ((∃ er : Int, e = .returned (.tuple #[.slice none 0 0, .int .i64 er]) ∧ ShE nn v er) ∨
    (ShG nn v ∧ ∃ (d : Nat → Int) (b : Nat), Ord nn v d ∧ e = .returned (.tuple #[.slice (some ⟨b, 0, none⟩) v.length v.length, .int .i64 0]) ∧ ISl w' (some ⟨b, 0, none⟩) (shs nn v d)))
end Go.Proofs.Ythkoblnfeebafaa
