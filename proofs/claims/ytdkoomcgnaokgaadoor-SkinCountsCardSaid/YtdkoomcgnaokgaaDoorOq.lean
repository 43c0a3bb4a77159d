/- How a slice of rectangles is opened. No conditions. -/
import Derived.Test.YtdkoomcgnaokgaaDoorOp
namespace Go.Proofs.YtdkoomcgnaokgaaDoor
open Go.ChangeShapes Go.WideShapes Go.ChangeAt Go.RowKit Go.Joins Go.Deep

structure R4 where
  x : Int
  y : Int
  a : Int
  b : Int
deriving Inhabited
/-- a slice of rectangles -/
def QSl (w : World) (A : Option Addr) (l : List R4) : Prop :=
  l = [] ∨ ∃ b off, A = some ⟨b, off, none⟩ ∧ b < w.heap.size ∧ ∀ j (h : j < l.length), w.cell? ⟨b, off + j * 4, none⟩ = some (.int .i64 l[j].x) ∧ w.cell? ⟨b, off + j * 4 + 1, none⟩ = some (.int .i64 l[j].y) ∧ w.cell? ⟨b, off + j * 4 + 2, none⟩ = some (.int .i64 l[j].a) ∧ w.cell? ⟨b, off + j * 4 + 3, none⟩ = some (.int .i64 l[j].b)
theorem QSl.ext {w w' : World} {A : Option Addr} {l : List R4} (h : QSl w A l) (hb : Below w.heap.size w w') : QSl w' A l := by
  rcases h with h | ⟨b, off, hA, hlt, h⟩
  · exact .inl h
  · refine .inr ⟨b, off, hA, Nat.lt_of_lt_of_le hlt hb.size, fun j hj => ?_⟩
    obtain ⟨h1, h2, h3, h4⟩ := h j hj
    exact ⟨(hb.cell (p := ⟨b, off + j * 4, none⟩) hlt).trans h1, (hb.cell (p := ⟨b, off + j * 4 + 1, none⟩) hlt).trans h2, (hb.cell (p := ⟨b, off + j * 4 + 2, none⟩) hlt).trans h3, (hb.cell (p := ⟨b, off + j * 4 + 3, none⟩) hlt).trans h4⟩
theorem cellsRect : Tryd.prog.cellsOf 31 = 4 := by kernel_rfl
section
variable {H : Type} {enc : TypeId × Value → H} {w : World} {spare : Nat → Bool} {held : Bool} {r : Reach} {b0 : Nat}
set_option maxRecDepth 100000 in
theorem open_rects {v : Value} {fuel : Nat} {y : DataW H × List MemPlace} (h : DataW.trod enc Tryd.prog w 0 spare held fuel 45 [v] = some y) :
    ∃ A c l, v = .slice A (List.length l) c ∧ l.length ≤ c ∧ c ≤ 9223372036854775807 ∧ QSl w A l := by
  rcases open_slice Tryd.underlying45 h with ⟨h0, _⟩ | ⟨a', len, cap, m, n, D, Pl, hcs, hb, hl, hm, hmm, _, hx⟩
  · injection h0 with h0
    exact ⟨none, 0, [], h0, by simp, by simp, .inl rfl⟩
  · injection hcs with hcs
    have hlm : len ≤ m := by rw [hmm]; split <;> omega
    have each : ∀ i, i < len → ∃ q : R4, (w.cell? ((a'.add (i * 4)).add 0) = some (.int .i64 q.x) ∧ w.cell? ((a'.add (i * 4)).add 1) = some (.int .i64 q.y) ∧ w.cell? ((a'.add (i * 4)).add 2) = some (.int .i64 q.a) ∧ w.cell? ((a'.add (i * 4)).add 3) = some (.int .i64 q.b)) := by
      intro i hi
      obtain ⟨cs', hc, ht⟩ := hx i (by omega)
      rw [cellsRect] at hc
      obtain ⟨_, hcl, hat⟩ := World.cells?_some hc
      obtain ⟨ys, n', _, hy, _, hyl, hf⟩ := DataW.trod_struct Tryd.underlying31 ht
      match cs', hcl with
      | [c0, c1, c2, c3], _ =>
        match ys, hyl with
        | [y0, y1, y2, y3], _ =>
          obtain ⟨a, e0, _, wa⟩ := DataW.trod_int Tryd.underlying3 (hf 0 _ rfl)
          obtain ⟨b, e1, _, wb⟩ := DataW.trod_int Tryd.underlying3 (hf 1 _ rfl)
          obtain ⟨c, e2, _, wc⟩ := DataW.trod_int Tryd.underlying3 (hf 2 _ rfl)
          obtain ⟨d, e3, _, wd⟩ := DataW.trod_int Tryd.underlying3 (hf 3 _ rfl)
          have k1 : Tryd.prog.cellsOf 3 = 1 := by kernel_rfl
          simp [k1] at e0 e1 e2 e3
          refine ⟨⟨a, b, c, d⟩, ?_, ?_, ?_, ?_⟩
          · rw [hat 0 (by omega), ← e0]; rfl
          · rw [hat 1 (by omega), ← e1]; rfl
          · rw [hat 2 (by omega), ← e2]; rfl
          · rw [hat 3 (by omega), ← e3]; rfl
    obtain ⟨q, hq⟩ := choose_lt each
    refine ⟨some a', cap, (List.range len).map q, by simpa using hcs, by simpa using hl, by simp [maxLen] at hm ⊢; omega, ?_⟩
    rcases Nat.eq_zero_or_pos len with h0 | h0
    · subst h0
      exact .inl (by simp)
    · obtain ⟨b, off, spot⟩ := a'
      have h2 := (hq 0 h0).1
      have e : ((⟨b, off, spot⟩ : Addr).add (0 * 4)).add 0 = ⟨b, off, spot⟩ := by simp [Addr.add]
      rw [e] at h2
      obtain rfl : spot = none := World.cell?_spot h2
      have hadd : ∀ i j, ((⟨b, off, none⟩ : Addr).add i).add j = ⟨b, off + i + j, none⟩ := by
        intro i j
        simp only [Addr.add]
        split <;> split <;> simp_all
      refine .inr ⟨b, off, rfl, World.block_lt_of_cell? w ⟨b, _, _⟩ h2, fun j hj => ?_⟩
      simp at hj
      have h3 := hq j hj
      rw [hadd, hadd, hadd, hadd] at h3
      simpa using h3
set_option maxRecDepth 100000 in
theorem open_rects' {v : Value} {d : DataW H} {p : List MemPlace} (hv : Value.okWide Tryd.prog w r b0 45 v) (h : DataW.Trod enc Tryd.prog w 0 spare held 45 v d p) :
    ∃ A c l, v = .slice A (List.length l) c ∧ l.length ≤ c ∧ c ≤ 9223372036854775807 ∧ QSl w A l := by
  obtain ⟨a, n, c, rfl⟩ := okWide_slice Tryd.underlying45 hv
  obtain ⟨fuel, hf⟩ := h
  exact open_rects (y := (d, p)) hf
end
end Go.Proofs.YtdkoomcgnaokgaaDoor
