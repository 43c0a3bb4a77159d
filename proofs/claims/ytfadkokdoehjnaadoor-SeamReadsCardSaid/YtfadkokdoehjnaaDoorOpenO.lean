/- How a law's argument of ops is opened. No conditions. -/
import Derived.Test.YtfadkokdoehjnaaDoorOpen
import Derived.Test.YtfadkokdoehjnaaDoorOpm
namespace Go.Proofs.YtfadkokdoehjnaaDoor
open Go.ChangeShapes Go.WideShapes Go.ChangeAt Go.RowKit Go.Joins Go.Deep

theorem cellsOp : Tryd.prog.cellsOf 34 = 3 := by kernel_rfl
section
variable {H : Type} {enc : TypeId × Value → H} {w : World} {spare : Nat → Bool} {held : Bool} {r : Reach} {b0 : Nat}
set_option maxRecDepth 100000 in
theorem open_ops {v : Value} {fuel : Nat} {y : DataW H × List MemPlace} (h : DataW.trod enc Tryd.prog w 0 spare held fuel 22 [v] = some y) :
    ∃ A c l, v = .slice A (List.length l) c ∧ l.length ≤ c ∧ c ≤ 9223372036854775807 ∧ OSl w A l := by
  rcases open_slice Tryd.underlying22 h with ⟨h0, _⟩ | ⟨a', len, cap, m, n, D, Pl, hcs, hb, hl, hm, hmm, hy, hx⟩
  · injection h0 with h0
    exact ⟨none, 0, [], h0, by simp, by simp, .inl rfl⟩
  · injection hcs with hcs
    have hlm : len ≤ m := by rw [hmm]; split <;> omega
    have each : ∀ i, i < len → ∃ q : Opr, w.cell? ((a'.add (i * 3)).add 0) = some (.int .i64 q.c) ∧ w.cell? ((a'.add (i * 3)).add 1) = some (.int .i64 q.g) ∧ w.cell? ((a'.add (i * 3)).add 2) = some (.bool q.b) := by
      intro i hi
      obtain ⟨cs', hc, ht⟩ := hx i (by omega)
      rw [cellsOp] at hc
      obtain ⟨_, hcl, hat⟩ := World.cells?_some hc
      obtain ⟨ys, n', _, hy, _, hyl, hf⟩ := DataW.trod_struct Tryd.underlying34 ht
      match cs', hcl with
      | [c0, c1, c2], _ =>
        match ys, hyl with
        | [y0, y1, y2], _ =>
          obtain ⟨a, e0, _, wa⟩ := DataW.trod_int Tryd.underlying3 (hf 0 _ rfl)
          obtain ⟨b, e1, _, wb⟩ := DataW.trod_int Tryd.underlying3 (hf 1 _ rfl)
          obtain ⟨c, e2, _⟩ := DataW.trod_bool Tryd.underlying4 (hf 2 _ rfl)
          have k1 : Tryd.prog.cellsOf 3 = 1 := by kernel_rfl
          have k2 : Tryd.prog.cellsOf 4 = 1 := by kernel_rfl
          simp [k1, k2] at e0 e1 e2
          refine ⟨⟨a, b, c⟩, ?_, ?_, ?_⟩
          · rw [hat 0 (by omega), ← e0]; rfl
          · rw [hat 1 (by omega), ← e1]; rfl
          · rw [hat 2 (by omega), ← e2]; rfl
    obtain ⟨q, hq⟩ := choose_lt each
    refine ⟨some a', cap, (List.range len).map q, by simpa using hcs, by simpa using hl, by simp [maxLen] at hm ⊢; omega, ?_⟩
    rcases Nat.eq_zero_or_pos len with h0 | h0
    · subst h0
      exact .inl (by simp)
    · obtain ⟨b, off, spot⟩ := a'
      have h2 := (hq 0 h0).1
      have e : ((⟨b, off, spot⟩ : Addr).add (0 * 3)).add 0 = ⟨b, off, spot⟩ := by simp [Addr.add]
      rw [e] at h2
      obtain rfl : spot = none := World.cell?_spot h2
      have hadd : ∀ i j, ((⟨b, off, none⟩ : Addr).add i).add j = ⟨b, off + i + j, none⟩ := by
        intro i j
        simp only [Addr.add]
        split <;> split <;> simp_all
      refine .inr ⟨b, off, rfl, World.block_lt_of_cell? w ⟨b, _, _⟩ h2, fun j hj => ?_⟩
      simp at hj
      have h3 := hq j hj
      rw [hadd, hadd, hadd] at h3
      simpa using h3
set_option maxRecDepth 100000 in
theorem open_ops' {v : Value} {d : DataW H} {p : List MemPlace} (hv : Value.okWide Tryd.prog w r b0 22 v) (h : DataW.Trod enc Tryd.prog w 0 spare held 22 v d p) :
    ∃ A c l, v = .slice A (List.length l) c ∧ l.length ≤ c ∧ c ≤ 9223372036854775807 ∧ OSl w A l := by
  obtain ⟨a, n, c, rfl⟩ := okWide_slice Tryd.underlying22 hv
  obtain ⟨fuel, hf⟩ := h
  exact open_ops (y := (d, p)) hf
end
end Go.Proofs.YtfadkokdoehjnaaDoor
