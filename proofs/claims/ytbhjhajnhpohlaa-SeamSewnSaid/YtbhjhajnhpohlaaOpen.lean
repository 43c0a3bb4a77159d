/- How the laws' arguments are opened: an int, a graph of the reference. No conditions. -/
import Derived.Test.YtbhjhajnhpohlaaRows
import Derived.WalkKit
import Derived.ProofKit
import Derived.OpenShut
import Derived.ShutString
import Derived.ChangeOld
import Derived.Below
import Derived.Lib.SmallJoins
import Derived.Deep.Slices
import Derived.Deep.SlicePairs
import Derived.Test.YtbhjhajnhpohlaaWd
namespace Go.Proofs.Ytbhjhajnhpohlaa
open Go.ChangeShapes Go.WideShapes Go.ChangeAt Go.RowKit Go.Joins Go.Deep

theorem own : ownKnob Try.prog.godebug = none := by kernel_rfl
theorem laidOut : laidOutB Try.prog = true := by kernel_rfl
theorem cellsGraph : Try.prog.cellsOf 24 = 2 := by kernel_rfl
theorem cellsSeam : Try.prog.cellsOf 69 = 4 := by kernel_rfl
instance : Inhabited Sm := ⟨⟨0, 0, 0, 0⟩⟩

theorem isI_wf {n : Int} (h : (Lit.int .i64 n).wf = true) : IsI n := by
  obtain ⟨h1, h2⟩ := bounds_i64 h
  exact ⟨by omega, by omega⟩

section
variable {H : Type} {enc : TypeId × Value → H} {w : World} {spare : Nat → Bool} {held : Bool} {r : Reach} {b0 : Nat}
set_option maxRecDepth 100000 in
theorem open_int' {v : Value} {d : DataW H} {p : List MemPlace} (hv : Value.okWide Try.prog w r b0 3 v) (h : DataW.Trod enc Try.prog w 0 spare held 3 v d p) :
    ∃ n, v = .int .i64 n ∧ IsI n := by
  obtain ⟨x, rfl, rfl, rfl, wx⟩ := open_int Try.underlying3 hv h
  exact ⟨x, rfl, isI_wf wx⟩
set_option maxRecDepth 100000 in
theorem open_seams {v : Value} {fuel : Nat} {y : DataW H × List MemPlace} (h : DataW.trod enc Try.prog w 0 spare held fuel 22 [v] = some y) :
    ∃ A c l, v = .slice A (List.length l) c ∧ l.length ≤ c ∧ c ≤ 9223372036854775807 ∧ SSl w A l ∧ ∀ s ∈ l, s.isI := by
  rcases open_slice Try.underlying22 h with ⟨h0, _⟩ | ⟨a', len, cap, m, n, D, Pl, hcs, hb, hl, hm, hmm, _, hx⟩
  · injection h0 with h0
    exact ⟨none, 0, [], h0, by simp, by simp, .inl rfl, by simp⟩
  · injection hcs with hcs
    have hlm : len ≤ m := by rw [hmm]; split <;> omega
    have each : ∀ i, i < len → ∃ q : Sm, (w.cell? ((a'.add (i * 4)).add 0) = some (.int .i64 q.a) ∧ w.cell? ((a'.add (i * 4)).add 1) = some (.int .i64 q.b) ∧ w.cell? ((a'.add (i * 4)).add 2) = some (.int .i64 q.n) ∧ w.cell? ((a'.add (i * 4)).add 3) = some (.int .i64 q.t)) ∧ q.isI := by
      intro i hi
      obtain ⟨cs', hc, ht⟩ := hx i (by omega)
      rw [cellsSeam] at hc
      obtain ⟨_, hcl, hat⟩ := World.cells?_some hc
      obtain ⟨ys, n', _, hy, _, hyl, hf⟩ := DataW.trod_struct Try.underlying69 ht
      match cs', hcl with
      | [c0, c1, c2, c3], _ =>
        match ys, hyl with
        | [y0, y1, y2, y3], _ =>
          obtain ⟨a, e0, _, wa⟩ := DataW.trod_int Try.underlying3 (hf 0 _ rfl)
          obtain ⟨b, e1, _, wb⟩ := DataW.trod_int Try.underlying3 (hf 1 _ rfl)
          obtain ⟨c, e2, _, wc⟩ := DataW.trod_int Try.underlying3 (hf 2 _ rfl)
          obtain ⟨d, e3, _, wd⟩ := DataW.trod_int Try.underlying3 (hf 3 _ rfl)
          have k1 : Try.prog.cellsOf 3 = 1 := by kernel_rfl
          simp [k1] at e0 e1 e2 e3
          refine ⟨⟨a, b, c, d⟩, ⟨?_, ?_, ?_, ?_⟩, isI_wf wa, isI_wf wb, isI_wf wc, isI_wf wd⟩
          · rw [hat 0 (by omega), ← e0]; rfl
          · rw [hat 1 (by omega), ← e1]; rfl
          · rw [hat 2 (by omega), ← e2]; rfl
          · rw [hat 3 (by omega), ← e3]; rfl
    obtain ⟨q, hq⟩ := choose_lt each
    refine ⟨some a', cap, (List.range len).map q, by simpa using hcs, by simpa using hl, by simp [maxLen] at hm ⊢; omega, ?_, ?_⟩
    · rcases Nat.eq_zero_or_pos len with h0 | h0
      · subst h0
        exact .inl (by simp)
      · obtain ⟨b, off, spot⟩ := a'
        have h2 := (hq 0 h0).1.1
        have e : ((⟨b, off, spot⟩ : Addr).add (0 * 4)).add 0 = ⟨b, off, spot⟩ := by simp [Addr.add]
        rw [e] at h2
        obtain rfl : spot = none := World.cell?_spot h2
        have hadd : ∀ i j, ((⟨b, off, none⟩ : Addr).add i).add j = ⟨b, off + i + j, none⟩ := by
          intro i j
          simp only [Addr.add]
          split <;> split <;> simp_all
        refine .inr ⟨b, off, rfl, World.block_lt_of_cell? w ⟨b, _, _⟩ h2, fun j hj => ?_⟩
        simp at hj
        have h3 := (hq j hj).1
        rw [hadd, hadd, hadd, hadd] at h3
        simpa using h3
    · intro x hx
      obtain ⟨j, hj, rfl⟩ := List.mem_map.1 hx
      exact (hq j (List.mem_range.1 hj)).2
set_option maxRecDepth 100000 in
theorem open_graph {v : Value} {d : DataW H} {p : List MemPlace} (hv : Value.okWide Try.prog w r b0 24 v) (h : DataW.Trod enc Try.prog w 0 spare held 24 v d p) :
    ∃ N A c l, v = .agg #[.int .i64 N, .slice A (List.length l) c] ∧ l.length ≤ c ∧ c ≤ 9223372036854775807 ∧ SSl w A l ∧ IsI N ∧ ∀ s ∈ l, s.isI := by
  obtain ⟨c0, c1, y0, y1, m, rfl, rfl, rfl, hy0, hy1⟩ := open_agg2 Try.underlying24 (by kernel_rfl) cellsGraph hv h
  obtain ⟨a, e0, _, wa⟩ := DataW.trod_int Try.underlying3 hy0
  simp at e0
  obtain ⟨A, c, l, e1, h1, h2, h3, h4⟩ := open_seams hy1
  exact ⟨a, A, c, l, by rw [e0, e1], h1, h2, h3, isI_wf wa, h4⟩
end
end Go.Proofs.Ytbhjhajnhpohlaa
