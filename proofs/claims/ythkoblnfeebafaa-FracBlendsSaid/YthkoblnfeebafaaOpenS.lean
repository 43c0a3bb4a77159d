/- How a slice of fractions is opened. No conditions. -/
import Derived.Test.YthkoblnfeebafaaOpen
import Derived.Deep.SlicePairs
namespace Go.Proofs.Ythkoblnfeebafaa
open Go.ChangeShapes Go.WideShapes Go.ChangeAt Go.RowKit Go.Joins Go.Deep

section
variable {H : Type} {enc : TypeId × Value → H} {w : World} {spare : Nat → Bool} {held : Bool} {r : Reach} {b0 : Nat}
set_option maxRecDepth 100000 in
theorem open_fracs {v : Value} {d : DataW H} {p : List MemPlace} (hv : Value.okWide Try.prog w r b0 33 v) (h : DataW.Trod enc Try.prog w 0 spare held 33 v d p) :
    ∃ A c l, v = .slice A (List.length l) c ∧ l.length ≤ 9223372036854775807 ∧ FSl w A l ∧ ∀ x ∈ l, IsI x.1 ∧ IsI x.2 := by
  obtain ⟨a, len, cap, rfl⟩ := okWide_slice Try.underlying33 hv
  obtain ⟨fuel, hf⟩ := h
  rcases open_slice_pairs Try.underlying33 Try.underlying23 cellsFrac rfl rfl (by kernel_rfl) (by kernel_rfl) hf with ⟨h0, _⟩ | ⟨a', len', cap', m, n, V0, V1, D0, D1, P0, P1, hcs, hb, hl, hm, hmm, _, hx⟩
  · simp [Value.cells] at h0
    obtain ⟨rfl, rfl, rfl⟩ := h0
    exact ⟨none, 0, [], rfl, by simp, .inl rfl, by simp⟩
  · simp [Value.cells] at hcs
    obtain ⟨rfl, rfl, rfl⟩ := hcs
    have hlm : len ≤ m := by rw [hmm]; split <;> omega
    have each : ∀ i, i < len → ∃ q : Int × Int, w.cell? (a'.add (i * 2)) = some (.int .i64 q.1) ∧ w.cell? (a'.add (i * 2 + 1)) = some (.int .i64 q.2) ∧ IsI q.1 ∧ IsI q.2 := by
      intro i hi
      obtain ⟨h0, h1, h2, h3⟩ := hx i (by omega)
      obtain ⟨a, e0, _, wa⟩ := DataW.trod_int Try.underlying3 h2
      obtain ⟨b, e1, _, wb⟩ := DataW.trod_int Try.underlying3 h3
      simp at e0 e1
      rw [e0] at h0
      rw [e1] at h1
      exact ⟨(a, b), h0, h1, isI_wf wa, isI_wf wb⟩
    obtain ⟨q, hq⟩ := choose_lt each
    refine ⟨some a', cap, (List.range len).map q, by simp, by simp [maxLen] at hm ⊢; omega, ?_, ?_⟩
    · rcases Nat.eq_zero_or_pos len with h0 | h0
      · subst h0
        exact .inl (by simp)
      · obtain ⟨b, off, spot⟩ := a'
        have h1 := (hq 0 h0).2.1
        have h2 := (hq 0 h0).1
        have e : (⟨b, off, spot⟩ : Addr).add (0 * 2) = ⟨b, off, spot⟩ := by simp [Addr.add]
        rw [e] at h2
        obtain rfl : spot = none := World.cell?_spot h2
        refine .inr ⟨b, off, rfl, World.block_lt_of_cell? w ⟨b, _, _⟩ h2, fun j hj => ?_⟩
        simp at hj
        have h3 := hq j hj
        simp only [Addr.add] at h3
        refine ⟨?_, ?_⟩
        · have h4 := h3.1
          split at h4
          · rename_i hz
            simpa [hz] using h4
          · simpa using h4
        · have h4 := h3.2.1
          simpa [Nat.add_assoc] using h4
    · intro x hx
      obtain ⟨j, hj, rfl⟩ := List.mem_map.1 hx
      exact (hq j (List.mem_range.1 hj)).2.2
end
end Go.Proofs.Ythkoblnfeebafaa
