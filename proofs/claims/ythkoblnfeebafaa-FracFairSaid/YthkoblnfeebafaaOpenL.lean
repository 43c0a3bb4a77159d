/- How a slice of ints is opened. No conditions. -/
import Derived.Test.YthkoblnfeebafaaOpen
import Derived.ChangeSlices
import Derived.Test.YthkoblnfeebafaaIs
namespace Go.Proofs.Ythkoblnfeebafaa
open Go.ChangeShapes Go.WideShapes Go.ChangeAt Go.RowKit Go.Joins

section
variable {H : Type} {enc : TypeId × Value → H} {w : World} {spare : Nat → Bool} {held : Bool} {r : Reach} {b0 : Nat}
set_option maxRecDepth 100000 in
theorem open_ints' {v : Value} {d : DataW H} {p : List MemPlace} (hv : Value.okWide Try.prog w r b0 36 v) (h : DataW.Trod enc Try.prog w 0 spare held 36 v d p) :
    ∃ A c l, v = .slice A (List.length l) c ∧ l.length ≤ c ∧ c ≤ 9223372036854775807 ∧ ISl w A l ∧ ∀ x ∈ l, IsI x := by
  obtain ⟨a, len, cap, rfl⟩ := okWide_slice Try.underlying36 hv
  obtain ⟨fuel, hf⟩ := h
  rcases open_ints Try.underlying36 Try.underlying3 (by kernel_rfl) hf with ⟨h0, _⟩ | ⟨a', len', cap', zs, hcs, hb, hl, hm, hmm, _, hx, hw⟩
  · simp [Value.cells] at h0
    obtain ⟨rfl, rfl, rfl⟩ := h0
    exact ⟨none, 0, [], rfl, by simp, by simp, .inl rfl, by simp⟩
  · simp [Value.cells] at hcs
    obtain ⟨rfl, rfl, rfl⟩ := hcs
    have hlm : len ≤ zs.length := by rw [hmm]; split <;> omega
    have ht : (zs.take len).length = len := by rw [List.length_take]; omega
    refine ⟨some a', cap, zs.take len, by rw [ht], by omega, by simp [maxLen] at hm ⊢; omega, ?_, ?_⟩
    · rcases Nat.eq_zero_or_pos len with h0 | h0
      · subst h0
        exact .inl (by simp)
      · obtain ⟨b, off, spot⟩ := a'
        have h2 := hx 0 (by omega)
        have e : (⟨b, off, spot⟩ : Addr).add 0 = ⟨b, off, spot⟩ := by simp [Addr.add]
        rw [e] at h2
        obtain rfl : spot = none := World.cell?_spot h2
        refine .inr ⟨b, off, rfl, World.block_lt_of_cell? w ⟨b, _, _⟩ h2, fun j hj => ?_⟩
        rw [ht] at hj
        have h3 := hx j (by omega)
        rw [List.getElem_take]
        have e2 : zs.getD j 0 = zs[j] := by rw [List.getD_eq_getElem?_getD, List.getElem?_eq_getElem (by omega)]; rfl
        rw [e2] at h3
        simp only [Addr.add] at h3
        split at h3
        · rename_i hz
          subst hz
          simpa using h3
        · exact h3
    · intro x hxm
      exact isI_wf (hw x (List.mem_of_mem_take hxm))
end
end Go.Proofs.Ythkoblnfeebafaa
