/- Plain: what Read answers; reading under way. No conditions. -/
import Derived.Test.YtfadkokdoehjnaaDoorTx
namespace Go.Proofs.YtfadkokdoehjnaaDoor
open Go.RowKit

/-- what Read answers -/
def RetRd (w : World) (s : ByteArray) (e : Ending) (w' : World) : Prop :=
  Below w.heap.size w w' ∧ ((∃ A cap, ∃ l : List Opr, TxOk l ∧ BS (txtL l) = s ∧ e = .returned (.tuple #[.slice A l.length cap, .int .i64 0]) ∧ l.length ≤ cap ∧ cap ≤ 9223372036854775807 ∧ OSl w' A l) ∨
    ((∀ l, TxOk l → BS (txtL l) ≠ s) ∧ e = .returned (.tuple #[.slice none 0 0, .int .i64 6])))
section
variable {α : Type} {f : α → UInt8 → Option α} {F : Option α} {a : α} {l : List UInt8} {r : ByteArray} {i : Nat}
theorem drop_at (hi : i < r.data.size) : r.data.toList.drop i = r.data[i] :: r.data.toList.drop (i + 1) := by
  have hl : i < r.data.toList.length := by rw [Array.length_toList]; exact hi
  rw [List.drop_eq_getElem_cons hl]; simp
theorem FoI.fail (h : FoI f F a (r.data.toList.drop i)) {hi : i < r.data.size} (hf : f a r.data[i] = none) : F = none := by
  unfold FoI at h
  rw [drop_at hi, foldO, hf] at h
  exact h
theorem FoI.step (h : FoI f F a (r.data.toList.drop i)) {hi : i < r.data.size} {a' : α} (hf : f a r.data[i] = some a') : FoI f F a' (r.data.toList.drop (i + 1)) := by
  unfold FoI at h ⊢
  rw [drop_at hi, foldO, hf] at h
  exact h
theorem FoI.done (h : FoI f F a (r.data.toList.drop r.size)) : F = some a := by
  unfold FoI at h
  rw [List.drop_of_length_le (by rw [len_size]; exact Nat.le_refl _)] at h
  exact h
end
theorem dig_bad {n : Nat} {c : UInt8} (h : ¬ (48 ≤ c.toNat ∧ c.toNat ≤ 57)) : digO n c = none := by unfold digO; rw [if_neg h]
theorem dig_good {n : Nat} {c : UInt8} (h : 48 ≤ c.toNat ∧ c.toNat ≤ 57) : digO n c = some (10 * n + (c.toNat - 48)) := by unfold digO; rw [if_pos h]
theorem rdR_nil {w : List UInt8} (h : (cutM w).1 = []) : rdR w = none := by unfold rdR; rw [h]
theorem rdR_cons {w : List UInt8} {c : UInt8} {ds : List UInt8} (h : (cutM w).1 = c :: ds) : rdR w = if Lib.indexByte letts c < 0 ∨ 3 < ds.length + 1 then none else match foldO digO 0 ds with | none => none | some n => some ⟨Lib.indexByte letts c, n, (cutM w).2⟩ := by
  unfold rdR; rw [h]; rfl
theorem ix_range (c : UInt8) : -1 ≤ Lib.indexByte letts c ∧ Lib.indexByte letts c ≤ 5 := by
  refine ⟨Lib.indexByte_ge _ _, ?_⟩
  by_cases h : Lib.indexByte letts c = -1
  · omega
  · have hge := Lib.indexByte_ge letts c
    obtain ⟨i, hi⟩ : ∃ i : Nat, Lib.indexByte letts c = i := ⟨(Lib.indexByte letts c).toNat, by omega⟩
    have := (Lib.indexByte_some hi).1
    obtain ⟨h1, _⟩ := List.getElem?_eq_some_iff.1 this
    have h6 : letts.length = 6 := rfl
    omega
theorem cutM_len (l : List UInt8) : (cutM l).1.length ≤ l.length := by
  unfold cutM
  split
  · simp
  · exact Nat.le_refl _
end Go.Proofs.YtfadkokdoehjnaaDoor
