/- Plain: runs in a row of bytes. No conditions. -/
import Derived.Test.YtmgofdgbenfjmaaDoorPkP
namespace Go.Proofs.YtmgofdgbenfjmaaDoor
/-- the run at a place -/
def runN (r : ByteArray) (i : Nat) : Nat := runL (r.data.toList.getD i 0) (r.data.toList.drop (i + 1)) + 1
/-- how far packing has come -/
def PkI (r t : ByteArray) (i : Nat) : Prop := t.data.toList ++ rle (r.data.toList.drop i) = rle r.data.toList
section
variable {r t : ByteArray} {i q : Nat}
theorem len_size (r : ByteArray) : r.data.toList.length = r.size := by rw [Array.length_toList]; rfl
theorem at_list (h : i < r.data.size) : r.data.toList[i]? = some r.data[i] := by rw [Array.getElem?_toList]; exact Array.getElem?_eq_getElem h
theorem runN_le (h : i < r.data.size) : i + runN r i ≤ r.size := by
  have h1 := runL_le (r.data.toList.getD i 0) (r.data.toList.drop (i + 1))
  rw [List.length_drop, len_size] at h1
  have : r.size = r.data.size := rfl
  unfold runN
  omega
theorem getD_at (h : i < r.data.size) : r.data.toList.getD i 0 = r.data[i] := by
  rw [List.getD_eq_getElem?_getD, at_list h]; rfl
theorem runN_in (h : i < r.data.size) (h1 : 1 ≤ q) (hq : q < runN r i) : ∃ h2 : i + q < r.data.size, r.data[i + q] = r.data[i] := by
  unfold runN at hq
  have h3 := runL_at (x := r.data.toList.getD i 0) (l := r.data.toList.drop (i + 1)) (k := q - 1) (by omega)
  rw [List.getElem?_drop, show i + 1 + (q - 1) = i + q by omega, getD_at h] at h3
  obtain ⟨h4, h5⟩ := List.getElem?_eq_some_iff.1 h3
  have h6 : i + q < r.data.size := by rw [Array.length_toList] at h4; exact h4
  exact ⟨h6, by rw [← h5]; simp⟩
theorem runN_out (h : i < r.data.size) (h2 : i + runN r i < r.data.size) : r.data[i + runN r i] ≠ r.data[i] := by
  intro e
  have h3 := runL_stop (x := r.data.toList.getD i 0) (l := r.data.toList.drop (i + 1))
  rw [List.getElem?_drop] at h3
  have e2 : i + 1 + runL (r.data.toList.getD i 0) (r.data.toList.drop (i + 1)) = i + runN r i := by unfold runN; omega
  rw [e2, at_list h2, getD_at h, e] at h3
  exact h3 rfl
theorem PkI.start (r : ByteArray) : PkI r ⟨#[]⟩ 0 := by unfold PkI; simp
theorem PkI.stop (h : PkI r t r.size) : t = BS (rle r.data.toList) := by
  unfold PkI at h
  rw [List.drop_of_length_le (by rw [len_size]; exact Nat.le_refl _), rle_nil, List.append_nil] at h
  rw [← h, BS_self]
theorem PkI.step (h : PkI r t i) (hi : i < r.data.size) : PkI r (BS (t.data.toList ++ runS (runN r i) r.data[i])) (i + runN r i) := by
  unfold PkI at h ⊢
  rw [BS_list, ← h, List.append_assoc]
  congr 1
  have hl : i < r.data.toList.length := by rw [Array.length_toList]; exact hi
  rw [List.drop_eq_getElem_cons hl, rle_cons]
  have e : r.data.toList[i] = r.data[i] := by simp
  rw [e, List.drop_drop]
  unfold runN
  rw [getD_at hi]
  congr 3
  omega
end
end Go.Proofs.YtmgofdgbenfjmaaDoor
