/- Plain: reading a packed skin, step by step. No conditions. -/
import Derived.Test.YtmgofdgbenfjmaaDoorPk
namespace Go.Proofs.YtmgofdgbenfjmaaDoor
open Go.RowKit

/-- what Unpack answers -/
def RetUn (w : World) (t : ByteArray) (e : Ending) (w' : World) : Prop :=
  Below w.heap.size w w' ∧ ((∃ A cap, ∃ s : List ByteArray, SkOk s ∧ BS (packL s) = t ∧ e = .returned (.tuple #[.slice A s.length cap, .int .i64 0]) ∧ s.length ≤ cap ∧ cap ≤ 9223372036854775807 ∧ TSl w' A s ∧ TSz s) ∨
    ((∀ s, SkOk s → BS (packL s) ≠ t) ∧ e = .returned (.tuple #[.slice none 0 0, .int .i64 6])))
/-- a reading under way: what is left gives F -/
def FoI {α : Type} (f : α → UInt8 → Option α) (F : Option α) (a : α) (l : List UInt8) : Prop := F = foldO f a l
section
variable {α : Type} {f : α → UInt8 → Option α} {F : Option α} {a : α} {l : List UInt8} {r : ByteArray} {i : Nat}
theorem drop_at (hi : i < r.data.size) : r.data.toList.drop i = r.data[i] :: r.data.toList.drop (i + 1) := by
  have hl : i < r.data.toList.length := by rw [Array.length_toList]; exact hi
  rw [List.drop_eq_getElem_cons hl]; simp
theorem FoI.fail (h : FoI f F a (r.data.toList.drop i)) {hi : i < r.data.size} (hf : f a r.data[i] = none) : F = none := by
  unfold FoI at h
  rw [drop_at hi, foldO, hf] at h
  exact h
theorem FoI.step (h : FoI f F a (r.data.toList.drop i)) {hi : i < r.data.size} {a' : α} (hf : f a r.data[i] = some a') : FoI f F a' (r.data.toList.drop (i + 1)) := by
  unfold FoI at h ⊢
  rw [drop_at hi, foldO, hf] at h
  exact h
theorem FoI.done (h : FoI f F a (r.data.toList.drop r.size)) : F = some a := by
  unfold FoI at h
  rw [List.drop_of_length_le (by rw [len_size]; exact Nat.le_refl _)] at h
  exact h
end
theorem pd_bad {row : List UInt8} {n : Nat} {c : UInt8} (h1 : ¬ (48 ≤ c.toNat ∧ c.toNat ≤ 57 ∧ n ≤ 48)) (h2 : ¬ (97 ≤ c.toNat ∧ c.toNat ≤ 106 ∧ n ≤ 48)) : pdStep (row, n) c = none := by
  unfold pdStep; rw [if_neg h1, if_neg h2]
theorem pd_dig {row : List UInt8} {n : Nat} {c : UInt8} (h1 : 48 ≤ c.toNat ∧ c.toNat ≤ 57 ∧ n ≤ 48) : pdStep (row, n) c = some (row, 10 * n + (c.toNat - 48)) := by
  unfold pdStep; rw [if_pos h1]
theorem pd_let {row : List UInt8} {n : Nat} {c : UInt8} (h2 : 97 ≤ c.toNat ∧ c.toNat ≤ 106 ∧ n ≤ 48) : pdStep (row, n) c = some (row ++ List.replicate (max n 1) (c - 49), 0) := by
  unfold pdStep; rw [if_neg (by dsimp only; omega), if_pos h2]
/-- rows under way -/
def RoI (R : Option (List (List UInt8))) (ss : List ByteArray) (rest : List (List UInt8)) : Prop := R = (pdRows rest).map (ss.map (·.data.toList) ++ ·)
theorem RoI.start (L : List (List UInt8)) : RoI (pdRows L) [] L := by
  unfold RoI; cases pdRows L <;> simp
theorem RoI.fail {R : Option (List (List UInt8))} {ss : List ByteArray} {t : List UInt8} {rest : List (List UInt8)} (h : RoI R ss (t :: rest)) (hf : foldO pdStep ([], 0) t = none) : R = none := by
  unfold RoI at h; rw [pdRows, hf] at h; exact h
theorem RoI.step {R : Option (List (List UInt8))} {ss : List ByteArray} {t : List UInt8} {rest : List (List UInt8)} {row : List UInt8} {n : Nat} (h : RoI R ss (t :: rest)) (hf : foldO pdStep ([], 0) t = some (row, n)) : RoI R (ss ++ [BS row]) rest := by
  unfold RoI at h ⊢
  rw [pdRows, hf] at h
  rw [h]
  cases pdRows rest with
  | none => rfl
  | some l => simp [BS_list]
theorem RoI.done {R : Option (List (List UInt8))} {ss : List ByteArray} (h : RoI R ss []) : R = some (ss.map (·.data.toList)) := by
  unfold RoI at h; rw [h]; simp [pdRows]
theorem un_long {t : ByteArray} (h : 2352 < t.size) : ∀ s, SkOk s → BS (packL s) ≠ t := fun s hs e => by
  have := pack_len hs
  rw [← e, BS_size] at h
  omega
theorem un_none {t : ByteArray} (h : pdRows (Lib.split t.data.toList [47]) = none) : ∀ s, SkOk s → BS (packL s) ≠ t := fun s hs e => by
  rw [← e, BS_list, pd_pack hs] at h; cases h
theorem un_same {t : ByteArray} {ss : List ByteArray} (h : pdRows (Lib.split t.data.toList [47]) = some (ss.map (·.data.toList))) {s : List ByteArray} (hs : SkOk s) (e : BS (packL s) = t) : s = ss := by
  rw [← e, BS_list, pd_pack hs] at h
  injection h with h
  exact map_data_inj h
theorem un_bad {t : ByteArray} {ss : List ByteArray} (h : pdRows (Lib.split t.data.toList [47]) = some (ss.map (·.data.toList))) (hn : ¬ (SkOk ss ∧ BS (packL ss) = t)) : ∀ s, SkOk s → BS (packL s) ≠ t := fun s hs e => by
  have := un_same h hs e
  subst this
  exact hn ⟨hs, e⟩
theorem toList_inj {a b : ByteArray} (h : a.toList = b.toList) : a = b := by
  rw [ByteArray.toList_eq, ByteArray.toList_eq] at h
  rw [← BS_self a, ← BS_self b, h]
theorem replicate_snoc {α : Type} (l : List α) (k : Nat) (x : α) : l ++ List.replicate (k + 1) x = (l ++ List.replicate k x) ++ [x] := by
  rw [List.append_assoc, List.replicate_succ']
end Go.Proofs.YtmgofdgbenfjmaaDoor
