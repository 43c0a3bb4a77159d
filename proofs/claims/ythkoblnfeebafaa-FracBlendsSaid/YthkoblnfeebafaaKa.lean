/- What Blend computes. No conditions. -/
import Derived.Test.YthkoblnfeebafaaSa
import Derived.Test.YthkoblnfeebafaaIs
namespace Go.Proofs.Ythkoblnfeebafaa
open Go.RowKit

noncomputable def blL : Int → Int → List (Int × Int) → List Int → Int × Int × Int
  | x, y, f :: l, a :: v =>
    if (two f.1 f.2 a 1 (rat f.1 f.2 * rat a 1)).2.2 = 0 then
      (if (two x y (two f.1 f.2 a 1 (rat f.1 f.2 * rat a 1)).1 (two f.1 f.2 a 1 (rat f.1 f.2 * rat a 1)).2.1 (rat x y + rat (two f.1 f.2 a 1 (rat f.1 f.2 * rat a 1)).1 (two f.1 f.2 a 1 (rat f.1 f.2 * rat a 1)).2.1)).2.2 = 0 then
        blL (two x y (two f.1 f.2 a 1 (rat f.1 f.2 * rat a 1)).1 (two f.1 f.2 a 1 (rat f.1 f.2 * rat a 1)).2.1 (rat x y + rat (two f.1 f.2 a 1 (rat f.1 f.2 * rat a 1)).1 (two f.1 f.2 a 1 (rat f.1 f.2 * rat a 1)).2.1)).1
          (two x y (two f.1 f.2 a 1 (rat f.1 f.2 * rat a 1)).1 (two f.1 f.2 a 1 (rat f.1 f.2 * rat a 1)).2.1 (rat x y + rat (two f.1 f.2 a 1 (rat f.1 f.2 * rat a 1)).1 (two f.1 f.2 a 1 (rat f.1 f.2 * rat a 1)).2.1)).2.1 l v
      else (0, 0, (two x y (two f.1 f.2 a 1 (rat f.1 f.2 * rat a 1)).1 (two f.1 f.2 a 1 (rat f.1 f.2 * rat a 1)).2.1 (rat x y + rat (two f.1 f.2 a 1 (rat f.1 f.2 * rat a 1)).1 (two f.1 f.2 a 1 (rat f.1 f.2 * rat a 1)).2.1)).2.2))
    else (0, 0, (two f.1 f.2 a 1 (rat f.1 f.2 * rat a 1)).2.2)
  | x, y, _, _ => (x, y, 0)
theorem blL_step {x y : Int} {l : List (Int × Int)} {v : List Int} {k : Nat} (hk : k < l.length) (hv : k < v.length) {m t : Int × Int × Int} (hm : two l[k].1 l[k].2 v[k] 1 (rat l[k].1 l[k].2 * rat v[k] 1) = m) (ht : two x y m.1 m.2.1 (rat x y + rat m.1 m.2.1) = t) :
    blL x y (l.drop k) (v.drop k) = if m.2.2 = 0 then (if t.2.2 = 0 then blL t.1 t.2.1 (l.drop (k + 1)) (v.drop (k + 1)) else (0, 0, t.2.2)) else (0, 0, m.2.2) := by
  rw [List.drop_eq_getElem_cons hk, List.drop_eq_getElem_cons hv, ← ht, ← hm]
  rfl
theorem blL_end {x y : Int} {l : List (Int × Int)} {v : List Int} {k : Nat} (hk : l.length ≤ k) : blL x y (l.drop k) (v.drop k) = (x, y, 0) := by
  rw [List.drop_eq_nil_of_le hk]
  rfl
/-- the weights' limits -/
def WBad (v : List Int) : Prop := ∃ j, ∃ h : j < v.length, v[j] < 0 ∨ 1000000 < v[j]
open Classical in
noncomputable def blA (l : List (Int × Int)) (v : List Int) : Int × Int × Int :=
  if 64 < l.length ∨ 64 < v.length then (0, 0, 3)
  else if l.length ≠ v.length ∨ AllV l = false then (0, 0, 2)
  else if WBad v then (0, 0, 2)
  else if v.sum = 0 then (0, 0, 4)
  else if (blL 0 1 l v).2.2 = 0 then divA (blL 0 1 l v).1 (blL 0 1 l v).2.1 v.sum 1 else (0, 0, (blL 0 1 l v).2.2)
theorem blA_size {l : List (Int × Int)} {v : List Int} (h : 64 < l.length ∨ 64 < v.length) : blA l v = (0, 0, 3) := by unfold blA; rw [if_pos h]
theorem blA_arg {l : List (Int × Int)} {v : List Int} (h : ¬ (64 < l.length ∨ 64 < v.length)) (h2 : l.length ≠ v.length ∨ AllV l = false) : blA l v = (0, 0, 2) := by unfold blA; rw [if_neg h, if_pos h2]
theorem blA_main {l : List (Int × Int)} {v : List Int} (h : ¬ (64 < l.length ∨ 64 < v.length)) (h2 : ¬ (l.length ≠ v.length ∨ AllV l = false)) :
    (WBad v → blA l v = (0, 0, 2)) ∧ (¬ WBad v → v.sum = 0 → blA l v = (0, 0, 4)) ∧ (¬ WBad v → v.sum ≠ 0 → (blL 0 1 l v).2.2 = 0 → blA l v = divA (blL 0 1 l v).1 (blL 0 1 l v).2.1 v.sum 1) ∧
    (¬ WBad v → v.sum ≠ 0 → (blL 0 1 l v).2.2 ≠ 0 → blA l v = (0, 0, (blL 0 1 l v).2.2)) := by
  unfold blA
  rw [if_neg h, if_neg h2]
  refine ⟨fun a => by rw [if_pos a], fun a b => by rw [if_neg a, if_pos b], fun a b c => by rw [if_neg a, if_neg b, if_pos c], fun a b c => by rw [if_neg a, if_neg b, if_neg c]⟩
theorem sum_take {v : List Int} {k : Nat} (hk : k < v.length) : (v.take (k + 1)).sum = (v.take k).sum + v[k] := by
  rw [List.take_succ_eq_append_getElem hk, List.sum_append]
  simp
end Go.Proofs.Ythkoblnfeebafaa
