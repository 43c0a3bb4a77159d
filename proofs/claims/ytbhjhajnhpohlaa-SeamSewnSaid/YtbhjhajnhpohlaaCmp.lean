/- Plain: the program of a sewing. No conditions. -/
import Derived.Test.YtbhjhajnhpohlaaFwL
import Derived.Test.YtbhjhajnhpohlaaOpm
namespace Go.Proofs.Ytbhjhajnhpohlaa
open Go.RowKit

theorem ext_drew1 (B : Nat) (w : World) : Below B w w.drew := ⟨rfl, rfl, rfl, Nat.le_refl _, fun _ _ => rfl⟩
def opB (l : List Sm) (r : List Mv) : List Opr := [⟨1, runB l r, false⟩, ⟨0, runT l r, false⟩, ⟨2, 0, false⟩]
def opM (m : Mv) : Opr := ⟨3, m.k, m.r⟩
def opE : List Opr := [⟨2, 0, false⟩, ⟨4, 0, false⟩]
/-- the program of runs -/
def cmp (l : List Sm) (ls : List (List Mv)) : List Opr := ls.flatMap fun r => opB l r ++ r.map opM ++ opE
theorem cmp_snoc (l : List Sm) (ls : List (List Mv)) (r : List Mv) : cmp l (ls ++ [r]) = cmp l ls ++ (opB l r ++ r.map opM ++ opE) := by
  unfold cmp; rw [List.flatMap_append]; simp
theorem cmp_len (l : List Sm) : ∀ ls : List (List Mv), (cmp l ls).length = 5 * ls.length + ls.flatten.length
  | [] => rfl
  | r :: ls => by
    have ih := cmp_len l ls
    unfold cmp at ih ⊢
    rw [List.flatMap_cons, List.length_append, ih, List.flatten_cons, List.length_append, List.length_cons]
    simp [opB, opE]; omega
theorem Sewing.num {l : List Sm} {ls : List (List Mv)} (h : Sewing l ls) : ls.length ≤ l.length := by
  have h1 := h.1
  rw [← h.2.2]
  clear h
  induction ls with
  | nil => simp
  | cons r ls ih =>
    have h2 := ih (fun x hx => h1 x (by simp [hx]))
    have h3 : 0 < r.length := List.length_pos_iff.2 (h1 r (by simp)).1
    rw [List.flatten_cons, List.length_append, List.length_cons]; omega
theorem take_flat {ls : List (List Mv)} (k : Nat) : (ls.take k).flatten.length ≤ ls.flatten.length := by
  have : ls.flatten.length = (ls.take k).flatten.length + (ls.drop k).flatten.length := by
    rw [← List.length_append, ← List.flatten_append, List.take_append_drop]
  omega
/-- what Compile answers -/
def RetCm (w : World) (N : Int) (l : List Sm) (ls : List (List Mv)) (e : Ending) (w' : World) : Prop :=
  Below w.heap.size w w' ∧ ((¬ GOk N l ∧ e = .returned (.tuple #[.slice none 0 0, .int .i64 2])) ∨ (GOk N l ∧ sewB l ls = false ∧ e = .returned (.tuple #[.slice none 0 0, .int .i64 6])) ∨
    (GOk N l ∧ sewB l ls = true ∧ ∃ A' c', e = .returned (.tuple #[.slice A' (cmp l ls).length c', .int .i64 0]) ∧ (cmp l ls).length ≤ c' ∧ c' ≤ maxLen ∧ OSl w' A' (cmp l ls)))
theorem RetCm.cpd {w : World} {N : Int} {l : List Sm} {ls : List (List Mv)} {e : Ending} {w' : World} (h : RetCm w N (cpy l) ls e w') : RetCm w N l ls e w' := by
  obtain ⟨hb, h⟩ := h
  refine ⟨hb, ?_⟩
  rcases h with ⟨h1, h2⟩ | ⟨h1, h2, h3⟩ | ⟨h1, h2, h3⟩
  · exact .inl ⟨fun h => h1 (cpy_ok.2 h), h2⟩
  · have hg := cpy_ok.1 h1
    rw [cpy_eq hg] at h2
    exact .inr (.inl ⟨hg, h2, h3⟩)
  · have hg := cpy_ok.1 h1
    rw [cpy_eq hg] at h2 h3
    exact .inr (.inr ⟨hg, h2, h3⟩)
/-- ops behind each other -/
theorem vo_cat {T : TypeId} {base : Nat} {w : World} {v : Value} {a b : List Opr} {n m : Nat} (h : w.ownsRow base T 3 v (n + m) (a.flatMap Opr.cells ++ b.flatMap Opr.cells)) (ha : a.length = n) (hb : b.length = m) : Vo T base w v (a ++ b) := by
  unfold Vo
  rw [List.flatMap_append, List.length_append, ha, hb]
  exact h
end Go.Proofs.Ytbhjhajnhpohlaa
