/- drawn walked (the reference's). Conditions: the cells are a grid's, each a grade. -/
import Derived.Test.YtmgofdgbenfjmaaDoorTu
namespace Go.Proofs.YtmgofdgbenfjmaaDoor
open Go.RowKit

/-- a row of strings of the call's own that grows -/
def Vt (base : Nat) (w : World) (v : Value) (l : List ByteArray) : Prop := w.ownsRow base 9 1 v l.length (l.map Value.string)
theorem Vt.nil (base : Nat) (w : World) : Vt base w (.slice none 0 0) [] := own_nil w base 9 1
theorem Vt.tsl {base : Nat} {w : World} {v : Value} {l : List ByteArray} (h : Vt base w v l) : ∃ A cap, v = .slice A l.length cap ∧ l.length ≤ cap ∧ cap ≤ maxLen ∧ TSl w A l := by
  obtain ⟨A, cap, hv, h1, h2, h3⟩ := own_cells h
  refine ⟨A, cap, hv, h1, h2, ?_⟩
  rcases h3 with h3 | ⟨g, rfl, hb, hg, hc⟩
  · exact .inl (List.eq_nil_of_length_eq_zero h3)
  · exact .inr ⟨g, 0, rfl, hg, fun j hj => by rw [Nat.zero_add]; exact hc j _ (by simp [hj])⟩
/-- 'append(out, s)' of one string -/
theorem wpList_pushT (w : World) {ops : Array Oper} {rest : List Oper} {o : Oper} {a : Act} {Q : Exit → Act → World → Prop} (hgd : o.guard = none) (s x : Operand)
    (ho : o.op = .call { callee := .builtin .append, args := #[s, x], argTypes := #[22, 22] })
    (base : Nat) {v : Value} {l : List ByteArray} (hown : Vt base w v l) (hs : a.eval s = v) {r : ByteArray}
    {B : Nat} (hx : a.eval x = .slice (some ⟨B, 0, none⟩) 1 1) (hB : w.heap.size = B) (hn : l.length ≤ 1000000) (hbase : base ≤ w.heap.size)
    (h : ∀ v' w', Vt base w' v' (l ++ [r]) → Below base w w' → (∀ k, k < w.heap.size → some k ≠ v.ownBlock → w'.heap[k]? = w.heap[k]?) → wpList Tryd.prog ops Q rest (a.put o.dst v') w') :
    wpList Tryd.prog ops Q (o :: rest) a (w.alloc (.cells #[.string r] 9)) := by
  refine wpList_push w hgd s x _ ho base 9 _ 1 16 Tryd.underlying22 info_string rfl (by decide) hown hs (news := [.string r]) hx hB rfl (by intro x hx; simp at hx; subst hx; rfl) (by decide) (by unfold maxLen; omega) (by omega) hbase ?_
  intro v' w' h2 h3 h4 _ _ _
  refine h v' w' ?_ h3 h4
  have e : l.map Value.string ++ [Value.string r] = (l ++ [r]).map Value.string := by rw [List.map_append]; rfl
  have e2 : (l ++ [r]).length = l.length + 1 := by simp
  unfold Vt
  rw [← e, e2]
  exact h2
/-- a grid's cells, row by row: h rows, and x cells of the next one -/
def gridP (w : Nat) (f : Nat → Nat → Int) (h x : Nat) : List Int := ((List.range h).flatMap fun y => (List.range w).map fun x => f x y) ++ (List.range x).map fun x => f x h
theorem gridP_cell (w : Nat) (f : Nat → Nat → Int) (h x : Nat) : gridP w f h (x + 1) = gridP w f h x ++ [f x h] := by
  unfold gridP
  rw [List.range_succ, List.map_append, List.append_assoc]; rfl
theorem gridP_row (w : Nat) (f : Nat → Nat → Int) (h : Nat) : gridP w f h w = gridP w f (h + 1) 0 := by
  unfold gridP
  rw [List.range_succ, List.flatMap_append]
  simp
theorem gridP_none (w : Nat) (f : Nat → Nat → Int) : gridP w f 0 0 = [] := by simp [gridP]
theorem gridP_len (w : Nat) (f : Nat → Nat → Int) (h x : Nat) : (gridP w f h x).length = h * w + x := by
  unfold gridP
  rw [List.length_append]
  have : ∀ l : List Nat, (l.flatMap fun y => (List.range w).map fun x => f x y).length = l.length * w := by
    intro l
    induction l with
    | nil => simp
    | cons a l ih => rw [List.flatMap_cons, List.length_append, ih, List.length_cons, Nat.succ_mul]; simp; omega
  rw [this]; simp
theorem gridP_at (w : Nat) (f : Nat → Nat → Int) : ∀ (h : Nat) (x y : Nat), x < w → y < h → (gridP w f h 0)[y * w + x]? = some (f x y)
  | 0, x, y, _, hy => absurd hy (by omega)
  | h + 1, x, y, hx, hy => by
    rw [← gridP_row]
    have hl := gridP_len w f h 0
    have e : gridP w f h w = gridP w f h 0 ++ (List.range w).map fun x => f x h := by unfold gridP; simp
    rw [e]
    by_cases hyh : y < h
    · have h1 : y * w + x < h * w := by
        have := Nat.mul_le_mul_right w (show y + 1 ≤ h by omega)
        rw [Nat.succ_mul] at this
        omega
      rw [List.getElem?_append_left (by omega)]
      exact gridP_at w f h x y hx hyh
    · obtain rfl : y = h := by omega
      rw [List.getElem?_append_right (by omega), hl]
      rw [show y * w + x - (y * w + 0) = x by omega]
      simp [hx]
end Go.Proofs.YtmgofdgbenfjmaaDoor
