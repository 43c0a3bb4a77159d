/- Plain law of the reference's machine: the program from an op on, an op still to be done a number of times. No conditions. -/
import Derived.Test.YtbhjhajnhpohlaaMxp
namespace Go.Proofs.Ytbhjhajnhpohlaa

def thn (r : Int × Mc) (k : Mc → Int × Mc) : Int × Mc := if r.1 = 0 then k r.2 else r
/-- what is left at op 'at', to be done t times: r is the whole program's end -/
def Left (fuel N : Int) (l : List Sm) (ops : List Opr) (r : Int × Mc) (k t : Nat) (m : Mc) : Prop :=
  (t = 1 ∧ r = exec fuel N l (ops.drop k) m) ∨ ∃ (hk : k < ops.length), ops[k].c ≠ 5 ∧ r = thn (rep fuel N l ops[k] t m) (exec fuel N l (ops.drop (k + 1)))
section
variable {fuel N : Int} {l : List Sm} {ops : List Opr} {r : Int × Mc} {k t : Nat} {m : Mc}
theorem rep_one (o : Opr) (m : Mc) : rep fuel N l o 1 m = pstep fuel N l o m := by
  show (if (pstep fuel N l o m).1 = 0 then (0, (pstep fuel N l o m).2) else _) = _
  split
  · rename_i h; rw [← h]
  · rfl
/-- at an op that is no repeat both forms are one -/
theorem Left.one (h : Left fuel N l ops r k t m) (hk : k < ops.length) (h5 : ops[k].c ≠ 5) : r = thn (rep fuel N l ops[k] t m) (exec fuel N l (ops.drop (k + 1))) := by
  rcases h with ⟨rfl, h⟩ | ⟨_, _, h⟩
  · rw [h, exec_one hk rfl h5, rep_one]; rfl
  · exact h
/-- at a repeat -/
theorem Left.five (h : Left fuel N l ops r k t m) (hk : k < ops.length) (h5 : ops[k].c = 5) : t = 1 ∧ r = exec fuel N l (ops.drop k) m := by
  rcases h with h | ⟨_, h2, _⟩
  · exact h
  · exact absurd h5 h2
theorem Left.start : Left fuel N l ops (exec fuel N l ops m) 0 1 m := .inl ⟨rfl, rfl⟩
/-- done often enough -/
theorem Left.zero (h : Left fuel N l ops r k 0 m) : Left fuel N l ops r (k + 1) 1 m := by
  rcases h with ⟨h, _⟩ | ⟨_, _, h⟩
  · cases h
  · exact .inl ⟨rfl, h⟩
theorem Left.fin (h : Left fuel N l ops r k t m) (hk : ops.length ≤ k) : r = (0, m) := by
  rcases h with ⟨_, h⟩ | ⟨hk2, _, _⟩
  · rw [h, exec_end hk]
  · omega
/-- no fuel -/
theorem Left.nofuel (h : Left fuel N l ops r k (t + 1) m) (hk : k < ops.length) (hf : fuel ≤ m.s) : r = (10, m) := by
  by_cases h5 : ops[k].c = 5
  · rw [(h.five hk h5).2, exec_fuel hk rfl h5 hf]
  · have e : pstep fuel N l ops[k] m = (10, m) := by unfold pstep; rw [if_pos hf]
    rw [h.one hk h5]
    show thn (if (pstep fuel N l ops[k] m).1 = 0 then _ else _) _ = _
    rw [e]; rfl
/-- a fault -/
theorem Left.fault (h : Left fuel N l ops r k (t + 1) m) (hk : k < ops.length) (h5 : ops[k].c ≠ 5) (hf : m.s < fuel) (hp : (pst N l ops[k] m).1 ≠ 0) : r = ((pst N l ops[k] m).1, m) := by
  have e : pstep fuel N l ops[k] m = ((pst N l ops[k] m).1, m) := by unfold pstep; rw [if_neg (by omega), if_neg hp]
  rw [h.one hk h5]
  show thn (if (pstep fuel N l ops[k] m).1 = 0 then _ else _) _ = _
  rw [e, if_neg hp]
  exact if_neg hp
/-- one op done -/
theorem Left.step (h : Left fuel N l ops r k (t + 1) m) (hk : k < ops.length) (h5 : ops[k].c ≠ 5) (hf : m.s < fuel) (hp : (pst N l ops[k] m).1 = 0) : Left fuel N l ops r k t { (pst N l ops[k] m).2 with s := m.s + 1 } := by
  have e : pstep fuel N l ops[k] m = (0, { (pst N l ops[k] m).2 with s := m.s + 1 }) := by unfold pstep; rw [if_neg (by omega), if_pos hp]
  refine .inr ⟨hk, h5, ?_⟩
  rw [h.one hk h5]
  show thn (if (pstep fuel N l ops[k] m).1 = 0 then _ else _) _ = _
  rw [e]; rfl
theorem Left.last (h : Left fuel N l ops r k t m) (hk : k + 1 = ops.length) (h5 : (ops[k]'(by omega)).c = 5) (hf : m.s < fuel) : r = (8, m) := by
  rw [(h.five (by omega) h5).2, exec_last hk rfl h5 hf]
theorem Left.two (h : Left fuel N l ops r k t m) (hk : k + 1 < ops.length) (h5 : ops[k].c = 5) (hf : m.s < fuel) (h2 : ops[k + 1].c = 5) : r = (9, m) := by
  rw [(h.five (by omega) h5).2, exec_two hk rfl h5 hf h2]
theorem Left.rep (h : Left fuel N l ops r k t m) (hk : k + 1 < ops.length) (h5 : ops[k].c = 5) (hf : m.s < fuel) (h2 : ops[k + 1].c ≠ 5) : Left fuel N l ops r (k + 1) ops[k].g.toNat { m with s := m.s + 1 } := by
  refine .inr ⟨hk, h2, ?_⟩
  rw [(h.five (by omega) h5).2, exec_rep hk rfl h5 hf rfl h2]
  rfl
/-- a fault leaves the state -/
theorem pst_fault {o : Opr} (h : (pst N l o m).1 ≠ 0) : (pst N l o m).2 = m := by
  revert h
  unfold pst
  repeat' split
  all_goals first
    | (intro h; exact absurd rfl h)
    | (intro _; rfl)
end
end Go.Proofs.Ytbhjhajnhpohlaa
