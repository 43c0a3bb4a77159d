/- Plain law of Sews: the program's order of checks and the reference's answer alike. No conditions. -/
import Derived.Test.YtbhjhajnhpohlaaMv
namespace Go.Proofs.Ytbhjhajnhpohlaa

/-- the thread of a move -/
def Mv.thr (m : Mv) (l : List Sm) : Int := match l[m.k.toNat]? with | some s => s.t | none => 0
/-- the move's seam is one of the graph -/
def Mv.inG (m : Mv) (l : List Sm) : Prop := 0 ≤ m.k ∧ m.k < l.length
instance (m : Mv) (l : List Sm) : Decidable (m.inG l) := by unfold Mv.inG; infer_instance
/-- the i-th move may follow the one before it -/
def fol (l : List Sm) (run : List Mv) (i : Nat) : Prop := i = 0 ∨ (run.getD (i - 1) default).to_ l = (run.getD i default).from l
instance (l : List Sm) (run : List Mv) (i : Nat) : Decidable (fol l run i) := by unfold fol; infer_instance
/-- it has the run's thread -/
def thd (l : List Sm) (run : List Mv) (i : Nat) : Prop := (run.getD i default).thr l = (run.getD 0 default).thr l
instance (l : List Sm) (run : List Mv) (i : Nat) : Decidable (thd l run i) := by unfold thd; infer_instance
/-- the program: a run from its i-th move on, n of them -/
def pRun (l : List Sm) (run : List Mv) : Nat → Nat → List Int → Option (List Int)
  | 0, _, D => some D
  | n + 1, i, D => if (run.getD i default).inG l ∧ (run.getD i default).k ∉ D ∧ (fol l run i ∧ thd l run i) then pRun l run n (i + 1) (D ++ [(run.getD i default).k]) else none
/-- the program: all runs -/
def pAll (l : List Sm) : List (List Mv) → List Int → Option (List Int)
  | [], D => some D
  | run :: ls, D => if run = [] then none else match pRun l run run.length 0 D with | none => none | some D' => pAll l ls D'
/-- the reference: is it a walk -/
def rWalk (l : List Sm) (run : List Mv) : Nat → Nat → Bool
  | 0, _ => true
  | n + 1, i => if (run.getD i default).inG l ∧ fol l run i then rWalk l run n (i + 1) else false
def rRun (l : List Sm) (run : List Mv) : Nat → Nat → List Int → Option (List Int)
  | 0, _, D => some D
  | n + 1, i, D => if (run.getD i default).k ∉ D ∧ thd l run i then rRun l run n (i + 1) (D ++ [(run.getD i default).k]) else none
def rAll (l : List Sm) : List (List Mv) → List Int → Option (List Int)
  | [], D => some D
  | run :: ls, D => if run = [] then none else if rWalk l run run.length 0 = true then (match rRun l run run.length 0 D with | none => none | some D' => rAll l ls D') else none
theorem pRun_eq (l : List Sm) (run : List Mv) : ∀ n i D, pRun l run n i D = if rWalk l run n i = true then rRun l run n i D else none
  | 0, _, _ => by simp [pRun, rWalk, rRun]
  | n + 1, i, D => by
    unfold pRun rWalk rRun
    rw [pRun_eq l run n (i + 1)]
    by_cases h1 : (run.getD i default).inG l ∧ fol l run i
    · rw [if_pos h1]
      by_cases h2 : (run.getD i default).k ∉ D ∧ thd l run i
      · rw [if_pos h2, if_pos ⟨h1.1, h2.1, h1.2, h2.2⟩]
      · rw [if_neg h2, if_neg (fun h => h2 ⟨h.2.1, h.2.2.2⟩)]
        split <;> rfl
    · rw [if_neg h1, if_neg (fun h => h1 ⟨h.1, h.2.2.1⟩)]
      simp
theorem pAll_eq (l : List Sm) : ∀ ls D, pAll l ls D = rAll l ls D
  | [], _ => rfl
  | run :: ls, D => by
    unfold pAll rAll
    rw [pRun_eq]
    by_cases h1 : run = []
    · rw [if_pos h1, if_pos h1]
    · rw [if_neg h1, if_neg h1]
      by_cases h2 : rWalk l run run.length 0 = true
      · rw [if_pos h2, if_pos h2]
        cases rRun l run run.length 0 D with
        | none => rfl
        | some D' => exact pAll_eq l ls D'
      · rw [if_neg h2, if_neg h2]
/-- whether runs are a sewing -/
def sewB (l : List Sm) (ls : List (List Mv)) : Bool := match pAll l ls [] with | none => false | some D => decide (D.length = l.length)
end Go.Proofs.Ytbhjhajnhpohlaa
