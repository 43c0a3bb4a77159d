/- Plain law of the machine: a program executed; the deferred closure in both modes. No conditions. -/
import Derived.Test.YtbhjhajnhpohlaaMst
import Derived.Tactics
import Derived.Tactics2
import Derived.Defers
import Derived.Recover
import Derived.Laws.Pointers
namespace Go.Proofs.Ytbhjhajnhpohlaa
open Go.RowKit

/-- one op, n times -/
def rep (fuel N : Int) (l : List Sm) (o : Opr) : Nat → Mc → Int × Mc
  | 0, m => (0, m)
  | n + 1, m => if (pstep fuel N l o m).1 = 0 then rep fuel N l o n (pstep fuel N l o m).2 else pstep fuel N l o m
/-- a program: the number of its fault, or 0, and the state at its end -/
def exec (fuel N : Int) (l : List Sm) : List Opr → Mc → Int × Mc
  | [], m => (0, m)
  | [o], m => if o.c = 5 then (if fuel ≤ m.s then (10, m) else (8, m)) else pstep fuel N l o m
  | o :: o2 :: rest, m =>
    if o.c = 5 then
      (if fuel ≤ m.s then (10, m) else if o2.c = 5 then (9, m)
        else if (rep fuel N l o2 o.g.toNat { m with s := m.s + 1 }).1 = 0 then exec fuel N l rest (rep fuel N l o2 o.g.toNat { m with s := m.s + 1 }).2 else rep fuel N l o2 o.g.toNat { m with s := m.s + 1 })
    else if (pstep fuel N l o m).1 = 0 then exec fuel N l (o2 :: rest) (pstep fuel N l o m).2 else pstep fuel N l o m
section
variable {fuel N : Int} {l : List Sm} {ops : List Opr} {k : Nat} {o : Opr} {m : Mc}
theorem exec_one (hk : k < ops.length) (ho : o = ops[k]) (h5 : o.c ≠ 5) : exec fuel N l (ops.drop k) m = if (pstep fuel N l o m).1 = 0 then exec fuel N l (ops.drop (k + 1)) (pstep fuel N l o m).2 else pstep fuel N l o m := by
  rw [List.drop_eq_getElem_cons hk, ← ho]
  cases hd : ops.drop (k + 1) with
  | nil =>
    show (if o.c = 5 then _ else _) = _
    rw [if_neg h5]
    split
    · rename_i h; show _ = (0, _); rw [← h]
    · rfl
  | cons o2 rest =>
    show (if o.c = 5 then _ else _) = _
    rw [if_neg h5]
theorem exec_fuel (hk : k < ops.length) (ho : o = ops[k]) (h5 : o.c = 5) (hf : fuel ≤ m.s) : exec fuel N l (ops.drop k) m = (10, m) := by
  rw [List.drop_eq_getElem_cons hk, ← ho]
  cases hd : ops.drop (k + 1) with
  | nil => show (if o.c = 5 then _ else _) = _; rw [if_pos h5, if_pos hf]
  | cons o2 rest => show (if o.c = 5 then _ else _) = _; rw [if_pos h5, if_pos hf]
theorem exec_last (hk : k + 1 = ops.length) (ho : o = ops[k]) (h5 : o.c = 5) (hf : m.s < fuel) : exec fuel N l (ops.drop k) m = (8, m) := by
  rw [List.drop_eq_getElem_cons (by omega), ← ho, List.drop_eq_nil_of_le (by omega)]
  show (if o.c = 5 then _ else _) = _
  rw [if_pos h5, if_neg (by omega)]
theorem exec_two (hk : k + 1 < ops.length) (ho : o = ops[k]) (h5 : o.c = 5) (hf : m.s < fuel) (h2 : ops[k + 1].c = 5) : exec fuel N l (ops.drop k) m = (9, m) := by
  rw [List.drop_eq_getElem_cons (by omega), ← ho, List.drop_eq_getElem_cons hk]
  show (if o.c = 5 then _ else _) = _
  rw [if_pos h5, if_neg (by omega), if_pos h2]
theorem exec_rep (hk : k + 1 < ops.length) (ho : o = ops[k]) (h5 : o.c = 5) (hf : m.s < fuel) {o2 : Opr} (ho2 : o2 = ops[k + 1]) (h2 : o2.c ≠ 5) : exec fuel N l (ops.drop k) m = if (rep fuel N l o2 o.g.toNat { m with s := m.s + 1 }).1 = 0 then exec fuel N l (ops.drop (k + 1 + 1)) (rep fuel N l o2 o.g.toNat { m with s := m.s + 1 }).2 else rep fuel N l o2 o.g.toNat { m with s := m.s + 1 } := by
  rw [List.drop_eq_getElem_cons (by omega), ← ho, List.drop_eq_getElem_cons hk, ← ho2]
  show (if o.c = 5 then _ else _) = _
  rw [if_pos h5, if_neg (by omega), if_neg h2]
theorem exec_end (hk : ops.length ≤ k) : exec fuel N l (ops.drop k) m = (0, m) := by rw [List.drop_eq_nil_of_le hk]; rfl
/-- what a state keeps -/
def McOk (m : Mc) : Prop := 0 ≤ m.s ∧ m.h < 8
theorem pst_ok (hm : McOk m) (ho : OpOk o) : McOk (pst N l o m).2 := by
  obtain ⟨h1, h2⟩ := hm
  obtain ⟨o1, o2, o3, o4, o5⟩ := ho
  unfold pst
  split
  · rename_i h0
    split
    · exact ⟨h1, h2⟩
    · refine ⟨h1, ?_⟩
      rw [h0] at o4
      have : most 0 = 7 := rfl
      show o.g < 8
      omega
  · repeat' split
    all_goals first
      | exact ⟨h1, h2⟩
      | exact ⟨h1, by show (-1 : Int) < 8; omega⟩
theorem pst_s : (pst N l o m).2.s = m.s := by
  unfold pst
  repeat' split
  all_goals rfl
theorem pstep_keep (hm : McOk m) (ho : OpOk o) : McOk (pstep fuel N l o m).2 := by
  have h := pst_ok (N := N) (l := l) hm ho
  unfold pstep
  split
  · exact hm
  · split
    · exact ⟨by have := hm.1; show 0 ≤ m.s + 1; omega, h.2⟩
    · exact hm
end

theorem assert_fault (v : Value) (w : World) : (Instr.typeAssert (.iface 141 v) 20 141 true).run Try.prog w = .ok (.tuple #[v, .bool true]) w := by kernel_rfl
set_option maxRecDepth 100000 in
set_option maxHeartbeats 1000000 in
theorem catch_panicking {g x : Nat} (f : Int) (older : List PanicEntry) (w : World) (hx : w.cell? ⟨x, 0, none⟩ = some (.pointer (some ⟨g, 0, none⟩))) (y : Value) (hg : w.cell? ⟨g, 0, none⟩ = some y) (hz : w.frozen? ⟨g, 0, none⟩ = false) :
    CallsD Try.prog 80 #[.pointer (some ⟨x, 0, none⟩)] (.panicking ({ v := .iface 141 (.int .i64 f), recovered := false } :: older)) w fun e u' w' =>
      e = .returned (.tuple #[]) ∧ u' = .panicking ({ v := .iface 141 (.int .i64 f), recovered := true } :: older) ∧ w' = w.setCell ⟨g, 0, none⟩ (.int .i64 f) := by
  refine callsD_of_wpS Try.func80 rfl fun c₀ cs hu => ?_
  apply wpS_seq
  apply wpS_region
  simp [wpOpsS, go_sem, recoverD, hu, Try.ntmps80, Exit.thenS]
  apply wpS_seq
  apply wpS_region
  simp [wpOpsS, go_sem, recoverD, hu, Exit.thenS]
  refine wpS_cond (t := true) (by simp [Act.eval, Array.replicate]) ?_
  simp only [if_true]
  apply wpS_seq
  apply wpS_region
  simp [wpOpsS, go_sem, recoverD, hu, Exit.thenS, assert_fault]
  apply wpS_seq
  apply wpS_seq
  apply wpS_region
  simp [wpOpsS, go_sem, recoverD, hu, Exit.thenS]
  refine wpS_cond (t := false) (by simp [Act.eval, Array.replicate]) ?_
  simp only [Bool.false_eq_true, if_false]
  refine wpS_of_wp (wp_skip ?_)
  simp [Exit.thenS]
  apply wpS_region
  simp [wpOpsS, go_sem, hx, hg, hz, bodyPostS, results, Try.results80]
theorem catch_idle {x : Nat} (w : World) :
    CallsD Try.prog 80 #[.pointer (some ⟨x, 0, none⟩)] .returning w fun e u' w' => e = .returned (.tuple #[]) ∧ u' = .returning ∧ w' = w := by
  refine callsD_of_wpS Try.func80 rfl fun c₀ cs hu => ?_
  apply wpS_seq
  apply wpS_region
  simp [wpOpsS, go_sem, recoverD, hu, Try.ntmps80, Exit.thenS]
  apply wpS_seq
  apply wpS_region
  simp [wpOpsS, go_sem, recoverD, hu, Exit.thenS]
  refine wpS_cond (t := false) (by simp [Act.eval, Array.replicate]) ?_
  simp only [Bool.false_eq_true, if_false]
  refine wpS_of_wp (wp_skip ?_)
  cases c₀
  simp_all [bodyPostS, results, Try.results80]
end Go.Proofs.Ytbhjhajnhpohlaa
