/- The machine's deferred closure, in both modes. No conditions. -/
import Derived.Test.YtbhjhajnhpohlaaMxp
import Derived.Tactics
import Derived.Tactics2
import Derived.Defers
import Derived.Recover
import Derived.Laws.Pointers
namespace Go.Proofs.Ytbhjhajnhpohlaa
open Go.RowKit

theorem assert_fault (v : Value) (w : World) : (Instr.typeAssert (.iface 141 v) 20 141 true).run Try.prog w = .ok (.tuple #[v, .bool true]) w := by kernel_rfl
set_option maxRecDepth 100000 in
set_option maxHeartbeats 1000000 in
theorem catch_panicking {g x : Nat} (f : Int) (older : List PanicEntry) (w : World) (hx : w.cell? ⟨x, 0, none⟩ = some (.pointer (some ⟨g, 0, none⟩))) (y : Value) (hg : w.cell? ⟨g, 0, none⟩ = some y) (hz : w.frozen? ⟨g, 0, none⟩ = false) :
    CallsD Try.prog 80 #[.pointer (some ⟨x, 0, none⟩)] (.panicking ({ v := .iface 141 (.int .i64 f), recovered := false } :: older)) w fun e u' w' =>
      e = .returned (.tuple #[]) ∧ u' = .panicking ({ v := .iface 141 (.int .i64 f), recovered := true } :: older) ∧ w' = w.setCell ⟨g, 0, none⟩ (.int .i64 f) := by
  refine callsD_of_wpS Try.func80 rfl fun c₀ cs hu => ?_
  apply wpS_seq
  apply wpS_region
  simp [wpOpsS, go_sem, recoverD, hu, Try.ntmps80, Exit.thenS]
  apply wpS_seq
  apply wpS_region
  simp [wpOpsS, go_sem, recoverD, hu, Exit.thenS]
  refine wpS_cond (t := true) (by simp [Act.eval, Array.replicate]) ?_
  simp only [if_true]
  apply wpS_seq
  apply wpS_region
  simp [wpOpsS, go_sem, recoverD, hu, Exit.thenS, assert_fault]
  apply wpS_seq
  apply wpS_seq
  apply wpS_region
  simp [wpOpsS, go_sem, recoverD, hu, Exit.thenS]
  refine wpS_cond (t := false) (by simp [Act.eval, Array.replicate]) ?_
  simp only [Bool.false_eq_true, if_false]
  refine wpS_of_wp (wp_skip ?_)
  simp [Exit.thenS]
  apply wpS_region
  simp [wpOpsS, go_sem, hx, hg, hz, bodyPostS, results, Try.results80]
theorem catch_idle {x : Nat} (w : World) :
    CallsD Try.prog 80 #[.pointer (some ⟨x, 0, none⟩)] .returning w fun e u' w' => e = .returned (.tuple #[]) ∧ u' = .returning ∧ w' = w := by
  refine callsD_of_wpS Try.func80 rfl fun c₀ cs hu => ?_
  apply wpS_seq
  apply wpS_region
  simp [wpOpsS, go_sem, recoverD, hu, Try.ntmps80, Exit.thenS]
  apply wpS_seq
  apply wpS_region
  simp [wpOpsS, go_sem, recoverD, hu, Exit.thenS]
  refine wpS_cond (t := false) (by simp [Act.eval, Array.replicate]) ?_
  simp only [Bool.false_eq_true, if_false]
  refine wpS_of_wp (wp_skip ?_)
  cases c₀
  simp_all [bodyPostS, results, Try.results80]
end Go.Proofs.Ytbhjhajnhpohlaa
