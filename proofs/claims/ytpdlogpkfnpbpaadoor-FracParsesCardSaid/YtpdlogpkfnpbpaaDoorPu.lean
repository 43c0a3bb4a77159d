/- Words for the walks of Parse. No conditions. -/
import Derived.Test.YtpdlogpkfnpbpaaDoorPv
import Derived.Deep.DeepCutAuto
namespace Go.Proofs.YtpdlogpkfnpbpaaDoor
open Go.RowKit

theorem cut1_len (c : UInt8) : ∀ l : List UInt8, (cut1 c l).1.length ≤ l.length ∧ (cut1 c l).2.1.length ≤ l.length
  | [] => by simp [cut1]
  | x :: l => by
    have := cut1_len c l
    unfold cut1
    split
    · simp
    · simp; omega
theorem sgnP_len (l : List UInt8) : (sgnP l).2.length ≤ l.length := by
  unfold sgnP
  split <;> simp
theorem wpP_len (l : List UInt8) : (wpP l).1.length ≤ max l.length 1 ∧ (wpP l).2.length ≤ l.length := by
  have := cut1_len 32 l
  unfold wpP
  split
  · simp; omega
  · simp only; omega
theorem ndP_len (l : List UInt8) : (ndP l).1.length ≤ max l.length 1 ∧ (ndP l).2.length ≤ max l.length 1 := by
  have := cut1_len 47 l
  unfold ndP
  split
  · simp; omega
  · simp only; omega
/-- a string against another -/
theorem str_beq (l m : List UInt8) : ((BS l).toList == (BS m).toList) = decide (l = m) := by
  have e : ∀ k, (BS k).toList = k := fun k => by rw [ByteArray.toList_eq]; exact BS_list k
  rw [e, e]
  by_cases h : l = m
  · rw [h]; simp
  · rw [decide_eq_false h, beq_eq_false_iff_ne]; exact h
theorem numV_lt (l : List UInt8) : (numV l).1 < 10000000000 := by
  cases h : numP l with
  | none => rw [numV_none h]; decide
  | some n => rw [numV_some h]; exact numP_lt h
def RetP (w : World) (l : List UInt8) (e : Ending) (w' : World) : Prop := ∃ t, PaR l t ∧ e = .returned (.tuple #[.agg #[.int .i64 t.1, .int .i64 t.2.1], .int .i64 t.2.2]) ∧ Below w.heap.size w w'
/-- the results' cell -/
theorem res_below {w w' : World} {o : Obj} (h : Below (w.alloc o).heap.size (w.alloc o) w') (x y : Value) : Below w.heap.size w ((w'.setCell ⟨w.heap.size, 0, none⟩ x).setCell ⟨w.heap.size, 1, none⟩ y) :=
  below2 (ext_trans (pext_alloc w o) h) (Nat.le_refl _) x y
end Go.Proofs.YtpdlogpkfnpbpaaDoor
