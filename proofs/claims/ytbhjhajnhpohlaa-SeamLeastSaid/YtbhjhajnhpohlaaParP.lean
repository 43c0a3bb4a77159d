/- Plain law of parted: a closed walk cut at its jumps. No conditions. -/
import Derived.Test.YtbhjhajnhpohlaaTrC
namespace Go.Proofs.Ytbhjhajnhpohlaa

/-- cut at the jumps; the run that is open -/
def spl : List Mv → List Mv → List (List Mv)
  | acc, [] => if acc = [] then [] else [acc]
  | acc, m :: ms => if 0 ≤ m.k then spl (acc ++ [m]) ms else acc :: spl [] ms
theorem spl_keep {acc ms : List Mv} {m : Mv} (h : 0 ≤ m.k) : spl acc (m :: ms) = spl (acc ++ [m]) ms := by
  show (if 0 ≤ m.k then _ else _) = _
  rw [if_pos h]
theorem spl_jump {acc ms : List Mv} {m : Mv} (h : m.k < 0) : spl acc (m :: ms) = acc :: spl [] ms := by
  show (if 0 ≤ m.k then _ else _) = _
  rw [if_neg (by omega)]
theorem spl_nil_open {acc : List Mv} (h : acc ≠ []) : spl acc [] = [acc] := by
  show (if acc = [] then _ else _) = _
  rw [if_neg h]
theorem spl_nil : spl [] [] = [] := rfl
/-- what the runs hold together: the walk without its jumps -/
theorem spl_flat : ∀ (ms acc : List Mv), (spl acc ms).flatten = acc ++ ms.filter fun m => decide (0 ≤ m.k)
  | [], acc => by
    by_cases h : acc = []
    · subst h; rfl
    · rw [spl_nil_open h]; simp
  | m :: ms, acc => by
    by_cases h : 0 ≤ m.k
    · rw [spl_keep h, spl_flat ms, List.filter_cons_of_pos (by simpa using h)]
      simp
    · rw [spl_jump (by omega), List.flatten_cons, spl_flat ms, List.filter_cons_of_neg (by simpa using h)]
      simp
/-- turned so that the first jump ends it -/
def rotJ (w : List Mv) : List Mv := match w.findIdx? fun m => decide (m.k < 0) with
  | none => w
  | some i => w.drop (i + 1) ++ w.take (i + 1)
theorem rotJ_perm (w : List Mv) : (rotJ w).Perm w := by
  unfold rotJ
  split
  · exact .refl _
  · rename_i i _
    exact List.perm_append_comm.trans (by rw [List.take_append_drop])
/-- the number of runs: the jumps, and one more if the walk does not end with a jump -/
theorem spl_len : ∀ (ms acc : List Mv), (spl acc ms).length = (ms.countP fun m => decide (m.k < 0)) + (if (spl acc ms).length = (ms.countP fun m => decide (m.k < 0)) then 0 else 1)
  | [], acc => by
    by_cases h : acc = []
    · subst h; simp [spl]
    · rw [spl_nil_open h]; simp
  | m :: ms, acc => by
    by_cases h : 0 ≤ m.k
    · rw [spl_keep h, List.countP_cons_of_neg (by simpa using h)]
      exact spl_len ms _
    · rw [spl_jump (by omega), List.countP_cons_of_pos (by simpa using h)]
      have ih := spl_len ms []
      simp only [List.length_cons]
      split
      · omega
      · rename_i hne
        rw [if_neg (fun e => hne (by omega))] at ih
        omega
end Go.Proofs.Ytbhjhajnhpohlaa
