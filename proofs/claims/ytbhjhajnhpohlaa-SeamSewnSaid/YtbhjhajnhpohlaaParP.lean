/- Plain law of parted: a closed walk cut at its jumps; slices.IndexFunc at the jumps, walked. Conditions: the slice reads as a list of moves. -/
import Derived.Test.YtbhjhajnhpohlaaTrC
namespace Go.Proofs.Ytbhjhajnhpohlaa
open Go.RowKit

/-- cut at the jumps; the run that is open -/
def spl : List Mv → List Mv → List (List Mv)
  | acc, [] => if acc = [] then [] else [acc]
  | acc, m :: ms => if 0 ≤ m.k then spl (acc ++ [m]) ms else acc :: spl [] ms
theorem spl_keep {acc ms : List Mv} {m : Mv} (h : 0 ≤ m.k) : spl acc (m :: ms) = spl (acc ++ [m]) ms := by
  show (if 0 ≤ m.k then _ else _) = _
  rw [if_pos h]
theorem spl_jump {acc ms : List Mv} {m : Mv} (h : m.k < 0) : spl acc (m :: ms) = acc :: spl [] ms := by
  show (if 0 ≤ m.k then _ else _) = _
  rw [if_neg (by omega)]
theorem spl_nil_open {acc : List Mv} (h : acc ≠ []) : spl acc [] = [acc] := by
  show (if acc = [] then _ else _) = _
  rw [if_neg h]
theorem spl_nil : spl [] [] = [] := rfl
/-- what the runs hold together: the walk without its jumps -/
theorem spl_flat : ∀ (ms acc : List Mv), (spl acc ms).flatten = acc ++ ms.filter fun m => decide (0 ≤ m.k)
  | [], acc => by
    by_cases h : acc = []
    · subst h; rfl
    · rw [spl_nil_open h]; simp
  | m :: ms, acc => by
    by_cases h : 0 ≤ m.k
    · rw [spl_keep h, spl_flat ms, List.filter_cons_of_pos (by simpa using h)]
      simp
    · rw [spl_jump (by omega), List.flatten_cons, spl_flat ms, List.filter_cons_of_neg (by simpa using h)]
      simp
/-- turned so that the first jump ends it -/
def rotJ (w : List Mv) : List Mv := match w.findIdx? fun m => decide (m.k < 0) with
  | none => w
  | some i => w.drop (i + 1) ++ w.take (i + 1)
theorem rotJ_perm (w : List Mv) : (rotJ w).Perm w := by
  unfold rotJ
  split
  · exact .refl _
  · rename_i i _
    exact List.perm_append_comm.trans (by rw [List.take_append_drop])
/-- the number of runs: the jumps, and one more if the walk does not end with a jump -/
theorem spl_len : ∀ (ms acc : List Mv), (spl acc ms).length = (ms.countP fun m => decide (m.k < 0)) + (if (spl acc ms).length = (ms.countP fun m => decide (m.k < 0)) then 0 else 1)
  | [], acc => by
    by_cases h : acc = []
    · subst h; simp [spl]
    · rw [spl_nil_open h]; simp
  | m :: ms, acc => by
    by_cases h : 0 ≤ m.k
    · rw [spl_keep h, List.countP_cons_of_neg (by simpa using h)]
      exact spl_len ms _
    · rw [spl_jump (by omega), List.countP_cons_of_pos (by simpa using h)]
      have ih := spl_len ms []
      simp only [List.length_cons]
      split
      · omega
      · rename_i hne
        rw [if_neg (fun e => hne (by omega))] at ih
        omega

theorem enters97 : Enters 97 := fun _ _ => by kernel_rfl
set_option maxHeartbeats 1000000 in
theorem parted1_any (k : Int) (r : Bool) (W : World) : Calls Try.prog 97 #[.agg #[.int .i64 k, .bool r]] W fun e w' => e = .returned (.bool (decide (k < 0))) ∧ Below W.heap.size W w' := by
  go_enter Try.func97, Try.ntmps97
  go_wp2
  go_ret
  exact ⟨rfl, ext_alloc _ _⟩
/-- where the first jump is -/
def jmp (ms : List Mv) : Int := match ms.findIdx? fun m => decide (m.k < 0) with
  | none => -1
  | some i => i
set_option maxRecDepth 100000 in
set_option maxHeartbeats 4000000 in
theorem indexJ_any (C : Option Addr) (cc : Nat) (ms : List Mv) (w : World) (hn : ms.length ≤ 1000000) (hr : MSl w C ms) :
    Calls Try.prog 96 #[.slice C ms.length cc, .func (.func 97) #[] #[]] w fun e w' => e = .returned (.int .i64 (jmp ms)) ∧ Below w.heap.size w w' := by
  have HM := Lib.hid hr
  have hen : ∀ args W, (callFunc 97 args).run Try.prog W = .ok (.enter 97 args) W := enters97
  clear hr
  go_enter Try.func96, Try.ntmps96
  go_wp2
  go_loopg [8] ms.length (fun g i wr => ∃ k : Nat, i = .int .i64 k ∧ k ≤ ms.length ∧ g = ms.length - k ∧ Below w.heap.size w wr ∧ ∀ j (h : j < ms.length), j < k → ¬ ms[j].k < 0)
  case atStart => exact ⟨0, rfl, by omega, by omega, Below.refl _ _, fun j _ h => by omega⟩
  case round =>
    obtain ⟨k, rfl, hk, hg, hb, hp⟩ := hrel
    have HG := Lib.hid hg
    have HP := Lib.hid hp
    have HB := Lib.hid hb
    clear hg hp hb
    by_cases hlt : k < ms.length
    · rcases HM.out.ext HB.out with hf | ⟨b, off, rfl, hblt, hcl⟩
      · rw [hf] at hlt; simp at hlt
      · obtain ⟨c1, c2⟩ := hcl k hlt
        obtain ⟨m, hm⟩ : ∃ m, m = ms[k] := ⟨_, rfl⟩
        rw [← hm] at c1 c2
        have HMM := Lib.hid hm
        obtain ⟨mk, mr⟩ := m
        dsimp only at c1 c2
        clear hm hcl
        by_cases hj : mk < 0
        · have hd : decide (mk < 0) = true := decide_eq_true hj
          have HR := Lib.hid (show jmp ms = (k : Int) from by
            unfold jmp
            have e : ms.findIdx? (fun m => decide (m.k < 0)) = some k := by
              rw [List.findIdx?_eq_some_iff_getElem]
              exact ⟨hlt, by rw [← HMM.out]; exact hd, fun j hjk => by simpa using HP.out j (by omega) hjk⟩
            rw [e])
          go_wp2_with (go_at_call 97; refine (parted1_any _ _ _).mono ?_; rintro e w1 ⟨rfl, hx1⟩)
          go_ret
          exact ⟨by rw [HR.out]; rfl, bext HB.out hx1 HB.out.size⟩
        · have hd : decide (mk < 0) = false := decide_eq_false hj
          have HN := Lib.hid (show ∀ j (h : j < ms.length), j < k + 1 → ¬ ms[j].k < 0 from fun j h hjk => by
            by_cases e : j = k
            · subst e; rw [← HMM.out]; exact hj
            · exact HP.out j h (by omega))
          go_wp2_with (go_at_call 97; refine (parted1_any _ _ _).mono ?_; rintro e w1 ⟨rfl, hx1⟩)
          go_roundg (ms.length - (k + 1))
          case measure => have := HG.out; omega
          case rel => exact ⟨k + 1, by go_num, by omega, rfl, bext HB.out hx1 HB.out.size, HN.out⟩
    · obtain rfl : k = ms.length := by omega
      have HR := Lib.hid (show jmp ms = -1 from by
        unfold jmp
        have e : ms.findIdx? (fun m => decide (m.k < 0)) = none := by
          rw [List.findIdx?_eq_none_iff]
          intro m hm
          obtain ⟨j, hj, rfl⟩ := List.getElem_of_mem hm
          simpa using HP.out j hj hj
        rw [e])
      go_wp2
      go_ret
      exact ⟨by rw [HR.out]; rfl, HB.out⟩
end Go.Proofs.Ytbhjhajnhpohlaa
