/- Walks of frac's Valid, ratio.frac. Conditions: the arguments are within their kinds. -/
import Derived.Test.YtpdlogpkfnpbpaaDoorFa
namespace Go.Proofs.YtpdlogpkfnpbpaaDoor
open Go.RowKit

def IsI (n : Int) : Prop := -9223372036854775808 ≤ n ∧ n ≤ 9223372036854775807
/-- in lowest terms and within the limits -/
def Vld (n d : Int) : Prop := 1 ≤ d ∧ d ≤ 1000000000 ∧ -1000000000 ≤ n ∧ n ≤ 1000000000 ∧ Int.gcd n d = 1
instance (n d : Int) : Decidable (Vld n d) := by unfold Vld; infer_instance
def vldB (n d : Int) : Bool := decide (Vld n d)
theorem vldB_no {n d : Int} (h : ¬ Vld n d) : vldB n d = false := decide_eq_false h
theorem vldB_yes {n d : Int} (h : Vld n d) : vldB n d = true := decide_eq_true h

theorem quiet_size (n : Int) (W : World) (h : IsI n) : Calls Tryd.prog 26 #[.int .i64 n] W fun e w' => e = .returned (.int .u64 (n.natAbs : Int)) ∧ w' = W :=
  (size_any n W h.1 h.2).mono fun _ _ ⟨h1, h2⟩ => ⟨h1, h2.symm⟩

theorem ret_bool' {a b : Bool} (h : a = b) : Ending.returned (.bool a) = .returned (.bool b) := by rw [h]

set_option maxRecDepth 100000 in
set_option maxHeartbeats 2000000 in
theorem valid_any (n d : Int) (w : World) (hn : IsI n) (hd : IsI d) : Calls Tryd.prog 10 #[frv n d] w fun e w' => e = .returned (.bool (vldB n d)) ∧ Below w.heap.size w w' := by
  unfold frv
  have HN := Lib.hid hn
  have hn1 := hn.1
  have hn2 := hn.2
  have hd1 := hd.1
  have hd2 := hd.2
  clear hn hd
  by_cases h1 : 1 ≤ d
  · by_cases h2 : d ≤ 1000000000
    · by_cases h3 : -1000000000 ≤ n
      · by_cases h4 : n ≤ 1000000000
        · have g1 : decide (1 ≤ d) = true := by simpa using h1
          have g2 : decide (d ≤ 1000000000) = true := by simpa using h2
          have g3 : decide (-1000000000 ≤ n) = true := by simpa using h3
          have g4 : decide (n ≤ 1000000000) = true := by simpa using h4
          have hz : ∀ W, Calls Tryd.prog 25 #[.int .u64 (n.natAbs : Int), .int .u64 d] W fun e w' => e = .returned (.int .u64 (Int.gcd n d : Int)) ∧ ∃ k, w' = W.drewN k := fun W =>
            (gcd_any (n.natAbs : Int) d W (by omega) (by omega) (by omega) (by omega)).mono fun e w' ⟨x, y⟩ => ⟨by rw [x]; simp [Int.gcd], y⟩
          by_cases h5 : Int.gcd n d = 1
          · rw [vldB_yes ⟨h1, h2, h3, h4, h5⟩]
            rw [h5] at hz
            have HZ := Lib.hid hz
            clear hz h5
            go_enter Tryd.func10, Tryd.ntmps10
            go_wp2
            go_quiet ((first | (go_at_call 26; exact Calls.quiet_of_same (quiet_size n _ HN.out)) | (go_at_call 25; exact Calls.quiet_of (HZ.out _))))
            go_wp2
            go_ret
            exact ⟨rfl, by repeat (first | exact Below.refl _ _ | refine Below.alloc ?_ (by simp) _ | refine bdrewN ?_ _ | refine Below.drew ?_ | refine Below.setCell ?_ (by simp) _)⟩
          · rw [vldB_no (fun h => h5 h.2.2.2.2)]
            have h6 : ((Int.gcd n d : Int) == 1) = false := by simp; omega
            generalize Int.gcd n d = g at *
            have HZ := Lib.hid hz
            clear hz h5
            go_enter Tryd.func10, Tryd.ntmps10
            go_wp2
            go_quiet ((first | (go_at_call 26; exact Calls.quiet_of_same (quiet_size n _ HN.out)) | (go_at_call 25; exact Calls.quiet_of (HZ.out _))))
            go_wp2
            go_ret
            exact ⟨rfl, by repeat (first | exact Below.refl _ _ | refine Below.alloc ?_ (by simp) _ | refine bdrewN ?_ _ | refine Below.drew ?_ | refine Below.setCell ?_ (by simp) _)⟩
        · rw [vldB_no (fun h => h4 h.2.2.2.1)]
          have g4 : decide (n ≤ 1000000000) = false := by simpa using h4
          go_enter Tryd.func10, Tryd.ntmps10
          go_wp2
          go_quiet (fail)
          go_wp2
          go_ret
          exact ⟨rfl, by repeat (first | exact Below.refl _ _ | refine Below.alloc ?_ (by simp) _ | refine bdrewN ?_ _ | refine Below.drew ?_ | refine Below.setCell ?_ (by simp) _)⟩
      · rw [vldB_no (fun h => h3 h.2.2.1)]
        have g3 : decide (-1000000000 ≤ n) = false := by simpa using h3
        go_enter Tryd.func10, Tryd.ntmps10
        go_wp2
        go_quiet (fail)
        go_wp2
        go_ret
        exact ⟨rfl, by repeat (first | exact Below.refl _ _ | refine Below.alloc ?_ (by simp) _ | refine bdrewN ?_ _ | refine Below.drew ?_ | refine Below.setCell ?_ (by simp) _)⟩
    · rw [vldB_no (fun h => h2 h.2.1)]
      have g2 : decide (d ≤ 1000000000) = false := by simpa using h2
      go_enter Tryd.func10, Tryd.ntmps10
      go_wp2
      go_quiet (fail)
      go_wp2
      go_ret
      exact ⟨rfl, by repeat (first | exact Below.refl _ _ | refine Below.alloc ?_ (by simp) _ | refine bdrewN ?_ _ | refine Below.drew ?_ | refine Below.setCell ?_ (by simp) _)⟩
  · rw [vldB_no (fun h => h1 h.1)]
    have g1 : decide (1 ≤ d) = false := by simpa using h1
    go_enter Tryd.func10, Tryd.ntmps10
    go_wp2
    go_quiet (fail)
    go_wp2
    go_ret
    exact ⟨rfl, by repeat (first | exact Below.refl _ _ | refine Below.alloc ?_ (by simp) _ | refine bdrewN ?_ _ | refine Below.drew ?_ | refine Below.setCell ?_ (by simp) _)⟩
end Go.Proofs.YtpdlogpkfnpbpaaDoor
