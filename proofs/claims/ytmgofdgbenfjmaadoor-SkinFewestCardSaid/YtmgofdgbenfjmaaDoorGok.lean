/- The reference's Good walked. Conditions: each string's length is an int. -/
import Derived.Test.YtmgofdgbenfjmaaDoorPs
import Derived.Test.YtmgofdgbenfjmaaDoorRg
namespace Go.Proofs.YtmgofdgbenfjmaaDoor
open Go.RowKit

instance (l : List ByteArray) (g : Int) : Decidable (PsOk l g) := by unfold PsOk; infer_instance
set_option maxRecDepth 100000 in
set_option maxHeartbeats 4000000 in
theorem good_any (A : Option Addr) (cap : Nat) (l : List ByteArray) (g : Int) (w : World) (hc : l.length ≤ cap) (hcm : cap ≤ 9223372036854775807) (h : TSl w A l) (hz : TSz l) :
    Calls Tryd.prog 21 #[.slice A l.length cap, .int .i64 g] w fun e w' => e = .returned (.bool (decide (PsOk l g))) ∧ Below w.heap.size w w' := by
  have HV := Lib.hid (rvalid_any A cap l w hc hcm h hz)
  by_cases hok : SkOk l
  · rw [decide_eq_true hok] at HV
    by_cases h1 : 1 ≤ g
    · by_cases h2 : g ≤ 9
      · rw [decide_eq_true (show PsOk l g from ⟨hok, h1, h2⟩)]
        clear hok
        go_enter Tryd.func21, Tryd.ntmps21
        go_wp2_with (go_at_call 38; refine (HV.out).mono ?_; rintro e w1 ⟨rfl, hx1⟩)
        refine bodyPost_ret (v := .bool true) (by simp [results, Tryd.results21, go_sem]) rfl ?_
        exact ⟨rfl, hx1⟩
      · rw [decide_eq_false (show ¬ PsOk l g from fun h => h2 h.2.2)]
        clear hok
        go_enter Tryd.func21, Tryd.ntmps21
        go_wp2_with (go_at_call 38; refine (HV.out).mono ?_; rintro e w1 ⟨rfl, hx1⟩)
        refine bodyPost_ret (v := .bool false) (by simp [results, Tryd.results21, go_sem, h2]) rfl ?_
        exact ⟨rfl, hx1⟩
    · rw [decide_eq_false (show ¬ PsOk l g from fun h => h1 h.2.1)]
      clear hok
      go_enter Tryd.func21, Tryd.ntmps21
      go_wp2_with (go_at_call 38; refine (HV.out).mono ?_; rintro e w1 ⟨rfl, hx1⟩)
      go_ret
      exact ⟨rfl, hx1⟩
  · rw [decide_eq_false hok] at HV
    rw [decide_eq_false (show ¬ PsOk l g from fun h => hok h.1)]
    clear hok
    go_enter Tryd.func21, Tryd.ntmps21
    go_wp2_with (go_at_call 38; refine (HV.out).mono ?_; rintro e w1 ⟨rfl, hx1⟩)
    go_ret
    exact ⟨rfl, hx1⟩
end Go.Proofs.YtmgofdgbenfjmaaDoor
