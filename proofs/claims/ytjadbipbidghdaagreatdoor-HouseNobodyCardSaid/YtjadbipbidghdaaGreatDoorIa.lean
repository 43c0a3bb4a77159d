/- The calls of a house that Open did not return, walked. Conditions: nil, or a house whose first cell is nil. -/
import Derived.Test.YtjadbipbidghdaaGreatDoorHg
namespace Go.Proofs.YtjadbipbidghdaaGreatDoor
open Go.RowKit

/-- no house -/
def Nob (v : Value) (w : World) : Prop := v = .pointer none ∨ ∃ h, v = .pointer (some ⟨h, 0, none⟩) ∧ w.cell? ⟨h, 0, none⟩ = some (.pointer none)
theorem nob_any (v : Value) (w : World) (h : Nob v w) : Calls Tryz.prog 12 #[v] w fun e w' => e = .returned (.bool true) ∧ w' = w := by
  rcases h with rfl | ⟨h, rfl, hc⟩
  · exact none_nil w
  · exact none_zero h w hc
set_option maxRecDepth 100000 in
set_option maxHeartbeats 8000000 in
theorem do_nob (v : Value) (s : ByteArray) (w : World) (h : Nob v w) : Calls Tryz.prog 4 #[v, .string s] w fun e w' => e = .returned (.tuple #[.string ⟨#[]⟩, .int .i64 1]) ∧ w' = w := by
  have HN := Lib.hid (nob_any v w h)
  clear h
  go_enter Tryz.func4, Tryz.ntmps4
  go_wp2_with (go_at_call 12; refine (HN.out).mono ?_; rintro e w1 ⟨rfl, rfl⟩)
  refine bodyPost_ret (v := .tuple #[.string ⟨#[]⟩, .int .i64 1]) (by simp [results, Tryz.results4, go_sem]) rfl ?_
  exact ⟨rfl, rfl⟩
set_option maxRecDepth 100000 in
set_option maxHeartbeats 8000000 in
theorem what_nob (v : Value) (s : ByteArray) (w : World) (h : Nob v w) : Calls Tryz.prog 5 #[v, .string s] w fun e w' => e = .returned (.tuple #[.string ⟨#[]⟩, .int .i64 1]) ∧ w' = w := by
  have HN := Lib.hid (nob_any v w h)
  clear h
  go_enter Tryz.func5, Tryz.ntmps5
  go_wp2_with (go_at_call 12; refine (HN.out).mono ?_; rintro e w1 ⟨rfl, rfl⟩)
  refine bodyPost_ret (v := .tuple #[.string ⟨#[]⟩, .int .i64 1]) (by simp [results, Tryz.results5, go_sem]) rfl ?_
  exact ⟨rfl, rfl⟩
set_option maxRecDepth 100000 in
set_option maxHeartbeats 8000000 in
theorem state_nob (v : Value) (w : World) (h : Nob v w) : Calls Tryz.prog 6 #[v] w fun e w' => e = .returned (.string ⟨#[]⟩) ∧ w' = w := by
  have HN := Lib.hid (nob_any v w h)
  clear h
  go_enter Tryz.func6, Tryz.ntmps6
  go_wp2_with (go_at_call 12; refine (HN.out).mono ?_; rintro e w1 ⟨rfl, rfl⟩)
  go_ret
  exact ⟨rfl, rfl⟩
set_option maxRecDepth 100000 in
set_option maxHeartbeats 8000000 in
theorem lines_nob (v : Value) (w : World) (h : Nob v w) : Calls Tryz.prog 7 #[v] w fun e w' => e = .returned (.slice none 0 0) ∧ w' = w := by
  have HN := Lib.hid (nob_any v w h)
  clear h
  go_enter Tryz.func7, Tryz.ntmps7
  go_wp2_with (go_at_call 12; refine (HN.out).mono ?_; rintro e w1 ⟨rfl, rfl⟩)
  go_ret
  exact ⟨rfl, rfl⟩
set_option maxRecDepth 100000 in
set_option maxHeartbeats 8000000 in
theorem pack_nob (v : Value) (w : World) (h : Nob v w) : Calls Tryz.prog 8 #[v] w fun e w' => e = .returned (.int .i64 1) ∧ w' = w := by
  have HN := Lib.hid (nob_any v w h)
  clear h
  go_enter Tryz.func8, Tryz.ntmps8
  go_wp2_with (go_at_call 12; refine (HN.out).mono ?_; rintro e w1 ⟨rfl, rfl⟩)
  go_ret
  exact ⟨rfl, rfl⟩
set_option maxRecDepth 100000 in
set_option maxHeartbeats 8000000 in
theorem audit_nob (v : Value) (w : World) (h : Nob v w) : Calls Tryz.prog 9 #[v] w fun e w' => e = .returned (.bool false) ∧ w' = w := by
  have HN := Lib.hid (nob_any v w h)
  clear h
  go_enter Tryz.func9, Tryz.ntmps9
  go_wp2_with (go_at_call 12; refine (HN.out).mono ?_; rintro e w1 ⟨rfl, rfl⟩)
  go_ret
  exact ⟨rfl, rfl⟩
end Go.Proofs.YtjadbipbidghdaaGreatDoor
