/- The smallest board: a skin of one cell of grade 0, one kind of two by one. The functions without draws, walked. Conditions: the board lies in memory. -/
import Derived.Test.YtjadbipbidghdaaGreatDoorHq
namespace Go.Proofs.YtjadbipbidghdaaGreatDoor
open Go.RowKit

def rc1 : Array Value := #[.int .i64 0, .int .i64 0, .int .i64 1, .int .i64 1]
/-- the skin -/
def Sk0 (w : World) (bs : Nat) : Prop := Bk 9 w bs #[.string ⟨#[48]⟩]
/-- the kinds -/
def Kn0 (w : World) (bk : Nat) : Prop := Bk 74 w bk #[.int .i64 2, .int .i64 1, .int .i64 1, .int .i64 5, .bool false]
/-- the board -/
def Bd (w : World) (x bs bk m : Nat) : Prop := Bk 284 w x #[.slice (some ⟨bs, 0, none⟩) 1 1, .slice (some ⟨bk, 0, none⟩) 1 1, .int .i64 1, .int .i64 1, .map (some m)]
set_option maxRecDepth 100000 in
set_option maxHeartbeats 4000000 in
theorem sides_any (a b : Int) (ha : 1 ≤ a ∧ a ≤ 16) (hb : 1 ≤ b ∧ b ≤ 16) (w : World) : Calls Tryz.prog 236 #[.int .i64 a, .int .i64 b] w fun e w' => e = .returned (.bool true) ∧ w' = w := by
  have h1 : 1 ≤ min a b := by omega
  have h2 : max a b ≤ 16 := by omega
  go_enter Tryz.func236, Tryz.ntmps236
  go_wp2
  go_ret
  exact ⟨rfl, rfl⟩
set_option maxRecDepth 100000 in
set_option maxHeartbeats 4000000 in
theorem rects_any (w : World) : Calls Tryz.prog 238 #[.int .i64 1, .int .i64 1] w fun e w' => e = .returned (.tuple #[.int .i64 1, .int .i64 0]) ∧ w' = w := by
  have HS := Lib.hid (sides_any 1 1 (by omega) (by omega) w)
  go_enter Tryz.func238, Tryz.ntmps238
  go_wp2_with (go_at_call 236; refine (HS.out).mono ?_; rintro e w1 ⟨rfl, rfl⟩)
  refine bodyPost_ret (v := .tuple #[.int .i64 1, .int .i64 0]) (by simp [results, Tryz.results238, go_sem]) rfl ?_
  exact ⟨rfl, rfl⟩
set_option maxRecDepth 100000 in
set_option maxHeartbeats 4000000 in
theorem length_any (o : Int) (w : World) : Calls Tryz.prog 297 #[.agg #[.int .i64 0, .int .i64 0, .int .i64 1, .int .i64 1], .int .i64 o] w fun e w' => e = .returned (.int .i64 1) ∧ Below w.heap.size w w' := by
  have HX := Lib.hid (ext_alloc w (.cells #[.int .i64 0, .int .i64 0, .int .i64 1, .int .i64 1] 286))
  by_cases ho : o = 2
  · subst ho
    go_enter Tryz.func297, Tryz.ntmps297
    go_wp2
    go_ret
    exact ⟨rfl, HX.out⟩
  · go_enter Tryz.func297, Tryz.ntmps297
    go_wp2
    go_ret
    exact ⟨rfl, HX.out⟩
set_option maxRecDepth 100000 in
set_option maxHeartbeats 8000000 in
theorem number0_any (w : World) : Calls Tryz.prog 190 #[.int .i64 1, .int .i64 1, .agg #[.int .i64 0, .int .i64 0, .int .i64 1, .int .i64 1]] w fun e w' => e = .returned (.int .i64 0) ∧ Below w.heap.size w w' := by
  have HX := Lib.hid (ext_alloc w (.cells #[.int .i64 0, .int .i64 0, .int .i64 1, .int .i64 1] 286))
  have HB := Lib.hid (Bk.new 286 w #[.int .i64 0, .int .i64 0, .int .i64 1, .int .i64 1])
  go_enter Tryz.func190, Tryz.ntmps190
  go_upto_region 1 with (fail)
  obtain ⟨X, hX⟩ : ∃ X, X = w.alloc (.cells #[.int .i64 0, .int .i64 0, .int .i64 1, .int .i64 1] 286) := ⟨_, rfl⟩
  obtain ⟨q, hq⟩ : ∃ q, q = w.heap.size := ⟨_, rfl⟩
  rw [← hX] at HX HB ⊢
  rw [← hq] at HB ⊢
  clear hX hq
  obtain ⟨f1, f2, f3⟩ := HB.out.facts
  go_wp2_with (fail)
  go_loopg [12, 7] 0 (fun gg z v wr => z = .int .i64 0 ∧ v = .int .i64 0 ∧ gg = 0 ∧ wr = X)
  case atStart => exact ⟨rfl, rfl, rfl, rfl⟩
  case round =>
    obtain ⟨rfl, rfl, rfl, rfl⟩ := hrel
    go_wp2_with (fail)
    go_loopg [29, 7] 0 (fun gg z v w' => z = .int .i64 0 ∧ v = .int .i64 0 ∧ gg = 0 ∧ w' = wr)
    case atStart => exact ⟨rfl, rfl, rfl, rfl⟩
    case round =>
      obtain ⟨rfl, rfl, rfl, rfl⟩ := hrel
      go_wp2
      go_ret
      exact ⟨rfl, HX.out⟩
set_option maxRecDepth 100000 in
set_option maxHeartbeats 4000000 in
theorem least_any (w : World) : Calls Tryz.prog 294 #[.int .i64 1] w fun e w' => e = .returned (.bool true) ∧ w' = w := by
  go_enter Tryz.func294, Tryz.ntmps294
  go_wp2
  go_ret
  exact ⟨rfl, rfl⟩
set_option maxRecDepth 100000 in
set_option maxHeartbeats 4000000 in
theorem grade0_any (bs : Nat) (w : World) (h : Sk0 w bs) : Calls Tryz.prog 295 #[.slice (some ⟨bs, 0, none⟩) 1 1, .int .i64 0, .int .i64 0] w fun e w' => e = .returned (.int .i64 0) ∧ w' = w := by
  unfold Sk0 at h
  obtain ⟨f1, f2, f3⟩ := h.facts
  clear h
  go_enter Tryz.func295, Tryz.ntmps295
  go_wp2
  go_ret
  exact ⟨rfl, rfl⟩
set_option maxRecDepth 100000 in
set_option maxHeartbeats 4000000 in
theorem valid0_any (bs : Nat) (w : World) (h : Sk0 w bs) : Calls Tryz.prog 104 #[.slice (some ⟨bs, 0, none⟩) 1 1] w fun e w' => e = .returned (.bool true) ∧ Below w.heap.size w w' := by
  have HT := Lib.hid (trim_1 48 0 dig0 w)
  have HS := Lib.hid h
  unfold Sk0 at h
  obtain ⟨f1, f2, f3⟩ := h.facts
  clear h
  go_enter Tryz.func104, Tryz.ntmps104
  go_wp2_with (fail)
  go_loopg [29] 1 (fun gg z wr => (z = .int .i64 0 ∧ gg = 1 ∧ wr = w) ∨ (z = .int .i64 1 ∧ gg = 0 ∧ Below w.heap.size w wr))
  case atStart => exact .inl ⟨rfl, rfl, rfl⟩
  case round =>
    rcases hrel with ⟨rfl, rfl, rfl⟩ | ⟨rfl, rfl, hb⟩
    · go_wp2_with (go_at_call 73; refine (HT.out).mono ?_; rintro e w1 ⟨rfl, hx1⟩; have HX1 := Lib.hid hx1; clear hx1)
      go_roundg 0
      case measure => omega
      case rel => exact .inr ⟨rfl, rfl, HX1.out⟩
    · have HB := Lib.hid hb
      clear hb
      go_wp2
      go_ret
      exact ⟨rfl, HB.out⟩
end Go.Proofs.YtjadbipbidghdaaGreatDoor
