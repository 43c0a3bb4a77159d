/- The smallest board's functions, walked: fits, leaf, cuts, whole. Conditions: the board lies in memory. -/
import Derived.Test.YtjadbipbidghdaaGreatDoorHr
namespace Go.Proofs.YtjadbipbidghdaaGreatDoor
open Go.RowKit

set_option maxRecDepth 100000 in
set_option maxHeartbeats 8000000 in
theorem fits0_any (x bs bk m : Nat) (w : World) (h : Bd w x bs bk m) (hk : Kn0 w bk) : Calls Tryz.prog 296 #[.pointer (some ⟨x, 0, none⟩), .int .i64 0, .agg #[.int .i64 0, .int .i64 0, .int .i64 1, .int .i64 1]] w fun e w' => e = .returned (.tuple #[.bool false, .bool false]) ∧ Below w.heap.size w w' := by
  have HX := Lib.hid (ext_alloc w (.cells #[.int .i64 0, .int .i64 0, .int .i64 1, .int .i64 1] 286))
  have HR := Lib.hid (Bk.new 286 w #[.int .i64 0, .int .i64 0, .int .i64 1, .int .i64 1])
  have HB := Lib.hid h
  have HK := Lib.hid hk
  clear h hk
  go_enter Tryz.func296, Tryz.ntmps296
  go_upto_region 1 with (fail)
  obtain ⟨X, hX⟩ : ∃ X, X = w.alloc (.cells #[.int .i64 0, .int .i64 0, .int .i64 1, .int .i64 1] 286) := ⟨_, rfl⟩
  obtain ⟨q, hq⟩ : ∃ q, q = w.heap.size := ⟨_, rfl⟩
  rw [← hX] at HX HR ⊢
  rw [← hq] at HR ⊢
  clear hX hq
  obtain ⟨f1, f2, f3⟩ := Bk.facts (show Bk 284 X x #[.slice (some ⟨bs, 0, none⟩) 1 1, .slice (some ⟨bk, 0, none⟩) 1 1, .int .i64 1, .int .i64 1, .map (some m)] from Bk.ext HB.out HX.out)
  obtain ⟨g1, g2, g3⟩ := Bk.facts (show Bk 74 X bk #[.int .i64 2, .int .i64 1, .int .i64 1, .int .i64 5, .bool false] from Bk.ext HK.out HX.out)
  have HXK := Lib.hid (ext_trans HX.out (ext_alloc X (.cells #[.int .i64 2, .int .i64 1, .int .i64 1, .int .i64 5, .bool false] 74)))
  have HRK := Lib.hid (HR.out.ext (ext_alloc X (.cells #[.int .i64 2, .int .i64 1, .int .i64 1, .int .i64 5, .bool false] 74)))
  have HKK := Lib.hid (Bk.new 74 X #[.int .i64 2, .int .i64 1, .int .i64 1, .int .i64 5, .bool false])
  go_upto_region 3 with (fail)
  obtain ⟨Y, hY⟩ : ∃ Y, Y = X.alloc (.cells #[.int .i64 2, .int .i64 1, .int .i64 1, .int .i64 5, .bool false] 74) := ⟨_, rfl⟩
  obtain ⟨p, hp⟩ : ∃ p, p = X.heap.size := ⟨_, rfl⟩
  rw [← hY] at HXK HRK HKK ⊢
  rw [← hp] at HKK ⊢
  clear hY hp f1 f2 f3 g1 g2 g3
  obtain ⟨f1, f2, f3⟩ := HRK.out.facts
  obtain ⟨g1, g2, g3⟩ := HKK.out.facts
  go_wp2
  refine bodyPost_ret (v := .tuple #[.bool false, .bool false]) (by simp [results, Tryz.results296, go_sem]) rfl ?_
  exact ⟨rfl, HXK.out⟩
set_option maxRecDepth 100000 in
set_option maxHeartbeats 8000000 in
theorem leaf0_any (x bs bk m : Nat) (w : World) (h : Bd w x bs bk m) (hk : Kn0 w bk) : Calls Tryz.prog 241 #[.pointer (some ⟨x, 0, none⟩), .agg #[.int .i64 0, .int .i64 0, .int .i64 1, .int .i64 1]] w fun e w' => e = .returned (.int .i64 0) ∧ Below w.heap.size w w' := by
  have HX := Lib.hid (ext_alloc w (.cells #[.int .i64 0, .int .i64 0, .int .i64 1, .int .i64 1] 286))
  have HR := Lib.hid (Bk.new 286 w #[.int .i64 0, .int .i64 0, .int .i64 1, .int .i64 1])
  have HB := Lib.hid h
  have HK := Lib.hid hk
  clear h hk
  go_enter Tryz.func241, Tryz.ntmps241
  go_upto_region 1 with (fail)
  obtain ⟨X, hX⟩ : ∃ X, X = w.alloc (.cells #[.int .i64 0, .int .i64 0, .int .i64 1, .int .i64 1] 286) := ⟨_, rfl⟩
  obtain ⟨q, hq⟩ : ∃ q, q = w.heap.size := ⟨_, rfl⟩
  rw [← hX] at HX HR ⊢
  rw [← hq] at HR ⊢
  clear hX hq
  have HBX := Lib.hid (show Bd X x bs bk m from Bk.ext HB.out HX.out)
  have HKX := Lib.hid (show Kn0 X bk from Bk.ext HK.out HX.out)
  obtain ⟨f1, f2, f3⟩ := Bk.facts (show Bk 284 X x #[.slice (some ⟨bs, 0, none⟩) 1 1, .slice (some ⟨bk, 0, none⟩) 1 1, .int .i64 1, .int .i64 1, .map (some m)] from HBX.out)
  go_wp2_with (fail)
  go_loopg [15, 5] 1 (fun gg z v wr => v = .int .i64 0 ∧ ((z = .int .i64 0 ∧ gg = 1 ∧ wr = X) ∨ (z = .int .i64 1 ∧ gg = 0 ∧ Below w.heap.size w wr)))
  case atStart => exact ⟨rfl, .inl ⟨rfl, rfl, rfl⟩⟩
  case round =>
    obtain ⟨rfl, ⟨rfl, rfl, rfl⟩ | ⟨rfl, rfl, hb⟩⟩ := hrel
    · have HXK := Lib.hid (ext_trans HX.out (ext_alloc wr (.cells #[.int .i64 2, .int .i64 1, .int .i64 1, .int .i64 5, .bool false] 74)))
      have HKK := Lib.hid (Bk.new 74 wr #[.int .i64 2, .int .i64 1, .int .i64 1, .int .i64 5, .bool false])
      have HXE := Lib.hid (ext_alloc wr (.cells #[.int .i64 2, .int .i64 1, .int .i64 1, .int .i64 5, .bool false] 74))
      obtain ⟨g1, g2, g3⟩ := Bk.facts (show Bk 74 wr bk #[.int .i64 2, .int .i64 1, .int .i64 1, .int .i64 5, .bool false] from HKX.out)
      go_upto_region 5 with (fail)
      obtain ⟨Y, hY⟩ : ∃ Y, Y = wr.alloc (.cells #[.int .i64 2, .int .i64 1, .int .i64 1, .int .i64 5, .bool false] 74) := ⟨_, rfl⟩
      obtain ⟨p, hp⟩ : ∃ p, p = wr.heap.size := ⟨_, rfl⟩
      rw [← hY] at HXK HKK HXE ⊢
      rw [← hp] at HKK ⊢
      clear hY hp f1 f2 f3 g1 g2 g3
      have HBY := Lib.hid (show Bd Y x bs bk m from Bk.ext HBX.out HXE.out)
      have HKY := Lib.hid (show Kn0 Y bk from Bk.ext HKX.out HXE.out)
      have HFI := Lib.hid (fits0_any x bs bk m Y HBY.out HKY.out)
      obtain ⟨f1, f2, f3⟩ := (HR.out.ext HXE.out).facts
      obtain ⟨g1, g2, g3⟩ := HKK.out.facts
      go_wp2_with (go_at_call 296; refine (HFI.out).mono ?_; rintro e w5 ⟨rfl, hx5⟩; have HX5 := Lib.hid (ext_trans HXK.out hx5); clear hx5 f1 f2 f3 g1 g2 g3)
      go_roundg 0
      case measure => omega
      case rel => exact ⟨rfl, .inr ⟨rfl, rfl, HX5.out⟩⟩
    · have HB5 := Lib.hid hb
      clear hb f1 f2 f3
      go_wp2
      go_ret
      exact ⟨rfl, HB5.out⟩
set_option maxRecDepth 100000 in
set_option maxHeartbeats 8000000 in
theorem cuts0_any (x : Nat) (o : Int) (v : Value) (w : World) : Calls Tryz.prog 242 #[.pointer (some ⟨x, 0, none⟩), .agg #[.int .i64 0, .int .i64 0, .int .i64 1, .int .i64 1], .int .i64 o, v] w fun e w' => e = .returned (.int .i64 0) ∧ Below w.heap.size w w' := by
  have HX := Lib.hid (ext_alloc w (.cells #[.int .i64 0, .int .i64 0, .int .i64 1, .int .i64 1] 286))
  have HR := Lib.hid (Bk.new 286 w #[.int .i64 0, .int .i64 0, .int .i64 1, .int .i64 1])
  go_enter Tryz.func242, Tryz.ntmps242
  go_upto_region 1 with (fail)
  obtain ⟨X, hX⟩ : ∃ X, X = w.alloc (.cells #[.int .i64 0, .int .i64 0, .int .i64 1, .int .i64 1] 286) := ⟨_, rfl⟩
  obtain ⟨q, hq⟩ : ∃ q, q = w.heap.size := ⟨_, rfl⟩
  rw [← hX] at HX HR ⊢
  rw [← hq] at HR ⊢
  clear hX hq
  obtain ⟨f1, f2, f3⟩ := HR.out.facts
  have HL := Lib.hid (length_any o X)
  go_wp2_with (fail)
  go_loopg [10, 9] 0 (fun gg z v wr => z = .int .i64 1 ∧ v = .int .i64 0 ∧ gg = 0 ∧ wr = X)
  case atStart => exact ⟨rfl, rfl, rfl, rfl⟩
  case round =>
    obtain ⟨rfl, rfl, rfl, rfl⟩ := hrel
    go_wp2_with (go_at_call 297; refine (HL.out).mono ?_; rintro e w5 ⟨rfl, hx5⟩; have HX5 := Lib.hid (ext_trans HX.out hx5); clear hx5 f1 f2 f3)
    go_ret
    exact ⟨rfl, HX5.out⟩
end Go.Proofs.YtjadbipbidghdaaGreatDoor
