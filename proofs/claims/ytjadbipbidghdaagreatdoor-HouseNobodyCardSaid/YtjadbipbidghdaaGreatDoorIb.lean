/- The law's awake, walked. Conditions: the library's variables are laid. -/
import Derived.Test.YtjadbipbidghdaaGreatDoorHz
namespace Go.Proofs.YtjadbipbidghdaaGreatDoor
open Go.RowKit

theorem ans_k (W : World) : (binOp .eql 110 (.agg #[.string ⟨#[107, 105, 110, 100, 32, 48]⟩, .int .i64 0]) (.agg #[.string ⟨#[107, 105, 110, 100, 32, 48]⟩, .int .i64 0])).run Tryz.prog W = .ok (.bool true) W := by kernel_rfl
theorem ans_m (W : World) : (binOp .eql 110 (.agg #[.string ⟨#[109, 111, 110, 101, 121, 32, 48]⟩, .int .i64 0]) (.agg #[.string ⟨#[109, 111, 110, 101, 121, 32, 48]⟩, .int .i64 0])).run Tryz.prog W = .ok (.bool true) W := by kernel_rfl
set_option maxRecDepth 100000 in
set_option maxHeartbeats 8000000 in
theorem awake_any (w : World) (ht : P10 w) (hm : MxI w) : Calls Tryz.prog 11 #[] w fun e w' => e = .returned (.bool true) ∧ Below w.heap.size w w' := by
  have hx := ext_alloc w (.cells #[.string ⟨#[107, 105, 110, 100, 32, 50, 32, 49, 32, 49, 32, 53, 32, 48]⟩, .string ⟨#[109, 111, 110, 101, 121]⟩] 9)
  have HX := Lib.hid hx
  have HR := Lib.hid (run_any w.heap.size (w.alloc (.cells #[.string ⟨#[107, 105, 110, 100, 32, 50, 32, 49, 32, 49, 32, 53, 32, 48]⟩, .string ⟨#[109, 111, 110, 101, 121]⟩] 9)) (Bk.new _ _ _) (ht.ext hx) (hm.ext hx))
  have hk := ans_k
  have hq := ans_m
  clear hx ht hm
  go_enter Tryz.func11, Tryz.ntmps11
  go_wp2_with (go_at_call 35; refine (HR.out).mono ?_; rintro e w1 ⟨v, rfl, hv, hx1⟩; have HX1 := Lib.hid (ext_trans HX.out hx1); clear hx1; obtain ⟨A, c, rfl, hnc, hcm, hv⟩ := own_cells hv; obtain ⟨g, rfl, hgb, hgl, hc⟩ := hv.resolve_left (by decide); have c0 := hc 0 _ rfl; have c1 := hc 1 _ rfl; have c2 := hc 2 _ rfl; have c3 := hc 3 _ rfl; clear hc hgb)
  go_ret
  exact ⟨rfl, HX1.out⟩
end Go.Proofs.YtjadbipbidghdaaGreatDoor
