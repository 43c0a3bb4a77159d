/- kind and money walked, and a line parsed. Conditions: the table of powers of ten is laid; the greatest length of an index is laid. -/
import Derived.Test.YtjadbipbidghdaaGreatDoorHo
import Derived.ArgAppend
namespace Go.Proofs.YtjadbipbidghdaaGreatDoor
open Go.RowKit

set_option maxRecDepth 100000 in
set_option maxHeartbeats 4000000 in
theorem kind_any (v : Value) (hv : v.oneCell' = true) (w : World) : Calls Tryz.prog 78 #[v] w fun e w' => e = .returned (.func (.func 124) #[] #[.pointer (some ⟨w.heap.size, 0, none⟩)]) ∧ w'.cell? ⟨w.heap.size, 0, none⟩ = some v ∧ Below w.heap.size w w' ∧ w.heap.size < w'.heap.size := by
  have HX := Lib.hid (ext_alloc w (.cells #[v] 77))
  have HB := Lib.hid (Bk.new 77 w #[v])
  go_enter Tryz.func78, Tryz.ntmps78
  go_wp2
  go_ret
  exact ⟨rfl, HB.out.cell 0, HX.out, HB.out.lt⟩
set_option maxRecDepth 100000 in
set_option maxHeartbeats 4000000 in
theorem money_any (v : Value) (w : World) : Calls Tryz.prog 89 #[v] w fun e w' => e = .returned (.func (.func 148) #[] #[]) ∧ w' = w := by
  go_enter Tryz.func89, Tryz.ntmps89
  go_wp2
  go_ret
  exact ⟨rfl, rfl⟩
theorem app_none (b k b2 c2 : Nat) (ty : TypeId) (W : World) : (Builtin.append_ #[77, 77] ty #[.slice (some ⟨b, 0, none⟩) k k, .slice (some ⟨b2, 0, none⟩) 0 c2]).run Tryz.prog W = .ok (.slice (some ⟨b, 0, none⟩) k k) W := by
  obtain ⟨i, hi, hz, hsz, hby⟩ := info_parts (show (Tryz.prog.info? 3).map (fun i => (i.zero, i.size, i.bytes)) = some (some (.int .i64 0), 1, 8) from by kernel_rfl)
  exact run_append_room_cells W 77 ty 3 i Tryz.underlying77 hi b 0 k k ⟨b2, 0, none⟩ 0 c2 [] (by simp) (fun j u h => by simp at h) (fun u h => by cases h) (by omega) (fun j h => by simp at h) (fun j h => by simp at h)
theorem nn_nil (W : World) : (binOp .neq 118 .nilFunc .nilFunc).run Tryz.prog W = .ok (.bool false) W := by kernel_rfl
theorem nn_kind (W : World) : (binOp .neq 118 (.func (.func 78) #[] #[]) .nilFunc).run Tryz.prog W = .ok (.bool true) W := by kernel_rfl
set_option maxRecDepth 100000 in
set_option maxHeartbeats 8000000 in
theorem parse_money (w : World) (ht : P10 w) (hm : MxI w) : Calls Tryz.prog 13 #[.string ⟨#[109, 111, 110, 101, 121]⟩] w fun e w' => e = .returned (.tuple #[.agg #[.nilFunc, .func (.func 148) #[] #[]], .int .i64 0]) ∧ Below w.heap.size w w' := by
  have HX := Lib.hid (ext_alloc w (.cells #[.nilFunc, .nilFunc] 42))
  have HB := Lib.hid (Bk.new 42 w #[.nilFunc, .nilFunc])
  have HT := Lib.hid ht
  have HM := Lib.hid hm
  clear ht hm
  go_enter Tryz.func13, Tryz.ntmps13
  go_upto_region 1 with (fail)
  obtain ⟨X, hX⟩ : ∃ X, X = w.alloc (.cells #[.nilFunc, .nilFunc] 42) := ⟨_, rfl⟩
  obtain ⟨q, hq⟩ : ∃ q, q = w.heap.size := ⟨_, rfl⟩
  rw [← hX] at HX HB ⊢
  rw [← hq] at HB ⊢
  have hwq : w.heap.size ≤ q := by omega
  clear hX hq
  have HSP := Lib.hid (split_money X (HM.out.ext HX.out))
  go_upto_region 4 with (go_at_call 33; refine (HSP.out).mono ?_; rintro e w1 ⟨rfl, hw1, hx1⟩; have HW1 := Lib.hid hw1; have HX1 := Lib.hid hx1; clear hw1 hx1)
  obtain ⟨b, hb⟩ : ∃ b, b = X.heap.size := ⟨_, rfl⟩
  rw [← hb] at HW1 ⊢
  have HBX := Lib.hid hb
  clear hb HSP
  obtain ⟨f1, f2, f3⟩ := HW1.out.facts
  go_quiet (fail)
  have HX2 := Lib.hid (ext_trans HX.out (ext_trans HX1.out (ext_drewN w1 nq)))
  have HQ2 := Lib.hid ((HB.out.ext HX1.out).ext (ext_drewN w1 nq))
  have HW2 := Lib.hid (HW1.out.ext (ext_drewN w1 nq))
  obtain ⟨V, hV⟩ : ∃ V, V = w1.drewN nq := ⟨_, rfl⟩
  rw [← hV] at HX2 HQ2 HW2 ⊢
  clear hV f1 f2 f3 HX HB HX1 HW1
  have HSH := Lib.hid (shapes_money V)
  unfold fMoney at HSH
  go_upto_region 16 with (go_at_call 43; refine (HSH.out).mono ?_; rintro e w2 ⟨rfl, hx2⟩; have HX3 := Lib.hid hx2; clear hx2)
  obtain ⟨p, hp⟩ : ∃ p, p = w2.heap.size := ⟨_, rfl⟩
  have HX4 := Lib.hid (ext_trans (ext_trans HX2.out HX3.out) (ext_alloc w2 (.cells #[.int .i64 0, .int .i64 0, .nilFunc, .func (.func 89) #[] #[]] 120)))
  have HQ4 := Lib.hid ((HQ2.out.ext HX3.out).ext (ext_alloc w2 (.cells #[.int .i64 0, .int .i64 0, .nilFunc, .func (.func 89) #[] #[]] 120)))
  have HW4 := Lib.hid ((HW2.out.ext HX3.out).ext (ext_alloc w2 (.cells #[.int .i64 0, .int .i64 0, .nilFunc, .func (.func 89) #[] #[]] 120)))
  have HP4 := Lib.hid (Bk.new 120 w2 #[.int .i64 0, .int .i64 0, .nilFunc, .func (.func 89) #[] #[]])
  obtain ⟨Y, hY⟩ : ∃ Y, Y = w2.alloc (.cells #[.int .i64 0, .int .i64 0, .nilFunc, .func (.func 89) #[] #[]] 120) := ⟨_, rfl⟩
  rw [← hY] at HX4 HQ4 HW4 HP4 ⊢
  rw [← hp] at HP4 ⊢
  clear hY hp HX2 HQ2 HW2 HX3 HSH
  obtain ⟨f1, f2, f3⟩ := HP4.out.facts
  have HFI := Lib.hid (fits_any 0 .nilFunc (.func (.func 89) #[] #[]) (by rfl) (by rfl) Y)
  have hnn := nn_nil
  have happ : ∀ b b2 ty W, (Builtin.append_ #[77, 77] ty #[.slice (some ⟨b, 0, none⟩) 0 0, .slice (some ⟨b2, 0, none⟩) 0 0]).run Tryz.prog W = .ok (.slice (some ⟨b, 0, none⟩) 0 0) W := fun b b2 ty W => app_none b 0 b2 0 ty W
  go_wp2_with (first
    | (go_at_call 44; refine (HFI.out).mono ?_; rintro e w3 ⟨rfl, hx3⟩; have HX5 := Lib.hid (ext_trans HX4.out hx3); have HQ5 := Lib.hid (HQ4.out.ext hx3); have HW5 := Lib.hid (HW4.out.ext hx3); have HP5 := Lib.hid (HP4.out.ext hx3); clear hx3 HQ4 HW4 HP4 HX4)
    | (go_at_call 39; refine (numbers_any b 0 0 0 (fun _ => 48) (fun _ => 0) (fun j h => absurd h (Nat.not_lt_zero j)) false _ (by decide) HW5.out.lt (fun j h => absurd h (Nat.not_lt_zero j)) (HT.out.ext HX5.out)).mono ?_; rintro e w4 ⟨rfl, _, hx4⟩; have HX6 := Lib.hid (ext_trans HX5.out hx4); have HQ6 := Lib.hid (HQ5.out.ext hx4); have HW6 := Lib.hid (HW5.out.ext hx4); have HP6 := Lib.hid (HP5.out.ext hx4); clear hx4 HQ5 HW5 HP5 HX5; have HX5 := Lib.hid HX6.out; have HQ5 := Lib.hid HQ6.out; have HW5 := Lib.hid HW6.out; have HP5 := Lib.hid HP6.out; obtain ⟨f1, f2, f3⟩ := HP6.out.facts; obtain ⟨g1, g2, g3⟩ := HQ6.out.facts; clear HX6 HQ6 HW6 HP6)
    | (go_at_call 89; refine (money_any _ _).mono ?_; rintro e w6 ⟨rfl, rfl⟩))
  have HB7 := Lib.hid ((HQ5.out.set 0 .nilFunc).set 1 (.func (.func 148) #[] #[]))
  have c0 := HB7.out.cell 0
  have c1 := HB7.out.cell 1
  simp only [List.setIfInBounds_toArray, List.set_cons_zero, List.set_cons_succ, List.getElem?_toArray, List.getElem?_cons_zero, List.getElem?_cons_succ] at c0 c1
  refine bodyPost_ret (v := .tuple #[.agg #[.nilFunc, .func (.func 148) #[] #[]], .int .i64 0]) (by simp [results, Tryz.results13, go_sem, c0, c1]) rfl ?_
  exact ⟨rfl, (HX5.out.setCell (p := ⟨q, 0, none⟩) hwq _).setCell (p := ⟨q, 1, none⟩) hwq _⟩
end Go.Proofs.YtjadbipbidghdaaGreatDoor
