/- A line's shape, walked at the two lines. No conditions. -/
import Derived.Test.YtjadbipbidghdaaGreatDoorHn
import Derived.Laws.EntriesVeiled
namespace Go.Proofs.YtjadbipbidghdaaGreatDoor
open Go.RowKit

def fKind : Value := .func (.func 78) #[] #[]
def fMoney : Value := .func (.func 89) #[] #[]
set_option maxRecDepth 100000 in
set_option maxHeartbeats 8000000 in
theorem shapes_kind (w : World) : Calls Tryz.prog 43 #[.string ⟨#[107, 105, 110, 100]⟩] w fun e w' => e = .returned (.tuple #[.agg #[.int .i64 5, .int .i64 0, fKind, .nilFunc], .bool true]) ∧ Below w.heap.size w w' := by
  have HX := Lib.hid (ext_alloc w (.cells #[.int .i64 0, .int .i64 0, .nilFunc, .nilFunc] 120))
  have HB := Lib.hid (Bk.new 120 w #[.int .i64 0, .int .i64 0, .nilFunc, .nilFunc])
  go_enter Tryz.func43, Tryz.ntmps43
  go_upto_region 1 with (fail)
  obtain ⟨X, hX⟩ : ∃ X, X = w.alloc (.cells #[.int .i64 0, .int .i64 0, .nilFunc, .nilFunc] 120) := ⟨_, rfl⟩
  obtain ⟨q, hq⟩ : ∃ q, q = w.heap.size := ⟨_, rfl⟩
  rw [← hX] at HX HB ⊢
  rw [← hq] at HB ⊢
  have hwq : w.heap.size ≤ q := by omega
  clear hX hq
  obtain ⟨f1, f2, f3⟩ := HB.out.facts
  have HW7 := Lib.hid ((((HX.out.setCell (p := ⟨q, 0, none⟩) hwq (.int .i64 5)).setCell (p := ⟨q, 1, none⟩) hwq (.int .i64 0)).setCell (p := ⟨q, 2, none⟩) hwq fKind).setCell (p := ⟨q, 3, none⟩) hwq .nilFunc)
  have HB7 := Lib.hid ((((HB.out.set 0 (.int .i64 5)).set 1 (.int .i64 0)).set 2 fKind).set 3 .nilFunc)
  go_wp2
  unfold fKind at HB7 HW7 ⊢
  have c0 := HB7.out.cell 0
  have c1 := HB7.out.cell 1
  have c2 := HB7.out.cell 2
  have c3 := HB7.out.cell 3
  simp only [List.setIfInBounds_toArray, List.set_cons_zero, List.set_cons_succ, List.getElem?_toArray, List.getElem?_cons_zero, List.getElem?_cons_succ] at c0 c1 c2 c3
  refine bodyPost_ret (v := .tuple #[.agg #[.int .i64 5, .int .i64 0, fKind, .nilFunc], .bool true]) (by simp [results, Tryz.results43, go_sem, c0, c1, c2, c3, fKind]) rfl ?_
  exact ⟨rfl, HW7.out⟩
set_option maxRecDepth 100000 in
set_option maxHeartbeats 8000000 in
theorem shapes_money (w : World) : Calls Tryz.prog 43 #[.string ⟨#[109, 111, 110, 101, 121]⟩] w fun e w' => e = .returned (.tuple #[.agg #[.int .i64 0, .int .i64 0, .nilFunc, fMoney], .bool true]) ∧ Below w.heap.size w w' := by
  have HX := Lib.hid (ext_alloc w (.cells #[.int .i64 0, .int .i64 0, .nilFunc, .nilFunc] 120))
  have HB := Lib.hid (Bk.new 120 w #[.int .i64 0, .int .i64 0, .nilFunc, .nilFunc])
  go_enter Tryz.func43, Tryz.ntmps43
  go_upto_region 1 with (fail)
  obtain ⟨X, hX⟩ : ∃ X, X = w.alloc (.cells #[.int .i64 0, .int .i64 0, .nilFunc, .nilFunc] 120) := ⟨_, rfl⟩
  obtain ⟨q, hq⟩ : ∃ q, q = w.heap.size := ⟨_, rfl⟩
  rw [← hX] at HX HB ⊢
  rw [← hq] at HB ⊢
  have hwq : w.heap.size ≤ q := by omega
  clear hX hq
  obtain ⟨f1, f2, f3⟩ := HB.out.facts
  have HW7 := Lib.hid ((((HX.out.setCell (p := ⟨q, 0, none⟩) hwq (.int .i64 0)).setCell (p := ⟨q, 1, none⟩) hwq (.int .i64 0)).setCell (p := ⟨q, 2, none⟩) hwq .nilFunc).setCell (p := ⟨q, 3, none⟩) hwq fMoney)
  have HB7 := Lib.hid ((((HB.out.set 0 (.int .i64 0)).set 1 (.int .i64 0)).set 2 .nilFunc).set 3 fMoney)
  go_wp2
  unfold fMoney at HB7 HW7 ⊢
  have c0 := HB7.out.cell 0
  have c1 := HB7.out.cell 1
  have c2 := HB7.out.cell 2
  have c3 := HB7.out.cell 3
  simp only [List.setIfInBounds_toArray, List.set_cons_zero, List.set_cons_succ, List.getElem?_toArray, List.getElem?_cons_zero, List.getElem?_cons_succ] at c0 c1 c2 c3
  refine bodyPost_ret (v := .tuple #[.agg #[.int .i64 0, .int .i64 0, .nilFunc, fMoney], .bool true]) (by simp [results, Tryz.results43, go_sem, c0, c1, c2, c3, fMoney]) rfl ?_
  exact ⟨rfl, HW7.out⟩
set_option maxRecDepth 100000 in
set_option maxHeartbeats 4000000 in
theorem fits_any (n : Nat) (f g : Value) (_hf : f.oneCell' = true) (_hg : g.oneCell' = true) (w : World) : Calls Tryz.prog 44 #[.agg #[.int .i64 (n : Int), .int .i64 0, f, g], .int .i64 (n : Int)] w fun e w' => e = .returned (.bool true) ∧ Below w.heap.size w w' := by
  have HX := Lib.hid (ext_alloc w (.cells #[.int .i64 (n : Int), .int .i64 0, f, g] 120))
  go_enter Tryz.func44, Tryz.ntmps44
  go_wp2
  go_ret
  exact ⟨rfl, HX.out⟩
end Go.Proofs.YtjadbipbidghdaaGreatDoor
