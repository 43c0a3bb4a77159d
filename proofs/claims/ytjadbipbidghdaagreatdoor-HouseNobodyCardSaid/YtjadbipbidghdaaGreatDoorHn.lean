/- A line's words read: number at a digit. Conditions: the table of powers of ten is laid. -/
import Derived.Test.YtjadbipbidghdaaGreatDoorHm
import Derived.Test.YtjadbipbidghdaaGreatDoorHg
namespace Go.Proofs.YtjadbipbidghdaaGreatDoor
open Go.RowKit

set_option maxRecDepth 100000 in
set_option maxHeartbeats 8000000 in
theorem number_any (c : UInt8) (d : Nat) (hd : Dig c d) (sg : Bool) (w : World) (ht : P10 w) : Calls Tryz.prog 36 #[.string ⟨#[c]⟩, .bool sg] w fun e w' => e = .returned (.tuple #[.int .i64 (d : Int), .bool true]) ∧ Below w.heap.size w w' := by
  have HC := Lib.hid (fun W => cutpre_1 c d hd W)
  have HT := Lib.hid (fun W => trim_1 c d hd W)
  have HA := Lib.hid (fun W => atoi_1 c d hd W)
  have HI := Lib.hid (fun W hW => itoa_1 c d hd W hW)
  have HP := Lib.hid ht
  have h9 : (d : Int) ≤ 1000000000 := by have := hd.le; omega
  have h8 : (-1000000000 : Int) ≤ (d : Int) := by omega
  clear ht hd
  go_enter Tryz.func36, Tryz.ntmps36
  go_wp2_with (first
    | (go_at_call 72; refine (HC.out _).mono ?_; rintro e w1 ⟨rfl, rfl⟩)
    | (go_at_call 73; refine (HT.out _).mono ?_; rintro e w2 ⟨rfl, hb2⟩; have HB2 := Lib.hid hb2; clear hb2)
    | (go_at_call 74; refine (HA.out _).mono ?_; rintro e w3 ⟨rfl, hb3⟩; have HB3 := Lib.hid hb3; clear hb3)
    | (go_at_call 22; refine (HI.out _ (HP.out.ext (ext_trans HB2.out HB3.out))).mono ?_; rintro e w4 ⟨rfl, hb4⟩; have HB4 := Lib.hid hb4; clear hb4))
  refine bodyPost_ret (v := .tuple #[.int .i64 (d : Int), .bool true]) (by simp [results, Tryz.results36, go_sem]) rfl ?_
  exact ⟨rfl, ext_trans (ext_trans HB2.out HB3.out) HB4.out⟩
/-- the first x of n numbers -/
def pre (ds : Nat → Nat) (x : Nat) : Nat → Int := fun j => if j < x then (ds j : Int) else 0
theorem pre_upd (ds : Nat → Nat) (x : Nat) : upd (pre ds x) x (ds x : Int) = pre ds (x + 1) := by
  funext j
  unfold upd pre
  by_cases h : j = x
  · subst h; rw [if_pos rfl, if_pos (by omega)]
  · rw [if_neg h]
    by_cases h2 : j < x
    · rw [if_pos h2, if_pos (by omega)]
    · rw [if_neg h2, if_neg (by omega)]
set_option maxRecDepth 100000 in
set_option maxHeartbeats 8000000 in
theorem numbers_any (b off k c : Nat) (cs : Nat → UInt8) (ds : Nat → Nat) (hd : ∀ j, j < k → Dig (cs j) (ds j)) (sg : Bool) (w : World) (hk : k ≤ 100) (hbw : b < w.heap.size)
    (hw : ∀ j, j < k → w.cell? ⟨b, off + j, none⟩ = some (.string ⟨#[cs j]⟩)) (ht : P10 w) :
    Calls Tryz.prog 39 #[.slice (some ⟨b, off, none⟩) k c, .bool sg] w fun e w' => e = .returned (.tuple #[.slice (some ⟨w.heap.size, 0, none⟩) k k, .bool true]) ∧ Ow 3 w.heap.size k (fun j => (ds j : Int)) w' ∧ Below w.heap.size w w' := by
  have HN := Lib.hid (fun j hj W hW => number_any (cs j) (ds j) (hd j hj) sg W hW)
  have HP := Lib.hid ht
  have HC := Lib.hid hw
  have hmk : ∀ W, (Instr.makeSlice 77 (.int .i64 (k : Int)) (.int .i64 (k : Int))).run Tryz.prog W = .ok (.slice (some ⟨W.heap.size, 0, none⟩) k k) (W.alloc (.cells (cellsOf k fun _ => 0) 3)) := fun W => run_zeros k (by omega) W
  have HX := Lib.hid (ext_alloc w (.cells (cellsOf k fun _ => 0) 3))
  have HO := Lib.hid (show Ow 3 w.heap.size k (pre ds 0) (w.alloc (.cells (cellsOf k fun _ => 0) 3)) from (Ow.new 3 w k (fun _ => 0)).congr fun i _ => by unfold pre; rw [if_neg (by omega)])
  clear ht hd hw
  obtain ⟨B, hB⟩ : ∃ B, B = w.heap.size := ⟨_, rfl⟩
  have HBV := Lib.hid hB
  rw [← hB] at HO HX hbw ⊢
  clear hB
  go_enter Tryz.func39, Tryz.ntmps39
  go_wp2_with (fail)
  obtain ⟨V, hV⟩ : ∃ V, V = w.alloc (.cells (cellsOf k fun _ => 0) 3) := ⟨_, rfl⟩
  rw [← HBV.out, ← hV]
  rw [← hV] at HO HX
  clear hV
  go_loopg [16] k (fun gg z wr => ∃ x : Nat, z = .int .i64 x ∧ x ≤ k ∧ gg = k - x ∧ Ow 3 B k (pre ds x) wr ∧ Below B w wr)
  case atStart => exact ⟨0, rfl, by omega, by omega, HO.out, HX.out⟩
  case round =>
    obtain ⟨x, rfl, hx, hgg, ho, hb⟩ := hrel
    have HG := Lib.hid hgg
    have HO2 := Lib.hid ho
    have HB := Lib.hid hb
    clear hgg HO HX
    by_cases hlt : x < k
    · have hcx : wr.cell? ⟨b, off + x, none⟩ = some (.string ⟨#[cs x]⟩) := (hb.cell (p := ⟨b, off + x, none⟩) hbw).trans (HC.out x hlt)
      have hbl : b < wr.heap.size := Nat.lt_trans (Nat.lt_of_lt_of_le hbw (Nat.le_refl _)) ho.lt
      have hlb : B < wr.heap.size := ho.lt
      clear ho hb
      go_wp2_with (go_at_call 36; refine (HN.out x hlt _ (HP.out.ext (by rw [← HBV.out]; exact HB.out))).mono ?_; rintro e w1 ⟨rfl, hb1⟩; have HO3 := Lib.hid (HO2.out.ext hb1); have HB1 := Lib.hid (HB.out.trans (hb1.mono (Nat.le_of_lt hlb))); have f1 := HO3.out.cell hlt; have f2 := HO3.out.frozen x; have f3 := HO3.out.lt; clear hb1)
      go_roundg (k - (x + 1))
      case measure => have := HG.out; omega
      case rel =>
        refine ⟨x + 1, by go_num, by omega, rfl, ?_, ?_⟩
        · have := HO3.out.set x (ds x : Int)
          rw [pre_upd] at this
          exact this
        · exact HB1.out.setCell (Nat.le_refl _) _
    · obtain rfl : x = k := by omega
      clear ho hb
      go_wp2
      refine bodyPost_ret (v := .tuple #[.slice (some ⟨B, 0, none⟩) x x, .bool true]) (by simp [results, Tryz.results39, go_sem]) rfl ?_
      exact ⟨rfl, HO2.out.congr fun j hj => by unfold pre; rw [if_pos hj], HB.out⟩
end Go.Proofs.YtjadbipbidghdaaGreatDoor
