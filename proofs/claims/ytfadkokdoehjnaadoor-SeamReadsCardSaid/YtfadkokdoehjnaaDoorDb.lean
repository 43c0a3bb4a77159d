/- doubled at no odd joint. No conditions. -/
import Derived.Test.YtfadkokdoehjnaaDoorWe
namespace Go.Proofs.YtfadkokdoehjnaaDoor
open Go.RowKit

set_option maxRecDepth 100000 in
set_option maxHeartbeats 4000000 in
theorem doubled_nil (p : Value) (A : Option Addr) (cap : Nat) (w : World) :
    Calls Tryd.prog 59 #[p, .slice A 0 cap] w fun e w' => e = .returned (.slice none 0 0) ∧ Below w.heap.size w w' := by
  have hmk : ∀ W, (Instr.makeSlice 95 (.int .i64 1) (.int .i64 1)).run Tryd.prog W = .ok (.slice (some ⟨W.heap.size, 0, none⟩) 1 1) (W.alloc (.cells (cellsOf 1 fun _ => 0) 3)) := fun W => run_zeros 1 (by omega) W
  have hx := ((Below.refl w.heap.size w).alloc (Nat.le_refl _) (.cells (cellsOf 1 fun _ => 0) 3)).alloc (by simp) (.cells (cellsOf 1 fun _ => 0) 3)
  have HX := Lib.hid hx
  clear hx
  go_enter Tryd.func59, Tryd.ntmps59
  go_wp2
  go_cut [5, 6] (fun z1 z2 wx => ∃ a b : Addr, z1 = .slice (some a) 1 1 ∧ z2 = .slice (some b) 1 1 ∧ Below w.heap.size w wx)
  case first =>
    go_region
    all_goals
      go_wp2
      go_meet
      exact ⟨_, _, rfl, rfl, bext HX.out (ext_drew _) HX.out.size⟩
  case rest =>
    obtain ⟨a, b, rfl, rfl, hb⟩ := hcut
    have HB := Lib.hid hb
    clear hb hmk
    go_wp2
    go_loopg [7] 0 (fun g i wr => i = .int .i64 1 ∧ Below w.heap.size w wr)
    case atStart => exact ⟨rfl, HB.out⟩
    case round =>
      obtain ⟨rfl, hb⟩ := hrel
      have HB2 := Lib.hid hb
      clear hb HB
      go_wp2
      go_loopg [12, 11] 0 (fun g i o wr => i = .int .i64 0 ∧ o = .slice none 0 0 ∧ Below w.heap.size w wr)
      case atStart => exact ⟨rfl, rfl, HB2.out⟩
      case round =>
        obtain ⟨rfl, rfl, hb⟩ := hrel
        go_wp2
        go_ret
        exact ⟨rfl, hb⟩
end Go.Proofs.YtfadkokdoehjnaaDoor
