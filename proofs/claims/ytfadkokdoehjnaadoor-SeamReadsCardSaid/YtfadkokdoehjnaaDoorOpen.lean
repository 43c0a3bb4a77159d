/- How the laws' arguments are opened: an int, a graph of the reference. No conditions. -/
import Derived.Test.YtfadkokdoehjnaaDoorRows
import Derived.WalkKit
import Derived.ProofKit
import Derived.OpenShut
import Derived.ShutString
import Derived.ChangeOld
import Derived.Below
import Derived.Lib.SmallJoins
import Derived.Deep.Slices
import Derived.Deep.SlicePairs
import Derived.Test.YtfadkokdoehjnaaDoorWd
namespace Go.Proofs.YtfadkokdoehjnaaDoor
open Go.ChangeShapes Go.WideShapes Go.ChangeAt Go.RowKit Go.Joins Go.Deep

theorem own : ownKnob Tryd.prog.godebug = none := by kernel_rfl
theorem laidOut : laidOutB Tryd.prog = true := by kernel_rfl
instance : Inhabited Sm := ⟨⟨0, 0, 0, 0⟩⟩

theorem isI_wf {n : Int} (h : (Lit.int .i64 n).wf = true) : IsI n := by
  obtain ⟨h1, h2⟩ := bounds_i64 h
  exact ⟨by omega, by omega⟩

section
variable {H : Type} {enc : TypeId × Value → H} {w : World} {spare : Nat → Bool} {held : Bool} {r : Reach} {b0 : Nat}
set_option maxRecDepth 100000 in
theorem open_int' {v : Value} {d : DataW H} {p : List MemPlace} (hv : Value.okWide Tryd.prog w r b0 3 v) (h : DataW.Trod enc Tryd.prog w 0 spare held 3 v d p) :
    ∃ n, v = .int .i64 n ∧ IsI n := by
  obtain ⟨x, rfl, rfl, rfl, wx⟩ := open_int Tryd.underlying3 hv h
  exact ⟨x, rfl, isI_wf wx⟩
end
end Go.Proofs.YtfadkokdoehjnaaDoor
