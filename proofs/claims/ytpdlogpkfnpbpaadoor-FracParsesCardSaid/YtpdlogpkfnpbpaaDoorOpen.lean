/- How the laws' arguments are opened: a fraction, an int. No conditions. -/
import Derived.Test.YtpdlogpkfnpbpaaDoorRows
import Derived.WalkKit
import Derived.ProofKit
import Derived.OpenShut
import Derived.ShutString
import Derived.ChangeOld
import Derived.Below
import Derived.Lib.SmallJoins
import Derived.Test.YtpdlogpkfnpbpaaDoorFe
namespace Go.Proofs.YtpdlogpkfnpbpaaDoor
open Go.ChangeShapes Go.WideShapes Go.ChangeAt Go.RowKit Go.Joins

theorem own : ownKnob Tryd.prog.godebug = none := by kernel_rfl
theorem laidOut : laidOutB Tryd.prog = true := by kernel_rfl
theorem cellsFrac : Tryd.prog.cellsOf 23 = 2 := by kernel_rfl

theorem isI_wf {n : Int} (h : (Lit.int .i64 n).wf = true) : IsI n := by
  obtain ⟨h1, h2⟩ := bounds_i64 h
  exact isI_of (by omega) (by omega)

section
variable {H : Type} {enc : TypeId × Value → H} {w : World} {base : Nat} {spare : Nat → Bool} {held : Bool} {r : Reach} {b0 : Nat}
set_option maxRecDepth 100000 in
theorem open_frac {v : Value} {d : DataW H} {p : List MemPlace} (hv : Value.okWide Tryd.prog w r b0 23 v) (h : DataW.Trod enc Tryd.prog w base spare held 23 v d p) :
    ∃ n e, v = frv n e ∧ IsI n ∧ IsI e := by
  obtain ⟨c0, c1, y0, y1, m, rfl, rfl, rfl, hy0, hy1⟩ := open_agg2 Tryd.underlying23 (by kernel_rfl) cellsFrac hv h
  obtain ⟨a, e0, rfl, wa⟩ := DataW.trod_int Tryd.underlying3 hy0
  obtain ⟨b, e1, rfl, wb⟩ := DataW.trod_int Tryd.underlying3 hy1
  simp at e0 e1
  subst e0 e1
  exact ⟨a, b, rfl, isI_wf wa, isI_wf wb⟩
set_option maxRecDepth 100000 in
theorem open_int' {v : Value} {d : DataW H} {p : List MemPlace} (hv : Value.okWide Tryd.prog w r b0 3 v) (h : DataW.Trod enc Tryd.prog w base spare held 3 v d p) :
    ∃ n, v = .int .i64 n ∧ IsI n := by
  obtain ⟨x, rfl, rfl, rfl, wx⟩ := open_int Tryd.underlying3 hv h
  exact ⟨x, rfl, isI_wf wx⟩
end
end Go.Proofs.YtpdlogpkfnpbpaaDoor
