/-
  No cell of these rows narrows 'for every input' (looked for: loops, veiled, ifaces, maps, wideKeys, modest, calm, conditions, laid).
  DERIVED. THE GIVEN ROWS OF THIS SEAT. 12 by the template 'for every input the law returns true; each argument reads behind the call as it read before'; 0 by the template 'total and deterministic' (their statements: YtbhjhajnhpohlaaTotals.lean).
  GIVEN WITH THE SEED: the statements are not yours to turn. If you find one false, say at which input.
  Laid BY PROGRAM, IN A SANDBOX (cutbox-rows.mjs): the forced cells as the released guide's own fill.sh prints them over the translation 33a95dced8c34d10… (all of the seat's roots in one cut). By AI agents, Wed Nov 11 2026. No macro, syntax, notation, axiom, sorry.
-/
import Derived.Test.YtbhjhajnhpohlaaChecked
import GoSem.Claim
import GoSem.ClaimJoined
import GoSem.ClaimMapViews
import Derived.JoinedTies
import Derived.KernelRfl
namespace Go.Proofs.Ytbhjhajnhpohlaa
/- THE CELL 'sum', in the pinned program and in every row, IS THE sha256 OF THE DUMP (.gsa) THAT YtbhjhajnhpohlaaProg.lean LOADS. Nothing in Lean hashes anything: it is a label: what it is worth is what the hold of that sum in a sandbox is worth. -/
noncomputable def Try.pinned : Pinned := { name := "ytbhjhajnhpohlaa", sum := "33a95dced8c34d102e3b31832ade69ff14000835b05a03c5fd8662ce74c0fb69", checked := Try.checked }
namespace Rows
def none {H : Type} : Left H := { results := [], args := [] }

/-- 'tranklaw07.SeamFar': WHATEVER THE INPUT: true; the input reads as it did. -/
def seamFarSpec : ChangeSpec := { name := "seamFar", fn := fun _ => fun
  | [d1, d2, d3] => { results := [.lit (.bool true)], args := [d1, d2, d3] }
  | _ => none }
def seamFarRow : OpenClaim := { program := "ytbhjhajnhpohlaa", sum := "33a95dced8c34d102e3b31832ade69ff14000835b05a03c5fd8662ce74c0fb69", func := "trank/tranklaw07.SeamFar", spec := "seamFar", unfollowed := true, recurses := true, apart := false }
def SeamFarSaid : Prop := seamFarRow.holds Try.pinned (OpenSpec.ofChange seamFarSpec)

/-- ITS FALSE NEIGHBOUR: 'it returns false'. Refute it at one input. -/
def seamFarWrong : ChangeSpec := { name := "seamFar", fn := fun _ => fun
  | [d1, d2, d3] => { results := [.lit (.bool false)], args := [d1, d2, d3] }
  | _ => none }
def SeamFarWrongFalsely : Prop := seamFarRow.holds Try.pinned (OpenSpec.ofChange seamFarWrong)

/-- 'tranklaw07.SeamOdd': WHATEVER THE INPUT: true; the input reads as it did. -/
def seamOddSpec : ChangeSpec := { name := "seamOdd", fn := fun _ => fun
  | [d1, d2] => { results := [.lit (.bool true)], args := [d1, d2] }
  | _ => none }
def seamOddRow : OpenClaim := { program := "ytbhjhajnhpohlaa", sum := "33a95dced8c34d102e3b31832ade69ff14000835b05a03c5fd8662ce74c0fb69", func := "trank/tranklaw07.SeamOdd", spec := "seamOdd", unfollowed := true, recurses := true, apart := false }
def SeamOddSaid : Prop := seamOddRow.holds Try.pinned (OpenSpec.ofChange seamOddSpec)

/-- ITS FALSE NEIGHBOUR: 'it returns false'. Refute it at one input. -/
def seamOddWrong : ChangeSpec := { name := "seamOdd", fn := fun _ => fun
  | [d1, d2] => { results := [.lit (.bool false)], args := [d1, d2] }
  | _ => none }
def SeamOddWrongFalsely : Prop := seamOddRow.holds Try.pinned (OpenSpec.ofChange seamOddWrong)

/-- 'tranklaw07.SeamSews': WHATEVER THE INPUT: true; the input reads as it did. -/
def seamSewsSpec : ChangeSpec := { name := "seamSews", fn := fun _ => fun
  | [d1, d2] => { results := [.lit (.bool true)], args := [d1, d2] }
  | _ => none }
def seamSewsRow : OpenClaim := { program := "ytbhjhajnhpohlaa", sum := "33a95dced8c34d102e3b31832ade69ff14000835b05a03c5fd8662ce74c0fb69", func := "trank/tranklaw07.SeamSews", spec := "seamSews", unfollowed := true, recurses := true, apart := false }
def SeamSewsSaid : Prop := seamSewsRow.holds Try.pinned (OpenSpec.ofChange seamSewsSpec)

/-- ITS FALSE NEIGHBOUR: 'it returns false'. Refute it at one input. -/
def seamSewsWrong : ChangeSpec := { name := "seamSews", fn := fun _ => fun
  | [d1, d2] => { results := [.lit (.bool false)], args := [d1, d2] }
  | _ => none }
def SeamSewsWrongFalsely : Prop := seamSewsRow.holds Try.pinned (OpenSpec.ofChange seamSewsWrong)

/-- 'tranklaw07.SeamBridges': WHATEVER THE INPUT: true; the input reads as it did. -/
def seamBridgesSpec : ChangeSpec := { name := "seamBridges", fn := fun _ => fun
  | [d] => { results := [.lit (.bool true)], args := [d] }
  | _ => none }
def seamBridgesRow : OpenClaim := { program := "ytbhjhajnhpohlaa", sum := "33a95dced8c34d102e3b31832ade69ff14000835b05a03c5fd8662ce74c0fb69", func := "trank/tranklaw07.SeamBridges", spec := "seamBridges", unfollowed := true, recurses := true, apart := false }
def SeamBridgesSaid : Prop := seamBridgesRow.holds Try.pinned (OpenSpec.ofChange seamBridgesSpec)

/-- ITS FALSE NEIGHBOUR: 'it returns false'. Refute it at one input. -/
def seamBridgesWrong : ChangeSpec := { name := "seamBridges", fn := fun _ => fun
  | [d] => { results := [.lit (.bool false)], args := [d] }
  | _ => none }
def SeamBridgesWrongFalsely : Prop := seamBridgesRow.holds Try.pinned (OpenSpec.ofChange seamBridgesWrong)

/-- 'tranklaw07.SeamRound': WHATEVER THE INPUT: true; the input reads as it did. -/
def seamRoundSpec : ChangeSpec := { name := "seamRound", fn := fun _ => fun
  | [d1, d2] => { results := [.lit (.bool true)], args := [d1, d2] }
  | _ => none }
def seamRoundRow : OpenClaim := { program := "ytbhjhajnhpohlaa", sum := "33a95dced8c34d102e3b31832ade69ff14000835b05a03c5fd8662ce74c0fb69", func := "trank/tranklaw07.SeamRound", spec := "seamRound", unfollowed := true, recurses := true, apart := false }
def SeamRoundSaid : Prop := seamRoundRow.holds Try.pinned (OpenSpec.ofChange seamRoundSpec)

/-- ITS FALSE NEIGHBOUR: 'it returns false'. Refute it at one input. -/
def seamRoundWrong : ChangeSpec := { name := "seamRound", fn := fun _ => fun
  | [d1, d2] => { results := [.lit (.bool false)], args := [d1, d2] }
  | _ => none }
def SeamRoundWrongFalsely : Prop := seamRoundRow.holds Try.pinned (OpenSpec.ofChange seamRoundWrong)

/-- 'tranklaw07.SeamTwice': WHATEVER THE INPUT: true; the input reads as it did. -/
def seamTwiceSpec : ChangeSpec := { name := "seamTwice", fn := fun _ => fun
  | [d1, d2] => { results := [.lit (.bool true)], args := [d1, d2] }
  | _ => none }
def seamTwiceRow : OpenClaim := { program := "ytbhjhajnhpohlaa", sum := "33a95dced8c34d102e3b31832ade69ff14000835b05a03c5fd8662ce74c0fb69", func := "trank/tranklaw07.SeamTwice", spec := "seamTwice", unfollowed := true, recurses := true, apart := false }
def SeamTwiceSaid : Prop := seamTwiceRow.holds Try.pinned (OpenSpec.ofChange seamTwiceSpec)

/-- ITS FALSE NEIGHBOUR: 'it returns false'. Refute it at one input. -/
def seamTwiceWrong : ChangeSpec := { name := "seamTwice", fn := fun _ => fun
  | [d1, d2] => { results := [.lit (.bool false)], args := [d1, d2] }
  | _ => none }
def SeamTwiceWrongFalsely : Prop := seamTwiceRow.holds Try.pinned (OpenSpec.ofChange seamTwiceWrong)

/-- 'tranklaw07.SeamRuns': WHATEVER THE INPUT: true; the input reads as it did. -/
def seamRunsSpec : ChangeSpec := { name := "seamRuns", fn := fun _ => fun
  | [d1, d2, d3] => { results := [.lit (.bool true)], args := [d1, d2, d3] }
  | _ => none }
def seamRunsRow : OpenClaim := { program := "ytbhjhajnhpohlaa", sum := "33a95dced8c34d102e3b31832ade69ff14000835b05a03c5fd8662ce74c0fb69", func := "trank/tranklaw07.SeamRuns", spec := "seamRuns", unfollowed := true, recurses := true, apart := false }
def SeamRunsSaid : Prop := seamRunsRow.holds Try.pinned (OpenSpec.ofChange seamRunsSpec)

/-- ITS FALSE NEIGHBOUR: 'it returns false'. Refute it at one input. -/
def seamRunsWrong : ChangeSpec := { name := "seamRuns", fn := fun _ => fun
  | [d1, d2, d3] => { results := [.lit (.bool false)], args := [d1, d2, d3] }
  | _ => none }
def SeamRunsWrongFalsely : Prop := seamRunsRow.holds Try.pinned (OpenSpec.ofChange seamRunsWrong)

/-- 'tranklaw07.SeamFuel': WHATEVER THE INPUT: true; the input reads as it did. -/
def seamFuelSpec : ChangeSpec := { name := "seamFuel", fn := fun _ => fun
  | [d1, d2, d3] => { results := [.lit (.bool true)], args := [d1, d2, d3] }
  | _ => none }
def seamFuelRow : OpenClaim := { program := "ytbhjhajnhpohlaa", sum := "33a95dced8c34d102e3b31832ade69ff14000835b05a03c5fd8662ce74c0fb69", func := "trank/tranklaw07.SeamFuel", spec := "seamFuel", unfollowed := true, recurses := true, apart := false }
def SeamFuelSaid : Prop := seamFuelRow.holds Try.pinned (OpenSpec.ofChange seamFuelSpec)

/-- ITS FALSE NEIGHBOUR: 'it returns false'. Refute it at one input. -/
def seamFuelWrong : ChangeSpec := { name := "seamFuel", fn := fun _ => fun
  | [d1, d2, d3] => { results := [.lit (.bool false)], args := [d1, d2, d3] }
  | _ => none }
def SeamFuelWrongFalsely : Prop := seamFuelRow.holds Try.pinned (OpenSpec.ofChange seamFuelWrong)

/-- 'tranklaw07.SeamFewest': WHATEVER THE INPUT: true; the input reads as it did. -/
def seamFewestSpec : ChangeSpec := { name := "seamFewest", fn := fun _ => fun
  | [d] => { results := [.lit (.bool true)], args := [d] }
  | _ => none }
def seamFewestRow : OpenClaim := { program := "ytbhjhajnhpohlaa", sum := "33a95dced8c34d102e3b31832ade69ff14000835b05a03c5fd8662ce74c0fb69", func := "trank/tranklaw07.SeamFewest", spec := "seamFewest", unfollowed := true, recurses := true, apart := false }
def SeamFewestSaid : Prop := seamFewestRow.holds Try.pinned (OpenSpec.ofChange seamFewestSpec)

/-- ITS FALSE NEIGHBOUR: 'it returns false'. Refute it at one input. -/
def seamFewestWrong : ChangeSpec := { name := "seamFewest", fn := fun _ => fun
  | [d] => { results := [.lit (.bool false)], args := [d] }
  | _ => none }
def SeamFewestWrongFalsely : Prop := seamFewestRow.holds Try.pinned (OpenSpec.ofChange seamFewestWrong)

/-- 'tranklaw07.SeamLeast': WHATEVER THE INPUT: true; the input reads as it did. -/
def seamLeastSpec : ChangeSpec := { name := "seamLeast", fn := fun _ => fun
  | [d1, d2] => { results := [.lit (.bool true)], args := [d1, d2] }
  | _ => none }
def seamLeastRow : OpenClaim := { program := "ytbhjhajnhpohlaa", sum := "33a95dced8c34d102e3b31832ade69ff14000835b05a03c5fd8662ce74c0fb69", func := "trank/tranklaw07.SeamLeast", spec := "seamLeast", unfollowed := true, recurses := true, apart := false }
def SeamLeastSaid : Prop := seamLeastRow.holds Try.pinned (OpenSpec.ofChange seamLeastSpec)

/-- ITS FALSE NEIGHBOUR: 'it returns false'. Refute it at one input. -/
def seamLeastWrong : ChangeSpec := { name := "seamLeast", fn := fun _ => fun
  | [d1, d2] => { results := [.lit (.bool false)], args := [d1, d2] }
  | _ => none }
def SeamLeastWrongFalsely : Prop := seamLeastRow.holds Try.pinned (OpenSpec.ofChange seamLeastWrong)

/-- 'tranklaw07.SeamCompiles': WHATEVER THE INPUT: true; the input reads as it did. -/
def seamCompilesSpec : ChangeSpec := { name := "seamCompiles", fn := fun _ => fun
  | [d1, d2] => { results := [.lit (.bool true)], args := [d1, d2] }
  | _ => none }
def seamCompilesRow : OpenClaim := { program := "ytbhjhajnhpohlaa", sum := "33a95dced8c34d102e3b31832ade69ff14000835b05a03c5fd8662ce74c0fb69", func := "trank/tranklaw07.SeamCompiles", spec := "seamCompiles", unfollowed := true, recurses := true, apart := false }
def SeamCompilesSaid : Prop := seamCompilesRow.holds Try.pinned (OpenSpec.ofChange seamCompilesSpec)

/-- ITS FALSE NEIGHBOUR: 'it returns false'. Refute it at one input. -/
def seamCompilesWrong : ChangeSpec := { name := "seamCompiles", fn := fun _ => fun
  | [d1, d2] => { results := [.lit (.bool false)], args := [d1, d2] }
  | _ => none }
def SeamCompilesWrongFalsely : Prop := seamCompilesRow.holds Try.pinned (OpenSpec.ofChange seamCompilesWrong)

/-- 'tranklaw07.SeamSewn': WHATEVER THE INPUT: true; the input reads as it did. -/
def seamSewnSpec : ChangeSpec := { name := "seamSewn", fn := fun _ => fun
  | [d1, d2] => { results := [.lit (.bool true)], args := [d1, d2] }
  | _ => none }
def seamSewnRow : OpenClaim := { program := "ytbhjhajnhpohlaa", sum := "33a95dced8c34d102e3b31832ade69ff14000835b05a03c5fd8662ce74c0fb69", func := "trank/tranklaw07.SeamSewn", spec := "seamSewn", unfollowed := true, recurses := true, apart := false }
def SeamSewnSaid : Prop := seamSewnRow.holds Try.pinned (OpenSpec.ofChange seamSewnSpec)

/-- ITS FALSE NEIGHBOUR: 'it returns false'. Refute it at one input. -/
def seamSewnWrong : ChangeSpec := { name := "seamSewn", fn := fun _ => fun
  | [d1, d2] => { results := [.lit (.bool false)], args := [d1, d2] }
  | _ => none }
def SeamSewnWrongFalsely : Prop := seamSewnRow.holds Try.pinned (OpenSpec.ofChange seamSewnWrong)

/- THE SECOND FORM. 'bulk': how many values and letters a reading holds, each counted each time it is reached (what is shared counts as often as it is met; a slice's spare places count too). A statement '..UptoSaid' is the law's where the arguments, and the package variables that the reading takes, are together of bulk at most 1048576: NARROWER than '..Said'. Prove '..Said' where nothing that the law and all that it calls make is longer than what came in: it says more and counts as full. Else prove '..UptoSaid'. A law counts once. -/
mutual
def uptoBulk {H : Type} : DataW H → Nat
  | .lit (.string bytes) => bytes.length + 1
  | .lit _ => 1
  | .nil => 1
  | .ptr d => uptoBulk d + 1
  | .slice elems spare => uptoBulkAll elems + uptoBulkAll spare + 1
  | .agg parts => uptoBulkAll parts + 1
  | .iface _ d => uptoBulk d + 1
  | .map entries => uptoBulkEntries entries + 1
  | .held _ => 1
def uptoBulkAll {H : Type} : List (DataW H) → Nat
  | [] => 0
  | d :: r => uptoBulk d + uptoBulkAll r
def uptoBulkEntries {H : Type} : List (Lit × DataW H) → Nat
  | [] => 0
  | x :: r => uptoBulkEntry x + uptoBulkEntries r
def uptoBulkEntry {H : Type} : Lit × DataW H → Nat
  | (.string bytes, d) => bytes.length + uptoBulk d + 1
  | (_, d) => uptoBulk d + 1
 end
def uptoSmall : (H : Type) → List (DataW H) → Bool := fun _ ds => decide (uptoBulkAll ds ≤ 1048576)
def OpenSpec.upto (s : _root_.Go.ChangeSpec) : _root_.Go.OpenSpec := { _root_.Go.OpenSpec.ofChange s with cond := some uptoSmall }

/-- 'tranklaw07.SeamFar', WHERE WHAT IT READS IS OF BULK AT MOST 1048576: true; the input reads as it did. -/
def seamFarUptoRow : OpenClaim := { program := "ytbhjhajnhpohlaa", sum := "33a95dced8c34d102e3b31832ade69ff14000835b05a03c5fd8662ce74c0fb69", func := "trank/tranklaw07.SeamFar", spec := "seamFar", unfollowed := true, recurses := true, apart := false, narrowed := true }
def SeamFarUptoSaid : Prop := seamFarUptoRow.holds Try.pinned (OpenSpec.upto seamFarSpec)

/-- 'tranklaw07.SeamOdd', WHERE WHAT IT READS IS OF BULK AT MOST 1048576: true; the input reads as it did. -/
def seamOddUptoRow : OpenClaim := { program := "ytbhjhajnhpohlaa", sum := "33a95dced8c34d102e3b31832ade69ff14000835b05a03c5fd8662ce74c0fb69", func := "trank/tranklaw07.SeamOdd", spec := "seamOdd", unfollowed := true, recurses := true, apart := false, narrowed := true }
def SeamOddUptoSaid : Prop := seamOddUptoRow.holds Try.pinned (OpenSpec.upto seamOddSpec)

/-- 'tranklaw07.SeamSews', WHERE WHAT IT READS IS OF BULK AT MOST 1048576: true; the input reads as it did. -/
def seamSewsUptoRow : OpenClaim := { program := "ytbhjhajnhpohlaa", sum := "33a95dced8c34d102e3b31832ade69ff14000835b05a03c5fd8662ce74c0fb69", func := "trank/tranklaw07.SeamSews", spec := "seamSews", unfollowed := true, recurses := true, apart := false, narrowed := true }
def SeamSewsUptoSaid : Prop := seamSewsUptoRow.holds Try.pinned (OpenSpec.upto seamSewsSpec)

/-- 'tranklaw07.SeamBridges', WHERE WHAT IT READS IS OF BULK AT MOST 1048576: true; the input reads as it did. -/
def seamBridgesUptoRow : OpenClaim := { program := "ytbhjhajnhpohlaa", sum := "33a95dced8c34d102e3b31832ade69ff14000835b05a03c5fd8662ce74c0fb69", func := "trank/tranklaw07.SeamBridges", spec := "seamBridges", unfollowed := true, recurses := true, apart := false, narrowed := true }
def SeamBridgesUptoSaid : Prop := seamBridgesUptoRow.holds Try.pinned (OpenSpec.upto seamBridgesSpec)

/-- 'tranklaw07.SeamRound', WHERE WHAT IT READS IS OF BULK AT MOST 1048576: true; the input reads as it did. -/
def seamRoundUptoRow : OpenClaim := { program := "ytbhjhajnhpohlaa", sum := "33a95dced8c34d102e3b31832ade69ff14000835b05a03c5fd8662ce74c0fb69", func := "trank/tranklaw07.SeamRound", spec := "seamRound", unfollowed := true, recurses := true, apart := false, narrowed := true }
def SeamRoundUptoSaid : Prop := seamRoundUptoRow.holds Try.pinned (OpenSpec.upto seamRoundSpec)

/-- 'tranklaw07.SeamTwice', WHERE WHAT IT READS IS OF BULK AT MOST 1048576: true; the input reads as it did. -/
def seamTwiceUptoRow : OpenClaim := { program := "ytbhjhajnhpohlaa", sum := "33a95dced8c34d102e3b31832ade69ff14000835b05a03c5fd8662ce74c0fb69", func := "trank/tranklaw07.SeamTwice", spec := "seamTwice", unfollowed := true, recurses := true, apart := false, narrowed := true }
def SeamTwiceUptoSaid : Prop := seamTwiceUptoRow.holds Try.pinned (OpenSpec.upto seamTwiceSpec)

/-- 'tranklaw07.SeamRuns', WHERE WHAT IT READS IS OF BULK AT MOST 1048576: true; the input reads as it did. -/
def seamRunsUptoRow : OpenClaim := { program := "ytbhjhajnhpohlaa", sum := "33a95dced8c34d102e3b31832ade69ff14000835b05a03c5fd8662ce74c0fb69", func := "trank/tranklaw07.SeamRuns", spec := "seamRuns", unfollowed := true, recurses := true, apart := false, narrowed := true }
def SeamRunsUptoSaid : Prop := seamRunsUptoRow.holds Try.pinned (OpenSpec.upto seamRunsSpec)

/-- 'tranklaw07.SeamFuel', WHERE WHAT IT READS IS OF BULK AT MOST 1048576: true; the input reads as it did. -/
def seamFuelUptoRow : OpenClaim := { program := "ytbhjhajnhpohlaa", sum := "33a95dced8c34d102e3b31832ade69ff14000835b05a03c5fd8662ce74c0fb69", func := "trank/tranklaw07.SeamFuel", spec := "seamFuel", unfollowed := true, recurses := true, apart := false, narrowed := true }
def SeamFuelUptoSaid : Prop := seamFuelUptoRow.holds Try.pinned (OpenSpec.upto seamFuelSpec)

/-- 'tranklaw07.SeamFewest', WHERE WHAT IT READS IS OF BULK AT MOST 1048576: true; the input reads as it did. -/
def seamFewestUptoRow : OpenClaim := { program := "ytbhjhajnhpohlaa", sum := "33a95dced8c34d102e3b31832ade69ff14000835b05a03c5fd8662ce74c0fb69", func := "trank/tranklaw07.SeamFewest", spec := "seamFewest", unfollowed := true, recurses := true, apart := false, narrowed := true }
def SeamFewestUptoSaid : Prop := seamFewestUptoRow.holds Try.pinned (OpenSpec.upto seamFewestSpec)

/-- 'tranklaw07.SeamLeast', WHERE WHAT IT READS IS OF BULK AT MOST 1048576: true; the input reads as it did. -/
def seamLeastUptoRow : OpenClaim := { program := "ytbhjhajnhpohlaa", sum := "33a95dced8c34d102e3b31832ade69ff14000835b05a03c5fd8662ce74c0fb69", func := "trank/tranklaw07.SeamLeast", spec := "seamLeast", unfollowed := true, recurses := true, apart := false, narrowed := true }
def SeamLeastUptoSaid : Prop := seamLeastUptoRow.holds Try.pinned (OpenSpec.upto seamLeastSpec)

/-- 'tranklaw07.SeamCompiles', WHERE WHAT IT READS IS OF BULK AT MOST 1048576: true; the input reads as it did. -/
def seamCompilesUptoRow : OpenClaim := { program := "ytbhjhajnhpohlaa", sum := "33a95dced8c34d102e3b31832ade69ff14000835b05a03c5fd8662ce74c0fb69", func := "trank/tranklaw07.SeamCompiles", spec := "seamCompiles", unfollowed := true, recurses := true, apart := false, narrowed := true }
def SeamCompilesUptoSaid : Prop := seamCompilesUptoRow.holds Try.pinned (OpenSpec.upto seamCompilesSpec)

/-- 'tranklaw07.SeamSewn', WHERE WHAT IT READS IS OF BULK AT MOST 1048576: true; the input reads as it did. -/
def seamSewnUptoRow : OpenClaim := { program := "ytbhjhajnhpohlaa", sum := "33a95dced8c34d102e3b31832ade69ff14000835b05a03c5fd8662ce74c0fb69", func := "trank/tranklaw07.SeamSewn", spec := "seamSewn", unfollowed := true, recurses := true, apart := false, narrowed := true }
def SeamSewnUptoSaid : Prop := seamSewnUptoRow.holds Try.pinned (OpenSpec.upto seamSewnSpec)

end Rows
end Go.Proofs.Ytbhjhajnhpohlaa
