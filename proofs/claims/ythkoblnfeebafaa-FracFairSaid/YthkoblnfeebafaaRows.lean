/-
  No cell of these rows narrows 'for every input' (looked for: loops, veiled, ifaces, maps, wideKeys, modest, calm, conditions, laid).
  DERIVED. THE GIVEN ROWS OF THIS SEAT. 17 by the template 'for every input the law returns true; each argument reads behind the call as it read before'; 0 by the template 'total and deterministic' (their statements: YthkoblnfeebafaaTotals.lean).
  GIVEN WITH THE SEED: the statements are not yours to turn. If you find one false, say at which input.
  Laid BY PROGRAM, IN A SANDBOX (cutbox-rows.mjs): the forced cells as the released guide's own fill.sh prints them over the translation 92e92a84c3caf6f8… (all of the seat's roots in one cut). By AI agents, Wed Nov 11 2026. No macro, syntax, notation, axiom, sorry.
-/
import Derived.Test.YthkoblnfeebafaaChecked
import GoSem.Claim
import GoSem.ClaimJoined
import GoSem.ClaimMapViews
import Derived.JoinedTies
import Derived.KernelRfl
namespace Go.Proofs.Ythkoblnfeebafaa
/- THE CELL 'sum', in the pinned program and in every row, IS THE sha256 OF THE DUMP (.gsa) THAT YthkoblnfeebafaaProg.lean LOADS. Nothing in Lean hashes anything: it is a label: what it is worth is what the hold of that sum in a sandbox is worth. -/
noncomputable def Try.pinned : Pinned := { name := "ythkoblnfeebafaa", sum := "92e92a84c3caf6f8079129dcc25af7f00e7d2023074a60477a30f30e1995683f", checked := Try.checked }
namespace Rows
def none {H : Type} : Left H := { results := [], args := [] }

/-- 'tranklaw01.FracValid': WHATEVER THE INPUT: true; the input reads as it did. -/
def fracValidSpec : ChangeSpec := { name := "fracValid", fn := fun _ => fun
  | [d] => { results := [.lit (.bool true)], args := [d] }
  | _ => none }
def fracValidRow : OpenClaim := { program := "ythkoblnfeebafaa", sum := "92e92a84c3caf6f8079129dcc25af7f00e7d2023074a60477a30f30e1995683f", func := "trank/tranklaw01.FracValid", spec := "fracValid", apart := false }
def FracValidSaid : Prop := fracValidRow.holds Try.pinned (OpenSpec.ofChange fracValidSpec)

/-- ITS FALSE NEIGHBOUR: 'it returns false'. Refute it at one input. -/
def fracValidWrong : ChangeSpec := { name := "fracValid", fn := fun _ => fun
  | [d] => { results := [.lit (.bool false)], args := [d] }
  | _ => none }
def FracValidWrongFalsely : Prop := fracValidRow.holds Try.pinned (OpenSpec.ofChange fracValidWrong)

/-- 'tranklaw01.FracMediants': WHATEVER THE INPUT: true; the input reads as it did. -/
def fracMediantsSpec : ChangeSpec := { name := "fracMediants", fn := fun _ => fun
  | [d1, d2] => { results := [.lit (.bool true)], args := [d1, d2] }
  | _ => none }
def fracMediantsRow : OpenClaim := { program := "ythkoblnfeebafaa", sum := "92e92a84c3caf6f8079129dcc25af7f00e7d2023074a60477a30f30e1995683f", func := "trank/tranklaw01.FracMediants", spec := "fracMediants", apart := false }
def FracMediantsSaid : Prop := fracMediantsRow.holds Try.pinned (OpenSpec.ofChange fracMediantsSpec)

/-- ITS FALSE NEIGHBOUR: 'it returns false'. Refute it at one input. -/
def fracMediantsWrong : ChangeSpec := { name := "fracMediants", fn := fun _ => fun
  | [d1, d2] => { results := [.lit (.bool false)], args := [d1, d2] }
  | _ => none }
def FracMediantsWrongFalsely : Prop := fracMediantsRow.holds Try.pinned (OpenSpec.ofChange fracMediantsWrong)

/-- 'tranklaw01.FracNew': WHATEVER THE INPUT: true; the input reads as it did. -/
def fracNewSpec : ChangeSpec := { name := "fracNew", fn := fun _ => fun
  | [d1, d2] => { results := [.lit (.bool true)], args := [d1, d2] }
  | _ => none }
def fracNewRow : OpenClaim := { program := "ythkoblnfeebafaa", sum := "92e92a84c3caf6f8079129dcc25af7f00e7d2023074a60477a30f30e1995683f", func := "trank/tranklaw01.FracNew", spec := "fracNew", apart := false }
def FracNewSaid : Prop := fracNewRow.holds Try.pinned (OpenSpec.ofChange fracNewSpec)

/-- ITS FALSE NEIGHBOUR: 'it returns false'. Refute it at one input. -/
def fracNewWrong : ChangeSpec := { name := "fracNew", fn := fun _ => fun
  | [d1, d2] => { results := [.lit (.bool false)], args := [d1, d2] }
  | _ => none }
def FracNewWrongFalsely : Prop := fracNewRow.holds Try.pinned (OpenSpec.ofChange fracNewWrong)

/-- 'tranklaw01.FracSums': WHATEVER THE INPUT: true; the input reads as it did. -/
def fracSumsSpec : ChangeSpec := { name := "fracSums", fn := fun _ => fun
  | [d] => { results := [.lit (.bool true)], args := [d] }
  | _ => none }
def fracSumsRow : OpenClaim := { program := "ythkoblnfeebafaa", sum := "92e92a84c3caf6f8079129dcc25af7f00e7d2023074a60477a30f30e1995683f", func := "trank/tranklaw01.FracSums", spec := "fracSums", apart := false }
def FracSumsSaid : Prop := fracSumsRow.holds Try.pinned (OpenSpec.ofChange fracSumsSpec)

/-- ITS FALSE NEIGHBOUR: 'it returns false'. Refute it at one input. -/
def fracSumsWrong : ChangeSpec := { name := "fracSums", fn := fun _ => fun
  | [d] => { results := [.lit (.bool false)], args := [d] }
  | _ => none }
def FracSumsWrongFalsely : Prop := fracSumsRow.holds Try.pinned (OpenSpec.ofChange fracSumsWrong)

/-- 'tranklaw01.FracFromTerms': WHATEVER THE INPUT: true; the input reads as it did. -/
def fracFromTermsSpec : ChangeSpec := { name := "fracFromTerms", fn := fun _ => fun
  | [d] => { results := [.lit (.bool true)], args := [d] }
  | _ => none }
def fracFromTermsRow : OpenClaim := { program := "ythkoblnfeebafaa", sum := "92e92a84c3caf6f8079129dcc25af7f00e7d2023074a60477a30f30e1995683f", func := "trank/tranklaw01.FracFromTerms", spec := "fracFromTerms", apart := false }
def FracFromTermsSaid : Prop := fracFromTermsRow.holds Try.pinned (OpenSpec.ofChange fracFromTermsSpec)

/-- ITS FALSE NEIGHBOUR: 'it returns false'. Refute it at one input. -/
def fracFromTermsWrong : ChangeSpec := { name := "fracFromTerms", fn := fun _ => fun
  | [d] => { results := [.lit (.bool false)], args := [d] }
  | _ => none }
def FracFromTermsWrongFalsely : Prop := fracFromTermsRow.holds Try.pinned (OpenSpec.ofChange fracFromTermsWrong)

/-- 'tranklaw01.FracClose': WHATEVER THE INPUT: true; the input reads as it did. -/
def fracCloseSpec : ChangeSpec := { name := "fracClose", fn := fun _ => fun
  | [d1, d2, d3] => { results := [.lit (.bool true)], args := [d1, d2, d3] }
  | _ => none }
def fracCloseRow : OpenClaim := { program := "ythkoblnfeebafaa", sum := "92e92a84c3caf6f8079129dcc25af7f00e7d2023074a60477a30f30e1995683f", func := "trank/tranklaw01.FracClose", spec := "fracClose", apart := false }
def FracCloseSaid : Prop := fracCloseRow.holds Try.pinned (OpenSpec.ofChange fracCloseSpec)

/-- ITS FALSE NEIGHBOUR: 'it returns false'. Refute it at one input. -/
def fracCloseWrong : ChangeSpec := { name := "fracClose", fn := fun _ => fun
  | [d1, d2, d3] => { results := [.lit (.bool false)], args := [d1, d2, d3] }
  | _ => none }
def FracCloseWrongFalsely : Prop := fracCloseRow.holds Try.pinned (OpenSpec.ofChange fracCloseWrong)

/-- 'tranklaw01.FracNeighbours': WHATEVER THE INPUT: true; the input reads as it did. -/
def fracNeighboursSpec : ChangeSpec := { name := "fracNeighbours", fn := fun _ => fun
  | [d1, d2, d3] => { results := [.lit (.bool true)], args := [d1, d2, d3] }
  | _ => none }
def fracNeighboursRow : OpenClaim := { program := "ythkoblnfeebafaa", sum := "92e92a84c3caf6f8079129dcc25af7f00e7d2023074a60477a30f30e1995683f", func := "trank/tranklaw01.FracNeighbours", spec := "fracNeighbours", apart := false }
def FracNeighboursSaid : Prop := fracNeighboursRow.holds Try.pinned (OpenSpec.ofChange fracNeighboursSpec)

/-- ITS FALSE NEIGHBOUR: 'it returns false'. Refute it at one input. -/
def fracNeighboursWrong : ChangeSpec := { name := "fracNeighbours", fn := fun _ => fun
  | [d1, d2, d3] => { results := [.lit (.bool false)], args := [d1, d2, d3] }
  | _ => none }
def FracNeighboursWrongFalsely : Prop := fracNeighboursRow.holds Try.pinned (OpenSpec.ofChange fracNeighboursWrong)

/-- 'tranklaw01.FracBack': WHATEVER THE INPUT: true; the input reads as it did. -/
def fracBackSpec : ChangeSpec := { name := "fracBack", fn := fun _ => fun
  | [d1, d2] => { results := [.lit (.bool true)], args := [d1, d2] }
  | _ => none }
def fracBackRow : OpenClaim := { program := "ythkoblnfeebafaa", sum := "92e92a84c3caf6f8079129dcc25af7f00e7d2023074a60477a30f30e1995683f", func := "trank/tranklaw01.FracBack", spec := "fracBack", apart := false }
def FracBackSaid : Prop := fracBackRow.holds Try.pinned (OpenSpec.ofChange fracBackSpec)

/-- ITS FALSE NEIGHBOUR: 'it returns false'. Refute it at one input. -/
def fracBackWrong : ChangeSpec := { name := "fracBack", fn := fun _ => fun
  | [d1, d2] => { results := [.lit (.bool false)], args := [d1, d2] }
  | _ => none }
def FracBackWrongFalsely : Prop := fracBackRow.holds Try.pinned (OpenSpec.ofChange fracBackWrong)

/-- 'tranklaw01.FracRounds': WHATEVER THE INPUT: true; the input reads as it did. -/
def fracRoundsSpec : ChangeSpec := { name := "fracRounds", fn := fun _ => fun
  | [d1, d2, d3] => { results := [.lit (.bool true)], args := [d1, d2, d3] }
  | _ => none }
def fracRoundsRow : OpenClaim := { program := "ythkoblnfeebafaa", sum := "92e92a84c3caf6f8079129dcc25af7f00e7d2023074a60477a30f30e1995683f", func := "trank/tranklaw01.FracRounds", spec := "fracRounds", apart := false }
def FracRoundsSaid : Prop := fracRoundsRow.holds Try.pinned (OpenSpec.ofChange fracRoundsSpec)

/-- ITS FALSE NEIGHBOUR: 'it returns false'. Refute it at one input. -/
def fracRoundsWrong : ChangeSpec := { name := "fracRounds", fn := fun _ => fun
  | [d1, d2, d3] => { results := [.lit (.bool false)], args := [d1, d2, d3] }
  | _ => none }
def FracRoundsWrongFalsely : Prop := fracRoundsRow.holds Try.pinned (OpenSpec.ofChange fracRoundsWrong)

/-- 'tranklaw01.FracSimplest': WHATEVER THE INPUT: true; the input reads as it did. -/
def fracSimplestSpec : ChangeSpec := { name := "fracSimplest", fn := fun _ => fun
  | [d1, d2] => { results := [.lit (.bool true)], args := [d1, d2] }
  | _ => none }
def fracSimplestRow : OpenClaim := { program := "ythkoblnfeebafaa", sum := "92e92a84c3caf6f8079129dcc25af7f00e7d2023074a60477a30f30e1995683f", func := "trank/tranklaw01.FracSimplest", spec := "fracSimplest", recurses := true, apart := false }
def FracSimplestSaid : Prop := fracSimplestRow.holds Try.pinned (OpenSpec.ofChange fracSimplestSpec)

/-- ITS FALSE NEIGHBOUR: 'it returns false'. Refute it at one input. -/
def fracSimplestWrong : ChangeSpec := { name := "fracSimplest", fn := fun _ => fun
  | [d1, d2] => { results := [.lit (.bool false)], args := [d1, d2] }
  | _ => none }
def FracSimplestWrongFalsely : Prop := fracSimplestRow.holds Try.pinned (OpenSpec.ofChange fracSimplestWrong)

/-- 'tranklaw01.FracLeast': WHATEVER THE INPUT: true; the input reads as it did. -/
def fracLeastSpec : ChangeSpec := { name := "fracLeast", fn := fun _ => fun
  | [d1, d2, d3] => { results := [.lit (.bool true)], args := [d1, d2, d3] }
  | _ => none }
def fracLeastRow : OpenClaim := { program := "ythkoblnfeebafaa", sum := "92e92a84c3caf6f8079129dcc25af7f00e7d2023074a60477a30f30e1995683f", func := "trank/tranklaw01.FracLeast", spec := "fracLeast", recurses := true, apart := false }
def FracLeastSaid : Prop := fracLeastRow.holds Try.pinned (OpenSpec.ofChange fracLeastSpec)

/-- ITS FALSE NEIGHBOUR: 'it returns false'. Refute it at one input. -/
def fracLeastWrong : ChangeSpec := { name := "fracLeast", fn := fun _ => fun
  | [d1, d2, d3] => { results := [.lit (.bool false)], args := [d1, d2, d3] }
  | _ => none }
def FracLeastWrongFalsely : Prop := fracLeastRow.holds Try.pinned (OpenSpec.ofChange fracLeastWrong)

/-- 'tranklaw01.FracBlends': WHATEVER THE INPUT: true; the input reads as it did. -/
def fracBlendsSpec : ChangeSpec := { name := "fracBlends", fn := fun _ => fun
  | [d1, d2] => { results := [.lit (.bool true)], args := [d1, d2] }
  | _ => none }
def fracBlendsRow : OpenClaim := { program := "ythkoblnfeebafaa", sum := "92e92a84c3caf6f8079129dcc25af7f00e7d2023074a60477a30f30e1995683f", func := "trank/tranklaw01.FracBlends", spec := "fracBlends", apart := false }
def FracBlendsSaid : Prop := fracBlendsRow.holds Try.pinned (OpenSpec.ofChange fracBlendsSpec)

/-- ITS FALSE NEIGHBOUR: 'it returns false'. Refute it at one input. -/
def fracBlendsWrong : ChangeSpec := { name := "fracBlends", fn := fun _ => fun
  | [d1, d2] => { results := [.lit (.bool false)], args := [d1, d2] }
  | _ => none }
def FracBlendsWrongFalsely : Prop := fracBlendsRow.holds Try.pinned (OpenSpec.ofChange fracBlendsWrong)

/-- 'tranklaw01.FracReckons': WHATEVER THE INPUT: true; the input reads as it did. -/
def fracReckonsSpec : ChangeSpec := { name := "fracReckons", fn := fun _ => fun
  | [d1, d2] => { results := [.lit (.bool true)], args := [d1, d2] }
  | _ => none }
def fracReckonsRow : OpenClaim := { program := "ythkoblnfeebafaa", sum := "92e92a84c3caf6f8079129dcc25af7f00e7d2023074a60477a30f30e1995683f", func := "trank/tranklaw01.FracReckons", spec := "fracReckons", apart := false }
def FracReckonsSaid : Prop := fracReckonsRow.holds Try.pinned (OpenSpec.ofChange fracReckonsSpec)

/-- ITS FALSE NEIGHBOUR: 'it returns false'. Refute it at one input. -/
def fracReckonsWrong : ChangeSpec := { name := "fracReckons", fn := fun _ => fun
  | [d1, d2] => { results := [.lit (.bool false)], args := [d1, d2] }
  | _ => none }
def FracReckonsWrongFalsely : Prop := fracReckonsRow.holds Try.pinned (OpenSpec.ofChange fracReckonsWrong)

/-- 'tranklaw01.FracTerms': WHATEVER THE INPUT: true; the input reads as it did. -/
def fracTermsSpec : ChangeSpec := { name := "fracTerms", fn := fun _ => fun
  | [d] => { results := [.lit (.bool true)], args := [d] }
  | _ => none }
def fracTermsRow : OpenClaim := { program := "ythkoblnfeebafaa", sum := "92e92a84c3caf6f8079129dcc25af7f00e7d2023074a60477a30f30e1995683f", func := "trank/tranklaw01.FracTerms", spec := "fracTerms", apart := false }
def FracTermsSaid : Prop := fracTermsRow.holds Try.pinned (OpenSpec.ofChange fracTermsSpec)

/-- ITS FALSE NEIGHBOUR: 'it returns false'. Refute it at one input. -/
def fracTermsWrong : ChangeSpec := { name := "fracTerms", fn := fun _ => fun
  | [d] => { results := [.lit (.bool false)], args := [d] }
  | _ => none }
def FracTermsWrongFalsely : Prop := fracTermsRow.holds Try.pinned (OpenSpec.ofChange fracTermsWrong)

/-- 'tranklaw01.FracNears': WHATEVER THE INPUT: true; the input reads as it did. -/
def fracNearsSpec : ChangeSpec := { name := "fracNears", fn := fun _ => fun
  | [d1, d2] => { results := [.lit (.bool true)], args := [d1, d2] }
  | _ => none }
def fracNearsRow : OpenClaim := { program := "ythkoblnfeebafaa", sum := "92e92a84c3caf6f8079129dcc25af7f00e7d2023074a60477a30f30e1995683f", func := "trank/tranklaw01.FracNears", spec := "fracNears", apart := false }
def FracNearsSaid : Prop := fracNearsRow.holds Try.pinned (OpenSpec.ofChange fracNearsSpec)

/-- ITS FALSE NEIGHBOUR: 'it returns false'. Refute it at one input. -/
def fracNearsWrong : ChangeSpec := { name := "fracNears", fn := fun _ => fun
  | [d1, d2] => { results := [.lit (.bool false)], args := [d1, d2] }
  | _ => none }
def FracNearsWrongFalsely : Prop := fracNearsRow.holds Try.pinned (OpenSpec.ofChange fracNearsWrong)

/-- 'tranklaw01.FracFair': WHATEVER THE INPUT: true; the input reads as it did. -/
def fracFairSpec : ChangeSpec := { name := "fracFair", fn := fun _ => fun
  | [d1, d2] => { results := [.lit (.bool true)], args := [d1, d2] }
  | _ => none }
def fracFairRow : OpenClaim := { program := "ythkoblnfeebafaa", sum := "92e92a84c3caf6f8079129dcc25af7f00e7d2023074a60477a30f30e1995683f", func := "trank/tranklaw01.FracFair", spec := "fracFair", unfollowed := true, recurses := true, apart := false }
def FracFairSaid : Prop := fracFairRow.holds Try.pinned (OpenSpec.ofChange fracFairSpec)

/-- ITS FALSE NEIGHBOUR: 'it returns false'. Refute it at one input. -/
def fracFairWrong : ChangeSpec := { name := "fracFair", fn := fun _ => fun
  | [d1, d2] => { results := [.lit (.bool false)], args := [d1, d2] }
  | _ => none }
def FracFairWrongFalsely : Prop := fracFairRow.holds Try.pinned (OpenSpec.ofChange fracFairWrong)

/-- 'tranklaw01.FracShares': WHATEVER THE INPUT: true; the input reads as it did. -/
def fracSharesSpec : ChangeSpec := { name := "fracShares", fn := fun _ => fun
  | [d1, d2] => { results := [.lit (.bool true)], args := [d1, d2] }
  | _ => none }
def fracSharesRow : OpenClaim := { program := "ythkoblnfeebafaa", sum := "92e92a84c3caf6f8079129dcc25af7f00e7d2023074a60477a30f30e1995683f", func := "trank/tranklaw01.FracShares", spec := "fracShares", unfollowed := true, recurses := true, apart := false }
def FracSharesSaid : Prop := fracSharesRow.holds Try.pinned (OpenSpec.ofChange fracSharesSpec)

/-- ITS FALSE NEIGHBOUR: 'it returns false'. Refute it at one input. -/
def fracSharesWrong : ChangeSpec := { name := "fracShares", fn := fun _ => fun
  | [d1, d2] => { results := [.lit (.bool false)], args := [d1, d2] }
  | _ => none }
def FracSharesWrongFalsely : Prop := fracSharesRow.holds Try.pinned (OpenSpec.ofChange fracSharesWrong)

/- THE SECOND FORM. 'bulk': how many values and letters a reading holds, each counted each time it is reached (what is shared counts as often as it is met; a slice's spare places count too). A statement '..UptoSaid' is the law's where the arguments, and the package variables that the reading takes, are together of bulk at most 1048576: NARROWER than '..Said'. Prove '..Said' where nothing that the law and all that it calls make is longer than what came in: it says more and counts as full. Else prove '..UptoSaid'. A law counts once. -/
mutual
def uptoBulk {H : Type} : DataW H → Nat
  | .lit (.string bytes) => bytes.length + 1
  | .lit _ => 1
  | .nil => 1
  | .ptr d => uptoBulk d + 1
  | .slice elems spare => uptoBulkAll elems + uptoBulkAll spare + 1
  | .agg parts => uptoBulkAll parts + 1
  | .iface _ d => uptoBulk d + 1
  | .map entries => uptoBulkEntries entries + 1
  | .held _ => 1
def uptoBulkAll {H : Type} : List (DataW H) → Nat
  | [] => 0
  | d :: r => uptoBulk d + uptoBulkAll r
def uptoBulkEntries {H : Type} : List (Lit × DataW H) → Nat
  | [] => 0
  | x :: r => uptoBulkEntry x + uptoBulkEntries r
def uptoBulkEntry {H : Type} : Lit × DataW H → Nat
  | (.string bytes, d) => bytes.length + uptoBulk d + 1
  | (_, d) => uptoBulk d + 1
 end
def uptoSmall : (H : Type) → List (DataW H) → Bool := fun _ ds => decide (uptoBulkAll ds ≤ 1048576)
def OpenSpec.upto (s : _root_.Go.ChangeSpec) : _root_.Go.OpenSpec := { _root_.Go.OpenSpec.ofChange s with cond := some uptoSmall }

/-- 'tranklaw01.FracValid', WHERE WHAT IT READS IS OF BULK AT MOST 1048576: true; the input reads as it did. -/
def fracValidUptoRow : OpenClaim := { program := "ythkoblnfeebafaa", sum := "92e92a84c3caf6f8079129dcc25af7f00e7d2023074a60477a30f30e1995683f", func := "trank/tranklaw01.FracValid", spec := "fracValid", apart := false, narrowed := true }
def FracValidUptoSaid : Prop := fracValidUptoRow.holds Try.pinned (OpenSpec.upto fracValidSpec)

/-- 'tranklaw01.FracMediants', WHERE WHAT IT READS IS OF BULK AT MOST 1048576: true; the input reads as it did. -/
def fracMediantsUptoRow : OpenClaim := { program := "ythkoblnfeebafaa", sum := "92e92a84c3caf6f8079129dcc25af7f00e7d2023074a60477a30f30e1995683f", func := "trank/tranklaw01.FracMediants", spec := "fracMediants", apart := false, narrowed := true }
def FracMediantsUptoSaid : Prop := fracMediantsUptoRow.holds Try.pinned (OpenSpec.upto fracMediantsSpec)

/-- 'tranklaw01.FracNew', WHERE WHAT IT READS IS OF BULK AT MOST 1048576: true; the input reads as it did. -/
def fracNewUptoRow : OpenClaim := { program := "ythkoblnfeebafaa", sum := "92e92a84c3caf6f8079129dcc25af7f00e7d2023074a60477a30f30e1995683f", func := "trank/tranklaw01.FracNew", spec := "fracNew", apart := false, narrowed := true }
def FracNewUptoSaid : Prop := fracNewUptoRow.holds Try.pinned (OpenSpec.upto fracNewSpec)

/-- 'tranklaw01.FracSums', WHERE WHAT IT READS IS OF BULK AT MOST 1048576: true; the input reads as it did. -/
def fracSumsUptoRow : OpenClaim := { program := "ythkoblnfeebafaa", sum := "92e92a84c3caf6f8079129dcc25af7f00e7d2023074a60477a30f30e1995683f", func := "trank/tranklaw01.FracSums", spec := "fracSums", apart := false, narrowed := true }
def FracSumsUptoSaid : Prop := fracSumsUptoRow.holds Try.pinned (OpenSpec.upto fracSumsSpec)

/-- 'tranklaw01.FracFromTerms', WHERE WHAT IT READS IS OF BULK AT MOST 1048576: true; the input reads as it did. -/
def fracFromTermsUptoRow : OpenClaim := { program := "ythkoblnfeebafaa", sum := "92e92a84c3caf6f8079129dcc25af7f00e7d2023074a60477a30f30e1995683f", func := "trank/tranklaw01.FracFromTerms", spec := "fracFromTerms", apart := false, narrowed := true }
def FracFromTermsUptoSaid : Prop := fracFromTermsUptoRow.holds Try.pinned (OpenSpec.upto fracFromTermsSpec)

/-- 'tranklaw01.FracClose', WHERE WHAT IT READS IS OF BULK AT MOST 1048576: true; the input reads as it did. -/
def fracCloseUptoRow : OpenClaim := { program := "ythkoblnfeebafaa", sum := "92e92a84c3caf6f8079129dcc25af7f00e7d2023074a60477a30f30e1995683f", func := "trank/tranklaw01.FracClose", spec := "fracClose", apart := false, narrowed := true }
def FracCloseUptoSaid : Prop := fracCloseUptoRow.holds Try.pinned (OpenSpec.upto fracCloseSpec)

/-- 'tranklaw01.FracNeighbours', WHERE WHAT IT READS IS OF BULK AT MOST 1048576: true; the input reads as it did. -/
def fracNeighboursUptoRow : OpenClaim := { program := "ythkoblnfeebafaa", sum := "92e92a84c3caf6f8079129dcc25af7f00e7d2023074a60477a30f30e1995683f", func := "trank/tranklaw01.FracNeighbours", spec := "fracNeighbours", apart := false, narrowed := true }
def FracNeighboursUptoSaid : Prop := fracNeighboursUptoRow.holds Try.pinned (OpenSpec.upto fracNeighboursSpec)

/-- 'tranklaw01.FracBack', WHERE WHAT IT READS IS OF BULK AT MOST 1048576: true; the input reads as it did. -/
def fracBackUptoRow : OpenClaim := { program := "ythkoblnfeebafaa", sum := "92e92a84c3caf6f8079129dcc25af7f00e7d2023074a60477a30f30e1995683f", func := "trank/tranklaw01.FracBack", spec := "fracBack", apart := false, narrowed := true }
def FracBackUptoSaid : Prop := fracBackUptoRow.holds Try.pinned (OpenSpec.upto fracBackSpec)

/-- 'tranklaw01.FracRounds', WHERE WHAT IT READS IS OF BULK AT MOST 1048576: true; the input reads as it did. -/
def fracRoundsUptoRow : OpenClaim := { program := "ythkoblnfeebafaa", sum := "92e92a84c3caf6f8079129dcc25af7f00e7d2023074a60477a30f30e1995683f", func := "trank/tranklaw01.FracRounds", spec := "fracRounds", apart := false, narrowed := true }
def FracRoundsUptoSaid : Prop := fracRoundsUptoRow.holds Try.pinned (OpenSpec.upto fracRoundsSpec)

/-- 'tranklaw01.FracSimplest', WHERE WHAT IT READS IS OF BULK AT MOST 1048576: true; the input reads as it did. -/
def fracSimplestUptoRow : OpenClaim := { program := "ythkoblnfeebafaa", sum := "92e92a84c3caf6f8079129dcc25af7f00e7d2023074a60477a30f30e1995683f", func := "trank/tranklaw01.FracSimplest", spec := "fracSimplest", recurses := true, apart := false, narrowed := true }
def FracSimplestUptoSaid : Prop := fracSimplestUptoRow.holds Try.pinned (OpenSpec.upto fracSimplestSpec)

/-- 'tranklaw01.FracLeast', WHERE WHAT IT READS IS OF BULK AT MOST 1048576: true; the input reads as it did. -/
def fracLeastUptoRow : OpenClaim := { program := "ythkoblnfeebafaa", sum := "92e92a84c3caf6f8079129dcc25af7f00e7d2023074a60477a30f30e1995683f", func := "trank/tranklaw01.FracLeast", spec := "fracLeast", recurses := true, apart := false, narrowed := true }
def FracLeastUptoSaid : Prop := fracLeastUptoRow.holds Try.pinned (OpenSpec.upto fracLeastSpec)

/-- 'tranklaw01.FracBlends', WHERE WHAT IT READS IS OF BULK AT MOST 1048576: true; the input reads as it did. -/
def fracBlendsUptoRow : OpenClaim := { program := "ythkoblnfeebafaa", sum := "92e92a84c3caf6f8079129dcc25af7f00e7d2023074a60477a30f30e1995683f", func := "trank/tranklaw01.FracBlends", spec := "fracBlends", apart := false, narrowed := true }
def FracBlendsUptoSaid : Prop := fracBlendsUptoRow.holds Try.pinned (OpenSpec.upto fracBlendsSpec)

/-- 'tranklaw01.FracReckons', WHERE WHAT IT READS IS OF BULK AT MOST 1048576: true; the input reads as it did. -/
def fracReckonsUptoRow : OpenClaim := { program := "ythkoblnfeebafaa", sum := "92e92a84c3caf6f8079129dcc25af7f00e7d2023074a60477a30f30e1995683f", func := "trank/tranklaw01.FracReckons", spec := "fracReckons", apart := false, narrowed := true }
def FracReckonsUptoSaid : Prop := fracReckonsUptoRow.holds Try.pinned (OpenSpec.upto fracReckonsSpec)

/-- 'tranklaw01.FracTerms', WHERE WHAT IT READS IS OF BULK AT MOST 1048576: true; the input reads as it did. -/
def fracTermsUptoRow : OpenClaim := { program := "ythkoblnfeebafaa", sum := "92e92a84c3caf6f8079129dcc25af7f00e7d2023074a60477a30f30e1995683f", func := "trank/tranklaw01.FracTerms", spec := "fracTerms", apart := false, narrowed := true }
def FracTermsUptoSaid : Prop := fracTermsUptoRow.holds Try.pinned (OpenSpec.upto fracTermsSpec)

/-- 'tranklaw01.FracNears', WHERE WHAT IT READS IS OF BULK AT MOST 1048576: true; the input reads as it did. -/
def fracNearsUptoRow : OpenClaim := { program := "ythkoblnfeebafaa", sum := "92e92a84c3caf6f8079129dcc25af7f00e7d2023074a60477a30f30e1995683f", func := "trank/tranklaw01.FracNears", spec := "fracNears", apart := false, narrowed := true }
def FracNearsUptoSaid : Prop := fracNearsUptoRow.holds Try.pinned (OpenSpec.upto fracNearsSpec)

/-- 'tranklaw01.FracFair', WHERE WHAT IT READS IS OF BULK AT MOST 1048576: true; the input reads as it did. -/
def fracFairUptoRow : OpenClaim := { program := "ythkoblnfeebafaa", sum := "92e92a84c3caf6f8079129dcc25af7f00e7d2023074a60477a30f30e1995683f", func := "trank/tranklaw01.FracFair", spec := "fracFair", unfollowed := true, recurses := true, apart := false, narrowed := true }
def FracFairUptoSaid : Prop := fracFairUptoRow.holds Try.pinned (OpenSpec.upto fracFairSpec)

/-- 'tranklaw01.FracShares', WHERE WHAT IT READS IS OF BULK AT MOST 1048576: true; the input reads as it did. -/
def fracSharesUptoRow : OpenClaim := { program := "ythkoblnfeebafaa", sum := "92e92a84c3caf6f8079129dcc25af7f00e7d2023074a60477a30f30e1995683f", func := "trank/tranklaw01.FracShares", spec := "fracShares", unfollowed := true, recurses := true, apart := false, narrowed := true }
def FracSharesUptoSaid : Prop := fracSharesUptoRow.holds Try.pinned (OpenSpec.upto fracSharesSpec)

end Rows
end Go.Proofs.Ythkoblnfeebafaa
