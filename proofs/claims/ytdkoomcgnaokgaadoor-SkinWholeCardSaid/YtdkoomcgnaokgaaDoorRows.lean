/-
  NARROWER THAN 'FOR EVERY INPUT', by the rows' own cells (each row's printed sentence says how): SkinParts: laid · SkinNobody: laid · SkinCounts: laid · SkinGrades: laid · SkinTurns: laid · SkinErodes: laid · SkinCrops: laid · SkinWhole: laid · SkinOpened: laid.
  DERIVED. THE GIVEN ROWS OF THIS SEAT. 9 by the template 'for every input the law returns true; each argument reads behind the call as it read before'; 0 by the template 'total and deterministic' (their statements: YtdkoomcgnaokgaaDoorTotals.lean).
  GIVEN WITH THE SEED: the statements are not yours to turn. If you find one false, say at which input.
  Laid BY PROGRAM, IN A SANDBOX (cutbox-rows.mjs): the forced cells as the released guide's own fill.sh prints them over the translation f027ab6a95248400… (all of the seat's roots in one cut). By AI agents, Wed Nov 11 2026. No macro, syntax, notation, axiom, sorry.
-/
import Derived.Test.YtdkoomcgnaokgaaDoorChecked
import GoSem.PinnedTables
import GoSem.Claim
import GoSem.ClaimJoined
import GoSem.ClaimMapViews
import Derived.JoinedTies
import Derived.KernelRfl
namespace Go.Proofs.YtdkoomcgnaokgaaDoor
/- THE CELL 'sum', in the pinned program and in every row, IS THE sha256 OF THE DUMP (.gsa) THAT YtdkoomcgnaokgaaDoorProg.lean LOADS. Nothing in Lean hashes anything: it is a label: what it is worth is what the hold of that sum in a sandbox is worth. -/
noncomputable def Tryd.pinned : Pinned := { name := "ytdkoomcgnaokgaadoor", sum := "f027ab6a9524840046f7166487c5d106668804306cd76d719ddff7747bf941c2", checked := Tryd.checked }
namespace Rows
def none {H : Type} : Left H := { results := [], args := [] }

/- WHAT THE LISTED PACKAGE-LEVEL VARIABLES READ AS WHEN THE CALL BEGINS. Each datum BY PROGRAM (the guide's laid-datum.mjs) off the statement by which the dump's own 'gosem.cut.vars' lays the variable. In a bare row this is a premise. The card (YtdkoomcgnaokgaaDoorCards.lean) ties it to the program's text. -/
def laid_unicode_utf8_acceptRanges {H : Type} : DataW H := .agg [.agg [.lit (.int .u8 128), .lit (.int .u8 191)], .agg [.lit (.int .u8 160), .lit (.int .u8 191)], .agg [.lit (.int .u8 128), .lit (.int .u8 159)], .agg [.lit (.int .u8 144), .lit (.int .u8 191)], .agg [.lit (.int .u8 128), .lit (.int .u8 143)], .agg [.lit (.int .u8 0), .lit (.int .u8 0)], .agg [.lit (.int .u8 0), .lit (.int .u8 0)], .agg [.lit (.int .u8 0), .lit (.int .u8 0)], .agg [.lit (.int .u8 0), .lit (.int .u8 0)], .agg [.lit (.int .u8 0), .lit (.int .u8 0)], .agg [.lit (.int .u8 0), .lit (.int .u8 0)], .agg [.lit (.int .u8 0), .lit (.int .u8 0)], .agg [.lit (.int .u8 0), .lit (.int .u8 0)], .agg [.lit (.int .u8 0), .lit (.int .u8 0)], .agg [.lit (.int .u8 0), .lit (.int .u8 0)], .agg [.lit (.int .u8 0), .lit (.int .u8 0)]]
/-- One of Go's own tables, pinned by name: the form's constant. -/
def laid_unicode_utf8_first : DataW Unit := Go.Pinned.utf8First

/-- 'tranklaw03.SkinParts': WHATEVER THE INPUT: true; the input reads as it did. -/
def skinPartsSpec : ChangeSpec := { name := "skinParts", fn := fun _ => fun
  | [d1, d2] => { results := [.lit (.bool true)], args := [d1, d2] }
  | _ => none }
def skinPartsRow : OpenClaim := { program := "ytdkoomcgnaokgaadoor", sum := "f027ab6a9524840046f7166487c5d106668804306cd76d719ddff7747bf941c2", func := "trank/tranklaw03.SkinParts", spec := "skinParts", inPlace := ["internal/bytealg.IndexByteString", "internal/bytealg.IndexString"], unfollowed := true, recurses := true, named := ["unicode/utf8.first", "unicode/utf8.acceptRanges", "internal/bytealg.MaxLen"], plainKeys := false, apart := false, laid := [("unicode/utf8.acceptRanges", laid_unicode_utf8_acceptRanges), ("unicode/utf8.first", laid_unicode_utf8_first)] }
def SkinPartsSaid : Prop := skinPartsRow.holds Tryd.pinned (OpenSpec.ofChange skinPartsSpec)

/-- ITS FALSE NEIGHBOUR: 'it returns false'. Refute it at one input. -/
def skinPartsWrong : ChangeSpec := { name := "skinParts", fn := fun _ => fun
  | [d1, d2] => { results := [.lit (.bool false)], args := [d1, d2] }
  | _ => none }
def SkinPartsWrongFalsely : Prop := skinPartsRow.holds Tryd.pinned (OpenSpec.ofChange skinPartsWrong)

/-- 'tranklaw03.SkinNobody': WHATEVER THE INPUT: true; the input reads as it did. -/
def skinNobodySpec : ChangeSpec := { name := "skinNobody", fn := fun _ => fun
  | [d] => { results := [.lit (.bool true)], args := [d] }
  | _ => none }
def skinNobodyRow : OpenClaim := { program := "ytdkoomcgnaokgaadoor", sum := "f027ab6a9524840046f7166487c5d106668804306cd76d719ddff7747bf941c2", func := "trank/tranklaw03.SkinNobody", spec := "skinNobody", inPlace := ["internal/bytealg.IndexByteString", "internal/bytealg.IndexString"], unfollowed := true, recurses := true, named := ["unicode/utf8.first", "unicode/utf8.acceptRanges", "internal/bytealg.MaxLen"], plainKeys := false, apart := false, laid := [("unicode/utf8.acceptRanges", laid_unicode_utf8_acceptRanges), ("unicode/utf8.first", laid_unicode_utf8_first)] }
def SkinNobodySaid : Prop := skinNobodyRow.holds Tryd.pinned (OpenSpec.ofChange skinNobodySpec)

/-- ITS FALSE NEIGHBOUR: 'it returns false'. Refute it at one input. -/
def skinNobodyWrong : ChangeSpec := { name := "skinNobody", fn := fun _ => fun
  | [d] => { results := [.lit (.bool false)], args := [d] }
  | _ => none }
def SkinNobodyWrongFalsely : Prop := skinNobodyRow.holds Tryd.pinned (OpenSpec.ofChange skinNobodyWrong)

/-- 'tranklaw03.SkinCounts': WHATEVER THE INPUT: true; the input reads as it did. -/
def skinCountsSpec : ChangeSpec := { name := "skinCounts", fn := fun _ => fun
  | [d1, d2, d3] => { results := [.lit (.bool true)], args := [d1, d2, d3] }
  | _ => none }
def skinCountsRow : OpenClaim := { program := "ytdkoomcgnaokgaadoor", sum := "f027ab6a9524840046f7166487c5d106668804306cd76d719ddff7747bf941c2", func := "trank/tranklaw03.SkinCounts", spec := "skinCounts", inPlace := ["internal/bytealg.IndexByteString", "internal/bytealg.IndexString"], unfollowed := true, recurses := true, named := ["unicode/utf8.first", "unicode/utf8.acceptRanges", "internal/bytealg.MaxLen"], plainKeys := false, apart := false, laid := [("unicode/utf8.acceptRanges", laid_unicode_utf8_acceptRanges), ("unicode/utf8.first", laid_unicode_utf8_first)] }
def SkinCountsSaid : Prop := skinCountsRow.holds Tryd.pinned (OpenSpec.ofChange skinCountsSpec)

/-- ITS FALSE NEIGHBOUR: 'it returns false'. Refute it at one input. -/
def skinCountsWrong : ChangeSpec := { name := "skinCounts", fn := fun _ => fun
  | [d1, d2, d3] => { results := [.lit (.bool false)], args := [d1, d2, d3] }
  | _ => none }
def SkinCountsWrongFalsely : Prop := skinCountsRow.holds Tryd.pinned (OpenSpec.ofChange skinCountsWrong)

/-- 'tranklaw03.SkinGrades': WHATEVER THE INPUT: true; the input reads as it did. -/
def skinGradesSpec : ChangeSpec := { name := "skinGrades", fn := fun _ => fun
  | [d1, d2] => { results := [.lit (.bool true)], args := [d1, d2] }
  | _ => none }
def skinGradesRow : OpenClaim := { program := "ytdkoomcgnaokgaadoor", sum := "f027ab6a9524840046f7166487c5d106668804306cd76d719ddff7747bf941c2", func := "trank/tranklaw03.SkinGrades", spec := "skinGrades", inPlace := ["internal/bytealg.IndexByteString", "internal/bytealg.IndexString"], unfollowed := true, recurses := true, named := ["unicode/utf8.first", "unicode/utf8.acceptRanges", "internal/bytealg.MaxLen"], plainKeys := false, apart := false, laid := [("unicode/utf8.acceptRanges", laid_unicode_utf8_acceptRanges), ("unicode/utf8.first", laid_unicode_utf8_first)] }
def SkinGradesSaid : Prop := skinGradesRow.holds Tryd.pinned (OpenSpec.ofChange skinGradesSpec)

/-- ITS FALSE NEIGHBOUR: 'it returns false'. Refute it at one input. -/
def skinGradesWrong : ChangeSpec := { name := "skinGrades", fn := fun _ => fun
  | [d1, d2] => { results := [.lit (.bool false)], args := [d1, d2] }
  | _ => none }
def SkinGradesWrongFalsely : Prop := skinGradesRow.holds Tryd.pinned (OpenSpec.ofChange skinGradesWrong)

/-- 'tranklaw03.SkinTurns': WHATEVER THE INPUT: true; the input reads as it did. -/
def skinTurnsSpec : ChangeSpec := { name := "skinTurns", fn := fun _ => fun
  | [d1, d2] => { results := [.lit (.bool true)], args := [d1, d2] }
  | _ => none }
def skinTurnsRow : OpenClaim := { program := "ytdkoomcgnaokgaadoor", sum := "f027ab6a9524840046f7166487c5d106668804306cd76d719ddff7747bf941c2", func := "trank/tranklaw03.SkinTurns", spec := "skinTurns", inPlace := ["internal/bytealg.IndexByteString", "internal/bytealg.IndexString"], unfollowed := true, recurses := true, named := ["unicode/utf8.first", "unicode/utf8.acceptRanges", "internal/bytealg.MaxLen"], plainKeys := false, apart := false, laid := [("unicode/utf8.acceptRanges", laid_unicode_utf8_acceptRanges), ("unicode/utf8.first", laid_unicode_utf8_first)] }
def SkinTurnsSaid : Prop := skinTurnsRow.holds Tryd.pinned (OpenSpec.ofChange skinTurnsSpec)

/-- ITS FALSE NEIGHBOUR: 'it returns false'. Refute it at one input. -/
def skinTurnsWrong : ChangeSpec := { name := "skinTurns", fn := fun _ => fun
  | [d1, d2] => { results := [.lit (.bool false)], args := [d1, d2] }
  | _ => none }
def SkinTurnsWrongFalsely : Prop := skinTurnsRow.holds Tryd.pinned (OpenSpec.ofChange skinTurnsWrong)

/-- 'tranklaw03.SkinErodes': WHATEVER THE INPUT: true; the input reads as it did. -/
def skinErodesSpec : ChangeSpec := { name := "skinErodes", fn := fun _ => fun
  | [d1, d2] => { results := [.lit (.bool true)], args := [d1, d2] }
  | _ => none }
def skinErodesRow : OpenClaim := { program := "ytdkoomcgnaokgaadoor", sum := "f027ab6a9524840046f7166487c5d106668804306cd76d719ddff7747bf941c2", func := "trank/tranklaw03.SkinErodes", spec := "skinErodes", inPlace := ["internal/bytealg.IndexByteString", "internal/bytealg.IndexString"], unfollowed := true, recurses := true, named := ["unicode/utf8.first", "unicode/utf8.acceptRanges", "internal/bytealg.MaxLen"], plainKeys := false, apart := false, laid := [("unicode/utf8.acceptRanges", laid_unicode_utf8_acceptRanges), ("unicode/utf8.first", laid_unicode_utf8_first)] }
def SkinErodesSaid : Prop := skinErodesRow.holds Tryd.pinned (OpenSpec.ofChange skinErodesSpec)

/-- ITS FALSE NEIGHBOUR: 'it returns false'. Refute it at one input. -/
def skinErodesWrong : ChangeSpec := { name := "skinErodes", fn := fun _ => fun
  | [d1, d2] => { results := [.lit (.bool false)], args := [d1, d2] }
  | _ => none }
def SkinErodesWrongFalsely : Prop := skinErodesRow.holds Tryd.pinned (OpenSpec.ofChange skinErodesWrong)

/-- 'tranklaw03.SkinCrops': WHATEVER THE INPUT: true; the input reads as it did. -/
def skinCropsSpec : ChangeSpec := { name := "skinCrops", fn := fun _ => fun
  | [d1, d2] => { results := [.lit (.bool true)], args := [d1, d2] }
  | _ => none }
def skinCropsRow : OpenClaim := { program := "ytdkoomcgnaokgaadoor", sum := "f027ab6a9524840046f7166487c5d106668804306cd76d719ddff7747bf941c2", func := "trank/tranklaw03.SkinCrops", spec := "skinCrops", inPlace := ["internal/bytealg.IndexByteString", "internal/bytealg.IndexString"], unfollowed := true, recurses := true, named := ["unicode/utf8.first", "unicode/utf8.acceptRanges", "internal/bytealg.MaxLen"], plainKeys := false, apart := false, laid := [("unicode/utf8.acceptRanges", laid_unicode_utf8_acceptRanges), ("unicode/utf8.first", laid_unicode_utf8_first)] }
def SkinCropsSaid : Prop := skinCropsRow.holds Tryd.pinned (OpenSpec.ofChange skinCropsSpec)

/-- ITS FALSE NEIGHBOUR: 'it returns false'. Refute it at one input. -/
def skinCropsWrong : ChangeSpec := { name := "skinCrops", fn := fun _ => fun
  | [d1, d2] => { results := [.lit (.bool false)], args := [d1, d2] }
  | _ => none }
def SkinCropsWrongFalsely : Prop := skinCropsRow.holds Tryd.pinned (OpenSpec.ofChange skinCropsWrong)

/-- 'tranklaw03.SkinWhole': WHATEVER THE INPUT: true; the input reads as it did. -/
def skinWholeSpec : ChangeSpec := { name := "skinWhole", fn := fun _ => fun
  | [d1, d2] => { results := [.lit (.bool true)], args := [d1, d2] }
  | _ => none }
def skinWholeRow : OpenClaim := { program := "ytdkoomcgnaokgaadoor", sum := "f027ab6a9524840046f7166487c5d106668804306cd76d719ddff7747bf941c2", func := "trank/tranklaw03.SkinWhole", spec := "skinWhole", inPlace := ["internal/bytealg.IndexByteString", "internal/bytealg.IndexString"], unfollowed := true, recurses := true, named := ["unicode/utf8.first", "unicode/utf8.acceptRanges", "internal/bytealg.MaxLen"], plainKeys := false, apart := false, laid := [("unicode/utf8.acceptRanges", laid_unicode_utf8_acceptRanges), ("unicode/utf8.first", laid_unicode_utf8_first)] }
def SkinWholeSaid : Prop := skinWholeRow.holds Tryd.pinned (OpenSpec.ofChange skinWholeSpec)

/-- ITS FALSE NEIGHBOUR: 'it returns false'. Refute it at one input. -/
def skinWholeWrong : ChangeSpec := { name := "skinWhole", fn := fun _ => fun
  | [d1, d2] => { results := [.lit (.bool false)], args := [d1, d2] }
  | _ => none }
def SkinWholeWrongFalsely : Prop := skinWholeRow.holds Tryd.pinned (OpenSpec.ofChange skinWholeWrong)

/-- 'tranklaw03.SkinOpened': WHATEVER THE INPUT: true; the input reads as it did. -/
def skinOpenedSpec : ChangeSpec := { name := "skinOpened", fn := fun _ => fun
  | [d1, d2, d3] => { results := [.lit (.bool true)], args := [d1, d2, d3] }
  | _ => none }
def skinOpenedRow : OpenClaim := { program := "ytdkoomcgnaokgaadoor", sum := "f027ab6a9524840046f7166487c5d106668804306cd76d719ddff7747bf941c2", func := "trank/tranklaw03.SkinOpened", spec := "skinOpened", inPlace := ["internal/bytealg.IndexByteString", "internal/bytealg.IndexString"], unfollowed := true, recurses := true, named := ["unicode/utf8.first", "unicode/utf8.acceptRanges", "internal/bytealg.MaxLen"], plainKeys := false, apart := false, laid := [("unicode/utf8.acceptRanges", laid_unicode_utf8_acceptRanges), ("unicode/utf8.first", laid_unicode_utf8_first)] }
def SkinOpenedSaid : Prop := skinOpenedRow.holds Tryd.pinned (OpenSpec.ofChange skinOpenedSpec)

/-- ITS FALSE NEIGHBOUR: 'it returns false'. Refute it at one input. -/
def skinOpenedWrong : ChangeSpec := { name := "skinOpened", fn := fun _ => fun
  | [d1, d2, d3] => { results := [.lit (.bool false)], args := [d1, d2, d3] }
  | _ => none }
def SkinOpenedWrongFalsely : Prop := skinOpenedRow.holds Tryd.pinned (OpenSpec.ofChange skinOpenedWrong)

/- THE SECOND FORM. 'bulk': how many values and letters a reading holds, each counted each time it is reached (what is shared counts as often as it is met; a slice's spare places count too). A statement '..UptoSaid' is the law's where the arguments, and the package variables that the reading takes, are together of bulk at most 1048576: NARROWER than '..Said'. Prove '..Said' where nothing that the law and all that it calls make is longer than what came in: it says more and counts as full. Else prove '..UptoSaid'. A law counts once. -/
mutual
def uptoBulk {H : Type} : DataW H → Nat
  | .lit (.string bytes) => bytes.length + 1
  | .lit _ => 1
  | .nil => 1
  | .ptr d => uptoBulk d + 1
  | .slice elems spare => uptoBulkAll elems + uptoBulkAll spare + 1
  | .agg parts => uptoBulkAll parts + 1
  | .iface _ d => uptoBulk d + 1
  | .map entries => uptoBulkEntries entries + 1
  | .held _ => 1
def uptoBulkAll {H : Type} : List (DataW H) → Nat
  | [] => 0
  | d :: r => uptoBulk d + uptoBulkAll r
def uptoBulkEntries {H : Type} : List (Lit × DataW H) → Nat
  | [] => 0
  | x :: r => uptoBulkEntry x + uptoBulkEntries r
def uptoBulkEntry {H : Type} : Lit × DataW H → Nat
  | (.string bytes, d) => bytes.length + uptoBulk d + 1
  | (_, d) => uptoBulk d + 1
 end
def uptoSmall : (H : Type) → List (DataW H) → Bool := fun _ ds => decide (uptoBulkAll ds ≤ 1048576)
def OpenSpec.upto (s : _root_.Go.ChangeSpec) : _root_.Go.OpenSpec := { _root_.Go.OpenSpec.ofChange s with cond := some uptoSmall }

/-- 'tranklaw03.SkinParts', WHERE WHAT IT READS IS OF BULK AT MOST 1048576: true; the input reads as it did. -/
def skinPartsUptoRow : OpenClaim := { program := "ytdkoomcgnaokgaadoor", sum := "f027ab6a9524840046f7166487c5d106668804306cd76d719ddff7747bf941c2", func := "trank/tranklaw03.SkinParts", spec := "skinParts", inPlace := ["internal/bytealg.IndexByteString", "internal/bytealg.IndexString"], unfollowed := true, recurses := true, named := ["unicode/utf8.first", "unicode/utf8.acceptRanges", "internal/bytealg.MaxLen"], plainKeys := false, apart := false, laid := [("unicode/utf8.acceptRanges", laid_unicode_utf8_acceptRanges), ("unicode/utf8.first", laid_unicode_utf8_first)], narrowed := true }
def SkinPartsUptoSaid : Prop := skinPartsUptoRow.holds Tryd.pinned (OpenSpec.upto skinPartsSpec)

/-- 'tranklaw03.SkinNobody', WHERE WHAT IT READS IS OF BULK AT MOST 1048576: true; the input reads as it did. -/
def skinNobodyUptoRow : OpenClaim := { program := "ytdkoomcgnaokgaadoor", sum := "f027ab6a9524840046f7166487c5d106668804306cd76d719ddff7747bf941c2", func := "trank/tranklaw03.SkinNobody", spec := "skinNobody", inPlace := ["internal/bytealg.IndexByteString", "internal/bytealg.IndexString"], unfollowed := true, recurses := true, named := ["unicode/utf8.first", "unicode/utf8.acceptRanges", "internal/bytealg.MaxLen"], plainKeys := false, apart := false, laid := [("unicode/utf8.acceptRanges", laid_unicode_utf8_acceptRanges), ("unicode/utf8.first", laid_unicode_utf8_first)], narrowed := true }
def SkinNobodyUptoSaid : Prop := skinNobodyUptoRow.holds Tryd.pinned (OpenSpec.upto skinNobodySpec)

/-- 'tranklaw03.SkinCounts', WHERE WHAT IT READS IS OF BULK AT MOST 1048576: true; the input reads as it did. -/
def skinCountsUptoRow : OpenClaim := { program := "ytdkoomcgnaokgaadoor", sum := "f027ab6a9524840046f7166487c5d106668804306cd76d719ddff7747bf941c2", func := "trank/tranklaw03.SkinCounts", spec := "skinCounts", inPlace := ["internal/bytealg.IndexByteString", "internal/bytealg.IndexString"], unfollowed := true, recurses := true, named := ["unicode/utf8.first", "unicode/utf8.acceptRanges", "internal/bytealg.MaxLen"], plainKeys := false, apart := false, laid := [("unicode/utf8.acceptRanges", laid_unicode_utf8_acceptRanges), ("unicode/utf8.first", laid_unicode_utf8_first)], narrowed := true }
def SkinCountsUptoSaid : Prop := skinCountsUptoRow.holds Tryd.pinned (OpenSpec.upto skinCountsSpec)

/-- 'tranklaw03.SkinGrades', WHERE WHAT IT READS IS OF BULK AT MOST 1048576: true; the input reads as it did. -/
def skinGradesUptoRow : OpenClaim := { program := "ytdkoomcgnaokgaadoor", sum := "f027ab6a9524840046f7166487c5d106668804306cd76d719ddff7747bf941c2", func := "trank/tranklaw03.SkinGrades", spec := "skinGrades", inPlace := ["internal/bytealg.IndexByteString", "internal/bytealg.IndexString"], unfollowed := true, recurses := true, named := ["unicode/utf8.first", "unicode/utf8.acceptRanges", "internal/bytealg.MaxLen"], plainKeys := false, apart := false, laid := [("unicode/utf8.acceptRanges", laid_unicode_utf8_acceptRanges), ("unicode/utf8.first", laid_unicode_utf8_first)], narrowed := true }
def SkinGradesUptoSaid : Prop := skinGradesUptoRow.holds Tryd.pinned (OpenSpec.upto skinGradesSpec)

/-- 'tranklaw03.SkinTurns', WHERE WHAT IT READS IS OF BULK AT MOST 1048576: true; the input reads as it did. -/
def skinTurnsUptoRow : OpenClaim := { program := "ytdkoomcgnaokgaadoor", sum := "f027ab6a9524840046f7166487c5d106668804306cd76d719ddff7747bf941c2", func := "trank/tranklaw03.SkinTurns", spec := "skinTurns", inPlace := ["internal/bytealg.IndexByteString", "internal/bytealg.IndexString"], unfollowed := true, recurses := true, named := ["unicode/utf8.first", "unicode/utf8.acceptRanges", "internal/bytealg.MaxLen"], plainKeys := false, apart := false, laid := [("unicode/utf8.acceptRanges", laid_unicode_utf8_acceptRanges), ("unicode/utf8.first", laid_unicode_utf8_first)], narrowed := true }
def SkinTurnsUptoSaid : Prop := skinTurnsUptoRow.holds Tryd.pinned (OpenSpec.upto skinTurnsSpec)

/-- 'tranklaw03.SkinErodes', WHERE WHAT IT READS IS OF BULK AT MOST 1048576: true; the input reads as it did. -/
def skinErodesUptoRow : OpenClaim := { program := "ytdkoomcgnaokgaadoor", sum := "f027ab6a9524840046f7166487c5d106668804306cd76d719ddff7747bf941c2", func := "trank/tranklaw03.SkinErodes", spec := "skinErodes", inPlace := ["internal/bytealg.IndexByteString", "internal/bytealg.IndexString"], unfollowed := true, recurses := true, named := ["unicode/utf8.first", "unicode/utf8.acceptRanges", "internal/bytealg.MaxLen"], plainKeys := false, apart := false, laid := [("unicode/utf8.acceptRanges", laid_unicode_utf8_acceptRanges), ("unicode/utf8.first", laid_unicode_utf8_first)], narrowed := true }
def SkinErodesUptoSaid : Prop := skinErodesUptoRow.holds Tryd.pinned (OpenSpec.upto skinErodesSpec)

/-- 'tranklaw03.SkinCrops', WHERE WHAT IT READS IS OF BULK AT MOST 1048576: true; the input reads as it did. -/
def skinCropsUptoRow : OpenClaim := { program := "ytdkoomcgnaokgaadoor", sum := "f027ab6a9524840046f7166487c5d106668804306cd76d719ddff7747bf941c2", func := "trank/tranklaw03.SkinCrops", spec := "skinCrops", inPlace := ["internal/bytealg.IndexByteString", "internal/bytealg.IndexString"], unfollowed := true, recurses := true, named := ["unicode/utf8.first", "unicode/utf8.acceptRanges", "internal/bytealg.MaxLen"], plainKeys := false, apart := false, laid := [("unicode/utf8.acceptRanges", laid_unicode_utf8_acceptRanges), ("unicode/utf8.first", laid_unicode_utf8_first)], narrowed := true }
def SkinCropsUptoSaid : Prop := skinCropsUptoRow.holds Tryd.pinned (OpenSpec.upto skinCropsSpec)

/-- 'tranklaw03.SkinWhole', WHERE WHAT IT READS IS OF BULK AT MOST 1048576: true; the input reads as it did. -/
def skinWholeUptoRow : OpenClaim := { program := "ytdkoomcgnaokgaadoor", sum := "f027ab6a9524840046f7166487c5d106668804306cd76d719ddff7747bf941c2", func := "trank/tranklaw03.SkinWhole", spec := "skinWhole", inPlace := ["internal/bytealg.IndexByteString", "internal/bytealg.IndexString"], unfollowed := true, recurses := true, named := ["unicode/utf8.first", "unicode/utf8.acceptRanges", "internal/bytealg.MaxLen"], plainKeys := false, apart := false, laid := [("unicode/utf8.acceptRanges", laid_unicode_utf8_acceptRanges), ("unicode/utf8.first", laid_unicode_utf8_first)], narrowed := true }
def SkinWholeUptoSaid : Prop := skinWholeUptoRow.holds Tryd.pinned (OpenSpec.upto skinWholeSpec)

/-- 'tranklaw03.SkinOpened', WHERE WHAT IT READS IS OF BULK AT MOST 1048576: true; the input reads as it did. -/
def skinOpenedUptoRow : OpenClaim := { program := "ytdkoomcgnaokgaadoor", sum := "f027ab6a9524840046f7166487c5d106668804306cd76d719ddff7747bf941c2", func := "trank/tranklaw03.SkinOpened", spec := "skinOpened", inPlace := ["internal/bytealg.IndexByteString", "internal/bytealg.IndexString"], unfollowed := true, recurses := true, named := ["unicode/utf8.first", "unicode/utf8.acceptRanges", "internal/bytealg.MaxLen"], plainKeys := false, apart := false, laid := [("unicode/utf8.acceptRanges", laid_unicode_utf8_acceptRanges), ("unicode/utf8.first", laid_unicode_utf8_first)], narrowed := true }
def SkinOpenedUptoSaid : Prop := skinOpenedUptoRow.holds Tryd.pinned (OpenSpec.upto skinOpenedSpec)

end Rows
end Go.Proofs.YtdkoomcgnaokgaaDoor
