/-
  NARROWER THAN 'FOR EVERY INPUT', by the rows' own cells (each row's printed sentence says how): QuotedEncodeMatchesSpec: laid · QuotedLenientMatchesSpec: laid · QuotedRoundTrip: laid · QuotedUnique: laid · QuotedLines: laid · FoldMatchesSpec: laid · FoldRoundTrip: laid · FoldShortLines: laid · UnfoldMatchesSpec: laid.
  DERIVED. THE GIVEN ROWS OF THIS SEAT. 9 by the template 'for every input the law returns true; each argument reads behind the call as it read before'; 0 by the template 'total and deterministic' (their statements: YtolmifddbjdepaaDoorTotals.lean).
  GIVEN WITH THE SEED: the statements are not yours to turn. If you find one false, say at which input.
  Laid BY PROGRAM, IN A SANDBOX (cutbox-rows.mjs): the forced cells as the released guide's own fill.sh prints them over the translation 2eaa1ebf87d31aca… (all of the seat's roots in one cut). By AI agents, Wed Nov 11 2026. No macro, syntax, notation, axiom, sorry.
-/
import Derived.Test.YtolmifddbjdepaaDoorChecked
import GoSem.PinnedTables
import GoSem.Claim
import GoSem.ClaimJoined
import GoSem.ClaimMapViews
import Derived.JoinedTies
import Derived.KernelRfl
namespace Go.Proofs.YtolmifddbjdepaaDoor
/- THE CELL 'sum', in the pinned program and in every row, IS THE sha256 OF THE DUMP (.gsa) THAT YtolmifddbjdepaaDoorProg.lean LOADS. Nothing in Lean hashes anything: it is a label: what it is worth is what the hold of that sum in a sandbox is worth. -/
noncomputable def Tryd.pinned : Pinned := { name := "ytolmifddbjdepaadoor", sum := "2eaa1ebf87d31acaa4a3cc645b5a08e63ab09525e53b8aa94969af62e0479692", checked := Tryd.checked }
namespace Rows
def none {H : Type} : Left H := { results := [], args := [] }

/- WHAT THE LISTED PACKAGE-LEVEL VARIABLES READ AS WHEN THE CALL BEGINS. Each datum BY PROGRAM (the guide's laid-datum.mjs) off the statement by which the dump's own 'gosem.cut.vars' lays the variable. In a bare row this is a premise. The card (YtolmifddbjdepaaDoorCards.lean) ties it to the program's text. -/
def laid_unicode_utf8_acceptRanges {H : Type} : DataW H := .agg [.agg [.lit (.int .u8 128), .lit (.int .u8 191)], .agg [.lit (.int .u8 160), .lit (.int .u8 191)], .agg [.lit (.int .u8 128), .lit (.int .u8 159)], .agg [.lit (.int .u8 144), .lit (.int .u8 191)], .agg [.lit (.int .u8 128), .lit (.int .u8 143)], .agg [.lit (.int .u8 0), .lit (.int .u8 0)], .agg [.lit (.int .u8 0), .lit (.int .u8 0)], .agg [.lit (.int .u8 0), .lit (.int .u8 0)], .agg [.lit (.int .u8 0), .lit (.int .u8 0)], .agg [.lit (.int .u8 0), .lit (.int .u8 0)], .agg [.lit (.int .u8 0), .lit (.int .u8 0)], .agg [.lit (.int .u8 0), .lit (.int .u8 0)], .agg [.lit (.int .u8 0), .lit (.int .u8 0)], .agg [.lit (.int .u8 0), .lit (.int .u8 0)], .agg [.lit (.int .u8 0), .lit (.int .u8 0)], .agg [.lit (.int .u8 0), .lit (.int .u8 0)]]
/-- One of Go's own tables, pinned by name: the form's constant. -/
def laid_unicode_utf8_first : DataW Unit := Go.Pinned.utf8First

/-- 'posthouselaw1.QuotedEncodeMatchesSpec': WHATEVER THE INPUT: true; the input reads as it did. -/
def quotedEncodeMatchesSpecSpec : ChangeSpec := { name := "quotedEncodeMatchesSpec", fn := fun _ => fun
  | [d] => { results := [.lit (.bool true)], args := [d] }
  | _ => none }
def quotedEncodeMatchesSpecRow : OpenClaim := { program := "ytolmifddbjdepaadoor", sum := "2eaa1ebf87d31acaa4a3cc645b5a08e63ab09525e53b8aa94969af62e0479692", func := "posthouse/posthouselaw1.QuotedEncodeMatchesSpec", spec := "quotedEncodeMatchesSpec", inPlace := ["internal/bytealg.IndexByte"], named := ["unicode/utf8.first", "unicode/utf8.acceptRanges"], apart := false, laid := [("unicode/utf8.acceptRanges", laid_unicode_utf8_acceptRanges), ("unicode/utf8.first", laid_unicode_utf8_first)] }
def QuotedEncodeMatchesSpecSaid : Prop := quotedEncodeMatchesSpecRow.holds Tryd.pinned (OpenSpec.ofChange quotedEncodeMatchesSpecSpec)

/-- ITS FALSE NEIGHBOUR: 'it returns false'. Refute it at one input. -/
def quotedEncodeMatchesSpecWrong : ChangeSpec := { name := "quotedEncodeMatchesSpec", fn := fun _ => fun
  | [d] => { results := [.lit (.bool false)], args := [d] }
  | _ => none }
def QuotedEncodeMatchesSpecWrongFalsely : Prop := quotedEncodeMatchesSpecRow.holds Tryd.pinned (OpenSpec.ofChange quotedEncodeMatchesSpecWrong)

/-- 'posthouselaw1.QuotedLenientMatchesSpec': WHATEVER THE INPUT: true; the input reads as it did. -/
def quotedLenientMatchesSpecSpec : ChangeSpec := { name := "quotedLenientMatchesSpec", fn := fun _ => fun
  | [d] => { results := [.lit (.bool true)], args := [d] }
  | _ => none }
def quotedLenientMatchesSpecRow : OpenClaim := { program := "ytolmifddbjdepaadoor", sum := "2eaa1ebf87d31acaa4a3cc645b5a08e63ab09525e53b8aa94969af62e0479692", func := "posthouse/posthouselaw1.QuotedLenientMatchesSpec", spec := "quotedLenientMatchesSpec", inPlace := ["internal/bytealg.IndexByte"], named := ["unicode/utf8.first", "unicode/utf8.acceptRanges"], apart := false, laid := [("unicode/utf8.acceptRanges", laid_unicode_utf8_acceptRanges), ("unicode/utf8.first", laid_unicode_utf8_first)] }
def QuotedLenientMatchesSpecSaid : Prop := quotedLenientMatchesSpecRow.holds Tryd.pinned (OpenSpec.ofChange quotedLenientMatchesSpecSpec)

/-- ITS FALSE NEIGHBOUR: 'it returns false'. Refute it at one input. -/
def quotedLenientMatchesSpecWrong : ChangeSpec := { name := "quotedLenientMatchesSpec", fn := fun _ => fun
  | [d] => { results := [.lit (.bool false)], args := [d] }
  | _ => none }
def QuotedLenientMatchesSpecWrongFalsely : Prop := quotedLenientMatchesSpecRow.holds Tryd.pinned (OpenSpec.ofChange quotedLenientMatchesSpecWrong)

/-- 'posthouselaw1.QuotedRoundTrip': WHATEVER THE INPUT: true; the input reads as it did. -/
def quotedRoundTripSpec : ChangeSpec := { name := "quotedRoundTrip", fn := fun _ => fun
  | [d] => { results := [.lit (.bool true)], args := [d] }
  | _ => none }
def quotedRoundTripRow : OpenClaim := { program := "ytolmifddbjdepaadoor", sum := "2eaa1ebf87d31acaa4a3cc645b5a08e63ab09525e53b8aa94969af62e0479692", func := "posthouse/posthouselaw1.QuotedRoundTrip", spec := "quotedRoundTrip", inPlace := ["internal/bytealg.IndexByte"], named := ["unicode/utf8.first", "unicode/utf8.acceptRanges"], apart := false, laid := [("unicode/utf8.acceptRanges", laid_unicode_utf8_acceptRanges), ("unicode/utf8.first", laid_unicode_utf8_first)] }
def QuotedRoundTripSaid : Prop := quotedRoundTripRow.holds Tryd.pinned (OpenSpec.ofChange quotedRoundTripSpec)

/-- ITS FALSE NEIGHBOUR: 'it returns false'. Refute it at one input. -/
def quotedRoundTripWrong : ChangeSpec := { name := "quotedRoundTrip", fn := fun _ => fun
  | [d] => { results := [.lit (.bool false)], args := [d] }
  | _ => none }
def QuotedRoundTripWrongFalsely : Prop := quotedRoundTripRow.holds Tryd.pinned (OpenSpec.ofChange quotedRoundTripWrong)

/-- 'posthouselaw1.QuotedUnique': WHATEVER THE INPUT: true; the input reads as it did. -/
def quotedUniqueSpec : ChangeSpec := { name := "quotedUnique", fn := fun _ => fun
  | [d] => { results := [.lit (.bool true)], args := [d] }
  | _ => none }
def quotedUniqueRow : OpenClaim := { program := "ytolmifddbjdepaadoor", sum := "2eaa1ebf87d31acaa4a3cc645b5a08e63ab09525e53b8aa94969af62e0479692", func := "posthouse/posthouselaw1.QuotedUnique", spec := "quotedUnique", inPlace := ["internal/bytealg.IndexByte"], named := ["unicode/utf8.first", "unicode/utf8.acceptRanges"], apart := false, laid := [("unicode/utf8.acceptRanges", laid_unicode_utf8_acceptRanges), ("unicode/utf8.first", laid_unicode_utf8_first)] }
def QuotedUniqueSaid : Prop := quotedUniqueRow.holds Tryd.pinned (OpenSpec.ofChange quotedUniqueSpec)

/-- ITS FALSE NEIGHBOUR: 'it returns false'. Refute it at one input. -/
def quotedUniqueWrong : ChangeSpec := { name := "quotedUnique", fn := fun _ => fun
  | [d] => { results := [.lit (.bool false)], args := [d] }
  | _ => none }
def QuotedUniqueWrongFalsely : Prop := quotedUniqueRow.holds Tryd.pinned (OpenSpec.ofChange quotedUniqueWrong)

/-- 'posthouselaw1.QuotedLines': WHATEVER THE INPUT: true; the input reads as it did. -/
def quotedLinesSpec : ChangeSpec := { name := "quotedLines", fn := fun _ => fun
  | [d] => { results := [.lit (.bool true)], args := [d] }
  | _ => none }
def quotedLinesRow : OpenClaim := { program := "ytolmifddbjdepaadoor", sum := "2eaa1ebf87d31acaa4a3cc645b5a08e63ab09525e53b8aa94969af62e0479692", func := "posthouse/posthouselaw1.QuotedLines", spec := "quotedLines", inPlace := ["internal/bytealg.IndexByte"], named := ["unicode/utf8.first", "unicode/utf8.acceptRanges"], apart := false, laid := [("unicode/utf8.acceptRanges", laid_unicode_utf8_acceptRanges), ("unicode/utf8.first", laid_unicode_utf8_first)] }
def QuotedLinesSaid : Prop := quotedLinesRow.holds Tryd.pinned (OpenSpec.ofChange quotedLinesSpec)

/-- ITS FALSE NEIGHBOUR: 'it returns false'. Refute it at one input. -/
def quotedLinesWrong : ChangeSpec := { name := "quotedLines", fn := fun _ => fun
  | [d] => { results := [.lit (.bool false)], args := [d] }
  | _ => none }
def QuotedLinesWrongFalsely : Prop := quotedLinesRow.holds Tryd.pinned (OpenSpec.ofChange quotedLinesWrong)

/-- 'posthouselaw1.FoldMatchesSpec': WHATEVER THE INPUT: true; the input reads as it did. -/
def foldMatchesSpecSpec : ChangeSpec := { name := "foldMatchesSpec", fn := fun _ => fun
  | [d1, d2] => { results := [.lit (.bool true)], args := [d1, d2] }
  | _ => none }
def foldMatchesSpecRow : OpenClaim := { program := "ytolmifddbjdepaadoor", sum := "2eaa1ebf87d31acaa4a3cc645b5a08e63ab09525e53b8aa94969af62e0479692", func := "posthouse/posthouselaw1.FoldMatchesSpec", spec := "foldMatchesSpec", inPlace := ["internal/bytealg.IndexByteString", "internal/bytealg.IndexString", "internal/abi.NoEscape", "internal/bytealg.MakeNoZero"], unfollowed := true, recurses := true, named := ["internal/bytealg.MaxLen", "unicode/utf8.first", "unicode/utf8.acceptRanges"], apart := false, laid := [("unicode/utf8.acceptRanges", laid_unicode_utf8_acceptRanges), ("unicode/utf8.first", laid_unicode_utf8_first)] }
def FoldMatchesSpecSaid : Prop := foldMatchesSpecRow.holds Tryd.pinned (OpenSpec.ofChange foldMatchesSpecSpec)

/-- ITS FALSE NEIGHBOUR: 'it returns false'. Refute it at one input. -/
def foldMatchesSpecWrong : ChangeSpec := { name := "foldMatchesSpec", fn := fun _ => fun
  | [d1, d2] => { results := [.lit (.bool false)], args := [d1, d2] }
  | _ => none }
def FoldMatchesSpecWrongFalsely : Prop := foldMatchesSpecRow.holds Tryd.pinned (OpenSpec.ofChange foldMatchesSpecWrong)

/-- 'posthouselaw1.FoldRoundTrip': WHATEVER THE INPUT: true; the input reads as it did. -/
def foldRoundTripSpec : ChangeSpec := { name := "foldRoundTrip", fn := fun _ => fun
  | [d1, d2] => { results := [.lit (.bool true)], args := [d1, d2] }
  | _ => none }
def foldRoundTripRow : OpenClaim := { program := "ytolmifddbjdepaadoor", sum := "2eaa1ebf87d31acaa4a3cc645b5a08e63ab09525e53b8aa94969af62e0479692", func := "posthouse/posthouselaw1.FoldRoundTrip", spec := "foldRoundTrip", inPlace := ["internal/bytealg.IndexByteString", "internal/bytealg.IndexString", "internal/abi.NoEscape", "internal/bytealg.MakeNoZero"], unfollowed := true, recurses := true, named := ["internal/bytealg.MaxLen", "unicode/utf8.first", "unicode/utf8.acceptRanges"], apart := false, laid := [("unicode/utf8.acceptRanges", laid_unicode_utf8_acceptRanges), ("unicode/utf8.first", laid_unicode_utf8_first)] }
def FoldRoundTripSaid : Prop := foldRoundTripRow.holds Tryd.pinned (OpenSpec.ofChange foldRoundTripSpec)

/-- ITS FALSE NEIGHBOUR: 'it returns false'. Refute it at one input. -/
def foldRoundTripWrong : ChangeSpec := { name := "foldRoundTrip", fn := fun _ => fun
  | [d1, d2] => { results := [.lit (.bool false)], args := [d1, d2] }
  | _ => none }
def FoldRoundTripWrongFalsely : Prop := foldRoundTripRow.holds Tryd.pinned (OpenSpec.ofChange foldRoundTripWrong)

/-- 'posthouselaw1.FoldShortLines': WHATEVER THE INPUT: true; the input reads as it did. -/
def foldShortLinesSpec : ChangeSpec := { name := "foldShortLines", fn := fun _ => fun
  | [d1, d2] => { results := [.lit (.bool true)], args := [d1, d2] }
  | _ => none }
def foldShortLinesRow : OpenClaim := { program := "ytolmifddbjdepaadoor", sum := "2eaa1ebf87d31acaa4a3cc645b5a08e63ab09525e53b8aa94969af62e0479692", func := "posthouse/posthouselaw1.FoldShortLines", spec := "foldShortLines", inPlace := ["internal/bytealg.IndexByteString", "internal/bytealg.IndexString", "internal/abi.NoEscape", "internal/bytealg.MakeNoZero"], unfollowed := true, recurses := true, named := ["internal/bytealg.MaxLen", "unicode/utf8.first", "unicode/utf8.acceptRanges"], apart := false, laid := [("unicode/utf8.acceptRanges", laid_unicode_utf8_acceptRanges), ("unicode/utf8.first", laid_unicode_utf8_first)] }
def FoldShortLinesSaid : Prop := foldShortLinesRow.holds Tryd.pinned (OpenSpec.ofChange foldShortLinesSpec)

/-- ITS FALSE NEIGHBOUR: 'it returns false'. Refute it at one input. -/
def foldShortLinesWrong : ChangeSpec := { name := "foldShortLines", fn := fun _ => fun
  | [d1, d2] => { results := [.lit (.bool false)], args := [d1, d2] }
  | _ => none }
def FoldShortLinesWrongFalsely : Prop := foldShortLinesRow.holds Tryd.pinned (OpenSpec.ofChange foldShortLinesWrong)

/-- 'posthouselaw1.UnfoldMatchesSpec': WHATEVER THE INPUT: true; the input reads as it did. -/
def unfoldMatchesSpecSpec : ChangeSpec := { name := "unfoldMatchesSpec", fn := fun _ => fun
  | [d] => { results := [.lit (.bool true)], args := [d] }
  | _ => none }
def unfoldMatchesSpecRow : OpenClaim := { program := "ytolmifddbjdepaadoor", sum := "2eaa1ebf87d31acaa4a3cc645b5a08e63ab09525e53b8aa94969af62e0479692", func := "posthouse/posthouselaw1.UnfoldMatchesSpec", spec := "unfoldMatchesSpec", inPlace := ["internal/bytealg.IndexByteString", "internal/bytealg.IndexString", "internal/abi.NoEscape", "internal/bytealg.MakeNoZero"], unfollowed := true, recurses := true, named := ["internal/bytealg.MaxLen", "unicode/utf8.first", "unicode/utf8.acceptRanges"], apart := false, laid := [("unicode/utf8.acceptRanges", laid_unicode_utf8_acceptRanges), ("unicode/utf8.first", laid_unicode_utf8_first)] }
def UnfoldMatchesSpecSaid : Prop := unfoldMatchesSpecRow.holds Tryd.pinned (OpenSpec.ofChange unfoldMatchesSpecSpec)

/-- ITS FALSE NEIGHBOUR: 'it returns false'. Refute it at one input. -/
def unfoldMatchesSpecWrong : ChangeSpec := { name := "unfoldMatchesSpec", fn := fun _ => fun
  | [d] => { results := [.lit (.bool false)], args := [d] }
  | _ => none }
def UnfoldMatchesSpecWrongFalsely : Prop := unfoldMatchesSpecRow.holds Tryd.pinned (OpenSpec.ofChange unfoldMatchesSpecWrong)

/- THE SECOND FORM. 'bulk': how many values and letters a reading holds, each counted each time it is reached (what is shared counts as often as it is met; a slice's spare places count too). A statement '..UptoSaid' is the law's where the arguments, and the package variables that the reading takes, are together of bulk at most 1048576: NARROWER than '..Said'. Prove '..Said' where nothing that the law and all that it calls make is longer than what came in: it says more and counts as full. Else prove '..UptoSaid'. A law counts once. -/
mutual
def uptoBulk {H : Type} : DataW H → Nat
  | .lit (.string bytes) => bytes.length + 1
  | .lit _ => 1
  | .nil => 1
  | .ptr d => uptoBulk d + 1
  | .slice elems spare => uptoBulkAll elems + uptoBulkAll spare + 1
  | .agg parts => uptoBulkAll parts + 1
  | .iface _ d => uptoBulk d + 1
  | .map entries => uptoBulkEntries entries + 1
  | .held _ => 1
def uptoBulkAll {H : Type} : List (DataW H) → Nat
  | [] => 0
  | d :: r => uptoBulk d + uptoBulkAll r
def uptoBulkEntries {H : Type} : List (Lit × DataW H) → Nat
  | [] => 0
  | x :: r => uptoBulkEntry x + uptoBulkEntries r
def uptoBulkEntry {H : Type} : Lit × DataW H → Nat
  | (.string bytes, d) => bytes.length + uptoBulk d + 1
  | (_, d) => uptoBulk d + 1
 end
def uptoSmall : (H : Type) → List (DataW H) → Bool := fun _ ds => decide (uptoBulkAll ds ≤ 1048576)
def OpenSpec.upto (s : _root_.Go.ChangeSpec) : _root_.Go.OpenSpec := { _root_.Go.OpenSpec.ofChange s with cond := some uptoSmall }

/-- 'posthouselaw1.QuotedEncodeMatchesSpec', WHERE WHAT IT READS IS OF BULK AT MOST 1048576: true; the input reads as it did. -/
def quotedEncodeMatchesSpecUptoRow : OpenClaim := { program := "ytolmifddbjdepaadoor", sum := "2eaa1ebf87d31acaa4a3cc645b5a08e63ab09525e53b8aa94969af62e0479692", func := "posthouse/posthouselaw1.QuotedEncodeMatchesSpec", spec := "quotedEncodeMatchesSpec", inPlace := ["internal/bytealg.IndexByte"], named := ["unicode/utf8.first", "unicode/utf8.acceptRanges"], apart := false, laid := [("unicode/utf8.acceptRanges", laid_unicode_utf8_acceptRanges), ("unicode/utf8.first", laid_unicode_utf8_first)], narrowed := true }
def QuotedEncodeMatchesSpecUptoSaid : Prop := quotedEncodeMatchesSpecUptoRow.holds Tryd.pinned (OpenSpec.upto quotedEncodeMatchesSpecSpec)

/-- 'posthouselaw1.QuotedLenientMatchesSpec', WHERE WHAT IT READS IS OF BULK AT MOST 1048576: true; the input reads as it did. -/
def quotedLenientMatchesSpecUptoRow : OpenClaim := { program := "ytolmifddbjdepaadoor", sum := "2eaa1ebf87d31acaa4a3cc645b5a08e63ab09525e53b8aa94969af62e0479692", func := "posthouse/posthouselaw1.QuotedLenientMatchesSpec", spec := "quotedLenientMatchesSpec", inPlace := ["internal/bytealg.IndexByte"], named := ["unicode/utf8.first", "unicode/utf8.acceptRanges"], apart := false, laid := [("unicode/utf8.acceptRanges", laid_unicode_utf8_acceptRanges), ("unicode/utf8.first", laid_unicode_utf8_first)], narrowed := true }
def QuotedLenientMatchesSpecUptoSaid : Prop := quotedLenientMatchesSpecUptoRow.holds Tryd.pinned (OpenSpec.upto quotedLenientMatchesSpecSpec)

/-- 'posthouselaw1.QuotedRoundTrip', WHERE WHAT IT READS IS OF BULK AT MOST 1048576: true; the input reads as it did. -/
def quotedRoundTripUptoRow : OpenClaim := { program := "ytolmifddbjdepaadoor", sum := "2eaa1ebf87d31acaa4a3cc645b5a08e63ab09525e53b8aa94969af62e0479692", func := "posthouse/posthouselaw1.QuotedRoundTrip", spec := "quotedRoundTrip", inPlace := ["internal/bytealg.IndexByte"], named := ["unicode/utf8.first", "unicode/utf8.acceptRanges"], apart := false, laid := [("unicode/utf8.acceptRanges", laid_unicode_utf8_acceptRanges), ("unicode/utf8.first", laid_unicode_utf8_first)], narrowed := true }
def QuotedRoundTripUptoSaid : Prop := quotedRoundTripUptoRow.holds Tryd.pinned (OpenSpec.upto quotedRoundTripSpec)

/-- 'posthouselaw1.QuotedUnique', WHERE WHAT IT READS IS OF BULK AT MOST 1048576: true; the input reads as it did. -/
def quotedUniqueUptoRow : OpenClaim := { program := "ytolmifddbjdepaadoor", sum := "2eaa1ebf87d31acaa4a3cc645b5a08e63ab09525e53b8aa94969af62e0479692", func := "posthouse/posthouselaw1.QuotedUnique", spec := "quotedUnique", inPlace := ["internal/bytealg.IndexByte"], named := ["unicode/utf8.first", "unicode/utf8.acceptRanges"], apart := false, laid := [("unicode/utf8.acceptRanges", laid_unicode_utf8_acceptRanges), ("unicode/utf8.first", laid_unicode_utf8_first)], narrowed := true }
def QuotedUniqueUptoSaid : Prop := quotedUniqueUptoRow.holds Tryd.pinned (OpenSpec.upto quotedUniqueSpec)

/-- 'posthouselaw1.QuotedLines', WHERE WHAT IT READS IS OF BULK AT MOST 1048576: true; the input reads as it did. -/
def quotedLinesUptoRow : OpenClaim := { program := "ytolmifddbjdepaadoor", sum := "2eaa1ebf87d31acaa4a3cc645b5a08e63ab09525e53b8aa94969af62e0479692", func := "posthouse/posthouselaw1.QuotedLines", spec := "quotedLines", inPlace := ["internal/bytealg.IndexByte"], named := ["unicode/utf8.first", "unicode/utf8.acceptRanges"], apart := false, laid := [("unicode/utf8.acceptRanges", laid_unicode_utf8_acceptRanges), ("unicode/utf8.first", laid_unicode_utf8_first)], narrowed := true }
def QuotedLinesUptoSaid : Prop := quotedLinesUptoRow.holds Tryd.pinned (OpenSpec.upto quotedLinesSpec)

/-- 'posthouselaw1.FoldMatchesSpec', WHERE WHAT IT READS IS OF BULK AT MOST 1048576: true; the input reads as it did. -/
def foldMatchesSpecUptoRow : OpenClaim := { program := "ytolmifddbjdepaadoor", sum := "2eaa1ebf87d31acaa4a3cc645b5a08e63ab09525e53b8aa94969af62e0479692", func := "posthouse/posthouselaw1.FoldMatchesSpec", spec := "foldMatchesSpec", inPlace := ["internal/bytealg.IndexByteString", "internal/bytealg.IndexString", "internal/abi.NoEscape", "internal/bytealg.MakeNoZero"], unfollowed := true, recurses := true, named := ["internal/bytealg.MaxLen", "unicode/utf8.first", "unicode/utf8.acceptRanges"], apart := false, laid := [("unicode/utf8.acceptRanges", laid_unicode_utf8_acceptRanges), ("unicode/utf8.first", laid_unicode_utf8_first)], narrowed := true }
def FoldMatchesSpecUptoSaid : Prop := foldMatchesSpecUptoRow.holds Tryd.pinned (OpenSpec.upto foldMatchesSpecSpec)

/-- 'posthouselaw1.FoldRoundTrip', WHERE WHAT IT READS IS OF BULK AT MOST 1048576: true; the input reads as it did. -/
def foldRoundTripUptoRow : OpenClaim := { program := "ytolmifddbjdepaadoor", sum := "2eaa1ebf87d31acaa4a3cc645b5a08e63ab09525e53b8aa94969af62e0479692", func := "posthouse/posthouselaw1.FoldRoundTrip", spec := "foldRoundTrip", inPlace := ["internal/bytealg.IndexByteString", "internal/bytealg.IndexString", "internal/abi.NoEscape", "internal/bytealg.MakeNoZero"], unfollowed := true, recurses := true, named := ["internal/bytealg.MaxLen", "unicode/utf8.first", "unicode/utf8.acceptRanges"], apart := false, laid := [("unicode/utf8.acceptRanges", laid_unicode_utf8_acceptRanges), ("unicode/utf8.first", laid_unicode_utf8_first)], narrowed := true }
def FoldRoundTripUptoSaid : Prop := foldRoundTripUptoRow.holds Tryd.pinned (OpenSpec.upto foldRoundTripSpec)

/-- 'posthouselaw1.FoldShortLines', WHERE WHAT IT READS IS OF BULK AT MOST 1048576: true; the input reads as it did. -/
def foldShortLinesUptoRow : OpenClaim := { program := "ytolmifddbjdepaadoor", sum := "2eaa1ebf87d31acaa4a3cc645b5a08e63ab09525e53b8aa94969af62e0479692", func := "posthouse/posthouselaw1.FoldShortLines", spec := "foldShortLines", inPlace := ["internal/bytealg.IndexByteString", "internal/bytealg.IndexString", "internal/abi.NoEscape", "internal/bytealg.MakeNoZero"], unfollowed := true, recurses := true, named := ["internal/bytealg.MaxLen", "unicode/utf8.first", "unicode/utf8.acceptRanges"], apart := false, laid := [("unicode/utf8.acceptRanges", laid_unicode_utf8_acceptRanges), ("unicode/utf8.first", laid_unicode_utf8_first)], narrowed := true }
def FoldShortLinesUptoSaid : Prop := foldShortLinesUptoRow.holds Tryd.pinned (OpenSpec.upto foldShortLinesSpec)

/-- 'posthouselaw1.UnfoldMatchesSpec', WHERE WHAT IT READS IS OF BULK AT MOST 1048576: true; the input reads as it did. -/
def unfoldMatchesSpecUptoRow : OpenClaim := { program := "ytolmifddbjdepaadoor", sum := "2eaa1ebf87d31acaa4a3cc645b5a08e63ab09525e53b8aa94969af62e0479692", func := "posthouse/posthouselaw1.UnfoldMatchesSpec", spec := "unfoldMatchesSpec", inPlace := ["internal/bytealg.IndexByteString", "internal/bytealg.IndexString", "internal/abi.NoEscape", "internal/bytealg.MakeNoZero"], unfollowed := true, recurses := true, named := ["internal/bytealg.MaxLen", "unicode/utf8.first", "unicode/utf8.acceptRanges"], apart := false, laid := [("unicode/utf8.acceptRanges", laid_unicode_utf8_acceptRanges), ("unicode/utf8.first", laid_unicode_utf8_first)], narrowed := true }
def UnfoldMatchesSpecUptoSaid : Prop := unfoldMatchesSpecUptoRow.holds Tryd.pinned (OpenSpec.upto unfoldMatchesSpecSpec)

end Rows
end Go.Proofs.YtolmifddbjdepaaDoor
