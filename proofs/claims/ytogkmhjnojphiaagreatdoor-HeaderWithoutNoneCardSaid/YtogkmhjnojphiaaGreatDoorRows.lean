/-
  NARROWER THAN 'FOR EVERY INPUT', by the rows' own cells (each row's printed sentence says how): WordsEncodeMatchesSpec: laid · WordsDecodeMatchesSpec: laid · HeaderReadMatchesSpec: laid · HeaderWriteMatchesSpec: laid · HeaderRoundTrip: laid · HeaderGetMatchesSpec: laid · HeaderReadsValid: laid · HeaderWithoutNone: laid · WordsSurviveFolding: laid.
  DERIVED. THE GIVEN ROWS OF THIS SEAT. 9 by the template 'for every input the law returns true; each argument reads behind the call as it read before'; 0 by the template 'total and deterministic' (their statements: YtogkmhjnojphiaaGreatDoorTotals.lean).
  GIVEN WITH THE SEED: the statements are not yours to turn. If you find one false, say at which input.
  Laid BY PROGRAM, IN A SANDBOX (cutbox-rows.mjs): the forced cells as the released guide's own fill.sh prints them over the translation 6117b0ac6ec22fe8… (all of the seat's roots in one cut). By AI agents, Wed Nov 11 2026. No macro, syntax, notation, axiom, sorry.
-/
import Derived.Test.YtogkmhjnojphiaaGreatDoorChecked
import GoSem.PinnedTables
import GoSem.Claim
import GoSem.ClaimJoined
import GoSem.ClaimMapViews
import Derived.JoinedTies
import Derived.KernelRfl
namespace Go.Proofs.YtogkmhjnojphiaaGreatDoor
/- THE CELL 'sum', in the pinned program and in every row, IS THE sha256 OF THE DUMP (.gsa) THAT YtogkmhjnojphiaaGreatDoorProg.lean LOADS. Nothing in Lean hashes anything: it is a label: what it is worth is what the hold of that sum in a sandbox is worth. -/
noncomputable def Tryz.pinned : Pinned := { name := "ytogkmhjnojphiaagreatdoor", sum := "6117b0ac6ec22fe8d4bdfcdd88b7ab113007056f6cca7c40d27c9eebe05cd941", checked := Tryz.checked }
namespace Rows
def none {H : Type} : Left H := { results := [], args := [] }

/- WHAT THE LISTED PACKAGE-LEVEL VARIABLES READ AS WHEN THE CALL BEGINS. Each datum BY PROGRAM (the guide's laid-datum.mjs) off the statement by which the dump's own 'gosem.cut.vars' lays the variable. In a bare row this is a premise. The card (YtogkmhjnojphiaaGreatDoorCards.lean) ties it to the program's text. -/
def laid_unicode_utf8_acceptRanges {H : Type} : DataW H := .agg [.agg [.lit (.int .u8 128), .lit (.int .u8 191)], .agg [.lit (.int .u8 160), .lit (.int .u8 191)], .agg [.lit (.int .u8 128), .lit (.int .u8 159)], .agg [.lit (.int .u8 144), .lit (.int .u8 191)], .agg [.lit (.int .u8 128), .lit (.int .u8 143)], .agg [.lit (.int .u8 0), .lit (.int .u8 0)], .agg [.lit (.int .u8 0), .lit (.int .u8 0)], .agg [.lit (.int .u8 0), .lit (.int .u8 0)], .agg [.lit (.int .u8 0), .lit (.int .u8 0)], .agg [.lit (.int .u8 0), .lit (.int .u8 0)], .agg [.lit (.int .u8 0), .lit (.int .u8 0)], .agg [.lit (.int .u8 0), .lit (.int .u8 0)], .agg [.lit (.int .u8 0), .lit (.int .u8 0)], .agg [.lit (.int .u8 0), .lit (.int .u8 0)], .agg [.lit (.int .u8 0), .lit (.int .u8 0)], .agg [.lit (.int .u8 0), .lit (.int .u8 0)]]
/-- One of Go's own tables, pinned by name: the form's constant. -/
def laid_unicode_utf8_first : DataW Unit := Go.Pinned.utf8First

/-- 'posthouselaw1.WordsEncodeMatchesSpec': WHATEVER THE INPUT: true; the input reads as it did. -/
def wordsEncodeMatchesSpecSpec : ChangeSpec := { name := "wordsEncodeMatchesSpec", fn := fun _ => fun
  | [d] => { results := [.lit (.bool true)], args := [d] }
  | _ => none }
def wordsEncodeMatchesSpecRow : OpenClaim := { program := "ytogkmhjnojphiaagreatdoor", sum := "6117b0ac6ec22fe8d4bdfcdd88b7ab113007056f6cca7c40d27c9eebe05cd941", func := "posthouse/posthouselaw1.WordsEncodeMatchesSpec", spec := "wordsEncodeMatchesSpec", inPlace := ["internal/bytealg.IndexByteString", "internal/bytealg.IndexString", "internal/bytealg.CountString", "internal/abi.NoEscape", "internal/bytealg.MakeNoZero", "internal/bytealg.IndexByte"], unfollowed := true, recurses := true, named := ["unicode/utf8.first", "unicode/utf8.acceptRanges", "internal/bytealg.MaxLen"], apart := false, laid := [("unicode/utf8.acceptRanges", laid_unicode_utf8_acceptRanges), ("unicode/utf8.first", laid_unicode_utf8_first)] }
def WordsEncodeMatchesSpecSaid : Prop := wordsEncodeMatchesSpecRow.holds Tryz.pinned (OpenSpec.ofChange wordsEncodeMatchesSpecSpec)

/-- ITS FALSE NEIGHBOUR: 'it returns false'. Refute it at one input. -/
def wordsEncodeMatchesSpecWrong : ChangeSpec := { name := "wordsEncodeMatchesSpec", fn := fun _ => fun
  | [d] => { results := [.lit (.bool false)], args := [d] }
  | _ => none }
def WordsEncodeMatchesSpecWrongFalsely : Prop := wordsEncodeMatchesSpecRow.holds Tryz.pinned (OpenSpec.ofChange wordsEncodeMatchesSpecWrong)

/-- 'posthouselaw1.WordsDecodeMatchesSpec': WHATEVER THE INPUT: true; the input reads as it did. -/
def wordsDecodeMatchesSpecSpec : ChangeSpec := { name := "wordsDecodeMatchesSpec", fn := fun _ => fun
  | [d] => { results := [.lit (.bool true)], args := [d] }
  | _ => none }
def wordsDecodeMatchesSpecRow : OpenClaim := { program := "ytogkmhjnojphiaagreatdoor", sum := "6117b0ac6ec22fe8d4bdfcdd88b7ab113007056f6cca7c40d27c9eebe05cd941", func := "posthouse/posthouselaw1.WordsDecodeMatchesSpec", spec := "wordsDecodeMatchesSpec", inPlace := ["internal/bytealg.IndexByteString", "internal/bytealg.IndexString", "internal/bytealg.CountString", "internal/abi.NoEscape", "internal/bytealg.MakeNoZero", "internal/bytealg.IndexByte"], unfollowed := true, recurses := true, named := ["unicode/utf8.first", "unicode/utf8.acceptRanges", "internal/bytealg.MaxLen"], apart := false, laid := [("unicode/utf8.acceptRanges", laid_unicode_utf8_acceptRanges), ("unicode/utf8.first", laid_unicode_utf8_first)] }
def WordsDecodeMatchesSpecSaid : Prop := wordsDecodeMatchesSpecRow.holds Tryz.pinned (OpenSpec.ofChange wordsDecodeMatchesSpecSpec)

/-- ITS FALSE NEIGHBOUR: 'it returns false'. Refute it at one input. -/
def wordsDecodeMatchesSpecWrong : ChangeSpec := { name := "wordsDecodeMatchesSpec", fn := fun _ => fun
  | [d] => { results := [.lit (.bool false)], args := [d] }
  | _ => none }
def WordsDecodeMatchesSpecWrongFalsely : Prop := wordsDecodeMatchesSpecRow.holds Tryz.pinned (OpenSpec.ofChange wordsDecodeMatchesSpecWrong)

/-- 'posthouselaw1.HeaderReadMatchesSpec': WHATEVER THE INPUT: true; the input reads as it did. -/
def headerReadMatchesSpecSpec : ChangeSpec := { name := "headerReadMatchesSpec", fn := fun _ => fun
  | [d] => { results := [.lit (.bool true)], args := [d] }
  | _ => none }
def headerReadMatchesSpecRow : OpenClaim := { program := "ytogkmhjnojphiaagreatdoor", sum := "6117b0ac6ec22fe8d4bdfcdd88b7ab113007056f6cca7c40d27c9eebe05cd941", func := "posthouse/posthouselaw1.HeaderReadMatchesSpec", spec := "headerReadMatchesSpec", inPlace := ["internal/bytealg.IndexByte", "internal/bytealg.IndexByteString", "internal/bytealg.IndexString", "sync/atomic.LoadUint32", "(*internal/sync.Mutex).Lock", "internal/race.Disable", "sync/atomic.CompareAndSwapInt32", "internal/race.Enable", "internal/race.Acquire", "(*internal/sync.Mutex).lockSlow", "internal/sync.runtime_canSpin", "internal/sync.runtime_doSpin", "internal/sync.throw", "internal/sync.runtime_nanotime", "internal/sync.runtime_SemacquireMutex", "sync/atomic.AddInt32", "(*internal/sync.Mutex).Unlock", "internal/race.ReleaseMerge", "(*internal/sync.Mutex).unlockSlow", "internal/sync.fatal", "internal/sync.runtime_Semrelease", "sync/atomic.StoreUint32"], unfollowed := true, recurses := true, named := ["internal/bytealg.MaxLen", "unicode/utf8.first", "unicode/utf8.acceptRanges"], apart := false, laid := [("unicode/utf8.acceptRanges", laid_unicode_utf8_acceptRanges), ("unicode/utf8.first", laid_unicode_utf8_first)] }
def HeaderReadMatchesSpecSaid : Prop := headerReadMatchesSpecRow.holds Tryz.pinned (OpenSpec.ofChange headerReadMatchesSpecSpec)

/-- ITS FALSE NEIGHBOUR: 'it returns false'. Refute it at one input. -/
def headerReadMatchesSpecWrong : ChangeSpec := { name := "headerReadMatchesSpec", fn := fun _ => fun
  | [d] => { results := [.lit (.bool false)], args := [d] }
  | _ => none }
def HeaderReadMatchesSpecWrongFalsely : Prop := headerReadMatchesSpecRow.holds Tryz.pinned (OpenSpec.ofChange headerReadMatchesSpecWrong)

/-- 'posthouselaw1.HeaderWriteMatchesSpec': WHATEVER THE INPUT: true; the input reads as it did. -/
def headerWriteMatchesSpecSpec : ChangeSpec := { name := "headerWriteMatchesSpec", fn := fun _ => fun
  | [d] => { results := [.lit (.bool true)], args := [d] }
  | _ => none }
def headerWriteMatchesSpecRow : OpenClaim := { program := "ytogkmhjnojphiaagreatdoor", sum := "6117b0ac6ec22fe8d4bdfcdd88b7ab113007056f6cca7c40d27c9eebe05cd941", func := "posthouse/posthouselaw1.HeaderWriteMatchesSpec", spec := "headerWriteMatchesSpec", inPlace := ["internal/bytealg.IndexByte", "internal/bytealg.IndexByteString", "internal/bytealg.IndexString", "sync/atomic.LoadUint32", "(*internal/sync.Mutex).Lock", "internal/race.Disable", "sync/atomic.CompareAndSwapInt32", "internal/race.Enable", "internal/race.Acquire", "(*internal/sync.Mutex).lockSlow", "internal/sync.runtime_canSpin", "internal/sync.runtime_doSpin", "internal/sync.throw", "internal/sync.runtime_nanotime", "internal/sync.runtime_SemacquireMutex", "sync/atomic.AddInt32", "(*internal/sync.Mutex).Unlock", "internal/race.ReleaseMerge", "(*internal/sync.Mutex).unlockSlow", "internal/sync.fatal", "internal/sync.runtime_Semrelease", "sync/atomic.StoreUint32"], unfollowed := true, recurses := true, named := ["internal/bytealg.MaxLen", "unicode/utf8.first", "unicode/utf8.acceptRanges"], apart := false, laid := [("unicode/utf8.acceptRanges", laid_unicode_utf8_acceptRanges), ("unicode/utf8.first", laid_unicode_utf8_first)] }
def HeaderWriteMatchesSpecSaid : Prop := headerWriteMatchesSpecRow.holds Tryz.pinned (OpenSpec.ofChange headerWriteMatchesSpecSpec)

/-- ITS FALSE NEIGHBOUR: 'it returns false'. Refute it at one input. -/
def headerWriteMatchesSpecWrong : ChangeSpec := { name := "headerWriteMatchesSpec", fn := fun _ => fun
  | [d] => { results := [.lit (.bool false)], args := [d] }
  | _ => none }
def HeaderWriteMatchesSpecWrongFalsely : Prop := headerWriteMatchesSpecRow.holds Tryz.pinned (OpenSpec.ofChange headerWriteMatchesSpecWrong)

/-- 'posthouselaw1.HeaderRoundTrip': WHATEVER THE INPUT: true; the input reads as it did. -/
def headerRoundTripSpec : ChangeSpec := { name := "headerRoundTrip", fn := fun _ => fun
  | [d1, d2] => { results := [.lit (.bool true)], args := [d1, d2] }
  | _ => none }
def headerRoundTripRow : OpenClaim := { program := "ytogkmhjnojphiaagreatdoor", sum := "6117b0ac6ec22fe8d4bdfcdd88b7ab113007056f6cca7c40d27c9eebe05cd941", func := "posthouse/posthouselaw1.HeaderRoundTrip", spec := "headerRoundTrip", inPlace := ["internal/bytealg.IndexByte", "internal/bytealg.IndexByteString", "internal/bytealg.IndexString", "sync/atomic.LoadUint32", "(*internal/sync.Mutex).Lock", "internal/race.Disable", "sync/atomic.CompareAndSwapInt32", "internal/race.Enable", "internal/race.Acquire", "(*internal/sync.Mutex).lockSlow", "internal/sync.runtime_canSpin", "internal/sync.runtime_doSpin", "internal/sync.throw", "internal/sync.runtime_nanotime", "internal/sync.runtime_SemacquireMutex", "sync/atomic.AddInt32", "(*internal/sync.Mutex).Unlock", "internal/race.ReleaseMerge", "(*internal/sync.Mutex).unlockSlow", "internal/sync.fatal", "internal/sync.runtime_Semrelease", "sync/atomic.StoreUint32"], unfollowed := true, recurses := true, named := ["internal/bytealg.MaxLen", "unicode/utf8.first", "unicode/utf8.acceptRanges"], apart := false, laid := [("unicode/utf8.acceptRanges", laid_unicode_utf8_acceptRanges), ("unicode/utf8.first", laid_unicode_utf8_first)] }
def HeaderRoundTripSaid : Prop := headerRoundTripRow.holds Tryz.pinned (OpenSpec.ofChange headerRoundTripSpec)

/-- ITS FALSE NEIGHBOUR: 'it returns false'. Refute it at one input. -/
def headerRoundTripWrong : ChangeSpec := { name := "headerRoundTrip", fn := fun _ => fun
  | [d1, d2] => { results := [.lit (.bool false)], args := [d1, d2] }
  | _ => none }
def HeaderRoundTripWrongFalsely : Prop := headerRoundTripRow.holds Tryz.pinned (OpenSpec.ofChange headerRoundTripWrong)

/-- 'posthouselaw1.HeaderGetMatchesSpec': WHATEVER THE INPUT: true; the input reads as it did. -/
def headerGetMatchesSpecSpec : ChangeSpec := { name := "headerGetMatchesSpec", fn := fun _ => fun
  | [d1, d2] => { results := [.lit (.bool true)], args := [d1, d2] }
  | _ => none }
def headerGetMatchesSpecRow : OpenClaim := { program := "ytogkmhjnojphiaagreatdoor", sum := "6117b0ac6ec22fe8d4bdfcdd88b7ab113007056f6cca7c40d27c9eebe05cd941", func := "posthouse/posthouselaw1.HeaderGetMatchesSpec", spec := "headerGetMatchesSpec", inPlace := ["internal/bytealg.IndexByte", "internal/bytealg.IndexByteString", "internal/bytealg.IndexString", "sync/atomic.LoadUint32", "(*internal/sync.Mutex).Lock", "internal/race.Disable", "sync/atomic.CompareAndSwapInt32", "internal/race.Enable", "internal/race.Acquire", "(*internal/sync.Mutex).lockSlow", "internal/sync.runtime_canSpin", "internal/sync.runtime_doSpin", "internal/sync.throw", "internal/sync.runtime_nanotime", "internal/sync.runtime_SemacquireMutex", "sync/atomic.AddInt32", "(*internal/sync.Mutex).Unlock", "internal/race.ReleaseMerge", "(*internal/sync.Mutex).unlockSlow", "internal/sync.fatal", "internal/sync.runtime_Semrelease", "sync/atomic.StoreUint32"], unfollowed := true, recurses := true, named := ["internal/bytealg.MaxLen", "unicode/utf8.first", "unicode/utf8.acceptRanges"], apart := false, laid := [("unicode/utf8.acceptRanges", laid_unicode_utf8_acceptRanges), ("unicode/utf8.first", laid_unicode_utf8_first)] }
def HeaderGetMatchesSpecSaid : Prop := headerGetMatchesSpecRow.holds Tryz.pinned (OpenSpec.ofChange headerGetMatchesSpecSpec)

/-- ITS FALSE NEIGHBOUR: 'it returns false'. Refute it at one input. -/
def headerGetMatchesSpecWrong : ChangeSpec := { name := "headerGetMatchesSpec", fn := fun _ => fun
  | [d1, d2] => { results := [.lit (.bool false)], args := [d1, d2] }
  | _ => none }
def HeaderGetMatchesSpecWrongFalsely : Prop := headerGetMatchesSpecRow.holds Tryz.pinned (OpenSpec.ofChange headerGetMatchesSpecWrong)

/-- 'posthouselaw1.HeaderReadsValid': WHATEVER THE INPUT: true; the input reads as it did. -/
def headerReadsValidSpec : ChangeSpec := { name := "headerReadsValid", fn := fun _ => fun
  | [d] => { results := [.lit (.bool true)], args := [d] }
  | _ => none }
def headerReadsValidRow : OpenClaim := { program := "ytogkmhjnojphiaagreatdoor", sum := "6117b0ac6ec22fe8d4bdfcdd88b7ab113007056f6cca7c40d27c9eebe05cd941", func := "posthouse/posthouselaw1.HeaderReadsValid", spec := "headerReadsValid", inPlace := ["internal/bytealg.IndexByte", "internal/bytealg.IndexByteString", "internal/bytealg.IndexString", "sync/atomic.LoadUint32", "(*internal/sync.Mutex).Lock", "internal/race.Disable", "sync/atomic.CompareAndSwapInt32", "internal/race.Enable", "internal/race.Acquire", "(*internal/sync.Mutex).lockSlow", "internal/sync.runtime_canSpin", "internal/sync.runtime_doSpin", "internal/sync.throw", "internal/sync.runtime_nanotime", "internal/sync.runtime_SemacquireMutex", "sync/atomic.AddInt32", "(*internal/sync.Mutex).Unlock", "internal/race.ReleaseMerge", "(*internal/sync.Mutex).unlockSlow", "internal/sync.fatal", "internal/sync.runtime_Semrelease", "sync/atomic.StoreUint32"], unfollowed := true, recurses := true, named := ["internal/bytealg.MaxLen", "unicode/utf8.first", "unicode/utf8.acceptRanges"], apart := false, laid := [("unicode/utf8.acceptRanges", laid_unicode_utf8_acceptRanges), ("unicode/utf8.first", laid_unicode_utf8_first)] }
def HeaderReadsValidSaid : Prop := headerReadsValidRow.holds Tryz.pinned (OpenSpec.ofChange headerReadsValidSpec)

/-- ITS FALSE NEIGHBOUR: 'it returns false'. Refute it at one input. -/
def headerReadsValidWrong : ChangeSpec := { name := "headerReadsValid", fn := fun _ => fun
  | [d] => { results := [.lit (.bool false)], args := [d] }
  | _ => none }
def HeaderReadsValidWrongFalsely : Prop := headerReadsValidRow.holds Tryz.pinned (OpenSpec.ofChange headerReadsValidWrong)

/-- 'posthouselaw1.HeaderWithoutNone': WHATEVER THE INPUT: true; the input reads as it did. -/
def headerWithoutNoneSpec : ChangeSpec := { name := "headerWithoutNone", fn := fun _ => fun
  | [d1, d2, d3] => { results := [.lit (.bool true)], args := [d1, d2, d3] }
  | _ => none }
def headerWithoutNoneRow : OpenClaim := { program := "ytogkmhjnojphiaagreatdoor", sum := "6117b0ac6ec22fe8d4bdfcdd88b7ab113007056f6cca7c40d27c9eebe05cd941", func := "posthouse/posthouselaw1.HeaderWithoutNone", spec := "headerWithoutNone", inPlace := ["internal/bytealg.IndexByte", "internal/bytealg.IndexByteString", "internal/bytealg.IndexString", "sync/atomic.LoadUint32", "(*internal/sync.Mutex).Lock", "internal/race.Disable", "sync/atomic.CompareAndSwapInt32", "internal/race.Enable", "internal/race.Acquire", "(*internal/sync.Mutex).lockSlow", "internal/sync.runtime_canSpin", "internal/sync.runtime_doSpin", "internal/sync.throw", "internal/sync.runtime_nanotime", "internal/sync.runtime_SemacquireMutex", "sync/atomic.AddInt32", "(*internal/sync.Mutex).Unlock", "internal/race.ReleaseMerge", "(*internal/sync.Mutex).unlockSlow", "internal/sync.fatal", "internal/sync.runtime_Semrelease", "sync/atomic.StoreUint32"], unfollowed := true, recurses := true, named := ["internal/bytealg.MaxLen", "unicode/utf8.first", "unicode/utf8.acceptRanges"], apart := false, laid := [("unicode/utf8.acceptRanges", laid_unicode_utf8_acceptRanges), ("unicode/utf8.first", laid_unicode_utf8_first)] }
def HeaderWithoutNoneSaid : Prop := headerWithoutNoneRow.holds Tryz.pinned (OpenSpec.ofChange headerWithoutNoneSpec)

/-- ITS FALSE NEIGHBOUR: 'it returns false'. Refute it at one input. -/
def headerWithoutNoneWrong : ChangeSpec := { name := "headerWithoutNone", fn := fun _ => fun
  | [d1, d2, d3] => { results := [.lit (.bool false)], args := [d1, d2, d3] }
  | _ => none }
def HeaderWithoutNoneWrongFalsely : Prop := headerWithoutNoneRow.holds Tryz.pinned (OpenSpec.ofChange headerWithoutNoneWrong)

/-- 'posthouselaw1.WordsSurviveFolding': WHATEVER THE INPUT: true; the input reads as it did. -/
def wordsSurviveFoldingSpec : ChangeSpec := { name := "wordsSurviveFolding", fn := fun _ => fun
  | [d] => { results := [.lit (.bool true)], args := [d] }
  | _ => none }
def wordsSurviveFoldingRow : OpenClaim := { program := "ytogkmhjnojphiaagreatdoor", sum := "6117b0ac6ec22fe8d4bdfcdd88b7ab113007056f6cca7c40d27c9eebe05cd941", func := "posthouse/posthouselaw1.WordsSurviveFolding", spec := "wordsSurviveFolding", inPlace := ["internal/bytealg.IndexByteString", "internal/bytealg.IndexString", "internal/bytealg.CountString", "internal/abi.NoEscape", "internal/bytealg.MakeNoZero", "internal/bytealg.IndexByte"], unfollowed := true, recurses := true, named := ["unicode/utf8.first", "unicode/utf8.acceptRanges", "internal/bytealg.MaxLen"], apart := false, laid := [("unicode/utf8.acceptRanges", laid_unicode_utf8_acceptRanges), ("unicode/utf8.first", laid_unicode_utf8_first)] }
def WordsSurviveFoldingSaid : Prop := wordsSurviveFoldingRow.holds Tryz.pinned (OpenSpec.ofChange wordsSurviveFoldingSpec)

/-- ITS FALSE NEIGHBOUR: 'it returns false'. Refute it at one input. -/
def wordsSurviveFoldingWrong : ChangeSpec := { name := "wordsSurviveFolding", fn := fun _ => fun
  | [d] => { results := [.lit (.bool false)], args := [d] }
  | _ => none }
def WordsSurviveFoldingWrongFalsely : Prop := wordsSurviveFoldingRow.holds Tryz.pinned (OpenSpec.ofChange wordsSurviveFoldingWrong)

/- THE SECOND FORM. 'bulk': how many values and letters a reading holds, each counted each time it is reached (what is shared counts as often as it is met; a slice's spare places count too). A statement '..UptoSaid' is the law's where the arguments, and the package variables that the reading takes, are together of bulk at most 1048576: NARROWER than '..Said'. Prove '..Said' where nothing that the law and all that it calls make is longer than what came in: it says more and counts as full. Else prove '..UptoSaid'. A law counts once. -/
mutual
def uptoBulk {H : Type} : DataW H → Nat
  | .lit (.string bytes) => bytes.length + 1
  | .lit _ => 1
  | .nil => 1
  | .ptr d => uptoBulk d + 1
  | .slice elems spare => uptoBulkAll elems + uptoBulkAll spare + 1
  | .agg parts => uptoBulkAll parts + 1
  | .iface _ d => uptoBulk d + 1
  | .map entries => uptoBulkEntries entries + 1
  | .held _ => 1
def uptoBulkAll {H : Type} : List (DataW H) → Nat
  | [] => 0
  | d :: r => uptoBulk d + uptoBulkAll r
def uptoBulkEntries {H : Type} : List (Lit × DataW H) → Nat
  | [] => 0
  | x :: r => uptoBulkEntry x + uptoBulkEntries r
def uptoBulkEntry {H : Type} : Lit × DataW H → Nat
  | (.string bytes, d) => bytes.length + uptoBulk d + 1
  | (_, d) => uptoBulk d + 1
 end
def uptoSmall : (H : Type) → List (DataW H) → Bool := fun _ ds => decide (uptoBulkAll ds ≤ 1048576)
def OpenSpec.upto (s : _root_.Go.ChangeSpec) : _root_.Go.OpenSpec := { _root_.Go.OpenSpec.ofChange s with cond := some uptoSmall }

/-- 'posthouselaw1.WordsEncodeMatchesSpec', WHERE WHAT IT READS IS OF BULK AT MOST 1048576: true; the input reads as it did. -/
def wordsEncodeMatchesSpecUptoRow : OpenClaim := { program := "ytogkmhjnojphiaagreatdoor", sum := "6117b0ac6ec22fe8d4bdfcdd88b7ab113007056f6cca7c40d27c9eebe05cd941", func := "posthouse/posthouselaw1.WordsEncodeMatchesSpec", spec := "wordsEncodeMatchesSpec", inPlace := ["internal/bytealg.IndexByteString", "internal/bytealg.IndexString", "internal/bytealg.CountString", "internal/abi.NoEscape", "internal/bytealg.MakeNoZero", "internal/bytealg.IndexByte"], unfollowed := true, recurses := true, named := ["unicode/utf8.first", "unicode/utf8.acceptRanges", "internal/bytealg.MaxLen"], apart := false, laid := [("unicode/utf8.acceptRanges", laid_unicode_utf8_acceptRanges), ("unicode/utf8.first", laid_unicode_utf8_first)], narrowed := true }
def WordsEncodeMatchesSpecUptoSaid : Prop := wordsEncodeMatchesSpecUptoRow.holds Tryz.pinned (OpenSpec.upto wordsEncodeMatchesSpecSpec)

/-- 'posthouselaw1.WordsDecodeMatchesSpec', WHERE WHAT IT READS IS OF BULK AT MOST 1048576: true; the input reads as it did. -/
def wordsDecodeMatchesSpecUptoRow : OpenClaim := { program := "ytogkmhjnojphiaagreatdoor", sum := "6117b0ac6ec22fe8d4bdfcdd88b7ab113007056f6cca7c40d27c9eebe05cd941", func := "posthouse/posthouselaw1.WordsDecodeMatchesSpec", spec := "wordsDecodeMatchesSpec", inPlace := ["internal/bytealg.IndexByteString", "internal/bytealg.IndexString", "internal/bytealg.CountString", "internal/abi.NoEscape", "internal/bytealg.MakeNoZero", "internal/bytealg.IndexByte"], unfollowed := true, recurses := true, named := ["unicode/utf8.first", "unicode/utf8.acceptRanges", "internal/bytealg.MaxLen"], apart := false, laid := [("unicode/utf8.acceptRanges", laid_unicode_utf8_acceptRanges), ("unicode/utf8.first", laid_unicode_utf8_first)], narrowed := true }
def WordsDecodeMatchesSpecUptoSaid : Prop := wordsDecodeMatchesSpecUptoRow.holds Tryz.pinned (OpenSpec.upto wordsDecodeMatchesSpecSpec)

/-- 'posthouselaw1.HeaderReadMatchesSpec', WHERE WHAT IT READS IS OF BULK AT MOST 1048576: true; the input reads as it did. -/
def headerReadMatchesSpecUptoRow : OpenClaim := { program := "ytogkmhjnojphiaagreatdoor", sum := "6117b0ac6ec22fe8d4bdfcdd88b7ab113007056f6cca7c40d27c9eebe05cd941", func := "posthouse/posthouselaw1.HeaderReadMatchesSpec", spec := "headerReadMatchesSpec", inPlace := ["internal/bytealg.IndexByte", "internal/bytealg.IndexByteString", "internal/bytealg.IndexString", "sync/atomic.LoadUint32", "(*internal/sync.Mutex).Lock", "internal/race.Disable", "sync/atomic.CompareAndSwapInt32", "internal/race.Enable", "internal/race.Acquire", "(*internal/sync.Mutex).lockSlow", "internal/sync.runtime_canSpin", "internal/sync.runtime_doSpin", "internal/sync.throw", "internal/sync.runtime_nanotime", "internal/sync.runtime_SemacquireMutex", "sync/atomic.AddInt32", "(*internal/sync.Mutex).Unlock", "internal/race.ReleaseMerge", "(*internal/sync.Mutex).unlockSlow", "internal/sync.fatal", "internal/sync.runtime_Semrelease", "sync/atomic.StoreUint32"], unfollowed := true, recurses := true, named := ["internal/bytealg.MaxLen", "unicode/utf8.first", "unicode/utf8.acceptRanges"], apart := false, laid := [("unicode/utf8.acceptRanges", laid_unicode_utf8_acceptRanges), ("unicode/utf8.first", laid_unicode_utf8_first)], narrowed := true }
def HeaderReadMatchesSpecUptoSaid : Prop := headerReadMatchesSpecUptoRow.holds Tryz.pinned (OpenSpec.upto headerReadMatchesSpecSpec)

/-- 'posthouselaw1.HeaderWriteMatchesSpec', WHERE WHAT IT READS IS OF BULK AT MOST 1048576: true; the input reads as it did. -/
def headerWriteMatchesSpecUptoRow : OpenClaim := { program := "ytogkmhjnojphiaagreatdoor", sum := "6117b0ac6ec22fe8d4bdfcdd88b7ab113007056f6cca7c40d27c9eebe05cd941", func := "posthouse/posthouselaw1.HeaderWriteMatchesSpec", spec := "headerWriteMatchesSpec", inPlace := ["internal/bytealg.IndexByte", "internal/bytealg.IndexByteString", "internal/bytealg.IndexString", "sync/atomic.LoadUint32", "(*internal/sync.Mutex).Lock", "internal/race.Disable", "sync/atomic.CompareAndSwapInt32", "internal/race.Enable", "internal/race.Acquire", "(*internal/sync.Mutex).lockSlow", "internal/sync.runtime_canSpin", "internal/sync.runtime_doSpin", "internal/sync.throw", "internal/sync.runtime_nanotime", "internal/sync.runtime_SemacquireMutex", "sync/atomic.AddInt32", "(*internal/sync.Mutex).Unlock", "internal/race.ReleaseMerge", "(*internal/sync.Mutex).unlockSlow", "internal/sync.fatal", "internal/sync.runtime_Semrelease", "sync/atomic.StoreUint32"], unfollowed := true, recurses := true, named := ["internal/bytealg.MaxLen", "unicode/utf8.first", "unicode/utf8.acceptRanges"], apart := false, laid := [("unicode/utf8.acceptRanges", laid_unicode_utf8_acceptRanges), ("unicode/utf8.first", laid_unicode_utf8_first)], narrowed := true }
def HeaderWriteMatchesSpecUptoSaid : Prop := headerWriteMatchesSpecUptoRow.holds Tryz.pinned (OpenSpec.upto headerWriteMatchesSpecSpec)

/-- 'posthouselaw1.HeaderRoundTrip', WHERE WHAT IT READS IS OF BULK AT MOST 1048576: true; the input reads as it did. -/
def headerRoundTripUptoRow : OpenClaim := { program := "ytogkmhjnojphiaagreatdoor", sum := "6117b0ac6ec22fe8d4bdfcdd88b7ab113007056f6cca7c40d27c9eebe05cd941", func := "posthouse/posthouselaw1.HeaderRoundTrip", spec := "headerRoundTrip", inPlace := ["internal/bytealg.IndexByte", "internal/bytealg.IndexByteString", "internal/bytealg.IndexString", "sync/atomic.LoadUint32", "(*internal/sync.Mutex).Lock", "internal/race.Disable", "sync/atomic.CompareAndSwapInt32", "internal/race.Enable", "internal/race.Acquire", "(*internal/sync.Mutex).lockSlow", "internal/sync.runtime_canSpin", "internal/sync.runtime_doSpin", "internal/sync.throw", "internal/sync.runtime_nanotime", "internal/sync.runtime_SemacquireMutex", "sync/atomic.AddInt32", "(*internal/sync.Mutex).Unlock", "internal/race.ReleaseMerge", "(*internal/sync.Mutex).unlockSlow", "internal/sync.fatal", "internal/sync.runtime_Semrelease", "sync/atomic.StoreUint32"], unfollowed := true, recurses := true, named := ["internal/bytealg.MaxLen", "unicode/utf8.first", "unicode/utf8.acceptRanges"], apart := false, laid := [("unicode/utf8.acceptRanges", laid_unicode_utf8_acceptRanges), ("unicode/utf8.first", laid_unicode_utf8_first)], narrowed := true }
def HeaderRoundTripUptoSaid : Prop := headerRoundTripUptoRow.holds Tryz.pinned (OpenSpec.upto headerRoundTripSpec)

/-- 'posthouselaw1.HeaderGetMatchesSpec', WHERE WHAT IT READS IS OF BULK AT MOST 1048576: true; the input reads as it did. -/
def headerGetMatchesSpecUptoRow : OpenClaim := { program := "ytogkmhjnojphiaagreatdoor", sum := "6117b0ac6ec22fe8d4bdfcdd88b7ab113007056f6cca7c40d27c9eebe05cd941", func := "posthouse/posthouselaw1.HeaderGetMatchesSpec", spec := "headerGetMatchesSpec", inPlace := ["internal/bytealg.IndexByte", "internal/bytealg.IndexByteString", "internal/bytealg.IndexString", "sync/atomic.LoadUint32", "(*internal/sync.Mutex).Lock", "internal/race.Disable", "sync/atomic.CompareAndSwapInt32", "internal/race.Enable", "internal/race.Acquire", "(*internal/sync.Mutex).lockSlow", "internal/sync.runtime_canSpin", "internal/sync.runtime_doSpin", "internal/sync.throw", "internal/sync.runtime_nanotime", "internal/sync.runtime_SemacquireMutex", "sync/atomic.AddInt32", "(*internal/sync.Mutex).Unlock", "internal/race.ReleaseMerge", "(*internal/sync.Mutex).unlockSlow", "internal/sync.fatal", "internal/sync.runtime_Semrelease", "sync/atomic.StoreUint32"], unfollowed := true, recurses := true, named := ["internal/bytealg.MaxLen", "unicode/utf8.first", "unicode/utf8.acceptRanges"], apart := false, laid := [("unicode/utf8.acceptRanges", laid_unicode_utf8_acceptRanges), ("unicode/utf8.first", laid_unicode_utf8_first)], narrowed := true }
def HeaderGetMatchesSpecUptoSaid : Prop := headerGetMatchesSpecUptoRow.holds Tryz.pinned (OpenSpec.upto headerGetMatchesSpecSpec)

/-- 'posthouselaw1.HeaderReadsValid', WHERE WHAT IT READS IS OF BULK AT MOST 1048576: true; the input reads as it did. -/
def headerReadsValidUptoRow : OpenClaim := { program := "ytogkmhjnojphiaagreatdoor", sum := "6117b0ac6ec22fe8d4bdfcdd88b7ab113007056f6cca7c40d27c9eebe05cd941", func := "posthouse/posthouselaw1.HeaderReadsValid", spec := "headerReadsValid", inPlace := ["internal/bytealg.IndexByte", "internal/bytealg.IndexByteString", "internal/bytealg.IndexString", "sync/atomic.LoadUint32", "(*internal/sync.Mutex).Lock", "internal/race.Disable", "sync/atomic.CompareAndSwapInt32", "internal/race.Enable", "internal/race.Acquire", "(*internal/sync.Mutex).lockSlow", "internal/sync.runtime_canSpin", "internal/sync.runtime_doSpin", "internal/sync.throw", "internal/sync.runtime_nanotime", "internal/sync.runtime_SemacquireMutex", "sync/atomic.AddInt32", "(*internal/sync.Mutex).Unlock", "internal/race.ReleaseMerge", "(*internal/sync.Mutex).unlockSlow", "internal/sync.fatal", "internal/sync.runtime_Semrelease", "sync/atomic.StoreUint32"], unfollowed := true, recurses := true, named := ["internal/bytealg.MaxLen", "unicode/utf8.first", "unicode/utf8.acceptRanges"], apart := false, laid := [("unicode/utf8.acceptRanges", laid_unicode_utf8_acceptRanges), ("unicode/utf8.first", laid_unicode_utf8_first)], narrowed := true }
def HeaderReadsValidUptoSaid : Prop := headerReadsValidUptoRow.holds Tryz.pinned (OpenSpec.upto headerReadsValidSpec)

/-- 'posthouselaw1.HeaderWithoutNone', WHERE WHAT IT READS IS OF BULK AT MOST 1048576: true; the input reads as it did. -/
def headerWithoutNoneUptoRow : OpenClaim := { program := "ytogkmhjnojphiaagreatdoor", sum := "6117b0ac6ec22fe8d4bdfcdd88b7ab113007056f6cca7c40d27c9eebe05cd941", func := "posthouse/posthouselaw1.HeaderWithoutNone", spec := "headerWithoutNone", inPlace := ["internal/bytealg.IndexByte", "internal/bytealg.IndexByteString", "internal/bytealg.IndexString", "sync/atomic.LoadUint32", "(*internal/sync.Mutex).Lock", "internal/race.Disable", "sync/atomic.CompareAndSwapInt32", "internal/race.Enable", "internal/race.Acquire", "(*internal/sync.Mutex).lockSlow", "internal/sync.runtime_canSpin", "internal/sync.runtime_doSpin", "internal/sync.throw", "internal/sync.runtime_nanotime", "internal/sync.runtime_SemacquireMutex", "sync/atomic.AddInt32", "(*internal/sync.Mutex).Unlock", "internal/race.ReleaseMerge", "(*internal/sync.Mutex).unlockSlow", "internal/sync.fatal", "internal/sync.runtime_Semrelease", "sync/atomic.StoreUint32"], unfollowed := true, recurses := true, named := ["internal/bytealg.MaxLen", "unicode/utf8.first", "unicode/utf8.acceptRanges"], apart := false, laid := [("unicode/utf8.acceptRanges", laid_unicode_utf8_acceptRanges), ("unicode/utf8.first", laid_unicode_utf8_first)], narrowed := true }
def HeaderWithoutNoneUptoSaid : Prop := headerWithoutNoneUptoRow.holds Tryz.pinned (OpenSpec.upto headerWithoutNoneSpec)

/-- 'posthouselaw1.WordsSurviveFolding', WHERE WHAT IT READS IS OF BULK AT MOST 1048576: true; the input reads as it did. -/
def wordsSurviveFoldingUptoRow : OpenClaim := { program := "ytogkmhjnojphiaagreatdoor", sum := "6117b0ac6ec22fe8d4bdfcdd88b7ab113007056f6cca7c40d27c9eebe05cd941", func := "posthouse/posthouselaw1.WordsSurviveFolding", spec := "wordsSurviveFolding", inPlace := ["internal/bytealg.IndexByteString", "internal/bytealg.IndexString", "internal/bytealg.CountString", "internal/abi.NoEscape", "internal/bytealg.MakeNoZero", "internal/bytealg.IndexByte"], unfollowed := true, recurses := true, named := ["unicode/utf8.first", "unicode/utf8.acceptRanges", "internal/bytealg.MaxLen"], apart := false, laid := [("unicode/utf8.acceptRanges", laid_unicode_utf8_acceptRanges), ("unicode/utf8.first", laid_unicode_utf8_first)], narrowed := true }
def WordsSurviveFoldingUptoSaid : Prop := wordsSurviveFoldingUptoRow.holds Tryz.pinned (OpenSpec.upto wordsSurviveFoldingSpec)

end Rows
end Go.Proofs.YtogkmhjnojphiaaGreatDoor
