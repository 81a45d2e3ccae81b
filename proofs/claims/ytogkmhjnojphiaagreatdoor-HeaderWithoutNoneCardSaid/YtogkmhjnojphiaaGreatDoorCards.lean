/-
  DERIVED. GIVEN WITH THE SEED: THE CARDS: each row of YtogkmhjnojphiaaGreatDoorRows.lean that lists a variable, with what it lists TIED to the program's text (the seventh form; the later family's looks); each row that meets fmt, with fmt's text TOLD by the authors' own Lean function (tested against real Go, not proved from fmt's source: count such statements apart). THE CARD IS WHAT COUNTS. Prove the row's statement (the work); the ties are given (YtogkmhjnojphiaaGreatDoorTie.lean); close each card by the builder's one call (the guide's Derived/Test/ToyasCard.lean, 'card_holds'). Laid BY PROGRAM, IN A SANDBOX (cutbox-door.mjs). By AI agents, Wed Nov 11 2026. No macro, syntax, notation, axiom, sorry.
-/
import Derived.Test.YtogkmhjnojphiaaGreatDoorRows
import GoSem.ClaimSeven
namespace Go.Proofs.YtogkmhjnojphiaaGreatDoor
namespace Rows

/-- THE TIED CARD OF 'posthouselaw1.WordsEncodeMatchesSpec'. -/
def wordsEncodeMatchesSpecCard : Claim7 := { stood := { row := wordsEncodeMatchesSpecRow, standIns := [], harness := (true, "7951d9eb6bf01b80f7569743b3ce31d30a612099bdde9814ebe68aabbdca3927"), looks := true }, kinds := [], alts := [], laidByText := true, laidKinds := [.data, .pinned], laidTests := true, laidLooks := .later }
def WordsEncodeMatchesSpecCardSaid : Prop := Claim7.holds Tryz.pinned (.plain (OpenSpec.ofChange wordsEncodeMatchesSpecSpec)) wordsEncodeMatchesSpecCard

/-- THE TIED CARD OF 'posthouselaw1.WordsDecodeMatchesSpec'. -/
def wordsDecodeMatchesSpecCard : Claim7 := { stood := { row := wordsDecodeMatchesSpecRow, standIns := [], harness := (true, "7951d9eb6bf01b80f7569743b3ce31d30a612099bdde9814ebe68aabbdca3927"), looks := true }, kinds := [], alts := [], laidByText := true, laidKinds := [.data, .pinned], laidTests := true, laidLooks := .later }
def WordsDecodeMatchesSpecCardSaid : Prop := Claim7.holds Tryz.pinned (.plain (OpenSpec.ofChange wordsDecodeMatchesSpecSpec)) wordsDecodeMatchesSpecCard

/-- THE TIED CARD OF 'posthouselaw1.HeaderReadMatchesSpec'. -/
def headerReadMatchesSpecCard : Claim7 := { stood := { row := headerReadMatchesSpecRow, standIns := [], harness := (true, "7951d9eb6bf01b80f7569743b3ce31d30a612099bdde9814ebe68aabbdca3927"), looks := true }, kinds := [], alts := [], laidByText := true, laidKinds := [.data, .pinned], laidTests := true, laidLooks := .later }
def HeaderReadMatchesSpecCardSaid : Prop := Claim7.holds Tryz.pinned (.plain (OpenSpec.ofChange headerReadMatchesSpecSpec)) headerReadMatchesSpecCard

/-- THE TIED CARD OF 'posthouselaw1.HeaderWriteMatchesSpec'. -/
def headerWriteMatchesSpecCard : Claim7 := { stood := { row := headerWriteMatchesSpecRow, standIns := [], harness := (true, "7951d9eb6bf01b80f7569743b3ce31d30a612099bdde9814ebe68aabbdca3927"), looks := true }, kinds := [], alts := [], laidByText := true, laidKinds := [.data, .pinned], laidTests := true, laidLooks := .later }
def HeaderWriteMatchesSpecCardSaid : Prop := Claim7.holds Tryz.pinned (.plain (OpenSpec.ofChange headerWriteMatchesSpecSpec)) headerWriteMatchesSpecCard

/-- THE TIED CARD OF 'posthouselaw1.HeaderRoundTrip'. -/
def headerRoundTripCard : Claim7 := { stood := { row := headerRoundTripRow, standIns := [], harness := (true, "7951d9eb6bf01b80f7569743b3ce31d30a612099bdde9814ebe68aabbdca3927"), looks := true }, kinds := [], alts := [], laidByText := true, laidKinds := [.data, .pinned], laidTests := true, laidLooks := .later }
def HeaderRoundTripCardSaid : Prop := Claim7.holds Tryz.pinned (.plain (OpenSpec.ofChange headerRoundTripSpec)) headerRoundTripCard

/-- THE TIED CARD OF 'posthouselaw1.HeaderGetMatchesSpec'. -/
def headerGetMatchesSpecCard : Claim7 := { stood := { row := headerGetMatchesSpecRow, standIns := [], harness := (true, "7951d9eb6bf01b80f7569743b3ce31d30a612099bdde9814ebe68aabbdca3927"), looks := true }, kinds := [], alts := [], laidByText := true, laidKinds := [.data, .pinned], laidTests := true, laidLooks := .later }
def HeaderGetMatchesSpecCardSaid : Prop := Claim7.holds Tryz.pinned (.plain (OpenSpec.ofChange headerGetMatchesSpecSpec)) headerGetMatchesSpecCard

/-- THE TIED CARD OF 'posthouselaw1.HeaderReadsValid'. -/
def headerReadsValidCard : Claim7 := { stood := { row := headerReadsValidRow, standIns := [], harness := (true, "7951d9eb6bf01b80f7569743b3ce31d30a612099bdde9814ebe68aabbdca3927"), looks := true }, kinds := [], alts := [], laidByText := true, laidKinds := [.data, .pinned], laidTests := true, laidLooks := .later }
def HeaderReadsValidCardSaid : Prop := Claim7.holds Tryz.pinned (.plain (OpenSpec.ofChange headerReadsValidSpec)) headerReadsValidCard

/-- THE TIED CARD OF 'posthouselaw1.HeaderWithoutNone'. -/
def headerWithoutNoneCard : Claim7 := { stood := { row := headerWithoutNoneRow, standIns := [], harness := (true, "7951d9eb6bf01b80f7569743b3ce31d30a612099bdde9814ebe68aabbdca3927"), looks := true }, kinds := [], alts := [], laidByText := true, laidKinds := [.data, .pinned], laidTests := true, laidLooks := .later }
def HeaderWithoutNoneCardSaid : Prop := Claim7.holds Tryz.pinned (.plain (OpenSpec.ofChange headerWithoutNoneSpec)) headerWithoutNoneCard

/-- THE TIED CARD OF 'posthouselaw1.WordsSurviveFolding'. -/
def wordsSurviveFoldingCard : Claim7 := { stood := { row := wordsSurviveFoldingRow, standIns := [], harness := (true, "7951d9eb6bf01b80f7569743b3ce31d30a612099bdde9814ebe68aabbdca3927"), looks := true }, kinds := [], alts := [], laidByText := true, laidKinds := [.data, .pinned], laidTests := true, laidLooks := .later }
def WordsSurviveFoldingCardSaid : Prop := Claim7.holds Tryz.pinned (.plain (OpenSpec.ofChange wordsSurviveFoldingSpec)) wordsSurviveFoldingCard

/-- THE SECOND FORM's CARD OF 'posthouselaw1.WordsEncodeMatchesSpec'. -/
def wordsEncodeMatchesSpecUptoCard : Claim7 := { stood := { row := wordsEncodeMatchesSpecUptoRow, standIns := [], harness := (true, "7951d9eb6bf01b80f7569743b3ce31d30a612099bdde9814ebe68aabbdca3927"), looks := true }, kinds := [], alts := [], laidByText := true, laidKinds := [.data, .pinned], laidTests := true, laidLooks := .later }
def WordsEncodeMatchesSpecUptoCardSaid : Prop := Claim7.holds Tryz.pinned (.plain (OpenSpec.upto wordsEncodeMatchesSpecSpec)) wordsEncodeMatchesSpecUptoCard

/-- THE SECOND FORM's CARD OF 'posthouselaw1.WordsDecodeMatchesSpec'. -/
def wordsDecodeMatchesSpecUptoCard : Claim7 := { stood := { row := wordsDecodeMatchesSpecUptoRow, standIns := [], harness := (true, "7951d9eb6bf01b80f7569743b3ce31d30a612099bdde9814ebe68aabbdca3927"), looks := true }, kinds := [], alts := [], laidByText := true, laidKinds := [.data, .pinned], laidTests := true, laidLooks := .later }
def WordsDecodeMatchesSpecUptoCardSaid : Prop := Claim7.holds Tryz.pinned (.plain (OpenSpec.upto wordsDecodeMatchesSpecSpec)) wordsDecodeMatchesSpecUptoCard

/-- THE SECOND FORM's CARD OF 'posthouselaw1.HeaderReadMatchesSpec'. -/
def headerReadMatchesSpecUptoCard : Claim7 := { stood := { row := headerReadMatchesSpecUptoRow, standIns := [], harness := (true, "7951d9eb6bf01b80f7569743b3ce31d30a612099bdde9814ebe68aabbdca3927"), looks := true }, kinds := [], alts := [], laidByText := true, laidKinds := [.data, .pinned], laidTests := true, laidLooks := .later }
def HeaderReadMatchesSpecUptoCardSaid : Prop := Claim7.holds Tryz.pinned (.plain (OpenSpec.upto headerReadMatchesSpecSpec)) headerReadMatchesSpecUptoCard

/-- THE SECOND FORM's CARD OF 'posthouselaw1.HeaderWriteMatchesSpec'. -/
def headerWriteMatchesSpecUptoCard : Claim7 := { stood := { row := headerWriteMatchesSpecUptoRow, standIns := [], harness := (true, "7951d9eb6bf01b80f7569743b3ce31d30a612099bdde9814ebe68aabbdca3927"), looks := true }, kinds := [], alts := [], laidByText := true, laidKinds := [.data, .pinned], laidTests := true, laidLooks := .later }
def HeaderWriteMatchesSpecUptoCardSaid : Prop := Claim7.holds Tryz.pinned (.plain (OpenSpec.upto headerWriteMatchesSpecSpec)) headerWriteMatchesSpecUptoCard

/-- THE SECOND FORM's CARD OF 'posthouselaw1.HeaderRoundTrip'. -/
def headerRoundTripUptoCard : Claim7 := { stood := { row := headerRoundTripUptoRow, standIns := [], harness := (true, "7951d9eb6bf01b80f7569743b3ce31d30a612099bdde9814ebe68aabbdca3927"), looks := true }, kinds := [], alts := [], laidByText := true, laidKinds := [.data, .pinned], laidTests := true, laidLooks := .later }
def HeaderRoundTripUptoCardSaid : Prop := Claim7.holds Tryz.pinned (.plain (OpenSpec.upto headerRoundTripSpec)) headerRoundTripUptoCard

/-- THE SECOND FORM's CARD OF 'posthouselaw1.HeaderGetMatchesSpec'. -/
def headerGetMatchesSpecUptoCard : Claim7 := { stood := { row := headerGetMatchesSpecUptoRow, standIns := [], harness := (true, "7951d9eb6bf01b80f7569743b3ce31d30a612099bdde9814ebe68aabbdca3927"), looks := true }, kinds := [], alts := [], laidByText := true, laidKinds := [.data, .pinned], laidTests := true, laidLooks := .later }
def HeaderGetMatchesSpecUptoCardSaid : Prop := Claim7.holds Tryz.pinned (.plain (OpenSpec.upto headerGetMatchesSpecSpec)) headerGetMatchesSpecUptoCard

/-- THE SECOND FORM's CARD OF 'posthouselaw1.HeaderReadsValid'. -/
def headerReadsValidUptoCard : Claim7 := { stood := { row := headerReadsValidUptoRow, standIns := [], harness := (true, "7951d9eb6bf01b80f7569743b3ce31d30a612099bdde9814ebe68aabbdca3927"), looks := true }, kinds := [], alts := [], laidByText := true, laidKinds := [.data, .pinned], laidTests := true, laidLooks := .later }
def HeaderReadsValidUptoCardSaid : Prop := Claim7.holds Tryz.pinned (.plain (OpenSpec.upto headerReadsValidSpec)) headerReadsValidUptoCard

/-- THE SECOND FORM's CARD OF 'posthouselaw1.HeaderWithoutNone'. -/
def headerWithoutNoneUptoCard : Claim7 := { stood := { row := headerWithoutNoneUptoRow, standIns := [], harness := (true, "7951d9eb6bf01b80f7569743b3ce31d30a612099bdde9814ebe68aabbdca3927"), looks := true }, kinds := [], alts := [], laidByText := true, laidKinds := [.data, .pinned], laidTests := true, laidLooks := .later }
def HeaderWithoutNoneUptoCardSaid : Prop := Claim7.holds Tryz.pinned (.plain (OpenSpec.upto headerWithoutNoneSpec)) headerWithoutNoneUptoCard

/-- THE SECOND FORM's CARD OF 'posthouselaw1.WordsSurviveFolding'. -/
def wordsSurviveFoldingUptoCard : Claim7 := { stood := { row := wordsSurviveFoldingUptoRow, standIns := [], harness := (true, "7951d9eb6bf01b80f7569743b3ce31d30a612099bdde9814ebe68aabbdca3927"), looks := true }, kinds := [], alts := [], laidByText := true, laidKinds := [.data, .pinned], laidTests := true, laidLooks := .later }
def WordsSurviveFoldingUptoCardSaid : Prop := Claim7.holds Tryz.pinned (.plain (OpenSpec.upto wordsSurviveFoldingSpec)) wordsSurviveFoldingUptoCard
end Rows
end Go.Proofs.YtogkmhjnojphiaaGreatDoor
