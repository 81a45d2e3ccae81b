/-
  DERIVED. GIVEN WITH THE SEED: THE CARDS: each row of YtegkhjbajijidaaGreatDoorRows.lean that lists a variable, with what it lists TIED to the program's text (the seventh form; the later family's looks); each row that meets fmt, with fmt's text TOLD by the authors' own Lean function (tested against real Go, not proved from fmt's source: count such statements apart). THE CARD IS WHAT COUNTS. Prove the row's statement (the work); the ties are given (YtegkhjbajijidaaGreatDoorTie.lean); close each card by the builder's one call (the guide's Derived/Test/ToyasCard.lean, 'card_holds'). Laid BY PROGRAM, IN A SANDBOX (cutbox-door.mjs). By AI agents, Wed Nov 11 2026. No macro, syntax, notation, axiom, sorry.
-/
import Derived.Test.YtegkhjbajijidaaGreatDoorRows
import GoSem.ClaimSeven
namespace Go.Proofs.YtegkhjbajijidaaGreatDoor
namespace Rows

/-- THE TIED CARD OF 'posthouselaw1.MediaPrintMatchesSpec'. -/
def mediaPrintMatchesSpecCard : Claim7 := { stood := { row := mediaPrintMatchesSpecRow, standIns := [], harness := (true, "752849c222e1ebc7df1d13fef180e0f699c153b0575ffe01c2b6f0501a985eb3"), looks := true }, kinds := [], alts := [], laidByText := true, laidKinds := [.data, .data, .data, .data, .sentinel, .sentinel, .pinned], laidTests := true, laidLooks := .later }
def MediaPrintMatchesSpecCardSaid : Prop := Claim7.holds Tryz.pinned (.plain (OpenSpec.ofChange mediaPrintMatchesSpecSpec)) mediaPrintMatchesSpecCard

/-- THE TIED CARD OF 'posthouselaw1.MediaParseMatchesSpec'. -/
def mediaParseMatchesSpecCard : Claim7 := { stood := { row := mediaParseMatchesSpecRow, standIns := [], harness := (true, "752849c222e1ebc7df1d13fef180e0f699c153b0575ffe01c2b6f0501a985eb3"), looks := true }, kinds := [], alts := [], laidByText := true, laidKinds := [.data, .data, .data, .data, .sentinel, .sentinel, .pinned], laidTests := true, laidLooks := .later }
def MediaParseMatchesSpecCardSaid : Prop := Claim7.holds Tryz.pinned (.plain (OpenSpec.ofChange mediaParseMatchesSpecSpec)) mediaParseMatchesSpecCard

/-- THE TIED CARD OF 'posthouselaw1.MediaRoundTrip'. -/
def mediaRoundTripCard : Claim7 := { stood := { row := mediaRoundTripRow, standIns := [], harness := (true, "752849c222e1ebc7df1d13fef180e0f699c153b0575ffe01c2b6f0501a985eb3"), looks := true }, kinds := [], alts := [], laidByText := true, laidKinds := [.data, .data, .data, .data, .sentinel, .sentinel, .pinned], laidTests := true, laidLooks := .later }
def MediaRoundTripCardSaid : Prop := Claim7.holds Tryz.pinned (.plain (OpenSpec.ofChange mediaRoundTripSpec)) mediaRoundTripCard

/-- THE TIED CARD OF 'posthouselaw1.MediaParamMatchesSpec'. -/
def mediaParamMatchesSpecCard : Claim7 := { stood := { row := mediaParamMatchesSpecRow, standIns := [], harness := (true, "752849c222e1ebc7df1d13fef180e0f699c153b0575ffe01c2b6f0501a985eb3"), looks := true }, kinds := [], alts := [], laidByText := true, laidKinds := [.data, .data, .data, .data, .sentinel, .sentinel, .pinned], laidTests := true, laidLooks := .later }
def MediaParamMatchesSpecCardSaid : Prop := Claim7.holds Tryz.pinned (.plain (OpenSpec.ofChange mediaParamMatchesSpecSpec)) mediaParamMatchesSpecCard

/-- THE TIED CARD OF 'posthouselaw1.MediaPrintable'. -/
def mediaPrintableCard : Claim7 := { stood := { row := mediaPrintableRow, standIns := [], harness := (true, "752849c222e1ebc7df1d13fef180e0f699c153b0575ffe01c2b6f0501a985eb3"), looks := true }, kinds := [], alts := [], laidByText := true, laidKinds := [.data, .data, .data, .data, .sentinel, .sentinel, .pinned], laidTests := true, laidLooks := .later }
def MediaPrintableCardSaid : Prop := Claim7.holds Tryz.pinned (.plain (OpenSpec.ofChange mediaPrintableSpec)) mediaPrintableCard

/-- THE TIED CARD OF 'posthouselaw1.MediaPieceOrder'. -/
def mediaPieceOrderCard : Claim7 := { stood := { row := mediaPieceOrderRow, standIns := [], harness := (true, "752849c222e1ebc7df1d13fef180e0f699c153b0575ffe01c2b6f0501a985eb3"), looks := true }, kinds := [], alts := [], laidByText := true, laidKinds := [.data, .data, .data, .data, .sentinel, .sentinel, .pinned], laidTests := true, laidLooks := .later }
def MediaPieceOrderCardSaid : Prop := Claim7.holds Tryz.pinned (.plain (OpenSpec.ofChange mediaPieceOrderSpec)) mediaPieceOrderCard

/-- THE SECOND FORM's CARD OF 'posthouselaw1.MediaPrintMatchesSpec'. -/
def mediaPrintMatchesSpecUptoCard : Claim7 := { stood := { row := mediaPrintMatchesSpecUptoRow, standIns := [], harness := (true, "752849c222e1ebc7df1d13fef180e0f699c153b0575ffe01c2b6f0501a985eb3"), looks := true }, kinds := [], alts := [], laidByText := true, laidKinds := [.data, .data, .data, .data, .sentinel, .sentinel, .pinned], laidTests := true, laidLooks := .later }
def MediaPrintMatchesSpecUptoCardSaid : Prop := Claim7.holds Tryz.pinned (.plain (OpenSpec.upto mediaPrintMatchesSpecSpec)) mediaPrintMatchesSpecUptoCard

/-- THE SECOND FORM's CARD OF 'posthouselaw1.MediaParseMatchesSpec'. -/
def mediaParseMatchesSpecUptoCard : Claim7 := { stood := { row := mediaParseMatchesSpecUptoRow, standIns := [], harness := (true, "752849c222e1ebc7df1d13fef180e0f699c153b0575ffe01c2b6f0501a985eb3"), looks := true }, kinds := [], alts := [], laidByText := true, laidKinds := [.data, .data, .data, .data, .sentinel, .sentinel, .pinned], laidTests := true, laidLooks := .later }
def MediaParseMatchesSpecUptoCardSaid : Prop := Claim7.holds Tryz.pinned (.plain (OpenSpec.upto mediaParseMatchesSpecSpec)) mediaParseMatchesSpecUptoCard

/-- THE SECOND FORM's CARD OF 'posthouselaw1.MediaRoundTrip'. -/
def mediaRoundTripUptoCard : Claim7 := { stood := { row := mediaRoundTripUptoRow, standIns := [], harness := (true, "752849c222e1ebc7df1d13fef180e0f699c153b0575ffe01c2b6f0501a985eb3"), looks := true }, kinds := [], alts := [], laidByText := true, laidKinds := [.data, .data, .data, .data, .sentinel, .sentinel, .pinned], laidTests := true, laidLooks := .later }
def MediaRoundTripUptoCardSaid : Prop := Claim7.holds Tryz.pinned (.plain (OpenSpec.upto mediaRoundTripSpec)) mediaRoundTripUptoCard

/-- THE SECOND FORM's CARD OF 'posthouselaw1.MediaParamMatchesSpec'. -/
def mediaParamMatchesSpecUptoCard : Claim7 := { stood := { row := mediaParamMatchesSpecUptoRow, standIns := [], harness := (true, "752849c222e1ebc7df1d13fef180e0f699c153b0575ffe01c2b6f0501a985eb3"), looks := true }, kinds := [], alts := [], laidByText := true, laidKinds := [.data, .data, .data, .data, .sentinel, .sentinel, .pinned], laidTests := true, laidLooks := .later }
def MediaParamMatchesSpecUptoCardSaid : Prop := Claim7.holds Tryz.pinned (.plain (OpenSpec.upto mediaParamMatchesSpecSpec)) mediaParamMatchesSpecUptoCard

/-- THE SECOND FORM's CARD OF 'posthouselaw1.MediaPrintable'. -/
def mediaPrintableUptoCard : Claim7 := { stood := { row := mediaPrintableUptoRow, standIns := [], harness := (true, "752849c222e1ebc7df1d13fef180e0f699c153b0575ffe01c2b6f0501a985eb3"), looks := true }, kinds := [], alts := [], laidByText := true, laidKinds := [.data, .data, .data, .data, .sentinel, .sentinel, .pinned], laidTests := true, laidLooks := .later }
def MediaPrintableUptoCardSaid : Prop := Claim7.holds Tryz.pinned (.plain (OpenSpec.upto mediaPrintableSpec)) mediaPrintableUptoCard

/-- THE SECOND FORM's CARD OF 'posthouselaw1.MediaPieceOrder'. -/
def mediaPieceOrderUptoCard : Claim7 := { stood := { row := mediaPieceOrderUptoRow, standIns := [], harness := (true, "752849c222e1ebc7df1d13fef180e0f699c153b0575ffe01c2b6f0501a985eb3"), looks := true }, kinds := [], alts := [], laidByText := true, laidKinds := [.data, .data, .data, .data, .sentinel, .sentinel, .pinned], laidTests := true, laidLooks := .later }
def MediaPieceOrderUptoCardSaid : Prop := Claim7.holds Tryz.pinned (.plain (OpenSpec.upto mediaPieceOrderSpec)) mediaPieceOrderUptoCard
end Rows
end Go.Proofs.YtegkhjbajijidaaGreatDoor
