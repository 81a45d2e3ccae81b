/-
  DERIVED. GIVEN WITH THE SEED: THE CARDS: each row of YtolmifddbjdepaaDoorRows.lean that lists a variable, with what it lists TIED to the program's text (the seventh form; the later family's looks); each row that meets fmt, with fmt's text TOLD by the authors' own Lean function (tested against real Go, not proved from fmt's source: count such statements apart). THE CARD IS WHAT COUNTS. Prove the row's statement (the work); the ties are given (YtolmifddbjdepaaDoorTie.lean); close each card by the builder's one call (the guide's Derived/Test/ToyasCard.lean, 'card_holds'). Laid BY PROGRAM, IN A SANDBOX (cutbox-door.mjs). By AI agents, Wed Nov 11 2026. No macro, syntax, notation, axiom, sorry.
-/
import Derived.Test.YtolmifddbjdepaaDoorRows
import GoSem.ClaimSeven
namespace Go.Proofs.YtolmifddbjdepaaDoor
namespace Rows

/-- THE TIED CARD OF 'posthouselaw1.QuotedEncodeMatchesSpec'. -/
def quotedEncodeMatchesSpecCard : Claim7 := { stood := { row := quotedEncodeMatchesSpecRow, standIns := [], harness := (true, "f33d1f547bd4cac899bad3dd58f6e81bcb59f84e114b34bc92c12a287d5c3fb7"), looks := false }, kinds := [], alts := [], laidByText := true, laidKinds := [.data, .pinned], laidTests := true, laidLooks := .later }
def QuotedEncodeMatchesSpecCardSaid : Prop := Claim7.holds Tryd.pinned (.plain (OpenSpec.ofChange quotedEncodeMatchesSpecSpec)) quotedEncodeMatchesSpecCard

/-- THE TIED CARD OF 'posthouselaw1.QuotedLenientMatchesSpec'. -/
def quotedLenientMatchesSpecCard : Claim7 := { stood := { row := quotedLenientMatchesSpecRow, standIns := [], harness := (true, "f33d1f547bd4cac899bad3dd58f6e81bcb59f84e114b34bc92c12a287d5c3fb7"), looks := false }, kinds := [], alts := [], laidByText := true, laidKinds := [.data, .pinned], laidTests := true, laidLooks := .later }
def QuotedLenientMatchesSpecCardSaid : Prop := Claim7.holds Tryd.pinned (.plain (OpenSpec.ofChange quotedLenientMatchesSpecSpec)) quotedLenientMatchesSpecCard

/-- THE TIED CARD OF 'posthouselaw1.QuotedRoundTrip'. -/
def quotedRoundTripCard : Claim7 := { stood := { row := quotedRoundTripRow, standIns := [], harness := (true, "f33d1f547bd4cac899bad3dd58f6e81bcb59f84e114b34bc92c12a287d5c3fb7"), looks := false }, kinds := [], alts := [], laidByText := true, laidKinds := [.data, .pinned], laidTests := true, laidLooks := .later }
def QuotedRoundTripCardSaid : Prop := Claim7.holds Tryd.pinned (.plain (OpenSpec.ofChange quotedRoundTripSpec)) quotedRoundTripCard

/-- THE TIED CARD OF 'posthouselaw1.QuotedUnique'. -/
def quotedUniqueCard : Claim7 := { stood := { row := quotedUniqueRow, standIns := [], harness := (true, "f33d1f547bd4cac899bad3dd58f6e81bcb59f84e114b34bc92c12a287d5c3fb7"), looks := false }, kinds := [], alts := [], laidByText := true, laidKinds := [.data, .pinned], laidTests := true, laidLooks := .later }
def QuotedUniqueCardSaid : Prop := Claim7.holds Tryd.pinned (.plain (OpenSpec.ofChange quotedUniqueSpec)) quotedUniqueCard

/-- THE TIED CARD OF 'posthouselaw1.QuotedLines'. -/
def quotedLinesCard : Claim7 := { stood := { row := quotedLinesRow, standIns := [], harness := (true, "f33d1f547bd4cac899bad3dd58f6e81bcb59f84e114b34bc92c12a287d5c3fb7"), looks := false }, kinds := [], alts := [], laidByText := true, laidKinds := [.data, .pinned], laidTests := true, laidLooks := .later }
def QuotedLinesCardSaid : Prop := Claim7.holds Tryd.pinned (.plain (OpenSpec.ofChange quotedLinesSpec)) quotedLinesCard

/-- THE TIED CARD OF 'posthouselaw1.FoldMatchesSpec'. -/
def foldMatchesSpecCard : Claim7 := { stood := { row := foldMatchesSpecRow, standIns := [], harness := (true, "f33d1f547bd4cac899bad3dd58f6e81bcb59f84e114b34bc92c12a287d5c3fb7"), looks := false }, kinds := [], alts := [], laidByText := true, laidKinds := [.data, .pinned], laidTests := true, laidLooks := .later }
def FoldMatchesSpecCardSaid : Prop := Claim7.holds Tryd.pinned (.plain (OpenSpec.ofChange foldMatchesSpecSpec)) foldMatchesSpecCard

/-- THE TIED CARD OF 'posthouselaw1.FoldRoundTrip'. -/
def foldRoundTripCard : Claim7 := { stood := { row := foldRoundTripRow, standIns := [], harness := (true, "f33d1f547bd4cac899bad3dd58f6e81bcb59f84e114b34bc92c12a287d5c3fb7"), looks := false }, kinds := [], alts := [], laidByText := true, laidKinds := [.data, .pinned], laidTests := true, laidLooks := .later }
def FoldRoundTripCardSaid : Prop := Claim7.holds Tryd.pinned (.plain (OpenSpec.ofChange foldRoundTripSpec)) foldRoundTripCard

/-- THE TIED CARD OF 'posthouselaw1.FoldShortLines'. -/
def foldShortLinesCard : Claim7 := { stood := { row := foldShortLinesRow, standIns := [], harness := (true, "f33d1f547bd4cac899bad3dd58f6e81bcb59f84e114b34bc92c12a287d5c3fb7"), looks := false }, kinds := [], alts := [], laidByText := true, laidKinds := [.data, .pinned], laidTests := true, laidLooks := .later }
def FoldShortLinesCardSaid : Prop := Claim7.holds Tryd.pinned (.plain (OpenSpec.ofChange foldShortLinesSpec)) foldShortLinesCard

/-- THE TIED CARD OF 'posthouselaw1.UnfoldMatchesSpec'. -/
def unfoldMatchesSpecCard : Claim7 := { stood := { row := unfoldMatchesSpecRow, standIns := [], harness := (true, "f33d1f547bd4cac899bad3dd58f6e81bcb59f84e114b34bc92c12a287d5c3fb7"), looks := false }, kinds := [], alts := [], laidByText := true, laidKinds := [.data, .pinned], laidTests := true, laidLooks := .later }
def UnfoldMatchesSpecCardSaid : Prop := Claim7.holds Tryd.pinned (.plain (OpenSpec.ofChange unfoldMatchesSpecSpec)) unfoldMatchesSpecCard

/-- THE SECOND FORM's CARD OF 'posthouselaw1.QuotedEncodeMatchesSpec'. -/
def quotedEncodeMatchesSpecUptoCard : Claim7 := { stood := { row := quotedEncodeMatchesSpecUptoRow, standIns := [], harness := (true, "f33d1f547bd4cac899bad3dd58f6e81bcb59f84e114b34bc92c12a287d5c3fb7"), looks := false }, kinds := [], alts := [], laidByText := true, laidKinds := [.data, .pinned], laidTests := true, laidLooks := .later }
def QuotedEncodeMatchesSpecUptoCardSaid : Prop := Claim7.holds Tryd.pinned (.plain (OpenSpec.upto quotedEncodeMatchesSpecSpec)) quotedEncodeMatchesSpecUptoCard

/-- THE SECOND FORM's CARD OF 'posthouselaw1.QuotedLenientMatchesSpec'. -/
def quotedLenientMatchesSpecUptoCard : Claim7 := { stood := { row := quotedLenientMatchesSpecUptoRow, standIns := [], harness := (true, "f33d1f547bd4cac899bad3dd58f6e81bcb59f84e114b34bc92c12a287d5c3fb7"), looks := false }, kinds := [], alts := [], laidByText := true, laidKinds := [.data, .pinned], laidTests := true, laidLooks := .later }
def QuotedLenientMatchesSpecUptoCardSaid : Prop := Claim7.holds Tryd.pinned (.plain (OpenSpec.upto quotedLenientMatchesSpecSpec)) quotedLenientMatchesSpecUptoCard

/-- THE SECOND FORM's CARD OF 'posthouselaw1.QuotedRoundTrip'. -/
def quotedRoundTripUptoCard : Claim7 := { stood := { row := quotedRoundTripUptoRow, standIns := [], harness := (true, "f33d1f547bd4cac899bad3dd58f6e81bcb59f84e114b34bc92c12a287d5c3fb7"), looks := false }, kinds := [], alts := [], laidByText := true, laidKinds := [.data, .pinned], laidTests := true, laidLooks := .later }
def QuotedRoundTripUptoCardSaid : Prop := Claim7.holds Tryd.pinned (.plain (OpenSpec.upto quotedRoundTripSpec)) quotedRoundTripUptoCard

/-- THE SECOND FORM's CARD OF 'posthouselaw1.QuotedUnique'. -/
def quotedUniqueUptoCard : Claim7 := { stood := { row := quotedUniqueUptoRow, standIns := [], harness := (true, "f33d1f547bd4cac899bad3dd58f6e81bcb59f84e114b34bc92c12a287d5c3fb7"), looks := false }, kinds := [], alts := [], laidByText := true, laidKinds := [.data, .pinned], laidTests := true, laidLooks := .later }
def QuotedUniqueUptoCardSaid : Prop := Claim7.holds Tryd.pinned (.plain (OpenSpec.upto quotedUniqueSpec)) quotedUniqueUptoCard

/-- THE SECOND FORM's CARD OF 'posthouselaw1.QuotedLines'. -/
def quotedLinesUptoCard : Claim7 := { stood := { row := quotedLinesUptoRow, standIns := [], harness := (true, "f33d1f547bd4cac899bad3dd58f6e81bcb59f84e114b34bc92c12a287d5c3fb7"), looks := false }, kinds := [], alts := [], laidByText := true, laidKinds := [.data, .pinned], laidTests := true, laidLooks := .later }
def QuotedLinesUptoCardSaid : Prop := Claim7.holds Tryd.pinned (.plain (OpenSpec.upto quotedLinesSpec)) quotedLinesUptoCard

/-- THE SECOND FORM's CARD OF 'posthouselaw1.FoldMatchesSpec'. -/
def foldMatchesSpecUptoCard : Claim7 := { stood := { row := foldMatchesSpecUptoRow, standIns := [], harness := (true, "f33d1f547bd4cac899bad3dd58f6e81bcb59f84e114b34bc92c12a287d5c3fb7"), looks := false }, kinds := [], alts := [], laidByText := true, laidKinds := [.data, .pinned], laidTests := true, laidLooks := .later }
def FoldMatchesSpecUptoCardSaid : Prop := Claim7.holds Tryd.pinned (.plain (OpenSpec.upto foldMatchesSpecSpec)) foldMatchesSpecUptoCard

/-- THE SECOND FORM's CARD OF 'posthouselaw1.FoldRoundTrip'. -/
def foldRoundTripUptoCard : Claim7 := { stood := { row := foldRoundTripUptoRow, standIns := [], harness := (true, "f33d1f547bd4cac899bad3dd58f6e81bcb59f84e114b34bc92c12a287d5c3fb7"), looks := false }, kinds := [], alts := [], laidByText := true, laidKinds := [.data, .pinned], laidTests := true, laidLooks := .later }
def FoldRoundTripUptoCardSaid : Prop := Claim7.holds Tryd.pinned (.plain (OpenSpec.upto foldRoundTripSpec)) foldRoundTripUptoCard

/-- THE SECOND FORM's CARD OF 'posthouselaw1.FoldShortLines'. -/
def foldShortLinesUptoCard : Claim7 := { stood := { row := foldShortLinesUptoRow, standIns := [], harness := (true, "f33d1f547bd4cac899bad3dd58f6e81bcb59f84e114b34bc92c12a287d5c3fb7"), looks := false }, kinds := [], alts := [], laidByText := true, laidKinds := [.data, .pinned], laidTests := true, laidLooks := .later }
def FoldShortLinesUptoCardSaid : Prop := Claim7.holds Tryd.pinned (.plain (OpenSpec.upto foldShortLinesSpec)) foldShortLinesUptoCard

/-- THE SECOND FORM's CARD OF 'posthouselaw1.UnfoldMatchesSpec'. -/
def unfoldMatchesSpecUptoCard : Claim7 := { stood := { row := unfoldMatchesSpecUptoRow, standIns := [], harness := (true, "f33d1f547bd4cac899bad3dd58f6e81bcb59f84e114b34bc92c12a287d5c3fb7"), looks := false }, kinds := [], alts := [], laidByText := true, laidKinds := [.data, .pinned], laidTests := true, laidLooks := .later }
def UnfoldMatchesSpecUptoCardSaid : Prop := Claim7.holds Tryd.pinned (.plain (OpenSpec.upto unfoldMatchesSpecSpec)) unfoldMatchesSpecUptoCard
end Rows
end Go.Proofs.YtolmifddbjdepaaDoor
