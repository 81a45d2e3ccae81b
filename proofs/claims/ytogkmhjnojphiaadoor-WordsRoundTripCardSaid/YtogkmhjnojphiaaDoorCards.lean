/-
  DERIVED. GIVEN WITH THE SEED: THE CARDS: each row of YtogkmhjnojphiaaDoorRows.lean that lists a variable, with what it lists TIED to the program's text (the seventh form; the later family's looks); each row that meets fmt, with fmt's text TOLD by the authors' own Lean function (tested against real Go, not proved from fmt's source: count such statements apart). THE CARD IS WHAT COUNTS. Prove the row's statement (the work); the ties are given (YtogkmhjnojphiaaDoorTie.lean); close each card by the builder's one call (the guide's Derived/Test/ToyasCard.lean, 'card_holds'). Laid BY PROGRAM, IN A SANDBOX (cutbox-door.mjs). By AI agents, Wed Nov 11 2026. No macro, syntax, notation, axiom, sorry.
-/
import Derived.Test.YtogkmhjnojphiaaDoorRows
import GoSem.ClaimSeven
namespace Go.Proofs.YtogkmhjnojphiaaDoor
namespace Rows

/-- THE TIED CARD OF 'posthouselaw1.WordsRoundTrip'. -/
def wordsRoundTripCard : Claim7 := { stood := { row := wordsRoundTripRow, standIns := [], harness := (true, "58b59f966fb82cf9687d4d8b5ad4b5e6b2f4bafa4105e8e040cf2db6e6248fed"), looks := false }, kinds := [], alts := [], laidByText := true, laidKinds := [.data, .pinned], laidTests := true, laidLooks := .later }
def WordsRoundTripCardSaid : Prop := Claim7.holds Tryd.pinned (.plain (OpenSpec.ofChange wordsRoundTripSpec)) wordsRoundTripCard

/-- THE TIED CARD OF 'posthouselaw1.WordsPrintable'. -/
def wordsPrintableCard : Claim7 := { stood := { row := wordsPrintableRow, standIns := [], harness := (true, "58b59f966fb82cf9687d4d8b5ad4b5e6b2f4bafa4105e8e040cf2db6e6248fed"), looks := false }, kinds := [], alts := [], laidByText := true, laidKinds := [.data, .pinned], laidTests := true, laidLooks := .later }
def WordsPrintableCardSaid : Prop := Claim7.holds Tryd.pinned (.plain (OpenSpec.ofChange wordsPrintableSpec)) wordsPrintableCard

/-- THE SECOND FORM's CARD OF 'posthouselaw1.WordsRoundTrip'. -/
def wordsRoundTripUptoCard : Claim7 := { stood := { row := wordsRoundTripUptoRow, standIns := [], harness := (true, "58b59f966fb82cf9687d4d8b5ad4b5e6b2f4bafa4105e8e040cf2db6e6248fed"), looks := false }, kinds := [], alts := [], laidByText := true, laidKinds := [.data, .pinned], laidTests := true, laidLooks := .later }
def WordsRoundTripUptoCardSaid : Prop := Claim7.holds Tryd.pinned (.plain (OpenSpec.upto wordsRoundTripSpec)) wordsRoundTripUptoCard

/-- THE SECOND FORM's CARD OF 'posthouselaw1.WordsPrintable'. -/
def wordsPrintableUptoCard : Claim7 := { stood := { row := wordsPrintableUptoRow, standIns := [], harness := (true, "58b59f966fb82cf9687d4d8b5ad4b5e6b2f4bafa4105e8e040cf2db6e6248fed"), looks := false }, kinds := [], alts := [], laidByText := true, laidKinds := [.data, .pinned], laidTests := true, laidLooks := .later }
def WordsPrintableUptoCardSaid : Prop := Claim7.holds Tryd.pinned (.plain (OpenSpec.upto wordsPrintableSpec)) wordsPrintableUptoCard
end Rows
end Go.Proofs.YtogkmhjnojphiaaDoor
