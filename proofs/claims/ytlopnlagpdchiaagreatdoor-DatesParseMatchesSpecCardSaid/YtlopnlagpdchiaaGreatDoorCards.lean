/-
  DERIVED. GIVEN WITH THE SEED: THE CARDS: each row of YtlopnlagpdchiaaGreatDoorRows.lean that lists a variable, with what it lists TIED to the program's text (the seventh form; the later family's looks); each row that meets fmt, with fmt's text TOLD by the authors' own Lean function (tested against real Go, not proved from fmt's source: count such statements apart). THE CARD IS WHAT COUNTS. Prove the row's statement (the work); the ties are given (YtlopnlagpdchiaaGreatDoorTie.lean); close each card by the builder's one call (the guide's Derived/Test/ToyasCard.lean, 'card_holds'). Laid BY PROGRAM, IN A SANDBOX (cutbox-door.mjs). By AI agents, Wed Nov 11 2026. No macro, syntax, notation, axiom, sorry.
-/
import Derived.Test.YtlopnlagpdchiaaGreatDoorRows
import GoSem.ClaimSeven
namespace Go.Proofs.YtlopnlagpdchiaaGreatDoor
namespace Rows

/-- THE TIED CARD OF 'posthouselaw1.DatesInstantMatchesSpec'. -/
def datesInstantMatchesSpecCard : Claim7 := { stood := { row := datesInstantMatchesSpecRow, standIns := [], harness := (true, "0fb229bd1b182395dffbf5fb4a627f39939f8866a6d8ec23ebc126fe8930463d"), looks := true }, kinds := [], alts := [], laidByText := true, laidKinds := [.data, .data, .data, .data, .sentinel, .sentinel, .pinned], laidTests := true, laidLooks := .later }
def DatesInstantMatchesSpecCardSaid : Prop := Claim7.holds Tryz.pinned (.plain (OpenSpec.ofChange datesInstantMatchesSpecSpec)) datesInstantMatchesSpecCard

/-- THE TIED CARD OF 'posthouselaw1.DatesCivilMatchesSpec'. -/
def datesCivilMatchesSpecCard : Claim7 := { stood := { row := datesCivilMatchesSpecRow, standIns := [], harness := (true, "0fb229bd1b182395dffbf5fb4a627f39939f8866a6d8ec23ebc126fe8930463d"), looks := true }, kinds := [], alts := [], laidByText := true, laidKinds := [.data, .data, .data, .data, .sentinel, .sentinel, .pinned], laidTests := true, laidLooks := .later }
def DatesCivilMatchesSpecCardSaid : Prop := Claim7.holds Tryz.pinned (.plain (OpenSpec.ofChange datesCivilMatchesSpecSpec)) datesCivilMatchesSpecCard

/-- THE TIED CARD OF 'posthouselaw1.DatesTextMatchesSpec'. -/
def datesTextMatchesSpecCard : Claim7 := { stood := { row := datesTextMatchesSpecRow, standIns := [], harness := (true, "0fb229bd1b182395dffbf5fb4a627f39939f8866a6d8ec23ebc126fe8930463d"), looks := true }, kinds := [], alts := [], laidByText := true, laidKinds := [.data, .data, .data, .data, .sentinel, .sentinel, .pinned], laidTests := true, laidLooks := .later }
def DatesTextMatchesSpecCardSaid : Prop := Claim7.holds Tryz.pinned (.plain (OpenSpec.ofChange datesTextMatchesSpecSpec)) datesTextMatchesSpecCard

/-- THE TIED CARD OF 'posthouselaw1.DatesParseMatchesSpec'. -/
def datesParseMatchesSpecCard : Claim7 := { stood := { row := datesParseMatchesSpecRow, standIns := [], harness := (true, "0fb229bd1b182395dffbf5fb4a627f39939f8866a6d8ec23ebc126fe8930463d"), looks := true }, kinds := [], alts := [], laidByText := true, laidKinds := [.data, .data, .data, .data, .sentinel, .sentinel, .pinned], laidTests := true, laidLooks := .later }
def DatesParseMatchesSpecCardSaid : Prop := Claim7.holds Tryz.pinned (.plain (OpenSpec.ofChange datesParseMatchesSpecSpec)) datesParseMatchesSpecCard

/-- THE SECOND FORM's CARD OF 'posthouselaw1.DatesInstantMatchesSpec'. -/
def datesInstantMatchesSpecUptoCard : Claim7 := { stood := { row := datesInstantMatchesSpecUptoRow, standIns := [], harness := (true, "0fb229bd1b182395dffbf5fb4a627f39939f8866a6d8ec23ebc126fe8930463d"), looks := true }, kinds := [], alts := [], laidByText := true, laidKinds := [.data, .data, .data, .data, .sentinel, .sentinel, .pinned], laidTests := true, laidLooks := .later }
def DatesInstantMatchesSpecUptoCardSaid : Prop := Claim7.holds Tryz.pinned (.plain (OpenSpec.upto datesInstantMatchesSpecSpec)) datesInstantMatchesSpecUptoCard

/-- THE SECOND FORM's CARD OF 'posthouselaw1.DatesCivilMatchesSpec'. -/
def datesCivilMatchesSpecUptoCard : Claim7 := { stood := { row := datesCivilMatchesSpecUptoRow, standIns := [], harness := (true, "0fb229bd1b182395dffbf5fb4a627f39939f8866a6d8ec23ebc126fe8930463d"), looks := true }, kinds := [], alts := [], laidByText := true, laidKinds := [.data, .data, .data, .data, .sentinel, .sentinel, .pinned], laidTests := true, laidLooks := .later }
def DatesCivilMatchesSpecUptoCardSaid : Prop := Claim7.holds Tryz.pinned (.plain (OpenSpec.upto datesCivilMatchesSpecSpec)) datesCivilMatchesSpecUptoCard

/-- THE SECOND FORM's CARD OF 'posthouselaw1.DatesTextMatchesSpec'. -/
def datesTextMatchesSpecUptoCard : Claim7 := { stood := { row := datesTextMatchesSpecUptoRow, standIns := [], harness := (true, "0fb229bd1b182395dffbf5fb4a627f39939f8866a6d8ec23ebc126fe8930463d"), looks := true }, kinds := [], alts := [], laidByText := true, laidKinds := [.data, .data, .data, .data, .sentinel, .sentinel, .pinned], laidTests := true, laidLooks := .later }
def DatesTextMatchesSpecUptoCardSaid : Prop := Claim7.holds Tryz.pinned (.plain (OpenSpec.upto datesTextMatchesSpecSpec)) datesTextMatchesSpecUptoCard

/-- THE SECOND FORM's CARD OF 'posthouselaw1.DatesParseMatchesSpec'. -/
def datesParseMatchesSpecUptoCard : Claim7 := { stood := { row := datesParseMatchesSpecUptoRow, standIns := [], harness := (true, "0fb229bd1b182395dffbf5fb4a627f39939f8866a6d8ec23ebc126fe8930463d"), looks := true }, kinds := [], alts := [], laidByText := true, laidKinds := [.data, .data, .data, .data, .sentinel, .sentinel, .pinned], laidTests := true, laidLooks := .later }
def DatesParseMatchesSpecUptoCardSaid : Prop := Claim7.holds Tryz.pinned (.plain (OpenSpec.upto datesParseMatchesSpecSpec)) datesParseMatchesSpecUptoCard
end Rows
end Go.Proofs.YtlopnlagpdchiaaGreatDoor
