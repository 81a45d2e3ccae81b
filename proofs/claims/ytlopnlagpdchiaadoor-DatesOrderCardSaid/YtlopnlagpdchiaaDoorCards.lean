/-
  DERIVED. GIVEN WITH THE SEED: THE CARDS: each row of YtlopnlagpdchiaaDoorRows.lean that lists a variable, with what it lists TIED to the program's text (the seventh form; the later family's looks); each row that meets fmt, with fmt's text TOLD by the authors' own Lean function (tested against real Go, not proved from fmt's source: count such statements apart). THE CARD IS WHAT COUNTS. Prove the row's statement (the work); the ties are given (YtlopnlagpdchiaaDoorTie.lean); close each card by the builder's one call (the guide's Derived/Test/ToyasCard.lean, 'card_holds'). Laid BY PROGRAM, IN A SANDBOX (cutbox-door.mjs). By AI agents, Wed Nov 11 2026. No macro, syntax, notation, axiom, sorry.
-/
import Derived.Test.YtlopnlagpdchiaaDoorRows
import GoSem.ClaimSeven
namespace Go.Proofs.YtlopnlagpdchiaaDoor
namespace Rows

/-- THE TIED CARD OF 'posthouselaw1.DatesRoundTrip'. -/
def datesRoundTripCard : Claim7 := { stood := { row := datesRoundTripRow, standIns := [], harness := (true, "6b38b53a158c98c5cde681ec8ad039274e79c14cc4e810da0428544f57f18aa1"), looks := true }, kinds := [], alts := [], laidByText := true, laidKinds := [.data, .data, .data, .data, .sentinel, .sentinel, .pinned], laidTests := true, laidLooks := .later }
def DatesRoundTripCardSaid : Prop := Claim7.holds Tryd.pinned (.plain (OpenSpec.ofChange datesRoundTripSpec)) datesRoundTripCard

/-- THE TIED CARD OF 'posthouselaw1.DatesOrder'. -/
def datesOrderCard : Claim7 := { stood := { row := datesOrderRow, standIns := [], harness := (true, "6b38b53a158c98c5cde681ec8ad039274e79c14cc4e810da0428544f57f18aa1"), looks := true }, kinds := [], alts := [], laidByText := true, laidKinds := [.data, .data, .data, .data, .sentinel, .sentinel, .pinned], laidTests := true, laidLooks := .later }
def DatesOrderCardSaid : Prop := Claim7.holds Tryd.pinned (.plain (OpenSpec.ofChange datesOrderSpec)) datesOrderCard

/-- THE SECOND FORM's CARD OF 'posthouselaw1.DatesRoundTrip'. -/
def datesRoundTripUptoCard : Claim7 := { stood := { row := datesRoundTripUptoRow, standIns := [], harness := (true, "6b38b53a158c98c5cde681ec8ad039274e79c14cc4e810da0428544f57f18aa1"), looks := true }, kinds := [], alts := [], laidByText := true, laidKinds := [.data, .data, .data, .data, .sentinel, .sentinel, .pinned], laidTests := true, laidLooks := .later }
def DatesRoundTripUptoCardSaid : Prop := Claim7.holds Tryd.pinned (.plain (OpenSpec.upto datesRoundTripSpec)) datesRoundTripUptoCard

/-- THE SECOND FORM's CARD OF 'posthouselaw1.DatesOrder'. -/
def datesOrderUptoCard : Claim7 := { stood := { row := datesOrderUptoRow, standIns := [], harness := (true, "6b38b53a158c98c5cde681ec8ad039274e79c14cc4e810da0428544f57f18aa1"), looks := true }, kinds := [], alts := [], laidByText := true, laidKinds := [.data, .data, .data, .data, .sentinel, .sentinel, .pinned], laidTests := true, laidLooks := .later }
def DatesOrderUptoCardSaid : Prop := Claim7.holds Tryd.pinned (.plain (OpenSpec.upto datesOrderSpec)) datesOrderUptoCard
end Rows
end Go.Proofs.YtlopnlagpdchiaaDoor
