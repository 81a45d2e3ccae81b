/-
  DERIVED. GIVEN WITH THE SEED: THE CARDS: each row of YtkmjdamkifbddaaGreatDoorRows.lean that lists a variable, with what it lists TIED to the program's text (the seventh form; the later family's looks); each row that meets fmt, with fmt's text TOLD by the authors' own Lean function (tested against real Go, not proved from fmt's source: count such statements apart). THE CARD IS WHAT COUNTS. Prove the row's statement (the work); the ties are given (YtkmjdamkifbddaaGreatDoorTie.lean); close each card by the builder's one call (the guide's Derived/Test/ToyasCard.lean, 'card_holds'). Laid BY PROGRAM, IN A SANDBOX (cutbox-door.mjs). By AI agents, Wed Nov 11 2026. No macro, syntax, notation, axiom, sorry.
-/
import Derived.Test.YtkmjdamkifbddaaGreatDoorRows
import GoSem.ClaimSeven
namespace Go.Proofs.YtkmjdamkifbddaaGreatDoor
namespace Rows

/-- THE TIED CARD OF 'posthouselaw1.AddressCheckMatchesSpec'. -/
def addressCheckMatchesSpecCard : Claim7 := { stood := { row := addressCheckMatchesSpecRow, standIns := [], harness := (true, "51c7cde52d68b132f62c87236fccbcbfd545316583a953f8d4e5880758934cca"), looks := true }, kinds := [], alts := [], laidByText := true, laidKinds := [.data, .pinned], laidTests := true, laidLooks := .later }
def AddressCheckMatchesSpecCardSaid : Prop := Claim7.holds Tryz.pinned (.plain (OpenSpec.ofChange addressCheckMatchesSpecSpec)) addressCheckMatchesSpecCard

/-- THE TIED CARD OF 'posthouselaw1.AddressPrintMatchesSpec'. -/
def addressPrintMatchesSpecCard : Claim7 := { stood := { row := addressPrintMatchesSpecRow, standIns := [], harness := (true, "51c7cde52d68b132f62c87236fccbcbfd545316583a953f8d4e5880758934cca"), looks := true }, kinds := [], alts := [], laidByText := true, laidKinds := [.data, .pinned], laidTests := true, laidLooks := .later }
def AddressPrintMatchesSpecCardSaid : Prop := Claim7.holds Tryz.pinned (.plain (OpenSpec.ofChange addressPrintMatchesSpecSpec)) addressPrintMatchesSpecCard

/-- THE TIED CARD OF 'posthouselaw1.AddressParseMatchesSpec'. -/
def addressParseMatchesSpecCard : Claim7 := { stood := { row := addressParseMatchesSpecRow, standIns := [], harness := (true, "51c7cde52d68b132f62c87236fccbcbfd545316583a953f8d4e5880758934cca"), looks := true }, kinds := [], alts := [], laidByText := true, laidKinds := [.data, .pinned], laidTests := true, laidLooks := .later }
def AddressParseMatchesSpecCardSaid : Prop := Claim7.holds Tryz.pinned (.plain (OpenSpec.ofChange addressParseMatchesSpecSpec)) addressParseMatchesSpecCard

/-- THE TIED CARD OF 'posthouselaw1.AddressNormalMatchesSpec'. -/
def addressNormalMatchesSpecCard : Claim7 := { stood := { row := addressNormalMatchesSpecRow, standIns := [], harness := (true, "51c7cde52d68b132f62c87236fccbcbfd545316583a953f8d4e5880758934cca"), looks := true }, kinds := [], alts := [], laidByText := true, laidKinds := [.data, .pinned], laidTests := true, laidLooks := .later }
def AddressNormalMatchesSpecCardSaid : Prop := Claim7.holds Tryz.pinned (.plain (OpenSpec.ofChange addressNormalMatchesSpecSpec)) addressNormalMatchesSpecCard

/-- THE TIED CARD OF 'posthouselaw1.AddressComments'. -/
def addressCommentsCard : Claim7 := { stood := { row := addressCommentsRow, standIns := [], harness := (true, "51c7cde52d68b132f62c87236fccbcbfd545316583a953f8d4e5880758934cca"), looks := true }, kinds := [], alts := [], laidByText := true, laidKinds := [.data, .pinned], laidTests := true, laidLooks := .later }
def AddressCommentsCardSaid : Prop := Claim7.holds Tryz.pinned (.plain (OpenSpec.ofChange addressCommentsSpec)) addressCommentsCard

/-- THE TIED CARD OF 'posthouselaw1.AddressRoundTrip'. -/
def addressRoundTripCard : Claim7 := { stood := { row := addressRoundTripRow, standIns := [], harness := (true, "51c7cde52d68b132f62c87236fccbcbfd545316583a953f8d4e5880758934cca"), looks := true }, kinds := [], alts := [], laidByText := true, laidKinds := [.data, .pinned], laidTests := true, laidLooks := .later }
def AddressRoundTripCardSaid : Prop := Claim7.holds Tryz.pinned (.plain (OpenSpec.ofChange addressRoundTripSpec)) addressRoundTripCard

/-- THE SECOND FORM's CARD OF 'posthouselaw1.AddressCheckMatchesSpec'. -/
def addressCheckMatchesSpecUptoCard : Claim7 := { stood := { row := addressCheckMatchesSpecUptoRow, standIns := [], harness := (true, "51c7cde52d68b132f62c87236fccbcbfd545316583a953f8d4e5880758934cca"), looks := true }, kinds := [], alts := [], laidByText := true, laidKinds := [.data, .pinned], laidTests := true, laidLooks := .later }
def AddressCheckMatchesSpecUptoCardSaid : Prop := Claim7.holds Tryz.pinned (.plain (OpenSpec.upto addressCheckMatchesSpecSpec)) addressCheckMatchesSpecUptoCard

/-- THE SECOND FORM's CARD OF 'posthouselaw1.AddressPrintMatchesSpec'. -/
def addressPrintMatchesSpecUptoCard : Claim7 := { stood := { row := addressPrintMatchesSpecUptoRow, standIns := [], harness := (true, "51c7cde52d68b132f62c87236fccbcbfd545316583a953f8d4e5880758934cca"), looks := true }, kinds := [], alts := [], laidByText := true, laidKinds := [.data, .pinned], laidTests := true, laidLooks := .later }
def AddressPrintMatchesSpecUptoCardSaid : Prop := Claim7.holds Tryz.pinned (.plain (OpenSpec.upto addressPrintMatchesSpecSpec)) addressPrintMatchesSpecUptoCard

/-- THE SECOND FORM's CARD OF 'posthouselaw1.AddressParseMatchesSpec'. -/
def addressParseMatchesSpecUptoCard : Claim7 := { stood := { row := addressParseMatchesSpecUptoRow, standIns := [], harness := (true, "51c7cde52d68b132f62c87236fccbcbfd545316583a953f8d4e5880758934cca"), looks := true }, kinds := [], alts := [], laidByText := true, laidKinds := [.data, .pinned], laidTests := true, laidLooks := .later }
def AddressParseMatchesSpecUptoCardSaid : Prop := Claim7.holds Tryz.pinned (.plain (OpenSpec.upto addressParseMatchesSpecSpec)) addressParseMatchesSpecUptoCard

/-- THE SECOND FORM's CARD OF 'posthouselaw1.AddressNormalMatchesSpec'. -/
def addressNormalMatchesSpecUptoCard : Claim7 := { stood := { row := addressNormalMatchesSpecUptoRow, standIns := [], harness := (true, "51c7cde52d68b132f62c87236fccbcbfd545316583a953f8d4e5880758934cca"), looks := true }, kinds := [], alts := [], laidByText := true, laidKinds := [.data, .pinned], laidTests := true, laidLooks := .later }
def AddressNormalMatchesSpecUptoCardSaid : Prop := Claim7.holds Tryz.pinned (.plain (OpenSpec.upto addressNormalMatchesSpecSpec)) addressNormalMatchesSpecUptoCard

/-- THE SECOND FORM's CARD OF 'posthouselaw1.AddressComments'. -/
def addressCommentsUptoCard : Claim7 := { stood := { row := addressCommentsUptoRow, standIns := [], harness := (true, "51c7cde52d68b132f62c87236fccbcbfd545316583a953f8d4e5880758934cca"), looks := true }, kinds := [], alts := [], laidByText := true, laidKinds := [.data, .pinned], laidTests := true, laidLooks := .later }
def AddressCommentsUptoCardSaid : Prop := Claim7.holds Tryz.pinned (.plain (OpenSpec.upto addressCommentsSpec)) addressCommentsUptoCard

/-- THE SECOND FORM's CARD OF 'posthouselaw1.AddressRoundTrip'. -/
def addressRoundTripUptoCard : Claim7 := { stood := { row := addressRoundTripUptoRow, standIns := [], harness := (true, "51c7cde52d68b132f62c87236fccbcbfd545316583a953f8d4e5880758934cca"), looks := true }, kinds := [], alts := [], laidByText := true, laidKinds := [.data, .pinned], laidTests := true, laidLooks := .later }
def AddressRoundTripUptoCardSaid : Prop := Claim7.holds Tryz.pinned (.plain (OpenSpec.upto addressRoundTripSpec)) addressRoundTripUptoCard
end Rows
end Go.Proofs.YtkmjdamkifbddaaGreatDoor
