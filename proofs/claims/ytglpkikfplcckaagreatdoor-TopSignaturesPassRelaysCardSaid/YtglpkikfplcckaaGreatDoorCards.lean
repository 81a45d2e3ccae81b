/-
  DERIVED. GIVEN WITH THE SEED: THE CARDS: each row of YtglpkikfplcckaaGreatDoorRows.lean that lists a variable, with what it lists TIED to the program's text (the seventh form; the later family's looks); each row that meets fmt, with fmt's text TOLD by the authors' own Lean function (tested against real Go, not proved from fmt's source: count such statements apart). THE CARD IS WHAT COUNTS. Prove the row's statement (the work); the ties are given (YtglpkikfplcckaaGreatDoorTie.lean); close each card by the builder's one call (the guide's Derived/Test/ToyasCard.lean, 'card_holds'). Laid BY PROGRAM, IN A SANDBOX (cutbox-door.mjs). By AI agents, Wed Nov 11 2026. No macro, syntax, notation, axiom, sorry.
-/
import Derived.Test.YtglpkikfplcckaaGreatDoorRows
import GoSem.ClaimSeven
namespace Go.Proofs.YtglpkikfplcckaaGreatDoor
namespace Rows

/-- THE TIED CARD OF 'posthousetop.TopSignaturesPassRelays'. -/
def topSignaturesPassRelaysCard : Claim7 := { stood := { row := topSignaturesPassRelaysRow, standIns := [], harness := (true, "70a2559d23cb9228cee2313949a45161c8717b3ca0c3c577d582e72d28e1a217"), looks := true }, kinds := [], alts := [], laidByText := true, laidKinds := [.data, .data, .data, .data, .sentinel, .sentinel, .pinned], laidTests := true, laidLooks := .later }
def TopSignaturesPassRelaysCardSaid : Prop := Claim7.holds Tryz.pinned (.plain (OpenSpec.ofChange topSignaturesPassRelaysSpec)) topSignaturesPassRelaysCard

/-- THE SECOND FORM's CARD OF 'posthousetop.TopSignaturesPassRelays'. -/
def topSignaturesPassRelaysUptoCard : Claim7 := { stood := { row := topSignaturesPassRelaysUptoRow, standIns := [], harness := (true, "70a2559d23cb9228cee2313949a45161c8717b3ca0c3c577d582e72d28e1a217"), looks := true }, kinds := [], alts := [], laidByText := true, laidKinds := [.data, .data, .data, .data, .sentinel, .sentinel, .pinned], laidTests := true, laidLooks := .later }
def TopSignaturesPassRelaysUptoCardSaid : Prop := Claim7.holds Tryz.pinned (.plain (OpenSpec.upto topSignaturesPassRelaysSpec)) topSignaturesPassRelaysUptoCard
end Rows
end Go.Proofs.YtglpkikfplcckaaGreatDoor
