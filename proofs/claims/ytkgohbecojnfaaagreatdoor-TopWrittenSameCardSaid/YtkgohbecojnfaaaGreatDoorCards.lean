/-
  DERIVED. GIVEN WITH THE SEED: THE CARDS: each row of YtkgohbecojnfaaaGreatDoorRows.lean that lists a variable, with what it lists TIED to the program's text (the seventh form; the later family's looks); each row that meets fmt, with fmt's text TOLD by the authors' own Lean function (tested against real Go, not proved from fmt's source: count such statements apart). THE CARD IS WHAT COUNTS. Prove the row's statement (the work); the ties are given (YtkgohbecojnfaaaGreatDoorTie.lean); close each card by the builder's one call (the guide's Derived/Test/ToyasCard.lean, 'card_holds'). Laid BY PROGRAM, IN A SANDBOX (cutbox-door.mjs). By AI agents, Wed Nov 11 2026. No macro, syntax, notation, axiom, sorry.
-/
import Derived.Test.YtkgohbecojnfaaaGreatDoorRows
import GoSem.ClaimSeven
namespace Go.Proofs.YtkgohbecojnfaaaGreatDoor
namespace Rows

/-- THE TIED CARD OF 'posthousetop.TopWrittenSame'. -/
def topWrittenSameCard : Claim7 := { stood := { row := topWrittenSameRow, standIns := [], harness := (true, "b6a96dd908bfbf1dbc9e96958fce72f1121d7748c054c6203a3969a3d1f31c28"), looks := true }, kinds := [], alts := [], laidByText := true, laidKinds := [.data, .data, .data, .data, .sentinel, .sentinel, .pinned], laidTests := true, laidLooks := .later }
def TopWrittenSameCardSaid : Prop := Claim7.holds Tryz.pinned (.plain (OpenSpec.ofChange topWrittenSameSpec)) topWrittenSameCard

/-- THE TIED CARD OF 'posthousetop.TopDividedSame'. -/
def topDividedSameCard : Claim7 := { stood := { row := topDividedSameRow, standIns := [], harness := (true, "b6a96dd908bfbf1dbc9e96958fce72f1121d7748c054c6203a3969a3d1f31c28"), looks := true }, kinds := [], alts := [], laidByText := true, laidKinds := [.data, .data, .data, .data, .sentinel, .sentinel, .pinned], laidTests := true, laidLooks := .later }
def TopDividedSameCardSaid : Prop := Claim7.holds Tryz.pinned (.plain (OpenSpec.ofChange topDividedSameSpec)) topDividedSameCard

/-- THE SECOND FORM's CARD OF 'posthousetop.TopWrittenSame'. -/
def topWrittenSameUptoCard : Claim7 := { stood := { row := topWrittenSameUptoRow, standIns := [], harness := (true, "b6a96dd908bfbf1dbc9e96958fce72f1121d7748c054c6203a3969a3d1f31c28"), looks := true }, kinds := [], alts := [], laidByText := true, laidKinds := [.data, .data, .data, .data, .sentinel, .sentinel, .pinned], laidTests := true, laidLooks := .later }
def TopWrittenSameUptoCardSaid : Prop := Claim7.holds Tryz.pinned (.plain (OpenSpec.upto topWrittenSameSpec)) topWrittenSameUptoCard

/-- THE SECOND FORM's CARD OF 'posthousetop.TopDividedSame'. -/
def topDividedSameUptoCard : Claim7 := { stood := { row := topDividedSameUptoRow, standIns := [], harness := (true, "b6a96dd908bfbf1dbc9e96958fce72f1121d7748c054c6203a3969a3d1f31c28"), looks := true }, kinds := [], alts := [], laidByText := true, laidKinds := [.data, .data, .data, .data, .sentinel, .sentinel, .pinned], laidTests := true, laidLooks := .later }
def TopDividedSameUptoCardSaid : Prop := Claim7.holds Tryz.pinned (.plain (OpenSpec.upto topDividedSameSpec)) topDividedSameUptoCard
end Rows
end Go.Proofs.YtkgohbecojnfaaaGreatDoor
