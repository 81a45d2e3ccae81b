/-
  DERIVED. GIVEN WITH THE SEED: THE CARDS: each row of YtgicephoflppiaaGreatDoorRows.lean that lists a variable, with what it lists TIED to the program's text (the seventh form; the later family's looks); each row that meets fmt, with fmt's text TOLD by the authors' own Lean function (tested against real Go, not proved from fmt's source: count such statements apart). THE CARD IS WHAT COUNTS. Prove the row's statement (the work); the ties are given (YtgicephoflppiaaGreatDoorTie.lean); close each card by the builder's one call (the guide's Derived/Test/ToyasCard.lean, 'card_holds'). Laid BY PROGRAM, IN A SANDBOX (cutbox-door.mjs). By AI agents, Wed Nov 11 2026. No macro, syntax, notation, axiom, sorry.
-/
import Derived.Test.YtgicephoflppiaaGreatDoorRows
import GoSem.ClaimSeven
namespace Go.Proofs.YtgicephoflppiaaGreatDoor
namespace Rows

/-- THE TIED CARD OF 'posthousetop.TopKeptMessagesAreFiled'. -/
def topKeptMessagesAreFiledCard : Claim7 := { stood := { row := topKeptMessagesAreFiledRow, standIns := [], harness := (true, "bceb7ceb6a9753addf78c4312b3cde00a5e7b56e8387359b5947475e11e065b7"), looks := true }, kinds := [], alts := [], laidByText := true, laidKinds := [.data, .data, .data, .data, .sentinel, .sentinel, .pinned], laidTests := true, laidLooks := .later }
def TopKeptMessagesAreFiledCardSaid : Prop := Claim7.holds Tryz.pinned (.plain (OpenSpec.ofChange topKeptMessagesAreFiledSpec)) topKeptMessagesAreFiledCard

/-- THE SECOND FORM's CARD OF 'posthousetop.TopKeptMessagesAreFiled'. -/
def topKeptMessagesAreFiledUptoCard : Claim7 := { stood := { row := topKeptMessagesAreFiledUptoRow, standIns := [], harness := (true, "bceb7ceb6a9753addf78c4312b3cde00a5e7b56e8387359b5947475e11e065b7"), looks := true }, kinds := [], alts := [], laidByText := true, laidKinds := [.data, .data, .data, .data, .sentinel, .sentinel, .pinned], laidTests := true, laidLooks := .later }
def TopKeptMessagesAreFiledUptoCardSaid : Prop := Claim7.holds Tryz.pinned (.plain (OpenSpec.upto topKeptMessagesAreFiledSpec)) topKeptMessagesAreFiledUptoCard
end Rows
end Go.Proofs.YtgicephoflppiaaGreatDoor
