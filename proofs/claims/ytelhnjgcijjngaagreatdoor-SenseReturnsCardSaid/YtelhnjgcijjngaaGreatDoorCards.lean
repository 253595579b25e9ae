/-
  DERIVED. GIVEN WITH THE SEED: THE CARDS: each row of YtelhnjgcijjngaaGreatDoorRows.lean that lists a variable, with what it lists TIED to the program's text (the seventh form; the later family's looks); each row that meets fmt, with fmt's text TOLD by the authors' own Lean function (tested against real Go, not proved from fmt's source: count such statements apart). THE CARD IS WHAT COUNTS. Prove the row's statement (the work); the ties are given (YtelhnjgcijjngaaGreatDoorTie.lean); close each card by the builder's one call (the guide's Derived/Test/ToyasCard.lean, 'card_holds'). Laid BY PROGRAM, IN A SANDBOX (cutbox-door.mjs). By AI agents, Wed Nov 11 2026. No macro, syntax, notation, axiom, sorry.
-/
import Derived.Test.YtelhnjgcijjngaaGreatDoorRows
import GoSem.ClaimSeven
namespace Go.Proofs.YtelhnjgcijjngaaGreatDoor
namespace Rows

/-- THE TIED CARD OF 'twinshaftlaw28.SenseReturns'. -/
def senseReturnsCard : Claim7 := { stood := { row := senseReturnsRow, standIns := [], harness := (true, "86c10643bd1575a1aeb01be3f352c60881a517558f843d04849868417b5de58a"), looks := true }, kinds := [], alts := [], laidByText := true, laidKinds := [.data, .listed, .pinned, .data, .pinned, .sentinel, .sentinel, .data, .data, .data], laidTests := true, laidLooks := .later }
def SenseReturnsCardSaid : Prop := Claim7.holds Tryz.pinned (.plain (OpenSpec.ofChange senseReturnsSpec)) senseReturnsCard

/-- THE SECOND FORM's CARD OF 'twinshaftlaw28.SenseReturns'. -/
def senseReturnsUptoCard : Claim7 := { stood := { row := senseReturnsUptoRow, standIns := [], harness := (true, "86c10643bd1575a1aeb01be3f352c60881a517558f843d04849868417b5de58a"), looks := true }, kinds := [], alts := [], laidByText := true, laidKinds := [.data, .listed, .pinned, .data, .pinned, .sentinel, .sentinel, .data, .data, .data], laidTests := true, laidLooks := .later }
def SenseReturnsUptoCardSaid : Prop := Claim7.holds Tryz.pinned (.plain (OpenSpec.upto senseReturnsSpec)) senseReturnsUptoCard
end Rows
end Go.Proofs.YtelhnjgcijjngaaGreatDoor
