/-
  DERIVED. GIVEN WITH THE SEED: THE CARDS: each row of YtncnepaclildjaaGreatDoorRows.lean that lists a variable, with what it lists TIED to the program's text (the seventh form; the later family's looks); each row that meets fmt, with fmt's text TOLD by the authors' own Lean function (tested against real Go, not proved from fmt's source: count such statements apart). THE CARD IS WHAT COUNTS. Prove the row's statement (the work); the ties are given (YtncnepaclildjaaGreatDoorTie.lean); close each card by the builder's one call (the guide's Derived/Test/ToyasCard.lean, 'card_holds'). Laid BY PROGRAM, IN A SANDBOX (cutbox-door.mjs). By AI agents, Wed Nov 11 2026. No macro, syntax, notation, axiom, sorry.
-/
import Derived.Test.YtncnepaclildjaaGreatDoorRows
import GoSem.ClaimSeven
namespace Go.Proofs.YtncnepaclildjaaGreatDoor
namespace Rows

/-- THE TIED CARD OF 'twinshaftlaw28.SenseKnown'. -/
def senseKnownCard : Claim7 := { stood := { row := senseKnownRow, standIns := [], harness := (true, "47b1e18316218c07423fb93e9b32827f5cad3a9870928a313d25da8d610ef4e3"), looks := true }, kinds := [], alts := [], laidByText := true, laidKinds := [.data, .listed, .pinned, .data, .pinned, .sentinel, .sentinel, .data, .data, .data], laidTests := true, laidLooks := .later }
def SenseKnownCardSaid : Prop := Claim7.holds Tryz.pinned (.plain (OpenSpec.ofChange senseKnownSpec)) senseKnownCard

/-- THE SECOND FORM's CARD OF 'twinshaftlaw28.SenseKnown'. -/
def senseKnownUptoCard : Claim7 := { stood := { row := senseKnownUptoRow, standIns := [], harness := (true, "47b1e18316218c07423fb93e9b32827f5cad3a9870928a313d25da8d610ef4e3"), looks := true }, kinds := [], alts := [], laidByText := true, laidKinds := [.data, .listed, .pinned, .data, .pinned, .sentinel, .sentinel, .data, .data, .data], laidTests := true, laidLooks := .later }
def SenseKnownUptoCardSaid : Prop := Claim7.holds Tryz.pinned (.plain (OpenSpec.upto senseKnownSpec)) senseKnownUptoCard
end Rows
end Go.Proofs.YtncnepaclildjaaGreatDoor
