/-
  DERIVED. GIVEN WITH THE SEED: THE CARDS: each row of YtbbnjiceenjhcaaGreatDoorRows.lean that lists a variable, with what it lists TIED to the program's text (the seventh form; the later family's looks); each row that meets fmt, with fmt's text TOLD by the authors' own Lean function (tested against real Go, not proved from fmt's source: count such statements apart). THE CARD IS WHAT COUNTS. Prove the row's statement (the work); the ties are given (YtbbnjiceenjhcaaGreatDoorTie.lean); close each card by the builder's one call (the guide's Derived/Test/ToyasCard.lean, 'card_holds'). Laid BY PROGRAM, IN A SANDBOX (cutbox-door.mjs). By AI agents, Wed Nov 11 2026. No macro, syntax, notation, axiom, sorry.
-/
import Derived.Test.YtbbnjiceenjhcaaGreatDoorRows
import GoSem.ClaimSeven
namespace Go.Proofs.YtbbnjiceenjhcaaGreatDoor
namespace Rows

/-- THE TIED CARD OF 'twinshaftlaw31.BuildKnown'. -/
def buildKnownCard : Claim7 := { stood := { row := buildKnownRow, standIns := [], harness := (true, "c7adee3987182c25266922dae3498f1dc137b5e2d04a97b7b0cd24de24f0d250"), looks := true }, kinds := [], alts := [], laidByText := true, laidKinds := [.data, .listed, .pinned, .data, .pinned, .sentinel, .sentinel, .data, .data, .data], laidTests := true, laidLooks := .later }
def BuildKnownCardSaid : Prop := Claim7.holds Tryz.pinned (.plain (OpenSpec.ofChange buildKnownSpec)) buildKnownCard

/-- THE SECOND FORM's CARD OF 'twinshaftlaw31.BuildKnown'. -/
def buildKnownUptoCard : Claim7 := { stood := { row := buildKnownUptoRow, standIns := [], harness := (true, "c7adee3987182c25266922dae3498f1dc137b5e2d04a97b7b0cd24de24f0d250"), looks := true }, kinds := [], alts := [], laidByText := true, laidKinds := [.data, .listed, .pinned, .data, .pinned, .sentinel, .sentinel, .data, .data, .data], laidTests := true, laidLooks := .later }
def BuildKnownUptoCardSaid : Prop := Claim7.holds Tryz.pinned (.plain (OpenSpec.upto buildKnownSpec)) buildKnownUptoCard
end Rows
end Go.Proofs.YtbbnjiceenjhcaaGreatDoor
