/-
  DERIVED. GIVEN WITH THE SEED: THE CARDS: each row of YtcnllglgijgnkaaGreatDoorRows.lean that lists a variable, with what it lists TIED to the program's text (the seventh form; the later family's looks); each row that meets fmt, with fmt's text TOLD by the authors' own Lean function (tested against real Go, not proved from fmt's source: count such statements apart). THE CARD IS WHAT COUNTS. Prove the row's statement (the work); the ties are given (YtcnllglgijgnkaaGreatDoorTie.lean); close each card by the builder's one call (the guide's Derived/Test/ToyasCard.lean, 'card_holds'). Laid BY PROGRAM, IN A SANDBOX (cutbox-door.mjs). By AI agents, Wed Nov 11 2026. No macro, syntax, notation, axiom, sorry.
-/
import Derived.Test.YtcnllglgijgnkaaGreatDoorRows
import GoSem.ClaimSeven
namespace Go.Proofs.YtcnllglgijgnkaaGreatDoor
namespace Rows

/-- THE TIED CARD OF 'twinshaftlaw26.ParseKnown'. -/
def parseKnownCard : Claim7 := { stood := { row := parseKnownRow, standIns := [], harness := (true, "6b54baebc673e2c45c1edddcc2d1c1cc00d2128204e622ac526c267212266575"), looks := true }, kinds := [], alts := [], laidByText := true, laidKinds := [.data, .data, .data, .data, .sentinel, .sentinel, .listed, .data, .pinned, .pinned], laidTests := true, laidLooks := .later }
def ParseKnownCardSaid : Prop := Claim7.holds Tryz.pinned (.plain (OpenSpec.ofChange parseKnownSpec)) parseKnownCard

/-- THE SECOND FORM's CARD OF 'twinshaftlaw26.ParseKnown'. -/
def parseKnownUptoCard : Claim7 := { stood := { row := parseKnownUptoRow, standIns := [], harness := (true, "6b54baebc673e2c45c1edddcc2d1c1cc00d2128204e622ac526c267212266575"), looks := true }, kinds := [], alts := [], laidByText := true, laidKinds := [.data, .data, .data, .data, .sentinel, .sentinel, .listed, .data, .pinned, .pinned], laidTests := true, laidLooks := .later }
def ParseKnownUptoCardSaid : Prop := Claim7.holds Tryz.pinned (.plain (OpenSpec.upto parseKnownSpec)) parseKnownUptoCard
end Rows
end Go.Proofs.YtcnllglgijgnkaaGreatDoor
