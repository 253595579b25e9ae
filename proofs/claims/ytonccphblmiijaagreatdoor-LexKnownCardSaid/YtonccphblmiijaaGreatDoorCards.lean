/-
  DERIVED. GIVEN WITH THE SEED: THE CARDS: each row of YtonccphblmiijaaGreatDoorRows.lean that lists a variable, with what it lists TIED to the program's text (the seventh form; the later family's looks); each row that meets fmt, with fmt's text TOLD by the authors' own Lean function (tested against real Go, not proved from fmt's source: count such statements apart). THE CARD IS WHAT COUNTS. Prove the row's statement (the work); the ties are given (YtonccphblmiijaaGreatDoorTie.lean); close each card by the builder's one call (the guide's Derived/Test/ToyasCard.lean, 'card_holds'). Laid BY PROGRAM, IN A SANDBOX (cutbox-door.mjs). By AI agents, Wed Nov 11 2026. No macro, syntax, notation, axiom, sorry.
-/
import Derived.Test.YtonccphblmiijaaGreatDoorRows
import GoSem.ClaimSeven
namespace Go.Proofs.YtonccphblmiijaaGreatDoor
namespace Rows

/-- THE TIED CARD OF 'twinshaftlaw23.LexKnown'. -/
def lexKnownCard : Claim7 := { stood := { row := lexKnownRow, standIns := [], harness := (true, "1c9a40f2a7aab934f97ada317b408fff3621768a8ac63a9dcad6fb24a0c41d17"), looks := true }, kinds := [], alts := [], laidByText := true, laidKinds := [.data, .data, .data, .data, .sentinel, .sentinel, .listed, .data, .pinned, .pinned], laidTests := true, laidLooks := .later }
def LexKnownCardSaid : Prop := Claim7.holds Tryz.pinned (.plain (OpenSpec.ofChange lexKnownSpec)) lexKnownCard

/-- THE SECOND FORM's CARD OF 'twinshaftlaw23.LexKnown'. -/
def lexKnownUptoCard : Claim7 := { stood := { row := lexKnownUptoRow, standIns := [], harness := (true, "1c9a40f2a7aab934f97ada317b408fff3621768a8ac63a9dcad6fb24a0c41d17"), looks := true }, kinds := [], alts := [], laidByText := true, laidKinds := [.data, .data, .data, .data, .sentinel, .sentinel, .listed, .data, .pinned, .pinned], laidTests := true, laidLooks := .later }
def LexKnownUptoCardSaid : Prop := Claim7.holds Tryz.pinned (.plain (OpenSpec.upto lexKnownSpec)) lexKnownUptoCard
end Rows
end Go.Proofs.YtonccphblmiijaaGreatDoor
