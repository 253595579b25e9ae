/-
  DERIVED. GIVEN WITH THE SEED: THE CARDS: each row of YtkklcbfbjfhacaaGreatDoorRows.lean that lists a variable, with what it lists TIED to the program's text (the seventh form; the later family's looks); each row that meets fmt, with fmt's text TOLD by the authors' own Lean function (tested against real Go, not proved from fmt's source: count such statements apart). THE CARD IS WHAT COUNTS. Prove the row's statement (the work); the ties are given (YtkklcbfbjfhacaaGreatDoorTie.lean); close each card by the builder's one call (the guide's Derived/Test/ToyasCard.lean, 'card_holds'). Laid BY PROGRAM, IN A SANDBOX (cutbox-door.mjs). By AI agents, Wed Nov 11 2026. No macro, syntax, notation, axiom, sorry.
-/
import Derived.Test.YtkklcbfbjfhacaaGreatDoorRows
import GoSem.ClaimSeven
namespace Go.Proofs.YtkklcbfbjfhacaaGreatDoor
namespace Rows

/-- THE TIED CARD OF 'twinshaftlaw23.LexApart'. -/
def lexApartCard : Claim7 := { stood := { row := lexApartRow, standIns := [], harness := (true, "9ba29ee8869cbcafbfcbbf3d7f7d86523a0cc32ae8b063b9fe5aaaf67e58f97b"), looks := true }, kinds := [], alts := [], laidByText := true, laidKinds := [.data, .data, .data, .data, .sentinel, .sentinel, .listed, .data, .pinned, .pinned], laidTests := true, laidLooks := .later }
def LexApartCardSaid : Prop := Claim7.holds Tryz.pinned (.plain (OpenSpec.ofChange lexApartSpec)) lexApartCard

/-- THE SECOND FORM's CARD OF 'twinshaftlaw23.LexApart'. -/
def lexApartUptoCard : Claim7 := { stood := { row := lexApartUptoRow, standIns := [], harness := (true, "9ba29ee8869cbcafbfcbbf3d7f7d86523a0cc32ae8b063b9fe5aaaf67e58f97b"), looks := true }, kinds := [], alts := [], laidByText := true, laidKinds := [.data, .data, .data, .data, .sentinel, .sentinel, .listed, .data, .pinned, .pinned], laidTests := true, laidLooks := .later }
def LexApartUptoCardSaid : Prop := Claim7.holds Tryz.pinned (.plain (OpenSpec.upto lexApartSpec)) lexApartUptoCard
end Rows
end Go.Proofs.YtkklcbfbjfhacaaGreatDoor
