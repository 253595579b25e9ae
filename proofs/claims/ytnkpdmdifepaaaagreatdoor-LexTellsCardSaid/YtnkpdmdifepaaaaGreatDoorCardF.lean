/-
  Closed facts of the card of LexTells, each by itself. No condition.
-/
import Derived.Test.YtnkpdmdifepaaaaGreatDoorRows
import Derived.Test.YtnkpdmdifepaaaaGreatDoorChecked
import Derived.Test.YtnkpdmdifepaaaaGreatDoorCards
import Derived.SevenTiedAt
import Derived.ProofKit
namespace Go.Proofs.YtnkpdmdifepaaaaGreatDoor
open Go.ChangeShapes Go.WideShapes Go.ChangeAt Go.RowKit

theorem lexTells_card3 : Tryz.prog.funcNamed Rows.lexTellsRow.func = some 3 := by kernel_rfl
theorem lexTells_card4 : true = Tryz.prog.looks [] := by kernel_rfl
theorem lexTells_card5 : false = Rows.lexTellsRow.goesBy Tryz.prog := by kernel_rfl
end Go.Proofs.YtnkpdmdifepaaaaGreatDoor
