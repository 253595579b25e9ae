/-
  Closed facts of the card of SenseKnown, each by itself. No condition.
-/
import Derived.Test.YtncnepaclildjaaGreatDoorRows
import Derived.Test.YtncnepaclildjaaGreatDoorChecked
import Derived.Test.YtncnepaclildjaaGreatDoorCards
import Derived.SevenTiedAt
import Derived.ProofKit
namespace Go.Proofs.YtncnepaclildjaaGreatDoor
open Go.ChangeShapes Go.WideShapes Go.ChangeAt Go.RowKit

theorem senseKnown_card3 : Tryz.prog.funcNamed Rows.senseKnownRow.func = some 3 := by kernel_rfl
theorem senseKnown_card4 : true = Tryz.prog.looks [] := by kernel_rfl
theorem senseKnown_card5 : false = Rows.senseKnownRow.goesBy Tryz.prog := by kernel_rfl
end Go.Proofs.YtncnepaclildjaaGreatDoor
