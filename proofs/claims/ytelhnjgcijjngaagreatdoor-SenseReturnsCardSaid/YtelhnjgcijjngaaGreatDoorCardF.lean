/-
  Closed facts of the card of SenseReturns, each by itself. No condition.
-/
import Derived.Test.YtelhnjgcijjngaaGreatDoorRows
import Derived.Test.YtelhnjgcijjngaaGreatDoorChecked
import Derived.Test.YtelhnjgcijjngaaGreatDoorCards
import Derived.SevenTiedAt
import Derived.ProofKit
set_option linter.all false
namespace Go.Proofs.YtelhnjgcijjngaaGreatDoor
open Go.ChangeShapes Go.WideShapes Go.ChangeAt Go.RowKit

theorem senseReturns_card3 : Tryz.prog.funcNamed Rows.senseReturnsRow.func = some 3 := by kernel_rfl
theorem senseReturns_card4 : true = Tryz.prog.looks [] := by kernel_rfl
theorem senseReturns_card5 : false = Rows.senseReturnsRow.goesBy Tryz.prog := by kernel_rfl
end Go.Proofs.YtelhnjgcijjngaaGreatDoor
