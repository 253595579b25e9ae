/-
  Closed facts of the card of ParseKnown, each by itself. No condition.
-/
import Derived.Test.YtcnllglgijgnkaaGreatDoorRows
import Derived.Test.YtcnllglgijgnkaaGreatDoorChecked
import Derived.Test.YtcnllglgijgnkaaGreatDoorCards
import Derived.SevenTiedAt
import Derived.ProofKit
namespace Go.Proofs.YtcnllglgijgnkaaGreatDoor
open Go.ChangeShapes Go.WideShapes Go.ChangeAt Go.RowKit

theorem parseKnown_card3 : Tryz.prog.funcNamed Rows.parseKnownRow.func = some 3 := by kernel_rfl
theorem parseKnown_card4 : true = Tryz.prog.looks [] := by kernel_rfl
theorem parseKnown_card5 : false = Rows.parseKnownRow.goesBy Tryz.prog := by kernel_rfl
end Go.Proofs.YtcnllglgijgnkaaGreatDoor
