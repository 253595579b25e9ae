/-
  Closed facts of the card of LowerKnown, each by itself. No condition.
-/
import Derived.Test.YtaademiiaeknkaaGreatDoorRows
import Derived.Test.YtaademiiaeknkaaGreatDoorChecked
import Derived.Test.YtaademiiaeknkaaGreatDoorCards
import Derived.SevenTiedAt
import Derived.ProofKit
namespace Go.Proofs.YtaademiiaeknkaaGreatDoor
open Go.ChangeShapes Go.WideShapes Go.ChangeAt Go.RowKit

theorem lowerKnown_card3 : Tryz.prog.funcNamed Rows.lowerKnownRow.func = some 3 := by kernel_rfl
theorem lowerKnown_card4 : true = Tryz.prog.looks [] := by kernel_rfl
theorem lowerKnown_card5 : false = Rows.lowerKnownRow.goesBy Tryz.prog := by kernel_rfl
end Go.Proofs.YtaademiiaeknkaaGreatDoor
