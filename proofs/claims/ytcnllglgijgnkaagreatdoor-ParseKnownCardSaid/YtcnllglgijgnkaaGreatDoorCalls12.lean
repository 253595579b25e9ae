/-
  Calls whose outcome is known, each shown by the evaluator with the earlier ones and the tables at hand; part 12. No condition.
-/
import Derived.Test.YtcnllglgijgnkaaGreatDoorCalls11
namespace Go.Proofs.YtcnllglgijgnkaaGreatDoor
open Go.Tw

def a29 : List AV := []
def m29 : Memo := ⟨3, a29, .bool true, [], 1859⟩
set_option maxRecDepth 1000000 in
theorem m29_ok : m29.ok Tryz.prog { tabCfg tabs with hk := memoHk 12 (tabM c29) } 100000 12 (tabSt 12 tabs) = true := by kernel_rfl
theorem m29_sound : m29.Sound Tryz.prog 12 (tabCfg tabs) := memo_tab c29_sound (by kernel_rfl) tabs_lt m29_ok
end Go.Proofs.YtcnllglgijgnkaaGreatDoor
