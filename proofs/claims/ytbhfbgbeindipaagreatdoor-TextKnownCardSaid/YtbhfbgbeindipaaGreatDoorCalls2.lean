/-
  Calls whose outcome is known, each shown by the evaluator with the earlier ones and the tables at hand; part 2. No condition.
-/
import Derived.Test.YtbhfbgbeindipaaGreatDoorCalls1
namespace Go.Proofs.YtbhfbgbeindipaaGreatDoor
open Go.Tw

def a8 : List AV := []
def m8 : Memo := ⟨3, a8, .bool true, [], 847⟩
set_option maxRecDepth 1000000 in
theorem m8_ok : m8.ok Tryz.prog { tabCfg tabs with hk := memoHk 8 (tabM c8) } 100000 8 (tabSt 8 tabs) = true := by kernel_rfl
theorem m8_sound : m8.Sound Tryz.prog 8 (tabCfg tabs) := memo_tab c8_sound (by kernel_rfl) tabs_lt m8_ok
end Go.Proofs.YtbhfbgbeindipaaGreatDoor
