/-
  Calls whose outcome is known, each shown by the evaluator with the earlier ones and the tables at hand; part 5. No condition.
-/
import Derived.Test.YtaademiiaeknkaaGreatDoorCalls4
namespace Go.Proofs.YtaademiiaeknkaaGreatDoor
open Go.Tw

def a23 : List AV := []
def m23 : Memo := ⟨3, a23, .bool true, [], 1803⟩
set_option maxRecDepth 1000000 in
theorem m23_ok : m23.ok Tryz.prog { tabCfg tabs with hk := memoHk 12 (tabM c23) } 100000 12 (tabSt 12 tabs) = true := by kernel_rfl
theorem m23_sound : m23.Sound Tryz.prog 12 (tabCfg tabs) := memo_tab c23_sound (by kernel_rfl) tabs_lt m23_ok
end Go.Proofs.YtaademiiaeknkaaGreatDoor
