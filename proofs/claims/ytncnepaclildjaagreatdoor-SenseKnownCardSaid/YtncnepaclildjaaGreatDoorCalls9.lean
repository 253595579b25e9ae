/-
  Calls whose outcome is known, each shown by the evaluator with the earlier ones and the tables at hand; part 9. No condition.
-/
import Derived.Test.YtncnepaclildjaaGreatDoorCalls8
namespace Go.Proofs.YtncnepaclildjaaGreatDoor
open Go.Tw

def a71 : List AV := []
def m71 : Memo := ⟨3, a71, .bool true, [], 6671⟩
set_option maxRecDepth 1000000 in
theorem m71_ok : m71.ok Tryz.prog { tabCfg tabs with hk := memoHk 12 (tabM c71) } 100000 12 (tabSt 12 tabs) = true := by kernel_rfl
theorem m71_sound : m71.Sound Tryz.prog 12 (tabCfg tabs) := memo_tab c71_sound (by kernel_rfl) tabs_lt m71_ok
end Go.Proofs.YtncnepaclildjaaGreatDoor
