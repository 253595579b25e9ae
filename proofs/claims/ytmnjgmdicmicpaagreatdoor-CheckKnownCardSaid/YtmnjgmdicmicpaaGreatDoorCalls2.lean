/-
  Calls whose outcome is known, each shown by the evaluator with the earlier ones and the tables at hand; part 2. No condition.
-/
import Derived.Test.YtmnjgmdicmicpaaGreatDoorCalls1
namespace Go.Proofs.YtmnjgmdicmicpaaGreatDoor
open Go.Tw

def a11 : List AV := []
def m11 : Memo := ⟨3, a11, .bool true, [], 1791⟩
set_option maxRecDepth 1000000 in
theorem m11_ok : m11.ok Tryz.prog { tabCfg tabs with hk := memoHk 12 (tabM c11) } 100000 12 (tabSt 12 tabs) = true := by kernel_rfl
theorem m11_sound : m11.Sound Tryz.prog 12 (tabCfg tabs) := memo_tab c11_sound (by kernel_rfl) tabs_lt m11_ok
end Go.Proofs.YtmnjgmdicmicpaaGreatDoor
