/-
  Calls whose outcome is known, each shown by the evaluator with the earlier ones and the tables at hand; part 2. No condition.
-/
import Derived.Test.YtonccphblmiijaaGreatDoorCalls1
namespace Go.Proofs.YtonccphblmiijaaGreatDoor
open Go.Tw

def a3 : List AV := []
def m3 : Memo := ⟨3, a3, .bool true, [], 203⟩
set_option maxRecDepth 1000000 in
theorem m3_ok : m3.ok Tryz.prog { tabCfg tabs with hk := memoHk 12 (tabM c3) } 100000 12 (tabSt 12 tabs) = true := by kernel_rfl
theorem m3_sound : m3.Sound Tryz.prog 12 (tabCfg tabs) := memo_tab c3_sound (by kernel_rfl) tabs_lt m3_ok
end Go.Proofs.YtonccphblmiijaaGreatDoor
