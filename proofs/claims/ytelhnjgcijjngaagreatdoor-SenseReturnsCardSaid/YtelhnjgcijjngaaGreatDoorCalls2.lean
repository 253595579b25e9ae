/-
  Calls whose outcome is known, each shown by the evaluator with the earlier ones and the tables at hand; part 2. No condition.
-/
import Derived.Test.YtelhnjgcijjngaaGreatDoorCalls1
set_option linter.all false
namespace Go.Proofs.YtelhnjgcijjngaaGreatDoor
open Go.Tw

def a67 : List AV := []
def m67 : Memo := ⟨4, a67, .bool true, [], 1229⟩
set_option maxRecDepth 1000000 in
theorem m67_ok : m67.ok Tryz.prog { tabK tabs [] with hk := hkH 12 (hpH (decP []) 39) (tabM c67) } 100000 12 (tabSt 12 tabs) = true := by kernel_rfl
theorem m67_sound [Val] : m67.Sound Tryz.prog 12 (tabK tabs []) := tabH_memo (hpH_ok head) c67_sound folm tabs_lt m67_ok
end Go.Proofs.YtelhnjgcijjngaaGreatDoor
