/-
  Calls whose outcome is known, each shown by the evaluator with the earlier ones and the tables at hand; part 1. No condition.
-/
import Derived.Test.YtonccphblmiijaaGreatDoorCalls0
namespace Go.Proofs.YtonccphblmiijaaGreatDoor
open Go.Tw

def a2 : List AV := []
def m2 : Memo := ⟨9, a2, .bool true, [], 68⟩
set_option maxRecDepth 1000000 in
theorem m2_ok : m2.ok Tryz.prog { tabCfg tabs with hk := memoHk 12 (tabM c2) } 100000 12 (tabSt 12 tabs) = true := by kernel_rfl
theorem m2_sound : m2.Sound Tryz.prog 12 (tabCfg tabs) := memo_tab c2_sound (by kernel_rfl) tabs_lt m2_ok
def c3 : List Memo := m2 :: c2
theorem c3_sound : ∀ m ∈ c3, m.Sound Tryz.prog 12 (tabCfg tabs) := sound_cons m2_sound c2_sound
end Go.Proofs.YtonccphblmiijaaGreatDoor
