/-
  Calls whose outcome is known, each shown by the evaluator with the earlier ones and the tables at hand; part 1. No condition.
-/
import Derived.Test.YtbhfbgbeindipaaGreatDoorCalls0
namespace Go.Proofs.YtbhfbgbeindipaaGreatDoor
open Go.Tw

def a7 : List AV := []
def m7 : Memo := ⟨7, a7, .bool true, [], 639⟩
set_option maxRecDepth 1000000 in
theorem m7_ok : m7.ok Tryz.prog { tabCfg tabs with hk := memoHk 8 (tabM c7) } 100000 8 (tabSt 8 tabs) = true := by kernel_rfl
theorem m7_sound : m7.Sound Tryz.prog 8 (tabCfg tabs) := memo_tab c7_sound (by kernel_rfl) tabs_lt m7_ok
def c8 : List Memo := m7 :: c7
theorem c8_sound : ∀ m ∈ c8, m.Sound Tryz.prog 8 (tabCfg tabs) := sound_cons m7_sound c7_sound
end Go.Proofs.YtbhfbgbeindipaaGreatDoor
