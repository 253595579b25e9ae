/-
  Calls whose outcome is known, each shown by the evaluator with the earlier ones and the tables at hand; part 0. No condition.
-/
import Derived.Test.YtcnllglgijgnkaaGreatDoorTabs
namespace Go.Proofs.YtcnllglgijgnkaaGreatDoor
open Go.Tw
def c0 : List Memo := []
theorem c0_sound : ∀ m ∈ c0, m.Sound Tryz.prog 12 (tabCfg tabs) := sound_nil

def a0 : List AV := []
def m0 : Memo := ⟨139, a0, .slc 12 0 0 21 (some 21) 1, [(12, .box [strN [105,110,116], strN [99,104,97,114], strN [115,104,111,114,116], strN [108,111,110,103], strN [117,110,115,105,103,110,101,100], strN [115,105,103,110,101,100], strN [118,111,105,100], strN [115,116,114,117,99,116], strN [105,102], strN [101,108,115,101], strN [119,104,105,108,101], strN [102,111,114], strN [100,111], strN [114,101,116,117,114,110], strN [98,114,101,97,107], strN [99,111,110,116,105,110,117,101], strN [115,105,122,101,111,102], strN [103,111,116,111], strN [115,119,105,116,99,104], strN [99,97,115,101], strN [100,101,102,97,117,108,116]] 9)], 13⟩
set_option maxRecDepth 1000000 in
theorem m0_ok : m0.ok Tryz.prog { tabCfg tabs with hk := memoHk 12 (tabM c0) } 100000 12 (tabSt 12 tabs) = true := by kernel_rfl
theorem m0_sound : m0.Sound Tryz.prog 12 (tabCfg tabs) := memo_tab c0_sound (by kernel_rfl) tabs_lt m0_ok
def c1 : List Memo := m0 :: c0
theorem c1_sound : ∀ m ∈ c1, m.Sound Tryz.prog 12 (tabCfg tabs) := sound_cons m0_sound c0_sound
end Go.Proofs.YtcnllglgijgnkaaGreatDoor
