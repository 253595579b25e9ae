/-
  Calls whose outcome is known, each shown by the evaluator with the earlier ones and the tables at hand; part 0. No condition.
-/
import Derived.Test.YtaademiiaeknkaaGreatDoorTabs
namespace Go.Proofs.YtaademiiaeknkaaGreatDoor
open Go.Tw
def c0 : List Memo := []
theorem c0_sound : ∀ m ∈ c0, m.Sound Tryz.prog 12 (tabCfg tabs) := sound_nil

def a0 : List AV := [strN [42,32,47,32,37,32,43,32,45,32,60,60,32,62,62,32,60,32,62,32,60,61,32,62,61,32,61,61,32,33,61,32,38,32,94,32,124,32,38,38,32,124,124], strN [43]]
def m0 : Memo := ⟨135, a0, .bool true, [], 13⟩
set_option maxRecDepth 1000000 in
theorem m0_ok : m0.ok Tryz.prog { tabCfg tabs with hk := memoHk 12 (tabM c0) } 100000 12 (tabSt 12 tabs) = true := by kernel_rfl
theorem m0_sound : m0.Sound Tryz.prog 12 (tabCfg tabs) := memo_tab c0_sound (by kernel_rfl) tabs_lt m0_ok
def c1 : List Memo := m0 :: c0
theorem c1_sound : ∀ m ∈ c1, m.Sound Tryz.prog 12 (tabCfg tabs) := sound_cons m0_sound c0_sound
end Go.Proofs.YtaademiiaeknkaaGreatDoor
