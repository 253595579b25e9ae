/-
  Calls whose outcome is known, each shown by the evaluator with the earlier ones and the tables at hand; part 11. No condition.
-/
import Derived.Test.YtcnllglgijgnkaaGreatDoorCalls10
namespace Go.Proofs.YtcnllglgijgnkaaGreatDoor
open Go.Tw

def a27 : List AV := [strN [105,110,116,32,97,61,49,43,50,42,51,59], strN [105,110,116,32,97,32,61,32,40,49,32,43,32,40,50,32,42,32,51,41,41,59,10]]
def m27 : Memo := ⟨4, a27, .bool true, [], 454⟩
set_option maxRecDepth 1000000 in
theorem m27_ok : m27.ok Tryz.prog { tabCfg tabs with hk := memoHk 12 (tabM c27) } 100000 12 (tabSt 12 tabs) = true := by kernel_rfl
theorem m27_sound : m27.Sound Tryz.prog 12 (tabCfg tabs) := memo_tab c27_sound (by kernel_rfl) tabs_lt m27_ok
def c28 : List Memo := m27 :: c27
theorem c28_sound : ∀ m ∈ c28, m.Sound Tryz.prog 12 (tabCfg tabs) := sound_cons m27_sound c27_sound

def a28 : List AV := []
def m28 : Memo := ⟨6, a28, .bool true, [], 553⟩
set_option maxRecDepth 1000000 in
theorem m28_ok : m28.ok Tryz.prog { tabCfg tabs with hk := memoHk 12 (tabM c28) } 100000 12 (tabSt 12 tabs) = true := by kernel_rfl
theorem m28_sound : m28.Sound Tryz.prog 12 (tabCfg tabs) := memo_tab c28_sound (by kernel_rfl) tabs_lt m28_ok
def c29 : List Memo := m28 :: c28
theorem c29_sound : ∀ m ∈ c29, m.Sound Tryz.prog 12 (tabCfg tabs) := sound_cons m28_sound c28_sound
end Go.Proofs.YtcnllglgijgnkaaGreatDoor
