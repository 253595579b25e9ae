/-
  Calls whose outcome is known, each shown by the evaluator with the earlier ones and the tables at hand; part 1. No condition.
-/
import Derived.Test.YtmnjgmdicmicpaaGreatDoorCalls0
namespace Go.Proofs.YtmnjgmdicmicpaaGreatDoor
open Go.Tw

def a9 : List AV := []
def m9 : Memo := ⟨9, a9, .bool true, [], 365⟩
set_option maxRecDepth 1000000 in
theorem m9_ok : m9.ok Tryz.prog { tabCfg tabs with hk := memoHk 12 (tabM c9) } 100000 12 (tabSt 12 tabs) = true := by kernel_rfl
theorem m9_sound : m9.Sound Tryz.prog 12 (tabCfg tabs) := memo_tab c9_sound (by kernel_rfl) tabs_lt m9_ok
def c10 : List Memo := m9 :: c9
theorem c10_sound : ∀ m ∈ c10, m.Sound Tryz.prog 12 (tabCfg tabs) := sound_cons m9_sound c9_sound

def a10 : List AV := [strN [102]]
def m10 : Memo := ⟨42, a10, .bool true, [], 21⟩
set_option maxRecDepth 1000000 in
theorem m10_ok : m10.ok Tryz.prog { tabCfg tabs with hk := memoHk 12 (tabM c10) } 100000 12 (tabSt 12 tabs) = true := by kernel_rfl
theorem m10_sound : m10.Sound Tryz.prog 12 (tabCfg tabs) := memo_tab c10_sound (by kernel_rfl) tabs_lt m10_ok
def c11 : List Memo := m10 :: c10
theorem c11_sound : ∀ m ∈ c11, m.Sound Tryz.prog 12 (tabCfg tabs) := sound_cons m10_sound c10_sound
end Go.Proofs.YtmnjgmdicmicpaaGreatDoor
