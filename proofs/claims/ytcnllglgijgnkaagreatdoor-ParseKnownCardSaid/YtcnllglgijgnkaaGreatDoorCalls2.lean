/-
  Calls whose outcome is known, each shown by the evaluator with the earlier ones and the tables at hand; part 2. No condition.
-/
import Derived.Test.YtcnllglgijgnkaaGreatDoorCalls1
namespace Go.Proofs.YtcnllglgijgnkaaGreatDoor
open Go.Tw

def a6 : List AV := [strN [58,40,99,104,97,114,41,120,59,125]]
def m6 : Memo := ⟨91, a6, .int .i64 1, [], 13⟩
set_option maxRecDepth 1000000 in
theorem m6_ok : m6.ok Tryz.prog { tabCfg tabs with hk := memoHk 12 (tabM c6) } 100000 12 (tabSt 12 tabs) = true := by kernel_rfl
theorem m6_sound : m6.Sound Tryz.prog 12 (tabCfg tabs) := memo_tab c6_sound (by kernel_rfl) tabs_lt m6_ok
def c7 : List Memo := m6 :: c6
theorem c7_sound : ∀ m ∈ c7, m.Sound Tryz.prog 12 (tabCfg tabs) := sound_cons m6_sound c6_sound

def a7 : List AV := [strN [41,120,59,125]]
def m7 : Memo := ⟨91, a7, .int .i64 1, [], 13⟩
set_option maxRecDepth 1000000 in
theorem m7_ok : m7.ok Tryz.prog { tabCfg tabs with hk := memoHk 12 (tabM c7) } 100000 12 (tabSt 12 tabs) = true := by kernel_rfl
theorem m7_sound : m7.Sound Tryz.prog 12 (tabCfg tabs) := memo_tab c7_sound (by kernel_rfl) tabs_lt m7_ok
def c8 : List Memo := m7 :: c7
theorem c8_sound : ∀ m ∈ c8, m.Sound Tryz.prog 12 (tabCfg tabs) := sound_cons m7_sound c7_sound

def a8 : List AV := [strN [59,125]]
def m8 : Memo := ⟨91, a8, .int .i64 1, [], 13⟩
set_option maxRecDepth 1000000 in
theorem m8_ok : m8.ok Tryz.prog { tabCfg tabs with hk := memoHk 12 (tabM c8) } 100000 12 (tabSt 12 tabs) = true := by kernel_rfl
theorem m8_sound : m8.Sound Tryz.prog 12 (tabCfg tabs) := memo_tab c8_sound (by kernel_rfl) tabs_lt m8_ok
def c9 : List Memo := m8 :: c8
theorem c9_sound : ∀ m ∈ c9, m.Sound Tryz.prog 12 (tabCfg tabs) := sound_cons m8_sound c8_sound
end Go.Proofs.YtcnllglgijgnkaaGreatDoor
