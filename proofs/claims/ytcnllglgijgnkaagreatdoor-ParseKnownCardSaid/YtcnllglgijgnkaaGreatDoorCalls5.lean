/-
  Calls whose outcome is known, each shown by the evaluator with the earlier ones and the tables at hand; part 5. No condition.
-/
import Derived.Test.YtcnllglgijgnkaaGreatDoorCalls4
namespace Go.Proofs.YtcnllglgijgnkaaGreatDoor
open Go.Tw

def a12 : List AV := [strN [120]]
def m12 : Memo := ⟨67, a12, .bool true, [], 21⟩
set_option maxRecDepth 1000000 in
theorem m12_ok : m12.ok Tryz.prog { tabCfg tabs with hk := memoHk 12 (tabM c12) } 100000 12 (tabSt 12 tabs) = true := by kernel_rfl
theorem m12_sound : m12.Sound Tryz.prog 12 (tabCfg tabs) := memo_tab c12_sound (by kernel_rfl) tabs_lt m12_ok
def c13 : List Memo := m12 :: c12
theorem c13_sound : ∀ m ∈ c13, m.Sound Tryz.prog 12 (tabCfg tabs) := sound_cons m12_sound c12_sound

def a13 : List AV := [strN [105,110,116,32,102,40,105,110,116,32,120,41,123,114,101,116,117,114,110,32,120,63,45,120,58,40,99,104,97,114,41,120,59,125], strN [105,110,116,32,102,40,105,110,116,32,120,41,32,123,32,114,101,116,117,114,110,32,40,120,32,63,32,40,45,120,41,32,58,32,40,40,115,105,103,110,101,100,32,99,104,97,114,41,120,41,41,59,32,125,10]]
def m13 : Memo := ⟨4, a13, .bool true, [], 916⟩
set_option maxRecDepth 1000000 in
theorem m13_ok : m13.ok Tryz.prog { tabCfg tabs with hk := memoHk 12 (tabM c13) } 100000 12 (tabSt 12 tabs) = true := by kernel_rfl
theorem m13_sound : m13.Sound Tryz.prog 12 (tabCfg tabs) := memo_tab c13_sound (by kernel_rfl) tabs_lt m13_ok
def c14 : List Memo := m13 :: c13
theorem c14_sound : ∀ m ∈ c14, m.Sound Tryz.prog 12 (tabCfg tabs) := sound_cons m13_sound c13_sound

def a14 : List AV := [strN [97]]
def m14 : Memo := ⟨86, a14, .bool false, [], 13⟩
set_option maxRecDepth 1000000 in
theorem m14_ok : m14.ok Tryz.prog { tabCfg tabs with hk := memoHk 12 (tabM c14) } 100000 12 (tabSt 12 tabs) = true := by kernel_rfl
theorem m14_sound : m14.Sound Tryz.prog 12 (tabCfg tabs) := memo_tab c14_sound (by kernel_rfl) tabs_lt m14_ok
def c15 : List Memo := m14 :: c14
theorem c15_sound : ∀ m ∈ c15, m.Sound Tryz.prog 12 (tabCfg tabs) := sound_cons m14_sound c14_sound

def a15 : List AV := [strN [59,125,59,32,115,116,114,117,99,116,32,115,123,105,110,116,32,98,59,125,59]]
def m15 : Memo := ⟨91, a15, .int .i64 1, [], 13⟩
set_option maxRecDepth 1000000 in
theorem m15_ok : m15.ok Tryz.prog { tabCfg tabs with hk := memoHk 12 (tabM c15) } 100000 12 (tabSt 12 tabs) = true := by kernel_rfl
theorem m15_sound : m15.Sound Tryz.prog 12 (tabCfg tabs) := memo_tab c15_sound (by kernel_rfl) tabs_lt m15_ok
def c16 : List Memo := m15 :: c15
theorem c16_sound : ∀ m ∈ c16, m.Sound Tryz.prog 12 (tabCfg tabs) := sound_cons m15_sound c15_sound

def a16 : List AV := [strN [59,32,115,116,114,117,99,116,32,115,123,105,110,116,32,98,59,125,59]]
def m16 : Memo := ⟨91, a16, .int .i64 1, [], 13⟩
set_option maxRecDepth 1000000 in
theorem m16_ok : m16.ok Tryz.prog { tabCfg tabs with hk := memoHk 12 (tabM c16) } 100000 12 (tabSt 12 tabs) = true := by kernel_rfl
theorem m16_sound : m16.Sound Tryz.prog 12 (tabCfg tabs) := memo_tab c16_sound (by kernel_rfl) tabs_lt m16_ok
def c17 : List Memo := m16 :: c16
theorem c17_sound : ∀ m ∈ c17, m.Sound Tryz.prog 12 (tabCfg tabs) := sound_cons m16_sound c16_sound

def a17 : List AV := [strN [59,125,59]]
def m17 : Memo := ⟨91, a17, .int .i64 1, [], 13⟩
set_option maxRecDepth 1000000 in
theorem m17_ok : m17.ok Tryz.prog { tabCfg tabs with hk := memoHk 12 (tabM c17) } 100000 12 (tabSt 12 tabs) = true := by kernel_rfl
theorem m17_sound : m17.Sound Tryz.prog 12 (tabCfg tabs) := memo_tab c17_sound (by kernel_rfl) tabs_lt m17_ok
def c18 : List Memo := m17 :: c17
theorem c18_sound : ∀ m ∈ c18, m.Sound Tryz.prog 12 (tabCfg tabs) := sound_cons m17_sound c17_sound
end Go.Proofs.YtcnllglgijgnkaaGreatDoor
