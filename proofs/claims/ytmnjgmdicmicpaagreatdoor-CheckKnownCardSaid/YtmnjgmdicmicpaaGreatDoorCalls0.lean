/-
  Calls whose outcome is known, each shown by the evaluator with the earlier ones and the tables at hand; part 0. No condition.
-/
import Derived.Test.YtmnjgmdicmicpaaGreatDoorTabs
namespace Go.Proofs.YtmnjgmdicmicpaaGreatDoor
open Go.Tw
def c0 : List Memo := []
theorem c0_sound : ∀ m ∈ c0, m.Sound Tryz.prog 12 (tabCfg tabs) := sound_nil

def a0 : List AV := []
def m0 : Memo := ⟨244, a0, .slc 12 0 0 21 (some 21) 1, [(12, .box [strN [105,110,116], strN [99,104,97,114], strN [115,104,111,114,116], strN [108,111,110,103], strN [117,110,115,105,103,110,101,100], strN [115,105,103,110,101,100], strN [118,111,105,100], strN [115,116,114,117,99,116], strN [105,102], strN [101,108,115,101], strN [119,104,105,108,101], strN [102,111,114], strN [100,111], strN [114,101,116,117,114,110], strN [98,114,101,97,107], strN [99,111,110,116,105,110,117,101], strN [115,105,122,101,111,102], strN [103,111,116,111], strN [115,119,105,116,99,104], strN [99,97,115,101], strN [100,101,102,97,117,108,116]] 9)], 13⟩
set_option maxRecDepth 1000000 in
theorem m0_ok : m0.ok Tryz.prog { tabCfg tabs with hk := memoHk 12 (tabM c0) } 100000 12 (tabSt 12 tabs) = true := by kernel_rfl
theorem m0_sound : m0.Sound Tryz.prog 12 (tabCfg tabs) := memo_tab c0_sound (by kernel_rfl) tabs_lt m0_ok
def c1 : List Memo := m0 :: c0
theorem c1_sound : ∀ m ∈ c1, m.Sound Tryz.prog 12 (tabCfg tabs) := sound_cons m0_sound c0_sound

def a1 : List AV := [strN [120]]
def m1 : Memo := ⟨42, a1, .bool true, [], 21⟩
set_option maxRecDepth 1000000 in
theorem m1_ok : m1.ok Tryz.prog { tabCfg tabs with hk := memoHk 12 (tabM c1) } 100000 12 (tabSt 12 tabs) = true := by kernel_rfl
theorem m1_sound : m1.Sound Tryz.prog 12 (tabCfg tabs) := memo_tab c1_sound (by kernel_rfl) tabs_lt m1_ok
def c2 : List Memo := m1 :: c1
theorem c2_sound : ∀ m ∈ c2, m.Sound Tryz.prog 12 (tabCfg tabs) := sound_cons m1_sound c1_sound

def a2 : List AV := [strN [115], strN [115,108,109]]
def m2 : Memo := ⟨120, a2, strN [], [], 14⟩
set_option maxRecDepth 1000000 in
theorem m2_ok : m2.ok Tryz.prog { tabCfg tabs with hk := memoHk 12 (tabM c2) } 100000 12 (tabSt 12 tabs) = true := by kernel_rfl
theorem m2_sound : m2.Sound Tryz.prog 12 (tabCfg tabs) := memo_tab c2_sound (by kernel_rfl) tabs_lt m2_ok
def c3 : List Memo := m2 :: c2
theorem c3_sound : ∀ m ∈ c3, m.Sound Tryz.prog 12 (tabCfg tabs) := sound_cons m2_sound c2_sound

def a3 : List AV := [strN [109,97,105,110]]
def m3 : Memo := ⟨42, a3, .bool true, [], 21⟩
set_option maxRecDepth 1000000 in
theorem m3_ok : m3.ok Tryz.prog { tabCfg tabs with hk := memoHk 12 (tabM c3) } 100000 12 (tabSt 12 tabs) = true := by kernel_rfl
theorem m3_sound : m3.Sound Tryz.prog 12 (tabCfg tabs) := memo_tab c3_sound (by kernel_rfl) tabs_lt m3_ok
def c4 : List Memo := m3 :: c3
theorem c4_sound : ∀ m ∈ c4, m.Sound Tryz.prog 12 (tabCfg tabs) := sound_cons m3_sound c3_sound

def a4 : List AV := [.nils, .agg [.int .i64 5, .int .i64 0, .nils]]
def m4 : Memo := ⟨48, a4, .int .i64 0, [], 20⟩
set_option maxRecDepth 1000000 in
theorem m4_ok : m4.ok Tryz.prog { tabCfg tabs with hk := memoHk 12 (tabM c4) } 100000 12 (tabSt 12 tabs) = true := by kernel_rfl
theorem m4_sound : m4.Sound Tryz.prog 12 (tabCfg tabs) := memo_tab c4_sound (by kernel_rfl) tabs_lt m4_ok
def c5 : List Memo := m4 :: c4
theorem c5_sound : ∀ m ∈ c5, m.Sound Tryz.prog 12 (tabCfg tabs) := sound_cons m4_sound c4_sound

def a5 : List AV := [strN [102], strN [102,103]]
def m5 : Memo := ⟨120, a5, strN [], [], 14⟩
set_option maxRecDepth 1000000 in
theorem m5_ok : m5.ok Tryz.prog { tabCfg tabs with hk := memoHk 12 (tabM c5) } 100000 12 (tabSt 12 tabs) = true := by kernel_rfl
theorem m5_sound : m5.Sound Tryz.prog 12 (tabCfg tabs) := memo_tab c5_sound (by kernel_rfl) tabs_lt m5_ok
def c6 : List Memo := m5 :: c5
theorem c6_sound : ∀ m ∈ c6, m.Sound Tryz.prog 12 (tabCfg tabs) := sound_cons m5_sound c5_sound

def a6 : List AV := [strN [45,32,126,32,33,32,42,32,38,32,43,43,32,45,45], strN [38]]
def m6 : Memo := ⟨118, a6, .bool true, [], 13⟩
set_option maxRecDepth 1000000 in
theorem m6_ok : m6.ok Tryz.prog { tabCfg tabs with hk := memoHk 12 (tabM c6) } 100000 12 (tabSt 12 tabs) = true := by kernel_rfl
theorem m6_sound : m6.Sound Tryz.prog 12 (tabCfg tabs) := memo_tab c6_sound (by kernel_rfl) tabs_lt m6_ok
def c7 : List Memo := m6 :: c6
theorem c7_sound : ∀ m ∈ c7, m.Sound Tryz.prog 12 (tabCfg tabs) := sound_cons m6_sound c6_sound

def a7 : List AV := [strN [42,32,47,32,37,32,43,32,45,32,60,60,32,62,62,32,60,32,62,32,60,61,32,62,61,32,61,61,32,33,61,32,38,32,94,32,124,32,38,38,32,124,124]]
def m7 : Memo := ⟨164, a7, .slc 12 0 0 18 (some 18) 1, [(12, .box [strN [42], strN [47], strN [37], strN [43], strN [45], strN [60,60], strN [62,62], strN [60], strN [62], strN [60,61], strN [62,61], strN [61,61], strN [33,61], strN [38], strN [94], strN [124], strN [38,38], strN [124,124]] 9)], 13⟩
set_option maxRecDepth 1000000 in
theorem m7_ok : m7.ok Tryz.prog { tabCfg tabs with hk := memoHk 12 (tabM c7) } 100000 12 (tabSt 12 tabs) = true := by kernel_rfl
theorem m7_sound : m7.Sound Tryz.prog 12 (tabCfg tabs) := memo_tab c7_sound (by kernel_rfl) tabs_lt m7_ok
def c8 : List Memo := m7 :: c7
theorem c8_sound : ∀ m ∈ c8, m.Sound Tryz.prog 12 (tabCfg tabs) := sound_cons m7_sound c7_sound

def a8 : List AV := [strN [97]]
def m8 : Memo := ⟨42, a8, .bool true, [], 21⟩
set_option maxRecDepth 1000000 in
theorem m8_ok : m8.ok Tryz.prog { tabCfg tabs with hk := memoHk 12 (tabM c8) } 100000 12 (tabSt 12 tabs) = true := by kernel_rfl
theorem m8_sound : m8.Sound Tryz.prog 12 (tabCfg tabs) := memo_tab c8_sound (by kernel_rfl) tabs_lt m8_ok
def c9 : List Memo := m8 :: c8
theorem c9_sound : ∀ m ∈ c9, m.Sound Tryz.prog 12 (tabCfg tabs) := sound_cons m8_sound c8_sound
end Go.Proofs.YtmnjgmdicmicpaaGreatDoor
