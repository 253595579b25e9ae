/-
  Calls whose outcome is known, each shown by the evaluator with the earlier ones and the tables at hand; part 1. No condition.
-/
import Derived.Test.YtaademiiaeknkaaGreatDoorCalls0
namespace Go.Proofs.YtaademiiaeknkaaGreatDoor
open Go.Tw

def a1 : List AV := []
def m1 : Memo := ⟨289, a1, .slc 12 0 0 21 (some 21) 1, [(12, .box [strN [105,110,116], strN [99,104,97,114], strN [115,104,111,114,116], strN [108,111,110,103], strN [117,110,115,105,103,110,101,100], strN [115,105,103,110,101,100], strN [118,111,105,100], strN [115,116,114,117,99,116], strN [105,102], strN [101,108,115,101], strN [119,104,105,108,101], strN [102,111,114], strN [100,111], strN [114,101,116,117,114,110], strN [98,114,101,97,107], strN [99,111,110,116,105,110,117,101], strN [115,105,122,101,111,102], strN [103,111,116,111], strN [115,119,105,116,99,104], strN [99,97,115,101], strN [100,101,102,97,117,108,116]] 9)], 13⟩
set_option maxRecDepth 1000000 in
theorem m1_ok : m1.ok Tryz.prog { tabCfg tabs with hk := memoHk 12 (tabM c1) } 100000 12 (tabSt 12 tabs) = true := by kernel_rfl
theorem m1_sound : m1.Sound Tryz.prog 12 (tabCfg tabs) := memo_tab c1_sound (by kernel_rfl) tabs_lt m1_ok
def c2 : List Memo := m1 :: c1
theorem c2_sound : ∀ m ∈ c2, m.Sound Tryz.prog 12 (tabCfg tabs) := sound_cons m1_sound c1_sound

def a2 : List AV := [strN [109,97,105,110]]
def m2 : Memo := ⟨43, a2, .bool true, [], 21⟩
set_option maxRecDepth 1000000 in
theorem m2_ok : m2.ok Tryz.prog { tabCfg tabs with hk := memoHk 12 (tabM c2) } 100000 12 (tabSt 12 tabs) = true := by kernel_rfl
theorem m2_sound : m2.Sound Tryz.prog 12 (tabCfg tabs) := memo_tab c2_sound (by kernel_rfl) tabs_lt m2_ok
def c3 : List Memo := m2 :: c2
theorem c3_sound : ∀ m ∈ c3, m.Sound Tryz.prog 12 (tabCfg tabs) := sound_cons m2_sound c2_sound

def a3 : List AV := [.nils, .agg [.int .i64 5, .int .i64 0, .nils]]
def m3 : Memo := ⟨50, a3, .int .i64 0, [], 20⟩
set_option maxRecDepth 1000000 in
theorem m3_ok : m3.ok Tryz.prog { tabCfg tabs with hk := memoHk 12 (tabM c3) } 100000 12 (tabSt 12 tabs) = true := by kernel_rfl
theorem m3_sound : m3.Sound Tryz.prog 12 (tabCfg tabs) := memo_tab c3_sound (by kernel_rfl) tabs_lt m3_ok
def c4 : List Memo := m3 :: c3
theorem c4_sound : ∀ m ∈ c4, m.Sound Tryz.prog 12 (tabCfg tabs) := sound_cons m3_sound c3_sound

def a4 : List AV := [strN [119,105], strN [105,107,109,122,102,100,116,99]]
def m4 : Memo := ⟨302, a4, .bool true, [], 13⟩
set_option maxRecDepth 1000000 in
theorem m4_ok : m4.ok Tryz.prog { tabCfg tabs with hk := memoHk 12 (tabM c4) } 100000 12 (tabSt 12 tabs) = true := by kernel_rfl
theorem m4_sound : m4.Sound Tryz.prog 12 (tabCfg tabs) := memo_tab c4_sound (by kernel_rfl) tabs_lt m4_ok
def c5 : List Memo := m4 :: c4
theorem c5_sound : ∀ m ∈ c5, m.Sound Tryz.prog 12 (tabCfg tabs) := sound_cons m4_sound c4_sound

def a5 : List AV := [.agg [.int .i64 1, .int .i64 0, .int .i64 0, .int .i64 0, .int .i64 1, .nils]]
def m5 : Memo := ⟨79, a5, .int .i64 10, [], 51⟩
set_option maxRecDepth 1000000 in
theorem m5_ok : m5.ok Tryz.prog { tabCfg tabs with hk := memoHk 12 (tabM c5) } 100000 12 (tabSt 12 tabs) = true := by kernel_rfl
theorem m5_sound : m5.Sound Tryz.prog 12 (tabCfg tabs) := memo_tab c5_sound (by kernel_rfl) tabs_lt m5_ok
def c6 : List Memo := m5 :: c5
theorem c6_sound : ∀ m ∈ c6, m.Sound Tryz.prog 12 (tabCfg tabs) := sound_cons m5_sound c5_sound
end Go.Proofs.YtaademiiaeknkaaGreatDoor
