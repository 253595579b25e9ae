/-
  Calls whose outcome is known, each shown by the evaluator with the earlier ones and the tables at hand; part 0. No condition.
-/
import Derived.Test.YtbhfbgbeindipaaGreatDoorTabs
namespace Go.Proofs.YtbhfbgbeindipaaGreatDoor
open Go.Tw
def c0 : List Memo := []
theorem c0_sound : ∀ m ∈ c0, m.Sound Tryz.prog 8 (tabCfg tabs) := sound_nil

def a0 : List AV := [strN [48]]
def m0 : Memo := ⟨6, a0, .tup [.int .i64 0, .bool true], [], 9⟩
set_option maxRecDepth 1000000 in
theorem m0_ok : m0.ok Tryz.prog { tabCfg tabs with hk := memoHk 8 (tabM c0) } 100000 8 (tabSt 8 tabs) = true := by kernel_rfl
theorem m0_sound : m0.Sound Tryz.prog 8 (tabCfg tabs) := memo_tab c0_sound (by kernel_rfl) tabs_lt m0_ok
def c1 : List Memo := m0 :: c0
theorem c1_sound : ∀ m ∈ c1, m.Sound Tryz.prog 8 (tabCfg tabs) := sound_cons m0_sound c0_sound

def a1 : List AV := [strN [49]]
def m1 : Memo := ⟨6, a1, .tup [.int .i64 1, .bool true], [], 9⟩
set_option maxRecDepth 1000000 in
theorem m1_ok : m1.ok Tryz.prog { tabCfg tabs with hk := memoHk 8 (tabM c1) } 100000 8 (tabSt 8 tabs) = true := by kernel_rfl
theorem m1_sound : m1.Sound Tryz.prog 8 (tabCfg tabs) := memo_tab c1_sound (by kernel_rfl) tabs_lt m1_ok
def c2 : List Memo := m1 :: c1
theorem c2_sound : ∀ m ∈ c2, m.Sound Tryz.prog 8 (tabCfg tabs) := sound_cons m1_sound c1_sound

def a2 : List AV := [strN [101,120,105,116]]
def m2 : Memo := ⟨45, a2, .int .i64 32, [], 44⟩
set_option maxRecDepth 1000000 in
theorem m2_ok : m2.ok Tryz.prog { tabCfg tabs with hk := memoHk 8 (tabM c2) } 100000 8 (tabSt 8 tabs) = true := by kernel_rfl
theorem m2_sound : m2.Sound Tryz.prog 8 (tabCfg tabs) := memo_tab c2_sound (by kernel_rfl) tabs_lt m2_ok
def c3 : List Memo := m2 :: c2
theorem c3_sound : ∀ m ∈ c3, m.Sound Tryz.prog 8 (tabCfg tabs) := sound_cons m2_sound c2_sound

def a3 : List AV := [.agg [.int .i64 30, .int .i64 0, .int .i64 0, .int .i64 0, .int .i64 0, .nils]]
def m3 : Memo := ⟨92, a3, .tup [.slc 36 0 0 2 none 1, .int .i64 0], [(36, .arr [.int .u8 30, .int .u8 0] 0 2 1 1 5)], 37⟩
set_option maxRecDepth 1000000 in
theorem m3_ok : m3.ok Tryz.prog { tabCfg tabs with hk := memoHk 8 (tabM c3) } 100000 8 (tabSt 8 tabs) = true := by kernel_rfl
theorem m3_sound : m3.Sound Tryz.prog 8 (tabCfg tabs) := memo_tab c3_sound (by kernel_rfl) tabs_lt m3_ok
def c4 : List Memo := m3 :: c3
theorem c4_sound : ∀ m ∈ c4, m.Sound Tryz.prog 8 (tabCfg tabs) := sound_cons m3_sound c3_sound

def a4 : List AV := [.agg [.int .i64 32, .int .i64 0, .int .i64 0, .int .i64 0, .int .i64 0, .nils]]
def m4 : Memo := ⟨92, a4, .tup [.slc 38 0 0 2 none 1, .int .i64 0], [(38, .arr [.int .u8 32, .int .u8 0] 0 2 1 1 5)], 39⟩
set_option maxRecDepth 1000000 in
theorem m4_ok : m4.ok Tryz.prog { tabCfg tabs with hk := memoHk 8 (tabM c4) } 100000 8 (tabSt 8 tabs) = true := by kernel_rfl
theorem m4_sound : m4.Sound Tryz.prog 8 (tabCfg tabs) := memo_tab c4_sound (by kernel_rfl) tabs_lt m4_ok
def c5 : List Memo := m4 :: c4
theorem c5_sound : ∀ m ∈ c5, m.Sound Tryz.prog 8 (tabCfg tabs) := sound_cons m4_sound c4_sound

def a5 : List AV := [.agg [.int .i64 30, .int .i64 0, .int .i64 0, .int .i64 0, .int .i64 0, .nils], .int .i64 2, .int .i64 8]
def m5 : Memo := ⟨78, a5, .int .i64 0, [], 27⟩
set_option maxRecDepth 1000000 in
theorem m5_ok : m5.ok Tryz.prog { tabCfg tabs with hk := memoHk 8 (tabM c5) } 100000 8 (tabSt 8 tabs) = true := by kernel_rfl
theorem m5_sound : m5.Sound Tryz.prog 8 (tabCfg tabs) := memo_tab c5_sound (by kernel_rfl) tabs_lt m5_ok
def c6 : List Memo := m5 :: c5
theorem c6_sound : ∀ m ∈ c6, m.Sound Tryz.prog 8 (tabCfg tabs) := sound_cons m5_sound c5_sound

def a6 : List AV := [.agg [.int .i64 32, .int .i64 0, .int .i64 0, .int .i64 0, .int .i64 0, .nils], .int .i64 2, .int .i64 8]
def m6 : Memo := ⟨78, a6, .int .i64 0, [], 29⟩
set_option maxRecDepth 1000000 in
theorem m6_ok : m6.ok Tryz.prog { tabCfg tabs with hk := memoHk 8 (tabM c6) } 100000 8 (tabSt 8 tabs) = true := by kernel_rfl
theorem m6_sound : m6.Sound Tryz.prog 8 (tabCfg tabs) := memo_tab c6_sound (by kernel_rfl) tabs_lt m6_ok
def c7 : List Memo := m6 :: c6
theorem c7_sound : ∀ m ∈ c7, m.Sound Tryz.prog 8 (tabCfg tabs) := sound_cons m6_sound c6_sound
end Go.Proofs.YtbhfbgbeindipaaGreatDoor
