/-
  Calls whose outcome is known, each shown by the evaluator with the earlier ones and the tables at hand; part 2. No condition.
-/
import Derived.Test.YtaademiiaeknkaaGreatDoorCalls1
namespace Go.Proofs.YtaademiiaeknkaaGreatDoor
open Go.Tw

def a6 : List AV := [.agg [.int .i64 1, .int .i64 1, .int .i64 0, .int .i64 0, .int .i64 2, .nils]]
def m6 : Memo := ⟨79, a6, .int .i64 10, [], 51⟩
set_option maxRecDepth 1000000 in
theorem m6_ok : m6.ok Tryz.prog { tabCfg tabs with hk := memoHk 12 (tabM c6) } 100000 12 (tabSt 12 tabs) = true := by kernel_rfl
theorem m6_sound : m6.Sound Tryz.prog 12 (tabCfg tabs) := memo_tab c6_sound (by kernel_rfl) tabs_lt m6_ok
def c7 : List Memo := m6 :: c6
theorem c7_sound : ∀ m ∈ c7, m.Sound Tryz.prog 12 (tabCfg tabs) := sound_cons m6_sound c6_sound

def a7 : List AV := [.agg [.int .i64 3, .int .i64 0, .int .i64 0, .int .i64 1, .int .i64 0, .nils]]
def m7 : Memo := ⟨79, a7, .int .i64 4, [], 53⟩
set_option maxRecDepth 1000000 in
theorem m7_ok : m7.ok Tryz.prog { tabCfg tabs with hk := memoHk 12 (tabM c7) } 100000 12 (tabSt 12 tabs) = true := by kernel_rfl
theorem m7_sound : m7.Sound Tryz.prog 12 (tabCfg tabs) := memo_tab c7_sound (by kernel_rfl) tabs_lt m7_ok
def c8 : List Memo := m7 :: c7
theorem c8_sound : ∀ m ∈ c8, m.Sound Tryz.prog 12 (tabCfg tabs) := sound_cons m7_sound c7_sound

def a8 : List AV := [.agg [.int .i64 20, .int .i64 0, .int .i64 0, .int .i64 0, .int .i64 5, .nils]]
def m8 : Memo := ⟨79, a8, .int .i64 4, [], 50⟩
set_option maxRecDepth 1000000 in
theorem m8_ok : m8.ok Tryz.prog { tabCfg tabs with hk := memoHk 12 (tabM c8) } 100000 12 (tabSt 12 tabs) = true := by kernel_rfl
theorem m8_sound : m8.Sound Tryz.prog 12 (tabCfg tabs) := memo_tab c8_sound (by kernel_rfl) tabs_lt m8_ok
def c9 : List Memo := m8 :: c8
theorem c9_sound : ∀ m ∈ c9, m.Sound Tryz.prog 12 (tabCfg tabs) := sound_cons m8_sound c8_sound

def a9 : List AV := [.agg [.int .i64 29, .int .i64 0, .int .i64 0, .int .i64 0, .int .i64 0, .nils]]
def m9 : Memo := ⟨79, a9, .int .i64 2, [], 44⟩
set_option maxRecDepth 1000000 in
theorem m9_ok : m9.ok Tryz.prog { tabCfg tabs with hk := memoHk 12 (tabM c9) } 100000 12 (tabSt 12 tabs) = true := by kernel_rfl
theorem m9_sound : m9.Sound Tryz.prog 12 (tabCfg tabs) := memo_tab c9_sound (by kernel_rfl) tabs_lt m9_ok
def c10 : List Memo := m9 :: c9
theorem c10_sound : ∀ m ∈ c10, m.Sound Tryz.prog 12 (tabCfg tabs) := sound_cons m9_sound c9_sound

def a10 : List AV := [.agg [.int .i64 1, .int .i64 0, .int .i64 0, .int .i64 0, .int .i64 0, .nils]]
def m10 : Memo := ⟨79, a10, .int .i64 10, [], 51⟩
set_option maxRecDepth 1000000 in
theorem m10_ok : m10.ok Tryz.prog { tabCfg tabs with hk := memoHk 12 (tabM c10) } 100000 12 (tabSt 12 tabs) = true := by kernel_rfl
theorem m10_sound : m10.Sound Tryz.prog 12 (tabCfg tabs) := memo_tab c10_sound (by kernel_rfl) tabs_lt m10_ok
def c11 : List Memo := m10 :: c10
theorem c11_sound : ∀ m ∈ c11, m.Sound Tryz.prog 12 (tabCfg tabs) := sound_cons m10_sound c10_sound
end Go.Proofs.YtaademiiaeknkaaGreatDoor
