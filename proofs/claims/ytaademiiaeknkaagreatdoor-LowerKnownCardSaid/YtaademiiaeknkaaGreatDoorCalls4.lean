/-
  Calls whose outcome is known, each shown by the evaluator with the earlier ones and the tables at hand; part 4. No condition.
-/
import Derived.Test.YtaademiiaeknkaaGreatDoorCalls3
namespace Go.Proofs.YtaademiiaeknkaaGreatDoor
open Go.Tw

def a14 : List AV := [strN [61,32,43,61,32,45,61,32,42,61,32,47,61,32,37,61,32,38,61,32,124,61,32,94,61,32,60,60,61,32,62,62,61], strN [61]]
def m14 : Memo := ⟨135, a14, .bool true, [], 13⟩
set_option maxRecDepth 1000000 in
theorem m14_ok : m14.ok Tryz.prog { tabCfg tabs with hk := memoHk 12 (tabM c14) } 100000 12 (tabSt 12 tabs) = true := by kernel_rfl
theorem m14_sound : m14.Sound Tryz.prog 12 (tabCfg tabs) := memo_tab c14_sound (by kernel_rfl) tabs_lt m14_ok
def c15 : List Memo := m14 :: c14
theorem c15_sound : ∀ m ∈ c15, m.Sound Tryz.prog 12 (tabCfg tabs) := sound_cons m14_sound c14_sound

def a15 : List AV := [strN [103,103,102], strN [102,103]]
def m15 : Memo := ⟨137, a15, strN [], [], 14⟩
set_option maxRecDepth 1000000 in
theorem m15_ok : m15.ok Tryz.prog { tabCfg tabs with hk := memoHk 12 (tabM c15) } 100000 12 (tabSt 12 tabs) = true := by kernel_rfl
theorem m15_sound : m15.Sound Tryz.prog 12 (tabCfg tabs) := memo_tab c15_sound (by kernel_rfl) tabs_lt m15_ok
def c16 : List Memo := m15 :: c15
theorem c16_sound : ∀ m ∈ c16, m.Sound Tryz.prog 12 (tabCfg tabs) := sound_cons m15_sound c15_sound

def a16 : List AV := [.nils, .agg [.int .i64 1, .int .i64 0, .nils]]
def m16 : Memo := ⟨69, a16, .tup [.int .i64 1, .int .i64 0], [], 27⟩
set_option maxRecDepth 1000000 in
theorem m16_ok : m16.ok Tryz.prog { tabCfg tabs with hk := memoHk 12 (tabM c16) } 100000 12 (tabSt 12 tabs) = true := by kernel_rfl
theorem m16_sound : m16.Sound Tryz.prog 12 (tabCfg tabs) := memo_tab c16_sound (by kernel_rfl) tabs_lt m16_ok
def c17 : List Memo := m16 :: c16
theorem c17_sound : ∀ m ∈ c17, m.Sound Tryz.prog 12 (tabCfg tabs) := sound_cons m16_sound c16_sound

def a17 : List AV := [.nils, .agg [.int .i64 1, .int .i64 0, .nils]]
def m17 : Memo := ⟨68, a17, .tup [.int .i64 1, .int .i64 0], [], 27⟩
set_option maxRecDepth 1000000 in
theorem m17_ok : m17.ok Tryz.prog { tabCfg tabs with hk := memoHk 12 (tabM c17) } 100000 12 (tabSt 12 tabs) = true := by kernel_rfl
theorem m17_sound : m17.Sound Tryz.prog 12 (tabCfg tabs) := memo_tab c17_sound (by kernel_rfl) tabs_lt m17_ok
def c18 : List Memo := m17 :: c17
theorem c18_sound : ∀ m ∈ c18, m.Sound Tryz.prog 12 (tabCfg tabs) := sound_cons m17_sound c17_sound

def a18 : List AV := [.agg [.int .i64 24, .int .i64 0, .int .i64 0, .int .i64 0, .int .i64 4, .nils]]
def m18 : Memo := ⟨79, a18, .int .i64 4, [], 45⟩
set_option maxRecDepth 1000000 in
theorem m18_ok : m18.ok Tryz.prog { tabCfg tabs with hk := memoHk 12 (tabM c18) } 100000 12 (tabSt 12 tabs) = true := by kernel_rfl
theorem m18_sound : m18.Sound Tryz.prog 12 (tabCfg tabs) := memo_tab c18_sound (by kernel_rfl) tabs_lt m18_ok
def c19 : List Memo := m18 :: c18
theorem c19_sound : ∀ m ∈ c19, m.Sound Tryz.prog 12 (tabCfg tabs) := sound_cons m18_sound c18_sound

def a19 : List AV := [.agg [.int .i64 1, .int .i64 1, .int .i64 0, .int .i64 0, .int .i64 5, .nils]]
def m19 : Memo := ⟨79, a19, .int .i64 10, [], 51⟩
set_option maxRecDepth 1000000 in
theorem m19_ok : m19.ok Tryz.prog { tabCfg tabs with hk := memoHk 12 (tabM c19) } 100000 12 (tabSt 12 tabs) = true := by kernel_rfl
theorem m19_sound : m19.Sound Tryz.prog 12 (tabCfg tabs) := memo_tab c19_sound (by kernel_rfl) tabs_lt m19_ok
def c20 : List Memo := m19 :: c19
theorem c20_sound : ∀ m ∈ c20, m.Sound Tryz.prog 12 (tabCfg tabs) := sound_cons m19_sound c19_sound

def a20 : List AV := [.agg [.int .i64 22, .int .i64 0, .int .i64 1, .int .i64 0, .int .i64 4, .nils]]
def m20 : Memo := ⟨79, a20, .int .i64 4, [], 51⟩
set_option maxRecDepth 1000000 in
theorem m20_ok : m20.ok Tryz.prog { tabCfg tabs with hk := memoHk 12 (tabM c20) } 100000 12 (tabSt 12 tabs) = true := by kernel_rfl
theorem m20_sound : m20.Sound Tryz.prog 12 (tabCfg tabs) := memo_tab c20_sound (by kernel_rfl) tabs_lt m20_ok
def c21 : List Memo := m20 :: c20
theorem c21_sound : ∀ m ∈ c21, m.Sound Tryz.prog 12 (tabCfg tabs) := sound_cons m20_sound c20_sound

def a21 : List AV := [.agg [.int .i64 2, .int .i64 0, .int .i64 1, .int .i64 0, .int .i64 0, .nils]]
def m21 : Memo := ⟨79, a21, .int .i64 3, [], 48⟩
set_option maxRecDepth 1000000 in
theorem m21_ok : m21.ok Tryz.prog { tabCfg tabs with hk := memoHk 12 (tabM c21) } 100000 12 (tabSt 12 tabs) = true := by kernel_rfl
theorem m21_sound : m21.Sound Tryz.prog 12 (tabCfg tabs) := memo_tab c21_sound (by kernel_rfl) tabs_lt m21_ok
def c22 : List Memo := m21 :: c21
theorem c22_sound : ∀ m ∈ c22, m.Sound Tryz.prog 12 (tabCfg tabs) := sound_cons m21_sound c21_sound

def a22 : List AV := [.agg [.int .i64 21, .int .i64 0, .int .i64 0, .int .i64 0, .int .i64 5, .nils]]
def m22 : Memo := ⟨79, a22, .int .i64 4, [], 50⟩
set_option maxRecDepth 1000000 in
theorem m22_ok : m22.ok Tryz.prog { tabCfg tabs with hk := memoHk 12 (tabM c22) } 100000 12 (tabSt 12 tabs) = true := by kernel_rfl
theorem m22_sound : m22.Sound Tryz.prog 12 (tabCfg tabs) := memo_tab c22_sound (by kernel_rfl) tabs_lt m22_ok
def c23 : List Memo := m22 :: c22
theorem c23_sound : ∀ m ∈ c23, m.Sound Tryz.prog 12 (tabCfg tabs) := sound_cons m22_sound c22_sound
end Go.Proofs.YtaademiiaeknkaaGreatDoor
