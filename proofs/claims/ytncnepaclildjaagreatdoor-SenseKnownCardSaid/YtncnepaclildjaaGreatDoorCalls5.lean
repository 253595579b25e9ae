/-
  Calls whose outcome is known, each shown by the evaluator with the earlier ones and the tables at hand; part 5. No condition.
-/
import Derived.Test.YtncnepaclildjaaGreatDoorCalls4
namespace Go.Proofs.YtncnepaclildjaaGreatDoor
open Go.Tw

def a53 : List AV := [strN [42,112,59,112,61,48,59,114,101,116,117,114,110,32,42,112,59,125]]
def m53 : Memo := ⟨90, a53, .int .i64 1, [], 13⟩
set_option maxRecDepth 1000000 in
theorem m53_ok : m53.ok Tryz.prog { tabCfg tabs with hk := memoHk 12 (tabM c53) } 100000 12 (tabSt 12 tabs) = true := by kernel_rfl
theorem m53_sound : m53.Sound Tryz.prog 12 (tabCfg tabs) := memo_tab c53_sound (by kernel_rfl) tabs_lt m53_ok
def c54 : List Memo := m53 :: c53
theorem c54_sound : ∀ m ∈ c54, m.Sound Tryz.prog 12 (tabCfg tabs) := sound_cons m53_sound c53_sound

def a54 : List AV := [strN [112]]
def m54 : Memo := ⟨85, a54, .bool false, [], 13⟩
set_option maxRecDepth 1000000 in
theorem m54_ok : m54.ok Tryz.prog { tabCfg tabs with hk := memoHk 12 (tabM c54) } 100000 12 (tabSt 12 tabs) = true := by kernel_rfl
theorem m54_sound : m54.Sound Tryz.prog 12 (tabCfg tabs) := memo_tab c54_sound (by kernel_rfl) tabs_lt m54_ok
def c55 : List Memo := m54 :: c54
theorem c55_sound : ∀ m ∈ c55, m.Sound Tryz.prog 12 (tabCfg tabs) := sound_cons m54_sound c54_sound

def a55 : List AV := [strN [61,48,59,114,101,116,117,114,110,32,42,112,59,125]]
def m55 : Memo := ⟨90, a55, .int .i64 1, [], 13⟩
set_option maxRecDepth 1000000 in
theorem m55_ok : m55.ok Tryz.prog { tabCfg tabs with hk := memoHk 12 (tabM c55) } 100000 12 (tabSt 12 tabs) = true := by kernel_rfl
theorem m55_sound : m55.Sound Tryz.prog 12 (tabCfg tabs) := memo_tab c55_sound (by kernel_rfl) tabs_lt m55_ok
def c56 : List Memo := m55 :: c55
theorem c56_sound : ∀ m ∈ c56, m.Sound Tryz.prog 12 (tabCfg tabs) := sound_cons m55_sound c55_sound

def a56 : List AV := [strN [59,114,101,116,117,114,110,32,42,112,59,125]]
def m56 : Memo := ⟨90, a56, .int .i64 1, [], 13⟩
set_option maxRecDepth 1000000 in
theorem m56_ok : m56.ok Tryz.prog { tabCfg tabs with hk := memoHk 12 (tabM c56) } 100000 12 (tabSt 12 tabs) = true := by kernel_rfl
theorem m56_sound : m56.Sound Tryz.prog 12 (tabCfg tabs) := memo_tab c56_sound (by kernel_rfl) tabs_lt m56_ok
def c57 : List Memo := m56 :: c56
theorem c57_sound : ∀ m ∈ c57, m.Sound Tryz.prog 12 (tabCfg tabs) := sound_cons m56_sound c56_sound

def a57 : List AV := [strN [42,112,59,125]]
def m57 : Memo := ⟨90, a57, .int .i64 1, [], 13⟩
set_option maxRecDepth 1000000 in
theorem m57_ok : m57.ok Tryz.prog { tabCfg tabs with hk := memoHk 12 (tabM c57) } 100000 12 (tabSt 12 tabs) = true := by kernel_rfl
theorem m57_sound : m57.Sound Tryz.prog 12 (tabCfg tabs) := memo_tab c57_sound (by kernel_rfl) tabs_lt m57_ok
def c58 : List Memo := m57 :: c57
theorem c58_sound : ∀ m ∈ c58, m.Sound Tryz.prog 12 (tabCfg tabs) := sound_cons m57_sound c57_sound

def a58 : List AV := [strN [105,110,116,32,109,97,105,110,40,118,111,105,100,41,123,99,104,97,114,42,112,59,112,61,48,59,114,101,116,117,114,110,32,42,112,59,125]]
def m58 : Memo := ⟨10, a58, .tup [.slc 19 18 0 19 none 6, .agg [.int .i64 0, .int .i64 0]], [(19, .arr [.int .i64 2, .int .i64 0, .int .i64 3, strN [105,110,116], .int .i64 0, .nils, .int .i64 1, .int .i64 4, .int .i64 4, strN [109,97,105,110], .int .i64 0, .nils, .int .i64 6, .int .i64 8, .int .i64 1, strN [40], .int .i64 0, .nils, .int .i64 2, .int .i64 9, .int .i64 4, strN [118,111,105,100], .int .i64 0, .nils, .int .i64 6, .int .i64 13, .int .i64 1, strN [41], .int .i64 0, .nils, .int .i64 6, .int .i64 14, .int .i64 1, strN [123], .int .i64 0, .nils, .int .i64 2, .int .i64 15, .int .i64 4, strN [99,104,97,114], .int .i64 0, .nils, .int .i64 6, .int .i64 19, .int .i64 1, strN [42], .int .i64 0, .nils, .int .i64 1, .int .i64 20, .int .i64 1, strN [112], .int .i64 0, .nils, .int .i64 6, .int .i64 21, .int .i64 1, strN [59], .int .i64 0, .nils, .int .i64 1, .int .i64 22, .int .i64 1, strN [112], .int .i64 0, .nils, .int .i64 6, .int .i64 23, .int .i64 1, strN [61], .int .i64 0, .nils, .int .i64 3, .int .i64 24, .int .i64 1, strN [], .int .i64 0, .nils, .int .i64 6, .int .i64 25, .int .i64 1, strN [59], .int .i64 0, .nils, .int .i64 2, .int .i64 26, .int .i64 6, strN [114,101,116,117,114,110], .int .i64 0, .nils, .int .i64 6, .int .i64 33, .int .i64 1, strN [42], .int .i64 0, .nils, .int .i64 1, .int .i64 34, .int .i64 1, strN [112], .int .i64 0, .nils, .int .i64 6, .int .i64 35, .int .i64 1, strN [59], .int .i64 0, .nils, .int .i64 6, .int .i64 36, .int .i64 1, strN [125], .int .i64 0, .nils] 0 6 1 19 83)], 102⟩
set_option maxRecDepth 1000000 in
theorem m58_ok : m58.ok Tryz.prog { tabCfg tabs with hk := memoHk 12 (tabM c58) } 100000 12 (tabSt 12 tabs) = true := by kernel_rfl
theorem m58_sound : m58.Sound Tryz.prog 12 (tabCfg tabs) := memo_tab c58_sound (by kernel_rfl) tabs_lt m58_ok
def c59 : List Memo := m58 :: c58
theorem c59_sound : ∀ m ∈ c59, m.Sound Tryz.prog 12 (tabCfg tabs) := sound_cons m58_sound c58_sound
end Go.Proofs.YtncnepaclildjaaGreatDoor
