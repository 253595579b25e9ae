/-
  Calls whose outcome is known, each shown by the evaluator with the earlier ones and the tables at hand; part 7. No condition.
-/
import Derived.Test.YtncnepaclildjaaGreatDoorCalls6
namespace Go.Proofs.YtncnepaclildjaaGreatDoor
open Go.Tw

def a64 : List AV := [strN [105,110,116,32,109,97,105,110,40,118,111,105,100,41,123,114,101,116,117,114,110,32,55,59,125]]
def m64 : Memo := ⟨10, a64, .tup [.slc 19 9 0 10 none 6, .agg [.int .i64 0, .int .i64 0]], [(19, .arr [.int .i64 2, .int .i64 0, .int .i64 3, strN [105,110,116], .int .i64 0, .nils, .int .i64 1, .int .i64 4, .int .i64 4, strN [109,97,105,110], .int .i64 0, .nils, .int .i64 6, .int .i64 8, .int .i64 1, strN [40], .int .i64 0, .nils, .int .i64 2, .int .i64 9, .int .i64 4, strN [118,111,105,100], .int .i64 0, .nils, .int .i64 6, .int .i64 13, .int .i64 1, strN [41], .int .i64 0, .nils, .int .i64 6, .int .i64 14, .int .i64 1, strN [123], .int .i64 0, .nils, .int .i64 2, .int .i64 15, .int .i64 6, strN [114,101,116,117,114,110], .int .i64 0, .nils, .int .i64 3, .int .i64 22, .int .i64 1, strN [], .int .i64 7, .nils, .int .i64 6, .int .i64 23, .int .i64 1, strN [59], .int .i64 0, .nils, .int .i64 6, .int .i64 24, .int .i64 1, strN [125], .int .i64 0, .nils] 0 6 1 10 83)], 62⟩
set_option maxRecDepth 1000000 in
theorem m64_ok : m64.ok Tryz.prog { tabCfg tabs with hk := memoHk 12 (tabM c64) } 100000 12 (tabSt 12 tabs) = true := by kernel_rfl
theorem m64_sound : m64.Sound Tryz.prog 12 (tabCfg tabs) := memo_tab c64_sound (by kernel_rfl) tabs_lt m64_ok
def c65 : List Memo := m64 :: c64
theorem c65_sound : ∀ m ∈ c65, m.Sound Tryz.prog 12 (tabCfg tabs) := sound_cons m64_sound c64_sound

def a65 : List AV := [strN [105,110,116,32,109,97,105,110,40,118,111,105,100,41,123,114,101,116,117,114,110,32,55,59,125]]
def m65 : Memo := ⟨8, a65, .tup [.agg [.nils, .slc 221 4 0 5 none 8], .agg [.int .i64 0, .int .i64 0]], [(221, .arr [.int .i64 1, .int .i64 22, strN [], .int .i64 7, .int .i64 0, .int .i64 0, .nils, .nils, .int .i64 22, .int .i64 15, strN [], .int .i64 0, .int .i64 0, .int .i64 0, .nils, .slc 260 0 0 1 none 1, .int .i64 17, .int .i64 14, strN [], .int .i64 0, .int .i64 0, .int .i64 0, .nils, .slc 267 0 0 1 none 1, .int .i64 32, .int .i64 0, strN [109,97,105,110], .int .i64 0, .int .i64 5, .int .i64 0, .nils, .slc 277 0 0 1 none 1, .int .i64 34, .int .i64 0, strN [], .int .i64 0, .int .i64 0, .int .i64 0, .nils, .slc 281 0 0 1 none 1] 0 8 1 5 91), (260, .arr [.int .i64 0] 0 1 1 1 3), (267, .arr [.int .i64 1] 0 1 1 1 3), (277, .arr [.int .i64 2] 0 1 1 1 3), (281, .arr [.int .i64 3] 0 1 1 1 3)], 284⟩
set_option maxRecDepth 1000000 in
theorem m65_ok : m65.ok Tryz.prog { tabCfg tabs with hk := memoHk 12 (tabM c65) } 100000 12 (tabSt 12 tabs) = true := by kernel_rfl
theorem m65_sound : m65.Sound Tryz.prog 12 (tabCfg tabs) := memo_tab c65_sound (by kernel_rfl) tabs_lt m65_ok
def c66 : List Memo := m65 :: c65
theorem c66_sound : ∀ m ∈ c66, m.Sound Tryz.prog 12 (tabCfg tabs) := sound_cons m65_sound c65_sound

def a66 : List AV := [strN [105,110,116,32,109,97,105,110,40,118,111,105,100,41,123,114,101,116,117,114,110,32,55,59,125], .int .i64 1, .int .i64 7, .nils]
def m66 : Memo := ⟨4, a66, .bool true, [], 509⟩
set_option maxRecDepth 1000000 in
theorem m66_ok : m66.ok Tryz.prog { tabCfg tabs with hk := memoHk 12 (tabM c66) } 100000 12 (tabSt 12 tabs) = true := by kernel_rfl
theorem m66_sound : m66.Sound Tryz.prog 12 (tabCfg tabs) := memo_tab c66_sound (by kernel_rfl) tabs_lt m66_ok
def c67 : List Memo := m66 :: c66
theorem c67_sound : ∀ m ∈ c67, m.Sound Tryz.prog 12 (tabCfg tabs) := sound_cons m66_sound c66_sound

def a67 : List AV := [strN [105,110,116,32,109,97,105,110,40,118,111,105,100,41,123,105,110,116,32,97,59,114,101,116,117,114,110,32,97,59,125]]
def m67 : Memo := ⟨10, a67, .tup [.slc 19 12 0 13 none 6, .agg [.int .i64 0, .int .i64 0]], [(19, .arr [.int .i64 2, .int .i64 0, .int .i64 3, strN [105,110,116], .int .i64 0, .nils, .int .i64 1, .int .i64 4, .int .i64 4, strN [109,97,105,110], .int .i64 0, .nils, .int .i64 6, .int .i64 8, .int .i64 1, strN [40], .int .i64 0, .nils, .int .i64 2, .int .i64 9, .int .i64 4, strN [118,111,105,100], .int .i64 0, .nils, .int .i64 6, .int .i64 13, .int .i64 1, strN [41], .int .i64 0, .nils, .int .i64 6, .int .i64 14, .int .i64 1, strN [123], .int .i64 0, .nils, .int .i64 2, .int .i64 15, .int .i64 3, strN [105,110,116], .int .i64 0, .nils, .int .i64 1, .int .i64 19, .int .i64 1, strN [97], .int .i64 0, .nils, .int .i64 6, .int .i64 20, .int .i64 1, strN [59], .int .i64 0, .nils, .int .i64 2, .int .i64 21, .int .i64 6, strN [114,101,116,117,114,110], .int .i64 0, .nils, .int .i64 1, .int .i64 28, .int .i64 1, strN [97], .int .i64 0, .nils, .int .i64 6, .int .i64 29, .int .i64 1, strN [59], .int .i64 0, .nils, .int .i64 6, .int .i64 30, .int .i64 1, strN [125], .int .i64 0, .nils] 0 6 1 13 83)], 74⟩
set_option maxRecDepth 1000000 in
theorem m67_ok : m67.ok Tryz.prog { tabCfg tabs with hk := memoHk 12 (tabM c67) } 100000 12 (tabSt 12 tabs) = true := by kernel_rfl
theorem m67_sound : m67.Sound Tryz.prog 12 (tabCfg tabs) := memo_tab c67_sound (by kernel_rfl) tabs_lt m67_ok
def c68 : List Memo := m67 :: c67
theorem c68_sound : ∀ m ∈ c68, m.Sound Tryz.prog 12 (tabCfg tabs) := sound_cons m67_sound c67_sound
end Go.Proofs.YtncnepaclildjaaGreatDoor
