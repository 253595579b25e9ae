/-
  Calls whose outcome is known, each shown by the evaluator with the earlier ones and the tables at hand; part 4. No condition.
-/
import Derived.Test.YtncnepaclildjaaGreatDoorCalls3
namespace Go.Proofs.YtncnepaclildjaaGreatDoor
open Go.Tw

def a51 : List AV := [strN [105,110,116,32,109,97,105,110,40,118,111,105,100,41,123,105,110,116,32,97,59,97,61,50,49,52,55,52,56,51,54,52,55,59,97,43,43,59,114,101,116,117,114,110,32,48,59,125]]
def m51 : Memo := ⟨8, a51, .tup [.agg [.nils, .slc 281 12 0 13 none 8], .agg [.int .i64 0, .int .i64 0]], [(281, .arr [.int .i64 30, .int .i64 15, strN [97], .int .i64 0, .int .i64 5, .int .i64 0, .nils, .nils, .int .i64 3, .int .i64 21, strN [97], .int .i64 0, .int .i64 0, .int .i64 0, .nils, .nils, .int .i64 1, .int .i64 23, strN [], .int .i64 2147483647, .int .i64 0, .int .i64 0, .nils, .nils, .int .i64 7, .int .i64 21, strN [61], .int .i64 0, .int .i64 0, .int .i64 0, .nils, .slc 478 0 0 2 (some 2) 1, .int .i64 15, .int .i64 21, strN [], .int .i64 0, .int .i64 0, .int .i64 0, .nils, .slc 481 0 0 1 (some 1) 1, .int .i64 3, .int .i64 34, strN [97], .int .i64 0, .int .i64 0, .int .i64 0, .nils, .nils, .int .i64 5, .int .i64 34, strN [43,43], .int .i64 0, .int .i64 0, .int .i64 0, .nils, .slc 573 0 0 1 (some 1) 1, .int .i64 15, .int .i64 34, strN [], .int .i64 0, .int .i64 0, .int .i64 0, .nils, .slc 623 0 0 1 (some 1) 1, .int .i64 1, .int .i64 45, strN [], .int .i64 0, .int .i64 0, .int .i64 0, .nils, .nils, .int .i64 22, .int .i64 38, strN [], .int .i64 0, .int .i64 0, .int .i64 0, .nils, .slc 736 0 0 1 none 1, .int .i64 17, .int .i64 14, strN [], .int .i64 0, .int .i64 0, .int .i64 0, .nils, .slc 283 3 0 4 none 1, .int .i64 32, .int .i64 0, strN [109,97,105,110], .int .i64 0, .int .i64 5, .int .i64 0, .nils, .slc 752 0 0 1 none 1, .int .i64 34, .int .i64 0, strN [], .int .i64 0, .int .i64 0, .int .i64 0, .nils, .slc 756 0 0 1 none 1] 0 8 1 13 91), (283, .arr [.int .i64 0, .int .i64 4, .int .i64 7, .int .i64 9] 0 1 1 4 3), (478, .box [.int .i64 1, .int .i64 2] 3), (481, .box [.int .i64 3] 3), (573, .box [.int .i64 5] 3), (623, .box [.int .i64 6] 3), (736, .arr [.int .i64 8] 0 1 1 1 3), (752, .arr [.int .i64 10] 0 1 1 1 3), (756, .arr [.int .i64 11] 0 1 1 1 3)], 759⟩
set_option maxRecDepth 1000000 in
theorem m51_ok : m51.ok Tryz.prog { tabCfg tabs with hk := memoHk 12 (tabM c51) } 100000 12 (tabSt 12 tabs) = true := by kernel_rfl
theorem m51_sound : m51.Sound Tryz.prog 12 (tabCfg tabs) := memo_tab c51_sound (by kernel_rfl) tabs_lt m51_ok
def c52 : List Memo := m51 :: c51
theorem c52_sound : ∀ m ∈ c52, m.Sound Tryz.prog 12 (tabCfg tabs) := sound_cons m51_sound c51_sound

def a52 : List AV := [strN [105,110,116,32,109,97,105,110,40,118,111,105,100,41,123,105,110,116,32,97,59,97,61,50,49,52,55,52,56,51,54,52,55,59,97,43,43,59,114,101,116,117,114,110,32,48,59,125], .int .i64 5, .int .i64 4, .nils]
def m52 : Memo := ⟨4, a52, .bool true, [], 1401⟩
set_option maxRecDepth 1000000 in
theorem m52_ok : m52.ok Tryz.prog { tabCfg tabs with hk := memoHk 12 (tabM c52) } 100000 12 (tabSt 12 tabs) = true := by kernel_rfl
theorem m52_sound : m52.Sound Tryz.prog 12 (tabCfg tabs) := memo_tab c52_sound (by kernel_rfl) tabs_lt m52_ok
def c53 : List Memo := m52 :: c52
theorem c53_sound : ∀ m ∈ c53, m.Sound Tryz.prog 12 (tabCfg tabs) := sound_cons m52_sound c52_sound
end Go.Proofs.YtncnepaclildjaaGreatDoor
