/-
  Calls whose outcome is known, each shown by the evaluator with the earlier ones and the tables at hand; part 8. No condition.
-/
import Derived.Test.YtncnepaclildjaaGreatDoorCalls7
namespace Go.Proofs.YtncnepaclildjaaGreatDoor
open Go.Tw

def a68 : List AV := [strN [105,110,116,32,109,97,105,110,40,118,111,105,100,41,123,105,110,116,32,97,59,114,101,116,117,114,110,32,97,59,125]]
def m68 : Memo := ⟨8, a68, .tup [.agg [.nils, .slc 246 5 0 6 none 8], .agg [.int .i64 0, .int .i64 0]], [(246, .arr [.int .i64 30, .int .i64 15, strN [97], .int .i64 0, .int .i64 5, .int .i64 0, .nils, .nils, .int .i64 3, .int .i64 28, strN [97], .int .i64 0, .int .i64 0, .int .i64 0, .nils, .nils, .int .i64 22, .int .i64 21, strN [], .int .i64 0, .int .i64 0, .int .i64 0, .nils, .slc 358 0 0 1 none 1, .int .i64 17, .int .i64 14, strN [], .int .i64 0, .int .i64 0, .int .i64 0, .nils, .slc 248 1 0 2 none 1, .int .i64 32, .int .i64 0, strN [109,97,105,110], .int .i64 0, .int .i64 5, .int .i64 0, .nils, .slc 374 0 0 1 none 1, .int .i64 34, .int .i64 0, strN [], .int .i64 0, .int .i64 0, .int .i64 0, .nils, .slc 378 0 0 1 none 1] 0 8 1 6 91), (248, .arr [.int .i64 0, .int .i64 2] 0 1 1 2 3), (358, .arr [.int .i64 1] 0 1 1 1 3), (374, .arr [.int .i64 3] 0 1 1 1 3), (378, .arr [.int .i64 4] 0 1 1 1 3)], 381⟩
set_option maxRecDepth 1000000 in
theorem m68_ok : m68.ok Tryz.prog { tabCfg tabs with hk := memoHk 12 (tabM c68) } 100000 12 (tabSt 12 tabs) = true := by kernel_rfl
theorem m68_sound : m68.Sound Tryz.prog 12 (tabCfg tabs) := memo_tab c68_sound (by kernel_rfl) tabs_lt m68_ok
def c69 : List Memo := m68 :: c68
theorem c69_sound : ∀ m ∈ c69, m.Sound Tryz.prog 12 (tabCfg tabs) := sound_cons m68_sound c68_sound

def a69 : List AV := [strN [105,110,116,32,109,97,105,110,40,118,111,105,100,41,123,105,110,116,32,97,59,114,101,116,117,114,110,32,97,59,125], .int .i64 5, .int .i64 1, .nils]
def m69 : Memo := ⟨4, a69, .bool true, [], 732⟩
set_option maxRecDepth 1000000 in
theorem m69_ok : m69.ok Tryz.prog { tabCfg tabs with hk := memoHk 12 (tabM c69) } 100000 12 (tabSt 12 tabs) = true := by kernel_rfl
theorem m69_sound : m69.Sound Tryz.prog 12 (tabCfg tabs) := memo_tab c69_sound (by kernel_rfl) tabs_lt m69_ok
def c70 : List Memo := m69 :: c69
theorem c70_sound : ∀ m ∈ c70, m.Sound Tryz.prog 12 (tabCfg tabs) := sound_cons m69_sound c69_sound

def a70 : List AV := []
def m70 : Memo := ⟨5, a70, .bool true, [], 1229⟩
set_option maxRecDepth 1000000 in
theorem m70_ok : m70.ok Tryz.prog { tabCfg tabs with hk := memoHk 12 (tabM c70) } 100000 12 (tabSt 12 tabs) = true := by kernel_rfl
theorem m70_sound : m70.Sound Tryz.prog 12 (tabCfg tabs) := memo_tab c70_sound (by kernel_rfl) tabs_lt m70_ok
def c71 : List Memo := m70 :: c70
theorem c71_sound : ∀ m ∈ c71, m.Sound Tryz.prog 12 (tabCfg tabs) := sound_cons m70_sound c70_sound
end Go.Proofs.YtncnepaclildjaaGreatDoor
