/-
  Calls whose outcome is known, each shown by the evaluator with the earlier ones and the tables at hand; part 4. No condition.
-/
import Derived.Test.YtcnllglgijgnkaaGreatDoorCalls3
namespace Go.Proofs.YtcnllglgijgnkaaGreatDoor
open Go.Tw

def a11 : List AV := [strN [105,110,116,32,102,40,105,110,116,32,120,41,123,114,101,116,117,114,110,32,120,63,45,120,58,40,99,104,97,114,41,120,59,125]]
def m11 : Memo := ⟨7, a11, .tup [.agg [.nils, .slc 240 10 0 11 none 8], .agg [.int .i64 0, .int .i64 0]], [(240, .arr [.int .i64 31, .int .i64 6, strN [120], .int .i64 0, .int .i64 5, .int .i64 0, .nils, .nils, .int .i64 3, .int .i64 20, strN [120], .int .i64 0, .int .i64 0, .int .i64 0, .nils, .nils, .int .i64 3, .int .i64 23, strN [120], .int .i64 0, .int .i64 0, .int .i64 0, .nils, .nils, .int .i64 4, .int .i64 22, strN [45], .int .i64 0, .int .i64 0, .int .i64 0, .nils, .slc 413 0 0 1 (some 1) 1, .int .i64 3, .int .i64 31, strN [120], .int .i64 0, .int .i64 0, .int .i64 0, .nils, .nils, .int .i64 12, .int .i64 25, strN [], .int .i64 0, .int .i64 1, .int .i64 0, .nils, .slc 569 0 0 1 (some 1) 1, .int .i64 8, .int .i64 20, strN [], .int .i64 0, .int .i64 0, .int .i64 0, .nils, .slc 595 0 0 3 (some 3) 1, .int .i64 22, .int .i64 13, strN [], .int .i64 0, .int .i64 0, .int .i64 0, .nils, .slc 602 0 0 1 none 1, .int .i64 17, .int .i64 12, strN [], .int .i64 0, .int .i64 0, .int .i64 0, .nils, .slc 609 0 0 1 none 1, .int .i64 32, .int .i64 0, strN [102], .int .i64 0, .int .i64 5, .int .i64 0, .nils, .slc 242 1 0 2 none 1, .int .i64 34, .int .i64 0, strN [], .int .i64 0, .int .i64 0, .int .i64 0, .nils, .slc 622 0 0 1 none 1] 0 8 1 11 62), (242, .arr [.int .i64 0, .int .i64 8] 0 1 1 2 3), (413, .box [.int .i64 2] 3), (569, .box [.int .i64 4] 3), (595, .box [.int .i64 1, .int .i64 3, .int .i64 5] 3), (602, .arr [.int .i64 6] 0 1 1 1 3), (609, .arr [.int .i64 7] 0 1 1 1 3), (622, .arr [.int .i64 9] 0 1 1 1 3)], 625⟩
set_option maxRecDepth 1000000 in
theorem m11_ok : m11.ok Tryz.prog { tabCfg tabs with hk := memoHk 12 (tabM c11) } 100000 12 (tabSt 12 tabs) = true := by kernel_rfl
theorem m11_sound : m11.Sound Tryz.prog 12 (tabCfg tabs) := memo_tab c11_sound (by kernel_rfl) tabs_lt m11_ok
def c12 : List Memo := m11 :: c11
theorem c12_sound : ∀ m ∈ c12, m.Sound Tryz.prog 12 (tabCfg tabs) := sound_cons m11_sound c11_sound
end Go.Proofs.YtcnllglgijgnkaaGreatDoor
