/-
  Calls whose outcome is known, each shown by the evaluator with the earlier ones and the tables at hand; part 3. No condition.
-/
import Derived.Test.YtcnllglgijgnkaaGreatDoorCalls2
namespace Go.Proofs.YtcnllglgijgnkaaGreatDoor
open Go.Tw

def a9 : List AV := [strN [105,110,116,32,102,40,105,110,116,32,120,41,123,114,101,116,117,114,110,32,120,63,45,120,58,40,99,104,97,114,41,120,59,125]]
def m9 : Memo := ⟨9, a9, .tup [.slc 19 18 0 19 none 6, .agg [.int .i64 0, .int .i64 0]], [(19, .arr [.int .i64 2, .int .i64 0, .int .i64 3, strN [105,110,116], .int .i64 0, .nils, .int .i64 1, .int .i64 4, .int .i64 1, strN [102], .int .i64 0, .nils, .int .i64 6, .int .i64 5, .int .i64 1, strN [40], .int .i64 0, .nils, .int .i64 2, .int .i64 6, .int .i64 3, strN [105,110,116], .int .i64 0, .nils, .int .i64 1, .int .i64 10, .int .i64 1, strN [120], .int .i64 0, .nils, .int .i64 6, .int .i64 11, .int .i64 1, strN [41], .int .i64 0, .nils, .int .i64 6, .int .i64 12, .int .i64 1, strN [123], .int .i64 0, .nils, .int .i64 2, .int .i64 13, .int .i64 6, strN [114,101,116,117,114,110], .int .i64 0, .nils, .int .i64 1, .int .i64 20, .int .i64 1, strN [120], .int .i64 0, .nils, .int .i64 6, .int .i64 21, .int .i64 1, strN [63], .int .i64 0, .nils, .int .i64 6, .int .i64 22, .int .i64 1, strN [45], .int .i64 0, .nils, .int .i64 1, .int .i64 23, .int .i64 1, strN [120], .int .i64 0, .nils, .int .i64 6, .int .i64 24, .int .i64 1, strN [58], .int .i64 0, .nils, .int .i64 6, .int .i64 25, .int .i64 1, strN [40], .int .i64 0, .nils, .int .i64 2, .int .i64 26, .int .i64 4, strN [99,104,97,114], .int .i64 0, .nils, .int .i64 6, .int .i64 30, .int .i64 1, strN [41], .int .i64 0, .nils, .int .i64 1, .int .i64 31, .int .i64 1, strN [120], .int .i64 0, .nils, .int .i64 6, .int .i64 32, .int .i64 1, strN [59], .int .i64 0, .nils, .int .i64 6, .int .i64 33, .int .i64 1, strN [125], .int .i64 0, .nils] 0 6 1 19 72)], 100⟩
set_option maxRecDepth 1000000 in
theorem m9_ok : m9.ok Tryz.prog { tabCfg tabs with hk := memoHk 12 (tabM c9) } 100000 12 (tabSt 12 tabs) = true := by kernel_rfl
theorem m9_sound : m9.Sound Tryz.prog 12 (tabCfg tabs) := memo_tab c9_sound (by kernel_rfl) tabs_lt m9_ok
def c10 : List Memo := m9 :: c9
theorem c10_sound : ∀ m ∈ c10, m.Sound Tryz.prog 12 (tabCfg tabs) := sound_cons m9_sound c9_sound

def a10 : List AV := [.nils, .agg [.int .i64 5, .int .i64 0, .nils]]
def m10 : Memo := ⟨74, a10, .int .i64 0, [], 20⟩
set_option maxRecDepth 1000000 in
theorem m10_ok : m10.ok Tryz.prog { tabCfg tabs with hk := memoHk 12 (tabM c10) } 100000 12 (tabSt 12 tabs) = true := by kernel_rfl
theorem m10_sound : m10.Sound Tryz.prog 12 (tabCfg tabs) := memo_tab c10_sound (by kernel_rfl) tabs_lt m10_ok
def c11 : List Memo := m10 :: c10
theorem c11_sound : ∀ m ∈ c11, m.Sound Tryz.prog 12 (tabCfg tabs) := sound_cons m10_sound c10_sound
end Go.Proofs.YtcnllglgijgnkaaGreatDoor
