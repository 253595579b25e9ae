/-
  Calls whose outcome is known, each shown by the evaluator with the earlier ones and the tables at hand; part 9. No condition.
-/
import Derived.Test.YtcnllglgijgnkaaGreatDoorCalls8
namespace Go.Proofs.YtcnllglgijgnkaaGreatDoor
open Go.Tw

def a24 : List AV := [strN [105,110,116,32,97,61,49,43,50,42,51,59]]
def m24 : Memo := ⟨9, a24, .tup [.slc 19 8 0 9 none 6, .agg [.int .i64 0, .int .i64 0]], [(19, .arr [.int .i64 2, .int .i64 0, .int .i64 3, strN [105,110,116], .int .i64 0, .nils, .int .i64 1, .int .i64 4, .int .i64 1, strN [97], .int .i64 0, .nils, .int .i64 6, .int .i64 5, .int .i64 1, strN [61], .int .i64 0, .nils, .int .i64 3, .int .i64 6, .int .i64 1, strN [], .int .i64 1, .nils, .int .i64 6, .int .i64 7, .int .i64 1, strN [43], .int .i64 0, .nils, .int .i64 3, .int .i64 8, .int .i64 1, strN [], .int .i64 2, .nils, .int .i64 6, .int .i64 9, .int .i64 1, strN [42], .int .i64 0, .nils, .int .i64 3, .int .i64 10, .int .i64 1, strN [], .int .i64 3, .nils, .int .i64 6, .int .i64 11, .int .i64 1, strN [59], .int .i64 0, .nils] 0 6 1 9 72)], 62⟩
set_option maxRecDepth 1000000 in
theorem m24_ok : m24.ok Tryz.prog { tabCfg tabs with hk := memoHk 12 (tabM c24) } 100000 12 (tabSt 12 tabs) = true := by kernel_rfl
theorem m24_sound : m24.Sound Tryz.prog 12 (tabCfg tabs) := memo_tab c24_sound (by kernel_rfl) tabs_lt m24_ok
def c25 : List Memo := m24 :: c24
theorem c25_sound : ∀ m ∈ c25, m.Sound Tryz.prog 12 (tabCfg tabs) := sound_cons m24_sound c24_sound
end Go.Proofs.YtcnllglgijgnkaaGreatDoor
