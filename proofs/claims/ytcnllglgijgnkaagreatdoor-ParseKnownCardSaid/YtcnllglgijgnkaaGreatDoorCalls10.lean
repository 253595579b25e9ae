/-
  Calls whose outcome is known, each shown by the evaluator with the earlier ones and the tables at hand; part 10. No condition.
-/
import Derived.Test.YtcnllglgijgnkaaGreatDoorCalls9
namespace Go.Proofs.YtcnllglgijgnkaaGreatDoor
open Go.Tw

def a25 : List AV := [strN [105,110,116,32,97,61,49,43,50,42,51,59]]
def m25 : Memo := ⟨7, a25, .tup [.agg [.nils, .slc 176 6 0 7 none 8], .agg [.int .i64 0, .int .i64 0]], [(176, .arr [.int .i64 1, .int .i64 6, strN [], .int .i64 1, .int .i64 0, .int .i64 0, .nils, .nils, .int .i64 1, .int .i64 8, strN [], .int .i64 2, .int .i64 0, .int .i64 0, .nils, .nils, .int .i64 1, .int .i64 10, strN [], .int .i64 3, .int .i64 0, .int .i64 0, .nils, .nils, .int .i64 6, .int .i64 8, strN [42], .int .i64 0, .int .i64 0, .int .i64 0, .nils, .slc 260 0 0 2 (some 2) 1, .int .i64 6, .int .i64 6, strN [43], .int .i64 0, .int .i64 0, .int .i64 0, .nils, .slc 265 0 0 2 (some 2) 1, .int .i64 33, .int .i64 0, strN [97], .int .i64 0, .int .i64 5, .int .i64 0, .nils, .slc 292 0 0 1 (some 1) 1, .int .i64 34, .int .i64 0, strN [], .int .i64 0, .int .i64 0, .int .i64 0, .nils, .slc 299 0 0 1 none 1] 0 8 1 7 62), (260, .box [.int .i64 1, .int .i64 2] 3), (265, .box [.int .i64 0, .int .i64 3] 3), (292, .box [.int .i64 4] 3), (299, .arr [.int .i64 5] 0 1 1 1 3)], 302⟩
set_option maxRecDepth 1000000 in
theorem m25_ok : m25.ok Tryz.prog { tabCfg tabs with hk := memoHk 12 (tabM c25) } 100000 12 (tabSt 12 tabs) = true := by kernel_rfl
theorem m25_sound : m25.Sound Tryz.prog 12 (tabCfg tabs) := memo_tab c25_sound (by kernel_rfl) tabs_lt m25_ok
def c26 : List Memo := m25 :: c25
theorem c26_sound : ∀ m ∈ c26, m.Sound Tryz.prog 12 (tabCfg tabs) := sound_cons m25_sound c25_sound

def a26 : List AV := [strN [42,32,47,32,37,32,43,32,45,32,60,60,32,62,62,32,60,32,62,32,60,61,32,62,61,32,61,61,32,33,61,32,38,32,94,32,124,32,38,38,32,124,124]]
def m26 : Memo := ⟨169, a26, .slc 12 0 0 18 (some 18) 1, [(12, .box [strN [42], strN [47], strN [37], strN [43], strN [45], strN [60,60], strN [62,62], strN [60], strN [62], strN [60,61], strN [62,61], strN [61,61], strN [33,61], strN [38], strN [94], strN [124], strN [38,38], strN [124,124]] 9)], 13⟩
set_option maxRecDepth 1000000 in
theorem m26_ok : m26.ok Tryz.prog { tabCfg tabs with hk := memoHk 12 (tabM c26) } 100000 12 (tabSt 12 tabs) = true := by kernel_rfl
theorem m26_sound : m26.Sound Tryz.prog 12 (tabCfg tabs) := memo_tab c26_sound (by kernel_rfl) tabs_lt m26_ok
def c27 : List Memo := m26 :: c26
theorem c27_sound : ∀ m ∈ c27, m.Sound Tryz.prog 12 (tabCfg tabs) := sound_cons m26_sound c26_sound
end Go.Proofs.YtcnllglgijgnkaaGreatDoor
