/-
  Calls whose outcome is known, each shown by the evaluator with the earlier ones and the tables at hand; part 1. No condition.
-/
import Derived.Test.YtncnepaclildjaaGreatDoorCalls0
namespace Go.Proofs.YtncnepaclildjaaGreatDoor
open Go.Tw

def a27 : List AV := [strN [125]]
def m27 : Memo := ⟨90, a27, .int .i64 1, [], 13⟩
set_option maxRecDepth 1000000 in
theorem m27_ok : m27.ok Tryz.prog { tabCfg tabs with hk := memoHk 12 (tabM c27) } 100000 12 (tabSt 12 tabs) = true := by kernel_rfl
theorem m27_sound : m27.Sound Tryz.prog 12 (tabCfg tabs) := memo_tab c27_sound (by kernel_rfl) tabs_lt m27_ok
def c28 : List Memo := m27 :: c27
theorem c28_sound : ∀ m ∈ c28, m.Sound Tryz.prog 12 (tabCfg tabs) := sound_cons m27_sound c27_sound

def a28 : List AV := [strN [105,110,116,32,109,97,105,110,40,118,111,105,100,41,123,105,110,116,32,97,59,97,61,103,101,116,98,40,41,59,119,104,105,108,101,40,97,41,123,112,117,116,98,40,97,41,59,97,45,45,59,125,114,101,116,117,114,110,32,48,59,125]]
def m28 : Memo := ⟨10, a28, .tup [.slc 19 32 0 33 none 6, .agg [.int .i64 0, .int .i64 0]], [(19, .arr [.int .i64 2, .int .i64 0, .int .i64 3, strN [105,110,116], .int .i64 0, .nils, .int .i64 1, .int .i64 4, .int .i64 4, strN [109,97,105,110], .int .i64 0, .nils, .int .i64 6, .int .i64 8, .int .i64 1, strN [40], .int .i64 0, .nils, .int .i64 2, .int .i64 9, .int .i64 4, strN [118,111,105,100], .int .i64 0, .nils, .int .i64 6, .int .i64 13, .int .i64 1, strN [41], .int .i64 0, .nils, .int .i64 6, .int .i64 14, .int .i64 1, strN [123], .int .i64 0, .nils, .int .i64 2, .int .i64 15, .int .i64 3, strN [105,110,116], .int .i64 0, .nils, .int .i64 1, .int .i64 19, .int .i64 1, strN [97], .int .i64 0, .nils, .int .i64 6, .int .i64 20, .int .i64 1, strN [59], .int .i64 0, .nils, .int .i64 1, .int .i64 21, .int .i64 1, strN [97], .int .i64 0, .nils, .int .i64 6, .int .i64 22, .int .i64 1, strN [61], .int .i64 0, .nils, .int .i64 1, .int .i64 23, .int .i64 4, strN [103,101,116,98], .int .i64 0, .nils, .int .i64 6, .int .i64 27, .int .i64 1, strN [40], .int .i64 0, .nils, .int .i64 6, .int .i64 28, .int .i64 1, strN [41], .int .i64 0, .nils, .int .i64 6, .int .i64 29, .int .i64 1, strN [59], .int .i64 0, .nils, .int .i64 2, .int .i64 30, .int .i64 5, strN [119,104,105,108,101], .int .i64 0, .nils, .int .i64 6, .int .i64 35, .int .i64 1, strN [40], .int .i64 0, .nils, .int .i64 1, .int .i64 36, .int .i64 1, strN [97], .int .i64 0, .nils, .int .i64 6, .int .i64 37, .int .i64 1, strN [41], .int .i64 0, .nils, .int .i64 6, .int .i64 38, .int .i64 1, strN [123], .int .i64 0, .nils, .int .i64 1, .int .i64 39, .int .i64 4, strN [112,117,116,98], .int .i64 0, .nils, .int .i64 6, .int .i64 43, .int .i64 1, strN [40], .int .i64 0, .nils, .int .i64 1, .int .i64 44, .int .i64 1, strN [97], .int .i64 0, .nils, .int .i64 6, .int .i64 45, .int .i64 1, strN [41], .int .i64 0, .nils, .int .i64 6, .int .i64 46, .int .i64 1, strN [59], .int .i64 0, .nils, .int .i64 1, .int .i64 47, .int .i64 1, strN [97], .int .i64 0, .nils, .int .i64 6, .int .i64 48, .int .i64 2, strN [45,45], .int .i64 0, .nils, .int .i64 6, .int .i64 50, .int .i64 1, strN [59], .int .i64 0, .nils, .int .i64 6, .int .i64 51, .int .i64 1, strN [125], .int .i64 0, .nils, .int .i64 2, .int .i64 52, .int .i64 6, strN [114,101,116,117,114,110], .int .i64 0, .nils, .int .i64 3, .int .i64 59, .int .i64 1, strN [], .int .i64 0, .nils, .int .i64 6, .int .i64 60, .int .i64 1, strN [59], .int .i64 0, .nils, .int .i64 6, .int .i64 61, .int .i64 1, strN [125], .int .i64 0, .nils] 0 6 1 33 83)], 163⟩
set_option maxRecDepth 1000000 in
theorem m28_ok : m28.ok Tryz.prog { tabCfg tabs with hk := memoHk 12 (tabM c28) } 100000 12 (tabSt 12 tabs) = true := by kernel_rfl
theorem m28_sound : m28.Sound Tryz.prog 12 (tabCfg tabs) := memo_tab c28_sound (by kernel_rfl) tabs_lt m28_ok
def c29 : List Memo := m28 :: c28
theorem c29_sound : ∀ m ∈ c29, m.Sound Tryz.prog 12 (tabCfg tabs) := sound_cons m28_sound c28_sound

def a29 : List AV := [.nils, .agg [.int .i64 5, .int .i64 0, .nils]]
def m29 : Memo := ⟨76, a29, .int .i64 0, [], 20⟩
set_option maxRecDepth 1000000 in
theorem m29_ok : m29.ok Tryz.prog { tabCfg tabs with hk := memoHk 12 (tabM c29) } 100000 12 (tabSt 12 tabs) = true := by kernel_rfl
theorem m29_sound : m29.Sound Tryz.prog 12 (tabCfg tabs) := memo_tab c29_sound (by kernel_rfl) tabs_lt m29_ok
def c30 : List Memo := m29 :: c29
theorem c30_sound : ∀ m ∈ c30, m.Sound Tryz.prog 12 (tabCfg tabs) := sound_cons m29_sound c29_sound
end Go.Proofs.YtncnepaclildjaaGreatDoor
