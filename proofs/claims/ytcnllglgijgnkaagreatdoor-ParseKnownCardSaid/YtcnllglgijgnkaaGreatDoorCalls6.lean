/-
  Calls whose outcome is known, each shown by the evaluator with the earlier ones and the tables at hand; part 6. No condition.
-/
import Derived.Test.YtcnllglgijgnkaaGreatDoorCalls5
namespace Go.Proofs.YtcnllglgijgnkaaGreatDoor
open Go.Tw

def a18 : List AV := [strN [59]]
def m18 : Memo := ⟨91, a18, .int .i64 1, [], 13⟩
set_option maxRecDepth 1000000 in
theorem m18_ok : m18.ok Tryz.prog { tabCfg tabs with hk := memoHk 12 (tabM c18) } 100000 12 (tabSt 12 tabs) = true := by kernel_rfl
theorem m18_sound : m18.Sound Tryz.prog 12 (tabCfg tabs) := memo_tab c18_sound (by kernel_rfl) tabs_lt m18_ok
def c19 : List Memo := m18 :: c18
theorem c19_sound : ∀ m ∈ c19, m.Sound Tryz.prog 12 (tabCfg tabs) := sound_cons m18_sound c18_sound

def a19 : List AV := [strN [115,116,114,117,99,116,32,115,123,105,110,116,32,97,59,125,59,32,115,116,114,117,99,116,32,115,123,105,110,116,32,98,59,125,59]]
def m19 : Memo := ⟨9, a19, .tup [.slc 19 15 0 16 none 6, .agg [.int .i64 0, .int .i64 0]], [(19, .arr [.int .i64 2, .int .i64 0, .int .i64 6, strN [115,116,114,117,99,116], .int .i64 0, .nils, .int .i64 1, .int .i64 7, .int .i64 1, strN [115], .int .i64 0, .nils, .int .i64 6, .int .i64 8, .int .i64 1, strN [123], .int .i64 0, .nils, .int .i64 2, .int .i64 9, .int .i64 3, strN [105,110,116], .int .i64 0, .nils, .int .i64 1, .int .i64 13, .int .i64 1, strN [97], .int .i64 0, .nils, .int .i64 6, .int .i64 14, .int .i64 1, strN [59], .int .i64 0, .nils, .int .i64 6, .int .i64 15, .int .i64 1, strN [125], .int .i64 0, .nils, .int .i64 6, .int .i64 16, .int .i64 1, strN [59], .int .i64 0, .nils, .int .i64 2, .int .i64 18, .int .i64 6, strN [115,116,114,117,99,116], .int .i64 0, .nils, .int .i64 1, .int .i64 25, .int .i64 1, strN [115], .int .i64 0, .nils, .int .i64 6, .int .i64 26, .int .i64 1, strN [123], .int .i64 0, .nils, .int .i64 2, .int .i64 27, .int .i64 3, strN [105,110,116], .int .i64 0, .nils, .int .i64 1, .int .i64 31, .int .i64 1, strN [98], .int .i64 0, .nils, .int .i64 6, .int .i64 32, .int .i64 1, strN [59], .int .i64 0, .nils, .int .i64 6, .int .i64 33, .int .i64 1, strN [125], .int .i64 0, .nils, .int .i64 6, .int .i64 34, .int .i64 1, strN [59], .int .i64 0, .nils] 0 6 1 16 72)], 87⟩
set_option maxRecDepth 1000000 in
theorem m19_ok : m19.ok Tryz.prog { tabCfg tabs with hk := memoHk 12 (tabM c19) } 100000 12 (tabSt 12 tabs) = true := by kernel_rfl
theorem m19_sound : m19.Sound Tryz.prog 12 (tabCfg tabs) := memo_tab c19_sound (by kernel_rfl) tabs_lt m19_ok
def c20 : List Memo := m19 :: c19
theorem c20_sound : ∀ m ∈ c20, m.Sound Tryz.prog 12 (tabCfg tabs) := sound_cons m19_sound c19_sound
end Go.Proofs.YtcnllglgijgnkaaGreatDoor
