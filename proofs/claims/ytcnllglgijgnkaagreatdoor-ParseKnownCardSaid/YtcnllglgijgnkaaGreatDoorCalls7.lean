/-
  Calls whose outcome is known, each shown by the evaluator with the earlier ones and the tables at hand; part 7. No condition.
-/
import Derived.Test.YtcnllglgijgnkaaGreatDoorCalls6
namespace Go.Proofs.YtcnllglgijgnkaaGreatDoor
open Go.Tw

def a20 : List AV := [strN [115,116,114,117,99,116,32,115,123,105,110,116,32,97,59,125,59,32,115,116,114,117,99,116,32,115,123,105,110,116,32,98,59,125,59]]
def m20 : Memo := ⟨7, a20, .tup [.agg [.nils, .nils], .agg [.int .i64 7, .int .i64 25]], [], 210⟩
set_option maxRecDepth 1000000 in
theorem m20_ok : m20.ok Tryz.prog { tabCfg tabs with hk := memoHk 12 (tabM c20) } 100000 12 (tabSt 12 tabs) = true := by kernel_rfl
theorem m20_sound : m20.Sound Tryz.prog 12 (tabCfg tabs) := memo_tab c20_sound (by kernel_rfl) tabs_lt m20_ok
def c21 : List Memo := m20 :: c20
theorem c21_sound : ∀ m ∈ c21, m.Sound Tryz.prog 12 (tabCfg tabs) := sound_cons m20_sound c20_sound

def a21 : List AV := [strN [115,116,114,117,99,116,32,115,123,105,110,116,32,97,59,125,59,32,115,116,114,117,99,116,32,115,123,105,110,116,32,98,59,125,59], .int .i64 7, .int .i64 25]
def m21 : Memo := ⟨5, a21, .bool true, [], 212⟩
set_option maxRecDepth 1000000 in
theorem m21_ok : m21.ok Tryz.prog { tabCfg tabs with hk := memoHk 12 (tabM c21) } 100000 12 (tabSt 12 tabs) = true := by kernel_rfl
theorem m21_sound : m21.Sound Tryz.prog 12 (tabCfg tabs) := memo_tab c21_sound (by kernel_rfl) tabs_lt m21_ok
def c22 : List Memo := m21 :: c21
theorem c22_sound : ∀ m ∈ c22, m.Sound Tryz.prog 12 (tabCfg tabs) := sound_cons m21_sound c21_sound
end Go.Proofs.YtcnllglgijgnkaaGreatDoor
