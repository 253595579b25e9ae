/-
  Calls whose outcome is known, each shown by the evaluator with the earlier ones and the tables at hand; part 3. No condition.
-/
import Derived.Test.YtaademiiaeknkaaGreatDoorCalls2
namespace Go.Proofs.YtaademiiaeknkaaGreatDoor
open Go.Tw

def a11 : List AV := []
def m11 : Memo := ⟨4, a11, .bool true, [], 702⟩
set_option maxRecDepth 1000000 in
theorem m11_ok : m11.ok Tryz.prog { tabCfg tabs with hk := memoHk 12 (tabM c11) } 100000 12 (tabSt 12 tabs) = true := by kernel_rfl
theorem m11_sound : m11.Sound Tryz.prog 12 (tabCfg tabs) := memo_tab c11_sound (by kernel_rfl) tabs_lt m11_ok
def c12 : List Memo := m11 :: c11
theorem c12_sound : ∀ m ∈ c12, m.Sound Tryz.prog 12 (tabCfg tabs) := sound_cons m11_sound c11_sound

def a12 : List AV := [strN [99]]
def m12 : Memo := ⟨43, a12, .bool true, [], 21⟩
set_option maxRecDepth 1000000 in
theorem m12_ok : m12.ok Tryz.prog { tabCfg tabs with hk := memoHk 12 (tabM c12) } 100000 12 (tabSt 12 tabs) = true := by kernel_rfl
theorem m12_sound : m12.Sound Tryz.prog 12 (tabCfg tabs) := memo_tab c12_sound (by kernel_rfl) tabs_lt m12_ok
def c13 : List Memo := m12 :: c12
theorem c13_sound : ∀ m ∈ c13, m.Sound Tryz.prog 12 (tabCfg tabs) := sound_cons m12_sound c12_sound

def a13 : List AV := [strN [120]]
def m13 : Memo := ⟨43, a13, .bool true, [], 21⟩
set_option maxRecDepth 1000000 in
theorem m13_ok : m13.ok Tryz.prog { tabCfg tabs with hk := memoHk 12 (tabM c13) } 100000 12 (tabSt 12 tabs) = true := by kernel_rfl
theorem m13_sound : m13.Sound Tryz.prog 12 (tabCfg tabs) := memo_tab c13_sound (by kernel_rfl) tabs_lt m13_ok
def c14 : List Memo := m13 :: c13
theorem c14_sound : ∀ m ∈ c14, m.Sound Tryz.prog 12 (tabCfg tabs) := sound_cons m13_sound c13_sound
end Go.Proofs.YtaademiiaeknkaaGreatDoor
