/-
  Calls whose outcome is known, each shown by the evaluator with the earlier ones and the tables at hand; part 0. No condition.
-/
import Derived.Test.YtnkpdmdifepaaaaGreatDoorTabs
namespace Go.Proofs.YtnkpdmdifepaaaaGreatDoor
open Go.Tw
def c0 : List Memo := []
theorem c0_sound [Val] : ∀ m ∈ c0, m.Sound Tryz.prog 12 (tabCfg tabs) := sound_nil

def a0 : List AV := []
def m0 : Memo := ⟨17, a0, .slc 12 0 0 21 (some 21) 1, [(12, .box [strN [105,110,116], strN [99,104,97,114], strN [115,104,111,114,116], strN [108,111,110,103], strN [117,110,115,105,103,110,101,100], strN [115,105,103,110,101,100], strN [118,111,105,100], strN [115,116,114,117,99,116], strN [105,102], strN [101,108,115,101], strN [119,104,105,108,101], strN [102,111,114], strN [100,111], strN [114,101,116,117,114,110], strN [98,114,101,97,107], strN [99,111,110,116,105,110,117,101], strN [115,105,122,101,111,102], strN [103,111,116,111], strN [115,119,105,116,99,104], strN [99,97,115,101], strN [100,101,102,97,117,108,116]] 9)], 13⟩
set_option maxRecDepth 1000000 in
theorem m0_ok : m0.ok Tryz.prog { tabCfg tabs with hk := memoHk 12 (tabM c0) } 100000 12 (tabSt 12 tabs) = true := by kernel_rfl
theorem m0_sound [Val] : m0.Sound Tryz.prog 12 (tabCfg tabs) := memo_tab c0_sound (by kernel_rfl) tabs_lt m0_ok
def c1 : List Memo := m0 :: c0
theorem c1_sound [Val] : ∀ m ∈ c1, m.Sound Tryz.prog 12 (tabCfg tabs) := sound_cons m0_sound c0_sound

def a1 : List AV := []
def m1 : Memo := ⟨19, a1, .slc 12 0 0 45 (some 45) 1, [(12, .box [strN [60,60,61], strN [62,62,61], strN [45,62], strN [43,43], strN [45,45], strN [60,61], strN [62,61], strN [61,61], strN [33,61], strN [38,38], strN [124,124], strN [60,60], strN [62,62], strN [43,61], strN [45,61], strN [42,61], strN [47,61], strN [37,61], strN [38,61], strN [124,61], strN [94,61], strN [40], strN [41], strN [123], strN [125], strN [91], strN [93], strN [59], strN [44], strN [46], strN [45], strN [43], strN [42], strN [47], strN [37], strN [38], strN [124], strN [94], strN [126], strN [33], strN [60], strN [62], strN [61], strN [63], strN [58]] 9)], 13⟩
set_option maxRecDepth 1000000 in
theorem m1_ok : m1.ok Tryz.prog { tabCfg tabs with hk := memoHk 12 (tabM c1) } 100000 12 (tabSt 12 tabs) = true := by kernel_rfl
theorem m1_sound [Val] : m1.Sound Tryz.prog 12 (tabCfg tabs) := memo_tab c1_sound (by kernel_rfl) tabs_lt m1_ok
def c2 : List Memo := m1 :: c1
theorem c2_sound [Val] : ∀ m ∈ c2, m.Sound Tryz.prog 12 (tabCfg tabs) := sound_cons m1_sound c1_sound

def a2 : List AV := []
def m2 : Memo := ⟨4, a2, .bool true, [], 68⟩
set_option maxRecDepth 1000000 in
theorem m2_ok : m2.ok Tryz.prog { tabCfg tabs with hk := memoHk 12 (tabM c2) } 100000 12 (tabSt 12 tabs) = true := by kernel_rfl
theorem m2_sound [Val] : m2.Sound Tryz.prog 12 (tabCfg tabs) := memo_tab c2_sound (by kernel_rfl) tabs_lt m2_ok
end Go.Proofs.YtnkpdmdifepaaaaGreatDoor
