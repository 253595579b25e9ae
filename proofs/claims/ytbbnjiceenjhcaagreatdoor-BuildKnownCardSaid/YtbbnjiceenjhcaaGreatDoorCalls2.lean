/-
  Calls whose outcome is known, each shown by the evaluator with the earlier ones and the tables at hand; part 2. No condition.
-/
import Derived.Test.YtbbnjiceenjhcaaGreatDoorCalls1
set_option linter.all false
namespace Go.Proofs.YtbbnjiceenjhcaaGreatDoor
open Go.Tw
def o0 : Ob := .arr [.int .i64 23, .int .i64 0, .int .i64 0, .int .i64 0, .int .i64 0, .nils, .int .i64 30, .int .i64 1, .int .i64 0, .int .i64 0, .int .i64 0, .nils, .int .i64 22, .int .i64 0, .int .i64 1, .int .i64 0, .int .i64 4, .nils, .int .i64 2, .int .i64 0, .int .i64 1, .int .i64 0, .int .i64 0, .nils, .int .i64 23, .int .i64 0, .int .i64 0, .int .i64 0, .int .i64 0, .nils, .int .i64 21, .int .i64 0, .int .i64 0, .int .i64 0, .int .i64 5, .nils, .int .i64 26, .int .i64 0, .int .i64 0, .int .i64 0, .int .i64 71, .nils, .int .i64 23, .int .i64 0, .int .i64 0, .int .i64 0, .int .i64 0, .nils, .int .i64 21, .int .i64 0, .int .i64 0, .int .i64 0, .int .i64 5, .nils, .int .i64 31, .int .i64 0, .int .i64 0, .int .i64 0, .int .i64 0, .nils, .int .i64 23, .int .i64 0, .int .i64 0, .int .i64 0, .int .i64 0, .nils, .int .i64 21, .int .i64 1, .int .i64 0, .int .i64 0, .int .i64 5, .nils, .int .i64 1, .int .i64 2, .int .i64 0, .int .i64 0, .int .i64 1, .nils, .int .i64 4, .int .i64 2, .int .i64 1, .int .i64 2, .int .i64 0, .nils, .int .i64 20, .int .i64 2, .int .i64 2, .int .i64 0, .int .i64 5, .nils, .int .i64 22, .int .i64 0, .int .i64 2, .int .i64 0, .int .i64 4, .nils, .int .i64 2, .int .i64 0, .int .i64 1, .int .i64 0, .int .i64 0, .nils, .int .i64 25, .int .i64 0, .int .i64 0, .int .i64 0, .int .i64 13, .nils, .int .i64 1, .int .i64 0, .int .i64 0, .int .i64 0, .int .i64 0, .nils, .int .i64 29, .int .i64 0, .int .i64 0, .int .i64 0, .int .i64 0, .nils, .int .i64 1, .int .i64 0, .int .i64 0, .int .i64 0, .int .i64 0, .nils, .int .i64 29, .int .i64 0, .int .i64 0, .int .i64 0, .int .i64 0, .nils] 21 132 22 22 114
def o1 : Ob := .arr [.int .i64 23, .int .i64 0, .int .i64 0, .int .i64 0, .int .i64 0, .nils, .int .i64 30, .int .i64 1, .int .i64 0, .int .i64 0, .int .i64 0, .nils, .int .i64 22, .int .i64 0, .int .i64 1, .int .i64 0, .int .i64 4, .nils, .int .i64 2, .int .i64 0, .int .i64 1, .int .i64 0, .int .i64 0, .nils, .int .i64 23, .int .i64 0, .int .i64 0, .int .i64 0, .int .i64 0, .nils, .int .i64 21, .int .i64 0, .int .i64 0, .int .i64 0, .int .i64 5, .nils, .int .i64 26, .int .i64 0, .int .i64 0, .int .i64 0, .int .i64 71, .nils, .int .i64 23, .int .i64 0, .int .i64 0, .int .i64 0, .int .i64 0, .nils, .int .i64 21, .int .i64 0, .int .i64 0, .int .i64 0, .int .i64 5, .nils, .int .i64 31, .int .i64 0, .int .i64 0, .int .i64 0, .int .i64 0, .nils, .int .i64 23, .int .i64 0, .int .i64 0, .int .i64 0, .int .i64 0, .nils, .int .i64 21, .int .i64 1, .int .i64 0, .int .i64 0, .int .i64 5, .nils, .int .i64 1, .int .i64 2, .int .i64 0, .int .i64 0, .int .i64 1, .nils, .int .i64 4, .int .i64 2, .int .i64 1, .int .i64 2, .int .i64 0, .nils, .int .i64 20, .int .i64 2, .int .i64 2, .int .i64 0, .int .i64 5, .nils, .int .i64 22, .int .i64 0, .int .i64 2, .int .i64 0, .int .i64 4, .nils, .int .i64 2, .int .i64 0, .int .i64 1, .int .i64 0, .int .i64 0, .nils, .int .i64 25, .int .i64 0, .int .i64 0, .int .i64 0, .int .i64 13, .nils, .int .i64 1, .int .i64 0, .int .i64 0, .int .i64 0, .int .i64 0, .nils, .int .i64 29, .int .i64 0, .int .i64 0, .int .i64 0, .int .i64 0, .nils] 19 120 20 20 114

def h0 : HMemo := ⟨92, [.agg [.int .i64 0, .int .i64 3, .int .i64 4, .slc 12 21 0 22 none 6]], 13, [⟨none, [0, 3]⟩], [(12, o0)], .tup [.agg [.int .i64 0, .int .i64 3, .int .i64 4, .slc 6564 19 0 20 none 6], .int .i64 0], [(6564, o1)], [], 7437⟩
set_option maxRecDepth 1000000 in
theorem h0_ok : h0.ok Tryz.prog { tabCfg tabs with hk := bothHk 12 (tabM c151) (tabH d0) } 100000 12 (tabSt 12 tabs) = true := by kernel_rfl
theorem h0_sound : h0.Sound Tryz.prog 12 (tabCfg tabs) := hmemo_both c151_sound d0_sound (by kernel_rfl) tabs_lt h0_ok
def d1 : List HMemo := h0 :: d0
theorem d1_sound : ∀ m ∈ d1, m.Sound Tryz.prog 12 (tabCfg tabs) := hsound_cons h0_sound d0_sound

def h1 : HMemo := ⟨91, [.agg [.int .i64 0, .int .i64 3, .int .i64 4, .slc 12 21 0 22 none 6]], 13, [⟨none, [0, 3]⟩], [(12, o0)], .tup [.agg [.int .i64 0, .int .i64 3, .int .i64 4, .slc 3760 21 0 22 none 6], .int .i64 0], [(3760, o0)], [], 4784⟩
set_option maxRecDepth 1000000 in
theorem h1_ok : h1.ok Tryz.prog { tabCfg tabs with hk := bothHk 12 (tabM c151) (tabH d1) } 100000 12 (tabSt 12 tabs) = true := by kernel_rfl
theorem h1_sound : h1.Sound Tryz.prog 12 (tabCfg tabs) := hmemo_both c151_sound d1_sound (by kernel_rfl) tabs_lt h1_ok
def d2 : List HMemo := h1 :: d1
theorem d2_sound : ∀ m ∈ d2, m.Sound Tryz.prog 12 (tabCfg tabs) := hsound_cons h1_sound d1_sound
def o2 : Ob := .arr [.int .i64 23, .int .i64 0, .int .i64 0, .int .i64 0, .int .i64 0, .nils, .int .i64 30, .int .i64 1, .int .i64 0, .int .i64 0, .int .i64 0, .nils, .int .i64 22, .int .i64 0, .int .i64 1, .int .i64 0, .int .i64 4, .nils, .int .i64 2, .int .i64 0, .int .i64 1, .int .i64 0, .int .i64 0, .nils, .int .i64 23, .int .i64 0, .int .i64 0, .int .i64 0, .int .i64 0, .nils, .int .i64 21, .int .i64 0, .int .i64 0, .int .i64 0, .int .i64 5, .nils, .int .i64 26, .int .i64 0, .int .i64 0, .int .i64 0, .int .i64 71, .nils, .int .i64 23, .int .i64 0, .int .i64 0, .int .i64 0, .int .i64 0, .nils, .int .i64 21, .int .i64 0, .int .i64 0, .int .i64 0, .int .i64 5, .nils, .int .i64 31, .int .i64 0, .int .i64 0, .int .i64 0, .int .i64 0, .nils, .int .i64 23, .int .i64 0, .int .i64 0, .int .i64 0, .int .i64 0, .nils, .int .i64 21, .int .i64 1, .int .i64 0, .int .i64 0, .int .i64 5, .nils, .int .i64 1, .int .i64 2, .int .i64 0, .int .i64 0, .int .i64 1, .nils, .int .i64 4, .int .i64 2, .int .i64 1, .int .i64 2, .int .i64 0, .nils, .int .i64 20, .int .i64 2, .int .i64 2, .int .i64 0, .int .i64 5, .nils, .int .i64 22, .int .i64 0, .int .i64 2, .int .i64 0, .int .i64 4, .nils, .int .i64 2, .int .i64 0, .int .i64 1, .int .i64 0, .int .i64 0, .nils, .int .i64 25, .int .i64 0, .int .i64 0, .int .i64 0, .int .i64 13, .nils, .int .i64 1, .int .i64 0, .int .i64 0, .int .i64 0, .int .i64 0, .nils, .int .i64 29, .int .i64 0, .int .i64 0, .int .i64 0, .int .i64 0, .nils, .int .i64 1, .int .i64 0, .int .i64 0, .int .i64 0, .int .i64 0, .nils, .int .i64 29, .int .i64 0, .int .i64 0, .int .i64 0, .int .i64 0, .nils] 0 6 1 22 114

def h2 : HMemo := ⟨90, [.agg [.int .i64 0, .int .i64 3, .int .i64 4, .slc 12 21 0 22 none 6]], 13, [⟨none, [0, 3]⟩], [(12, o2)], .tup [.agg [.int .i64 0, .int .i64 3, .int .i64 4, .slc 7330 21 0 22 none 6], .int .i64 0], [(7330, o0)], [], 9524⟩
set_option maxRecDepth 1000000 in
theorem h2_ok : h2.ok Tryz.prog { tabCfg tabs with hk := bothHk 12 (tabM c151) (tabH d2) } 100000 12 (tabSt 12 tabs) = true := by kernel_rfl
theorem h2_sound : h2.Sound Tryz.prog 12 (tabCfg tabs) := hmemo_both c151_sound d2_sound (by kernel_rfl) tabs_lt h2_ok
def d3 : List HMemo := h2 :: d2
theorem d3_sound : ∀ m ∈ d3, m.Sound Tryz.prog 12 (tabCfg tabs) := hsound_cons h2_sound d2_sound

def h3 : HMemo := ⟨54, [.agg [.nils, .slc 12 0 0 1 none 4]], 14, [⟨none, [0, 1]⟩, ⟨some 12, [3]⟩], [(12, .arr [.int .i64 0, .int .i64 3, .int .i64 4, .slc 13 21 0 22 none 6] 0 4 1 1 111), (13, o2)], .int .i64 0, [], [], 6346⟩
set_option maxRecDepth 1000000 in
theorem h3_ok : h3.ok Tryz.prog { tabCfg tabs with hk := bothHk 12 (tabM c151) (tabH d3) } 100000 12 (tabSt 12 tabs) = true := by kernel_rfl
theorem h3_sound : h3.Sound Tryz.prog 12 (tabCfg tabs) := hmemo_both c151_sound d3_sound (by kernel_rfl) tabs_lt h3_ok
def d4 : List HMemo := h3 :: d3
theorem d4_sound : ∀ m ∈ d4, m.Sound Tryz.prog 12 (tabCfg tabs) := hsound_cons h3_sound d3_sound
end Go.Proofs.YtbbnjiceenjhcaaGreatDoor
