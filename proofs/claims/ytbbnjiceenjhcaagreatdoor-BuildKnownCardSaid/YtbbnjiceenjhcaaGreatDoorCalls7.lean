/-
  Calls whose outcome is known, each shown by the evaluator with the earlier ones and the tables at hand; part 7. No condition.
-/
import Derived.Test.YtbbnjiceenjhcaaGreatDoorCalls6
set_option linter.all false
namespace Go.Proofs.YtbbnjiceenjhcaaGreatDoor
open Go.Tw
def o182 : Ob := .box [.slc 13 0 0 1 none 4, .ptr 14 0 0 67, .ptr 15 0 0 18, .ptr 16 0 0 8, .ptr 17 0 0 68, .ptr 18 0 0 36, .map 19, .bool false, .fn (.func 32) [.ptr 12 0 0 11] [], .int .i64 4, .int .i64 0] 95
def o183 : Ob := .box [.int .u32 1, .int .i32 0, .int .u32 0, .int .i64 0, .nils, .slc 23 0 0 1 none 4, .slc 24 0 0 1 none 1, .int .i64 1024, .ptr 25 0 0 1, .ptr 26 0 0 4, .int .i64 996, .int .u64 16, .int .u64 992, .int .i64 0, .int .i64 13, .nils, .int .i64 0, .int .i64 0] 138

def h79 : HMemo := ⟨13, [.ptr 12 0 0 11], 31, [⟨none, [0]⟩, ⟨some 12, [0]⟩, ⟨some 12, [1]⟩, ⟨some 12, [2]⟩, ⟨some 12, [3]⟩, ⟨some 12, [4]⟩, ⟨some 12, [5]⟩, ⟨some 12, [6]⟩, ⟨some 14, [0]⟩, ⟨some 14, [1]⟩, ⟨some 14, [2]⟩, ⟨some 15, [5]⟩, ⟨some 15, [6]⟩, ⟨some 15, [8]⟩, ⟨some 15, [9]⟩, ⟨some 21, [3]⟩, ⟨some 22, [0]⟩, ⟨some 23, [3]⟩, ⟨some 25, [0]⟩], [(12, o182), (14, .box ([.slc 20 0 0 0 (some 0) 1, .slc 21 0 0 1 none 4, .slc 22 0 0 1 none 1] ++ (rpA 64 (.int .i64 0) [])) 157), (15, o183), (21, .arr [.int .i64 0, .int .i64 3, .int .i64 4, .slc 27 19 0 20 none 6] 0 4 1 1 111), (22, .arr [.map 28] 0 1 1 1 159), (23, .arr [.int .i64 0, .int .i64 3, .int .i64 4, .slc 29 0 0 20 none 6] 0 4 1 1 111), (25, .box [.slc 30 0 0 1024 (some 1024) 1] 260), (28, o6), (30, o171)], .int .i64 0, [(12, o180), (15, o181), (30, o166)], [12, 15, 30], 80⟩
set_option maxRecDepth 1000000 in
theorem h79_ok : h79.ok Tryz.prog { tabCfg tabs with hk := bothHk 12 (tabM c157) (tabH d79) } 100000 12 (tabSt 12 tabs) = true := by kernel_rfl
theorem h79_sound : h79.Sound Tryz.prog 12 (tabCfg tabs) := hmemo_both c157_sound d79_sound (by kernel_rfl) tabs_lt h79_ok
def d80 : List HMemo := h79 :: d79
theorem d80_sound : ∀ m ∈ d80, m.Sound Tryz.prog 12 (tabCfg tabs) := hsound_cons h79_sound d79_sound
def o184 : Ob := .box [.slc 13 0 0 1 none 4, .ptr 14 0 0 67, .ptr 15 0 0 18, .ptr 16 0 0 8, .ptr 17 0 0 68, .ptr 18 0 0 36, .map 19, .bool false, .fn (.func 32) [.ptr 12 0 0 11] [], .int .i64 3, .int .i64 0] 95
def o185 : Ob := .box [.int .u32 1, .int .i32 0, .int .u32 0, .int .i64 0, .nils, .slc 23 0 0 1 none 4, .slc 24 0 0 1 none 1, .int .i64 1024, .ptr 25 0 0 1, .ptr 26 0 0 4, .int .i64 997, .int .u64 16, .int .u64 992, .int .i64 0, .int .i64 10, .nils, .int .i64 0, .int .i64 0] 138

def h80 : HMemo := ⟨13, [.ptr 12 0 0 11], 30, [⟨none, [0]⟩, ⟨some 12, [0]⟩, ⟨some 12, [1]⟩, ⟨some 12, [2]⟩, ⟨some 12, [3]⟩, ⟨some 12, [4]⟩, ⟨some 12, [5]⟩, ⟨some 12, [6]⟩, ⟨some 14, [0]⟩, ⟨some 14, [1]⟩, ⟨some 14, [2]⟩, ⟨some 15, [5]⟩, ⟨some 15, [6]⟩, ⟨some 15, [8]⟩, ⟨some 15, [9]⟩, ⟨some 22, [0]⟩, ⟨some 23, [3]⟩, ⟨some 25, [0]⟩], [(12, o184), (14, .box ([.slc 20 0 0 0 (some 0) 1, .slc 21 0 0 1 none 4, .slc 22 0 0 1 none 1] ++ (rpA 64 (.int .i64 0) [])) 157), (15, o185), (22, .arr [.map 27] 0 1 1 1 159), (23, .arr [.int .i64 0, .int .i64 3, .int .i64 4, .slc 28 0 0 20 none 6] 0 4 1 1 111), (25, .box [.slc 29 0 0 1024 (some 1024) 1] 260), (27, o6), (29, o166)], .int .i64 0, [(12, o182), (15, o183), (29, o171)], [12, 15, 29], 88⟩
set_option maxRecDepth 1000000 in
theorem h80_ok : h80.ok Tryz.prog { tabCfg tabs with hk := bothHk 12 (tabM c157) (tabH d80) } 100000 12 (tabSt 12 tabs) = true := by kernel_rfl
theorem h80_sound : h80.Sound Tryz.prog 12 (tabCfg tabs) := hmemo_both c157_sound d80_sound (by kernel_rfl) tabs_lt h80_ok
def d81 : List HMemo := h80 :: d80
theorem d81_sound : ∀ m ∈ d81, m.Sound Tryz.prog 12 (tabCfg tabs) := hsound_cons h80_sound d80_sound
def o186 : Ob := .box [.slc 13 0 0 1 none 4, .ptr 14 0 0 67, .ptr 15 0 0 18, .ptr 16 0 0 8, .ptr 17 0 0 68, .ptr 18 0 0 36, .map 19, .bool false, .fn (.func 32) [.ptr 12 0 0 11] [], .int .i64 2, .int .i64 0] 95
def o187 : Ob := .box [.int .u32 1, .int .i32 0, .int .u32 0, .int .i64 0, .nils, .slc 23 0 0 1 none 4, .slc 24 0 0 1 none 1, .int .i64 1024, .ptr 25 0 0 1, .ptr 26 0 0 4, .int .i64 998, .int .u64 16, .int .u64 992, .int .i64 0, .int .i64 6, .nils, .int .i64 0, .int .i64 0] 138
def o188 : Ob := .box (rpA 992 (.int .u8 0) ([.int .u8 248, .int .u8 3] ++ (rpA 6 (.int .u8 0) ([.int .u8 5] ++ (rpA 23 (.int .u8 0) []))))) 5

def h81 : HMemo := ⟨13, [.ptr 12 0 0 11], 30, [⟨none, [0]⟩, ⟨some 12, [0]⟩, ⟨some 12, [1]⟩, ⟨some 12, [2]⟩, ⟨some 12, [3]⟩, ⟨some 12, [4]⟩, ⟨some 12, [5]⟩, ⟨some 12, [6]⟩, ⟨some 14, [0]⟩, ⟨some 14, [1]⟩, ⟨some 14, [2]⟩, ⟨some 15, [5]⟩, ⟨some 15, [6]⟩, ⟨some 15, [8]⟩, ⟨some 15, [9]⟩, ⟨some 22, [0]⟩, ⟨some 23, [3]⟩, ⟨some 25, [0]⟩], [(12, o186), (14, .box ([.slc 20 0 0 0 (some 0) 1, .slc 21 0 0 1 none 4, .slc 22 0 0 1 none 1] ++ (rpA 64 (.int .i64 0) [])) 157), (15, o187), (22, .arr [.map 27] 0 1 1 1 159), (23, .arr [.int .i64 0, .int .i64 3, .int .i64 4, .slc 28 0 0 20 none 6] 0 4 1 1 111), (25, .box [.slc 29 0 0 1024 (some 1024) 1] 260), (27, o6), (29, o188)], .int .i64 0, [(12, o184), (15, o185), (29, o166)], [12, 15, 29], 87⟩
set_option maxRecDepth 1000000 in
theorem h81_ok : h81.ok Tryz.prog { tabCfg tabs with hk := bothHk 12 (tabM c157) (tabH d81) } 100000 12 (tabSt 12 tabs) = true := by kernel_rfl
theorem h81_sound : h81.Sound Tryz.prog 12 (tabCfg tabs) := hmemo_both c157_sound d81_sound (by kernel_rfl) tabs_lt h81_ok
def d82 : List HMemo := h81 :: d81
theorem d82_sound : ∀ m ∈ d82, m.Sound Tryz.prog 12 (tabCfg tabs) := hsound_cons h81_sound d81_sound
def o189 : Ob := .box [.slc 13 0 0 1 none 4, .ptr 14 0 0 67, .ptr 15 0 0 18, .ptr 16 0 0 8, .ptr 17 0 0 68, .ptr 18 0 0 36, .map 19, .bool false, .fn (.func 32) [.ptr 12 0 0 11] [], .int .i64 1, .int .i64 0] 95
def o190 : Ob := .box [.int .u32 1, .int .i32 0, .int .u32 0, .int .i64 0, .nils, .slc 23 0 0 1 none 4, .slc 24 0 0 1 none 1, .int .i64 1024, .ptr 25 0 0 1, .ptr 26 0 0 4, .int .i64 999, .int .u64 16, .int .u64 992, .int .i64 0, .int .i64 4, .nils, .int .i64 0, .int .i64 0] 138

def h82 : HMemo := ⟨13, [.ptr 12 0 0 11], 31, [⟨none, [0]⟩, ⟨some 12, [0]⟩, ⟨some 12, [1]⟩, ⟨some 12, [2]⟩, ⟨some 12, [3]⟩, ⟨some 12, [4]⟩, ⟨some 12, [5]⟩, ⟨some 12, [6]⟩, ⟨some 14, [0]⟩, ⟨some 14, [1]⟩, ⟨some 14, [2]⟩, ⟨some 15, [5]⟩, ⟨some 15, [6]⟩, ⟨some 15, [8]⟩, ⟨some 15, [9]⟩, ⟨some 22, [0]⟩, ⟨some 23, [3]⟩, ⟨some 25, [0]⟩, ⟨some 26, [1]⟩], [(12, o189), (14, .box ([.slc 20 0 0 0 (some 0) 1, .slc 21 0 0 1 none 4, .slc 22 0 0 1 none 1] ++ (rpA 64 (.int .i64 0) [])) 157), (15, o190), (22, .arr [.map 27] 0 1 1 1 159), (23, .arr [.int .i64 0, .int .i64 3, .int .i64 4, .slc 28 0 0 20 none 6] 0 4 1 1 111), (25, .box [.slc 29 0 0 1024 (some 1024) 1] 260), (26, .box [.bool true, .slc 30 0 0 1 none 1, .int .i64 0, .nils] 194), (27, o6), (29, .box (rpA 992 (.int .u8 0) ([.int .u8 248, .int .u8 3] ++ (rpA 30 (.int .u8 0) []))) 5), (30, .arr [.int .u8 5] 0 1 1 1 5)], .int .i64 0, [(12, o186), (15, o187), (26, .box [.bool true, .slc 30 0 0 1 none 1, .int .i64 1, .slc 70 0 0 1 none 2] 194), (29, o188), (70, .arr [.int .i64 1, .int .i64 5] 0 2 1 1 142)], [12, 15, 26, 29], 83⟩
set_option maxRecDepth 1000000 in
theorem h82_ok : h82.ok Tryz.prog { tabCfg tabs with hk := bothHk 12 (tabM c157) (tabH d82) } 100000 12 (tabSt 12 tabs) = true := by kernel_rfl
theorem h82_sound : h82.Sound Tryz.prog 12 (tabCfg tabs) := hmemo_both c157_sound d82_sound (by kernel_rfl) tabs_lt h82_ok
def d83 : List HMemo := h82 :: d82
theorem d83_sound : ∀ m ∈ d83, m.Sound Tryz.prog 12 (tabCfg tabs) := hsound_cons h82_sound d82_sound

def h83 : HMemo := ⟨13, [.ptr 12 0 0 11], 31, [⟨none, [0]⟩, ⟨some 12, [0]⟩, ⟨some 12, [1]⟩, ⟨some 12, [2]⟩, ⟨some 12, [3]⟩, ⟨some 12, [4]⟩, ⟨some 12, [5]⟩, ⟨some 12, [6]⟩, ⟨some 14, [0]⟩, ⟨some 14, [1]⟩, ⟨some 14, [2]⟩, ⟨some 15, [5]⟩, ⟨some 15, [6]⟩, ⟨some 15, [8]⟩, ⟨some 15, [9]⟩, ⟨some 21, [3]⟩, ⟨some 22, [0]⟩, ⟨some 23, [3]⟩, ⟨some 25, [0]⟩], [(12, .box [.slc 13 0 0 1 none 4, .ptr 14 0 0 67, .ptr 15 0 0 18, .ptr 16 0 0 8, .ptr 17 0 0 68, .ptr 18 0 0 36, .map 19, .bool false, .fn (.func 32) [.ptr 12 0 0 11] [], .int .i64 0, .int .i64 0] 95), (14, .box ([.slc 20 0 0 0 (some 0) 1, .slc 21 0 0 1 none 4, .slc 22 0 0 1 none 1] ++ (rpA 64 (.int .i64 0) [])) 157), (15, .box [.int .u32 1, .int .i32 0, .int .u32 0, .int .i64 0, .nils, .slc 23 0 0 1 none 4, .slc 24 0 0 1 none 1, .int .i64 1024, .ptr 25 0 0 1, .ptr 26 0 0 4, .int .i64 1000, .int .u64 16, .int .u64 992, .int .i64 0, .int .i64 0, .nils, .int .i64 0, .int .i64 0] 138), (21, .arr [.int .i64 0, .int .i64 3, .int .i64 4, .slc 27 19 0 20 none 6] 0 4 1 1 111), (22, .arr [.map 28] 0 1 1 1 159), (23, .arr [.int .i64 0, .int .i64 3, .int .i64 4, .slc 29 0 0 20 none 6] 0 4 1 1 111), (25, .box [.slc 30 0 0 1024 (some 1024) 1] 260), (28, o6), (30, .box (rpA 1024 (.int .u8 0) []) 5)], .int .i64 0, [(12, o189), (15, o190), (30, .box (rpA 992 (.int .u8 0) ([.int .u8 248, .int .u8 3] ++ (rpA 30 (.int .u8 0) []))) 5)], [12, 15, 30], 80⟩
set_option maxRecDepth 1000000 in
theorem h83_ok : h83.ok Tryz.prog { tabCfg tabs with hk := bothHk 12 (tabM c157) (tabH d83) } 100000 12 (tabSt 12 tabs) = true := by kernel_rfl
theorem h83_sound : h83.Sound Tryz.prog 12 (tabCfg tabs) := hmemo_both c157_sound d83_sound (by kernel_rfl) tabs_lt h83_ok
def d84 : List HMemo := h83 :: d83
theorem d84_sound : ∀ m ∈ d84, m.Sound Tryz.prog 12 (tabCfg tabs) := hsound_cons h83_sound d83_sound

def h84 : HMemo := ⟨54, [.agg [.nils, .slc 12 0 0 1 none 4]], 14, [⟨none, [0, 1]⟩, ⟨some 12, [3]⟩], [(12, .arr [.int .i64 0, .int .i64 3, .int .i64 4, .slc 13 19 0 20 none 6] 0 4 1 1 111), (13, o1)], .int .i64 0, [], [], 5806⟩
set_option maxRecDepth 1000000 in
theorem h84_ok : h84.ok Tryz.prog { tabCfg tabs with hk := bothHk 12 (tabM c157) (tabH d84) } 100000 12 (tabSt 12 tabs) = true := by kernel_rfl
theorem h84_sound : h84.Sound Tryz.prog 12 (tabCfg tabs) := hmemo_both c157_sound d84_sound (by kernel_rfl) tabs_lt h84_ok
def d85 : List HMemo := h84 :: d84
theorem d85_sound : ∀ m ∈ d85, m.Sound Tryz.prog 12 (tabCfg tabs) := hsound_cons h84_sound d84_sound

def h85 : HMemo := ⟨22, [.agg [.nils, .slc 12 0 0 1 none 4]], 14, [⟨none, [0, 1]⟩, ⟨some 12, [3]⟩], [(12, .arr [.int .i64 0, .int .i64 3, .int .i64 4, .slc 13 19 0 20 none 6] 0 4 1 1 111), (13, o1)], .tup [.ptr 7686 0 0 67, .int .i64 0], [(7686, .box ([.slc 7697 0 0 0 (some 0) 1, .slc 8401 0 0 1 none 4, .slc 10281 0 0 1 none 1] ++ (rpA 64 (.int .i64 0) [])) 157), (7697, .box [] 5), (7745, .arr [.int .i64 23, .int .i64 0, .int .i64 0, .int .i64 0, .int .i64 0, .nils, .int .i64 30, .int .i64 1, .int .i64 0, .int .i64 0, .int .i64 0, .nils, .int .i64 22, .int .i64 0, .int .i64 1, .int .i64 0, .int .i64 4, .nils, .int .i64 2, .int .i64 0, .int .i64 1, .int .i64 0, .int .i64 0, .nils, .int .i64 23, .int .i64 0, .int .i64 0, .int .i64 0, .int .i64 0, .nils, .int .i64 21, .int .i64 0, .int .i64 0, .int .i64 0, .int .i64 5, .nils, .int .i64 26, .int .i64 0, .int .i64 0, .int .i64 0, .int .i64 71, .nils, .int .i64 23, .int .i64 0, .int .i64 0, .int .i64 0, .int .i64 0, .nils, .int .i64 21, .int .i64 0, .int .i64 0, .int .i64 0, .int .i64 5, .nils, .int .i64 31, .int .i64 0, .int .i64 0, .int .i64 0, .int .i64 0, .nils, .int .i64 23, .int .i64 0, .int .i64 0, .int .i64 0, .int .i64 0, .nils, .int .i64 21, .int .i64 1, .int .i64 0, .int .i64 0, .int .i64 5, .nils, .int .i64 1, .int .i64 2, .int .i64 0, .int .i64 0, .int .i64 1, .nils, .int .i64 4, .int .i64 2, .int .i64 1, .int .i64 2, .int .i64 0, .nils, .int .i64 20, .int .i64 2, .int .i64 2, .int .i64 0, .int .i64 5, .nils, .int .i64 22, .int .i64 0, .int .i64 2, .int .i64 0, .int .i64 4, .nils, .int .i64 2, .int .i64 0, .int .i64 1, .int .i64 0, .int .i64 0, .nils, .int .i64 25, .int .i64 0, .int .i64 0, .int .i64 0, .int .i64 13, .nils, .int .i64 1, .int .i64 0, .int .i64 0, .int .i64 0, .int .i64 0, .nils, .int .i64 29, .int .i64 0, .int .i64 0, .int .i64 0, .int .i64 0, .nils] 0 6 1 20 114), (8401, .arr [.int .i64 0, .int .i64 3, .int .i64 4, .slc 7745 19 0 20 none 6] 0 4 1 1 111), (9550, o6), (10281, .arr [.map 9550] 0 1 1 1 159)], [], 10282⟩
set_option maxRecDepth 1000000 in
theorem h85_ok : h85.ok Tryz.prog { tabCfg tabs with hk := bothHk 12 (tabM c157) (tabH d85) } 100000 12 (tabSt 12 tabs) = true := by kernel_rfl
theorem h85_sound : h85.Sound Tryz.prog 12 (tabCfg tabs) := hmemo_both c157_sound d85_sound (by kernel_rfl) tabs_lt h85_ok
def d86 : List HMemo := h85 :: d85
theorem d86_sound : ∀ m ∈ d86, m.Sound Tryz.prog 12 (tabCfg tabs) := hsound_cons h85_sound d85_sound
end Go.Proofs.YtbbnjiceenjhcaaGreatDoor
