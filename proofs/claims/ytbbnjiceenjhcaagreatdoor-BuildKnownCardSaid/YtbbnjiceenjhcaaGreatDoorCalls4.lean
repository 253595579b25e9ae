/-
  Calls whose outcome is known, each shown by the evaluator with the earlier ones and the tables at hand; part 4. No condition.
-/
import Derived.Test.YtbbnjiceenjhcaaGreatDoorCalls3
set_option linter.all false
namespace Go.Proofs.YtbbnjiceenjhcaaGreatDoor
open Go.Tw
def o3 : Ob := .box [.slc 13 0 0 1 none 4, .ptr 14 0 0 67, .ptr 15 0 0 18, .ptr 16 0 0 8, .ptr 17 0 0 68, .ptr 18 0 0 36, .map 19, .bool false, .fn (.func 32) [.ptr 12 0 0 11] [], .int .i64 79, .int .i64 0] 95

def h4 : HMemo := ⟨13, [.ptr 12 0 0 11], 24, [⟨none, [0]⟩, ⟨some 12, [0]⟩, ⟨some 12, [1]⟩, ⟨some 12, [2]⟩, ⟨some 12, [3]⟩, ⟨some 12, [4]⟩, ⟨some 12, [5]⟩, ⟨some 12, [6]⟩, ⟨some 15, [5]⟩, ⟨some 15, [6]⟩, ⟨some 15, [8]⟩, ⟨some 15, [9]⟩], [(12, o3), (15, .box [.int .u32 1, .int .i32 0, .int .u32 0, .int .i64 0, .nils, .slc 20 0 0 1 none 4, .slc 21 0 0 1 none 1, .int .i64 1024, .ptr 22 0 0 1, .ptr 23 0 0 4, .int .i64 921, .int .u64 16, .int .u64 992, .int .i64 0, .int .i64 81, .nils, .int .i64 1, .int .i64 0] 138)], .int .i64 9, [], [], 26⟩
set_option maxRecDepth 1000000 in
theorem h4_ok : h4.ok Tryz.prog { tabCfg tabs with hk := bothHk 12 (tabM c157) (tabH d4) } 100000 12 (tabSt 12 tabs) = true := by kernel_rfl
theorem h4_sound : h4.Sound Tryz.prog 12 (tabCfg tabs) := hmemo_both c157_sound d4_sound (by kernel_rfl) tabs_lt h4_ok
def d5 : List HMemo := h4 :: d4
theorem d5_sound : ∀ m ∈ d5, m.Sound Tryz.prog 12 (tabCfg tabs) := hsound_cons h4_sound d4_sound
def o4 : Ob := .box [.slc 13 0 0 1 none 4, .ptr 14 0 0 67, .ptr 15 0 0 18, .ptr 16 0 0 8, .ptr 17 0 0 68, .ptr 18 0 0 36, .map 19, .bool false, .fn (.func 32) [.ptr 12 0 0 11] [], .int .i64 78, .int .i64 0] 95
def o5 : Ob := .box [.int .u32 1, .int .i32 0, .int .u32 0, .int .i64 0, .nils, .slc 23 0 0 1 none 4, .slc 24 0 0 1 none 1, .int .i64 1024, .ptr 25 0 0 1, .ptr 26 0 0 4, .int .i64 922, .int .u64 16, .int .u64 992, .int .i64 0, .int .i64 81, .nils, .int .i64 0, .int .i64 0] 138
def o6 : Ob := .map [(.int .i64 0, .agg [.int .i64 23, .int .i64 0, .int .i64 0, .int .i64 0, .int .i64 0, .nils, .int .i64 4], 0), (.int .i64 4, .agg [.int .i64 30, .int .i64 1, .int .i64 0, .int .i64 0, .int .i64 0, .nils, .int .i64 6], 1), (.int .i64 6, .agg [.int .i64 22, .int .i64 0, .int .i64 1, .int .i64 0, .int .i64 4, .nils, .int .i64 10], 2), (.int .i64 10, .agg [.int .i64 2, .int .i64 0, .int .i64 1, .int .i64 0, .int .i64 0, .nils, .int .i64 13], 3), (.int .i64 13, .agg [.int .i64 23, .int .i64 0, .int .i64 0, .int .i64 0, .int .i64 0, .nils, .int .i64 17], 4), (.int .i64 17, .agg [.int .i64 21, .int .i64 0, .int .i64 0, .int .i64 0, .int .i64 5, .nils, .int .i64 21], 5), (.int .i64 21, .agg [.int .i64 26, .int .i64 0, .int .i64 0, .int .i64 0, .int .i64 71, .nils, .int .i64 25], 6), (.int .i64 25, .agg [.int .i64 23, .int .i64 0, .int .i64 0, .int .i64 0, .int .i64 0, .nils, .int .i64 29], 7), (.int .i64 29, .agg [.int .i64 21, .int .i64 0, .int .i64 0, .int .i64 0, .int .i64 5, .nils, .int .i64 33], 8), (.int .i64 33, .agg [.int .i64 31, .int .i64 0, .int .i64 0, .int .i64 0, .int .i64 0, .nils, .int .i64 35], 9), (.int .i64 35, .agg [.int .i64 23, .int .i64 0, .int .i64 0, .int .i64 0, .int .i64 0, .nils, .int .i64 39], 10), (.int .i64 39, .agg [.int .i64 21, .int .i64 1, .int .i64 0, .int .i64 0, .int .i64 5, .nils, .int .i64 43], 11), (.int .i64 43, .agg [.int .i64 1, .int .i64 2, .int .i64 0, .int .i64 0, .int .i64 1, .nils, .int .i64 53], 12), (.int .i64 53, .agg [.int .i64 4, .int .i64 2, .int .i64 1, .int .i64 2, .int .i64 0, .nils, .int .i64 57], 13), (.int .i64 57, .agg [.int .i64 20, .int .i64 2, .int .i64 2, .int .i64 0, .int .i64 5, .nils, .int .i64 61], 14), (.int .i64 61, .agg [.int .i64 22, .int .i64 0, .int .i64 2, .int .i64 0, .int .i64 4, .nils, .int .i64 65], 15), (.int .i64 65, .agg [.int .i64 2, .int .i64 0, .int .i64 1, .int .i64 0, .int .i64 0, .nils, .int .i64 68], 16), (.int .i64 68, .agg [.int .i64 25, .int .i64 0, .int .i64 0, .int .i64 0, .int .i64 13, .nils, .int .i64 71], 17), (.int .i64 71, .agg [.int .i64 1, .int .i64 0, .int .i64 0, .int .i64 0, .int .i64 0, .nils, .int .i64 81], 18), (.int .i64 81, .agg [.int .i64 29, .int .i64 0, .int .i64 0, .int .i64 0, .int .i64 0, .nils, .int .i64 83], 19)] 20

def h5 : HMemo := ⟨13, [.ptr 12 0 0 11], 30, [⟨none, [0]⟩, ⟨some 12, [0]⟩, ⟨some 12, [1]⟩, ⟨some 12, [2]⟩, ⟨some 12, [3]⟩, ⟨some 12, [4]⟩, ⟨some 12, [5]⟩, ⟨some 12, [6]⟩, ⟨some 14, [0]⟩, ⟨some 14, [1]⟩, ⟨some 14, [2]⟩, ⟨some 15, [5]⟩, ⟨some 15, [6]⟩, ⟨some 15, [8]⟩, ⟨some 15, [9]⟩, ⟨some 22, [0]⟩, ⟨some 23, [3]⟩, ⟨some 25, [0]⟩], [(12, o4), (14, .box ([.slc 20 0 0 0 (some 0) 1, .slc 21 0 0 1 none 4, .slc 22 0 0 1 none 1] ++ (rpA 64 (.int .i64 0) [])) 157), (15, o5), (22, .arr [.map 27] 0 1 1 1 159), (23, .arr [.int .i64 0, .int .i64 3, .int .i64 4, .slc 28 0 0 20 none 6] 0 4 1 1 111), (25, .box [.slc 29 0 0 1024 (some 1024) 1] 260), (27, o6), (29, .box (rpA 1000 (.int .u8 0) ([.int .u8 1] ++ (rpA 23 (.int .u8 0) []))) 5)], .int .i64 0, [(12, o3), (15, .box [.int .u32 1, .int .i32 0, .int .u32 0, .int .i64 0, .nils, .slc 23 0 0 1 none 4, .slc 24 0 0 1 none 1, .int .i64 1024, .ptr 25 0 0 1, .ptr 26 0 0 4, .int .i64 921, .int .u64 16, .int .u64 992, .int .i64 0, .int .i64 81, .nils, .int .i64 1, .int .i64 0] 138)], [12, 15], 74⟩
set_option maxRecDepth 1000000 in
theorem h5_ok : h5.ok Tryz.prog { tabCfg tabs with hk := bothHk 12 (tabM c157) (tabH d5) } 100000 12 (tabSt 12 tabs) = true := by kernel_rfl
theorem h5_sound : h5.Sound Tryz.prog 12 (tabCfg tabs) := hmemo_both c157_sound d5_sound (by kernel_rfl) tabs_lt h5_ok
def d6 : List HMemo := h5 :: d5
theorem d6_sound : ∀ m ∈ d6, m.Sound Tryz.prog 12 (tabCfg tabs) := hsound_cons h5_sound d5_sound
def o7 : Ob := .box [.slc 13 0 0 1 none 4, .ptr 14 0 0 67, .ptr 15 0 0 18, .ptr 16 0 0 8, .ptr 17 0 0 68, .ptr 18 0 0 36, .map 19, .bool false, .fn (.func 32) [.ptr 12 0 0 11] [], .int .i64 77, .int .i64 0] 95
def o8 : Ob := .box [.int .u32 1, .int .i32 0, .int .u32 0, .int .i64 0, .nils, .slc 23 0 0 1 none 4, .slc 24 0 0 1 none 1, .int .i64 1024, .ptr 25 0 0 1, .ptr 26 0 0 4, .int .i64 923, .int .u64 16, .int .u64 992, .int .i64 0, .int .i64 71, .nils, .int .i64 0, .int .i64 0] 138

def h6 : HMemo := ⟨13, [.ptr 12 0 0 11], 30, [⟨none, [0]⟩, ⟨some 12, [0]⟩, ⟨some 12, [1]⟩, ⟨some 12, [2]⟩, ⟨some 12, [3]⟩, ⟨some 12, [4]⟩, ⟨some 12, [5]⟩, ⟨some 12, [6]⟩, ⟨some 14, [0]⟩, ⟨some 14, [1]⟩, ⟨some 14, [2]⟩, ⟨some 15, [5]⟩, ⟨some 15, [6]⟩, ⟨some 15, [8]⟩, ⟨some 15, [9]⟩, ⟨some 22, [0]⟩, ⟨some 23, [3]⟩, ⟨some 25, [0]⟩], [(12, o7), (14, .box ([.slc 20 0 0 0 (some 0) 1, .slc 21 0 0 1 none 4, .slc 22 0 0 1 none 1] ++ (rpA 64 (.int .i64 0) [])) 157), (15, o8), (22, .arr [.map 27] 0 1 1 1 159), (23, .arr [.int .i64 0, .int .i64 3, .int .i64 4, .slc 28 0 0 20 none 6] 0 4 1 1 111), (25, .box [.slc 29 0 0 1024 (some 1024) 1] 260), (27, o6), (29, .box (rpA 1000 (.int .u8 0) ([.int .u8 1] ++ (rpA 23 (.int .u8 0) []))) 5)], .int .i64 0, [(12, o4), (15, o5), (29, .box (rpA 1000 (.int .u8 0) ([.int .u8 1] ++ (rpA 23 (.int .u8 0) []))) 5)], [12, 15, 29], 79⟩
set_option maxRecDepth 1000000 in
theorem h6_ok : h6.ok Tryz.prog { tabCfg tabs with hk := bothHk 12 (tabM c157) (tabH d6) } 100000 12 (tabSt 12 tabs) = true := by kernel_rfl
theorem h6_sound : h6.Sound Tryz.prog 12 (tabCfg tabs) := hmemo_both c157_sound d6_sound (by kernel_rfl) tabs_lt h6_ok
def d7 : List HMemo := h6 :: d6
theorem d7_sound : ∀ m ∈ d7, m.Sound Tryz.prog 12 (tabCfg tabs) := hsound_cons h6_sound d6_sound
def o9 : Ob := .box [.slc 13 0 0 1 none 4, .ptr 14 0 0 67, .ptr 15 0 0 18, .ptr 16 0 0 8, .ptr 17 0 0 68, .ptr 18 0 0 36, .map 19, .bool false, .fn (.func 32) [.ptr 12 0 0 11] [], .int .i64 76, .int .i64 0] 95
def o10 : Ob := .box [.int .u32 1, .int .i32 0, .int .u32 0, .int .i64 0, .nils, .slc 23 0 0 1 none 4, .slc 24 0 0 1 none 1, .int .i64 1024, .ptr 25 0 0 1, .ptr 26 0 0 4, .int .i64 924, .int .u64 16, .int .u64 992, .int .i64 0, .int .i64 21, .nils, .int .i64 0, .int .i64 0] 138

def h7 : HMemo := ⟨13, [.ptr 12 0 0 11], 30, [⟨none, [0]⟩, ⟨some 12, [0]⟩, ⟨some 12, [1]⟩, ⟨some 12, [2]⟩, ⟨some 12, [3]⟩, ⟨some 12, [4]⟩, ⟨some 12, [5]⟩, ⟨some 12, [6]⟩, ⟨some 14, [0]⟩, ⟨some 14, [1]⟩, ⟨some 14, [2]⟩, ⟨some 15, [5]⟩, ⟨some 15, [6]⟩, ⟨some 15, [8]⟩, ⟨some 15, [9]⟩, ⟨some 22, [0]⟩, ⟨some 23, [3]⟩, ⟨some 25, [0]⟩], [(12, o9), (14, .box ([.slc 20 0 0 0 (some 0) 1, .slc 21 0 0 1 none 4, .slc 22 0 0 1 none 1] ++ (rpA 64 (.int .i64 0) [])) 157), (15, o10), (22, .arr [.map 27] 0 1 1 1 159), (23, .arr [.int .i64 0, .int .i64 3, .int .i64 4, .slc 28 0 0 20 none 6] 0 4 1 1 111), (25, .box [.slc 29 0 0 1024 (some 1024) 1] 260), (27, o6), (29, .box (rpA 1000 (.int .u8 0) ([.int .u8 1] ++ (rpA 23 (.int .u8 0) []))) 5)], .int .i64 0, [(12, o7), (15, o8)], [12, 15], 72⟩
set_option maxRecDepth 1000000 in
theorem h7_ok : h7.ok Tryz.prog { tabCfg tabs with hk := bothHk 12 (tabM c157) (tabH d7) } 100000 12 (tabSt 12 tabs) = true := by kernel_rfl
theorem h7_sound : h7.Sound Tryz.prog 12 (tabCfg tabs) := hmemo_both c157_sound d7_sound (by kernel_rfl) tabs_lt h7_ok
def d8 : List HMemo := h7 :: d7
theorem d8_sound : ∀ m ∈ d8, m.Sound Tryz.prog 12 (tabCfg tabs) := hsound_cons h7_sound d7_sound
def o11 : Ob := .box [.slc 13 0 0 1 none 4, .ptr 14 0 0 67, .ptr 15 0 0 18, .ptr 16 0 0 8, .ptr 17 0 0 68, .ptr 18 0 0 36, .map 19, .bool false, .fn (.func 32) [.ptr 12 0 0 11] [], .int .i64 75, .int .i64 0] 95
def o12 : Ob := .box [.int .u32 1, .int .i32 0, .int .u32 0, .int .i64 0, .nils, .slc 23 0 0 1 none 4, .slc 24 0 0 1 none 1, .int .i64 1024, .ptr 25 0 0 1, .ptr 26 0 0 4, .int .i64 925, .int .u64 16, .int .u64 992, .int .i64 0, .int .i64 17, .nils, .int .i64 0, .int .i64 0] 138
def o13 : Ob := .box (rpA 992 (.int .u8 0) ([.int .u8 248, .int .u8 3] ++ (rpA 6 (.int .u8 0) ([.int .u8 1] ++ (rpA 23 (.int .u8 0) []))))) 5

def h8 : HMemo := ⟨13, [.ptr 12 0 0 11], 30, [⟨none, [0]⟩, ⟨some 12, [0]⟩, ⟨some 12, [1]⟩, ⟨some 12, [2]⟩, ⟨some 12, [3]⟩, ⟨some 12, [4]⟩, ⟨some 12, [5]⟩, ⟨some 12, [6]⟩, ⟨some 14, [0]⟩, ⟨some 14, [1]⟩, ⟨some 14, [2]⟩, ⟨some 15, [5]⟩, ⟨some 15, [6]⟩, ⟨some 15, [8]⟩, ⟨some 15, [9]⟩, ⟨some 22, [0]⟩, ⟨some 23, [3]⟩, ⟨some 25, [0]⟩], [(12, o11), (14, .box ([.slc 20 0 0 0 (some 0) 1, .slc 21 0 0 1 none 4, .slc 22 0 0 1 none 1] ++ (rpA 64 (.int .i64 0) [])) 157), (15, o12), (22, .arr [.map 27] 0 1 1 1 159), (23, .arr [.int .i64 0, .int .i64 3, .int .i64 4, .slc 28 0 0 20 none 6] 0 4 1 1 111), (25, .box [.slc 29 0 0 1024 (some 1024) 1] 260), (27, o6), (29, o13)], .int .i64 0, [(12, o9), (15, o10), (29, .box (rpA 1000 (.int .u8 0) ([.int .u8 1] ++ (rpA 23 (.int .u8 0) []))) 5)], [12, 15, 29], 91⟩
set_option maxRecDepth 1000000 in
theorem h8_ok : h8.ok Tryz.prog { tabCfg tabs with hk := bothHk 12 (tabM c157) (tabH d8) } 100000 12 (tabSt 12 tabs) = true := by kernel_rfl
theorem h8_sound : h8.Sound Tryz.prog 12 (tabCfg tabs) := hmemo_both c157_sound d8_sound (by kernel_rfl) tabs_lt h8_ok
def d9 : List HMemo := h8 :: d8
theorem d9_sound : ∀ m ∈ d9, m.Sound Tryz.prog 12 (tabCfg tabs) := hsound_cons h8_sound d8_sound
def o14 : Ob := .box [.slc 13 0 0 1 none 4, .ptr 14 0 0 67, .ptr 15 0 0 18, .ptr 16 0 0 8, .ptr 17 0 0 68, .ptr 18 0 0 36, .map 19, .bool false, .fn (.func 32) [.ptr 12 0 0 11] [], .int .i64 74, .int .i64 0] 95
def o15 : Ob := .box [.int .u32 1, .int .i32 0, .int .u32 0, .int .i64 0, .nils, .slc 23 0 0 1 none 4, .slc 24 0 0 1 none 1, .int .i64 1024, .ptr 25 0 0 1, .ptr 26 0 0 4, .int .i64 926, .int .u64 16, .int .u64 992, .int .i64 0, .int .i64 13, .nils, .int .i64 0, .int .i64 0] 138

def h9 : HMemo := ⟨13, [.ptr 12 0 0 11], 31, [⟨none, [0]⟩, ⟨some 12, [0]⟩, ⟨some 12, [1]⟩, ⟨some 12, [2]⟩, ⟨some 12, [3]⟩, ⟨some 12, [4]⟩, ⟨some 12, [5]⟩, ⟨some 12, [6]⟩, ⟨some 14, [0]⟩, ⟨some 14, [1]⟩, ⟨some 14, [2]⟩, ⟨some 15, [5]⟩, ⟨some 15, [6]⟩, ⟨some 15, [8]⟩, ⟨some 15, [9]⟩, ⟨some 21, [3]⟩, ⟨some 22, [0]⟩, ⟨some 23, [3]⟩, ⟨some 25, [0]⟩], [(12, o14), (14, .box ([.slc 20 0 0 0 (some 0) 1, .slc 21 0 0 1 none 4, .slc 22 0 0 1 none 1] ++ (rpA 64 (.int .i64 0) [])) 157), (15, o15), (21, .arr [.int .i64 0, .int .i64 3, .int .i64 4, .slc 27 19 0 20 none 6] 0 4 1 1 111), (22, .arr [.map 28] 0 1 1 1 159), (23, .arr [.int .i64 0, .int .i64 3, .int .i64 4, .slc 29 0 0 20 none 6] 0 4 1 1 111), (25, .box [.slc 30 0 0 1024 (some 1024) 1] 260), (28, o6), (30, .box (rpA 992 (.int .u8 0) ([.int .u8 1] ++ (rpA 7 (.int .u8 0) ([.int .u8 1] ++ (rpA 23 (.int .u8 0) []))))) 5)], .int .i64 0, [(12, o11), (15, o12), (30, o13)], [12, 15, 30], 80⟩
set_option maxRecDepth 1000000 in
theorem h9_ok : h9.ok Tryz.prog { tabCfg tabs with hk := bothHk 12 (tabM c157) (tabH d9) } 100000 12 (tabSt 12 tabs) = true := by kernel_rfl
theorem h9_sound : h9.Sound Tryz.prog 12 (tabCfg tabs) := hmemo_both c157_sound d9_sound (by kernel_rfl) tabs_lt h9_ok
def d10 : List HMemo := h9 :: d9
theorem d10_sound : ∀ m ∈ d10, m.Sound Tryz.prog 12 (tabCfg tabs) := hsound_cons h9_sound d9_sound
def o16 : Ob := .box [.slc 13 0 0 1 none 4, .ptr 14 0 0 67, .ptr 15 0 0 18, .ptr 16 0 0 8, .ptr 17 0 0 68, .ptr 18 0 0 36, .map 19, .bool false, .fn (.func 32) [.ptr 12 0 0 11] [], .int .i64 73, .int .i64 0] 95
def o17 : Ob := .box [.int .u32 1, .int .i32 0, .int .u32 0, .int .i64 0, .nils, .slc 23 0 0 1 none 4, .slc 24 0 0 1 none 1, .int .i64 1024, .ptr 25 0 0 1, .ptr 26 0 0 4, .int .i64 927, .int .u64 16, .int .u64 992, .int .i64 0, .int .i64 68, .nils, .int .i64 0, .int .i64 0] 138

def h10 : HMemo := ⟨13, [.ptr 12 0 0 11], 28, [⟨none, [0]⟩, ⟨some 12, [0]⟩, ⟨some 12, [1]⟩, ⟨some 12, [2]⟩, ⟨some 12, [3]⟩, ⟨some 12, [4]⟩, ⟨some 12, [5]⟩, ⟨some 12, [6]⟩, ⟨some 14, [0]⟩, ⟨some 14, [1]⟩, ⟨some 14, [2]⟩, ⟨some 15, [5]⟩, ⟨some 15, [6]⟩, ⟨some 15, [8]⟩, ⟨some 15, [9]⟩, ⟨some 22, [0]⟩], [(12, o16), (14, .box ([.slc 20 0 0 0 (some 0) 1, .slc 21 0 0 1 none 4, .slc 22 0 0 1 none 1] ++ (rpA 64 (.int .i64 0) [])) 157), (15, o17), (22, .arr [.map 27] 0 1 1 1 159), (27, o6)], .int .i64 0, [(12, o14), (15, o15)], [12, 15], 58⟩
set_option maxRecDepth 1000000 in
theorem h10_ok : h10.ok Tryz.prog { tabCfg tabs with hk := bothHk 12 (tabM c157) (tabH d10) } 100000 12 (tabSt 12 tabs) = true := by kernel_rfl
theorem h10_sound : h10.Sound Tryz.prog 12 (tabCfg tabs) := hmemo_both c157_sound d10_sound (by kernel_rfl) tabs_lt h10_ok
def d11 : List HMemo := h10 :: d10
theorem d11_sound : ∀ m ∈ d11, m.Sound Tryz.prog 12 (tabCfg tabs) := hsound_cons h10_sound d10_sound
def o18 : Ob := .box [.slc 13 0 0 1 none 4, .ptr 14 0 0 67, .ptr 15 0 0 18, .ptr 16 0 0 8, .ptr 17 0 0 68, .ptr 18 0 0 36, .map 19, .bool false, .fn (.func 32) [.ptr 12 0 0 11] [], .int .i64 72, .int .i64 0] 95
def o19 : Ob := .box [.int .u32 1, .int .i32 0, .int .u32 0, .int .i64 0, .nils, .slc 23 0 0 1 none 4, .slc 24 0 0 1 none 1, .int .i64 1024, .ptr 25 0 0 1, .ptr 26 0 0 4, .int .i64 928, .int .u64 16, .int .u64 992, .int .i64 0, .int .i64 65, .nils, .int .i64 0, .int .i64 0] 138

def h11 : HMemo := ⟨13, [.ptr 12 0 0 11], 30, [⟨none, [0]⟩, ⟨some 12, [0]⟩, ⟨some 12, [1]⟩, ⟨some 12, [2]⟩, ⟨some 12, [3]⟩, ⟨some 12, [4]⟩, ⟨some 12, [5]⟩, ⟨some 12, [6]⟩, ⟨some 14, [0]⟩, ⟨some 14, [1]⟩, ⟨some 14, [2]⟩, ⟨some 15, [5]⟩, ⟨some 15, [6]⟩, ⟨some 15, [8]⟩, ⟨some 15, [9]⟩, ⟨some 22, [0]⟩, ⟨some 23, [3]⟩, ⟨some 25, [0]⟩], [(12, o18), (14, .box ([.slc 20 0 0 0 (some 0) 1, .slc 21 0 0 1 none 4, .slc 22 0 0 1 none 1] ++ (rpA 64 (.int .i64 0) [])) 157), (15, o19), (22, .arr [.map 27] 0 1 1 1 159), (23, .arr [.int .i64 0, .int .i64 3, .int .i64 4, .slc 28 0 0 20 none 6] 0 4 1 1 111), (25, .box [.slc 29 0 0 1024 (some 1024) 1] 260), (27, o6), (29, o13)], .int .i64 0, [(12, o16), (15, o17), (29, .box (rpA 992 (.int .u8 0) ([.int .u8 1] ++ (rpA 7 (.int .u8 0) ([.int .u8 1] ++ (rpA 23 (.int .u8 0) []))))) 5)], [12, 15, 29], 88⟩
set_option maxRecDepth 1000000 in
theorem h11_ok : h11.ok Tryz.prog { tabCfg tabs with hk := bothHk 12 (tabM c157) (tabH d11) } 100000 12 (tabSt 12 tabs) = true := by kernel_rfl
theorem h11_sound : h11.Sound Tryz.prog 12 (tabCfg tabs) := hmemo_both c157_sound d11_sound (by kernel_rfl) tabs_lt h11_ok
def d12 : List HMemo := h11 :: d11
theorem d12_sound : ∀ m ∈ d12, m.Sound Tryz.prog 12 (tabCfg tabs) := hsound_cons h11_sound d11_sound
def o20 : Ob := .box [.slc 13 0 0 1 none 4, .ptr 14 0 0 67, .ptr 15 0 0 18, .ptr 16 0 0 8, .ptr 17 0 0 68, .ptr 18 0 0 36, .map 19, .bool false, .fn (.func 32) [.ptr 12 0 0 11] [], .int .i64 71, .int .i64 0] 95
def o21 : Ob := .box [.int .u32 1, .int .i32 0, .int .u32 0, .int .i64 0, .nils, .slc 23 0 0 1 none 4, .slc 24 0 0 1 none 1, .int .i64 1024, .ptr 25 0 0 1, .ptr 26 0 0 4, .int .i64 929, .int .u64 16, .int .u64 992, .int .i64 0, .int .i64 61, .nils, .int .i64 0, .int .i64 0] 138
def o22 : Ob := .box (rpA 992 (.int .u8 0) ([.int .u8 248, .int .u8 3] ++ (rpA 6 (.int .u8 0) ([.int .u8 1] ++ (rpA 15 (.int .u8 0) ([.int .u8 1] ++ (rpA 7 (.int .u8 0) []))))))) 5

def h12 : HMemo := ⟨13, [.ptr 12 0 0 11], 30, [⟨none, [0]⟩, ⟨some 12, [0]⟩, ⟨some 12, [1]⟩, ⟨some 12, [2]⟩, ⟨some 12, [3]⟩, ⟨some 12, [4]⟩, ⟨some 12, [5]⟩, ⟨some 12, [6]⟩, ⟨some 14, [0]⟩, ⟨some 14, [1]⟩, ⟨some 14, [2]⟩, ⟨some 15, [5]⟩, ⟨some 15, [6]⟩, ⟨some 15, [8]⟩, ⟨some 15, [9]⟩, ⟨some 22, [0]⟩, ⟨some 23, [3]⟩, ⟨some 25, [0]⟩], [(12, o20), (14, .box ([.slc 20 0 0 0 (some 0) 1, .slc 21 0 0 1 none 4, .slc 22 0 0 1 none 1] ++ (rpA 64 (.int .i64 0) [])) 157), (15, o21), (22, .arr [.map 27] 0 1 1 1 159), (23, .arr [.int .i64 0, .int .i64 3, .int .i64 4, .slc 28 0 0 20 none 6] 0 4 1 1 111), (25, .box [.slc 29 0 0 1024 (some 1024) 1] 260), (27, o6), (29, o22)], .int .i64 0, [(12, o18), (15, o19), (29, o13)], [12, 15, 29], 87⟩
set_option maxRecDepth 1000000 in
theorem h12_ok : h12.ok Tryz.prog { tabCfg tabs with hk := bothHk 12 (tabM c157) (tabH d12) } 100000 12 (tabSt 12 tabs) = true := by kernel_rfl
theorem h12_sound : h12.Sound Tryz.prog 12 (tabCfg tabs) := hmemo_both c157_sound d12_sound (by kernel_rfl) tabs_lt h12_ok
def d13 : List HMemo := h12 :: d12
theorem d13_sound : ∀ m ∈ d13, m.Sound Tryz.prog 12 (tabCfg tabs) := hsound_cons h12_sound d12_sound
def o23 : Ob := .box [.slc 13 0 0 1 none 4, .ptr 14 0 0 67, .ptr 15 0 0 18, .ptr 16 0 0 8, .ptr 17 0 0 68, .ptr 18 0 0 36, .map 19, .bool false, .fn (.func 32) [.ptr 12 0 0 11] [], .int .i64 70, .int .i64 0] 95
def o24 : Ob := .box [.int .u32 1, .int .i32 0, .int .u32 0, .int .i64 0, .nils, .slc 23 0 0 1 none 4, .slc 24 0 0 1 none 1, .int .i64 1024, .ptr 25 0 0 1, .ptr 26 0 0 4, .int .i64 930, .int .u64 16, .int .u64 992, .int .i64 0, .int .i64 57, .nils, .int .i64 0, .int .i64 0] 138

def h13 : HMemo := ⟨13, [.ptr 12 0 0 11], 30, [⟨none, [0]⟩, ⟨some 12, [0]⟩, ⟨some 12, [1]⟩, ⟨some 12, [2]⟩, ⟨some 12, [3]⟩, ⟨some 12, [4]⟩, ⟨some 12, [5]⟩, ⟨some 12, [6]⟩, ⟨some 14, [0]⟩, ⟨some 14, [1]⟩, ⟨some 14, [2]⟩, ⟨some 15, [5]⟩, ⟨some 15, [6]⟩, ⟨some 15, [8]⟩, ⟨some 15, [9]⟩, ⟨some 22, [0]⟩, ⟨some 23, [3]⟩, ⟨some 25, [0]⟩], [(12, o23), (14, .box ([.slc 20 0 0 0 (some 0) 1, .slc 21 0 0 1 none 4, .slc 22 0 0 1 none 1] ++ (rpA 64 (.int .i64 0) [])) 157), (15, o24), (22, .arr [.map 27] 0 1 1 1 159), (23, .arr [.int .i64 0, .int .i64 3, .int .i64 4, .slc 28 0 0 20 none 6] 0 4 1 1 111), (25, .box [.slc 29 0 0 1024 (some 1024) 1] 260), (27, o6), (29, o22)], .int .i64 0, [(12, o20), (15, o21), (29, o22)], [12, 15, 29], 89⟩
set_option maxRecDepth 1000000 in
theorem h13_ok : h13.ok Tryz.prog { tabCfg tabs with hk := bothHk 12 (tabM c157) (tabH d13) } 100000 12 (tabSt 12 tabs) = true := by kernel_rfl
theorem h13_sound : h13.Sound Tryz.prog 12 (tabCfg tabs) := hmemo_both c157_sound d13_sound (by kernel_rfl) tabs_lt h13_ok
def d14 : List HMemo := h13 :: d13
theorem d14_sound : ∀ m ∈ d14, m.Sound Tryz.prog 12 (tabCfg tabs) := hsound_cons h13_sound d13_sound
def o25 : Ob := .box [.slc 13 0 0 1 none 4, .ptr 14 0 0 67, .ptr 15 0 0 18, .ptr 16 0 0 8, .ptr 17 0 0 68, .ptr 18 0 0 36, .map 19, .bool false, .fn (.func 32) [.ptr 12 0 0 11] [], .int .i64 69, .int .i64 0] 95
def o26 : Ob := .box [.int .u32 1, .int .i32 0, .int .u32 0, .int .i64 0, .nils, .slc 23 0 0 1 none 4, .slc 24 0 0 1 none 1, .int .i64 1024, .ptr 25 0 0 1, .ptr 26 0 0 4, .int .i64 931, .int .u64 16, .int .u64 992, .int .i64 0, .int .i64 53, .nils, .int .i64 0, .int .i64 0] 138
def o27 : Ob := .box (rpA 992 (.int .u8 0) ([.int .u8 248, .int .u8 3] ++ (rpA 6 (.int .u8 0) ([.int .u8 1] ++ (rpA 7 (.int .u8 0) ([.int .u8 1] ++ (rpA 7 (.int .u8 0) ([.int .u8 1] ++ (rpA 7 (.int .u8 0) []))))))))) 5

def h14 : HMemo := ⟨13, [.ptr 12 0 0 11], 30, [⟨none, [0]⟩, ⟨some 12, [0]⟩, ⟨some 12, [1]⟩, ⟨some 12, [2]⟩, ⟨some 12, [3]⟩, ⟨some 12, [4]⟩, ⟨some 12, [5]⟩, ⟨some 12, [6]⟩, ⟨some 14, [0]⟩, ⟨some 14, [1]⟩, ⟨some 14, [2]⟩, ⟨some 15, [5]⟩, ⟨some 15, [6]⟩, ⟨some 15, [8]⟩, ⟨some 15, [9]⟩, ⟨some 22, [0]⟩, ⟨some 23, [3]⟩, ⟨some 25, [0]⟩], [(12, o25), (14, .box ([.slc 20 0 0 0 (some 0) 1, .slc 21 0 0 1 none 4, .slc 22 0 0 1 none 1] ++ (rpA 64 (.int .i64 0) [])) 157), (15, o26), (22, .arr [.map 27] 0 1 1 1 159), (23, .arr [.int .i64 0, .int .i64 3, .int .i64 4, .slc 28 0 0 20 none 6] 0 4 1 1 111), (25, .box [.slc 29 0 0 1024 (some 1024) 1] 260), (27, o6), (29, o27)], .int .i64 0, [(12, o23), (15, o24), (29, o22)], [12, 15, 29], 98⟩
set_option maxRecDepth 1000000 in
theorem h14_ok : h14.ok Tryz.prog { tabCfg tabs with hk := bothHk 12 (tabM c157) (tabH d14) } 100000 12 (tabSt 12 tabs) = true := by kernel_rfl
theorem h14_sound : h14.Sound Tryz.prog 12 (tabCfg tabs) := hmemo_both c157_sound d14_sound (by kernel_rfl) tabs_lt h14_ok
def d15 : List HMemo := h14 :: d14
theorem d15_sound : ∀ m ∈ d15, m.Sound Tryz.prog 12 (tabCfg tabs) := hsound_cons h14_sound d14_sound
def o28 : Ob := .box [.slc 13 0 0 1 none 4, .ptr 14 0 0 67, .ptr 15 0 0 18, .ptr 16 0 0 8, .ptr 17 0 0 68, .ptr 18 0 0 36, .map 19, .bool false, .fn (.func 32) [.ptr 12 0 0 11] [], .int .i64 68, .int .i64 0] 95
def o29 : Ob := .box [.int .u32 1, .int .i32 0, .int .u32 0, .int .i64 0, .nils, .slc 23 0 0 1 none 4, .slc 24 0 0 1 none 1, .int .i64 1024, .ptr 25 0 0 1, .ptr 26 0 0 4, .int .i64 932, .int .u64 16, .int .u64 992, .int .i64 0, .int .i64 43, .nils, .int .i64 0, .int .i64 0] 138

def h15 : HMemo := ⟨13, [.ptr 12 0 0 11], 30, [⟨none, [0]⟩, ⟨some 12, [0]⟩, ⟨some 12, [1]⟩, ⟨some 12, [2]⟩, ⟨some 12, [3]⟩, ⟨some 12, [4]⟩, ⟨some 12, [5]⟩, ⟨some 12, [6]⟩, ⟨some 14, [0]⟩, ⟨some 14, [1]⟩, ⟨some 14, [2]⟩, ⟨some 15, [5]⟩, ⟨some 15, [6]⟩, ⟨some 15, [8]⟩, ⟨some 15, [9]⟩, ⟨some 22, [0]⟩, ⟨some 23, [3]⟩, ⟨some 25, [0]⟩], [(12, o28), (14, .box ([.slc 20 0 0 0 (some 0) 1, .slc 21 0 0 1 none 4, .slc 22 0 0 1 none 1] ++ (rpA 64 (.int .i64 0) [])) 157), (15, o29), (22, .arr [.map 27] 0 1 1 1 159), (23, .arr [.int .i64 0, .int .i64 3, .int .i64 4, .slc 28 0 0 20 none 6] 0 4 1 1 111), (25, .box [.slc 29 0 0 1024 (some 1024) 1] 260), (27, o6), (29, o27)], .int .i64 0, [(12, o25), (15, o26), (29, o27)], [12, 15, 29], 79⟩
set_option maxRecDepth 1000000 in
theorem h15_ok : h15.ok Tryz.prog { tabCfg tabs with hk := bothHk 12 (tabM c157) (tabH d15) } 100000 12 (tabSt 12 tabs) = true := by kernel_rfl
theorem h15_sound : h15.Sound Tryz.prog 12 (tabCfg tabs) := hmemo_both c157_sound d15_sound (by kernel_rfl) tabs_lt h15_ok
def d16 : List HMemo := h15 :: d15
theorem d16_sound : ∀ m ∈ d16, m.Sound Tryz.prog 12 (tabCfg tabs) := hsound_cons h15_sound d15_sound
def o30 : Ob := .box [.slc 13 0 0 1 none 4, .ptr 14 0 0 67, .ptr 15 0 0 18, .ptr 16 0 0 8, .ptr 17 0 0 68, .ptr 18 0 0 36, .map 19, .bool false, .fn (.func 32) [.ptr 12 0 0 11] [], .int .i64 67, .int .i64 0] 95
def o31 : Ob := .box [.int .u32 1, .int .i32 0, .int .u32 0, .int .i64 0, .nils, .slc 23 0 0 1 none 4, .slc 24 0 0 1 none 1, .int .i64 1024, .ptr 25 0 0 1, .ptr 26 0 0 4, .int .i64 933, .int .u64 16, .int .u64 992, .int .i64 0, .int .i64 39, .nils, .int .i64 0, .int .i64 0] 138
def o32 : Ob := .box (rpA 992 (.int .u8 0) ([.int .u8 248, .int .u8 3] ++ (rpA 6 (.int .u8 0) ([.int .u8 2] ++ (rpA 7 (.int .u8 0) ([.int .u8 1] ++ (rpA 7 (.int .u8 0) ([.int .u8 1] ++ (rpA 7 (.int .u8 0) []))))))))) 5

def h16 : HMemo := ⟨13, [.ptr 12 0 0 11], 30, [⟨none, [0]⟩, ⟨some 12, [0]⟩, ⟨some 12, [1]⟩, ⟨some 12, [2]⟩, ⟨some 12, [3]⟩, ⟨some 12, [4]⟩, ⟨some 12, [5]⟩, ⟨some 12, [6]⟩, ⟨some 14, [0]⟩, ⟨some 14, [1]⟩, ⟨some 14, [2]⟩, ⟨some 15, [5]⟩, ⟨some 15, [6]⟩, ⟨some 15, [8]⟩, ⟨some 15, [9]⟩, ⟨some 22, [0]⟩, ⟨some 23, [3]⟩, ⟨some 25, [0]⟩], [(12, o30), (14, .box ([.slc 20 0 0 0 (some 0) 1, .slc 21 0 0 1 none 4, .slc 22 0 0 1 none 1] ++ (rpA 64 (.int .i64 0) [])) 157), (15, o31), (22, .arr [.map 27] 0 1 1 1 159), (23, .arr [.int .i64 0, .int .i64 3, .int .i64 4, .slc 28 0 0 20 none 6] 0 4 1 1 111), (25, .box [.slc 29 0 0 1024 (some 1024) 1] 260), (27, o6), (29, o32)], .int .i64 0, [(12, o28), (15, o29), (29, o27)], [12, 15, 29], 91⟩
set_option maxRecDepth 1000000 in
theorem h16_ok : h16.ok Tryz.prog { tabCfg tabs with hk := bothHk 12 (tabM c157) (tabH d16) } 100000 12 (tabSt 12 tabs) = true := by kernel_rfl
theorem h16_sound : h16.Sound Tryz.prog 12 (tabCfg tabs) := hmemo_both c157_sound d16_sound (by kernel_rfl) tabs_lt h16_ok
def d17 : List HMemo := h16 :: d16
theorem d17_sound : ∀ m ∈ d17, m.Sound Tryz.prog 12 (tabCfg tabs) := hsound_cons h16_sound d16_sound
def o33 : Ob := .box [.slc 13 0 0 1 none 4, .ptr 14 0 0 67, .ptr 15 0 0 18, .ptr 16 0 0 8, .ptr 17 0 0 68, .ptr 18 0 0 36, .map 19, .bool false, .fn (.func 32) [.ptr 12 0 0 11] [], .int .i64 66, .int .i64 0] 95
def o34 : Ob := .box [.int .u32 1, .int .i32 0, .int .u32 0, .int .i64 0, .nils, .slc 23 0 0 1 none 4, .slc 24 0 0 1 none 1, .int .i64 1024, .ptr 25 0 0 1, .ptr 26 0 0 4, .int .i64 934, .int .u64 16, .int .u64 992, .int .i64 0, .int .i64 35, .nils, .int .i64 0, .int .i64 0] 138
def o35 : Ob := .box (rpA 992 (.int .u8 0) ([.int .u8 1] ++ (rpA 7 (.int .u8 0) ([.int .u8 2] ++ (rpA 7 (.int .u8 0) ([.int .u8 1] ++ (rpA 7 (.int .u8 0) ([.int .u8 1] ++ (rpA 7 (.int .u8 0) []))))))))) 5

def h17 : HMemo := ⟨13, [.ptr 12 0 0 11], 31, [⟨none, [0]⟩, ⟨some 12, [0]⟩, ⟨some 12, [1]⟩, ⟨some 12, [2]⟩, ⟨some 12, [3]⟩, ⟨some 12, [4]⟩, ⟨some 12, [5]⟩, ⟨some 12, [6]⟩, ⟨some 14, [0]⟩, ⟨some 14, [1]⟩, ⟨some 14, [2]⟩, ⟨some 15, [5]⟩, ⟨some 15, [6]⟩, ⟨some 15, [8]⟩, ⟨some 15, [9]⟩, ⟨some 21, [3]⟩, ⟨some 22, [0]⟩, ⟨some 23, [3]⟩, ⟨some 25, [0]⟩], [(12, o33), (14, .box ([.slc 20 0 0 0 (some 0) 1, .slc 21 0 0 1 none 4, .slc 22 0 0 1 none 1] ++ (rpA 64 (.int .i64 0) [])) 157), (15, o34), (21, .arr [.int .i64 0, .int .i64 3, .int .i64 4, .slc 27 19 0 20 none 6] 0 4 1 1 111), (22, .arr [.map 28] 0 1 1 1 159), (23, .arr [.int .i64 0, .int .i64 3, .int .i64 4, .slc 29 0 0 20 none 6] 0 4 1 1 111), (25, .box [.slc 30 0 0 1024 (some 1024) 1] 260), (28, o6), (30, o35)], .int .i64 0, [(12, o30), (15, o31), (30, o32)], [12, 15, 30], 80⟩
set_option maxRecDepth 1000000 in
theorem h17_ok : h17.ok Tryz.prog { tabCfg tabs with hk := bothHk 12 (tabM c157) (tabH d17) } 100000 12 (tabSt 12 tabs) = true := by kernel_rfl
theorem h17_sound : h17.Sound Tryz.prog 12 (tabCfg tabs) := hmemo_both c157_sound d17_sound (by kernel_rfl) tabs_lt h17_ok
def d18 : List HMemo := h17 :: d17
theorem d18_sound : ∀ m ∈ d18, m.Sound Tryz.prog 12 (tabCfg tabs) := hsound_cons h17_sound d17_sound
def o36 : Ob := .box [.slc 13 0 0 1 none 4, .ptr 14 0 0 67, .ptr 15 0 0 18, .ptr 16 0 0 8, .ptr 17 0 0 68, .ptr 18 0 0 36, .map 19, .bool false, .fn (.func 32) [.ptr 12 0 0 11] [], .int .i64 65, .int .i64 0] 95
def o37 : Ob := .box [.int .u32 1, .int .i32 0, .int .u32 0, .int .i64 0, .nils, .slc 23 0 0 1 none 4, .slc 24 0 0 1 none 1, .int .i64 1024, .ptr 25 0 0 1, .ptr 26 0 0 4, .int .i64 935, .int .u64 16, .int .u64 992, .int .i64 0, .int .i64 33, .nils, .int .i64 0, .int .i64 0] 138
def o38 : Ob := .arr [.int .i64 1, .int .i64 5, .int .i64 2, .int .i64 5, .int .i64 2, .int .i64 4, .int .i64 2, .int .i64 3, .int .i64 2, .int .i64 2] 0 2 1 5 142

def h18 : HMemo := ⟨13, [.ptr 12 0 0 11], 32, [⟨none, [0]⟩, ⟨some 12, [0]⟩, ⟨some 12, [1]⟩, ⟨some 12, [2]⟩, ⟨some 12, [3]⟩, ⟨some 12, [4]⟩, ⟨some 12, [5]⟩, ⟨some 12, [6]⟩, ⟨some 14, [0]⟩, ⟨some 14, [1]⟩, ⟨some 14, [2]⟩, ⟨some 15, [5]⟩, ⟨some 15, [6]⟩, ⟨some 15, [8]⟩, ⟨some 15, [9]⟩, ⟨some 22, [0]⟩, ⟨some 23, [3]⟩, ⟨some 25, [0]⟩, ⟨some 26, [1]⟩, ⟨some 26, [3]⟩], [(12, o36), (14, .box ([.slc 20 0 0 0 (some 0) 1, .slc 21 0 0 1 none 4, .slc 22 0 0 1 none 1] ++ (rpA 64 (.int .i64 0) [])) 157), (15, o37), (22, .arr [.map 27] 0 1 1 1 159), (23, .arr [.int .i64 0, .int .i64 3, .int .i64 4, .slc 28 0 0 20 none 6] 0 4 1 1 111), (25, .box [.slc 29 0 0 1024 (some 1024) 1] 260), (26, .box [.bool true, .slc 30 0 0 1 none 1, .int .i64 1, .slc 31 4 0 5 none 2] 194), (27, o6), (29, o35), (31, o38)], .int .i64 0, [(12, o33), (15, o34), (26, .box [.bool true, .slc 30 0 0 1 none 1, .int .i64 1, .slc 31 5 0 6 none 2] 194), (31, .arr [.int .i64 1, .int .i64 5, .int .i64 2, .int .i64 5, .int .i64 2, .int .i64 4, .int .i64 2, .int .i64 3, .int .i64 2, .int .i64 2, .int .i64 2, .int .i64 1] 0 2 1 6 142)], [12, 15, 26, 31], 76⟩
set_option maxRecDepth 1000000 in
theorem h18_ok : h18.ok Tryz.prog { tabCfg tabs with hk := bothHk 12 (tabM c157) (tabH d18) } 100000 12 (tabSt 12 tabs) = true := by kernel_rfl
theorem h18_sound : h18.Sound Tryz.prog 12 (tabCfg tabs) := hmemo_both c157_sound d18_sound (by kernel_rfl) tabs_lt h18_ok
def d19 : List HMemo := h18 :: d18
theorem d19_sound : ∀ m ∈ d19, m.Sound Tryz.prog 12 (tabCfg tabs) := hsound_cons h18_sound d18_sound
def o39 : Ob := .box [.slc 13 0 0 1 none 4, .ptr 14 0 0 67, .ptr 15 0 0 18, .ptr 16 0 0 8, .ptr 17 0 0 68, .ptr 18 0 0 36, .map 19, .bool false, .fn (.func 32) [.ptr 12 0 0 11] [], .int .i64 64, .int .i64 0] 95
def o40 : Ob := .box [.int .u32 1, .int .i32 0, .int .u32 0, .int .i64 0, .nils, .slc 23 0 0 1 none 4, .slc 24 0 0 1 none 1, .int .i64 1024, .ptr 25 0 0 1, .ptr 26 0 0 4, .int .i64 936, .int .u64 16, .int .u64 992, .int .i64 0, .int .i64 29, .nils, .int .i64 0, .int .i64 0] 138

def h19 : HMemo := ⟨13, [.ptr 12 0 0 11], 30, [⟨none, [0]⟩, ⟨some 12, [0]⟩, ⟨some 12, [1]⟩, ⟨some 12, [2]⟩, ⟨some 12, [3]⟩, ⟨some 12, [4]⟩, ⟨some 12, [5]⟩, ⟨some 12, [6]⟩, ⟨some 14, [0]⟩, ⟨some 14, [1]⟩, ⟨some 14, [2]⟩, ⟨some 15, [5]⟩, ⟨some 15, [6]⟩, ⟨some 15, [8]⟩, ⟨some 15, [9]⟩, ⟨some 22, [0]⟩, ⟨some 23, [3]⟩, ⟨some 25, [0]⟩], [(12, o39), (14, .box ([.slc 20 0 0 0 (some 0) 1, .slc 21 0 0 1 none 4, .slc 22 0 0 1 none 1] ++ (rpA 64 (.int .i64 0) [])) 157), (15, o40), (22, .arr [.map 27] 0 1 1 1 159), (23, .arr [.int .i64 0, .int .i64 3, .int .i64 4, .slc 28 0 0 20 none 6] 0 4 1 1 111), (25, .box [.slc 29 0 0 1024 (some 1024) 1] 260), (27, o6), (29, o32)], .int .i64 0, [(12, o36), (15, o37), (29, o35)], [12, 15, 29], 91⟩
set_option maxRecDepth 1000000 in
theorem h19_ok : h19.ok Tryz.prog { tabCfg tabs with hk := bothHk 12 (tabM c157) (tabH d19) } 100000 12 (tabSt 12 tabs) = true := by kernel_rfl
theorem h19_sound : h19.Sound Tryz.prog 12 (tabCfg tabs) := hmemo_both c157_sound d19_sound (by kernel_rfl) tabs_lt h19_ok
def d20 : List HMemo := h19 :: d19
theorem d20_sound : ∀ m ∈ d20, m.Sound Tryz.prog 12 (tabCfg tabs) := hsound_cons h19_sound d19_sound
def o41 : Ob := .box [.slc 13 0 0 1 none 4, .ptr 14 0 0 67, .ptr 15 0 0 18, .ptr 16 0 0 8, .ptr 17 0 0 68, .ptr 18 0 0 36, .map 19, .bool false, .fn (.func 32) [.ptr 12 0 0 11] [], .int .i64 63, .int .i64 0] 95
def o42 : Ob := .box [.int .u32 1, .int .i32 0, .int .u32 0, .int .i64 0, .nils, .slc 23 0 0 1 none 4, .slc 24 0 0 1 none 1, .int .i64 1024, .ptr 25 0 0 1, .ptr 26 0 0 4, .int .i64 937, .int .u64 16, .int .u64 992, .int .i64 0, .int .i64 25, .nils, .int .i64 0, .int .i64 0] 138

def h20 : HMemo := ⟨13, [.ptr 12 0 0 11], 31, [⟨none, [0]⟩, ⟨some 12, [0]⟩, ⟨some 12, [1]⟩, ⟨some 12, [2]⟩, ⟨some 12, [3]⟩, ⟨some 12, [4]⟩, ⟨some 12, [5]⟩, ⟨some 12, [6]⟩, ⟨some 14, [0]⟩, ⟨some 14, [1]⟩, ⟨some 14, [2]⟩, ⟨some 15, [5]⟩, ⟨some 15, [6]⟩, ⟨some 15, [8]⟩, ⟨some 15, [9]⟩, ⟨some 21, [3]⟩, ⟨some 22, [0]⟩, ⟨some 23, [3]⟩, ⟨some 25, [0]⟩], [(12, o41), (14, .box ([.slc 20 0 0 0 (some 0) 1, .slc 21 0 0 1 none 4, .slc 22 0 0 1 none 1] ++ (rpA 64 (.int .i64 0) [])) 157), (15, o42), (21, .arr [.int .i64 0, .int .i64 3, .int .i64 4, .slc 27 19 0 20 none 6] 0 4 1 1 111), (22, .arr [.map 28] 0 1 1 1 159), (23, .arr [.int .i64 0, .int .i64 3, .int .i64 4, .slc 29 0 0 20 none 6] 0 4 1 1 111), (25, .box [.slc 30 0 0 1024 (some 1024) 1] 260), (28, o6), (30, o35)], .int .i64 0, [(12, o39), (15, o40), (30, o32)], [12, 15, 30], 80⟩
set_option maxRecDepth 1000000 in
theorem h20_ok : h20.ok Tryz.prog { tabCfg tabs with hk := bothHk 12 (tabM c157) (tabH d20) } 100000 12 (tabSt 12 tabs) = true := by kernel_rfl
theorem h20_sound : h20.Sound Tryz.prog 12 (tabCfg tabs) := hmemo_both c157_sound d20_sound (by kernel_rfl) tabs_lt h20_ok
def d21 : List HMemo := h20 :: d20
theorem d21_sound : ∀ m ∈ d21, m.Sound Tryz.prog 12 (tabCfg tabs) := hsound_cons h20_sound d20_sound
def o43 : Ob := .box [.slc 13 0 0 1 none 4, .ptr 14 0 0 67, .ptr 15 0 0 18, .ptr 16 0 0 8, .ptr 17 0 0 68, .ptr 18 0 0 36, .map 19, .bool false, .fn (.func 32) [.ptr 12 0 0 11] [], .int .i64 62, .int .i64 0] 95
def o44 : Ob := .box [.int .u32 1, .int .i32 0, .int .u32 0, .int .i64 0, .nils, .slc 23 0 0 1 none 4, .slc 24 0 0 1 none 1, .int .i64 1024, .ptr 25 0 0 1, .ptr 26 0 0 4, .int .i64 938, .int .u64 16, .int .u64 992, .int .i64 0, .int .i64 21, .nils, .int .i64 0, .int .i64 0] 138

def h21 : HMemo := ⟨13, [.ptr 12 0 0 11], 30, [⟨none, [0]⟩, ⟨some 12, [0]⟩, ⟨some 12, [1]⟩, ⟨some 12, [2]⟩, ⟨some 12, [3]⟩, ⟨some 12, [4]⟩, ⟨some 12, [5]⟩, ⟨some 12, [6]⟩, ⟨some 14, [0]⟩, ⟨some 14, [1]⟩, ⟨some 14, [2]⟩, ⟨some 15, [5]⟩, ⟨some 15, [6]⟩, ⟨some 15, [8]⟩, ⟨some 15, [9]⟩, ⟨some 22, [0]⟩, ⟨some 23, [3]⟩, ⟨some 25, [0]⟩], [(12, o43), (14, .box ([.slc 20 0 0 0 (some 0) 1, .slc 21 0 0 1 none 4, .slc 22 0 0 1 none 1] ++ (rpA 64 (.int .i64 0) [])) 157), (15, o44), (22, .arr [.map 27] 0 1 1 1 159), (23, .arr [.int .i64 0, .int .i64 3, .int .i64 4, .slc 28 0 0 20 none 6] 0 4 1 1 111), (25, .box [.slc 29 0 0 1024 (some 1024) 1] 260), (27, o6), (29, o35)], .int .i64 0, [(12, o41), (15, o42)], [12, 15], 72⟩
set_option maxRecDepth 1000000 in
theorem h21_ok : h21.ok Tryz.prog { tabCfg tabs with hk := bothHk 12 (tabM c157) (tabH d21) } 100000 12 (tabSt 12 tabs) = true := by kernel_rfl
theorem h21_sound : h21.Sound Tryz.prog 12 (tabCfg tabs) := hmemo_both c157_sound d21_sound (by kernel_rfl) tabs_lt h21_ok
def d22 : List HMemo := h21 :: d21
theorem d22_sound : ∀ m ∈ d22, m.Sound Tryz.prog 12 (tabCfg tabs) := hsound_cons h21_sound d21_sound
def o45 : Ob := .box [.slc 13 0 0 1 none 4, .ptr 14 0 0 67, .ptr 15 0 0 18, .ptr 16 0 0 8, .ptr 17 0 0 68, .ptr 18 0 0 36, .map 19, .bool false, .fn (.func 32) [.ptr 12 0 0 11] [], .int .i64 61, .int .i64 0] 95
def o46 : Ob := .box [.int .u32 1, .int .i32 0, .int .u32 0, .int .i64 0, .nils, .slc 23 0 0 1 none 4, .slc 24 0 0 1 none 1, .int .i64 1024, .ptr 25 0 0 1, .ptr 26 0 0 4, .int .i64 939, .int .u64 16, .int .u64 992, .int .i64 0, .int .i64 17, .nils, .int .i64 0, .int .i64 0] 138

def h22 : HMemo := ⟨13, [.ptr 12 0 0 11], 30, [⟨none, [0]⟩, ⟨some 12, [0]⟩, ⟨some 12, [1]⟩, ⟨some 12, [2]⟩, ⟨some 12, [3]⟩, ⟨some 12, [4]⟩, ⟨some 12, [5]⟩, ⟨some 12, [6]⟩, ⟨some 14, [0]⟩, ⟨some 14, [1]⟩, ⟨some 14, [2]⟩, ⟨some 15, [5]⟩, ⟨some 15, [6]⟩, ⟨some 15, [8]⟩, ⟨some 15, [9]⟩, ⟨some 22, [0]⟩, ⟨some 23, [3]⟩, ⟨some 25, [0]⟩], [(12, o45), (14, .box ([.slc 20 0 0 0 (some 0) 1, .slc 21 0 0 1 none 4, .slc 22 0 0 1 none 1] ++ (rpA 64 (.int .i64 0) [])) 157), (15, o46), (22, .arr [.map 27] 0 1 1 1 159), (23, .arr [.int .i64 0, .int .i64 3, .int .i64 4, .slc 28 0 0 20 none 6] 0 4 1 1 111), (25, .box [.slc 29 0 0 1024 (some 1024) 1] 260), (27, o6), (29, o32)], .int .i64 0, [(12, o43), (15, o44), (29, o35)], [12, 15, 29], 91⟩
set_option maxRecDepth 1000000 in
theorem h22_ok : h22.ok Tryz.prog { tabCfg tabs with hk := bothHk 12 (tabM c157) (tabH d22) } 100000 12 (tabSt 12 tabs) = true := by kernel_rfl
theorem h22_sound : h22.Sound Tryz.prog 12 (tabCfg tabs) := hmemo_both c157_sound d22_sound (by kernel_rfl) tabs_lt h22_ok
def d23 : List HMemo := h22 :: d22
theorem d23_sound : ∀ m ∈ d23, m.Sound Tryz.prog 12 (tabCfg tabs) := hsound_cons h22_sound d22_sound
def o47 : Ob := .box [.slc 13 0 0 1 none 4, .ptr 14 0 0 67, .ptr 15 0 0 18, .ptr 16 0 0 8, .ptr 17 0 0 68, .ptr 18 0 0 36, .map 19, .bool false, .fn (.func 32) [.ptr 12 0 0 11] [], .int .i64 60, .int .i64 0] 95
def o48 : Ob := .box [.int .u32 1, .int .i32 0, .int .u32 0, .int .i64 0, .nils, .slc 23 0 0 1 none 4, .slc 24 0 0 1 none 1, .int .i64 1024, .ptr 25 0 0 1, .ptr 26 0 0 4, .int .i64 940, .int .u64 16, .int .u64 992, .int .i64 0, .int .i64 13, .nils, .int .i64 0, .int .i64 0] 138
def o49 : Ob := .box (rpA 992 (.int .u8 0) ([.int .u8 2] ++ (rpA 7 (.int .u8 0) ([.int .u8 2] ++ (rpA 7 (.int .u8 0) ([.int .u8 1] ++ (rpA 7 (.int .u8 0) ([.int .u8 1] ++ (rpA 7 (.int .u8 0) []))))))))) 5

def h23 : HMemo := ⟨13, [.ptr 12 0 0 11], 31, [⟨none, [0]⟩, ⟨some 12, [0]⟩, ⟨some 12, [1]⟩, ⟨some 12, [2]⟩, ⟨some 12, [3]⟩, ⟨some 12, [4]⟩, ⟨some 12, [5]⟩, ⟨some 12, [6]⟩, ⟨some 14, [0]⟩, ⟨some 14, [1]⟩, ⟨some 14, [2]⟩, ⟨some 15, [5]⟩, ⟨some 15, [6]⟩, ⟨some 15, [8]⟩, ⟨some 15, [9]⟩, ⟨some 21, [3]⟩, ⟨some 22, [0]⟩, ⟨some 23, [3]⟩, ⟨some 25, [0]⟩], [(12, o47), (14, .box ([.slc 20 0 0 0 (some 0) 1, .slc 21 0 0 1 none 4, .slc 22 0 0 1 none 1] ++ (rpA 64 (.int .i64 0) [])) 157), (15, o48), (21, .arr [.int .i64 0, .int .i64 3, .int .i64 4, .slc 27 19 0 20 none 6] 0 4 1 1 111), (22, .arr [.map 28] 0 1 1 1 159), (23, .arr [.int .i64 0, .int .i64 3, .int .i64 4, .slc 29 0 0 20 none 6] 0 4 1 1 111), (25, .box [.slc 30 0 0 1024 (some 1024) 1] 260), (28, o6), (30, o49)], .int .i64 0, [(12, o45), (15, o46), (30, o32)], [12, 15, 30], 80⟩
set_option maxRecDepth 1000000 in
theorem h23_ok : h23.ok Tryz.prog { tabCfg tabs with hk := bothHk 12 (tabM c157) (tabH d23) } 100000 12 (tabSt 12 tabs) = true := by kernel_rfl
theorem h23_sound : h23.Sound Tryz.prog 12 (tabCfg tabs) := hmemo_both c157_sound d23_sound (by kernel_rfl) tabs_lt h23_ok
def d24 : List HMemo := h23 :: d23
theorem d24_sound : ∀ m ∈ d24, m.Sound Tryz.prog 12 (tabCfg tabs) := hsound_cons h23_sound d23_sound
def o50 : Ob := .box [.slc 13 0 0 1 none 4, .ptr 14 0 0 67, .ptr 15 0 0 18, .ptr 16 0 0 8, .ptr 17 0 0 68, .ptr 18 0 0 36, .map 19, .bool false, .fn (.func 32) [.ptr 12 0 0 11] [], .int .i64 59, .int .i64 0] 95
def o51 : Ob := .box [.int .u32 1, .int .i32 0, .int .u32 0, .int .i64 0, .nils, .slc 23 0 0 1 none 4, .slc 24 0 0 1 none 1, .int .i64 1024, .ptr 25 0 0 1, .ptr 26 0 0 4, .int .i64 941, .int .u64 16, .int .u64 992, .int .i64 0, .int .i64 68, .nils, .int .i64 0, .int .i64 0] 138

def h24 : HMemo := ⟨13, [.ptr 12 0 0 11], 28, [⟨none, [0]⟩, ⟨some 12, [0]⟩, ⟨some 12, [1]⟩, ⟨some 12, [2]⟩, ⟨some 12, [3]⟩, ⟨some 12, [4]⟩, ⟨some 12, [5]⟩, ⟨some 12, [6]⟩, ⟨some 14, [0]⟩, ⟨some 14, [1]⟩, ⟨some 14, [2]⟩, ⟨some 15, [5]⟩, ⟨some 15, [6]⟩, ⟨some 15, [8]⟩, ⟨some 15, [9]⟩, ⟨some 22, [0]⟩], [(12, o50), (14, .box ([.slc 20 0 0 0 (some 0) 1, .slc 21 0 0 1 none 4, .slc 22 0 0 1 none 1] ++ (rpA 64 (.int .i64 0) [])) 157), (15, o51), (22, .arr [.map 27] 0 1 1 1 159), (27, o6)], .int .i64 0, [(12, o47), (15, o48)], [12, 15], 58⟩
set_option maxRecDepth 1000000 in
theorem h24_ok : h24.ok Tryz.prog { tabCfg tabs with hk := bothHk 12 (tabM c157) (tabH d24) } 100000 12 (tabSt 12 tabs) = true := by kernel_rfl
theorem h24_sound : h24.Sound Tryz.prog 12 (tabCfg tabs) := hmemo_both c157_sound d24_sound (by kernel_rfl) tabs_lt h24_ok
def d25 : List HMemo := h24 :: d24
theorem d25_sound : ∀ m ∈ d25, m.Sound Tryz.prog 12 (tabCfg tabs) := hsound_cons h24_sound d24_sound
def o52 : Ob := .box [.slc 13 0 0 1 none 4, .ptr 14 0 0 67, .ptr 15 0 0 18, .ptr 16 0 0 8, .ptr 17 0 0 68, .ptr 18 0 0 36, .map 19, .bool false, .fn (.func 32) [.ptr 12 0 0 11] [], .int .i64 58, .int .i64 0] 95
def o53 : Ob := .box [.int .u32 1, .int .i32 0, .int .u32 0, .int .i64 0, .nils, .slc 23 0 0 1 none 4, .slc 24 0 0 1 none 1, .int .i64 1024, .ptr 25 0 0 1, .ptr 26 0 0 4, .int .i64 942, .int .u64 16, .int .u64 992, .int .i64 0, .int .i64 65, .nils, .int .i64 0, .int .i64 0] 138

def h25 : HMemo := ⟨13, [.ptr 12 0 0 11], 30, [⟨none, [0]⟩, ⟨some 12, [0]⟩, ⟨some 12, [1]⟩, ⟨some 12, [2]⟩, ⟨some 12, [3]⟩, ⟨some 12, [4]⟩, ⟨some 12, [5]⟩, ⟨some 12, [6]⟩, ⟨some 14, [0]⟩, ⟨some 14, [1]⟩, ⟨some 14, [2]⟩, ⟨some 15, [5]⟩, ⟨some 15, [6]⟩, ⟨some 15, [8]⟩, ⟨some 15, [9]⟩, ⟨some 22, [0]⟩, ⟨some 23, [3]⟩, ⟨some 25, [0]⟩], [(12, o52), (14, .box ([.slc 20 0 0 0 (some 0) 1, .slc 21 0 0 1 none 4, .slc 22 0 0 1 none 1] ++ (rpA 64 (.int .i64 0) [])) 157), (15, o53), (22, .arr [.map 27] 0 1 1 1 159), (23, .arr [.int .i64 0, .int .i64 3, .int .i64 4, .slc 28 0 0 20 none 6] 0 4 1 1 111), (25, .box [.slc 29 0 0 1024 (some 1024) 1] 260), (27, o6), (29, o32)], .int .i64 0, [(12, o50), (15, o51), (29, o49)], [12, 15, 29], 88⟩
set_option maxRecDepth 1000000 in
theorem h25_ok : h25.ok Tryz.prog { tabCfg tabs with hk := bothHk 12 (tabM c157) (tabH d25) } 100000 12 (tabSt 12 tabs) = true := by kernel_rfl
theorem h25_sound : h25.Sound Tryz.prog 12 (tabCfg tabs) := hmemo_both c157_sound d25_sound (by kernel_rfl) tabs_lt h25_ok
def d26 : List HMemo := h25 :: d25
theorem d26_sound : ∀ m ∈ d26, m.Sound Tryz.prog 12 (tabCfg tabs) := hsound_cons h25_sound d25_sound
def o54 : Ob := .box [.slc 13 0 0 1 none 4, .ptr 14 0 0 67, .ptr 15 0 0 18, .ptr 16 0 0 8, .ptr 17 0 0 68, .ptr 18 0 0 36, .map 19, .bool false, .fn (.func 32) [.ptr 12 0 0 11] [], .int .i64 57, .int .i64 0] 95
def o55 : Ob := .box [.int .u32 1, .int .i32 0, .int .u32 0, .int .i64 0, .nils, .slc 23 0 0 1 none 4, .slc 24 0 0 1 none 1, .int .i64 1024, .ptr 25 0 0 1, .ptr 26 0 0 4, .int .i64 943, .int .u64 16, .int .u64 992, .int .i64 0, .int .i64 61, .nils, .int .i64 0, .int .i64 0] 138
def o56 : Ob := .box (rpA 992 (.int .u8 0) ([.int .u8 248, .int .u8 3] ++ (rpA 6 (.int .u8 0) ([.int .u8 2] ++ (rpA 7 (.int .u8 0) ([.int .u8 1] ++ (rpA 7 (.int .u8 0) ([.int .u8 2] ++ (rpA 7 (.int .u8 0) []))))))))) 5

def h26 : HMemo := ⟨13, [.ptr 12 0 0 11], 30, [⟨none, [0]⟩, ⟨some 12, [0]⟩, ⟨some 12, [1]⟩, ⟨some 12, [2]⟩, ⟨some 12, [3]⟩, ⟨some 12, [4]⟩, ⟨some 12, [5]⟩, ⟨some 12, [6]⟩, ⟨some 14, [0]⟩, ⟨some 14, [1]⟩, ⟨some 14, [2]⟩, ⟨some 15, [5]⟩, ⟨some 15, [6]⟩, ⟨some 15, [8]⟩, ⟨some 15, [9]⟩, ⟨some 22, [0]⟩, ⟨some 23, [3]⟩, ⟨some 25, [0]⟩], [(12, o54), (14, .box ([.slc 20 0 0 0 (some 0) 1, .slc 21 0 0 1 none 4, .slc 22 0 0 1 none 1] ++ (rpA 64 (.int .i64 0) [])) 157), (15, o55), (22, .arr [.map 27] 0 1 1 1 159), (23, .arr [.int .i64 0, .int .i64 3, .int .i64 4, .slc 28 0 0 20 none 6] 0 4 1 1 111), (25, .box [.slc 29 0 0 1024 (some 1024) 1] 260), (27, o6), (29, o56)], .int .i64 0, [(12, o52), (15, o53), (29, o32)], [12, 15, 29], 87⟩
set_option maxRecDepth 1000000 in
theorem h26_ok : h26.ok Tryz.prog { tabCfg tabs with hk := bothHk 12 (tabM c157) (tabH d26) } 100000 12 (tabSt 12 tabs) = true := by kernel_rfl
theorem h26_sound : h26.Sound Tryz.prog 12 (tabCfg tabs) := hmemo_both c157_sound d26_sound (by kernel_rfl) tabs_lt h26_ok
def d27 : List HMemo := h26 :: d26
theorem d27_sound : ∀ m ∈ d27, m.Sound Tryz.prog 12 (tabCfg tabs) := hsound_cons h26_sound d26_sound
def o57 : Ob := .box [.slc 13 0 0 1 none 4, .ptr 14 0 0 67, .ptr 15 0 0 18, .ptr 16 0 0 8, .ptr 17 0 0 68, .ptr 18 0 0 36, .map 19, .bool false, .fn (.func 32) [.ptr 12 0 0 11] [], .int .i64 56, .int .i64 0] 95
def o58 : Ob := .box [.int .u32 1, .int .i32 0, .int .u32 0, .int .i64 0, .nils, .slc 23 0 0 1 none 4, .slc 24 0 0 1 none 1, .int .i64 1024, .ptr 25 0 0 1, .ptr 26 0 0 4, .int .i64 944, .int .u64 16, .int .u64 992, .int .i64 0, .int .i64 57, .nils, .int .i64 0, .int .i64 0] 138

def h27 : HMemo := ⟨13, [.ptr 12 0 0 11], 30, [⟨none, [0]⟩, ⟨some 12, [0]⟩, ⟨some 12, [1]⟩, ⟨some 12, [2]⟩, ⟨some 12, [3]⟩, ⟨some 12, [4]⟩, ⟨some 12, [5]⟩, ⟨some 12, [6]⟩, ⟨some 14, [0]⟩, ⟨some 14, [1]⟩, ⟨some 14, [2]⟩, ⟨some 15, [5]⟩, ⟨some 15, [6]⟩, ⟨some 15, [8]⟩, ⟨some 15, [9]⟩, ⟨some 22, [0]⟩, ⟨some 23, [3]⟩, ⟨some 25, [0]⟩], [(12, o57), (14, .box ([.slc 20 0 0 0 (some 0) 1, .slc 21 0 0 1 none 4, .slc 22 0 0 1 none 1] ++ (rpA 64 (.int .i64 0) [])) 157), (15, o58), (22, .arr [.map 27] 0 1 1 1 159), (23, .arr [.int .i64 0, .int .i64 3, .int .i64 4, .slc 28 0 0 20 none 6] 0 4 1 1 111), (25, .box [.slc 29 0 0 1024 (some 1024) 1] 260), (27, o6), (29, o56)], .int .i64 0, [(12, o54), (15, o55), (29, o56)], [12, 15, 29], 89⟩
set_option maxRecDepth 1000000 in
theorem h27_ok : h27.ok Tryz.prog { tabCfg tabs with hk := bothHk 12 (tabM c157) (tabH d27) } 100000 12 (tabSt 12 tabs) = true := by kernel_rfl
theorem h27_sound : h27.Sound Tryz.prog 12 (tabCfg tabs) := hmemo_both c157_sound d27_sound (by kernel_rfl) tabs_lt h27_ok
def d28 : List HMemo := h27 :: d27
theorem d28_sound : ∀ m ∈ d28, m.Sound Tryz.prog 12 (tabCfg tabs) := hsound_cons h27_sound d27_sound
def o59 : Ob := .box [.slc 13 0 0 1 none 4, .ptr 14 0 0 67, .ptr 15 0 0 18, .ptr 16 0 0 8, .ptr 17 0 0 68, .ptr 18 0 0 36, .map 19, .bool false, .fn (.func 32) [.ptr 12 0 0 11] [], .int .i64 55, .int .i64 0] 95
def o60 : Ob := .box [.int .u32 1, .int .i32 0, .int .u32 0, .int .i64 0, .nils, .slc 23 0 0 1 none 4, .slc 24 0 0 1 none 1, .int .i64 1024, .ptr 25 0 0 1, .ptr 26 0 0 4, .int .i64 945, .int .u64 16, .int .u64 992, .int .i64 0, .int .i64 53, .nils, .int .i64 0, .int .i64 0] 138

def h28 : HMemo := ⟨13, [.ptr 12 0 0 11], 30, [⟨none, [0]⟩, ⟨some 12, [0]⟩, ⟨some 12, [1]⟩, ⟨some 12, [2]⟩, ⟨some 12, [3]⟩, ⟨some 12, [4]⟩, ⟨some 12, [5]⟩, ⟨some 12, [6]⟩, ⟨some 14, [0]⟩, ⟨some 14, [1]⟩, ⟨some 14, [2]⟩, ⟨some 15, [5]⟩, ⟨some 15, [6]⟩, ⟨some 15, [8]⟩, ⟨some 15, [9]⟩, ⟨some 22, [0]⟩, ⟨some 23, [3]⟩, ⟨some 25, [0]⟩], [(12, o59), (14, .box ([.slc 20 0 0 0 (some 0) 1, .slc 21 0 0 1 none 4, .slc 22 0 0 1 none 1] ++ (rpA 64 (.int .i64 0) [])) 157), (15, o60), (22, .arr [.map 27] 0 1 1 1 159), (23, .arr [.int .i64 0, .int .i64 3, .int .i64 4, .slc 28 0 0 20 none 6] 0 4 1 1 111), (25, .box [.slc 29 0 0 1024 (some 1024) 1] 260), (27, o6), (29, o56)], .int .i64 0, [(12, o57), (15, o58), (29, o56)], [12, 15, 29], 98⟩
set_option maxRecDepth 1000000 in
theorem h28_ok : h28.ok Tryz.prog { tabCfg tabs with hk := bothHk 12 (tabM c157) (tabH d28) } 100000 12 (tabSt 12 tabs) = true := by kernel_rfl
theorem h28_sound : h28.Sound Tryz.prog 12 (tabCfg tabs) := hmemo_both c157_sound d28_sound (by kernel_rfl) tabs_lt h28_ok
def d29 : List HMemo := h28 :: d28
theorem d29_sound : ∀ m ∈ d29, m.Sound Tryz.prog 12 (tabCfg tabs) := hsound_cons h28_sound d28_sound
end Go.Proofs.YtbbnjiceenjhcaaGreatDoor
