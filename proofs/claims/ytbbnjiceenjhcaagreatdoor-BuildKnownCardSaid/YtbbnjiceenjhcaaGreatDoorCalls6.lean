/-
  Calls whose outcome is known, each shown by the evaluator with the earlier ones and the tables at hand; part 6. No condition.
-/
import Derived.Test.YtbbnjiceenjhcaaGreatDoorCalls5
set_option linter.all false
namespace Go.Proofs.YtbbnjiceenjhcaaGreatDoor
open Go.Tw
def o122 : Ob := .box [.slc 13 0 0 1 none 4, .ptr 14 0 0 67, .ptr 15 0 0 18, .ptr 16 0 0 8, .ptr 17 0 0 68, .ptr 18 0 0 36, .map 19, .bool false, .fn (.func 32) [.ptr 12 0 0 11] [], .int .i64 29, .int .i64 0] 95
def o123 : Ob := .box [.int .u32 1, .int .i32 0, .int .u32 0, .int .i64 0, .nils, .slc 23 0 0 1 none 4, .slc 24 0 0 1 none 1, .int .i64 1024, .ptr 25 0 0 1, .ptr 26 0 0 4, .int .i64 971, .int .u64 16, .int .u64 992, .int .i64 0, .int .i64 61, .nils, .int .i64 0, .int .i64 0] 138
def o124 : Ob := .box (rpA 992 (.int .u8 0) ([.int .u8 248, .int .u8 3] ++ (rpA 6 (.int .u8 0) ([.int .u8 4] ++ (rpA 7 (.int .u8 0) ([.int .u8 3] ++ (rpA 7 (.int .u8 0) ([.int .u8 4] ++ (rpA 7 (.int .u8 0) []))))))))) 5

def h54 : HMemo := ⟨13, [.ptr 12 0 0 11], 30, [⟨none, [0]⟩, ⟨some 12, [0]⟩, ⟨some 12, [1]⟩, ⟨some 12, [2]⟩, ⟨some 12, [3]⟩, ⟨some 12, [4]⟩, ⟨some 12, [5]⟩, ⟨some 12, [6]⟩, ⟨some 14, [0]⟩, ⟨some 14, [1]⟩, ⟨some 14, [2]⟩, ⟨some 15, [5]⟩, ⟨some 15, [6]⟩, ⟨some 15, [8]⟩, ⟨some 15, [9]⟩, ⟨some 22, [0]⟩, ⟨some 23, [3]⟩, ⟨some 25, [0]⟩], [(12, o122), (14, .box ([.slc 20 0 0 0 (some 0) 1, .slc 21 0 0 1 none 4, .slc 22 0 0 1 none 1] ++ (rpA 64 (.int .i64 0) [])) 157), (15, o123), (22, .arr [.map 27] 0 1 1 1 159), (23, .arr [.int .i64 0, .int .i64 3, .int .i64 4, .slc 28 0 0 20 none 6] 0 4 1 1 111), (25, .box [.slc 29 0 0 1024 (some 1024) 1] 260), (27, o6), (29, o124)], .int .i64 0, [(12, o120), (15, o121), (29, o101)], [12, 15, 29], 87⟩
set_option maxRecDepth 1000000 in
theorem h54_ok : h54.ok Tryz.prog { tabCfg tabs with hk := bothHk 12 (tabM c157) (tabH d54) } 100000 12 (tabSt 12 tabs) = true := by kernel_rfl
theorem h54_sound : h54.Sound Tryz.prog 12 (tabCfg tabs) := hmemo_both c157_sound d54_sound (by kernel_rfl) tabs_lt h54_ok
def d55 : List HMemo := h54 :: d54
theorem d55_sound : ∀ m ∈ d55, m.Sound Tryz.prog 12 (tabCfg tabs) := hsound_cons h54_sound d54_sound
def o125 : Ob := .box [.slc 13 0 0 1 none 4, .ptr 14 0 0 67, .ptr 15 0 0 18, .ptr 16 0 0 8, .ptr 17 0 0 68, .ptr 18 0 0 36, .map 19, .bool false, .fn (.func 32) [.ptr 12 0 0 11] [], .int .i64 28, .int .i64 0] 95
def o126 : Ob := .box [.int .u32 1, .int .i32 0, .int .u32 0, .int .i64 0, .nils, .slc 23 0 0 1 none 4, .slc 24 0 0 1 none 1, .int .i64 1024, .ptr 25 0 0 1, .ptr 26 0 0 4, .int .i64 972, .int .u64 16, .int .u64 992, .int .i64 0, .int .i64 57, .nils, .int .i64 0, .int .i64 0] 138

def h55 : HMemo := ⟨13, [.ptr 12 0 0 11], 30, [⟨none, [0]⟩, ⟨some 12, [0]⟩, ⟨some 12, [1]⟩, ⟨some 12, [2]⟩, ⟨some 12, [3]⟩, ⟨some 12, [4]⟩, ⟨some 12, [5]⟩, ⟨some 12, [6]⟩, ⟨some 14, [0]⟩, ⟨some 14, [1]⟩, ⟨some 14, [2]⟩, ⟨some 15, [5]⟩, ⟨some 15, [6]⟩, ⟨some 15, [8]⟩, ⟨some 15, [9]⟩, ⟨some 22, [0]⟩, ⟨some 23, [3]⟩, ⟨some 25, [0]⟩], [(12, o125), (14, .box ([.slc 20 0 0 0 (some 0) 1, .slc 21 0 0 1 none 4, .slc 22 0 0 1 none 1] ++ (rpA 64 (.int .i64 0) [])) 157), (15, o126), (22, .arr [.map 27] 0 1 1 1 159), (23, .arr [.int .i64 0, .int .i64 3, .int .i64 4, .slc 28 0 0 20 none 6] 0 4 1 1 111), (25, .box [.slc 29 0 0 1024 (some 1024) 1] 260), (27, o6), (29, o124)], .int .i64 0, [(12, o122), (15, o123), (29, o124)], [12, 15, 29], 89⟩
set_option maxRecDepth 1000000 in
theorem h55_ok : h55.ok Tryz.prog { tabCfg tabs with hk := bothHk 12 (tabM c157) (tabH d55) } 100000 12 (tabSt 12 tabs) = true := by kernel_rfl
theorem h55_sound : h55.Sound Tryz.prog 12 (tabCfg tabs) := hmemo_both c157_sound d55_sound (by kernel_rfl) tabs_lt h55_ok
def d56 : List HMemo := h55 :: d55
theorem d56_sound : ∀ m ∈ d56, m.Sound Tryz.prog 12 (tabCfg tabs) := hsound_cons h55_sound d55_sound
def o127 : Ob := .box [.slc 13 0 0 1 none 4, .ptr 14 0 0 67, .ptr 15 0 0 18, .ptr 16 0 0 8, .ptr 17 0 0 68, .ptr 18 0 0 36, .map 19, .bool false, .fn (.func 32) [.ptr 12 0 0 11] [], .int .i64 27, .int .i64 0] 95
def o128 : Ob := .box [.int .u32 1, .int .i32 0, .int .u32 0, .int .i64 0, .nils, .slc 23 0 0 1 none 4, .slc 24 0 0 1 none 1, .int .i64 1024, .ptr 25 0 0 1, .ptr 26 0 0 4, .int .i64 973, .int .u64 16, .int .u64 992, .int .i64 0, .int .i64 53, .nils, .int .i64 0, .int .i64 0] 138
def o129 : Ob := .box (rpA 992 (.int .u8 0) ([.int .u8 248, .int .u8 3] ++ (rpA 6 (.int .u8 0) ([.int .u8 4] ++ (rpA 7 (.int .u8 0) ([.int .u8 1] ++ (rpA 7 (.int .u8 0) ([.int .u8 4] ++ (rpA 7 (.int .u8 0) []))))))))) 5

def h56 : HMemo := ⟨13, [.ptr 12 0 0 11], 30, [⟨none, [0]⟩, ⟨some 12, [0]⟩, ⟨some 12, [1]⟩, ⟨some 12, [2]⟩, ⟨some 12, [3]⟩, ⟨some 12, [4]⟩, ⟨some 12, [5]⟩, ⟨some 12, [6]⟩, ⟨some 14, [0]⟩, ⟨some 14, [1]⟩, ⟨some 14, [2]⟩, ⟨some 15, [5]⟩, ⟨some 15, [6]⟩, ⟨some 15, [8]⟩, ⟨some 15, [9]⟩, ⟨some 22, [0]⟩, ⟨some 23, [3]⟩, ⟨some 25, [0]⟩], [(12, o127), (14, .box ([.slc 20 0 0 0 (some 0) 1, .slc 21 0 0 1 none 4, .slc 22 0 0 1 none 1] ++ (rpA 64 (.int .i64 0) [])) 157), (15, o128), (22, .arr [.map 27] 0 1 1 1 159), (23, .arr [.int .i64 0, .int .i64 3, .int .i64 4, .slc 28 0 0 20 none 6] 0 4 1 1 111), (25, .box [.slc 29 0 0 1024 (some 1024) 1] 260), (27, o6), (29, o129)], .int .i64 0, [(12, o125), (15, o126), (29, o124)], [12, 15, 29], 98⟩
set_option maxRecDepth 1000000 in
theorem h56_ok : h56.ok Tryz.prog { tabCfg tabs with hk := bothHk 12 (tabM c157) (tabH d56) } 100000 12 (tabSt 12 tabs) = true := by kernel_rfl
theorem h56_sound : h56.Sound Tryz.prog 12 (tabCfg tabs) := hmemo_both c157_sound d56_sound (by kernel_rfl) tabs_lt h56_ok
def d57 : List HMemo := h56 :: d56
theorem d57_sound : ∀ m ∈ d57, m.Sound Tryz.prog 12 (tabCfg tabs) := hsound_cons h56_sound d56_sound
def o130 : Ob := .box [.slc 13 0 0 1 none 4, .ptr 14 0 0 67, .ptr 15 0 0 18, .ptr 16 0 0 8, .ptr 17 0 0 68, .ptr 18 0 0 36, .map 19, .bool false, .fn (.func 32) [.ptr 12 0 0 11] [], .int .i64 26, .int .i64 0] 95
def o131 : Ob := .box [.int .u32 1, .int .i32 0, .int .u32 0, .int .i64 0, .nils, .slc 23 0 0 1 none 4, .slc 24 0 0 1 none 1, .int .i64 1024, .ptr 25 0 0 1, .ptr 26 0 0 4, .int .i64 974, .int .u64 16, .int .u64 992, .int .i64 0, .int .i64 43, .nils, .int .i64 0, .int .i64 0] 138
def o132 : Ob := .box (rpA 992 (.int .u8 0) ([.int .u8 248, .int .u8 3] ++ (rpA 6 (.int .u8 0) ([.int .u8 4] ++ (rpA 7 (.int .u8 0) ([.int .u8 4] ++ (rpA 7 (.int .u8 0) ([.int .u8 4] ++ (rpA 7 (.int .u8 0) []))))))))) 5

def h57 : HMemo := ⟨13, [.ptr 12 0 0 11], 30, [⟨none, [0]⟩, ⟨some 12, [0]⟩, ⟨some 12, [1]⟩, ⟨some 12, [2]⟩, ⟨some 12, [3]⟩, ⟨some 12, [4]⟩, ⟨some 12, [5]⟩, ⟨some 12, [6]⟩, ⟨some 14, [0]⟩, ⟨some 14, [1]⟩, ⟨some 14, [2]⟩, ⟨some 15, [5]⟩, ⟨some 15, [6]⟩, ⟨some 15, [8]⟩, ⟨some 15, [9]⟩, ⟨some 22, [0]⟩, ⟨some 23, [3]⟩, ⟨some 25, [0]⟩], [(12, o130), (14, .box ([.slc 20 0 0 0 (some 0) 1, .slc 21 0 0 1 none 4, .slc 22 0 0 1 none 1] ++ (rpA 64 (.int .i64 0) [])) 157), (15, o131), (22, .arr [.map 27] 0 1 1 1 159), (23, .arr [.int .i64 0, .int .i64 3, .int .i64 4, .slc 28 0 0 20 none 6] 0 4 1 1 111), (25, .box [.slc 29 0 0 1024 (some 1024) 1] 260), (27, o6), (29, o132)], .int .i64 0, [(12, o127), (15, o128), (29, o129)], [12, 15, 29], 79⟩
set_option maxRecDepth 1000000 in
theorem h57_ok : h57.ok Tryz.prog { tabCfg tabs with hk := bothHk 12 (tabM c157) (tabH d57) } 100000 12 (tabSt 12 tabs) = true := by kernel_rfl
theorem h57_sound : h57.Sound Tryz.prog 12 (tabCfg tabs) := hmemo_both c157_sound d57_sound (by kernel_rfl) tabs_lt h57_ok
def d58 : List HMemo := h57 :: d57
theorem d58_sound : ∀ m ∈ d58, m.Sound Tryz.prog 12 (tabCfg tabs) := hsound_cons h57_sound d57_sound
def o133 : Ob := .box [.slc 13 0 0 1 none 4, .ptr 14 0 0 67, .ptr 15 0 0 18, .ptr 16 0 0 8, .ptr 17 0 0 68, .ptr 18 0 0 36, .map 19, .bool false, .fn (.func 32) [.ptr 12 0 0 11] [], .int .i64 25, .int .i64 0] 95
def o134 : Ob := .box [.int .u32 1, .int .i32 0, .int .u32 0, .int .i64 0, .nils, .slc 23 0 0 1 none 4, .slc 24 0 0 1 none 1, .int .i64 1024, .ptr 25 0 0 1, .ptr 26 0 0 4, .int .i64 975, .int .u64 16, .int .u64 992, .int .i64 0, .int .i64 39, .nils, .int .i64 0, .int .i64 0] 138
def o135 : Ob := .box (rpA 992 (.int .u8 0) ([.int .u8 248, .int .u8 3] ++ (rpA 6 (.int .u8 0) ([.int .u8 5] ++ (rpA 7 (.int .u8 0) ([.int .u8 4] ++ (rpA 7 (.int .u8 0) ([.int .u8 4] ++ (rpA 7 (.int .u8 0) []))))))))) 5

def h58 : HMemo := ⟨13, [.ptr 12 0 0 11], 30, [⟨none, [0]⟩, ⟨some 12, [0]⟩, ⟨some 12, [1]⟩, ⟨some 12, [2]⟩, ⟨some 12, [3]⟩, ⟨some 12, [4]⟩, ⟨some 12, [5]⟩, ⟨some 12, [6]⟩, ⟨some 14, [0]⟩, ⟨some 14, [1]⟩, ⟨some 14, [2]⟩, ⟨some 15, [5]⟩, ⟨some 15, [6]⟩, ⟨some 15, [8]⟩, ⟨some 15, [9]⟩, ⟨some 22, [0]⟩, ⟨some 23, [3]⟩, ⟨some 25, [0]⟩], [(12, o133), (14, .box ([.slc 20 0 0 0 (some 0) 1, .slc 21 0 0 1 none 4, .slc 22 0 0 1 none 1] ++ (rpA 64 (.int .i64 0) [])) 157), (15, o134), (22, .arr [.map 27] 0 1 1 1 159), (23, .arr [.int .i64 0, .int .i64 3, .int .i64 4, .slc 28 0 0 20 none 6] 0 4 1 1 111), (25, .box [.slc 29 0 0 1024 (some 1024) 1] 260), (27, o6), (29, o135)], .int .i64 0, [(12, o130), (15, o131), (29, o132)], [12, 15, 29], 91⟩
set_option maxRecDepth 1000000 in
theorem h58_ok : h58.ok Tryz.prog { tabCfg tabs with hk := bothHk 12 (tabM c157) (tabH d58) } 100000 12 (tabSt 12 tabs) = true := by kernel_rfl
theorem h58_sound : h58.Sound Tryz.prog 12 (tabCfg tabs) := hmemo_both c157_sound d58_sound (by kernel_rfl) tabs_lt h58_ok
def d59 : List HMemo := h58 :: d58
theorem d59_sound : ∀ m ∈ d59, m.Sound Tryz.prog 12 (tabCfg tabs) := hsound_cons h58_sound d58_sound
def o136 : Ob := .box [.slc 13 0 0 1 none 4, .ptr 14 0 0 67, .ptr 15 0 0 18, .ptr 16 0 0 8, .ptr 17 0 0 68, .ptr 18 0 0 36, .map 19, .bool false, .fn (.func 32) [.ptr 12 0 0 11] [], .int .i64 24, .int .i64 0] 95
def o137 : Ob := .box [.int .u32 1, .int .i32 0, .int .u32 0, .int .i64 0, .nils, .slc 23 0 0 1 none 4, .slc 24 0 0 1 none 1, .int .i64 1024, .ptr 25 0 0 1, .ptr 26 0 0 4, .int .i64 976, .int .u64 16, .int .u64 992, .int .i64 0, .int .i64 35, .nils, .int .i64 0, .int .i64 0] 138
def o138 : Ob := .box (rpA 992 (.int .u8 0) ([.int .u8 4] ++ (rpA 7 (.int .u8 0) ([.int .u8 5] ++ (rpA 7 (.int .u8 0) ([.int .u8 4] ++ (rpA 7 (.int .u8 0) ([.int .u8 4] ++ (rpA 7 (.int .u8 0) []))))))))) 5

def h59 : HMemo := ⟨13, [.ptr 12 0 0 11], 31, [⟨none, [0]⟩, ⟨some 12, [0]⟩, ⟨some 12, [1]⟩, ⟨some 12, [2]⟩, ⟨some 12, [3]⟩, ⟨some 12, [4]⟩, ⟨some 12, [5]⟩, ⟨some 12, [6]⟩, ⟨some 14, [0]⟩, ⟨some 14, [1]⟩, ⟨some 14, [2]⟩, ⟨some 15, [5]⟩, ⟨some 15, [6]⟩, ⟨some 15, [8]⟩, ⟨some 15, [9]⟩, ⟨some 21, [3]⟩, ⟨some 22, [0]⟩, ⟨some 23, [3]⟩, ⟨some 25, [0]⟩], [(12, o136), (14, .box ([.slc 20 0 0 0 (some 0) 1, .slc 21 0 0 1 none 4, .slc 22 0 0 1 none 1] ++ (rpA 64 (.int .i64 0) [])) 157), (15, o137), (21, .arr [.int .i64 0, .int .i64 3, .int .i64 4, .slc 27 19 0 20 none 6] 0 4 1 1 111), (22, .arr [.map 28] 0 1 1 1 159), (23, .arr [.int .i64 0, .int .i64 3, .int .i64 4, .slc 29 0 0 20 none 6] 0 4 1 1 111), (25, .box [.slc 30 0 0 1024 (some 1024) 1] 260), (28, o6), (30, o138)], .int .i64 0, [(12, o133), (15, o134), (30, o135)], [12, 15, 30], 80⟩
set_option maxRecDepth 1000000 in
theorem h59_ok : h59.ok Tryz.prog { tabCfg tabs with hk := bothHk 12 (tabM c157) (tabH d59) } 100000 12 (tabSt 12 tabs) = true := by kernel_rfl
theorem h59_sound : h59.Sound Tryz.prog 12 (tabCfg tabs) := hmemo_both c157_sound d59_sound (by kernel_rfl) tabs_lt h59_ok
def d60 : List HMemo := h59 :: d59
theorem d60_sound : ∀ m ∈ d60, m.Sound Tryz.prog 12 (tabCfg tabs) := hsound_cons h59_sound d59_sound
def o139 : Ob := .box [.slc 13 0 0 1 none 4, .ptr 14 0 0 67, .ptr 15 0 0 18, .ptr 16 0 0 8, .ptr 17 0 0 68, .ptr 18 0 0 36, .map 19, .bool false, .fn (.func 32) [.ptr 12 0 0 11] [], .int .i64 23, .int .i64 0] 95
def o140 : Ob := .box [.int .u32 1, .int .i32 0, .int .u32 0, .int .i64 0, .nils, .slc 23 0 0 1 none 4, .slc 24 0 0 1 none 1, .int .i64 1024, .ptr 25 0 0 1, .ptr 26 0 0 4, .int .i64 977, .int .u64 16, .int .u64 992, .int .i64 0, .int .i64 33, .nils, .int .i64 0, .int .i64 0] 138

def h60 : HMemo := ⟨13, [.ptr 12 0 0 11], 32, [⟨none, [0]⟩, ⟨some 12, [0]⟩, ⟨some 12, [1]⟩, ⟨some 12, [2]⟩, ⟨some 12, [3]⟩, ⟨some 12, [4]⟩, ⟨some 12, [5]⟩, ⟨some 12, [6]⟩, ⟨some 14, [0]⟩, ⟨some 14, [1]⟩, ⟨some 14, [2]⟩, ⟨some 15, [5]⟩, ⟨some 15, [6]⟩, ⟨some 15, [8]⟩, ⟨some 15, [9]⟩, ⟨some 22, [0]⟩, ⟨some 23, [3]⟩, ⟨some 25, [0]⟩, ⟨some 26, [1]⟩, ⟨some 26, [3]⟩], [(12, o139), (14, .box ([.slc 20 0 0 0 (some 0) 1, .slc 21 0 0 1 none 4, .slc 22 0 0 1 none 1] ++ (rpA 64 (.int .i64 0) [])) 157), (15, o140), (22, .arr [.map 27] 0 1 1 1 159), (23, .arr [.int .i64 0, .int .i64 3, .int .i64 4, .slc 28 0 0 20 none 6] 0 4 1 1 111), (25, .box [.slc 29 0 0 1024 (some 1024) 1] 260), (26, .box [.bool true, .slc 30 0 0 1 none 1, .int .i64 1, .slc 31 1 0 2 none 2] 194), (27, o6), (29, o138), (31, .arr [.int .i64 1, .int .i64 5, .int .i64 2, .int .i64 5] 0 2 1 2 142)], .int .i64 0, [(12, o136), (15, o137), (26, .box [.bool true, .slc 30 0 0 1 none 1, .int .i64 1, .slc 31 2 0 3 none 2] 194), (31, .arr [.int .i64 1, .int .i64 5, .int .i64 2, .int .i64 5, .int .i64 2, .int .i64 4] 0 2 1 3 142)], [12, 15, 26, 31], 76⟩
set_option maxRecDepth 1000000 in
theorem h60_ok : h60.ok Tryz.prog { tabCfg tabs with hk := bothHk 12 (tabM c157) (tabH d60) } 100000 12 (tabSt 12 tabs) = true := by kernel_rfl
theorem h60_sound : h60.Sound Tryz.prog 12 (tabCfg tabs) := hmemo_both c157_sound d60_sound (by kernel_rfl) tabs_lt h60_ok
def d61 : List HMemo := h60 :: d60
theorem d61_sound : ∀ m ∈ d61, m.Sound Tryz.prog 12 (tabCfg tabs) := hsound_cons h60_sound d60_sound
def o141 : Ob := .box [.slc 13 0 0 1 none 4, .ptr 14 0 0 67, .ptr 15 0 0 18, .ptr 16 0 0 8, .ptr 17 0 0 68, .ptr 18 0 0 36, .map 19, .bool false, .fn (.func 32) [.ptr 12 0 0 11] [], .int .i64 22, .int .i64 0] 95
def o142 : Ob := .box [.int .u32 1, .int .i32 0, .int .u32 0, .int .i64 0, .nils, .slc 23 0 0 1 none 4, .slc 24 0 0 1 none 1, .int .i64 1024, .ptr 25 0 0 1, .ptr 26 0 0 4, .int .i64 978, .int .u64 16, .int .u64 992, .int .i64 0, .int .i64 29, .nils, .int .i64 0, .int .i64 0] 138

def h61 : HMemo := ⟨13, [.ptr 12 0 0 11], 30, [⟨none, [0]⟩, ⟨some 12, [0]⟩, ⟨some 12, [1]⟩, ⟨some 12, [2]⟩, ⟨some 12, [3]⟩, ⟨some 12, [4]⟩, ⟨some 12, [5]⟩, ⟨some 12, [6]⟩, ⟨some 14, [0]⟩, ⟨some 14, [1]⟩, ⟨some 14, [2]⟩, ⟨some 15, [5]⟩, ⟨some 15, [6]⟩, ⟨some 15, [8]⟩, ⟨some 15, [9]⟩, ⟨some 22, [0]⟩, ⟨some 23, [3]⟩, ⟨some 25, [0]⟩], [(12, o141), (14, .box ([.slc 20 0 0 0 (some 0) 1, .slc 21 0 0 1 none 4, .slc 22 0 0 1 none 1] ++ (rpA 64 (.int .i64 0) [])) 157), (15, o142), (22, .arr [.map 27] 0 1 1 1 159), (23, .arr [.int .i64 0, .int .i64 3, .int .i64 4, .slc 28 0 0 20 none 6] 0 4 1 1 111), (25, .box [.slc 29 0 0 1024 (some 1024) 1] 260), (27, o6), (29, o135)], .int .i64 0, [(12, o139), (15, o140), (29, o138)], [12, 15, 29], 91⟩
set_option maxRecDepth 1000000 in
theorem h61_ok : h61.ok Tryz.prog { tabCfg tabs with hk := bothHk 12 (tabM c157) (tabH d61) } 100000 12 (tabSt 12 tabs) = true := by kernel_rfl
theorem h61_sound : h61.Sound Tryz.prog 12 (tabCfg tabs) := hmemo_both c157_sound d61_sound (by kernel_rfl) tabs_lt h61_ok
def d62 : List HMemo := h61 :: d61
theorem d62_sound : ∀ m ∈ d62, m.Sound Tryz.prog 12 (tabCfg tabs) := hsound_cons h61_sound d61_sound
def o143 : Ob := .box [.slc 13 0 0 1 none 4, .ptr 14 0 0 67, .ptr 15 0 0 18, .ptr 16 0 0 8, .ptr 17 0 0 68, .ptr 18 0 0 36, .map 19, .bool false, .fn (.func 32) [.ptr 12 0 0 11] [], .int .i64 21, .int .i64 0] 95
def o144 : Ob := .box [.int .u32 1, .int .i32 0, .int .u32 0, .int .i64 0, .nils, .slc 23 0 0 1 none 4, .slc 24 0 0 1 none 1, .int .i64 1024, .ptr 25 0 0 1, .ptr 26 0 0 4, .int .i64 979, .int .u64 16, .int .u64 992, .int .i64 0, .int .i64 25, .nils, .int .i64 0, .int .i64 0] 138

def h62 : HMemo := ⟨13, [.ptr 12 0 0 11], 31, [⟨none, [0]⟩, ⟨some 12, [0]⟩, ⟨some 12, [1]⟩, ⟨some 12, [2]⟩, ⟨some 12, [3]⟩, ⟨some 12, [4]⟩, ⟨some 12, [5]⟩, ⟨some 12, [6]⟩, ⟨some 14, [0]⟩, ⟨some 14, [1]⟩, ⟨some 14, [2]⟩, ⟨some 15, [5]⟩, ⟨some 15, [6]⟩, ⟨some 15, [8]⟩, ⟨some 15, [9]⟩, ⟨some 21, [3]⟩, ⟨some 22, [0]⟩, ⟨some 23, [3]⟩, ⟨some 25, [0]⟩], [(12, o143), (14, .box ([.slc 20 0 0 0 (some 0) 1, .slc 21 0 0 1 none 4, .slc 22 0 0 1 none 1] ++ (rpA 64 (.int .i64 0) [])) 157), (15, o144), (21, .arr [.int .i64 0, .int .i64 3, .int .i64 4, .slc 27 19 0 20 none 6] 0 4 1 1 111), (22, .arr [.map 28] 0 1 1 1 159), (23, .arr [.int .i64 0, .int .i64 3, .int .i64 4, .slc 29 0 0 20 none 6] 0 4 1 1 111), (25, .box [.slc 30 0 0 1024 (some 1024) 1] 260), (28, o6), (30, o138)], .int .i64 0, [(12, o141), (15, o142), (30, o135)], [12, 15, 30], 80⟩
set_option maxRecDepth 1000000 in
theorem h62_ok : h62.ok Tryz.prog { tabCfg tabs with hk := bothHk 12 (tabM c157) (tabH d62) } 100000 12 (tabSt 12 tabs) = true := by kernel_rfl
theorem h62_sound : h62.Sound Tryz.prog 12 (tabCfg tabs) := hmemo_both c157_sound d62_sound (by kernel_rfl) tabs_lt h62_ok
def d63 : List HMemo := h62 :: d62
theorem d63_sound : ∀ m ∈ d63, m.Sound Tryz.prog 12 (tabCfg tabs) := hsound_cons h62_sound d62_sound
def o145 : Ob := .box [.slc 13 0 0 1 none 4, .ptr 14 0 0 67, .ptr 15 0 0 18, .ptr 16 0 0 8, .ptr 17 0 0 68, .ptr 18 0 0 36, .map 19, .bool false, .fn (.func 32) [.ptr 12 0 0 11] [], .int .i64 20, .int .i64 0] 95
def o146 : Ob := .box [.int .u32 1, .int .i32 0, .int .u32 0, .int .i64 0, .nils, .slc 23 0 0 1 none 4, .slc 24 0 0 1 none 1, .int .i64 1024, .ptr 25 0 0 1, .ptr 26 0 0 4, .int .i64 980, .int .u64 16, .int .u64 992, .int .i64 0, .int .i64 21, .nils, .int .i64 0, .int .i64 0] 138

def h63 : HMemo := ⟨13, [.ptr 12 0 0 11], 30, [⟨none, [0]⟩, ⟨some 12, [0]⟩, ⟨some 12, [1]⟩, ⟨some 12, [2]⟩, ⟨some 12, [3]⟩, ⟨some 12, [4]⟩, ⟨some 12, [5]⟩, ⟨some 12, [6]⟩, ⟨some 14, [0]⟩, ⟨some 14, [1]⟩, ⟨some 14, [2]⟩, ⟨some 15, [5]⟩, ⟨some 15, [6]⟩, ⟨some 15, [8]⟩, ⟨some 15, [9]⟩, ⟨some 22, [0]⟩, ⟨some 23, [3]⟩, ⟨some 25, [0]⟩], [(12, o145), (14, .box ([.slc 20 0 0 0 (some 0) 1, .slc 21 0 0 1 none 4, .slc 22 0 0 1 none 1] ++ (rpA 64 (.int .i64 0) [])) 157), (15, o146), (22, .arr [.map 27] 0 1 1 1 159), (23, .arr [.int .i64 0, .int .i64 3, .int .i64 4, .slc 28 0 0 20 none 6] 0 4 1 1 111), (25, .box [.slc 29 0 0 1024 (some 1024) 1] 260), (27, o6), (29, o138)], .int .i64 0, [(12, o143), (15, o144)], [12, 15], 72⟩
set_option maxRecDepth 1000000 in
theorem h63_ok : h63.ok Tryz.prog { tabCfg tabs with hk := bothHk 12 (tabM c157) (tabH d63) } 100000 12 (tabSt 12 tabs) = true := by kernel_rfl
theorem h63_sound : h63.Sound Tryz.prog 12 (tabCfg tabs) := hmemo_both c157_sound d63_sound (by kernel_rfl) tabs_lt h63_ok
def d64 : List HMemo := h63 :: d63
theorem d64_sound : ∀ m ∈ d64, m.Sound Tryz.prog 12 (tabCfg tabs) := hsound_cons h63_sound d63_sound
def o147 : Ob := .box [.slc 13 0 0 1 none 4, .ptr 14 0 0 67, .ptr 15 0 0 18, .ptr 16 0 0 8, .ptr 17 0 0 68, .ptr 18 0 0 36, .map 19, .bool false, .fn (.func 32) [.ptr 12 0 0 11] [], .int .i64 19, .int .i64 0] 95
def o148 : Ob := .box [.int .u32 1, .int .i32 0, .int .u32 0, .int .i64 0, .nils, .slc 23 0 0 1 none 4, .slc 24 0 0 1 none 1, .int .i64 1024, .ptr 25 0 0 1, .ptr 26 0 0 4, .int .i64 981, .int .u64 16, .int .u64 992, .int .i64 0, .int .i64 17, .nils, .int .i64 0, .int .i64 0] 138

def h64 : HMemo := ⟨13, [.ptr 12 0 0 11], 30, [⟨none, [0]⟩, ⟨some 12, [0]⟩, ⟨some 12, [1]⟩, ⟨some 12, [2]⟩, ⟨some 12, [3]⟩, ⟨some 12, [4]⟩, ⟨some 12, [5]⟩, ⟨some 12, [6]⟩, ⟨some 14, [0]⟩, ⟨some 14, [1]⟩, ⟨some 14, [2]⟩, ⟨some 15, [5]⟩, ⟨some 15, [6]⟩, ⟨some 15, [8]⟩, ⟨some 15, [9]⟩, ⟨some 22, [0]⟩, ⟨some 23, [3]⟩, ⟨some 25, [0]⟩], [(12, o147), (14, .box ([.slc 20 0 0 0 (some 0) 1, .slc 21 0 0 1 none 4, .slc 22 0 0 1 none 1] ++ (rpA 64 (.int .i64 0) [])) 157), (15, o148), (22, .arr [.map 27] 0 1 1 1 159), (23, .arr [.int .i64 0, .int .i64 3, .int .i64 4, .slc 28 0 0 20 none 6] 0 4 1 1 111), (25, .box [.slc 29 0 0 1024 (some 1024) 1] 260), (27, o6), (29, o135)], .int .i64 0, [(12, o145), (15, o146), (29, o138)], [12, 15, 29], 91⟩
set_option maxRecDepth 1000000 in
theorem h64_ok : h64.ok Tryz.prog { tabCfg tabs with hk := bothHk 12 (tabM c157) (tabH d64) } 100000 12 (tabSt 12 tabs) = true := by kernel_rfl
theorem h64_sound : h64.Sound Tryz.prog 12 (tabCfg tabs) := hmemo_both c157_sound d64_sound (by kernel_rfl) tabs_lt h64_ok
def d65 : List HMemo := h64 :: d64
theorem d65_sound : ∀ m ∈ d65, m.Sound Tryz.prog 12 (tabCfg tabs) := hsound_cons h64_sound d64_sound
def o149 : Ob := .box [.slc 13 0 0 1 none 4, .ptr 14 0 0 67, .ptr 15 0 0 18, .ptr 16 0 0 8, .ptr 17 0 0 68, .ptr 18 0 0 36, .map 19, .bool false, .fn (.func 32) [.ptr 12 0 0 11] [], .int .i64 18, .int .i64 0] 95
def o150 : Ob := .box [.int .u32 1, .int .i32 0, .int .u32 0, .int .i64 0, .nils, .slc 23 0 0 1 none 4, .slc 24 0 0 1 none 1, .int .i64 1024, .ptr 25 0 0 1, .ptr 26 0 0 4, .int .i64 982, .int .u64 16, .int .u64 992, .int .i64 0, .int .i64 13, .nils, .int .i64 0, .int .i64 0] 138
def o151 : Ob := .box (rpA 992 (.int .u8 0) ([.int .u8 5] ++ (rpA 7 (.int .u8 0) ([.int .u8 5] ++ (rpA 7 (.int .u8 0) ([.int .u8 4] ++ (rpA 7 (.int .u8 0) ([.int .u8 4] ++ (rpA 7 (.int .u8 0) []))))))))) 5

def h65 : HMemo := ⟨13, [.ptr 12 0 0 11], 31, [⟨none, [0]⟩, ⟨some 12, [0]⟩, ⟨some 12, [1]⟩, ⟨some 12, [2]⟩, ⟨some 12, [3]⟩, ⟨some 12, [4]⟩, ⟨some 12, [5]⟩, ⟨some 12, [6]⟩, ⟨some 14, [0]⟩, ⟨some 14, [1]⟩, ⟨some 14, [2]⟩, ⟨some 15, [5]⟩, ⟨some 15, [6]⟩, ⟨some 15, [8]⟩, ⟨some 15, [9]⟩, ⟨some 21, [3]⟩, ⟨some 22, [0]⟩, ⟨some 23, [3]⟩, ⟨some 25, [0]⟩], [(12, o149), (14, .box ([.slc 20 0 0 0 (some 0) 1, .slc 21 0 0 1 none 4, .slc 22 0 0 1 none 1] ++ (rpA 64 (.int .i64 0) [])) 157), (15, o150), (21, .arr [.int .i64 0, .int .i64 3, .int .i64 4, .slc 27 19 0 20 none 6] 0 4 1 1 111), (22, .arr [.map 28] 0 1 1 1 159), (23, .arr [.int .i64 0, .int .i64 3, .int .i64 4, .slc 29 0 0 20 none 6] 0 4 1 1 111), (25, .box [.slc 30 0 0 1024 (some 1024) 1] 260), (28, o6), (30, o151)], .int .i64 0, [(12, o147), (15, o148), (30, o135)], [12, 15, 30], 80⟩
set_option maxRecDepth 1000000 in
theorem h65_ok : h65.ok Tryz.prog { tabCfg tabs with hk := bothHk 12 (tabM c157) (tabH d65) } 100000 12 (tabSt 12 tabs) = true := by kernel_rfl
theorem h65_sound : h65.Sound Tryz.prog 12 (tabCfg tabs) := hmemo_both c157_sound d65_sound (by kernel_rfl) tabs_lt h65_ok
def d66 : List HMemo := h65 :: d65
theorem d66_sound : ∀ m ∈ d66, m.Sound Tryz.prog 12 (tabCfg tabs) := hsound_cons h65_sound d65_sound
def o152 : Ob := .box [.slc 13 0 0 1 none 4, .ptr 14 0 0 67, .ptr 15 0 0 18, .ptr 16 0 0 8, .ptr 17 0 0 68, .ptr 18 0 0 36, .map 19, .bool false, .fn (.func 32) [.ptr 12 0 0 11] [], .int .i64 17, .int .i64 0] 95
def o153 : Ob := .box [.int .u32 1, .int .i32 0, .int .u32 0, .int .i64 0, .nils, .slc 23 0 0 1 none 4, .slc 24 0 0 1 none 1, .int .i64 1024, .ptr 25 0 0 1, .ptr 26 0 0 4, .int .i64 983, .int .u64 16, .int .u64 992, .int .i64 0, .int .i64 68, .nils, .int .i64 0, .int .i64 0] 138

def h66 : HMemo := ⟨13, [.ptr 12 0 0 11], 28, [⟨none, [0]⟩, ⟨some 12, [0]⟩, ⟨some 12, [1]⟩, ⟨some 12, [2]⟩, ⟨some 12, [3]⟩, ⟨some 12, [4]⟩, ⟨some 12, [5]⟩, ⟨some 12, [6]⟩, ⟨some 14, [0]⟩, ⟨some 14, [1]⟩, ⟨some 14, [2]⟩, ⟨some 15, [5]⟩, ⟨some 15, [6]⟩, ⟨some 15, [8]⟩, ⟨some 15, [9]⟩, ⟨some 22, [0]⟩], [(12, o152), (14, .box ([.slc 20 0 0 0 (some 0) 1, .slc 21 0 0 1 none 4, .slc 22 0 0 1 none 1] ++ (rpA 64 (.int .i64 0) [])) 157), (15, o153), (22, .arr [.map 27] 0 1 1 1 159), (27, o6)], .int .i64 0, [(12, o149), (15, o150)], [12, 15], 58⟩
set_option maxRecDepth 1000000 in
theorem h66_ok : h66.ok Tryz.prog { tabCfg tabs with hk := bothHk 12 (tabM c157) (tabH d66) } 100000 12 (tabSt 12 tabs) = true := by kernel_rfl
theorem h66_sound : h66.Sound Tryz.prog 12 (tabCfg tabs) := hmemo_both c157_sound d66_sound (by kernel_rfl) tabs_lt h66_ok
def d67 : List HMemo := h66 :: d66
theorem d67_sound : ∀ m ∈ d67, m.Sound Tryz.prog 12 (tabCfg tabs) := hsound_cons h66_sound d66_sound
def o154 : Ob := .box [.slc 13 0 0 1 none 4, .ptr 14 0 0 67, .ptr 15 0 0 18, .ptr 16 0 0 8, .ptr 17 0 0 68, .ptr 18 0 0 36, .map 19, .bool false, .fn (.func 32) [.ptr 12 0 0 11] [], .int .i64 16, .int .i64 0] 95
def o155 : Ob := .box [.int .u32 1, .int .i32 0, .int .u32 0, .int .i64 0, .nils, .slc 23 0 0 1 none 4, .slc 24 0 0 1 none 1, .int .i64 1024, .ptr 25 0 0 1, .ptr 26 0 0 4, .int .i64 984, .int .u64 16, .int .u64 992, .int .i64 0, .int .i64 65, .nils, .int .i64 0, .int .i64 0] 138

def h67 : HMemo := ⟨13, [.ptr 12 0 0 11], 30, [⟨none, [0]⟩, ⟨some 12, [0]⟩, ⟨some 12, [1]⟩, ⟨some 12, [2]⟩, ⟨some 12, [3]⟩, ⟨some 12, [4]⟩, ⟨some 12, [5]⟩, ⟨some 12, [6]⟩, ⟨some 14, [0]⟩, ⟨some 14, [1]⟩, ⟨some 14, [2]⟩, ⟨some 15, [5]⟩, ⟨some 15, [6]⟩, ⟨some 15, [8]⟩, ⟨some 15, [9]⟩, ⟨some 22, [0]⟩, ⟨some 23, [3]⟩, ⟨some 25, [0]⟩], [(12, o154), (14, .box ([.slc 20 0 0 0 (some 0) 1, .slc 21 0 0 1 none 4, .slc 22 0 0 1 none 1] ++ (rpA 64 (.int .i64 0) [])) 157), (15, o155), (22, .arr [.map 27] 0 1 1 1 159), (23, .arr [.int .i64 0, .int .i64 3, .int .i64 4, .slc 28 0 0 20 none 6] 0 4 1 1 111), (25, .box [.slc 29 0 0 1024 (some 1024) 1] 260), (27, o6), (29, o135)], .int .i64 0, [(12, o152), (15, o153), (29, o151)], [12, 15, 29], 88⟩
set_option maxRecDepth 1000000 in
theorem h67_ok : h67.ok Tryz.prog { tabCfg tabs with hk := bothHk 12 (tabM c157) (tabH d67) } 100000 12 (tabSt 12 tabs) = true := by kernel_rfl
theorem h67_sound : h67.Sound Tryz.prog 12 (tabCfg tabs) := hmemo_both c157_sound d67_sound (by kernel_rfl) tabs_lt h67_ok
def d68 : List HMemo := h67 :: d67
theorem d68_sound : ∀ m ∈ d68, m.Sound Tryz.prog 12 (tabCfg tabs) := hsound_cons h67_sound d67_sound
def o156 : Ob := .box [.slc 13 0 0 1 none 4, .ptr 14 0 0 67, .ptr 15 0 0 18, .ptr 16 0 0 8, .ptr 17 0 0 68, .ptr 18 0 0 36, .map 19, .bool false, .fn (.func 32) [.ptr 12 0 0 11] [], .int .i64 15, .int .i64 0] 95
def o157 : Ob := .box [.int .u32 1, .int .i32 0, .int .u32 0, .int .i64 0, .nils, .slc 23 0 0 1 none 4, .slc 24 0 0 1 none 1, .int .i64 1024, .ptr 25 0 0 1, .ptr 26 0 0 4, .int .i64 985, .int .u64 16, .int .u64 992, .int .i64 0, .int .i64 61, .nils, .int .i64 0, .int .i64 0] 138
def o158 : Ob := .box (rpA 992 (.int .u8 0) ([.int .u8 248, .int .u8 3] ++ (rpA 6 (.int .u8 0) ([.int .u8 5] ++ (rpA 7 (.int .u8 0) ([.int .u8 4] ++ (rpA 7 (.int .u8 0) ([.int .u8 5] ++ (rpA 7 (.int .u8 0) []))))))))) 5

def h68 : HMemo := ⟨13, [.ptr 12 0 0 11], 30, [⟨none, [0]⟩, ⟨some 12, [0]⟩, ⟨some 12, [1]⟩, ⟨some 12, [2]⟩, ⟨some 12, [3]⟩, ⟨some 12, [4]⟩, ⟨some 12, [5]⟩, ⟨some 12, [6]⟩, ⟨some 14, [0]⟩, ⟨some 14, [1]⟩, ⟨some 14, [2]⟩, ⟨some 15, [5]⟩, ⟨some 15, [6]⟩, ⟨some 15, [8]⟩, ⟨some 15, [9]⟩, ⟨some 22, [0]⟩, ⟨some 23, [3]⟩, ⟨some 25, [0]⟩], [(12, o156), (14, .box ([.slc 20 0 0 0 (some 0) 1, .slc 21 0 0 1 none 4, .slc 22 0 0 1 none 1] ++ (rpA 64 (.int .i64 0) [])) 157), (15, o157), (22, .arr [.map 27] 0 1 1 1 159), (23, .arr [.int .i64 0, .int .i64 3, .int .i64 4, .slc 28 0 0 20 none 6] 0 4 1 1 111), (25, .box [.slc 29 0 0 1024 (some 1024) 1] 260), (27, o6), (29, o158)], .int .i64 0, [(12, o154), (15, o155), (29, o135)], [12, 15, 29], 87⟩
set_option maxRecDepth 1000000 in
theorem h68_ok : h68.ok Tryz.prog { tabCfg tabs with hk := bothHk 12 (tabM c157) (tabH d68) } 100000 12 (tabSt 12 tabs) = true := by kernel_rfl
theorem h68_sound : h68.Sound Tryz.prog 12 (tabCfg tabs) := hmemo_both c157_sound d68_sound (by kernel_rfl) tabs_lt h68_ok
def d69 : List HMemo := h68 :: d68
theorem d69_sound : ∀ m ∈ d69, m.Sound Tryz.prog 12 (tabCfg tabs) := hsound_cons h68_sound d68_sound
def o159 : Ob := .box [.slc 13 0 0 1 none 4, .ptr 14 0 0 67, .ptr 15 0 0 18, .ptr 16 0 0 8, .ptr 17 0 0 68, .ptr 18 0 0 36, .map 19, .bool false, .fn (.func 32) [.ptr 12 0 0 11] [], .int .i64 14, .int .i64 0] 95
def o160 : Ob := .box [.int .u32 1, .int .i32 0, .int .u32 0, .int .i64 0, .nils, .slc 23 0 0 1 none 4, .slc 24 0 0 1 none 1, .int .i64 1024, .ptr 25 0 0 1, .ptr 26 0 0 4, .int .i64 986, .int .u64 16, .int .u64 992, .int .i64 0, .int .i64 57, .nils, .int .i64 0, .int .i64 0] 138

def h69 : HMemo := ⟨13, [.ptr 12 0 0 11], 30, [⟨none, [0]⟩, ⟨some 12, [0]⟩, ⟨some 12, [1]⟩, ⟨some 12, [2]⟩, ⟨some 12, [3]⟩, ⟨some 12, [4]⟩, ⟨some 12, [5]⟩, ⟨some 12, [6]⟩, ⟨some 14, [0]⟩, ⟨some 14, [1]⟩, ⟨some 14, [2]⟩, ⟨some 15, [5]⟩, ⟨some 15, [6]⟩, ⟨some 15, [8]⟩, ⟨some 15, [9]⟩, ⟨some 22, [0]⟩, ⟨some 23, [3]⟩, ⟨some 25, [0]⟩], [(12, o159), (14, .box ([.slc 20 0 0 0 (some 0) 1, .slc 21 0 0 1 none 4, .slc 22 0 0 1 none 1] ++ (rpA 64 (.int .i64 0) [])) 157), (15, o160), (22, .arr [.map 27] 0 1 1 1 159), (23, .arr [.int .i64 0, .int .i64 3, .int .i64 4, .slc 28 0 0 20 none 6] 0 4 1 1 111), (25, .box [.slc 29 0 0 1024 (some 1024) 1] 260), (27, o6), (29, o158)], .int .i64 0, [(12, o156), (15, o157), (29, o158)], [12, 15, 29], 89⟩
set_option maxRecDepth 1000000 in
theorem h69_ok : h69.ok Tryz.prog { tabCfg tabs with hk := bothHk 12 (tabM c157) (tabH d69) } 100000 12 (tabSt 12 tabs) = true := by kernel_rfl
theorem h69_sound : h69.Sound Tryz.prog 12 (tabCfg tabs) := hmemo_both c157_sound d69_sound (by kernel_rfl) tabs_lt h69_ok
def d70 : List HMemo := h69 :: d69
theorem d70_sound : ∀ m ∈ d70, m.Sound Tryz.prog 12 (tabCfg tabs) := hsound_cons h69_sound d69_sound
def o161 : Ob := .box [.slc 13 0 0 1 none 4, .ptr 14 0 0 67, .ptr 15 0 0 18, .ptr 16 0 0 8, .ptr 17 0 0 68, .ptr 18 0 0 36, .map 19, .bool false, .fn (.func 32) [.ptr 12 0 0 11] [], .int .i64 13, .int .i64 0] 95
def o162 : Ob := .box [.int .u32 1, .int .i32 0, .int .u32 0, .int .i64 0, .nils, .slc 23 0 0 1 none 4, .slc 24 0 0 1 none 1, .int .i64 1024, .ptr 25 0 0 1, .ptr 26 0 0 4, .int .i64 987, .int .u64 16, .int .u64 992, .int .i64 0, .int .i64 53, .nils, .int .i64 0, .int .i64 0] 138
def o163 : Ob := .box (rpA 992 (.int .u8 0) ([.int .u8 248, .int .u8 3] ++ (rpA 6 (.int .u8 0) ([.int .u8 5] ++ (rpA 7 (.int .u8 0) ([.int .u8 1] ++ (rpA 7 (.int .u8 0) ([.int .u8 5] ++ (rpA 7 (.int .u8 0) []))))))))) 5

def h70 : HMemo := ⟨13, [.ptr 12 0 0 11], 30, [⟨none, [0]⟩, ⟨some 12, [0]⟩, ⟨some 12, [1]⟩, ⟨some 12, [2]⟩, ⟨some 12, [3]⟩, ⟨some 12, [4]⟩, ⟨some 12, [5]⟩, ⟨some 12, [6]⟩, ⟨some 14, [0]⟩, ⟨some 14, [1]⟩, ⟨some 14, [2]⟩, ⟨some 15, [5]⟩, ⟨some 15, [6]⟩, ⟨some 15, [8]⟩, ⟨some 15, [9]⟩, ⟨some 22, [0]⟩, ⟨some 23, [3]⟩, ⟨some 25, [0]⟩], [(12, o161), (14, .box ([.slc 20 0 0 0 (some 0) 1, .slc 21 0 0 1 none 4, .slc 22 0 0 1 none 1] ++ (rpA 64 (.int .i64 0) [])) 157), (15, o162), (22, .arr [.map 27] 0 1 1 1 159), (23, .arr [.int .i64 0, .int .i64 3, .int .i64 4, .slc 28 0 0 20 none 6] 0 4 1 1 111), (25, .box [.slc 29 0 0 1024 (some 1024) 1] 260), (27, o6), (29, o163)], .int .i64 0, [(12, o159), (15, o160), (29, o158)], [12, 15, 29], 98⟩
set_option maxRecDepth 1000000 in
theorem h70_ok : h70.ok Tryz.prog { tabCfg tabs with hk := bothHk 12 (tabM c157) (tabH d70) } 100000 12 (tabSt 12 tabs) = true := by kernel_rfl
theorem h70_sound : h70.Sound Tryz.prog 12 (tabCfg tabs) := hmemo_both c157_sound d70_sound (by kernel_rfl) tabs_lt h70_ok
def d71 : List HMemo := h70 :: d70
theorem d71_sound : ∀ m ∈ d71, m.Sound Tryz.prog 12 (tabCfg tabs) := hsound_cons h70_sound d70_sound
def o164 : Ob := .box [.slc 13 0 0 1 none 4, .ptr 14 0 0 67, .ptr 15 0 0 18, .ptr 16 0 0 8, .ptr 17 0 0 68, .ptr 18 0 0 36, .map 19, .bool false, .fn (.func 32) [.ptr 12 0 0 11] [], .int .i64 12, .int .i64 0] 95
def o165 : Ob := .box [.int .u32 1, .int .i32 0, .int .u32 0, .int .i64 0, .nils, .slc 23 0 0 1 none 4, .slc 24 0 0 1 none 1, .int .i64 1024, .ptr 25 0 0 1, .ptr 26 0 0 4, .int .i64 988, .int .u64 16, .int .u64 992, .int .i64 0, .int .i64 43, .nils, .int .i64 0, .int .i64 0] 138
def o166 : Ob := .box (rpA 992 (.int .u8 0) ([.int .u8 248, .int .u8 3] ++ (rpA 6 (.int .u8 0) ([.int .u8 5] ++ (rpA 15 (.int .u8 0) ([.int .u8 5] ++ (rpA 7 (.int .u8 0) []))))))) 5

def h71 : HMemo := ⟨13, [.ptr 12 0 0 11], 30, [⟨none, [0]⟩, ⟨some 12, [0]⟩, ⟨some 12, [1]⟩, ⟨some 12, [2]⟩, ⟨some 12, [3]⟩, ⟨some 12, [4]⟩, ⟨some 12, [5]⟩, ⟨some 12, [6]⟩, ⟨some 14, [0]⟩, ⟨some 14, [1]⟩, ⟨some 14, [2]⟩, ⟨some 15, [5]⟩, ⟨some 15, [6]⟩, ⟨some 15, [8]⟩, ⟨some 15, [9]⟩, ⟨some 22, [0]⟩, ⟨some 23, [3]⟩, ⟨some 25, [0]⟩], [(12, o164), (14, .box ([.slc 20 0 0 0 (some 0) 1, .slc 21 0 0 1 none 4, .slc 22 0 0 1 none 1] ++ (rpA 64 (.int .i64 0) [])) 157), (15, o165), (22, .arr [.map 27] 0 1 1 1 159), (23, .arr [.int .i64 0, .int .i64 3, .int .i64 4, .slc 28 0 0 20 none 6] 0 4 1 1 111), (25, .box [.slc 29 0 0 1024 (some 1024) 1] 260), (27, o6), (29, o166)], .int .i64 0, [(12, o161), (15, o162), (29, o163)], [12, 15, 29], 79⟩
set_option maxRecDepth 1000000 in
theorem h71_ok : h71.ok Tryz.prog { tabCfg tabs with hk := bothHk 12 (tabM c157) (tabH d71) } 100000 12 (tabSt 12 tabs) = true := by kernel_rfl
theorem h71_sound : h71.Sound Tryz.prog 12 (tabCfg tabs) := hmemo_both c157_sound d71_sound (by kernel_rfl) tabs_lt h71_ok
def d72 : List HMemo := h71 :: d71
theorem d72_sound : ∀ m ∈ d72, m.Sound Tryz.prog 12 (tabCfg tabs) := hsound_cons h71_sound d71_sound
def o167 : Ob := .box [.slc 13 0 0 1 none 4, .ptr 14 0 0 67, .ptr 15 0 0 18, .ptr 16 0 0 8, .ptr 17 0 0 68, .ptr 18 0 0 36, .map 19, .bool false, .fn (.func 32) [.ptr 12 0 0 11] [], .int .i64 11, .int .i64 0] 95
def o168 : Ob := .box [.int .u32 1, .int .i32 0, .int .u32 0, .int .i64 0, .nils, .slc 23 0 0 1 none 4, .slc 24 0 0 1 none 1, .int .i64 1024, .ptr 25 0 0 1, .ptr 26 0 0 4, .int .i64 989, .int .u64 16, .int .u64 992, .int .i64 0, .int .i64 39, .nils, .int .i64 0, .int .i64 0] 138

def h72 : HMemo := ⟨13, [.ptr 12 0 0 11], 30, [⟨none, [0]⟩, ⟨some 12, [0]⟩, ⟨some 12, [1]⟩, ⟨some 12, [2]⟩, ⟨some 12, [3]⟩, ⟨some 12, [4]⟩, ⟨some 12, [5]⟩, ⟨some 12, [6]⟩, ⟨some 14, [0]⟩, ⟨some 14, [1]⟩, ⟨some 14, [2]⟩, ⟨some 15, [5]⟩, ⟨some 15, [6]⟩, ⟨some 15, [8]⟩, ⟨some 15, [9]⟩, ⟨some 22, [0]⟩, ⟨some 23, [3]⟩, ⟨some 25, [0]⟩], [(12, o167), (14, .box ([.slc 20 0 0 0 (some 0) 1, .slc 21 0 0 1 none 4, .slc 22 0 0 1 none 1] ++ (rpA 64 (.int .i64 0) [])) 157), (15, o168), (22, .arr [.map 27] 0 1 1 1 159), (23, .arr [.int .i64 0, .int .i64 3, .int .i64 4, .slc 28 0 0 20 none 6] 0 4 1 1 111), (25, .box [.slc 29 0 0 1024 (some 1024) 1] 260), (27, o6), (29, o166)], .int .i64 0, [(12, o164), (15, o165), (29, o166)], [12, 15, 29], 91⟩
set_option maxRecDepth 1000000 in
theorem h72_ok : h72.ok Tryz.prog { tabCfg tabs with hk := bothHk 12 (tabM c157) (tabH d72) } 100000 12 (tabSt 12 tabs) = true := by kernel_rfl
theorem h72_sound : h72.Sound Tryz.prog 12 (tabCfg tabs) := hmemo_both c157_sound d72_sound (by kernel_rfl) tabs_lt h72_ok
def d73 : List HMemo := h72 :: d72
theorem d73_sound : ∀ m ∈ d73, m.Sound Tryz.prog 12 (tabCfg tabs) := hsound_cons h72_sound d72_sound
def o169 : Ob := .box [.slc 13 0 0 1 none 4, .ptr 14 0 0 67, .ptr 15 0 0 18, .ptr 16 0 0 8, .ptr 17 0 0 68, .ptr 18 0 0 36, .map 19, .bool false, .fn (.func 32) [.ptr 12 0 0 11] [], .int .i64 10, .int .i64 0] 95
def o170 : Ob := .box [.int .u32 1, .int .i32 0, .int .u32 0, .int .i64 0, .nils, .slc 23 0 0 1 none 4, .slc 24 0 0 1 none 1, .int .i64 1024, .ptr 25 0 0 1, .ptr 26 0 0 4, .int .i64 990, .int .u64 16, .int .u64 992, .int .i64 0, .int .i64 35, .nils, .int .i64 0, .int .i64 0] 138
def o171 : Ob := .box (rpA 992 (.int .u8 0) ([.int .u8 5] ++ (rpA 7 (.int .u8 0) ([.int .u8 5] ++ (rpA 15 (.int .u8 0) ([.int .u8 5] ++ (rpA 7 (.int .u8 0) []))))))) 5

def h73 : HMemo := ⟨13, [.ptr 12 0 0 11], 31, [⟨none, [0]⟩, ⟨some 12, [0]⟩, ⟨some 12, [1]⟩, ⟨some 12, [2]⟩, ⟨some 12, [3]⟩, ⟨some 12, [4]⟩, ⟨some 12, [5]⟩, ⟨some 12, [6]⟩, ⟨some 14, [0]⟩, ⟨some 14, [1]⟩, ⟨some 14, [2]⟩, ⟨some 15, [5]⟩, ⟨some 15, [6]⟩, ⟨some 15, [8]⟩, ⟨some 15, [9]⟩, ⟨some 21, [3]⟩, ⟨some 22, [0]⟩, ⟨some 23, [3]⟩, ⟨some 25, [0]⟩], [(12, o169), (14, .box ([.slc 20 0 0 0 (some 0) 1, .slc 21 0 0 1 none 4, .slc 22 0 0 1 none 1] ++ (rpA 64 (.int .i64 0) [])) 157), (15, o170), (21, .arr [.int .i64 0, .int .i64 3, .int .i64 4, .slc 27 19 0 20 none 6] 0 4 1 1 111), (22, .arr [.map 28] 0 1 1 1 159), (23, .arr [.int .i64 0, .int .i64 3, .int .i64 4, .slc 29 0 0 20 none 6] 0 4 1 1 111), (25, .box [.slc 30 0 0 1024 (some 1024) 1] 260), (28, o6), (30, o171)], .int .i64 0, [(12, o167), (15, o168), (30, o166)], [12, 15, 30], 80⟩
set_option maxRecDepth 1000000 in
theorem h73_ok : h73.ok Tryz.prog { tabCfg tabs with hk := bothHk 12 (tabM c157) (tabH d73) } 100000 12 (tabSt 12 tabs) = true := by kernel_rfl
theorem h73_sound : h73.Sound Tryz.prog 12 (tabCfg tabs) := hmemo_both c157_sound d73_sound (by kernel_rfl) tabs_lt h73_ok
def d74 : List HMemo := h73 :: d73
theorem d74_sound : ∀ m ∈ d74, m.Sound Tryz.prog 12 (tabCfg tabs) := hsound_cons h73_sound d73_sound
def o172 : Ob := .box [.slc 13 0 0 1 none 4, .ptr 14 0 0 67, .ptr 15 0 0 18, .ptr 16 0 0 8, .ptr 17 0 0 68, .ptr 18 0 0 36, .map 19, .bool false, .fn (.func 32) [.ptr 12 0 0 11] [], .int .i64 9, .int .i64 0] 95
def o173 : Ob := .box [.int .u32 1, .int .i32 0, .int .u32 0, .int .i64 0, .nils, .slc 23 0 0 1 none 4, .slc 24 0 0 1 none 1, .int .i64 1024, .ptr 25 0 0 1, .ptr 26 0 0 4, .int .i64 991, .int .u64 16, .int .u64 992, .int .i64 0, .int .i64 33, .nils, .int .i64 0, .int .i64 0] 138

def h74 : HMemo := ⟨13, [.ptr 12 0 0 11], 32, [⟨none, [0]⟩, ⟨some 12, [0]⟩, ⟨some 12, [1]⟩, ⟨some 12, [2]⟩, ⟨some 12, [3]⟩, ⟨some 12, [4]⟩, ⟨some 12, [5]⟩, ⟨some 12, [6]⟩, ⟨some 14, [0]⟩, ⟨some 14, [1]⟩, ⟨some 14, [2]⟩, ⟨some 15, [5]⟩, ⟨some 15, [6]⟩, ⟨some 15, [8]⟩, ⟨some 15, [9]⟩, ⟨some 22, [0]⟩, ⟨some 23, [3]⟩, ⟨some 25, [0]⟩, ⟨some 26, [1]⟩, ⟨some 26, [3]⟩], [(12, o172), (14, .box ([.slc 20 0 0 0 (some 0) 1, .slc 21 0 0 1 none 4, .slc 22 0 0 1 none 1] ++ (rpA 64 (.int .i64 0) [])) 157), (15, o173), (22, .arr [.map 27] 0 1 1 1 159), (23, .arr [.int .i64 0, .int .i64 3, .int .i64 4, .slc 28 0 0 20 none 6] 0 4 1 1 111), (25, .box [.slc 29 0 0 1024 (some 1024) 1] 260), (26, .box [.bool true, .slc 30 0 0 1 none 1, .int .i64 1, .slc 31 0 0 1 none 2] 194), (27, o6), (29, o171), (31, .arr [.int .i64 1, .int .i64 5] 0 2 1 1 142)], .int .i64 0, [(12, o169), (15, o170), (26, .box [.bool true, .slc 30 0 0 1 none 1, .int .i64 1, .slc 31 1 0 2 none 2] 194), (31, .arr [.int .i64 1, .int .i64 5, .int .i64 2, .int .i64 5] 0 2 1 2 142)], [12, 15, 26, 31], 76⟩
set_option maxRecDepth 1000000 in
theorem h74_ok : h74.ok Tryz.prog { tabCfg tabs with hk := bothHk 12 (tabM c157) (tabH d74) } 100000 12 (tabSt 12 tabs) = true := by kernel_rfl
theorem h74_sound : h74.Sound Tryz.prog 12 (tabCfg tabs) := hmemo_both c157_sound d74_sound (by kernel_rfl) tabs_lt h74_ok
def d75 : List HMemo := h74 :: d74
theorem d75_sound : ∀ m ∈ d75, m.Sound Tryz.prog 12 (tabCfg tabs) := hsound_cons h74_sound d74_sound
def o174 : Ob := .box [.slc 13 0 0 1 none 4, .ptr 14 0 0 67, .ptr 15 0 0 18, .ptr 16 0 0 8, .ptr 17 0 0 68, .ptr 18 0 0 36, .map 19, .bool false, .fn (.func 32) [.ptr 12 0 0 11] [], .int .i64 8, .int .i64 0] 95
def o175 : Ob := .box [.int .u32 1, .int .i32 0, .int .u32 0, .int .i64 0, .nils, .slc 23 0 0 1 none 4, .slc 24 0 0 1 none 1, .int .i64 1024, .ptr 25 0 0 1, .ptr 26 0 0 4, .int .i64 992, .int .u64 16, .int .u64 992, .int .i64 0, .int .i64 29, .nils, .int .i64 0, .int .i64 0] 138

def h75 : HMemo := ⟨13, [.ptr 12 0 0 11], 30, [⟨none, [0]⟩, ⟨some 12, [0]⟩, ⟨some 12, [1]⟩, ⟨some 12, [2]⟩, ⟨some 12, [3]⟩, ⟨some 12, [4]⟩, ⟨some 12, [5]⟩, ⟨some 12, [6]⟩, ⟨some 14, [0]⟩, ⟨some 14, [1]⟩, ⟨some 14, [2]⟩, ⟨some 15, [5]⟩, ⟨some 15, [6]⟩, ⟨some 15, [8]⟩, ⟨some 15, [9]⟩, ⟨some 22, [0]⟩, ⟨some 23, [3]⟩, ⟨some 25, [0]⟩], [(12, o174), (14, .box ([.slc 20 0 0 0 (some 0) 1, .slc 21 0 0 1 none 4, .slc 22 0 0 1 none 1] ++ (rpA 64 (.int .i64 0) [])) 157), (15, o175), (22, .arr [.map 27] 0 1 1 1 159), (23, .arr [.int .i64 0, .int .i64 3, .int .i64 4, .slc 28 0 0 20 none 6] 0 4 1 1 111), (25, .box [.slc 29 0 0 1024 (some 1024) 1] 260), (27, o6), (29, o166)], .int .i64 0, [(12, o172), (15, o173), (29, o171)], [12, 15, 29], 91⟩
set_option maxRecDepth 1000000 in
theorem h75_ok : h75.ok Tryz.prog { tabCfg tabs with hk := bothHk 12 (tabM c157) (tabH d75) } 100000 12 (tabSt 12 tabs) = true := by kernel_rfl
theorem h75_sound : h75.Sound Tryz.prog 12 (tabCfg tabs) := hmemo_both c157_sound d75_sound (by kernel_rfl) tabs_lt h75_ok
def d76 : List HMemo := h75 :: d75
theorem d76_sound : ∀ m ∈ d76, m.Sound Tryz.prog 12 (tabCfg tabs) := hsound_cons h75_sound d75_sound
def o176 : Ob := .box [.slc 13 0 0 1 none 4, .ptr 14 0 0 67, .ptr 15 0 0 18, .ptr 16 0 0 8, .ptr 17 0 0 68, .ptr 18 0 0 36, .map 19, .bool false, .fn (.func 32) [.ptr 12 0 0 11] [], .int .i64 7, .int .i64 0] 95
def o177 : Ob := .box [.int .u32 1, .int .i32 0, .int .u32 0, .int .i64 0, .nils, .slc 23 0 0 1 none 4, .slc 24 0 0 1 none 1, .int .i64 1024, .ptr 25 0 0 1, .ptr 26 0 0 4, .int .i64 993, .int .u64 16, .int .u64 992, .int .i64 0, .int .i64 25, .nils, .int .i64 0, .int .i64 0] 138

def h76 : HMemo := ⟨13, [.ptr 12 0 0 11], 31, [⟨none, [0]⟩, ⟨some 12, [0]⟩, ⟨some 12, [1]⟩, ⟨some 12, [2]⟩, ⟨some 12, [3]⟩, ⟨some 12, [4]⟩, ⟨some 12, [5]⟩, ⟨some 12, [6]⟩, ⟨some 14, [0]⟩, ⟨some 14, [1]⟩, ⟨some 14, [2]⟩, ⟨some 15, [5]⟩, ⟨some 15, [6]⟩, ⟨some 15, [8]⟩, ⟨some 15, [9]⟩, ⟨some 21, [3]⟩, ⟨some 22, [0]⟩, ⟨some 23, [3]⟩, ⟨some 25, [0]⟩], [(12, o176), (14, .box ([.slc 20 0 0 0 (some 0) 1, .slc 21 0 0 1 none 4, .slc 22 0 0 1 none 1] ++ (rpA 64 (.int .i64 0) [])) 157), (15, o177), (21, .arr [.int .i64 0, .int .i64 3, .int .i64 4, .slc 27 19 0 20 none 6] 0 4 1 1 111), (22, .arr [.map 28] 0 1 1 1 159), (23, .arr [.int .i64 0, .int .i64 3, .int .i64 4, .slc 29 0 0 20 none 6] 0 4 1 1 111), (25, .box [.slc 30 0 0 1024 (some 1024) 1] 260), (28, o6), (30, o171)], .int .i64 0, [(12, o174), (15, o175), (30, o166)], [12, 15, 30], 80⟩
set_option maxRecDepth 1000000 in
theorem h76_ok : h76.ok Tryz.prog { tabCfg tabs with hk := bothHk 12 (tabM c157) (tabH d76) } 100000 12 (tabSt 12 tabs) = true := by kernel_rfl
theorem h76_sound : h76.Sound Tryz.prog 12 (tabCfg tabs) := hmemo_both c157_sound d76_sound (by kernel_rfl) tabs_lt h76_ok
def d77 : List HMemo := h76 :: d76
theorem d77_sound : ∀ m ∈ d77, m.Sound Tryz.prog 12 (tabCfg tabs) := hsound_cons h76_sound d76_sound
def o178 : Ob := .box [.slc 13 0 0 1 none 4, .ptr 14 0 0 67, .ptr 15 0 0 18, .ptr 16 0 0 8, .ptr 17 0 0 68, .ptr 18 0 0 36, .map 19, .bool false, .fn (.func 32) [.ptr 12 0 0 11] [], .int .i64 6, .int .i64 0] 95
def o179 : Ob := .box [.int .u32 1, .int .i32 0, .int .u32 0, .int .i64 0, .nils, .slc 23 0 0 1 none 4, .slc 24 0 0 1 none 1, .int .i64 1024, .ptr 25 0 0 1, .ptr 26 0 0 4, .int .i64 994, .int .u64 16, .int .u64 992, .int .i64 0, .int .i64 21, .nils, .int .i64 0, .int .i64 0] 138

def h77 : HMemo := ⟨13, [.ptr 12 0 0 11], 30, [⟨none, [0]⟩, ⟨some 12, [0]⟩, ⟨some 12, [1]⟩, ⟨some 12, [2]⟩, ⟨some 12, [3]⟩, ⟨some 12, [4]⟩, ⟨some 12, [5]⟩, ⟨some 12, [6]⟩, ⟨some 14, [0]⟩, ⟨some 14, [1]⟩, ⟨some 14, [2]⟩, ⟨some 15, [5]⟩, ⟨some 15, [6]⟩, ⟨some 15, [8]⟩, ⟨some 15, [9]⟩, ⟨some 22, [0]⟩, ⟨some 23, [3]⟩, ⟨some 25, [0]⟩], [(12, o178), (14, .box ([.slc 20 0 0 0 (some 0) 1, .slc 21 0 0 1 none 4, .slc 22 0 0 1 none 1] ++ (rpA 64 (.int .i64 0) [])) 157), (15, o179), (22, .arr [.map 27] 0 1 1 1 159), (23, .arr [.int .i64 0, .int .i64 3, .int .i64 4, .slc 28 0 0 20 none 6] 0 4 1 1 111), (25, .box [.slc 29 0 0 1024 (some 1024) 1] 260), (27, o6), (29, o171)], .int .i64 0, [(12, o176), (15, o177)], [12, 15], 72⟩
set_option maxRecDepth 1000000 in
theorem h77_ok : h77.ok Tryz.prog { tabCfg tabs with hk := bothHk 12 (tabM c157) (tabH d77) } 100000 12 (tabSt 12 tabs) = true := by kernel_rfl
theorem h77_sound : h77.Sound Tryz.prog 12 (tabCfg tabs) := hmemo_both c157_sound d77_sound (by kernel_rfl) tabs_lt h77_ok
def d78 : List HMemo := h77 :: d77
theorem d78_sound : ∀ m ∈ d78, m.Sound Tryz.prog 12 (tabCfg tabs) := hsound_cons h77_sound d77_sound
def o180 : Ob := .box [.slc 13 0 0 1 none 4, .ptr 14 0 0 67, .ptr 15 0 0 18, .ptr 16 0 0 8, .ptr 17 0 0 68, .ptr 18 0 0 36, .map 19, .bool false, .fn (.func 32) [.ptr 12 0 0 11] [], .int .i64 5, .int .i64 0] 95
def o181 : Ob := .box [.int .u32 1, .int .i32 0, .int .u32 0, .int .i64 0, .nils, .slc 23 0 0 1 none 4, .slc 24 0 0 1 none 1, .int .i64 1024, .ptr 25 0 0 1, .ptr 26 0 0 4, .int .i64 995, .int .u64 16, .int .u64 992, .int .i64 0, .int .i64 17, .nils, .int .i64 0, .int .i64 0] 138

def h78 : HMemo := ⟨13, [.ptr 12 0 0 11], 30, [⟨none, [0]⟩, ⟨some 12, [0]⟩, ⟨some 12, [1]⟩, ⟨some 12, [2]⟩, ⟨some 12, [3]⟩, ⟨some 12, [4]⟩, ⟨some 12, [5]⟩, ⟨some 12, [6]⟩, ⟨some 14, [0]⟩, ⟨some 14, [1]⟩, ⟨some 14, [2]⟩, ⟨some 15, [5]⟩, ⟨some 15, [6]⟩, ⟨some 15, [8]⟩, ⟨some 15, [9]⟩, ⟨some 22, [0]⟩, ⟨some 23, [3]⟩, ⟨some 25, [0]⟩], [(12, o180), (14, .box ([.slc 20 0 0 0 (some 0) 1, .slc 21 0 0 1 none 4, .slc 22 0 0 1 none 1] ++ (rpA 64 (.int .i64 0) [])) 157), (15, o181), (22, .arr [.map 27] 0 1 1 1 159), (23, .arr [.int .i64 0, .int .i64 3, .int .i64 4, .slc 28 0 0 20 none 6] 0 4 1 1 111), (25, .box [.slc 29 0 0 1024 (some 1024) 1] 260), (27, o6), (29, o166)], .int .i64 0, [(12, o178), (15, o179), (29, o171)], [12, 15, 29], 91⟩
set_option maxRecDepth 1000000 in
theorem h78_ok : h78.ok Tryz.prog { tabCfg tabs with hk := bothHk 12 (tabM c157) (tabH d78) } 100000 12 (tabSt 12 tabs) = true := by kernel_rfl
theorem h78_sound : h78.Sound Tryz.prog 12 (tabCfg tabs) := hmemo_both c157_sound d78_sound (by kernel_rfl) tabs_lt h78_ok
def d79 : List HMemo := h78 :: d78
theorem d79_sound : ∀ m ∈ d79, m.Sound Tryz.prog 12 (tabCfg tabs) := hsound_cons h78_sound d78_sound
end Go.Proofs.YtbbnjiceenjhcaaGreatDoor
