/-
  Calls whose outcome is known, each shown by the evaluator with the earlier ones and the tables at hand; part 5. No condition.
-/
import Derived.Test.YtbbnjiceenjhcaaGreatDoorCalls4
set_option linter.all false
namespace Go.Proofs.YtbbnjiceenjhcaaGreatDoor
open Go.Tw
def o61 : Ob := .box [.slc 13 0 0 1 none 4, .ptr 14 0 0 67, .ptr 15 0 0 18, .ptr 16 0 0 8, .ptr 17 0 0 68, .ptr 18 0 0 36, .map 19, .bool false, .fn (.func 32) [.ptr 12 0 0 11] [], .int .i64 54, .int .i64 0] 95
def o62 : Ob := .box [.int .u32 1, .int .i32 0, .int .u32 0, .int .i64 0, .nils, .slc 23 0 0 1 none 4, .slc 24 0 0 1 none 1, .int .i64 1024, .ptr 25 0 0 1, .ptr 26 0 0 4, .int .i64 946, .int .u64 16, .int .u64 992, .int .i64 0, .int .i64 43, .nils, .int .i64 0, .int .i64 0] 138
def o63 : Ob := .box (rpA 992 (.int .u8 0) ([.int .u8 248, .int .u8 3] ++ (rpA 6 (.int .u8 0) ([.int .u8 2] ++ (rpA 7 (.int .u8 0) ([.int .u8 2] ++ (rpA 7 (.int .u8 0) ([.int .u8 2] ++ (rpA 7 (.int .u8 0) []))))))))) 5

def h29 : HMemo := ⟨13, [.ptr 12 0 0 11], 30, [⟨none, [0]⟩, ⟨some 12, [0]⟩, ⟨some 12, [1]⟩, ⟨some 12, [2]⟩, ⟨some 12, [3]⟩, ⟨some 12, [4]⟩, ⟨some 12, [5]⟩, ⟨some 12, [6]⟩, ⟨some 14, [0]⟩, ⟨some 14, [1]⟩, ⟨some 14, [2]⟩, ⟨some 15, [5]⟩, ⟨some 15, [6]⟩, ⟨some 15, [8]⟩, ⟨some 15, [9]⟩, ⟨some 22, [0]⟩, ⟨some 23, [3]⟩, ⟨some 25, [0]⟩], [(12, o61), (14, .box ([.slc 20 0 0 0 (some 0) 1, .slc 21 0 0 1 none 4, .slc 22 0 0 1 none 1] ++ (rpA 64 (.int .i64 0) [])) 157), (15, o62), (22, .arr [.map 27] 0 1 1 1 159), (23, .arr [.int .i64 0, .int .i64 3, .int .i64 4, .slc 28 0 0 20 none 6] 0 4 1 1 111), (25, .box [.slc 29 0 0 1024 (some 1024) 1] 260), (27, o6), (29, o63)], .int .i64 0, [(12, o59), (15, o60), (29, o56)], [12, 15, 29], 79⟩
set_option maxRecDepth 1000000 in
theorem h29_ok : h29.ok Tryz.prog { tabCfg tabs with hk := bothHk 12 (tabM c157) (tabH d29) } 100000 12 (tabSt 12 tabs) = true := by kernel_rfl
theorem h29_sound : h29.Sound Tryz.prog 12 (tabCfg tabs) := hmemo_both c157_sound d29_sound (by kernel_rfl) tabs_lt h29_ok
def d30 : List HMemo := h29 :: d29
theorem d30_sound : ∀ m ∈ d30, m.Sound Tryz.prog 12 (tabCfg tabs) := hsound_cons h29_sound d29_sound
def o64 : Ob := .box [.slc 13 0 0 1 none 4, .ptr 14 0 0 67, .ptr 15 0 0 18, .ptr 16 0 0 8, .ptr 17 0 0 68, .ptr 18 0 0 36, .map 19, .bool false, .fn (.func 32) [.ptr 12 0 0 11] [], .int .i64 53, .int .i64 0] 95
def o65 : Ob := .box [.int .u32 1, .int .i32 0, .int .u32 0, .int .i64 0, .nils, .slc 23 0 0 1 none 4, .slc 24 0 0 1 none 1, .int .i64 1024, .ptr 25 0 0 1, .ptr 26 0 0 4, .int .i64 947, .int .u64 16, .int .u64 992, .int .i64 0, .int .i64 39, .nils, .int .i64 0, .int .i64 0] 138
def o66 : Ob := .box (rpA 992 (.int .u8 0) ([.int .u8 248, .int .u8 3] ++ (rpA 6 (.int .u8 0) ([.int .u8 3] ++ (rpA 7 (.int .u8 0) ([.int .u8 2] ++ (rpA 7 (.int .u8 0) ([.int .u8 2] ++ (rpA 7 (.int .u8 0) []))))))))) 5

def h30 : HMemo := ⟨13, [.ptr 12 0 0 11], 30, [⟨none, [0]⟩, ⟨some 12, [0]⟩, ⟨some 12, [1]⟩, ⟨some 12, [2]⟩, ⟨some 12, [3]⟩, ⟨some 12, [4]⟩, ⟨some 12, [5]⟩, ⟨some 12, [6]⟩, ⟨some 14, [0]⟩, ⟨some 14, [1]⟩, ⟨some 14, [2]⟩, ⟨some 15, [5]⟩, ⟨some 15, [6]⟩, ⟨some 15, [8]⟩, ⟨some 15, [9]⟩, ⟨some 22, [0]⟩, ⟨some 23, [3]⟩, ⟨some 25, [0]⟩], [(12, o64), (14, .box ([.slc 20 0 0 0 (some 0) 1, .slc 21 0 0 1 none 4, .slc 22 0 0 1 none 1] ++ (rpA 64 (.int .i64 0) [])) 157), (15, o65), (22, .arr [.map 27] 0 1 1 1 159), (23, .arr [.int .i64 0, .int .i64 3, .int .i64 4, .slc 28 0 0 20 none 6] 0 4 1 1 111), (25, .box [.slc 29 0 0 1024 (some 1024) 1] 260), (27, o6), (29, o66)], .int .i64 0, [(12, o61), (15, o62), (29, o63)], [12, 15, 29], 91⟩
set_option maxRecDepth 1000000 in
theorem h30_ok : h30.ok Tryz.prog { tabCfg tabs with hk := bothHk 12 (tabM c157) (tabH d30) } 100000 12 (tabSt 12 tabs) = true := by kernel_rfl
theorem h30_sound : h30.Sound Tryz.prog 12 (tabCfg tabs) := hmemo_both c157_sound d30_sound (by kernel_rfl) tabs_lt h30_ok
def d31 : List HMemo := h30 :: d30
theorem d31_sound : ∀ m ∈ d31, m.Sound Tryz.prog 12 (tabCfg tabs) := hsound_cons h30_sound d30_sound
def o67 : Ob := .box [.slc 13 0 0 1 none 4, .ptr 14 0 0 67, .ptr 15 0 0 18, .ptr 16 0 0 8, .ptr 17 0 0 68, .ptr 18 0 0 36, .map 19, .bool false, .fn (.func 32) [.ptr 12 0 0 11] [], .int .i64 52, .int .i64 0] 95
def o68 : Ob := .box [.int .u32 1, .int .i32 0, .int .u32 0, .int .i64 0, .nils, .slc 23 0 0 1 none 4, .slc 24 0 0 1 none 1, .int .i64 1024, .ptr 25 0 0 1, .ptr 26 0 0 4, .int .i64 948, .int .u64 16, .int .u64 992, .int .i64 0, .int .i64 35, .nils, .int .i64 0, .int .i64 0] 138
def o69 : Ob := .box (rpA 992 (.int .u8 0) ([.int .u8 2] ++ (rpA 7 (.int .u8 0) ([.int .u8 3] ++ (rpA 7 (.int .u8 0) ([.int .u8 2] ++ (rpA 7 (.int .u8 0) ([.int .u8 2] ++ (rpA 7 (.int .u8 0) []))))))))) 5

def h31 : HMemo := ⟨13, [.ptr 12 0 0 11], 31, [⟨none, [0]⟩, ⟨some 12, [0]⟩, ⟨some 12, [1]⟩, ⟨some 12, [2]⟩, ⟨some 12, [3]⟩, ⟨some 12, [4]⟩, ⟨some 12, [5]⟩, ⟨some 12, [6]⟩, ⟨some 14, [0]⟩, ⟨some 14, [1]⟩, ⟨some 14, [2]⟩, ⟨some 15, [5]⟩, ⟨some 15, [6]⟩, ⟨some 15, [8]⟩, ⟨some 15, [9]⟩, ⟨some 21, [3]⟩, ⟨some 22, [0]⟩, ⟨some 23, [3]⟩, ⟨some 25, [0]⟩], [(12, o67), (14, .box ([.slc 20 0 0 0 (some 0) 1, .slc 21 0 0 1 none 4, .slc 22 0 0 1 none 1] ++ (rpA 64 (.int .i64 0) [])) 157), (15, o68), (21, .arr [.int .i64 0, .int .i64 3, .int .i64 4, .slc 27 19 0 20 none 6] 0 4 1 1 111), (22, .arr [.map 28] 0 1 1 1 159), (23, .arr [.int .i64 0, .int .i64 3, .int .i64 4, .slc 29 0 0 20 none 6] 0 4 1 1 111), (25, .box [.slc 30 0 0 1024 (some 1024) 1] 260), (28, o6), (30, o69)], .int .i64 0, [(12, o64), (15, o65), (30, o66)], [12, 15, 30], 80⟩
set_option maxRecDepth 1000000 in
theorem h31_ok : h31.ok Tryz.prog { tabCfg tabs with hk := bothHk 12 (tabM c157) (tabH d31) } 100000 12 (tabSt 12 tabs) = true := by kernel_rfl
theorem h31_sound : h31.Sound Tryz.prog 12 (tabCfg tabs) := hmemo_both c157_sound d31_sound (by kernel_rfl) tabs_lt h31_ok
def d32 : List HMemo := h31 :: d31
theorem d32_sound : ∀ m ∈ d32, m.Sound Tryz.prog 12 (tabCfg tabs) := hsound_cons h31_sound d31_sound
def o70 : Ob := .box [.slc 13 0 0 1 none 4, .ptr 14 0 0 67, .ptr 15 0 0 18, .ptr 16 0 0 8, .ptr 17 0 0 68, .ptr 18 0 0 36, .map 19, .bool false, .fn (.func 32) [.ptr 12 0 0 11] [], .int .i64 51, .int .i64 0] 95
def o71 : Ob := .box [.int .u32 1, .int .i32 0, .int .u32 0, .int .i64 0, .nils, .slc 23 0 0 1 none 4, .slc 24 0 0 1 none 1, .int .i64 1024, .ptr 25 0 0 1, .ptr 26 0 0 4, .int .i64 949, .int .u64 16, .int .u64 992, .int .i64 0, .int .i64 33, .nils, .int .i64 0, .int .i64 0] 138
def o72 : Ob := .arr [.int .i64 1, .int .i64 5, .int .i64 2, .int .i64 5, .int .i64 2, .int .i64 4, .int .i64 2, .int .i64 3] 0 2 1 4 142

def h32 : HMemo := ⟨13, [.ptr 12 0 0 11], 32, [⟨none, [0]⟩, ⟨some 12, [0]⟩, ⟨some 12, [1]⟩, ⟨some 12, [2]⟩, ⟨some 12, [3]⟩, ⟨some 12, [4]⟩, ⟨some 12, [5]⟩, ⟨some 12, [6]⟩, ⟨some 14, [0]⟩, ⟨some 14, [1]⟩, ⟨some 14, [2]⟩, ⟨some 15, [5]⟩, ⟨some 15, [6]⟩, ⟨some 15, [8]⟩, ⟨some 15, [9]⟩, ⟨some 22, [0]⟩, ⟨some 23, [3]⟩, ⟨some 25, [0]⟩, ⟨some 26, [1]⟩, ⟨some 26, [3]⟩], [(12, o70), (14, .box ([.slc 20 0 0 0 (some 0) 1, .slc 21 0 0 1 none 4, .slc 22 0 0 1 none 1] ++ (rpA 64 (.int .i64 0) [])) 157), (15, o71), (22, .arr [.map 27] 0 1 1 1 159), (23, .arr [.int .i64 0, .int .i64 3, .int .i64 4, .slc 28 0 0 20 none 6] 0 4 1 1 111), (25, .box [.slc 29 0 0 1024 (some 1024) 1] 260), (26, .box [.bool true, .slc 30 0 0 1 none 1, .int .i64 1, .slc 31 3 0 4 none 2] 194), (27, o6), (29, o69), (31, o72)], .int .i64 0, [(12, o67), (15, o68), (26, .box [.bool true, .slc 30 0 0 1 none 1, .int .i64 1, .slc 31 4 0 5 none 2] 194), (31, o38)], [12, 15, 26, 31], 76⟩
set_option maxRecDepth 1000000 in
theorem h32_ok : h32.ok Tryz.prog { tabCfg tabs with hk := bothHk 12 (tabM c157) (tabH d32) } 100000 12 (tabSt 12 tabs) = true := by kernel_rfl
theorem h32_sound : h32.Sound Tryz.prog 12 (tabCfg tabs) := hmemo_both c157_sound d32_sound (by kernel_rfl) tabs_lt h32_ok
def d33 : List HMemo := h32 :: d32
theorem d33_sound : ∀ m ∈ d33, m.Sound Tryz.prog 12 (tabCfg tabs) := hsound_cons h32_sound d32_sound
def o73 : Ob := .box [.slc 13 0 0 1 none 4, .ptr 14 0 0 67, .ptr 15 0 0 18, .ptr 16 0 0 8, .ptr 17 0 0 68, .ptr 18 0 0 36, .map 19, .bool false, .fn (.func 32) [.ptr 12 0 0 11] [], .int .i64 50, .int .i64 0] 95
def o74 : Ob := .box [.int .u32 1, .int .i32 0, .int .u32 0, .int .i64 0, .nils, .slc 23 0 0 1 none 4, .slc 24 0 0 1 none 1, .int .i64 1024, .ptr 25 0 0 1, .ptr 26 0 0 4, .int .i64 950, .int .u64 16, .int .u64 992, .int .i64 0, .int .i64 29, .nils, .int .i64 0, .int .i64 0] 138

def h33 : HMemo := ⟨13, [.ptr 12 0 0 11], 30, [⟨none, [0]⟩, ⟨some 12, [0]⟩, ⟨some 12, [1]⟩, ⟨some 12, [2]⟩, ⟨some 12, [3]⟩, ⟨some 12, [4]⟩, ⟨some 12, [5]⟩, ⟨some 12, [6]⟩, ⟨some 14, [0]⟩, ⟨some 14, [1]⟩, ⟨some 14, [2]⟩, ⟨some 15, [5]⟩, ⟨some 15, [6]⟩, ⟨some 15, [8]⟩, ⟨some 15, [9]⟩, ⟨some 22, [0]⟩, ⟨some 23, [3]⟩, ⟨some 25, [0]⟩], [(12, o73), (14, .box ([.slc 20 0 0 0 (some 0) 1, .slc 21 0 0 1 none 4, .slc 22 0 0 1 none 1] ++ (rpA 64 (.int .i64 0) [])) 157), (15, o74), (22, .arr [.map 27] 0 1 1 1 159), (23, .arr [.int .i64 0, .int .i64 3, .int .i64 4, .slc 28 0 0 20 none 6] 0 4 1 1 111), (25, .box [.slc 29 0 0 1024 (some 1024) 1] 260), (27, o6), (29, o66)], .int .i64 0, [(12, o70), (15, o71), (29, o69)], [12, 15, 29], 91⟩
set_option maxRecDepth 1000000 in
theorem h33_ok : h33.ok Tryz.prog { tabCfg tabs with hk := bothHk 12 (tabM c157) (tabH d33) } 100000 12 (tabSt 12 tabs) = true := by kernel_rfl
theorem h33_sound : h33.Sound Tryz.prog 12 (tabCfg tabs) := hmemo_both c157_sound d33_sound (by kernel_rfl) tabs_lt h33_ok
def d34 : List HMemo := h33 :: d33
theorem d34_sound : ∀ m ∈ d34, m.Sound Tryz.prog 12 (tabCfg tabs) := hsound_cons h33_sound d33_sound
def o75 : Ob := .box [.slc 13 0 0 1 none 4, .ptr 14 0 0 67, .ptr 15 0 0 18, .ptr 16 0 0 8, .ptr 17 0 0 68, .ptr 18 0 0 36, .map 19, .bool false, .fn (.func 32) [.ptr 12 0 0 11] [], .int .i64 49, .int .i64 0] 95
def o76 : Ob := .box [.int .u32 1, .int .i32 0, .int .u32 0, .int .i64 0, .nils, .slc 23 0 0 1 none 4, .slc 24 0 0 1 none 1, .int .i64 1024, .ptr 25 0 0 1, .ptr 26 0 0 4, .int .i64 951, .int .u64 16, .int .u64 992, .int .i64 0, .int .i64 25, .nils, .int .i64 0, .int .i64 0] 138

def h34 : HMemo := ⟨13, [.ptr 12 0 0 11], 31, [⟨none, [0]⟩, ⟨some 12, [0]⟩, ⟨some 12, [1]⟩, ⟨some 12, [2]⟩, ⟨some 12, [3]⟩, ⟨some 12, [4]⟩, ⟨some 12, [5]⟩, ⟨some 12, [6]⟩, ⟨some 14, [0]⟩, ⟨some 14, [1]⟩, ⟨some 14, [2]⟩, ⟨some 15, [5]⟩, ⟨some 15, [6]⟩, ⟨some 15, [8]⟩, ⟨some 15, [9]⟩, ⟨some 21, [3]⟩, ⟨some 22, [0]⟩, ⟨some 23, [3]⟩, ⟨some 25, [0]⟩], [(12, o75), (14, .box ([.slc 20 0 0 0 (some 0) 1, .slc 21 0 0 1 none 4, .slc 22 0 0 1 none 1] ++ (rpA 64 (.int .i64 0) [])) 157), (15, o76), (21, .arr [.int .i64 0, .int .i64 3, .int .i64 4, .slc 27 19 0 20 none 6] 0 4 1 1 111), (22, .arr [.map 28] 0 1 1 1 159), (23, .arr [.int .i64 0, .int .i64 3, .int .i64 4, .slc 29 0 0 20 none 6] 0 4 1 1 111), (25, .box [.slc 30 0 0 1024 (some 1024) 1] 260), (28, o6), (30, o69)], .int .i64 0, [(12, o73), (15, o74), (30, o66)], [12, 15, 30], 80⟩
set_option maxRecDepth 1000000 in
theorem h34_ok : h34.ok Tryz.prog { tabCfg tabs with hk := bothHk 12 (tabM c157) (tabH d34) } 100000 12 (tabSt 12 tabs) = true := by kernel_rfl
theorem h34_sound : h34.Sound Tryz.prog 12 (tabCfg tabs) := hmemo_both c157_sound d34_sound (by kernel_rfl) tabs_lt h34_ok
def d35 : List HMemo := h34 :: d34
theorem d35_sound : ∀ m ∈ d35, m.Sound Tryz.prog 12 (tabCfg tabs) := hsound_cons h34_sound d34_sound
def o77 : Ob := .box [.slc 13 0 0 1 none 4, .ptr 14 0 0 67, .ptr 15 0 0 18, .ptr 16 0 0 8, .ptr 17 0 0 68, .ptr 18 0 0 36, .map 19, .bool false, .fn (.func 32) [.ptr 12 0 0 11] [], .int .i64 48, .int .i64 0] 95
def o78 : Ob := .box [.int .u32 1, .int .i32 0, .int .u32 0, .int .i64 0, .nils, .slc 23 0 0 1 none 4, .slc 24 0 0 1 none 1, .int .i64 1024, .ptr 25 0 0 1, .ptr 26 0 0 4, .int .i64 952, .int .u64 16, .int .u64 992, .int .i64 0, .int .i64 21, .nils, .int .i64 0, .int .i64 0] 138

def h35 : HMemo := ⟨13, [.ptr 12 0 0 11], 30, [⟨none, [0]⟩, ⟨some 12, [0]⟩, ⟨some 12, [1]⟩, ⟨some 12, [2]⟩, ⟨some 12, [3]⟩, ⟨some 12, [4]⟩, ⟨some 12, [5]⟩, ⟨some 12, [6]⟩, ⟨some 14, [0]⟩, ⟨some 14, [1]⟩, ⟨some 14, [2]⟩, ⟨some 15, [5]⟩, ⟨some 15, [6]⟩, ⟨some 15, [8]⟩, ⟨some 15, [9]⟩, ⟨some 22, [0]⟩, ⟨some 23, [3]⟩, ⟨some 25, [0]⟩], [(12, o77), (14, .box ([.slc 20 0 0 0 (some 0) 1, .slc 21 0 0 1 none 4, .slc 22 0 0 1 none 1] ++ (rpA 64 (.int .i64 0) [])) 157), (15, o78), (22, .arr [.map 27] 0 1 1 1 159), (23, .arr [.int .i64 0, .int .i64 3, .int .i64 4, .slc 28 0 0 20 none 6] 0 4 1 1 111), (25, .box [.slc 29 0 0 1024 (some 1024) 1] 260), (27, o6), (29, o69)], .int .i64 0, [(12, o75), (15, o76)], [12, 15], 72⟩
set_option maxRecDepth 1000000 in
theorem h35_ok : h35.ok Tryz.prog { tabCfg tabs with hk := bothHk 12 (tabM c157) (tabH d35) } 100000 12 (tabSt 12 tabs) = true := by kernel_rfl
theorem h35_sound : h35.Sound Tryz.prog 12 (tabCfg tabs) := hmemo_both c157_sound d35_sound (by kernel_rfl) tabs_lt h35_ok
def d36 : List HMemo := h35 :: d35
theorem d36_sound : ∀ m ∈ d36, m.Sound Tryz.prog 12 (tabCfg tabs) := hsound_cons h35_sound d35_sound
def o79 : Ob := .box [.slc 13 0 0 1 none 4, .ptr 14 0 0 67, .ptr 15 0 0 18, .ptr 16 0 0 8, .ptr 17 0 0 68, .ptr 18 0 0 36, .map 19, .bool false, .fn (.func 32) [.ptr 12 0 0 11] [], .int .i64 47, .int .i64 0] 95
def o80 : Ob := .box [.int .u32 1, .int .i32 0, .int .u32 0, .int .i64 0, .nils, .slc 23 0 0 1 none 4, .slc 24 0 0 1 none 1, .int .i64 1024, .ptr 25 0 0 1, .ptr 26 0 0 4, .int .i64 953, .int .u64 16, .int .u64 992, .int .i64 0, .int .i64 17, .nils, .int .i64 0, .int .i64 0] 138

def h36 : HMemo := ⟨13, [.ptr 12 0 0 11], 30, [⟨none, [0]⟩, ⟨some 12, [0]⟩, ⟨some 12, [1]⟩, ⟨some 12, [2]⟩, ⟨some 12, [3]⟩, ⟨some 12, [4]⟩, ⟨some 12, [5]⟩, ⟨some 12, [6]⟩, ⟨some 14, [0]⟩, ⟨some 14, [1]⟩, ⟨some 14, [2]⟩, ⟨some 15, [5]⟩, ⟨some 15, [6]⟩, ⟨some 15, [8]⟩, ⟨some 15, [9]⟩, ⟨some 22, [0]⟩, ⟨some 23, [3]⟩, ⟨some 25, [0]⟩], [(12, o79), (14, .box ([.slc 20 0 0 0 (some 0) 1, .slc 21 0 0 1 none 4, .slc 22 0 0 1 none 1] ++ (rpA 64 (.int .i64 0) [])) 157), (15, o80), (22, .arr [.map 27] 0 1 1 1 159), (23, .arr [.int .i64 0, .int .i64 3, .int .i64 4, .slc 28 0 0 20 none 6] 0 4 1 1 111), (25, .box [.slc 29 0 0 1024 (some 1024) 1] 260), (27, o6), (29, o66)], .int .i64 0, [(12, o77), (15, o78), (29, o69)], [12, 15, 29], 91⟩
set_option maxRecDepth 1000000 in
theorem h36_ok : h36.ok Tryz.prog { tabCfg tabs with hk := bothHk 12 (tabM c157) (tabH d36) } 100000 12 (tabSt 12 tabs) = true := by kernel_rfl
theorem h36_sound : h36.Sound Tryz.prog 12 (tabCfg tabs) := hmemo_both c157_sound d36_sound (by kernel_rfl) tabs_lt h36_ok
def d37 : List HMemo := h36 :: d36
theorem d37_sound : ∀ m ∈ d37, m.Sound Tryz.prog 12 (tabCfg tabs) := hsound_cons h36_sound d36_sound
def o81 : Ob := .box [.slc 13 0 0 1 none 4, .ptr 14 0 0 67, .ptr 15 0 0 18, .ptr 16 0 0 8, .ptr 17 0 0 68, .ptr 18 0 0 36, .map 19, .bool false, .fn (.func 32) [.ptr 12 0 0 11] [], .int .i64 46, .int .i64 0] 95
def o82 : Ob := .box [.int .u32 1, .int .i32 0, .int .u32 0, .int .i64 0, .nils, .slc 23 0 0 1 none 4, .slc 24 0 0 1 none 1, .int .i64 1024, .ptr 25 0 0 1, .ptr 26 0 0 4, .int .i64 954, .int .u64 16, .int .u64 992, .int .i64 0, .int .i64 13, .nils, .int .i64 0, .int .i64 0] 138
def o83 : Ob := .box (rpA 992 (.int .u8 0) ([.int .u8 3] ++ (rpA 7 (.int .u8 0) ([.int .u8 3] ++ (rpA 7 (.int .u8 0) ([.int .u8 2] ++ (rpA 7 (.int .u8 0) ([.int .u8 2] ++ (rpA 7 (.int .u8 0) []))))))))) 5

def h37 : HMemo := ⟨13, [.ptr 12 0 0 11], 31, [⟨none, [0]⟩, ⟨some 12, [0]⟩, ⟨some 12, [1]⟩, ⟨some 12, [2]⟩, ⟨some 12, [3]⟩, ⟨some 12, [4]⟩, ⟨some 12, [5]⟩, ⟨some 12, [6]⟩, ⟨some 14, [0]⟩, ⟨some 14, [1]⟩, ⟨some 14, [2]⟩, ⟨some 15, [5]⟩, ⟨some 15, [6]⟩, ⟨some 15, [8]⟩, ⟨some 15, [9]⟩, ⟨some 21, [3]⟩, ⟨some 22, [0]⟩, ⟨some 23, [3]⟩, ⟨some 25, [0]⟩], [(12, o81), (14, .box ([.slc 20 0 0 0 (some 0) 1, .slc 21 0 0 1 none 4, .slc 22 0 0 1 none 1] ++ (rpA 64 (.int .i64 0) [])) 157), (15, o82), (21, .arr [.int .i64 0, .int .i64 3, .int .i64 4, .slc 27 19 0 20 none 6] 0 4 1 1 111), (22, .arr [.map 28] 0 1 1 1 159), (23, .arr [.int .i64 0, .int .i64 3, .int .i64 4, .slc 29 0 0 20 none 6] 0 4 1 1 111), (25, .box [.slc 30 0 0 1024 (some 1024) 1] 260), (28, o6), (30, o83)], .int .i64 0, [(12, o79), (15, o80), (30, o66)], [12, 15, 30], 80⟩
set_option maxRecDepth 1000000 in
theorem h37_ok : h37.ok Tryz.prog { tabCfg tabs with hk := bothHk 12 (tabM c157) (tabH d37) } 100000 12 (tabSt 12 tabs) = true := by kernel_rfl
theorem h37_sound : h37.Sound Tryz.prog 12 (tabCfg tabs) := hmemo_both c157_sound d37_sound (by kernel_rfl) tabs_lt h37_ok
def d38 : List HMemo := h37 :: d37
theorem d38_sound : ∀ m ∈ d38, m.Sound Tryz.prog 12 (tabCfg tabs) := hsound_cons h37_sound d37_sound
def o84 : Ob := .box [.slc 13 0 0 1 none 4, .ptr 14 0 0 67, .ptr 15 0 0 18, .ptr 16 0 0 8, .ptr 17 0 0 68, .ptr 18 0 0 36, .map 19, .bool false, .fn (.func 32) [.ptr 12 0 0 11] [], .int .i64 45, .int .i64 0] 95
def o85 : Ob := .box [.int .u32 1, .int .i32 0, .int .u32 0, .int .i64 0, .nils, .slc 23 0 0 1 none 4, .slc 24 0 0 1 none 1, .int .i64 1024, .ptr 25 0 0 1, .ptr 26 0 0 4, .int .i64 955, .int .u64 16, .int .u64 992, .int .i64 0, .int .i64 68, .nils, .int .i64 0, .int .i64 0] 138

def h38 : HMemo := ⟨13, [.ptr 12 0 0 11], 28, [⟨none, [0]⟩, ⟨some 12, [0]⟩, ⟨some 12, [1]⟩, ⟨some 12, [2]⟩, ⟨some 12, [3]⟩, ⟨some 12, [4]⟩, ⟨some 12, [5]⟩, ⟨some 12, [6]⟩, ⟨some 14, [0]⟩, ⟨some 14, [1]⟩, ⟨some 14, [2]⟩, ⟨some 15, [5]⟩, ⟨some 15, [6]⟩, ⟨some 15, [8]⟩, ⟨some 15, [9]⟩, ⟨some 22, [0]⟩], [(12, o84), (14, .box ([.slc 20 0 0 0 (some 0) 1, .slc 21 0 0 1 none 4, .slc 22 0 0 1 none 1] ++ (rpA 64 (.int .i64 0) [])) 157), (15, o85), (22, .arr [.map 27] 0 1 1 1 159), (27, o6)], .int .i64 0, [(12, o81), (15, o82)], [12, 15], 58⟩
set_option maxRecDepth 1000000 in
theorem h38_ok : h38.ok Tryz.prog { tabCfg tabs with hk := bothHk 12 (tabM c157) (tabH d38) } 100000 12 (tabSt 12 tabs) = true := by kernel_rfl
theorem h38_sound : h38.Sound Tryz.prog 12 (tabCfg tabs) := hmemo_both c157_sound d38_sound (by kernel_rfl) tabs_lt h38_ok
def d39 : List HMemo := h38 :: d38
theorem d39_sound : ∀ m ∈ d39, m.Sound Tryz.prog 12 (tabCfg tabs) := hsound_cons h38_sound d38_sound
def o86 : Ob := .box [.slc 13 0 0 1 none 4, .ptr 14 0 0 67, .ptr 15 0 0 18, .ptr 16 0 0 8, .ptr 17 0 0 68, .ptr 18 0 0 36, .map 19, .bool false, .fn (.func 32) [.ptr 12 0 0 11] [], .int .i64 44, .int .i64 0] 95
def o87 : Ob := .box [.int .u32 1, .int .i32 0, .int .u32 0, .int .i64 0, .nils, .slc 23 0 0 1 none 4, .slc 24 0 0 1 none 1, .int .i64 1024, .ptr 25 0 0 1, .ptr 26 0 0 4, .int .i64 956, .int .u64 16, .int .u64 992, .int .i64 0, .int .i64 65, .nils, .int .i64 0, .int .i64 0] 138

def h39 : HMemo := ⟨13, [.ptr 12 0 0 11], 30, [⟨none, [0]⟩, ⟨some 12, [0]⟩, ⟨some 12, [1]⟩, ⟨some 12, [2]⟩, ⟨some 12, [3]⟩, ⟨some 12, [4]⟩, ⟨some 12, [5]⟩, ⟨some 12, [6]⟩, ⟨some 14, [0]⟩, ⟨some 14, [1]⟩, ⟨some 14, [2]⟩, ⟨some 15, [5]⟩, ⟨some 15, [6]⟩, ⟨some 15, [8]⟩, ⟨some 15, [9]⟩, ⟨some 22, [0]⟩, ⟨some 23, [3]⟩, ⟨some 25, [0]⟩], [(12, o86), (14, .box ([.slc 20 0 0 0 (some 0) 1, .slc 21 0 0 1 none 4, .slc 22 0 0 1 none 1] ++ (rpA 64 (.int .i64 0) [])) 157), (15, o87), (22, .arr [.map 27] 0 1 1 1 159), (23, .arr [.int .i64 0, .int .i64 3, .int .i64 4, .slc 28 0 0 20 none 6] 0 4 1 1 111), (25, .box [.slc 29 0 0 1024 (some 1024) 1] 260), (27, o6), (29, o66)], .int .i64 0, [(12, o84), (15, o85), (29, o83)], [12, 15, 29], 88⟩
set_option maxRecDepth 1000000 in
theorem h39_ok : h39.ok Tryz.prog { tabCfg tabs with hk := bothHk 12 (tabM c157) (tabH d39) } 100000 12 (tabSt 12 tabs) = true := by kernel_rfl
theorem h39_sound : h39.Sound Tryz.prog 12 (tabCfg tabs) := hmemo_both c157_sound d39_sound (by kernel_rfl) tabs_lt h39_ok
def d40 : List HMemo := h39 :: d39
theorem d40_sound : ∀ m ∈ d40, m.Sound Tryz.prog 12 (tabCfg tabs) := hsound_cons h39_sound d39_sound
def o88 : Ob := .box [.slc 13 0 0 1 none 4, .ptr 14 0 0 67, .ptr 15 0 0 18, .ptr 16 0 0 8, .ptr 17 0 0 68, .ptr 18 0 0 36, .map 19, .bool false, .fn (.func 32) [.ptr 12 0 0 11] [], .int .i64 43, .int .i64 0] 95
def o89 : Ob := .box [.int .u32 1, .int .i32 0, .int .u32 0, .int .i64 0, .nils, .slc 23 0 0 1 none 4, .slc 24 0 0 1 none 1, .int .i64 1024, .ptr 25 0 0 1, .ptr 26 0 0 4, .int .i64 957, .int .u64 16, .int .u64 992, .int .i64 0, .int .i64 61, .nils, .int .i64 0, .int .i64 0] 138
def o90 : Ob := .box (rpA 992 (.int .u8 0) ([.int .u8 248, .int .u8 3] ++ (rpA 6 (.int .u8 0) ([.int .u8 3] ++ (rpA 7 (.int .u8 0) ([.int .u8 2] ++ (rpA 7 (.int .u8 0) ([.int .u8 3] ++ (rpA 7 (.int .u8 0) []))))))))) 5

def h40 : HMemo := ⟨13, [.ptr 12 0 0 11], 30, [⟨none, [0]⟩, ⟨some 12, [0]⟩, ⟨some 12, [1]⟩, ⟨some 12, [2]⟩, ⟨some 12, [3]⟩, ⟨some 12, [4]⟩, ⟨some 12, [5]⟩, ⟨some 12, [6]⟩, ⟨some 14, [0]⟩, ⟨some 14, [1]⟩, ⟨some 14, [2]⟩, ⟨some 15, [5]⟩, ⟨some 15, [6]⟩, ⟨some 15, [8]⟩, ⟨some 15, [9]⟩, ⟨some 22, [0]⟩, ⟨some 23, [3]⟩, ⟨some 25, [0]⟩], [(12, o88), (14, .box ([.slc 20 0 0 0 (some 0) 1, .slc 21 0 0 1 none 4, .slc 22 0 0 1 none 1] ++ (rpA 64 (.int .i64 0) [])) 157), (15, o89), (22, .arr [.map 27] 0 1 1 1 159), (23, .arr [.int .i64 0, .int .i64 3, .int .i64 4, .slc 28 0 0 20 none 6] 0 4 1 1 111), (25, .box [.slc 29 0 0 1024 (some 1024) 1] 260), (27, o6), (29, o90)], .int .i64 0, [(12, o86), (15, o87), (29, o66)], [12, 15, 29], 87⟩
set_option maxRecDepth 1000000 in
theorem h40_ok : h40.ok Tryz.prog { tabCfg tabs with hk := bothHk 12 (tabM c157) (tabH d40) } 100000 12 (tabSt 12 tabs) = true := by kernel_rfl
theorem h40_sound : h40.Sound Tryz.prog 12 (tabCfg tabs) := hmemo_both c157_sound d40_sound (by kernel_rfl) tabs_lt h40_ok
def d41 : List HMemo := h40 :: d40
theorem d41_sound : ∀ m ∈ d41, m.Sound Tryz.prog 12 (tabCfg tabs) := hsound_cons h40_sound d40_sound
def o91 : Ob := .box [.slc 13 0 0 1 none 4, .ptr 14 0 0 67, .ptr 15 0 0 18, .ptr 16 0 0 8, .ptr 17 0 0 68, .ptr 18 0 0 36, .map 19, .bool false, .fn (.func 32) [.ptr 12 0 0 11] [], .int .i64 42, .int .i64 0] 95
def o92 : Ob := .box [.int .u32 1, .int .i32 0, .int .u32 0, .int .i64 0, .nils, .slc 23 0 0 1 none 4, .slc 24 0 0 1 none 1, .int .i64 1024, .ptr 25 0 0 1, .ptr 26 0 0 4, .int .i64 958, .int .u64 16, .int .u64 992, .int .i64 0, .int .i64 57, .nils, .int .i64 0, .int .i64 0] 138

def h41 : HMemo := ⟨13, [.ptr 12 0 0 11], 30, [⟨none, [0]⟩, ⟨some 12, [0]⟩, ⟨some 12, [1]⟩, ⟨some 12, [2]⟩, ⟨some 12, [3]⟩, ⟨some 12, [4]⟩, ⟨some 12, [5]⟩, ⟨some 12, [6]⟩, ⟨some 14, [0]⟩, ⟨some 14, [1]⟩, ⟨some 14, [2]⟩, ⟨some 15, [5]⟩, ⟨some 15, [6]⟩, ⟨some 15, [8]⟩, ⟨some 15, [9]⟩, ⟨some 22, [0]⟩, ⟨some 23, [3]⟩, ⟨some 25, [0]⟩], [(12, o91), (14, .box ([.slc 20 0 0 0 (some 0) 1, .slc 21 0 0 1 none 4, .slc 22 0 0 1 none 1] ++ (rpA 64 (.int .i64 0) [])) 157), (15, o92), (22, .arr [.map 27] 0 1 1 1 159), (23, .arr [.int .i64 0, .int .i64 3, .int .i64 4, .slc 28 0 0 20 none 6] 0 4 1 1 111), (25, .box [.slc 29 0 0 1024 (some 1024) 1] 260), (27, o6), (29, o90)], .int .i64 0, [(12, o88), (15, o89), (29, o90)], [12, 15, 29], 89⟩
set_option maxRecDepth 1000000 in
theorem h41_ok : h41.ok Tryz.prog { tabCfg tabs with hk := bothHk 12 (tabM c157) (tabH d41) } 100000 12 (tabSt 12 tabs) = true := by kernel_rfl
theorem h41_sound : h41.Sound Tryz.prog 12 (tabCfg tabs) := hmemo_both c157_sound d41_sound (by kernel_rfl) tabs_lt h41_ok
def d42 : List HMemo := h41 :: d41
theorem d42_sound : ∀ m ∈ d42, m.Sound Tryz.prog 12 (tabCfg tabs) := hsound_cons h41_sound d41_sound
def o93 : Ob := .box [.slc 13 0 0 1 none 4, .ptr 14 0 0 67, .ptr 15 0 0 18, .ptr 16 0 0 8, .ptr 17 0 0 68, .ptr 18 0 0 36, .map 19, .bool false, .fn (.func 32) [.ptr 12 0 0 11] [], .int .i64 41, .int .i64 0] 95
def o94 : Ob := .box [.int .u32 1, .int .i32 0, .int .u32 0, .int .i64 0, .nils, .slc 23 0 0 1 none 4, .slc 24 0 0 1 none 1, .int .i64 1024, .ptr 25 0 0 1, .ptr 26 0 0 4, .int .i64 959, .int .u64 16, .int .u64 992, .int .i64 0, .int .i64 53, .nils, .int .i64 0, .int .i64 0] 138
def o95 : Ob := .box (rpA 992 (.int .u8 0) ([.int .u8 248, .int .u8 3] ++ (rpA 6 (.int .u8 0) ([.int .u8 3] ++ (rpA 7 (.int .u8 0) ([.int .u8 1] ++ (rpA 7 (.int .u8 0) ([.int .u8 3] ++ (rpA 7 (.int .u8 0) []))))))))) 5

def h42 : HMemo := ⟨13, [.ptr 12 0 0 11], 30, [⟨none, [0]⟩, ⟨some 12, [0]⟩, ⟨some 12, [1]⟩, ⟨some 12, [2]⟩, ⟨some 12, [3]⟩, ⟨some 12, [4]⟩, ⟨some 12, [5]⟩, ⟨some 12, [6]⟩, ⟨some 14, [0]⟩, ⟨some 14, [1]⟩, ⟨some 14, [2]⟩, ⟨some 15, [5]⟩, ⟨some 15, [6]⟩, ⟨some 15, [8]⟩, ⟨some 15, [9]⟩, ⟨some 22, [0]⟩, ⟨some 23, [3]⟩, ⟨some 25, [0]⟩], [(12, o93), (14, .box ([.slc 20 0 0 0 (some 0) 1, .slc 21 0 0 1 none 4, .slc 22 0 0 1 none 1] ++ (rpA 64 (.int .i64 0) [])) 157), (15, o94), (22, .arr [.map 27] 0 1 1 1 159), (23, .arr [.int .i64 0, .int .i64 3, .int .i64 4, .slc 28 0 0 20 none 6] 0 4 1 1 111), (25, .box [.slc 29 0 0 1024 (some 1024) 1] 260), (27, o6), (29, o95)], .int .i64 0, [(12, o91), (15, o92), (29, o90)], [12, 15, 29], 98⟩
set_option maxRecDepth 1000000 in
theorem h42_ok : h42.ok Tryz.prog { tabCfg tabs with hk := bothHk 12 (tabM c157) (tabH d42) } 100000 12 (tabSt 12 tabs) = true := by kernel_rfl
theorem h42_sound : h42.Sound Tryz.prog 12 (tabCfg tabs) := hmemo_both c157_sound d42_sound (by kernel_rfl) tabs_lt h42_ok
def d43 : List HMemo := h42 :: d42
theorem d43_sound : ∀ m ∈ d43, m.Sound Tryz.prog 12 (tabCfg tabs) := hsound_cons h42_sound d42_sound
def o96 : Ob := .box [.slc 13 0 0 1 none 4, .ptr 14 0 0 67, .ptr 15 0 0 18, .ptr 16 0 0 8, .ptr 17 0 0 68, .ptr 18 0 0 36, .map 19, .bool false, .fn (.func 32) [.ptr 12 0 0 11] [], .int .i64 40, .int .i64 0] 95
def o97 : Ob := .box [.int .u32 1, .int .i32 0, .int .u32 0, .int .i64 0, .nils, .slc 23 0 0 1 none 4, .slc 24 0 0 1 none 1, .int .i64 1024, .ptr 25 0 0 1, .ptr 26 0 0 4, .int .i64 960, .int .u64 16, .int .u64 992, .int .i64 0, .int .i64 43, .nils, .int .i64 0, .int .i64 0] 138
def o98 : Ob := .box (rpA 992 (.int .u8 0) ([.int .u8 248, .int .u8 3] ++ (rpA 6 (.int .u8 0) ([.int .u8 3] ++ (rpA 7 (.int .u8 0) ([.int .u8 3] ++ (rpA 7 (.int .u8 0) ([.int .u8 3] ++ (rpA 7 (.int .u8 0) []))))))))) 5

def h43 : HMemo := ⟨13, [.ptr 12 0 0 11], 30, [⟨none, [0]⟩, ⟨some 12, [0]⟩, ⟨some 12, [1]⟩, ⟨some 12, [2]⟩, ⟨some 12, [3]⟩, ⟨some 12, [4]⟩, ⟨some 12, [5]⟩, ⟨some 12, [6]⟩, ⟨some 14, [0]⟩, ⟨some 14, [1]⟩, ⟨some 14, [2]⟩, ⟨some 15, [5]⟩, ⟨some 15, [6]⟩, ⟨some 15, [8]⟩, ⟨some 15, [9]⟩, ⟨some 22, [0]⟩, ⟨some 23, [3]⟩, ⟨some 25, [0]⟩], [(12, o96), (14, .box ([.slc 20 0 0 0 (some 0) 1, .slc 21 0 0 1 none 4, .slc 22 0 0 1 none 1] ++ (rpA 64 (.int .i64 0) [])) 157), (15, o97), (22, .arr [.map 27] 0 1 1 1 159), (23, .arr [.int .i64 0, .int .i64 3, .int .i64 4, .slc 28 0 0 20 none 6] 0 4 1 1 111), (25, .box [.slc 29 0 0 1024 (some 1024) 1] 260), (27, o6), (29, o98)], .int .i64 0, [(12, o93), (15, o94), (29, o95)], [12, 15, 29], 79⟩
set_option maxRecDepth 1000000 in
theorem h43_ok : h43.ok Tryz.prog { tabCfg tabs with hk := bothHk 12 (tabM c157) (tabH d43) } 100000 12 (tabSt 12 tabs) = true := by kernel_rfl
theorem h43_sound : h43.Sound Tryz.prog 12 (tabCfg tabs) := hmemo_both c157_sound d43_sound (by kernel_rfl) tabs_lt h43_ok
def d44 : List HMemo := h43 :: d43
theorem d44_sound : ∀ m ∈ d44, m.Sound Tryz.prog 12 (tabCfg tabs) := hsound_cons h43_sound d43_sound
def o99 : Ob := .box [.slc 13 0 0 1 none 4, .ptr 14 0 0 67, .ptr 15 0 0 18, .ptr 16 0 0 8, .ptr 17 0 0 68, .ptr 18 0 0 36, .map 19, .bool false, .fn (.func 32) [.ptr 12 0 0 11] [], .int .i64 39, .int .i64 0] 95
def o100 : Ob := .box [.int .u32 1, .int .i32 0, .int .u32 0, .int .i64 0, .nils, .slc 23 0 0 1 none 4, .slc 24 0 0 1 none 1, .int .i64 1024, .ptr 25 0 0 1, .ptr 26 0 0 4, .int .i64 961, .int .u64 16, .int .u64 992, .int .i64 0, .int .i64 39, .nils, .int .i64 0, .int .i64 0] 138
def o101 : Ob := .box (rpA 992 (.int .u8 0) ([.int .u8 248, .int .u8 3] ++ (rpA 6 (.int .u8 0) ([.int .u8 4] ++ (rpA 7 (.int .u8 0) ([.int .u8 3] ++ (rpA 7 (.int .u8 0) ([.int .u8 3] ++ (rpA 7 (.int .u8 0) []))))))))) 5

def h44 : HMemo := ⟨13, [.ptr 12 0 0 11], 30, [⟨none, [0]⟩, ⟨some 12, [0]⟩, ⟨some 12, [1]⟩, ⟨some 12, [2]⟩, ⟨some 12, [3]⟩, ⟨some 12, [4]⟩, ⟨some 12, [5]⟩, ⟨some 12, [6]⟩, ⟨some 14, [0]⟩, ⟨some 14, [1]⟩, ⟨some 14, [2]⟩, ⟨some 15, [5]⟩, ⟨some 15, [6]⟩, ⟨some 15, [8]⟩, ⟨some 15, [9]⟩, ⟨some 22, [0]⟩, ⟨some 23, [3]⟩, ⟨some 25, [0]⟩], [(12, o99), (14, .box ([.slc 20 0 0 0 (some 0) 1, .slc 21 0 0 1 none 4, .slc 22 0 0 1 none 1] ++ (rpA 64 (.int .i64 0) [])) 157), (15, o100), (22, .arr [.map 27] 0 1 1 1 159), (23, .arr [.int .i64 0, .int .i64 3, .int .i64 4, .slc 28 0 0 20 none 6] 0 4 1 1 111), (25, .box [.slc 29 0 0 1024 (some 1024) 1] 260), (27, o6), (29, o101)], .int .i64 0, [(12, o96), (15, o97), (29, o98)], [12, 15, 29], 91⟩
set_option maxRecDepth 1000000 in
theorem h44_ok : h44.ok Tryz.prog { tabCfg tabs with hk := bothHk 12 (tabM c157) (tabH d44) } 100000 12 (tabSt 12 tabs) = true := by kernel_rfl
theorem h44_sound : h44.Sound Tryz.prog 12 (tabCfg tabs) := hmemo_both c157_sound d44_sound (by kernel_rfl) tabs_lt h44_ok
def d45 : List HMemo := h44 :: d44
theorem d45_sound : ∀ m ∈ d45, m.Sound Tryz.prog 12 (tabCfg tabs) := hsound_cons h44_sound d44_sound
def o102 : Ob := .box [.slc 13 0 0 1 none 4, .ptr 14 0 0 67, .ptr 15 0 0 18, .ptr 16 0 0 8, .ptr 17 0 0 68, .ptr 18 0 0 36, .map 19, .bool false, .fn (.func 32) [.ptr 12 0 0 11] [], .int .i64 38, .int .i64 0] 95
def o103 : Ob := .box [.int .u32 1, .int .i32 0, .int .u32 0, .int .i64 0, .nils, .slc 23 0 0 1 none 4, .slc 24 0 0 1 none 1, .int .i64 1024, .ptr 25 0 0 1, .ptr 26 0 0 4, .int .i64 962, .int .u64 16, .int .u64 992, .int .i64 0, .int .i64 35, .nils, .int .i64 0, .int .i64 0] 138
def o104 : Ob := .box (rpA 992 (.int .u8 0) ([.int .u8 3] ++ (rpA 7 (.int .u8 0) ([.int .u8 4] ++ (rpA 7 (.int .u8 0) ([.int .u8 3] ++ (rpA 7 (.int .u8 0) ([.int .u8 3] ++ (rpA 7 (.int .u8 0) []))))))))) 5

def h45 : HMemo := ⟨13, [.ptr 12 0 0 11], 31, [⟨none, [0]⟩, ⟨some 12, [0]⟩, ⟨some 12, [1]⟩, ⟨some 12, [2]⟩, ⟨some 12, [3]⟩, ⟨some 12, [4]⟩, ⟨some 12, [5]⟩, ⟨some 12, [6]⟩, ⟨some 14, [0]⟩, ⟨some 14, [1]⟩, ⟨some 14, [2]⟩, ⟨some 15, [5]⟩, ⟨some 15, [6]⟩, ⟨some 15, [8]⟩, ⟨some 15, [9]⟩, ⟨some 21, [3]⟩, ⟨some 22, [0]⟩, ⟨some 23, [3]⟩, ⟨some 25, [0]⟩], [(12, o102), (14, .box ([.slc 20 0 0 0 (some 0) 1, .slc 21 0 0 1 none 4, .slc 22 0 0 1 none 1] ++ (rpA 64 (.int .i64 0) [])) 157), (15, o103), (21, .arr [.int .i64 0, .int .i64 3, .int .i64 4, .slc 27 19 0 20 none 6] 0 4 1 1 111), (22, .arr [.map 28] 0 1 1 1 159), (23, .arr [.int .i64 0, .int .i64 3, .int .i64 4, .slc 29 0 0 20 none 6] 0 4 1 1 111), (25, .box [.slc 30 0 0 1024 (some 1024) 1] 260), (28, o6), (30, o104)], .int .i64 0, [(12, o99), (15, o100), (30, o101)], [12, 15, 30], 80⟩
set_option maxRecDepth 1000000 in
theorem h45_ok : h45.ok Tryz.prog { tabCfg tabs with hk := bothHk 12 (tabM c157) (tabH d45) } 100000 12 (tabSt 12 tabs) = true := by kernel_rfl
theorem h45_sound : h45.Sound Tryz.prog 12 (tabCfg tabs) := hmemo_both c157_sound d45_sound (by kernel_rfl) tabs_lt h45_ok
def d46 : List HMemo := h45 :: d45
theorem d46_sound : ∀ m ∈ d46, m.Sound Tryz.prog 12 (tabCfg tabs) := hsound_cons h45_sound d45_sound
def o105 : Ob := .box [.slc 13 0 0 1 none 4, .ptr 14 0 0 67, .ptr 15 0 0 18, .ptr 16 0 0 8, .ptr 17 0 0 68, .ptr 18 0 0 36, .map 19, .bool false, .fn (.func 32) [.ptr 12 0 0 11] [], .int .i64 37, .int .i64 0] 95
def o106 : Ob := .box [.int .u32 1, .int .i32 0, .int .u32 0, .int .i64 0, .nils, .slc 23 0 0 1 none 4, .slc 24 0 0 1 none 1, .int .i64 1024, .ptr 25 0 0 1, .ptr 26 0 0 4, .int .i64 963, .int .u64 16, .int .u64 992, .int .i64 0, .int .i64 33, .nils, .int .i64 0, .int .i64 0] 138

def h46 : HMemo := ⟨13, [.ptr 12 0 0 11], 32, [⟨none, [0]⟩, ⟨some 12, [0]⟩, ⟨some 12, [1]⟩, ⟨some 12, [2]⟩, ⟨some 12, [3]⟩, ⟨some 12, [4]⟩, ⟨some 12, [5]⟩, ⟨some 12, [6]⟩, ⟨some 14, [0]⟩, ⟨some 14, [1]⟩, ⟨some 14, [2]⟩, ⟨some 15, [5]⟩, ⟨some 15, [6]⟩, ⟨some 15, [8]⟩, ⟨some 15, [9]⟩, ⟨some 22, [0]⟩, ⟨some 23, [3]⟩, ⟨some 25, [0]⟩, ⟨some 26, [1]⟩, ⟨some 26, [3]⟩], [(12, o105), (14, .box ([.slc 20 0 0 0 (some 0) 1, .slc 21 0 0 1 none 4, .slc 22 0 0 1 none 1] ++ (rpA 64 (.int .i64 0) [])) 157), (15, o106), (22, .arr [.map 27] 0 1 1 1 159), (23, .arr [.int .i64 0, .int .i64 3, .int .i64 4, .slc 28 0 0 20 none 6] 0 4 1 1 111), (25, .box [.slc 29 0 0 1024 (some 1024) 1] 260), (26, .box [.bool true, .slc 30 0 0 1 none 1, .int .i64 1, .slc 31 2 0 3 none 2] 194), (27, o6), (29, o104), (31, .arr [.int .i64 1, .int .i64 5, .int .i64 2, .int .i64 5, .int .i64 2, .int .i64 4] 0 2 1 3 142)], .int .i64 0, [(12, o102), (15, o103), (26, .box [.bool true, .slc 30 0 0 1 none 1, .int .i64 1, .slc 31 3 0 4 none 2] 194), (31, o72)], [12, 15, 26, 31], 76⟩
set_option maxRecDepth 1000000 in
theorem h46_ok : h46.ok Tryz.prog { tabCfg tabs with hk := bothHk 12 (tabM c157) (tabH d46) } 100000 12 (tabSt 12 tabs) = true := by kernel_rfl
theorem h46_sound : h46.Sound Tryz.prog 12 (tabCfg tabs) := hmemo_both c157_sound d46_sound (by kernel_rfl) tabs_lt h46_ok
def d47 : List HMemo := h46 :: d46
theorem d47_sound : ∀ m ∈ d47, m.Sound Tryz.prog 12 (tabCfg tabs) := hsound_cons h46_sound d46_sound
def o107 : Ob := .box [.slc 13 0 0 1 none 4, .ptr 14 0 0 67, .ptr 15 0 0 18, .ptr 16 0 0 8, .ptr 17 0 0 68, .ptr 18 0 0 36, .map 19, .bool false, .fn (.func 32) [.ptr 12 0 0 11] [], .int .i64 36, .int .i64 0] 95
def o108 : Ob := .box [.int .u32 1, .int .i32 0, .int .u32 0, .int .i64 0, .nils, .slc 23 0 0 1 none 4, .slc 24 0 0 1 none 1, .int .i64 1024, .ptr 25 0 0 1, .ptr 26 0 0 4, .int .i64 964, .int .u64 16, .int .u64 992, .int .i64 0, .int .i64 29, .nils, .int .i64 0, .int .i64 0] 138

def h47 : HMemo := ⟨13, [.ptr 12 0 0 11], 30, [⟨none, [0]⟩, ⟨some 12, [0]⟩, ⟨some 12, [1]⟩, ⟨some 12, [2]⟩, ⟨some 12, [3]⟩, ⟨some 12, [4]⟩, ⟨some 12, [5]⟩, ⟨some 12, [6]⟩, ⟨some 14, [0]⟩, ⟨some 14, [1]⟩, ⟨some 14, [2]⟩, ⟨some 15, [5]⟩, ⟨some 15, [6]⟩, ⟨some 15, [8]⟩, ⟨some 15, [9]⟩, ⟨some 22, [0]⟩, ⟨some 23, [3]⟩, ⟨some 25, [0]⟩], [(12, o107), (14, .box ([.slc 20 0 0 0 (some 0) 1, .slc 21 0 0 1 none 4, .slc 22 0 0 1 none 1] ++ (rpA 64 (.int .i64 0) [])) 157), (15, o108), (22, .arr [.map 27] 0 1 1 1 159), (23, .arr [.int .i64 0, .int .i64 3, .int .i64 4, .slc 28 0 0 20 none 6] 0 4 1 1 111), (25, .box [.slc 29 0 0 1024 (some 1024) 1] 260), (27, o6), (29, o101)], .int .i64 0, [(12, o105), (15, o106), (29, o104)], [12, 15, 29], 91⟩
set_option maxRecDepth 1000000 in
theorem h47_ok : h47.ok Tryz.prog { tabCfg tabs with hk := bothHk 12 (tabM c157) (tabH d47) } 100000 12 (tabSt 12 tabs) = true := by kernel_rfl
theorem h47_sound : h47.Sound Tryz.prog 12 (tabCfg tabs) := hmemo_both c157_sound d47_sound (by kernel_rfl) tabs_lt h47_ok
def d48 : List HMemo := h47 :: d47
theorem d48_sound : ∀ m ∈ d48, m.Sound Tryz.prog 12 (tabCfg tabs) := hsound_cons h47_sound d47_sound
def o109 : Ob := .box [.slc 13 0 0 1 none 4, .ptr 14 0 0 67, .ptr 15 0 0 18, .ptr 16 0 0 8, .ptr 17 0 0 68, .ptr 18 0 0 36, .map 19, .bool false, .fn (.func 32) [.ptr 12 0 0 11] [], .int .i64 35, .int .i64 0] 95
def o110 : Ob := .box [.int .u32 1, .int .i32 0, .int .u32 0, .int .i64 0, .nils, .slc 23 0 0 1 none 4, .slc 24 0 0 1 none 1, .int .i64 1024, .ptr 25 0 0 1, .ptr 26 0 0 4, .int .i64 965, .int .u64 16, .int .u64 992, .int .i64 0, .int .i64 25, .nils, .int .i64 0, .int .i64 0] 138

def h48 : HMemo := ⟨13, [.ptr 12 0 0 11], 31, [⟨none, [0]⟩, ⟨some 12, [0]⟩, ⟨some 12, [1]⟩, ⟨some 12, [2]⟩, ⟨some 12, [3]⟩, ⟨some 12, [4]⟩, ⟨some 12, [5]⟩, ⟨some 12, [6]⟩, ⟨some 14, [0]⟩, ⟨some 14, [1]⟩, ⟨some 14, [2]⟩, ⟨some 15, [5]⟩, ⟨some 15, [6]⟩, ⟨some 15, [8]⟩, ⟨some 15, [9]⟩, ⟨some 21, [3]⟩, ⟨some 22, [0]⟩, ⟨some 23, [3]⟩, ⟨some 25, [0]⟩], [(12, o109), (14, .box ([.slc 20 0 0 0 (some 0) 1, .slc 21 0 0 1 none 4, .slc 22 0 0 1 none 1] ++ (rpA 64 (.int .i64 0) [])) 157), (15, o110), (21, .arr [.int .i64 0, .int .i64 3, .int .i64 4, .slc 27 19 0 20 none 6] 0 4 1 1 111), (22, .arr [.map 28] 0 1 1 1 159), (23, .arr [.int .i64 0, .int .i64 3, .int .i64 4, .slc 29 0 0 20 none 6] 0 4 1 1 111), (25, .box [.slc 30 0 0 1024 (some 1024) 1] 260), (28, o6), (30, o104)], .int .i64 0, [(12, o107), (15, o108), (30, o101)], [12, 15, 30], 80⟩
set_option maxRecDepth 1000000 in
theorem h48_ok : h48.ok Tryz.prog { tabCfg tabs with hk := bothHk 12 (tabM c157) (tabH d48) } 100000 12 (tabSt 12 tabs) = true := by kernel_rfl
theorem h48_sound : h48.Sound Tryz.prog 12 (tabCfg tabs) := hmemo_both c157_sound d48_sound (by kernel_rfl) tabs_lt h48_ok
def d49 : List HMemo := h48 :: d48
theorem d49_sound : ∀ m ∈ d49, m.Sound Tryz.prog 12 (tabCfg tabs) := hsound_cons h48_sound d48_sound
def o111 : Ob := .box [.slc 13 0 0 1 none 4, .ptr 14 0 0 67, .ptr 15 0 0 18, .ptr 16 0 0 8, .ptr 17 0 0 68, .ptr 18 0 0 36, .map 19, .bool false, .fn (.func 32) [.ptr 12 0 0 11] [], .int .i64 34, .int .i64 0] 95
def o112 : Ob := .box [.int .u32 1, .int .i32 0, .int .u32 0, .int .i64 0, .nils, .slc 23 0 0 1 none 4, .slc 24 0 0 1 none 1, .int .i64 1024, .ptr 25 0 0 1, .ptr 26 0 0 4, .int .i64 966, .int .u64 16, .int .u64 992, .int .i64 0, .int .i64 21, .nils, .int .i64 0, .int .i64 0] 138

def h49 : HMemo := ⟨13, [.ptr 12 0 0 11], 30, [⟨none, [0]⟩, ⟨some 12, [0]⟩, ⟨some 12, [1]⟩, ⟨some 12, [2]⟩, ⟨some 12, [3]⟩, ⟨some 12, [4]⟩, ⟨some 12, [5]⟩, ⟨some 12, [6]⟩, ⟨some 14, [0]⟩, ⟨some 14, [1]⟩, ⟨some 14, [2]⟩, ⟨some 15, [5]⟩, ⟨some 15, [6]⟩, ⟨some 15, [8]⟩, ⟨some 15, [9]⟩, ⟨some 22, [0]⟩, ⟨some 23, [3]⟩, ⟨some 25, [0]⟩], [(12, o111), (14, .box ([.slc 20 0 0 0 (some 0) 1, .slc 21 0 0 1 none 4, .slc 22 0 0 1 none 1] ++ (rpA 64 (.int .i64 0) [])) 157), (15, o112), (22, .arr [.map 27] 0 1 1 1 159), (23, .arr [.int .i64 0, .int .i64 3, .int .i64 4, .slc 28 0 0 20 none 6] 0 4 1 1 111), (25, .box [.slc 29 0 0 1024 (some 1024) 1] 260), (27, o6), (29, o104)], .int .i64 0, [(12, o109), (15, o110)], [12, 15], 72⟩
set_option maxRecDepth 1000000 in
theorem h49_ok : h49.ok Tryz.prog { tabCfg tabs with hk := bothHk 12 (tabM c157) (tabH d49) } 100000 12 (tabSt 12 tabs) = true := by kernel_rfl
theorem h49_sound : h49.Sound Tryz.prog 12 (tabCfg tabs) := hmemo_both c157_sound d49_sound (by kernel_rfl) tabs_lt h49_ok
def d50 : List HMemo := h49 :: d49
theorem d50_sound : ∀ m ∈ d50, m.Sound Tryz.prog 12 (tabCfg tabs) := hsound_cons h49_sound d49_sound
def o113 : Ob := .box [.slc 13 0 0 1 none 4, .ptr 14 0 0 67, .ptr 15 0 0 18, .ptr 16 0 0 8, .ptr 17 0 0 68, .ptr 18 0 0 36, .map 19, .bool false, .fn (.func 32) [.ptr 12 0 0 11] [], .int .i64 33, .int .i64 0] 95
def o114 : Ob := .box [.int .u32 1, .int .i32 0, .int .u32 0, .int .i64 0, .nils, .slc 23 0 0 1 none 4, .slc 24 0 0 1 none 1, .int .i64 1024, .ptr 25 0 0 1, .ptr 26 0 0 4, .int .i64 967, .int .u64 16, .int .u64 992, .int .i64 0, .int .i64 17, .nils, .int .i64 0, .int .i64 0] 138

def h50 : HMemo := ⟨13, [.ptr 12 0 0 11], 30, [⟨none, [0]⟩, ⟨some 12, [0]⟩, ⟨some 12, [1]⟩, ⟨some 12, [2]⟩, ⟨some 12, [3]⟩, ⟨some 12, [4]⟩, ⟨some 12, [5]⟩, ⟨some 12, [6]⟩, ⟨some 14, [0]⟩, ⟨some 14, [1]⟩, ⟨some 14, [2]⟩, ⟨some 15, [5]⟩, ⟨some 15, [6]⟩, ⟨some 15, [8]⟩, ⟨some 15, [9]⟩, ⟨some 22, [0]⟩, ⟨some 23, [3]⟩, ⟨some 25, [0]⟩], [(12, o113), (14, .box ([.slc 20 0 0 0 (some 0) 1, .slc 21 0 0 1 none 4, .slc 22 0 0 1 none 1] ++ (rpA 64 (.int .i64 0) [])) 157), (15, o114), (22, .arr [.map 27] 0 1 1 1 159), (23, .arr [.int .i64 0, .int .i64 3, .int .i64 4, .slc 28 0 0 20 none 6] 0 4 1 1 111), (25, .box [.slc 29 0 0 1024 (some 1024) 1] 260), (27, o6), (29, o101)], .int .i64 0, [(12, o111), (15, o112), (29, o104)], [12, 15, 29], 91⟩
set_option maxRecDepth 1000000 in
theorem h50_ok : h50.ok Tryz.prog { tabCfg tabs with hk := bothHk 12 (tabM c157) (tabH d50) } 100000 12 (tabSt 12 tabs) = true := by kernel_rfl
theorem h50_sound : h50.Sound Tryz.prog 12 (tabCfg tabs) := hmemo_both c157_sound d50_sound (by kernel_rfl) tabs_lt h50_ok
def d51 : List HMemo := h50 :: d50
theorem d51_sound : ∀ m ∈ d51, m.Sound Tryz.prog 12 (tabCfg tabs) := hsound_cons h50_sound d50_sound
def o115 : Ob := .box [.slc 13 0 0 1 none 4, .ptr 14 0 0 67, .ptr 15 0 0 18, .ptr 16 0 0 8, .ptr 17 0 0 68, .ptr 18 0 0 36, .map 19, .bool false, .fn (.func 32) [.ptr 12 0 0 11] [], .int .i64 32, .int .i64 0] 95
def o116 : Ob := .box [.int .u32 1, .int .i32 0, .int .u32 0, .int .i64 0, .nils, .slc 23 0 0 1 none 4, .slc 24 0 0 1 none 1, .int .i64 1024, .ptr 25 0 0 1, .ptr 26 0 0 4, .int .i64 968, .int .u64 16, .int .u64 992, .int .i64 0, .int .i64 13, .nils, .int .i64 0, .int .i64 0] 138
def o117 : Ob := .box (rpA 992 (.int .u8 0) ([.int .u8 4] ++ (rpA 7 (.int .u8 0) ([.int .u8 4] ++ (rpA 7 (.int .u8 0) ([.int .u8 3] ++ (rpA 7 (.int .u8 0) ([.int .u8 3] ++ (rpA 7 (.int .u8 0) []))))))))) 5

def h51 : HMemo := ⟨13, [.ptr 12 0 0 11], 31, [⟨none, [0]⟩, ⟨some 12, [0]⟩, ⟨some 12, [1]⟩, ⟨some 12, [2]⟩, ⟨some 12, [3]⟩, ⟨some 12, [4]⟩, ⟨some 12, [5]⟩, ⟨some 12, [6]⟩, ⟨some 14, [0]⟩, ⟨some 14, [1]⟩, ⟨some 14, [2]⟩, ⟨some 15, [5]⟩, ⟨some 15, [6]⟩, ⟨some 15, [8]⟩, ⟨some 15, [9]⟩, ⟨some 21, [3]⟩, ⟨some 22, [0]⟩, ⟨some 23, [3]⟩, ⟨some 25, [0]⟩], [(12, o115), (14, .box ([.slc 20 0 0 0 (some 0) 1, .slc 21 0 0 1 none 4, .slc 22 0 0 1 none 1] ++ (rpA 64 (.int .i64 0) [])) 157), (15, o116), (21, .arr [.int .i64 0, .int .i64 3, .int .i64 4, .slc 27 19 0 20 none 6] 0 4 1 1 111), (22, .arr [.map 28] 0 1 1 1 159), (23, .arr [.int .i64 0, .int .i64 3, .int .i64 4, .slc 29 0 0 20 none 6] 0 4 1 1 111), (25, .box [.slc 30 0 0 1024 (some 1024) 1] 260), (28, o6), (30, o117)], .int .i64 0, [(12, o113), (15, o114), (30, o101)], [12, 15, 30], 80⟩
set_option maxRecDepth 1000000 in
theorem h51_ok : h51.ok Tryz.prog { tabCfg tabs with hk := bothHk 12 (tabM c157) (tabH d51) } 100000 12 (tabSt 12 tabs) = true := by kernel_rfl
theorem h51_sound : h51.Sound Tryz.prog 12 (tabCfg tabs) := hmemo_both c157_sound d51_sound (by kernel_rfl) tabs_lt h51_ok
def d52 : List HMemo := h51 :: d51
theorem d52_sound : ∀ m ∈ d52, m.Sound Tryz.prog 12 (tabCfg tabs) := hsound_cons h51_sound d51_sound
def o118 : Ob := .box [.slc 13 0 0 1 none 4, .ptr 14 0 0 67, .ptr 15 0 0 18, .ptr 16 0 0 8, .ptr 17 0 0 68, .ptr 18 0 0 36, .map 19, .bool false, .fn (.func 32) [.ptr 12 0 0 11] [], .int .i64 31, .int .i64 0] 95
def o119 : Ob := .box [.int .u32 1, .int .i32 0, .int .u32 0, .int .i64 0, .nils, .slc 23 0 0 1 none 4, .slc 24 0 0 1 none 1, .int .i64 1024, .ptr 25 0 0 1, .ptr 26 0 0 4, .int .i64 969, .int .u64 16, .int .u64 992, .int .i64 0, .int .i64 68, .nils, .int .i64 0, .int .i64 0] 138

def h52 : HMemo := ⟨13, [.ptr 12 0 0 11], 28, [⟨none, [0]⟩, ⟨some 12, [0]⟩, ⟨some 12, [1]⟩, ⟨some 12, [2]⟩, ⟨some 12, [3]⟩, ⟨some 12, [4]⟩, ⟨some 12, [5]⟩, ⟨some 12, [6]⟩, ⟨some 14, [0]⟩, ⟨some 14, [1]⟩, ⟨some 14, [2]⟩, ⟨some 15, [5]⟩, ⟨some 15, [6]⟩, ⟨some 15, [8]⟩, ⟨some 15, [9]⟩, ⟨some 22, [0]⟩], [(12, o118), (14, .box ([.slc 20 0 0 0 (some 0) 1, .slc 21 0 0 1 none 4, .slc 22 0 0 1 none 1] ++ (rpA 64 (.int .i64 0) [])) 157), (15, o119), (22, .arr [.map 27] 0 1 1 1 159), (27, o6)], .int .i64 0, [(12, o115), (15, o116)], [12, 15], 58⟩
set_option maxRecDepth 1000000 in
theorem h52_ok : h52.ok Tryz.prog { tabCfg tabs with hk := bothHk 12 (tabM c157) (tabH d52) } 100000 12 (tabSt 12 tabs) = true := by kernel_rfl
theorem h52_sound : h52.Sound Tryz.prog 12 (tabCfg tabs) := hmemo_both c157_sound d52_sound (by kernel_rfl) tabs_lt h52_ok
def d53 : List HMemo := h52 :: d52
theorem d53_sound : ∀ m ∈ d53, m.Sound Tryz.prog 12 (tabCfg tabs) := hsound_cons h52_sound d52_sound
def o120 : Ob := .box [.slc 13 0 0 1 none 4, .ptr 14 0 0 67, .ptr 15 0 0 18, .ptr 16 0 0 8, .ptr 17 0 0 68, .ptr 18 0 0 36, .map 19, .bool false, .fn (.func 32) [.ptr 12 0 0 11] [], .int .i64 30, .int .i64 0] 95
def o121 : Ob := .box [.int .u32 1, .int .i32 0, .int .u32 0, .int .i64 0, .nils, .slc 23 0 0 1 none 4, .slc 24 0 0 1 none 1, .int .i64 1024, .ptr 25 0 0 1, .ptr 26 0 0 4, .int .i64 970, .int .u64 16, .int .u64 992, .int .i64 0, .int .i64 65, .nils, .int .i64 0, .int .i64 0] 138

def h53 : HMemo := ⟨13, [.ptr 12 0 0 11], 30, [⟨none, [0]⟩, ⟨some 12, [0]⟩, ⟨some 12, [1]⟩, ⟨some 12, [2]⟩, ⟨some 12, [3]⟩, ⟨some 12, [4]⟩, ⟨some 12, [5]⟩, ⟨some 12, [6]⟩, ⟨some 14, [0]⟩, ⟨some 14, [1]⟩, ⟨some 14, [2]⟩, ⟨some 15, [5]⟩, ⟨some 15, [6]⟩, ⟨some 15, [8]⟩, ⟨some 15, [9]⟩, ⟨some 22, [0]⟩, ⟨some 23, [3]⟩, ⟨some 25, [0]⟩], [(12, o120), (14, .box ([.slc 20 0 0 0 (some 0) 1, .slc 21 0 0 1 none 4, .slc 22 0 0 1 none 1] ++ (rpA 64 (.int .i64 0) [])) 157), (15, o121), (22, .arr [.map 27] 0 1 1 1 159), (23, .arr [.int .i64 0, .int .i64 3, .int .i64 4, .slc 28 0 0 20 none 6] 0 4 1 1 111), (25, .box [.slc 29 0 0 1024 (some 1024) 1] 260), (27, o6), (29, o101)], .int .i64 0, [(12, o118), (15, o119), (29, o117)], [12, 15, 29], 88⟩
set_option maxRecDepth 1000000 in
theorem h53_ok : h53.ok Tryz.prog { tabCfg tabs with hk := bothHk 12 (tabM c157) (tabH d53) } 100000 12 (tabSt 12 tabs) = true := by kernel_rfl
theorem h53_sound : h53.Sound Tryz.prog 12 (tabCfg tabs) := hmemo_both c157_sound d53_sound (by kernel_rfl) tabs_lt h53_ok
def d54 : List HMemo := h53 :: d53
theorem d54_sound : ∀ m ∈ d54, m.Sound Tryz.prog 12 (tabCfg tabs) := hsound_cons h53_sound d53_sound
end Go.Proofs.YtbbnjiceenjhcaaGreatDoor
