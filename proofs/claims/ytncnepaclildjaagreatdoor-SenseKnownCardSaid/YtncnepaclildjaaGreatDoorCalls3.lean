/-
  Calls whose outcome is known, each shown by the evaluator with the earlier ones and the tables at hand; part 3. No condition.
-/
import Derived.Test.YtncnepaclildjaaGreatDoorCalls2
namespace Go.Proofs.YtncnepaclildjaaGreatDoor
open Go.Tw

def a31 : List AV := [strN [97]]
def m31 : Memo := ⟨102, a31, .bool true, [], 21⟩
set_option maxRecDepth 1000000 in
theorem m31_ok : m31.ok Tryz.prog { tabCfg tabs with hk := memoHk 12 (tabM c31) } 100000 12 (tabSt 12 tabs) = true := by kernel_rfl
theorem m31_sound : m31.Sound Tryz.prog 12 (tabCfg tabs) := memo_tab c31_sound (by kernel_rfl) tabs_lt m31_ok
def c32 : List Memo := m31 :: c31
theorem c32_sound : ∀ m ∈ c32, m.Sound Tryz.prog 12 (tabCfg tabs) := sound_cons m31_sound c31_sound

def a32 : List AV := [strN [103,101,116,98]]
def m32 : Memo := ⟨102, a32, .bool true, [], 21⟩
set_option maxRecDepth 1000000 in
theorem m32_ok : m32.ok Tryz.prog { tabCfg tabs with hk := memoHk 12 (tabM c32) } 100000 12 (tabSt 12 tabs) = true := by kernel_rfl
theorem m32_sound : m32.Sound Tryz.prog 12 (tabCfg tabs) := memo_tab c32_sound (by kernel_rfl) tabs_lt m32_ok
def c33 : List Memo := m32 :: c32
theorem c33_sound : ∀ m ∈ c33, m.Sound Tryz.prog 12 (tabCfg tabs) := sound_cons m32_sound c32_sound

def a33 : List AV := [strN [61,32,43,61,32,45,61,32,42,61,32,47,61,32,37,61,32,38,61,32,124,61,32,94,61,32,60,60,61,32,62,62,61], strN [61]]
def m33 : Memo := ⟨218, a33, .bool true, [], 13⟩
set_option maxRecDepth 1000000 in
theorem m33_ok : m33.ok Tryz.prog { tabCfg tabs with hk := memoHk 12 (tabM c33) } 100000 12 (tabSt 12 tabs) = true := by kernel_rfl
theorem m33_sound : m33.Sound Tryz.prog 12 (tabCfg tabs) := memo_tab c33_sound (by kernel_rfl) tabs_lt m33_ok
def c34 : List Memo := m33 :: c33
theorem c34_sound : ∀ m ∈ c34, m.Sound Tryz.prog 12 (tabCfg tabs) := sound_cons m33_sound c33_sound

def a34 : List AV := [strN [112,117,116,98]]
def m34 : Memo := ⟨102, a34, .bool true, [], 21⟩
set_option maxRecDepth 1000000 in
theorem m34_ok : m34.ok Tryz.prog { tabCfg tabs with hk := memoHk 12 (tabM c34) } 100000 12 (tabSt 12 tabs) = true := by kernel_rfl
theorem m34_sound : m34.Sound Tryz.prog 12 (tabCfg tabs) := memo_tab c34_sound (by kernel_rfl) tabs_lt m34_ok
def c35 : List Memo := m34 :: c34
theorem c35_sound : ∀ m ∈ c35, m.Sound Tryz.prog 12 (tabCfg tabs) := sound_cons m34_sound c34_sound

def a35 : List AV := [strN [43,43,32,45,45]]
def m35 : Memo := ⟨193, a35, .slc 12 0 0 2 (some 2) 1, [(12, .box [strN [43,43], strN [45,45]] 9)], 13⟩
set_option maxRecDepth 1000000 in
theorem m35_ok : m35.ok Tryz.prog { tabCfg tabs with hk := memoHk 12 (tabM c35) } 100000 12 (tabSt 12 tabs) = true := by kernel_rfl
theorem m35_sound : m35.Sound Tryz.prog 12 (tabCfg tabs) := memo_tab c35_sound (by kernel_rfl) tabs_lt m35_ok
def c36 : List Memo := m35 :: c35
theorem c36_sound : ∀ m ∈ c36, m.Sound Tryz.prog 12 (tabCfg tabs) := sound_cons m35_sound c35_sound

def a36 : List AV := [strN [108,115,115,115], strN [115,108,109]]
def m36 : Memo := ⟨220, a36, strN [], [], 14⟩
set_option maxRecDepth 1000000 in
theorem m36_ok : m36.ok Tryz.prog { tabCfg tabs with hk := memoHk 12 (tabM c36) } 100000 12 (tabSt 12 tabs) = true := by kernel_rfl
theorem m36_sound : m36.Sound Tryz.prog 12 (tabCfg tabs) := memo_tab c36_sound (by kernel_rfl) tabs_lt m36_ok
def c37 : List Memo := m36 :: c36
theorem c37_sound : ∀ m ∈ c37, m.Sound Tryz.prog 12 (tabCfg tabs) := sound_cons m36_sound c36_sound

def a37 : List AV := [strN [109,97,105,110]]
def m37 : Memo := ⟨102, a37, .bool true, [], 21⟩
set_option maxRecDepth 1000000 in
theorem m37_ok : m37.ok Tryz.prog { tabCfg tabs with hk := memoHk 12 (tabM c37) } 100000 12 (tabSt 12 tabs) = true := by kernel_rfl
theorem m37_sound : m37.Sound Tryz.prog 12 (tabCfg tabs) := memo_tab c37_sound (by kernel_rfl) tabs_lt m37_ok
def c38 : List Memo := m37 :: c37
theorem c38_sound : ∀ m ∈ c38, m.Sound Tryz.prog 12 (tabCfg tabs) := sound_cons m37_sound c37_sound

def a38 : List AV := [strN [102], strN [102,103]]
def m38 : Memo := ⟨220, a38, strN [], [], 14⟩
set_option maxRecDepth 1000000 in
theorem m38_ok : m38.ok Tryz.prog { tabCfg tabs with hk := memoHk 12 (tabM c38) } 100000 12 (tabSt 12 tabs) = true := by kernel_rfl
theorem m38_sound : m38.Sound Tryz.prog 12 (tabCfg tabs) := memo_tab c38_sound (by kernel_rfl) tabs_lt m38_ok
def c39 : List Memo := m38 :: c38
theorem c39_sound : ∀ m ∈ c39, m.Sound Tryz.prog 12 (tabCfg tabs) := sound_cons m38_sound c38_sound

def a39 : List AV := [.nils, .agg [.int .i64 5, .int .i64 0, .nils]]
def m39 : Memo := ⟨30, a39, .tup [.int .i64 4, .int .i64 0], [], 27⟩
set_option maxRecDepth 1000000 in
theorem m39_ok : m39.ok Tryz.prog { tabCfg tabs with hk := memoHk 12 (tabM c39) } 100000 12 (tabSt 12 tabs) = true := by kernel_rfl
theorem m39_sound : m39.Sound Tryz.prog 12 (tabCfg tabs) := memo_tab c39_sound (by kernel_rfl) tabs_lt m39_ok
def c40 : List Memo := m39 :: c39
theorem c40_sound : ∀ m ∈ c40, m.Sound Tryz.prog 12 (tabCfg tabs) := sound_cons m39_sound c39_sound

def a40 : List AV := [strN [45], .int .u64 5, .int .u64 1, .int .i64 5]
def m40 : Memo := ⟨347, a40, .int .u64 4, [], 16⟩
set_option maxRecDepth 1000000 in
theorem m40_ok : m40.ok Tryz.prog { tabCfg tabs with hk := memoHk 12 (tabM c40) } 100000 12 (tabSt 12 tabs) = true := by kernel_rfl
theorem m40_sound : m40.Sound Tryz.prog 12 (tabCfg tabs) := memo_tab c40_sound (by kernel_rfl) tabs_lt m40_ok
def c41 : List Memo := m40 :: c40
theorem c41_sound : ∀ m ∈ c41, m.Sound Tryz.prog 12 (tabCfg tabs) := sound_cons m40_sound c40_sound

def a41 : List AV := [strN [45], .int .u64 4, .int .u64 1, .int .i64 5]
def m41 : Memo := ⟨347, a41, .int .u64 3, [], 16⟩
set_option maxRecDepth 1000000 in
theorem m41_ok : m41.ok Tryz.prog { tabCfg tabs with hk := memoHk 12 (tabM c41) } 100000 12 (tabSt 12 tabs) = true := by kernel_rfl
theorem m41_sound : m41.Sound Tryz.prog 12 (tabCfg tabs) := memo_tab c41_sound (by kernel_rfl) tabs_lt m41_ok
def c42 : List Memo := m41 :: c41
theorem c42_sound : ∀ m ∈ c42, m.Sound Tryz.prog 12 (tabCfg tabs) := sound_cons m41_sound c41_sound

def a42 : List AV := [strN [45], .int .u64 3, .int .u64 1, .int .i64 5]
def m42 : Memo := ⟨347, a42, .int .u64 2, [], 16⟩
set_option maxRecDepth 1000000 in
theorem m42_ok : m42.ok Tryz.prog { tabCfg tabs with hk := memoHk 12 (tabM c42) } 100000 12 (tabSt 12 tabs) = true := by kernel_rfl
theorem m42_sound : m42.Sound Tryz.prog 12 (tabCfg tabs) := memo_tab c42_sound (by kernel_rfl) tabs_lt m42_ok
def c43 : List Memo := m42 :: c42
theorem c43_sound : ∀ m ∈ c43, m.Sound Tryz.prog 12 (tabCfg tabs) := sound_cons m42_sound c42_sound

def a43 : List AV := [strN [45], .int .u64 2, .int .u64 1, .int .i64 5]
def m43 : Memo := ⟨347, a43, .int .u64 1, [], 16⟩
set_option maxRecDepth 1000000 in
theorem m43_ok : m43.ok Tryz.prog { tabCfg tabs with hk := memoHk 12 (tabM c43) } 100000 12 (tabSt 12 tabs) = true := by kernel_rfl
theorem m43_sound : m43.Sound Tryz.prog 12 (tabCfg tabs) := memo_tab c43_sound (by kernel_rfl) tabs_lt m43_ok
def c44 : List Memo := m43 :: c43
theorem c44_sound : ∀ m ∈ c44, m.Sound Tryz.prog 12 (tabCfg tabs) := sound_cons m43_sound c43_sound

def a44 : List AV := [strN [45], .int .u64 1, .int .u64 1, .int .i64 5]
def m44 : Memo := ⟨347, a44, .int .u64 0, [], 16⟩
set_option maxRecDepth 1000000 in
theorem m44_ok : m44.ok Tryz.prog { tabCfg tabs with hk := memoHk 12 (tabM c44) } 100000 12 (tabSt 12 tabs) = true := by kernel_rfl
theorem m44_sound : m44.Sound Tryz.prog 12 (tabCfg tabs) := memo_tab c44_sound (by kernel_rfl) tabs_lt m44_ok
def c45 : List Memo := m44 :: c44
theorem c45_sound : ∀ m ∈ c45, m.Sound Tryz.prog 12 (tabCfg tabs) := sound_cons m44_sound c44_sound

def a45 : List AV := [strN [123,105,110,116,32,97,59,97,61,50,49,52,55,52,56,51,54,52,55,59,97,43,43,59,114,101,116,117,114,110,32,48,59,125]]
def m45 : Memo := ⟨90, a45, .int .i64 1, [], 13⟩
set_option maxRecDepth 1000000 in
theorem m45_ok : m45.ok Tryz.prog { tabCfg tabs with hk := memoHk 12 (tabM c45) } 100000 12 (tabSt 12 tabs) = true := by kernel_rfl
theorem m45_sound : m45.Sound Tryz.prog 12 (tabCfg tabs) := memo_tab c45_sound (by kernel_rfl) tabs_lt m45_ok
def c46 : List Memo := m45 :: c45
theorem c46_sound : ∀ m ∈ c46, m.Sound Tryz.prog 12 (tabCfg tabs) := sound_cons m45_sound c45_sound

def a46 : List AV := [strN [59,97,61,50,49,52,55,52,56,51,54,52,55,59,97,43,43,59,114,101,116,117,114,110,32,48,59,125]]
def m46 : Memo := ⟨90, a46, .int .i64 1, [], 13⟩
set_option maxRecDepth 1000000 in
theorem m46_ok : m46.ok Tryz.prog { tabCfg tabs with hk := memoHk 12 (tabM c46) } 100000 12 (tabSt 12 tabs) = true := by kernel_rfl
theorem m46_sound : m46.Sound Tryz.prog 12 (tabCfg tabs) := memo_tab c46_sound (by kernel_rfl) tabs_lt m46_ok
def c47 : List Memo := m46 :: c46
theorem c47_sound : ∀ m ∈ c47, m.Sound Tryz.prog 12 (tabCfg tabs) := sound_cons m46_sound c46_sound

def a47 : List AV := [strN [61,50,49,52,55,52,56,51,54,52,55,59,97,43,43,59,114,101,116,117,114,110,32,48,59,125]]
def m47 : Memo := ⟨90, a47, .int .i64 1, [], 13⟩
set_option maxRecDepth 1000000 in
theorem m47_ok : m47.ok Tryz.prog { tabCfg tabs with hk := memoHk 12 (tabM c47) } 100000 12 (tabSt 12 tabs) = true := by kernel_rfl
theorem m47_sound : m47.Sound Tryz.prog 12 (tabCfg tabs) := memo_tab c47_sound (by kernel_rfl) tabs_lt m47_ok
def c48 : List Memo := m47 :: c47
theorem c48_sound : ∀ m ∈ c48, m.Sound Tryz.prog 12 (tabCfg tabs) := sound_cons m47_sound c47_sound

def a48 : List AV := [strN [59,97,43,43,59,114,101,116,117,114,110,32,48,59,125]]
def m48 : Memo := ⟨90, a48, .int .i64 1, [], 13⟩
set_option maxRecDepth 1000000 in
theorem m48_ok : m48.ok Tryz.prog { tabCfg tabs with hk := memoHk 12 (tabM c48) } 100000 12 (tabSt 12 tabs) = true := by kernel_rfl
theorem m48_sound : m48.Sound Tryz.prog 12 (tabCfg tabs) := memo_tab c48_sound (by kernel_rfl) tabs_lt m48_ok
def c49 : List Memo := m48 :: c48
theorem c49_sound : ∀ m ∈ c49, m.Sound Tryz.prog 12 (tabCfg tabs) := sound_cons m48_sound c48_sound

def a49 : List AV := [strN [59,114,101,116,117,114,110,32,48,59,125]]
def m49 : Memo := ⟨90, a49, .int .i64 1, [], 13⟩
set_option maxRecDepth 1000000 in
theorem m49_ok : m49.ok Tryz.prog { tabCfg tabs with hk := memoHk 12 (tabM c49) } 100000 12 (tabSt 12 tabs) = true := by kernel_rfl
theorem m49_sound : m49.Sound Tryz.prog 12 (tabCfg tabs) := memo_tab c49_sound (by kernel_rfl) tabs_lt m49_ok
def c50 : List Memo := m49 :: c49
theorem c50_sound : ∀ m ∈ c50, m.Sound Tryz.prog 12 (tabCfg tabs) := sound_cons m49_sound c49_sound

def a50 : List AV := [strN [105,110,116,32,109,97,105,110,40,118,111,105,100,41,123,105,110,116,32,97,59,97,61,50,49,52,55,52,56,51,54,52,55,59,97,43,43,59,114,101,116,117,114,110,32,48,59,125]]
def m50 : Memo := ⟨10, a50, .tup [.slc 19 19 0 20 none 6, .agg [.int .i64 0, .int .i64 0]], [(19, .arr [.int .i64 2, .int .i64 0, .int .i64 3, strN [105,110,116], .int .i64 0, .nils, .int .i64 1, .int .i64 4, .int .i64 4, strN [109,97,105,110], .int .i64 0, .nils, .int .i64 6, .int .i64 8, .int .i64 1, strN [40], .int .i64 0, .nils, .int .i64 2, .int .i64 9, .int .i64 4, strN [118,111,105,100], .int .i64 0, .nils, .int .i64 6, .int .i64 13, .int .i64 1, strN [41], .int .i64 0, .nils, .int .i64 6, .int .i64 14, .int .i64 1, strN [123], .int .i64 0, .nils, .int .i64 2, .int .i64 15, .int .i64 3, strN [105,110,116], .int .i64 0, .nils, .int .i64 1, .int .i64 19, .int .i64 1, strN [97], .int .i64 0, .nils, .int .i64 6, .int .i64 20, .int .i64 1, strN [59], .int .i64 0, .nils, .int .i64 1, .int .i64 21, .int .i64 1, strN [97], .int .i64 0, .nils, .int .i64 6, .int .i64 22, .int .i64 1, strN [61], .int .i64 0, .nils, .int .i64 3, .int .i64 23, .int .i64 10, strN [], .int .i64 2147483647, .nils, .int .i64 6, .int .i64 33, .int .i64 1, strN [59], .int .i64 0, .nils, .int .i64 1, .int .i64 34, .int .i64 1, strN [97], .int .i64 0, .nils, .int .i64 6, .int .i64 35, .int .i64 2, strN [43,43], .int .i64 0, .nils, .int .i64 6, .int .i64 37, .int .i64 1, strN [59], .int .i64 0, .nils, .int .i64 2, .int .i64 38, .int .i64 6, strN [114,101,116,117,114,110], .int .i64 0, .nils, .int .i64 3, .int .i64 45, .int .i64 1, strN [], .int .i64 0, .nils, .int .i64 6, .int .i64 46, .int .i64 1, strN [59], .int .i64 0, .nils, .int .i64 6, .int .i64 47, .int .i64 1, strN [125], .int .i64 0, .nils] 0 6 1 20 83)], 109⟩
set_option maxRecDepth 1000000 in
theorem m50_ok : m50.ok Tryz.prog { tabCfg tabs with hk := memoHk 12 (tabM c50) } 100000 12 (tabSt 12 tabs) = true := by kernel_rfl
theorem m50_sound : m50.Sound Tryz.prog 12 (tabCfg tabs) := memo_tab c50_sound (by kernel_rfl) tabs_lt m50_ok
def c51 : List Memo := m50 :: c50
theorem c51_sound : ∀ m ∈ c51, m.Sound Tryz.prog 12 (tabCfg tabs) := sound_cons m50_sound c50_sound
end Go.Proofs.YtncnepaclildjaaGreatDoor
