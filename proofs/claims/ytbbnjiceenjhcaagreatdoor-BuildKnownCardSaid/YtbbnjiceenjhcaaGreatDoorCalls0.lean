/-
  Calls whose outcome is known, each shown by the evaluator with the earlier ones and the tables at hand; part 0. No condition.
-/
import Derived.Test.YtbbnjiceenjhcaaGreatDoorTabs0
set_option linter.all false
namespace Go.Proofs.YtbbnjiceenjhcaaGreatDoor
open Go.Tw
def c0 : List Memo := []
theorem c0_sound : ∀ m ∈ c0, m.Sound Tryz.prog 12 (tabCfg tabs) := sound_nil
def d0 : List HMemo := []
theorem d0_sound : ∀ m ∈ d0, m.Sound Tryz.prog 12 (tabCfg tabs) := hsound_nil

def a0 : List AV := []
def m0 : Memo := ⟨507, a0, .slc 12 0 0 21 (some 21) 1, [(12, .box [strN [105,110,116], strN [99,104,97,114], strN [115,104,111,114,116], strN [108,111,110,103], strN [117,110,115,105,103,110,101,100], strN [115,105,103,110,101,100], strN [118,111,105,100], strN [115,116,114,117,99,116], strN [105,102], strN [101,108,115,101], strN [119,104,105,108,101], strN [102,111,114], strN [100,111], strN [114,101,116,117,114,110], strN [98,114,101,97,107], strN [99,111,110,116,105,110,117,101], strN [115,105,122,101,111,102], strN [103,111,116,111], strN [115,119,105,116,99,104], strN [99,97,115,101], strN [100,101,102,97,117,108,116]] 9)], 13⟩
set_option maxRecDepth 1000000 in
theorem m0_ok : m0.ok Tryz.prog { tabCfg tabs with hk := bothHk 12 (tabM c0) (tabH d0) } 100000 12 (tabSt 12 tabs) = true := by kernel_rfl
theorem m0_sound : m0.Sound Tryz.prog 12 (tabCfg tabs) := memo_both c0_sound d0_sound (by kernel_rfl) tabs_lt m0_ok
def c1 : List Memo := m0 :: c0
theorem c1_sound : ∀ m ∈ c1, m.Sound Tryz.prog 12 (tabCfg tabs) := sound_cons m0_sound c0_sound

def a1 : List AV := [strN [109,97,105,110]]
def m1 : Memo := ⟨381, a1, .bool false, [], 13⟩
set_option maxRecDepth 1000000 in
theorem m1_ok : m1.ok Tryz.prog { tabCfg tabs with hk := bothHk 12 (tabM c1) (tabH d0) } 100000 12 (tabSt 12 tabs) = true := by kernel_rfl
theorem m1_sound : m1.Sound Tryz.prog 12 (tabCfg tabs) := memo_both c1_sound d0_sound (by kernel_rfl) tabs_lt m1_ok
def c2 : List Memo := m1 :: c1
theorem c2_sound : ∀ m ∈ c2, m.Sound Tryz.prog 12 (tabCfg tabs) := sound_cons m1_sound c1_sound

def a2 : List AV := []
def m2 : Memo := ⟨513, a2, .slc 12 0 0 45 (some 45) 1, [(12, .box [strN [60,60,61], strN [62,62,61], strN [45,62], strN [43,43], strN [45,45], strN [60,61], strN [62,61], strN [61,61], strN [33,61], strN [38,38], strN [124,124], strN [60,60], strN [62,62], strN [43,61], strN [45,61], strN [42,61], strN [47,61], strN [37,61], strN [38,61], strN [124,61], strN [94,61], strN [40], strN [41], strN [123], strN [125], strN [91], strN [93], strN [59], strN [44], strN [46], strN [45], strN [43], strN [42], strN [47], strN [37], strN [38], strN [124], strN [94], strN [126], strN [33], strN [60], strN [62], strN [61], strN [63], strN [58]] 9)], 13⟩
set_option maxRecDepth 1000000 in
theorem m2_ok : m2.ok Tryz.prog { tabCfg tabs with hk := bothHk 12 (tabM c2) (tabH d0) } 100000 12 (tabSt 12 tabs) = true := by kernel_rfl
theorem m2_sound : m2.Sound Tryz.prog 12 (tabCfg tabs) := memo_both c2_sound d0_sound (by kernel_rfl) tabs_lt m2_ok
def c3 : List Memo := m2 :: c2
theorem c3_sound : ∀ m ∈ c3, m.Sound Tryz.prog 12 (tabCfg tabs) := sound_cons m2_sound c2_sound

def a3 : List AV := [strN [118,111,105,100]]
def m3 : Memo := ⟨381, a3, .bool true, [], 13⟩
set_option maxRecDepth 1000000 in
theorem m3_ok : m3.ok Tryz.prog { tabCfg tabs with hk := bothHk 12 (tabM c3) (tabH d0) } 100000 12 (tabSt 12 tabs) = true := by kernel_rfl
theorem m3_sound : m3.Sound Tryz.prog 12 (tabCfg tabs) := memo_both c3_sound d0_sound (by kernel_rfl) tabs_lt m3_ok
def c4 : List Memo := m3 :: c3
theorem c4_sound : ∀ m ∈ c4, m.Sound Tryz.prog 12 (tabCfg tabs) := sound_cons m3_sound c3_sound

def a4 : List AV := [strN [114,101,116,117,114,110]]
def m4 : Memo := ⟨381, a4, .bool true, [], 13⟩
set_option maxRecDepth 1000000 in
theorem m4_ok : m4.ok Tryz.prog { tabCfg tabs with hk := bothHk 12 (tabM c4) (tabH d0) } 100000 12 (tabSt 12 tabs) = true := by kernel_rfl
theorem m4_sound : m4.Sound Tryz.prog 12 (tabCfg tabs) := memo_both c4_sound d0_sound (by kernel_rfl) tabs_lt m4_ok
def c5 : List Memo := m4 :: c4
theorem c5_sound : ∀ m ∈ c5, m.Sound Tryz.prog 12 (tabCfg tabs) := sound_cons m4_sound c4_sound

def a5 : List AV := [strN [59,125]]
def m5 : Memo := ⟨386, a5, .int .i64 1, [], 13⟩
set_option maxRecDepth 1000000 in
theorem m5_ok : m5.ok Tryz.prog { tabCfg tabs with hk := bothHk 12 (tabM c5) (tabH d0) } 100000 12 (tabSt 12 tabs) = true := by kernel_rfl
theorem m5_sound : m5.Sound Tryz.prog 12 (tabCfg tabs) := memo_both c5_sound d0_sound (by kernel_rfl) tabs_lt m5_ok
def c6 : List Memo := m5 :: c5
theorem c6_sound : ∀ m ∈ c6, m.Sound Tryz.prog 12 (tabCfg tabs) := sound_cons m5_sound c5_sound

def a6 : List AV := [strN [125]]
def m6 : Memo := ⟨386, a6, .int .i64 1, [], 13⟩
set_option maxRecDepth 1000000 in
theorem m6_ok : m6.ok Tryz.prog { tabCfg tabs with hk := bothHk 12 (tabM c6) (tabH d0) } 100000 12 (tabSt 12 tabs) = true := by kernel_rfl
theorem m6_sound : m6.Sound Tryz.prog 12 (tabCfg tabs) := memo_both c6_sound d0_sound (by kernel_rfl) tabs_lt m6_ok
def c7 : List Memo := m6 :: c6
theorem c7_sound : ∀ m ∈ c7, m.Sound Tryz.prog 12 (tabCfg tabs) := sound_cons m6_sound c6_sound

def a7 : List AV := [.nils, .agg [.int .i64 5, .int .i64 0, .nils]]
def m7 : Memo := ⟨297, a7, .int .i64 0, [], 20⟩
set_option maxRecDepth 1000000 in
theorem m7_ok : m7.ok Tryz.prog { tabCfg tabs with hk := bothHk 12 (tabM c7) (tabH d0) } 100000 12 (tabSt 12 tabs) = true := by kernel_rfl
theorem m7_sound : m7.Sound Tryz.prog 12 (tabCfg tabs) := memo_both c7_sound d0_sound (by kernel_rfl) tabs_lt m7_ok
def c8 : List Memo := m7 :: c7
theorem c8_sound : ∀ m ∈ c8, m.Sound Tryz.prog 12 (tabCfg tabs) := sound_cons m7_sound c7_sound

def a8 : List AV := [strN [105,110,116,32,109,97,105,110,40,118,111,105,100,41,123,114,101,116,117,114,110,32,55,59,125]]
def m8 : Memo := ⟨47, a8, .tup [.agg [.nils, .slc 221 4 0 5 none 8], .agg [.int .i64 0, .int .i64 0]], [(221, .arr [.int .i64 1, .int .i64 22, strN [], .int .i64 7, .int .i64 0, .int .i64 0, .nils, .nils, .int .i64 22, .int .i64 15, strN [], .int .i64 0, .int .i64 0, .int .i64 0, .nils, .slc 260 0 0 1 none 1, .int .i64 17, .int .i64 14, strN [], .int .i64 0, .int .i64 0, .int .i64 0, .nils, .slc 267 0 0 1 none 1, .int .i64 32, .int .i64 0, strN [109,97,105,110], .int .i64 0, .int .i64 5, .int .i64 0, .nils, .slc 277 0 0 1 none 1, .int .i64 34, .int .i64 0, strN [], .int .i64 0, .int .i64 0, .int .i64 0, .nils, .slc 281 0 0 1 none 1] 0 8 1 5 304), (260, .arr [.int .i64 0] 0 1 1 1 3), (267, .arr [.int .i64 1] 0 1 1 1 3), (277, .arr [.int .i64 2] 0 1 1 1 3), (281, .arr [.int .i64 3] 0 1 1 1 3)], 284⟩
set_option maxRecDepth 1000000 in
theorem m8_ok : m8.ok Tryz.prog { tabCfg tabs with hk := bothHk 12 (tabM c8) (tabH d0) } 100000 12 (tabSt 12 tabs) = true := by kernel_rfl
theorem m8_sound : m8.Sound Tryz.prog 12 (tabCfg tabs) := memo_both c8_sound d0_sound (by kernel_rfl) tabs_lt m8_ok
def c9 : List Memo := m8 :: c8
theorem c9_sound : ∀ m ∈ c9, m.Sound Tryz.prog 12 (tabCfg tabs) := sound_cons m8_sound c8_sound

def a9 : List AV := [strN [109,97,105,110]]
def m9 : Memo := ⟨291, a9, .bool true, [], 21⟩
set_option maxRecDepth 1000000 in
theorem m9_ok : m9.ok Tryz.prog { tabCfg tabs with hk := bothHk 12 (tabM c9) (tabH d0) } 100000 12 (tabSt 12 tabs) = true := by kernel_rfl
theorem m9_sound : m9.Sound Tryz.prog 12 (tabCfg tabs) := memo_both c9_sound d0_sound (by kernel_rfl) tabs_lt m9_ok
def c10 : List Memo := m9 :: c9
theorem c10_sound : ∀ m ∈ c10, m.Sound Tryz.prog 12 (tabCfg tabs) := sound_cons m9_sound c9_sound

def a10 : List AV := [strN [102], strN [102,103]]
def m10 : Memo := ⟨524, a10, strN [], [], 14⟩
set_option maxRecDepth 1000000 in
theorem m10_ok : m10.ok Tryz.prog { tabCfg tabs with hk := bothHk 12 (tabM c10) (tabH d0) } 100000 12 (tabSt 12 tabs) = true := by kernel_rfl
theorem m10_sound : m10.Sound Tryz.prog 12 (tabCfg tabs) := memo_both c10_sound d0_sound (by kernel_rfl) tabs_lt m10_ok
def c11 : List Memo := m10 :: c10
theorem c11_sound : ∀ m ∈ c11, m.Sound Tryz.prog 12 (tabCfg tabs) := sound_cons m10_sound c10_sound

def a11 : List AV := [strN [119,105], strN [105,107,109,122,102,100,116,99]]
def m11 : Memo := ⟨458, a11, .bool true, [], 13⟩
set_option maxRecDepth 1000000 in
theorem m11_ok : m11.ok Tryz.prog { tabCfg tabs with hk := bothHk 12 (tabM c11) (tabH d0) } 100000 12 (tabSt 12 tabs) = true := by kernel_rfl
theorem m11_sound : m11.Sound Tryz.prog 12 (tabCfg tabs) := memo_both c11_sound d0_sound (by kernel_rfl) tabs_lt m11_ok
def c12 : List Memo := m11 :: c11
theorem c12_sound : ∀ m ∈ c12, m.Sound Tryz.prog 12 (tabCfg tabs) := sound_cons m11_sound c11_sound

def a12 : List AV := [.agg [.int .i64 1, .int .i64 0, .int .i64 0, .int .i64 0, .int .i64 7, .nils]]
def m12 : Memo := ⟨240, a12, .tup [.slc 18 0 0 1 none 1, .nils, .int .i64 0], [(18, .arr [.int .i64 0] 0 1 1 1 3)], 19⟩
set_option maxRecDepth 1000000 in
theorem m12_ok : m12.ok Tryz.prog { tabCfg tabs with hk := bothHk 12 (tabM c12) (tabH d0) } 100000 12 (tabSt 12 tabs) = true := by kernel_rfl
theorem m12_sound : m12.Sound Tryz.prog 12 (tabCfg tabs) := memo_both c12_sound d0_sound (by kernel_rfl) tabs_lt m12_ok
def c13 : List Memo := m12 :: c12
theorem c13_sound : ∀ m ∈ c13, m.Sound Tryz.prog 12 (tabCfg tabs) := sound_cons m12_sound c12_sound

def a13 : List AV := [.agg [.int .i64 1, .int .i64 0, .int .i64 0, .int .i64 0, .int .i64 7, .nils]]
def m13 : Memo := ⟨202, a13, .int .i64 0, [], 32⟩
set_option maxRecDepth 1000000 in
theorem m13_ok : m13.ok Tryz.prog { tabCfg tabs with hk := bothHk 12 (tabM c13) (tabH d0) } 100000 12 (tabSt 12 tabs) = true := by kernel_rfl
theorem m13_sound : m13.Sound Tryz.prog 12 (tabCfg tabs) := memo_both c13_sound d0_sound (by kernel_rfl) tabs_lt m13_ok
def c14 : List Memo := m13 :: c13
theorem c14_sound : ∀ m ∈ c14, m.Sound Tryz.prog 12 (tabCfg tabs) := sound_cons m13_sound c13_sound

def a14 : List AV := [.agg [.int .i64 1, .int .i64 0, .int .i64 0, .int .i64 0, .int .i64 7, .nils]]
def m14 : Memo := ⟨102, a14, .tup [.slc 40 1 0 10 none 1, .int .i64 0], [(40, .arr [.int .u8 1, .int .u8 0, .int .u8 7, .int .u8 0, .int .u8 0, .int .u8 0, .int .u8 0, .int .u8 0, .int .u8 0, .int .u8 0] 0 2 1 2 5)], 50⟩
set_option maxRecDepth 1000000 in
theorem m14_ok : m14.ok Tryz.prog { tabCfg tabs with hk := bothHk 12 (tabM c14) (tabH d0) } 100000 12 (tabSt 12 tabs) = true := by kernel_rfl
theorem m14_sound : m14.Sound Tryz.prog 12 (tabCfg tabs) := memo_both c14_sound d0_sound (by kernel_rfl) tabs_lt m14_ok
def c15 : List Memo := m14 :: c14
theorem c15_sound : ∀ m ∈ c15, m.Sound Tryz.prog 12 (tabCfg tabs) := sound_cons m14_sound c14_sound

def a15 : List AV := [.agg [.int .i64 29, .int .i64 0, .int .i64 0, .int .i64 0, .int .i64 0, .nils]]
def m15 : Memo := ⟨343, a15, .bool true, [], 17⟩
set_option maxRecDepth 1000000 in
theorem m15_ok : m15.ok Tryz.prog { tabCfg tabs with hk := bothHk 12 (tabM c15) (tabH d0) } 100000 12 (tabSt 12 tabs) = true := by kernel_rfl
theorem m15_sound : m15.Sound Tryz.prog 12 (tabCfg tabs) := memo_both c15_sound d0_sound (by kernel_rfl) tabs_lt m15_ok
def c16 : List Memo := m15 :: c15
theorem c16_sound : ∀ m ∈ c16, m.Sound Tryz.prog 12 (tabCfg tabs) := sound_cons m15_sound c15_sound

def a16 : List AV := [.agg [.int .i64 29, .int .i64 0, .int .i64 0, .int .i64 0, .int .i64 0, .nils]]
def m16 : Memo := ⟨240, a16, .tup [.slc 18 0 0 1 none 1, .slc 20 0 0 1 none 1, .int .i64 (-1)], [(18, .arr [.int .i64 0] 0 1 1 1 3), (20, .arr [.int .i64 0] 0 1 1 1 3)], 21⟩
set_option maxRecDepth 1000000 in
theorem m16_ok : m16.ok Tryz.prog { tabCfg tabs with hk := bothHk 12 (tabM c16) (tabH d0) } 100000 12 (tabSt 12 tabs) = true := by kernel_rfl
theorem m16_sound : m16.Sound Tryz.prog 12 (tabCfg tabs) := memo_both c16_sound d0_sound (by kernel_rfl) tabs_lt m16_ok
def c17 : List Memo := m16 :: c16
theorem c17_sound : ∀ m ∈ c17, m.Sound Tryz.prog 12 (tabCfg tabs) := sound_cons m16_sound c16_sound

def a17 : List AV := [.agg [.int .i64 29, .int .i64 0, .int .i64 0, .int .i64 0, .int .i64 0, .nils]]
def m17 : Memo := ⟨202, a17, .int .i64 0, [], 34⟩
set_option maxRecDepth 1000000 in
theorem m17_ok : m17.ok Tryz.prog { tabCfg tabs with hk := bothHk 12 (tabM c17) (tabH d0) } 100000 12 (tabSt 12 tabs) = true := by kernel_rfl
theorem m17_sound : m17.Sound Tryz.prog 12 (tabCfg tabs) := memo_both c17_sound d0_sound (by kernel_rfl) tabs_lt m17_ok
def c18 : List Memo := m17 :: c17
theorem c18_sound : ∀ m ∈ c18, m.Sound Tryz.prog 12 (tabCfg tabs) := sound_cons m17_sound c17_sound

def a18 : List AV := [.agg [.int .i64 29, .int .i64 0, .int .i64 0, .int .i64 0, .int .i64 0, .nils]]
def m18 : Memo := ⟨102, a18, .tup [.slc 42 0 0 2 none 1, .int .i64 0], [(42, .arr [.int .u8 29, .int .u8 0] 0 2 1 1 5)], 43⟩
set_option maxRecDepth 1000000 in
theorem m18_ok : m18.ok Tryz.prog { tabCfg tabs with hk := bothHk 12 (tabM c18) (tabH d0) } 100000 12 (tabSt 12 tabs) = true := by kernel_rfl
theorem m18_sound : m18.Sound Tryz.prog 12 (tabCfg tabs) := memo_both c18_sound d0_sound (by kernel_rfl) tabs_lt m18_ok
def c19 : List Memo := m18 :: c18
theorem c19_sound : ∀ m ∈ c19, m.Sound Tryz.prog 12 (tabCfg tabs) := sound_cons m18_sound c18_sound

def a19 : List AV := [.agg [.int .i64 29, .int .i64 0, .int .i64 0, .int .i64 0, .int .i64 0, .nils]]
def m19 : Memo := ⟨57, a19, .int .i64 2, [], 44⟩
set_option maxRecDepth 1000000 in
theorem m19_ok : m19.ok Tryz.prog { tabCfg tabs with hk := bothHk 12 (tabM c19) (tabH d0) } 100000 12 (tabSt 12 tabs) = true := by kernel_rfl
theorem m19_sound : m19.Sound Tryz.prog 12 (tabCfg tabs) := memo_both c19_sound d0_sound (by kernel_rfl) tabs_lt m19_ok
def c20 : List Memo := m19 :: c19
theorem c20_sound : ∀ m ∈ c20, m.Sound Tryz.prog 12 (tabCfg tabs) := sound_cons m19_sound c19_sound

def a20 : List AV := [.agg [.int .i64 1, .int .i64 0, .int .i64 0, .int .i64 0, .int .i64 0, .nils]]
def m20 : Memo := ⟨343, a20, .bool true, [], 17⟩
set_option maxRecDepth 1000000 in
theorem m20_ok : m20.ok Tryz.prog { tabCfg tabs with hk := bothHk 12 (tabM c20) (tabH d0) } 100000 12 (tabSt 12 tabs) = true := by kernel_rfl
theorem m20_sound : m20.Sound Tryz.prog 12 (tabCfg tabs) := memo_both c20_sound d0_sound (by kernel_rfl) tabs_lt m20_ok
def c21 : List Memo := m20 :: c20
theorem c21_sound : ∀ m ∈ c21, m.Sound Tryz.prog 12 (tabCfg tabs) := sound_cons m20_sound c20_sound

def a21 : List AV := [.agg [.int .i64 1, .int .i64 0, .int .i64 0, .int .i64 0, .int .i64 0, .nils]]
def m21 : Memo := ⟨240, a21, .tup [.slc 18 0 0 1 none 1, .nils, .int .i64 0], [(18, .arr [.int .i64 0] 0 1 1 1 3)], 19⟩
set_option maxRecDepth 1000000 in
theorem m21_ok : m21.ok Tryz.prog { tabCfg tabs with hk := bothHk 12 (tabM c21) (tabH d0) } 100000 12 (tabSt 12 tabs) = true := by kernel_rfl
theorem m21_sound : m21.Sound Tryz.prog 12 (tabCfg tabs) := memo_both c21_sound d0_sound (by kernel_rfl) tabs_lt m21_ok
def c22 : List Memo := m21 :: c21
theorem c22_sound : ∀ m ∈ c22, m.Sound Tryz.prog 12 (tabCfg tabs) := sound_cons m21_sound c21_sound

def a22 : List AV := [.agg [.int .i64 1, .int .i64 0, .int .i64 0, .int .i64 0, .int .i64 0, .nils]]
def m22 : Memo := ⟨202, a22, .int .i64 0, [], 32⟩
set_option maxRecDepth 1000000 in
theorem m22_ok : m22.ok Tryz.prog { tabCfg tabs with hk := bothHk 12 (tabM c22) (tabH d0) } 100000 12 (tabSt 12 tabs) = true := by kernel_rfl
theorem m22_sound : m22.Sound Tryz.prog 12 (tabCfg tabs) := memo_both c22_sound d0_sound (by kernel_rfl) tabs_lt m22_ok
def c23 : List Memo := m22 :: c22
theorem c23_sound : ∀ m ∈ c23, m.Sound Tryz.prog 12 (tabCfg tabs) := sound_cons m22_sound c22_sound

def a23 : List AV := [.int .u64 0, .int .i64 8]
def m23 : Memo := ⟨198, a23, .tup [.slc 13 7 0 8 none 1, .int .i64 0], [(13, .arr [.int .u8 0, .int .u8 0, .int .u8 0, .int .u8 0, .int .u8 0, .int .u8 0, .int .u8 0, .int .u8 0] 0 1 1 8 5)], 21⟩
set_option maxRecDepth 1000000 in
theorem m23_ok : m23.ok Tryz.prog { tabCfg tabs with hk := bothHk 12 (tabM c23) (tabH d0) } 100000 12 (tabSt 12 tabs) = true := by kernel_rfl
theorem m23_sound : m23.Sound Tryz.prog 12 (tabCfg tabs) := memo_both c23_sound d0_sound (by kernel_rfl) tabs_lt m23_ok
def c24 : List Memo := m23 :: c23
theorem c24_sound : ∀ m ∈ c24, m.Sound Tryz.prog 12 (tabCfg tabs) := sound_cons m23_sound c23_sound

def a24 : List AV := [.agg [.int .i64 1, .int .i64 0, .int .i64 0, .int .i64 0, .int .i64 0, .nils]]
def m24 : Memo := ⟨102, a24, .tup [.slc 40 1 0 10 none 1, .int .i64 0], [(40, .arr [.int .u8 1, .int .u8 0, .int .u8 0, .int .u8 0, .int .u8 0, .int .u8 0, .int .u8 0, .int .u8 0, .int .u8 0, .int .u8 0] 0 2 1 2 5)], 50⟩
set_option maxRecDepth 1000000 in
theorem m24_ok : m24.ok Tryz.prog { tabCfg tabs with hk := bothHk 12 (tabM c24) (tabH d0) } 100000 12 (tabSt 12 tabs) = true := by kernel_rfl
theorem m24_sound : m24.Sound Tryz.prog 12 (tabCfg tabs) := memo_both c24_sound d0_sound (by kernel_rfl) tabs_lt m24_ok
def c25 : List Memo := m24 :: c24
theorem c25_sound : ∀ m ∈ c25, m.Sound Tryz.prog 12 (tabCfg tabs) := sound_cons m24_sound c24_sound

def a25 : List AV := [.agg [.int .i64 1, .int .i64 0, .int .i64 0, .int .i64 0, .int .i64 0, .nils]]
def m25 : Memo := ⟨57, a25, .int .i64 10, [], 51⟩
set_option maxRecDepth 1000000 in
theorem m25_ok : m25.ok Tryz.prog { tabCfg tabs with hk := bothHk 12 (tabM c25) (tabH d0) } 100000 12 (tabSt 12 tabs) = true := by kernel_rfl
theorem m25_sound : m25.Sound Tryz.prog 12 (tabCfg tabs) := memo_both c25_sound d0_sound (by kernel_rfl) tabs_lt m25_ok
def c26 : List Memo := m25 :: c25
theorem c26_sound : ∀ m ∈ c26, m.Sound Tryz.prog 12 (tabCfg tabs) := sound_cons m25_sound c25_sound

def a26 : List AV := [.agg [.int .i64 1, .int .i64 0, .int .i64 0, .int .i64 0, .int .i64 7, .nils], .int .i64 1, .int .i64 0]
def m26 : Memo := ⟨207, a26, .int .i64 0, [], 31⟩
set_option maxRecDepth 1000000 in
theorem m26_ok : m26.ok Tryz.prog { tabCfg tabs with hk := bothHk 12 (tabM c26) (tabH d0) } 100000 12 (tabSt 12 tabs) = true := by kernel_rfl
theorem m26_sound : m26.Sound Tryz.prog 12 (tabCfg tabs) := memo_both c26_sound d0_sound (by kernel_rfl) tabs_lt m26_ok
def c27 : List Memo := m26 :: c26
theorem c27_sound : ∀ m ∈ c27, m.Sound Tryz.prog 12 (tabCfg tabs) := sound_cons m26_sound c26_sound

def a27 : List AV := [.agg [.int .i64 29, .int .i64 0, .int .i64 0, .int .i64 0, .int .i64 0, .nils], .int .i64 1, .int .i64 0]
def m27 : Memo := ⟨207, a27, .int .i64 0, [], 33⟩
set_option maxRecDepth 1000000 in
theorem m27_ok : m27.ok Tryz.prog { tabCfg tabs with hk := bothHk 12 (tabM c27) (tabH d0) } 100000 12 (tabSt 12 tabs) = true := by kernel_rfl
theorem m27_sound : m27.Sound Tryz.prog 12 (tabCfg tabs) := memo_both c27_sound d0_sound (by kernel_rfl) tabs_lt m27_ok
def c28 : List Memo := m27 :: c27
theorem c28_sound : ∀ m ∈ c28, m.Sound Tryz.prog 12 (tabCfg tabs) := sound_cons m27_sound c27_sound

def a28 : List AV := [.agg [.int .i64 1, .int .i64 0, .int .i64 0, .int .i64 0, .int .i64 0, .nils], .int .i64 1, .int .i64 0]
def m28 : Memo := ⟨207, a28, .int .i64 0, [], 31⟩
set_option maxRecDepth 1000000 in
theorem m28_ok : m28.ok Tryz.prog { tabCfg tabs with hk := bothHk 12 (tabM c28) (tabH d0) } 100000 12 (tabSt 12 tabs) = true := by kernel_rfl
theorem m28_sound : m28.Sound Tryz.prog 12 (tabCfg tabs) := memo_both c28_sound d0_sound (by kernel_rfl) tabs_lt m28_ok
def c29 : List Memo := m28 :: c28
theorem c29_sound : ∀ m ∈ c29, m.Sound Tryz.prog 12 (tabCfg tabs) := sound_cons m28_sound c28_sound

def a29 : List AV := [.agg [.int .i64 1, .int .i64 0, .int .i64 0, .int .i64 0, .int .i64 7, .nils]]
def m29 : Memo := ⟨331, a29, .int .i64 (-1), [], 15⟩
set_option maxRecDepth 1000000 in
theorem m29_ok : m29.ok Tryz.prog { tabCfg tabs with hk := bothHk 12 (tabM c29) (tabH d0) } 100000 12 (tabSt 12 tabs) = true := by kernel_rfl
theorem m29_sound : m29.Sound Tryz.prog 12 (tabCfg tabs) := memo_both c29_sound d0_sound (by kernel_rfl) tabs_lt m29_ok
def c30 : List Memo := m29 :: c29
theorem c30_sound : ∀ m ∈ c30, m.Sound Tryz.prog 12 (tabCfg tabs) := sound_cons m29_sound c29_sound

def a30 : List AV := [.agg [.int .i64 29, .int .i64 0, .int .i64 0, .int .i64 0, .int .i64 0, .nils]]
def m30 : Memo := ⟨331, a30, .int .i64 (-1), [], 15⟩
set_option maxRecDepth 1000000 in
theorem m30_ok : m30.ok Tryz.prog { tabCfg tabs with hk := bothHk 12 (tabM c30) (tabH d0) } 100000 12 (tabSt 12 tabs) = true := by kernel_rfl
theorem m30_sound : m30.Sound Tryz.prog 12 (tabCfg tabs) := memo_both c30_sound d0_sound (by kernel_rfl) tabs_lt m30_ok
def c31 : List Memo := m30 :: c30
theorem c31_sound : ∀ m ∈ c31, m.Sound Tryz.prog 12 (tabCfg tabs) := sound_cons m30_sound c30_sound

def a31 : List AV := [.agg [.int .i64 1, .int .i64 0, .int .i64 0, .int .i64 0, .int .i64 0, .nils]]
def m31 : Memo := ⟨331, a31, .int .i64 (-1), [], 15⟩
set_option maxRecDepth 1000000 in
theorem m31_ok : m31.ok Tryz.prog { tabCfg tabs with hk := bothHk 12 (tabM c31) (tabH d0) } 100000 12 (tabSt 12 tabs) = true := by kernel_rfl
theorem m31_sound : m31.Sound Tryz.prog 12 (tabCfg tabs) := memo_both c31_sound d0_sound (by kernel_rfl) tabs_lt m31_ok
def c32 : List Memo := m31 :: c31
theorem c32_sound : ∀ m ∈ c32, m.Sound Tryz.prog 12 (tabCfg tabs) := sound_cons m31_sound c31_sound

def a32 : List AV := [.agg [.int .i64 29, .int .i64 0, .int .i64 0, .int .i64 0, .int .i64 0, .nils]]
def m32 : Memo := ⟨137, a32, .slc 21 0 0 1 none 1, [(21, .arr [.int .i64 0] 0 1 1 1 3)], 24⟩
set_option maxRecDepth 1000000 in
theorem m32_ok : m32.ok Tryz.prog { tabCfg tabs with hk := bothHk 12 (tabM c32) (tabH d0) } 100000 12 (tabSt 12 tabs) = true := by kernel_rfl
theorem m32_sound : m32.Sound Tryz.prog 12 (tabCfg tabs) := memo_both c32_sound d0_sound (by kernel_rfl) tabs_lt m32_ok
def c33 : List Memo := m32 :: c32
theorem c33_sound : ∀ m ∈ c33, m.Sound Tryz.prog 12 (tabCfg tabs) := sound_cons m32_sound c32_sound

def a33 : List AV := [.agg [.int .i64 1, .int .i64 0, .int .i64 0, .int .i64 0, .int .i64 0, .nils]]
def m33 : Memo := ⟨137, a33, .nils, [], 22⟩
set_option maxRecDepth 1000000 in
theorem m33_ok : m33.ok Tryz.prog { tabCfg tabs with hk := bothHk 12 (tabM c33) (tabH d0) } 100000 12 (tabSt 12 tabs) = true := by kernel_rfl
theorem m33_sound : m33.Sound Tryz.prog 12 (tabCfg tabs) := memo_both c33_sound d0_sound (by kernel_rfl) tabs_lt m33_ok
def c34 : List Memo := m33 :: c33
theorem c34_sound : ∀ m ∈ c34, m.Sound Tryz.prog 12 (tabCfg tabs) := sound_cons m33_sound c33_sound

def a34 : List AV := []
def m34 : Memo := ⟨188, a34, .map 12, [(12, .map [(.int .i64 2, .fn (.func 332) [] [], 0), (.int .i64 20, .fn (.func 333) [] [], 1), (.int .i64 26, .fn (.func 334) [] [], 2), (.int .i64 27, .fn (.func 334) [] [], 3), (.int .i64 3, .fn (.func 335) [] [], 4), (.int .i64 4, .fn (.func 335) [] [], 5), (.int .i64 5, .fn (.func 335) [] [], 6), (.int .i64 6, .fn (.func 335) [] [], 7), (.int .i64 7, .fn (.func 335) [] [], 8), (.int .i64 8, .fn (.func 335) [] [], 9), (.int .i64 9, .fn (.func 335) [] [], 10), (.int .i64 10, .fn (.func 335) [] [], 11), (.int .i64 11, .fn (.func 335) [] [], 12), (.int .i64 12, .fn (.func 335) [] [], 13), (.int .i64 13, .fn (.func 335) [] [], 14), (.int .i64 14, .fn (.func 335) [] [], 15), (.int .i64 15, .fn (.func 335) [] [], 16), (.int .i64 16, .fn (.func 335) [] [], 17), (.int .i64 17, .fn (.func 335) [] [], 18), (.int .i64 18, .fn (.func 335) [] [], 19), (.int .i64 19, .fn (.func 335) [] [], 20)] 21)], 13⟩
set_option maxRecDepth 1000000 in
theorem m34_ok : m34.ok Tryz.prog { tabCfg tabs with hk := bothHk 12 (tabM c34) (tabH d0) } 100000 12 (tabSt 12 tabs) = true := by kernel_rfl
theorem m34_sound : m34.Sound Tryz.prog 12 (tabCfg tabs) := memo_both c34_sound d0_sound (by kernel_rfl) tabs_lt m34_ok
def c35 : List Memo := m34 :: c34
theorem c35_sound : ∀ m ∈ c35, m.Sound Tryz.prog 12 (tabCfg tabs) := sound_cons m34_sound c34_sound

def a35 : List AV := [strN [105,110,116,32,109,97,105,110,40,118,111,105,100,41,123,114,101,116,117,114,110,32,55,59,125]]
def m35 : Memo := ⟨9, a35, .tup [.agg [.nils, .slc 5756 0 0 1 none 4], .agg [.int .i64 0, .int .i64 0]], [(5663, .arr [.int .i64 1, .int .i64 0, .int .i64 0, .int .i64 0, .int .i64 7, .nils, .int .i64 29, .int .i64 0, .int .i64 0, .int .i64 0, .int .i64 0, .nils] 0 6 1 2 114), (5756, .arr [.int .i64 0, .int .i64 1, .int .i64 0, .slc 5663 1 0 2 none 6] 0 4 1 1 111)], 5759⟩
set_option maxRecDepth 1000000 in
theorem m35_ok : m35.ok Tryz.prog { tabCfg tabs with hk := bothHk 12 (tabM c35) (tabH d0) } 100000 12 (tabSt 12 tabs) = true := by kernel_rfl
theorem m35_sound : m35.Sound Tryz.prog 12 (tabCfg tabs) := memo_both c35_sound d0_sound (by kernel_rfl) tabs_lt m35_ok
def c36 : List Memo := m35 :: c35
theorem c36_sound : ∀ m ∈ c36, m.Sound Tryz.prog 12 (tabCfg tabs) := sound_cons m35_sound c35_sound

def a36 : List AV := []
def m36 : Memo := ⟨65, a36, .map 12, [(12, .map [(.int .i64 1, .fn (.func 113) [] [], 0), (.int .i64 2, .fn (.func 113) [] [], 1), (.int .i64 3, .fn (.func 114) [] [], 2), (.int .i64 4, .fn (.func 114) [] [], 3), (.int .i64 63, .fn (.func 115) [] [], 4), (.int .i64 5, .fn (.func 116) [] [], 5), (.int .i64 6, .fn (.func 116) [] [], 6), (.int .i64 7, .fn (.func 116) [] [], 7), (.int .i64 8, .fn (.func 116) [] [], 8), (.int .i64 9, .fn (.func 116) [] [], 9), (.int .i64 10, .fn (.func 116) [] [], 10), (.int .i64 11, .fn (.func 117) [] [], 11), (.int .i64 12, .fn (.func 117) [] [], 12), (.int .i64 13, .fn (.func 117) [] [], 13), (.int .i64 14, .fn (.func 117) [] [], 14), (.int .i64 15, .fn (.func 117) [] [], 15), (.int .i64 16, .fn (.func 117) [] [], 16), (.int .i64 17, .fn (.func 117) [] [], 17), (.int .i64 18, .fn (.func 118) [] [], 18), (.int .i64 19, .fn (.func 118) [] [], 19), (.int .i64 20, .fn (.func 118) [] [], 20), (.int .i64 21, .fn (.func 118) [] [], 21), (.int .i64 22, .fn (.func 119) [] [], 22), (.int .i64 23, .fn (.func 119) [] [], 23), (.int .i64 24, .fn (.func 119) [] [], 24), (.int .i64 25, .fn (.func 119) [] [], 25), (.int .i64 26, .fn (.func 119) [] [], 26), (.int .i64 27, .fn (.func 119) [] [], 27), (.int .i64 28, .fn (.func 119) [] [], 28), (.int .i64 29, .fn (.func 119) [] [], 29), (.int .i64 30, .fn (.func 119) [] [], 30), (.int .i64 31, .fn (.func 119) [] [], 31), (.int .i64 32, .fn (.func 119) [] [], 32), (.int .i64 33, .fn (.func 119) [] [], 33), (.int .i64 34, .fn (.func 119) [] [], 34), (.int .i64 35, .fn (.func 119) [] [], 35), (.int .i64 36, .fn (.func 119) [] [], 36), (.int .i64 37, .fn (.func 119) [] [], 37), (.int .i64 38, .fn (.func 119) [] [], 38), (.int .i64 39, .fn (.func 119) [] [], 39), (.int .i64 40, .fn (.func 119) [] [], 40), (.int .i64 41, .fn (.func 119) [] [], 41), (.int .i64 42, .fn (.func 119) [] [], 42), (.int .i64 43, .fn (.func 119) [] [], 43), (.int .i64 44, .fn (.func 119) [] [], 44), (.int .i64 45, .fn (.func 119) [] [], 45), (.int .i64 46, .fn (.func 119) [] [], 46), (.int .i64 47, .fn (.func 119) [] [], 47), (.int .i64 48, .fn (.func 119) [] [], 48), (.int .i64 49, .fn (.func 119) [] [], 49), (.int .i64 50, .fn (.func 119) [] [], 50), (.int .i64 51, .fn (.func 119) [] [], 51), (.int .i64 52, .fn (.func 119) [] [], 52), (.int .i64 53, .fn (.func 119) [] [], 53), (.int .i64 54, .fn (.func 119) [] [], 54), (.int .i64 55, .fn (.func 119) [] [], 55), (.int .i64 56, .fn (.func 119) [] [], 56), (.int .i64 57, .fn (.func 119) [] [], 57), (.int .i64 58, .fn (.func 119) [] [], 58), (.int .i64 59, .fn (.func 119) [] [], 59), (.int .i64 60, .fn (.func 119) [] [], 60), (.int .i64 61, .fn (.func 119) [] [], 61), (.int .i64 62, .fn (.func 119) [] [], 62)] 63)], 13⟩
set_option maxRecDepth 1000000 in
theorem m36_ok : m36.ok Tryz.prog { tabCfg tabs with hk := bothHk 12 (tabM c36) (tabH d0) } 100000 12 (tabSt 12 tabs) = true := by kernel_rfl
theorem m36_sound : m36.Sound Tryz.prog 12 (tabCfg tabs) := memo_both c36_sound d0_sound (by kernel_rfl) tabs_lt m36_ok
def c37 : List Memo := m36 :: c36
theorem c37_sound : ∀ m ∈ c37, m.Sound Tryz.prog 12 (tabCfg tabs) := sound_cons m36_sound c36_sound

def a37 : List AV := []
def m37 : Memo := ⟨76, a37, .agg [.fn (.func 143) [] [], .fn (.func 144) [] [], .fn (.func 145) [] [], .fn (.func 159) [] [], .fn (.func 159) [] [], .fn (.func 159) [] [], .fn (.func 160) [] [], .fn (.func 160) [] [], .fn (.func 160) [] [], .fn (.func 160) [] [], .fn (.func 159) [] [], .fn (.func 159) [] [], .fn (.func 159) [] [], .fn (.func 159) [] [], .fn (.func 159) [] [], .fn (.func 159) [] [], .fn (.func 159) [] [], .fn (.func 159) [] [], .fn (.func 159) [] [], .fn (.func 159) [] [], .fn (.func 146) [] [], .fn (.func 147) [] [], .fn (.func 148) [] [], .fn (.func 149) [] [], .fn (.func 150) [] [], .fn (.func 151) [] [], .fn (.func 152) [] [], .fn (.func 153) [] [], .fn (.func 154) [] [], .fn (.func 155) [] [], .fn (.func 156) [] [], .fn (.func 157) [] [], .fn (.func 158) [] []], [], 14⟩
set_option maxRecDepth 1000000 in
theorem m37_ok : m37.ok Tryz.prog { tabCfg tabs with hk := bothHk 12 (tabM c37) (tabH d0) } 100000 12 (tabSt 12 tabs) = true := by kernel_rfl
theorem m37_sound : m37.Sound Tryz.prog 12 (tabCfg tabs) := memo_both c37_sound d0_sound (by kernel_rfl) tabs_lt m37_ok
def c38 : List Memo := m37 :: c37
theorem c38_sound : ∀ m ∈ c38, m.Sound Tryz.prog 12 (tabCfg tabs) := sound_cons m37_sound c37_sound

def a38 : List AV := [strN [105,110,116,32,109,97,105,110,40,118,111,105,100,41,123,114,101,116,117,114,110,32,55,59,125], strN [101,120,105,116,32,55]]
def m38 : Memo := ⟨5, a38, .bool true, [], 7120⟩
set_option maxRecDepth 1000000 in
theorem m38_ok : m38.ok Tryz.prog { tabCfg tabs with hk := bothHk 12 (tabM c38) (tabH d0) } 100000 12 (tabSt 12 tabs) = true := by kernel_rfl
theorem m38_sound : m38.Sound Tryz.prog 12 (tabCfg tabs) := memo_both c38_sound d0_sound (by kernel_rfl) tabs_lt m38_ok
def c39 : List Memo := m38 :: c38
theorem c39_sound : ∀ m ∈ c39, m.Sound Tryz.prog 12 (tabCfg tabs) := sound_cons m38_sound c38_sound

def a39 : List AV := [strN [123,105,110,116,32,97,59,97,61,103,101,116,98,40,41,59,119,104,105,108,101,40,97,41,123,112,117,116,98,40,97,41,59,97,45,45,59,125,114,101,116,117,114,110,32,48,59,125]]
def m39 : Memo := ⟨386, a39, .int .i64 1, [], 13⟩
set_option maxRecDepth 1000000 in
theorem m39_ok : m39.ok Tryz.prog { tabCfg tabs with hk := bothHk 12 (tabM c39) (tabH d0) } 100000 12 (tabSt 12 tabs) = true := by kernel_rfl
theorem m39_sound : m39.Sound Tryz.prog 12 (tabCfg tabs) := memo_both c39_sound d0_sound (by kernel_rfl) tabs_lt m39_ok
def c40 : List Memo := m39 :: c39
theorem c40_sound : ∀ m ∈ c40, m.Sound Tryz.prog 12 (tabCfg tabs) := sound_cons m39_sound c39_sound

def a40 : List AV := [strN [97]]
def m40 : Memo := ⟨381, a40, .bool false, [], 13⟩
set_option maxRecDepth 1000000 in
theorem m40_ok : m40.ok Tryz.prog { tabCfg tabs with hk := bothHk 12 (tabM c40) (tabH d0) } 100000 12 (tabSt 12 tabs) = true := by kernel_rfl
theorem m40_sound : m40.Sound Tryz.prog 12 (tabCfg tabs) := memo_both c40_sound d0_sound (by kernel_rfl) tabs_lt m40_ok
def c41 : List Memo := m40 :: c40
theorem c41_sound : ∀ m ∈ c41, m.Sound Tryz.prog 12 (tabCfg tabs) := sound_cons m40_sound c40_sound

def a41 : List AV := [strN [59,97,61,103,101,116,98,40,41,59,119,104,105,108,101,40,97,41,123,112,117,116,98,40,97,41,59,97,45,45,59,125,114,101,116,117,114,110,32,48,59,125]]
def m41 : Memo := ⟨386, a41, .int .i64 1, [], 13⟩
set_option maxRecDepth 1000000 in
theorem m41_ok : m41.ok Tryz.prog { tabCfg tabs with hk := bothHk 12 (tabM c41) (tabH d0) } 100000 12 (tabSt 12 tabs) = true := by kernel_rfl
theorem m41_sound : m41.Sound Tryz.prog 12 (tabCfg tabs) := memo_both c41_sound d0_sound (by kernel_rfl) tabs_lt m41_ok
def c42 : List Memo := m41 :: c41
theorem c42_sound : ∀ m ∈ c42, m.Sound Tryz.prog 12 (tabCfg tabs) := sound_cons m41_sound c41_sound

def a42 : List AV := [strN [61,103,101,116,98,40,41,59,119,104,105,108,101,40,97,41,123,112,117,116,98,40,97,41,59,97,45,45,59,125,114,101,116,117,114,110,32,48,59,125]]
def m42 : Memo := ⟨386, a42, .int .i64 1, [], 13⟩
set_option maxRecDepth 1000000 in
theorem m42_ok : m42.ok Tryz.prog { tabCfg tabs with hk := bothHk 12 (tabM c42) (tabH d0) } 100000 12 (tabSt 12 tabs) = true := by kernel_rfl
theorem m42_sound : m42.Sound Tryz.prog 12 (tabCfg tabs) := memo_both c42_sound d0_sound (by kernel_rfl) tabs_lt m42_ok
def c43 : List Memo := m42 :: c42
theorem c43_sound : ∀ m ∈ c43, m.Sound Tryz.prog 12 (tabCfg tabs) := sound_cons m42_sound c42_sound

def a43 : List AV := [strN [59,119,104,105,108,101,40,97,41,123,112,117,116,98,40,97,41,59,97,45,45,59,125,114,101,116,117,114,110,32,48,59,125]]
def m43 : Memo := ⟨386, a43, .int .i64 1, [], 13⟩
set_option maxRecDepth 1000000 in
theorem m43_ok : m43.ok Tryz.prog { tabCfg tabs with hk := bothHk 12 (tabM c43) (tabH d0) } 100000 12 (tabSt 12 tabs) = true := by kernel_rfl
theorem m43_sound : m43.Sound Tryz.prog 12 (tabCfg tabs) := memo_both c43_sound d0_sound (by kernel_rfl) tabs_lt m43_ok
def c44 : List Memo := m43 :: c43
theorem c44_sound : ∀ m ∈ c44, m.Sound Tryz.prog 12 (tabCfg tabs) := sound_cons m43_sound c43_sound

def a44 : List AV := [strN [41,123,112,117,116,98,40,97,41,59,97,45,45,59,125,114,101,116,117,114,110,32,48,59,125]]
def m44 : Memo := ⟨386, a44, .int .i64 1, [], 13⟩
set_option maxRecDepth 1000000 in
theorem m44_ok : m44.ok Tryz.prog { tabCfg tabs with hk := bothHk 12 (tabM c44) (tabH d0) } 100000 12 (tabSt 12 tabs) = true := by kernel_rfl
theorem m44_sound : m44.Sound Tryz.prog 12 (tabCfg tabs) := memo_both c44_sound d0_sound (by kernel_rfl) tabs_lt m44_ok
def c45 : List Memo := m44 :: c44
theorem c45_sound : ∀ m ∈ c45, m.Sound Tryz.prog 12 (tabCfg tabs) := sound_cons m44_sound c44_sound

def a45 : List AV := [strN [123,112,117,116,98,40,97,41,59,97,45,45,59,125,114,101,116,117,114,110,32,48,59,125]]
def m45 : Memo := ⟨386, a45, .int .i64 1, [], 13⟩
set_option maxRecDepth 1000000 in
theorem m45_ok : m45.ok Tryz.prog { tabCfg tabs with hk := bothHk 12 (tabM c45) (tabH d0) } 100000 12 (tabSt 12 tabs) = true := by kernel_rfl
theorem m45_sound : m45.Sound Tryz.prog 12 (tabCfg tabs) := memo_both c45_sound d0_sound (by kernel_rfl) tabs_lt m45_ok
def c46 : List Memo := m45 :: c45
theorem c46_sound : ∀ m ∈ c46, m.Sound Tryz.prog 12 (tabCfg tabs) := sound_cons m45_sound c45_sound

def a46 : List AV := [strN [41,59,97,45,45,59,125,114,101,116,117,114,110,32,48,59,125]]
def m46 : Memo := ⟨386, a46, .int .i64 1, [], 13⟩
set_option maxRecDepth 1000000 in
theorem m46_ok : m46.ok Tryz.prog { tabCfg tabs with hk := bothHk 12 (tabM c46) (tabH d0) } 100000 12 (tabSt 12 tabs) = true := by kernel_rfl
theorem m46_sound : m46.Sound Tryz.prog 12 (tabCfg tabs) := memo_both c46_sound d0_sound (by kernel_rfl) tabs_lt m46_ok
def c47 : List Memo := m46 :: c46
theorem c47_sound : ∀ m ∈ c47, m.Sound Tryz.prog 12 (tabCfg tabs) := sound_cons m46_sound c46_sound

def a47 : List AV := [strN [59,97,45,45,59,125,114,101,116,117,114,110,32,48,59,125]]
def m47 : Memo := ⟨386, a47, .int .i64 1, [], 13⟩
set_option maxRecDepth 1000000 in
theorem m47_ok : m47.ok Tryz.prog { tabCfg tabs with hk := bothHk 12 (tabM c47) (tabH d0) } 100000 12 (tabSt 12 tabs) = true := by kernel_rfl
theorem m47_sound : m47.Sound Tryz.prog 12 (tabCfg tabs) := memo_both c47_sound d0_sound (by kernel_rfl) tabs_lt m47_ok
def c48 : List Memo := m47 :: c47
theorem c48_sound : ∀ m ∈ c48, m.Sound Tryz.prog 12 (tabCfg tabs) := sound_cons m47_sound c47_sound

def a48 : List AV := [strN [59,125,114,101,116,117,114,110,32,48,59,125]]
def m48 : Memo := ⟨386, a48, .int .i64 1, [], 13⟩
set_option maxRecDepth 1000000 in
theorem m48_ok : m48.ok Tryz.prog { tabCfg tabs with hk := bothHk 12 (tabM c48) (tabH d0) } 100000 12 (tabSt 12 tabs) = true := by kernel_rfl
theorem m48_sound : m48.Sound Tryz.prog 12 (tabCfg tabs) := memo_both c48_sound d0_sound (by kernel_rfl) tabs_lt m48_ok
def c49 : List Memo := m48 :: c48
theorem c49_sound : ∀ m ∈ c49, m.Sound Tryz.prog 12 (tabCfg tabs) := sound_cons m48_sound c48_sound

def a49 : List AV := [strN [125,114,101,116,117,114,110,32,48,59,125]]
def m49 : Memo := ⟨386, a49, .int .i64 1, [], 13⟩
set_option maxRecDepth 1000000 in
theorem m49_ok : m49.ok Tryz.prog { tabCfg tabs with hk := bothHk 12 (tabM c49) (tabH d0) } 100000 12 (tabSt 12 tabs) = true := by kernel_rfl
theorem m49_sound : m49.Sound Tryz.prog 12 (tabCfg tabs) := memo_both c49_sound d0_sound (by kernel_rfl) tabs_lt m49_ok
def c50 : List Memo := m49 :: c49
theorem c50_sound : ∀ m ∈ c50, m.Sound Tryz.prog 12 (tabCfg tabs) := sound_cons m49_sound c49_sound
end Go.Proofs.YtbbnjiceenjhcaaGreatDoor
