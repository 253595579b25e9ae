/-
  Calls whose outcome is known, each shown by the evaluator with the earlier ones and the tables at hand; part 0. No condition.
-/
import Derived.Test.YtncnepaclildjaaGreatDoorTabs
namespace Go.Proofs.YtncnepaclildjaaGreatDoor
open Go.Tw
def c0 : List Memo := []
theorem c0_sound : ∀ m ∈ c0, m.Sound Tryz.prog 12 (tabCfg tabs) := sound_nil

def a0 : List AV := []
def m0 : Memo := ⟨135, a0, .slc 12 0 0 21 (some 21) 1, [(12, .box [strN [105,110,116], strN [99,104,97,114], strN [115,104,111,114,116], strN [108,111,110,103], strN [117,110,115,105,103,110,101,100], strN [115,105,103,110,101,100], strN [118,111,105,100], strN [115,116,114,117,99,116], strN [105,102], strN [101,108,115,101], strN [119,104,105,108,101], strN [102,111,114], strN [100,111], strN [114,101,116,117,114,110], strN [98,114,101,97,107], strN [99,111,110,116,105,110,117,101], strN [115,105,122,101,111,102], strN [103,111,116,111], strN [115,119,105,116,99,104], strN [99,97,115,101], strN [100,101,102,97,117,108,116]] 9)], 13⟩
set_option maxRecDepth 1000000 in
theorem m0_ok : m0.ok Tryz.prog { tabCfg tabs with hk := memoHk 12 (tabM c0) } 100000 12 (tabSt 12 tabs) = true := by kernel_rfl
theorem m0_sound : m0.Sound Tryz.prog 12 (tabCfg tabs) := memo_tab c0_sound (by kernel_rfl) tabs_lt m0_ok
def c1 : List Memo := m0 :: c0
theorem c1_sound : ∀ m ∈ c1, m.Sound Tryz.prog 12 (tabCfg tabs) := sound_cons m0_sound c0_sound

def a1 : List AV := [strN [109,97,105,110]]
def m1 : Memo := ⟨85, a1, .bool false, [], 13⟩
set_option maxRecDepth 1000000 in
theorem m1_ok : m1.ok Tryz.prog { tabCfg tabs with hk := memoHk 12 (tabM c1) } 100000 12 (tabSt 12 tabs) = true := by kernel_rfl
theorem m1_sound : m1.Sound Tryz.prog 12 (tabCfg tabs) := memo_tab c1_sound (by kernel_rfl) tabs_lt m1_ok
def c2 : List Memo := m1 :: c1
theorem c2_sound : ∀ m ∈ c2, m.Sound Tryz.prog 12 (tabCfg tabs) := sound_cons m1_sound c1_sound

def a2 : List AV := []
def m2 : Memo := ⟨141, a2, .slc 12 0 0 45 (some 45) 1, [(12, .box [strN [60,60,61], strN [62,62,61], strN [45,62], strN [43,43], strN [45,45], strN [60,61], strN [62,61], strN [61,61], strN [33,61], strN [38,38], strN [124,124], strN [60,60], strN [62,62], strN [43,61], strN [45,61], strN [42,61], strN [47,61], strN [37,61], strN [38,61], strN [124,61], strN [94,61], strN [40], strN [41], strN [123], strN [125], strN [91], strN [93], strN [59], strN [44], strN [46], strN [45], strN [43], strN [42], strN [47], strN [37], strN [38], strN [124], strN [94], strN [126], strN [33], strN [60], strN [62], strN [61], strN [63], strN [58]] 9)], 13⟩
set_option maxRecDepth 1000000 in
theorem m2_ok : m2.ok Tryz.prog { tabCfg tabs with hk := memoHk 12 (tabM c2) } 100000 12 (tabSt 12 tabs) = true := by kernel_rfl
theorem m2_sound : m2.Sound Tryz.prog 12 (tabCfg tabs) := memo_tab c2_sound (by kernel_rfl) tabs_lt m2_ok
def c3 : List Memo := m2 :: c2
theorem c3_sound : ∀ m ∈ c3, m.Sound Tryz.prog 12 (tabCfg tabs) := sound_cons m2_sound c2_sound

def a3 : List AV := [strN [40,118,111,105,100,41,123,105,110,116,32,97,59,97,61,103,101,116,98,40,41,59,119,104,105,108,101,40,97,41,123,112,117,116,98,40,97,41,59,97,45,45,59,125,114,101,116,117,114,110,32,48,59,125]]
def m3 : Memo := ⟨90, a3, .int .i64 1, [], 13⟩
set_option maxRecDepth 1000000 in
theorem m3_ok : m3.ok Tryz.prog { tabCfg tabs with hk := memoHk 12 (tabM c3) } 100000 12 (tabSt 12 tabs) = true := by kernel_rfl
theorem m3_sound : m3.Sound Tryz.prog 12 (tabCfg tabs) := memo_tab c3_sound (by kernel_rfl) tabs_lt m3_ok
def c4 : List Memo := m3 :: c3
theorem c4_sound : ∀ m ∈ c4, m.Sound Tryz.prog 12 (tabCfg tabs) := sound_cons m3_sound c3_sound

def a4 : List AV := [strN [118,111,105,100]]
def m4 : Memo := ⟨85, a4, .bool true, [], 13⟩
set_option maxRecDepth 1000000 in
theorem m4_ok : m4.ok Tryz.prog { tabCfg tabs with hk := memoHk 12 (tabM c4) } 100000 12 (tabSt 12 tabs) = true := by kernel_rfl
theorem m4_sound : m4.Sound Tryz.prog 12 (tabCfg tabs) := memo_tab c4_sound (by kernel_rfl) tabs_lt m4_ok
def c5 : List Memo := m4 :: c4
theorem c5_sound : ∀ m ∈ c5, m.Sound Tryz.prog 12 (tabCfg tabs) := sound_cons m4_sound c4_sound

def a5 : List AV := [strN [41,123,105,110,116,32,97,59,97,61,103,101,116,98,40,41,59,119,104,105,108,101,40,97,41,123,112,117,116,98,40,97,41,59,97,45,45,59,125,114,101,116,117,114,110,32,48,59,125]]
def m5 : Memo := ⟨90, a5, .int .i64 1, [], 13⟩
set_option maxRecDepth 1000000 in
theorem m5_ok : m5.ok Tryz.prog { tabCfg tabs with hk := memoHk 12 (tabM c5) } 100000 12 (tabSt 12 tabs) = true := by kernel_rfl
theorem m5_sound : m5.Sound Tryz.prog 12 (tabCfg tabs) := memo_tab c5_sound (by kernel_rfl) tabs_lt m5_ok
def c6 : List Memo := m5 :: c5
theorem c6_sound : ∀ m ∈ c6, m.Sound Tryz.prog 12 (tabCfg tabs) := sound_cons m5_sound c5_sound

def a6 : List AV := [strN [123,105,110,116,32,97,59,97,61,103,101,116,98,40,41,59,119,104,105,108,101,40,97,41,123,112,117,116,98,40,97,41,59,97,45,45,59,125,114,101,116,117,114,110,32,48,59,125]]
def m6 : Memo := ⟨90, a6, .int .i64 1, [], 13⟩
set_option maxRecDepth 1000000 in
theorem m6_ok : m6.ok Tryz.prog { tabCfg tabs with hk := memoHk 12 (tabM c6) } 100000 12 (tabSt 12 tabs) = true := by kernel_rfl
theorem m6_sound : m6.Sound Tryz.prog 12 (tabCfg tabs) := memo_tab c6_sound (by kernel_rfl) tabs_lt m6_ok
def c7 : List Memo := m6 :: c6
theorem c7_sound : ∀ m ∈ c7, m.Sound Tryz.prog 12 (tabCfg tabs) := sound_cons m6_sound c6_sound

def a7 : List AV := [strN [97]]
def m7 : Memo := ⟨85, a7, .bool false, [], 13⟩
set_option maxRecDepth 1000000 in
theorem m7_ok : m7.ok Tryz.prog { tabCfg tabs with hk := memoHk 12 (tabM c7) } 100000 12 (tabSt 12 tabs) = true := by kernel_rfl
theorem m7_sound : m7.Sound Tryz.prog 12 (tabCfg tabs) := memo_tab c7_sound (by kernel_rfl) tabs_lt m7_ok
def c8 : List Memo := m7 :: c7
theorem c8_sound : ∀ m ∈ c8, m.Sound Tryz.prog 12 (tabCfg tabs) := sound_cons m7_sound c7_sound

def a8 : List AV := [strN [59,97,61,103,101,116,98,40,41,59,119,104,105,108,101,40,97,41,123,112,117,116,98,40,97,41,59,97,45,45,59,125,114,101,116,117,114,110,32,48,59,125]]
def m8 : Memo := ⟨90, a8, .int .i64 1, [], 13⟩
set_option maxRecDepth 1000000 in
theorem m8_ok : m8.ok Tryz.prog { tabCfg tabs with hk := memoHk 12 (tabM c8) } 100000 12 (tabSt 12 tabs) = true := by kernel_rfl
theorem m8_sound : m8.Sound Tryz.prog 12 (tabCfg tabs) := memo_tab c8_sound (by kernel_rfl) tabs_lt m8_ok
def c9 : List Memo := m8 :: c8
theorem c9_sound : ∀ m ∈ c9, m.Sound Tryz.prog 12 (tabCfg tabs) := sound_cons m8_sound c8_sound

def a9 : List AV := [strN [61,103,101,116,98,40,41,59,119,104,105,108,101,40,97,41,123,112,117,116,98,40,97,41,59,97,45,45,59,125,114,101,116,117,114,110,32,48,59,125]]
def m9 : Memo := ⟨90, a9, .int .i64 1, [], 13⟩
set_option maxRecDepth 1000000 in
theorem m9_ok : m9.ok Tryz.prog { tabCfg tabs with hk := memoHk 12 (tabM c9) } 100000 12 (tabSt 12 tabs) = true := by kernel_rfl
theorem m9_sound : m9.Sound Tryz.prog 12 (tabCfg tabs) := memo_tab c9_sound (by kernel_rfl) tabs_lt m9_ok
def c10 : List Memo := m9 :: c9
theorem c10_sound : ∀ m ∈ c10, m.Sound Tryz.prog 12 (tabCfg tabs) := sound_cons m9_sound c9_sound

def a10 : List AV := [strN [103,101,116,98]]
def m10 : Memo := ⟨85, a10, .bool false, [], 13⟩
set_option maxRecDepth 1000000 in
theorem m10_ok : m10.ok Tryz.prog { tabCfg tabs with hk := memoHk 12 (tabM c10) } 100000 12 (tabSt 12 tabs) = true := by kernel_rfl
theorem m10_sound : m10.Sound Tryz.prog 12 (tabCfg tabs) := memo_tab c10_sound (by kernel_rfl) tabs_lt m10_ok
def c11 : List Memo := m10 :: c10
theorem c11_sound : ∀ m ∈ c11, m.Sound Tryz.prog 12 (tabCfg tabs) := sound_cons m10_sound c10_sound

def a11 : List AV := [strN [40,41,59,119,104,105,108,101,40,97,41,123,112,117,116,98,40,97,41,59,97,45,45,59,125,114,101,116,117,114,110,32,48,59,125]]
def m11 : Memo := ⟨90, a11, .int .i64 1, [], 13⟩
set_option maxRecDepth 1000000 in
theorem m11_ok : m11.ok Tryz.prog { tabCfg tabs with hk := memoHk 12 (tabM c11) } 100000 12 (tabSt 12 tabs) = true := by kernel_rfl
theorem m11_sound : m11.Sound Tryz.prog 12 (tabCfg tabs) := memo_tab c11_sound (by kernel_rfl) tabs_lt m11_ok
def c12 : List Memo := m11 :: c11
theorem c12_sound : ∀ m ∈ c12, m.Sound Tryz.prog 12 (tabCfg tabs) := sound_cons m11_sound c11_sound

def a12 : List AV := [strN [41,59,119,104,105,108,101,40,97,41,123,112,117,116,98,40,97,41,59,97,45,45,59,125,114,101,116,117,114,110,32,48,59,125]]
def m12 : Memo := ⟨90, a12, .int .i64 1, [], 13⟩
set_option maxRecDepth 1000000 in
theorem m12_ok : m12.ok Tryz.prog { tabCfg tabs with hk := memoHk 12 (tabM c12) } 100000 12 (tabSt 12 tabs) = true := by kernel_rfl
theorem m12_sound : m12.Sound Tryz.prog 12 (tabCfg tabs) := memo_tab c12_sound (by kernel_rfl) tabs_lt m12_ok
def c13 : List Memo := m12 :: c12
theorem c13_sound : ∀ m ∈ c13, m.Sound Tryz.prog 12 (tabCfg tabs) := sound_cons m12_sound c12_sound

def a13 : List AV := [strN [59,119,104,105,108,101,40,97,41,123,112,117,116,98,40,97,41,59,97,45,45,59,125,114,101,116,117,114,110,32,48,59,125]]
def m13 : Memo := ⟨90, a13, .int .i64 1, [], 13⟩
set_option maxRecDepth 1000000 in
theorem m13_ok : m13.ok Tryz.prog { tabCfg tabs with hk := memoHk 12 (tabM c13) } 100000 12 (tabSt 12 tabs) = true := by kernel_rfl
theorem m13_sound : m13.Sound Tryz.prog 12 (tabCfg tabs) := memo_tab c13_sound (by kernel_rfl) tabs_lt m13_ok
def c14 : List Memo := m13 :: c13
theorem c14_sound : ∀ m ∈ c14, m.Sound Tryz.prog 12 (tabCfg tabs) := sound_cons m13_sound c13_sound

def a14 : List AV := [strN [40,97,41,123,112,117,116,98,40,97,41,59,97,45,45,59,125,114,101,116,117,114,110,32,48,59,125]]
def m14 : Memo := ⟨90, a14, .int .i64 1, [], 13⟩
set_option maxRecDepth 1000000 in
theorem m14_ok : m14.ok Tryz.prog { tabCfg tabs with hk := memoHk 12 (tabM c14) } 100000 12 (tabSt 12 tabs) = true := by kernel_rfl
theorem m14_sound : m14.Sound Tryz.prog 12 (tabCfg tabs) := memo_tab c14_sound (by kernel_rfl) tabs_lt m14_ok
def c15 : List Memo := m14 :: c14
theorem c15_sound : ∀ m ∈ c15, m.Sound Tryz.prog 12 (tabCfg tabs) := sound_cons m14_sound c14_sound

def a15 : List AV := [strN [41,123,112,117,116,98,40,97,41,59,97,45,45,59,125,114,101,116,117,114,110,32,48,59,125]]
def m15 : Memo := ⟨90, a15, .int .i64 1, [], 13⟩
set_option maxRecDepth 1000000 in
theorem m15_ok : m15.ok Tryz.prog { tabCfg tabs with hk := memoHk 12 (tabM c15) } 100000 12 (tabSt 12 tabs) = true := by kernel_rfl
theorem m15_sound : m15.Sound Tryz.prog 12 (tabCfg tabs) := memo_tab c15_sound (by kernel_rfl) tabs_lt m15_ok
def c16 : List Memo := m15 :: c15
theorem c16_sound : ∀ m ∈ c16, m.Sound Tryz.prog 12 (tabCfg tabs) := sound_cons m15_sound c15_sound

def a16 : List AV := [strN [123,112,117,116,98,40,97,41,59,97,45,45,59,125,114,101,116,117,114,110,32,48,59,125]]
def m16 : Memo := ⟨90, a16, .int .i64 1, [], 13⟩
set_option maxRecDepth 1000000 in
theorem m16_ok : m16.ok Tryz.prog { tabCfg tabs with hk := memoHk 12 (tabM c16) } 100000 12 (tabSt 12 tabs) = true := by kernel_rfl
theorem m16_sound : m16.Sound Tryz.prog 12 (tabCfg tabs) := memo_tab c16_sound (by kernel_rfl) tabs_lt m16_ok
def c17 : List Memo := m16 :: c16
theorem c17_sound : ∀ m ∈ c17, m.Sound Tryz.prog 12 (tabCfg tabs) := sound_cons m16_sound c16_sound

def a17 : List AV := [strN [112,117,116,98]]
def m17 : Memo := ⟨85, a17, .bool false, [], 13⟩
set_option maxRecDepth 1000000 in
theorem m17_ok : m17.ok Tryz.prog { tabCfg tabs with hk := memoHk 12 (tabM c17) } 100000 12 (tabSt 12 tabs) = true := by kernel_rfl
theorem m17_sound : m17.Sound Tryz.prog 12 (tabCfg tabs) := memo_tab c17_sound (by kernel_rfl) tabs_lt m17_ok
def c18 : List Memo := m17 :: c17
theorem c18_sound : ∀ m ∈ c18, m.Sound Tryz.prog 12 (tabCfg tabs) := sound_cons m17_sound c17_sound

def a18 : List AV := [strN [40,97,41,59,97,45,45,59,125,114,101,116,117,114,110,32,48,59,125]]
def m18 : Memo := ⟨90, a18, .int .i64 1, [], 13⟩
set_option maxRecDepth 1000000 in
theorem m18_ok : m18.ok Tryz.prog { tabCfg tabs with hk := memoHk 12 (tabM c18) } 100000 12 (tabSt 12 tabs) = true := by kernel_rfl
theorem m18_sound : m18.Sound Tryz.prog 12 (tabCfg tabs) := memo_tab c18_sound (by kernel_rfl) tabs_lt m18_ok
def c19 : List Memo := m18 :: c18
theorem c19_sound : ∀ m ∈ c19, m.Sound Tryz.prog 12 (tabCfg tabs) := sound_cons m18_sound c18_sound

def a19 : List AV := [strN [41,59,97,45,45,59,125,114,101,116,117,114,110,32,48,59,125]]
def m19 : Memo := ⟨90, a19, .int .i64 1, [], 13⟩
set_option maxRecDepth 1000000 in
theorem m19_ok : m19.ok Tryz.prog { tabCfg tabs with hk := memoHk 12 (tabM c19) } 100000 12 (tabSt 12 tabs) = true := by kernel_rfl
theorem m19_sound : m19.Sound Tryz.prog 12 (tabCfg tabs) := memo_tab c19_sound (by kernel_rfl) tabs_lt m19_ok
def c20 : List Memo := m19 :: c19
theorem c20_sound : ∀ m ∈ c20, m.Sound Tryz.prog 12 (tabCfg tabs) := sound_cons m19_sound c19_sound

def a20 : List AV := [strN [59,97,45,45,59,125,114,101,116,117,114,110,32,48,59,125]]
def m20 : Memo := ⟨90, a20, .int .i64 1, [], 13⟩
set_option maxRecDepth 1000000 in
theorem m20_ok : m20.ok Tryz.prog { tabCfg tabs with hk := memoHk 12 (tabM c20) } 100000 12 (tabSt 12 tabs) = true := by kernel_rfl
theorem m20_sound : m20.Sound Tryz.prog 12 (tabCfg tabs) := memo_tab c20_sound (by kernel_rfl) tabs_lt m20_ok
def c21 : List Memo := m20 :: c20
theorem c21_sound : ∀ m ∈ c21, m.Sound Tryz.prog 12 (tabCfg tabs) := sound_cons m20_sound c20_sound

def a21 : List AV := [strN [45,45,59,125,114,101,116,117,114,110,32,48,59,125]]
def m21 : Memo := ⟨90, a21, .int .i64 2, [], 13⟩
set_option maxRecDepth 1000000 in
theorem m21_ok : m21.ok Tryz.prog { tabCfg tabs with hk := memoHk 12 (tabM c21) } 100000 12 (tabSt 12 tabs) = true := by kernel_rfl
theorem m21_sound : m21.Sound Tryz.prog 12 (tabCfg tabs) := memo_tab c21_sound (by kernel_rfl) tabs_lt m21_ok
def c22 : List Memo := m21 :: c21
theorem c22_sound : ∀ m ∈ c22, m.Sound Tryz.prog 12 (tabCfg tabs) := sound_cons m21_sound c21_sound

def a22 : List AV := [strN [59,125,114,101,116,117,114,110,32,48,59,125]]
def m22 : Memo := ⟨90, a22, .int .i64 1, [], 13⟩
set_option maxRecDepth 1000000 in
theorem m22_ok : m22.ok Tryz.prog { tabCfg tabs with hk := memoHk 12 (tabM c22) } 100000 12 (tabSt 12 tabs) = true := by kernel_rfl
theorem m22_sound : m22.Sound Tryz.prog 12 (tabCfg tabs) := memo_tab c22_sound (by kernel_rfl) tabs_lt m22_ok
def c23 : List Memo := m22 :: c22
theorem c23_sound : ∀ m ∈ c23, m.Sound Tryz.prog 12 (tabCfg tabs) := sound_cons m22_sound c22_sound

def a23 : List AV := [strN [125,114,101,116,117,114,110,32,48,59,125]]
def m23 : Memo := ⟨90, a23, .int .i64 1, [], 13⟩
set_option maxRecDepth 1000000 in
theorem m23_ok : m23.ok Tryz.prog { tabCfg tabs with hk := memoHk 12 (tabM c23) } 100000 12 (tabSt 12 tabs) = true := by kernel_rfl
theorem m23_sound : m23.Sound Tryz.prog 12 (tabCfg tabs) := memo_tab c23_sound (by kernel_rfl) tabs_lt m23_ok
def c24 : List Memo := m23 :: c23
theorem c24_sound : ∀ m ∈ c24, m.Sound Tryz.prog 12 (tabCfg tabs) := sound_cons m23_sound c23_sound

def a24 : List AV := [strN [114,101,116,117,114,110]]
def m24 : Memo := ⟨85, a24, .bool true, [], 13⟩
set_option maxRecDepth 1000000 in
theorem m24_ok : m24.ok Tryz.prog { tabCfg tabs with hk := memoHk 12 (tabM c24) } 100000 12 (tabSt 12 tabs) = true := by kernel_rfl
theorem m24_sound : m24.Sound Tryz.prog 12 (tabCfg tabs) := memo_tab c24_sound (by kernel_rfl) tabs_lt m24_ok
def c25 : List Memo := m24 :: c24
theorem c25_sound : ∀ m ∈ c25, m.Sound Tryz.prog 12 (tabCfg tabs) := sound_cons m24_sound c24_sound

def a25 : List AV := [strN [48]]
def m25 : Memo := ⟨86, a25, .tup [.int .i64 8, strN [48], strN []], [], 14⟩
set_option maxRecDepth 1000000 in
theorem m25_ok : m25.ok Tryz.prog { tabCfg tabs with hk := memoHk 12 (tabM c25) } 100000 12 (tabSt 12 tabs) = true := by kernel_rfl
theorem m25_sound : m25.Sound Tryz.prog 12 (tabCfg tabs) := memo_tab c25_sound (by kernel_rfl) tabs_lt m25_ok
def c26 : List Memo := m25 :: c25
theorem c26_sound : ∀ m ∈ c26, m.Sound Tryz.prog 12 (tabCfg tabs) := sound_cons m25_sound c25_sound

def a26 : List AV := [strN [59,125]]
def m26 : Memo := ⟨90, a26, .int .i64 1, [], 13⟩
set_option maxRecDepth 1000000 in
theorem m26_ok : m26.ok Tryz.prog { tabCfg tabs with hk := memoHk 12 (tabM c26) } 100000 12 (tabSt 12 tabs) = true := by kernel_rfl
theorem m26_sound : m26.Sound Tryz.prog 12 (tabCfg tabs) := memo_tab c26_sound (by kernel_rfl) tabs_lt m26_ok
def c27 : List Memo := m26 :: c26
theorem c27_sound : ∀ m ∈ c27, m.Sound Tryz.prog 12 (tabCfg tabs) := sound_cons m26_sound c26_sound
end Go.Proofs.YtncnepaclildjaaGreatDoor
