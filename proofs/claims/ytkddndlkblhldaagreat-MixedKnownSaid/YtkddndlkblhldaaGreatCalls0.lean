/-
  Calls whose outcome is known, each shown by the evaluator with the earlier ones at hand; part 0. No condition.
-/
import Derived.Test.YtkddndlkblhldaaGreatTwMemo
import Derived.Test.YtkddndlkblhldaaGreatChecked
namespace Go.Proofs.YtkddndlkblhldaaGreat
open Go.Tw
instance : Val := noVal
def c0 : List Memo := []
theorem c0_sound : ∀ m ∈ c0, m.Sound Tryz.prog 0 Cfg.none := sound_nil

def a0 : List AV := [.agg [.int .i64 30, .int .i64 0, .int .i64 0, .int .i64 0, .int .i64 0, .nils]]
def m0 : Memo := ⟨182, a0, .tup [.slc 6 0 0 1 none 1, .nils, .int .i64 0], [(6, .arr [.int .i64 0] 0 1 1 1 3)], 7⟩
set_option maxRecDepth 1000000 in
theorem m0_ok : m0.ok Tryz.prog { Cfg.none with hk := memoHk 0 (tabM c0) } 100000 0 (St.empty 0) = true := by kernel_rfl
theorem m0_sound : m0.Sound Tryz.prog 0 Cfg.none := memo_plain c0_sound (by kernel_rfl) m0_ok
def c1 : List Memo := m0 :: c0
theorem c1_sound : ∀ m ∈ c1, m.Sound Tryz.prog 0 Cfg.none := sound_cons m0_sound c0_sound

def a1 : List AV := [.agg [.int .i64 30, .int .i64 0, .int .i64 0, .int .i64 0, .int .i64 0, .nils]]
def m1 : Memo := ⟨112, a1, .int .i64 0, [], 20⟩
set_option maxRecDepth 1000000 in
theorem m1_ok : m1.ok Tryz.prog { Cfg.none with hk := memoHk 0 (tabM c1) } 100000 0 (St.empty 0) = true := by kernel_rfl
theorem m1_sound : m1.Sound Tryz.prog 0 Cfg.none := memo_plain c1_sound (by kernel_rfl) m1_ok
def c2 : List Memo := m1 :: c1
theorem c2_sound : ∀ m ∈ c2, m.Sound Tryz.prog 0 Cfg.none := sound_cons m1_sound c1_sound

def a2 : List AV := [.agg [.int .i64 30, .int .i64 0, .int .i64 0, .int .i64 0, .int .i64 0, .nils]]
def m2 : Memo := ⟨63, a2, .tup [.slc 28 0 0 2 none 1, .int .i64 0], [(28, .arr [.int .u8 30, .int .u8 0] 0 2 1 1 5)], 29⟩
set_option maxRecDepth 1000000 in
theorem m2_ok : m2.ok Tryz.prog { Cfg.none with hk := memoHk 0 (tabM c2) } 100000 0 (St.empty 0) = true := by kernel_rfl
theorem m2_sound : m2.Sound Tryz.prog 0 Cfg.none := memo_plain c2_sound (by kernel_rfl) m2_ok
def c3 : List Memo := m2 :: c2
theorem c3_sound : ∀ m ∈ c3, m.Sound Tryz.prog 0 Cfg.none := sound_cons m2_sound c2_sound

def a3 : List AV := [.agg [.int .i64 31, .int .i64 0, .int .i64 0, .int .i64 0, .int .i64 0, .nils]]
def m3 : Memo := ⟨182, a3, .tup [.slc 6 0 0 1 none 1, .slc 8 0 0 1 none 1, .int .i64 (-1)], [(6, .arr [.int .i64 0] 0 1 1 1 3), (8, .arr [.int .i64 0] 0 1 1 1 3)], 9⟩
set_option maxRecDepth 1000000 in
theorem m3_ok : m3.ok Tryz.prog { Cfg.none with hk := memoHk 0 (tabM c3) } 100000 0 (St.empty 0) = true := by kernel_rfl
theorem m3_sound : m3.Sound Tryz.prog 0 Cfg.none := memo_plain c3_sound (by kernel_rfl) m3_ok
def c4 : List Memo := m3 :: c3
theorem c4_sound : ∀ m ∈ c4, m.Sound Tryz.prog 0 Cfg.none := sound_cons m3_sound c3_sound

def a4 : List AV := [.agg [.int .i64 31, .int .i64 0, .int .i64 0, .int .i64 0, .int .i64 0, .nils]]
def m4 : Memo := ⟨112, a4, .int .i64 0, [], 22⟩
set_option maxRecDepth 1000000 in
theorem m4_ok : m4.ok Tryz.prog { Cfg.none with hk := memoHk 0 (tabM c4) } 100000 0 (St.empty 0) = true := by kernel_rfl
theorem m4_sound : m4.Sound Tryz.prog 0 Cfg.none := memo_plain c4_sound (by kernel_rfl) m4_ok
def c5 : List Memo := m4 :: c4
theorem c5_sound : ∀ m ∈ c5, m.Sound Tryz.prog 0 Cfg.none := sound_cons m4_sound c4_sound

def a5 : List AV := [.agg [.int .i64 31, .int .i64 0, .int .i64 0, .int .i64 0, .int .i64 0, .nils]]
def m5 : Memo := ⟨63, a5, .tup [.slc 30 0 0 2 none 1, .int .i64 0], [(30, .arr [.int .u8 31, .int .u8 0] 0 2 1 1 5)], 31⟩
set_option maxRecDepth 1000000 in
theorem m5_ok : m5.ok Tryz.prog { Cfg.none with hk := memoHk 0 (tabM c5) } 100000 0 (St.empty 0) = true := by kernel_rfl
theorem m5_sound : m5.Sound Tryz.prog 0 Cfg.none := memo_plain c5_sound (by kernel_rfl) m5_ok
def c6 : List Memo := m5 :: c5
theorem c6_sound : ∀ m ∈ c6, m.Sound Tryz.prog 0 Cfg.none := sound_cons m5_sound c5_sound

def a6 : List AV := [.agg [.int .i64 32, .int .i64 0, .int .i64 0, .int .i64 0, .int .i64 0, .nils]]
def m6 : Memo := ⟨182, a6, .tup [.slc 6 0 0 1 none 1, .slc 8 0 0 1 none 1, .int .i64 (-1)], [(6, .arr [.int .i64 0] 0 1 1 1 3), (8, .arr [.int .i64 0] 0 1 1 1 3)], 9⟩
set_option maxRecDepth 1000000 in
theorem m6_ok : m6.ok Tryz.prog { Cfg.none with hk := memoHk 0 (tabM c6) } 100000 0 (St.empty 0) = true := by kernel_rfl
theorem m6_sound : m6.Sound Tryz.prog 0 Cfg.none := memo_plain c6_sound (by kernel_rfl) m6_ok
def c7 : List Memo := m6 :: c6
theorem c7_sound : ∀ m ∈ c7, m.Sound Tryz.prog 0 Cfg.none := sound_cons m6_sound c6_sound

def a7 : List AV := [.agg [.int .i64 32, .int .i64 0, .int .i64 0, .int .i64 0, .int .i64 0, .nils]]
def m7 : Memo := ⟨112, a7, .int .i64 0, [], 22⟩
set_option maxRecDepth 1000000 in
theorem m7_ok : m7.ok Tryz.prog { Cfg.none with hk := memoHk 0 (tabM c7) } 100000 0 (St.empty 0) = true := by kernel_rfl
theorem m7_sound : m7.Sound Tryz.prog 0 Cfg.none := memo_plain c7_sound (by kernel_rfl) m7_ok
def c8 : List Memo := m7 :: c7
theorem c8_sound : ∀ m ∈ c8, m.Sound Tryz.prog 0 Cfg.none := sound_cons m7_sound c7_sound

def a8 : List AV := [.agg [.int .i64 32, .int .i64 0, .int .i64 0, .int .i64 0, .int .i64 0, .nils]]
def m8 : Memo := ⟨63, a8, .tup [.slc 30 0 0 2 none 1, .int .i64 0], [(30, .arr [.int .u8 32, .int .u8 0] 0 2 1 1 5)], 31⟩
set_option maxRecDepth 1000000 in
theorem m8_ok : m8.ok Tryz.prog { Cfg.none with hk := memoHk 0 (tabM c8) } 100000 0 (St.empty 0) = true := by kernel_rfl
theorem m8_sound : m8.Sound Tryz.prog 0 Cfg.none := memo_plain c8_sound (by kernel_rfl) m8_ok
def c9 : List Memo := m8 :: c8
theorem c9_sound : ∀ m ∈ c9, m.Sound Tryz.prog 0 Cfg.none := sound_cons m8_sound c8_sound

def a9 : List AV := [.agg [.int .i64 30, .int .i64 0, .int .i64 0, .int .i64 0, .int .i64 0, .nils], .int .i64 1, .int .i64 0]
def m9 : Memo := ⟨117, a9, .int .i64 0, [], 19⟩
set_option maxRecDepth 1000000 in
theorem m9_ok : m9.ok Tryz.prog { Cfg.none with hk := memoHk 0 (tabM c9) } 100000 0 (St.empty 0) = true := by kernel_rfl
theorem m9_sound : m9.Sound Tryz.prog 0 Cfg.none := memo_plain c9_sound (by kernel_rfl) m9_ok
def c10 : List Memo := m9 :: c9
theorem c10_sound : ∀ m ∈ c10, m.Sound Tryz.prog 0 Cfg.none := sound_cons m9_sound c9_sound

def a10 : List AV := [.agg [.int .i64 31, .int .i64 0, .int .i64 0, .int .i64 0, .int .i64 0, .nils], .int .i64 1, .int .i64 0]
def m10 : Memo := ⟨117, a10, .int .i64 0, [], 21⟩
set_option maxRecDepth 1000000 in
theorem m10_ok : m10.ok Tryz.prog { Cfg.none with hk := memoHk 0 (tabM c10) } 100000 0 (St.empty 0) = true := by kernel_rfl
theorem m10_sound : m10.Sound Tryz.prog 0 Cfg.none := memo_plain c10_sound (by kernel_rfl) m10_ok
def c11 : List Memo := m10 :: c10
theorem c11_sound : ∀ m ∈ c11, m.Sound Tryz.prog 0 Cfg.none := sound_cons m10_sound c10_sound

def a11 : List AV := [.agg [.int .i64 32, .int .i64 0, .int .i64 0, .int .i64 0, .int .i64 0, .nils], .int .i64 1, .int .i64 0]
def m11 : Memo := ⟨117, a11, .int .i64 0, [], 21⟩
set_option maxRecDepth 1000000 in
theorem m11_ok : m11.ok Tryz.prog { Cfg.none with hk := memoHk 0 (tabM c11) } 100000 0 (St.empty 0) = true := by kernel_rfl
theorem m11_sound : m11.Sound Tryz.prog 0 Cfg.none := memo_plain c11_sound (by kernel_rfl) m11_ok
def c12 : List Memo := m11 :: c11
theorem c12_sound : ∀ m ∈ c12, m.Sound Tryz.prog 0 Cfg.none := sound_cons m11_sound c11_sound

def a12 : List AV := [.agg [.int .i64 30, .int .i64 0, .int .i64 0, .int .i64 0, .int .i64 0, .nils]]
def m12 : Memo := ⟨235, a12, .int .i64 (-1), [], 3⟩
set_option maxRecDepth 1000000 in
theorem m12_ok : m12.ok Tryz.prog { Cfg.none with hk := memoHk 0 (tabM c12) } 100000 0 (St.empty 0) = true := by kernel_rfl
theorem m12_sound : m12.Sound Tryz.prog 0 Cfg.none := memo_plain c12_sound (by kernel_rfl) m12_ok
def c13 : List Memo := m12 :: c12
theorem c13_sound : ∀ m ∈ c13, m.Sound Tryz.prog 0 Cfg.none := sound_cons m12_sound c12_sound

def a13 : List AV := [.agg [.int .i64 31, .int .i64 0, .int .i64 0, .int .i64 0, .int .i64 0, .nils]]
def m13 : Memo := ⟨235, a13, .int .i64 (-1), [], 3⟩
set_option maxRecDepth 1000000 in
theorem m13_ok : m13.ok Tryz.prog { Cfg.none with hk := memoHk 0 (tabM c13) } 100000 0 (St.empty 0) = true := by kernel_rfl
theorem m13_sound : m13.Sound Tryz.prog 0 Cfg.none := memo_plain c13_sound (by kernel_rfl) m13_ok
def c14 : List Memo := m13 :: c13
theorem c14_sound : ∀ m ∈ c14, m.Sound Tryz.prog 0 Cfg.none := sound_cons m13_sound c13_sound

def a14 : List AV := [.agg [.int .i64 32, .int .i64 0, .int .i64 0, .int .i64 0, .int .i64 0, .nils]]
def m14 : Memo := ⟨235, a14, .int .i64 (-1), [], 3⟩
set_option maxRecDepth 1000000 in
theorem m14_ok : m14.ok Tryz.prog { Cfg.none with hk := memoHk 0 (tabM c14) } 100000 0 (St.empty 0) = true := by kernel_rfl
theorem m14_sound : m14.Sound Tryz.prog 0 Cfg.none := memo_plain c14_sound (by kernel_rfl) m14_ok
def c15 : List Memo := m14 :: c14
theorem c15_sound : ∀ m ∈ c15, m.Sound Tryz.prog 0 Cfg.none := sound_cons m14_sound c14_sound

def a15 : List AV := [.agg [.int .i64 30, .int .i64 0, .int .i64 0, .int .i64 0, .int .i64 0, .nils]]
def m15 : Memo := ⟨152, a15, .nils, [], 10⟩
set_option maxRecDepth 1000000 in
theorem m15_ok : m15.ok Tryz.prog { Cfg.none with hk := memoHk 0 (tabM c15) } 100000 0 (St.empty 0) = true := by kernel_rfl
theorem m15_sound : m15.Sound Tryz.prog 0 Cfg.none := memo_plain c15_sound (by kernel_rfl) m15_ok
def c16 : List Memo := m15 :: c15
theorem c16_sound : ∀ m ∈ c16, m.Sound Tryz.prog 0 Cfg.none := sound_cons m15_sound c15_sound

def a16 : List AV := [.agg [.int .i64 31, .int .i64 0, .int .i64 0, .int .i64 0, .int .i64 0, .nils]]
def m16 : Memo := ⟨152, a16, .slc 9 0 0 1 none 1, [(9, .arr [.int .i64 0] 0 1 1 1 3)], 12⟩
set_option maxRecDepth 1000000 in
theorem m16_ok : m16.ok Tryz.prog { Cfg.none with hk := memoHk 0 (tabM c16) } 100000 0 (St.empty 0) = true := by kernel_rfl
theorem m16_sound : m16.Sound Tryz.prog 0 Cfg.none := memo_plain c16_sound (by kernel_rfl) m16_ok
def c17 : List Memo := m16 :: c16
theorem c17_sound : ∀ m ∈ c17, m.Sound Tryz.prog 0 Cfg.none := sound_cons m16_sound c16_sound

def a17 : List AV := [.agg [.int .i64 32, .int .i64 0, .int .i64 0, .int .i64 0, .int .i64 0, .nils]]
def m17 : Memo := ⟨152, a17, .slc 9 0 0 1 none 1, [(9, .arr [.int .i64 0] 0 1 1 1 3)], 12⟩
set_option maxRecDepth 1000000 in
theorem m17_ok : m17.ok Tryz.prog { Cfg.none with hk := memoHk 0 (tabM c17) } 100000 0 (St.empty 0) = true := by kernel_rfl
theorem m17_sound : m17.Sound Tryz.prog 0 Cfg.none := memo_plain c17_sound (by kernel_rfl) m17_ok
def c18 : List Memo := m17 :: c17
theorem c18_sound : ∀ m ∈ c18, m.Sound Tryz.prog 0 Cfg.none := sound_cons m17_sound c17_sound

def a18 : List AV := [.int .i64 0, .int .i64 2]
def m18 : Memo := ⟨56, a18, .slc 1 1 0 2 none 1, [(1, .arr [.int .u8 0, .int .u8 0] 0 1 1 2 5)], 3⟩
set_option maxRecDepth 1000000 in
theorem m18_ok : m18.ok Tryz.prog { Cfg.none with hk := memoHk 0 (tabM c18) } 100000 0 (St.empty 0) = true := by kernel_rfl
theorem m18_sound : m18.Sound Tryz.prog 0 Cfg.none := memo_plain c18_sound (by kernel_rfl) m18_ok
def c19 : List Memo := m18 :: c18
theorem c19_sound : ∀ m ∈ c19, m.Sound Tryz.prog 0 Cfg.none := sound_cons m18_sound c18_sound

def a19 : List AV := []
def m19 : Memo := ⟨43, a19, .map 0, [(0, .map [(.int .i64 1, .fn (.func 75) [] [], 0), (.int .i64 2, .fn (.func 75) [] [], 1), (.int .i64 3, .fn (.func 76) [] [], 2), (.int .i64 4, .fn (.func 76) [] [], 3), (.int .i64 63, .fn (.func 77) [] [], 4), (.int .i64 5, .fn (.func 78) [] [], 5), (.int .i64 6, .fn (.func 78) [] [], 6), (.int .i64 7, .fn (.func 78) [] [], 7), (.int .i64 8, .fn (.func 78) [] [], 8), (.int .i64 9, .fn (.func 78) [] [], 9), (.int .i64 10, .fn (.func 78) [] [], 10), (.int .i64 11, .fn (.func 79) [] [], 11), (.int .i64 12, .fn (.func 79) [] [], 12), (.int .i64 13, .fn (.func 79) [] [], 13), (.int .i64 14, .fn (.func 79) [] [], 14), (.int .i64 15, .fn (.func 79) [] [], 15), (.int .i64 16, .fn (.func 79) [] [], 16), (.int .i64 17, .fn (.func 79) [] [], 17), (.int .i64 18, .fn (.func 80) [] [], 18), (.int .i64 19, .fn (.func 80) [] [], 19), (.int .i64 20, .fn (.func 80) [] [], 20), (.int .i64 21, .fn (.func 80) [] [], 21), (.int .i64 22, .fn (.func 81) [] [], 22), (.int .i64 23, .fn (.func 81) [] [], 23), (.int .i64 24, .fn (.func 81) [] [], 24), (.int .i64 25, .fn (.func 81) [] [], 25), (.int .i64 26, .fn (.func 81) [] [], 26), (.int .i64 27, .fn (.func 81) [] [], 27), (.int .i64 28, .fn (.func 81) [] [], 28), (.int .i64 29, .fn (.func 81) [] [], 29), (.int .i64 30, .fn (.func 81) [] [], 30), (.int .i64 31, .fn (.func 81) [] [], 31), (.int .i64 32, .fn (.func 81) [] [], 32), (.int .i64 33, .fn (.func 81) [] [], 33), (.int .i64 34, .fn (.func 81) [] [], 34), (.int .i64 35, .fn (.func 81) [] [], 35), (.int .i64 36, .fn (.func 81) [] [], 36), (.int .i64 37, .fn (.func 81) [] [], 37), (.int .i64 38, .fn (.func 81) [] [], 38), (.int .i64 39, .fn (.func 81) [] [], 39), (.int .i64 40, .fn (.func 81) [] [], 40), (.int .i64 41, .fn (.func 81) [] [], 41), (.int .i64 42, .fn (.func 81) [] [], 42), (.int .i64 43, .fn (.func 81) [] [], 43), (.int .i64 44, .fn (.func 81) [] [], 44), (.int .i64 45, .fn (.func 81) [] [], 45), (.int .i64 46, .fn (.func 81) [] [], 46), (.int .i64 47, .fn (.func 81) [] [], 47), (.int .i64 48, .fn (.func 81) [] [], 48), (.int .i64 49, .fn (.func 81) [] [], 49), (.int .i64 50, .fn (.func 81) [] [], 50), (.int .i64 51, .fn (.func 81) [] [], 51), (.int .i64 52, .fn (.func 81) [] [], 52), (.int .i64 53, .fn (.func 81) [] [], 53), (.int .i64 54, .fn (.func 81) [] [], 54), (.int .i64 55, .fn (.func 81) [] [], 55), (.int .i64 56, .fn (.func 81) [] [], 56), (.int .i64 57, .fn (.func 81) [] [], 57), (.int .i64 58, .fn (.func 81) [] [], 58), (.int .i64 59, .fn (.func 81) [] [], 59), (.int .i64 60, .fn (.func 81) [] [], 60), (.int .i64 61, .fn (.func 81) [] [], 61), (.int .i64 62, .fn (.func 81) [] [], 62)] 63)], 1⟩
set_option maxRecDepth 1000000 in
theorem m19_ok : m19.ok Tryz.prog { Cfg.none with hk := memoHk 0 (tabM c19) } 100000 0 (St.empty 0) = true := by kernel_rfl
theorem m19_sound : m19.Sound Tryz.prog 0 Cfg.none := memo_plain c19_sound (by kernel_rfl) m19_ok
def c20 : List Memo := m19 :: c19
theorem c20_sound : ∀ m ∈ c20, m.Sound Tryz.prog 0 Cfg.none := sound_cons m19_sound c19_sound

def a20 : List AV := []
def m20 : Memo := ⟨280, a20, .agg [.fn (.func 318) [] [], .fn (.func 319) [] [], .fn (.func 320) [] [], .fn (.func 334) [] [], .fn (.func 334) [] [], .fn (.func 334) [] [], .fn (.func 334) [] [], .fn (.func 334) [] [], .fn (.func 334) [] [], .fn (.func 334) [] [], .fn (.func 334) [] [], .fn (.func 334) [] [], .fn (.func 334) [] [], .fn (.func 334) [] [], .fn (.func 334) [] [], .fn (.func 334) [] [], .fn (.func 334) [] [], .fn (.func 334) [] [], .fn (.func 334) [] [], .fn (.func 334) [] [], .fn (.func 321) [] [], .fn (.func 322) [] [], .fn (.func 323) [] [], .fn (.func 324) [] [], .fn (.func 325) [] [], .fn (.func 326) [] [], .fn (.func 327) [] [], .fn (.func 328) [] [], .fn (.func 329) [] [], .fn (.func 330) [] [], .fn (.func 331) [] [], .fn (.func 332) [] [], .fn (.func 333) [] []], [], 2⟩
set_option maxRecDepth 1000000 in
theorem m20_ok : m20.ok Tryz.prog { Cfg.none with hk := memoHk 0 (tabM c20) } 100000 0 (St.empty 0) = true := by kernel_rfl
theorem m20_sound : m20.Sound Tryz.prog 0 Cfg.none := memo_plain c20_sound (by kernel_rfl) m20_ok
def c21 : List Memo := m20 :: c20
theorem c21_sound : ∀ m ∈ c21, m.Sound Tryz.prog 0 Cfg.none := sound_cons m20_sound c20_sound

def a21 : List AV := [.agg [.int .i64 30, .int .i64 0, .int .i64 0, .int .i64 0, .int .i64 0, .nils], .int .i64 1, .int .i64 0, .int .i64 0]
def m21 : Memo := ⟨205, a21, .tup [.slc 21 5 0 6 none 7, .int .i64 0], [(21, .arr [.int .i64 0, .int .i64 0, .int .i64 6, .int .i64 0, .int .i64 18, .int .i64 0, .int .i64 12, .int .i64 0, .int .i64 0, .int .i64 1, .int .i64 5, .int .i64 0, .int .i64 0, .int .i64 262144, .int .i64 0, .int .i64 0, .int .i64 4, .int .i64 0, .int .i64 5, .int .i64 0, .int .i64 0, .int .i64 0, .int .i64 0, .int .i64 22, .int .i64 18, .int .i64 18, .int .i64 0, .int .i64 (-1), .int .i64 0, .int .i64 0, .int .i64 1, .int .i64 5, .int .i64 0, .int .i64 0, .int .i64 262144, .int .i64 0, .int .i64 0, .int .i64 4, .int .i64 0, .int .i64 5, .int .i64 0, .int .i64 80] 0 7 1 6 258)], 32⟩
set_option maxRecDepth 1000000 in
theorem m21_ok : m21.ok Tryz.prog { Cfg.none with hk := memoHk 0 (tabM c21) } 100000 0 (St.empty 0) = true := by kernel_rfl
theorem m21_sound : m21.Sound Tryz.prog 0 Cfg.none := memo_plain c21_sound (by kernel_rfl) m21_ok
def c22 : List Memo := m21 :: c21
theorem c22_sound : ∀ m ∈ c22, m.Sound Tryz.prog 0 Cfg.none := sound_cons m21_sound c21_sound

def a22 : List AV := [.agg [.int .i64 31, .int .i64 0, .int .i64 0, .int .i64 0, .int .i64 0, .nils], .int .i64 1, .int .i64 0, .int .i64 2]
def m22 : Memo := ⟨205, a22, .tup [.slc 23 5 0 6 none 7, .int .i64 0], [(23, .arr [.int .i64 0, .int .i64 0, .int .i64 6, .int .i64 0, .int .i64 18, .int .i64 0, .int .i64 12, .int .i64 0, .int .i64 0, .int .i64 1, .int .i64 5, .int .i64 0, .int .i64 0, .int .i64 262144, .int .i64 0, .int .i64 0, .int .i64 4, .int .i64 0, .int .i64 5, .int .i64 0, .int .i64 256, .int .i64 0, .int .i64 0, .int .i64 22, .int .i64 18, .int .i64 18, .int .i64 0, .int .i64 (-1), .int .i64 0, .int .i64 0, .int .i64 1, .int .i64 5, .int .i64 0, .int .i64 0, .int .i64 262144, .int .i64 0, .int .i64 0, .int .i64 4, .int .i64 0, .int .i64 5, .int .i64 0, .int .i64 352] 0 7 1 6 258)], 34⟩
set_option maxRecDepth 1000000 in
theorem m22_ok : m22.ok Tryz.prog { Cfg.none with hk := memoHk 0 (tabM c22) } 100000 0 (St.empty 0) = true := by kernel_rfl
theorem m22_sound : m22.Sound Tryz.prog 0 Cfg.none := memo_plain c22_sound (by kernel_rfl) m22_ok
def c23 : List Memo := m22 :: c22
theorem c23_sound : ∀ m ∈ c23, m.Sound Tryz.prog 0 Cfg.none := sound_cons m22_sound c22_sound

def a23 : List AV := [.agg [.int .i64 32, .int .i64 0, .int .i64 0, .int .i64 0, .int .i64 0, .nils], .int .i64 1, .int .i64 0, .int .i64 4]
def m23 : Memo := ⟨205, a23, .tup [.slc 23 5 0 6 none 7, .int .i64 0], [(23, .arr [.int .i64 0, .int .i64 0, .int .i64 6, .int .i64 0, .int .i64 18, .int .i64 0, .int .i64 12, .int .i64 0, .int .i64 0, .int .i64 1, .int .i64 5, .int .i64 0, .int .i64 0, .int .i64 262144, .int .i64 0, .int .i64 0, .int .i64 4, .int .i64 0, .int .i64 5, .int .i64 0, .int .i64 512, .int .i64 0, .int .i64 0, .int .i64 22, .int .i64 18, .int .i64 18, .int .i64 0, .int .i64 (-1), .int .i64 0, .int .i64 0, .int .i64 1, .int .i64 5, .int .i64 0, .int .i64 0, .int .i64 262144, .int .i64 0, .int .i64 0, .int .i64 4, .int .i64 0, .int .i64 5, .int .i64 0, .int .i64 624] 0 7 1 6 258)], 34⟩
set_option maxRecDepth 1000000 in
theorem m23_ok : m23.ok Tryz.prog { Cfg.none with hk := memoHk 0 (tabM c23) } 100000 0 (St.empty 0) = true := by kernel_rfl
theorem m23_sound : m23.Sound Tryz.prog 0 Cfg.none := memo_plain c23_sound (by kernel_rfl) m23_ok
def c24 : List Memo := m23 :: c23
theorem c24_sound : ∀ m ∈ c24, m.Sound Tryz.prog 0 Cfg.none := sound_cons m23_sound c23_sound

def a24 : List AV := []
def m24 : Memo := ⟨211, a24, .agg [strN [], strN [], .int .u32 0, .int .u32 0, .int .u32 0, strN [108,117,105], strN [85], .int .u32 55, .int .u32 0, .int .u32 0, strN [97,117,105,112,99], strN [85], .int .u32 23, .int .u32 0, .int .u32 0, strN [106,97,108], strN [74], .int .u32 111, .int .u32 0, .int .u32 0, strN [106,97,108,114], strN [73], .int .u32 103, .int .u32 0, .int .u32 0, strN [98,101,113], strN [66], .int .u32 99, .int .u32 0, .int .u32 0, strN [98,110,101], strN [66], .int .u32 99, .int .u32 1, .int .u32 0, strN [98,108,116], strN [66], .int .u32 99, .int .u32 4, .int .u32 0, strN [98,103,101], strN [66], .int .u32 99, .int .u32 5, .int .u32 0, strN [98,108,116,117], strN [66], .int .u32 99, .int .u32 6, .int .u32 0, strN [98,103,101,117], strN [66], .int .u32 99, .int .u32 7, .int .u32 0, strN [108,98], strN [73], .int .u32 3, .int .u32 0, .int .u32 0, strN [108,104], strN [73], .int .u32 3, .int .u32 1, .int .u32 0, strN [108,119], strN [73], .int .u32 3, .int .u32 2, .int .u32 0, strN [108,100], strN [73], .int .u32 3, .int .u32 3, .int .u32 0, strN [108,98,117], strN [73], .int .u32 3, .int .u32 4, .int .u32 0, strN [108,104,117], strN [73], .int .u32 3, .int .u32 5, .int .u32 0, strN [108,119,117], strN [73], .int .u32 3, .int .u32 6, .int .u32 0, strN [115,98], strN [83], .int .u32 35, .int .u32 0, .int .u32 0, strN [115,104], strN [83], .int .u32 35, .int .u32 1, .int .u32 0, strN [115,119], strN [83], .int .u32 35, .int .u32 2, .int .u32 0, strN [115,100], strN [83], .int .u32 35, .int .u32 3, .int .u32 0, strN [97,100,100,105], strN [73], .int .u32 19, .int .u32 0, .int .u32 0, strN [115,108,116,105], strN [73], .int .u32 19, .int .u32 2, .int .u32 0, strN [115,108,116,105,117], strN [73], .int .u32 19, .int .u32 3, .int .u32 0, strN [120,111,114,105], strN [73], .int .u32 19, .int .u32 4, .int .u32 0, strN [111,114,105], strN [73], .int .u32 19, .int .u32 6, .int .u32 0, strN [97,110,100,105], strN [73], .int .u32 19, .int .u32 7, .int .u32 0, strN [115,108,108,105], strN [88], .int .u32 19, .int .u32 1, .int .u32 0, strN [115,114,108,105], strN [88], .int .u32 19, .int .u32 5, .int .u32 0, strN [115,114,97,105], strN [88], .int .u32 19, .int .u32 5, .int .u32 16, strN [97,100,100,105,119], strN [73], .int .u32 27, .int .u32 0, .int .u32 0, strN [115,108,108,105,119], strN [89], .int .u32 27, .int .u32 1, .int .u32 0, strN [115,114,108,105,119], strN [89], .int .u32 27, .int .u32 5, .int .u32 0, strN [115,114,97,105,119], strN [89], .int .u32 27, .int .u32 5, .int .u32 32, strN [97,100,100], strN [82], .int .u32 51, .int .u32 0, .int .u32 0, strN [115,117,98], strN [82], .int .u32 51, .int .u32 0, .int .u32 32, strN [115,108,108], strN [82], .int .u32 51, .int .u32 1, .int .u32 0, strN [115,108,116], strN [82], .int .u32 51, .int .u32 2, .int .u32 0, strN [115,108,116,117], strN [82], .int .u32 51, .int .u32 3, .int .u32 0, strN [120,111,114], strN [82], .int .u32 51, .int .u32 4, .int .u32 0, strN [115,114,108], strN [82], .int .u32 51, .int .u32 5, .int .u32 0, strN [115,114,97], strN [82], .int .u32 51, .int .u32 5, .int .u32 32, strN [111,114], strN [82], .int .u32 51, .int .u32 6, .int .u32 0, strN [97,110,100], strN [82], .int .u32 51, .int .u32 7, .int .u32 0, strN [97,100,100,119], strN [82], .int .u32 59, .int .u32 0, .int .u32 0, strN [115,117,98,119], strN [82], .int .u32 59, .int .u32 0, .int .u32 32, strN [115,108,108,119], strN [82], .int .u32 59, .int .u32 1, .int .u32 0, strN [115,114,108,119], strN [82], .int .u32 59, .int .u32 5, .int .u32 0, strN [115,114,97,119], strN [82], .int .u32 59, .int .u32 5, .int .u32 32, strN [109,117,108], strN [82], .int .u32 51, .int .u32 0, .int .u32 1, strN [109,117,108,104], strN [82], .int .u32 51, .int .u32 1, .int .u32 1, strN [109,117,108,104,115,117], strN [82], .int .u32 51, .int .u32 2, .int .u32 1, strN [109,117,108,104,117], strN [82], .int .u32 51, .int .u32 3, .int .u32 1, strN [100,105,118], strN [82], .int .u32 51, .int .u32 4, .int .u32 1, strN [100,105,118,117], strN [82], .int .u32 51, .int .u32 5, .int .u32 1, strN [114,101,109], strN [82], .int .u32 51, .int .u32 6, .int .u32 1, strN [114,101,109,117], strN [82], .int .u32 51, .int .u32 7, .int .u32 1, strN [109,117,108,119], strN [82], .int .u32 59, .int .u32 0, .int .u32 1, strN [100,105,118,119], strN [82], .int .u32 59, .int .u32 4, .int .u32 1, strN [100,105,118,117,119], strN [82], .int .u32 59, .int .u32 5, .int .u32 1, strN [114,101,109,119], strN [82], .int .u32 59, .int .u32 6, .int .u32 1, strN [114,101,109,117,119], strN [82], .int .u32 59, .int .u32 7, .int .u32 1, strN [101,99,97,108,108], strN [69], .int .u32 115, .int .u32 0, .int .u32 0], [], 1⟩
set_option maxRecDepth 1000000 in
theorem m24_ok : m24.ok Tryz.prog { Cfg.none with hk := memoHk 0 (tabM c24) } 100000 0 (St.empty 0) = true := by kernel_rfl
theorem m24_sound : m24.Sound Tryz.prog 0 Cfg.none := memo_plain c24_sound (by kernel_rfl) m24_ok
def c25 : List Memo := m24 :: c24
theorem c25_sound : ∀ m ∈ c25, m.Sound Tryz.prog 0 Cfg.none := sound_cons m24_sound c24_sound

def a25 : List AV := [.agg [.int .i64 6, .int .i64 0, .int .i64 18, .int .i64 0, .int .i64 12]]
def m25 : Memo := ⟨214, a25, .int .i64 0, [], 21⟩
set_option maxRecDepth 1000000 in
theorem m25_ok : m25.ok Tryz.prog { Cfg.none with hk := memoHk 0 (tabM c25) } 100000 0 (St.empty 0) = true := by kernel_rfl
theorem m25_sound : m25.Sound Tryz.prog 0 Cfg.none := memo_plain c25_sound (by kernel_rfl) m25_ok
def c26 : List Memo := m25 :: c25
theorem c26_sound : ∀ m ∈ c26, m.Sound Tryz.prog 0 Cfg.none := sound_cons m25_sound c25_sound

def a26 : List AV := [.agg [.int .i64 1, .int .i64 5, .int .i64 0, .int .i64 0, .int .i64 262144]]
def m26 : Memo := ⟨214, a26, .int .i64 0, [], 20⟩
set_option maxRecDepth 1000000 in
theorem m26_ok : m26.ok Tryz.prog { Cfg.none with hk := memoHk 0 (tabM c26) } 100000 0 (St.empty 0) = true := by kernel_rfl
theorem m26_sound : m26.Sound Tryz.prog 0 Cfg.none := memo_plain c26_sound (by kernel_rfl) m26_ok
def c27 : List Memo := m26 :: c26
theorem c27_sound : ∀ m ∈ c27, m.Sound Tryz.prog 0 Cfg.none := sound_cons m26_sound c26_sound

def a27 : List AV := [.agg [.int .i64 0, .int .i64 0, .int .i64 1, .int .i64 5, .int .i64 0, .int .i64 0, .int .i64 262144]]
def m27 : Memo := ⟨281, a27, .bool true, [], 21⟩
set_option maxRecDepth 1000000 in
theorem m27_ok : m27.ok Tryz.prog { Cfg.none with hk := memoHk 0 (tabM c27) } 100000 0 (St.empty 0) = true := by kernel_rfl
theorem m27_sound : m27.Sound Tryz.prog 0 Cfg.none := memo_plain c27_sound (by kernel_rfl) m27_ok
def c28 : List Memo := m27 :: c27
theorem c28_sound : ∀ m ∈ c28, m.Sound Tryz.prog 0 Cfg.none := sound_cons m27_sound c27_sound

def a28 : List AV := [.agg [.int .i64 4, .int .i64 0, .int .i64 5, .int .i64 0, .int .i64 0]]
def m28 : Memo := ⟨214, a28, .int .i64 0, [], 21⟩
set_option maxRecDepth 1000000 in
theorem m28_ok : m28.ok Tryz.prog { Cfg.none with hk := memoHk 0 (tabM c28) } 100000 0 (St.empty 0) = true := by kernel_rfl
theorem m28_sound : m28.Sound Tryz.prog 0 Cfg.none := memo_plain c28_sound (by kernel_rfl) m28_ok
def c29 : List Memo := m28 :: c28
theorem c29_sound : ∀ m ∈ c29, m.Sound Tryz.prog 0 Cfg.none := sound_cons m28_sound c28_sound

def a29 : List AV := [.agg [.int .i64 22, .int .i64 18, .int .i64 18, .int .i64 0, .int .i64 (-1)]]
def m29 : Memo := ⟨214, a29, .int .i64 0, [], 21⟩
set_option maxRecDepth 1000000 in
theorem m29_ok : m29.ok Tryz.prog { Cfg.none with hk := memoHk 0 (tabM c29) } 100000 0 (St.empty 0) = true := by kernel_rfl
theorem m29_sound : m29.Sound Tryz.prog 0 Cfg.none := memo_plain c29_sound (by kernel_rfl) m29_ok
def c30 : List Memo := m29 :: c29
theorem c30_sound : ∀ m ∈ c30, m.Sound Tryz.prog 0 Cfg.none := sound_cons m29_sound c29_sound

def a30 : List AV := [.agg [.int .i64 4, .int .i64 0, .int .i64 5, .int .i64 0, .int .i64 80]]
def m30 : Memo := ⟨214, a30, .int .i64 0, [], 21⟩
set_option maxRecDepth 1000000 in
theorem m30_ok : m30.ok Tryz.prog { Cfg.none with hk := memoHk 0 (tabM c30) } 100000 0 (St.empty 0) = true := by kernel_rfl
theorem m30_sound : m30.Sound Tryz.prog 0 Cfg.none := memo_plain c30_sound (by kernel_rfl) m30_ok
def c31 : List Memo := m30 :: c30
theorem c31_sound : ∀ m ∈ c31, m.Sound Tryz.prog 0 Cfg.none := sound_cons m30_sound c30_sound

def a31 : List AV := [.agg [.int .i64 4, .int .i64 0, .int .i64 5, .int .i64 0, .int .i64 256]]
def m31 : Memo := ⟨214, a31, .int .i64 0, [], 21⟩
set_option maxRecDepth 1000000 in
theorem m31_ok : m31.ok Tryz.prog { Cfg.none with hk := memoHk 0 (tabM c31) } 100000 0 (St.empty 0) = true := by kernel_rfl
theorem m31_sound : m31.Sound Tryz.prog 0 Cfg.none := memo_plain c31_sound (by kernel_rfl) m31_ok
def c32 : List Memo := m31 :: c31
theorem c32_sound : ∀ m ∈ c32, m.Sound Tryz.prog 0 Cfg.none := sound_cons m31_sound c31_sound

def a32 : List AV := [.agg [.int .i64 4, .int .i64 0, .int .i64 5, .int .i64 0, .int .i64 352]]
def m32 : Memo := ⟨214, a32, .int .i64 0, [], 21⟩
set_option maxRecDepth 1000000 in
theorem m32_ok : m32.ok Tryz.prog { Cfg.none with hk := memoHk 0 (tabM c32) } 100000 0 (St.empty 0) = true := by kernel_rfl
theorem m32_sound : m32.Sound Tryz.prog 0 Cfg.none := memo_plain c32_sound (by kernel_rfl) m32_ok
def c33 : List Memo := m32 :: c32
theorem c33_sound : ∀ m ∈ c33, m.Sound Tryz.prog 0 Cfg.none := sound_cons m32_sound c32_sound

def a33 : List AV := [.agg [.int .i64 4, .int .i64 0, .int .i64 5, .int .i64 0, .int .i64 512]]
def m33 : Memo := ⟨214, a33, .int .i64 0, [], 21⟩
set_option maxRecDepth 1000000 in
theorem m33_ok : m33.ok Tryz.prog { Cfg.none with hk := memoHk 0 (tabM c33) } 100000 0 (St.empty 0) = true := by kernel_rfl
theorem m33_sound : m33.Sound Tryz.prog 0 Cfg.none := memo_plain c33_sound (by kernel_rfl) m33_ok
def c34 : List Memo := m33 :: c33
theorem c34_sound : ∀ m ∈ c34, m.Sound Tryz.prog 0 Cfg.none := sound_cons m33_sound c33_sound

def a34 : List AV := [.agg [.int .i64 4, .int .i64 0, .int .i64 5, .int .i64 0, .int .i64 624]]
def m34 : Memo := ⟨214, a34, .int .i64 0, [], 21⟩
set_option maxRecDepth 1000000 in
theorem m34_ok : m34.ok Tryz.prog { Cfg.none with hk := memoHk 0 (tabM c34) } 100000 0 (St.empty 0) = true := by kernel_rfl
theorem m34_sound : m34.Sound Tryz.prog 0 Cfg.none := memo_plain c34_sound (by kernel_rfl) m34_ok
def c35 : List Memo := m34 :: c34
theorem c35_sound : ∀ m ∈ c35, m.Sound Tryz.prog 0 Cfg.none := sound_cons m34_sound c34_sound

def a35 : List AV := [.agg [strN [98,110,101], strN [66], .int .u32 99, .int .u32 1, .int .u32 0], .agg [.int .i64 6, .int .i64 0, .int .i64 18, .int .i64 0, .int .i64 12]]
def m35 : Memo := ⟨215, a35, .int .u32 595555, [], 22⟩
set_option maxRecDepth 1000000 in
theorem m35_ok : m35.ok Tryz.prog { Cfg.none with hk := memoHk 0 (tabM c35) } 100000 0 (St.empty 0) = true := by kernel_rfl
theorem m35_sound : m35.Sound Tryz.prog 0 Cfg.none := memo_plain c35_sound (by kernel_rfl) m35_ok
def c36 : List Memo := m35 :: c35
theorem c36_sound : ∀ m ∈ c36, m.Sound Tryz.prog 0 Cfg.none := sound_cons m35_sound c35_sound

def a36 : List AV := [.agg [.int .i64 1, .int .i64 5, .int .i64 0, .int .i64 0, .int .i64 262144]]
def m36 : Memo := ⟨210, a36, .tup [.int .u32 1073742519, .int .i64 0], [], 42⟩
set_option maxRecDepth 1000000 in
theorem m36_ok : m36.ok Tryz.prog { Cfg.none with hk := memoHk 0 (tabM c36) } 100000 0 (St.empty 0) = true := by kernel_rfl
theorem m36_sound : m36.Sound Tryz.prog 0 Cfg.none := memo_plain c36_sound (by kernel_rfl) m36_ok
def c37 : List Memo := m36 :: c36
theorem c37_sound : ∀ m ∈ c37, m.Sound Tryz.prog 0 Cfg.none := sound_cons m36_sound c36_sound

def a37 : List AV := [.agg [.int .i64 4, .int .i64 0, .int .i64 5, .int .i64 0, .int .i64 0]]
def m37 : Memo := ⟨210, a37, .tup [.int .u32 163943, .int .i64 0], [], 45⟩
set_option maxRecDepth 1000000 in
theorem m37_ok : m37.ok Tryz.prog { Cfg.none with hk := memoHk 0 (tabM c37) } 100000 0 (St.empty 0) = true := by kernel_rfl
theorem m37_sound : m37.Sound Tryz.prog 0 Cfg.none := memo_plain c37_sound (by kernel_rfl) m37_ok
def c38 : List Memo := m37 :: c37
theorem c38_sound : ∀ m ∈ c38, m.Sound Tryz.prog 0 Cfg.none := sound_cons m37_sound c37_sound

def a38 : List AV := [.agg [.int .i64 22, .int .i64 18, .int .i64 18, .int .i64 0, .int .i64 (-1)]]
def m38 : Memo := ⟨210, a38, .tup [.int .u32 4294510867, .int .i64 0], [], 45⟩
set_option maxRecDepth 1000000 in
theorem m38_ok : m38.ok Tryz.prog { Cfg.none with hk := memoHk 0 (tabM c38) } 100000 0 (St.empty 0) = true := by kernel_rfl
theorem m38_sound : m38.Sound Tryz.prog 0 Cfg.none := memo_plain c38_sound (by kernel_rfl) m38_ok
def c39 : List Memo := m38 :: c38
theorem c39_sound : ∀ m ∈ c39, m.Sound Tryz.prog 0 Cfg.none := sound_cons m38_sound c38_sound

def a39 : List AV := [.agg [.int .i64 4, .int .i64 0, .int .i64 5, .int .i64 0, .int .i64 80]]
def m39 : Memo := ⟨210, a39, .tup [.int .u32 84050023, .int .i64 0], [], 45⟩
set_option maxRecDepth 1000000 in
theorem m39_ok : m39.ok Tryz.prog { Cfg.none with hk := memoHk 0 (tabM c39) } 100000 0 (St.empty 0) = true := by kernel_rfl
theorem m39_sound : m39.Sound Tryz.prog 0 Cfg.none := memo_plain c39_sound (by kernel_rfl) m39_ok
def c40 : List Memo := m39 :: c39
theorem c40_sound : ∀ m ∈ c40, m.Sound Tryz.prog 0 Cfg.none := sound_cons m39_sound c39_sound

def a40 : List AV := [.agg [.int .i64 4, .int .i64 0, .int .i64 5, .int .i64 0, .int .i64 256]]
def m40 : Memo := ⟨210, a40, .tup [.int .u32 268599399, .int .i64 0], [], 45⟩
set_option maxRecDepth 1000000 in
theorem m40_ok : m40.ok Tryz.prog { Cfg.none with hk := memoHk 0 (tabM c40) } 100000 0 (St.empty 0) = true := by kernel_rfl
theorem m40_sound : m40.Sound Tryz.prog 0 Cfg.none := memo_plain c40_sound (by kernel_rfl) m40_ok
def c41 : List Memo := m40 :: c40
theorem c41_sound : ∀ m ∈ c41, m.Sound Tryz.prog 0 Cfg.none := sound_cons m40_sound c40_sound

def a41 : List AV := [.agg [.int .i64 4, .int .i64 0, .int .i64 5, .int .i64 0, .int .i64 352]]
def m41 : Memo := ⟨210, a41, .tup [.int .u32 369262695, .int .i64 0], [], 45⟩
set_option maxRecDepth 1000000 in
theorem m41_ok : m41.ok Tryz.prog { Cfg.none with hk := memoHk 0 (tabM c41) } 100000 0 (St.empty 0) = true := by kernel_rfl
theorem m41_sound : m41.Sound Tryz.prog 0 Cfg.none := memo_plain c41_sound (by kernel_rfl) m41_ok
def c42 : List Memo := m41 :: c41
theorem c42_sound : ∀ m ∈ c42, m.Sound Tryz.prog 0 Cfg.none := sound_cons m41_sound c41_sound

def a42 : List AV := [.agg [.int .i64 4, .int .i64 0, .int .i64 5, .int .i64 0, .int .i64 512]]
def m42 : Memo := ⟨210, a42, .tup [.int .u32 537034855, .int .i64 0], [], 45⟩
set_option maxRecDepth 1000000 in
theorem m42_ok : m42.ok Tryz.prog { Cfg.none with hk := memoHk 0 (tabM c42) } 100000 0 (St.empty 0) = true := by kernel_rfl
theorem m42_sound : m42.Sound Tryz.prog 0 Cfg.none := memo_plain c42_sound (by kernel_rfl) m42_ok
def c43 : List Memo := m42 :: c42
theorem c43_sound : ∀ m ∈ c43, m.Sound Tryz.prog 0 Cfg.none := sound_cons m42_sound c42_sound

def a43 : List AV := [.agg [.int .i64 4, .int .i64 0, .int .i64 5, .int .i64 0, .int .i64 624]]
def m43 : Memo := ⟨210, a43, .tup [.int .u32 654475367, .int .i64 0], [], 45⟩
set_option maxRecDepth 1000000 in
theorem m43_ok : m43.ok Tryz.prog { Cfg.none with hk := memoHk 0 (tabM c43) } 100000 0 (St.empty 0) = true := by kernel_rfl
theorem m43_sound : m43.Sound Tryz.prog 0 Cfg.none := memo_plain c43_sound (by kernel_rfl) m43_ok
def c44 : List Memo := m43 :: c43
theorem c44_sound : ∀ m ∈ c44, m.Sound Tryz.prog 0 Cfg.none := sound_cons m43_sound c43_sound

def a44 : List AV := []
def m44 : Memo := ⟨104, a44, .agg [.fn (.func 156) [] [], .fn (.func 157) [] [], .fn (.func 158) [] [], .fn (.func 172) [] [], .fn (.func 172) [] [], .fn (.func 172) [] [], .fn (.func 173) [] [], .fn (.func 173) [] [], .fn (.func 173) [] [], .fn (.func 173) [] [], .fn (.func 172) [] [], .fn (.func 172) [] [], .fn (.func 172) [] [], .fn (.func 172) [] [], .fn (.func 172) [] [], .fn (.func 172) [] [], .fn (.func 172) [] [], .fn (.func 172) [] [], .fn (.func 172) [] [], .fn (.func 172) [] [], .fn (.func 159) [] [], .fn (.func 160) [] [], .fn (.func 161) [] [], .fn (.func 162) [] [], .fn (.func 163) [] [], .fn (.func 164) [] [], .fn (.func 165) [] [], .fn (.func 166) [] [], .fn (.func 167) [] [], .fn (.func 168) [] [], .fn (.func 169) [] [], .fn (.func 170) [] [], .fn (.func 171) [] []], [], 2⟩
set_option maxRecDepth 1000000 in
theorem m44_ok : m44.ok Tryz.prog { Cfg.none with hk := memoHk 0 (tabM c44) } 100000 0 (St.empty 0) = true := by kernel_rfl
theorem m44_sound : m44.Sound Tryz.prog 0 Cfg.none := memo_plain c44_sound (by kernel_rfl) m44_ok
def c45 : List Memo := m44 :: c44
theorem c45_sound : ∀ m ∈ c45, m.Sound Tryz.prog 0 Cfg.none := sound_cons m44_sound c44_sound

def a45 : List AV := [.int .u64 65, .int .i64 8]
def m45 : Memo := ⟨108, a45, .tup [.slc 1 7 0 8 none 1, .int .i64 0], [(1, .arr [.int .u8 65, .int .u8 0, .int .u8 0, .int .u8 0, .int .u8 0, .int .u8 0, .int .u8 0, .int .u8 0] 0 1 1 8 5)], 9⟩
set_option maxRecDepth 1000000 in
theorem m45_ok : m45.ok Tryz.prog { Cfg.none with hk := memoHk 0 (tabM c45) } 100000 0 (St.empty 0) = true := by kernel_rfl
theorem m45_sound : m45.Sound Tryz.prog 0 Cfg.none := memo_plain c45_sound (by kernel_rfl) m45_ok
def c46 : List Memo := m45 :: c45
theorem c46_sound : ∀ m ∈ c46, m.Sound Tryz.prog 0 Cfg.none := sound_cons m45_sound c45_sound
end Go.Proofs.YtkddndlkblhldaaGreat
