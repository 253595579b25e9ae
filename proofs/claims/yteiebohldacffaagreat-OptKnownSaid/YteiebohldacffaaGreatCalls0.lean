/-
  Calls whose outcome is known, each shown by the evaluator with the earlier ones at hand; part 0. No condition.
-/
import Derived.Test.YteiebohldacffaaGreatTwMemo
import Derived.Test.YteiebohldacffaaGreatChecked
namespace Go.Proofs.YteiebohldacffaaGreat
open Go.Tw
instance : Val := noVal
def c0 : List Memo := []
theorem c0_sound : ∀ m ∈ c0, m.Sound Tryz.prog 0 Cfg.none := sound_nil

def a0 : List AV := [strN [119,105], strN [105,107,109,122,102,100,116,99]]
def m0 : Memo := ⟨137, a0, .bool true, [], 1⟩
set_option maxRecDepth 1000000 in
theorem m0_ok : m0.ok Tryz.prog { Cfg.none with hk := memoHk 0 (tabM c0) } 100000 0 (St.empty 0) = true := by kernel_rfl
theorem m0_sound : m0.Sound Tryz.prog 0 Cfg.none := memo_plain c0_sound (by kernel_rfl) m0_ok
def c1 : List Memo := m0 :: c0
theorem c1_sound : ∀ m ∈ c1, m.Sound Tryz.prog 0 Cfg.none := sound_cons m0_sound c0_sound

def a1 : List AV := [.agg [.int .i64 1, .int .i64 0, .int .i64 0, .int .i64 0, .int .i64 2, .nils]]
def m1 : Memo := ⟨69, a1, .tup [.slc 6 0 0 1 none 1, .nils, .int .i64 0], [(6, .arr [.int .i64 0] 0 1 1 1 3)], 7⟩
set_option maxRecDepth 1000000 in
theorem m1_ok : m1.ok Tryz.prog { Cfg.none with hk := memoHk 0 (tabM c1) } 100000 0 (St.empty 0) = true := by kernel_rfl
theorem m1_sound : m1.Sound Tryz.prog 0 Cfg.none := memo_plain c1_sound (by kernel_rfl) m1_ok
def c2 : List Memo := m1 :: c1
theorem c2_sound : ∀ m ∈ c2, m.Sound Tryz.prog 0 Cfg.none := sound_cons m1_sound c1_sound

def a2 : List AV := [.agg [.int .i64 1, .int .i64 0, .int .i64 0, .int .i64 0, .int .i64 2, .nils]]
def m2 : Memo := ⟨48, a2, .tup [.slc 28 1 0 10 none 1, .int .i64 0], [(28, .arr [.int .u8 1, .int .u8 0, .int .u8 2, .int .u8 0, .int .u8 0, .int .u8 0, .int .u8 0, .int .u8 0, .int .u8 0, .int .u8 0] 0 2 1 2 5)], 38⟩
set_option maxRecDepth 1000000 in
theorem m2_ok : m2.ok Tryz.prog { Cfg.none with hk := memoHk 0 (tabM c2) } 100000 0 (St.empty 0) = true := by kernel_rfl
theorem m2_sound : m2.Sound Tryz.prog 0 Cfg.none := memo_plain c2_sound (by kernel_rfl) m2_ok
def c3 : List Memo := m2 :: c2
theorem c3_sound : ∀ m ∈ c3, m.Sound Tryz.prog 0 Cfg.none := sound_cons m2_sound c2_sound

def a3 : List AV := [.agg [.int .i64 1, .int .i64 1, .int .i64 0, .int .i64 0, .int .i64 3, .nils]]
def m3 : Memo := ⟨69, a3, .tup [.slc 6 0 0 1 none 1, .nils, .int .i64 1], [(6, .arr [.int .i64 1] 0 1 1 1 3)], 7⟩
set_option maxRecDepth 1000000 in
theorem m3_ok : m3.ok Tryz.prog { Cfg.none with hk := memoHk 0 (tabM c3) } 100000 0 (St.empty 0) = true := by kernel_rfl
theorem m3_sound : m3.Sound Tryz.prog 0 Cfg.none := memo_plain c3_sound (by kernel_rfl) m3_ok
def c4 : List Memo := m3 :: c3
theorem c4_sound : ∀ m ∈ c4, m.Sound Tryz.prog 0 Cfg.none := sound_cons m3_sound c3_sound

def a4 : List AV := [.agg [.int .i64 1, .int .i64 1, .int .i64 0, .int .i64 0, .int .i64 3, .nils]]
def m4 : Memo := ⟨48, a4, .tup [.slc 28 1 0 10 none 1, .int .i64 0], [(28, .arr [.int .u8 1, .int .u8 1, .int .u8 3, .int .u8 0, .int .u8 0, .int .u8 0, .int .u8 0, .int .u8 0, .int .u8 0, .int .u8 0] 0 2 1 2 5)], 38⟩
set_option maxRecDepth 1000000 in
theorem m4_ok : m4.ok Tryz.prog { Cfg.none with hk := memoHk 0 (tabM c4) } 100000 0 (St.empty 0) = true := by kernel_rfl
theorem m4_sound : m4.Sound Tryz.prog 0 Cfg.none := memo_plain c4_sound (by kernel_rfl) m4_ok
def c5 : List Memo := m4 :: c4
theorem c5_sound : ∀ m ∈ c5, m.Sound Tryz.prog 0 Cfg.none := sound_cons m4_sound c4_sound

def a5 : List AV := [.agg [.int .i64 3, .int .i64 0, .int .i64 0, .int .i64 1, .int .i64 0, .nils]]
def m5 : Memo := ⟨91, a5, .bool true, [], 5⟩
set_option maxRecDepth 1000000 in
theorem m5_ok : m5.ok Tryz.prog { Cfg.none with hk := memoHk 0 (tabM c5) } 100000 0 (St.empty 0) = true := by kernel_rfl
theorem m5_sound : m5.Sound Tryz.prog 0 Cfg.none := memo_plain c5_sound (by kernel_rfl) m5_ok
def c6 : List Memo := m5 :: c5
theorem c6_sound : ∀ m ∈ c6, m.Sound Tryz.prog 0 Cfg.none := sound_cons m5_sound c5_sound

def a6 : List AV := [.agg [.int .i64 3, .int .i64 0, .int .i64 0, .int .i64 1, .int .i64 0, .nils]]
def m6 : Memo := ⟨69, a6, .tup [.slc 6 2 0 3 none 1, .slc 9 1 0 2 none 1, .int .i64 0], [(6, .arr [.int .i64 0, .int .i64 0, .int .i64 1] 0 1 1 3 3), (9, .arr [.int .i64 0, .int .i64 1] 0 1 1 2 3)], 12⟩
set_option maxRecDepth 1000000 in
theorem m6_ok : m6.ok Tryz.prog { Cfg.none with hk := memoHk 0 (tabM c6) } 100000 0 (St.empty 0) = true := by kernel_rfl
theorem m6_sound : m6.Sound Tryz.prog 0 Cfg.none := memo_plain c6_sound (by kernel_rfl) m6_ok
def c7 : List Memo := m6 :: c6
theorem c7_sound : ∀ m ∈ c7, m.Sound Tryz.prog 0 Cfg.none := sound_cons m6_sound c6_sound

def a7 : List AV := [.agg [.int .i64 3, .int .i64 0, .int .i64 0, .int .i64 1, .int .i64 0, .nils]]
def m7 : Memo := ⟨48, a7, .tup [.slc 33 2 0 4 none 1, .int .i64 0], [(33, .arr [.int .u8 3, .int .u8 0, .int .u8 0, .int .u8 1] 0 2 1 3 5)], 40⟩
set_option maxRecDepth 1000000 in
theorem m7_ok : m7.ok Tryz.prog { Cfg.none with hk := memoHk 0 (tabM c7) } 100000 0 (St.empty 0) = true := by kernel_rfl
theorem m7_sound : m7.Sound Tryz.prog 0 Cfg.none := memo_plain c7_sound (by kernel_rfl) m7_ok
def c8 : List Memo := m7 :: c7
theorem c8_sound : ∀ m ∈ c8, m.Sound Tryz.prog 0 Cfg.none := sound_cons m7_sound c7_sound

def a8 : List AV := [.agg [.int .i64 32, .int .i64 0, .int .i64 0, .int .i64 0, .int .i64 0, .nils]]
def m8 : Memo := ⟨69, a8, .tup [.slc 6 0 0 1 none 1, .slc 8 0 0 1 none 1, .int .i64 (-1)], [(6, .arr [.int .i64 0] 0 1 1 1 3), (8, .arr [.int .i64 0] 0 1 1 1 3)], 9⟩
set_option maxRecDepth 1000000 in
theorem m8_ok : m8.ok Tryz.prog { Cfg.none with hk := memoHk 0 (tabM c8) } 100000 0 (St.empty 0) = true := by kernel_rfl
theorem m8_sound : m8.Sound Tryz.prog 0 Cfg.none := memo_plain c8_sound (by kernel_rfl) m8_ok
def c9 : List Memo := m8 :: c8
theorem c9_sound : ∀ m ∈ c9, m.Sound Tryz.prog 0 Cfg.none := sound_cons m8_sound c8_sound

def a9 : List AV := [.agg [.int .i64 32, .int .i64 0, .int .i64 0, .int .i64 0, .int .i64 0, .nils]]
def m9 : Memo := ⟨48, a9, .tup [.slc 30 0 0 2 none 1, .int .i64 0], [(30, .arr [.int .u8 32, .int .u8 0] 0 2 1 1 5)], 31⟩
set_option maxRecDepth 1000000 in
theorem m9_ok : m9.ok Tryz.prog { Cfg.none with hk := memoHk 0 (tabM c9) } 100000 0 (St.empty 0) = true := by kernel_rfl
theorem m9_sound : m9.Sound Tryz.prog 0 Cfg.none := memo_plain c9_sound (by kernel_rfl) m9_ok
def c10 : List Memo := m9 :: c9
theorem c10_sound : ∀ m ∈ c10, m.Sound Tryz.prog 0 Cfg.none := sound_cons m9_sound c9_sound

def a10 : List AV := [.agg [.int .i64 1, .int .i64 0, .int .i64 0, .int .i64 0, .int .i64 2, .nils], .int .i64 2, .int .i64 0]
def m10 : Memo := ⟨77, a10, .int .i64 0, [], 19⟩
set_option maxRecDepth 1000000 in
theorem m10_ok : m10.ok Tryz.prog { Cfg.none with hk := memoHk 0 (tabM c10) } 100000 0 (St.empty 0) = true := by kernel_rfl
theorem m10_sound : m10.Sound Tryz.prog 0 Cfg.none := memo_plain c10_sound (by kernel_rfl) m10_ok
def c11 : List Memo := m10 :: c10
theorem c11_sound : ∀ m ∈ c11, m.Sound Tryz.prog 0 Cfg.none := sound_cons m10_sound c10_sound

def a11 : List AV := [.agg [.int .i64 1, .int .i64 1, .int .i64 0, .int .i64 0, .int .i64 3, .nils], .int .i64 2, .int .i64 0]
def m11 : Memo := ⟨77, a11, .int .i64 0, [], 19⟩
set_option maxRecDepth 1000000 in
theorem m11_ok : m11.ok Tryz.prog { Cfg.none with hk := memoHk 0 (tabM c11) } 100000 0 (St.empty 0) = true := by kernel_rfl
theorem m11_sound : m11.Sound Tryz.prog 0 Cfg.none := memo_plain c11_sound (by kernel_rfl) m11_ok
def c12 : List Memo := m11 :: c11
theorem c12_sound : ∀ m ∈ c12, m.Sound Tryz.prog 0 Cfg.none := sound_cons m11_sound c11_sound

def a12 : List AV := [.agg [.int .i64 3, .int .i64 0, .int .i64 0, .int .i64 1, .int .i64 0, .nils], .int .i64 2, .int .i64 0]
def m12 : Memo := ⟨77, a12, .int .i64 0, [], 24⟩
set_option maxRecDepth 1000000 in
theorem m12_ok : m12.ok Tryz.prog { Cfg.none with hk := memoHk 0 (tabM c12) } 100000 0 (St.empty 0) = true := by kernel_rfl
theorem m12_sound : m12.Sound Tryz.prog 0 Cfg.none := memo_plain c12_sound (by kernel_rfl) m12_ok
def c13 : List Memo := m12 :: c12
theorem c13_sound : ∀ m ∈ c13, m.Sound Tryz.prog 0 Cfg.none := sound_cons m12_sound c12_sound

def a13 : List AV := [.agg [.int .i64 32, .int .i64 0, .int .i64 0, .int .i64 0, .int .i64 0, .nils], .int .i64 2, .int .i64 0]
def m13 : Memo := ⟨77, a13, .int .i64 0, [], 21⟩
set_option maxRecDepth 1000000 in
theorem m13_ok : m13.ok Tryz.prog { Cfg.none with hk := memoHk 0 (tabM c13) } 100000 0 (St.empty 0) = true := by kernel_rfl
theorem m13_sound : m13.Sound Tryz.prog 0 Cfg.none := memo_plain c13_sound (by kernel_rfl) m13_ok
def c14 : List Memo := m13 :: c13
theorem c14_sound : ∀ m ∈ c14, m.Sound Tryz.prog 0 Cfg.none := sound_cons m13_sound c13_sound

def a14 : List AV := [.agg [.int .i64 32, .int .i64 0, .int .i64 0, .int .i64 0, .int .i64 0, .nils]]
def m14 : Memo := ⟨40, a14, .int .i64 2, [], 32⟩
set_option maxRecDepth 1000000 in
theorem m14_ok : m14.ok Tryz.prog { Cfg.none with hk := memoHk 0 (tabM c14) } 100000 0 (St.empty 0) = true := by kernel_rfl
theorem m14_sound : m14.Sound Tryz.prog 0 Cfg.none := memo_plain c14_sound (by kernel_rfl) m14_ok
def c15 : List Memo := m14 :: c14
theorem c15_sound : ∀ m ∈ c15, m.Sound Tryz.prog 0 Cfg.none := sound_cons m14_sound c14_sound

def a15 : List AV := [.agg [.int .i64 1, .int .i64 0, .int .i64 0, .int .i64 0, .int .i64 2, .nils]]
def m15 : Memo := ⟨41, a15, .int .i64 (-1), [], 3⟩
set_option maxRecDepth 1000000 in
theorem m15_ok : m15.ok Tryz.prog { Cfg.none with hk := memoHk 0 (tabM c15) } 100000 0 (St.empty 0) = true := by kernel_rfl
theorem m15_sound : m15.Sound Tryz.prog 0 Cfg.none := memo_plain c15_sound (by kernel_rfl) m15_ok
def c16 : List Memo := m15 :: c15
theorem c16_sound : ∀ m ∈ c16, m.Sound Tryz.prog 0 Cfg.none := sound_cons m15_sound c15_sound

def a16 : List AV := [.agg [.int .i64 1, .int .i64 1, .int .i64 0, .int .i64 0, .int .i64 3, .nils]]
def m16 : Memo := ⟨41, a16, .int .i64 (-1), [], 3⟩
set_option maxRecDepth 1000000 in
theorem m16_ok : m16.ok Tryz.prog { Cfg.none with hk := memoHk 0 (tabM c16) } 100000 0 (St.empty 0) = true := by kernel_rfl
theorem m16_sound : m16.Sound Tryz.prog 0 Cfg.none := memo_plain c16_sound (by kernel_rfl) m16_ok
def c17 : List Memo := m16 :: c16
theorem c17_sound : ∀ m ∈ c17, m.Sound Tryz.prog 0 Cfg.none := sound_cons m16_sound c16_sound

def a17 : List AV := [.agg [.int .i64 3, .int .i64 0, .int .i64 0, .int .i64 1, .int .i64 0, .nils]]
def m17 : Memo := ⟨41, a17, .int .i64 (-1), [], 3⟩
set_option maxRecDepth 1000000 in
theorem m17_ok : m17.ok Tryz.prog { Cfg.none with hk := memoHk 0 (tabM c17) } 100000 0 (St.empty 0) = true := by kernel_rfl
theorem m17_sound : m17.Sound Tryz.prog 0 Cfg.none := memo_plain c17_sound (by kernel_rfl) m17_ok
def c18 : List Memo := m17 :: c17
theorem c18_sound : ∀ m ∈ c18, m.Sound Tryz.prog 0 Cfg.none := sound_cons m17_sound c17_sound

def a18 : List AV := [.agg [.int .i64 32, .int .i64 0, .int .i64 0, .int .i64 0, .int .i64 0, .nils]]
def m18 : Memo := ⟨41, a18, .int .i64 (-1), [], 3⟩
set_option maxRecDepth 1000000 in
theorem m18_ok : m18.ok Tryz.prog { Cfg.none with hk := memoHk 0 (tabM c18) } 100000 0 (St.empty 0) = true := by kernel_rfl
theorem m18_sound : m18.Sound Tryz.prog 0 Cfg.none := memo_plain c18_sound (by kernel_rfl) m18_ok
def c19 : List Memo := m18 :: c18
theorem c19_sound : ∀ m ∈ c19, m.Sound Tryz.prog 0 Cfg.none := sound_cons m18_sound c18_sound

def a19 : List AV := [.agg [.int .i64 32, .int .i64 0, .int .i64 0, .int .i64 0, .int .i64 0, .nils]]
def m19 : Memo := ⟨82, a19, .slc 9 0 0 1 none 1, [(9, .arr [.int .i64 0] 0 1 1 1 3)], 12⟩
set_option maxRecDepth 1000000 in
theorem m19_ok : m19.ok Tryz.prog { Cfg.none with hk := memoHk 0 (tabM c19) } 100000 0 (St.empty 0) = true := by kernel_rfl
theorem m19_sound : m19.Sound Tryz.prog 0 Cfg.none := memo_plain c19_sound (by kernel_rfl) m19_ok
def c20 : List Memo := m19 :: c19
theorem c20_sound : ∀ m ∈ c20, m.Sound Tryz.prog 0 Cfg.none := sound_cons m19_sound c19_sound

def a20 : List AV := []
def m20 : Memo := ⟨21, a20, .map 0, [(0, .map [(.int .i64 2, .fn (.func 42) [] [], 0), (.int .i64 20, .fn (.func 43) [] [], 1), (.int .i64 26, .fn (.func 44) [] [], 2), (.int .i64 27, .fn (.func 44) [] [], 3), (.int .i64 3, .fn (.func 45) [] [], 4), (.int .i64 4, .fn (.func 45) [] [], 5), (.int .i64 5, .fn (.func 45) [] [], 6), (.int .i64 6, .fn (.func 45) [] [], 7), (.int .i64 7, .fn (.func 45) [] [], 8), (.int .i64 8, .fn (.func 45) [] [], 9), (.int .i64 9, .fn (.func 45) [] [], 10), (.int .i64 10, .fn (.func 45) [] [], 11), (.int .i64 11, .fn (.func 45) [] [], 12), (.int .i64 12, .fn (.func 45) [] [], 13), (.int .i64 13, .fn (.func 45) [] [], 14), (.int .i64 14, .fn (.func 45) [] [], 15), (.int .i64 15, .fn (.func 45) [] [], 16), (.int .i64 16, .fn (.func 45) [] [], 17), (.int .i64 17, .fn (.func 45) [] [], 18), (.int .i64 18, .fn (.func 45) [] [], 19), (.int .i64 19, .fn (.func 45) [] [], 20)] 21)], 1⟩
set_option maxRecDepth 1000000 in
theorem m20_ok : m20.ok Tryz.prog { Cfg.none with hk := memoHk 0 (tabM c20) } 100000 0 (St.empty 0) = true := by kernel_rfl
theorem m20_sound : m20.Sound Tryz.prog 0 Cfg.none := memo_plain c20_sound (by kernel_rfl) m20_ok
def c21 : List Memo := m20 :: c20
theorem c21_sound : ∀ m ∈ c21, m.Sound Tryz.prog 0 Cfg.none := sound_cons m20_sound c20_sound

def a21 : List AV := [.agg [.int .i64 1, .int .i64 0, .int .i64 0, .int .i64 0, .int .i64 5, .nils]]
def m21 : Memo := ⟨48, a21, .tup [.slc 28 1 0 10 none 1, .int .i64 0], [(28, .arr [.int .u8 1, .int .u8 0, .int .u8 5, .int .u8 0, .int .u8 0, .int .u8 0, .int .u8 0, .int .u8 0, .int .u8 0, .int .u8 0] 0 2 1 2 5)], 38⟩
set_option maxRecDepth 1000000 in
theorem m21_ok : m21.ok Tryz.prog { Cfg.none with hk := memoHk 0 (tabM c21) } 100000 0 (St.empty 0) = true := by kernel_rfl
theorem m21_sound : m21.Sound Tryz.prog 0 Cfg.none := memo_plain c21_sound (by kernel_rfl) m21_ok
def c22 : List Memo := m21 :: c21
theorem c22_sound : ∀ m ∈ c22, m.Sound Tryz.prog 0 Cfg.none := sound_cons m21_sound c21_sound

def a22 : List AV := [.agg [.int .i64 1, .int .i64 0, .int .i64 0, .int .i64 0, .int .i64 5, .nils]]
def m22 : Memo := ⟨41, a22, .int .i64 (-1), [], 3⟩
set_option maxRecDepth 1000000 in
theorem m22_ok : m22.ok Tryz.prog { Cfg.none with hk := memoHk 0 (tabM c22) } 100000 0 (St.empty 0) = true := by kernel_rfl
theorem m22_sound : m22.Sound Tryz.prog 0 Cfg.none := memo_plain c22_sound (by kernel_rfl) m22_ok
def c23 : List Memo := m22 :: c22
theorem c23_sound : ∀ m ∈ c23, m.Sound Tryz.prog 0 Cfg.none := sound_cons m22_sound c22_sound

def a23 : List AV := [.agg [.int .i64 1, .int .i64 0, .int .i64 0, .int .i64 0, .int .i64 5, .nils], .int .i64 2, .int .i64 0]
def m23 : Memo := ⟨77, a23, .int .i64 0, [], 19⟩
set_option maxRecDepth 1000000 in
theorem m23_ok : m23.ok Tryz.prog { Cfg.none with hk := memoHk 0 (tabM c23) } 100000 0 (St.empty 0) = true := by kernel_rfl
theorem m23_sound : m23.Sound Tryz.prog 0 Cfg.none := memo_plain c23_sound (by kernel_rfl) m23_ok
def c24 : List Memo := m23 :: c23
theorem c24_sound : ∀ m ∈ c24, m.Sound Tryz.prog 0 Cfg.none := sound_cons m23_sound c23_sound

def a24 : List AV := [.agg [.int .i64 25, .int .i64 0, .int .i64 0, .int .i64 0, .int .i64 3, .nils]]
def m24 : Memo := ⟨69, a24, .tup [.nils, .nils, .int .i64 (-1)], [], 5⟩
set_option maxRecDepth 1000000 in
theorem m24_ok : m24.ok Tryz.prog { Cfg.none with hk := memoHk 0 (tabM c24) } 100000 0 (St.empty 0) = true := by kernel_rfl
theorem m24_sound : m24.Sound Tryz.prog 0 Cfg.none := memo_plain c24_sound (by kernel_rfl) m24_ok
def c25 : List Memo := m24 :: c24
theorem c25_sound : ∀ m ∈ c25, m.Sound Tryz.prog 0 Cfg.none := sound_cons m24_sound c24_sound

def a25 : List AV := [.agg [.int .i64 25, .int .i64 0, .int .i64 0, .int .i64 0, .int .i64 3, .nils]]
def m25 : Memo := ⟨48, a25, .tup [.slc 25 0 0 3 none 1, .int .i64 0], [(25, .arr [.int .u8 25, .int .u8 3, .int .u8 0] 0 3 1 1 5)], 26⟩
set_option maxRecDepth 1000000 in
theorem m25_ok : m25.ok Tryz.prog { Cfg.none with hk := memoHk 0 (tabM c25) } 100000 0 (St.empty 0) = true := by kernel_rfl
theorem m25_sound : m25.Sound Tryz.prog 0 Cfg.none := memo_plain c25_sound (by kernel_rfl) m25_ok
def c26 : List Memo := m25 :: c25
theorem c26_sound : ∀ m ∈ c26, m.Sound Tryz.prog 0 Cfg.none := sound_cons m25_sound c25_sound

def a26 : List AV := [.agg [.int .i64 25, .int .i64 0, .int .i64 0, .int .i64 0, .int .i64 6, .nils]]
def m26 : Memo := ⟨69, a26, .tup [.nils, .nils, .int .i64 (-1)], [], 5⟩
set_option maxRecDepth 1000000 in
theorem m26_ok : m26.ok Tryz.prog { Cfg.none with hk := memoHk 0 (tabM c26) } 100000 0 (St.empty 0) = true := by kernel_rfl
theorem m26_sound : m26.Sound Tryz.prog 0 Cfg.none := memo_plain c26_sound (by kernel_rfl) m26_ok
def c27 : List Memo := m26 :: c26
theorem c27_sound : ∀ m ∈ c27, m.Sound Tryz.prog 0 Cfg.none := sound_cons m26_sound c26_sound

def a27 : List AV := [.agg [.int .i64 25, .int .i64 0, .int .i64 0, .int .i64 0, .int .i64 6, .nils]]
def m27 : Memo := ⟨48, a27, .tup [.slc 25 0 0 3 none 1, .int .i64 0], [(25, .arr [.int .u8 25, .int .u8 6, .int .u8 0] 0 3 1 1 5)], 26⟩
set_option maxRecDepth 1000000 in
theorem m27_ok : m27.ok Tryz.prog { Cfg.none with hk := memoHk 0 (tabM c27) } 100000 0 (St.empty 0) = true := by kernel_rfl
theorem m27_sound : m27.Sound Tryz.prog 0 Cfg.none := memo_plain c27_sound (by kernel_rfl) m27_ok
def c28 : List Memo := m27 :: c27
theorem c28_sound : ∀ m ∈ c28, m.Sound Tryz.prog 0 Cfg.none := sound_cons m27_sound c27_sound

def a28 : List AV := [.agg [.int .i64 1, .int .i64 0, .int .i64 0, .int .i64 0, .int .i64 1, .nils]]
def m28 : Memo := ⟨69, a28, .tup [.slc 6 0 0 1 none 1, .nils, .int .i64 0], [(6, .arr [.int .i64 0] 0 1 1 1 3)], 7⟩
set_option maxRecDepth 1000000 in
theorem m28_ok : m28.ok Tryz.prog { Cfg.none with hk := memoHk 0 (tabM c28) } 100000 0 (St.empty 0) = true := by kernel_rfl
theorem m28_sound : m28.Sound Tryz.prog 0 Cfg.none := memo_plain c28_sound (by kernel_rfl) m28_ok
def c29 : List Memo := m28 :: c28
theorem c29_sound : ∀ m ∈ c29, m.Sound Tryz.prog 0 Cfg.none := sound_cons m28_sound c28_sound

def a29 : List AV := [.agg [.int .i64 1, .int .i64 0, .int .i64 0, .int .i64 0, .int .i64 1, .nils]]
def m29 : Memo := ⟨48, a29, .tup [.slc 28 1 0 10 none 1, .int .i64 0], [(28, .arr [.int .u8 1, .int .u8 0, .int .u8 1, .int .u8 0, .int .u8 0, .int .u8 0, .int .u8 0, .int .u8 0, .int .u8 0, .int .u8 0] 0 2 1 2 5)], 38⟩
set_option maxRecDepth 1000000 in
theorem m29_ok : m29.ok Tryz.prog { Cfg.none with hk := memoHk 0 (tabM c29) } 100000 0 (St.empty 0) = true := by kernel_rfl
theorem m29_sound : m29.Sound Tryz.prog 0 Cfg.none := memo_plain c29_sound (by kernel_rfl) m29_ok
def c30 : List Memo := m29 :: c29
theorem c30_sound : ∀ m ∈ c30, m.Sound Tryz.prog 0 Cfg.none := sound_cons m29_sound c29_sound

def a30 : List AV := [.agg [.int .i64 25, .int .i64 0, .int .i64 0, .int .i64 0, .int .i64 3, .nils], .int .i64 2, .int .i64 0]
def m30 : Memo := ⟨77, a30, .int .i64 0, [], 16⟩
set_option maxRecDepth 1000000 in
theorem m30_ok : m30.ok Tryz.prog { Cfg.none with hk := memoHk 0 (tabM c30) } 100000 0 (St.empty 0) = true := by kernel_rfl
theorem m30_sound : m30.Sound Tryz.prog 0 Cfg.none := memo_plain c30_sound (by kernel_rfl) m30_ok
def c31 : List Memo := m30 :: c30
theorem c31_sound : ∀ m ∈ c31, m.Sound Tryz.prog 0 Cfg.none := sound_cons m30_sound c30_sound

def a31 : List AV := [.agg [.int .i64 25, .int .i64 0, .int .i64 0, .int .i64 0, .int .i64 6, .nils], .int .i64 2, .int .i64 0]
def m31 : Memo := ⟨77, a31, .int .i64 0, [], 16⟩
set_option maxRecDepth 1000000 in
theorem m31_ok : m31.ok Tryz.prog { Cfg.none with hk := memoHk 0 (tabM c31) } 100000 0 (St.empty 0) = true := by kernel_rfl
theorem m31_sound : m31.Sound Tryz.prog 0 Cfg.none := memo_plain c31_sound (by kernel_rfl) m31_ok
def c32 : List Memo := m31 :: c31
theorem c32_sound : ∀ m ∈ c32, m.Sound Tryz.prog 0 Cfg.none := sound_cons m31_sound c31_sound

def a32 : List AV := [.agg [.int .i64 1, .int .i64 0, .int .i64 0, .int .i64 0, .int .i64 1, .nils], .int .i64 2, .int .i64 0]
def m32 : Memo := ⟨77, a32, .int .i64 0, [], 19⟩
set_option maxRecDepth 1000000 in
theorem m32_ok : m32.ok Tryz.prog { Cfg.none with hk := memoHk 0 (tabM c32) } 100000 0 (St.empty 0) = true := by kernel_rfl
theorem m32_sound : m32.Sound Tryz.prog 0 Cfg.none := memo_plain c32_sound (by kernel_rfl) m32_ok
def c33 : List Memo := m32 :: c32
theorem c33_sound : ∀ m ∈ c33, m.Sound Tryz.prog 0 Cfg.none := sound_cons m32_sound c32_sound

def a33 : List AV := [.agg [.int .i64 25, .int .i64 0, .int .i64 0, .int .i64 0, .int .i64 3, .nils]]
def m33 : Memo := ⟨41, a33, .int .i64 3, [], 3⟩
set_option maxRecDepth 1000000 in
theorem m33_ok : m33.ok Tryz.prog { Cfg.none with hk := memoHk 0 (tabM c33) } 100000 0 (St.empty 0) = true := by kernel_rfl
theorem m33_sound : m33.Sound Tryz.prog 0 Cfg.none := memo_plain c33_sound (by kernel_rfl) m33_ok
def c34 : List Memo := m33 :: c33
theorem c34_sound : ∀ m ∈ c34, m.Sound Tryz.prog 0 Cfg.none := sound_cons m33_sound c33_sound

def a34 : List AV := [.agg [.int .i64 25, .int .i64 0, .int .i64 0, .int .i64 0, .int .i64 6, .nils]]
def m34 : Memo := ⟨41, a34, .int .i64 6, [], 3⟩
set_option maxRecDepth 1000000 in
theorem m34_ok : m34.ok Tryz.prog { Cfg.none with hk := memoHk 0 (tabM c34) } 100000 0 (St.empty 0) = true := by kernel_rfl
theorem m34_sound : m34.Sound Tryz.prog 0 Cfg.none := memo_plain c34_sound (by kernel_rfl) m34_ok
def c35 : List Memo := m34 :: c34
theorem c35_sound : ∀ m ∈ c35, m.Sound Tryz.prog 0 Cfg.none := sound_cons m34_sound c34_sound

def a35 : List AV := [.agg [.int .i64 1, .int .i64 0, .int .i64 0, .int .i64 0, .int .i64 1, .nils]]
def m35 : Memo := ⟨41, a35, .int .i64 (-1), [], 3⟩
set_option maxRecDepth 1000000 in
theorem m35_ok : m35.ok Tryz.prog { Cfg.none with hk := memoHk 0 (tabM c35) } 100000 0 (St.empty 0) = true := by kernel_rfl
theorem m35_sound : m35.Sound Tryz.prog 0 Cfg.none := memo_plain c35_sound (by kernel_rfl) m35_ok
def c36 : List Memo := m35 :: c35
theorem c36_sound : ∀ m ∈ c36, m.Sound Tryz.prog 0 Cfg.none := sound_cons m35_sound c35_sound
end Go.Proofs.YteiebohldacffaaGreat
