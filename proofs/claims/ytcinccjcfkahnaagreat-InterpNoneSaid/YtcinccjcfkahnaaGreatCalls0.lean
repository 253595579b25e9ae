/-
  Calls whose outcome is known, each shown by the evaluator with the earlier ones at hand; part 0. No condition.
-/
import Derived.Test.YtcinccjcfkahnaaGreatTwSym
import Derived.Test.YtcinccjcfkahnaaGreatChecked
namespace Go.Proofs.YtcinccjcfkahnaaGreat
open Go.Tw
def c0 : List Memo := []
theorem c0_sound [Val] : ∀ m ∈ c0, m.Sound Tryz.prog 0 Cfg.none := sound_nil

def a0 : List AV := [.agg [.int .i64 30, .int .i64 0, .int .i64 0, .int .i64 0, .int .i64 0, .nils]]
def m0 : Memo := ⟨106, a0, .tup [.slc 6 0 0 1 none 1, .nils, .int .i64 0], [(6, .arr [.int .i64 0] 0 1 1 1 3)], 7⟩
set_option maxRecDepth 1000000 in
theorem m0_ok : m0.ok Tryz.prog { Cfg.none with hk := memoHk 0 (tabM c0) } 100000 0 (St.empty 0) = true := by kernel_rfl
theorem m0_sound [Val] : m0.Sound Tryz.prog 0 Cfg.none := memo_plain c0_sound (by kernel_rfl) m0_ok
def c1 : List Memo := m0 :: c0
theorem c1_sound [Val] : ∀ m ∈ c1, m.Sound Tryz.prog 0 Cfg.none := sound_cons m0_sound c0_sound

def a1 : List AV := [.agg [.int .i64 30, .int .i64 0, .int .i64 0, .int .i64 0, .int .i64 0, .nils]]
def m1 : Memo := ⟨101, a1, .int .i64 0, [], 20⟩
set_option maxRecDepth 1000000 in
theorem m1_ok : m1.ok Tryz.prog { Cfg.none with hk := memoHk 0 (tabM c1) } 100000 0 (St.empty 0) = true := by kernel_rfl
theorem m1_sound [Val] : m1.Sound Tryz.prog 0 Cfg.none := memo_plain c1_sound (by kernel_rfl) m1_ok
def c2 : List Memo := m1 :: c1
theorem c2_sound [Val] : ∀ m ∈ c2, m.Sound Tryz.prog 0 Cfg.none := sound_cons m1_sound c1_sound

def a2 : List AV := [.agg [.int .i64 30, .int .i64 0, .int .i64 0, .int .i64 0, .int .i64 0, .nils]]
def m2 : Memo := ⟨55, a2, .tup [.slc 28 0 0 2 none 1, .int .i64 0], [(28, .arr [.int .u8 30, .int .u8 0] 0 2 1 1 5)], 29⟩
set_option maxRecDepth 1000000 in
theorem m2_ok : m2.ok Tryz.prog { Cfg.none with hk := memoHk 0 (tabM c2) } 100000 0 (St.empty 0) = true := by kernel_rfl
theorem m2_sound [Val] : m2.Sound Tryz.prog 0 Cfg.none := memo_plain c2_sound (by kernel_rfl) m2_ok
def c3 : List Memo := m2 :: c2
theorem c3_sound [Val] : ∀ m ∈ c3, m.Sound Tryz.prog 0 Cfg.none := sound_cons m2_sound c2_sound

def a3 : List AV := [.agg [.int .i64 31, .int .i64 0, .int .i64 0, .int .i64 0, .int .i64 0, .nils]]
def m3 : Memo := ⟨106, a3, .tup [.slc 6 0 0 1 none 1, .slc 8 0 0 1 none 1, .int .i64 (-1)], [(6, .arr [.int .i64 0] 0 1 1 1 3), (8, .arr [.int .i64 0] 0 1 1 1 3)], 9⟩
set_option maxRecDepth 1000000 in
theorem m3_ok : m3.ok Tryz.prog { Cfg.none with hk := memoHk 0 (tabM c3) } 100000 0 (St.empty 0) = true := by kernel_rfl
theorem m3_sound [Val] : m3.Sound Tryz.prog 0 Cfg.none := memo_plain c3_sound (by kernel_rfl) m3_ok
def c4 : List Memo := m3 :: c3
theorem c4_sound [Val] : ∀ m ∈ c4, m.Sound Tryz.prog 0 Cfg.none := sound_cons m3_sound c3_sound

def a4 : List AV := [.agg [.int .i64 31, .int .i64 0, .int .i64 0, .int .i64 0, .int .i64 0, .nils]]
def m4 : Memo := ⟨101, a4, .int .i64 0, [], 22⟩
set_option maxRecDepth 1000000 in
theorem m4_ok : m4.ok Tryz.prog { Cfg.none with hk := memoHk 0 (tabM c4) } 100000 0 (St.empty 0) = true := by kernel_rfl
theorem m4_sound [Val] : m4.Sound Tryz.prog 0 Cfg.none := memo_plain c4_sound (by kernel_rfl) m4_ok
def c5 : List Memo := m4 :: c4
theorem c5_sound [Val] : ∀ m ∈ c5, m.Sound Tryz.prog 0 Cfg.none := sound_cons m4_sound c4_sound

def a5 : List AV := [.agg [.int .i64 31, .int .i64 0, .int .i64 0, .int .i64 0, .int .i64 0, .nils]]
def m5 : Memo := ⟨55, a5, .tup [.slc 30 0 0 2 none 1, .int .i64 0], [(30, .arr [.int .u8 31, .int .u8 0] 0 2 1 1 5)], 31⟩
set_option maxRecDepth 1000000 in
theorem m5_ok : m5.ok Tryz.prog { Cfg.none with hk := memoHk 0 (tabM c5) } 100000 0 (St.empty 0) = true := by kernel_rfl
theorem m5_sound [Val] : m5.Sound Tryz.prog 0 Cfg.none := memo_plain c5_sound (by kernel_rfl) m5_ok
def c6 : List Memo := m5 :: c5
theorem c6_sound [Val] : ∀ m ∈ c6, m.Sound Tryz.prog 0 Cfg.none := sound_cons m5_sound c5_sound

def a6 : List AV := [.agg [.int .i64 32, .int .i64 0, .int .i64 0, .int .i64 0, .int .i64 0, .nils]]
def m6 : Memo := ⟨106, a6, .tup [.slc 6 0 0 1 none 1, .slc 8 0 0 1 none 1, .int .i64 (-1)], [(6, .arr [.int .i64 0] 0 1 1 1 3), (8, .arr [.int .i64 0] 0 1 1 1 3)], 9⟩
set_option maxRecDepth 1000000 in
theorem m6_ok : m6.ok Tryz.prog { Cfg.none with hk := memoHk 0 (tabM c6) } 100000 0 (St.empty 0) = true := by kernel_rfl
theorem m6_sound [Val] : m6.Sound Tryz.prog 0 Cfg.none := memo_plain c6_sound (by kernel_rfl) m6_ok
def c7 : List Memo := m6 :: c6
theorem c7_sound [Val] : ∀ m ∈ c7, m.Sound Tryz.prog 0 Cfg.none := sound_cons m6_sound c6_sound

def a7 : List AV := [.agg [.int .i64 32, .int .i64 0, .int .i64 0, .int .i64 0, .int .i64 0, .nils]]
def m7 : Memo := ⟨101, a7, .int .i64 0, [], 22⟩
set_option maxRecDepth 1000000 in
theorem m7_ok : m7.ok Tryz.prog { Cfg.none with hk := memoHk 0 (tabM c7) } 100000 0 (St.empty 0) = true := by kernel_rfl
theorem m7_sound [Val] : m7.Sound Tryz.prog 0 Cfg.none := memo_plain c7_sound (by kernel_rfl) m7_ok
def c8 : List Memo := m7 :: c7
theorem c8_sound [Val] : ∀ m ∈ c8, m.Sound Tryz.prog 0 Cfg.none := sound_cons m7_sound c7_sound

def a8 : List AV := [.agg [.int .i64 32, .int .i64 0, .int .i64 0, .int .i64 0, .int .i64 0, .nils]]
def m8 : Memo := ⟨55, a8, .tup [.slc 30 0 0 2 none 1, .int .i64 0], [(30, .arr [.int .u8 32, .int .u8 0] 0 2 1 1 5)], 31⟩
set_option maxRecDepth 1000000 in
theorem m8_ok : m8.ok Tryz.prog { Cfg.none with hk := memoHk 0 (tabM c8) } 100000 0 (St.empty 0) = true := by kernel_rfl
theorem m8_sound [Val] : m8.Sound Tryz.prog 0 Cfg.none := memo_plain c8_sound (by kernel_rfl) m8_ok
def c9 : List Memo := m8 :: c8
theorem c9_sound [Val] : ∀ m ∈ c9, m.Sound Tryz.prog 0 Cfg.none := sound_cons m8_sound c8_sound

def a9 : List AV := [.agg [.int .i64 30, .int .i64 0, .int .i64 0, .int .i64 0, .int .i64 0, .nils], .int .i64 2, .int .i64 0]
def m9 : Memo := ⟨85, a9, .int .i64 0, [], 19⟩
set_option maxRecDepth 1000000 in
theorem m9_ok : m9.ok Tryz.prog { Cfg.none with hk := memoHk 0 (tabM c9) } 100000 0 (St.empty 0) = true := by kernel_rfl
theorem m9_sound [Val] : m9.Sound Tryz.prog 0 Cfg.none := memo_plain c9_sound (by kernel_rfl) m9_ok
def c10 : List Memo := m9 :: c9
theorem c10_sound [Val] : ∀ m ∈ c10, m.Sound Tryz.prog 0 Cfg.none := sound_cons m9_sound c9_sound

def a10 : List AV := [.agg [.int .i64 31, .int .i64 0, .int .i64 0, .int .i64 0, .int .i64 0, .nils], .int .i64 2, .int .i64 0]
def m10 : Memo := ⟨85, a10, .int .i64 0, [], 21⟩
set_option maxRecDepth 1000000 in
theorem m10_ok : m10.ok Tryz.prog { Cfg.none with hk := memoHk 0 (tabM c10) } 100000 0 (St.empty 0) = true := by kernel_rfl
theorem m10_sound [Val] : m10.Sound Tryz.prog 0 Cfg.none := memo_plain c10_sound (by kernel_rfl) m10_ok
def c11 : List Memo := m10 :: c10
theorem c11_sound [Val] : ∀ m ∈ c11, m.Sound Tryz.prog 0 Cfg.none := sound_cons m10_sound c10_sound

def a11 : List AV := [.agg [.int .i64 32, .int .i64 0, .int .i64 0, .int .i64 0, .int .i64 0, .nils], .int .i64 2, .int .i64 0]
def m11 : Memo := ⟨85, a11, .int .i64 0, [], 21⟩
set_option maxRecDepth 1000000 in
theorem m11_ok : m11.ok Tryz.prog { Cfg.none with hk := memoHk 0 (tabM c11) } 100000 0 (St.empty 0) = true := by kernel_rfl
theorem m11_sound [Val] : m11.Sound Tryz.prog 0 Cfg.none := memo_plain c11_sound (by kernel_rfl) m11_ok
def c12 : List Memo := m11 :: c11
theorem c12_sound [Val] : ∀ m ∈ c12, m.Sound Tryz.prog 0 Cfg.none := sound_cons m11_sound c11_sound

def a12 : List AV := [.agg [.int .i64 30, .int .i64 0, .int .i64 0, .int .i64 0, .int .i64 0, .nils]]
def m12 : Memo := ⟨184, a12, .int .i64 (-1), [], 3⟩
set_option maxRecDepth 1000000 in
theorem m12_ok : m12.ok Tryz.prog { Cfg.none with hk := memoHk 0 (tabM c12) } 100000 0 (St.empty 0) = true := by kernel_rfl
theorem m12_sound [Val] : m12.Sound Tryz.prog 0 Cfg.none := memo_plain c12_sound (by kernel_rfl) m12_ok
def c13 : List Memo := m12 :: c12
theorem c13_sound [Val] : ∀ m ∈ c13, m.Sound Tryz.prog 0 Cfg.none := sound_cons m12_sound c12_sound

def a13 : List AV := [.agg [.int .i64 31, .int .i64 0, .int .i64 0, .int .i64 0, .int .i64 0, .nils]]
def m13 : Memo := ⟨184, a13, .int .i64 (-1), [], 3⟩
set_option maxRecDepth 1000000 in
theorem m13_ok : m13.ok Tryz.prog { Cfg.none with hk := memoHk 0 (tabM c13) } 100000 0 (St.empty 0) = true := by kernel_rfl
theorem m13_sound [Val] : m13.Sound Tryz.prog 0 Cfg.none := memo_plain c13_sound (by kernel_rfl) m13_ok
def c14 : List Memo := m13 :: c13
theorem c14_sound [Val] : ∀ m ∈ c14, m.Sound Tryz.prog 0 Cfg.none := sound_cons m13_sound c13_sound

def a14 : List AV := [.agg [.int .i64 32, .int .i64 0, .int .i64 0, .int .i64 0, .int .i64 0, .nils]]
def m14 : Memo := ⟨184, a14, .int .i64 (-1), [], 3⟩
set_option maxRecDepth 1000000 in
theorem m14_ok : m14.ok Tryz.prog { Cfg.none with hk := memoHk 0 (tabM c14) } 100000 0 (St.empty 0) = true := by kernel_rfl
theorem m14_sound [Val] : m14.Sound Tryz.prog 0 Cfg.none := memo_plain c14_sound (by kernel_rfl) m14_ok
def c15 : List Memo := m14 :: c14
theorem c15_sound [Val] : ∀ m ∈ c15, m.Sound Tryz.prog 0 Cfg.none := sound_cons m14_sound c14_sound

def a15 : List AV := [.agg [.int .i64 32, .int .i64 0, .int .i64 0, .int .i64 0, .int .i64 0, .nils]]
def m15 : Memo := ⟨56, a15, .slc 9 0 0 1 none 1, [(9, .arr [.int .i64 0] 0 1 1 1 3)], 12⟩
set_option maxRecDepth 1000000 in
theorem m15_ok : m15.ok Tryz.prog { Cfg.none with hk := memoHk 0 (tabM c15) } 100000 0 (St.empty 0) = true := by kernel_rfl
theorem m15_sound [Val] : m15.Sound Tryz.prog 0 Cfg.none := memo_plain c15_sound (by kernel_rfl) m15_ok
def c16 : List Memo := m15 :: c15
theorem c16_sound [Val] : ∀ m ∈ c16, m.Sound Tryz.prog 0 Cfg.none := sound_cons m15_sound c15_sound

def a16 : List AV := [.int .i64 0, .int .i64 2]
def m16 : Memo := ⟨48, a16, .slc 1 1 0 2 none 1, [(1, .arr [.int .u8 0, .int .u8 0] 0 1 1 2 5)], 3⟩
set_option maxRecDepth 1000000 in
theorem m16_ok : m16.ok Tryz.prog { Cfg.none with hk := memoHk 0 (tabM c16) } 100000 0 (St.empty 0) = true := by kernel_rfl
theorem m16_sound [Val] : m16.Sound Tryz.prog 0 Cfg.none := memo_plain c16_sound (by kernel_rfl) m16_ok
def c17 : List Memo := m16 :: c16
theorem c17_sound [Val] : ∀ m ∈ c17, m.Sound Tryz.prog 0 Cfg.none := sound_cons m16_sound c16_sound

def a17 : List AV := []
def m17 : Memo := ⟨32, a17, .agg [.fn (.func 62) [] [], .fn (.func 63) [] [], .fn (.func 64) [] [], .fn (.func 78) [] [], .fn (.func 78) [] [], .fn (.func 78) [] [], .fn (.func 79) [] [], .fn (.func 79) [] [], .fn (.func 79) [] [], .fn (.func 79) [] [], .fn (.func 78) [] [], .fn (.func 78) [] [], .fn (.func 78) [] [], .fn (.func 78) [] [], .fn (.func 78) [] [], .fn (.func 78) [] [], .fn (.func 78) [] [], .fn (.func 78) [] [], .fn (.func 78) [] [], .fn (.func 78) [] [], .fn (.func 65) [] [], .fn (.func 66) [] [], .fn (.func 67) [] [], .fn (.func 68) [] [], .fn (.func 69) [] [], .fn (.func 70) [] [], .fn (.func 71) [] [], .fn (.func 72) [] [], .fn (.func 73) [] [], .fn (.func 74) [] [], .fn (.func 75) [] [], .fn (.func 76) [] [], .fn (.func 77) [] []], [], 2⟩
set_option maxRecDepth 1000000 in
theorem m17_ok : m17.ok Tryz.prog { Cfg.none with hk := memoHk 0 (tabM c17) } 100000 0 (St.empty 0) = true := by kernel_rfl
theorem m17_sound [Val] : m17.Sound Tryz.prog 0 Cfg.none := memo_plain c17_sound (by kernel_rfl) m17_ok
def c18 : List Memo := m17 :: c17
theorem c18_sound [Val] : ∀ m ∈ c18, m.Sound Tryz.prog 0 Cfg.none := sound_cons m17_sound c17_sound

def a18 : List AV := [.agg [.int .i64 1, .int .i64 0, .int .i64 0, .int .i64 0, .int .i64 7, .nils]]
def m18 : Memo := ⟨136, a18, .bool true, [], 5⟩
set_option maxRecDepth 1000000 in
theorem m18_ok : m18.ok Tryz.prog { Cfg.none with hk := memoHk 0 (tabM c18) } 100000 0 (St.empty 0) = true := by kernel_rfl
theorem m18_sound [Val] : m18.Sound Tryz.prog 0 Cfg.none := memo_plain c18_sound (by kernel_rfl) m18_ok
def c19 : List Memo := m18 :: c18
theorem c19_sound [Val] : ∀ m ∈ c19, m.Sound Tryz.prog 0 Cfg.none := sound_cons m18_sound c18_sound

def a19 : List AV := [.agg [.int .i64 1, .int .i64 0, .int .i64 0, .int .i64 0, .int .i64 7, .nils]]
def m19 : Memo := ⟨106, a19, .tup [.slc 6 0 0 1 none 1, .nils, .int .i64 0], [(6, .arr [.int .i64 0] 0 1 1 1 3)], 7⟩
set_option maxRecDepth 1000000 in
theorem m19_ok : m19.ok Tryz.prog { Cfg.none with hk := memoHk 0 (tabM c19) } 100000 0 (St.empty 0) = true := by kernel_rfl
theorem m19_sound [Val] : m19.Sound Tryz.prog 0 Cfg.none := memo_plain c19_sound (by kernel_rfl) m19_ok
def c20 : List Memo := m19 :: c19
theorem c20_sound [Val] : ∀ m ∈ c20, m.Sound Tryz.prog 0 Cfg.none := sound_cons m19_sound c19_sound

def a20 : List AV := [.agg [.int .i64 1, .int .i64 0, .int .i64 0, .int .i64 0, .int .i64 7, .nils]]
def m20 : Memo := ⟨101, a20, .int .i64 0, [], 20⟩
set_option maxRecDepth 1000000 in
theorem m20_ok : m20.ok Tryz.prog { Cfg.none with hk := memoHk 0 (tabM c20) } 100000 0 (St.empty 0) = true := by kernel_rfl
theorem m20_sound [Val] : m20.Sound Tryz.prog 0 Cfg.none := memo_plain c20_sound (by kernel_rfl) m20_ok
def c21 : List Memo := m20 :: c20
theorem c21_sound [Val] : ∀ m ∈ c21, m.Sound Tryz.prog 0 Cfg.none := sound_cons m20_sound c20_sound

def a21 : List AV := [.agg [.int .i64 1, .int .i64 0, .int .i64 0, .int .i64 0, .int .i64 7, .nils]]
def m21 : Memo := ⟨55, a21, .tup [.slc 28 1 0 10 none 1, .int .i64 0], [(28, .arr [.int .u8 1, .int .u8 0, .int .u8 7, .int .u8 0, .int .u8 0, .int .u8 0, .int .u8 0, .int .u8 0, .int .u8 0, .int .u8 0] 0 2 1 2 5)], 38⟩
set_option maxRecDepth 1000000 in
theorem m21_ok : m21.ok Tryz.prog { Cfg.none with hk := memoHk 0 (tabM c21) } 100000 0 (St.empty 0) = true := by kernel_rfl
theorem m21_sound [Val] : m21.Sound Tryz.prog 0 Cfg.none := memo_plain c21_sound (by kernel_rfl) m21_ok
def c22 : List Memo := m21 :: c21
theorem c22_sound [Val] : ∀ m ∈ c22, m.Sound Tryz.prog 0 Cfg.none := sound_cons m21_sound c21_sound

def a22 : List AV := [.agg [.int .i64 1, .int .i64 1, .int .i64 0, .int .i64 0, .int .i64 0, .nils]]
def m22 : Memo := ⟨136, a22, .bool true, [], 5⟩
set_option maxRecDepth 1000000 in
theorem m22_ok : m22.ok Tryz.prog { Cfg.none with hk := memoHk 0 (tabM c22) } 100000 0 (St.empty 0) = true := by kernel_rfl
theorem m22_sound [Val] : m22.Sound Tryz.prog 0 Cfg.none := memo_plain c22_sound (by kernel_rfl) m22_ok
def c23 : List Memo := m22 :: c22
theorem c23_sound [Val] : ∀ m ∈ c23, m.Sound Tryz.prog 0 Cfg.none := sound_cons m22_sound c22_sound

def a23 : List AV := [.agg [.int .i64 1, .int .i64 1, .int .i64 0, .int .i64 0, .int .i64 0, .nils]]
def m23 : Memo := ⟨106, a23, .tup [.slc 6 0 0 1 none 1, .nils, .int .i64 1], [(6, .arr [.int .i64 1] 0 1 1 1 3)], 7⟩
set_option maxRecDepth 1000000 in
theorem m23_ok : m23.ok Tryz.prog { Cfg.none with hk := memoHk 0 (tabM c23) } 100000 0 (St.empty 0) = true := by kernel_rfl
theorem m23_sound [Val] : m23.Sound Tryz.prog 0 Cfg.none := memo_plain c23_sound (by kernel_rfl) m23_ok
def c24 : List Memo := m23 :: c23
theorem c24_sound [Val] : ∀ m ∈ c24, m.Sound Tryz.prog 0 Cfg.none := sound_cons m23_sound c23_sound

def a24 : List AV := [.agg [.int .i64 1, .int .i64 1, .int .i64 0, .int .i64 0, .int .i64 0, .nils]]
def m24 : Memo := ⟨101, a24, .int .i64 0, [], 20⟩
set_option maxRecDepth 1000000 in
theorem m24_ok : m24.ok Tryz.prog { Cfg.none with hk := memoHk 0 (tabM c24) } 100000 0 (St.empty 0) = true := by kernel_rfl
theorem m24_sound [Val] : m24.Sound Tryz.prog 0 Cfg.none := memo_plain c24_sound (by kernel_rfl) m24_ok
def c25 : List Memo := m24 :: c24
theorem c25_sound [Val] : ∀ m ∈ c25, m.Sound Tryz.prog 0 Cfg.none := sound_cons m24_sound c24_sound

def a25 : List AV := [.agg [.int .i64 1, .int .i64 1, .int .i64 0, .int .i64 0, .int .i64 0, .nils]]
def m25 : Memo := ⟨55, a25, .tup [.slc 28 1 0 10 none 1, .int .i64 0], [(28, .arr [.int .u8 1, .int .u8 1, .int .u8 0, .int .u8 0, .int .u8 0, .int .u8 0, .int .u8 0, .int .u8 0, .int .u8 0, .int .u8 0] 0 2 1 2 5)], 38⟩
set_option maxRecDepth 1000000 in
theorem m25_ok : m25.ok Tryz.prog { Cfg.none with hk := memoHk 0 (tabM c25) } 100000 0 (St.empty 0) = true := by kernel_rfl
theorem m25_sound [Val] : m25.Sound Tryz.prog 0 Cfg.none := memo_plain c25_sound (by kernel_rfl) m25_ok
def c26 : List Memo := m25 :: c25
theorem c26_sound [Val] : ∀ m ∈ c26, m.Sound Tryz.prog 0 Cfg.none := sound_cons m25_sound c25_sound

def a26 : List AV := [.agg [.int .i64 6, .int .i64 0, .int .i64 0, .int .i64 1, .int .i64 0, .nils]]
def m26 : Memo := ⟨136, a26, .bool true, [], 5⟩
set_option maxRecDepth 1000000 in
theorem m26_ok : m26.ok Tryz.prog { Cfg.none with hk := memoHk 0 (tabM c26) } 100000 0 (St.empty 0) = true := by kernel_rfl
theorem m26_sound [Val] : m26.Sound Tryz.prog 0 Cfg.none := memo_plain c26_sound (by kernel_rfl) m26_ok
def c27 : List Memo := m26 :: c26
theorem c27_sound [Val] : ∀ m ∈ c27, m.Sound Tryz.prog 0 Cfg.none := sound_cons m26_sound c26_sound

def a27 : List AV := [.agg [.int .i64 6, .int .i64 0, .int .i64 0, .int .i64 1, .int .i64 0, .nils]]
def m27 : Memo := ⟨106, a27, .tup [.slc 6 2 0 3 none 1, .slc 9 1 0 2 none 1, .int .i64 0], [(6, .arr [.int .i64 0, .int .i64 0, .int .i64 1] 0 1 1 3 3), (9, .arr [.int .i64 0, .int .i64 1] 0 1 1 2 3)], 12⟩
set_option maxRecDepth 1000000 in
theorem m27_ok : m27.ok Tryz.prog { Cfg.none with hk := memoHk 0 (tabM c27) } 100000 0 (St.empty 0) = true := by kernel_rfl
theorem m27_sound [Val] : m27.Sound Tryz.prog 0 Cfg.none := memo_plain c27_sound (by kernel_rfl) m27_ok
def c28 : List Memo := m27 :: c27
theorem c28_sound [Val] : ∀ m ∈ c28, m.Sound Tryz.prog 0 Cfg.none := sound_cons m27_sound c27_sound

def a28 : List AV := [.agg [.int .i64 6, .int .i64 0, .int .i64 0, .int .i64 1, .int .i64 0, .nils]]
def m28 : Memo := ⟨101, a28, .int .i64 0, [], 25⟩
set_option maxRecDepth 1000000 in
theorem m28_ok : m28.ok Tryz.prog { Cfg.none with hk := memoHk 0 (tabM c28) } 100000 0 (St.empty 0) = true := by kernel_rfl
theorem m28_sound [Val] : m28.Sound Tryz.prog 0 Cfg.none := memo_plain c28_sound (by kernel_rfl) m28_ok
def c29 : List Memo := m28 :: c28
theorem c29_sound [Val] : ∀ m ∈ c29, m.Sound Tryz.prog 0 Cfg.none := sound_cons m28_sound c28_sound

def a29 : List AV := [.agg [.int .i64 6, .int .i64 0, .int .i64 0, .int .i64 1, .int .i64 0, .nils]]
def m29 : Memo := ⟨55, a29, .tup [.slc 33 2 0 4 none 1, .int .i64 0], [(33, .arr [.int .u8 6, .int .u8 0, .int .u8 0, .int .u8 1] 0 2 1 3 5)], 40⟩
set_option maxRecDepth 1000000 in
theorem m29_ok : m29.ok Tryz.prog { Cfg.none with hk := memoHk 0 (tabM c29) } 100000 0 (St.empty 0) = true := by kernel_rfl
theorem m29_sound [Val] : m29.Sound Tryz.prog 0 Cfg.none := memo_plain c29_sound (by kernel_rfl) m29_ok
def c30 : List Memo := m29 :: c29
theorem c30_sound [Val] : ∀ m ∈ c30, m.Sound Tryz.prog 0 Cfg.none := sound_cons m29_sound c29_sound

def a30 : List AV := [.agg [.int .i64 1, .int .i64 0, .int .i64 0, .int .i64 0, .int .i64 7, .nils], .int .i64 2, .int .i64 0]
def m30 : Memo := ⟨85, a30, .int .i64 0, [], 19⟩
set_option maxRecDepth 1000000 in
theorem m30_ok : m30.ok Tryz.prog { Cfg.none with hk := memoHk 0 (tabM c30) } 100000 0 (St.empty 0) = true := by kernel_rfl
theorem m30_sound [Val] : m30.Sound Tryz.prog 0 Cfg.none := memo_plain c30_sound (by kernel_rfl) m30_ok
def c31 : List Memo := m30 :: c30
theorem c31_sound [Val] : ∀ m ∈ c31, m.Sound Tryz.prog 0 Cfg.none := sound_cons m30_sound c30_sound

def a31 : List AV := [.agg [.int .i64 1, .int .i64 1, .int .i64 0, .int .i64 0, .int .i64 0, .nils], .int .i64 2, .int .i64 0]
def m31 : Memo := ⟨85, a31, .int .i64 0, [], 19⟩
set_option maxRecDepth 1000000 in
theorem m31_ok : m31.ok Tryz.prog { Cfg.none with hk := memoHk 0 (tabM c31) } 100000 0 (St.empty 0) = true := by kernel_rfl
theorem m31_sound [Val] : m31.Sound Tryz.prog 0 Cfg.none := memo_plain c31_sound (by kernel_rfl) m31_ok
def c32 : List Memo := m31 :: c31
theorem c32_sound [Val] : ∀ m ∈ c32, m.Sound Tryz.prog 0 Cfg.none := sound_cons m31_sound c31_sound

def a32 : List AV := [.agg [.int .i64 6, .int .i64 0, .int .i64 0, .int .i64 1, .int .i64 0, .nils], .int .i64 2, .int .i64 0]
def m32 : Memo := ⟨85, a32, .int .i64 0, [], 24⟩
set_option maxRecDepth 1000000 in
theorem m32_ok : m32.ok Tryz.prog { Cfg.none with hk := memoHk 0 (tabM c32) } 100000 0 (St.empty 0) = true := by kernel_rfl
theorem m32_sound [Val] : m32.Sound Tryz.prog 0 Cfg.none := memo_plain c32_sound (by kernel_rfl) m32_ok
def c33 : List Memo := m32 :: c32
theorem c33_sound [Val] : ∀ m ∈ c33, m.Sound Tryz.prog 0 Cfg.none := sound_cons m32_sound c32_sound

def a33 : List AV := [.agg [.nils, .int .i64 2, .int .i64 1]]
def m33 : Memo := ⟨82, a33, .tup [strN [116,114,97,112,32,49], .int .i64 0], [], 14⟩
set_option maxRecDepth 1000000 in
theorem m33_ok : m33.ok Tryz.prog { Cfg.none with hk := memoHk 0 (tabM c33) } 100000 0 (St.empty 0) = true := by kernel_rfl
theorem m33_sound [Val] : m33.Sound Tryz.prog 0 Cfg.none := memo_plain c33_sound (by kernel_rfl) m33_ok
def c34 : List Memo := m33 :: c33
theorem c34_sound [Val] : ∀ m ∈ c34, m.Sound Tryz.prog 0 Cfg.none := sound_cons m33_sound c33_sound
end Go.Proofs.YtcinccjcfkahnaaGreat
