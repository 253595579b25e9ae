/-
  Calls whose outcome is known, each shown by the evaluator with the earlier ones at hand; part 0. No condition.
-/
import Derived.Test.YtalhegeanpaolaaGreatTwSym
import Derived.Test.YtalhegeanpaolaaGreatChecked
namespace Go.Proofs.YtalhegeanpaolaaGreat
open Go.Tw
def c0 : List Memo := []
theorem c0_sound [Val] : ∀ m ∈ c0, m.Sound Tryz.prog 0 Cfg.none := sound_nil

def a0 : List AV := [.agg [.int .i64 30, .int .i64 0, .int .i64 0, .int .i64 0, .int .i64 0, .nils]]
def m0 : Memo := ⟨97, a0, .tup [.slc 6 0 0 1 none 1, .nils, .int .i64 0], [(6, .arr [.int .i64 0] 0 1 1 1 3)], 7⟩
set_option maxRecDepth 1000000 in
theorem m0_ok : m0.ok Tryz.prog { Cfg.none with hk := memoHk 0 (tabM c0) } 100000 0 (St.empty 0) = true := by kernel_rfl
theorem m0_sound [Val] : m0.Sound Tryz.prog 0 Cfg.none := memo_plain c0_sound (by kernel_rfl) m0_ok
def c1 : List Memo := m0 :: c0
theorem c1_sound [Val] : ∀ m ∈ c1, m.Sound Tryz.prog 0 Cfg.none := sound_cons m0_sound c0_sound

def a1 : List AV := [.agg [.int .i64 30, .int .i64 0, .int .i64 0, .int .i64 0, .int .i64 0, .nils]]
def m1 : Memo := ⟨272, a1, .int .i64 0, [], 20⟩
set_option maxRecDepth 1000000 in
theorem m1_ok : m1.ok Tryz.prog { Cfg.none with hk := memoHk 0 (tabM c1) } 100000 0 (St.empty 0) = true := by kernel_rfl
theorem m1_sound [Val] : m1.Sound Tryz.prog 0 Cfg.none := memo_plain c1_sound (by kernel_rfl) m1_ok
def c2 : List Memo := m1 :: c1
theorem c2_sound [Val] : ∀ m ∈ c2, m.Sound Tryz.prog 0 Cfg.none := sound_cons m1_sound c1_sound

def a2 : List AV := [.agg [.int .i64 30, .int .i64 0, .int .i64 0, .int .i64 0, .int .i64 0, .nils]]
def m2 : Memo := ⟨198, a2, .tup [.slc 28 0 0 2 none 1, .int .i64 0], [(28, .arr [.int .u8 30, .int .u8 0] 0 2 1 1 5)], 29⟩
set_option maxRecDepth 1000000 in
theorem m2_ok : m2.ok Tryz.prog { Cfg.none with hk := memoHk 0 (tabM c2) } 100000 0 (St.empty 0) = true := by kernel_rfl
theorem m2_sound [Val] : m2.Sound Tryz.prog 0 Cfg.none := memo_plain c2_sound (by kernel_rfl) m2_ok
def c3 : List Memo := m2 :: c2
theorem c3_sound [Val] : ∀ m ∈ c3, m.Sound Tryz.prog 0 Cfg.none := sound_cons m2_sound c2_sound

def a3 : List AV := [.agg [.int .i64 31, .int .i64 0, .int .i64 0, .int .i64 0, .int .i64 0, .nils]]
def m3 : Memo := ⟨97, a3, .tup [.slc 6 0 0 1 none 1, .slc 8 0 0 1 none 1, .int .i64 (-1)], [(6, .arr [.int .i64 0] 0 1 1 1 3), (8, .arr [.int .i64 0] 0 1 1 1 3)], 9⟩
set_option maxRecDepth 1000000 in
theorem m3_ok : m3.ok Tryz.prog { Cfg.none with hk := memoHk 0 (tabM c3) } 100000 0 (St.empty 0) = true := by kernel_rfl
theorem m3_sound [Val] : m3.Sound Tryz.prog 0 Cfg.none := memo_plain c3_sound (by kernel_rfl) m3_ok
def c4 : List Memo := m3 :: c3
theorem c4_sound [Val] : ∀ m ∈ c4, m.Sound Tryz.prog 0 Cfg.none := sound_cons m3_sound c3_sound

def a4 : List AV := [.agg [.int .i64 31, .int .i64 0, .int .i64 0, .int .i64 0, .int .i64 0, .nils]]
def m4 : Memo := ⟨272, a4, .int .i64 0, [], 22⟩
set_option maxRecDepth 1000000 in
theorem m4_ok : m4.ok Tryz.prog { Cfg.none with hk := memoHk 0 (tabM c4) } 100000 0 (St.empty 0) = true := by kernel_rfl
theorem m4_sound [Val] : m4.Sound Tryz.prog 0 Cfg.none := memo_plain c4_sound (by kernel_rfl) m4_ok
def c5 : List Memo := m4 :: c4
theorem c5_sound [Val] : ∀ m ∈ c5, m.Sound Tryz.prog 0 Cfg.none := sound_cons m4_sound c4_sound

def a5 : List AV := [.agg [.int .i64 31, .int .i64 0, .int .i64 0, .int .i64 0, .int .i64 0, .nils]]
def m5 : Memo := ⟨198, a5, .tup [.slc 30 0 0 2 none 1, .int .i64 0], [(30, .arr [.int .u8 31, .int .u8 0] 0 2 1 1 5)], 31⟩
set_option maxRecDepth 1000000 in
theorem m5_ok : m5.ok Tryz.prog { Cfg.none with hk := memoHk 0 (tabM c5) } 100000 0 (St.empty 0) = true := by kernel_rfl
theorem m5_sound [Val] : m5.Sound Tryz.prog 0 Cfg.none := memo_plain c5_sound (by kernel_rfl) m5_ok
def c6 : List Memo := m5 :: c5
theorem c6_sound [Val] : ∀ m ∈ c6, m.Sound Tryz.prog 0 Cfg.none := sound_cons m5_sound c5_sound

def a6 : List AV := [.agg [.int .i64 32, .int .i64 0, .int .i64 0, .int .i64 0, .int .i64 0, .nils]]
def m6 : Memo := ⟨97, a6, .tup [.slc 6 0 0 1 none 1, .slc 8 0 0 1 none 1, .int .i64 (-1)], [(6, .arr [.int .i64 0] 0 1 1 1 3), (8, .arr [.int .i64 0] 0 1 1 1 3)], 9⟩
set_option maxRecDepth 1000000 in
theorem m6_ok : m6.ok Tryz.prog { Cfg.none with hk := memoHk 0 (tabM c6) } 100000 0 (St.empty 0) = true := by kernel_rfl
theorem m6_sound [Val] : m6.Sound Tryz.prog 0 Cfg.none := memo_plain c6_sound (by kernel_rfl) m6_ok
def c7 : List Memo := m6 :: c6
theorem c7_sound [Val] : ∀ m ∈ c7, m.Sound Tryz.prog 0 Cfg.none := sound_cons m6_sound c6_sound

def a7 : List AV := [.agg [.int .i64 32, .int .i64 0, .int .i64 0, .int .i64 0, .int .i64 0, .nils]]
def m7 : Memo := ⟨272, a7, .int .i64 0, [], 22⟩
set_option maxRecDepth 1000000 in
theorem m7_ok : m7.ok Tryz.prog { Cfg.none with hk := memoHk 0 (tabM c7) } 100000 0 (St.empty 0) = true := by kernel_rfl
theorem m7_sound [Val] : m7.Sound Tryz.prog 0 Cfg.none := memo_plain c7_sound (by kernel_rfl) m7_ok
def c8 : List Memo := m7 :: c7
theorem c8_sound [Val] : ∀ m ∈ c8, m.Sound Tryz.prog 0 Cfg.none := sound_cons m7_sound c7_sound

def a8 : List AV := [.agg [.int .i64 32, .int .i64 0, .int .i64 0, .int .i64 0, .int .i64 0, .nils]]
def m8 : Memo := ⟨198, a8, .tup [.slc 30 0 0 2 none 1, .int .i64 0], [(30, .arr [.int .u8 32, .int .u8 0] 0 2 1 1 5)], 31⟩
set_option maxRecDepth 1000000 in
theorem m8_ok : m8.ok Tryz.prog { Cfg.none with hk := memoHk 0 (tabM c8) } 100000 0 (St.empty 0) = true := by kernel_rfl
theorem m8_sound [Val] : m8.Sound Tryz.prog 0 Cfg.none := memo_plain c8_sound (by kernel_rfl) m8_ok
def c9 : List Memo := m8 :: c8
theorem c9_sound [Val] : ∀ m ∈ c9, m.Sound Tryz.prog 0 Cfg.none := sound_cons m8_sound c8_sound

def a9 : List AV := [.agg [.int .i64 30, .int .i64 0, .int .i64 0, .int .i64 0, .int .i64 0, .nils], .int .i64 1, .int .i64 0]
def m9 : Memo := ⟨250, a9, .int .i64 0, [], 19⟩
set_option maxRecDepth 1000000 in
theorem m9_ok : m9.ok Tryz.prog { Cfg.none with hk := memoHk 0 (tabM c9) } 100000 0 (St.empty 0) = true := by kernel_rfl
theorem m9_sound [Val] : m9.Sound Tryz.prog 0 Cfg.none := memo_plain c9_sound (by kernel_rfl) m9_ok
def c10 : List Memo := m9 :: c9
theorem c10_sound [Val] : ∀ m ∈ c10, m.Sound Tryz.prog 0 Cfg.none := sound_cons m9_sound c9_sound

def a10 : List AV := [.agg [.int .i64 31, .int .i64 0, .int .i64 0, .int .i64 0, .int .i64 0, .nils], .int .i64 1, .int .i64 0]
def m10 : Memo := ⟨250, a10, .int .i64 0, [], 21⟩
set_option maxRecDepth 1000000 in
theorem m10_ok : m10.ok Tryz.prog { Cfg.none with hk := memoHk 0 (tabM c10) } 100000 0 (St.empty 0) = true := by kernel_rfl
theorem m10_sound [Val] : m10.Sound Tryz.prog 0 Cfg.none := memo_plain c10_sound (by kernel_rfl) m10_ok
def c11 : List Memo := m10 :: c10
theorem c11_sound [Val] : ∀ m ∈ c11, m.Sound Tryz.prog 0 Cfg.none := sound_cons m10_sound c10_sound

def a11 : List AV := [.agg [.int .i64 32, .int .i64 0, .int .i64 0, .int .i64 0, .int .i64 0, .nils], .int .i64 1, .int .i64 0]
def m11 : Memo := ⟨250, a11, .int .i64 0, [], 21⟩
set_option maxRecDepth 1000000 in
theorem m11_ok : m11.ok Tryz.prog { Cfg.none with hk := memoHk 0 (tabM c11) } 100000 0 (St.empty 0) = true := by kernel_rfl
theorem m11_sound [Val] : m11.Sound Tryz.prog 0 Cfg.none := memo_plain c11_sound (by kernel_rfl) m11_ok
def c12 : List Memo := m11 :: c11
theorem c12_sound [Val] : ∀ m ∈ c12, m.Sound Tryz.prog 0 Cfg.none := sound_cons m11_sound c11_sound

def a12 : List AV := [.agg [.int .i64 30, .int .i64 0, .int .i64 0, .int .i64 0, .int .i64 0, .nils]]
def m12 : Memo := ⟨247, a12, .int .i64 (-1), [], 3⟩
set_option maxRecDepth 1000000 in
theorem m12_ok : m12.ok Tryz.prog { Cfg.none with hk := memoHk 0 (tabM c12) } 100000 0 (St.empty 0) = true := by kernel_rfl
theorem m12_sound [Val] : m12.Sound Tryz.prog 0 Cfg.none := memo_plain c12_sound (by kernel_rfl) m12_ok
def c13 : List Memo := m12 :: c12
theorem c13_sound [Val] : ∀ m ∈ c13, m.Sound Tryz.prog 0 Cfg.none := sound_cons m12_sound c12_sound

def a13 : List AV := [.agg [.int .i64 31, .int .i64 0, .int .i64 0, .int .i64 0, .int .i64 0, .nils]]
def m13 : Memo := ⟨247, a13, .int .i64 (-1), [], 3⟩
set_option maxRecDepth 1000000 in
theorem m13_ok : m13.ok Tryz.prog { Cfg.none with hk := memoHk 0 (tabM c13) } 100000 0 (St.empty 0) = true := by kernel_rfl
theorem m13_sound [Val] : m13.Sound Tryz.prog 0 Cfg.none := memo_plain c13_sound (by kernel_rfl) m13_ok
def c14 : List Memo := m13 :: c13
theorem c14_sound [Val] : ∀ m ∈ c14, m.Sound Tryz.prog 0 Cfg.none := sound_cons m13_sound c13_sound

def a14 : List AV := [.agg [.int .i64 32, .int .i64 0, .int .i64 0, .int .i64 0, .int .i64 0, .nils]]
def m14 : Memo := ⟨247, a14, .int .i64 (-1), [], 3⟩
set_option maxRecDepth 1000000 in
theorem m14_ok : m14.ok Tryz.prog { Cfg.none with hk := memoHk 0 (tabM c14) } 100000 0 (St.empty 0) = true := by kernel_rfl
theorem m14_sound [Val] : m14.Sound Tryz.prog 0 Cfg.none := memo_plain c14_sound (by kernel_rfl) m14_ok
def c15 : List Memo := m14 :: c14
theorem c15_sound [Val] : ∀ m ∈ c15, m.Sound Tryz.prog 0 Cfg.none := sound_cons m14_sound c14_sound

def a15 : List AV := [.agg [.int .i64 30, .int .i64 0, .int .i64 0, .int .i64 0, .int .i64 0, .nils]]
def m15 : Memo := ⟨40, a15, .nils, [], 10⟩
set_option maxRecDepth 1000000 in
theorem m15_ok : m15.ok Tryz.prog { Cfg.none with hk := memoHk 0 (tabM c15) } 100000 0 (St.empty 0) = true := by kernel_rfl
theorem m15_sound [Val] : m15.Sound Tryz.prog 0 Cfg.none := memo_plain c15_sound (by kernel_rfl) m15_ok
def c16 : List Memo := m15 :: c15
theorem c16_sound [Val] : ∀ m ∈ c16, m.Sound Tryz.prog 0 Cfg.none := sound_cons m15_sound c15_sound

def a16 : List AV := [.agg [.int .i64 31, .int .i64 0, .int .i64 0, .int .i64 0, .int .i64 0, .nils]]
def m16 : Memo := ⟨40, a16, .slc 9 0 0 1 none 1, [(9, .arr [.int .i64 0] 0 1 1 1 3)], 12⟩
set_option maxRecDepth 1000000 in
theorem m16_ok : m16.ok Tryz.prog { Cfg.none with hk := memoHk 0 (tabM c16) } 100000 0 (St.empty 0) = true := by kernel_rfl
theorem m16_sound [Val] : m16.Sound Tryz.prog 0 Cfg.none := memo_plain c16_sound (by kernel_rfl) m16_ok
def c17 : List Memo := m16 :: c16
theorem c17_sound [Val] : ∀ m ∈ c17, m.Sound Tryz.prog 0 Cfg.none := sound_cons m16_sound c16_sound

def a17 : List AV := [.agg [.int .i64 32, .int .i64 0, .int .i64 0, .int .i64 0, .int .i64 0, .nils]]
def m17 : Memo := ⟨40, a17, .slc 9 0 0 1 none 1, [(9, .arr [.int .i64 0] 0 1 1 1 3)], 12⟩
set_option maxRecDepth 1000000 in
theorem m17_ok : m17.ok Tryz.prog { Cfg.none with hk := memoHk 0 (tabM c17) } 100000 0 (St.empty 0) = true := by kernel_rfl
theorem m17_sound [Val] : m17.Sound Tryz.prog 0 Cfg.none := memo_plain c17_sound (by kernel_rfl) m17_ok
def c18 : List Memo := m17 :: c17
theorem c18_sound [Val] : ∀ m ∈ c18, m.Sound Tryz.prog 0 Cfg.none := sound_cons m17_sound c17_sound

def a18 : List AV := []
def m18 : Memo := ⟨148, a18, .map 0, [(0, .map [(.int .i64 1, .fn (.func 205) [] [], 0), (.int .i64 2, .fn (.func 205) [] [], 1), (.int .i64 3, .fn (.func 206) [] [], 2), (.int .i64 4, .fn (.func 206) [] [], 3), (.int .i64 63, .fn (.func 207) [] [], 4), (.int .i64 5, .fn (.func 208) [] [], 5), (.int .i64 6, .fn (.func 208) [] [], 6), (.int .i64 7, .fn (.func 208) [] [], 7), (.int .i64 8, .fn (.func 208) [] [], 8), (.int .i64 9, .fn (.func 208) [] [], 9), (.int .i64 10, .fn (.func 208) [] [], 10), (.int .i64 11, .fn (.func 209) [] [], 11), (.int .i64 12, .fn (.func 209) [] [], 12), (.int .i64 13, .fn (.func 209) [] [], 13), (.int .i64 14, .fn (.func 209) [] [], 14), (.int .i64 15, .fn (.func 209) [] [], 15), (.int .i64 16, .fn (.func 209) [] [], 16), (.int .i64 17, .fn (.func 209) [] [], 17), (.int .i64 18, .fn (.func 210) [] [], 18), (.int .i64 19, .fn (.func 210) [] [], 19), (.int .i64 20, .fn (.func 210) [] [], 20), (.int .i64 21, .fn (.func 210) [] [], 21), (.int .i64 22, .fn (.func 211) [] [], 22), (.int .i64 23, .fn (.func 211) [] [], 23), (.int .i64 24, .fn (.func 211) [] [], 24), (.int .i64 25, .fn (.func 211) [] [], 25), (.int .i64 26, .fn (.func 211) [] [], 26), (.int .i64 27, .fn (.func 211) [] [], 27), (.int .i64 28, .fn (.func 211) [] [], 28), (.int .i64 29, .fn (.func 211) [] [], 29), (.int .i64 30, .fn (.func 211) [] [], 30), (.int .i64 31, .fn (.func 211) [] [], 31), (.int .i64 32, .fn (.func 211) [] [], 32), (.int .i64 33, .fn (.func 211) [] [], 33), (.int .i64 34, .fn (.func 211) [] [], 34), (.int .i64 35, .fn (.func 211) [] [], 35), (.int .i64 36, .fn (.func 211) [] [], 36), (.int .i64 37, .fn (.func 211) [] [], 37), (.int .i64 38, .fn (.func 211) [] [], 38), (.int .i64 39, .fn (.func 211) [] [], 39), (.int .i64 40, .fn (.func 211) [] [], 40), (.int .i64 41, .fn (.func 211) [] [], 41), (.int .i64 42, .fn (.func 211) [] [], 42), (.int .i64 43, .fn (.func 211) [] [], 43), (.int .i64 44, .fn (.func 211) [] [], 44), (.int .i64 45, .fn (.func 211) [] [], 45), (.int .i64 46, .fn (.func 211) [] [], 46), (.int .i64 47, .fn (.func 211) [] [], 47), (.int .i64 48, .fn (.func 211) [] [], 48), (.int .i64 49, .fn (.func 211) [] [], 49), (.int .i64 50, .fn (.func 211) [] [], 50), (.int .i64 51, .fn (.func 211) [] [], 51), (.int .i64 52, .fn (.func 211) [] [], 52), (.int .i64 53, .fn (.func 211) [] [], 53), (.int .i64 54, .fn (.func 211) [] [], 54), (.int .i64 55, .fn (.func 211) [] [], 55), (.int .i64 56, .fn (.func 211) [] [], 56), (.int .i64 57, .fn (.func 211) [] [], 57), (.int .i64 58, .fn (.func 211) [] [], 58), (.int .i64 59, .fn (.func 211) [] [], 59), (.int .i64 60, .fn (.func 211) [] [], 60), (.int .i64 61, .fn (.func 211) [] [], 61), (.int .i64 62, .fn (.func 211) [] [], 62)] 63)], 1⟩
set_option maxRecDepth 1000000 in
theorem m18_ok : m18.ok Tryz.prog { Cfg.none with hk := memoHk 0 (tabM c18) } 100000 0 (St.empty 0) = true := by kernel_rfl
theorem m18_sound [Val] : m18.Sound Tryz.prog 0 Cfg.none := memo_plain c18_sound (by kernel_rfl) m18_ok
def c19 : List Memo := m18 :: c18
theorem c19_sound [Val] : ∀ m ∈ c19, m.Sound Tryz.prog 0 Cfg.none := sound_cons m18_sound c18_sound

def a19 : List AV := []
def m19 : Memo := ⟨29, a19, .agg [.fn (.func 47) [] [], .fn (.func 48) [] [], .fn (.func 49) [] [], .fn (.func 63) [] [], .fn (.func 63) [] [], .fn (.func 63) [] [], .fn (.func 64) [] [], .fn (.func 64) [] [], .fn (.func 64) [] [], .fn (.func 64) [] [], .fn (.func 63) [] [], .fn (.func 63) [] [], .fn (.func 63) [] [], .fn (.func 63) [] [], .fn (.func 63) [] [], .fn (.func 63) [] [], .fn (.func 63) [] [], .fn (.func 63) [] [], .fn (.func 63) [] [], .fn (.func 63) [] [], .fn (.func 50) [] [], .fn (.func 51) [] [], .fn (.func 52) [] [], .fn (.func 53) [] [], .fn (.func 54) [] [], .fn (.func 55) [] [], .fn (.func 56) [] [], .fn (.func 57) [] [], .fn (.func 58) [] [], .fn (.func 59) [] [], .fn (.func 60) [] [], .fn (.func 61) [] [], .fn (.func 62) [] []], [], 2⟩
set_option maxRecDepth 1000000 in
theorem m19_ok : m19.ok Tryz.prog { Cfg.none with hk := memoHk 0 (tabM c19) } 100000 0 (St.empty 0) = true := by kernel_rfl
theorem m19_sound [Val] : m19.Sound Tryz.prog 0 Cfg.none := memo_plain c19_sound (by kernel_rfl) m19_ok
def c20 : List Memo := m19 :: c19
theorem c20_sound [Val] : ∀ m ∈ c20, m.Sound Tryz.prog 0 Cfg.none := sound_cons m19_sound c19_sound
end Go.Proofs.YtalhegeanpaolaaGreat
