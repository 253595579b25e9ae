/-
  Calls whose outcome is known, each shown by the evaluator with the earlier ones at hand; part 0. No condition.
-/
import Derived.Test.YtldhiolboplelaaGreatTwMemo
import Derived.Test.YtldhiolboplelaaGreatChecked
namespace Go.Proofs.YtldhiolboplelaaGreat
open Go.Tw
instance : Val := noVal
def c0 : List Memo := []
theorem c0_sound : ∀ m ∈ c0, m.Sound Tryz.prog 0 Cfg.none := sound_nil

def a0 : List AV := [.agg [.int .i64 0, .int .i64 0, .int .i64 0, .int .i64 0, .int .i64 0, .nils]]
def m0 : Memo := ⟨30, a0, .tup [.slc 18 0 0 1 (some 1) 1, .int .i64 0], [(18, .box [.int .u8 0] 5)], 22⟩
set_option maxRecDepth 1000000 in
theorem m0_ok : m0.ok Tryz.prog { Cfg.none with hk := memoHk 0 (tabM c0) } 100000 0 (St.empty 0) = true := by kernel_rfl
theorem m0_sound : m0.Sound Tryz.prog 0 Cfg.none := memo_plain c0_sound (by kernel_rfl) m0_ok
def c1 : List Memo := m0 :: c0
theorem c1_sound : ∀ m ∈ c1, m.Sound Tryz.prog 0 Cfg.none := sound_cons m0_sound c0_sound

def a1 : List AV := [.agg [.int .i64 32, .int .i64 0, .int .i64 0, .int .i64 0, .int .i64 0, .nils]]
def m1 : Memo := ⟨30, a1, .tup [.slc 30 0 0 2 none 1, .int .i64 0], [(30, .arr [.int .u8 32, .int .u8 0] 0 2 1 1 5)], 31⟩
set_option maxRecDepth 1000000 in
theorem m1_ok : m1.ok Tryz.prog { Cfg.none with hk := memoHk 0 (tabM c1) } 100000 0 (St.empty 0) = true := by kernel_rfl
theorem m1_sound : m1.Sound Tryz.prog 0 Cfg.none := memo_plain c1_sound (by kernel_rfl) m1_ok
def c2 : List Memo := m1 :: c1
theorem c2_sound : ∀ m ∈ c2, m.Sound Tryz.prog 0 Cfg.none := sound_cons m1_sound c1_sound

def a2 : List AV := [.agg [.int .i64 0, .int .i64 0, .int .i64 0, .int .i64 0, .int .i64 0, .nils]]
def m2 : Memo := ⟨23, a2, .int .i64 (-1), [], 3⟩
set_option maxRecDepth 1000000 in
theorem m2_ok : m2.ok Tryz.prog { Cfg.none with hk := memoHk 0 (tabM c2) } 100000 0 (St.empty 0) = true := by kernel_rfl
theorem m2_sound : m2.Sound Tryz.prog 0 Cfg.none := memo_plain c2_sound (by kernel_rfl) m2_ok
def c3 : List Memo := m2 :: c2
theorem c3_sound : ∀ m ∈ c3, m.Sound Tryz.prog 0 Cfg.none := sound_cons m2_sound c2_sound

def a3 : List AV := [.agg [.int .i64 32, .int .i64 0, .int .i64 0, .int .i64 0, .int .i64 0, .nils]]
def m3 : Memo := ⟨23, a3, .int .i64 (-1), [], 3⟩
set_option maxRecDepth 1000000 in
theorem m3_ok : m3.ok Tryz.prog { Cfg.none with hk := memoHk 0 (tabM c3) } 100000 0 (St.empty 0) = true := by kernel_rfl
theorem m3_sound : m3.Sound Tryz.prog 0 Cfg.none := memo_plain c3_sound (by kernel_rfl) m3_ok
def c4 : List Memo := m3 :: c3
theorem c4_sound : ∀ m ∈ c4, m.Sound Tryz.prog 0 Cfg.none := sound_cons m3_sound c3_sound

def a4 : List AV := [.agg [.int .i64 0, .int .i64 0, .int .i64 0, .int .i64 0, .int .i64 0, .nils], .int .i64 1, .int .i64 0, .int .i64 0]
def m4 : Memo := ⟨14, a4, .tup [.slc 18 3 0 4 none 7, .int .i64 0], [(18, .arr [.int .i64 0, .int .i64 0, .int .i64 6, .int .i64 0, .int .i64 18, .int .i64 0, .int .i64 12, .int .i64 0, .int .i64 0, .int .i64 1, .int .i64 5, .int .i64 0, .int .i64 0, .int .i64 262144, .int .i64 0, .int .i64 0, .int .i64 4, .int .i64 0, .int .i64 5, .int .i64 0, .int .i64 0, .int .i64 0, .int .i64 0, .int .i64 22, .int .i64 18, .int .i64 18, .int .i64 0, .int .i64 (-1)] 0 7 1 4 48)], 26⟩
set_option maxRecDepth 1000000 in
theorem m4_ok : m4.ok Tryz.prog { Cfg.none with hk := memoHk 0 (tabM c4) } 100000 0 (St.empty 0) = true := by kernel_rfl
theorem m4_sound : m4.Sound Tryz.prog 0 Cfg.none := memo_plain c4_sound (by kernel_rfl) m4_ok
def c5 : List Memo := m4 :: c4
theorem c5_sound : ∀ m ∈ c5, m.Sound Tryz.prog 0 Cfg.none := sound_cons m4_sound c4_sound

def a5 : List AV := [.agg [.int .i64 32, .int .i64 0, .int .i64 0, .int .i64 0, .int .i64 0, .nils], .int .i64 1, .int .i64 0, .int .i64 1]
def m5 : Memo := ⟨14, a5, .tup [.slc 23 5 0 6 none 7, .int .i64 0], [(23, .arr [.int .i64 0, .int .i64 0, .int .i64 6, .int .i64 0, .int .i64 18, .int .i64 0, .int .i64 12, .int .i64 0, .int .i64 0, .int .i64 1, .int .i64 5, .int .i64 0, .int .i64 0, .int .i64 262144, .int .i64 0, .int .i64 0, .int .i64 4, .int .i64 0, .int .i64 5, .int .i64 0, .int .i64 128, .int .i64 0, .int .i64 0, .int .i64 22, .int .i64 18, .int .i64 18, .int .i64 0, .int .i64 (-1), .int .i64 0, .int .i64 0, .int .i64 1, .int .i64 5, .int .i64 0, .int .i64 0, .int .i64 262144, .int .i64 0, .int .i64 0, .int .i64 4, .int .i64 0, .int .i64 5, .int .i64 0, .int .i64 240] 0 7 1 6 48)], 34⟩
set_option maxRecDepth 1000000 in
theorem m5_ok : m5.ok Tryz.prog { Cfg.none with hk := memoHk 0 (tabM c5) } 100000 0 (St.empty 0) = true := by kernel_rfl
theorem m5_sound : m5.Sound Tryz.prog 0 Cfg.none := memo_plain c5_sound (by kernel_rfl) m5_ok
def c6 : List Memo := m5 :: c5
theorem c6_sound : ∀ m ∈ c6, m.Sound Tryz.prog 0 Cfg.none := sound_cons m5_sound c5_sound

def a6 : List AV := [.agg [.int .i64 6, .int .i64 0, .int .i64 18, .int .i64 0, .int .i64 12]]
def m6 : Memo := ⟨34, a6, .int .i64 0, [], 21⟩
set_option maxRecDepth 1000000 in
theorem m6_ok : m6.ok Tryz.prog { Cfg.none with hk := memoHk 0 (tabM c6) } 100000 0 (St.empty 0) = true := by kernel_rfl
theorem m6_sound : m6.Sound Tryz.prog 0 Cfg.none := memo_plain c6_sound (by kernel_rfl) m6_ok
def c7 : List Memo := m6 :: c6
theorem c7_sound : ∀ m ∈ c7, m.Sound Tryz.prog 0 Cfg.none := sound_cons m6_sound c6_sound

def a7 : List AV := [.agg [.int .i64 1, .int .i64 5, .int .i64 0, .int .i64 0, .int .i64 262144]]
def m7 : Memo := ⟨34, a7, .int .i64 0, [], 20⟩
set_option maxRecDepth 1000000 in
theorem m7_ok : m7.ok Tryz.prog { Cfg.none with hk := memoHk 0 (tabM c7) } 100000 0 (St.empty 0) = true := by kernel_rfl
theorem m7_sound : m7.Sound Tryz.prog 0 Cfg.none := memo_plain c7_sound (by kernel_rfl) m7_ok
def c8 : List Memo := m7 :: c7
theorem c8_sound : ∀ m ∈ c8, m.Sound Tryz.prog 0 Cfg.none := sound_cons m7_sound c7_sound

def a8 : List AV := [.int .i64 4]
def m8 : Memo := ⟨35, a8, .tup [.agg [strN [106,97,108,114], strN [73], .int .u32 103, .int .u32 0, .int .u32 0], .bool true], [], 3⟩
set_option maxRecDepth 1000000 in
theorem m8_ok : m8.ok Tryz.prog { Cfg.none with hk := memoHk 0 (tabM c8) } 100000 0 (St.empty 0) = true := by kernel_rfl
theorem m8_sound : m8.Sound Tryz.prog 0 Cfg.none := memo_plain c8_sound (by kernel_rfl) m8_ok
def c9 : List Memo := m8 :: c8
theorem c9_sound : ∀ m ∈ c9, m.Sound Tryz.prog 0 Cfg.none := sound_cons m8_sound c8_sound

def a9 : List AV := [.agg [.int .i64 0, .int .i64 0, .int .i64 4, .int .i64 0, .int .i64 5, .int .i64 0, .int .i64 0]]
def m9 : Memo := ⟨31, a9, .bool true, [], 22⟩
set_option maxRecDepth 1000000 in
theorem m9_ok : m9.ok Tryz.prog { Cfg.none with hk := memoHk 0 (tabM c9) } 100000 0 (St.empty 0) = true := by kernel_rfl
theorem m9_sound : m9.Sound Tryz.prog 0 Cfg.none := memo_plain c9_sound (by kernel_rfl) m9_ok
def c10 : List Memo := m9 :: c9
theorem c10_sound : ∀ m ∈ c10, m.Sound Tryz.prog 0 Cfg.none := sound_cons m9_sound c9_sound

def a10 : List AV := [.agg [.int .i64 22, .int .i64 18, .int .i64 18, .int .i64 0, .int .i64 (-1)]]
def m10 : Memo := ⟨34, a10, .int .i64 0, [], 21⟩
set_option maxRecDepth 1000000 in
theorem m10_ok : m10.ok Tryz.prog { Cfg.none with hk := memoHk 0 (tabM c10) } 100000 0 (St.empty 0) = true := by kernel_rfl
theorem m10_sound : m10.Sound Tryz.prog 0 Cfg.none := memo_plain c10_sound (by kernel_rfl) m10_ok
def c11 : List Memo := m10 :: c10
theorem c11_sound : ∀ m ∈ c11, m.Sound Tryz.prog 0 Cfg.none := sound_cons m10_sound c10_sound

def a11 : List AV := [.agg [.int .i64 0, .int .i64 0, .int .i64 4, .int .i64 0, .int .i64 5, .int .i64 0, .int .i64 128]]
def m11 : Memo := ⟨31, a11, .bool true, [], 22⟩
set_option maxRecDepth 1000000 in
theorem m11_ok : m11.ok Tryz.prog { Cfg.none with hk := memoHk 0 (tabM c11) } 100000 0 (St.empty 0) = true := by kernel_rfl
theorem m11_sound : m11.Sound Tryz.prog 0 Cfg.none := memo_plain c11_sound (by kernel_rfl) m11_ok
def c12 : List Memo := m11 :: c11
theorem c12_sound : ∀ m ∈ c12, m.Sound Tryz.prog 0 Cfg.none := sound_cons m11_sound c11_sound

def a12 : List AV := [.agg [.int .i64 0, .int .i64 0, .int .i64 4, .int .i64 0, .int .i64 5, .int .i64 0, .int .i64 240]]
def m12 : Memo := ⟨31, a12, .bool true, [], 22⟩
set_option maxRecDepth 1000000 in
theorem m12_ok : m12.ok Tryz.prog { Cfg.none with hk := memoHk 0 (tabM c12) } 100000 0 (St.empty 0) = true := by kernel_rfl
theorem m12_sound : m12.Sound Tryz.prog 0 Cfg.none := memo_plain c12_sound (by kernel_rfl) m12_ok
def c13 : List Memo := m12 :: c12
theorem c13_sound : ∀ m ∈ c13, m.Sound Tryz.prog 0 Cfg.none := sound_cons m12_sound c12_sound

def a13 : List AV := [.agg [.int .i64 6, .int .i64 0, .int .i64 18, .int .i64 0, .int .i64 12]]
def m13 : Memo := ⟨20, a13, .tup [.int .u32 595555, .int .i64 0], [], 48⟩
set_option maxRecDepth 1000000 in
theorem m13_ok : m13.ok Tryz.prog { Cfg.none with hk := memoHk 0 (tabM c13) } 100000 0 (St.empty 0) = true := by kernel_rfl
theorem m13_sound : m13.Sound Tryz.prog 0 Cfg.none := memo_plain c13_sound (by kernel_rfl) m13_ok
def c14 : List Memo := m13 :: c13
theorem c14_sound : ∀ m ∈ c14, m.Sound Tryz.prog 0 Cfg.none := sound_cons m13_sound c13_sound

def a14 : List AV := [.agg [.int .i64 1, .int .i64 5, .int .i64 0, .int .i64 0, .int .i64 262144]]
def m14 : Memo := ⟨20, a14, .tup [.int .u32 1073742519, .int .i64 0], [], 42⟩
set_option maxRecDepth 1000000 in
theorem m14_ok : m14.ok Tryz.prog { Cfg.none with hk := memoHk 0 (tabM c14) } 100000 0 (St.empty 0) = true := by kernel_rfl
theorem m14_sound : m14.Sound Tryz.prog 0 Cfg.none := memo_plain c14_sound (by kernel_rfl) m14_ok
def c15 : List Memo := m14 :: c14
theorem c15_sound : ∀ m ∈ c15, m.Sound Tryz.prog 0 Cfg.none := sound_cons m14_sound c14_sound

def a15 : List AV := [.agg [.int .i64 4, .int .i64 0, .int .i64 5, .int .i64 0, .int .i64 0]]
def m15 : Memo := ⟨20, a15, .tup [.int .u32 163943, .int .i64 0], [], 45⟩
set_option maxRecDepth 1000000 in
theorem m15_ok : m15.ok Tryz.prog { Cfg.none with hk := memoHk 0 (tabM c15) } 100000 0 (St.empty 0) = true := by kernel_rfl
theorem m15_sound : m15.Sound Tryz.prog 0 Cfg.none := memo_plain c15_sound (by kernel_rfl) m15_ok
def c16 : List Memo := m15 :: c15
theorem c16_sound : ∀ m ∈ c16, m.Sound Tryz.prog 0 Cfg.none := sound_cons m15_sound c15_sound

def a16 : List AV := [.agg [.int .i64 22, .int .i64 18, .int .i64 18, .int .i64 0, .int .i64 (-1)]]
def m16 : Memo := ⟨20, a16, .tup [.int .u32 4294510867, .int .i64 0], [], 45⟩
set_option maxRecDepth 1000000 in
theorem m16_ok : m16.ok Tryz.prog { Cfg.none with hk := memoHk 0 (tabM c16) } 100000 0 (St.empty 0) = true := by kernel_rfl
theorem m16_sound : m16.Sound Tryz.prog 0 Cfg.none := memo_plain c16_sound (by kernel_rfl) m16_ok
def c17 : List Memo := m16 :: c16
theorem c17_sound : ∀ m ∈ c17, m.Sound Tryz.prog 0 Cfg.none := sound_cons m16_sound c16_sound

def a17 : List AV := [.agg [.int .i64 4, .int .i64 0, .int .i64 5, .int .i64 0, .int .i64 128]]
def m17 : Memo := ⟨20, a17, .tup [.int .u32 134381671, .int .i64 0], [], 45⟩
set_option maxRecDepth 1000000 in
theorem m17_ok : m17.ok Tryz.prog { Cfg.none with hk := memoHk 0 (tabM c17) } 100000 0 (St.empty 0) = true := by kernel_rfl
theorem m17_sound : m17.Sound Tryz.prog 0 Cfg.none := memo_plain c17_sound (by kernel_rfl) m17_ok
def c18 : List Memo := m17 :: c17
theorem c18_sound : ∀ m ∈ c18, m.Sound Tryz.prog 0 Cfg.none := sound_cons m17_sound c17_sound

def a18 : List AV := [.agg [.int .i64 4, .int .i64 0, .int .i64 5, .int .i64 0, .int .i64 240]]
def m18 : Memo := ⟨20, a18, .tup [.int .u32 251822183, .int .i64 0], [], 45⟩
set_option maxRecDepth 1000000 in
theorem m18_ok : m18.ok Tryz.prog { Cfg.none with hk := memoHk 0 (tabM c18) } 100000 0 (St.empty 0) = true := by kernel_rfl
theorem m18_sound : m18.Sound Tryz.prog 0 Cfg.none := memo_plain c18_sound (by kernel_rfl) m18_ok
def c19 : List Memo := m18 :: c18
theorem c19_sound : ∀ m ∈ c19, m.Sound Tryz.prog 0 Cfg.none := sound_cons m18_sound c18_sound

def a19 : List AV := [.agg [.int .i64 3, .int .i64 0, .int .i64 0, .int .i64 5, .int .i64 0, .nils]]
def m19 : Memo := ⟨40, a19, .bool true, [], 5⟩
set_option maxRecDepth 1000000 in
theorem m19_ok : m19.ok Tryz.prog { Cfg.none with hk := memoHk 0 (tabM c19) } 100000 0 (St.empty 0) = true := by kernel_rfl
theorem m19_sound : m19.Sound Tryz.prog 0 Cfg.none := memo_plain c19_sound (by kernel_rfl) m19_ok
def c20 : List Memo := m19 :: c19
theorem c20_sound : ∀ m ∈ c20, m.Sound Tryz.prog 0 Cfg.none := sound_cons m19_sound c19_sound

def a20 : List AV := [.agg [.int .i64 3, .int .i64 0, .int .i64 0, .int .i64 5, .int .i64 0, .nils]]
def m20 : Memo := ⟨30, a20, .tup [.slc 33 2 0 4 none 1, .int .i64 0], [(33, .arr [.int .u8 3, .int .u8 0, .int .u8 0, .int .u8 5] 0 2 1 3 5)], 40⟩
set_option maxRecDepth 1000000 in
theorem m20_ok : m20.ok Tryz.prog { Cfg.none with hk := memoHk 0 (tabM c20) } 100000 0 (St.empty 0) = true := by kernel_rfl
theorem m20_sound : m20.Sound Tryz.prog 0 Cfg.none := memo_plain c20_sound (by kernel_rfl) m20_ok
def c21 : List Memo := m20 :: c20
theorem c21_sound : ∀ m ∈ c21, m.Sound Tryz.prog 0 Cfg.none := sound_cons m20_sound c20_sound

def a21 : List AV := []
def m21 : Memo := ⟨3, a21, .bool true, [], 3223⟩
set_option maxRecDepth 1000000 in
theorem m21_ok : m21.ok Tryz.prog { Cfg.none with hk := memoHk 0 (tabM c21) } 100000 0 (St.empty 0) = true := by kernel_rfl
theorem m21_sound : m21.Sound Tryz.prog 0 Cfg.none := memo_plain c21_sound (by kernel_rfl) m21_ok
end Go.Proofs.YtldhiolboplelaaGreat
