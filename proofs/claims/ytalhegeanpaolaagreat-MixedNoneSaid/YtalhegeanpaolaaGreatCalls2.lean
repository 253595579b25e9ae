/-
  Calls whose outcome is known, each shown by the evaluator with the earlier ones at hand; part 2. No condition.
-/
import Derived.Test.YtalhegeanpaolaaGreatCalls1
namespace Go.Proofs.YtalhegeanpaolaaGreat
open Go.Tw

def a23 : List AV := [.agg [.int .i64 31, .int .i64 0, .int .i64 0, .int .i64 0, .int .i64 0, .nils], .int .i64 1, .int .i64 0, .int .i64 2]
def m23 : Memo := ⟨174, a23, .tup [.slc 23 5 0 6 none 7, .int .i64 0], [(23, .arr [.int .i64 0, .int .i64 0, .int .i64 6, .int .i64 0, .int .i64 18, .int .i64 0, .int .i64 12, .int .i64 0, .int .i64 0, .int .i64 1, .int .i64 5, .int .i64 0, .int .i64 0, .int .i64 262144, .int .i64 0, .int .i64 0, .int .i64 4, .int .i64 0, .int .i64 5, .int .i64 0, .int .i64 256, .int .i64 0, .int .i64 0, .int .i64 22, .int .i64 18, .int .i64 18, .int .i64 0, .int .i64 (-1), .int .i64 0, .int .i64 0, .int .i64 1, .int .i64 5, .int .i64 0, .int .i64 0, .int .i64 262144, .int .i64 0, .int .i64 0, .int .i64 4, .int .i64 0, .int .i64 5, .int .i64 0, .int .i64 352] 0 7 1 6 208)], 34⟩
set_option maxRecDepth 1000000 in
theorem m23_ok : m23.ok Tryz.prog { Cfg.none with hk := memoHk 0 (tabM c23) } 100000 0 (St.empty 0) = true := by kernel_rfl
theorem m23_sound [Val] : m23.Sound Tryz.prog 0 Cfg.none := memo_plain c23_sound (by kernel_rfl) m23_ok
def c24 : List Memo := m23 :: c23
theorem c24_sound [Val] : ∀ m ∈ c24, m.Sound Tryz.prog 0 Cfg.none := sound_cons m23_sound c23_sound

def a24 : List AV := [.agg [.int .i64 32, .int .i64 0, .int .i64 0, .int .i64 0, .int .i64 0, .nils], .int .i64 1, .int .i64 0, .int .i64 4]
def m24 : Memo := ⟨174, a24, .tup [.slc 23 5 0 6 none 7, .int .i64 0], [(23, .arr [.int .i64 0, .int .i64 0, .int .i64 6, .int .i64 0, .int .i64 18, .int .i64 0, .int .i64 12, .int .i64 0, .int .i64 0, .int .i64 1, .int .i64 5, .int .i64 0, .int .i64 0, .int .i64 262144, .int .i64 0, .int .i64 0, .int .i64 4, .int .i64 0, .int .i64 5, .int .i64 0, .int .i64 512, .int .i64 0, .int .i64 0, .int .i64 22, .int .i64 18, .int .i64 18, .int .i64 0, .int .i64 (-1), .int .i64 0, .int .i64 0, .int .i64 1, .int .i64 5, .int .i64 0, .int .i64 0, .int .i64 262144, .int .i64 0, .int .i64 0, .int .i64 4, .int .i64 0, .int .i64 5, .int .i64 0, .int .i64 624] 0 7 1 6 208)], 34⟩
set_option maxRecDepth 1000000 in
theorem m24_ok : m24.ok Tryz.prog { Cfg.none with hk := memoHk 0 (tabM c24) } 100000 0 (St.empty 0) = true := by kernel_rfl
theorem m24_sound [Val] : m24.Sound Tryz.prog 0 Cfg.none := memo_plain c24_sound (by kernel_rfl) m24_ok
def c25 : List Memo := m24 :: c24
theorem c25_sound [Val] : ∀ m ∈ c25, m.Sound Tryz.prog 0 Cfg.none := sound_cons m24_sound c24_sound

def a25 : List AV := []
def m25 : Memo := ⟨180, a25, .agg [strN [], strN [], .int .u32 0, .int .u32 0, .int .u32 0, strN [108,117,105], strN [85], .int .u32 55, .int .u32 0, .int .u32 0, strN [97,117,105,112,99], strN [85], .int .u32 23, .int .u32 0, .int .u32 0, strN [106,97,108], strN [74], .int .u32 111, .int .u32 0, .int .u32 0, strN [106,97,108,114], strN [73], .int .u32 103, .int .u32 0, .int .u32 0, strN [98,101,113], strN [66], .int .u32 99, .int .u32 0, .int .u32 0, strN [98,110,101], strN [66], .int .u32 99, .int .u32 1, .int .u32 0, strN [98,108,116], strN [66], .int .u32 99, .int .u32 4, .int .u32 0, strN [98,103,101], strN [66], .int .u32 99, .int .u32 5, .int .u32 0, strN [98,108,116,117], strN [66], .int .u32 99, .int .u32 6, .int .u32 0, strN [98,103,101,117], strN [66], .int .u32 99, .int .u32 7, .int .u32 0, strN [108,98], strN [73], .int .u32 3, .int .u32 0, .int .u32 0, strN [108,104], strN [73], .int .u32 3, .int .u32 1, .int .u32 0, strN [108,119], strN [73], .int .u32 3, .int .u32 2, .int .u32 0, strN [108,100], strN [73], .int .u32 3, .int .u32 3, .int .u32 0, strN [108,98,117], strN [73], .int .u32 3, .int .u32 4, .int .u32 0, strN [108,104,117], strN [73], .int .u32 3, .int .u32 5, .int .u32 0, strN [108,119,117], strN [73], .int .u32 3, .int .u32 6, .int .u32 0, strN [115,98], strN [83], .int .u32 35, .int .u32 0, .int .u32 0, strN [115,104], strN [83], .int .u32 35, .int .u32 1, .int .u32 0, strN [115,119], strN [83], .int .u32 35, .int .u32 2, .int .u32 0, strN [115,100], strN [83], .int .u32 35, .int .u32 3, .int .u32 0, strN [97,100,100,105], strN [73], .int .u32 19, .int .u32 0, .int .u32 0, strN [115,108,116,105], strN [73], .int .u32 19, .int .u32 2, .int .u32 0, strN [115,108,116,105,117], strN [73], .int .u32 19, .int .u32 3, .int .u32 0, strN [120,111,114,105], strN [73], .int .u32 19, .int .u32 4, .int .u32 0, strN [111,114,105], strN [73], .int .u32 19, .int .u32 6, .int .u32 0, strN [97,110,100,105], strN [73], .int .u32 19, .int .u32 7, .int .u32 0, strN [115,108,108,105], strN [88], .int .u32 19, .int .u32 1, .int .u32 0, strN [115,114,108,105], strN [88], .int .u32 19, .int .u32 5, .int .u32 0, strN [115,114,97,105], strN [88], .int .u32 19, .int .u32 5, .int .u32 16, strN [97,100,100,105,119], strN [73], .int .u32 27, .int .u32 0, .int .u32 0, strN [115,108,108,105,119], strN [89], .int .u32 27, .int .u32 1, .int .u32 0, strN [115,114,108,105,119], strN [89], .int .u32 27, .int .u32 5, .int .u32 0, strN [115,114,97,105,119], strN [89], .int .u32 27, .int .u32 5, .int .u32 32, strN [97,100,100], strN [82], .int .u32 51, .int .u32 0, .int .u32 0, strN [115,117,98], strN [82], .int .u32 51, .int .u32 0, .int .u32 32, strN [115,108,108], strN [82], .int .u32 51, .int .u32 1, .int .u32 0, strN [115,108,116], strN [82], .int .u32 51, .int .u32 2, .int .u32 0, strN [115,108,116,117], strN [82], .int .u32 51, .int .u32 3, .int .u32 0, strN [120,111,114], strN [82], .int .u32 51, .int .u32 4, .int .u32 0, strN [115,114,108], strN [82], .int .u32 51, .int .u32 5, .int .u32 0, strN [115,114,97], strN [82], .int .u32 51, .int .u32 5, .int .u32 32, strN [111,114], strN [82], .int .u32 51, .int .u32 6, .int .u32 0, strN [97,110,100], strN [82], .int .u32 51, .int .u32 7, .int .u32 0, strN [97,100,100,119], strN [82], .int .u32 59, .int .u32 0, .int .u32 0, strN [115,117,98,119], strN [82], .int .u32 59, .int .u32 0, .int .u32 32, strN [115,108,108,119], strN [82], .int .u32 59, .int .u32 1, .int .u32 0, strN [115,114,108,119], strN [82], .int .u32 59, .int .u32 5, .int .u32 0, strN [115,114,97,119], strN [82], .int .u32 59, .int .u32 5, .int .u32 32, strN [109,117,108], strN [82], .int .u32 51, .int .u32 0, .int .u32 1, strN [109,117,108,104], strN [82], .int .u32 51, .int .u32 1, .int .u32 1, strN [109,117,108,104,115,117], strN [82], .int .u32 51, .int .u32 2, .int .u32 1, strN [109,117,108,104,117], strN [82], .int .u32 51, .int .u32 3, .int .u32 1, strN [100,105,118], strN [82], .int .u32 51, .int .u32 4, .int .u32 1, strN [100,105,118,117], strN [82], .int .u32 51, .int .u32 5, .int .u32 1, strN [114,101,109], strN [82], .int .u32 51, .int .u32 6, .int .u32 1, strN [114,101,109,117], strN [82], .int .u32 51, .int .u32 7, .int .u32 1, strN [109,117,108,119], strN [82], .int .u32 59, .int .u32 0, .int .u32 1, strN [100,105,118,119], strN [82], .int .u32 59, .int .u32 4, .int .u32 1, strN [100,105,118,117,119], strN [82], .int .u32 59, .int .u32 5, .int .u32 1, strN [114,101,109,119], strN [82], .int .u32 59, .int .u32 6, .int .u32 1, strN [114,101,109,117,119], strN [82], .int .u32 59, .int .u32 7, .int .u32 1, strN [101,99,97,108,108], strN [69], .int .u32 115, .int .u32 0, .int .u32 0], [], 1⟩
set_option maxRecDepth 1000000 in
theorem m25_ok : m25.ok Tryz.prog { Cfg.none with hk := memoHk 0 (tabM c25) } 100000 0 (St.empty 0) = true := by kernel_rfl
theorem m25_sound [Val] : m25.Sound Tryz.prog 0 Cfg.none := memo_plain c25_sound (by kernel_rfl) m25_ok
def c26 : List Memo := m25 :: c25
theorem c26_sound [Val] : ∀ m ∈ c26, m.Sound Tryz.prog 0 Cfg.none := sound_cons m25_sound c25_sound

def a26 : List AV := [.agg [.int .i64 6, .int .i64 0, .int .i64 18, .int .i64 0, .int .i64 12]]
def m26 : Memo := ⟨183, a26, .int .i64 0, [], 21⟩
set_option maxRecDepth 1000000 in
theorem m26_ok : m26.ok Tryz.prog { Cfg.none with hk := memoHk 0 (tabM c26) } 100000 0 (St.empty 0) = true := by kernel_rfl
theorem m26_sound [Val] : m26.Sound Tryz.prog 0 Cfg.none := memo_plain c26_sound (by kernel_rfl) m26_ok
def c27 : List Memo := m26 :: c26
theorem c27_sound [Val] : ∀ m ∈ c27, m.Sound Tryz.prog 0 Cfg.none := sound_cons m26_sound c26_sound

def a27 : List AV := [.agg [.int .i64 1, .int .i64 5, .int .i64 0, .int .i64 0, .int .i64 262144]]
def m27 : Memo := ⟨183, a27, .int .i64 0, [], 20⟩
set_option maxRecDepth 1000000 in
theorem m27_ok : m27.ok Tryz.prog { Cfg.none with hk := memoHk 0 (tabM c27) } 100000 0 (St.empty 0) = true := by kernel_rfl
theorem m27_sound [Val] : m27.Sound Tryz.prog 0 Cfg.none := memo_plain c27_sound (by kernel_rfl) m27_ok
def c28 : List Memo := m27 :: c27
theorem c28_sound [Val] : ∀ m ∈ c28, m.Sound Tryz.prog 0 Cfg.none := sound_cons m27_sound c27_sound

def a28 : List AV := [.agg [.int .i64 4, .int .i64 0, .int .i64 5, .int .i64 0, .int .i64 0]]
def m28 : Memo := ⟨183, a28, .int .i64 0, [], 21⟩
set_option maxRecDepth 1000000 in
theorem m28_ok : m28.ok Tryz.prog { Cfg.none with hk := memoHk 0 (tabM c28) } 100000 0 (St.empty 0) = true := by kernel_rfl
theorem m28_sound [Val] : m28.Sound Tryz.prog 0 Cfg.none := memo_plain c28_sound (by kernel_rfl) m28_ok
def c29 : List Memo := m28 :: c28
theorem c29_sound [Val] : ∀ m ∈ c29, m.Sound Tryz.prog 0 Cfg.none := sound_cons m28_sound c28_sound

def a29 : List AV := [.agg [.int .i64 22, .int .i64 18, .int .i64 18, .int .i64 0, .int .i64 (-1)]]
def m29 : Memo := ⟨183, a29, .int .i64 0, [], 21⟩
set_option maxRecDepth 1000000 in
theorem m29_ok : m29.ok Tryz.prog { Cfg.none with hk := memoHk 0 (tabM c29) } 100000 0 (St.empty 0) = true := by kernel_rfl
theorem m29_sound [Val] : m29.Sound Tryz.prog 0 Cfg.none := memo_plain c29_sound (by kernel_rfl) m29_ok
def c30 : List Memo := m29 :: c29
theorem c30_sound [Val] : ∀ m ∈ c30, m.Sound Tryz.prog 0 Cfg.none := sound_cons m29_sound c29_sound

def a30 : List AV := [.agg [.int .i64 4, .int .i64 0, .int .i64 5, .int .i64 0, .int .i64 80]]
def m30 : Memo := ⟨183, a30, .int .i64 0, [], 21⟩
set_option maxRecDepth 1000000 in
theorem m30_ok : m30.ok Tryz.prog { Cfg.none with hk := memoHk 0 (tabM c30) } 100000 0 (St.empty 0) = true := by kernel_rfl
theorem m30_sound [Val] : m30.Sound Tryz.prog 0 Cfg.none := memo_plain c30_sound (by kernel_rfl) m30_ok
def c31 : List Memo := m30 :: c30
theorem c31_sound [Val] : ∀ m ∈ c31, m.Sound Tryz.prog 0 Cfg.none := sound_cons m30_sound c30_sound

def a31 : List AV := [.agg [.int .i64 4, .int .i64 0, .int .i64 5, .int .i64 0, .int .i64 256]]
def m31 : Memo := ⟨183, a31, .int .i64 0, [], 21⟩
set_option maxRecDepth 1000000 in
theorem m31_ok : m31.ok Tryz.prog { Cfg.none with hk := memoHk 0 (tabM c31) } 100000 0 (St.empty 0) = true := by kernel_rfl
theorem m31_sound [Val] : m31.Sound Tryz.prog 0 Cfg.none := memo_plain c31_sound (by kernel_rfl) m31_ok
def c32 : List Memo := m31 :: c31
theorem c32_sound [Val] : ∀ m ∈ c32, m.Sound Tryz.prog 0 Cfg.none := sound_cons m31_sound c31_sound

def a32 : List AV := [.agg [.int .i64 4, .int .i64 0, .int .i64 5, .int .i64 0, .int .i64 352]]
def m32 : Memo := ⟨183, a32, .int .i64 0, [], 21⟩
set_option maxRecDepth 1000000 in
theorem m32_ok : m32.ok Tryz.prog { Cfg.none with hk := memoHk 0 (tabM c32) } 100000 0 (St.empty 0) = true := by kernel_rfl
theorem m32_sound [Val] : m32.Sound Tryz.prog 0 Cfg.none := memo_plain c32_sound (by kernel_rfl) m32_ok
def c33 : List Memo := m32 :: c32
theorem c33_sound [Val] : ∀ m ∈ c33, m.Sound Tryz.prog 0 Cfg.none := sound_cons m32_sound c32_sound

def a33 : List AV := [.agg [.int .i64 4, .int .i64 0, .int .i64 5, .int .i64 0, .int .i64 512]]
def m33 : Memo := ⟨183, a33, .int .i64 0, [], 21⟩
set_option maxRecDepth 1000000 in
theorem m33_ok : m33.ok Tryz.prog { Cfg.none with hk := memoHk 0 (tabM c33) } 100000 0 (St.empty 0) = true := by kernel_rfl
theorem m33_sound [Val] : m33.Sound Tryz.prog 0 Cfg.none := memo_plain c33_sound (by kernel_rfl) m33_ok
def c34 : List Memo := m33 :: c33
theorem c34_sound [Val] : ∀ m ∈ c34, m.Sound Tryz.prog 0 Cfg.none := sound_cons m33_sound c33_sound

def a34 : List AV := [.agg [.int .i64 4, .int .i64 0, .int .i64 5, .int .i64 0, .int .i64 624]]
def m34 : Memo := ⟨183, a34, .int .i64 0, [], 21⟩
set_option maxRecDepth 1000000 in
theorem m34_ok : m34.ok Tryz.prog { Cfg.none with hk := memoHk 0 (tabM c34) } 100000 0 (St.empty 0) = true := by kernel_rfl
theorem m34_sound [Val] : m34.Sound Tryz.prog 0 Cfg.none := memo_plain c34_sound (by kernel_rfl) m34_ok
def c35 : List Memo := m34 :: c34
theorem c35_sound [Val] : ∀ m ∈ c35, m.Sound Tryz.prog 0 Cfg.none := sound_cons m34_sound c34_sound

def a35 : List AV := [.agg [strN [98,110,101], strN [66], .int .u32 99, .int .u32 1, .int .u32 0], .agg [.int .i64 6, .int .i64 0, .int .i64 18, .int .i64 0, .int .i64 12]]
def m35 : Memo := ⟨184, a35, .int .u32 595555, [], 22⟩
set_option maxRecDepth 1000000 in
theorem m35_ok : m35.ok Tryz.prog { Cfg.none with hk := memoHk 0 (tabM c35) } 100000 0 (St.empty 0) = true := by kernel_rfl
theorem m35_sound [Val] : m35.Sound Tryz.prog 0 Cfg.none := memo_plain c35_sound (by kernel_rfl) m35_ok
def c36 : List Memo := m35 :: c35
theorem c36_sound [Val] : ∀ m ∈ c36, m.Sound Tryz.prog 0 Cfg.none := sound_cons m35_sound c35_sound

def a36 : List AV := [.agg [.int .i64 1, .int .i64 5, .int .i64 0, .int .i64 0, .int .i64 262144]]
def m36 : Memo := ⟨179, a36, .tup [.int .u32 1073742519, .int .i64 0], [], 42⟩
set_option maxRecDepth 1000000 in
theorem m36_ok : m36.ok Tryz.prog { Cfg.none with hk := memoHk 0 (tabM c36) } 100000 0 (St.empty 0) = true := by kernel_rfl
theorem m36_sound [Val] : m36.Sound Tryz.prog 0 Cfg.none := memo_plain c36_sound (by kernel_rfl) m36_ok
def c37 : List Memo := m36 :: c36
theorem c37_sound [Val] : ∀ m ∈ c37, m.Sound Tryz.prog 0 Cfg.none := sound_cons m36_sound c36_sound

def a37 : List AV := [.agg [.int .i64 4, .int .i64 0, .int .i64 5, .int .i64 0, .int .i64 0]]
def m37 : Memo := ⟨179, a37, .tup [.int .u32 163943, .int .i64 0], [], 45⟩
set_option maxRecDepth 1000000 in
theorem m37_ok : m37.ok Tryz.prog { Cfg.none with hk := memoHk 0 (tabM c37) } 100000 0 (St.empty 0) = true := by kernel_rfl
theorem m37_sound [Val] : m37.Sound Tryz.prog 0 Cfg.none := memo_plain c37_sound (by kernel_rfl) m37_ok
def c38 : List Memo := m37 :: c37
theorem c38_sound [Val] : ∀ m ∈ c38, m.Sound Tryz.prog 0 Cfg.none := sound_cons m37_sound c37_sound

def a38 : List AV := [.agg [.int .i64 22, .int .i64 18, .int .i64 18, .int .i64 0, .int .i64 (-1)]]
def m38 : Memo := ⟨179, a38, .tup [.int .u32 4294510867, .int .i64 0], [], 45⟩
set_option maxRecDepth 1000000 in
theorem m38_ok : m38.ok Tryz.prog { Cfg.none with hk := memoHk 0 (tabM c38) } 100000 0 (St.empty 0) = true := by kernel_rfl
theorem m38_sound [Val] : m38.Sound Tryz.prog 0 Cfg.none := memo_plain c38_sound (by kernel_rfl) m38_ok
def c39 : List Memo := m38 :: c38
theorem c39_sound [Val] : ∀ m ∈ c39, m.Sound Tryz.prog 0 Cfg.none := sound_cons m38_sound c38_sound

def a39 : List AV := [.agg [.int .i64 4, .int .i64 0, .int .i64 5, .int .i64 0, .int .i64 80]]
def m39 : Memo := ⟨179, a39, .tup [.int .u32 84050023, .int .i64 0], [], 45⟩
set_option maxRecDepth 1000000 in
theorem m39_ok : m39.ok Tryz.prog { Cfg.none with hk := memoHk 0 (tabM c39) } 100000 0 (St.empty 0) = true := by kernel_rfl
theorem m39_sound [Val] : m39.Sound Tryz.prog 0 Cfg.none := memo_plain c39_sound (by kernel_rfl) m39_ok
def c40 : List Memo := m39 :: c39
theorem c40_sound [Val] : ∀ m ∈ c40, m.Sound Tryz.prog 0 Cfg.none := sound_cons m39_sound c39_sound

def a40 : List AV := [.agg [.int .i64 4, .int .i64 0, .int .i64 5, .int .i64 0, .int .i64 256]]
def m40 : Memo := ⟨179, a40, .tup [.int .u32 268599399, .int .i64 0], [], 45⟩
set_option maxRecDepth 1000000 in
theorem m40_ok : m40.ok Tryz.prog { Cfg.none with hk := memoHk 0 (tabM c40) } 100000 0 (St.empty 0) = true := by kernel_rfl
theorem m40_sound [Val] : m40.Sound Tryz.prog 0 Cfg.none := memo_plain c40_sound (by kernel_rfl) m40_ok
def c41 : List Memo := m40 :: c40
theorem c41_sound [Val] : ∀ m ∈ c41, m.Sound Tryz.prog 0 Cfg.none := sound_cons m40_sound c40_sound

def a41 : List AV := [.agg [.int .i64 4, .int .i64 0, .int .i64 5, .int .i64 0, .int .i64 352]]
def m41 : Memo := ⟨179, a41, .tup [.int .u32 369262695, .int .i64 0], [], 45⟩
set_option maxRecDepth 1000000 in
theorem m41_ok : m41.ok Tryz.prog { Cfg.none with hk := memoHk 0 (tabM c41) } 100000 0 (St.empty 0) = true := by kernel_rfl
theorem m41_sound [Val] : m41.Sound Tryz.prog 0 Cfg.none := memo_plain c41_sound (by kernel_rfl) m41_ok
def c42 : List Memo := m41 :: c41
theorem c42_sound [Val] : ∀ m ∈ c42, m.Sound Tryz.prog 0 Cfg.none := sound_cons m41_sound c41_sound

def a42 : List AV := [.agg [.int .i64 4, .int .i64 0, .int .i64 5, .int .i64 0, .int .i64 512]]
def m42 : Memo := ⟨179, a42, .tup [.int .u32 537034855, .int .i64 0], [], 45⟩
set_option maxRecDepth 1000000 in
theorem m42_ok : m42.ok Tryz.prog { Cfg.none with hk := memoHk 0 (tabM c42) } 100000 0 (St.empty 0) = true := by kernel_rfl
theorem m42_sound [Val] : m42.Sound Tryz.prog 0 Cfg.none := memo_plain c42_sound (by kernel_rfl) m42_ok
def c43 : List Memo := m42 :: c42
theorem c43_sound [Val] : ∀ m ∈ c43, m.Sound Tryz.prog 0 Cfg.none := sound_cons m42_sound c42_sound

def a43 : List AV := [.agg [.int .i64 4, .int .i64 0, .int .i64 5, .int .i64 0, .int .i64 624]]
def m43 : Memo := ⟨179, a43, .tup [.int .u32 654475367, .int .i64 0], [], 45⟩
set_option maxRecDepth 1000000 in
theorem m43_ok : m43.ok Tryz.prog { Cfg.none with hk := memoHk 0 (tabM c43) } 100000 0 (St.empty 0) = true := by kernel_rfl
theorem m43_sound [Val] : m43.Sound Tryz.prog 0 Cfg.none := memo_plain c43_sound (by kernel_rfl) m43_ok
def c44 : List Memo := m43 :: c43
theorem c44_sound [Val] : ∀ m ∈ c44, m.Sound Tryz.prog 0 Cfg.none := sound_cons m43_sound c43_sound

def a44 : List AV := [.int .u32 595555]
def m44 : Memo := ⟨129, a44, .tup [.agg [.int .i64 6, .int .i64 0, .int .i64 18, .int .i64 0, .int .i64 12], .int .i64 0], [], 96⟩
set_option maxRecDepth 1000000 in
theorem m44_ok : m44.ok Tryz.prog { Cfg.none with hk := memoHk 0 (tabM c44) } 100000 0 (St.empty 0) = true := by kernel_rfl
theorem m44_sound [Val] : m44.Sound Tryz.prog 0 Cfg.none := memo_plain c44_sound (by kernel_rfl) m44_ok
def c45 : List Memo := m44 :: c44
theorem c45_sound [Val] : ∀ m ∈ c45, m.Sound Tryz.prog 0 Cfg.none := sound_cons m44_sound c44_sound

def a45 : List AV := [.int .u32 1073742519]
def m45 : Memo := ⟨129, a45, .tup [.agg [.int .i64 1, .int .i64 5, .int .i64 0, .int .i64 0, .int .i64 262144], .int .i64 0], [], 70⟩
set_option maxRecDepth 1000000 in
theorem m45_ok : m45.ok Tryz.prog { Cfg.none with hk := memoHk 0 (tabM c45) } 100000 0 (St.empty 0) = true := by kernel_rfl
theorem m45_sound [Val] : m45.Sound Tryz.prog 0 Cfg.none := memo_plain c45_sound (by kernel_rfl) m45_ok
def c46 : List Memo := m45 :: c45
theorem c46_sound [Val] : ∀ m ∈ c46, m.Sound Tryz.prog 0 Cfg.none := sound_cons m45_sound c45_sound

def a46 : List AV := [.int .u32 163943]
def m46 : Memo := ⟨129, a46, .tup [.agg [.int .i64 4, .int .i64 0, .int .i64 5, .int .i64 0, .int .i64 0], .int .i64 0], [], 78⟩
set_option maxRecDepth 1000000 in
theorem m46_ok : m46.ok Tryz.prog { Cfg.none with hk := memoHk 0 (tabM c46) } 100000 0 (St.empty 0) = true := by kernel_rfl
theorem m46_sound [Val] : m46.Sound Tryz.prog 0 Cfg.none := memo_plain c46_sound (by kernel_rfl) m46_ok
def c47 : List Memo := m46 :: c46
theorem c47_sound [Val] : ∀ m ∈ c47, m.Sound Tryz.prog 0 Cfg.none := sound_cons m46_sound c46_sound

def a47 : List AV := [.int .u32 4294510867]
def m47 : Memo := ⟨129, a47, .tup [.agg [.int .i64 22, .int .i64 18, .int .i64 18, .int .i64 0, .int .i64 (-1)], .int .i64 0], [], 96⟩
set_option maxRecDepth 1000000 in
theorem m47_ok : m47.ok Tryz.prog { Cfg.none with hk := memoHk 0 (tabM c47) } 100000 0 (St.empty 0) = true := by kernel_rfl
theorem m47_sound [Val] : m47.Sound Tryz.prog 0 Cfg.none := memo_plain c47_sound (by kernel_rfl) m47_ok
def c48 : List Memo := m47 :: c47
theorem c48_sound [Val] : ∀ m ∈ c48, m.Sound Tryz.prog 0 Cfg.none := sound_cons m47_sound c47_sound

def a48 : List AV := [.int .u32 84050023]
def m48 : Memo := ⟨129, a48, .tup [.agg [.int .i64 4, .int .i64 0, .int .i64 5, .int .i64 0, .int .i64 80], .int .i64 0], [], 78⟩
set_option maxRecDepth 1000000 in
theorem m48_ok : m48.ok Tryz.prog { Cfg.none with hk := memoHk 0 (tabM c48) } 100000 0 (St.empty 0) = true := by kernel_rfl
theorem m48_sound [Val] : m48.Sound Tryz.prog 0 Cfg.none := memo_plain c48_sound (by kernel_rfl) m48_ok
def c49 : List Memo := m48 :: c48
theorem c49_sound [Val] : ∀ m ∈ c49, m.Sound Tryz.prog 0 Cfg.none := sound_cons m48_sound c48_sound

def a49 : List AV := [.int .u32 268599399]
def m49 : Memo := ⟨129, a49, .tup [.agg [.int .i64 4, .int .i64 0, .int .i64 5, .int .i64 0, .int .i64 256], .int .i64 0], [], 78⟩
set_option maxRecDepth 1000000 in
theorem m49_ok : m49.ok Tryz.prog { Cfg.none with hk := memoHk 0 (tabM c49) } 100000 0 (St.empty 0) = true := by kernel_rfl
theorem m49_sound [Val] : m49.Sound Tryz.prog 0 Cfg.none := memo_plain c49_sound (by kernel_rfl) m49_ok
def c50 : List Memo := m49 :: c49
theorem c50_sound [Val] : ∀ m ∈ c50, m.Sound Tryz.prog 0 Cfg.none := sound_cons m49_sound c49_sound

def a50 : List AV := [.int .u32 369262695]
def m50 : Memo := ⟨129, a50, .tup [.agg [.int .i64 4, .int .i64 0, .int .i64 5, .int .i64 0, .int .i64 352], .int .i64 0], [], 78⟩
set_option maxRecDepth 1000000 in
theorem m50_ok : m50.ok Tryz.prog { Cfg.none with hk := memoHk 0 (tabM c50) } 100000 0 (St.empty 0) = true := by kernel_rfl
theorem m50_sound [Val] : m50.Sound Tryz.prog 0 Cfg.none := memo_plain c50_sound (by kernel_rfl) m50_ok
def c51 : List Memo := m50 :: c50
theorem c51_sound [Val] : ∀ m ∈ c51, m.Sound Tryz.prog 0 Cfg.none := sound_cons m50_sound c50_sound

def a51 : List AV := [.int .u32 537034855]
def m51 : Memo := ⟨129, a51, .tup [.agg [.int .i64 4, .int .i64 0, .int .i64 5, .int .i64 0, .int .i64 512], .int .i64 0], [], 78⟩
set_option maxRecDepth 1000000 in
theorem m51_ok : m51.ok Tryz.prog { Cfg.none with hk := memoHk 0 (tabM c51) } 100000 0 (St.empty 0) = true := by kernel_rfl
theorem m51_sound [Val] : m51.Sound Tryz.prog 0 Cfg.none := memo_plain c51_sound (by kernel_rfl) m51_ok
def c52 : List Memo := m51 :: c51
theorem c52_sound [Val] : ∀ m ∈ c52, m.Sound Tryz.prog 0 Cfg.none := sound_cons m51_sound c51_sound

def a52 : List AV := [.int .u32 654475367]
def m52 : Memo := ⟨129, a52, .tup [.agg [.int .i64 4, .int .i64 0, .int .i64 5, .int .i64 0, .int .i64 624], .int .i64 0], [], 78⟩
set_option maxRecDepth 1000000 in
theorem m52_ok : m52.ok Tryz.prog { Cfg.none with hk := memoHk 0 (tabM c52) } 100000 0 (St.empty 0) = true := by kernel_rfl
theorem m52_sound [Val] : m52.Sound Tryz.prog 0 Cfg.none := memo_plain c52_sound (by kernel_rfl) m52_ok
def c53 : List Memo := m52 :: c52
theorem c53_sound [Val] : ∀ m ∈ c53, m.Sound Tryz.prog 0 Cfg.none := sound_cons m52_sound c52_sound
end Go.Proofs.YtalhegeanpaolaaGreat
