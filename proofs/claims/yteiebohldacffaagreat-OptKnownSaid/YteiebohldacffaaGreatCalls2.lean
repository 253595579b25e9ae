/-
  Calls whose outcome is known, each shown by the evaluator with the earlier ones at hand; part 2. No condition.
-/
import Derived.Test.YteiebohldacffaaGreatCalls1
namespace Go.Proofs.YteiebohldacffaaGreat
open Go.Tw

def a37 : List AV := [.agg [.int .i64 1, .int .i64 0, .int .i64 0, .int .i64 0, .int .i64 0, .nils]]
def m37 : Memo := ⟨69, a37, .tup [.slc 6 0 0 1 none 1, .nils, .int .i64 0], [(6, .arr [.int .i64 0] 0 1 1 1 3)], 7⟩
set_option maxRecDepth 1000000 in
theorem m37_ok : m37.ok Tryz.prog { Cfg.none with hk := memoHk 0 (tabM c37) } 100000 0 (St.empty 0) = true := by kernel_rfl
theorem m37_sound : m37.Sound Tryz.prog 0 Cfg.none := memo_plain c37_sound (by kernel_rfl) m37_ok
def c38 : List Memo := m37 :: c37
theorem c38_sound : ∀ m ∈ c38, m.Sound Tryz.prog 0 Cfg.none := sound_cons m37_sound c37_sound

def a38 : List AV := [.agg [.int .i64 1, .int .i64 0, .int .i64 0, .int .i64 0, .int .i64 0, .nils]]
def m38 : Memo := ⟨48, a38, .tup [.slc 28 1 0 10 none 1, .int .i64 0], [(28, .arr [.int .u8 1, .int .u8 0, .int .u8 0, .int .u8 0, .int .u8 0, .int .u8 0, .int .u8 0, .int .u8 0, .int .u8 0, .int .u8 0] 0 2 1 2 5)], 38⟩
set_option maxRecDepth 1000000 in
theorem m38_ok : m38.ok Tryz.prog { Cfg.none with hk := memoHk 0 (tabM c38) } 100000 0 (St.empty 0) = true := by kernel_rfl
theorem m38_sound : m38.Sound Tryz.prog 0 Cfg.none := memo_plain c38_sound (by kernel_rfl) m38_ok
def c39 : List Memo := m38 :: c38
theorem c39_sound : ∀ m ∈ c39, m.Sound Tryz.prog 0 Cfg.none := sound_cons m38_sound c38_sound

def a39 : List AV := [.agg [.int .i64 26, .int .i64 0, .int .i64 0, .int .i64 0, .int .i64 14, .nils]]
def m39 : Memo := ⟨91, a39, .bool true, [], 5⟩
set_option maxRecDepth 1000000 in
theorem m39_ok : m39.ok Tryz.prog { Cfg.none with hk := memoHk 0 (tabM c39) } 100000 0 (St.empty 0) = true := by kernel_rfl
theorem m39_sound : m39.Sound Tryz.prog 0 Cfg.none := memo_plain c39_sound (by kernel_rfl) m39_ok
def c40 : List Memo := m39 :: c39
theorem c40_sound : ∀ m ∈ c40, m.Sound Tryz.prog 0 Cfg.none := sound_cons m39_sound c39_sound

def a40 : List AV := [.agg [.int .i64 26, .int .i64 0, .int .i64 0, .int .i64 0, .int .i64 14, .nils]]
def m40 : Memo := ⟨69, a40, .tup [.slc 6 0 0 1 none 1, .slc 8 0 0 1 none 1, .int .i64 (-1)], [(6, .arr [.int .i64 0] 0 1 1 1 3), (8, .arr [.int .i64 0] 0 1 1 1 3)], 9⟩
set_option maxRecDepth 1000000 in
theorem m40_ok : m40.ok Tryz.prog { Cfg.none with hk := memoHk 0 (tabM c40) } 100000 0 (St.empty 0) = true := by kernel_rfl
theorem m40_sound : m40.Sound Tryz.prog 0 Cfg.none := memo_plain c40_sound (by kernel_rfl) m40_ok
def c41 : List Memo := m40 :: c40
theorem c41_sound : ∀ m ∈ c41, m.Sound Tryz.prog 0 Cfg.none := sound_cons m40_sound c40_sound

def a41 : List AV := [.agg [.int .i64 26, .int .i64 0, .int .i64 0, .int .i64 0, .int .i64 14, .nils]]
def m41 : Memo := ⟨48, a41, .tup [.slc 30 1 0 4 none 1, .int .i64 0], [(30, .arr [.int .u8 26, .int .u8 0, .int .u8 14, .int .u8 0] 0 2 1 2 5)], 34⟩
set_option maxRecDepth 1000000 in
theorem m41_ok : m41.ok Tryz.prog { Cfg.none with hk := memoHk 0 (tabM c41) } 100000 0 (St.empty 0) = true := by kernel_rfl
theorem m41_sound : m41.Sound Tryz.prog 0 Cfg.none := memo_plain c41_sound (by kernel_rfl) m41_ok
def c42 : List Memo := m41 :: c41
theorem c42_sound : ∀ m ∈ c42, m.Sound Tryz.prog 0 Cfg.none := sound_cons m41_sound c41_sound

def a42 : List AV := [.agg [.int .i64 1, .int .i64 0, .int .i64 0, .int .i64 0, .int .i64 0, .nils], .int .i64 2, .int .i64 0]
def m42 : Memo := ⟨77, a42, .int .i64 0, [], 19⟩
set_option maxRecDepth 1000000 in
theorem m42_ok : m42.ok Tryz.prog { Cfg.none with hk := memoHk 0 (tabM c42) } 100000 0 (St.empty 0) = true := by kernel_rfl
theorem m42_sound : m42.Sound Tryz.prog 0 Cfg.none := memo_plain c42_sound (by kernel_rfl) m42_ok
def c43 : List Memo := m42 :: c42
theorem c43_sound : ∀ m ∈ c43, m.Sound Tryz.prog 0 Cfg.none := sound_cons m42_sound c42_sound

def a43 : List AV := [.agg [.int .i64 26, .int .i64 0, .int .i64 0, .int .i64 0, .int .i64 14, .nils], .int .i64 2, .int .i64 0]
def m43 : Memo := ⟨77, a43, .int .i64 0, [], 21⟩
set_option maxRecDepth 1000000 in
theorem m43_ok : m43.ok Tryz.prog { Cfg.none with hk := memoHk 0 (tabM c43) } 100000 0 (St.empty 0) = true := by kernel_rfl
theorem m43_sound : m43.Sound Tryz.prog 0 Cfg.none := memo_plain c43_sound (by kernel_rfl) m43_ok
def c44 : List Memo := m43 :: c43
theorem c44_sound : ∀ m ∈ c44, m.Sound Tryz.prog 0 Cfg.none := sound_cons m43_sound c43_sound

def a44 : List AV := [.agg [.int .i64 1, .int .i64 0, .int .i64 0, .int .i64 0, .int .i64 0, .nils]]
def m44 : Memo := ⟨41, a44, .int .i64 (-1), [], 3⟩
set_option maxRecDepth 1000000 in
theorem m44_ok : m44.ok Tryz.prog { Cfg.none with hk := memoHk 0 (tabM c44) } 100000 0 (St.empty 0) = true := by kernel_rfl
theorem m44_sound : m44.Sound Tryz.prog 0 Cfg.none := memo_plain c44_sound (by kernel_rfl) m44_ok
def c45 : List Memo := m44 :: c44
theorem c45_sound : ∀ m ∈ c45, m.Sound Tryz.prog 0 Cfg.none := sound_cons m44_sound c44_sound

def a45 : List AV := [.agg [.int .i64 26, .int .i64 0, .int .i64 0, .int .i64 0, .int .i64 14, .nils]]
def m45 : Memo := ⟨41, a45, .int .i64 14, [], 3⟩
set_option maxRecDepth 1000000 in
theorem m45_ok : m45.ok Tryz.prog { Cfg.none with hk := memoHk 0 (tabM c45) } 100000 0 (St.empty 0) = true := by kernel_rfl
theorem m45_sound : m45.Sound Tryz.prog 0 Cfg.none := memo_plain c45_sound (by kernel_rfl) m45_ok
def c46 : List Memo := m45 :: c45
theorem c46_sound : ∀ m ∈ c46, m.Sound Tryz.prog 0 Cfg.none := sound_cons m45_sound c45_sound

def a46 : List AV := [.agg [.int .i64 25, .int .i64 0, .int .i64 0, .int .i64 0, .int .i64 14, .nils]]
def m46 : Memo := ⟨40, a46, .int .i64 3, [], 27⟩
set_option maxRecDepth 1000000 in
theorem m46_ok : m46.ok Tryz.prog { Cfg.none with hk := memoHk 0 (tabM c46) } 100000 0 (St.empty 0) = true := by kernel_rfl
theorem m46_sound : m46.Sound Tryz.prog 0 Cfg.none := memo_plain c46_sound (by kernel_rfl) m46_ok
def c47 : List Memo := m46 :: c46
theorem c47_sound : ∀ m ∈ c47, m.Sound Tryz.prog 0 Cfg.none := sound_cons m46_sound c46_sound

def a47 : List AV := [.agg [.int .i64 25, .int .i64 0, .int .i64 0, .int .i64 0, .int .i64 13, .nils]]
def m47 : Memo := ⟨48, a47, .tup [.slc 25 0 0 3 none 1, .int .i64 0], [(25, .arr [.int .u8 25, .int .u8 13, .int .u8 0] 0 3 1 1 5)], 26⟩
set_option maxRecDepth 1000000 in
theorem m47_ok : m47.ok Tryz.prog { Cfg.none with hk := memoHk 0 (tabM c47) } 100000 0 (St.empty 0) = true := by kernel_rfl
theorem m47_sound : m47.Sound Tryz.prog 0 Cfg.none := memo_plain c47_sound (by kernel_rfl) m47_ok
def c48 : List Memo := m47 :: c47
theorem c48_sound : ∀ m ∈ c48, m.Sound Tryz.prog 0 Cfg.none := sound_cons m47_sound c47_sound

def a48 : List AV := [.agg [.int .i64 25, .int .i64 0, .int .i64 0, .int .i64 0, .int .i64 13, .nils], .int .i64 2, .int .i64 0]
def m48 : Memo := ⟨77, a48, .int .i64 0, [], 16⟩
set_option maxRecDepth 1000000 in
theorem m48_ok : m48.ok Tryz.prog { Cfg.none with hk := memoHk 0 (tabM c48) } 100000 0 (St.empty 0) = true := by kernel_rfl
theorem m48_sound : m48.Sound Tryz.prog 0 Cfg.none := memo_plain c48_sound (by kernel_rfl) m48_ok
def c49 : List Memo := m48 :: c48
theorem c49_sound : ∀ m ∈ c49, m.Sound Tryz.prog 0 Cfg.none := sound_cons m48_sound c48_sound

def a49 : List AV := [.agg [.int .i64 25, .int .i64 0, .int .i64 0, .int .i64 0, .int .i64 13, .nils]]
def m49 : Memo := ⟨41, a49, .int .i64 13, [], 3⟩
set_option maxRecDepth 1000000 in
theorem m49_ok : m49.ok Tryz.prog { Cfg.none with hk := memoHk 0 (tabM c49) } 100000 0 (St.empty 0) = true := by kernel_rfl
theorem m49_sound : m49.Sound Tryz.prog 0 Cfg.none := memo_plain c49_sound (by kernel_rfl) m49_ok
def c50 : List Memo := m49 :: c49
theorem c50_sound : ∀ m ∈ c50, m.Sound Tryz.prog 0 Cfg.none := sound_cons m49_sound c49_sound

def a50 : List AV := [.agg [.int .i64 25, .int .i64 0, .int .i64 0, .int .i64 0, .int .i64 0, .nils]]
def m50 : Memo := ⟨69, a50, .tup [.nils, .nils, .int .i64 (-1)], [], 5⟩
set_option maxRecDepth 1000000 in
theorem m50_ok : m50.ok Tryz.prog { Cfg.none with hk := memoHk 0 (tabM c50) } 100000 0 (St.empty 0) = true := by kernel_rfl
theorem m50_sound : m50.Sound Tryz.prog 0 Cfg.none := memo_plain c50_sound (by kernel_rfl) m50_ok
def c51 : List Memo := m50 :: c50
theorem c51_sound : ∀ m ∈ c51, m.Sound Tryz.prog 0 Cfg.none := sound_cons m50_sound c50_sound

def a51 : List AV := [.agg [.int .i64 25, .int .i64 0, .int .i64 0, .int .i64 0, .int .i64 0, .nils]]
def m51 : Memo := ⟨48, a51, .tup [.slc 25 0 0 3 none 1, .int .i64 0], [(25, .arr [.int .u8 25, .int .u8 0, .int .u8 0] 0 3 1 1 5)], 26⟩
set_option maxRecDepth 1000000 in
theorem m51_ok : m51.ok Tryz.prog { Cfg.none with hk := memoHk 0 (tabM c51) } 100000 0 (St.empty 0) = true := by kernel_rfl
theorem m51_sound : m51.Sound Tryz.prog 0 Cfg.none := memo_plain c51_sound (by kernel_rfl) m51_ok
def c52 : List Memo := m51 :: c51
theorem c52_sound : ∀ m ∈ c52, m.Sound Tryz.prog 0 Cfg.none := sound_cons m51_sound c51_sound

def a52 : List AV := [.agg [.int .i64 25, .int .i64 0, .int .i64 0, .int .i64 0, .int .i64 0, .nils], .int .i64 2, .int .i64 0]
def m52 : Memo := ⟨77, a52, .int .i64 0, [], 16⟩
set_option maxRecDepth 1000000 in
theorem m52_ok : m52.ok Tryz.prog { Cfg.none with hk := memoHk 0 (tabM c52) } 100000 0 (St.empty 0) = true := by kernel_rfl
theorem m52_sound : m52.Sound Tryz.prog 0 Cfg.none := memo_plain c52_sound (by kernel_rfl) m52_ok
def c53 : List Memo := m52 :: c52
theorem c53_sound : ∀ m ∈ c53, m.Sound Tryz.prog 0 Cfg.none := sound_cons m52_sound c52_sound

def a53 : List AV := [.agg [.int .i64 25, .int .i64 0, .int .i64 0, .int .i64 0, .int .i64 0, .nils]]
def m53 : Memo := ⟨41, a53, .int .i64 0, [], 3⟩
set_option maxRecDepth 1000000 in
theorem m53_ok : m53.ok Tryz.prog { Cfg.none with hk := memoHk 0 (tabM c53) } 100000 0 (St.empty 0) = true := by kernel_rfl
theorem m53_sound : m53.Sound Tryz.prog 0 Cfg.none := memo_plain c53_sound (by kernel_rfl) m53_ok
def c54 : List Memo := m53 :: c53
theorem c54_sound : ∀ m ∈ c54, m.Sound Tryz.prog 0 Cfg.none := sound_cons m53_sound c53_sound
end Go.Proofs.YteiebohldacffaaGreat
