/-
  Calls whose outcome is known, each shown by the evaluator with the earlier ones at hand; part 2. No condition.
-/
import Derived.Test.YtkddndlkblhldaaGreatCalls1
namespace Go.Proofs.YtkddndlkblhldaaGreat
open Go.Tw

def a48 : List AV := [.int .u32 1073742519]
def m48 : Memo := ⟨143, a48, .tup [.agg [.int .i64 1, .int .i64 5, .int .i64 0, .int .i64 0, .int .i64 262144], .int .i64 0], [], 70⟩
set_option maxRecDepth 1000000 in
theorem m48_ok : m48.ok Tryz.prog { Cfg.none with hk := memoHk 0 (tabM c48) } 100000 0 (St.empty 0) = true := by kernel_rfl
theorem m48_sound : m48.Sound Tryz.prog 0 Cfg.none := memo_plain c48_sound (by kernel_rfl) m48_ok
def c49 : List Memo := m48 :: c48
theorem c49_sound : ∀ m ∈ c49, m.Sound Tryz.prog 0 Cfg.none := sound_cons m48_sound c48_sound

def a49 : List AV := [.int .u32 163943]
def m49 : Memo := ⟨143, a49, .tup [.agg [.int .i64 4, .int .i64 0, .int .i64 5, .int .i64 0, .int .i64 0], .int .i64 0], [], 78⟩
set_option maxRecDepth 1000000 in
theorem m49_ok : m49.ok Tryz.prog { Cfg.none with hk := memoHk 0 (tabM c49) } 100000 0 (St.empty 0) = true := by kernel_rfl
theorem m49_sound : m49.Sound Tryz.prog 0 Cfg.none := memo_plain c49_sound (by kernel_rfl) m49_ok
def c50 : List Memo := m49 :: c49
theorem c50_sound : ∀ m ∈ c50, m.Sound Tryz.prog 0 Cfg.none := sound_cons m49_sound c49_sound

def a50 : List AV := [.int .u32 4294510867]
def m50 : Memo := ⟨143, a50, .tup [.agg [.int .i64 22, .int .i64 18, .int .i64 18, .int .i64 0, .int .i64 (-1)], .int .i64 0], [], 96⟩
set_option maxRecDepth 1000000 in
theorem m50_ok : m50.ok Tryz.prog { Cfg.none with hk := memoHk 0 (tabM c50) } 100000 0 (St.empty 0) = true := by kernel_rfl
theorem m50_sound : m50.Sound Tryz.prog 0 Cfg.none := memo_plain c50_sound (by kernel_rfl) m50_ok
def c51 : List Memo := m50 :: c50
theorem c51_sound : ∀ m ∈ c51, m.Sound Tryz.prog 0 Cfg.none := sound_cons m50_sound c50_sound

def a51 : List AV := [.int .u32 84050023]
def m51 : Memo := ⟨143, a51, .tup [.agg [.int .i64 4, .int .i64 0, .int .i64 5, .int .i64 0, .int .i64 80], .int .i64 0], [], 78⟩
set_option maxRecDepth 1000000 in
theorem m51_ok : m51.ok Tryz.prog { Cfg.none with hk := memoHk 0 (tabM c51) } 100000 0 (St.empty 0) = true := by kernel_rfl
theorem m51_sound : m51.Sound Tryz.prog 0 Cfg.none := memo_plain c51_sound (by kernel_rfl) m51_ok
def c52 : List Memo := m51 :: c51
theorem c52_sound : ∀ m ∈ c52, m.Sound Tryz.prog 0 Cfg.none := sound_cons m51_sound c51_sound

def a52 : List AV := [.int .u32 268599399]
def m52 : Memo := ⟨143, a52, .tup [.agg [.int .i64 4, .int .i64 0, .int .i64 5, .int .i64 0, .int .i64 256], .int .i64 0], [], 78⟩
set_option maxRecDepth 1000000 in
theorem m52_ok : m52.ok Tryz.prog { Cfg.none with hk := memoHk 0 (tabM c52) } 100000 0 (St.empty 0) = true := by kernel_rfl
theorem m52_sound : m52.Sound Tryz.prog 0 Cfg.none := memo_plain c52_sound (by kernel_rfl) m52_ok
def c53 : List Memo := m52 :: c52
theorem c53_sound : ∀ m ∈ c53, m.Sound Tryz.prog 0 Cfg.none := sound_cons m52_sound c52_sound

def a53 : List AV := [.int .u32 369262695]
def m53 : Memo := ⟨143, a53, .tup [.agg [.int .i64 4, .int .i64 0, .int .i64 5, .int .i64 0, .int .i64 352], .int .i64 0], [], 78⟩
set_option maxRecDepth 1000000 in
theorem m53_ok : m53.ok Tryz.prog { Cfg.none with hk := memoHk 0 (tabM c53) } 100000 0 (St.empty 0) = true := by kernel_rfl
theorem m53_sound : m53.Sound Tryz.prog 0 Cfg.none := memo_plain c53_sound (by kernel_rfl) m53_ok
def c54 : List Memo := m53 :: c53
theorem c54_sound : ∀ m ∈ c54, m.Sound Tryz.prog 0 Cfg.none := sound_cons m53_sound c53_sound

def a54 : List AV := [.int .u32 537034855]
def m54 : Memo := ⟨143, a54, .tup [.agg [.int .i64 4, .int .i64 0, .int .i64 5, .int .i64 0, .int .i64 512], .int .i64 0], [], 78⟩
set_option maxRecDepth 1000000 in
theorem m54_ok : m54.ok Tryz.prog { Cfg.none with hk := memoHk 0 (tabM c54) } 100000 0 (St.empty 0) = true := by kernel_rfl
theorem m54_sound : m54.Sound Tryz.prog 0 Cfg.none := memo_plain c54_sound (by kernel_rfl) m54_ok
def c55 : List Memo := m54 :: c54
theorem c55_sound : ∀ m ∈ c55, m.Sound Tryz.prog 0 Cfg.none := sound_cons m54_sound c54_sound

def a55 : List AV := [.int .u32 654475367]
def m55 : Memo := ⟨143, a55, .tup [.agg [.int .i64 4, .int .i64 0, .int .i64 5, .int .i64 0, .int .i64 624], .int .i64 0], [], 78⟩
set_option maxRecDepth 1000000 in
theorem m55_ok : m55.ok Tryz.prog { Cfg.none with hk := memoHk 0 (tabM c55) } 100000 0 (St.empty 0) = true := by kernel_rfl
theorem m55_sound : m55.Sound Tryz.prog 0 Cfg.none := memo_plain c55_sound (by kernel_rfl) m55_ok
def c56 : List Memo := m55 :: c55
theorem c56_sound : ∀ m ∈ c56, m.Sound Tryz.prog 0 Cfg.none := sound_cons m55_sound c55_sound
end Go.Proofs.YtkddndlkblhldaaGreat
