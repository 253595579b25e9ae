/-
  Calls whose outcome is known, each shown by the evaluator with the earlier ones at hand; part 1. No condition.
-/
import Derived.Test.YtalhegeanpaolaaGreatCalls0
namespace Go.Proofs.YtalhegeanpaolaaGreat
open Go.Tw

def a20 : List AV := [.int .i64 1000, .nils, .int .i64 3, .int .i64 0]
def m20 : Memo := ⟨19, a20, .bool true, [], 1837⟩
set_option maxRecDepth 1000000 in
theorem m20_ok : m20.ok Tryz.prog { Cfg.none with hk := memoHk 0 (tabM c20) } 100000 0 (St.empty 0) = true := by kernel_rfl
theorem m20_sound [Val] : m20.Sound Tryz.prog 0 Cfg.none := memo_plain c20_sound (by kernel_rfl) m20_ok
def c21 : List Memo := m20 :: c20
theorem c21_sound [Val] : ∀ m ∈ c21, m.Sound Tryz.prog 0 Cfg.none := sound_cons m20_sound c20_sound

def a21 : List AV := []
def m21 : Memo := ⟨253, a21, .agg [.fn (.func 294) [] [], .fn (.func 295) [] [], .fn (.func 296) [] [], .fn (.func 310) [] [], .fn (.func 310) [] [], .fn (.func 310) [] [], .fn (.func 310) [] [], .fn (.func 310) [] [], .fn (.func 310) [] [], .fn (.func 310) [] [], .fn (.func 310) [] [], .fn (.func 310) [] [], .fn (.func 310) [] [], .fn (.func 310) [] [], .fn (.func 310) [] [], .fn (.func 310) [] [], .fn (.func 310) [] [], .fn (.func 310) [] [], .fn (.func 310) [] [], .fn (.func 310) [] [], .fn (.func 297) [] [], .fn (.func 298) [] [], .fn (.func 299) [] [], .fn (.func 300) [] [], .fn (.func 301) [] [], .fn (.func 302) [] [], .fn (.func 303) [] [], .fn (.func 304) [] [], .fn (.func 305) [] [], .fn (.func 306) [] [], .fn (.func 307) [] [], .fn (.func 308) [] [], .fn (.func 309) [] []], [], 2⟩
set_option maxRecDepth 1000000 in
theorem m21_ok : m21.ok Tryz.prog { Cfg.none with hk := memoHk 0 (tabM c21) } 100000 0 (St.empty 0) = true := by kernel_rfl
theorem m21_sound [Val] : m21.Sound Tryz.prog 0 Cfg.none := memo_plain c21_sound (by kernel_rfl) m21_ok
def c22 : List Memo := m21 :: c21
theorem c22_sound [Val] : ∀ m ∈ c22, m.Sound Tryz.prog 0 Cfg.none := sound_cons m21_sound c21_sound

def a22 : List AV := [.agg [.int .i64 30, .int .i64 0, .int .i64 0, .int .i64 0, .int .i64 0, .nils], .int .i64 1, .int .i64 0, .int .i64 0]
def m22 : Memo := ⟨174, a22, .tup [.slc 21 5 0 6 none 7, .int .i64 0], [(21, .arr [.int .i64 0, .int .i64 0, .int .i64 6, .int .i64 0, .int .i64 18, .int .i64 0, .int .i64 12, .int .i64 0, .int .i64 0, .int .i64 1, .int .i64 5, .int .i64 0, .int .i64 0, .int .i64 262144, .int .i64 0, .int .i64 0, .int .i64 4, .int .i64 0, .int .i64 5, .int .i64 0, .int .i64 0, .int .i64 0, .int .i64 0, .int .i64 22, .int .i64 18, .int .i64 18, .int .i64 0, .int .i64 (-1), .int .i64 0, .int .i64 0, .int .i64 1, .int .i64 5, .int .i64 0, .int .i64 0, .int .i64 262144, .int .i64 0, .int .i64 0, .int .i64 4, .int .i64 0, .int .i64 5, .int .i64 0, .int .i64 80] 0 7 1 6 208)], 32⟩
set_option maxRecDepth 1000000 in
theorem m22_ok : m22.ok Tryz.prog { Cfg.none with hk := memoHk 0 (tabM c22) } 100000 0 (St.empty 0) = true := by kernel_rfl
theorem m22_sound [Val] : m22.Sound Tryz.prog 0 Cfg.none := memo_plain c22_sound (by kernel_rfl) m22_ok
def c23 : List Memo := m22 :: c22
theorem c23_sound [Val] : ∀ m ∈ c23, m.Sound Tryz.prog 0 Cfg.none := sound_cons m22_sound c22_sound
end Go.Proofs.YtalhegeanpaolaaGreat
