/-
  Calls whose outcome is known, each shown by the evaluator with the earlier ones at hand; part 1. No condition.
-/
import Derived.Test.YtkddndlkblhldaaGreatCalls0
namespace Go.Proofs.YtkddndlkblhldaaGreat
open Go.Tw

def a46 : List AV := [.int .i64 1000, .nils, .int .i64 3, .int .i64 0]
def m46 : Memo := ⟨4, a46, .bool true, [], 1837⟩
set_option maxRecDepth 1000000 in
theorem m46_ok : m46.ok Tryz.prog { Cfg.none with hk := memoHk 0 (tabM c46) } 100000 0 (St.empty 0) = true := by kernel_rfl
theorem m46_sound : m46.Sound Tryz.prog 0 Cfg.none := memo_plain c46_sound (by kernel_rfl) m46_ok
def c47 : List Memo := m46 :: c46
theorem c47_sound : ∀ m ∈ c47, m.Sound Tryz.prog 0 Cfg.none := sound_cons m46_sound c46_sound

def a47 : List AV := [.int .u32 595555]
def m47 : Memo := ⟨143, a47, .tup [.agg [.int .i64 6, .int .i64 0, .int .i64 18, .int .i64 0, .int .i64 12], .int .i64 0], [], 96⟩
set_option maxRecDepth 1000000 in
theorem m47_ok : m47.ok Tryz.prog { Cfg.none with hk := memoHk 0 (tabM c47) } 100000 0 (St.empty 0) = true := by kernel_rfl
theorem m47_sound : m47.Sound Tryz.prog 0 Cfg.none := memo_plain c47_sound (by kernel_rfl) m47_ok
def c48 : List Memo := m47 :: c47
theorem c48_sound : ∀ m ∈ c48, m.Sound Tryz.prog 0 Cfg.none := sound_cons m47_sound c47_sound
end Go.Proofs.YtkddndlkblhldaaGreat
