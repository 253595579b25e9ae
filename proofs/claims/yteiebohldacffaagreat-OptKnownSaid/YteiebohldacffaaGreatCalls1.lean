/-
  Calls whose outcome is known, each shown by the evaluator with the earlier ones at hand; part 1. No condition.
-/
import Derived.Test.YteiebohldacffaaGreatCalls0
namespace Go.Proofs.YteiebohldacffaaGreat
open Go.Tw

def a36 : List AV := []
def m36 : Memo := ⟨5, a36, .bool true, [], 10079⟩
set_option maxRecDepth 1000000 in
theorem m36_ok : m36.ok Tryz.prog { Cfg.none with hk := memoHk 0 (tabM c36) } 100000 0 (St.empty 0) = true := by kernel_rfl
theorem m36_sound : m36.Sound Tryz.prog 0 Cfg.none := memo_plain c36_sound (by kernel_rfl) m36_ok
def c37 : List Memo := m36 :: c36
theorem c37_sound : ∀ m ∈ c37, m.Sound Tryz.prog 0 Cfg.none := sound_cons m36_sound c36_sound
end Go.Proofs.YteiebohldacffaaGreat
