/-
  Calls whose outcome is known, each shown by the evaluator with the earlier ones at hand; part 3. No condition.
-/
import Derived.Test.YtkddndlkblhldaaGreatCalls2
namespace Go.Proofs.YtkddndlkblhldaaGreat
open Go.Tw

def a56 : List AV := []
def m56 : Memo := ⟨5, a56, .bool true, [], 7573⟩
set_option maxRecDepth 1000000 in
theorem m56_ok : m56.ok Tryz.prog { Cfg.none with hk := memoHk 0 (tabM c56) } 100000 0 (St.empty 0) = true := by kernel_rfl
theorem m56_sound : m56.Sound Tryz.prog 0 Cfg.none := memo_plain c56_sound (by kernel_rfl) m56_ok
def c57 : List Memo := m56 :: c56
theorem c57_sound : ∀ m ∈ c57, m.Sound Tryz.prog 0 Cfg.none := sound_cons m56_sound c56_sound
end Go.Proofs.YtkddndlkblhldaaGreat
