/-
  Calls whose outcome is known, each shown by the evaluator with the earlier ones at hand; part 4. No condition.
-/
import Derived.Test.YtkddndlkblhldaaGreatCalls3
namespace Go.Proofs.YtkddndlkblhldaaGreat
open Go.Tw

def a57 : List AV := []
def m57 : Memo := ⟨3, a57, .bool true, [], 11781⟩
set_option maxRecDepth 1000000 in
theorem m57_ok : m57.ok Tryz.prog { Cfg.none with hk := memoHk 0 (tabM c57) } 100000 0 (St.empty 0) = true := by kernel_rfl
theorem m57_sound : m57.Sound Tryz.prog 0 Cfg.none := memo_plain c57_sound (by kernel_rfl) m57_ok
end Go.Proofs.YtkddndlkblhldaaGreat
