/-
  Calls whose outcome is known, each shown by the evaluator with the earlier ones at hand; part 4. No condition.
-/
import Derived.Test.YtalhegeanpaolaaGreatCalls3
namespace Go.Proofs.YtalhegeanpaolaaGreat
open Go.Tw

def a54 : List AV := [.sym .i64 (.var 0), .sym .i64 (.var 1)]
def m54 : Memo := ⟨3, a54, .bool true, [], 7575⟩
set_option maxRecDepth 1000000 in
theorem m54_ok : m54.ok Tryz.prog { Cfg.none with hk := memoHk 0 (tabM c54) } 100000 0 (St.empty 0) = true := by kernel_rfl
theorem m54_sound [Val] : m54.Sound Tryz.prog 0 Cfg.none := memo_plain c54_sound (by kernel_rfl) m54_ok
end Go.Proofs.YtalhegeanpaolaaGreat
