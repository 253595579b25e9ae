/-
  Calls whose outcome is known, each shown by the evaluator with the earlier ones at hand; part 3. No condition.
-/
import Derived.Test.YteiebohldacffaaGreatCalls2
namespace Go.Proofs.YteiebohldacffaaGreat
open Go.Tw

def a54 : List AV := []
def m54 : Memo := ⟨3, a54, .bool true, [], 16152⟩
set_option maxRecDepth 1000000 in
theorem m54_ok : m54.ok Tryz.prog { Cfg.none with hk := memoHk 0 (tabM c54) } 100000 0 (St.empty 0) = true := by kernel_rfl
theorem m54_sound : m54.Sound Tryz.prog 0 Cfg.none := memo_plain c54_sound (by kernel_rfl) m54_ok
end Go.Proofs.YteiebohldacffaaGreat
