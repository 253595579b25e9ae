/-
  Calls whose outcome is known, each shown by the evaluator with the earlier ones at hand; part 2. No condition.
-/
import Derived.Test.YtcinccjcfkahnaaGreatCalls1
namespace Go.Proofs.YtcinccjcfkahnaaGreat
open Go.Tw

def a35 : List AV := [.sym .i64 (.var 0), .sym .i64 (.var 1), .sym .i64 (.var 2)]
def m35 : Memo := ⟨3, a35, .bool true, [], 6113⟩
set_option maxRecDepth 1000000 in
theorem m35_ok : m35.ok Tryz.prog { Cfg.none with hk := memoHk 0 (tabM c35) } 100000 0 (St.empty 0) = true := by kernel_rfl
theorem m35_sound [Val] : m35.Sound Tryz.prog 0 Cfg.none := memo_plain c35_sound (by kernel_rfl) m35_ok
end Go.Proofs.YtcinccjcfkahnaaGreat
