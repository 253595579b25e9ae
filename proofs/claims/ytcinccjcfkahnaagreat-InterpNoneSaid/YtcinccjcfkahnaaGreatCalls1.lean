/-
  Calls whose outcome is known, each shown by the evaluator with the earlier ones at hand; part 1. No condition.
-/
import Derived.Test.YtcinccjcfkahnaaGreatCalls0
namespace Go.Proofs.YtcinccjcfkahnaaGreat
open Go.Tw

def a34 : List AV := []
def m34 : Memo := ⟨13, a34, .bool true, [], 4452⟩
set_option maxRecDepth 1000000 in
theorem m34_ok : m34.ok Tryz.prog { Cfg.none with hk := memoHk 0 (tabM c34) } 100000 0 (St.empty 0) = true := by kernel_rfl
theorem m34_sound [Val] : m34.Sound Tryz.prog 0 Cfg.none := memo_plain c34_sound (by kernel_rfl) m34_ok
def c35 : List Memo := m34 :: c34
theorem c35_sound [Val] : ∀ m ∈ c35, m.Sound Tryz.prog 0 Cfg.none := sound_cons m34_sound c34_sound
end Go.Proofs.YtcinccjcfkahnaaGreat
