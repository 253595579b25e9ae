/-
  Calls whose outcome is known, each shown by the evaluator with the earlier ones at hand; part 3. No condition.
-/
import Derived.Test.YtalhegeanpaolaaGreatCalls2
namespace Go.Proofs.YtalhegeanpaolaaGreat
open Go.Tw

def a53 : List AV := []
def m53 : Memo := ⟨10, a53, .bool true, [], 7573⟩
set_option maxRecDepth 1000000 in
theorem m53_ok : m53.ok Tryz.prog { Cfg.none with hk := memoHk 0 (tabM c53) } 100000 0 (St.empty 0) = true := by kernel_rfl
theorem m53_sound [Val] : m53.Sound Tryz.prog 0 Cfg.none := memo_plain c53_sound (by kernel_rfl) m53_ok
def c54 : List Memo := m53 :: c53
theorem c54_sound [Val] : ∀ m ∈ c54, m.Sound Tryz.prog 0 Cfg.none := sound_cons m53_sound c53_sound
end Go.Proofs.YtalhegeanpaolaaGreat
