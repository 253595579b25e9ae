/-
  Calls whose outcome is known, each shown by the evaluator with the earlier ones at hand. No condition.
-/
import Derived.Test.YtfifebennpenkaaTwGroup
import Derived.Test.YtfifebennpenkaaChecked
namespace Go.Proofs.Ytfifebennpenkaa
open Go.Tw
def k0 : List Memo := []
theorem k0_sound [Val] : ∀ m ∈ k0, m.Sound Try.prog 0 Cfg.none := sound_nil

def a0 : List AV := []
def m0 : Memo := ⟨9, a0, .bool true, [], 36⟩
set_option maxRecDepth 1000000 in
theorem m0_ok : m0.ok Try.prog { Cfg.none with hk := memoHk 0 (tabM k0) } 100000 0 (St.empty 0) = true := by kernel_rfl
theorem m0_sound [Val] : m0.Sound Try.prog 0 Cfg.none := memo_plain k0_sound (by kernel_rfl) m0_ok
def k1 : List Memo := m0 :: k0
theorem k1_sound [Val] : ∀ m ∈ k1, m.Sound Try.prog 0 Cfg.none := sound_cons m0_sound k0_sound
end Go.Proofs.Ytfifebennpenkaa
