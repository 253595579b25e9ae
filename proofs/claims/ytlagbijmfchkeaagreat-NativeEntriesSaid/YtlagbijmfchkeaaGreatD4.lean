/-
  A part of the law's proof over the abstract evaluator. Conditions: those of each theorem, as it states them.
-/
import Derived.Test.YtlagbijmfchkeaaGreatC2
set_option linter.all false
namespace Go.Proofs.YtlagbijmfchkeaaGreat
open Go.Tw Go.Tw.NE
set_option maxRecDepth 1000000
theorem Rd:iR (ja 28) put28c oO [(eq (ae (D 5)) (I 6),true)]=true:=by kernel_rfl
theorem Rc:iR (ja 28) put28c oN [(eq (ae (D 5)) (I 7),true)]=true:=by kernel_rfl
theorem Rb:iR (ja 28) put28c oM [(eq (ae (D 5)) (I 8),true)]=true:=by kernel_rfl
end Go.Proofs.YtlagbijmfchkeaaGreat
