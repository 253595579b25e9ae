/-
  A part of the law's proof over the abstract evaluator. Conditions: those of each theorem, as it states them.
-/
import Derived.Test.YtlagbijmfchkeaaGreatC2
set_option linter.all false
namespace Go.Proofs.YtlagbijmfchkeaaGreat
open Go.Tw Go.Tw.NE
set_option maxRecDepth 1000000
theorem Rj:iR (ja 28) put28c oU [(eq (ae (D 5)) (I 0),true)]=true:=by kernel_rfl
theorem Ri:iR (ja 28) put28c oT [(eq (ae (D 5)) (I 1),true)]=true:=by kernel_rfl
theorem Rh:iR (ja 28) put28c oS [(eq (ae (D 5)) (I 2),true)]=true:=by kernel_rfl
theorem Rg:iR (ja 28) put28c oR [(eq (ae (D 5)) (I 3),true)]=true:=by kernel_rfl
theorem Rf:iR (ja 28) put28c oQ [(eq (ae (D 5)) (I 4),true)]=true:=by kernel_rfl
theorem Re:iR (ja 28) put28c oP [(eq (ae (D 5)) (I 5),true)]=true:=by kernel_rfl
theorem Ra:iR (ja 28) [] put28_o [(lt (ae (D 5)) (I 9),false)]=true:=by kernel_rfl
end Go.Proofs.YtlagbijmfchkeaaGreat
