/-
  A part of the law's proof over the abstract evaluator. Conditions: those of each theorem, as it states them.
-/
import Derived.Test.YtlagbijmfchkeaaGreatB2
set_option linter.all false
namespace Go.Proofs.YtlagbijmfchkeaaGreat.Em
open Go.Tw
noncomputable section
theorem acU:chk c6 39 8 9 (.int .i64 3) (SI 4) [0] 0 sp3 q3=true:=by kernel_rfl
theorem acO:chk c6 39 8 9 (.int .i64 9) (SI 4) [0,3] 0 sp9 q9=true:=by kernel_rfl
theorem X7:chk c6 39 8 9 (.int .i64 17) (SI 4) [0] 0 Yx q17=true:=by kernel_rfl
theorem MK:chk c6 39 8 9 (.int .i64 21) (.int .i64 5) [0,4] 0 Hb q21_5=true:=by kernel_rfl
theorem MD:chk c6 39 8 9 (.int .i64 22) (.int .i64 5) [0,4] 0 G0 q22_5=true:=by kernel_rfl
theorem X0:chk c6 39 8 9 (.int .i64 26) (SI 4) [0] 0 Yq q26=true:=by kernel_rfl
theorem Mu:chk c6 39 8 9 (.int .i64 28) (SI 4) [0,1] 0 GP ((eq (ae (D 5)) (I 5),true)::q28_5)=true:=by kernel_rfl
end
end Go.Proofs.YtlagbijmfchkeaaGreat.Em
