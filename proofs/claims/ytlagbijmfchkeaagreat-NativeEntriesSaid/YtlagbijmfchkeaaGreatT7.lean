/-
  A part of the law's proof over the abstract evaluator. Conditions: those of each theorem, as it states them.
-/
import Derived.Test.YtlagbijmfchkeaaGreatB2
set_option linter.all false
namespace Go.Proofs.YtlagbijmfchkeaaGreat.Em
open Go.Tw
noncomputable section
theorem acT:chk c6 39 8 9 (.int .i64 4) (SI 4) [0] 0 sp4 q4=true:=by kernel_rfl
theorem Ye:chk c6 39 8 9 (.int .i64 10) (SI 4) [0] 0 YE q10=true:=by kernel_rfl
theorem X6:chk c6 39 8 9 (.int .i64 18) (SI 4) [0] 0 Yw q18=true:=by kernel_rfl
theorem MJ:chk c6 39 8 9 (.int .i64 21) (.int .i64 6) [0,4] 0 Ha q21_6=true:=by kernel_rfl
theorem MC:chk c6 39 8 9 (.int .i64 22) (.int .i64 6) [0,4] 0 GZ q22_6=true:=by kernel_rfl
theorem XZ:chk c6 39 8 9 (.int .i64 27) (SI 4) [0] 0 Yp q27=true:=by kernel_rfl
theorem Mt:chk c6 39 8 9 (.int .i64 28) (SI 4) [0,1] 0 GO ((eq (ae (D 5)) (I 6),true)::q28_6)=true:=by kernel_rfl
end
end Go.Proofs.YtlagbijmfchkeaaGreat.Em
