/-
  A part of the law's proof over the abstract evaluator. Conditions: those of each theorem, as it states them.
-/
import Derived.Test.YtlagbijmfchkeaaGreatB2
set_option linter.all false
namespace Go.Proofs.YtlagbijmfchkeaaGreat.Em
open Go.Tw
noncomputable section
theorem acS:chk c6 39 8 9 (.int .i64 5) (SI 4) [0] 0 sp5 q5=true:=by kernel_rfl
theorem Yd:chk c6 39 8 9 (.int .i64 11) (SI 4) [0] 0 YD q11=true:=by kernel_rfl
theorem X5:chk c6 39 8 9 (.int .i64 19) (SI 4) [0] 0 Yv q19=true:=by kernel_rfl
theorem MI:chk c6 39 8 9 (.int .i64 21) (.int .i64 7) [0,4] 0 G9 q21_7=true:=by kernel_rfl
theorem MB:chk c6 39 8 9 (.int .i64 22) (.int .i64 7) [0,4] 0 GY q22_7=true:=by kernel_rfl
theorem Ms:chk c6 39 8 9 (.int .i64 28) (SI 4) [0,1] 0 GN ((eq (ae (D 5)) (I 7),true)::q28_7)=true:=by kernel_rfl
theorem XY:chk c6 39 8 9 (.int .i64 29) (SI 4) [0,2] 0 Yo q29=true:=by kernel_rfl
end
end Go.Proofs.YtlagbijmfchkeaaGreat.Em
