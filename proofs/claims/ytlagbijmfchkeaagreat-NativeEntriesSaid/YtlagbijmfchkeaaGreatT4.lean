/-
  A part of the law's proof over the abstract evaluator. Conditions: those of each theorem, as it states them.
-/
import Derived.Test.YtlagbijmfchkeaaGreatB2
set_option linter.all false
namespace Go.Proofs.YtlagbijmfchkeaaGreat.Em
open Go.Tw
noncomputable section
theorem acW:chk c6 39 8 9 (.int .i64 1) (SI 4) [0] 0 sp1 q1=true:=by kernel_rfl
theorem acQ:chk c6 39 8 9 (.int .i64 7) (SI 4) [0,3] 0 sp7 q7=true:=by kernel_rfl
theorem X9:chk c6 39 8 9 (.int .i64 15) (SI 4) [0] 0 Yz q15=true:=by kernel_rfl
theorem MM:chk c6 39 8 9 (.int .i64 21) (.int .i64 3) [0,4] 0 Hd q21_3=true:=by kernel_rfl
theorem MF:chk c6 39 8 9 (.int .i64 22) (.int .i64 3) [0,4] 0 G5 q22_3=true:=by kernel_rfl
theorem X2:chk c6 39 8 9 (.int .i64 24) (SI 4) [0] 0 Ys q24=true:=by kernel_rfl
theorem Mw:chk c6 39 8 9 (.int .i64 28) (SI 4) [0,1] 0 GR ((eq (ae (D 5)) (I 3),true)::q28_3)=true:=by kernel_rfl
theorem Ps:chk c6 39 8 9 (SI 0) (SI 4) [0] 8 Yk q33=true:=by kernel_rfl
end
end Go.Proofs.YtlagbijmfchkeaaGreat.Em
