/-
  A part of the law's proof over the abstract evaluator. Conditions: those of each theorem, as it states them.
-/
import Derived.Test.YtlagbijmfchkeaaGreatB2
set_option linter.all false
namespace Go.Proofs.YtlagbijmfchkeaaGreat.Em
open Go.Tw
noncomputable section
theorem Yb:chk c6 39 8 9 (.int .i64 13) (SI 4) [0] 0 YB q13=true:=by kernel_rfl
theorem MO:chk c6 39 8 9 (.int .i64 21) (.int .i64 1) [0,4] 0 Hf q21_1=true:=by kernel_rfl
theorem MH:chk c6 39 8 9 (.int .i64 22) (.int .i64 1) [0,4] 0 G7 q22_1=true:=by kernel_rfl
theorem CE:chk c6 39 8 9 (.int .i64 22) (SI 4) [0,4] 10 GW [(eq (D 4) (I 1),false),(eq (D 4) (I 2),false),(eq (D 4) (I 4),false),(eq (D 4) (I 8),false)]=true:=by kernel_rfl
theorem My:chk c6 39 8 9 (.int .i64 28) (SI 4) [0,1] 0 GU ((eq (ae (D 5)) (I 1),true)::q28_1)=true:=by kernel_rfl
theorem Mq:chk c6 39 8 9 (.int .i64 28) (SI 4) [0,1] 0 GL [(lt (ae (D 5)) (I 9),false)]=true:=by kernel_rfl
theorem XW:chk c6 39 8 9 (.int .i64 31) (SI 4) [0,6] 0 Ym q31=true:=by kernel_rfl
end
end Go.Proofs.YtlagbijmfchkeaaGreat.Em
