/-
  A part of the law's proof over the abstract evaluator. Conditions: those of each theorem, as it states them.
-/
import Derived.Test.YtlagbijmfchkeaaGreatB2
set_option linter.all false
namespace Go.Proofs.YtlagbijmfchkeaaGreat.Em
open Go.Tw
noncomputable section
theorem acX:chk c6 39 8 9 (.int .i64 0) (SI 4) [0] 0 sp0 q0=true:=by kernel_rfl
theorem acR:chk c6 39 8 9 (.int .i64 6) (SI 4) [0,3] 0 sp6 q6=true:=by kernel_rfl
theorem Ya:chk c6 39 8 9 (.int .i64 14) (SI 4) [0] 0 YA q14=true:=by kernel_rfl
theorem MN:chk c6 39 8 9 (.int .i64 21) (.int .i64 2) [0,4] 0 He q21_2=true:=by kernel_rfl
theorem MG:chk c6 39 8 9 (.int .i64 22) (.int .i64 2) [0,4] 0 G6 q22_2=true:=by kernel_rfl
theorem X3:chk c6 39 8 9 (.int .i64 23) (SI 4) [0] 0 Yt q23=true:=by kernel_rfl
theorem Mx:chk c6 39 8 9 (.int .i64 28) (SI 4) [0,1] 0 GS ((eq (ae (D 5)) (I 2),true)::q28_2)=true:=by kernel_rfl
theorem XV:chk c6 39 8 9 (.int .i64 32) (SI 4) [0,7] 0 Yl q32=true:=by kernel_rfl
end
end Go.Proofs.YtlagbijmfchkeaaGreat.Em
