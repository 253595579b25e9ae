/-
  A part of the law's proof over the abstract evaluator. Conditions: those of each theorem, as it states them.
-/
import Derived.Test.YtlagbijmfchkeaaGreatB2
set_option linter.all false
namespace Go.Proofs.YtlagbijmfchkeaaGreat.Em
open Go.Tw
noncomputable section
theorem acV:chk c6 39 8 9 (.int .i64 2) (SI 4) [0] 0 sp2 q2=true:=by kernel_rfl
theorem acP:chk c6 39 8 9 (.int .i64 8) (SI 4) [0,3] 0 sp8 q8=true:=by kernel_rfl
theorem X8:chk c6 39 8 9 (.int .i64 16) (SI 4) [0] 0 Yy q16=true:=by kernel_rfl
theorem ML:chk c6 39 8 9 (.int .i64 21) (.int .i64 4) [0,4] 0 Hc q21_4=true:=by kernel_rfl
theorem ME:chk c6 39 8 9 (.int .i64 22) (.int .i64 4) [0,4] 0 G4 q22_4=true:=by kernel_rfl
theorem X1:chk c6 39 8 9 (.int .i64 25) (SI 4) [0] 0 Yr q25=true:=by kernel_rfl
theorem Mv:chk c6 39 8 9 (.int .i64 28) (SI 4) [0,1] 0 GQ ((eq (ae (D 5)) (I 4),true)::q28_4)=true:=by kernel_rfl
end
end Go.Proofs.YtlagbijmfchkeaaGreat.Em
