/-
  A part of the law's proof over the abstract evaluator. Conditions: those of each theorem, as it states them.
-/
import Derived.Test.YtlagbijmfchkeaaGreatB2
set_option linter.all false
namespace Go.Proofs.YtlagbijmfchkeaaGreat.Em
open Go.Tw
noncomputable section
theorem Yc:chk c6 39 8 9 (.int .i64 12) (SI 4) [0] 0 YC q12=true:=by kernel_rfl
theorem X4:chk c6 39 8 9 (.int .i64 20) (SI 4) [0] 0 Yu q20=true:=by kernel_rfl
abbrev RS:AV:=.int .i64 21
theorem CF:chk c6 39 8 9 RS (SI 4) [0,4] 9 G8 YJ=true:=by kernel_rfl
abbrev YI:AV:=.int .i64 22
theorem MA:chk c6 39 8 9 YI (.int .i64 8) [0,4] 0 GX q22_8=true:=by kernel_rfl
abbrev Px:AV:=.int .i64 28
theorem Mz:chk c6 39 8 9 Px (SI 4) [0,1] 0 GV ((eq (ae (D 5)) (I 0),true)::q28_0)=true:=by kernel_rfl
theorem Mr:chk c6 39 8 9 Px (SI 4) [0,1] 0 GM ((eq (ae (D 5)) (I 8),true)::q28_8)=true:=by kernel_rfl
theorem XX:chk c6 39 8 9 (.int .i64 30) (SI 4) [0,5] 0 Yn q30=true:=by kernel_rfl
end
end Go.Proofs.YtlagbijmfchkeaaGreat.Em
