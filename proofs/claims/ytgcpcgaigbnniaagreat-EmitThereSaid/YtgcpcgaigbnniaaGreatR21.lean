/-
  A part of the law's proof over the abstract evaluator. Conditions: those of each theorem, as it states them.
-/
import Derived.Test.YtgcpcgaigbnniaaGreatLayB
set_option linter.all false
/-! Runs of classes. -/
set_option linter.all false
set_option maxRecDepth 1000000
namespace Go.Proofs.YtgcpcgaigbnniaaGreat
open Go.Tw
theorem x_b1n11 : RD (tn1 (-524288) (exD 0)) [1] 1060 = true := by kernel_rfl
theorem x_b2p202 : RD (tp2 524288 (exD 0)) [0, 2] 1108 = true := by kernel_rfl
theorem x_b2n210 : RD (tn2 (-524288) (exD 0)) [1, 0] 1096 = true := by kernel_rfl
theorem x_b3p0111 : RD (tp0 32768 (exD 1)) [1, 1, 1] 1096 = true := by kernel_rfl
theorem x_b3p1112 : RD (tp1 32768 (exD 1)) [1, 1, 2] 1096 = true := by kernel_rfl
theorem x_b3p2120 : RD (tp2 32768 (exD 1)) [1, 2, 0] 1120 = true := by kernel_rfl
theorem x_b3n0121 : RD (tn0 (-32767) (exD 2)) [1, 2, 1] 1108 = true := by kernel_rfl
theorem x_b3n1122 : RD (tn1 (-32767) (exD 2)) [1, 2, 2] 1108 = true := by kernel_rfl
theorem x_b3n2200 : RD (tn2 (-32767) (exD 2)) [2, 0, 0] 1132 = true := by kernel_rfl
theorem x_b3N201 : RC (tl (-134217728)) [2, 0, 1] (.bin .shl .u64 (.bin .add .u64 (.bin .shl .u64 (.bin .add .u64 (.lit 18446743523953737728) (D 2)) (.lit 12)) (.wrap .u64 (D 3))) (.lit 12)) 1108 = true := by kernel_rfl
theorem x_b3Q202 : RD tQ [2, 0, 2] 1132 = true := by kernel_rfl
theorem x_b3M210 : RD tM [2, 1, 0] 1120 = true := by kernel_rfl
end Go.Proofs.YtgcpcgaigbnniaaGreat
