/-
  A part of the law's proof over the abstract evaluator. Conditions: those of each theorem, as it states them.
-/
import Derived.Test.YtgcpcgaigbnniaaGreatLayB
set_option linter.all false
/-! Runs of classes. -/
set_option linter.all false
set_option maxRecDepth 1000000
namespace Go.Proofs.YtgcpcgaigbnniaaGreat
open Go.Tw
theorem x_b0n1 : RD (tn1 (-524288) (exD 0)) [] 1048 = true := by kernel_rfl
theorem x_b2p011 : RD (tp0 524288 (exD 0)) [1, 1] 1084 = true := by kernel_rfl
theorem x_b2n012 : RD (tn0 (-524287) (exD 2)) [1, 2] 1096 = true := by kernel_rfl
theorem x_b2c20 : RD tc [2, 0] 1108 = true := by kernel_rfl
theorem x_b3p0221 : RD (tp0 32768 (exD 1)) [2, 2, 1] 1120 = true := by kernel_rfl
theorem x_b3p1222 : RD (tp1 32768 (exD 1)) [2, 2, 2] 1120 = true := by kernel_rfl
theorem x_b3n0000 : RD (tn0 (-32767) (exD 2)) [0, 0, 0] 1132 = true := by kernel_rfl
theorem x_b3n1001 : RD (tn1 (-32767) (exD 2)) [0, 0, 1] 1108 = true := by kernel_rfl
theorem x_b3n2002 : RD (tn2 (-32767) (exD 2)) [0, 0, 2] 1132 = true := by kernel_rfl
theorem x_b3P010 : RC (tl 134217728) [0, 1, 0] (.bin .add .u64 (.bin .shl .u64 (.bin .shl .u64 (.bin .add .u64 (.lit 549755813888) (.wrap .u64 (D 2))) (.lit 12)) (.lit 12)) (.wrap .u64 (D 4))) 1108 = true := by kernel_rfl
theorem x_b3Q011 : RD tQ [0, 1, 1] 1108 = true := by kernel_rfl
theorem x_b3M012 : RD tM [0, 1, 2] 1120 = true := by kernel_rfl
end Go.Proofs.YtgcpcgaigbnniaaGreat
