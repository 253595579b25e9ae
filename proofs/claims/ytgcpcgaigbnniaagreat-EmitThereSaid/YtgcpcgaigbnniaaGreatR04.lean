/-
  A part of the law's proof over the abstract evaluator. Conditions: those of each theorem, as it states them.
-/
import Derived.Test.YtgcpcgaigbnniaaGreatLayB
set_option linter.all false
/-! Runs of classes. -/
set_option linter.all false
set_option maxRecDepth 1000000
namespace Go.Proofs.YtgcpcgaigbnniaaGreat
open Go.Tw
theorem x_b0n0 : RD (tn0 (-524287) (exD 2)) [] 1060 = true := by kernel_rfl
theorem x_b2p010 : RD (tp0 524288 (exD 0)) [1, 0] 1096 = true := by kernel_rfl
theorem x_b2n011 : RD (tn0 (-524287) (exD 2)) [1, 1] 1084 = true := by kernel_rfl
theorem x_b2c12 : RD tc [1, 2] 1096 = true := by kernel_rfl
theorem x_b3p0220 : RD (tp0 32768 (exD 1)) [2, 2, 0] 1132 = true := by kernel_rfl
theorem x_b3p1221 : RD (tp1 32768 (exD 1)) [2, 2, 1] 1108 = true := by kernel_rfl
theorem x_b3p2222 : RD (tp2 32768 (exD 1)) [2, 2, 2] 1132 = true := by kernel_rfl
theorem x_b3n1000 : RD (tn1 (-32767) (exD 2)) [0, 0, 0] 1120 = true := by kernel_rfl
theorem x_b3n2001 : RD (tn2 (-32767) (exD 2)) [0, 0, 1] 1120 = true := by kernel_rfl
theorem x_b3P002 : RC (tl 134217728) [0, 0, 2] (.bin .add .u64 (.bin .shl .u64 (.bin .add .u64 (.bin .shl .u64 (.bin .add .u64 (.lit 549755813888) (.wrap .u64 (D 2))) (.lit 12)) (.wrap .u64 (D 3))) (.lit 12)) (D 4)) 1120 = true := by kernel_rfl
theorem x_b3Q010 : RD tQ [0, 1, 0] 1120 = true := by kernel_rfl
theorem x_b3M011 : RD tM [0, 1, 1] 1108 = true := by kernel_rfl
end Go.Proofs.YtgcpcgaigbnniaaGreat
