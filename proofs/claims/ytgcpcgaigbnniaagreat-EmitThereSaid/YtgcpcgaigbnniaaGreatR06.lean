/-
  A part of the law's proof over the abstract evaluator. Conditions: those of each theorem, as it states them.
-/
import Derived.Test.YtgcpcgaigbnniaaGreatLayB
set_option linter.all false
/-! Runs of classes. -/
set_option linter.all false
set_option maxRecDepth 1000000
namespace Go.Proofs.YtgcpcgaigbnniaaGreat
open Go.Tw
theorem x_b0n2 : RD (tn2 (-524288) (exD 0)) [] 1060 = true := by kernel_rfl
theorem x_b2p012 : RD (tp0 524288 (exD 0)) [1, 2] 1096 = true := by kernel_rfl
theorem x_b2n020 : RD (tn0 (-524287) (exD 2)) [2, 0] 1108 = true := by kernel_rfl
theorem x_b2c21 : RD tc [2, 1] 1096 = true := by kernel_rfl
theorem x_b3p0222 : RD (tp0 32768 (exD 1)) [2, 2, 2] 1132 = true := by kernel_rfl
theorem x_b3p2000 : RD (tp2 32768 (exD 1)) [0, 0, 0] 1132 = true := by kernel_rfl
theorem x_b3n0001 : RD (tn0 (-32767) (exD 2)) [0, 0, 1] 1120 = true := by kernel_rfl
theorem x_b3n1002 : RD (tn1 (-32767) (exD 2)) [0, 0, 2] 1120 = true := by kernel_rfl
theorem x_b3n2010 : RD (tn2 (-32767) (exD 2)) [0, 1, 0] 1120 = true := by kernel_rfl
theorem x_b3P011 : RC (tl 134217728) [0, 1, 1] (.bin .shl .u64 (.bin .shl .u64 (.bin .add .u64 (.lit 549755813888) (.wrap .u64 (D 2))) (.lit 12)) (.lit 12)) 1096 = true := by kernel_rfl
theorem x_b3Q012 : RD tQ [0, 1, 2] 1120 = true := by kernel_rfl
theorem x_b3M020 : RD tM [0, 2, 0] 1132 = true := by kernel_rfl
end Go.Proofs.YtgcpcgaigbnniaaGreat
