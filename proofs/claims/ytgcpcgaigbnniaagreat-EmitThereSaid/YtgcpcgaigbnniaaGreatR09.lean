/-
  A part of the law's proof over the abstract evaluator. Conditions: those of each theorem, as it states them.
-/
import Derived.Test.YtgcpcgaigbnniaaGreatLayB
set_option linter.all false
/-! Runs of classes. -/
set_option linter.all false
set_option maxRecDepth 1000000
namespace Go.Proofs.YtgcpcgaigbnniaaGreat
open Go.Tw
theorem x_b1p01 : RD (tp0 524288 (exD 0)) [1] 1072 = true := by kernel_rfl
theorem x_b2p022 : RD (tp0 524288 (exD 0)) [2, 2] 1108 = true := by kernel_rfl
theorem x_b2n100 : RD (tn1 (-524288) (exD 0)) [0, 0] 1096 = true := by kernel_rfl
theorem x_b3p0001 : RD (tp0 32768 (exD 1)) [0, 0, 1] 1120 = true := by kernel_rfl
theorem x_b3p1002 : RD (tp1 32768 (exD 1)) [0, 0, 2] 1120 = true := by kernel_rfl
theorem x_b3p2010 : RD (tp2 32768 (exD 1)) [0, 1, 0] 1120 = true := by kernel_rfl
theorem x_b3n0011 : RD (tn0 (-32767) (exD 2)) [0, 1, 1] 1108 = true := by kernel_rfl
theorem x_b3n1012 : RD (tn1 (-32767) (exD 2)) [0, 1, 2] 1108 = true := by kernel_rfl
theorem x_b3n2020 : RD (tn2 (-32767) (exD 2)) [0, 2, 0] 1132 = true := by kernel_rfl
theorem x_b3P021 : RC (tl 134217728) [0, 2, 1] (.bin .shl .u64 (.bin .add .u64 (.bin .shl .u64 (.bin .add .u64 (.lit 549755813888) (.wrap .u64 (D 2))) (.lit 12)) (D 3)) (.lit 12)) 1108 = true := by kernel_rfl
theorem x_b3Q022 : RD tQ [0, 2, 2] 1132 = true := by kernel_rfl
theorem x_b3M100 : RD tM [1, 0, 0] 1120 = true := by kernel_rfl
end Go.Proofs.YtgcpcgaigbnniaaGreat
