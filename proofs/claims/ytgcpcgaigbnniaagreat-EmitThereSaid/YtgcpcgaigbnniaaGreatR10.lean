/-
  A part of the law's proof over the abstract evaluator. Conditions: those of each theorem, as it states them.
-/
import Derived.Test.YtgcpcgaigbnniaaGreatLayB
set_option linter.all false
/-! Runs of classes. -/
set_option linter.all false
set_option maxRecDepth 1000000
namespace Go.Proofs.YtgcpcgaigbnniaaGreat
open Go.Tw
theorem x_b1p02 : RD (tp0 524288 (exD 0)) [2] 1084 = true := by kernel_rfl
theorem x_b2p100 : RD (tp1 524288 (exD 0)) [0, 0] 1096 = true := by kernel_rfl
theorem x_b2n101 : RD (tn1 (-524288) (exD 0)) [0, 1] 1084 = true := by kernel_rfl
theorem x_b3p0002 : RD (tp0 32768 (exD 1)) [0, 0, 2] 1132 = true := by kernel_rfl
theorem x_b3p1010 : RD (tp1 32768 (exD 1)) [0, 1, 0] 1108 = true := by kernel_rfl
theorem x_b3p2011 : RD (tp2 32768 (exD 1)) [0, 1, 1] 1108 = true := by kernel_rfl
theorem x_b3n0012 : RD (tn0 (-32767) (exD 2)) [0, 1, 2] 1120 = true := by kernel_rfl
theorem x_b3n1020 : RD (tn1 (-32767) (exD 2)) [0, 2, 0] 1120 = true := by kernel_rfl
theorem x_b3n2021 : RD (tn2 (-32767) (exD 2)) [0, 2, 1] 1120 = true := by kernel_rfl
theorem x_b3P022 : RC (tl 134217728) [0, 2, 2] (.bin .add .u64 (.bin .shl .u64 (.bin .add .u64 (.bin .shl .u64 (.bin .add .u64 (.lit 549755813888) (.wrap .u64 (D 2))) (.lit 12)) (D 3)) (.lit 12)) (D 4)) 1120 = true := by kernel_rfl
theorem x_b3Q100 : RD tQ [1, 0, 0] 1120 = true := by kernel_rfl
theorem x_b3M101 : RD tM [1, 0, 1] 1108 = true := by kernel_rfl
end Go.Proofs.YtgcpcgaigbnniaaGreat
