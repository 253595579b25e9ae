/-
  A part of the law's proof over the abstract evaluator. Conditions: those of each theorem, as it states them.
-/
import Derived.Test.YtgcpcgaigbnniaaGreatLayB
set_option linter.all false
/-! Runs of classes. -/
set_option linter.all false
set_option maxRecDepth 1000000
namespace Go.Proofs.YtgcpcgaigbnniaaGreat
open Go.Tw
theorem x_b1p11 : RD (tp1 524288 (exD 0)) [1] 1060 = true := by kernel_rfl
theorem x_b2p102 : RD (tp1 524288 (exD 0)) [0, 2] 1096 = true := by kernel_rfl
theorem x_b2n110 : RD (tn1 (-524288) (exD 0)) [1, 0] 1084 = true := by kernel_rfl
theorem x_b3p0011 : RD (tp0 32768 (exD 1)) [0, 1, 1] 1108 = true := by kernel_rfl
theorem x_b3p1012 : RD (tp1 32768 (exD 1)) [0, 1, 2] 1108 = true := by kernel_rfl
theorem x_b3p2020 : RD (tp2 32768 (exD 1)) [0, 2, 0] 1132 = true := by kernel_rfl
theorem x_b3n0021 : RD (tn0 (-32767) (exD 2)) [0, 2, 1] 1120 = true := by kernel_rfl
theorem x_b3n1022 : RD (tn1 (-32767) (exD 2)) [0, 2, 2] 1120 = true := by kernel_rfl
theorem x_b3n2100 : RD (tn2 (-32767) (exD 2)) [1, 0, 0] 1120 = true := by kernel_rfl
theorem x_b3P101 : RC (tl 134217728) [1, 0, 1] (.bin .shl .u64 (.bin .add .u64 (.lit 2251799813685248) (.wrap .u64 (D 3))) (.lit 12)) 1096 = true := by kernel_rfl
theorem x_b3Q102 : RD tQ [1, 0, 2] 1120 = true := by kernel_rfl
theorem x_b3M110 : RD tM [1, 1, 0] 1108 = true := by kernel_rfl
end Go.Proofs.YtgcpcgaigbnniaaGreat
