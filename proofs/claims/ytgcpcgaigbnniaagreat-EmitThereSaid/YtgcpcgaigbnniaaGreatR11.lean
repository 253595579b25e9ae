/-
  A part of the law's proof over the abstract evaluator. Conditions: those of each theorem, as it states them.
-/
import Derived.Test.YtgcpcgaigbnniaaGreatLayB
set_option linter.all false
/-! Runs of classes. -/
set_option linter.all false
set_option maxRecDepth 1000000
namespace Go.Proofs.YtgcpcgaigbnniaaGreat
open Go.Tw
theorem x_b1p10 : RD (tp1 524288 (exD 0)) [0] 1072 = true := by kernel_rfl
theorem x_b2p101 : RD (tp1 524288 (exD 0)) [0, 1] 1084 = true := by kernel_rfl
theorem x_b2n102 : RD (tn1 (-524288) (exD 0)) [0, 2] 1096 = true := by kernel_rfl
theorem x_b3p0010 : RD (tp0 32768 (exD 1)) [0, 1, 0] 1120 = true := by kernel_rfl
theorem x_b3p1011 : RD (tp1 32768 (exD 1)) [0, 1, 1] 1096 = true := by kernel_rfl
theorem x_b3p2012 : RD (tp2 32768 (exD 1)) [0, 1, 2] 1120 = true := by kernel_rfl
theorem x_b3n0020 : RD (tn0 (-32767) (exD 2)) [0, 2, 0] 1132 = true := by kernel_rfl
theorem x_b3n1021 : RD (tn1 (-32767) (exD 2)) [0, 2, 1] 1108 = true := by kernel_rfl
theorem x_b3n2022 : RD (tn2 (-32767) (exD 2)) [0, 2, 2] 1132 = true := by kernel_rfl
theorem x_b3P100 : RC (tl 134217728) [1, 0, 0] (.bin .add .u64 (.bin .shl .u64 (.bin .add .u64 (.lit 2251799813685248) (.wrap .u64 (D 3))) (.lit 12)) (.wrap .u64 (D 4))) 1108 = true := by kernel_rfl
theorem x_b3Q101 : RD tQ [1, 0, 1] 1108 = true := by kernel_rfl
theorem x_b3M102 : RD tM [1, 0, 2] 1120 = true := by kernel_rfl
end Go.Proofs.YtgcpcgaigbnniaaGreat
