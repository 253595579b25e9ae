/-
  A part of the law's proof over the abstract evaluator. Conditions: those of each theorem, as it states them.
-/
import Derived.Test.YtgcpcgaigbnniaaGreatLayB
set_option linter.all false
/-! Runs of classes. -/
set_option linter.all false
set_option maxRecDepth 1000000
namespace Go.Proofs.YtgcpcgaigbnniaaGreat
open Go.Tw
theorem x_b1p20 : RD (tp2 524288 (exD 0)) [0] 1084 = true := by kernel_rfl
theorem x_b2p111 : RD (tp1 524288 (exD 0)) [1, 1] 1072 = true := by kernel_rfl
theorem x_b2n112 : RD (tn1 (-524288) (exD 0)) [1, 2] 1084 = true := by kernel_rfl
theorem x_b3p0020 : RD (tp0 32768 (exD 1)) [0, 2, 0] 1132 = true := by kernel_rfl
theorem x_b3p1021 : RD (tp1 32768 (exD 1)) [0, 2, 1] 1108 = true := by kernel_rfl
theorem x_b3p2022 : RD (tp2 32768 (exD 1)) [0, 2, 2] 1132 = true := by kernel_rfl
theorem x_b3n0100 : RD (tn0 (-32767) (exD 2)) [1, 0, 0] 1120 = true := by kernel_rfl
theorem x_b3n1101 : RD (tn1 (-32767) (exD 2)) [1, 0, 1] 1096 = true := by kernel_rfl
theorem x_b3n2102 : RD (tn2 (-32767) (exD 2)) [1, 0, 2] 1120 = true := by kernel_rfl
theorem x_b3P110 : RD tz [] 1162 = true := by kernel_rfl
theorem x_b3Q111 : RD tQ [1, 1, 1] 1096 = true := by kernel_rfl
theorem x_b3M112 : RD tM [1, 1, 2] 1108 = true := by kernel_rfl
end Go.Proofs.YtgcpcgaigbnniaaGreat
