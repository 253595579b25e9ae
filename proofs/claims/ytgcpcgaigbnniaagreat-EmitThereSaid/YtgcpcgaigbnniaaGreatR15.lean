/-
  A part of the law's proof over the abstract evaluator. Conditions: those of each theorem, as it states them.
-/
import Derived.Test.YtgcpcgaigbnniaaGreatLayB
set_option linter.all false
/-! Runs of classes. -/
set_option linter.all false
set_option maxRecDepth 1000000
namespace Go.Proofs.YtgcpcgaigbnniaaGreat
open Go.Tw
theorem x_b1p21 : RD (tp2 524288 (exD 0)) [1] 1072 = true := by kernel_rfl
theorem x_b2p112 : RD (tp1 524288 (exD 0)) [1, 2] 1084 = true := by kernel_rfl
theorem x_b2n120 : RD (tn1 (-524288) (exD 0)) [2, 0] 1096 = true := by kernel_rfl
theorem x_b3p0021 : RD (tp0 32768 (exD 1)) [0, 2, 1] 1120 = true := by kernel_rfl
theorem x_b3p1022 : RD (tp1 32768 (exD 1)) [0, 2, 2] 1120 = true := by kernel_rfl
theorem x_b3p2100 : RD (tp2 32768 (exD 1)) [1, 0, 0] 1120 = true := by kernel_rfl
theorem x_b3n0101 : RD (tn0 (-32767) (exD 2)) [1, 0, 1] 1108 = true := by kernel_rfl
theorem x_b3n1102 : RD (tn1 (-32767) (exD 2)) [1, 0, 2] 1108 = true := by kernel_rfl
theorem x_b3n2110 : RD (tn2 (-32767) (exD 2)) [1, 1, 0] 1108 = true := by kernel_rfl
theorem x_b3N111 : RC (tl (-134217728)) [1, 1, 1] (.lit 9223372036854775808) 1084 = true := by kernel_rfl
theorem x_b3Q112 : RD tQ [1, 1, 2] 1108 = true := by kernel_rfl
theorem x_b3M120 : RD tM [1, 2, 0] 1120 = true := by kernel_rfl
end Go.Proofs.YtgcpcgaigbnniaaGreat
