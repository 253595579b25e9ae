/-
  A part of the law's proof over the abstract evaluator. Conditions: those of each theorem, as it states them.
-/
import Derived.Test.YtgcpcgaigbnniaaGreatLayB
set_option linter.all false
/-! Runs of classes. -/
set_option linter.all false
set_option maxRecDepth 1000000
namespace Go.Proofs.YtgcpcgaigbnniaaGreat
open Go.Tw
theorem x_b1n01 : RD (tn0 (-524287) (exD 2)) [1] 1072 = true := by kernel_rfl
theorem x_b2p122 : RD (tp1 524288 (exD 0)) [2, 2] 1096 = true := by kernel_rfl
theorem x_b2n200 : RD (tn2 (-524288) (exD 0)) [0, 0] 1108 = true := by kernel_rfl
theorem x_b3p0101 : RD (tp0 32768 (exD 1)) [1, 0, 1] 1108 = true := by kernel_rfl
theorem x_b3p1102 : RD (tp1 32768 (exD 1)) [1, 0, 2] 1108 = true := by kernel_rfl
theorem x_b3p2110 : RD (tp2 32768 (exD 1)) [1, 1, 0] 1108 = true := by kernel_rfl
theorem x_b3n0111 : RD (tn0 (-32767) (exD 2)) [1, 1, 1] 1096 = true := by kernel_rfl
theorem x_b3n1112 : RD (tn1 (-32767) (exD 2)) [1, 1, 2] 1096 = true := by kernel_rfl
theorem x_b3n2120 : RD (tn2 (-32767) (exD 2)) [1, 2, 0] 1120 = true := by kernel_rfl
theorem x_b3N121 : RC (tl (-134217728)) [1, 2, 1] (.bin .shl .u64 (.bin .add .u64 (.lit 18444492273895866368) (D 3)) (.lit 12)) 1096 = true := by kernel_rfl
theorem x_b3Q122 : RD tQ [1, 2, 2] 1120 = true := by kernel_rfl
theorem x_b3M200 : RD tM [2, 0, 0] 1132 = true := by kernel_rfl
end Go.Proofs.YtgcpcgaigbnniaaGreat
