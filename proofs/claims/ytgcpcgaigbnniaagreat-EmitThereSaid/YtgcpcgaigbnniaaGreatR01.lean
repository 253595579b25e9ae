/-
  A part of the law's proof over the abstract evaluator. Conditions: those of each theorem, as it states them.
-/
import Derived.Test.YtgcpcgaigbnniaaGreatLayB
set_option linter.all false
/-! Runs of classes. -/
set_option linter.all false
set_option maxRecDepth 1000000
namespace Go.Proofs.YtgcpcgaigbnniaaGreat
open Go.Tw
theorem x_b0p0 : RD (tp0 524288 (exD 0)) [] 1060 = true := by kernel_rfl
theorem x_b2p000 : RD (tp0 524288 (exD 0)) [0, 0] 1108 = true := by kernel_rfl
theorem x_b2n001 : RD (tn0 (-524287) (exD 2)) [0, 1] 1096 = true := by kernel_rfl
theorem x_b2c02 : RD tc [0, 2] 1108 = true := by kernel_rfl
theorem x_b3p0210 : RD (tp0 32768 (exD 1)) [2, 1, 0] 1120 = true := by kernel_rfl
theorem x_b3p1211 : RD (tp1 32768 (exD 1)) [2, 1, 1] 1096 = true := by kernel_rfl
theorem x_b3p2212 : RD (tp2 32768 (exD 1)) [2, 1, 2] 1120 = true := by kernel_rfl
theorem x_b3n0220 : RD (tn0 (-32767) (exD 2)) [2, 2, 0] 1132 = true := by kernel_rfl
theorem x_b3n1221 : RD (tn1 (-32767) (exD 2)) [2, 2, 1] 1108 = true := by kernel_rfl
theorem x_b3n2222 : RD (tn2 (-32767) (exD 2)) [2, 2, 2] 1132 = true := by kernel_rfl
theorem x_b3Q000 : RD tQ [0, 0, 0] 1132 = true := by kernel_rfl
theorem x_b3M001 : RD tM [0, 0, 1] 1120 = true := by kernel_rfl
end Go.Proofs.YtgcpcgaigbnniaaGreat
