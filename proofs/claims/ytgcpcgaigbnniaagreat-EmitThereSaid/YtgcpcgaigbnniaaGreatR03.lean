/-
  A part of the law's proof over the abstract evaluator. Conditions: those of each theorem, as it states them.
-/
import Derived.Test.YtgcpcgaigbnniaaGreatLayB
set_option linter.all false
/-! Runs of classes. -/
set_option linter.all false
set_option maxRecDepth 1000000
namespace Go.Proofs.YtgcpcgaigbnniaaGreat
open Go.Tw
theorem x_b0p2 : RD (tp2 524288 (exD 0)) [] 1060 = true := by kernel_rfl
theorem x_b2p002 : RD (tp0 524288 (exD 0)) [0, 2] 1108 = true := by kernel_rfl
theorem x_b2n010 : RD (tn0 (-524287) (exD 2)) [1, 0] 1096 = true := by kernel_rfl
theorem x_b2c11 : RD tc [1, 1] 1084 = true := by kernel_rfl
theorem x_b3p0212 : RD (tp0 32768 (exD 1)) [2, 1, 2] 1120 = true := by kernel_rfl
theorem x_b3p1220 : RD (tp1 32768 (exD 1)) [2, 2, 0] 1120 = true := by kernel_rfl
theorem x_b3p2221 : RD (tp2 32768 (exD 1)) [2, 2, 1] 1120 = true := by kernel_rfl
theorem x_b3n0222 : RD (tn0 (-32767) (exD 2)) [2, 2, 2] 1132 = true := by kernel_rfl
theorem x_b3n2000 : RD (tn2 (-32767) (exD 2)) [0, 0, 0] 1132 = true := by kernel_rfl
theorem x_b3P001 : RC (tl 134217728) [0, 0, 1] (.bin .shl .u64 (.bin .add .u64 (.bin .shl .u64 (.bin .add .u64 (.lit 549755813888) (.wrap .u64 (D 2))) (.lit 12)) (.wrap .u64 (D 3))) (.lit 12)) 1108 = true := by kernel_rfl
theorem x_b3Q002 : RD tQ [0, 0, 2] 1132 = true := by kernel_rfl
theorem x_b3M010 : RD tM [0, 1, 0] 1120 = true := by kernel_rfl
end Go.Proofs.YtgcpcgaigbnniaaGreat
