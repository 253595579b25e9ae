/-
  A part of the law's proof over the abstract evaluator. Conditions: those of each theorem, as it states them.
-/
import Derived.Test.YtgcpcgaigbnniaaGreatLayB
set_option linter.all false
/-! Runs of classes. -/
set_option linter.all false
set_option maxRecDepth 1000000
namespace Go.Proofs.YtgcpcgaigbnniaaGreat
open Go.Tw
theorem x_ap : RD (ta 0 2048 (D 0)) [] 1048 = true := by kernel_rfl
theorem x_b1c2 : RD tc [2] 1084 = true := by kernel_rfl
theorem x_b2n000 : RD (tn0 (-524287) (exD 2)) [0, 0] 1108 = true := by kernel_rfl
theorem x_b2c01 : RD tc [0, 1] 1096 = true := by kernel_rfl
theorem x_b3p0202 : RD (tp0 32768 (exD 1)) [2, 0, 2] 1132 = true := by kernel_rfl
theorem x_b3p1210 : RD (tp1 32768 (exD 1)) [2, 1, 0] 1108 = true := by kernel_rfl
theorem x_b3p2211 : RD (tp2 32768 (exD 1)) [2, 1, 1] 1108 = true := by kernel_rfl
theorem x_b3n0212 : RD (tn0 (-32767) (exD 2)) [2, 1, 2] 1120 = true := by kernel_rfl
theorem x_b3n1220 : RD (tn1 (-32767) (exD 2)) [2, 2, 0] 1120 = true := by kernel_rfl
theorem x_b3n2221 : RD (tn2 (-32767) (exD 2)) [2, 2, 1] 1120 = true := by kernel_rfl
theorem x_b3N222 : RC (tl (-134217728)) [2, 2, 2] (.bin .add .u64 (.bin .shl .u64 (.bin .add .u64 (.bin .shl .u64 (.bin .add .u64 (.lit 18446743523953737728) (D 2)) (.lit 12)) (D 3)) (.lit 12)) (D 4)) 1120 = true := by kernel_rfl
theorem x_b3M000 : RD tM [0, 0, 0] 1132 = true := by kernel_rfl
end Go.Proofs.YtgcpcgaigbnniaaGreat
