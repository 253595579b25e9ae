/-
  A part of the law's proof over the abstract evaluator. Conditions: those of each theorem, as it states them.
-/
import Derived.Test.YtgcpcgaigbnniaaGreatLayB
set_option linter.all false
/-! Runs of classes. -/
set_option linter.all false
set_option maxRecDepth 1000000
namespace Go.Proofs.YtgcpcgaigbnniaaGreat
open Go.Tw
theorem x_b1n00 : RD (tn0 (-524287) (exD 2)) [0] 1084 = true := by kernel_rfl
theorem x_b2p121 : RD (tp1 524288 (exD 0)) [2, 1] 1084 = true := by kernel_rfl
theorem x_b2n122 : RD (tn1 (-524288) (exD 0)) [2, 2] 1096 = true := by kernel_rfl
theorem x_b3p0100 : RD (tp0 32768 (exD 1)) [1, 0, 0] 1120 = true := by kernel_rfl
theorem x_b3p1101 : RD (tp1 32768 (exD 1)) [1, 0, 1] 1096 = true := by kernel_rfl
theorem x_b3p2102 : RD (tp2 32768 (exD 1)) [1, 0, 2] 1120 = true := by kernel_rfl
theorem x_b3n0110 : RD (tn0 (-32767) (exD 2)) [1, 1, 0] 1108 = true := by kernel_rfl
theorem x_b3n1111 : RD (tn1 (-32767) (exD 2)) [1, 1, 1] 1084 = true := by kernel_rfl
theorem x_b3n2112 : RD (tn2 (-32767) (exD 2)) [1, 1, 2] 1108 = true := by kernel_rfl
theorem x_b3N120 : RC (tl (-134217728)) [1, 2, 0] (.bin .add .u64 (.bin .shl .u64 (.bin .add .u64 (.lit 18444492273895866368) (D 3)) (.lit 12)) (.wrap .u64 (D 4))) 1108 = true := by kernel_rfl
theorem x_b3Q121 : RD tQ [1, 2, 1] 1108 = true := by kernel_rfl
theorem x_b3M122 : RD tM [1, 2, 2] 1120 = true := by kernel_rfl
end Go.Proofs.YtgcpcgaigbnniaaGreat
