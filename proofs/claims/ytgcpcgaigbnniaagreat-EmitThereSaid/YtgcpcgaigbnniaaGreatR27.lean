/-
  A part of the law's proof over the abstract evaluator. Conditions: those of each theorem, as it states them.
-/
import Derived.Test.YtgcpcgaigbnniaaGreatLayB
set_option linter.all false
/-! Runs of classes. -/
set_option linter.all false
set_option maxRecDepth 1000000
namespace Go.Proofs.YtgcpcgaigbnniaaGreat
open Go.Tw
theorem x_b1c1 : RD tc [1] 1072 = true := by kernel_rfl
theorem x_b2p222 : RD (tp2 524288 (exD 0)) [2, 2] 1108 = true := by kernel_rfl
theorem x_b2c00 : RD tc [0, 0] 1108 = true := by kernel_rfl
theorem x_b3p0201 : RD (tp0 32768 (exD 1)) [2, 0, 1] 1120 = true := by kernel_rfl
theorem x_b3p1202 : RD (tp1 32768 (exD 1)) [2, 0, 2] 1120 = true := by kernel_rfl
theorem x_b3p2210 : RD (tp2 32768 (exD 1)) [2, 1, 0] 1120 = true := by kernel_rfl
theorem x_b3n0211 : RD (tn0 (-32767) (exD 2)) [2, 1, 1] 1108 = true := by kernel_rfl
theorem x_b3n1212 : RD (tn1 (-32767) (exD 2)) [2, 1, 2] 1108 = true := by kernel_rfl
theorem x_b3n2220 : RD (tn2 (-32767) (exD 2)) [2, 2, 0] 1132 = true := by kernel_rfl
theorem x_b3N221 : RC (tl (-134217728)) [2, 2, 1] (.bin .shl .u64 (.bin .add .u64 (.bin .shl .u64 (.bin .add .u64 (.lit 18446743523953737728) (D 2)) (.lit 12)) (D 3)) (.lit 12)) 1108 = true := by kernel_rfl
theorem x_b3Q222 : RD tQ [2, 2, 2] 1132 = true := by kernel_rfl
theorem x_an : RD (ta (-2048) 0 (.wrap .u64 (D 0))) [] 1048 = true := by kernel_rfl
end Go.Proofs.YtgcpcgaigbnniaaGreat
