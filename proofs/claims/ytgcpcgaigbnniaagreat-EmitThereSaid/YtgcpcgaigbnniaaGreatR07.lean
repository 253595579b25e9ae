/-
  A part of the law's proof over the abstract evaluator. Conditions: those of each theorem, as it states them.
-/
import Derived.Test.YtgcpcgaigbnniaaGreatLayB
set_option linter.all false
/-! Runs of classes. -/
set_option linter.all false
set_option maxRecDepth 1000000
namespace Go.Proofs.YtgcpcgaigbnniaaGreat
open Go.Tw
theorem x_b0c : RD tc [] 1060 = true := by kernel_rfl
theorem x_b2p020 : RD (tp0 524288 (exD 0)) [2, 0] 1108 = true := by kernel_rfl
theorem x_b2n021 : RD (tn0 (-524287) (exD 2)) [2, 1] 1096 = true := by kernel_rfl
theorem x_b2c22 : RD tc [2, 2] 1108 = true := by kernel_rfl
theorem x_b3p1000 : RD (tp1 32768 (exD 1)) [0, 0, 0] 1120 = true := by kernel_rfl
theorem x_b3p2001 : RD (tp2 32768 (exD 1)) [0, 0, 1] 1120 = true := by kernel_rfl
theorem x_b3n0002 : RD (tn0 (-32767) (exD 2)) [0, 0, 2] 1132 = true := by kernel_rfl
theorem x_b3n1010 : RD (tn1 (-32767) (exD 2)) [0, 1, 0] 1108 = true := by kernel_rfl
theorem x_b3n2011 : RD (tn2 (-32767) (exD 2)) [0, 1, 1] 1108 = true := by kernel_rfl
theorem x_b3P012 : RC (tl 134217728) [0, 1, 2] (.bin .add .u64 (.bin .shl .u64 (.bin .shl .u64 (.bin .add .u64 (.lit 549755813888) (.wrap .u64 (D 2))) (.lit 12)) (.lit 12)) (D 4)) 1108 = true := by kernel_rfl
theorem x_b3Q020 : RD tQ [0, 2, 0] 1132 = true := by kernel_rfl
theorem x_b3M021 : RD tM [0, 2, 1] 1120 = true := by kernel_rfl
end Go.Proofs.YtgcpcgaigbnniaaGreat
