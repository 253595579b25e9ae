/-
  A part of the law's proof over the abstract evaluator. Conditions: those of each theorem, as it states them.
-/
import Derived.Test.YtbkokbjpbbpllaaGreatTreeA
/-! The templates' trees, checked. -/
namespace Go.Proofs.YtbkokbjpbbpllaaGreat
open Go.Tw
noncomputable section
theorem t6_12 : chk c6 39 8 9 (.int .i64 12) (SI 4) [0] 0 sp12 q12 = true := by kernel_rfl
theorem t7_12 : chk c7 40 8 9 (.int .i64 12) (SI 4) [0] 0 sp12 q12 = true := by kernel_rfl
theorem t6_20 : chk c6 39 8 9 (.int .i64 20) (SI 4) [0] 0 sp20 q20 = true := by kernel_rfl
theorem t7_20 : chk c7 40 8 9 (.int .i64 20) (SI 4) [0] 0 sp20 q20 = true := by kernel_rfl
theorem t6_21_o : chk c6 39 8 9 (.int .i64 21) (SI 4) [0, 4] 9 sp21_o q21_o = true := by kernel_rfl
theorem t7_21_o : chk c7 40 8 9 (.int .i64 21) (SI 4) [0, 4] 9 sp21_o q21_o = true := by kernel_rfl
theorem t6_22_8 : chk c6 39 8 9 (.int .i64 22) (.int .i64 8) [0, 4] 0 sp22_8 q22_8 = true := by kernel_rfl
theorem t7_22_8 : chk c7 40 8 9 (.int .i64 22) (.int .i64 8) [0, 4] 0 sp22_8 q22_8 = true := by kernel_rfl
theorem t6_28_0 : chk c6 39 8 9 (.int .i64 28) (SI 4) [0, 1] 0 sp28_0 ((eq (lenS (D 5)) (I 0), true) :: q28_0) = true := by kernel_rfl
theorem t7_28_0 : chk c7 40 8 9 (.int .i64 28) (SI 4) [0, 1] 0 sp28_0 ((eq (lenS (D 5)) (I 0), true) :: q28_0) = true := by kernel_rfl
theorem t6_28_8 : chk c6 39 8 9 (.int .i64 28) (SI 4) [0, 1] 0 sp28_8 ((eq (lenS (D 5)) (I 8), true) :: q28_8) = true := by kernel_rfl
theorem t7_28_8 : chk c7 40 8 9 (.int .i64 28) (SI 4) [0, 1] 0 sp28_8 ((eq (lenS (D 5)) (I 8), true) :: q28_8) = true := by kernel_rfl
theorem t6_30 : chk c6 39 8 9 (.int .i64 30) (SI 4) [0, 5] 0 sp30 q30 = true := by kernel_rfl
theorem t7_30 : chk c7 40 8 9 (.int .i64 30) (SI 4) [0, 5] 0 sp30 q30 = true := by kernel_rfl
end
end Go.Proofs.YtbkokbjpbbpllaaGreat
