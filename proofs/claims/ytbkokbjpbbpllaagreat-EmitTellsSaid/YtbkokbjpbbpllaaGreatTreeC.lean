/-
  A part of the law's proof over the abstract evaluator. Conditions: those of each theorem, as it states them.
-/
import Derived.Test.YtbkokbjpbbpllaaGreatTreeA
/-! The templates' trees, checked. -/
namespace Go.Proofs.YtbkokbjpbbpllaaGreat
open Go.Tw
noncomputable section
theorem t6_13 : chk c6 39 8 9 (.int .i64 13) (SI 4) [0] 0 sp13 q13 = true := by kernel_rfl
theorem t7_13 : chk c7 40 8 9 (.int .i64 13) (SI 4) [0] 0 sp13 q13 = true := by kernel_rfl
theorem t6_21_1 : chk c6 39 8 9 (.int .i64 21) (.int .i64 1) [0, 4] 0 sp21_1 q21_1 = true := by kernel_rfl
theorem t7_21_1 : chk c7 40 8 9 (.int .i64 21) (.int .i64 1) [0, 4] 0 sp21_1 q21_1 = true := by kernel_rfl
theorem t6_22_1 : chk c6 39 8 9 (.int .i64 22) (.int .i64 1) [0, 4] 0 sp22_1 q22_1 = true := by kernel_rfl
theorem t7_22_1 : chk c7 40 8 9 (.int .i64 22) (.int .i64 1) [0, 4] 0 sp22_1 q22_1 = true := by kernel_rfl
theorem t6_22_o : chk c6 39 8 9 (.int .i64 22) (SI 4) [0, 4] 10 sp22_o [(eq (D 4) (I 1), false), (eq (D 4) (I 2), false), (eq (D 4) (I 4), false), (eq (D 4) (I 8), false)] = true := by kernel_rfl
theorem t7_22_o : chk c7 40 8 9 (.int .i64 22) (SI 4) [0, 4] 10 sp22_o [(eq (D 4) (I 1), false), (eq (D 4) (I 2), false), (eq (D 4) (I 4), false), (eq (D 4) (I 8), false)] = true := by kernel_rfl
theorem t6_28_1 : chk c6 39 8 9 (.int .i64 28) (SI 4) [0, 1] 0 sp28_1 ((eq (lenS (D 5)) (I 1), true) :: q28_1) = true := by kernel_rfl
theorem t7_28_1 : chk c7 40 8 9 (.int .i64 28) (SI 4) [0, 1] 0 sp28_1 ((eq (lenS (D 5)) (I 1), true) :: q28_1) = true := by kernel_rfl
theorem t6_28_o : chk c6 39 8 9 (.int .i64 28) (SI 4) [0, 1] 0 sp28_o [(lt (lenS (D 5)) (I 9), false)] = true := by kernel_rfl
theorem t7_28_o : chk c7 40 8 9 (.int .i64 28) (SI 4) [0, 1] 0 sp28_o [(lt (lenS (D 5)) (I 9), false)] = true := by kernel_rfl
theorem t6_31 : chk c6 39 8 9 (.int .i64 31) (SI 4) [0, 6] 0 sp31 q31 = true := by kernel_rfl
theorem t7_31 : chk c7 40 8 9 (.int .i64 31) (SI 4) [0, 6] 0 sp31 q31 = true := by kernel_rfl
end
end Go.Proofs.YtbkokbjpbbpllaaGreat
