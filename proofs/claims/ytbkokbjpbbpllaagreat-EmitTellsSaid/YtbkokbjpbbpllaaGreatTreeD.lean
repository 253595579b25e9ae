/-
  A part of the law's proof over the abstract evaluator. Conditions: those of each theorem, as it states them.
-/
import Derived.Test.YtbkokbjpbbpllaaGreatTreeA
/-! The templates' trees, checked. -/
namespace Go.Proofs.YtbkokbjpbbpllaaGreat
open Go.Tw
noncomputable section
theorem t6_0 : chk c6 39 8 9 (.int .i64 0) (SI 4) [0] 0 sp0 q0 = true := by kernel_rfl
theorem t7_0 : chk c7 40 8 9 (.int .i64 0) (SI 4) [0] 0 sp0 q0 = true := by kernel_rfl
theorem t6_6 : chk c6 39 8 9 (.int .i64 6) (SI 4) [0, 3] 0 sp6 q6 = true := by kernel_rfl
theorem t7_6 : chk c7 40 8 9 (.int .i64 6) (SI 4) [0, 3] 0 sp6 q6 = true := by kernel_rfl
theorem t6_14 : chk c6 39 8 9 (.int .i64 14) (SI 4) [0] 0 sp14 q14 = true := by kernel_rfl
theorem t7_14 : chk c7 40 8 9 (.int .i64 14) (SI 4) [0] 0 sp14 q14 = true := by kernel_rfl
theorem t6_21_2 : chk c6 39 8 9 (.int .i64 21) (.int .i64 2) [0, 4] 0 sp21_2 q21_2 = true := by kernel_rfl
theorem t7_21_2 : chk c7 40 8 9 (.int .i64 21) (.int .i64 2) [0, 4] 0 sp21_2 q21_2 = true := by kernel_rfl
theorem t6_22_2 : chk c6 39 8 9 (.int .i64 22) (.int .i64 2) [0, 4] 0 sp22_2 q22_2 = true := by kernel_rfl
theorem t7_22_2 : chk c7 40 8 9 (.int .i64 22) (.int .i64 2) [0, 4] 0 sp22_2 q22_2 = true := by kernel_rfl
theorem t6_23 : chk c6 39 8 9 (.int .i64 23) (SI 4) [0] 0 sp23 q23 = true := by kernel_rfl
theorem t7_23 : chk c7 40 8 9 (.int .i64 23) (SI 4) [0] 0 sp23 q23 = true := by kernel_rfl
theorem t6_28_2 : chk c6 39 8 9 (.int .i64 28) (SI 4) [0, 1] 0 sp28_2 ((eq (lenS (D 5)) (I 2), true) :: q28_2) = true := by kernel_rfl
theorem t7_28_2 : chk c7 40 8 9 (.int .i64 28) (SI 4) [0, 1] 0 sp28_2 ((eq (lenS (D 5)) (I 2), true) :: q28_2) = true := by kernel_rfl
theorem t6_32 : chk c6 39 8 9 (.int .i64 32) (SI 4) [0, 7] 0 sp32 q32 = true := by kernel_rfl
theorem t7_32 : chk c7 40 8 9 (.int .i64 32) (SI 4) [0, 7] 0 sp32 q32 = true := by kernel_rfl
end
end Go.Proofs.YtbkokbjpbbpllaaGreat
