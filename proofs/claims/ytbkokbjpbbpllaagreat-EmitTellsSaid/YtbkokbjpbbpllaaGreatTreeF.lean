/-
  A part of the law's proof over the abstract evaluator. Conditions: those of each theorem, as it states them.
-/
import Derived.Test.YtbkokbjpbbpllaaGreatTreeA
/-! The templates' trees, checked. -/
namespace Go.Proofs.YtbkokbjpbbpllaaGreat
open Go.Tw
noncomputable section
theorem t6_2 : chk c6 39 8 9 (.int .i64 2) (SI 4) [0] 0 sp2 q2 = true := by kernel_rfl
theorem t7_2 : chk c7 40 8 9 (.int .i64 2) (SI 4) [0] 0 sp2 q2 = true := by kernel_rfl
theorem t6_8 : chk c6 39 8 9 (.int .i64 8) (SI 4) [0, 3] 0 sp8 q8 = true := by kernel_rfl
theorem t7_8 : chk c7 40 8 9 (.int .i64 8) (SI 4) [0, 3] 0 sp8 q8 = true := by kernel_rfl
theorem t6_16 : chk c6 39 8 9 (.int .i64 16) (SI 4) [0] 0 sp16 q16 = true := by kernel_rfl
theorem t7_16 : chk c7 40 8 9 (.int .i64 16) (SI 4) [0] 0 sp16 q16 = true := by kernel_rfl
theorem t6_21_4 : chk c6 39 8 9 (.int .i64 21) (.int .i64 4) [0, 4] 0 sp21_4 q21_4 = true := by kernel_rfl
theorem t7_21_4 : chk c7 40 8 9 (.int .i64 21) (.int .i64 4) [0, 4] 0 sp21_4 q21_4 = true := by kernel_rfl
theorem t6_22_4 : chk c6 39 8 9 (.int .i64 22) (.int .i64 4) [0, 4] 0 sp22_4 q22_4 = true := by kernel_rfl
theorem t7_22_4 : chk c7 40 8 9 (.int .i64 22) (.int .i64 4) [0, 4] 0 sp22_4 q22_4 = true := by kernel_rfl
theorem t6_25 : chk c6 39 8 9 (.int .i64 25) (SI 4) [0] 0 sp25 q25 = true := by kernel_rfl
theorem t7_25 : chk c7 40 8 9 (.int .i64 25) (SI 4) [0] 0 sp25 q25 = true := by kernel_rfl
theorem t6_28_4 : chk c6 39 8 9 (.int .i64 28) (SI 4) [0, 1] 0 sp28_4 ((eq (lenS (D 5)) (I 4), true) :: q28_4) = true := by kernel_rfl
theorem t7_28_4 : chk c7 40 8 9 (.int .i64 28) (SI 4) [0, 1] 0 sp28_4 ((eq (lenS (D 5)) (I 4), true) :: q28_4) = true := by kernel_rfl
end
end Go.Proofs.YtbkokbjpbbpllaaGreat
