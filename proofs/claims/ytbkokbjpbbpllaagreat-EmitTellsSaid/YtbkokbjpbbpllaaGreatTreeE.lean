/-
  A part of the law's proof over the abstract evaluator. Conditions: those of each theorem, as it states them.
-/
import Derived.Test.YtbkokbjpbbpllaaGreatTreeA
/-! The templates' trees, checked. -/
namespace Go.Proofs.YtbkokbjpbbpllaaGreat
open Go.Tw
noncomputable section
theorem t6_1 : chk c6 39 8 9 (.int .i64 1) (SI 4) [0] 0 sp1 q1 = true := by kernel_rfl
theorem t7_1 : chk c7 40 8 9 (.int .i64 1) (SI 4) [0] 0 sp1 q1 = true := by kernel_rfl
theorem t6_7 : chk c6 39 8 9 (.int .i64 7) (SI 4) [0, 3] 0 sp7 q7 = true := by kernel_rfl
theorem t7_7 : chk c7 40 8 9 (.int .i64 7) (SI 4) [0, 3] 0 sp7 q7 = true := by kernel_rfl
theorem t6_15 : chk c6 39 8 9 (.int .i64 15) (SI 4) [0] 0 sp15 q15 = true := by kernel_rfl
theorem t7_15 : chk c7 40 8 9 (.int .i64 15) (SI 4) [0] 0 sp15 q15 = true := by kernel_rfl
theorem t6_21_3 : chk c6 39 8 9 (.int .i64 21) (.int .i64 3) [0, 4] 0 sp21_3 q21_3 = true := by kernel_rfl
theorem t7_21_3 : chk c7 40 8 9 (.int .i64 21) (.int .i64 3) [0, 4] 0 sp21_3 q21_3 = true := by kernel_rfl
theorem t6_22_3 : chk c6 39 8 9 (.int .i64 22) (.int .i64 3) [0, 4] 0 sp22_3 q22_3 = true := by kernel_rfl
theorem t7_22_3 : chk c7 40 8 9 (.int .i64 22) (.int .i64 3) [0, 4] 0 sp22_3 q22_3 = true := by kernel_rfl
theorem t6_24 : chk c6 39 8 9 (.int .i64 24) (SI 4) [0] 0 sp24 q24 = true := by kernel_rfl
theorem t7_24 : chk c7 40 8 9 (.int .i64 24) (SI 4) [0] 0 sp24 q24 = true := by kernel_rfl
theorem t6_28_3 : chk c6 39 8 9 (.int .i64 28) (SI 4) [0, 1] 0 sp28_3 ((eq (lenS (D 5)) (I 3), true) :: q28_3) = true := by kernel_rfl
theorem t7_28_3 : chk c7 40 8 9 (.int .i64 28) (SI 4) [0, 1] 0 sp28_3 ((eq (lenS (D 5)) (I 3), true) :: q28_3) = true := by kernel_rfl
theorem t6_33 : chk c6 39 8 9 (SI 0) (SI 4) [0] 8 sp33 q33 = true := by kernel_rfl
theorem t7_33 : chk c7 40 8 9 (SI 0) (SI 4) [0] 8 sp33 q33 = true := by kernel_rfl
end
end Go.Proofs.YtbkokbjpbbpllaaGreat
