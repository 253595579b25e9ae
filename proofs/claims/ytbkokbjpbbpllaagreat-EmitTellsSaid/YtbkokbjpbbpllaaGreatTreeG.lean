/-
  A part of the law's proof over the abstract evaluator. Conditions: those of each theorem, as it states them.
-/
import Derived.Test.YtbkokbjpbbpllaaGreatTreeA
/-! The templates' trees, checked. -/
namespace Go.Proofs.YtbkokbjpbbpllaaGreat
open Go.Tw
noncomputable section
theorem t6_3 : chk c6 39 8 9 (.int .i64 3) (SI 4) [0] 0 sp3 q3 = true := by kernel_rfl
theorem t7_3 : chk c7 40 8 9 (.int .i64 3) (SI 4) [0] 0 sp3 q3 = true := by kernel_rfl
theorem t6_9 : chk c6 39 8 9 (.int .i64 9) (SI 4) [0, 3] 0 sp9 q9 = true := by kernel_rfl
theorem t7_9 : chk c7 40 8 9 (.int .i64 9) (SI 4) [0, 3] 0 sp9 q9 = true := by kernel_rfl
theorem t6_17 : chk c6 39 8 9 (.int .i64 17) (SI 4) [0] 0 sp17 q17 = true := by kernel_rfl
theorem t7_17 : chk c7 40 8 9 (.int .i64 17) (SI 4) [0] 0 sp17 q17 = true := by kernel_rfl
theorem t6_21_5 : chk c6 39 8 9 (.int .i64 21) (.int .i64 5) [0, 4] 0 sp21_5 q21_5 = true := by kernel_rfl
theorem t7_21_5 : chk c7 40 8 9 (.int .i64 21) (.int .i64 5) [0, 4] 0 sp21_5 q21_5 = true := by kernel_rfl
theorem t6_22_5 : chk c6 39 8 9 (.int .i64 22) (.int .i64 5) [0, 4] 0 sp22_5 q22_5 = true := by kernel_rfl
theorem t7_22_5 : chk c7 40 8 9 (.int .i64 22) (.int .i64 5) [0, 4] 0 sp22_5 q22_5 = true := by kernel_rfl
theorem t6_26 : chk c6 39 8 9 (.int .i64 26) (SI 4) [0] 0 sp26 q26 = true := by kernel_rfl
theorem t7_26 : chk c7 40 8 9 (.int .i64 26) (SI 4) [0] 0 sp26 q26 = true := by kernel_rfl
theorem t6_28_5 : chk c6 39 8 9 (.int .i64 28) (SI 4) [0, 1] 0 sp28_5 ((eq (lenS (D 5)) (I 5), true) :: q28_5) = true := by kernel_rfl
theorem t7_28_5 : chk c7 40 8 9 (.int .i64 28) (SI 4) [0, 1] 0 sp28_5 ((eq (lenS (D 5)) (I 5), true) :: q28_5) = true := by kernel_rfl
end
end Go.Proofs.YtbkokbjpbbpllaaGreat
