/-
  A part of the law's proof over the abstract evaluator. Conditions: those of each theorem, as it states them.
-/
import Derived.Test.YtbkokbjpbbpllaaGreatTreeA
/-! The templates' trees, checked. -/
namespace Go.Proofs.YtbkokbjpbbpllaaGreat
open Go.Tw
noncomputable section
theorem t6_5 : chk c6 39 8 9 (.int .i64 5) (SI 4) [0] 0 sp5 q5 = true := by kernel_rfl
theorem t7_5 : chk c7 40 8 9 (.int .i64 5) (SI 4) [0] 0 sp5 q5 = true := by kernel_rfl
theorem t6_11 : chk c6 39 8 9 (.int .i64 11) (SI 4) [0] 0 sp11 q11 = true := by kernel_rfl
theorem t7_11 : chk c7 40 8 9 (.int .i64 11) (SI 4) [0] 0 sp11 q11 = true := by kernel_rfl
theorem t6_19 : chk c6 39 8 9 (.int .i64 19) (SI 4) [0] 0 sp19 q19 = true := by kernel_rfl
theorem t7_19 : chk c7 40 8 9 (.int .i64 19) (SI 4) [0] 0 sp19 q19 = true := by kernel_rfl
theorem t6_21_7 : chk c6 39 8 9 (.int .i64 21) (.int .i64 7) [0, 4] 0 sp21_7 q21_7 = true := by kernel_rfl
theorem t7_21_7 : chk c7 40 8 9 (.int .i64 21) (.int .i64 7) [0, 4] 0 sp21_7 q21_7 = true := by kernel_rfl
theorem t6_22_7 : chk c6 39 8 9 (.int .i64 22) (.int .i64 7) [0, 4] 0 sp22_7 q22_7 = true := by kernel_rfl
theorem t7_22_7 : chk c7 40 8 9 (.int .i64 22) (.int .i64 7) [0, 4] 0 sp22_7 q22_7 = true := by kernel_rfl
theorem t6_28_7 : chk c6 39 8 9 (.int .i64 28) (SI 4) [0, 1] 0 sp28_7 ((eq (lenS (D 5)) (I 7), true) :: q28_7) = true := by kernel_rfl
theorem t7_28_7 : chk c7 40 8 9 (.int .i64 28) (SI 4) [0, 1] 0 sp28_7 ((eq (lenS (D 5)) (I 7), true) :: q28_7) = true := by kernel_rfl
theorem t6_29 : chk c6 39 8 9 (.int .i64 29) (SI 4) [0, 2] 0 sp29 q29 = true := by kernel_rfl
theorem t7_29 : chk c7 40 8 9 (.int .i64 29) (SI 4) [0, 2] 0 sp29 q29 = true := by kernel_rfl
end
end Go.Proofs.YtbkokbjpbbpllaaGreat
