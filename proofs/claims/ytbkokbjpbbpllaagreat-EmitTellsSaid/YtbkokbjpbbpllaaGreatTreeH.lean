/-
  A part of the law's proof over the abstract evaluator. Conditions: those of each theorem, as it states them.
-/
import Derived.Test.YtbkokbjpbbpllaaGreatTreeA
/-! The templates' trees, checked. -/
namespace Go.Proofs.YtbkokbjpbbpllaaGreat
open Go.Tw
noncomputable section
theorem t6_4 : chk c6 39 8 9 (.int .i64 4) (SI 4) [0] 0 sp4 q4 = true := by kernel_rfl
theorem t7_4 : chk c7 40 8 9 (.int .i64 4) (SI 4) [0] 0 sp4 q4 = true := by kernel_rfl
theorem t6_10 : chk c6 39 8 9 (.int .i64 10) (SI 4) [0] 0 sp10 q10 = true := by kernel_rfl
theorem t7_10 : chk c7 40 8 9 (.int .i64 10) (SI 4) [0] 0 sp10 q10 = true := by kernel_rfl
theorem t6_18 : chk c6 39 8 9 (.int .i64 18) (SI 4) [0] 0 sp18 q18 = true := by kernel_rfl
theorem t7_18 : chk c7 40 8 9 (.int .i64 18) (SI 4) [0] 0 sp18 q18 = true := by kernel_rfl
theorem t6_21_6 : chk c6 39 8 9 (.int .i64 21) (.int .i64 6) [0, 4] 0 sp21_6 q21_6 = true := by kernel_rfl
theorem t7_21_6 : chk c7 40 8 9 (.int .i64 21) (.int .i64 6) [0, 4] 0 sp21_6 q21_6 = true := by kernel_rfl
theorem t6_22_6 : chk c6 39 8 9 (.int .i64 22) (.int .i64 6) [0, 4] 0 sp22_6 q22_6 = true := by kernel_rfl
theorem t7_22_6 : chk c7 40 8 9 (.int .i64 22) (.int .i64 6) [0, 4] 0 sp22_6 q22_6 = true := by kernel_rfl
theorem t6_27 : chk c6 39 8 9 (.int .i64 27) (SI 4) [0] 0 sp27 q27 = true := by kernel_rfl
theorem t7_27 : chk c7 40 8 9 (.int .i64 27) (SI 4) [0] 0 sp27 q27 = true := by kernel_rfl
theorem t6_28_6 : chk c6 39 8 9 (.int .i64 28) (SI 4) [0, 1] 0 sp28_6 ((eq (lenS (D 5)) (I 6), true) :: q28_6) = true := by kernel_rfl
theorem t7_28_6 : chk c7 40 8 9 (.int .i64 28) (SI 4) [0, 1] 0 sp28_6 ((eq (lenS (D 5)) (I 6), true) :: q28_6) = true := by kernel_rfl
end
end Go.Proofs.YtbkokbjpbbpllaaGreat
