/-
  A part of the law's proof over the abstract evaluator. Conditions: those of each theorem, as it states them.
-/
import Derived.Test.YtbkokbjpbbpllaaGreatLayB
namespace Go.Proofs.YtbkokbjpbbpllaaGreat
open Go.Tw
noncomputable section
/-! The program's lay: its runs, piece by piece. -/
def c63 : Code := match Tryz.f63.body with
  | some c => c
  | none => .skip
def LV (v : Nat) (y : Sx) : AV := .opq 2 1024 v (.slc L7) (.lit 0) y
def r63 : Sx := .ap 3 (D 0) (D 1) (D 2)
def smB : Dcs := [(.cmp .lss (lenS (D 2)) (.lit 100000000), true)]
def con63 (p : Dcs) : Con := { f := 63, args := [LV 0 (D 3), SI 0, SI 1], pre := smB ++ p, res := LV 0 (.lit 1), objs := [], lin := some { l := L7, t := 35, x := D 2, y := D 3, ox := r63, oy := .lit 1 } }
def p63a_0 : Dcs := []
def e63a_0 : Eqs := [((.dvar 3), (.dvar 3)), ((.pr 30 (.dvar 0) (.lit 0)), (.pr 30 (.dvar 0) (.lit 0))), ((.pr 30 (.dvar 1) (.lit 0)), (.pr 30 (.dvar 1) (.lit 0))), ((.dvar 2), (.dvar 2)), ((.dvar 3), (.dvar 3))]
theorem x63a_0 : runHB R0 0 0 (run p63a_0 [] 64 (Code.l c63) [(2, .sym .i64 (.dvar 1)), (1, .sym .i64 (.dvar 0)), (0, .opq 2 1024 0 (.slc [.int .i64, .int .i64, .int .i64, .int .i64, .int .i64, .int .i64, .int .i64]) (.lit 0) (.dvar 3))] [(1024, .opq 2 0 1023 (.slc [.int .i64, .int .i64, .int .i64, .int .i64, .int .i64, .int .i64, .int .i64]) (.dvar 2) (.dvar 3) [] 35)] 1025) .normal [⟨1024, 1024, 0, 0, 0⟩] [(0, .opq 2 1024 0 (.slc [.int .i64, .int .i64, .int .i64, .int .i64, .int .i64, .int .i64, .int .i64]) (.lit 0) (.dvar 3)), (1, .sym .i64 (.dvar 0)), (2, .sym .i64 (.dvar 1))] [(1024, .opq 2 0 1023 (.slc [.int .i64, .int .i64, .int .i64, .int .i64, .int .i64, .int .i64, .int .i64]) (.dvar 2) (.dvar 3) [] 35)] 1025 e63a_0 = true := by kernel_rfl
def p63b_0 : Dcs := [((.cmp .lss (.dvar 1) (.lit (-2048))), true)]
def e63b_0 : Eqs := [((.dvar 3), (.dvar 3)), ((.pr 30 (.dvar 0) (.lit 0)), (.pr 30 (.dvar 0) (.lit 0))), ((.pr 30 (.dvar 1) (.lit 0)), (.pr 30 (.dvar 1) (.lit 0))), ((.dvar 2), (.dvar 2)), ((.dvar 3), (.dvar 3))]
theorem x63b_0 : runHB R0 0 0 (run p63b_0 [] 64 (Code.l (Code.r c63)) [(0, .opq 2 1024 0 (.slc [.int .i64, .int .i64, .int .i64, .int .i64, .int .i64, .int .i64, .int .i64]) (.lit 0) (.dvar 3)), (1, .sym .i64 (.dvar 0)), (2, .sym .i64 (.dvar 1))] [(1024, .opq 2 0 1023 (.slc [.int .i64, .int .i64, .int .i64, .int .i64, .int .i64, .int .i64, .int .i64]) (.dvar 2) (.dvar 3) [] 35)] 1025) .normal [⟨1024, 1024, 0, 0, 0⟩] [(0, .opq 2 1024 0 (.slc [.int .i64, .int .i64, .int .i64, .int .i64, .int .i64, .int .i64, .int .i64]) (.lit 0) (.dvar 3)), (1, .sym .i64 (.dvar 0)), (2, .sym .i64 (.dvar 1))] [(1024, .opq 2 0 1023 (.slc [.int .i64, .int .i64, .int .i64, .int .i64, .int .i64, .int .i64, .int .i64]) (.dvar 2) (.dvar 3) [] 35)] 1025 e63b_0 = true := by kernel_rfl
def p63b_1 : Dcs := [((.cmp .lss (.dvar 1) (.lit (-2048))), false), ((.cmp .lss (.dvar 1) (.lit 2048)), true), ((.cmp .lss (.pr 7 (.dvar 2) (.lit 0)) (.lit 1000000001)), true)]
def e63b_1 : Eqs := [((.lit 1), (.lit 1)), ((.pr 9 (.dvar 2) (.pr 9 (.pr 12 (.lit 0) (.pr 12 (.lit 0) (.pr 12 (.lit 22) (.pr 12 (.dvar 0) (.pr 12 (.lit 0) (.pr 12 (.lit 0) (.pr 12 (.dvar 1) (.pr 14 (.lit 0) (.lit 0))))))))) (.pr 13 (.lit 0) (.lit 0)))), (.ap 3 (.dvar 0) (.dvar 1) (.dvar 2))), ((.lit 1), (.lit 1))]
theorem x63b_1 : runHB R0 0 0 (run p63b_1 [] 64 (Code.l (Code.r c63)) [(0, .opq 2 1024 0 (.slc [.int .i64, .int .i64, .int .i64, .int .i64, .int .i64, .int .i64, .int .i64]) (.lit 0) (.dvar 3)), (1, .sym .i64 (.dvar 0)), (2, .sym .i64 (.dvar 1))] [(1024, .opq 2 0 1023 (.slc [.int .i64, .int .i64, .int .i64, .int .i64, .int .i64, .int .i64, .int .i64]) (.dvar 2) (.dvar 3) [] 35)] 1025) .ret [⟨1024, 1024, 1, 0, 0⟩] [(6, .opq 2 1024 0 (.slc [.int .i64, .int .i64, .int .i64, .int .i64, .int .i64, .int .i64, .int .i64]) (.lit 0) (.lit 1))] [(1024, .opq 2 0 1023 (.slc [.int .i64, .int .i64, .int .i64, .int .i64, .int .i64, .int .i64, .int .i64]) (.ap 3 (.dvar 0) (.dvar 1) (.dvar 2)) (.lit 1) [] 35)] 1025 e63b_1 = true := by kernel_rfl
def p63b_2 : Dcs := [((.cmp .lss (.dvar 1) (.lit (-2048))), false), ((.cmp .lss (.dvar 1) (.lit 2048)), false)]
def e63b_2 : Eqs := [((.dvar 3), (.dvar 3)), ((.pr 30 (.dvar 0) (.lit 0)), (.pr 30 (.dvar 0) (.lit 0))), ((.pr 30 (.dvar 1) (.lit 0)), (.pr 30 (.dvar 1) (.lit 0))), ((.dvar 2), (.dvar 2)), ((.dvar 3), (.dvar 3))]
theorem x63b_2 : runHB R0 0 0 (run p63b_2 [] 64 (Code.l (Code.r c63)) [(0, .opq 2 1024 0 (.slc [.int .i64, .int .i64, .int .i64, .int .i64, .int .i64, .int .i64, .int .i64]) (.lit 0) (.dvar 3)), (1, .sym .i64 (.dvar 0)), (2, .sym .i64 (.dvar 1))] [(1024, .opq 2 0 1023 (.slc [.int .i64, .int .i64, .int .i64, .int .i64, .int .i64, .int .i64, .int .i64]) (.dvar 2) (.dvar 3) [] 35)] 1025) .normal [⟨1024, 1024, 0, 0, 0⟩] [(0, .opq 2 1024 0 (.slc [.int .i64, .int .i64, .int .i64, .int .i64, .int .i64, .int .i64, .int .i64]) (.lit 0) (.dvar 3)), (1, .sym .i64 (.dvar 0)), (2, .sym .i64 (.dvar 1))] [(1024, .opq 2 0 1023 (.slc [.int .i64, .int .i64, .int .i64, .int .i64, .int .i64, .int .i64, .int .i64]) (.dvar 2) (.dvar 3) [] 35)] 1025 e63b_2 = true := by kernel_rfl
def p63c_0 : Dcs := []
def e63c_0 : Eqs := [((.dvar 3), (.dvar 3)), ((.pr 30 (.dvar 0) (.lit 0)), (.pr 30 (.dvar 0) (.lit 0))), ((.pr 30 (.dvar 1) (.lit 0)), (.pr 30 (.dvar 1) (.lit 0))), ((.pr 30 (.bin .and .i64 (.dvar 1) (.lit 4095)) (.lit 0)), (.pr 30 (.dvar 4) (.lit 0))), ((.dvar 2), (.dvar 2)), ((.dvar 3), (.dvar 3))]
theorem x63c_0 : runHB R0 0 0 (run p63c_0 [] 64 (Code.l (Code.r (Code.r c63))) [(0, .opq 2 1024 0 (.slc [.int .i64, .int .i64, .int .i64, .int .i64, .int .i64, .int .i64, .int .i64]) (.lit 0) (.dvar 3)), (1, .sym .i64 (.dvar 0)), (2, .sym .i64 (.dvar 1))] [(1024, .opq 2 0 1023 (.slc [.int .i64, .int .i64, .int .i64, .int .i64, .int .i64, .int .i64, .int .i64]) (.dvar 2) (.dvar 3) [] 35)] 1025) .normal [⟨1024, 1024, 0, 0, 0⟩] [(0, .opq 2 1024 0 (.slc [.int .i64, .int .i64, .int .i64, .int .i64, .int .i64, .int .i64, .int .i64]) (.lit 0) (.dvar 3)), (1, .sym .i64 (.dvar 0)), (2, .sym .i64 (.dvar 1)), (7, .sym .i64 (.dvar 4))] [(1024, .opq 2 0 1023 (.slc [.int .i64, .int .i64, .int .i64, .int .i64, .int .i64, .int .i64, .int .i64]) (.dvar 2) (.dvar 3) [] 35)] 1025 e63c_0 = true := by kernel_rfl
def p63d_0 : Dcs := [((.cmp .lss (.dvar 4) (.lit 2048)), true)]
def e63d_0 : Eqs := [((.dvar 3), (.dvar 3)), ((.pr 30 (.dvar 0) (.lit 0)), (.pr 30 (.dvar 0) (.lit 0))), ((.pr 30 (.dvar 1) (.lit 0)), (.pr 30 (.dvar 1) (.lit 0))), ((.pr 30 (.dvar 4) (.lit 0)), (.pr 30 (.dvar 4) (.lit 0))), ((.dvar 2), (.dvar 2)), ((.dvar 3), (.dvar 3))]
theorem x63d_0 : runHB R0 0 0 (run p63d_0 [] 64 (Code.l (Code.r (Code.r (Code.r c63)))) [(0, .opq 2 1024 0 (.slc [.int .i64, .int .i64, .int .i64, .int .i64, .int .i64, .int .i64, .int .i64]) (.lit 0) (.dvar 3)), (1, .sym .i64 (.dvar 0)), (2, .sym .i64 (.dvar 1)), (7, .sym .i64 (.dvar 4))] [(1024, .opq 2 0 1023 (.slc [.int .i64, .int .i64, .int .i64, .int .i64, .int .i64, .int .i64, .int .i64]) (.dvar 2) (.dvar 3) [] 35)] 1025) .normal [⟨1024, 1024, 0, 0, 0⟩] [(0, .opq 2 1024 0 (.slc [.int .i64, .int .i64, .int .i64, .int .i64, .int .i64, .int .i64, .int .i64]) (.lit 0) (.dvar 3)), (1, .sym .i64 (.dvar 0)), (2, .sym .i64 (.dvar 1)), (7, .sym .i64 (.dvar 4))] [(1024, .opq 2 0 1023 (.slc [.int .i64, .int .i64, .int .i64, .int .i64, .int .i64, .int .i64, .int .i64]) (.dvar 2) (.dvar 3) [] 35)] 1025 e63d_0 = true := by kernel_rfl
def p63d_1 : Dcs := [((.cmp .lss (.dvar 4) (.lit 2048)), false)]
def e63d_1 : Eqs := [((.dvar 3), (.dvar 3)), ((.pr 30 (.dvar 0) (.lit 0)), (.pr 30 (.dvar 0) (.lit 0))), ((.pr 30 (.dvar 1) (.lit 0)), (.pr 30 (.dvar 1) (.lit 0))), ((.pr 30 (.bin .sub .i64 (.dvar 4) (.lit 4096)) (.lit 0)), (.pr 30 (.dvar 4) (.lit 0))), ((.dvar 2), (.dvar 2)), ((.dvar 3), (.dvar 3))]
theorem x63d_1 : runHB R0 0 0 (run p63d_1 [] 64 (Code.l (Code.r (Code.r (Code.r c63)))) [(0, .opq 2 1024 0 (.slc [.int .i64, .int .i64, .int .i64, .int .i64, .int .i64, .int .i64, .int .i64]) (.lit 0) (.dvar 3)), (1, .sym .i64 (.dvar 0)), (2, .sym .i64 (.dvar 1)), (7, .sym .i64 (.dvar 4))] [(1024, .opq 2 0 1023 (.slc [.int .i64, .int .i64, .int .i64, .int .i64, .int .i64, .int .i64, .int .i64]) (.dvar 2) (.dvar 3) [] 35)] 1025) .normal [⟨1024, 1024, 0, 0, 0⟩] [(0, .opq 2 1024 0 (.slc [.int .i64, .int .i64, .int .i64, .int .i64, .int .i64, .int .i64, .int .i64]) (.lit 0) (.dvar 3)), (1, .sym .i64 (.dvar 0)), (2, .sym .i64 (.dvar 1)), (7, .sym .i64 (.dvar 4))] [(1024, .opq 2 0 1023 (.slc [.int .i64, .int .i64, .int .i64, .int .i64, .int .i64, .int .i64, .int .i64]) (.dvar 2) (.dvar 3) [] 35)] 1025 e63d_1 = true := by kernel_rfl
def p63e_0 : Dcs := []
def e63e_0 : Eqs := [((.dvar 3), (.dvar 3)), ((.pr 30 (.dvar 0) (.lit 0)), (.pr 30 (.dvar 0) (.lit 0))), ((.pr 30 (.dvar 1) (.lit 0)), (.pr 30 (.dvar 1) (.lit 0))), ((.pr 30 (.dvar 4) (.lit 0)), (.pr 30 (.dvar 4) (.lit 0))), ((.pr 30 (.bin .quo .i64 (.bin .sub .i64 (.dvar 1) (.dvar 4)) (.lit 4096)) (.lit 0)), (.pr 30 (.dvar 5) (.lit 0))), ((.dvar 2), (.dvar 2)), ((.dvar 3), (.dvar 3))]
theorem x63e_0 : runHB R0 0 0 (run p63e_0 [] 64 (Code.l (Code.r (Code.r (Code.r (Code.r c63))))) [(0, .opq 2 1024 0 (.slc [.int .i64, .int .i64, .int .i64, .int .i64, .int .i64, .int .i64, .int .i64]) (.lit 0) (.dvar 3)), (1, .sym .i64 (.dvar 0)), (2, .sym .i64 (.dvar 1)), (7, .sym .i64 (.dvar 4))] [(1024, .opq 2 0 1023 (.slc [.int .i64, .int .i64, .int .i64, .int .i64, .int .i64, .int .i64, .int .i64]) (.dvar 2) (.dvar 3) [] 35)] 1025) .normal [⟨1024, 1024, 0, 0, 0⟩] [(0, .opq 2 1024 0 (.slc [.int .i64, .int .i64, .int .i64, .int .i64, .int .i64, .int .i64, .int .i64]) (.lit 0) (.dvar 3)), (1, .sym .i64 (.dvar 0)), (2, .sym .i64 (.dvar 1)), (7, .sym .i64 (.dvar 4)), (8, .sym .i64 (.dvar 5))] [(1024, .opq 2 0 1023 (.slc [.int .i64, .int .i64, .int .i64, .int .i64, .int .i64, .int .i64, .int .i64]) (.dvar 2) (.dvar 3) [] 35)] 1025 e63e_0 = true := by kernel_rfl
def p63f_0 : Dcs := [((.cmp .lss (.dvar 1) (.lit (-2147483648))), false), ((.cmp .lss (.dvar 1) (.lit 2147483648)), true), ((.cmp .eql (.dvar 5) (.lit 524288)), true), ((.cmp .lss (.pr 7 (.dvar 2) (.lit 0)) (.lit 1000000001)), true), ((.cmp .eql (.dvar 4) (.lit 0)), true)]
def e63f_0 : Eqs := [((.lit 1), (.lit 1)), ((.pr 9 (.dvar 2) (.pr 9 (.pr 12 (.lit 0) (.pr 12 (.lit 0) (.pr 12 (.lit 1) (.pr 12 (.dvar 0) (.pr 12 (.lit 0) (.pr 12 (.lit 0) (.pr 12 (.lit (-524288)) (.pr 14 (.lit 0) (.lit 0))))))))) (.pr 13 (.lit 0) (.lit 0)))), (.ap 3 (.dvar 0) (.dvar 1) (.dvar 2))), ((.lit 1), (.lit 1))]
theorem x63f_0 : runHB R0 0 0 (run p63f_0 [] 64 (Code.r (Code.r (Code.r (Code.r (Code.r c63))))) [(0, .opq 2 1024 0 (.slc [.int .i64, .int .i64, .int .i64, .int .i64, .int .i64, .int .i64, .int .i64]) (.lit 0) (.dvar 3)), (1, .sym .i64 (.dvar 0)), (2, .sym .i64 (.dvar 1)), (7, .sym .i64 (.dvar 4)), (8, .sym .i64 (.dvar 5))] [(1024, .opq 2 0 1023 (.slc [.int .i64, .int .i64, .int .i64, .int .i64, .int .i64, .int .i64, .int .i64]) (.dvar 2) (.dvar 3) [] 35)] 1025) .ret [⟨1024, 1024, 1, 0, 0⟩] [(6, .opq 2 1024 0 (.slc [.int .i64, .int .i64, .int .i64, .int .i64, .int .i64, .int .i64, .int .i64]) (.lit 0) (.lit 1))] [(1024, .opq 2 0 1023 (.slc [.int .i64, .int .i64, .int .i64, .int .i64, .int .i64, .int .i64, .int .i64]) (.ap 3 (.dvar 0) (.dvar 1) (.dvar 2)) (.lit 1) [] 35)] 1025 e63f_0 = true := by kernel_rfl
def p63f_1 : Dcs := [((.cmp .lss (.dvar 1) (.lit (-2147483648))), false), ((.cmp .lss (.dvar 1) (.lit 2147483648)), true), ((.cmp .eql (.dvar 5) (.lit 524288)), true), ((.cmp .lss (.pr 7 (.dvar 2) (.lit 0)) (.lit 1000000001)), true), ((.cmp .eql (.dvar 4) (.lit 0)), false), ((.cmp .lss (.pr 7 (.pr 9 (.dvar 2) (.pr 9 (.pr 12 (.lit 0) (.pr 12 (.lit 0) (.pr 12 (.lit 1) (.pr 12 (.dvar 0) (.pr 12 (.lit 0) (.pr 12 (.lit 0) (.pr 12 (.lit (-524288)) (.pr 14 (.lit 0) (.lit 0))))))))) (.pr 13 (.lit 0) (.lit 0)))) (.lit 0)) (.lit 1000000001)), true)]
def e63f_1 : Eqs := [((.lit 1), (.lit 1)), ((.pr 9 (.pr 9 (.dvar 2) (.pr 9 (.pr 12 (.lit 0) (.pr 12 (.lit 0) (.pr 12 (.lit 1) (.pr 12 (.dvar 0) (.pr 12 (.lit 0) (.pr 12 (.lit 0) (.pr 12 (.lit (-524288)) (.pr 14 (.lit 0) (.lit 0))))))))) (.pr 13 (.lit 0) (.lit 0)))) (.pr 9 (.pr 12 (.lit 0) (.pr 12 (.lit 0) (.pr 12 (.lit 31) (.pr 12 (.dvar 0) (.pr 12 (.dvar 0) (.pr 12 (.lit 0) (.pr 12 (.dvar 4) (.pr 14 (.lit 0) (.lit 0))))))))) (.pr 13 (.lit 0) (.lit 0)))), (.ap 3 (.dvar 0) (.dvar 1) (.dvar 2))), ((.lit 1), (.lit 1))]
theorem x63f_1 : runHB R0 0 0 (run p63f_1 [] 64 (Code.r (Code.r (Code.r (Code.r (Code.r c63))))) [(0, .opq 2 1024 0 (.slc [.int .i64, .int .i64, .int .i64, .int .i64, .int .i64, .int .i64, .int .i64]) (.lit 0) (.dvar 3)), (1, .sym .i64 (.dvar 0)), (2, .sym .i64 (.dvar 1)), (7, .sym .i64 (.dvar 4)), (8, .sym .i64 (.dvar 5))] [(1024, .opq 2 0 1023 (.slc [.int .i64, .int .i64, .int .i64, .int .i64, .int .i64, .int .i64, .int .i64]) (.dvar 2) (.dvar 3) [] 35)] 1025) .ret [⟨1024, 1024, 2, 0, 0⟩] [(6, .opq 2 1024 0 (.slc [.int .i64, .int .i64, .int .i64, .int .i64, .int .i64, .int .i64, .int .i64]) (.lit 0) (.lit 1))] [(1024, .opq 2 0 1023 (.slc [.int .i64, .int .i64, .int .i64, .int .i64, .int .i64, .int .i64, .int .i64]) (.ap 3 (.dvar 0) (.dvar 1) (.dvar 2)) (.lit 1) [] 35)] 1025 e63f_1 = true := by kernel_rfl
def p63f_2 : Dcs := [((.cmp .lss (.dvar 1) (.lit (-2147483648))), false), ((.cmp .lss (.dvar 1) (.lit 2147483648)), true), ((.cmp .eql (.dvar 5) (.lit 524288)), false), ((.cmp .lss (.pr 7 (.dvar 2) (.lit 0)) (.lit 1000000001)), true), ((.cmp .eql (.dvar 4) (.lit 0)), true)]
def e63f_2 : Eqs := [((.lit 1), (.lit 1)), ((.pr 9 (.dvar 2) (.pr 9 (.pr 12 (.lit 0) (.pr 12 (.lit 0) (.pr 12 (.lit 1) (.pr 12 (.dvar 0) (.pr 12 (.lit 0) (.pr 12 (.lit 0) (.pr 12 (.dvar 5) (.pr 14 (.lit 0) (.lit 0))))))))) (.pr 13 (.lit 0) (.lit 0)))), (.ap 3 (.dvar 0) (.dvar 1) (.dvar 2))), ((.lit 1), (.lit 1))]
theorem x63f_2 : runHB R0 0 0 (run p63f_2 [] 64 (Code.r (Code.r (Code.r (Code.r (Code.r c63))))) [(0, .opq 2 1024 0 (.slc [.int .i64, .int .i64, .int .i64, .int .i64, .int .i64, .int .i64, .int .i64]) (.lit 0) (.dvar 3)), (1, .sym .i64 (.dvar 0)), (2, .sym .i64 (.dvar 1)), (7, .sym .i64 (.dvar 4)), (8, .sym .i64 (.dvar 5))] [(1024, .opq 2 0 1023 (.slc [.int .i64, .int .i64, .int .i64, .int .i64, .int .i64, .int .i64, .int .i64]) (.dvar 2) (.dvar 3) [] 35)] 1025) .ret [⟨1024, 1024, 1, 0, 0⟩] [(6, .opq 2 1024 0 (.slc [.int .i64, .int .i64, .int .i64, .int .i64, .int .i64, .int .i64, .int .i64]) (.lit 0) (.lit 1))] [(1024, .opq 2 0 1023 (.slc [.int .i64, .int .i64, .int .i64, .int .i64, .int .i64, .int .i64, .int .i64]) (.ap 3 (.dvar 0) (.dvar 1) (.dvar 2)) (.lit 1) [] 35)] 1025 e63f_2 = true := by kernel_rfl
def p63f_3 : Dcs := [((.cmp .lss (.dvar 1) (.lit (-2147483648))), false), ((.cmp .lss (.dvar 1) (.lit 2147483648)), true), ((.cmp .eql (.dvar 5) (.lit 524288)), false), ((.cmp .lss (.pr 7 (.dvar 2) (.lit 0)) (.lit 1000000001)), true), ((.cmp .eql (.dvar 4) (.lit 0)), false), ((.cmp .lss (.pr 7 (.pr 9 (.dvar 2) (.pr 9 (.pr 12 (.lit 0) (.pr 12 (.lit 0) (.pr 12 (.lit 1) (.pr 12 (.dvar 0) (.pr 12 (.lit 0) (.pr 12 (.lit 0) (.pr 12 (.dvar 5) (.pr 14 (.lit 0) (.lit 0))))))))) (.pr 13 (.lit 0) (.lit 0)))) (.lit 0)) (.lit 1000000001)), true)]
def e63f_3 : Eqs := [((.lit 1), (.lit 1)), ((.pr 9 (.pr 9 (.dvar 2) (.pr 9 (.pr 12 (.lit 0) (.pr 12 (.lit 0) (.pr 12 (.lit 1) (.pr 12 (.dvar 0) (.pr 12 (.lit 0) (.pr 12 (.lit 0) (.pr 12 (.dvar 5) (.pr 14 (.lit 0) (.lit 0))))))))) (.pr 13 (.lit 0) (.lit 0)))) (.pr 9 (.pr 12 (.lit 0) (.pr 12 (.lit 0) (.pr 12 (.lit 31) (.pr 12 (.dvar 0) (.pr 12 (.dvar 0) (.pr 12 (.lit 0) (.pr 12 (.dvar 4) (.pr 14 (.lit 0) (.lit 0))))))))) (.pr 13 (.lit 0) (.lit 0)))), (.ap 3 (.dvar 0) (.dvar 1) (.dvar 2))), ((.lit 1), (.lit 1))]
theorem x63f_3 : runHB R0 0 0 (run p63f_3 [] 64 (Code.r (Code.r (Code.r (Code.r (Code.r c63))))) [(0, .opq 2 1024 0 (.slc [.int .i64, .int .i64, .int .i64, .int .i64, .int .i64, .int .i64, .int .i64]) (.lit 0) (.dvar 3)), (1, .sym .i64 (.dvar 0)), (2, .sym .i64 (.dvar 1)), (7, .sym .i64 (.dvar 4)), (8, .sym .i64 (.dvar 5))] [(1024, .opq 2 0 1023 (.slc [.int .i64, .int .i64, .int .i64, .int .i64, .int .i64, .int .i64, .int .i64]) (.dvar 2) (.dvar 3) [] 35)] 1025) .ret [⟨1024, 1024, 2, 0, 0⟩] [(6, .opq 2 1024 0 (.slc [.int .i64, .int .i64, .int .i64, .int .i64, .int .i64, .int .i64, .int .i64]) (.lit 0) (.lit 1))] [(1024, .opq 2 0 1023 (.slc [.int .i64, .int .i64, .int .i64, .int .i64, .int .i64, .int .i64, .int .i64]) (.ap 3 (.dvar 0) (.dvar 1) (.dvar 2)) (.lit 1) [] 35)] 1025 e63f_3 = true := by kernel_rfl
def p63g1_0 : Dcs := [((.cmp .lss (.pr 7 (.dvar 2) (.lit 0)) (.lit 100000000)), true), ((.cmp .lss (.pr 30 (.dvar 5) (.lit 0)) (.lit (-2147483648))), false), ((.cmp .lss (.pr 30 (.dvar 5) (.lit 0)) (.lit 2147483648)), true), ((.cmp .lss (.dvar 1) (.lit (-2147483648))), true), ((.cmp .lss (.pr 7 (.ap 3 (.pr 30 (.dvar 0) (.lit 0)) (.pr 30 (.dvar 5) (.lit 0)) (.dvar 2)) (.lit 0)) (.lit 1000000001)), true), ((.cmp .eql (.dvar 4) (.lit 0)), true)]
def e63g1_0 : Eqs := [((.lit 1), (.lit 1)), ((.pr 9 (.ap 3 (.pr 30 (.dvar 0) (.lit 0)) (.pr 30 (.dvar 5) (.lit 0)) (.dvar 2)) (.pr 9 (.pr 12 (.lit 0) (.pr 12 (.lit 0) (.pr 12 (.lit 28) (.pr 12 (.dvar 0) (.pr 12 (.dvar 0) (.pr 12 (.lit 0) (.pr 12 (.lit 12) (.pr 14 (.lit 0) (.lit 0))))))))) (.pr 13 (.lit 0) (.lit 0)))), (.ap 3 (.dvar 0) (.dvar 1) (.dvar 2))), ((.lit 1), (.lit 1))]
theorem x63g1_0 : runHB R0 0 0 (run p63g1_0 [con63 (inB 1 2147483648)] 64 (Code.r (Code.r (Code.r (Code.r (Code.r c63))))) [(0, .opq 2 1024 0 (.slc [.int .i64, .int .i64, .int .i64, .int .i64, .int .i64, .int .i64, .int .i64]) (.lit 0) (.dvar 3)), (1, .sym .i64 (.dvar 0)), (2, .sym .i64 (.dvar 1)), (7, .sym .i64 (.dvar 4)), (8, .sym .i64 (.dvar 5))] [(1024, .opq 2 0 1023 (.slc [.int .i64, .int .i64, .int .i64, .int .i64, .int .i64, .int .i64, .int .i64]) (.dvar 2) (.dvar 3) [] 35)] 1025) .ret [⟨1024, 1024, 2, 0, 0⟩] [(6, .opq 2 1024 0 (.slc [.int .i64, .int .i64, .int .i64, .int .i64, .int .i64, .int .i64, .int .i64]) (.lit 0) (.lit 1))] [(1024, .opq 2 0 1023 (.slc [.int .i64, .int .i64, .int .i64, .int .i64, .int .i64, .int .i64, .int .i64]) (.ap 3 (.dvar 0) (.dvar 1) (.dvar 2)) (.lit 1) [] 35)] 1025 e63g1_0 = true := by kernel_rfl
def p63g1_1 : Dcs := [((.cmp .lss (.pr 7 (.dvar 2) (.lit 0)) (.lit 100000000)), true), ((.cmp .lss (.pr 30 (.dvar 5) (.lit 0)) (.lit (-2147483648))), false), ((.cmp .lss (.pr 30 (.dvar 5) (.lit 0)) (.lit 2147483648)), true), ((.cmp .lss (.dvar 1) (.lit (-2147483648))), true), ((.cmp .lss (.pr 7 (.ap 3 (.pr 30 (.dvar 0) (.lit 0)) (.pr 30 (.dvar 5) (.lit 0)) (.dvar 2)) (.lit 0)) (.lit 1000000001)), true), ((.cmp .eql (.dvar 4) (.lit 0)), false), ((.cmp .lss (.pr 7 (.pr 9 (.ap 3 (.pr 30 (.dvar 0) (.lit 0)) (.pr 30 (.dvar 5) (.lit 0)) (.dvar 2)) (.pr 9 (.pr 12 (.lit 0) (.pr 12 (.lit 0) (.pr 12 (.lit 28) (.pr 12 (.dvar 0) (.pr 12 (.dvar 0) (.pr 12 (.lit 0) (.pr 12 (.lit 12) (.pr 14 (.lit 0) (.lit 0))))))))) (.pr 13 (.lit 0) (.lit 0)))) (.lit 0)) (.lit 1000000001)), true)]
def e63g1_1 : Eqs := [((.lit 1), (.lit 1)), ((.pr 9 (.pr 9 (.ap 3 (.pr 30 (.dvar 0) (.lit 0)) (.pr 30 (.dvar 5) (.lit 0)) (.dvar 2)) (.pr 9 (.pr 12 (.lit 0) (.pr 12 (.lit 0) (.pr 12 (.lit 28) (.pr 12 (.dvar 0) (.pr 12 (.dvar 0) (.pr 12 (.lit 0) (.pr 12 (.lit 12) (.pr 14 (.lit 0) (.lit 0))))))))) (.pr 13 (.lit 0) (.lit 0)))) (.pr 9 (.pr 12 (.lit 0) (.pr 12 (.lit 0) (.pr 12 (.lit 22) (.pr 12 (.dvar 0) (.pr 12 (.dvar 0) (.pr 12 (.lit 0) (.pr 12 (.dvar 4) (.pr 14 (.lit 0) (.lit 0))))))))) (.pr 13 (.lit 0) (.lit 0)))), (.ap 3 (.dvar 0) (.dvar 1) (.dvar 2))), ((.lit 1), (.lit 1))]
theorem x63g1_1 : runHB R0 0 0 (run p63g1_1 [con63 (inB 1 2147483648)] 64 (Code.r (Code.r (Code.r (Code.r (Code.r c63))))) [(0, .opq 2 1024 0 (.slc [.int .i64, .int .i64, .int .i64, .int .i64, .int .i64, .int .i64, .int .i64]) (.lit 0) (.dvar 3)), (1, .sym .i64 (.dvar 0)), (2, .sym .i64 (.dvar 1)), (7, .sym .i64 (.dvar 4)), (8, .sym .i64 (.dvar 5))] [(1024, .opq 2 0 1023 (.slc [.int .i64, .int .i64, .int .i64, .int .i64, .int .i64, .int .i64, .int .i64]) (.dvar 2) (.dvar 3) [] 35)] 1025) .ret [⟨1024, 1024, 3, 0, 0⟩] [(6, .opq 2 1024 0 (.slc [.int .i64, .int .i64, .int .i64, .int .i64, .int .i64, .int .i64, .int .i64]) (.lit 0) (.lit 1))] [(1024, .opq 2 0 1023 (.slc [.int .i64, .int .i64, .int .i64, .int .i64, .int .i64, .int .i64, .int .i64]) (.ap 3 (.dvar 0) (.dvar 1) (.dvar 2)) (.lit 1) [] 35)] 1025 e63g1_1 = true := by kernel_rfl
def p63h1_0 : Dcs := [((.cmp .lss (.pr 7 (.dvar 2) (.lit 0)) (.lit 100000000)), true), ((.cmp .lss (.pr 30 (.dvar 5) (.lit 0)) (.lit (-2147483648))), false), ((.cmp .lss (.pr 30 (.dvar 5) (.lit 0)) (.lit 2147483648)), true), ((.cmp .lss (.dvar 1) (.lit (-2147483648))), false), ((.cmp .lss (.dvar 1) (.lit 2147483648)), false), ((.cmp .lss (.pr 7 (.ap 3 (.pr 30 (.dvar 0) (.lit 0)) (.pr 30 (.dvar 5) (.lit 0)) (.dvar 2)) (.lit 0)) (.lit 1000000001)), true), ((.cmp .eql (.dvar 4) (.lit 0)), true)]
def e63h1_0 : Eqs := [((.lit 1), (.lit 1)), ((.pr 9 (.ap 3 (.pr 30 (.dvar 0) (.lit 0)) (.pr 30 (.dvar 5) (.lit 0)) (.dvar 2)) (.pr 9 (.pr 12 (.lit 0) (.pr 12 (.lit 0) (.pr 12 (.lit 28) (.pr 12 (.dvar 0) (.pr 12 (.dvar 0) (.pr 12 (.lit 0) (.pr 12 (.lit 12) (.pr 14 (.lit 0) (.lit 0))))))))) (.pr 13 (.lit 0) (.lit 0)))), (.ap 3 (.dvar 0) (.dvar 1) (.dvar 2))), ((.lit 1), (.lit 1))]
theorem x63h1_0 : runHB R0 0 0 (run p63h1_0 [con63 (inB 1 2147483648)] 64 (Code.r (Code.r (Code.r (Code.r (Code.r c63))))) [(0, .opq 2 1024 0 (.slc [.int .i64, .int .i64, .int .i64, .int .i64, .int .i64, .int .i64, .int .i64]) (.lit 0) (.dvar 3)), (1, .sym .i64 (.dvar 0)), (2, .sym .i64 (.dvar 1)), (7, .sym .i64 (.dvar 4)), (8, .sym .i64 (.dvar 5))] [(1024, .opq 2 0 1023 (.slc [.int .i64, .int .i64, .int .i64, .int .i64, .int .i64, .int .i64, .int .i64]) (.dvar 2) (.dvar 3) [] 35)] 1025) .ret [⟨1024, 1024, 2, 0, 0⟩] [(6, .opq 2 1024 0 (.slc [.int .i64, .int .i64, .int .i64, .int .i64, .int .i64, .int .i64, .int .i64]) (.lit 0) (.lit 1))] [(1024, .opq 2 0 1023 (.slc [.int .i64, .int .i64, .int .i64, .int .i64, .int .i64, .int .i64, .int .i64]) (.ap 3 (.dvar 0) (.dvar 1) (.dvar 2)) (.lit 1) [] 35)] 1025 e63h1_0 = true := by kernel_rfl
def p63h1_1 : Dcs := [((.cmp .lss (.pr 7 (.dvar 2) (.lit 0)) (.lit 100000000)), true), ((.cmp .lss (.pr 30 (.dvar 5) (.lit 0)) (.lit (-2147483648))), false), ((.cmp .lss (.pr 30 (.dvar 5) (.lit 0)) (.lit 2147483648)), true), ((.cmp .lss (.dvar 1) (.lit (-2147483648))), false), ((.cmp .lss (.dvar 1) (.lit 2147483648)), false), ((.cmp .lss (.pr 7 (.ap 3 (.pr 30 (.dvar 0) (.lit 0)) (.pr 30 (.dvar 5) (.lit 0)) (.dvar 2)) (.lit 0)) (.lit 1000000001)), true), ((.cmp .eql (.dvar 4) (.lit 0)), false), ((.cmp .lss (.pr 7 (.pr 9 (.ap 3 (.pr 30 (.dvar 0) (.lit 0)) (.pr 30 (.dvar 5) (.lit 0)) (.dvar 2)) (.pr 9 (.pr 12 (.lit 0) (.pr 12 (.lit 0) (.pr 12 (.lit 28) (.pr 12 (.dvar 0) (.pr 12 (.dvar 0) (.pr 12 (.lit 0) (.pr 12 (.lit 12) (.pr 14 (.lit 0) (.lit 0))))))))) (.pr 13 (.lit 0) (.lit 0)))) (.lit 0)) (.lit 1000000001)), true)]
def e63h1_1 : Eqs := [((.lit 1), (.lit 1)), ((.pr 9 (.pr 9 (.ap 3 (.pr 30 (.dvar 0) (.lit 0)) (.pr 30 (.dvar 5) (.lit 0)) (.dvar 2)) (.pr 9 (.pr 12 (.lit 0) (.pr 12 (.lit 0) (.pr 12 (.lit 28) (.pr 12 (.dvar 0) (.pr 12 (.dvar 0) (.pr 12 (.lit 0) (.pr 12 (.lit 12) (.pr 14 (.lit 0) (.lit 0))))))))) (.pr 13 (.lit 0) (.lit 0)))) (.pr 9 (.pr 12 (.lit 0) (.pr 12 (.lit 0) (.pr 12 (.lit 22) (.pr 12 (.dvar 0) (.pr 12 (.dvar 0) (.pr 12 (.lit 0) (.pr 12 (.dvar 4) (.pr 14 (.lit 0) (.lit 0))))))))) (.pr 13 (.lit 0) (.lit 0)))), (.ap 3 (.dvar 0) (.dvar 1) (.dvar 2))), ((.lit 1), (.lit 1))]
theorem x63h1_1 : runHB R0 0 0 (run p63h1_1 [con63 (inB 1 2147483648)] 64 (Code.r (Code.r (Code.r (Code.r (Code.r c63))))) [(0, .opq 2 1024 0 (.slc [.int .i64, .int .i64, .int .i64, .int .i64, .int .i64, .int .i64, .int .i64]) (.lit 0) (.dvar 3)), (1, .sym .i64 (.dvar 0)), (2, .sym .i64 (.dvar 1)), (7, .sym .i64 (.dvar 4)), (8, .sym .i64 (.dvar 5))] [(1024, .opq 2 0 1023 (.slc [.int .i64, .int .i64, .int .i64, .int .i64, .int .i64, .int .i64, .int .i64]) (.dvar 2) (.dvar 3) [] 35)] 1025) .ret [⟨1024, 1024, 3, 0, 0⟩] [(6, .opq 2 1024 0 (.slc [.int .i64, .int .i64, .int .i64, .int .i64, .int .i64, .int .i64, .int .i64]) (.lit 0) (.lit 1))] [(1024, .opq 2 0 1023 (.slc [.int .i64, .int .i64, .int .i64, .int .i64, .int .i64, .int .i64, .int .i64]) (.ap 3 (.dvar 0) (.dvar 1) (.dvar 2)) (.lit 1) [] 35)] 1025 e63h1_1 = true := by kernel_rfl
def p63g2_0 : Dcs := [((.cmp .lss (.pr 7 (.dvar 2) (.lit 0)) (.lit 100000000)), true), ((.cmp .lss (.pr 30 (.dvar 5) (.lit 0)) (.lit (-4398046511104))), false), ((.cmp .lss (.pr 30 (.dvar 5) (.lit 0)) (.lit 4398046511104)), true), ((.cmp .lss (.dvar 1) (.lit (-2147483648))), true), ((.cmp .lss (.pr 7 (.ap 3 (.pr 30 (.dvar 0) (.lit 0)) (.pr 30 (.dvar 5) (.lit 0)) (.dvar 2)) (.lit 0)) (.lit 1000000001)), true), ((.cmp .eql (.dvar 4) (.lit 0)), true)]
def e63g2_0 : Eqs := [((.lit 1), (.lit 1)), ((.pr 9 (.ap 3 (.pr 30 (.dvar 0) (.lit 0)) (.pr 30 (.dvar 5) (.lit 0)) (.dvar 2)) (.pr 9 (.pr 12 (.lit 0) (.pr 12 (.lit 0) (.pr 12 (.lit 28) (.pr 12 (.dvar 0) (.pr 12 (.dvar 0) (.pr 12 (.lit 0) (.pr 12 (.lit 12) (.pr 14 (.lit 0) (.lit 0))))))))) (.pr 13 (.lit 0) (.lit 0)))), (.ap 3 (.dvar 0) (.dvar 1) (.dvar 2))), ((.lit 1), (.lit 1))]
theorem x63g2_0 : runHB R0 0 0 (run p63g2_0 [con63 (inB 1 4398046511104)] 64 (Code.r (Code.r (Code.r (Code.r (Code.r c63))))) [(0, .opq 2 1024 0 (.slc [.int .i64, .int .i64, .int .i64, .int .i64, .int .i64, .int .i64, .int .i64]) (.lit 0) (.dvar 3)), (1, .sym .i64 (.dvar 0)), (2, .sym .i64 (.dvar 1)), (7, .sym .i64 (.dvar 4)), (8, .sym .i64 (.dvar 5))] [(1024, .opq 2 0 1023 (.slc [.int .i64, .int .i64, .int .i64, .int .i64, .int .i64, .int .i64, .int .i64]) (.dvar 2) (.dvar 3) [] 35)] 1025) .ret [⟨1024, 1024, 2, 0, 0⟩] [(6, .opq 2 1024 0 (.slc [.int .i64, .int .i64, .int .i64, .int .i64, .int .i64, .int .i64, .int .i64]) (.lit 0) (.lit 1))] [(1024, .opq 2 0 1023 (.slc [.int .i64, .int .i64, .int .i64, .int .i64, .int .i64, .int .i64, .int .i64]) (.ap 3 (.dvar 0) (.dvar 1) (.dvar 2)) (.lit 1) [] 35)] 1025 e63g2_0 = true := by kernel_rfl
def p63g2_1 : Dcs := [((.cmp .lss (.pr 7 (.dvar 2) (.lit 0)) (.lit 100000000)), true), ((.cmp .lss (.pr 30 (.dvar 5) (.lit 0)) (.lit (-4398046511104))), false), ((.cmp .lss (.pr 30 (.dvar 5) (.lit 0)) (.lit 4398046511104)), true), ((.cmp .lss (.dvar 1) (.lit (-2147483648))), true), ((.cmp .lss (.pr 7 (.ap 3 (.pr 30 (.dvar 0) (.lit 0)) (.pr 30 (.dvar 5) (.lit 0)) (.dvar 2)) (.lit 0)) (.lit 1000000001)), true), ((.cmp .eql (.dvar 4) (.lit 0)), false), ((.cmp .lss (.pr 7 (.pr 9 (.ap 3 (.pr 30 (.dvar 0) (.lit 0)) (.pr 30 (.dvar 5) (.lit 0)) (.dvar 2)) (.pr 9 (.pr 12 (.lit 0) (.pr 12 (.lit 0) (.pr 12 (.lit 28) (.pr 12 (.dvar 0) (.pr 12 (.dvar 0) (.pr 12 (.lit 0) (.pr 12 (.lit 12) (.pr 14 (.lit 0) (.lit 0))))))))) (.pr 13 (.lit 0) (.lit 0)))) (.lit 0)) (.lit 1000000001)), true)]
def e63g2_1 : Eqs := [((.lit 1), (.lit 1)), ((.pr 9 (.pr 9 (.ap 3 (.pr 30 (.dvar 0) (.lit 0)) (.pr 30 (.dvar 5) (.lit 0)) (.dvar 2)) (.pr 9 (.pr 12 (.lit 0) (.pr 12 (.lit 0) (.pr 12 (.lit 28) (.pr 12 (.dvar 0) (.pr 12 (.dvar 0) (.pr 12 (.lit 0) (.pr 12 (.lit 12) (.pr 14 (.lit 0) (.lit 0))))))))) (.pr 13 (.lit 0) (.lit 0)))) (.pr 9 (.pr 12 (.lit 0) (.pr 12 (.lit 0) (.pr 12 (.lit 22) (.pr 12 (.dvar 0) (.pr 12 (.dvar 0) (.pr 12 (.lit 0) (.pr 12 (.dvar 4) (.pr 14 (.lit 0) (.lit 0))))))))) (.pr 13 (.lit 0) (.lit 0)))), (.ap 3 (.dvar 0) (.dvar 1) (.dvar 2))), ((.lit 1), (.lit 1))]
theorem x63g2_1 : runHB R0 0 0 (run p63g2_1 [con63 (inB 1 4398046511104)] 64 (Code.r (Code.r (Code.r (Code.r (Code.r c63))))) [(0, .opq 2 1024 0 (.slc [.int .i64, .int .i64, .int .i64, .int .i64, .int .i64, .int .i64, .int .i64]) (.lit 0) (.dvar 3)), (1, .sym .i64 (.dvar 0)), (2, .sym .i64 (.dvar 1)), (7, .sym .i64 (.dvar 4)), (8, .sym .i64 (.dvar 5))] [(1024, .opq 2 0 1023 (.slc [.int .i64, .int .i64, .int .i64, .int .i64, .int .i64, .int .i64, .int .i64]) (.dvar 2) (.dvar 3) [] 35)] 1025) .ret [⟨1024, 1024, 3, 0, 0⟩] [(6, .opq 2 1024 0 (.slc [.int .i64, .int .i64, .int .i64, .int .i64, .int .i64, .int .i64, .int .i64]) (.lit 0) (.lit 1))] [(1024, .opq 2 0 1023 (.slc [.int .i64, .int .i64, .int .i64, .int .i64, .int .i64, .int .i64, .int .i64]) (.ap 3 (.dvar 0) (.dvar 1) (.dvar 2)) (.lit 1) [] 35)] 1025 e63g2_1 = true := by kernel_rfl
def p63h2_0 : Dcs := [((.cmp .lss (.pr 7 (.dvar 2) (.lit 0)) (.lit 100000000)), true), ((.cmp .lss (.pr 30 (.dvar 5) (.lit 0)) (.lit (-4398046511104))), false), ((.cmp .lss (.pr 30 (.dvar 5) (.lit 0)) (.lit 4398046511104)), true), ((.cmp .lss (.dvar 1) (.lit (-2147483648))), false), ((.cmp .lss (.dvar 1) (.lit 2147483648)), false), ((.cmp .lss (.pr 7 (.ap 3 (.pr 30 (.dvar 0) (.lit 0)) (.pr 30 (.dvar 5) (.lit 0)) (.dvar 2)) (.lit 0)) (.lit 1000000001)), true), ((.cmp .eql (.dvar 4) (.lit 0)), true)]
def e63h2_0 : Eqs := [((.lit 1), (.lit 1)), ((.pr 9 (.ap 3 (.pr 30 (.dvar 0) (.lit 0)) (.pr 30 (.dvar 5) (.lit 0)) (.dvar 2)) (.pr 9 (.pr 12 (.lit 0) (.pr 12 (.lit 0) (.pr 12 (.lit 28) (.pr 12 (.dvar 0) (.pr 12 (.dvar 0) (.pr 12 (.lit 0) (.pr 12 (.lit 12) (.pr 14 (.lit 0) (.lit 0))))))))) (.pr 13 (.lit 0) (.lit 0)))), (.ap 3 (.dvar 0) (.dvar 1) (.dvar 2))), ((.lit 1), (.lit 1))]
theorem x63h2_0 : runHB R0 0 0 (run p63h2_0 [con63 (inB 1 4398046511104)] 64 (Code.r (Code.r (Code.r (Code.r (Code.r c63))))) [(0, .opq 2 1024 0 (.slc [.int .i64, .int .i64, .int .i64, .int .i64, .int .i64, .int .i64, .int .i64]) (.lit 0) (.dvar 3)), (1, .sym .i64 (.dvar 0)), (2, .sym .i64 (.dvar 1)), (7, .sym .i64 (.dvar 4)), (8, .sym .i64 (.dvar 5))] [(1024, .opq 2 0 1023 (.slc [.int .i64, .int .i64, .int .i64, .int .i64, .int .i64, .int .i64, .int .i64]) (.dvar 2) (.dvar 3) [] 35)] 1025) .ret [⟨1024, 1024, 2, 0, 0⟩] [(6, .opq 2 1024 0 (.slc [.int .i64, .int .i64, .int .i64, .int .i64, .int .i64, .int .i64, .int .i64]) (.lit 0) (.lit 1))] [(1024, .opq 2 0 1023 (.slc [.int .i64, .int .i64, .int .i64, .int .i64, .int .i64, .int .i64, .int .i64]) (.ap 3 (.dvar 0) (.dvar 1) (.dvar 2)) (.lit 1) [] 35)] 1025 e63h2_0 = true := by kernel_rfl
def p63h2_1 : Dcs := [((.cmp .lss (.pr 7 (.dvar 2) (.lit 0)) (.lit 100000000)), true), ((.cmp .lss (.pr 30 (.dvar 5) (.lit 0)) (.lit (-4398046511104))), false), ((.cmp .lss (.pr 30 (.dvar 5) (.lit 0)) (.lit 4398046511104)), true), ((.cmp .lss (.dvar 1) (.lit (-2147483648))), false), ((.cmp .lss (.dvar 1) (.lit 2147483648)), false), ((.cmp .lss (.pr 7 (.ap 3 (.pr 30 (.dvar 0) (.lit 0)) (.pr 30 (.dvar 5) (.lit 0)) (.dvar 2)) (.lit 0)) (.lit 1000000001)), true), ((.cmp .eql (.dvar 4) (.lit 0)), false), ((.cmp .lss (.pr 7 (.pr 9 (.ap 3 (.pr 30 (.dvar 0) (.lit 0)) (.pr 30 (.dvar 5) (.lit 0)) (.dvar 2)) (.pr 9 (.pr 12 (.lit 0) (.pr 12 (.lit 0) (.pr 12 (.lit 28) (.pr 12 (.dvar 0) (.pr 12 (.dvar 0) (.pr 12 (.lit 0) (.pr 12 (.lit 12) (.pr 14 (.lit 0) (.lit 0))))))))) (.pr 13 (.lit 0) (.lit 0)))) (.lit 0)) (.lit 1000000001)), true)]
def e63h2_1 : Eqs := [((.lit 1), (.lit 1)), ((.pr 9 (.pr 9 (.ap 3 (.pr 30 (.dvar 0) (.lit 0)) (.pr 30 (.dvar 5) (.lit 0)) (.dvar 2)) (.pr 9 (.pr 12 (.lit 0) (.pr 12 (.lit 0) (.pr 12 (.lit 28) (.pr 12 (.dvar 0) (.pr 12 (.dvar 0) (.pr 12 (.lit 0) (.pr 12 (.lit 12) (.pr 14 (.lit 0) (.lit 0))))))))) (.pr 13 (.lit 0) (.lit 0)))) (.pr 9 (.pr 12 (.lit 0) (.pr 12 (.lit 0) (.pr 12 (.lit 22) (.pr 12 (.dvar 0) (.pr 12 (.dvar 0) (.pr 12 (.lit 0) (.pr 12 (.dvar 4) (.pr 14 (.lit 0) (.lit 0))))))))) (.pr 13 (.lit 0) (.lit 0)))), (.ap 3 (.dvar 0) (.dvar 1) (.dvar 2))), ((.lit 1), (.lit 1))]
theorem x63h2_1 : runHB R0 0 0 (run p63h2_1 [con63 (inB 1 4398046511104)] 64 (Code.r (Code.r (Code.r (Code.r (Code.r c63))))) [(0, .opq 2 1024 0 (.slc [.int .i64, .int .i64, .int .i64, .int .i64, .int .i64, .int .i64, .int .i64]) (.lit 0) (.dvar 3)), (1, .sym .i64 (.dvar 0)), (2, .sym .i64 (.dvar 1)), (7, .sym .i64 (.dvar 4)), (8, .sym .i64 (.dvar 5))] [(1024, .opq 2 0 1023 (.slc [.int .i64, .int .i64, .int .i64, .int .i64, .int .i64, .int .i64, .int .i64]) (.dvar 2) (.dvar 3) [] 35)] 1025) .ret [⟨1024, 1024, 3, 0, 0⟩] [(6, .opq 2 1024 0 (.slc [.int .i64, .int .i64, .int .i64, .int .i64, .int .i64, .int .i64, .int .i64]) (.lit 0) (.lit 1))] [(1024, .opq 2 0 1023 (.slc [.int .i64, .int .i64, .int .i64, .int .i64, .int .i64, .int .i64, .int .i64]) (.ap 3 (.dvar 0) (.dvar 1) (.dvar 2)) (.lit 1) [] 35)] 1025 e63h2_1 = true := by kernel_rfl
def p63g3_0 : Dcs := [((.cmp .lss (.pr 7 (.dvar 2) (.lit 0)) (.lit 100000000)), true), ((.cmp .lss (.pr 30 (.dvar 5) (.lit 0)) (.lit (-4503599627370496))), false), ((.cmp .lss (.pr 30 (.dvar 5) (.lit 0)) (.lit 4503599627370496)), true), ((.cmp .lss (.dvar 1) (.lit (-2147483648))), true), ((.cmp .lss (.pr 7 (.ap 3 (.pr 30 (.dvar 0) (.lit 0)) (.pr 30 (.dvar 5) (.lit 0)) (.dvar 2)) (.lit 0)) (.lit 1000000001)), true), ((.cmp .eql (.dvar 4) (.lit 0)), true)]
def e63g3_0 : Eqs := [((.lit 1), (.lit 1)), ((.pr 9 (.ap 3 (.pr 30 (.dvar 0) (.lit 0)) (.pr 30 (.dvar 5) (.lit 0)) (.dvar 2)) (.pr 9 (.pr 12 (.lit 0) (.pr 12 (.lit 0) (.pr 12 (.lit 28) (.pr 12 (.dvar 0) (.pr 12 (.dvar 0) (.pr 12 (.lit 0) (.pr 12 (.lit 12) (.pr 14 (.lit 0) (.lit 0))))))))) (.pr 13 (.lit 0) (.lit 0)))), (.ap 3 (.dvar 0) (.dvar 1) (.dvar 2))), ((.lit 1), (.lit 1))]
theorem x63g3_0 : runHB R0 0 0 (run p63g3_0 [con63 (inB 1 4503599627370496)] 64 (Code.r (Code.r (Code.r (Code.r (Code.r c63))))) [(0, .opq 2 1024 0 (.slc [.int .i64, .int .i64, .int .i64, .int .i64, .int .i64, .int .i64, .int .i64]) (.lit 0) (.dvar 3)), (1, .sym .i64 (.dvar 0)), (2, .sym .i64 (.dvar 1)), (7, .sym .i64 (.dvar 4)), (8, .sym .i64 (.dvar 5))] [(1024, .opq 2 0 1023 (.slc [.int .i64, .int .i64, .int .i64, .int .i64, .int .i64, .int .i64, .int .i64]) (.dvar 2) (.dvar 3) [] 35)] 1025) .ret [⟨1024, 1024, 2, 0, 0⟩] [(6, .opq 2 1024 0 (.slc [.int .i64, .int .i64, .int .i64, .int .i64, .int .i64, .int .i64, .int .i64]) (.lit 0) (.lit 1))] [(1024, .opq 2 0 1023 (.slc [.int .i64, .int .i64, .int .i64, .int .i64, .int .i64, .int .i64, .int .i64]) (.ap 3 (.dvar 0) (.dvar 1) (.dvar 2)) (.lit 1) [] 35)] 1025 e63g3_0 = true := by kernel_rfl
def p63g3_1 : Dcs := [((.cmp .lss (.pr 7 (.dvar 2) (.lit 0)) (.lit 100000000)), true), ((.cmp .lss (.pr 30 (.dvar 5) (.lit 0)) (.lit (-4503599627370496))), false), ((.cmp .lss (.pr 30 (.dvar 5) (.lit 0)) (.lit 4503599627370496)), true), ((.cmp .lss (.dvar 1) (.lit (-2147483648))), true), ((.cmp .lss (.pr 7 (.ap 3 (.pr 30 (.dvar 0) (.lit 0)) (.pr 30 (.dvar 5) (.lit 0)) (.dvar 2)) (.lit 0)) (.lit 1000000001)), true), ((.cmp .eql (.dvar 4) (.lit 0)), false), ((.cmp .lss (.pr 7 (.pr 9 (.ap 3 (.pr 30 (.dvar 0) (.lit 0)) (.pr 30 (.dvar 5) (.lit 0)) (.dvar 2)) (.pr 9 (.pr 12 (.lit 0) (.pr 12 (.lit 0) (.pr 12 (.lit 28) (.pr 12 (.dvar 0) (.pr 12 (.dvar 0) (.pr 12 (.lit 0) (.pr 12 (.lit 12) (.pr 14 (.lit 0) (.lit 0))))))))) (.pr 13 (.lit 0) (.lit 0)))) (.lit 0)) (.lit 1000000001)), true)]
def e63g3_1 : Eqs := [((.lit 1), (.lit 1)), ((.pr 9 (.pr 9 (.ap 3 (.pr 30 (.dvar 0) (.lit 0)) (.pr 30 (.dvar 5) (.lit 0)) (.dvar 2)) (.pr 9 (.pr 12 (.lit 0) (.pr 12 (.lit 0) (.pr 12 (.lit 28) (.pr 12 (.dvar 0) (.pr 12 (.dvar 0) (.pr 12 (.lit 0) (.pr 12 (.lit 12) (.pr 14 (.lit 0) (.lit 0))))))))) (.pr 13 (.lit 0) (.lit 0)))) (.pr 9 (.pr 12 (.lit 0) (.pr 12 (.lit 0) (.pr 12 (.lit 22) (.pr 12 (.dvar 0) (.pr 12 (.dvar 0) (.pr 12 (.lit 0) (.pr 12 (.dvar 4) (.pr 14 (.lit 0) (.lit 0))))))))) (.pr 13 (.lit 0) (.lit 0)))), (.ap 3 (.dvar 0) (.dvar 1) (.dvar 2))), ((.lit 1), (.lit 1))]
theorem x63g3_1 : runHB R0 0 0 (run p63g3_1 [con63 (inB 1 4503599627370496)] 64 (Code.r (Code.r (Code.r (Code.r (Code.r c63))))) [(0, .opq 2 1024 0 (.slc [.int .i64, .int .i64, .int .i64, .int .i64, .int .i64, .int .i64, .int .i64]) (.lit 0) (.dvar 3)), (1, .sym .i64 (.dvar 0)), (2, .sym .i64 (.dvar 1)), (7, .sym .i64 (.dvar 4)), (8, .sym .i64 (.dvar 5))] [(1024, .opq 2 0 1023 (.slc [.int .i64, .int .i64, .int .i64, .int .i64, .int .i64, .int .i64, .int .i64]) (.dvar 2) (.dvar 3) [] 35)] 1025) .ret [⟨1024, 1024, 3, 0, 0⟩] [(6, .opq 2 1024 0 (.slc [.int .i64, .int .i64, .int .i64, .int .i64, .int .i64, .int .i64, .int .i64]) (.lit 0) (.lit 1))] [(1024, .opq 2 0 1023 (.slc [.int .i64, .int .i64, .int .i64, .int .i64, .int .i64, .int .i64, .int .i64]) (.ap 3 (.dvar 0) (.dvar 1) (.dvar 2)) (.lit 1) [] 35)] 1025 e63g3_1 = true := by kernel_rfl
def p63h3_0 : Dcs := [((.cmp .lss (.pr 7 (.dvar 2) (.lit 0)) (.lit 100000000)), true), ((.cmp .lss (.pr 30 (.dvar 5) (.lit 0)) (.lit (-4503599627370496))), false), ((.cmp .lss (.pr 30 (.dvar 5) (.lit 0)) (.lit 4503599627370496)), true), ((.cmp .lss (.dvar 1) (.lit (-2147483648))), false), ((.cmp .lss (.dvar 1) (.lit 2147483648)), false), ((.cmp .lss (.pr 7 (.ap 3 (.pr 30 (.dvar 0) (.lit 0)) (.pr 30 (.dvar 5) (.lit 0)) (.dvar 2)) (.lit 0)) (.lit 1000000001)), true), ((.cmp .eql (.dvar 4) (.lit 0)), true)]
def e63h3_0 : Eqs := [((.lit 1), (.lit 1)), ((.pr 9 (.ap 3 (.pr 30 (.dvar 0) (.lit 0)) (.pr 30 (.dvar 5) (.lit 0)) (.dvar 2)) (.pr 9 (.pr 12 (.lit 0) (.pr 12 (.lit 0) (.pr 12 (.lit 28) (.pr 12 (.dvar 0) (.pr 12 (.dvar 0) (.pr 12 (.lit 0) (.pr 12 (.lit 12) (.pr 14 (.lit 0) (.lit 0))))))))) (.pr 13 (.lit 0) (.lit 0)))), (.ap 3 (.dvar 0) (.dvar 1) (.dvar 2))), ((.lit 1), (.lit 1))]
theorem x63h3_0 : runHB R0 0 0 (run p63h3_0 [con63 (inB 1 4503599627370496)] 64 (Code.r (Code.r (Code.r (Code.r (Code.r c63))))) [(0, .opq 2 1024 0 (.slc [.int .i64, .int .i64, .int .i64, .int .i64, .int .i64, .int .i64, .int .i64]) (.lit 0) (.dvar 3)), (1, .sym .i64 (.dvar 0)), (2, .sym .i64 (.dvar 1)), (7, .sym .i64 (.dvar 4)), (8, .sym .i64 (.dvar 5))] [(1024, .opq 2 0 1023 (.slc [.int .i64, .int .i64, .int .i64, .int .i64, .int .i64, .int .i64, .int .i64]) (.dvar 2) (.dvar 3) [] 35)] 1025) .ret [⟨1024, 1024, 2, 0, 0⟩] [(6, .opq 2 1024 0 (.slc [.int .i64, .int .i64, .int .i64, .int .i64, .int .i64, .int .i64, .int .i64]) (.lit 0) (.lit 1))] [(1024, .opq 2 0 1023 (.slc [.int .i64, .int .i64, .int .i64, .int .i64, .int .i64, .int .i64, .int .i64]) (.ap 3 (.dvar 0) (.dvar 1) (.dvar 2)) (.lit 1) [] 35)] 1025 e63h3_0 = true := by kernel_rfl
def p63h3_1 : Dcs := [((.cmp .lss (.pr 7 (.dvar 2) (.lit 0)) (.lit 100000000)), true), ((.cmp .lss (.pr 30 (.dvar 5) (.lit 0)) (.lit (-4503599627370496))), false), ((.cmp .lss (.pr 30 (.dvar 5) (.lit 0)) (.lit 4503599627370496)), true), ((.cmp .lss (.dvar 1) (.lit (-2147483648))), false), ((.cmp .lss (.dvar 1) (.lit 2147483648)), false), ((.cmp .lss (.pr 7 (.ap 3 (.pr 30 (.dvar 0) (.lit 0)) (.pr 30 (.dvar 5) (.lit 0)) (.dvar 2)) (.lit 0)) (.lit 1000000001)), true), ((.cmp .eql (.dvar 4) (.lit 0)), false), ((.cmp .lss (.pr 7 (.pr 9 (.ap 3 (.pr 30 (.dvar 0) (.lit 0)) (.pr 30 (.dvar 5) (.lit 0)) (.dvar 2)) (.pr 9 (.pr 12 (.lit 0) (.pr 12 (.lit 0) (.pr 12 (.lit 28) (.pr 12 (.dvar 0) (.pr 12 (.dvar 0) (.pr 12 (.lit 0) (.pr 12 (.lit 12) (.pr 14 (.lit 0) (.lit 0))))))))) (.pr 13 (.lit 0) (.lit 0)))) (.lit 0)) (.lit 1000000001)), true)]
def e63h3_1 : Eqs := [((.lit 1), (.lit 1)), ((.pr 9 (.pr 9 (.ap 3 (.pr 30 (.dvar 0) (.lit 0)) (.pr 30 (.dvar 5) (.lit 0)) (.dvar 2)) (.pr 9 (.pr 12 (.lit 0) (.pr 12 (.lit 0) (.pr 12 (.lit 28) (.pr 12 (.dvar 0) (.pr 12 (.dvar 0) (.pr 12 (.lit 0) (.pr 12 (.lit 12) (.pr 14 (.lit 0) (.lit 0))))))))) (.pr 13 (.lit 0) (.lit 0)))) (.pr 9 (.pr 12 (.lit 0) (.pr 12 (.lit 0) (.pr 12 (.lit 22) (.pr 12 (.dvar 0) (.pr 12 (.dvar 0) (.pr 12 (.lit 0) (.pr 12 (.dvar 4) (.pr 14 (.lit 0) (.lit 0))))))))) (.pr 13 (.lit 0) (.lit 0)))), (.ap 3 (.dvar 0) (.dvar 1) (.dvar 2))), ((.lit 1), (.lit 1))]
theorem x63h3_1 : runHB R0 0 0 (run p63h3_1 [con63 (inB 1 4503599627370496)] 64 (Code.r (Code.r (Code.r (Code.r (Code.r c63))))) [(0, .opq 2 1024 0 (.slc [.int .i64, .int .i64, .int .i64, .int .i64, .int .i64, .int .i64, .int .i64]) (.lit 0) (.dvar 3)), (1, .sym .i64 (.dvar 0)), (2, .sym .i64 (.dvar 1)), (7, .sym .i64 (.dvar 4)), (8, .sym .i64 (.dvar 5))] [(1024, .opq 2 0 1023 (.slc [.int .i64, .int .i64, .int .i64, .int .i64, .int .i64, .int .i64, .int .i64]) (.dvar 2) (.dvar 3) [] 35)] 1025) .ret [⟨1024, 1024, 3, 0, 0⟩] [(6, .opq 2 1024 0 (.slc [.int .i64, .int .i64, .int .i64, .int .i64, .int .i64, .int .i64, .int .i64]) (.lit 0) (.lit 1))] [(1024, .opq 2 0 1023 (.slc [.int .i64, .int .i64, .int .i64, .int .i64, .int .i64, .int .i64, .int .i64]) (.ap 3 (.dvar 0) (.dvar 1) (.dvar 2)) (.lit 1) [] 35)] 1025 e63h3_1 = true := by kernel_rfl
end
end Go.Proofs.YtbkokbjpbbpllaaGreat
namespace Go.Proofs.YtbkokbjpbbpllaaGreat
open Go.Tw
noncomputable section
/-! The program's lay: its contracts. -/
def A63 : List (Nat × AV) := [(2, SI 1), (1, SI 0), (0, LV 0 (D 3))]
def T63 : List (Nat × AV) := [(6, LV 0 (.lit 1))]
def O63 : List (Nat × Ob) := [(1024, LO r63 (.lit 1))]
def I63 : List (Nat × Ob) := [(1024, LO (D 2) (D 3))]
def G1 : List (Nat × AV) := [(0, LV 0 (D 3)), (1, SI 0), (2, SI 1)]
def G2 : List (Nat × AV) := [(0, LV 0 (D 3)), (1, SI 0), (2, SI 1), (7, SI 4)]
def G3 : List (Nat × AV) := [(0, LV 0 (D 3)), (1, SI 0), (2, SI 1), (7, SI 4), (8, SI 5)]
def rest63 : Code := Code.r (Code.r (Code.r (Code.r (Code.r c63))))
theorem c63_eq : c63 = .seq (Code.l c63) (.seq (Code.l (Code.r c63)) (.seq (Code.l (Code.r (Code.r c63))) (.seq (Code.l (Code.r (Code.r (Code.r c63)))) (.seq (Code.l (Code.r (Code.r (Code.r (Code.r c63))))) rest63)))) := by kernel_rfl
theorem r63_dat {v : Val} (hF : v.fn = F0) : @Sx.dat v r63 = .lst ((@Sx.dat v (D 2)).toL ++ layI (@Sx.dat v (D 0)).toI (@Sx.dat v (D 1)).toI) := by
  show v.fn 3 _ _ _ = _
  rw [hF]; rfl
abbrev V63 (r e : Int) (x y : Dat) : Val := VA [.int r, .int e, x, y, .int (loOf e), .int (hiOf e)]
theorem and4095 (e : Int) : bitsA .i64 (· &&& ·) e 4095 = e % 4096 := and_mask e 12 (by omega)
theorem app2 {x : List (List Dat)} {a c : List Dat} : (x ++ [a]) ++ [c] = x ++ [a, c] := by rw [List.append_assoc]; rfl
theorem lenA {x : List (List Dat)} {a : List Dat} : (x ++ [a]).length = x.length + 1 := by simp
set_option maxRecDepth 20000 in
theorem lay63 {v : Val} (hF : v.fn = F0) (hx : ((@Sx.dat v (D 2)).toL.length : Int) < 100000000)
    (hbig : ¬ (-2147483648 ≤ (@Sx.dat v (D 1)).toI ∧ (@Sx.dat v (D 1)).toI < 2147483648) → HR 0 0 64 (V63 (@Sx.dat v (D 0)).toI (@Sx.dat v (D 1)).toI (@Sx.dat v (D 2)) (@Sx.dat v (D 3))) rest63 (envL G3) (toldSt b0 I63 1025) .ret v (envL T63) (toldSt b0 O63 1025)) :
    HR 0 0 64 v c63 (envL A63) (toldSt b0 I63 1025) .ret v (envL T63) (toldSt b0 O63 1025) := by
  have hret := r63_dat hF
  generalize hr : (@Sx.dat v (D 0)).toI = r at *
  generalize he : (@Sx.dat v (D 1)).toI = e at *
  generalize hxx : @Sx.dat v (D 2) = x at *
  generalize hyy : @Sx.dat v (D 3) = y at *
  let V1 : Val := VA [.int r, .int e, x, y]
  let V2 : Val := VA [.int r, .int e, x, y, .int (e % 4096)]
  let V3 : Val := VA [.int r, .int e, x, y, .int (loOf e)]
  let V4 : Val := V63 r e x y
  have s0 : decide ((x.toL.length : Int) < 1000000001) = true := decide_eq_true (by omega)
  have s1 : ∀ a, decide (((x.toL ++ [a]).length : Int) < 1000000001) = true := fun a => decide_eq_true (by rw [lenA]; omega)
  rw [c63_eq]
  have h0 : HR 0 0 64 v (Code.l c63) (envL A63) (toldSt b0 I63 1025) .normal V1 (envL G1) (toldSt b0 I63 1025) := rn hF holds0 nocon (Nat.le_refl 0) x63a_0
    (eqs_cons hyy (eqs_cons (congrArg Dat.int hr) (eqs_cons (congrArg Dat.int he) (eqs_cons hxx (eqs_cons hyy eqs_nil)))))
  by_cases hs : -2048 ≤ e ∧ e < 2048
  · refine h0.seq (Nat.le_refl 0) (HT.seq_out (rn (v := V1) rfl ?_ nocon (Nat.le_refl 0) x63b_1 ?_) (by simp))
    · simp only [Holds, p63b_1, List.forall_mem_cons]
      exact ⟨decide_eq_false (show ¬ e < -2048 by omega), decide_eq_true (show e < 2048 by omega), s0, fun _ h => by cases h⟩
    · refine eqs_cons rfl (eqs_cons ?_ (eqs_cons rfl eqs_nil))
      exact Eq.trans (show _ = Dat.lst (x.toL ++ [lnI 22 r 0 0 e]) from rfl) (by rw [← layI_small hs]; exact hret.symm)
  · have h1 : HR 0 0 64 V1 (Code.l (Code.r c63)) (envL G1) (toldSt b0 I63 1025) .normal V1 (envL G1) (toldSt b0 I63 1025) := by
      by_cases hlt : e < -2048
      · refine rn (v := V1) rfl ?_ nocon (Nat.le_refl 0) x63b_0 (eqs_cons rfl (eqs_cons rfl (eqs_cons rfl (eqs_cons rfl (eqs_cons rfl eqs_nil)))))
        simp only [Holds, p63b_0, List.forall_mem_cons]
        exact ⟨decide_eq_true (show e < -2048 from hlt), fun _ h => by cases h⟩
      · refine rn (v := V1) rfl ?_ nocon (Nat.le_refl 0) x63b_2 (eqs_cons rfl (eqs_cons rfl (eqs_cons rfl (eqs_cons rfl (eqs_cons rfl eqs_nil)))))
        simp only [Holds, p63b_2, List.forall_mem_cons]
        exact ⟨decide_eq_false (show ¬ e < -2048 from hlt), decide_eq_false (show ¬ e < 2048 by omega), fun _ h => by cases h⟩
    have h2 : HR 0 0 64 V1 (Code.l (Code.r (Code.r c63))) (envL G1) (toldSt b0 I63 1025) .normal V2 (envL G2) (toldSt b0 I63 1025) := rn (v := V1) rfl holds0 nocon (Nat.le_refl 0) x63c_0
      (eqs_cons rfl (eqs_cons rfl (eqs_cons rfl (eqs_cons (congrArg Dat.int (and4095 e)) (eqs_cons rfl (eqs_cons rfl eqs_nil))))))
    have h3 : HR 0 0 64 V2 (Code.l (Code.r (Code.r (Code.r c63)))) (envL G2) (toldSt b0 I63 1025) .normal V3 (envL G2) (toldSt b0 I63 1025) := by
      by_cases hm : e % 4096 < 2048
      · refine rn (v := V2) rfl ?_ nocon (Nat.le_refl 0) x63d_0 (eqs_cons rfl (eqs_cons rfl (eqs_cons rfl (eqs_cons (congrArg Dat.int (show e % 4096 = loOf e by unfold loOf; rw [if_pos hm])) (eqs_cons rfl (eqs_cons rfl eqs_nil))))))
        simp only [Holds, p63d_0, List.forall_mem_cons]
        exact ⟨decide_eq_true (show e % 4096 < 2048 from hm), fun _ h => by cases h⟩
      · refine rn (v := V2) rfl ?_ nocon (Nat.le_refl 0) x63d_1 (eqs_cons rfl (eqs_cons rfl (eqs_cons rfl (eqs_cons (congrArg Dat.int (show wrapI .i64 (e % 4096 - 4096) = loOf e by unfold loOf; rw [if_neg hm, wrap_small (by omega) (by omega)])) (eqs_cons rfl (eqs_cons rfl eqs_nil))))))
        simp only [Holds, p63d_1, List.forall_mem_cons]
        exact ⟨decide_eq_false (show ¬ e % 4096 < 2048 from hm), fun _ h => by cases h⟩
    have h4 : HR 0 0 64 V3 (Code.l (Code.r (Code.r (Code.r (Code.r c63))))) (envL G2) (toldSt b0 I63 1025) .normal V4 (envL G3) (toldSt b0 I63 1025) := rn (v := V3) rfl holds0 nocon (Nat.le_refl 0) x63e_0
      (eqs_cons rfl (eqs_cons rfl (eqs_cons rfl (eqs_cons rfl (eqs_cons rfl (eqs_cons rfl (eqs_cons rfl eqs_nil)))))))
    refine h0.seq (Nat.le_refl 0) (h1.seq (Nat.le_refl 0) (h2.seq (Nat.le_refl 0) (h3.seq (Nat.le_refl 0) (h4.seq (Nat.le_refl 0) ?_))))
    by_cases hm : -2147483648 ≤ e ∧ e < 2147483648
    · have hlay := layI_mid (r := r) hs hm
      have q1 : decide (e < -2147483648) = false := decide_eq_false (by omega)
      have q2 : decide (e < 2147483648) = true := decide_eq_true (by omega)
      by_cases hh : hiOf e = 524288
      · have q3 : (hiOf e == 524288) = true := by simpa using hh
        by_cases hz : loOf e = 0
        · have q4 : (loOf e == 0) = true := by simpa using hz
          rw [if_pos hh, if_pos hz] at hlay
          refine rn (v := V4) rfl ?_ nocon (Nat.le_refl 0) x63f_0 ?_
          · simp only [Holds, p63f_0, List.forall_mem_cons]
            exact ⟨q1, q2, q3, s0, q4, fun _ h => by cases h⟩
          · refine eqs_cons rfl (eqs_cons ?_ (eqs_cons rfl eqs_nil))
            exact Eq.trans (show _ = Dat.lst (x.toL ++ [lnI 1 r 0 0 (-524288)]) from rfl) (by rw [← hlay]; exact hret.symm)
        · have q4 : (loOf e == 0) = false := by simpa using hz
          rw [if_pos hh, if_neg hz] at hlay
          refine rn (v := V4) rfl ?_ nocon (Nat.le_refl 0) x63f_1 ?_
          · simp only [Holds, p63f_1, List.forall_mem_cons]
            exact ⟨q1, q2, q3, s0, q4, by
              have h1 : @Sx.dat V4 (.pr 9 (D 2) (.pr 9 (.pr 12 (.lit 0) (.pr 12 (.lit 0) (.pr 12 (.lit 1) (.pr 12 (D 0) (.pr 12 (.lit 0) (.pr 12 (.lit 0) (.pr 12 (.lit (-524288)) (.pr 14 (.lit 0) (.lit 0))))))))) (.pr 13 (.lit 0) (.lit 0)))) = Dat.lst (x.toL ++ [lnI 1 r 0 0 (-524288)]) := rfl
              show decide (((@Sx.dat V4 (.pr 9 (D 2) (.pr 9 (.pr 12 (.lit 0) (.pr 12 (.lit 0) (.pr 12 (.lit 1) (.pr 12 (D 0) (.pr 12 (.lit 0) (.pr 12 (.lit 0) (.pr 12 (.lit (-524288)) (.pr 14 (.lit 0) (.lit 0))))))))) (.pr 13 (.lit 0) (.lit 0))))).toL.length : Int) < 1000000001) = true
              rw [h1]
              exact s1 _, fun _ h => by cases h⟩
          · refine eqs_cons rfl (eqs_cons ?_ (eqs_cons rfl eqs_nil))
            exact Eq.trans (show _ = Dat.lst ((x.toL ++ [lnI 1 r 0 0 (-524288)]) ++ [lnI 31 r r 0 (loOf e)]) from rfl) (by rw [app2, ← hlay]; exact hret.symm)
      · have q3 : (hiOf e == 524288) = false := by simpa using hh
        by_cases hz : loOf e = 0
        · have q4 : (loOf e == 0) = true := by simpa using hz
          rw [if_neg hh, if_pos hz] at hlay
          refine rn (v := V4) rfl ?_ nocon (Nat.le_refl 0) x63f_2 ?_
          · simp only [Holds, p63f_2, List.forall_mem_cons]
            exact ⟨q1, q2, q3, s0, q4, fun _ h => by cases h⟩
          · refine eqs_cons rfl (eqs_cons ?_ (eqs_cons rfl eqs_nil))
            exact Eq.trans (show _ = Dat.lst (x.toL ++ [lnI 1 r 0 0 (hiOf e)]) from rfl) (by rw [← hlay]; exact hret.symm)
        · have q4 : (loOf e == 0) = false := by simpa using hz
          rw [if_neg hh, if_neg hz] at hlay
          refine rn (v := V4) rfl ?_ nocon (Nat.le_refl 0) x63f_3 ?_
          · simp only [Holds, p63f_3, List.forall_mem_cons]
            exact ⟨q1, q2, q3, s0, q4, s1 (lnI 1 r 0 0 (hiOf e)), fun _ h => by cases h⟩
          · refine eqs_cons rfl (eqs_cons ?_ (eqs_cons rfl eqs_nil))
            exact Eq.trans (show _ = Dat.lst ((x.toL ++ [lnI 1 r 0 0 (hiOf e)]) ++ [lnI 31 r r 0 (loOf e)]) from rfl) (by rw [app2, ← hlay]; exact hret.symm)
    · exact hbig hm
theorem lay63_con {p : Dcs} (h : ∀ v : Val, v.fn = F0 → @Holds v p → ((@Sx.dat v (D 2)).toL.length : Int) < 100000000 → ¬ (-2147483648 ≤ (@Sx.dat v (D 1)).toI ∧ (@Sx.dat v (D 1)).toI < 2147483648) → HR 0 0 64 (V63 (@Sx.dat v (D 0)).toI (@Sx.dat v (D 1)).toI (@Sx.dat v (D 2)) (@Sx.dat v (D 3))) rest63 (envL G3) (toldSt b0 I63 1025) .ret v (envL T63) (toldSt b0 O63 1025)) : (con63 p).Sound F0 P gl0 b0 R0 := by
  refine con_sound (fn := Tryz.f63) (code := c63) Tryz.func63 (by rfl) (by kernel_rfl) (by kernel_rfl) fun v hF hp => ?_
  have hx : ((@Sx.dat v (D 2)).toL.length : Int) < 100000000 := by
    have h1 : @Bx.eval v (.cmp .lss (lenS (D 2)) (.lit 100000000)) = true := hp (.cmp .lss (lenS (D 2)) (.lit 100000000), true) (List.mem_append_left _ (List.mem_singleton.2 rfl))
    have h2 : decide (((@Sx.dat v (D 2)).toL.length : Int) < 100000000) = true := h1
    exact of_decide_eq_true h2
  refine ⟨.ret, T63, _, _, .inl rfl, ?_, by rfl, rfl⟩
  exact lay63 hF hx (h v hF (fun c hc => hp c (List.mem_append_right _ hc)) hx)
theorem con63_0 : (con63 (inB 1 2147483648)).Sound F0 P gl0 b0 R0 := by
  refine lay63_con fun v _ hp _ hn => ?_
  have h1 := hp (.cmp .lss (D 1) (.lit (-2147483648)), false) (by simp [inB])
  have h2 := hp (.cmp .lss (D 1) (.lit 2147483648), true) (by simp [inB])
  exact absurd ⟨Int.not_lt.1 (of_decide_eq_false h1), of_decide_eq_true h2⟩ hn
theorem big63_1 {v : Val} (hF : v.fn = F0) {r e : Int} {x y : Dat} (hr : (@Sx.dat v (D 0)).toI = r) (he : (@Sx.dat v (D 1)).toI = e) (hxx : @Sx.dat v (D 2) = x) (hx : (x.toL.length : Int) < 100000000) (hn : ¬ (-2147483648 ≤ e ∧ e < 2147483648)) (hb : -2147483648 ≤ hiOf e ∧ hiOf e < 2147483648) (hc : (con63 (inB 1 2147483648)).Sound F0 P gl0 b0 R0) :
    HR 0 0 64 (V63 r e x y) rest63 (envL G3) (toldSt b0 I63 1025) .ret v (envL T63) (toldSt b0 O63 1025) := by
  have hret := r63_dat hF
  rw [hr, he, hxx] at hret
  have hlay := layI_big (r := r) hn
  have hlen := layI_len r (hiOf e)
  have hcs : ∀ c ∈ [con63 (inB 1 2147483648)], c.Sound F0 P gl0 b0 R0 := fun c h => by
    rw [List.mem_singleton.1 h]; exact hc
  have w0 : decide ((x.toL.length : Int) < 100000000) = true := decide_eq_true hx
  have w1 : decide (hiOf e < -2147483648) = false := decide_eq_false (by omega)
  have w2 : decide (hiOf e < 2147483648) = true := decide_eq_true (by omega)
  have w3 : decide (((x.toL ++ layI r (hiOf e)).length : Int) < 1000000001) = true := decide_eq_true (by rw [List.length_append]; omega)
  have w4 : decide ((((x.toL ++ layI r (hiOf e)) ++ [lnI 28 r r 0 12]).length : Int) < 1000000001) = true := decide_eq_true (by rw [lenA, List.length_append]; omega)
  by_cases hz : loOf e = 0
  · have q4 : (loOf e == 0) = true := by simpa using hz
    rw [if_pos hz] at hlay
    by_cases hlt : e < -2147483648
    · refine rn (v := V63 r e x y) rfl ?_ hcs (Nat.le_refl 0) x63g1_0 ?_
      · simp only [Holds, p63g1_0, List.forall_mem_cons]
        exact ⟨w0, w1, w2, decide_eq_true (show e < -2147483648 by omega), w3, q4, fun _ h => by cases h⟩
      · refine eqs_cons rfl (eqs_cons ?_ (eqs_cons rfl eqs_nil))
        exact Eq.trans (show _ = Dat.lst ((x.toL ++ layI r (hiOf e)) ++ [lnI 28 r r 0 12]) from rfl) (by rw [List.append_assoc, ← hlay]; exact hret.symm)
    · refine rn (v := V63 r e x y) rfl ?_ hcs (Nat.le_refl 0) x63h1_0 ?_
      · simp only [Holds, p63h1_0, List.forall_mem_cons]
        exact ⟨w0, w1, w2, decide_eq_false (show ¬ e < -2147483648 by omega), decide_eq_false (show ¬ e < 2147483648 by omega), w3, q4, fun _ h => by cases h⟩
      · refine eqs_cons rfl (eqs_cons ?_ (eqs_cons rfl eqs_nil))
        exact Eq.trans (show _ = Dat.lst ((x.toL ++ layI r (hiOf e)) ++ [lnI 28 r r 0 12]) from rfl) (by rw [List.append_assoc, ← hlay]; exact hret.symm)
  · have q4 : (loOf e == 0) = false := by simpa using hz
    rw [if_neg hz] at hlay
    by_cases hlt : e < -2147483648
    · refine rn (v := V63 r e x y) rfl ?_ hcs (Nat.le_refl 0) x63g1_1 ?_
      · simp only [Holds, p63g1_1, List.forall_mem_cons]
        exact ⟨w0, w1, w2, decide_eq_true (show e < -2147483648 by omega), w3, q4, w4, fun _ h => by cases h⟩
      · refine eqs_cons rfl (eqs_cons ?_ (eqs_cons rfl eqs_nil))
        exact Eq.trans (show _ = Dat.lst (((x.toL ++ layI r (hiOf e)) ++ [lnI 28 r r 0 12]) ++ [lnI 22 r r 0 (loOf e)]) from rfl) (by rw [app2, List.append_assoc, ← hlay]; exact hret.symm)
    · refine rn (v := V63 r e x y) rfl ?_ hcs (Nat.le_refl 0) x63h1_1 ?_
      · simp only [Holds, p63h1_1, List.forall_mem_cons]
        exact ⟨w0, w1, w2, decide_eq_false (show ¬ e < -2147483648 by omega), decide_eq_false (show ¬ e < 2147483648 by omega), w3, q4, w4, fun _ h => by cases h⟩
      · refine eqs_cons rfl (eqs_cons ?_ (eqs_cons rfl eqs_nil))
        exact Eq.trans (show _ = Dat.lst (((x.toL ++ layI r (hiOf e)) ++ [lnI 28 r r 0 12]) ++ [lnI 22 r r 0 (loOf e)]) from rfl) (by rw [app2, List.append_assoc, ← hlay]; exact hret.symm)
theorem big63_2 {v : Val} (hF : v.fn = F0) {r e : Int} {x y : Dat} (hr : (@Sx.dat v (D 0)).toI = r) (he : (@Sx.dat v (D 1)).toI = e) (hxx : @Sx.dat v (D 2) = x) (hx : (x.toL.length : Int) < 100000000) (hn : ¬ (-2147483648 ≤ e ∧ e < 2147483648)) (hb : -4398046511104 ≤ hiOf e ∧ hiOf e < 4398046511104) (hc : (con63 (inB 1 4398046511104)).Sound F0 P gl0 b0 R0) :
    HR 0 0 64 (V63 r e x y) rest63 (envL G3) (toldSt b0 I63 1025) .ret v (envL T63) (toldSt b0 O63 1025) := by
  have hret := r63_dat hF
  rw [hr, he, hxx] at hret
  have hlay := layI_big (r := r) hn
  have hlen := layI_len r (hiOf e)
  have hcs : ∀ c ∈ [con63 (inB 1 4398046511104)], c.Sound F0 P gl0 b0 R0 := fun c h => by
    rw [List.mem_singleton.1 h]; exact hc
  have w0 : decide ((x.toL.length : Int) < 100000000) = true := decide_eq_true hx
  have w1 : decide (hiOf e < -4398046511104) = false := decide_eq_false (by omega)
  have w2 : decide (hiOf e < 4398046511104) = true := decide_eq_true (by omega)
  have w3 : decide (((x.toL ++ layI r (hiOf e)).length : Int) < 1000000001) = true := decide_eq_true (by rw [List.length_append]; omega)
  have w4 : decide ((((x.toL ++ layI r (hiOf e)) ++ [lnI 28 r r 0 12]).length : Int) < 1000000001) = true := decide_eq_true (by rw [lenA, List.length_append]; omega)
  by_cases hz : loOf e = 0
  · have q4 : (loOf e == 0) = true := by simpa using hz
    rw [if_pos hz] at hlay
    by_cases hlt : e < -2147483648
    · refine rn (v := V63 r e x y) rfl ?_ hcs (Nat.le_refl 0) x63g2_0 ?_
      · simp only [Holds, p63g2_0, List.forall_mem_cons]
        exact ⟨w0, w1, w2, decide_eq_true (show e < -2147483648 by omega), w3, q4, fun _ h => by cases h⟩
      · refine eqs_cons rfl (eqs_cons ?_ (eqs_cons rfl eqs_nil))
        exact Eq.trans (show _ = Dat.lst ((x.toL ++ layI r (hiOf e)) ++ [lnI 28 r r 0 12]) from rfl) (by rw [List.append_assoc, ← hlay]; exact hret.symm)
    · refine rn (v := V63 r e x y) rfl ?_ hcs (Nat.le_refl 0) x63h2_0 ?_
      · simp only [Holds, p63h2_0, List.forall_mem_cons]
        exact ⟨w0, w1, w2, decide_eq_false (show ¬ e < -2147483648 by omega), decide_eq_false (show ¬ e < 2147483648 by omega), w3, q4, fun _ h => by cases h⟩
      · refine eqs_cons rfl (eqs_cons ?_ (eqs_cons rfl eqs_nil))
        exact Eq.trans (show _ = Dat.lst ((x.toL ++ layI r (hiOf e)) ++ [lnI 28 r r 0 12]) from rfl) (by rw [List.append_assoc, ← hlay]; exact hret.symm)
  · have q4 : (loOf e == 0) = false := by simpa using hz
    rw [if_neg hz] at hlay
    by_cases hlt : e < -2147483648
    · refine rn (v := V63 r e x y) rfl ?_ hcs (Nat.le_refl 0) x63g2_1 ?_
      · simp only [Holds, p63g2_1, List.forall_mem_cons]
        exact ⟨w0, w1, w2, decide_eq_true (show e < -2147483648 by omega), w3, q4, w4, fun _ h => by cases h⟩
      · refine eqs_cons rfl (eqs_cons ?_ (eqs_cons rfl eqs_nil))
        exact Eq.trans (show _ = Dat.lst (((x.toL ++ layI r (hiOf e)) ++ [lnI 28 r r 0 12]) ++ [lnI 22 r r 0 (loOf e)]) from rfl) (by rw [app2, List.append_assoc, ← hlay]; exact hret.symm)
    · refine rn (v := V63 r e x y) rfl ?_ hcs (Nat.le_refl 0) x63h2_1 ?_
      · simp only [Holds, p63h2_1, List.forall_mem_cons]
        exact ⟨w0, w1, w2, decide_eq_false (show ¬ e < -2147483648 by omega), decide_eq_false (show ¬ e < 2147483648 by omega), w3, q4, w4, fun _ h => by cases h⟩
      · refine eqs_cons rfl (eqs_cons ?_ (eqs_cons rfl eqs_nil))
        exact Eq.trans (show _ = Dat.lst (((x.toL ++ layI r (hiOf e)) ++ [lnI 28 r r 0 12]) ++ [lnI 22 r r 0 (loOf e)]) from rfl) (by rw [app2, List.append_assoc, ← hlay]; exact hret.symm)
theorem big63_3 {v : Val} (hF : v.fn = F0) {r e : Int} {x y : Dat} (hr : (@Sx.dat v (D 0)).toI = r) (he : (@Sx.dat v (D 1)).toI = e) (hxx : @Sx.dat v (D 2) = x) (hx : (x.toL.length : Int) < 100000000) (hn : ¬ (-2147483648 ≤ e ∧ e < 2147483648)) (hb : -4503599627370496 ≤ hiOf e ∧ hiOf e < 4503599627370496) (hc : (con63 (inB 1 4503599627370496)).Sound F0 P gl0 b0 R0) :
    HR 0 0 64 (V63 r e x y) rest63 (envL G3) (toldSt b0 I63 1025) .ret v (envL T63) (toldSt b0 O63 1025) := by
  have hret := r63_dat hF
  rw [hr, he, hxx] at hret
  have hlay := layI_big (r := r) hn
  have hlen := layI_len r (hiOf e)
  have hcs : ∀ c ∈ [con63 (inB 1 4503599627370496)], c.Sound F0 P gl0 b0 R0 := fun c h => by
    rw [List.mem_singleton.1 h]; exact hc
  have w0 : decide ((x.toL.length : Int) < 100000000) = true := decide_eq_true hx
  have w1 : decide (hiOf e < -4503599627370496) = false := decide_eq_false (by omega)
  have w2 : decide (hiOf e < 4503599627370496) = true := decide_eq_true (by omega)
  have w3 : decide (((x.toL ++ layI r (hiOf e)).length : Int) < 1000000001) = true := decide_eq_true (by rw [List.length_append]; omega)
  have w4 : decide ((((x.toL ++ layI r (hiOf e)) ++ [lnI 28 r r 0 12]).length : Int) < 1000000001) = true := decide_eq_true (by rw [lenA, List.length_append]; omega)
  by_cases hz : loOf e = 0
  · have q4 : (loOf e == 0) = true := by simpa using hz
    rw [if_pos hz] at hlay
    by_cases hlt : e < -2147483648
    · refine rn (v := V63 r e x y) rfl ?_ hcs (Nat.le_refl 0) x63g3_0 ?_
      · simp only [Holds, p63g3_0, List.forall_mem_cons]
        exact ⟨w0, w1, w2, decide_eq_true (show e < -2147483648 by omega), w3, q4, fun _ h => by cases h⟩
      · refine eqs_cons rfl (eqs_cons ?_ (eqs_cons rfl eqs_nil))
        exact Eq.trans (show _ = Dat.lst ((x.toL ++ layI r (hiOf e)) ++ [lnI 28 r r 0 12]) from rfl) (by rw [List.append_assoc, ← hlay]; exact hret.symm)
    · refine rn (v := V63 r e x y) rfl ?_ hcs (Nat.le_refl 0) x63h3_0 ?_
      · simp only [Holds, p63h3_0, List.forall_mem_cons]
        exact ⟨w0, w1, w2, decide_eq_false (show ¬ e < -2147483648 by omega), decide_eq_false (show ¬ e < 2147483648 by omega), w3, q4, fun _ h => by cases h⟩
      · refine eqs_cons rfl (eqs_cons ?_ (eqs_cons rfl eqs_nil))
        exact Eq.trans (show _ = Dat.lst ((x.toL ++ layI r (hiOf e)) ++ [lnI 28 r r 0 12]) from rfl) (by rw [List.append_assoc, ← hlay]; exact hret.symm)
  · have q4 : (loOf e == 0) = false := by simpa using hz
    rw [if_neg hz] at hlay
    by_cases hlt : e < -2147483648
    · refine rn (v := V63 r e x y) rfl ?_ hcs (Nat.le_refl 0) x63g3_1 ?_
      · simp only [Holds, p63g3_1, List.forall_mem_cons]
        exact ⟨w0, w1, w2, decide_eq_true (show e < -2147483648 by omega), w3, q4, w4, fun _ h => by cases h⟩
      · refine eqs_cons rfl (eqs_cons ?_ (eqs_cons rfl eqs_nil))
        exact Eq.trans (show _ = Dat.lst (((x.toL ++ layI r (hiOf e)) ++ [lnI 28 r r 0 12]) ++ [lnI 22 r r 0 (loOf e)]) from rfl) (by rw [app2, List.append_assoc, ← hlay]; exact hret.symm)
    · refine rn (v := V63 r e x y) rfl ?_ hcs (Nat.le_refl 0) x63h3_1 ?_
      · simp only [Holds, p63h3_1, List.forall_mem_cons]
        exact ⟨w0, w1, w2, decide_eq_false (show ¬ e < -2147483648 by omega), decide_eq_false (show ¬ e < 2147483648 by omega), w3, q4, w4, fun _ h => by cases h⟩
      · refine eqs_cons rfl (eqs_cons ?_ (eqs_cons rfl eqs_nil))
        exact Eq.trans (show _ = Dat.lst (((x.toL ++ layI r (hiOf e)) ++ [lnI 28 r r 0 12]) ++ [lnI 22 r r 0 (loOf e)]) from rfl) (by rw [app2, List.append_assoc, ← hlay]; exact hret.symm)
theorem con63_1 : (con63 (inB 1 4398046511104)).Sound F0 P gl0 b0 R0 := by
  refine lay63_con fun v hF hp hx hn => ?_
  have h1 := of_decide_eq_false (hp (.cmp .lss (D 1) (.lit (-4398046511104)), false) (by simp [inB]))
  have h2 := of_decide_eq_true (hp (.cmp .lss (D 1) (.lit 4398046511104), true) (by simp [inB]))
  exact big63_1 hF rfl rfl rfl hx hn (by have := hiOf_bound (@Sx.dat v (D 1)).toI 4398046511104 (by omega) ⟨Int.not_lt.1 h1, h2⟩ (by omega); omega) con63_0
theorem con63_2 : (con63 (inB 1 4503599627370496)).Sound F0 P gl0 b0 R0 := by
  refine lay63_con fun v hF hp hx hn => ?_
  have h1 := of_decide_eq_false (hp (.cmp .lss (D 1) (.lit (-4503599627370496)), false) (by simp [inB]))
  have h2 := of_decide_eq_true (hp (.cmp .lss (D 1) (.lit 4503599627370496), true) (by simp [inB]))
  exact big63_2 hF rfl rfl rfl hx hn (by have := hiOf_bound (@Sx.dat v (D 1)).toI 4503599627370496 (by omega) ⟨Int.not_lt.1 h1, h2⟩ (by omega); omega) con63_1
theorem con63_ok : (con63 []).Sound F0 P gl0 b0 R0 :=
  lay63_con fun v hF _ hx hn => big63_3 hF rfl rfl rfl hx hn (by have := hiOf_top (@Sx.dat v (D 1)).toI; omega) con63_2
end
end Go.Proofs.YtbkokbjpbbpllaaGreat
