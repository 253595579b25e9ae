/-
  A part of the law's proof over the abstract evaluator. Conditions: those of each theorem, as it states them.
-/
import Derived.Test.YtbkokbjpbbpllaaGreatLayA
namespace Go.Proofs.YtbkokbjpbbpllaaGreat
open Go.Tw
noncomputable section
/-! The document's lay: its runs, piece by piece. -/
def c55 : Code := match Tryz.f55.body with
  | some c => c
  | none => .skip
def L7 : List Sh := [.int .i64, .int .i64, .int .i64, .int .i64, .int .i64, .int .i64, .int .i64]
def SI (i : Nat) : AV := .sym .i64 (D i)
def inB (i : Nat) (b : Int) : Dcs := [(.cmp .lss (D i) (.lit (-b)), false), (.cmp .lss (D i) (.lit b), true)]
def r55 : Sx := .ap 2 (D 0) (D 1) (.lit 0)
def LO (x y : Sx) : Ob := .opq 2 0 gid (.slc L7) x y [] 35
def con55 (p : Dcs) : Con := { f := 55, args := [SI 0, SI 1], pre := p, res := .opq 2 1024 0 (.slc L7) (.lit 0) (.lit 1), objs := [LO r55 (.lit 1)] }
def p55a_0 : Dcs := []
def e55a_0 : Eqs := [((.pr 30 (.dvar 0) (.lit 0)), (.pr 30 (.dvar 0) (.lit 0))), ((.pr 30 (.dvar 1) (.lit 0)), (.pr 30 (.dvar 1) (.lit 0)))]
theorem x55a_0 : runHB R0 0 0 (run p55a_0 [] 72 (Code.l c55) [(1, .sym .i64 (.dvar 1)), (0, .sym .i64 (.dvar 0))] [] 1024) .normal [] [(0, .sym .i64 (.dvar 0)), (1, .sym .i64 (.dvar 1))] [] 1024 e55a_0 = true := by kernel_rfl
def p55b_0 : Dcs := [((.cmp .lss (.dvar 1) (.lit (-2048))), true)]
def e55b_0 : Eqs := [((.pr 30 (.dvar 0) (.lit 0)), (.pr 30 (.dvar 0) (.lit 0))), ((.pr 30 (.dvar 1) (.lit 0)), (.pr 30 (.dvar 1) (.lit 0)))]
theorem x55b_0 : runHB R0 0 0 (run p55b_0 [] 72 (Code.l (Code.r c55)) [(0, .sym .i64 (.dvar 0)), (1, .sym .i64 (.dvar 1))] [] 1024) .normal [] [(0, .sym .i64 (.dvar 0)), (1, .sym .i64 (.dvar 1))] [] 1024 e55b_0 = true := by kernel_rfl
def p55b_1 : Dcs := [((.cmp .lss (.dvar 1) (.lit (-2048))), false), ((.cmp .lss (.dvar 1) (.lit 2048)), true)]
def e55b_1 : Eqs := [((.lit 1), (.lit 1)), ((.pr 9 (.pr 12 (.lit 0) (.pr 12 (.lit 0) (.pr 12 (.lit 22) (.pr 12 (.dvar 0) (.pr 12 (.lit 0) (.pr 12 (.lit 0) (.pr 12 (.dvar 1) (.pr 14 (.lit 0) (.lit 0))))))))) (.pr 13 (.lit 0) (.lit 0))), (.ap 2 (.dvar 0) (.dvar 1) (.lit 0))), ((.lit 1), (.lit 1))]
theorem x55b_1 : runHB R0 0 0 (run p55b_1 [] 72 (Code.l (Code.r c55)) [(0, .sym .i64 (.dvar 0)), (1, .sym .i64 (.dvar 1))] [] 1024) .ret [⟨1024, 1025, 0, 7, 4⟩] [(4, .opq 2 1024 0 (.slc [.int .i64, .int .i64, .int .i64, .int .i64, .int .i64, .int .i64, .int .i64]) (.lit 0) (.lit 1))] [(1024, .opq 2 0 1023 (.slc [.int .i64, .int .i64, .int .i64, .int .i64, .int .i64, .int .i64, .int .i64]) (.ap 2 (.dvar 0) (.dvar 1) (.lit 0)) (.lit 1) [] 35)] 1025 e55b_1 = true := by kernel_rfl
def p55b_2 : Dcs := [((.cmp .lss (.dvar 1) (.lit (-2048))), false), ((.cmp .lss (.dvar 1) (.lit 2048)), false)]
def e55b_2 : Eqs := [((.pr 30 (.dvar 0) (.lit 0)), (.pr 30 (.dvar 0) (.lit 0))), ((.pr 30 (.dvar 1) (.lit 0)), (.pr 30 (.dvar 1) (.lit 0)))]
theorem x55b_2 : runHB R0 0 0 (run p55b_2 [] 72 (Code.l (Code.r c55)) [(0, .sym .i64 (.dvar 0)), (1, .sym .i64 (.dvar 1))] [] 1024) .normal [] [(0, .sym .i64 (.dvar 0)), (1, .sym .i64 (.dvar 1))] [] 1024 e55b_2 = true := by kernel_rfl
def p55c_0 : Dcs := []
def e55c_0 : Eqs := [((.pr 30 (.dvar 0) (.lit 0)), (.pr 30 (.dvar 0) (.lit 0))), ((.pr 30 (.dvar 1) (.lit 0)), (.pr 30 (.dvar 1) (.lit 0))), ((.pr 30 (.bin .rem .i64 (.bin .add .i64 (.bin .rem .i64 (.dvar 1) (.lit 4096)) (.lit 4096)) (.lit 4096)) (.lit 0)), (.pr 30 (.dvar 2) (.lit 0)))]
theorem x55c_0 : runHB R0 0 0 (run p55c_0 [] 72 (Code.l (Code.r (Code.r c55))) [(0, .sym .i64 (.dvar 0)), (1, .sym .i64 (.dvar 1))] [] 1024) .normal [] [(0, .sym .i64 (.dvar 0)), (1, .sym .i64 (.dvar 1)), (5, .sym .i64 (.dvar 2))] [] 1024 e55c_0 = true := by kernel_rfl
def p55d_0 : Dcs := [((.cmp .lss (.dvar 2) (.lit 2048)), true)]
def e55d_0 : Eqs := [((.pr 30 (.dvar 0) (.lit 0)), (.pr 30 (.dvar 0) (.lit 0))), ((.pr 30 (.dvar 1) (.lit 0)), (.pr 30 (.dvar 1) (.lit 0))), ((.pr 30 (.dvar 2) (.lit 0)), (.pr 30 (.dvar 2) (.lit 0)))]
theorem x55d_0 : runHB R0 0 0 (run p55d_0 [] 72 (Code.l (Code.r (Code.r (Code.r c55)))) [(0, .sym .i64 (.dvar 0)), (1, .sym .i64 (.dvar 1)), (5, .sym .i64 (.dvar 2))] [] 1024) .normal [] [(0, .sym .i64 (.dvar 0)), (1, .sym .i64 (.dvar 1)), (5, .sym .i64 (.dvar 2))] [] 1024 e55d_0 = true := by kernel_rfl
def p55d_1 : Dcs := [((.cmp .lss (.dvar 2) (.lit 2048)), false)]
def e55d_1 : Eqs := [((.pr 30 (.dvar 0) (.lit 0)), (.pr 30 (.dvar 0) (.lit 0))), ((.pr 30 (.dvar 1) (.lit 0)), (.pr 30 (.dvar 1) (.lit 0))), ((.pr 30 (.bin .sub .i64 (.dvar 2) (.lit 4096)) (.lit 0)), (.pr 30 (.dvar 2) (.lit 0)))]
theorem x55d_1 : runHB R0 0 0 (run p55d_1 [] 72 (Code.l (Code.r (Code.r (Code.r c55)))) [(0, .sym .i64 (.dvar 0)), (1, .sym .i64 (.dvar 1)), (5, .sym .i64 (.dvar 2))] [] 1024) .normal [] [(0, .sym .i64 (.dvar 0)), (1, .sym .i64 (.dvar 1)), (5, .sym .i64 (.dvar 2))] [] 1024 e55d_1 = true := by kernel_rfl
def p55e_0 : Dcs := []
def e55e_0 : Eqs := [((.pr 30 (.dvar 0) (.lit 0)), (.pr 30 (.dvar 0) (.lit 0))), ((.pr 30 (.dvar 1) (.lit 0)), (.pr 30 (.dvar 1) (.lit 0))), ((.pr 30 (.dvar 2) (.lit 0)), (.pr 30 (.dvar 2) (.lit 0))), ((.pr 30 (.bin .quo .i64 (.bin .sub .i64 (.dvar 1) (.dvar 2)) (.lit 4096)) (.lit 0)), (.pr 30 (.dvar 3) (.lit 0)))]
theorem x55e_0 : runHB R0 0 0 (run p55e_0 [] 72 (Code.l (Code.r (Code.r (Code.r (Code.r c55))))) [(0, .sym .i64 (.dvar 0)), (1, .sym .i64 (.dvar 1)), (5, .sym .i64 (.dvar 2))] [] 1024) .normal [] [(0, .sym .i64 (.dvar 0)), (1, .sym .i64 (.dvar 1)), (5, .sym .i64 (.dvar 2)), (6, .sym .i64 (.dvar 3))] [] 1024 e55e_0 = true := by kernel_rfl
def p55f_0 : Dcs := [((.cmp .lss (.dvar 1) (.lit (-2147483648))), false), ((.cmp .lss (.dvar 1) (.lit 2147483648)), true), ((.cmp .eql (.dvar 3) (.lit 524288)), true), ((.cmp .eql (.dvar 2) (.lit 0)), true)]
def e55f_0 : Eqs := [((.lit 1), (.lit 1)), ((.pr 9 (.pr 12 (.lit 0) (.pr 12 (.lit 0) (.pr 12 (.lit 1) (.pr 12 (.dvar 0) (.pr 12 (.lit 0) (.pr 12 (.lit 0) (.pr 12 (.lit (-524288)) (.pr 14 (.lit 0) (.lit 0))))))))) (.pr 13 (.lit 0) (.lit 0))), (.ap 2 (.dvar 0) (.dvar 1) (.lit 0))), ((.lit 1), (.lit 1))]
theorem x55f_0 : runHB R0 0 0 (run p55f_0 [] 72 (Code.r (Code.r (Code.r (Code.r (Code.r c55))))) [(0, .sym .i64 (.dvar 0)), (1, .sym .i64 (.dvar 1)), (5, .sym .i64 (.dvar 2)), (6, .sym .i64 (.dvar 3))] [] 1024) .ret [⟨1024, 1026, 0, 7, 4⟩] [(4, .opq 2 1024 0 (.slc [.int .i64, .int .i64, .int .i64, .int .i64, .int .i64, .int .i64, .int .i64]) (.lit 0) (.lit 1))] [(1024, .opq 2 0 1023 (.slc [.int .i64, .int .i64, .int .i64, .int .i64, .int .i64, .int .i64, .int .i64]) (.ap 2 (.dvar 0) (.dvar 1) (.lit 0)) (.lit 1) [] 35)] 1025 e55f_0 = true := by kernel_rfl
def p55f_1 : Dcs := [((.cmp .lss (.dvar 1) (.lit (-2147483648))), false), ((.cmp .lss (.dvar 1) (.lit 2147483648)), true), ((.cmp .eql (.dvar 3) (.lit 524288)), true), ((.cmp .eql (.dvar 2) (.lit 0)), false)]
def e55f_1 : Eqs := [((.lit 1), (.lit 1)), ((.pr 9 (.pr 12 (.lit 0) (.pr 12 (.lit 0) (.pr 12 (.lit 1) (.pr 12 (.dvar 0) (.pr 12 (.lit 0) (.pr 12 (.lit 0) (.pr 12 (.lit (-524288)) (.pr 14 (.lit 0) (.lit 0))))))))) (.pr 9 (.pr 12 (.lit 0) (.pr 12 (.lit 0) (.pr 12 (.lit 31) (.pr 12 (.dvar 0) (.pr 12 (.dvar 0) (.pr 12 (.lit 0) (.pr 12 (.dvar 2) (.pr 14 (.lit 0) (.lit 0))))))))) (.pr 13 (.lit 0) (.lit 0)))), (.ap 2 (.dvar 0) (.dvar 1) (.lit 0))), ((.lit 1), (.lit 1))]
theorem x55f_1 : runHB R0 0 0 (run p55f_1 [] 72 (Code.r (Code.r (Code.r (Code.r (Code.r c55))))) [(0, .sym .i64 (.dvar 0)), (1, .sym .i64 (.dvar 1)), (5, .sym .i64 (.dvar 2)), (6, .sym .i64 (.dvar 3))] [] 1024) .ret [⟨1024, 1026, 1, 14, 4⟩] [(4, .opq 2 1024 0 (.slc [.int .i64, .int .i64, .int .i64, .int .i64, .int .i64, .int .i64, .int .i64]) (.lit 0) (.lit 1))] [(1024, .opq 2 0 1023 (.slc [.int .i64, .int .i64, .int .i64, .int .i64, .int .i64, .int .i64, .int .i64]) (.ap 2 (.dvar 0) (.dvar 1) (.lit 0)) (.lit 1) [] 35)] 1025 e55f_1 = true := by kernel_rfl
def p55f_2 : Dcs := [((.cmp .lss (.dvar 1) (.lit (-2147483648))), false), ((.cmp .lss (.dvar 1) (.lit 2147483648)), true), ((.cmp .eql (.dvar 3) (.lit 524288)), false), ((.cmp .eql (.dvar 2) (.lit 0)), true)]
def e55f_2 : Eqs := [((.lit 1), (.lit 1)), ((.pr 9 (.pr 12 (.lit 0) (.pr 12 (.lit 0) (.pr 12 (.lit 1) (.pr 12 (.dvar 0) (.pr 12 (.lit 0) (.pr 12 (.lit 0) (.pr 12 (.dvar 3) (.pr 14 (.lit 0) (.lit 0))))))))) (.pr 13 (.lit 0) (.lit 0))), (.ap 2 (.dvar 0) (.dvar 1) (.lit 0))), ((.lit 1), (.lit 1))]
theorem x55f_2 : runHB R0 0 0 (run p55f_2 [] 72 (Code.r (Code.r (Code.r (Code.r (Code.r c55))))) [(0, .sym .i64 (.dvar 0)), (1, .sym .i64 (.dvar 1)), (5, .sym .i64 (.dvar 2)), (6, .sym .i64 (.dvar 3))] [] 1024) .ret [⟨1024, 1026, 0, 7, 4⟩] [(4, .opq 2 1024 0 (.slc [.int .i64, .int .i64, .int .i64, .int .i64, .int .i64, .int .i64, .int .i64]) (.lit 0) (.lit 1))] [(1024, .opq 2 0 1023 (.slc [.int .i64, .int .i64, .int .i64, .int .i64, .int .i64, .int .i64, .int .i64]) (.ap 2 (.dvar 0) (.dvar 1) (.lit 0)) (.lit 1) [] 35)] 1025 e55f_2 = true := by kernel_rfl
def p55f_3 : Dcs := [((.cmp .lss (.dvar 1) (.lit (-2147483648))), false), ((.cmp .lss (.dvar 1) (.lit 2147483648)), true), ((.cmp .eql (.dvar 3) (.lit 524288)), false), ((.cmp .eql (.dvar 2) (.lit 0)), false)]
def e55f_3 : Eqs := [((.lit 1), (.lit 1)), ((.pr 9 (.pr 12 (.lit 0) (.pr 12 (.lit 0) (.pr 12 (.lit 1) (.pr 12 (.dvar 0) (.pr 12 (.lit 0) (.pr 12 (.lit 0) (.pr 12 (.dvar 3) (.pr 14 (.lit 0) (.lit 0))))))))) (.pr 9 (.pr 12 (.lit 0) (.pr 12 (.lit 0) (.pr 12 (.lit 31) (.pr 12 (.dvar 0) (.pr 12 (.dvar 0) (.pr 12 (.lit 0) (.pr 12 (.dvar 2) (.pr 14 (.lit 0) (.lit 0))))))))) (.pr 13 (.lit 0) (.lit 0)))), (.ap 2 (.dvar 0) (.dvar 1) (.lit 0))), ((.lit 1), (.lit 1))]
theorem x55f_3 : runHB R0 0 0 (run p55f_3 [] 72 (Code.r (Code.r (Code.r (Code.r (Code.r c55))))) [(0, .sym .i64 (.dvar 0)), (1, .sym .i64 (.dvar 1)), (5, .sym .i64 (.dvar 2)), (6, .sym .i64 (.dvar 3))] [] 1024) .ret [⟨1024, 1026, 1, 14, 4⟩] [(4, .opq 2 1024 0 (.slc [.int .i64, .int .i64, .int .i64, .int .i64, .int .i64, .int .i64, .int .i64]) (.lit 0) (.lit 1))] [(1024, .opq 2 0 1023 (.slc [.int .i64, .int .i64, .int .i64, .int .i64, .int .i64, .int .i64, .int .i64]) (.ap 2 (.dvar 0) (.dvar 1) (.lit 0)) (.lit 1) [] 35)] 1025 e55f_3 = true := by kernel_rfl
def p55g1_0 : Dcs := [((.cmp .lss (.pr 30 (.dvar 3) (.lit 0)) (.lit (-2147483648))), false), ((.cmp .lss (.pr 30 (.dvar 3) (.lit 0)) (.lit 2147483648)), true), ((.cmp .lss (.dvar 1) (.lit (-2147483648))), true), ((.cmp .lss (.pr 7 (.ap 2 (.pr 30 (.dvar 0) (.lit 0)) (.pr 30 (.dvar 3) (.lit 0)) (.lit 0)) (.lit 0)) (.lit 1000000001)), true), ((.cmp .eql (.dvar 2) (.lit 0)), true)]
def e55g1_0 : Eqs := [((.lit 1), (.lit 1)), ((.pr 9 (.ap 2 (.pr 30 (.dvar 0) (.lit 0)) (.pr 30 (.dvar 3) (.lit 0)) (.lit 0)) (.pr 9 (.pr 12 (.lit 0) (.pr 12 (.lit 0) (.pr 12 (.lit 28) (.pr 12 (.dvar 0) (.pr 12 (.dvar 0) (.pr 12 (.lit 0) (.pr 12 (.lit 12) (.pr 14 (.lit 0) (.lit 0))))))))) (.pr 13 (.lit 0) (.lit 0)))), (.ap 2 (.dvar 0) (.dvar 1) (.lit 0))), ((.lit 1), (.lit 1))]
theorem x55g1_0 : runHB R0 0 0 (run p55g1_0 [con55 (inB 1 2147483648)] 72 (Code.r (Code.r (Code.r (Code.r (Code.r c55))))) [(0, .sym .i64 (.dvar 0)), (1, .sym .i64 (.dvar 1)), (5, .sym .i64 (.dvar 2)), (6, .sym .i64 (.dvar 3))] [] 1024) .ret [⟨1024, 1024, 1, 0, 0⟩] [(4, .opq 2 1024 0 (.slc [.int .i64, .int .i64, .int .i64, .int .i64, .int .i64, .int .i64, .int .i64]) (.lit 0) (.lit 1))] [(1024, .opq 2 0 1023 (.slc [.int .i64, .int .i64, .int .i64, .int .i64, .int .i64, .int .i64, .int .i64]) (.ap 2 (.dvar 0) (.dvar 1) (.lit 0)) (.lit 1) [] 35)] 1025 e55g1_0 = true := by kernel_rfl
def p55g1_1 : Dcs := [((.cmp .lss (.pr 30 (.dvar 3) (.lit 0)) (.lit (-2147483648))), false), ((.cmp .lss (.pr 30 (.dvar 3) (.lit 0)) (.lit 2147483648)), true), ((.cmp .lss (.dvar 1) (.lit (-2147483648))), true), ((.cmp .lss (.pr 7 (.ap 2 (.pr 30 (.dvar 0) (.lit 0)) (.pr 30 (.dvar 3) (.lit 0)) (.lit 0)) (.lit 0)) (.lit 1000000001)), true), ((.cmp .eql (.dvar 2) (.lit 0)), false), ((.cmp .lss (.pr 7 (.pr 9 (.ap 2 (.pr 30 (.dvar 0) (.lit 0)) (.pr 30 (.dvar 3) (.lit 0)) (.lit 0)) (.pr 9 (.pr 12 (.lit 0) (.pr 12 (.lit 0) (.pr 12 (.lit 28) (.pr 12 (.dvar 0) (.pr 12 (.dvar 0) (.pr 12 (.lit 0) (.pr 12 (.lit 12) (.pr 14 (.lit 0) (.lit 0))))))))) (.pr 13 (.lit 0) (.lit 0)))) (.lit 0)) (.lit 1000000001)), true)]
def e55g1_1 : Eqs := [((.lit 1), (.lit 1)), ((.pr 9 (.pr 9 (.ap 2 (.pr 30 (.dvar 0) (.lit 0)) (.pr 30 (.dvar 3) (.lit 0)) (.lit 0)) (.pr 9 (.pr 12 (.lit 0) (.pr 12 (.lit 0) (.pr 12 (.lit 28) (.pr 12 (.dvar 0) (.pr 12 (.dvar 0) (.pr 12 (.lit 0) (.pr 12 (.lit 12) (.pr 14 (.lit 0) (.lit 0))))))))) (.pr 13 (.lit 0) (.lit 0)))) (.pr 9 (.pr 12 (.lit 0) (.pr 12 (.lit 0) (.pr 12 (.lit 22) (.pr 12 (.dvar 0) (.pr 12 (.dvar 0) (.pr 12 (.lit 0) (.pr 12 (.dvar 2) (.pr 14 (.lit 0) (.lit 0))))))))) (.pr 13 (.lit 0) (.lit 0)))), (.ap 2 (.dvar 0) (.dvar 1) (.lit 0))), ((.lit 1), (.lit 1))]
theorem x55g1_1 : runHB R0 0 0 (run p55g1_1 [con55 (inB 1 2147483648)] 72 (Code.r (Code.r (Code.r (Code.r (Code.r c55))))) [(0, .sym .i64 (.dvar 0)), (1, .sym .i64 (.dvar 1)), (5, .sym .i64 (.dvar 2)), (6, .sym .i64 (.dvar 3))] [] 1024) .ret [⟨1024, 1024, 2, 0, 0⟩] [(4, .opq 2 1024 0 (.slc [.int .i64, .int .i64, .int .i64, .int .i64, .int .i64, .int .i64, .int .i64]) (.lit 0) (.lit 1))] [(1024, .opq 2 0 1023 (.slc [.int .i64, .int .i64, .int .i64, .int .i64, .int .i64, .int .i64, .int .i64]) (.ap 2 (.dvar 0) (.dvar 1) (.lit 0)) (.lit 1) [] 35)] 1025 e55g1_1 = true := by kernel_rfl
def p55h1_0 : Dcs := [((.cmp .lss (.pr 30 (.dvar 3) (.lit 0)) (.lit (-2147483648))), false), ((.cmp .lss (.pr 30 (.dvar 3) (.lit 0)) (.lit 2147483648)), true), ((.cmp .lss (.dvar 1) (.lit (-2147483648))), false), ((.cmp .lss (.dvar 1) (.lit 2147483648)), false), ((.cmp .lss (.pr 7 (.ap 2 (.pr 30 (.dvar 0) (.lit 0)) (.pr 30 (.dvar 3) (.lit 0)) (.lit 0)) (.lit 0)) (.lit 1000000001)), true), ((.cmp .eql (.dvar 2) (.lit 0)), true)]
def e55h1_0 : Eqs := [((.lit 1), (.lit 1)), ((.pr 9 (.ap 2 (.pr 30 (.dvar 0) (.lit 0)) (.pr 30 (.dvar 3) (.lit 0)) (.lit 0)) (.pr 9 (.pr 12 (.lit 0) (.pr 12 (.lit 0) (.pr 12 (.lit 28) (.pr 12 (.dvar 0) (.pr 12 (.dvar 0) (.pr 12 (.lit 0) (.pr 12 (.lit 12) (.pr 14 (.lit 0) (.lit 0))))))))) (.pr 13 (.lit 0) (.lit 0)))), (.ap 2 (.dvar 0) (.dvar 1) (.lit 0))), ((.lit 1), (.lit 1))]
theorem x55h1_0 : runHB R0 0 0 (run p55h1_0 [con55 (inB 1 2147483648)] 72 (Code.r (Code.r (Code.r (Code.r (Code.r c55))))) [(0, .sym .i64 (.dvar 0)), (1, .sym .i64 (.dvar 1)), (5, .sym .i64 (.dvar 2)), (6, .sym .i64 (.dvar 3))] [] 1024) .ret [⟨1024, 1024, 1, 0, 0⟩] [(4, .opq 2 1024 0 (.slc [.int .i64, .int .i64, .int .i64, .int .i64, .int .i64, .int .i64, .int .i64]) (.lit 0) (.lit 1))] [(1024, .opq 2 0 1023 (.slc [.int .i64, .int .i64, .int .i64, .int .i64, .int .i64, .int .i64, .int .i64]) (.ap 2 (.dvar 0) (.dvar 1) (.lit 0)) (.lit 1) [] 35)] 1025 e55h1_0 = true := by kernel_rfl
def p55h1_1 : Dcs := [((.cmp .lss (.pr 30 (.dvar 3) (.lit 0)) (.lit (-2147483648))), false), ((.cmp .lss (.pr 30 (.dvar 3) (.lit 0)) (.lit 2147483648)), true), ((.cmp .lss (.dvar 1) (.lit (-2147483648))), false), ((.cmp .lss (.dvar 1) (.lit 2147483648)), false), ((.cmp .lss (.pr 7 (.ap 2 (.pr 30 (.dvar 0) (.lit 0)) (.pr 30 (.dvar 3) (.lit 0)) (.lit 0)) (.lit 0)) (.lit 1000000001)), true), ((.cmp .eql (.dvar 2) (.lit 0)), false), ((.cmp .lss (.pr 7 (.pr 9 (.ap 2 (.pr 30 (.dvar 0) (.lit 0)) (.pr 30 (.dvar 3) (.lit 0)) (.lit 0)) (.pr 9 (.pr 12 (.lit 0) (.pr 12 (.lit 0) (.pr 12 (.lit 28) (.pr 12 (.dvar 0) (.pr 12 (.dvar 0) (.pr 12 (.lit 0) (.pr 12 (.lit 12) (.pr 14 (.lit 0) (.lit 0))))))))) (.pr 13 (.lit 0) (.lit 0)))) (.lit 0)) (.lit 1000000001)), true)]
def e55h1_1 : Eqs := [((.lit 1), (.lit 1)), ((.pr 9 (.pr 9 (.ap 2 (.pr 30 (.dvar 0) (.lit 0)) (.pr 30 (.dvar 3) (.lit 0)) (.lit 0)) (.pr 9 (.pr 12 (.lit 0) (.pr 12 (.lit 0) (.pr 12 (.lit 28) (.pr 12 (.dvar 0) (.pr 12 (.dvar 0) (.pr 12 (.lit 0) (.pr 12 (.lit 12) (.pr 14 (.lit 0) (.lit 0))))))))) (.pr 13 (.lit 0) (.lit 0)))) (.pr 9 (.pr 12 (.lit 0) (.pr 12 (.lit 0) (.pr 12 (.lit 22) (.pr 12 (.dvar 0) (.pr 12 (.dvar 0) (.pr 12 (.lit 0) (.pr 12 (.dvar 2) (.pr 14 (.lit 0) (.lit 0))))))))) (.pr 13 (.lit 0) (.lit 0)))), (.ap 2 (.dvar 0) (.dvar 1) (.lit 0))), ((.lit 1), (.lit 1))]
theorem x55h1_1 : runHB R0 0 0 (run p55h1_1 [con55 (inB 1 2147483648)] 72 (Code.r (Code.r (Code.r (Code.r (Code.r c55))))) [(0, .sym .i64 (.dvar 0)), (1, .sym .i64 (.dvar 1)), (5, .sym .i64 (.dvar 2)), (6, .sym .i64 (.dvar 3))] [] 1024) .ret [⟨1024, 1024, 2, 0, 0⟩] [(4, .opq 2 1024 0 (.slc [.int .i64, .int .i64, .int .i64, .int .i64, .int .i64, .int .i64, .int .i64]) (.lit 0) (.lit 1))] [(1024, .opq 2 0 1023 (.slc [.int .i64, .int .i64, .int .i64, .int .i64, .int .i64, .int .i64, .int .i64]) (.ap 2 (.dvar 0) (.dvar 1) (.lit 0)) (.lit 1) [] 35)] 1025 e55h1_1 = true := by kernel_rfl
def p55g2_0 : Dcs := [((.cmp .lss (.pr 30 (.dvar 3) (.lit 0)) (.lit (-4398046511104))), false), ((.cmp .lss (.pr 30 (.dvar 3) (.lit 0)) (.lit 4398046511104)), true), ((.cmp .lss (.dvar 1) (.lit (-2147483648))), true), ((.cmp .lss (.pr 7 (.ap 2 (.pr 30 (.dvar 0) (.lit 0)) (.pr 30 (.dvar 3) (.lit 0)) (.lit 0)) (.lit 0)) (.lit 1000000001)), true), ((.cmp .eql (.dvar 2) (.lit 0)), true)]
def e55g2_0 : Eqs := [((.lit 1), (.lit 1)), ((.pr 9 (.ap 2 (.pr 30 (.dvar 0) (.lit 0)) (.pr 30 (.dvar 3) (.lit 0)) (.lit 0)) (.pr 9 (.pr 12 (.lit 0) (.pr 12 (.lit 0) (.pr 12 (.lit 28) (.pr 12 (.dvar 0) (.pr 12 (.dvar 0) (.pr 12 (.lit 0) (.pr 12 (.lit 12) (.pr 14 (.lit 0) (.lit 0))))))))) (.pr 13 (.lit 0) (.lit 0)))), (.ap 2 (.dvar 0) (.dvar 1) (.lit 0))), ((.lit 1), (.lit 1))]
theorem x55g2_0 : runHB R0 0 0 (run p55g2_0 [con55 (inB 1 4398046511104)] 72 (Code.r (Code.r (Code.r (Code.r (Code.r c55))))) [(0, .sym .i64 (.dvar 0)), (1, .sym .i64 (.dvar 1)), (5, .sym .i64 (.dvar 2)), (6, .sym .i64 (.dvar 3))] [] 1024) .ret [⟨1024, 1024, 1, 0, 0⟩] [(4, .opq 2 1024 0 (.slc [.int .i64, .int .i64, .int .i64, .int .i64, .int .i64, .int .i64, .int .i64]) (.lit 0) (.lit 1))] [(1024, .opq 2 0 1023 (.slc [.int .i64, .int .i64, .int .i64, .int .i64, .int .i64, .int .i64, .int .i64]) (.ap 2 (.dvar 0) (.dvar 1) (.lit 0)) (.lit 1) [] 35)] 1025 e55g2_0 = true := by kernel_rfl
def p55g2_1 : Dcs := [((.cmp .lss (.pr 30 (.dvar 3) (.lit 0)) (.lit (-4398046511104))), false), ((.cmp .lss (.pr 30 (.dvar 3) (.lit 0)) (.lit 4398046511104)), true), ((.cmp .lss (.dvar 1) (.lit (-2147483648))), true), ((.cmp .lss (.pr 7 (.ap 2 (.pr 30 (.dvar 0) (.lit 0)) (.pr 30 (.dvar 3) (.lit 0)) (.lit 0)) (.lit 0)) (.lit 1000000001)), true), ((.cmp .eql (.dvar 2) (.lit 0)), false), ((.cmp .lss (.pr 7 (.pr 9 (.ap 2 (.pr 30 (.dvar 0) (.lit 0)) (.pr 30 (.dvar 3) (.lit 0)) (.lit 0)) (.pr 9 (.pr 12 (.lit 0) (.pr 12 (.lit 0) (.pr 12 (.lit 28) (.pr 12 (.dvar 0) (.pr 12 (.dvar 0) (.pr 12 (.lit 0) (.pr 12 (.lit 12) (.pr 14 (.lit 0) (.lit 0))))))))) (.pr 13 (.lit 0) (.lit 0)))) (.lit 0)) (.lit 1000000001)), true)]
def e55g2_1 : Eqs := [((.lit 1), (.lit 1)), ((.pr 9 (.pr 9 (.ap 2 (.pr 30 (.dvar 0) (.lit 0)) (.pr 30 (.dvar 3) (.lit 0)) (.lit 0)) (.pr 9 (.pr 12 (.lit 0) (.pr 12 (.lit 0) (.pr 12 (.lit 28) (.pr 12 (.dvar 0) (.pr 12 (.dvar 0) (.pr 12 (.lit 0) (.pr 12 (.lit 12) (.pr 14 (.lit 0) (.lit 0))))))))) (.pr 13 (.lit 0) (.lit 0)))) (.pr 9 (.pr 12 (.lit 0) (.pr 12 (.lit 0) (.pr 12 (.lit 22) (.pr 12 (.dvar 0) (.pr 12 (.dvar 0) (.pr 12 (.lit 0) (.pr 12 (.dvar 2) (.pr 14 (.lit 0) (.lit 0))))))))) (.pr 13 (.lit 0) (.lit 0)))), (.ap 2 (.dvar 0) (.dvar 1) (.lit 0))), ((.lit 1), (.lit 1))]
theorem x55g2_1 : runHB R0 0 0 (run p55g2_1 [con55 (inB 1 4398046511104)] 72 (Code.r (Code.r (Code.r (Code.r (Code.r c55))))) [(0, .sym .i64 (.dvar 0)), (1, .sym .i64 (.dvar 1)), (5, .sym .i64 (.dvar 2)), (6, .sym .i64 (.dvar 3))] [] 1024) .ret [⟨1024, 1024, 2, 0, 0⟩] [(4, .opq 2 1024 0 (.slc [.int .i64, .int .i64, .int .i64, .int .i64, .int .i64, .int .i64, .int .i64]) (.lit 0) (.lit 1))] [(1024, .opq 2 0 1023 (.slc [.int .i64, .int .i64, .int .i64, .int .i64, .int .i64, .int .i64, .int .i64]) (.ap 2 (.dvar 0) (.dvar 1) (.lit 0)) (.lit 1) [] 35)] 1025 e55g2_1 = true := by kernel_rfl
def p55h2_0 : Dcs := [((.cmp .lss (.pr 30 (.dvar 3) (.lit 0)) (.lit (-4398046511104))), false), ((.cmp .lss (.pr 30 (.dvar 3) (.lit 0)) (.lit 4398046511104)), true), ((.cmp .lss (.dvar 1) (.lit (-2147483648))), false), ((.cmp .lss (.dvar 1) (.lit 2147483648)), false), ((.cmp .lss (.pr 7 (.ap 2 (.pr 30 (.dvar 0) (.lit 0)) (.pr 30 (.dvar 3) (.lit 0)) (.lit 0)) (.lit 0)) (.lit 1000000001)), true), ((.cmp .eql (.dvar 2) (.lit 0)), true)]
def e55h2_0 : Eqs := [((.lit 1), (.lit 1)), ((.pr 9 (.ap 2 (.pr 30 (.dvar 0) (.lit 0)) (.pr 30 (.dvar 3) (.lit 0)) (.lit 0)) (.pr 9 (.pr 12 (.lit 0) (.pr 12 (.lit 0) (.pr 12 (.lit 28) (.pr 12 (.dvar 0) (.pr 12 (.dvar 0) (.pr 12 (.lit 0) (.pr 12 (.lit 12) (.pr 14 (.lit 0) (.lit 0))))))))) (.pr 13 (.lit 0) (.lit 0)))), (.ap 2 (.dvar 0) (.dvar 1) (.lit 0))), ((.lit 1), (.lit 1))]
theorem x55h2_0 : runHB R0 0 0 (run p55h2_0 [con55 (inB 1 4398046511104)] 72 (Code.r (Code.r (Code.r (Code.r (Code.r c55))))) [(0, .sym .i64 (.dvar 0)), (1, .sym .i64 (.dvar 1)), (5, .sym .i64 (.dvar 2)), (6, .sym .i64 (.dvar 3))] [] 1024) .ret [⟨1024, 1024, 1, 0, 0⟩] [(4, .opq 2 1024 0 (.slc [.int .i64, .int .i64, .int .i64, .int .i64, .int .i64, .int .i64, .int .i64]) (.lit 0) (.lit 1))] [(1024, .opq 2 0 1023 (.slc [.int .i64, .int .i64, .int .i64, .int .i64, .int .i64, .int .i64, .int .i64]) (.ap 2 (.dvar 0) (.dvar 1) (.lit 0)) (.lit 1) [] 35)] 1025 e55h2_0 = true := by kernel_rfl
def p55h2_1 : Dcs := [((.cmp .lss (.pr 30 (.dvar 3) (.lit 0)) (.lit (-4398046511104))), false), ((.cmp .lss (.pr 30 (.dvar 3) (.lit 0)) (.lit 4398046511104)), true), ((.cmp .lss (.dvar 1) (.lit (-2147483648))), false), ((.cmp .lss (.dvar 1) (.lit 2147483648)), false), ((.cmp .lss (.pr 7 (.ap 2 (.pr 30 (.dvar 0) (.lit 0)) (.pr 30 (.dvar 3) (.lit 0)) (.lit 0)) (.lit 0)) (.lit 1000000001)), true), ((.cmp .eql (.dvar 2) (.lit 0)), false), ((.cmp .lss (.pr 7 (.pr 9 (.ap 2 (.pr 30 (.dvar 0) (.lit 0)) (.pr 30 (.dvar 3) (.lit 0)) (.lit 0)) (.pr 9 (.pr 12 (.lit 0) (.pr 12 (.lit 0) (.pr 12 (.lit 28) (.pr 12 (.dvar 0) (.pr 12 (.dvar 0) (.pr 12 (.lit 0) (.pr 12 (.lit 12) (.pr 14 (.lit 0) (.lit 0))))))))) (.pr 13 (.lit 0) (.lit 0)))) (.lit 0)) (.lit 1000000001)), true)]
def e55h2_1 : Eqs := [((.lit 1), (.lit 1)), ((.pr 9 (.pr 9 (.ap 2 (.pr 30 (.dvar 0) (.lit 0)) (.pr 30 (.dvar 3) (.lit 0)) (.lit 0)) (.pr 9 (.pr 12 (.lit 0) (.pr 12 (.lit 0) (.pr 12 (.lit 28) (.pr 12 (.dvar 0) (.pr 12 (.dvar 0) (.pr 12 (.lit 0) (.pr 12 (.lit 12) (.pr 14 (.lit 0) (.lit 0))))))))) (.pr 13 (.lit 0) (.lit 0)))) (.pr 9 (.pr 12 (.lit 0) (.pr 12 (.lit 0) (.pr 12 (.lit 22) (.pr 12 (.dvar 0) (.pr 12 (.dvar 0) (.pr 12 (.lit 0) (.pr 12 (.dvar 2) (.pr 14 (.lit 0) (.lit 0))))))))) (.pr 13 (.lit 0) (.lit 0)))), (.ap 2 (.dvar 0) (.dvar 1) (.lit 0))), ((.lit 1), (.lit 1))]
theorem x55h2_1 : runHB R0 0 0 (run p55h2_1 [con55 (inB 1 4398046511104)] 72 (Code.r (Code.r (Code.r (Code.r (Code.r c55))))) [(0, .sym .i64 (.dvar 0)), (1, .sym .i64 (.dvar 1)), (5, .sym .i64 (.dvar 2)), (6, .sym .i64 (.dvar 3))] [] 1024) .ret [⟨1024, 1024, 2, 0, 0⟩] [(4, .opq 2 1024 0 (.slc [.int .i64, .int .i64, .int .i64, .int .i64, .int .i64, .int .i64, .int .i64]) (.lit 0) (.lit 1))] [(1024, .opq 2 0 1023 (.slc [.int .i64, .int .i64, .int .i64, .int .i64, .int .i64, .int .i64, .int .i64]) (.ap 2 (.dvar 0) (.dvar 1) (.lit 0)) (.lit 1) [] 35)] 1025 e55h2_1 = true := by kernel_rfl
def p55g3_0 : Dcs := [((.cmp .lss (.pr 30 (.dvar 3) (.lit 0)) (.lit (-4503599627370496))), false), ((.cmp .lss (.pr 30 (.dvar 3) (.lit 0)) (.lit 4503599627370496)), true), ((.cmp .lss (.dvar 1) (.lit (-2147483648))), true), ((.cmp .lss (.pr 7 (.ap 2 (.pr 30 (.dvar 0) (.lit 0)) (.pr 30 (.dvar 3) (.lit 0)) (.lit 0)) (.lit 0)) (.lit 1000000001)), true), ((.cmp .eql (.dvar 2) (.lit 0)), true)]
def e55g3_0 : Eqs := [((.lit 1), (.lit 1)), ((.pr 9 (.ap 2 (.pr 30 (.dvar 0) (.lit 0)) (.pr 30 (.dvar 3) (.lit 0)) (.lit 0)) (.pr 9 (.pr 12 (.lit 0) (.pr 12 (.lit 0) (.pr 12 (.lit 28) (.pr 12 (.dvar 0) (.pr 12 (.dvar 0) (.pr 12 (.lit 0) (.pr 12 (.lit 12) (.pr 14 (.lit 0) (.lit 0))))))))) (.pr 13 (.lit 0) (.lit 0)))), (.ap 2 (.dvar 0) (.dvar 1) (.lit 0))), ((.lit 1), (.lit 1))]
theorem x55g3_0 : runHB R0 0 0 (run p55g3_0 [con55 (inB 1 4503599627370496)] 72 (Code.r (Code.r (Code.r (Code.r (Code.r c55))))) [(0, .sym .i64 (.dvar 0)), (1, .sym .i64 (.dvar 1)), (5, .sym .i64 (.dvar 2)), (6, .sym .i64 (.dvar 3))] [] 1024) .ret [⟨1024, 1024, 1, 0, 0⟩] [(4, .opq 2 1024 0 (.slc [.int .i64, .int .i64, .int .i64, .int .i64, .int .i64, .int .i64, .int .i64]) (.lit 0) (.lit 1))] [(1024, .opq 2 0 1023 (.slc [.int .i64, .int .i64, .int .i64, .int .i64, .int .i64, .int .i64, .int .i64]) (.ap 2 (.dvar 0) (.dvar 1) (.lit 0)) (.lit 1) [] 35)] 1025 e55g3_0 = true := by kernel_rfl
def p55g3_1 : Dcs := [((.cmp .lss (.pr 30 (.dvar 3) (.lit 0)) (.lit (-4503599627370496))), false), ((.cmp .lss (.pr 30 (.dvar 3) (.lit 0)) (.lit 4503599627370496)), true), ((.cmp .lss (.dvar 1) (.lit (-2147483648))), true), ((.cmp .lss (.pr 7 (.ap 2 (.pr 30 (.dvar 0) (.lit 0)) (.pr 30 (.dvar 3) (.lit 0)) (.lit 0)) (.lit 0)) (.lit 1000000001)), true), ((.cmp .eql (.dvar 2) (.lit 0)), false), ((.cmp .lss (.pr 7 (.pr 9 (.ap 2 (.pr 30 (.dvar 0) (.lit 0)) (.pr 30 (.dvar 3) (.lit 0)) (.lit 0)) (.pr 9 (.pr 12 (.lit 0) (.pr 12 (.lit 0) (.pr 12 (.lit 28) (.pr 12 (.dvar 0) (.pr 12 (.dvar 0) (.pr 12 (.lit 0) (.pr 12 (.lit 12) (.pr 14 (.lit 0) (.lit 0))))))))) (.pr 13 (.lit 0) (.lit 0)))) (.lit 0)) (.lit 1000000001)), true)]
def e55g3_1 : Eqs := [((.lit 1), (.lit 1)), ((.pr 9 (.pr 9 (.ap 2 (.pr 30 (.dvar 0) (.lit 0)) (.pr 30 (.dvar 3) (.lit 0)) (.lit 0)) (.pr 9 (.pr 12 (.lit 0) (.pr 12 (.lit 0) (.pr 12 (.lit 28) (.pr 12 (.dvar 0) (.pr 12 (.dvar 0) (.pr 12 (.lit 0) (.pr 12 (.lit 12) (.pr 14 (.lit 0) (.lit 0))))))))) (.pr 13 (.lit 0) (.lit 0)))) (.pr 9 (.pr 12 (.lit 0) (.pr 12 (.lit 0) (.pr 12 (.lit 22) (.pr 12 (.dvar 0) (.pr 12 (.dvar 0) (.pr 12 (.lit 0) (.pr 12 (.dvar 2) (.pr 14 (.lit 0) (.lit 0))))))))) (.pr 13 (.lit 0) (.lit 0)))), (.ap 2 (.dvar 0) (.dvar 1) (.lit 0))), ((.lit 1), (.lit 1))]
theorem x55g3_1 : runHB R0 0 0 (run p55g3_1 [con55 (inB 1 4503599627370496)] 72 (Code.r (Code.r (Code.r (Code.r (Code.r c55))))) [(0, .sym .i64 (.dvar 0)), (1, .sym .i64 (.dvar 1)), (5, .sym .i64 (.dvar 2)), (6, .sym .i64 (.dvar 3))] [] 1024) .ret [⟨1024, 1024, 2, 0, 0⟩] [(4, .opq 2 1024 0 (.slc [.int .i64, .int .i64, .int .i64, .int .i64, .int .i64, .int .i64, .int .i64]) (.lit 0) (.lit 1))] [(1024, .opq 2 0 1023 (.slc [.int .i64, .int .i64, .int .i64, .int .i64, .int .i64, .int .i64, .int .i64]) (.ap 2 (.dvar 0) (.dvar 1) (.lit 0)) (.lit 1) [] 35)] 1025 e55g3_1 = true := by kernel_rfl
def p55h3_0 : Dcs := [((.cmp .lss (.pr 30 (.dvar 3) (.lit 0)) (.lit (-4503599627370496))), false), ((.cmp .lss (.pr 30 (.dvar 3) (.lit 0)) (.lit 4503599627370496)), true), ((.cmp .lss (.dvar 1) (.lit (-2147483648))), false), ((.cmp .lss (.dvar 1) (.lit 2147483648)), false), ((.cmp .lss (.pr 7 (.ap 2 (.pr 30 (.dvar 0) (.lit 0)) (.pr 30 (.dvar 3) (.lit 0)) (.lit 0)) (.lit 0)) (.lit 1000000001)), true), ((.cmp .eql (.dvar 2) (.lit 0)), true)]
def e55h3_0 : Eqs := [((.lit 1), (.lit 1)), ((.pr 9 (.ap 2 (.pr 30 (.dvar 0) (.lit 0)) (.pr 30 (.dvar 3) (.lit 0)) (.lit 0)) (.pr 9 (.pr 12 (.lit 0) (.pr 12 (.lit 0) (.pr 12 (.lit 28) (.pr 12 (.dvar 0) (.pr 12 (.dvar 0) (.pr 12 (.lit 0) (.pr 12 (.lit 12) (.pr 14 (.lit 0) (.lit 0))))))))) (.pr 13 (.lit 0) (.lit 0)))), (.ap 2 (.dvar 0) (.dvar 1) (.lit 0))), ((.lit 1), (.lit 1))]
theorem x55h3_0 : runHB R0 0 0 (run p55h3_0 [con55 (inB 1 4503599627370496)] 72 (Code.r (Code.r (Code.r (Code.r (Code.r c55))))) [(0, .sym .i64 (.dvar 0)), (1, .sym .i64 (.dvar 1)), (5, .sym .i64 (.dvar 2)), (6, .sym .i64 (.dvar 3))] [] 1024) .ret [⟨1024, 1024, 1, 0, 0⟩] [(4, .opq 2 1024 0 (.slc [.int .i64, .int .i64, .int .i64, .int .i64, .int .i64, .int .i64, .int .i64]) (.lit 0) (.lit 1))] [(1024, .opq 2 0 1023 (.slc [.int .i64, .int .i64, .int .i64, .int .i64, .int .i64, .int .i64, .int .i64]) (.ap 2 (.dvar 0) (.dvar 1) (.lit 0)) (.lit 1) [] 35)] 1025 e55h3_0 = true := by kernel_rfl
def p55h3_1 : Dcs := [((.cmp .lss (.pr 30 (.dvar 3) (.lit 0)) (.lit (-4503599627370496))), false), ((.cmp .lss (.pr 30 (.dvar 3) (.lit 0)) (.lit 4503599627370496)), true), ((.cmp .lss (.dvar 1) (.lit (-2147483648))), false), ((.cmp .lss (.dvar 1) (.lit 2147483648)), false), ((.cmp .lss (.pr 7 (.ap 2 (.pr 30 (.dvar 0) (.lit 0)) (.pr 30 (.dvar 3) (.lit 0)) (.lit 0)) (.lit 0)) (.lit 1000000001)), true), ((.cmp .eql (.dvar 2) (.lit 0)), false), ((.cmp .lss (.pr 7 (.pr 9 (.ap 2 (.pr 30 (.dvar 0) (.lit 0)) (.pr 30 (.dvar 3) (.lit 0)) (.lit 0)) (.pr 9 (.pr 12 (.lit 0) (.pr 12 (.lit 0) (.pr 12 (.lit 28) (.pr 12 (.dvar 0) (.pr 12 (.dvar 0) (.pr 12 (.lit 0) (.pr 12 (.lit 12) (.pr 14 (.lit 0) (.lit 0))))))))) (.pr 13 (.lit 0) (.lit 0)))) (.lit 0)) (.lit 1000000001)), true)]
def e55h3_1 : Eqs := [((.lit 1), (.lit 1)), ((.pr 9 (.pr 9 (.ap 2 (.pr 30 (.dvar 0) (.lit 0)) (.pr 30 (.dvar 3) (.lit 0)) (.lit 0)) (.pr 9 (.pr 12 (.lit 0) (.pr 12 (.lit 0) (.pr 12 (.lit 28) (.pr 12 (.dvar 0) (.pr 12 (.dvar 0) (.pr 12 (.lit 0) (.pr 12 (.lit 12) (.pr 14 (.lit 0) (.lit 0))))))))) (.pr 13 (.lit 0) (.lit 0)))) (.pr 9 (.pr 12 (.lit 0) (.pr 12 (.lit 0) (.pr 12 (.lit 22) (.pr 12 (.dvar 0) (.pr 12 (.dvar 0) (.pr 12 (.lit 0) (.pr 12 (.dvar 2) (.pr 14 (.lit 0) (.lit 0))))))))) (.pr 13 (.lit 0) (.lit 0)))), (.ap 2 (.dvar 0) (.dvar 1) (.lit 0))), ((.lit 1), (.lit 1))]
theorem x55h3_1 : runHB R0 0 0 (run p55h3_1 [con55 (inB 1 4503599627370496)] 72 (Code.r (Code.r (Code.r (Code.r (Code.r c55))))) [(0, .sym .i64 (.dvar 0)), (1, .sym .i64 (.dvar 1)), (5, .sym .i64 (.dvar 2)), (6, .sym .i64 (.dvar 3))] [] 1024) .ret [⟨1024, 1024, 2, 0, 0⟩] [(4, .opq 2 1024 0 (.slc [.int .i64, .int .i64, .int .i64, .int .i64, .int .i64, .int .i64, .int .i64]) (.lit 0) (.lit 1))] [(1024, .opq 2 0 1023 (.slc [.int .i64, .int .i64, .int .i64, .int .i64, .int .i64, .int .i64, .int .i64]) (.ap 2 (.dvar 0) (.dvar 1) (.lit 0)) (.lit 1) [] 35)] 1025 e55h3_1 = true := by kernel_rfl
end
end Go.Proofs.YtbkokbjpbbpllaaGreat
namespace Go.Proofs.YtbkokbjpbbpllaaGreat
open Go.Tw
noncomputable section
/-! The document's lay: its contract. -/
def A55 : List (Nat × AV) := [(1, SI 1), (0, SI 0)]
def T55 : List (Nat × AV) := [(4, .opq 2 1024 0 (.slc L7) (.lit 0) (.lit 1))]
def O55 : List (Nat × Ob) := [(1024, LO r55 (.lit 1))]
def F3 : List (Nat × AV) := [(0, SI 0), (1, SI 1), (5, SI 2), (6, SI 3)]
def rest55 : Code := Code.r (Code.r (Code.r (Code.r (Code.r c55))))
theorem c55_eq : c55 = .seq (Code.l c55) (.seq (Code.l (Code.r c55)) (.seq (Code.l (Code.r (Code.r c55))) (.seq (Code.l (Code.r (Code.r (Code.r c55)))) (.seq (Code.l (Code.r (Code.r (Code.r (Code.r c55))))) rest55)))) := by kernel_rfl
theorem r55_dat {v : Val} (hF : v.fn = F0) : @Sx.dat v r55 = .lst (layI (@Sx.dat v (D 0)).toI (@Sx.dat v (D 1)).toI) := by
  show v.fn 2 _ _ _ = _
  rw [hF]; rfl
abbrev V55 (r e : Int) : Val := VA [.int r, .int e, .int (loOf e), .int (hiOf e)]
theorem lo_eq (e : Int) : (wrapI .i64 (e.tmod 4096 + 4096)).tmod 4096 = e % 4096 := by
  rw [tmod4096, tmod4096, wrap_i64]
  split <;> split <;> split <;> omega
theorem lay55 {v : Val} (hF : v.fn = F0)
    (hbig : ¬ (-2147483648 ≤ (@Sx.dat v (D 1)).toI ∧ (@Sx.dat v (D 1)).toI < 2147483648) → HR 0 0 72 (V55 (@Sx.dat v (D 0)).toI (@Sx.dat v (D 1)).toI) rest55 (envL F3) (toldSt b0 [] R0) .ret v (envL T55) (toldSt b0 O55 1025)) :
    HR 0 0 72 v c55 (envL A55) (toldSt b0 [] R0) .ret v (envL T55) (toldSt b0 O55 1025) := by
  have hret := r55_dat hF
  generalize hr : (@Sx.dat v (D 0)).toI = r at *
  generalize he : (@Sx.dat v (D 1)).toI = e at *
  let V1 : Val := VA [.int r, .int e]
  let V2 : Val := VA [.int r, .int e, .int (e % 4096)]
  let V3 : Val := VA [.int r, .int e, .int (loOf e)]
  let V4 : Val := V55 r e
  rw [c55_eq]
  have h0 : HR 0 0 72 v (Code.l c55) (envL A55) (toldSt b0 [] R0) .normal V1 (envL [(0, SI 0), (1, SI 1)]) (toldSt b0 [] R0) := rn hF holds0 nocon (Nat.le_refl 0) x55a_0 (by
    simp only [EqsOk, e55a_0, List.forall_mem_cons]
    exact ⟨congrArg Dat.int hr, congrArg Dat.int he, fun _ h => by cases h⟩)
  by_cases hs : -2048 ≤ e ∧ e < 2048
  · refine h0.seq (Nat.le_refl 0) (HT.seq_out (rn (v := V1) rfl ?_ nocon (Nat.le_refl 0) x55b_1 ?_) (by simp))
    · simp only [Holds, p55b_1, List.forall_mem_cons]
      exact ⟨decide_eq_false (show ¬ e < -2048 by omega), decide_eq_true (show e < 2048 by omega), fun _ h => by cases h⟩
    · simp only [EqsOk, e55b_1, List.forall_mem_cons]
      refine ⟨rfl, ?_, rfl, fun _ h => by cases h⟩
      exact Eq.trans (show _ = Dat.lst [lnI 22 r 0 0 e] from rfl) (by rw [← layI_small hs]; exact hret.symm)
  · have h1 : HR 0 0 72 V1 (Code.l (Code.r c55)) (envL [(0, SI 0), (1, SI 1)]) (toldSt b0 [] R0) .normal V1 (envL [(0, SI 0), (1, SI 1)]) (toldSt b0 [] R0) := by
      by_cases hlt : e < -2048
      · refine rn (v := V1) rfl ?_ nocon (Nat.le_refl 0) x55b_0 ?_
        · simp only [Holds, p55b_0, List.forall_mem_cons]
          exact ⟨decide_eq_true (show e < -2048 from hlt), fun _ h => by cases h⟩
        · exact eqs_cons rfl (eqs_cons rfl eqs_nil)
      · refine rn (v := V1) rfl ?_ nocon (Nat.le_refl 0) x55b_2 ?_
        · simp only [Holds, p55b_2, List.forall_mem_cons]
          exact ⟨decide_eq_false (show ¬ e < -2048 from hlt), decide_eq_false (show ¬ e < 2048 by omega), fun _ h => by cases h⟩
        · exact eqs_cons rfl (eqs_cons rfl eqs_nil)
    have h2 : HR 0 0 72 V1 (Code.l (Code.r (Code.r c55))) (envL [(0, SI 0), (1, SI 1)]) (toldSt b0 [] R0) .normal V2 (envL [(0, SI 0), (1, SI 1), (5, SI 2)]) (toldSt b0 [] R0) := rn (v := V1) rfl holds0 nocon (Nat.le_refl 0) x55c_0 (by
      simp only [EqsOk, e55c_0, List.forall_mem_cons]
      exact ⟨rfl, rfl, congrArg Dat.int (lo_eq e), fun _ h => by cases h⟩)
    have h3 : HR 0 0 72 V2 (Code.l (Code.r (Code.r (Code.r c55)))) (envL [(0, SI 0), (1, SI 1), (5, SI 2)]) (toldSt b0 [] R0) .normal V3 (envL [(0, SI 0), (1, SI 1), (5, SI 2)]) (toldSt b0 [] R0) := by
      by_cases hm : e % 4096 < 2048
      · refine rn (v := V2) rfl ?_ nocon (Nat.le_refl 0) x55d_0 ?_
        · simp only [Holds, p55d_0, List.forall_mem_cons]
          exact ⟨decide_eq_true (show e % 4096 < 2048 from hm), fun _ h => by cases h⟩
        · simp only [EqsOk, e55d_0, List.forall_mem_cons]
          exact ⟨rfl, rfl, congrArg Dat.int (show e % 4096 = loOf e by unfold loOf; rw [if_pos hm]), fun _ h => by cases h⟩
      · refine rn (v := V2) rfl ?_ nocon (Nat.le_refl 0) x55d_1 ?_
        · simp only [Holds, p55d_1, List.forall_mem_cons]
          exact ⟨decide_eq_false (show ¬ e % 4096 < 2048 from hm), fun _ h => by cases h⟩
        · simp only [EqsOk, e55d_1, List.forall_mem_cons]
          exact ⟨rfl, rfl, congrArg Dat.int (show wrapI .i64 (e % 4096 - 4096) = loOf e by unfold loOf; rw [if_neg hm, wrap_small (by omega) (by omega)]), fun _ h => by cases h⟩
    have h4 : HR 0 0 72 V3 (Code.l (Code.r (Code.r (Code.r (Code.r c55))))) (envL [(0, SI 0), (1, SI 1), (5, SI 2)]) (toldSt b0 [] R0) .normal V4 (envL F3) (toldSt b0 [] R0) := rn (v := V3) rfl holds0 nocon (Nat.le_refl 0) x55e_0 (by
      simp only [EqsOk, e55e_0, List.forall_mem_cons]
      exact ⟨rfl, rfl, rfl, rfl, fun _ h => by cases h⟩)
    refine h0.seq (Nat.le_refl 0) (h1.seq (Nat.le_refl 0) (h2.seq (Nat.le_refl 0) (h3.seq (Nat.le_refl 0) (h4.seq (Nat.le_refl 0) ?_))))
    by_cases hm : -2147483648 ≤ e ∧ e < 2147483648
    · have hlay := layI_mid (r := r) hs hm
      have q1 : decide (e < -2147483648) = false := decide_eq_false (by omega)
      have q2 : decide (e < 2147483648) = true := decide_eq_true (by omega)
      by_cases hh : hiOf e = 524288
      · have q3 : (hiOf e == 524288) = true := by simpa using hh
        by_cases hz : loOf e = 0
        · have q4 : (loOf e == 0) = true := by simpa using hz
          refine rn (v := V4) rfl ?_ nocon (Nat.le_refl 0) x55f_0 ?_
          · simp only [Holds, p55f_0, List.forall_mem_cons]
            exact ⟨q1, q2, q3, q4, fun _ h => by cases h⟩
          · simp only [EqsOk, e55f_0, List.forall_mem_cons]
            refine ⟨rfl, ?_, rfl, fun _ h => by cases h⟩
            rw [if_pos hh, if_pos hz] at hlay
            exact Eq.trans (show _ = Dat.lst [lnI 1 r 0 0 (-524288)] from rfl) (by rw [← hlay]; exact hret.symm)
        · have q4 : (loOf e == 0) = false := by simpa using hz
          refine rn (v := V4) rfl ?_ nocon (Nat.le_refl 0) x55f_1 ?_
          · simp only [Holds, p55f_1, List.forall_mem_cons]
            exact ⟨q1, q2, q3, q4, fun _ h => by cases h⟩
          · simp only [EqsOk, e55f_1, List.forall_mem_cons]
            refine ⟨rfl, ?_, rfl, fun _ h => by cases h⟩
            rw [if_pos hh, if_neg hz] at hlay
            exact Eq.trans (show _ = Dat.lst [lnI 1 r 0 0 (-524288), lnI 31 r r 0 (loOf e)] from rfl) (by rw [← hlay]; exact hret.symm)
      · have q3 : (hiOf e == 524288) = false := by simpa using hh
        by_cases hz : loOf e = 0
        · have q4 : (loOf e == 0) = true := by simpa using hz
          refine rn (v := V4) rfl ?_ nocon (Nat.le_refl 0) x55f_2 ?_
          · simp only [Holds, p55f_2, List.forall_mem_cons]
            exact ⟨q1, q2, q3, q4, fun _ h => by cases h⟩
          · simp only [EqsOk, e55f_2, List.forall_mem_cons]
            refine ⟨rfl, ?_, rfl, fun _ h => by cases h⟩
            rw [if_neg hh, if_pos hz] at hlay
            exact Eq.trans (show _ = Dat.lst [lnI 1 r 0 0 (hiOf e)] from rfl) (by rw [← hlay]; exact hret.symm)
        · have q4 : (loOf e == 0) = false := by simpa using hz
          refine rn (v := V4) rfl ?_ nocon (Nat.le_refl 0) x55f_3 ?_
          · simp only [Holds, p55f_3, List.forall_mem_cons]
            exact ⟨q1, q2, q3, q4, fun _ h => by cases h⟩
          · simp only [EqsOk, e55f_3, List.forall_mem_cons]
            refine ⟨rfl, ?_, rfl, fun _ h => by cases h⟩
            rw [if_neg hh, if_neg hz] at hlay
            exact Eq.trans (show _ = Dat.lst [lnI 1 r 0 0 (hiOf e), lnI 31 r r 0 (loOf e)] from rfl) (by rw [← hlay]; exact hret.symm)
    · exact hbig hm
end
end Go.Proofs.YtbkokbjpbbpllaaGreat
namespace Go.Proofs.YtbkokbjpbbpllaaGreat
open Go.Tw
noncomputable section
/-! The document's lay: its contracts, level by level. -/
theorem lay55_con {p : Dcs} (h : ∀ v : Val, v.fn = F0 → @Holds v p → ¬ (-2147483648 ≤ (@Sx.dat v (D 1)).toI ∧ (@Sx.dat v (D 1)).toI < 2147483648) → HR 0 0 72 (V55 (@Sx.dat v (D 0)).toI (@Sx.dat v (D 1)).toI) rest55 (envL F3) (toldSt b0 [] R0) .ret v (envL T55) (toldSt b0 O55 1025)) : (con55 p).Sound F0 P gl0 b0 R0 := by
  refine con_sound (fn := Tryz.f55) (code := c55) Tryz.func55 (by rfl) (by kernel_rfl) (by kernel_rfl) fun v hF hp => ?_
  refine ⟨.ret, T55, _, _, .inl rfl, ?_, by rfl, rfl⟩
  exact lay55 hF (h v hF hp)
theorem con55_0 : (con55 (inB 1 2147483648)).Sound F0 P gl0 b0 R0 := by
  refine lay55_con fun v _ hp hn => ?_
  have h1 := hp (.cmp .lss (D 1) (.lit (-2147483648)), false) (by simp [inB])
  have h2 := hp (.cmp .lss (D 1) (.lit 2147483648), true) (by simp [inB])
  exact absurd ⟨Int.not_lt.1 (of_decide_eq_false h1), of_decide_eq_true h2⟩ hn
theorem big55_1 {v : Val} (hF : v.fn = F0) {r e : Int} (hr : (@Sx.dat v (D 0)).toI = r) (he : (@Sx.dat v (D 1)).toI = e) (hn : ¬ (-2147483648 ≤ e ∧ e < 2147483648)) (hb : -2147483648 ≤ hiOf e ∧ hiOf e < 2147483648) (hc : (con55 (inB 1 2147483648)).Sound F0 P gl0 b0 R0) :
    HR 0 0 72 (V55 r e) rest55 (envL F3) (toldSt b0 [] R0) .ret v (envL T55) (toldSt b0 O55 1025) := by
  have hret := r55_dat hF
  rw [hr, he] at hret
  have hlay := layI_big (r := r) hn
  have hlen := layI_len r (hiOf e)
  have hcs : ∀ c ∈ [con55 (inB 1 2147483648)], c.Sound F0 P gl0 b0 R0 := fun c h => by
    rw [List.mem_singleton.1 h]; exact hc
  have w1 : decide (hiOf e < -2147483648) = false := decide_eq_false (by omega)
  have w2 : decide (hiOf e < 2147483648) = true := decide_eq_true (by omega)
  have w3 : decide (((layI r (hiOf e)).length : Int) < 1000000001) = true := decide_eq_true (by omega)
  have w4 : decide (((layI r (hiOf e) ++ [lnI 28 r r 0 12]).length : Int) < 1000000001) = true := decide_eq_true (by rw [List.length_append]; simp; omega)
  by_cases hz : loOf e = 0
  · have q4 : (loOf e == 0) = true := by simpa using hz
    rw [if_pos hz] at hlay
    by_cases hlt : e < -2147483648
    · refine rn (v := V55 r e) rfl ?_ hcs (Nat.le_refl 0) x55g1_0 ?_
      · simp only [Holds, p55g1_0, List.forall_mem_cons]
        exact ⟨w1, w2, decide_eq_true (show e < -2147483648 by omega), w3, q4, fun _ h => by cases h⟩
      · simp only [EqsOk, e55g1_0, List.forall_mem_cons]
        refine ⟨rfl, ?_, rfl, fun _ h => by cases h⟩
        exact Eq.trans (show _ = Dat.lst (layI r (hiOf e) ++ [lnI 28 r r 0 12]) from rfl) (by rw [← hlay]; exact hret.symm)
    · refine rn (v := V55 r e) rfl ?_ hcs (Nat.le_refl 0) x55h1_0 ?_
      · simp only [Holds, p55h1_0, List.forall_mem_cons]
        exact ⟨w1, w2, decide_eq_false (show ¬ e < -2147483648 by omega), decide_eq_false (show ¬ e < 2147483648 by omega), w3, q4, fun _ h => by cases h⟩
      · simp only [EqsOk, e55h1_0, List.forall_mem_cons]
        refine ⟨rfl, ?_, rfl, fun _ h => by cases h⟩
        exact Eq.trans (show _ = Dat.lst (layI r (hiOf e) ++ [lnI 28 r r 0 12]) from rfl) (by rw [← hlay]; exact hret.symm)
  · have q4 : (loOf e == 0) = false := by simpa using hz
    rw [if_neg hz] at hlay
    by_cases hlt : e < -2147483648
    · refine rn (v := V55 r e) rfl ?_ hcs (Nat.le_refl 0) x55g1_1 ?_
      · simp only [Holds, p55g1_1, List.forall_mem_cons]
        exact ⟨w1, w2, decide_eq_true (show e < -2147483648 by omega), w3, q4, w4, fun _ h => by cases h⟩
      · simp only [EqsOk, e55g1_1, List.forall_mem_cons]
        refine ⟨rfl, ?_, rfl, fun _ h => by cases h⟩
        exact Eq.trans (show _ = Dat.lst ((layI r (hiOf e) ++ [lnI 28 r r 0 12]) ++ [lnI 22 r r 0 (loOf e)]) from rfl) (by rw [List.append_assoc]; exact Eq.trans (congrArg Dat.lst hlay.symm) hret.symm)
    · refine rn (v := V55 r e) rfl ?_ hcs (Nat.le_refl 0) x55h1_1 ?_
      · simp only [Holds, p55h1_1, List.forall_mem_cons]
        exact ⟨w1, w2, decide_eq_false (show ¬ e < -2147483648 by omega), decide_eq_false (show ¬ e < 2147483648 by omega), w3, q4, w4, fun _ h => by cases h⟩
      · simp only [EqsOk, e55h1_1, List.forall_mem_cons]
        refine ⟨rfl, ?_, rfl, fun _ h => by cases h⟩
        exact Eq.trans (show _ = Dat.lst ((layI r (hiOf e) ++ [lnI 28 r r 0 12]) ++ [lnI 22 r r 0 (loOf e)]) from rfl) (by rw [List.append_assoc]; exact Eq.trans (congrArg Dat.lst hlay.symm) hret.symm)
theorem big55_2 {v : Val} (hF : v.fn = F0) {r e : Int} (hr : (@Sx.dat v (D 0)).toI = r) (he : (@Sx.dat v (D 1)).toI = e) (hn : ¬ (-2147483648 ≤ e ∧ e < 2147483648)) (hb : -4398046511104 ≤ hiOf e ∧ hiOf e < 4398046511104) (hc : (con55 (inB 1 4398046511104)).Sound F0 P gl0 b0 R0) :
    HR 0 0 72 (V55 r e) rest55 (envL F3) (toldSt b0 [] R0) .ret v (envL T55) (toldSt b0 O55 1025) := by
  have hret := r55_dat hF
  rw [hr, he] at hret
  have hlay := layI_big (r := r) hn
  have hlen := layI_len r (hiOf e)
  have hcs : ∀ c ∈ [con55 (inB 1 4398046511104)], c.Sound F0 P gl0 b0 R0 := fun c h => by
    rw [List.mem_singleton.1 h]; exact hc
  have w1 : decide (hiOf e < -4398046511104) = false := decide_eq_false (by omega)
  have w2 : decide (hiOf e < 4398046511104) = true := decide_eq_true (by omega)
  have w3 : decide (((layI r (hiOf e)).length : Int) < 1000000001) = true := decide_eq_true (by omega)
  have w4 : decide (((layI r (hiOf e) ++ [lnI 28 r r 0 12]).length : Int) < 1000000001) = true := decide_eq_true (by rw [List.length_append]; simp; omega)
  by_cases hz : loOf e = 0
  · have q4 : (loOf e == 0) = true := by simpa using hz
    rw [if_pos hz] at hlay
    by_cases hlt : e < -2147483648
    · refine rn (v := V55 r e) rfl ?_ hcs (Nat.le_refl 0) x55g2_0 ?_
      · simp only [Holds, p55g2_0, List.forall_mem_cons]
        exact ⟨w1, w2, decide_eq_true (show e < -2147483648 by omega), w3, q4, fun _ h => by cases h⟩
      · simp only [EqsOk, e55g2_0, List.forall_mem_cons]
        refine ⟨rfl, ?_, rfl, fun _ h => by cases h⟩
        exact Eq.trans (show _ = Dat.lst (layI r (hiOf e) ++ [lnI 28 r r 0 12]) from rfl) (by rw [← hlay]; exact hret.symm)
    · refine rn (v := V55 r e) rfl ?_ hcs (Nat.le_refl 0) x55h2_0 ?_
      · simp only [Holds, p55h2_0, List.forall_mem_cons]
        exact ⟨w1, w2, decide_eq_false (show ¬ e < -2147483648 by omega), decide_eq_false (show ¬ e < 2147483648 by omega), w3, q4, fun _ h => by cases h⟩
      · simp only [EqsOk, e55h2_0, List.forall_mem_cons]
        refine ⟨rfl, ?_, rfl, fun _ h => by cases h⟩
        exact Eq.trans (show _ = Dat.lst (layI r (hiOf e) ++ [lnI 28 r r 0 12]) from rfl) (by rw [← hlay]; exact hret.symm)
  · have q4 : (loOf e == 0) = false := by simpa using hz
    rw [if_neg hz] at hlay
    by_cases hlt : e < -2147483648
    · refine rn (v := V55 r e) rfl ?_ hcs (Nat.le_refl 0) x55g2_1 ?_
      · simp only [Holds, p55g2_1, List.forall_mem_cons]
        exact ⟨w1, w2, decide_eq_true (show e < -2147483648 by omega), w3, q4, w4, fun _ h => by cases h⟩
      · simp only [EqsOk, e55g2_1, List.forall_mem_cons]
        refine ⟨rfl, ?_, rfl, fun _ h => by cases h⟩
        exact Eq.trans (show _ = Dat.lst ((layI r (hiOf e) ++ [lnI 28 r r 0 12]) ++ [lnI 22 r r 0 (loOf e)]) from rfl) (by rw [List.append_assoc]; exact Eq.trans (congrArg Dat.lst hlay.symm) hret.symm)
    · refine rn (v := V55 r e) rfl ?_ hcs (Nat.le_refl 0) x55h2_1 ?_
      · simp only [Holds, p55h2_1, List.forall_mem_cons]
        exact ⟨w1, w2, decide_eq_false (show ¬ e < -2147483648 by omega), decide_eq_false (show ¬ e < 2147483648 by omega), w3, q4, w4, fun _ h => by cases h⟩
      · simp only [EqsOk, e55h2_1, List.forall_mem_cons]
        refine ⟨rfl, ?_, rfl, fun _ h => by cases h⟩
        exact Eq.trans (show _ = Dat.lst ((layI r (hiOf e) ++ [lnI 28 r r 0 12]) ++ [lnI 22 r r 0 (loOf e)]) from rfl) (by rw [List.append_assoc]; exact Eq.trans (congrArg Dat.lst hlay.symm) hret.symm)
theorem big55_3 {v : Val} (hF : v.fn = F0) {r e : Int} (hr : (@Sx.dat v (D 0)).toI = r) (he : (@Sx.dat v (D 1)).toI = e) (hn : ¬ (-2147483648 ≤ e ∧ e < 2147483648)) (hb : -4503599627370496 ≤ hiOf e ∧ hiOf e < 4503599627370496) (hc : (con55 (inB 1 4503599627370496)).Sound F0 P gl0 b0 R0) :
    HR 0 0 72 (V55 r e) rest55 (envL F3) (toldSt b0 [] R0) .ret v (envL T55) (toldSt b0 O55 1025) := by
  have hret := r55_dat hF
  rw [hr, he] at hret
  have hlay := layI_big (r := r) hn
  have hlen := layI_len r (hiOf e)
  have hcs : ∀ c ∈ [con55 (inB 1 4503599627370496)], c.Sound F0 P gl0 b0 R0 := fun c h => by
    rw [List.mem_singleton.1 h]; exact hc
  have w1 : decide (hiOf e < -4503599627370496) = false := decide_eq_false (by omega)
  have w2 : decide (hiOf e < 4503599627370496) = true := decide_eq_true (by omega)
  have w3 : decide (((layI r (hiOf e)).length : Int) < 1000000001) = true := decide_eq_true (by omega)
  have w4 : decide (((layI r (hiOf e) ++ [lnI 28 r r 0 12]).length : Int) < 1000000001) = true := decide_eq_true (by rw [List.length_append]; simp; omega)
  by_cases hz : loOf e = 0
  · have q4 : (loOf e == 0) = true := by simpa using hz
    rw [if_pos hz] at hlay
    by_cases hlt : e < -2147483648
    · refine rn (v := V55 r e) rfl ?_ hcs (Nat.le_refl 0) x55g3_0 ?_
      · simp only [Holds, p55g3_0, List.forall_mem_cons]
        exact ⟨w1, w2, decide_eq_true (show e < -2147483648 by omega), w3, q4, fun _ h => by cases h⟩
      · simp only [EqsOk, e55g3_0, List.forall_mem_cons]
        refine ⟨rfl, ?_, rfl, fun _ h => by cases h⟩
        exact Eq.trans (show _ = Dat.lst (layI r (hiOf e) ++ [lnI 28 r r 0 12]) from rfl) (by rw [← hlay]; exact hret.symm)
    · refine rn (v := V55 r e) rfl ?_ hcs (Nat.le_refl 0) x55h3_0 ?_
      · simp only [Holds, p55h3_0, List.forall_mem_cons]
        exact ⟨w1, w2, decide_eq_false (show ¬ e < -2147483648 by omega), decide_eq_false (show ¬ e < 2147483648 by omega), w3, q4, fun _ h => by cases h⟩
      · simp only [EqsOk, e55h3_0, List.forall_mem_cons]
        refine ⟨rfl, ?_, rfl, fun _ h => by cases h⟩
        exact Eq.trans (show _ = Dat.lst (layI r (hiOf e) ++ [lnI 28 r r 0 12]) from rfl) (by rw [← hlay]; exact hret.symm)
  · have q4 : (loOf e == 0) = false := by simpa using hz
    rw [if_neg hz] at hlay
    by_cases hlt : e < -2147483648
    · refine rn (v := V55 r e) rfl ?_ hcs (Nat.le_refl 0) x55g3_1 ?_
      · simp only [Holds, p55g3_1, List.forall_mem_cons]
        exact ⟨w1, w2, decide_eq_true (show e < -2147483648 by omega), w3, q4, w4, fun _ h => by cases h⟩
      · simp only [EqsOk, e55g3_1, List.forall_mem_cons]
        refine ⟨rfl, ?_, rfl, fun _ h => by cases h⟩
        exact Eq.trans (show _ = Dat.lst ((layI r (hiOf e) ++ [lnI 28 r r 0 12]) ++ [lnI 22 r r 0 (loOf e)]) from rfl) (by rw [List.append_assoc]; exact Eq.trans (congrArg Dat.lst hlay.symm) hret.symm)
    · refine rn (v := V55 r e) rfl ?_ hcs (Nat.le_refl 0) x55h3_1 ?_
      · simp only [Holds, p55h3_1, List.forall_mem_cons]
        exact ⟨w1, w2, decide_eq_false (show ¬ e < -2147483648 by omega), decide_eq_false (show ¬ e < 2147483648 by omega), w3, q4, w4, fun _ h => by cases h⟩
      · simp only [EqsOk, e55h3_1, List.forall_mem_cons]
        refine ⟨rfl, ?_, rfl, fun _ h => by cases h⟩
        exact Eq.trans (show _ = Dat.lst ((layI r (hiOf e) ++ [lnI 28 r r 0 12]) ++ [lnI 22 r r 0 (loOf e)]) from rfl) (by rw [List.append_assoc]; exact Eq.trans (congrArg Dat.lst hlay.symm) hret.symm)
theorem con55_1 : (con55 (inB 1 4398046511104)).Sound F0 P gl0 b0 R0 := by
  refine lay55_con fun v hF hp hn => ?_
  have h1 := of_decide_eq_false (hp (.cmp .lss (D 1) (.lit (-4398046511104)), false) (by simp [inB]))
  have h2 := of_decide_eq_true (hp (.cmp .lss (D 1) (.lit 4398046511104), true) (by simp [inB]))
  exact big55_1 hF rfl rfl hn (by have := hiOf_bound (@Sx.dat v (D 1)).toI 4398046511104 (by omega) ⟨Int.not_lt.1 h1, h2⟩ (by omega); omega) con55_0
theorem con55_2 : (con55 (inB 1 4503599627370496)).Sound F0 P gl0 b0 R0 := by
  refine lay55_con fun v hF hp hn => ?_
  have h1 := of_decide_eq_false (hp (.cmp .lss (D 1) (.lit (-4503599627370496)), false) (by simp [inB]))
  have h2 := of_decide_eq_true (hp (.cmp .lss (D 1) (.lit 4503599627370496), true) (by simp [inB]))
  exact big55_2 hF rfl rfl hn (by have := hiOf_bound (@Sx.dat v (D 1)).toI 4503599627370496 (by omega) ⟨Int.not_lt.1 h1, h2⟩ (by omega); omega) con55_1
theorem con55_ok : (con55 []).Sound F0 P gl0 b0 R0 :=
  lay55_con fun v hF _ hn => big55_3 hF rfl rfl hn (by have := hiOf_top (@Sx.dat v (D 1)).toI; omega) con55_2
end
end Go.Proofs.YtbkokbjpbbpllaaGreat
