/-
  A part of the law's proof over the abstract evaluator. Conditions: those of each theorem, as it states them.
-/
import Derived.Test.YtgcpcgaigbnniaaGreatLayA
set_option linter.all false
/-! Contracts of Check, Encode, Decode, by operation and by where the number lies. -/
set_option linter.all false
set_option maxRecDepth 1000000
namespace Go.Proofs.YtgcpcgaigbnniaaGreat
open Go.Tw
noncomputable section
def k_uc_69 : Con := { f := 69, args := [.agg [.int .i64 1, .sym .i64 (.dvar 0), .int .i64 0, .int .i64 0, .int .i64 (-524288)]], pre := rg ++ [], res := .int .i64 0, objs := [] }
def e_uc_69 : Eqs := []
theorem xk_uc_69 : runHB R0 0 0 (run (rg ++ []) [] 84 c69 [(0, .agg [.int .i64 1, .sym .i64 (.dvar 0), .int .i64 0, .int .i64 0, .int .i64 (-524288)])] [] R0) .ret [] [(2, .int .i64 0)] [] 1024 e_uc_69 = true := by kernel_rfl
theorem ok_uc_69 : k_uc_69.Sound F0 P gl0 b0 R0 :=
  con_sound2 (fn := Tryz.f69) (code := c69) Tryz.func69 (by rfl) (by kernel_rfl) rfl rfl rfl fun v hF hp => ⟨.ret, [(2, .int .i64 0)], [], 1024, _, _, .inl rfl, rn (nt := 84) hF hp nocon xk_uc_69 (eqs_same (by kernel_rfl)), by rfl, rfl⟩
def k_uc_34 : Con := { f := 34, args := [.agg [.int .i64 1, .sym .i64 (.dvar 0), .int .i64 0, .int .i64 0, .int .i64 (-524288)]], pre := rg ++ [], res := .tup [.sym .u32 (.bin .or .u32 (.bin .or .u32 (.lit 55) (.bin .shl .u32 (.dvar 0) (.lit 7))) (.lit 2147483648)), .int .i64 0], objs := [] }
def e_uc_34 : Eqs := [((.pr 30 (.bin .or .u32 (.bin .or .u32 (.lit 55) (.bin .shl .u32 (.dvar 0) (.lit 7))) (.lit 2147483648)) (.lit 0)), (.pr 30 (.bin .or .u32 (.bin .or .u32 (.lit 55) (.bin .shl .u32 (.dvar 0) (.lit 7))) (.lit 2147483648)) (.lit 0)))]
theorem xk_uc_34 : runHB R0 0 0 (run (rg ++ []) [] 21 c34 [(0, .agg [.int .i64 1, .sym .i64 (.dvar 0), .int .i64 0, .int .i64 0, .int .i64 (-524288)])] [] R0) .ret [] [(2, .sym .u32 (.bin .or .u32 (.bin .or .u32 (.lit 55) (.bin .shl .u32 (.dvar 0) (.lit 7))) (.lit 2147483648))), (3, .int .i64 0)] [] 1024 e_uc_34 = true := by kernel_rfl
theorem ok_uc_34 : k_uc_34.Sound F0 P gl0 b0 R0 :=
  con_sound2 (fn := Tryz.f34) (code := c34) Tryz.func34 (by rfl) (by kernel_rfl) rfl rfl rfl fun v hF hp => ⟨.ret, [(2, .sym .u32 (.bin .or .u32 (.bin .or .u32 (.lit 55) (.bin .shl .u32 (.dvar 0) (.lit 7))) (.lit 2147483648))), (3, .int .i64 0)], [], 1024, _, _, .inl rfl, rn (nt := 21) hF hp nocon xk_uc_34 (eqs_same (by kernel_rfl)), by rfl, rfl⟩
def k_uc_36 : Con := { f := 36, args := [.sym .u32 (.bin .or .u32 (.bin .or .u32 (.lit 55) (.bin .shl .u32 (.dvar 0) (.lit 7))) (.lit 2147483648))], pre := rg ++ [], res := .tup [.agg [.int .i64 1, .sym .i64 (.dvar 0), .int .i64 0, .int .i64 0, .int .i64 (-524288)], .int .i64 0], objs := [] }
def e_uc_36 : Eqs := [((.pr 30 (.dvar 0) (.lit 0)), (.pr 30 (.dvar 0) (.lit 0)))]
theorem xk_uc_36 : runHB R0 0 0 (run (rg ++ []) [] 52 c36 [(0, .sym .u32 (.bin .or .u32 (.bin .or .u32 (.lit 55) (.bin .shl .u32 (.dvar 0) (.lit 7))) (.lit 2147483648)))] [] R0) .ret [⟨1024, 1024, 0, 0, 0⟩] [(2, .ptr 1024 0 0 5), (3, .int .i64 0)] [(1024, .box [.int .i64 1, .sym .i64 (.dvar 0), .int .i64 0, .int .i64 0, .int .i64 (-524288)] 42)] 1025 e_uc_36 = true := by kernel_rfl
theorem ok_uc_36 : k_uc_36.Sound F0 P gl0 b0 R0 :=
  con_sound2 (fn := Tryz.f36) (code := c36) Tryz.func36 (by rfl) (by kernel_rfl) rfl rfl rfl fun v hF hp => ⟨.ret, [(2, .ptr 1024 0 0 5), (3, .int .i64 0)], [(1024, .box [.int .i64 1, .sym .i64 (.dvar 0), .int .i64 0, .int .i64 0, .int .i64 (-524288)] 42)], 1025, _, _, .inl rfl, rn (nt := 52) hF hp nocon xk_uc_36 (eqs_same (by kernel_rfl)), by rfl, rfl⟩
def k_uP_69 : Con := { f := 69, args := [.agg [.int .i64 1, .sym .i64 (.dvar 0), .int .i64 0, .int .i64 0, .int .i64 32768]], pre := rg ++ [], res := .int .i64 0, objs := [] }
def e_uP_69 : Eqs := []
theorem xk_uP_69 : runHB R0 0 0 (run (rg ++ []) [] 84 c69 [(0, .agg [.int .i64 1, .sym .i64 (.dvar 0), .int .i64 0, .int .i64 0, .int .i64 32768])] [] R0) .ret [] [(2, .int .i64 0)] [] 1024 e_uP_69 = true := by kernel_rfl
theorem ok_uP_69 : k_uP_69.Sound F0 P gl0 b0 R0 :=
  con_sound2 (fn := Tryz.f69) (code := c69) Tryz.func69 (by rfl) (by kernel_rfl) rfl rfl rfl fun v hF hp => ⟨.ret, [(2, .int .i64 0)], [], 1024, _, _, .inl rfl, rn (nt := 84) hF hp nocon xk_uP_69 (eqs_same (by kernel_rfl)), by rfl, rfl⟩
def k_uP_34 : Con := { f := 34, args := [.agg [.int .i64 1, .sym .i64 (.dvar 0), .int .i64 0, .int .i64 0, .int .i64 32768]], pre := rg ++ [], res := .tup [.sym .u32 (.bin .or .u32 (.bin .or .u32 (.lit 55) (.bin .shl .u32 (.dvar 0) (.lit 7))) (.lit 134217728)), .int .i64 0], objs := [] }
def e_uP_34 : Eqs := [((.pr 30 (.bin .or .u32 (.bin .or .u32 (.lit 55) (.bin .shl .u32 (.dvar 0) (.lit 7))) (.lit 134217728)) (.lit 0)), (.pr 30 (.bin .or .u32 (.bin .or .u32 (.lit 55) (.bin .shl .u32 (.dvar 0) (.lit 7))) (.lit 134217728)) (.lit 0)))]
theorem xk_uP_34 : runHB R0 0 0 (run (rg ++ []) [] 21 c34 [(0, .agg [.int .i64 1, .sym .i64 (.dvar 0), .int .i64 0, .int .i64 0, .int .i64 32768])] [] R0) .ret [] [(2, .sym .u32 (.bin .or .u32 (.bin .or .u32 (.lit 55) (.bin .shl .u32 (.dvar 0) (.lit 7))) (.lit 134217728))), (3, .int .i64 0)] [] 1024 e_uP_34 = true := by kernel_rfl
theorem ok_uP_34 : k_uP_34.Sound F0 P gl0 b0 R0 :=
  con_sound2 (fn := Tryz.f34) (code := c34) Tryz.func34 (by rfl) (by kernel_rfl) rfl rfl rfl fun v hF hp => ⟨.ret, [(2, .sym .u32 (.bin .or .u32 (.bin .or .u32 (.lit 55) (.bin .shl .u32 (.dvar 0) (.lit 7))) (.lit 134217728))), (3, .int .i64 0)], [], 1024, _, _, .inl rfl, rn (nt := 21) hF hp nocon xk_uP_34 (eqs_same (by kernel_rfl)), by rfl, rfl⟩
def k_uP_36 : Con := { f := 36, args := [.sym .u32 (.bin .or .u32 (.bin .or .u32 (.lit 55) (.bin .shl .u32 (.dvar 0) (.lit 7))) (.lit 134217728))], pre := rg ++ [], res := .tup [.agg [.int .i64 1, .sym .i64 (.dvar 0), .int .i64 0, .int .i64 0, .int .i64 32768], .int .i64 0], objs := [] }
def e_uP_36 : Eqs := [((.pr 30 (.dvar 0) (.lit 0)), (.pr 30 (.dvar 0) (.lit 0)))]
theorem xk_uP_36 : runHB R0 0 0 (run (rg ++ []) [] 52 c36 [(0, .sym .u32 (.bin .or .u32 (.bin .or .u32 (.lit 55) (.bin .shl .u32 (.dvar 0) (.lit 7))) (.lit 134217728)))] [] R0) .ret [⟨1024, 1024, 0, 0, 0⟩] [(2, .ptr 1024 0 0 5), (3, .int .i64 0)] [(1024, .box [.int .i64 1, .sym .i64 (.dvar 0), .int .i64 0, .int .i64 0, .int .i64 32768] 42)] 1025 e_uP_36 = true := by kernel_rfl
theorem ok_uP_36 : k_uP_36.Sound F0 P gl0 b0 R0 :=
  con_sound2 (fn := Tryz.f36) (code := c36) Tryz.func36 (by rfl) (by kernel_rfl) rfl rfl rfl fun v hF hp => ⟨.ret, [(2, .ptr 1024 0 0 5), (3, .int .i64 0)], [(1024, .box [.int .i64 1, .sym .i64 (.dvar 0), .int .i64 0, .int .i64 0, .int .i64 32768] 42)], 1025, _, _, .inl rfl, rn (nt := 52) hF hp nocon xk_uP_36 (eqs_same (by kernel_rfl)), by rfl, rfl⟩
def k_uN_69 : Con := { f := 69, args := [.agg [.int .i64 1, .sym .i64 (.dvar 0), .int .i64 0, .int .i64 0, .int .i64 (-32768)]], pre := rg ++ [], res := .int .i64 0, objs := [] }
def e_uN_69 : Eqs := []
theorem xk_uN_69 : runHB R0 0 0 (run (rg ++ []) [] 84 c69 [(0, .agg [.int .i64 1, .sym .i64 (.dvar 0), .int .i64 0, .int .i64 0, .int .i64 (-32768)])] [] R0) .ret [] [(2, .int .i64 0)] [] 1024 e_uN_69 = true := by kernel_rfl
theorem ok_uN_69 : k_uN_69.Sound F0 P gl0 b0 R0 :=
  con_sound2 (fn := Tryz.f69) (code := c69) Tryz.func69 (by rfl) (by kernel_rfl) rfl rfl rfl fun v hF hp => ⟨.ret, [(2, .int .i64 0)], [], 1024, _, _, .inl rfl, rn (nt := 84) hF hp nocon xk_uN_69 (eqs_same (by kernel_rfl)), by rfl, rfl⟩
def k_uN_34 : Con := { f := 34, args := [.agg [.int .i64 1, .sym .i64 (.dvar 0), .int .i64 0, .int .i64 0, .int .i64 (-32768)]], pre := rg ++ [], res := .tup [.sym .u32 (.bin .or .u32 (.bin .or .u32 (.lit 55) (.bin .shl .u32 (.dvar 0) (.lit 7))) (.lit 4160749568)), .int .i64 0], objs := [] }
def e_uN_34 : Eqs := [((.pr 30 (.bin .or .u32 (.bin .or .u32 (.lit 55) (.bin .shl .u32 (.dvar 0) (.lit 7))) (.lit 4160749568)) (.lit 0)), (.pr 30 (.bin .or .u32 (.bin .or .u32 (.lit 55) (.bin .shl .u32 (.dvar 0) (.lit 7))) (.lit 4160749568)) (.lit 0)))]
theorem xk_uN_34 : runHB R0 0 0 (run (rg ++ []) [] 21 c34 [(0, .agg [.int .i64 1, .sym .i64 (.dvar 0), .int .i64 0, .int .i64 0, .int .i64 (-32768)])] [] R0) .ret [] [(2, .sym .u32 (.bin .or .u32 (.bin .or .u32 (.lit 55) (.bin .shl .u32 (.dvar 0) (.lit 7))) (.lit 4160749568))), (3, .int .i64 0)] [] 1024 e_uN_34 = true := by kernel_rfl
theorem ok_uN_34 : k_uN_34.Sound F0 P gl0 b0 R0 :=
  con_sound2 (fn := Tryz.f34) (code := c34) Tryz.func34 (by rfl) (by kernel_rfl) rfl rfl rfl fun v hF hp => ⟨.ret, [(2, .sym .u32 (.bin .or .u32 (.bin .or .u32 (.lit 55) (.bin .shl .u32 (.dvar 0) (.lit 7))) (.lit 4160749568))), (3, .int .i64 0)], [], 1024, _, _, .inl rfl, rn (nt := 21) hF hp nocon xk_uN_34 (eqs_same (by kernel_rfl)), by rfl, rfl⟩
def k_uN_36 : Con := { f := 36, args := [.sym .u32 (.bin .or .u32 (.bin .or .u32 (.lit 55) (.bin .shl .u32 (.dvar 0) (.lit 7))) (.lit 4160749568))], pre := rg ++ [], res := .tup [.agg [.int .i64 1, .sym .i64 (.dvar 0), .int .i64 0, .int .i64 0, .int .i64 (-32768)], .int .i64 0], objs := [] }
def e_uN_36 : Eqs := [((.pr 30 (.dvar 0) (.lit 0)), (.pr 30 (.dvar 0) (.lit 0)))]
theorem xk_uN_36 : runHB R0 0 0 (run (rg ++ []) [] 52 c36 [(0, .sym .u32 (.bin .or .u32 (.bin .or .u32 (.lit 55) (.bin .shl .u32 (.dvar 0) (.lit 7))) (.lit 4160749568)))] [] R0) .ret [⟨1024, 1024, 0, 0, 0⟩] [(2, .ptr 1024 0 0 5), (3, .int .i64 0)] [(1024, .box [.int .i64 1, .sym .i64 (.dvar 0), .int .i64 0, .int .i64 0, .int .i64 (-32768)] 42)] 1025 e_uN_36 = true := by kernel_rfl
theorem ok_uN_36 : k_uN_36.Sound F0 P gl0 b0 R0 :=
  con_sound2 (fn := Tryz.f36) (code := c36) Tryz.func36 (by rfl) (by kernel_rfl) rfl rfl rfl fun v hF hp => ⟨.ret, [(2, .ptr 1024 0 0 5), (3, .int .i64 0)], [(1024, .box [.int .i64 1, .sym .i64 (.dvar 0), .int .i64 0, .int .i64 0, .int .i64 (-32768)] 42)], 1025, _, _, .inl rfl, rn (nt := 52) hF hp nocon xk_uN_36 (eqs_same (by kernel_rfl)), by rfl, rfl⟩
end
end Go.Proofs.YtgcpcgaigbnniaaGreat
