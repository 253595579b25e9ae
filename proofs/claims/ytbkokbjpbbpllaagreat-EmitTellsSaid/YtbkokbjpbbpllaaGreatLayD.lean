/-
  A part of the law's proof over the abstract evaluator. Conditions: those of each theorem, as it states them.
-/
import Derived.Test.YtbkokbjpbbpllaaGreatLayC
namespace Go.Proofs.YtbkokbjpbbpllaaGreat
open Go.Tw
noncomputable section
/-! Addresses of stubs: their runs. -/
def c30 : Code := match Tryz.f30.body with
  | some c => c
  | none => .skip
def p30_0 : Dcs := [((.cmp .lss (.dvar 0) (.lit 0)), true)]
def e30_0 : Eqs := [((.lit 0), (.pr 30 (.ap 4 (.dvar 0) (.dvar 1) (.lit 0)) (.lit 0))), ((.lit 2), (.pr 30 (.ap 5 (.dvar 0) (.dvar 1) (.lit 0)) (.lit 0)))]
theorem x30_0 : runHB R0 0 0 (run p30_0 [] 27 c30 [(1, .sym .i64 (.dvar 1)), (0, .sym .i64 (.dvar 0))] [] 1024) .ret [] [(4, .sym .u64 (.ap 4 (.dvar 0) (.dvar 1) (.lit 0))), (5, .sym .i64 (.ap 5 (.dvar 0) (.dvar 1) (.lit 0)))] [] 1024 e30_0 = true := by kernel_rfl
def p30_1 : Dcs := [((.cmp .lss (.dvar 0) (.lit 0)), false), ((.cmp .lss (.dvar 0) (.lit 8)), true), ((.cmp .lss (.dvar 1) (.lit 0)), true)]
def e30_1 : Eqs := [((.lit 0), (.pr 30 (.ap 4 (.dvar 0) (.dvar 1) (.lit 0)) (.lit 0))), ((.lit 2), (.pr 30 (.ap 5 (.dvar 0) (.dvar 1) (.lit 0)) (.lit 0)))]
theorem x30_1 : runHB R0 0 0 (run p30_1 [] 27 c30 [(1, .sym .i64 (.dvar 1)), (0, .sym .i64 (.dvar 0))] [] 1024) .ret [] [(4, .sym .u64 (.ap 4 (.dvar 0) (.dvar 1) (.lit 0))), (5, .sym .i64 (.ap 5 (.dvar 0) (.dvar 1) (.lit 0)))] [] 1024 e30_1 = true := by kernel_rfl
def p30_2 : Dcs := [((.cmp .lss (.dvar 0) (.lit 0)), false), ((.cmp .lss (.dvar 0) (.lit 8)), true), ((.cmp .lss (.dvar 1) (.lit 0)), false), ((.cmp .lss (.dvar 1) (.lit 4096)), true)]
def e30_2 : Eqs := [((.pr 30 (.bin .add .u64 (.lit 1073741824) (.bin .shl .u64 (.wrap .u64 (.bin .or .i64 (.bin .shl .i64 (.dvar 1) (.lit 3)) (.dvar 0))) (.lit 4))) (.lit 0)), (.pr 30 (.ap 4 (.dvar 0) (.dvar 1) (.lit 0)) (.lit 0))), ((.lit 0), (.pr 30 (.ap 5 (.dvar 0) (.dvar 1) (.lit 0)) (.lit 0)))]
theorem x30_2 : runHB R0 0 0 (run p30_2 [] 27 c30 [(1, .sym .i64 (.dvar 1)), (0, .sym .i64 (.dvar 0))] [] 1024) .ret [] [(4, .sym .u64 (.ap 4 (.dvar 0) (.dvar 1) (.lit 0))), (5, .sym .i64 (.ap 5 (.dvar 0) (.dvar 1) (.lit 0)))] [] 1024 e30_2 = true := by kernel_rfl
def p30_3 : Dcs := [((.cmp .lss (.dvar 0) (.lit 0)), false), ((.cmp .lss (.dvar 0) (.lit 8)), true), ((.cmp .lss (.dvar 1) (.lit 0)), false), ((.cmp .lss (.dvar 1) (.lit 4096)), false)]
def e30_3 : Eqs := [((.lit 0), (.pr 30 (.ap 4 (.dvar 0) (.dvar 1) (.lit 0)) (.lit 0))), ((.lit 2), (.pr 30 (.ap 5 (.dvar 0) (.dvar 1) (.lit 0)) (.lit 0)))]
theorem x30_3 : runHB R0 0 0 (run p30_3 [] 27 c30 [(1, .sym .i64 (.dvar 1)), (0, .sym .i64 (.dvar 0))] [] 1024) .ret [] [(4, .sym .u64 (.ap 4 (.dvar 0) (.dvar 1) (.lit 0))), (5, .sym .i64 (.ap 5 (.dvar 0) (.dvar 1) (.lit 0)))] [] 1024 e30_3 = true := by kernel_rfl
def p30_4 : Dcs := [((.cmp .lss (.dvar 0) (.lit 0)), false), ((.cmp .lss (.dvar 0) (.lit 8)), false)]
def e30_4 : Eqs := [((.lit 0), (.pr 30 (.ap 4 (.dvar 0) (.dvar 1) (.lit 0)) (.lit 0))), ((.lit 2), (.pr 30 (.ap 5 (.dvar 0) (.dvar 1) (.lit 0)) (.lit 0)))]
theorem x30_4 : runHB R0 0 0 (run p30_4 [] 27 c30 [(1, .sym .i64 (.dvar 1)), (0, .sym .i64 (.dvar 0))] [] 1024) .ret [] [(4, .sym .u64 (.ap 4 (.dvar 0) (.dvar 1) (.lit 0))), (5, .sym .i64 (.ap 5 (.dvar 0) (.dvar 1) (.lit 0)))] [] 1024 e30_4 = true := by kernel_rfl
theorem t30 {v v' : Val} (hF : v.fn = F0) (hcs : ∀ c ∈ ([] : List Con), c.Sound F0 P gl0 b0 R0) (hp : @Holds v []) (q0 : @Holds v p30_0 → EqsOk v v' e30_0) (q1 : @Holds v p30_1 → EqsOk v v' e30_1) (q2 : @Holds v p30_2 → EqsOk v v' e30_2) (q3 : @Holds v p30_3 → EqsOk v v' e30_3) (q4 : @Holds v p30_4 → EqsOk v v' e30_4) :
  HR 0 0 27 v c30 (envL [(1, .sym .i64 (.dvar 1)), (0, .sym .i64 (.dvar 0))]) (toldSt b0 [] 1024) .ret v' (envL [(4, .sym .u64 (.ap 4 (.dvar 0) (.dvar 1) (.lit 0))), (5, .sym .i64 (.ap 5 (.dvar 0) (.dvar 1) (.lit 0)))]) (toldSt b0 [] 1024) :=
  (match h0 : @Bx.eval v (.cmp .lss (.dvar 0) (.lit 0)) with
    | true => rn hF (p := p30_0) (happ hp (hcons h0 hnil)) hcs (by decide) x30_0 (q0 (happ hp (hcons h0 hnil)))
    | false => (match h1 : @Bx.eval v (.cmp .lss (.dvar 0) (.lit 8)) with
    | true => (match h2 : @Bx.eval v (.cmp .lss (.dvar 1) (.lit 0)) with
    | true => rn hF (p := p30_1) (happ hp (hcons h0 (hcons h1 (hcons h2 hnil)))) hcs (by decide) x30_1 (q1 (happ hp (hcons h0 (hcons h1 (hcons h2 hnil)))))
    | false => (match h3 : @Bx.eval v (.cmp .lss (.dvar 1) (.lit 4096)) with
    | true => rn hF (p := p30_2) (happ hp (hcons h0 (hcons h1 (hcons h2 (hcons h3 hnil))))) hcs (by decide) x30_2 (q2 (happ hp (hcons h0 (hcons h1 (hcons h2 (hcons h3 hnil))))))
    | false => rn hF (p := p30_3) (happ hp (hcons h0 (hcons h1 (hcons h2 (hcons h3 hnil))))) hcs (by decide) x30_3 (q3 (happ hp (hcons h0 (hcons h1 (hcons h2 (hcons h3 hnil))))))))
    | false => rn hF (p := p30_4) (happ hp (hcons h0 (hcons h1 hnil))) hcs (by decide) x30_4 (q4 (happ hp (hcons h0 (hcons h1 hnil))))))
def c79 : Code := match Tryz.f79.body with
  | some c => c
  | none => .skip
def p79_0 : Dcs := [((.cmp .lss (.dvar 0) (.lit 0)), true)]
def e79_0 : Eqs := [((.lit 0), (.pr 30 (.ap 4 (.dvar 0) (.dvar 1) (.lit 0)) (.lit 0))), ((.lit 2), (.pr 30 (.ap 5 (.dvar 0) (.dvar 1) (.lit 0)) (.lit 0)))]
theorem x79_0 : runHB R0 0 0 (run p79_0 [] 27 c79 [(1, .sym .i64 (.dvar 1)), (0, .sym .i64 (.dvar 0))] [] 1024) .ret [] [(4, .sym .u64 (.ap 4 (.dvar 0) (.dvar 1) (.lit 0))), (5, .sym .i64 (.ap 5 (.dvar 0) (.dvar 1) (.lit 0)))] [] 1024 e79_0 = true := by kernel_rfl
def p79_1 : Dcs := [((.cmp .lss (.dvar 0) (.lit 0)), false), ((.cmp .lss (.dvar 0) (.lit 8)), true), ((.cmp .lss (.dvar 1) (.lit 0)), true)]
def e79_1 : Eqs := [((.lit 0), (.pr 30 (.ap 4 (.dvar 0) (.dvar 1) (.lit 0)) (.lit 0))), ((.lit 2), (.pr 30 (.ap 5 (.dvar 0) (.dvar 1) (.lit 0)) (.lit 0)))]
theorem x79_1 : runHB R0 0 0 (run p79_1 [] 27 c79 [(1, .sym .i64 (.dvar 1)), (0, .sym .i64 (.dvar 0))] [] 1024) .ret [] [(4, .sym .u64 (.ap 4 (.dvar 0) (.dvar 1) (.lit 0))), (5, .sym .i64 (.ap 5 (.dvar 0) (.dvar 1) (.lit 0)))] [] 1024 e79_1 = true := by kernel_rfl
def p79_2 : Dcs := [((.cmp .lss (.dvar 0) (.lit 0)), false), ((.cmp .lss (.dvar 0) (.lit 8)), true), ((.cmp .lss (.dvar 1) (.lit 0)), false), ((.cmp .lss (.dvar 1) (.lit 4096)), true)]
def e79_2 : Eqs := [((.pr 30 (.wrap .u64 (.bin .add .i64 (.lit 1073741824) (.bin .mul .i64 (.lit 16) (.bin .add .i64 (.bin .mul .i64 (.lit 8) (.dvar 1)) (.dvar 0))))) (.lit 0)), (.pr 30 (.ap 4 (.dvar 0) (.dvar 1) (.lit 0)) (.lit 0))), ((.lit 0), (.pr 30 (.ap 5 (.dvar 0) (.dvar 1) (.lit 0)) (.lit 0)))]
theorem x79_2 : runHB R0 0 0 (run p79_2 [] 27 c79 [(1, .sym .i64 (.dvar 1)), (0, .sym .i64 (.dvar 0))] [] 1024) .ret [] [(4, .sym .u64 (.ap 4 (.dvar 0) (.dvar 1) (.lit 0))), (5, .sym .i64 (.ap 5 (.dvar 0) (.dvar 1) (.lit 0)))] [] 1024 e79_2 = true := by kernel_rfl
def p79_3 : Dcs := [((.cmp .lss (.dvar 0) (.lit 0)), false), ((.cmp .lss (.dvar 0) (.lit 8)), true), ((.cmp .lss (.dvar 1) (.lit 0)), false), ((.cmp .lss (.dvar 1) (.lit 4096)), false)]
def e79_3 : Eqs := [((.lit 0), (.pr 30 (.ap 4 (.dvar 0) (.dvar 1) (.lit 0)) (.lit 0))), ((.lit 2), (.pr 30 (.ap 5 (.dvar 0) (.dvar 1) (.lit 0)) (.lit 0)))]
theorem x79_3 : runHB R0 0 0 (run p79_3 [] 27 c79 [(1, .sym .i64 (.dvar 1)), (0, .sym .i64 (.dvar 0))] [] 1024) .ret [] [(4, .sym .u64 (.ap 4 (.dvar 0) (.dvar 1) (.lit 0))), (5, .sym .i64 (.ap 5 (.dvar 0) (.dvar 1) (.lit 0)))] [] 1024 e79_3 = true := by kernel_rfl
def p79_4 : Dcs := [((.cmp .lss (.dvar 0) (.lit 0)), false), ((.cmp .lss (.dvar 0) (.lit 8)), false)]
def e79_4 : Eqs := [((.lit 0), (.pr 30 (.ap 4 (.dvar 0) (.dvar 1) (.lit 0)) (.lit 0))), ((.lit 2), (.pr 30 (.ap 5 (.dvar 0) (.dvar 1) (.lit 0)) (.lit 0)))]
theorem x79_4 : runHB R0 0 0 (run p79_4 [] 27 c79 [(1, .sym .i64 (.dvar 1)), (0, .sym .i64 (.dvar 0))] [] 1024) .ret [] [(4, .sym .u64 (.ap 4 (.dvar 0) (.dvar 1) (.lit 0))), (5, .sym .i64 (.ap 5 (.dvar 0) (.dvar 1) (.lit 0)))] [] 1024 e79_4 = true := by kernel_rfl
theorem t79 {v v' : Val} (hF : v.fn = F0) (hcs : ∀ c ∈ ([] : List Con), c.Sound F0 P gl0 b0 R0) (hp : @Holds v []) (q0 : @Holds v p79_0 → EqsOk v v' e79_0) (q1 : @Holds v p79_1 → EqsOk v v' e79_1) (q2 : @Holds v p79_2 → EqsOk v v' e79_2) (q3 : @Holds v p79_3 → EqsOk v v' e79_3) (q4 : @Holds v p79_4 → EqsOk v v' e79_4) :
  HR 0 0 27 v c79 (envL [(1, .sym .i64 (.dvar 1)), (0, .sym .i64 (.dvar 0))]) (toldSt b0 [] 1024) .ret v' (envL [(4, .sym .u64 (.ap 4 (.dvar 0) (.dvar 1) (.lit 0))), (5, .sym .i64 (.ap 5 (.dvar 0) (.dvar 1) (.lit 0)))]) (toldSt b0 [] 1024) :=
  (match h0 : @Bx.eval v (.cmp .lss (.dvar 0) (.lit 0)) with
    | true => rn hF (p := p79_0) (happ hp (hcons h0 hnil)) hcs (by decide) x79_0 (q0 (happ hp (hcons h0 hnil)))
    | false => (match h1 : @Bx.eval v (.cmp .lss (.dvar 0) (.lit 8)) with
    | true => (match h2 : @Bx.eval v (.cmp .lss (.dvar 1) (.lit 0)) with
    | true => rn hF (p := p79_1) (happ hp (hcons h0 (hcons h1 (hcons h2 hnil)))) hcs (by decide) x79_1 (q1 (happ hp (hcons h0 (hcons h1 (hcons h2 hnil)))))
    | false => (match h3 : @Bx.eval v (.cmp .lss (.dvar 1) (.lit 4096)) with
    | true => rn hF (p := p79_2) (happ hp (hcons h0 (hcons h1 (hcons h2 (hcons h3 hnil))))) hcs (by decide) x79_2 (q2 (happ hp (hcons h0 (hcons h1 (hcons h2 (hcons h3 hnil))))))
    | false => rn hF (p := p79_3) (happ hp (hcons h0 (hcons h1 (hcons h2 (hcons h3 hnil))))) hcs (by decide) x79_3 (q3 (happ hp (hcons h0 (hcons h1 (hcons h2 (hcons h3 hnil))))))))
    | false => rn hF (p := p79_4) (happ hp (hcons h0 (hcons h1 hnil))) hcs (by decide) x79_4 (q4 (happ hp (hcons h0 (hcons h1 hnil))))))
def c31 : Code := match Tryz.f31.body with
  | some c => c
  | none => .skip
def p31_0 : Dcs := [((.cmp .lss (.dvar 0) (.lit 0)), false), ((.cmp .lss (.dvar 0) (.lit 2147483648)), true), ((.cmp .lss (.dvar 0) (.lit 1073741824)), true)]
def e31_0 : Eqs := [((.lit 0), (.pr 30 (.ap 6 (.dvar 0) (.lit 0) (.lit 0)) (.lit 0))), ((.lit 0), (.pr 30 (.ap 7 (.dvar 0) (.lit 0) (.lit 0)) (.lit 0)))]
theorem x31_0 : runHB R0 0 0 (run p31_0 [] 29 c31 [(0, .sym .u64 (.dvar 0))] [] 1024) .ret [] [(2, .sym .i64 (.ap 6 (.dvar 0) (.lit 0) (.lit 0))), (3, .sym .i64 (.ap 7 (.dvar 0) (.lit 0) (.lit 0)))] [] 1024 e31_0 = true := by kernel_rfl
def p31_1 : Dcs := [((.cmp .lss (.dvar 0) (.lit 0)), false), ((.cmp .lss (.dvar 0) (.lit 2147483648)), true), ((.cmp .lss (.dvar 0) (.lit 1073741824)), false), ((.cmp .eql (.bin .and .u64 (.bin .sub .u64 (.dvar 0) (.lit 1073741824)) (.lit 15)) (.lit 0)), true), ((.cmp .lss (.bin .shr .u64 (.bin .sub .u64 (.dvar 0) (.lit 1073741824)) (.lit 4)) (.lit 32768)), true), ((.cmp .lss (.wrap .i64 (.bin .and .u64 (.dvar 0) (.lit 4095))) (.lit 2048)), true)]
def e31_1 : Eqs := [((.pr 30 (.bin .shr .i64 (.bin .sub .i64 (.wrap .i64 (.dvar 0)) (.wrap .i64 (.bin .and .u64 (.dvar 0) (.lit 4095)))) (.lit 12)) (.lit 0)), (.pr 30 (.ap 6 (.dvar 0) (.lit 0) (.lit 0)) (.lit 0))), ((.pr 30 (.wrap .i64 (.bin .and .u64 (.dvar 0) (.lit 4095))) (.lit 0)), (.pr 30 (.ap 7 (.dvar 0) (.lit 0) (.lit 0)) (.lit 0)))]
theorem x31_1 : runHB R0 0 0 (run p31_1 [] 29 c31 [(0, .sym .u64 (.dvar 0))] [] 1024) .ret [] [(2, .sym .i64 (.ap 6 (.dvar 0) (.lit 0) (.lit 0))), (3, .sym .i64 (.ap 7 (.dvar 0) (.lit 0) (.lit 0)))] [] 1024 e31_1 = true := by kernel_rfl
def p31_2 : Dcs := [((.cmp .lss (.dvar 0) (.lit 0)), false), ((.cmp .lss (.dvar 0) (.lit 2147483648)), true), ((.cmp .lss (.dvar 0) (.lit 1073741824)), false), ((.cmp .eql (.bin .and .u64 (.bin .sub .u64 (.dvar 0) (.lit 1073741824)) (.lit 15)) (.lit 0)), true), ((.cmp .lss (.bin .shr .u64 (.bin .sub .u64 (.dvar 0) (.lit 1073741824)) (.lit 4)) (.lit 32768)), true), ((.cmp .lss (.wrap .i64 (.bin .and .u64 (.dvar 0) (.lit 4095))) (.lit 2048)), false)]
def e31_2 : Eqs := [((.pr 30 (.bin .shr .i64 (.bin .sub .i64 (.wrap .i64 (.dvar 0)) (.bin .sub .i64 (.wrap .i64 (.bin .and .u64 (.dvar 0) (.lit 4095))) (.lit 4096))) (.lit 12)) (.lit 0)), (.pr 30 (.ap 6 (.dvar 0) (.lit 0) (.lit 0)) (.lit 0))), ((.pr 30 (.bin .sub .i64 (.wrap .i64 (.bin .and .u64 (.dvar 0) (.lit 4095))) (.lit 4096)) (.lit 0)), (.pr 30 (.ap 7 (.dvar 0) (.lit 0) (.lit 0)) (.lit 0)))]
theorem x31_2 : runHB R0 0 0 (run p31_2 [] 29 c31 [(0, .sym .u64 (.dvar 0))] [] 1024) .ret [] [(2, .sym .i64 (.ap 6 (.dvar 0) (.lit 0) (.lit 0))), (3, .sym .i64 (.ap 7 (.dvar 0) (.lit 0) (.lit 0)))] [] 1024 e31_2 = true := by kernel_rfl
def p31_3 : Dcs := [((.cmp .lss (.dvar 0) (.lit 0)), false), ((.cmp .lss (.dvar 0) (.lit 2147483648)), true), ((.cmp .lss (.dvar 0) (.lit 1073741824)), false), ((.cmp .eql (.bin .and .u64 (.bin .sub .u64 (.dvar 0) (.lit 1073741824)) (.lit 15)) (.lit 0)), true), ((.cmp .lss (.bin .shr .u64 (.bin .sub .u64 (.dvar 0) (.lit 1073741824)) (.lit 4)) (.lit 32768)), false)]
def e31_3 : Eqs := [((.lit 0), (.pr 30 (.ap 6 (.dvar 0) (.lit 0) (.lit 0)) (.lit 0))), ((.lit 0), (.pr 30 (.ap 7 (.dvar 0) (.lit 0) (.lit 0)) (.lit 0)))]
theorem x31_3 : runHB R0 0 0 (run p31_3 [] 29 c31 [(0, .sym .u64 (.dvar 0))] [] 1024) .ret [] [(2, .sym .i64 (.ap 6 (.dvar 0) (.lit 0) (.lit 0))), (3, .sym .i64 (.ap 7 (.dvar 0) (.lit 0) (.lit 0)))] [] 1024 e31_3 = true := by kernel_rfl
def p31_4 : Dcs := [((.cmp .lss (.dvar 0) (.lit 0)), false), ((.cmp .lss (.dvar 0) (.lit 2147483648)), true), ((.cmp .lss (.dvar 0) (.lit 1073741824)), false), ((.cmp .eql (.bin .and .u64 (.bin .sub .u64 (.dvar 0) (.lit 1073741824)) (.lit 15)) (.lit 0)), false)]
def e31_4 : Eqs := [((.lit 0), (.pr 30 (.ap 6 (.dvar 0) (.lit 0) (.lit 0)) (.lit 0))), ((.lit 0), (.pr 30 (.ap 7 (.dvar 0) (.lit 0) (.lit 0)) (.lit 0)))]
theorem x31_4 : runHB R0 0 0 (run p31_4 [] 29 c31 [(0, .sym .u64 (.dvar 0))] [] 1024) .ret [] [(2, .sym .i64 (.ap 6 (.dvar 0) (.lit 0) (.lit 0))), (3, .sym .i64 (.ap 7 (.dvar 0) (.lit 0) (.lit 0)))] [] 1024 e31_4 = true := by kernel_rfl
theorem t31 {v v' : Val} (hF : v.fn = F0) (hcs : ∀ c ∈ ([] : List Con), c.Sound F0 P gl0 b0 R0) (hp : @Holds v [((.cmp .lss (.dvar 0) (.lit 0)), false), ((.cmp .lss (.dvar 0) (.lit 2147483648)), true)]) (q0 : @Holds v p31_0 → EqsOk v v' e31_0) (q1 : @Holds v p31_1 → EqsOk v v' e31_1) (q2 : @Holds v p31_2 → EqsOk v v' e31_2) (q3 : @Holds v p31_3 → EqsOk v v' e31_3) (q4 : @Holds v p31_4 → EqsOk v v' e31_4) :
  HR 0 0 29 v c31 (envL [(0, .sym .u64 (.dvar 0))]) (toldSt b0 [] 1024) .ret v' (envL [(2, .sym .i64 (.ap 6 (.dvar 0) (.lit 0) (.lit 0))), (3, .sym .i64 (.ap 7 (.dvar 0) (.lit 0) (.lit 0)))]) (toldSt b0 [] 1024) :=
  (match h0 : @Bx.eval v (.cmp .lss (.dvar 0) (.lit 1073741824)) with
    | true => rn hF (p := p31_0) (happ hp (hcons h0 hnil)) hcs (by decide) x31_0 (q0 (happ hp (hcons h0 hnil)))
    | false => (match h1 : @Bx.eval v (.cmp .eql (.bin .and .u64 (.bin .sub .u64 (.dvar 0) (.lit 1073741824)) (.lit 15)) (.lit 0)) with
    | true => (match h2 : @Bx.eval v (.cmp .lss (.bin .shr .u64 (.bin .sub .u64 (.dvar 0) (.lit 1073741824)) (.lit 4)) (.lit 32768)) with
    | true => (match h3 : @Bx.eval v (.cmp .lss (.wrap .i64 (.bin .and .u64 (.dvar 0) (.lit 4095))) (.lit 2048)) with
    | true => rn hF (p := p31_1) (happ hp (hcons h0 (hcons h1 (hcons h2 (hcons h3 hnil))))) hcs (by decide) x31_1 (q1 (happ hp (hcons h0 (hcons h1 (hcons h2 (hcons h3 hnil))))))
    | false => rn hF (p := p31_2) (happ hp (hcons h0 (hcons h1 (hcons h2 (hcons h3 hnil))))) hcs (by decide) x31_2 (q2 (happ hp (hcons h0 (hcons h1 (hcons h2 (hcons h3 hnil)))))))
    | false => rn hF (p := p31_3) (happ hp (hcons h0 (hcons h1 (hcons h2 hnil)))) hcs (by decide) x31_3 (q3 (happ hp (hcons h0 (hcons h1 (hcons h2 hnil))))))
    | false => rn hF (p := p31_4) (happ hp (hcons h0 (hcons h1 hnil))) hcs (by decide) x31_4 (q4 (happ hp (hcons h0 (hcons h1 hnil))))))
def c80 : Code := match Tryz.f80.body with
  | some c => c
  | none => .skip
def p80_0 : Dcs := [((.cmp .lss (.dvar 0) (.lit 0)), false), ((.cmp .lss (.dvar 0) (.lit 2147483648)), true), ((.cmp .lss (.dvar 0) (.lit 1073741824)), true)]
def e80_0 : Eqs := [((.lit 0), (.pr 30 (.ap 6 (.dvar 0) (.lit 0) (.lit 0)) (.lit 0))), ((.lit 0), (.pr 30 (.ap 7 (.dvar 0) (.lit 0) (.lit 0)) (.lit 0)))]
theorem x80_0 : runHB R0 0 0 (run p80_0 [] 29 c80 [(0, .sym .u64 (.dvar 0))] [] 1024) .ret [] [(2, .sym .i64 (.ap 6 (.dvar 0) (.lit 0) (.lit 0))), (3, .sym .i64 (.ap 7 (.dvar 0) (.lit 0) (.lit 0)))] [] 1024 e80_0 = true := by kernel_rfl
def p80_1 : Dcs := [((.cmp .lss (.dvar 0) (.lit 0)), false), ((.cmp .lss (.dvar 0) (.lit 2147483648)), true), ((.cmp .lss (.dvar 0) (.lit 1073741824)), false), ((.cmp .eql (.bin .rem .u64 (.dvar 0) (.lit 16)) (.lit 0)), true), ((.cmp .lss (.bin .quo .u64 (.bin .sub .u64 (.dvar 0) (.lit 1073741824)) (.lit 16)) (.lit 32768)), true), ((.cmp .lss (.wrap .i64 (.bin .rem .u64 (.dvar 0) (.lit 4096))) (.lit 2048)), true)]
def e80_1 : Eqs := [((.pr 30 (.bin .quo .i64 (.bin .sub .i64 (.wrap .i64 (.dvar 0)) (.wrap .i64 (.bin .rem .u64 (.dvar 0) (.lit 4096)))) (.lit 4096)) (.lit 0)), (.pr 30 (.ap 6 (.dvar 0) (.lit 0) (.lit 0)) (.lit 0))), ((.pr 30 (.wrap .i64 (.bin .rem .u64 (.dvar 0) (.lit 4096))) (.lit 0)), (.pr 30 (.ap 7 (.dvar 0) (.lit 0) (.lit 0)) (.lit 0)))]
theorem x80_1 : runHB R0 0 0 (run p80_1 [] 29 c80 [(0, .sym .u64 (.dvar 0))] [] 1024) .ret [] [(2, .sym .i64 (.ap 6 (.dvar 0) (.lit 0) (.lit 0))), (3, .sym .i64 (.ap 7 (.dvar 0) (.lit 0) (.lit 0)))] [] 1024 e80_1 = true := by kernel_rfl
def p80_2 : Dcs := [((.cmp .lss (.dvar 0) (.lit 0)), false), ((.cmp .lss (.dvar 0) (.lit 2147483648)), true), ((.cmp .lss (.dvar 0) (.lit 1073741824)), false), ((.cmp .eql (.bin .rem .u64 (.dvar 0) (.lit 16)) (.lit 0)), true), ((.cmp .lss (.bin .quo .u64 (.bin .sub .u64 (.dvar 0) (.lit 1073741824)) (.lit 16)) (.lit 32768)), true), ((.cmp .lss (.wrap .i64 (.bin .rem .u64 (.dvar 0) (.lit 4096))) (.lit 2048)), false)]
def e80_2 : Eqs := [((.pr 30 (.bin .quo .i64 (.bin .sub .i64 (.wrap .i64 (.dvar 0)) (.bin .sub .i64 (.wrap .i64 (.bin .rem .u64 (.dvar 0) (.lit 4096))) (.lit 4096))) (.lit 4096)) (.lit 0)), (.pr 30 (.ap 6 (.dvar 0) (.lit 0) (.lit 0)) (.lit 0))), ((.pr 30 (.bin .sub .i64 (.wrap .i64 (.bin .rem .u64 (.dvar 0) (.lit 4096))) (.lit 4096)) (.lit 0)), (.pr 30 (.ap 7 (.dvar 0) (.lit 0) (.lit 0)) (.lit 0)))]
theorem x80_2 : runHB R0 0 0 (run p80_2 [] 29 c80 [(0, .sym .u64 (.dvar 0))] [] 1024) .ret [] [(2, .sym .i64 (.ap 6 (.dvar 0) (.lit 0) (.lit 0))), (3, .sym .i64 (.ap 7 (.dvar 0) (.lit 0) (.lit 0)))] [] 1024 e80_2 = true := by kernel_rfl
def p80_3 : Dcs := [((.cmp .lss (.dvar 0) (.lit 0)), false), ((.cmp .lss (.dvar 0) (.lit 2147483648)), true), ((.cmp .lss (.dvar 0) (.lit 1073741824)), false), ((.cmp .eql (.bin .rem .u64 (.dvar 0) (.lit 16)) (.lit 0)), true), ((.cmp .lss (.bin .quo .u64 (.bin .sub .u64 (.dvar 0) (.lit 1073741824)) (.lit 16)) (.lit 32768)), false)]
def e80_3 : Eqs := [((.lit 0), (.pr 30 (.ap 6 (.dvar 0) (.lit 0) (.lit 0)) (.lit 0))), ((.lit 0), (.pr 30 (.ap 7 (.dvar 0) (.lit 0) (.lit 0)) (.lit 0)))]
theorem x80_3 : runHB R0 0 0 (run p80_3 [] 29 c80 [(0, .sym .u64 (.dvar 0))] [] 1024) .ret [] [(2, .sym .i64 (.ap 6 (.dvar 0) (.lit 0) (.lit 0))), (3, .sym .i64 (.ap 7 (.dvar 0) (.lit 0) (.lit 0)))] [] 1024 e80_3 = true := by kernel_rfl
def p80_4 : Dcs := [((.cmp .lss (.dvar 0) (.lit 0)), false), ((.cmp .lss (.dvar 0) (.lit 2147483648)), true), ((.cmp .lss (.dvar 0) (.lit 1073741824)), false), ((.cmp .eql (.bin .rem .u64 (.dvar 0) (.lit 16)) (.lit 0)), false)]
def e80_4 : Eqs := [((.lit 0), (.pr 30 (.ap 6 (.dvar 0) (.lit 0) (.lit 0)) (.lit 0))), ((.lit 0), (.pr 30 (.ap 7 (.dvar 0) (.lit 0) (.lit 0)) (.lit 0)))]
theorem x80_4 : runHB R0 0 0 (run p80_4 [] 29 c80 [(0, .sym .u64 (.dvar 0))] [] 1024) .ret [] [(2, .sym .i64 (.ap 6 (.dvar 0) (.lit 0) (.lit 0))), (3, .sym .i64 (.ap 7 (.dvar 0) (.lit 0) (.lit 0)))] [] 1024 e80_4 = true := by kernel_rfl
theorem t80 {v v' : Val} (hF : v.fn = F0) (hcs : ∀ c ∈ ([] : List Con), c.Sound F0 P gl0 b0 R0) (hp : @Holds v [((.cmp .lss (.dvar 0) (.lit 0)), false), ((.cmp .lss (.dvar 0) (.lit 2147483648)), true)]) (q0 : @Holds v p80_0 → EqsOk v v' e80_0) (q1 : @Holds v p80_1 → EqsOk v v' e80_1) (q2 : @Holds v p80_2 → EqsOk v v' e80_2) (q3 : @Holds v p80_3 → EqsOk v v' e80_3) (q4 : @Holds v p80_4 → EqsOk v v' e80_4) :
  HR 0 0 29 v c80 (envL [(0, .sym .u64 (.dvar 0))]) (toldSt b0 [] 1024) .ret v' (envL [(2, .sym .i64 (.ap 6 (.dvar 0) (.lit 0) (.lit 0))), (3, .sym .i64 (.ap 7 (.dvar 0) (.lit 0) (.lit 0)))]) (toldSt b0 [] 1024) :=
  (match h0 : @Bx.eval v (.cmp .lss (.dvar 0) (.lit 1073741824)) with
    | true => rn hF (p := p80_0) (happ hp (hcons h0 hnil)) hcs (by decide) x80_0 (q0 (happ hp (hcons h0 hnil)))
    | false => (match h1 : @Bx.eval v (.cmp .eql (.bin .rem .u64 (.dvar 0) (.lit 16)) (.lit 0)) with
    | true => (match h2 : @Bx.eval v (.cmp .lss (.bin .quo .u64 (.bin .sub .u64 (.dvar 0) (.lit 1073741824)) (.lit 16)) (.lit 32768)) with
    | true => (match h3 : @Bx.eval v (.cmp .lss (.wrap .i64 (.bin .rem .u64 (.dvar 0) (.lit 4096))) (.lit 2048)) with
    | true => rn hF (p := p80_1) (happ hp (hcons h0 (hcons h1 (hcons h2 (hcons h3 hnil))))) hcs (by decide) x80_1 (q1 (happ hp (hcons h0 (hcons h1 (hcons h2 (hcons h3 hnil))))))
    | false => rn hF (p := p80_2) (happ hp (hcons h0 (hcons h1 (hcons h2 (hcons h3 hnil))))) hcs (by decide) x80_2 (q2 (happ hp (hcons h0 (hcons h1 (hcons h2 (hcons h3 hnil)))))))
    | false => rn hF (p := p80_3) (happ hp (hcons h0 (hcons h1 (hcons h2 hnil)))) hcs (by decide) x80_3 (q3 (happ hp (hcons h0 (hcons h1 (hcons h2 hnil))))))
    | false => rn hF (p := p80_4) (happ hp (hcons h0 (hcons h1 hnil))) hcs (by decide) x80_4 (q4 (happ hp (hcons h0 (hcons h1 hnil))))))
end
end Go.Proofs.YtbkokbjpbbpllaaGreat
namespace Go.Proofs.YtbkokbjpbbpllaaGreat
open Go.Tw
noncomputable section
/-! Addresses of stubs: contracts. -/
theorem hget {v : Val} {c : Bx} {x : Bool} {l : Dcs} (h : @Holds v ((c, x) :: l)) : @Bx.eval v c = x ∧ @Holds v l := List.forall_mem_cons.1 h
theorem ltT {v : Val} {a : Sx} {n : Int} (h : @Bx.eval v (.cmp .lss a (.lit n)) = true) : @Sx.eval v a < n := of_decide_eq_true h
theorem ltF {v : Val} {a : Sx} {n : Int} (h : @Bx.eval v (.cmp .lss a (.lit n)) = false) : n ≤ @Sx.eval v a := Int.not_lt.1 (of_decide_eq_false h)
theorem eqT {v : Val} {a : Sx} {n : Int} (h : @Bx.eval v (.cmp .eql a (.lit n)) = true) : @Sx.eval v a = n := by
  have h : (@Sx.eval v a == n) = true := h
  simpa using h
theorem eqF {v : Val} {a : Sx} {n : Int} (h : @Bx.eval v (.cmp .eql a (.lit n)) = false) : @Sx.eval v a ≠ n := by
  have h : (@Sx.eval v a == n) = false := h
  simpa using h
def SU (i : Nat) : AV := .sym .u64 (D i)
theorem d4 {v : Val} (hF : v.fn = F0) : @Sx.dat v (.pr 30 (.ap 4 (D 0) (D 1) (.lit 0)) (.lit 0)) = .int (addrS (@Sx.eval v (D 0)) (@Sx.eval v (D 1))) := by
  show Dat.int (Dat.toI (v.fn 4 _ _ _)) = _
  rw [hF]; rfl
theorem d5 {v : Val} (hF : v.fn = F0) : @Sx.dat v (.pr 30 (.ap 5 (D 0) (D 1) (.lit 0)) (.lit 0)) = .int (addrE (@Sx.eval v (D 0)) (@Sx.eval v (D 1))) := by
  show Dat.int (Dat.toI (v.fn 5 _ _ _)) = _
  rw [hF]; rfl
theorem d6 {v : Val} (hF : v.fn = F0) : @Sx.dat v (.pr 30 (.ap 6 (D 0) (.lit 0) (.lit 0)) (.lit 0)) = .int (uppHi (@Sx.eval v (D 0))) := by
  show Dat.int (Dat.toI (v.fn 6 _ _ _)) = _
  rw [hF]; rfl
theorem d7 {v : Val} (hF : v.fn = F0) : @Sx.dat v (.pr 30 (.ap 7 (D 0) (.lit 0) (.lit 0)) (.lit 0)) = .int (uppLo (@Sx.eval v (D 0))) := by
  show Dat.int (Dat.toI (v.fn 7 _ _ _)) = _
  rw [hF]; rfl
theorem addr_none {k b : Int} (h : ¬ (0 ≤ k ∧ k < 8 ∧ 0 ≤ b ∧ b < 4096)) : addrS k b = 0 ∧ addrE k b = 2 := by simp [addrS, addrE, h]
theorem addr_some {k b : Int} (h : 0 ≤ k ∧ k < 8 ∧ 0 ≤ b ∧ b < 4096) : addrS k b = 1073741824 + 16 * (8 * b + k) ∧ addrE k b = 0 := by simp [addrS, addrE, h]
theorem addr30 {k b : Int} (h : 0 ≤ k ∧ k < 8 ∧ 0 ≤ b ∧ b < 4096) : arithI .add .u64 1073741824 (arithI .shl .u64 (wrapI .u64 (arithI .or .i64 (arithI .shl .i64 b 3) k)) 4) = 1073741824 + 16 * (8 * b + k) := by
  have e1 : arithI .shl .i64 b 3 = b * 8 := by
    show wrapI .i64 (b * 8) = _
    exact wrap_small (by omega) (by omega)
  have e2 : arithI .or .i64 (b * 8) k = b * 8 + k := or_8 _ _ (by omega) (by omega) (by omega) (by omega) (by omega)
  rw [e1, e2]
  show wrapI .u64 (1073741824 + wrapI .u64 (wrapI .u64 (b * 8 + k) * 16)) = _
  rw [wrap_u64, wrap_u64, wrap_u64]
  omega
theorem addr79 {k b : Int} (h : 0 ≤ k ∧ k < 8 ∧ 0 ≤ b ∧ b < 4096) : wrapI .u64 (arithI .add .i64 1073741824 (arithI .mul .i64 16 (arithI .add .i64 (arithI .mul .i64 8 b) k))) = 1073741824 + 16 * (8 * b + k) := by
  show wrapI .u64 (wrapI .i64 (1073741824 + wrapI .i64 (16 * wrapI .i64 (wrapI .i64 (8 * b) + k)))) = _
  rw [wrap_small (n := 8 * b) (by omega) (by omega), wrap_small (n := 8 * b + k) (by omega) (by omega), wrap_small (n := 16 * (8 * b + k)) (by omega) (by omega), wrap_small (by omega) (by omega), wrap_u64]
  omega
def conA (f : Nat) : Con := { f := f, args := [SI 0, SI 1], pre := [], res := .tup [.sym .u64 (.ap 4 (D 0) (D 1) (.lit 0)), .sym .i64 (.ap 5 (D 0) (D 1) (.lit 0))], objs := [] }
theorem con30_ok : (conA 30).Sound F0 P gl0 b0 R0 := by
  refine con_sound (fn := Tryz.f30) (code := c30) Tryz.func30 (by rfl) (by kernel_rfl) (by kernel_rfl) fun v hF _ => ?_
  refine ⟨.ret, [(4, .sym .u64 (.ap 4 (D 0) (D 1) (.lit 0))), (5, .sym .i64 (.ap 5 (D 0) (D 1) (.lit 0)))], _, _, .inl rfl, ?_, by rfl, rfl⟩
  have no : ∀ {E : Eqs}, ¬ (0 ≤ @Sx.eval v (D 0) ∧ @Sx.eval v (D 0) < 8 ∧ 0 ≤ @Sx.eval v (D 1) ∧ @Sx.eval v (D 1) < 4096) → E = [(.lit 0, .pr 30 (.ap 4 (D 0) (D 1) (.lit 0)) (.lit 0)), (.lit 2, .pr 30 (.ap 5 (D 0) (D 1) (.lit 0)) (.lit 0))] → EqsOk v v E := fun h hE => by
    obtain ⟨g1, g2⟩ := addr_none h
    subst hE
    exact eqs_cons (by rw [d4 hF, g1]; rfl) (eqs_cons (by rw [d5 hF, g2]; rfl) eqs_nil)
  refine t30 hF nocon hnil (fun h => no ?_ rfl) (fun h => no ?_ rfl) (fun h => ?_) (fun h => no ?_ rfl) (fun h => no ?_ rfl)
  · obtain ⟨f0, h⟩ := hget h
    have := ltT f0; unfold D; omega
  · obtain ⟨f0, h⟩ := hget h; obtain ⟨f1, h⟩ := hget h; obtain ⟨f2, h⟩ := hget h
    have := ltT f2; unfold D; omega
  · obtain ⟨f0, h⟩ := hget h; obtain ⟨f1, h⟩ := hget h; obtain ⟨f2, h⟩ := hget h; obtain ⟨f3, h⟩ := hget h
    have hr : 0 ≤ @Sx.eval v (D 0) ∧ @Sx.eval v (D 0) < 8 ∧ 0 ≤ @Sx.eval v (D 1) ∧ @Sx.eval v (D 1) < 4096 := ⟨ltF f0, ltT f1, ltF f2, ltT f3⟩
    obtain ⟨g1, g2⟩ := addr_some hr
    exact eqs_cons (Eq.trans (congrArg Dat.int (addr30 hr)) (Eq.trans (congrArg Dat.int g1.symm) (d4 hF).symm)) (eqs_cons (Eq.trans (congrArg Dat.int g2.symm) (d5 hF).symm) eqs_nil)
  · obtain ⟨f0, h⟩ := hget h; obtain ⟨f1, h⟩ := hget h; obtain ⟨f2, h⟩ := hget h; obtain ⟨f3, h⟩ := hget h
    have := ltF f3; unfold D; omega
  · obtain ⟨f0, h⟩ := hget h; obtain ⟨f1, h⟩ := hget h
    have := ltF f1; unfold D; omega
theorem con79_ok : (conA 79).Sound F0 P gl0 b0 R0 := by
  refine con_sound (fn := Tryz.f79) (code := c79) Tryz.func79 (by rfl) (by kernel_rfl) (by kernel_rfl) fun v hF _ => ?_
  refine ⟨.ret, [(4, .sym .u64 (.ap 4 (D 0) (D 1) (.lit 0))), (5, .sym .i64 (.ap 5 (D 0) (D 1) (.lit 0)))], _, _, .inl rfl, ?_, by rfl, rfl⟩
  have no : ∀ {E : Eqs}, ¬ (0 ≤ @Sx.eval v (D 0) ∧ @Sx.eval v (D 0) < 8 ∧ 0 ≤ @Sx.eval v (D 1) ∧ @Sx.eval v (D 1) < 4096) → E = [(.lit 0, .pr 30 (.ap 4 (D 0) (D 1) (.lit 0)) (.lit 0)), (.lit 2, .pr 30 (.ap 5 (D 0) (D 1) (.lit 0)) (.lit 0))] → EqsOk v v E := fun h hE => by
    obtain ⟨g1, g2⟩ := addr_none h
    subst hE
    exact eqs_cons (by rw [d4 hF, g1]; rfl) (eqs_cons (by rw [d5 hF, g2]; rfl) eqs_nil)
  refine t79 hF nocon hnil (fun h => no ?_ rfl) (fun h => no ?_ rfl) (fun h => ?_) (fun h => no ?_ rfl) (fun h => no ?_ rfl)
  · obtain ⟨f0, h⟩ := hget h
    have := ltT f0; unfold D; omega
  · obtain ⟨f0, h⟩ := hget h; obtain ⟨f1, h⟩ := hget h; obtain ⟨f2, h⟩ := hget h
    have := ltT f2; unfold D; omega
  · obtain ⟨f0, h⟩ := hget h; obtain ⟨f1, h⟩ := hget h; obtain ⟨f2, h⟩ := hget h; obtain ⟨f3, h⟩ := hget h
    have hr : 0 ≤ @Sx.eval v (D 0) ∧ @Sx.eval v (D 0) < 8 ∧ 0 ≤ @Sx.eval v (D 1) ∧ @Sx.eval v (D 1) < 4096 := ⟨ltF f0, ltT f1, ltF f2, ltT f3⟩
    obtain ⟨g1, g2⟩ := addr_some hr
    exact eqs_cons (Eq.trans (congrArg Dat.int (addr79 hr)) (Eq.trans (congrArg Dat.int g1.symm) (d4 hF).symm)) (eqs_cons (Eq.trans (congrArg Dat.int g2.symm) (d5 hF).symm) eqs_nil)
  · obtain ⟨f0, h⟩ := hget h; obtain ⟨f1, h⟩ := hget h; obtain ⟨f2, h⟩ := hget h; obtain ⟨f3, h⟩ := hget h
    have := ltF f3; unfold D; omega
  · obtain ⟨f0, h⟩ := hget h; obtain ⟨f1, h⟩ := hget h
    have := ltF f1; unfold D; omega
theorem upp_none {a : Int} (h : ¬ stubB a) : uppHi a = 0 ∧ uppLo a = 0 := by simp [uppHi, uppLo, h]
theorem upp_some {a : Int} (h : stubB a) : uppHi a = (a - loOf a) / 4096 ∧ uppLo a = loOf a := by simp [uppHi, uppLo, h]
theorem and_u {a : Int} (j : Nat) (hj : j ≤ 62) : arithI .and .u64 a (2 ^ j - 1) = a % 2 ^ j := and_mask_u a j hj
theorem wrapu {a : Int} (h : 0 ≤ a) (h2 : a < 18446744073709551616) : wrapI .u64 a = a := by rw [wrap_u64]; omega
def preU : Dcs := [(.cmp .lss (D 0) (.lit 0), false), (.cmp .lss (D 0) (.lit 2147483648), true)]
def conU (f : Nat) : Con := { f := f, args := [SU 0], pre := preU, res := .tup [.sym .i64 (.ap 6 (D 0) (.lit 0) (.lit 0)), .sym .i64 (.ap 7 (D 0) (.lit 0) (.lit 0))], objs := [] }
section
variable {a : Int} (h0 : 0 ≤ a) (h1 : a < 2147483648)
include h0 h1
theorem u_sub (h : 1073741824 ≤ a) : arithI .sub .u64 a 1073741824 = a - 1073741824 := by
  show wrapI .u64 (a - 1073741824) = _
  exact wrapu (by omega) (by omega)
theorem u_and15 (h : 1073741824 ≤ a) : arithI .and .u64 (arithI .sub .u64 a 1073741824) 15 = a % 16 := by
  rw [u_sub h0 h1 h]
  refine (and_u (a := a - 1073741824) 4 (by omega)).trans ?_
  omega
theorem u_shr (h : 1073741824 ≤ a) : arithI .shr .u64 (arithI .sub .u64 a 1073741824) 4 = (a - 1073741824) / 16 := by
  rw [u_sub h0 h1 h]
  show (a - 1073741824).fdiv 16 = _
  exact Int.fdiv_eq_ediv_of_nonneg _ (by omega)
theorem u_quo (h : 1073741824 ≤ a) : arithI .quo .u64 (arithI .sub .u64 a 1073741824) 16 = (a - 1073741824) / 16 := by
  rw [u_sub h0 h1 h]
  show wrapI .u64 ((a - 1073741824).tdiv 16) = _
  rw [Int.tdiv_eq_ediv_of_nonneg (by omega)]
  exact wrapu (by omega) (by omega)
theorem u_rem16 : arithI .rem .u64 a 16 = a % 16 := (fun _ => Int.tmod_eq_emod_of_nonneg h0) h1
theorem u_lo31 : wrapI .i64 (arithI .and .u64 a 4095) = a % 4096 := by
  refine (fun _ _ => ?_ : 0 ≤ a → a < 2147483648 → _) h0 h1
  rw [show arithI .and .u64 a 4095 = a % 4096 from and_u 12 (by omega)]
  exact wrap_small (by omega) (by omega)
theorem u_lo80 : wrapI .i64 (arithI .rem .u64 a 4096) = a % 4096 := by
  refine (fun _ => ?_ : a < 2147483648 → _) h1
  rw [show arithI .rem .u64 a 4096 = a % 4096 from Int.tmod_eq_emod_of_nonneg h0]
  exact wrap_small (by omega) (by omega)
theorem u_sub4 {m : Int} (hm : m = a % 4096) : arithI .sub .i64 m 4096 = a % 4096 - 4096 := by
  refine (fun _ _ => ?_ : 0 ≤ a → a < 2147483648 → _) h0 h1
  subst hm
  exact wrap_small (by omega) (by omega)
theorem u_hi31 {l : Int} (hl : l = loOf a) : arithI .shr .i64 (arithI .sub .i64 (wrapI .i64 a) l) 12 = (a - loOf a) / 4096 := by
  subst hl
  have hb : -2048 ≤ loOf a ∧ loOf a < 2048 ∧ (a - loOf a) % 4096 = 0 := by unfold loOf; split <;> omega
  rw [wrap_small (n := a) (by omega) (by omega)]
  show (wrapI .i64 (a - loOf a)).fdiv 4096 = _
  rw [wrap_small (by omega) (by omega)]
  exact Int.fdiv_eq_ediv_of_nonneg _ (by omega)
theorem u_hi80 (h : 1073741824 ≤ a) {l : Int} (hl : l = loOf a) : arithI .quo .i64 (arithI .sub .i64 (wrapI .i64 a) l) 4096 = (a - loOf a) / 4096 := by
  subst hl
  have hb : -2048 ≤ loOf a ∧ loOf a < 2048 ∧ (a - loOf a) % 4096 = 0 := by unfold loOf; split <;> omega
  rw [wrap_small (n := a) (by omega) (by omega)]
  show wrapI .i64 ((wrapI .i64 (a - loOf a)).tdiv 4096) = _
  rw [wrap_small (n := a - loOf a) (by omega) (by omega), Int.tdiv_eq_ediv_of_nonneg (by omega)]
  exact wrap_small (by omega) (by omega)
end
theorem con31_ok : (conU 31).Sound F0 P gl0 b0 R0 := by
  refine con_sound (fn := Tryz.f31) (code := c31) Tryz.func31 (by rfl) (by kernel_rfl) (by kernel_rfl) fun v hF hp => ?_
  refine ⟨.ret, [(2, .sym .i64 (.ap 6 (D 0) (.lit 0) (.lit 0))), (3, .sym .i64 (.ap 7 (D 0) (.lit 0) (.lit 0)))], _, _, .inl rfl, ?_, by rfl, rfl⟩
  obtain ⟨a0, hp'⟩ := hget hp
  have ha0 : 0 ≤ @Sx.eval v (D 0) := ltF a0
  have ha1 : @Sx.eval v (D 0) < 2147483648 := ltT (hget hp').1
  have no : ∀ {E : Eqs}, ¬ stubB (@Sx.eval v (D 0)) → E = [(.lit 0, .pr 30 (.ap 6 (D 0) (.lit 0) (.lit 0)) (.lit 0)), (.lit 0, .pr 30 (.ap 7 (D 0) (.lit 0) (.lit 0)) (.lit 0))] → EqsOk v v E := fun h hE => by
    obtain ⟨g1, g2⟩ := upp_none h
    subst hE
    exact eqs_cons (by rw [d6 hF, g1]; rfl) (eqs_cons (by rw [d7 hF, g2]; rfl) eqs_nil)
  have yes : ∀ {x y : Sx}, stubB (@Sx.eval v (D 0)) → @Sx.dat v x = .int ((@Sx.eval v (D 0) - loOf (@Sx.eval v (D 0))) / 4096) → @Sx.dat v y = .int (loOf (@Sx.eval v (D 0))) → EqsOk v v [(x, .pr 30 (.ap 6 (D 0) (.lit 0) (.lit 0)) (.lit 0)), (y, .pr 30 (.ap 7 (D 0) (.lit 0) (.lit 0)) (.lit 0))] := fun h hx hy => by
    obtain ⟨g1, g2⟩ := upp_some h
    exact eqs_cons (by rw [d6 hF, g1]; exact hx) (eqs_cons (by rw [d7 hF, g2]; exact hy) eqs_nil)
  refine t31 hF nocon hp (fun h => no ?_ rfl) (fun h => ?_) (fun h => ?_) (fun h => no ?_ rfl) (fun h => no ?_ rfl)
  · obtain ⟨f0, h⟩ := hget h; obtain ⟨f1, h⟩ := hget h; obtain ⟨f2, h⟩ := hget h
    have hg : @Sx.eval v (D 0) < 1073741824 := ltT f2
    unfold stubB; omega
  · obtain ⟨f0, h⟩ := hget h; obtain ⟨f1, h⟩ := hget h; obtain ⟨f2, h⟩ := hget h; obtain ⟨f3, h⟩ := hget h; obtain ⟨f4, h⟩ := hget h; obtain ⟨f5, h⟩ := hget h
    have hg : 1073741824 ≤ @Sx.eval v (D 0) := ltF f2
    have g3 := (u_and15 ha0 ha1 hg).symm.trans (eqT f3)
    have g4 := Int.lt_of_le_of_lt (Int.le_of_eq (u_shr ha0 ha1 hg).symm) (ltT f4)
    have g5 := Int.lt_of_le_of_lt (Int.le_of_eq (u_lo31 ha0 ha1).symm) (ltT f5)
    have hl : @Sx.eval v (D 0) % 4096 = loOf (@Sx.eval v (D 0)) := by unfold loOf; rw [if_pos g5]
    exact yes ⟨hg, g3, g4⟩ (congrArg Dat.int (u_hi31 ha0 ha1 ((u_lo31 ha0 ha1).trans hl))) (congrArg Dat.int ((u_lo31 ha0 ha1).trans hl))
  · obtain ⟨f0, h⟩ := hget h; obtain ⟨f1, h⟩ := hget h; obtain ⟨f2, h⟩ := hget h; obtain ⟨f3, h⟩ := hget h; obtain ⟨f4, h⟩ := hget h; obtain ⟨f5, h⟩ := hget h
    have hg : 1073741824 ≤ @Sx.eval v (D 0) := ltF f2
    have g3 := (u_and15 ha0 ha1 hg).symm.trans (eqT f3)
    have g4 := Int.lt_of_le_of_lt (Int.le_of_eq (u_shr ha0 ha1 hg).symm) (ltT f4)
    have g5 : 2048 ≤ @Sx.eval v (D 0) % 4096 := Int.le_trans (ltF f5) (Int.le_of_eq (u_lo31 ha0 ha1))
    have hl : @Sx.eval v (D 0) % 4096 - 4096 = loOf (@Sx.eval v (D 0)) := by unfold loOf; rw [if_neg (by omega)]
    have hs := (u_sub4 ha0 ha1 (u_lo31 ha0 ha1)).trans hl
    exact yes ⟨hg, g3, g4⟩ (congrArg Dat.int (u_hi31 ha0 ha1 (hs))) (congrArg Dat.int hs)
  · obtain ⟨f0, h⟩ := hget h; obtain ⟨f1, h⟩ := hget h; obtain ⟨f2, h⟩ := hget h; obtain ⟨f3, h⟩ := hget h; obtain ⟨f4, h⟩ := hget h
    have hg : 1073741824 ≤ @Sx.eval v (D 0) := ltF f2
    have g4 : 32768 ≤ (@Sx.eval v (D 0) - 1073741824) / 16 := Int.le_trans (ltF f4) (Int.le_of_eq (u_shr ha0 ha1 hg))
    unfold stubB; omega
  · obtain ⟨f0, h⟩ := hget h; obtain ⟨f1, h⟩ := hget h; obtain ⟨f2, h⟩ := hget h; obtain ⟨f3, h⟩ := hget h
    have hg : 1073741824 ≤ @Sx.eval v (D 0) := ltF f2
    have g3 : @Sx.eval v (D 0) % 16 ≠ 0 := fun e => eqF f3 ((u_and15 ha0 ha1 hg).trans e)
    unfold stubB; omega
theorem con80_ok : (conU 80).Sound F0 P gl0 b0 R0 := by
  refine con_sound (fn := Tryz.f80) (code := c80) Tryz.func80 (by rfl) (by kernel_rfl) (by kernel_rfl) fun v hF hp => ?_
  refine ⟨.ret, [(2, .sym .i64 (.ap 6 (D 0) (.lit 0) (.lit 0))), (3, .sym .i64 (.ap 7 (D 0) (.lit 0) (.lit 0)))], _, _, .inl rfl, ?_, by rfl, rfl⟩
  obtain ⟨a0, hp'⟩ := hget hp
  have ha0 : 0 ≤ @Sx.eval v (D 0) := ltF a0
  have ha1 : @Sx.eval v (D 0) < 2147483648 := ltT (hget hp').1
  have no : ∀ {E : Eqs}, ¬ stubB (@Sx.eval v (D 0)) → E = [(.lit 0, .pr 30 (.ap 6 (D 0) (.lit 0) (.lit 0)) (.lit 0)), (.lit 0, .pr 30 (.ap 7 (D 0) (.lit 0) (.lit 0)) (.lit 0))] → EqsOk v v E := fun h hE => by
    obtain ⟨g1, g2⟩ := upp_none h
    subst hE
    exact eqs_cons (by rw [d6 hF, g1]; rfl) (eqs_cons (by rw [d7 hF, g2]; rfl) eqs_nil)
  have yes : ∀ {x y : Sx}, stubB (@Sx.eval v (D 0)) → @Sx.dat v x = .int ((@Sx.eval v (D 0) - loOf (@Sx.eval v (D 0))) / 4096) → @Sx.dat v y = .int (loOf (@Sx.eval v (D 0))) → EqsOk v v [(x, .pr 30 (.ap 6 (D 0) (.lit 0) (.lit 0)) (.lit 0)), (y, .pr 30 (.ap 7 (D 0) (.lit 0) (.lit 0)) (.lit 0))] := fun h hx hy => by
    obtain ⟨g1, g2⟩ := upp_some h
    exact eqs_cons (by rw [d6 hF, g1]; exact hx) (eqs_cons (by rw [d7 hF, g2]; exact hy) eqs_nil)
  refine t80 hF nocon hp (fun h => no ?_ rfl) (fun h => ?_) (fun h => ?_) (fun h => no ?_ rfl) (fun h => no ?_ rfl)
  · obtain ⟨f0, h⟩ := hget h; obtain ⟨f1, h⟩ := hget h; obtain ⟨f2, h⟩ := hget h
    have hg : @Sx.eval v (D 0) < 1073741824 := ltT f2
    unfold stubB; omega
  · obtain ⟨f0, h⟩ := hget h; obtain ⟨f1, h⟩ := hget h; obtain ⟨f2, h⟩ := hget h; obtain ⟨f3, h⟩ := hget h; obtain ⟨f4, h⟩ := hget h; obtain ⟨f5, h⟩ := hget h
    have hg : 1073741824 ≤ @Sx.eval v (D 0) := ltF f2
    have g3 := (u_rem16 ha0 ha1).symm.trans (eqT f3)
    have g4 := Int.lt_of_le_of_lt (Int.le_of_eq (u_quo ha0 ha1 hg).symm) (ltT f4)
    have g5 := Int.lt_of_le_of_lt (Int.le_of_eq (u_lo80 ha0 ha1).symm) (ltT f5)
    have hl : @Sx.eval v (D 0) % 4096 = loOf (@Sx.eval v (D 0)) := by unfold loOf; rw [if_pos g5]
    exact yes ⟨hg, g3, g4⟩ (congrArg Dat.int (u_hi80 ha0 ha1 hg ((u_lo80 ha0 ha1).trans hl))) (congrArg Dat.int ((u_lo80 ha0 ha1).trans hl))
  · obtain ⟨f0, h⟩ := hget h; obtain ⟨f1, h⟩ := hget h; obtain ⟨f2, h⟩ := hget h; obtain ⟨f3, h⟩ := hget h; obtain ⟨f4, h⟩ := hget h; obtain ⟨f5, h⟩ := hget h
    have hg : 1073741824 ≤ @Sx.eval v (D 0) := ltF f2
    have g3 := (u_rem16 ha0 ha1).symm.trans (eqT f3)
    have g4 := Int.lt_of_le_of_lt (Int.le_of_eq (u_quo ha0 ha1 hg).symm) (ltT f4)
    have g5 : 2048 ≤ @Sx.eval v (D 0) % 4096 := Int.le_trans (ltF f5) (Int.le_of_eq (u_lo80 ha0 ha1))
    have hl : @Sx.eval v (D 0) % 4096 - 4096 = loOf (@Sx.eval v (D 0)) := by unfold loOf; rw [if_neg (by omega)]
    have hs := (u_sub4 ha0 ha1 (u_lo80 ha0 ha1)).trans hl
    exact yes ⟨hg, g3, g4⟩ (congrArg Dat.int (u_hi80 ha0 ha1 hg (hs))) (congrArg Dat.int hs)
  · obtain ⟨f0, h⟩ := hget h; obtain ⟨f1, h⟩ := hget h; obtain ⟨f2, h⟩ := hget h; obtain ⟨f3, h⟩ := hget h; obtain ⟨f4, h⟩ := hget h
    have hg : 1073741824 ≤ @Sx.eval v (D 0) := ltF f2
    have g4 : 32768 ≤ (@Sx.eval v (D 0) - 1073741824) / 16 := Int.le_trans (ltF f4) (Int.le_of_eq (u_quo ha0 ha1 hg))
    unfold stubB; omega
  · obtain ⟨f0, h⟩ := hget h; obtain ⟨f1, h⟩ := hget h; obtain ⟨f2, h⟩ := hget h; obtain ⟨f3, h⟩ := hget h
    have hg : 1073741824 ≤ @Sx.eval v (D 0) := ltF f2
    have g3 : @Sx.eval v (D 0) % 16 ≠ 0 := fun e => eqF f3 ((u_rem16 ha0 ha1).trans e)
    unfold stubB; omega
end
end Go.Proofs.YtbkokbjpbbpllaaGreat
