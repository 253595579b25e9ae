/-
  A part of the law's proof over the abstract evaluator. Conditions: those of each theorem, as it states them.
-/
import Derived.Test.YtlagbijmfchkeaaGreatB1
import Derived.Test.YtlagbijmfchkeaaGreatProg
set_option linter.all false
namespace Go.Tw.NE
def D(i:Nat):Sx:=.dvar i
def I(n:Int):Sx:=.lit n
def N(e:Sx):Sx:=.pr 30 e (.lit 0)
def lt(a b:Sx):Bx:=.cmp .lss a b
def eq(a b:Sx):Bx:=.cmp .eql a b
def pk:List Sx→Sx
 |[]=>.pr 14 (.lit 0) (.lit 0)
 |x::l=>.pr 12 x (pk l)
def A1(f:Nat)(x:Sx):Sx:=.ap f x (.lit 0) (.lit 0)
def J(a b:Sx):Sx:=.pr 9 a b
def O:Sx:=.pr 13 (.lit 0) (.lit 0)
def W(a b c d e f g:Sx):Sx:=.pr 12 a (.pr 12 b (.pr 12 c (.pr 12 d (.pr 12 e (.pr 12 f (.pr 12 g (.pr 14 (.lit 0) (.lit 0))))))))
def form(s:UInt8):Bx:=.seq (A1 42 (D 0)) (.slit [s])
def stC:ST:=(.ask (lt (D 0) (I 1)) (.leaf [(I 2)]) (.ask (lt (D 0) (I 64)) (.ask (.seq (.ap 42 (D 0) (I 0) (I 0)) (.slit [82])) (.ask (eq (D 4) (I 0)) (.ask (lt (D 1) (I 0)) (.leaf [(I 2)]) (.ask (lt (D 1) (I 32)) (.ask (lt (D 2) (I 0)) (.leaf [(I 2)]) (.ask (lt (D 2) (I 32)) (.ask (lt (D 3) (I 0)) (.leaf [(I 2)]) (.ask (lt (D 3) (I 32)) (.leaf [(I 0)]) (.leaf [(I 2)]))) (.leaf [(I 2)]))) (.leaf [(I 2)]))) (.leaf [(I 2)])) (.ask (.seq (.ap 42 (D 0) (I 0) (I 0)) (.slit [73])) (.ask (eq (D 3) (I 0)) (.ask (lt (D 1) (I 0)) (.leaf [(I 2)]) (.ask (lt (D 1) (I 32)) (.ask (lt (D 2) (I 0)) (.leaf [(I 2)]) (.ask (lt (D 2) (I 32)) (.ask (lt (D 3) (I 0)) .none (.ask (lt (D 3) (I 32)) (.ask (lt (D 4) (I (-2048))) (.leaf [(I 2)]) (.ask (lt (D 4) (I 2048)) (.ask (eq (.bin .rem .i64 (D 4) (I 1)) (I 0)) (.leaf [(I 0)]) (.leaf [(I 2)])) (.leaf [(I 2)]))) .none)) (.leaf [(I 2)]))) (.leaf [(I 2)]))) (.leaf [(I 2)])) (.ask (.seq (.ap 42 (D 0) (I 0) (I 0)) (.slit [88])) (.ask (eq (D 3) (I 0)) (.ask (lt (D 1) (I 0)) (.leaf [(I 2)]) (.ask (lt (D 1) (I 32)) (.ask (lt (D 2) (I 0)) (.leaf [(I 2)]) (.ask (lt (D 2) (I 32)) (.ask (lt (D 3) (I 0)) .none (.ask (lt (D 3) (I 32)) (.ask (lt (D 4) (I 0)) (.leaf [(I 2)]) (.ask (lt (D 4) (I 64)) (.ask (eq (.bin .rem .i64 (D 4) (I 1)) (I 0)) (.leaf [(I 0)]) (.leaf [(I 2)])) (.leaf [(I 2)]))) .none)) (.leaf [(I 2)]))) (.leaf [(I 2)]))) (.leaf [(I 2)])) (.ask (.seq (.ap 42 (D 0) (I 0) (I 0)) (.slit [89])) (.ask (eq (D 3) (I 0)) (.ask (lt (D 1) (I 0)) (.leaf [(I 2)]) (.ask (lt (D 1) (I 32)) (.ask (lt (D 2) (I 0)) (.leaf [(I 2)]) (.ask (lt (D 2) (I 32)) (.ask (lt (D 3) (I 0)) .none (.ask (lt (D 3) (I 32)) (.ask (lt (D 4) (I 0)) (.leaf [(I 2)]) (.ask (lt (D 4) (I 32)) (.ask (eq (.bin .rem .i64 (D 4) (I 1)) (I 0)) (.leaf [(I 0)]) (.leaf [(I 2)])) (.leaf [(I 2)]))) .none)) (.leaf [(I 2)]))) (.leaf [(I 2)]))) (.leaf [(I 2)])) (.ask (.seq (.ap 42 (D 0) (I 0) (I 0)) (.slit [83])) (.ask (eq (D 1) (I 0)) (.ask (lt (D 1) (I 0)) .none (.ask (lt (D 1) (I 32)) (.ask (lt (D 2) (I 0)) (.leaf [(I 2)]) (.ask (lt (D 2) (I 32)) (.ask (lt (D 3) (I 0)) (.leaf [(I 2)]) (.ask (lt (D 3) (I 32)) (.ask (lt (D 4) (I (-2048))) (.leaf [(I 2)]) (.ask (lt (D 4) (I 2048)) (.ask (eq (.bin .rem .i64 (D 4) (I 1)) (I 0)) (.leaf [(I 0)]) (.leaf [(I 2)])) (.leaf [(I 2)]))) (.leaf [(I 2)]))) (.leaf [(I 2)]))) .none)) (.leaf [(I 2)])) (.ask (.seq (.ap 42 (D 0) (I 0) (I 0)) (.slit [66])) (.ask (eq (D 1) (I 0)) (.ask (lt (D 1) (I 0)) .none (.ask (lt (D 1) (I 32)) (.ask (lt (D 2) (I 0)) (.leaf [(I 2)]) (.ask (lt (D 2) (I 32)) (.ask (lt (D 3) (I 0)) (.leaf [(I 2)]) (.ask (lt (D 3) (I 32)) (.ask (lt (D 4) (I (-4096))) (.leaf [(I 2)]) (.ask (lt (D 4) (I 4095)) (.ask (eq (.bin .rem .i64 (D 4) (I 2)) (I 0)) (.leaf [(I 0)]) (.leaf [(I 2)])) (.leaf [(I 2)]))) (.leaf [(I 2)]))) (.leaf [(I 2)]))) .none)) (.leaf [(I 2)])) (.ask (.seq (.ap 42 (D 0) (I 0) (I 0)) (.slit [85])) (.ask (eq (D 2) (I 0)) (.ask (eq (D 3) (I 0)) (.ask (lt (D 1) (I 0)) (.leaf [(I 2)]) (.ask (lt (D 1) (I 32)) (.ask (lt (D 2) (I 0)) .none (.ask (lt (D 2) (I 32)) (.ask (lt (D 3) (I 0)) .none (.ask (lt (D 3) (I 32)) (.ask (lt (D 4) (I (-524288))) (.leaf [(I 2)]) (.ask (lt (D 4) (I 524288)) (.ask (eq (.bin .rem .i64 (D 4) (I 1)) (I 0)) (.leaf [(I 0)]) (.leaf [(I 2)])) (.leaf [(I 2)]))) .none)) .none)) (.leaf [(I 2)]))) (.leaf [(I 2)])) (.leaf [(I 2)])) (.ask (.seq (.ap 42 (D 0) (I 0) (I 0)) (.slit [74])) (.ask (eq (D 2) (I 0)) (.ask (eq (D 3) (I 0)) (.ask (lt (D 1) (I 0)) (.leaf [(I 2)]) (.ask (lt (D 1) (I 32)) (.ask (lt (D 2) (I 0)) .none (.ask (lt (D 2) (I 32)) (.ask (lt (D 3) (I 0)) .none (.ask (lt (D 3) (I 32)) (.ask (lt (D 4) (I (-1048576))) (.leaf [(I 2)]) (.ask (lt (D 4) (I 1048575)) (.ask (eq (.bin .rem .i64 (D 4) (I 2)) (I 0)) (.leaf [(I 0)]) (.leaf [(I 2)])) (.leaf [(I 2)]))) .none)) .none)) (.leaf [(I 2)]))) (.leaf [(I 2)])) (.leaf [(I 2)])) (.ask (eq (D 1) (I 0)) (.ask (eq (D 2) (I 0)) (.ask (eq (D 3) (I 0)) (.ask (eq (D 4) (I 0)) (.ask (lt (D 1) (I 0)) .none (.ask (lt (D 1) (I 32)) (.ask (lt (D 2) (I 0)) .none (.ask (lt (D 2) (I 32)) (.ask (lt (D 3) (I 0)) .none (.ask (lt (D 3) (I 32)) (.leaf [(I 0)]) .none)) .none)) .none)) (.leaf [(I 2)])) (.leaf [(I 2)])) (.leaf [(I 2)])) (.leaf [(I 2)])))))))))) (.leaf [(I 2)])))
def RC:List aD:=[[((eq (D 3) (I 0)),true),((lt (D 3) (I 0)),true)],[((eq (D 3) (I 0)),true),((lt (D 3) (I 32)),false)],[((eq (D 1) (I 0)),true),((lt (D 1) (I 0)),true)],[((eq (D 1) (I 0)),true),((lt (D 1) (I 32)),false)],[((eq (D 2) (I 0)),true),((lt (D 2) (I 0)),true)],[((eq (D 2) (I 0)),true),((lt (D 2) (I 32)),false)]]
def stE:ST:=(.ask (lt (D 0) (I 1)) (.ask (eq (.ap 52 (pk [(D 0),(D 1),(D 2),(D 3),(D 4)]) (I 0) (I 0)) (I 0)) (.leaf [(I 0),(I 0)]) (.leaf [(I 0),(N (.ap 52 (pk [(D 0),(D 1),(D 2),(D 3),(D 4)]) (I 0) (I 0)))])) (.ask (lt (D 0) (I 64)) (.ask (eq (.ap 52 (pk [(D 0),(D 1),(D 2),(D 3),(D 4)]) (I 0) (I 0)) (I 0)) (.ask (.seq (.ap 42 (D 0) (I 0) (I 0)) (.slit [82])) (.leaf [(N (.bin .or .u32 (.bin .or .u32 (.bin .or .u32 (.bin .or .u32 (.bin .or .u32 (.ap 49 (D 0) (I 0) (I 0)) (.bin .shl .u32 (.ap 50 (D 0) (I 0) (I 0)) (I 12))) (.bin .shl .u32 (.ap 51 (D 0) (I 0) (I 0)) (I 25))) (.bin .shl .u32 (.bin .and .u32 (.bin .shr .u32 (.wrap .u32 (D 1)) (I 0)) (I 31)) (I 7))) (.bin .shl .u32 (.bin .and .u32 (.bin .shr .u32 (.wrap .u32 (D 2)) (I 0)) (I 31)) (I 15))) (.bin .shl .u32 (.bin .and .u32 (.bin .shr .u32 (.wrap .u32 (D 3)) (I 0)) (I 31)) (I 20)))),(I 0)]) (.ask (.seq (.ap 42 (D 0) (I 0) (I 0)) (.slit [73])) (.leaf [(N (.bin .or .u32 (.bin .or .u32 (.bin .or .u32 (.bin .or .u32 (.ap 49 (D 0) (I 0) (I 0)) (.bin .shl .u32 (.ap 50 (D 0) (I 0) (I 0)) (I 12))) (.bin .shl .u32 (.bin .and .u32 (.bin .shr .u32 (.wrap .u32 (D 1)) (I 0)) (I 31)) (I 7))) (.bin .shl .u32 (.bin .and .u32 (.bin .shr .u32 (.wrap .u32 (D 2)) (I 0)) (I 31)) (I 15))) (.bin .shl .u32 (.bin .and .u32 (.bin .shr .u32 (.wrap .u32 (D 4)) (I 0)) (I 4095)) (I 20)))),(I 0)]) (.ask (.seq (.ap 42 (D 0) (I 0) (I 0)) (.slit [88])) (.leaf [(N (.bin .or .u32 (.bin .or .u32 (.bin .or .u32 (.bin .or .u32 (.bin .or .u32 (.ap 49 (D 0) (I 0) (I 0)) (.bin .shl .u32 (.ap 50 (D 0) (I 0) (I 0)) (I 12))) (.bin .shl .u32 (.ap 51 (D 0) (I 0) (I 0)) (I 26))) (.bin .shl .u32 (.bin .and .u32 (.bin .shr .u32 (.wrap .u32 (D 1)) (I 0)) (I 31)) (I 7))) (.bin .shl .u32 (.bin .and .u32 (.bin .shr .u32 (.wrap .u32 (D 2)) (I 0)) (I 31)) (I 15))) (.bin .shl .u32 (.bin .and .u32 (.bin .shr .u32 (.wrap .u32 (D 4)) (I 0)) (I 63)) (I 20)))),(I 0)]) (.ask (.seq (.ap 42 (D 0) (I 0) (I 0)) (.slit [89])) (.leaf [(N (.bin .or .u32 (.bin .or .u32 (.bin .or .u32 (.bin .or .u32 (.bin .or .u32 (.ap 49 (D 0) (I 0) (I 0)) (.bin .shl .u32 (.ap 50 (D 0) (I 0) (I 0)) (I 12))) (.bin .shl .u32 (.ap 51 (D 0) (I 0) (I 0)) (I 25))) (.bin .shl .u32 (.bin .and .u32 (.bin .shr .u32 (.wrap .u32 (D 1)) (I 0)) (I 31)) (I 7))) (.bin .shl .u32 (.bin .and .u32 (.bin .shr .u32 (.wrap .u32 (D 2)) (I 0)) (I 31)) (I 15))) (.bin .shl .u32 (.bin .and .u32 (.bin .shr .u32 (.wrap .u32 (D 4)) (I 0)) (I 31)) (I 20)))),(I 0)]) (.ask (.seq (.ap 42 (D 0) (I 0) (I 0)) (.slit [83])) (.leaf [(N (.bin .or .u32 (.bin .or .u32 (.bin .or .u32 (.bin .or .u32 (.bin .or .u32 (.ap 49 (D 0) (I 0) (I 0)) (.bin .shl .u32 (.ap 50 (D 0) (I 0) (I 0)) (I 12))) (.bin .shl .u32 (.bin .and .u32 (.bin .shr .u32 (.wrap .u32 (D 2)) (I 0)) (I 31)) (I 15))) (.bin .shl .u32 (.bin .and .u32 (.bin .shr .u32 (.wrap .u32 (D 3)) (I 0)) (I 31)) (I 20))) (.bin .shl .u32 (.bin .and .u32 (.bin .shr .u32 (.wrap .u32 (D 4)) (I 0)) (I 31)) (I 7))) (.bin .shl .u32 (.bin .and .u32 (.bin .shr .u32 (.wrap .u32 (D 4)) (I 5)) (I 127)) (I 25)))),(I 0)]) (.ask (.seq (.ap 42 (D 0) (I 0) (I 0)) (.slit [66])) (.leaf [(N (.bin .or .u32 (.bin .or .u32 (.bin .or .u32 (.bin .or .u32 (.bin .or .u32 (.bin .or .u32 (.bin .or .u32 (.ap 49 (D 0) (I 0) (I 0)) (.bin .shl .u32 (.ap 50 (D 0) (I 0) (I 0)) (I 12))) (.bin .shl .u32 (.bin .and .u32 (.bin .shr .u32 (.wrap .u32 (D 2)) (I 0)) (I 31)) (I 15))) (.bin .shl .u32 (.bin .and .u32 (.bin .shr .u32 (.wrap .u32 (D 3)) (I 0)) (I 31)) (I 20))) (.bin .shl .u32 (.bin .and .u32 (.bin .shr .u32 (.wrap .u32 (D 4)) (I 11)) (I 1)) (I 7))) (.bin .shl .u32 (.bin .and .u32 (.bin .shr .u32 (.wrap .u32 (D 4)) (I 1)) (I 15)) (I 8))) (.bin .shl .u32 (.bin .and .u32 (.bin .shr .u32 (.wrap .u32 (D 4)) (I 5)) (I 63)) (I 25))) (.bin .shl .u32 (.bin .and .u32 (.bin .shr .u32 (.wrap .u32 (D 4)) (I 12)) (I 1)) (I 31)))),(I 0)]) (.ask (.seq (.ap 42 (D 0) (I 0) (I 0)) (.slit [85])) (.leaf [(N (.bin .or .u32 (.bin .or .u32 (.ap 49 (D 0) (I 0) (I 0)) (.bin .shl .u32 (.bin .and .u32 (.bin .shr .u32 (.wrap .u32 (D 1)) (I 0)) (I 31)) (I 7))) (.bin .shl .u32 (.bin .and .u32 (.bin .shr .u32 (.wrap .u32 (D 4)) (I 0)) (I 1048575)) (I 12)))),(I 0)]) (.ask (.seq (.ap 42 (D 0) (I 0) (I 0)) (.slit [74])) (.leaf [(N (.bin .or .u32 (.bin .or .u32 (.bin .or .u32 (.bin .or .u32 (.bin .or .u32 (.ap 49 (D 0) (I 0) (I 0)) (.bin .shl .u32 (.bin .and .u32 (.bin .shr .u32 (.wrap .u32 (D 1)) (I 0)) (I 31)) (I 7))) (.bin .shl .u32 (.bin .and .u32 (.bin .shr .u32 (.wrap .u32 (D 4)) (I 12)) (I 255)) (I 12))) (.bin .shl .u32 (.bin .and .u32 (.bin .shr .u32 (.wrap .u32 (D 4)) (I 11)) (I 1)) (I 20))) (.bin .shl .u32 (.bin .and .u32 (.bin .shr .u32 (.wrap .u32 (D 4)) (I 1)) (I 1023)) (I 21))) (.bin .shl .u32 (.bin .and .u32 (.bin .shr .u32 (.wrap .u32 (D 4)) (I 20)) (I 1)) (I 31)))),(I 0)]) (.leaf [(N (.ap 49 (D 0) (I 0) (I 0))),(I 0)]))))))))) (.leaf [(I 0),(N (.ap 52 (pk [(D 0),(D 1),(D 2),(D 3),(D 4)]) (I 0) (I 0)))])) (.ask (eq (.ap 52 (pk [(D 0),(D 1),(D 2),(D 3),(D 4)]) (I 0) (I 0)) (I 0)) (.leaf [(I 0),(I 0)]) (.leaf [(I 0),(N (.ap 52 (pk [(D 0),(D 1),(D 2),(D 3),(D 4)]) (I 0) (I 0)))]))))
def acZ:List aD:=[]
def stF:ST:=(.ask (eq (D 0) (I 0)) (.ask (eq (D 1) (I 0)) (.leaf [(.pr 20 (.ap 52 (pk [(D 2),(D 3),(D 4),(D 5),(D 6)]) (I 0) (I 0)) (I 0))]) (.leaf [(I 0)])) (.ask (eq (D 0) (I 1)) (.ask (lt (D 1) (I 1)) (.leaf [(I 0)]) (.ask (lt (D 1) (I 10001)) (.ask (eq (D 2) (I 0)) (.ask (eq (D 3) (I 0)) (.ask (eq (D 4) (I 0)) (.ask (eq (D 5) (I 0)) (.ask (eq (D 6) (I 0)) (.leaf [(I 1)]) (.leaf [(I 0)])) (.leaf [(I 0)])) (.leaf [(I 0)])) (.leaf [(I 0)])) (.leaf [(I 0)])) (.leaf [(I 0)]))) (.ask (eq (D 0) (I 2)) (.ask (lt (D 1) (I 1)) (.leaf [(I 0)]) (.ask (lt (D 1) (I 10001)) (.ask (.seq (.ap 42 (D 2) (I 0) (I 0)) (.slit [66])) (.ask (eq (D 6) (I 0)) (.leaf [(.pr 20 (.ap 52 (pk [(D 2),(D 3),(D 4),(D 5),(D 6)]) (I 0) (I 0)) (I 0))]) (.leaf [(I 0)])) (.ask (.seq (.ap 42 (D 2) (I 0) (I 0)) (.slit [74])) (.ask (eq (D 6) (I 0)) (.leaf [(.pr 20 (.ap 52 (pk [(D 2),(D 3),(D 4),(D 5),(D 6)]) (I 0) (I 0)) (I 0))]) (.leaf [(I 0)])) (.leaf [(I 0)]))) (.leaf [(I 0)]))) (.leaf [(I 0)]))))
def acY:List aD:=[]
def sC0:ST:=(.leaf [(I 0),(D 0)])
def sC1:ST:=(.ask (lt (ae (D 0)) (I 4001)) (.leaf [(I 0),(D 0)]) (.leaf [(I 1),(I 3)]))
def sC2:ST:=(.leaf [(I 0),(D 0),O])
def sC3:ST:=(.leaf [(I 0),(D 0),(D 1),(I 0)])
def sC4:ST:=(.ask (lt (D 2) (ae (D 0))) (.ask (eq (.ap 55 (W (.cell (D 0) (D 2) 0) (.cell (D 0) (D 2) 1) (.cell (D 0) (D 2) 2) (.cell (D 0) (D 2) 3) (.cell (D 0) (D 2) 4) (.cell (D 0) (D 2) 5) (.cell (D 0) (D 2) 6)) (I 0) (I 0)) (I 0)) (.leaf [(I 1),(I 2),(I 0),(I 0)]) (.ask (eq (.cell (D 0) (D 2) 0) (I 1)) (.ask (lt (.pr 32 (D 1) (.cell (D 0) (D 2) 1)) (I 1)) (.leaf [(I 0),(D 0),(.pr 33 (D 1) (.pr 12 (.cell (D 0) (D 2) 1) (.pr 12 (I 1) (.pr 14 (I 0) (I 0))))),(N (.bin .add .i64 (D 2) (I 1)))]) (.leaf [(I 1),(I 7),(I 0),(I 0)])) (.leaf [(I 0),(D 0),(D 1),(N (.bin .add .i64 (D 2) (I 1)))]))) (.leaf [(I 2),(D 0),(D 1),(I 0)]))
def sC5:ST:=(.leaf [(I 0),(D 0),(D 1),(I 0)])
def sC6:ST:=(.ask (lt (D 2) (ae (D 0))) (.ask (eq (.cell (D 0) (D 2) 0) (I 2)) (.ask (eq (.pr 32 (D 1) (.cell (D 0) (D 2) 1)) (I 0)) (.leaf [(I 1),(I 6),(I 0),(I 0)]) (.leaf [(I 0),(D 0),(D 1),(N (.bin .add .i64 (D 2) (I 1)))])) (.leaf [(I 0),(D 0),(D 1),(N (.bin .add .i64 (D 2) (I 1)))])) (.leaf [(I 2),(D 0),(D 1),(I 0)]))
def sC7:ST:=(.leaf [(I 1),(I 0)])
end Go.Tw.NE
namespace Go.Tw.NE
def pn0:ST:=(.ask (lt (ae (D 0)) (I 0)) .none (.ask (lt (ae (D 0)) (I 1000000001)) (.leaf [(I 1),(D 0),(.ap 45 (D 0) (I 0) (I 0)),(.ap 46 (D 0) (I 0) (I 0)),(.ap 47 (D 0) (I 0) (I 0))]) .none))
def M6:List aD:=[[((lt (ae (D 0)) (I 0)),true)],[((lt (ae (D 0)) (I 1000000001)),false)]]
def IH:aD:=[((lt (ae (D 0)) (I 5000)),true)]
def ac2:bq:=[((D 0),(D 0))]
def YN:bq:=[((D 0),(D 0)),((I 1),(I 1)),((I 1),(I 1)),((D 1),(.ap 45 (D 0) (I 0) (I 0))),((I 1),(I 1)),((D 2),(.ap 46 (D 0) (I 0) (I 0))),((I 1),(I 1)),((D 3),(.ap 47 (D 0) (I 0) (I 0)))]
def pl0:ST:=(.ask (eq (.ap 56 (D 0) (I 0) (I 0)) (I 0)) (.ask (lt (ae (D 0)) (I 5000)) (.leaf [(I 1),(.ap 46 (D 0) (I 0) (I 0)),(I 1),(I 0)]) .none) (.leaf [(I 1),O,(I 0),(N (.ap 56 (D 0) (I 0) (I 0)))]))
def Na:List aD:=[[((eq (.ap 56 (D 0) (I 0) (I 0)) (I 0)),true),((lt (ae (D 0)) (I 5000)),false)]]
def ac3:bq:=[((D 0),(D 0))]
def YQ:bq:=[((D 1),(.ap 58 (D 0) (I 0) (I 0))),((N (D 2)),(N (.ap 56 (D 0) (I 0) (I 0)))),((D 0),(.ap 57 (D 0) (I 0) (I 0))),((D 1),(.ap 58 (D 0) (I 0) (I 0)))]
def as0:ST:=(.leaf [(I 0),(D 0)])
def as1:ST:=(.ask (eq (.ap 56 (D 0) (I 0) (I 0)) (I 0)) (.leaf [(I 0),(D 0),(I 0),(I 0)]) (.leaf [(I 1),O,(I 0),(N (.ap 56 (D 0) (I 0) (I 0)))]))
def as2:ST:=(.ask (lt (ae (D 0)) (I 5000)) (.leaf [(I 0),(D 0),(.ap 45 (D 0) (I 0) (I 0)),(.ap 46 (D 0) (I 0) (I 0)),(.ap 47 (D 0) (I 0) (I 0))]) .none)
def O7:List aD:=[[((lt (ae (D 0)) (I 5000)),false)]]
def as3:ST:=(.leaf [(I 0),(D 0),(D 1),(D 2),(D 3),O,(I 0)])
def as4:ST:=(.leaf [(I 0),(D 0),(D 1),(D 2),(D 3),(D 4),(D 5),(I 0)])
def as6:ST:=(.ask (lt (D 6) (ae (D 0))) (.ask (eq (.cell (D 0) (D 6) 0) (I 1)) (.leaf [(I 0),(D 0),(D 1),(D 2),(D 3),(D 4),(D 5),(N (.bin .add .i64 (D 6) (I 1)))]) (.ask (lt (D 6) (ae (D 1))) (.ask (eq (.cell (D 1) (D 6) 0) (I 0)) (.ask (eq (.cell (D 0) (D 6) 0) (I 2)) (.ask (lt (D 6) (ae (D 2))) (.ask (lt (ae (D 4)) (I 1000000001)) (.leaf [(I 0),(D 0),(D 1),(D 2),(D 3),(J (D 4) (J (.pr 12 (.cell (D 0) (D 6) 2) (.pr 12 (.cell (D 0) (D 6) 3) (.pr 12 (.cell (D 0) (D 6) 4) (.pr 12 (.cell (D 0) (D 6) 5) (.pr 12 (.bin .mul .i64 (I 4) (.bin .sub .i64 (.pr 32 (D 3) (.cell (D 0) (D 6) 1)) (.cell (D 2) (D 6) 0))) (.pr 14 (I 0) (I 0))))))) O)),(I 1),(N (.bin .add .i64 (D 6) (I 1)))]) .none) .none) (.ask (lt (ae (D 4)) (I 1000000001)) (.leaf [(I 0),(D 0),(D 1),(D 2),(D 3),(J (D 4) (J (.pr 12 (.cell (D 0) (D 6) 2) (.pr 12 (.cell (D 0) (D 6) 3) (.pr 12 (.cell (D 0) (D 6) 4) (.pr 12 (.cell (D 0) (D 6) 5) (.pr 12 (.cell (D 0) (D 6) 6) (.pr 14 (I 0) (I 0))))))) O)),(I 1),(N (.bin .add .i64 (D 6) (I 1)))]) .none)) (.ask (eq (.cell (D 0) (D 6) 2) (I 5)) (.ask (lt (D 6) (ae (D 2))) (.ask (lt (ae (D 4)) (I 1000000001)) (.leaf [(I 0),(D 0),(D 1),(D 2),(D 3),(J (D 4) (J (.pr 12 (.bin .add .i64 (.cell (D 0) (D 6) 2) (I 1)) (.pr 12 (.cell (D 0) (D 6) 3) (.pr 12 (.cell (D 0) (D 6) 4) (.pr 12 (.cell (D 0) (D 6) 5) (.pr 12 (I 8) (.pr 14 (I 0) (I 0))))))) (J (.pr 12 (I 3) (.pr 12 (I 0) (.pr 12 (I 0) (.pr 12 (I 0) (.pr 12 (.bin .sub .i64 (.bin .mul .i64 (I 4) (.bin .sub .i64 (.pr 32 (D 3) (.cell (D 0) (D 6) 1)) (.cell (D 2) (D 6) 0))) (I 4)) (.pr 14 (I 0) (I 0))))))) O))),(I 1),(N (.bin .add .i64 (D 6) (I 1)))]) .none) .none) (.ask (eq (.cell (D 0) (D 6) 2) (I 7)) (.ask (lt (D 6) (ae (D 2))) (.ask (lt (ae (D 4)) (I 1000000001)) (.leaf [(I 0),(D 0),(D 1),(D 2),(D 3),(J (D 4) (J (.pr 12 (.bin .add .i64 (.cell (D 0) (D 6) 2) (I 1)) (.pr 12 (.cell (D 0) (D 6) 3) (.pr 12 (.cell (D 0) (D 6) 4) (.pr 12 (.cell (D 0) (D 6) 5) (.pr 12 (I 8) (.pr 14 (I 0) (I 0))))))) (J (.pr 12 (I 3) (.pr 12 (I 0) (.pr 12 (I 0) (.pr 12 (I 0) (.pr 12 (.bin .sub .i64 (.bin .mul .i64 (I 4) (.bin .sub .i64 (.pr 32 (D 3) (.cell (D 0) (D 6) 1)) (.cell (D 2) (D 6) 0))) (I 4)) (.pr 14 (I 0) (I 0))))))) O))),(I 1),(N (.bin .add .i64 (D 6) (I 1)))]) .none) .none) (.ask (eq (.cell (D 0) (D 6) 2) (I 9)) (.ask (lt (D 6) (ae (D 2))) (.ask (lt (ae (D 4)) (I 1000000001)) (.leaf [(I 0),(D 0),(D 1),(D 2),(D 3),(J (D 4) (J (.pr 12 (.bin .add .i64 (.cell (D 0) (D 6) 2) (I 1)) (.pr 12 (.cell (D 0) (D 6) 3) (.pr 12 (.cell (D 0) (D 6) 4) (.pr 12 (.cell (D 0) (D 6) 5) (.pr 12 (I 8) (.pr 14 (I 0) (I 0))))))) (J (.pr 12 (I 3) (.pr 12 (I 0) (.pr 12 (I 0) (.pr 12 (I 0) (.pr 12 (.bin .sub .i64 (.bin .mul .i64 (I 4) (.bin .sub .i64 (.pr 32 (D 3) (.cell (D 0) (D 6) 1)) (.cell (D 2) (D 6) 0))) (I 4)) (.pr 14 (I 0) (I 0))))))) O))),(I 1),(N (.bin .add .i64 (D 6) (I 1)))]) .none) .none) (.ask (eq (.cell (D 0) (D 6) 2) (I 6)) (.ask (lt (D 6) (ae (D 2))) (.ask (lt (ae (D 4)) (I 1000000001)) (.leaf [(I 0),(D 0),(D 1),(D 2),(D 3),(J (D 4) (J (.pr 12 (.bin .sub .i64 (.cell (D 0) (D 6) 2) (I 1)) (.pr 12 (.cell (D 0) (D 6) 3) (.pr 12 (.cell (D 0) (D 6) 4) (.pr 12 (.cell (D 0) (D 6) 5) (.pr 12 (I 8) (.pr 14 (I 0) (I 0))))))) (J (.pr 12 (I 3) (.pr 12 (I 0) (.pr 12 (I 0) (.pr 12 (I 0) (.pr 12 (.bin .sub .i64 (.bin .mul .i64 (I 4) (.bin .sub .i64 (.pr 32 (D 3) (.cell (D 0) (D 6) 1)) (.cell (D 2) (D 6) 0))) (I 4)) (.pr 14 (I 0) (I 0))))))) O))),(I 1),(N (.bin .add .i64 (D 6) (I 1)))]) .none) .none) (.ask (eq (.cell (D 0) (D 6) 2) (I 8)) (.ask (lt (D 6) (ae (D 2))) (.ask (lt (ae (D 4)) (I 1000000001)) (.leaf [(I 0),(D 0),(D 1),(D 2),(D 3),(J (D 4) (J (.pr 12 (.bin .sub .i64 (.cell (D 0) (D 6) 2) (I 1)) (.pr 12 (.cell (D 0) (D 6) 3) (.pr 12 (.cell (D 0) (D 6) 4) (.pr 12 (.cell (D 0) (D 6) 5) (.pr 12 (I 8) (.pr 14 (I 0) (I 0))))))) (J (.pr 12 (I 3) (.pr 12 (I 0) (.pr 12 (I 0) (.pr 12 (I 0) (.pr 12 (.bin .sub .i64 (.bin .mul .i64 (I 4) (.bin .sub .i64 (.pr 32 (D 3) (.cell (D 0) (D 6) 1)) (.cell (D 2) (D 6) 0))) (I 4)) (.pr 14 (I 0) (I 0))))))) O))),(I 1),(N (.bin .add .i64 (D 6) (I 1)))]) .none) .none) (.ask (eq (.cell (D 0) (D 6) 2) (I 10)) (.ask (lt (D 6) (ae (D 2))) (.ask (lt (ae (D 4)) (I 1000000001)) (.leaf [(I 0),(D 0),(D 1),(D 2),(D 3),(J (D 4) (J (.pr 12 (.bin .sub .i64 (.cell (D 0) (D 6) 2) (I 1)) (.pr 12 (.cell (D 0) (D 6) 3) (.pr 12 (.cell (D 0) (D 6) 4) (.pr 12 (.cell (D 0) (D 6) 5) (.pr 12 (I 8) (.pr 14 (I 0) (I 0))))))) (J (.pr 12 (I 3) (.pr 12 (I 0) (.pr 12 (I 0) (.pr 12 (I 0) (.pr 12 (.bin .sub .i64 (.bin .mul .i64 (I 4) (.bin .sub .i64 (.pr 32 (D 3) (.cell (D 0) (D 6) 1)) (.cell (D 2) (D 6) 0))) (I 4)) (.pr 14 (I 0) (I 0))))))) O))),(I 1),(N (.bin .add .i64 (D 6) (I 1)))]) .none) .none) (.ask (lt (D 6) (ae (D 2))) (.ask (lt (ae (D 4)) (I 1000000001)) (.leaf [(I 0),(D 0),(D 1),(D 2),(D 3),(J (D 4) (J (.pr 12 (I 0) (.pr 12 (.cell (D 0) (D 6) 3) (.pr 12 (.cell (D 0) (D 6) 4) (.pr 12 (.cell (D 0) (D 6) 5) (.pr 12 (I 8) (.pr 14 (I 0) (I 0))))))) (J (.pr 12 (I 3) (.pr 12 (I 0) (.pr 12 (I 0) (.pr 12 (I 0) (.pr 12 (.bin .sub .i64 (.bin .mul .i64 (I 4) (.bin .sub .i64 (.pr 32 (D 3) (.cell (D 0) (D 6) 1)) (.cell (D 2) (D 6) 0))) (I 4)) (.pr 14 (I 0) (I 0))))))) O))),(I 1),(N (.bin .add .i64 (D 6) (I 1)))]) .none) .none)))))))) .none)) (.leaf [(I 2),(D 4),(D 5),(I 0),(I 0),(I 0),(I 0),(I 0)]))
def Lj:List aD:=[[((lt (ae (D 4)) (I 1000000001)),false)],[((lt (D 6) (ae (D 0))),true),((lt (D 6) (ae (D 2))),false)],[((lt (D 6) (ae (D 0))),true),((lt (D 6) (ae (D 1))),false)]]
def Cw:aD:=[((lt (D 6) (I 0)),false)]
def as8:ST:=(.leaf [(I 0),(D 0),(D 1),O,(I 0)])
def as9:ST:=(.leaf [(I 0),(D 2),(D 3),(D 0),(D 1),(I 0)])
def as11:ST:=(.ask (lt (D 4) (ae (D 2))) (.ask (eq (.ap 54 (.pr 12 (.cell (D 2) (D 4) 0) (.pr 12 (.cell (D 2) (D 4) 1) (.pr 12 (.cell (D 2) (D 4) 2) (.pr 12 (.cell (D 2) (D 4) 3) (.pr 12 (.cell (D 2) (D 4) 4) (.pr 14 (I 0) (I 0))))))) (I 0) (I 0)) (I 0)) (.ask (lt (ae (D 0)) (I 1000000001)) (.leaf [(I 0),(J (D 0) (J (.pr 12 (.ap 53 (.pr 12 (.cell (D 2) (D 4) 0) (.pr 12 (.cell (D 2) (D 4) 1) (.pr 12 (.cell (D 2) (D 4) 2) (.pr 12 (.cell (D 2) (D 4) 3) (.pr 12 (.cell (D 2) (D 4) 4) (.pr 14 (I 0) (I 0))))))) (I 0) (I 0)) (.pr 14 (I 0) (I 0))) O)),(I 1),(D 2),(D 3),(N (.bin .add .i64 (D 4) (I 1)))]) .none) (.leaf [(I 1),O,(I 0),(N (.ap 54 (.pr 12 (.cell (D 2) (D 4) 0) (.pr 12 (.cell (D 2) (D 4) 1) (.pr 12 (.cell (D 2) (D 4) 2) (.pr 12 (.cell (D 2) (D 4) 3) (.pr 12 (.cell (D 2) (D 4) 4) (.pr 14 (I 0) (I 0))))))) (I 0) (I 0))),(I 0),(I 0)])) (.leaf [(I 9),(D 0),(D 1),(I 0),(I 0),(I 0)]))
def Ay:List aD:=[[((lt (ae (D 0)) (I 1000000001)),false)]]
def D5:aD:=[((lt (D 4) (I 0)),false)]
def as13:ST:=(.leaf [(I 1),(D 0),(D 1),(I 0)])
def ad2:bq:=[((D 0),(D 0))]
def aa9:bq:=[((D 1),(.ap 60 (D 0) (I 0) (I 0))),((N (D 2)),(N (.ap 61 (D 0) (I 0) (I 0)))),((D 0),(.ap 59 (D 0) (I 0) (I 0))),((D 1),(.ap 60 (D 0) (I 0) (I 0)))]
def oA(F:Fn):nE:=(pl0.tr F 3)
def lg(F:Fn):nE:=(aB (as0.tr F 1) (aB (as1.tr F 3) (aB (as2.tr F 4) (aB (as3.tr F 6) (aB (aB (as4.tr F 7) (gE 0 (gO (as6.tr F 7) (fun s=>(ah s 0).toL.length)))) (aB (as8.tr F 4) (aB (aB (as9.tr F 5) (gE 7 (gO (as11.tr F 5) (fun s=>(ah s 2).toL.length)))) (as13.tr F 3))))))))
end Go.Tw.NE
namespace Go.Tw.NE
def er(n:Int):ST:=.leaf [(I 0),(I n),O,(I 0)]
def b1(x:Sx):Sx:=.pr 12 x (.pr 14 (I 0) (I 0))
def put0:ST:=(.ask (eq (D 1) (I 0)) (.ask (eq (D 2) (I 0)) (.ask (eq (D 3) (I 0)) (.ask (eq (D 4) (I 0)) (.ask (eq (ae (D 5)) (I 0)) (.leaf [(I 1),(I 0),(J (b1 (I 0)) O),(I 1)]) (er 2)) (er 2)) (er 2)) (er 2)) (er 2))
def R4:ST:=(.ask (eq (D 2) (I 0)) (.ask (eq (D 3) (I 0)) (.ask (eq (ae (D 5)) (I 0)) (.ask (lt (D 1) (I 0)) (er 5) (.ask (lt (D 1) (I 64)) (.leaf [(I 1),(I 0),(J (b1 (I 1)) (J (b1 (.wrap .u8 (.bin .shr .u64 (.wrap .u64 (D 1)) (I 0)))) (J (b1 (.wrap .u8 (.bin .shr .u64 (.wrap .u64 (D 4)) (I 0)))) (J (b1 (.wrap .u8 (.bin .shr .u64 (.wrap .u64 (D 4)) (I 8)))) (J (b1 (.wrap .u8 (.bin .shr .u64 (.wrap .u64 (D 4)) (I 16)))) (J (b1 (.wrap .u8 (.bin .shr .u64 (.wrap .u64 (D 4)) (I 24)))) (J (b1 (.wrap .u8 (.bin .shr .u64 (.wrap .u64 (D 4)) (I 32)))) (J (b1 (.wrap .u8 (.bin .shr .u64 (.wrap .u64 (D 4)) (I 40)))) (J (b1 (.wrap .u8 (.bin .shr .u64 (.wrap .u64 (D 4)) (I 48)))) (J (b1 (.wrap .u8 (.bin .shr .u64 (.wrap .u64 (D 4)) (I 56)))) O)))))))))),(I 1)]) (er 5))) (er 2)) (er 2)) (er 2))
def R3:ST:=(.ask (eq (D 3) (I 0)) (.ask (eq (D 4) (I 0)) (.ask (eq (ae (D 5)) (I 0)) (.ask (lt (D 1) (I 0)) (er 5) (.ask (lt (D 1) (I 64)) (.ask (lt (D 2) (I 0)) (er 5) (.ask (lt (D 2) (I 64)) (.leaf [(I 1),(I 0),(J (b1 (I 2)) (J (b1 (.wrap .u8 (.bin .shr .u64 (.wrap .u64 (D 1)) (I 0)))) (J (b1 (.wrap .u8 (.bin .shr .u64 (.wrap .u64 (D 2)) (I 0)))) O))),(I 1)]) (er 5))) (er 5))) (er 2)) (er 2)) (er 2))
def R2:ST:=(.ask (eq (D 4) (I 0)) (.ask (eq (ae (D 5)) (I 0)) (.ask (lt (D 1) (I 0)) (er 5) (.ask (lt (D 1) (I 64)) (.ask (lt (D 2) (I 0)) (er 5) (.ask (lt (D 2) (I 64)) (.ask (lt (D 3) (I 0)) (er 5) (.ask (lt (D 3) (I 64)) (.leaf [(I 1),(I 0),(J (b1 (I 3)) (J (b1 (.wrap .u8 (.bin .shr .u64 (.wrap .u64 (D 1)) (I 0)))) (J (b1 (.wrap .u8 (.bin .shr .u64 (.wrap .u64 (D 2)) (I 0)))) (J (b1 (.wrap .u8 (.bin .shr .u64 (.wrap .u64 (D 3)) (I 0)))) O)))),(I 1)]) (er 5))) (er 5))) (er 5))) (er 2)) (er 2))
def R1:ST:=(.ask (eq (D 4) (I 0)) (.ask (eq (ae (D 5)) (I 0)) (.ask (lt (D 1) (I 0)) (er 5) (.ask (lt (D 1) (I 64)) (.ask (lt (D 2) (I 0)) (er 5) (.ask (lt (D 2) (I 64)) (.ask (lt (D 3) (I 0)) (er 5) (.ask (lt (D 3) (I 64)) (.leaf [(I 1),(I 0),(J (b1 (I 4)) (J (b1 (.wrap .u8 (.bin .shr .u64 (.wrap .u64 (D 1)) (I 0)))) (J (b1 (.wrap .u8 (.bin .shr .u64 (.wrap .u64 (D 2)) (I 0)))) (J (b1 (.wrap .u8 (.bin .shr .u64 (.wrap .u64 (D 3)) (I 0)))) O)))),(I 1)]) (er 5))) (er 5))) (er 5))) (er 2)) (er 2))
def RZ:ST:=(.ask (eq (D 4) (I 0)) (.ask (eq (ae (D 5)) (I 0)) (.ask (lt (D 1) (I 0)) (er 5) (.ask (lt (D 1) (I 64)) (.ask (lt (D 2) (I 0)) (er 5) (.ask (lt (D 2) (I 64)) (.ask (lt (D 3) (I 0)) (er 5) (.ask (lt (D 3) (I 64)) (.leaf [(I 1),(I 0),(J (b1 (I 5)) (J (b1 (.wrap .u8 (.bin .shr .u64 (.wrap .u64 (D 1)) (I 0)))) (J (b1 (.wrap .u8 (.bin .shr .u64 (.wrap .u64 (D 2)) (I 0)))) (J (b1 (.wrap .u8 (.bin .shr .u64 (.wrap .u64 (D 3)) (I 0)))) O)))),(I 1)]) (er 5))) (er 5))) (er 5))) (er 2)) (er 2))
def RY:ST:=(.ask (eq (D 4) (I 0)) (.ask (eq (ae (D 5)) (I 0)) (.ask (lt (D 1) (I 0)) (er 5) (.ask (lt (D 1) (I 64)) (.ask (lt (D 2) (I 0)) (er 5) (.ask (lt (D 2) (I 64)) (.ask (lt (D 3) (I 0)) (er 5) (.ask (lt (D 3) (I 64)) (.leaf [(I 1),(I 0),(J (b1 (I 6)) (J (b1 (.wrap .u8 (.bin .shr .u64 (.wrap .u64 (D 1)) (I 0)))) (J (b1 (.wrap .u8 (.bin .shr .u64 (.wrap .u64 (D 2)) (I 0)))) (J (b1 (.wrap .u8 (.bin .shr .u64 (.wrap .u64 (D 3)) (I 0)))) O)))),(I 1)]) (er 5))) (er 5))) (er 5))) (er 2)) (er 2))
def RX:ST:=(.ask (eq (D 4) (I 0)) (.ask (eq (ae (D 5)) (I 0)) (.ask (lt (D 1) (I 0)) (er 5) (.ask (lt (D 1) (I 64)) (.ask (lt (D 2) (I 0)) (er 5) (.ask (lt (D 2) (I 64)) (.ask (lt (D 3) (I 0)) (er 5) (.ask (lt (D 3) (I 64)) (.leaf [(I 1),(I 0),(J (b1 (I 7)) (J (b1 (.wrap .u8 (.bin .shr .u64 (.wrap .u64 (D 1)) (I 0)))) (J (b1 (.wrap .u8 (.bin .shr .u64 (.wrap .u64 (D 2)) (I 0)))) (J (b1 (.wrap .u8 (.bin .shr .u64 (.wrap .u64 (D 3)) (I 0)))) O)))),(I 1)]) (er 5))) (er 5))) (er 5))) (er 2)) (er 2))
def RW:ST:=(.ask (eq (D 4) (I 0)) (.ask (eq (ae (D 5)) (I 0)) (.ask (lt (D 1) (I 0)) (er 5) (.ask (lt (D 1) (I 64)) (.ask (lt (D 2) (I 0)) (er 5) (.ask (lt (D 2) (I 64)) (.ask (lt (D 3) (I 0)) (er 5) (.ask (lt (D 3) (I 64)) (.leaf [(I 1),(I 0),(J (b1 (I 8)) (J (b1 (.wrap .u8 (.bin .shr .u64 (.wrap .u64 (D 1)) (I 0)))) (J (b1 (.wrap .u8 (.bin .shr .u64 (.wrap .u64 (D 2)) (I 0)))) (J (b1 (.wrap .u8 (.bin .shr .u64 (.wrap .u64 (D 3)) (I 0)))) O)))),(I 1)]) (er 5))) (er 5))) (er 5))) (er 2)) (er 2))
def RV:ST:=(.ask (eq (D 4) (I 0)) (.ask (eq (ae (D 5)) (I 0)) (.ask (lt (D 1) (I 0)) (er 5) (.ask (lt (D 1) (I 64)) (.ask (lt (D 2) (I 0)) (er 5) (.ask (lt (D 2) (I 64)) (.ask (lt (D 3) (I 0)) (er 5) (.ask (lt (D 3) (I 64)) (.leaf [(I 1),(I 0),(J (b1 (I 9)) (J (b1 (.wrap .u8 (.bin .shr .u64 (.wrap .u64 (D 1)) (I 0)))) (J (b1 (.wrap .u8 (.bin .shr .u64 (.wrap .u64 (D 2)) (I 0)))) (J (b1 (.wrap .u8 (.bin .shr .u64 (.wrap .u64 (D 3)) (I 0)))) O)))),(I 1)]) (er 5))) (er 5))) (er 5))) (er 2)) (er 2))
def IE:ST:=(.ask (eq (D 4) (I 0)) (.ask (eq (ae (D 5)) (I 0)) (.ask (lt (D 1) (I 0)) (er 5) (.ask (lt (D 1) (I 64)) (.ask (lt (D 2) (I 0)) (er 5) (.ask (lt (D 2) (I 64)) (.ask (lt (D 3) (I 0)) (er 5) (.ask (lt (D 3) (I 64)) (.leaf [(I 1),(I 0),(J (b1 (I 10)) (J (b1 (.wrap .u8 (.bin .shr .u64 (.wrap .u64 (D 1)) (I 0)))) (J (b1 (.wrap .u8 (.bin .shr .u64 (.wrap .u64 (D 2)) (I 0)))) (J (b1 (.wrap .u8 (.bin .shr .u64 (.wrap .u64 (D 3)) (I 0)))) O)))),(I 1)]) (er 5))) (er 5))) (er 5))) (er 2)) (er 2))
def ID:ST:=(.ask (eq (D 4) (I 0)) (.ask (eq (ae (D 5)) (I 0)) (.ask (lt (D 1) (I 0)) (er 5) (.ask (lt (D 1) (I 64)) (.ask (lt (D 2) (I 0)) (er 5) (.ask (lt (D 2) (I 64)) (.ask (lt (D 3) (I 0)) (er 5) (.ask (lt (D 3) (I 64)) (.leaf [(I 1),(I 0),(J (b1 (I 11)) (J (b1 (.wrap .u8 (.bin .shr .u64 (.wrap .u64 (D 1)) (I 0)))) (J (b1 (.wrap .u8 (.bin .shr .u64 (.wrap .u64 (D 2)) (I 0)))) (J (b1 (.wrap .u8 (.bin .shr .u64 (.wrap .u64 (D 3)) (I 0)))) O)))),(I 1)]) (er 5))) (er 5))) (er 5))) (er 2)) (er 2))
def IC:ST:=(.ask (eq (D 4) (I 0)) (.ask (eq (ae (D 5)) (I 0)) (.ask (lt (D 1) (I 0)) (er 5) (.ask (lt (D 1) (I 64)) (.ask (lt (D 2) (I 0)) (er 5) (.ask (lt (D 2) (I 64)) (.ask (lt (D 3) (I 0)) (er 5) (.ask (lt (D 3) (I 64)) (.leaf [(I 1),(I 0),(J (b1 (I 12)) (J (b1 (.wrap .u8 (.bin .shr .u64 (.wrap .u64 (D 1)) (I 0)))) (J (b1 (.wrap .u8 (.bin .shr .u64 (.wrap .u64 (D 2)) (I 0)))) (J (b1 (.wrap .u8 (.bin .shr .u64 (.wrap .u64 (D 3)) (I 0)))) O)))),(I 1)]) (er 5))) (er 5))) (er 5))) (er 2)) (er 2))
def IB:ST:=(.ask (eq (D 4) (I 0)) (.ask (eq (ae (D 5)) (I 0)) (.ask (lt (D 1) (I 0)) (er 5) (.ask (lt (D 1) (I 64)) (.ask (lt (D 2) (I 0)) (er 5) (.ask (lt (D 2) (I 64)) (.ask (lt (D 3) (I 0)) (er 5) (.ask (lt (D 3) (I 64)) (.leaf [(I 1),(I 0),(J (b1 (I 13)) (J (b1 (.wrap .u8 (.bin .shr .u64 (.wrap .u64 (D 1)) (I 0)))) (J (b1 (.wrap .u8 (.bin .shr .u64 (.wrap .u64 (D 2)) (I 0)))) (J (b1 (.wrap .u8 (.bin .shr .u64 (.wrap .u64 (D 3)) (I 0)))) O)))),(I 1)]) (er 5))) (er 5))) (er 5))) (er 2)) (er 2))
def IA:ST:=(.ask (eq (D 4) (I 0)) (.ask (eq (ae (D 5)) (I 0)) (.ask (lt (D 1) (I 0)) (er 5) (.ask (lt (D 1) (I 64)) (.ask (lt (D 2) (I 0)) (er 5) (.ask (lt (D 2) (I 64)) (.ask (lt (D 3) (I 0)) (er 5) (.ask (lt (D 3) (I 64)) (.leaf [(I 1),(I 0),(J (b1 (I 14)) (J (b1 (.wrap .u8 (.bin .shr .u64 (.wrap .u64 (D 1)) (I 0)))) (J (b1 (.wrap .u8 (.bin .shr .u64 (.wrap .u64 (D 2)) (I 0)))) (J (b1 (.wrap .u8 (.bin .shr .u64 (.wrap .u64 (D 3)) (I 0)))) O)))),(I 1)]) (er 5))) (er 5))) (er 5))) (er 2)) (er 2))
def Iz:ST:=(.ask (eq (D 4) (I 0)) (.ask (eq (ae (D 5)) (I 0)) (.ask (lt (D 1) (I 0)) (er 5) (.ask (lt (D 1) (I 64)) (.ask (lt (D 2) (I 0)) (er 5) (.ask (lt (D 2) (I 64)) (.ask (lt (D 3) (I 0)) (er 5) (.ask (lt (D 3) (I 64)) (.leaf [(I 1),(I 0),(J (b1 (I 15)) (J (b1 (.wrap .u8 (.bin .shr .u64 (.wrap .u64 (D 1)) (I 0)))) (J (b1 (.wrap .u8 (.bin .shr .u64 (.wrap .u64 (D 2)) (I 0)))) (J (b1 (.wrap .u8 (.bin .shr .u64 (.wrap .u64 (D 3)) (I 0)))) O)))),(I 1)]) (er 5))) (er 5))) (er 5))) (er 2)) (er 2))
def Iy:ST:=(.ask (eq (D 4) (I 0)) (.ask (eq (ae (D 5)) (I 0)) (.ask (lt (D 1) (I 0)) (er 5) (.ask (lt (D 1) (I 64)) (.ask (lt (D 2) (I 0)) (er 5) (.ask (lt (D 2) (I 64)) (.ask (lt (D 3) (I 0)) (er 5) (.ask (lt (D 3) (I 64)) (.leaf [(I 1),(I 0),(J (b1 (I 16)) (J (b1 (.wrap .u8 (.bin .shr .u64 (.wrap .u64 (D 1)) (I 0)))) (J (b1 (.wrap .u8 (.bin .shr .u64 (.wrap .u64 (D 2)) (I 0)))) (J (b1 (.wrap .u8 (.bin .shr .u64 (.wrap .u64 (D 3)) (I 0)))) O)))),(I 1)]) (er 5))) (er 5))) (er 5))) (er 2)) (er 2))
def Ix:ST:=(.ask (eq (D 4) (I 0)) (.ask (eq (ae (D 5)) (I 0)) (.ask (lt (D 1) (I 0)) (er 5) (.ask (lt (D 1) (I 64)) (.ask (lt (D 2) (I 0)) (er 5) (.ask (lt (D 2) (I 64)) (.ask (lt (D 3) (I 0)) (er 5) (.ask (lt (D 3) (I 64)) (.leaf [(I 1),(I 0),(J (b1 (I 17)) (J (b1 (.wrap .u8 (.bin .shr .u64 (.wrap .u64 (D 1)) (I 0)))) (J (b1 (.wrap .u8 (.bin .shr .u64 (.wrap .u64 (D 2)) (I 0)))) (J (b1 (.wrap .u8 (.bin .shr .u64 (.wrap .u64 (D 3)) (I 0)))) O)))),(I 1)]) (er 5))) (er 5))) (er 5))) (er 2)) (er 2))
def Iw:ST:=(.ask (eq (D 4) (I 0)) (.ask (eq (ae (D 5)) (I 0)) (.ask (lt (D 1) (I 0)) (er 5) (.ask (lt (D 1) (I 64)) (.ask (lt (D 2) (I 0)) (er 5) (.ask (lt (D 2) (I 64)) (.ask (lt (D 3) (I 0)) (er 5) (.ask (lt (D 3) (I 64)) (.leaf [(I 1),(I 0),(J (b1 (I 18)) (J (b1 (.wrap .u8 (.bin .shr .u64 (.wrap .u64 (D 1)) (I 0)))) (J (b1 (.wrap .u8 (.bin .shr .u64 (.wrap .u64 (D 2)) (I 0)))) (J (b1 (.wrap .u8 (.bin .shr .u64 (.wrap .u64 (D 3)) (I 0)))) O)))),(I 1)]) (er 5))) (er 5))) (er 5))) (er 2)) (er 2))
def Iv:ST:=(.ask (eq (D 4) (I 0)) (.ask (eq (ae (D 5)) (I 0)) (.ask (lt (D 1) (I 0)) (er 5) (.ask (lt (D 1) (I 64)) (.ask (lt (D 2) (I 0)) (er 5) (.ask (lt (D 2) (I 64)) (.ask (lt (D 3) (I 0)) (er 5) (.ask (lt (D 3) (I 64)) (.leaf [(I 1),(I 0),(J (b1 (I 19)) (J (b1 (.wrap .u8 (.bin .shr .u64 (.wrap .u64 (D 1)) (I 0)))) (J (b1 (.wrap .u8 (.bin .shr .u64 (.wrap .u64 (D 2)) (I 0)))) (J (b1 (.wrap .u8 (.bin .shr .u64 (.wrap .u64 (D 3)) (I 0)))) O)))),(I 1)]) (er 5))) (er 5))) (er 5))) (er 2)) (er 2))
def Iu:ST:=(.ask (eq (D 3) (I 0)) (.ask (eq (ae (D 5)) (I 0)) (.ask (lt (D 1) (I 0)) (er 5) (.ask (lt (D 1) (I 64)) (.ask (lt (D 2) (I 0)) (er 5) (.ask (lt (D 2) (I 64)) (.ask (lt (D 4) (I 1)) (er 5) (.ask (lt (D 4) (I 7)) (.leaf [(I 1),(I 0),(J (b1 (I 20)) (J (b1 (.wrap .u8 (.bin .shr .u64 (.wrap .u64 (D 1)) (I 0)))) (J (b1 (.wrap .u8 (.bin .shr .u64 (.wrap .u64 (D 2)) (I 0)))) (J (b1 (.wrap .u8 (.bin .shr .u64 (.wrap .u64 (D 4)) (I 0)))) O)))),(I 1)]) (er 5))) (er 5))) (er 5))) (er 2)) (er 2))
def It:ST:=(.ask (eq (D 3) (I 0)) (.ask (eq (ae (D 5)) (I 0)) (.ask (lt (D 1) (I 0)) (er 5) (.ask (lt (D 1) (I 64)) (.ask (lt (D 2) (I 0)) (er 5) (.ask (lt (D 2) (I 64)) (.ask (lt (D 4) (I 1)) (er 5) (.ask (lt (D 4) (I 8)) (.leaf [(I 1),(I 0),(J (b1 (I 21)) (J (b1 (.wrap .u8 (.bin .shr .u64 (.wrap .u64 (D 1)) (I 0)))) (J (b1 (.wrap .u8 (.bin .shr .u64 (.wrap .u64 (D 2)) (I 0)))) (J (b1 (.wrap .u8 (.bin .shr .u64 (.wrap .u64 (D 4)) (I 0)))) O)))),(I 1)]) (er 5))) (er 5))) (er 5))) (er 2)) (er 2))
def Is:ST:=(.ask (eq (D 3) (I 0)) (.ask (eq (ae (D 5)) (I 0)) (.ask (lt (D 1) (I 0)) (er 5) (.ask (lt (D 1) (I 64)) (.ask (lt (D 2) (I 0)) (er 5) (.ask (lt (D 2) (I 64)) (.ask (lt (D 4) (I 1)) (er 5) (.ask (lt (D 4) (I 9)) (.ask (eq (.bin .and .i64 (D 4) (.bin .sub .i64 (D 4) (I 1))) (I 0)) (.leaf [(I 1),(I 0),(J (b1 (I 22)) (J (b1 (.wrap .u8 (.bin .shr .u64 (.wrap .u64 (D 1)) (I 0)))) (J (b1 (.wrap .u8 (.bin .shr .u64 (.wrap .u64 (D 2)) (I 0)))) (J (b1 (.wrap .u8 (.bin .shr .u64 (.wrap .u64 (D 4)) (I 0)))) O)))),(I 1)]) (er 5)) (er 5))) (er 5))) (er 5))) (er 2)) (er 2))
def Ir:ST:=(.ask (eq (D 2) (I 0)) (.ask (eq (D 3) (I 0)) (.ask (eq (ae (D 5)) (I 0)) (.ask (lt (D 1) (I 0)) (er 5) (.ask (lt (D 1) (I 64)) (.ask (lt (D 4) (I 0)) (er 5) (.ask (lt (D 4) (I 4097)) (.leaf [(I 1),(I 0),(J (b1 (I 23)) (J (b1 (.wrap .u8 (.bin .shr .u64 (.wrap .u64 (D 1)) (I 0)))) (J (b1 (.wrap .u8 (.bin .shr .u64 (.wrap .u64 (D 4)) (I 0)))) (J (b1 (.wrap .u8 (.bin .shr .u64 (.wrap .u64 (D 4)) (I 8)))) O)))),(I 1)]) (er 5))) (er 5))) (er 2)) (er 2)) (er 2))
def Iq:ST:=(.ask (eq (D 2) (I 0)) (.ask (eq (D 3) (I 0)) (.ask (eq (ae (D 5)) (I 0)) (.ask (lt (D 1) (I 0)) (er 5) (.ask (lt (D 1) (I 64)) (.ask (lt (D 4) (I 0)) (er 5) (.ask (lt (D 4) (I 8193)) (.leaf [(I 1),(I 0),(J (b1 (I 24)) (J (b1 (.wrap .u8 (.bin .shr .u64 (.wrap .u64 (D 1)) (I 0)))) (J (b1 (.wrap .u8 (.bin .shr .u64 (.wrap .u64 (D 4)) (I 0)))) (J (b1 (.wrap .u8 (.bin .shr .u64 (.wrap .u64 (D 4)) (I 8)))) O)))),(I 1)]) (er 5))) (er 5))) (er 2)) (er 2)) (er 2))
def Ip:ST:=(.ask (eq (D 1) (I 0)) (.ask (eq (D 2) (I 0)) (.ask (eq (D 3) (I 0)) (.ask (eq (ae (D 5)) (I 0)) (.ask (lt (D 4) (I 0)) (er 5) (.ask (lt (D 4) (I 4096)) (.leaf [(I 1),(I 0),(J (b1 (I 25)) (J (b1 (.wrap .u8 (.bin .shr .u64 (.wrap .u64 (D 4)) (I 0)))) (J (b1 (.wrap .u8 (.bin .shr .u64 (.wrap .u64 (D 4)) (I 8)))) O))),(I 1)]) (er 5))) (er 2)) (er 2)) (er 2)) (er 2))
def Io:ST:=(.ask (eq (D 2) (I 0)) (.ask (eq (D 3) (I 0)) (.ask (eq (ae (D 5)) (I 0)) (.ask (lt (D 1) (I 0)) (er 5) (.ask (lt (D 1) (I 64)) (.ask (lt (D 4) (I 0)) (er 5) (.ask (lt (D 4) (I 4096)) (.leaf [(I 1),(I 0),(J (b1 (I 26)) (J (b1 (.wrap .u8 (.bin .shr .u64 (.wrap .u64 (D 1)) (I 0)))) (J (b1 (.wrap .u8 (.bin .shr .u64 (.wrap .u64 (D 4)) (I 0)))) (J (b1 (.wrap .u8 (.bin .shr .u64 (.wrap .u64 (D 4)) (I 8)))) O)))),(I 1)]) (er 5))) (er 5))) (er 2)) (er 2)) (er 2))
def Im:ST:=(.ask (eq (D 2) (I 0)) (.ask (eq (D 3) (I 0)) (.ask (eq (ae (D 5)) (I 0)) (.ask (lt (D 1) (I 0)) (er 5) (.ask (lt (D 1) (I 64)) (.ask (lt (D 4) (I 0)) (er 5) (.ask (lt (D 4) (I 4096)) (.leaf [(I 1),(I 0),(J (b1 (I 27)) (J (b1 (.wrap .u8 (.bin .shr .u64 (.wrap .u64 (D 1)) (I 0)))) (J (b1 (.wrap .u8 (.bin .shr .u64 (.wrap .u64 (D 4)) (I 0)))) (J (b1 (.wrap .u8 (.bin .shr .u64 (.wrap .u64 (D 4)) (I 8)))) O)))),(I 1)]) (er 5))) (er 5))) (er 2)) (er 2)) (er 2))
def Ii:ST:=(.ask (eq (D 2) (I 0)) (.ask (eq (D 3) (I 0)) (.ask (eq (D 4) (I 0)) (.ask (eq (ae (D 5)) (I 0)) (.ask (lt (D 1) (I 0)) (er 5) (.ask (lt (D 1) (I 64)) (.leaf [(I 1),(I 0),(J (b1 (I 29)) (J (b1 (.wrap .u8 (.bin .shr .u64 (.wrap .u64 (D 1)) (I 0)))) O)),(I 1)]) (er 5))) (er 2)) (er 2)) (er 2)) (er 2))
def Ih:ST:=(.ask (eq (D 2) (I 0)) (.ask (eq (D 3) (I 0)) (.ask (eq (D 4) (I 0)) (.ask (eq (ae (D 5)) (I 0)) (.ask (lt (D 1) (I 0)) (er 5) (.ask (lt (D 1) (I 64)) (.leaf [(I 1),(I 0),(J (b1 (I 30)) (J (b1 (.wrap .u8 (.bin .shr .u64 (.wrap .u64 (D 1)) (I 0)))) O)),(I 1)]) (er 5))) (er 2)) (er 2)) (er 2)) (er 2))
def Ig:ST:=(.ask (eq (D 2) (I 0)) (.ask (eq (D 3) (I 0)) (.ask (eq (D 4) (I 0)) (.ask (eq (ae (D 5)) (I 0)) (.ask (lt (D 1) (I 0)) (er 5) (.ask (lt (D 1) (I 64)) (.leaf [(I 1),(I 0),(J (b1 (I 31)) (J (b1 (.wrap .u8 (.bin .shr .u64 (.wrap .u64 (D 1)) (I 0)))) O)),(I 1)]) (er 5))) (er 2)) (er 2)) (er 2)) (er 2))
def Ie:ST:=(.ask (eq (D 2) (I 0)) (.ask (eq (D 3) (I 0)) (.ask (eq (D 4) (I 0)) (.ask (eq (ae (D 5)) (I 0)) (.ask (lt (D 1) (I 0)) (er 5) (.ask (lt (D 1) (I 64)) (.leaf [(I 1),(I 0),(J (b1 (I 32)) (J (b1 (.wrap .u8 (.bin .shr .u64 (.wrap .u64 (D 1)) (I 0)))) O)),(I 1)]) (er 5))) (er 2)) (er 2)) (er 2)) (er 2))
def oU:ST:=(.ask (eq (D 2) (I 0)) (.ask (eq (D 3) (I 0)) (.ask (lt (D 1) (I 0)) (er 5) (.ask (lt (D 1) (I 64)) (.ask (lt (D 4) (I 0)) (er 5) (.ask (lt (D 4) (I 64)) (.leaf [(I 1),(I 0),(J (b1 (I 28)) (J (b1 (.wrap .u8 (.bin .shr .u64 (.wrap .u64 (D 1)) (I 0)))) (J (b1 (.wrap .u8 (.bin .shr .u64 (.wrap .u64 (D 4)) (I 0)))) (J (b1 (I 0)) O)))),(I 1)]) (er 5))) (er 5))) (er 2)) (er 2))
def oT:ST:=(.ask (eq (D 2) (I 0)) (.ask (eq (D 3) (I 0)) (.ask (lt (D 1) (I 0)) (er 5) (.ask (lt (D 1) (I 64)) (.ask (lt (.cell (D 5) (I 0) 0) (I 0)) (er 5) (.ask (lt (.cell (D 5) (I 0) 0) (I 64)) (.ask (lt (D 4) (I 0)) (er 5) (.ask (lt (D 4) (I 64)) (.ask (lt (I 0) (ae (D 5))) (.leaf [(I 1),(I 0),(J (b1 (I 28)) (J (b1 (.wrap .u8 (.bin .shr .u64 (.wrap .u64 (D 1)) (I 0)))) (J (b1 (.wrap .u8 (.bin .shr .u64 (.wrap .u64 (D 4)) (I 0)))) (J (b1 (I 1)) (J (b1 (.wrap .u8 (.cell (D 5) (I 0) 0))) O))))),(I 1)]) .none) (er 5))) (er 5))) (er 5))) (er 2)) (er 2))
def oS:ST:=(.ask (eq (D 2) (I 0)) (.ask (eq (D 3) (I 0)) (.ask (lt (D 1) (I 0)) (er 5) (.ask (lt (D 1) (I 64)) (.ask (lt (.cell (D 5) (I 0) 0) (I 0)) (er 5) (.ask (lt (.cell (D 5) (I 0) 0) (I 64)) (.ask (lt (.cell (D 5) (I 1) 0) (I 0)) (er 5) (.ask (lt (.cell (D 5) (I 1) 0) (I 64)) (.ask (lt (D 4) (I 0)) (er 5) (.ask (lt (D 4) (I 64)) (.ask (lt (I 0) (ae (D 5))) (.ask (lt (I 1) (ae (D 5))) (.leaf [(I 1),(I 0),(J (b1 (I 28)) (J (b1 (.wrap .u8 (.bin .shr .u64 (.wrap .u64 (D 1)) (I 0)))) (J (b1 (.wrap .u8 (.bin .shr .u64 (.wrap .u64 (D 4)) (I 0)))) (J (b1 (I 2)) (J (b1 (.wrap .u8 (.cell (D 5) (I 0) 0))) (J (b1 (.wrap .u8 (.cell (D 5) (I 1) 0))) O)))))),(I 1)]) .none) .none) (er 5))) (er 5))) (er 5))) (er 5))) (er 2)) (er 2))
def oR:ST:=(.ask (eq (D 2) (I 0)) (.ask (eq (D 3) (I 0)) (.ask (lt (D 1) (I 0)) (er 5) (.ask (lt (D 1) (I 64)) (.ask (lt (.cell (D 5) (I 0) 0) (I 0)) (er 5) (.ask (lt (.cell (D 5) (I 0) 0) (I 64)) (.ask (lt (.cell (D 5) (I 1) 0) (I 0)) (er 5) (.ask (lt (.cell (D 5) (I 1) 0) (I 64)) (.ask (lt (.cell (D 5) (I 2) 0) (I 0)) (er 5) (.ask (lt (.cell (D 5) (I 2) 0) (I 64)) (.ask (lt (D 4) (I 0)) (er 5) (.ask (lt (D 4) (I 64)) (.ask (lt (I 0) (ae (D 5))) (.ask (lt (I 1) (ae (D 5))) (.ask (lt (I 2) (ae (D 5))) (.leaf [(I 1),(I 0),(J (b1 (I 28)) (J (b1 (.wrap .u8 (.bin .shr .u64 (.wrap .u64 (D 1)) (I 0)))) (J (b1 (.wrap .u8 (.bin .shr .u64 (.wrap .u64 (D 4)) (I 0)))) (J (b1 (I 3)) (J (b1 (.wrap .u8 (.cell (D 5) (I 0) 0))) (J (b1 (.wrap .u8 (.cell (D 5) (I 1) 0))) (J (b1 (.wrap .u8 (.cell (D 5) (I 2) 0))) O))))))),(I 1)]) .none) .none) .none) (er 5))) (er 5))) (er 5))) (er 5))) (er 5))) (er 2)) (er 2))
def oQ:ST:=(.ask (eq (D 2) (I 0)) (.ask (eq (D 3) (I 0)) (.ask (lt (D 1) (I 0)) (er 5) (.ask (lt (D 1) (I 64)) (.ask (lt (.cell (D 5) (I 0) 0) (I 0)) (er 5) (.ask (lt (.cell (D 5) (I 0) 0) (I 64)) (.ask (lt (.cell (D 5) (I 1) 0) (I 0)) (er 5) (.ask (lt (.cell (D 5) (I 1) 0) (I 64)) (.ask (lt (.cell (D 5) (I 2) 0) (I 0)) (er 5) (.ask (lt (.cell (D 5) (I 2) 0) (I 64)) (.ask (lt (.cell (D 5) (I 3) 0) (I 0)) (er 5) (.ask (lt (.cell (D 5) (I 3) 0) (I 64)) (.ask (lt (D 4) (I 0)) (er 5) (.ask (lt (D 4) (I 64)) (.ask (lt (I 0) (ae (D 5))) (.ask (lt (I 1) (ae (D 5))) (.ask (lt (I 2) (ae (D 5))) (.ask (lt (I 3) (ae (D 5))) (.leaf [(I 1),(I 0),(J (b1 (I 28)) (J (b1 (.wrap .u8 (.bin .shr .u64 (.wrap .u64 (D 1)) (I 0)))) (J (b1 (.wrap .u8 (.bin .shr .u64 (.wrap .u64 (D 4)) (I 0)))) (J (b1 (I 4)) (J (b1 (.wrap .u8 (.cell (D 5) (I 0) 0))) (J (b1 (.wrap .u8 (.cell (D 5) (I 1) 0))) (J (b1 (.wrap .u8 (.cell (D 5) (I 2) 0))) (J (b1 (.wrap .u8 (.cell (D 5) (I 3) 0))) O)))))))),(I 1)]) .none) .none) .none) .none) (er 5))) (er 5))) (er 5))) (er 5))) (er 5))) (er 5))) (er 2)) (er 2))
def oP:ST:=(.ask (eq (D 2) (I 0)) (.ask (eq (D 3) (I 0)) (.ask (lt (D 1) (I 0)) (er 5) (.ask (lt (D 1) (I 64)) (.ask (lt (.cell (D 5) (I 0) 0) (I 0)) (er 5) (.ask (lt (.cell (D 5) (I 0) 0) (I 64)) (.ask (lt (.cell (D 5) (I 1) 0) (I 0)) (er 5) (.ask (lt (.cell (D 5) (I 1) 0) (I 64)) (.ask (lt (.cell (D 5) (I 2) 0) (I 0)) (er 5) (.ask (lt (.cell (D 5) (I 2) 0) (I 64)) (.ask (lt (.cell (D 5) (I 3) 0) (I 0)) (er 5) (.ask (lt (.cell (D 5) (I 3) 0) (I 64)) (.ask (lt (.cell (D 5) (I 4) 0) (I 0)) (er 5) (.ask (lt (.cell (D 5) (I 4) 0) (I 64)) (.ask (lt (D 4) (I 0)) (er 5) (.ask (lt (D 4) (I 64)) (.ask (lt (I 0) (ae (D 5))) (.ask (lt (I 1) (ae (D 5))) (.ask (lt (I 2) (ae (D 5))) (.ask (lt (I 3) (ae (D 5))) (.ask (lt (I 4) (ae (D 5))) (.leaf [(I 1),(I 0),(J (b1 (I 28)) (J (b1 (.wrap .u8 (.bin .shr .u64 (.wrap .u64 (D 1)) (I 0)))) (J (b1 (.wrap .u8 (.bin .shr .u64 (.wrap .u64 (D 4)) (I 0)))) (J (b1 (I 5)) (J (b1 (.wrap .u8 (.cell (D 5) (I 0) 0))) (J (b1 (.wrap .u8 (.cell (D 5) (I 1) 0))) (J (b1 (.wrap .u8 (.cell (D 5) (I 2) 0))) (J (b1 (.wrap .u8 (.cell (D 5) (I 3) 0))) (J (b1 (.wrap .u8 (.cell (D 5) (I 4) 0))) O))))))))),(I 1)]) .none) .none) .none) .none) .none) (er 5))) (er 5))) (er 5))) (er 5))) (er 5))) (er 5))) (er 5))) (er 2)) (er 2))
def oO:ST:=(.ask (eq (D 2) (I 0)) (.ask (eq (D 3) (I 0)) (.ask (lt (D 1) (I 0)) (er 5) (.ask (lt (D 1) (I 64)) (.ask (lt (.cell (D 5) (I 0) 0) (I 0)) (er 5) (.ask (lt (.cell (D 5) (I 0) 0) (I 64)) (.ask (lt (.cell (D 5) (I 1) 0) (I 0)) (er 5) (.ask (lt (.cell (D 5) (I 1) 0) (I 64)) (.ask (lt (.cell (D 5) (I 2) 0) (I 0)) (er 5) (.ask (lt (.cell (D 5) (I 2) 0) (I 64)) (.ask (lt (.cell (D 5) (I 3) 0) (I 0)) (er 5) (.ask (lt (.cell (D 5) (I 3) 0) (I 64)) (.ask (lt (.cell (D 5) (I 4) 0) (I 0)) (er 5) (.ask (lt (.cell (D 5) (I 4) 0) (I 64)) (.ask (lt (.cell (D 5) (I 5) 0) (I 0)) (er 5) (.ask (lt (.cell (D 5) (I 5) 0) (I 64)) (.ask (lt (D 4) (I 0)) (er 5) (.ask (lt (D 4) (I 64)) (.ask (lt (I 0) (ae (D 5))) (.ask (lt (I 1) (ae (D 5))) (.ask (lt (I 2) (ae (D 5))) (.ask (lt (I 3) (ae (D 5))) (.ask (lt (I 4) (ae (D 5))) (.ask (lt (I 5) (ae (D 5))) (.leaf [(I 1),(I 0),(J (b1 (I 28)) (J (b1 (.wrap .u8 (.bin .shr .u64 (.wrap .u64 (D 1)) (I 0)))) (J (b1 (.wrap .u8 (.bin .shr .u64 (.wrap .u64 (D 4)) (I 0)))) (J (b1 (I 6)) (J (b1 (.wrap .u8 (.cell (D 5) (I 0) 0))) (J (b1 (.wrap .u8 (.cell (D 5) (I 1) 0))) (J (b1 (.wrap .u8 (.cell (D 5) (I 2) 0))) (J (b1 (.wrap .u8 (.cell (D 5) (I 3) 0))) (J (b1 (.wrap .u8 (.cell (D 5) (I 4) 0))) (J (b1 (.wrap .u8 (.cell (D 5) (I 5) 0))) O)))))))))),(I 1)]) .none) .none) .none) .none) .none) .none) (er 5))) (er 5))) (er 5))) (er 5))) (er 5))) (er 5))) (er 5))) (er 5))) (er 2)) (er 2))
def oN:ST:=(.ask (eq (D 2) (I 0)) (.ask (eq (D 3) (I 0)) (.ask (lt (D 1) (I 0)) (er 5) (.ask (lt (D 1) (I 64)) (.ask (lt (.cell (D 5) (I 0) 0) (I 0)) (er 5) (.ask (lt (.cell (D 5) (I 0) 0) (I 64)) (.ask (lt (.cell (D 5) (I 1) 0) (I 0)) (er 5) (.ask (lt (.cell (D 5) (I 1) 0) (I 64)) (.ask (lt (.cell (D 5) (I 2) 0) (I 0)) (er 5) (.ask (lt (.cell (D 5) (I 2) 0) (I 64)) (.ask (lt (.cell (D 5) (I 3) 0) (I 0)) (er 5) (.ask (lt (.cell (D 5) (I 3) 0) (I 64)) (.ask (lt (.cell (D 5) (I 4) 0) (I 0)) (er 5) (.ask (lt (.cell (D 5) (I 4) 0) (I 64)) (.ask (lt (.cell (D 5) (I 5) 0) (I 0)) (er 5) (.ask (lt (.cell (D 5) (I 5) 0) (I 64)) (.ask (lt (.cell (D 5) (I 6) 0) (I 0)) (er 5) (.ask (lt (.cell (D 5) (I 6) 0) (I 64)) (.ask (lt (D 4) (I 0)) (er 5) (.ask (lt (D 4) (I 64)) (.ask (lt (I 0) (ae (D 5))) (.ask (lt (I 1) (ae (D 5))) (.ask (lt (I 2) (ae (D 5))) (.ask (lt (I 3) (ae (D 5))) (.ask (lt (I 4) (ae (D 5))) (.ask (lt (I 5) (ae (D 5))) (.ask (lt (I 6) (ae (D 5))) (.leaf [(I 1),(I 0),(J (b1 (I 28)) (J (b1 (.wrap .u8 (.bin .shr .u64 (.wrap .u64 (D 1)) (I 0)))) (J (b1 (.wrap .u8 (.bin .shr .u64 (.wrap .u64 (D 4)) (I 0)))) (J (b1 (I 7)) (J (b1 (.wrap .u8 (.cell (D 5) (I 0) 0))) (J (b1 (.wrap .u8 (.cell (D 5) (I 1) 0))) (J (b1 (.wrap .u8 (.cell (D 5) (I 2) 0))) (J (b1 (.wrap .u8 (.cell (D 5) (I 3) 0))) (J (b1 (.wrap .u8 (.cell (D 5) (I 4) 0))) (J (b1 (.wrap .u8 (.cell (D 5) (I 5) 0))) (J (b1 (.wrap .u8 (.cell (D 5) (I 6) 0))) O))))))))))),(I 1)]) .none) .none) .none) .none) .none) .none) .none) (er 5))) (er 5))) (er 5))) (er 5))) (er 5))) (er 5))) (er 5))) (er 5))) (er 5))) (er 2)) (er 2))
def oM:ST:=(.ask (eq (D 2) (I 0)) (.ask (eq (D 3) (I 0)) (.ask (lt (D 1) (I 0)) (er 5) (.ask (lt (D 1) (I 64)) (.ask (lt (.cell (D 5) (I 0) 0) (I 0)) (er 5) (.ask (lt (.cell (D 5) (I 0) 0) (I 64)) (.ask (lt (.cell (D 5) (I 1) 0) (I 0)) (er 5) (.ask (lt (.cell (D 5) (I 1) 0) (I 64)) (.ask (lt (.cell (D 5) (I 2) 0) (I 0)) (er 5) (.ask (lt (.cell (D 5) (I 2) 0) (I 64)) (.ask (lt (.cell (D 5) (I 3) 0) (I 0)) (er 5) (.ask (lt (.cell (D 5) (I 3) 0) (I 64)) (.ask (lt (.cell (D 5) (I 4) 0) (I 0)) (er 5) (.ask (lt (.cell (D 5) (I 4) 0) (I 64)) (.ask (lt (.cell (D 5) (I 5) 0) (I 0)) (er 5) (.ask (lt (.cell (D 5) (I 5) 0) (I 64)) (.ask (lt (.cell (D 5) (I 6) 0) (I 0)) (er 5) (.ask (lt (.cell (D 5) (I 6) 0) (I 64)) (.ask (lt (.cell (D 5) (I 7) 0) (I 0)) (er 5) (.ask (lt (.cell (D 5) (I 7) 0) (I 64)) (.ask (lt (D 4) (I 0)) (er 5) (.ask (lt (D 4) (I 64)) (.ask (lt (I 0) (ae (D 5))) (.ask (lt (I 1) (ae (D 5))) (.ask (lt (I 2) (ae (D 5))) (.ask (lt (I 3) (ae (D 5))) (.ask (lt (I 4) (ae (D 5))) (.ask (lt (I 5) (ae (D 5))) (.ask (lt (I 6) (ae (D 5))) (.ask (lt (I 7) (ae (D 5))) (.leaf [(I 1),(I 0),(J (b1 (I 28)) (J (b1 (.wrap .u8 (.bin .shr .u64 (.wrap .u64 (D 1)) (I 0)))) (J (b1 (.wrap .u8 (.bin .shr .u64 (.wrap .u64 (D 4)) (I 0)))) (J (b1 (I 8)) (J (b1 (.wrap .u8 (.cell (D 5) (I 0) 0))) (J (b1 (.wrap .u8 (.cell (D 5) (I 1) 0))) (J (b1 (.wrap .u8 (.cell (D 5) (I 2) 0))) (J (b1 (.wrap .u8 (.cell (D 5) (I 3) 0))) (J (b1 (.wrap .u8 (.cell (D 5) (I 4) 0))) (J (b1 (.wrap .u8 (.cell (D 5) (I 5) 0))) (J (b1 (.wrap .u8 (.cell (D 5) (I 6) 0))) (J (b1 (.wrap .u8 (.cell (D 5) (I 7) 0))) O)))))))))))),(I 1)]) .none) .none) .none) .none) .none) .none) .none) .none) (er 5))) (er 5))) (er 5))) (er 5))) (er 5))) (er 5))) (er 5))) (er 5))) (er 5))) (er 5))) (er 2)) (er 2))
def o7(x:Sx):List ST→Int→ST→ST
 |[],_,e=>e
 |t::l,n,e=>.ask (eq x (I n)) t (o7 x l (n+1) e)
def put28_o:ST:=(.ask (eq (D 2) (I 0)) (.ask (eq (D 3) (I 0)) (er 3) (er 2)) (er 2))
def put33:ST:=(.ask (lt (D 0) (I 0)) (er 16) (.ask (lt (D 0) (I 33)) .none (er 16)))
theorem ju{v:Val}{x:Sx}:∀{l:List ST} {n:Int} {e:ST} {j:Nat} {t:ST},l[j]? =some t→(@Sx.dat v x).toI=n+j→∀i,(o7 x l n e).val v i=t.val v i
 |[],_,_,j,_,h,_,_=>by cases h
 |u::l,n,e,0,t,h,hx,i=>by have:u=t:=(by simpa using h);subst this;have hb:@Bx.eval v (eq x (I n))=true:=decide_eq_true (by show(@Sx.dat v x).toI=n;omega);simp only[o7,ST.val,hb,cond_true]
 |u::l,n,e,j+1,t,h,hx,i=>by have hb:@Bx.eval v (eq x (I n))=false:=decide_eq_false (by show ¬(@Sx.dat v x).toI=n;omega);simp only[o7,ST.val,hb,cond_false];exact ju (by simpa using h) (by omega) i
theorem gZ{v:Val}{x:Sx}:∀{l:List ST} {n:Int} {e:ST},((@Sx.dat v x).toI<n∨n+l.length≤(@Sx.dat v x).toI)→∀i,(o7 x l n e).val v i=e.val v i
 |[],_,_,_,_=>rfl
 |u::l,n,e,h,i=>by have hl:(u::l).length=l.length+1:=rfl;rw[hl]at h;have hb:@Bx.eval v (eq x (I n))=false:=decide_eq_false (by show ¬(@Sx.dat v x).toI=n;omega);simp only[o7,ST.val,hb,cond_false];exact gZ (by omega) i
def put28:ST:=o7 (ae (D 5)) [oU,oT,oS,oR,oQ,oP,oO,oN,oM] 0 put28_o
def putL:List ST:=[put0,R4,R3,R2,R1,RZ,RY,RX,RW,RV,IE,ID,IC,IB,IA,Iz,Iy,Ix,Iw,Iv,Iu,It,Is,Ir,Iq,Ip,Io,Im,put28,Ii,Ih,Ig,Ie]
def spPut:ST:=o7 (D 0) putL 0 put33
def put28c:List aD:=[[((eq (ae (D 5)) (I 1)),true),((lt (I 0) (ae (D 5))),false)],[((eq (ae (D 5)) (I 2)),true),((lt (I 1) (ae (D 5))),false)],[((eq (ae (D 5)) (I 2)),true),((lt (I 0) (ae (D 5))),false)],[((eq (ae (D 5)) (I 3)),true),((lt (I 2) (ae (D 5))),false)],[((eq (ae (D 5)) (I 3)),true),((lt (I 1) (ae (D 5))),false)],[((eq (ae (D 5)) (I 3)),true),((lt (I 0) (ae (D 5))),false)],[((eq (ae (D 5)) (I 4)),true),((lt (I 3) (ae (D 5))),false)],[((eq (ae (D 5)) (I 4)),true),((lt (I 2) (ae (D 5))),false)],[((eq (ae (D 5)) (I 4)),true),((lt (I 1) (ae (D 5))),false)],[((eq (ae (D 5)) (I 4)),true),((lt (I 0) (ae (D 5))),false)],[((eq (ae (D 5)) (I 5)),true),((lt (I 4) (ae (D 5))),false)],[((eq (ae (D 5)) (I 5)),true),((lt (I 3) (ae (D 5))),false)],[((eq (ae (D 5)) (I 5)),true),((lt (I 2) (ae (D 5))),false)],[((eq (ae (D 5)) (I 5)),true),((lt (I 1) (ae (D 5))),false)],[((eq (ae (D 5)) (I 5)),true),((lt (I 0) (ae (D 5))),false)],[((eq (ae (D 5)) (I 6)),true),((lt (I 5) (ae (D 5))),false)],[((eq (ae (D 5)) (I 6)),true),((lt (I 4) (ae (D 5))),false)],[((eq (ae (D 5)) (I 6)),true),((lt (I 3) (ae (D 5))),false)],[((eq (ae (D 5)) (I 6)),true),((lt (I 2) (ae (D 5))),false)],[((eq (ae (D 5)) (I 6)),true),((lt (I 1) (ae (D 5))),false)],[((eq (ae (D 5)) (I 6)),true),((lt (I 0) (ae (D 5))),false)],[((eq (ae (D 5)) (I 7)),true),((lt (I 6) (ae (D 5))),false)],[((eq (ae (D 5)) (I 7)),true),((lt (I 5) (ae (D 5))),false)],[((eq (ae (D 5)) (I 7)),true),((lt (I 4) (ae (D 5))),false)],[((eq (ae (D 5)) (I 7)),true),((lt (I 3) (ae (D 5))),false)],[((eq (ae (D 5)) (I 7)),true),((lt (I 2) (ae (D 5))),false)],[((eq (ae (D 5)) (I 7)),true),((lt (I 1) (ae (D 5))),false)],[((eq (ae (D 5)) (I 7)),true),((lt (I 0) (ae (D 5))),false)],[((eq (ae (D 5)) (I 8)),true),((lt (I 7) (ae (D 5))),false)],[((eq (ae (D 5)) (I 8)),true),((lt (I 6) (ae (D 5))),false)],[((eq (ae (D 5)) (I 8)),true),((lt (I 5) (ae (D 5))),false)],[((eq (ae (D 5)) (I 8)),true),((lt (I 4) (ae (D 5))),false)],[((eq (ae (D 5)) (I 8)),true),((lt (I 3) (ae (D 5))),false)],[((eq (ae (D 5)) (I 8)),true),((lt (I 2) (ae (D 5))),false)],[((eq (ae (D 5)) (I 8)),true),((lt (I 1) (ae (D 5))),false)],[((eq (ae (D 5)) (I 8)),true),((lt (I 0) (ae (D 5))),false)]]
def Ic:List aD:=[[((lt (D 0) (I 0)),false),((lt (D 0) (I 33)),true)]]
end Go.Tw.NE
namespace Go.Tw.NE
def acN:ST:=(.leaf [(I (-1))])
def acM:ST:=(.leaf [(I (-1))])
def acL:ST:=(.leaf [(I (-1))])
def acK:ST:=(.leaf [(I (-1))])
def acJ:ST:=(.leaf [(I (-1))])
def acI:ST:=(.leaf [(I (-1))])
def acH:ST:=(.leaf [(I (-1))])
def acG:ST:=(.leaf [(I (-1))])
def acF:ST:=(.leaf [(I (-1))])
def acE:ST:=(.leaf [(I (-1))])
def XU:ST:=(.leaf [(I (-1))])
def XT:ST:=(.leaf [(I (-1))])
def XS:ST:=(.leaf [(I (-1))])
def XQ:ST:=(.leaf [(I (-1))])
def XP:ST:=(.leaf [(I (-1))])
def XO:ST:=(.leaf [(I (-1))])
def XN:ST:=(.leaf [(I (-1))])
def XM:ST:=(.leaf [(I (-1))])
def XK:ST:=(.leaf [(I (-1))])
def XJ:ST:=(.leaf [(I (-1))])
def XI:ST:=(.leaf [(I (-1))])
def XH:ST:=(.leaf [(I (-1))])
def XF:ST:=(.leaf [(I (-1))])
def XE:ST:=(.leaf [(I (-1))])
def XD:ST:=(.leaf [(I (-1))])
def XC:ST:=(.leaf [(N (D 4))])
def XB:ST:=(.leaf [(N (D 4))])
def XA:ST:=(.leaf [(N (D 4))])
def Xz:ST:=(.leaf [(I (-1))])
def Xy:ST:=(.leaf [(I (-1))])
def Xx:ST:=(.leaf [(I (-1))])
def Xw:ST:=(.leaf [(I (-1))])
def Xv:ST:=(.leaf [(I (-1))])
def Pr:ST:=(.ask (lt (D 0) (I 0)) (.leaf [(I (-1))]) (.ask (lt (D 0) (I 33)) .none (.leaf [(I (-1))])))
def tgtL:List ST:=[acN,acM,acL,acK,acJ,acI,acH,acG,acF,acE,XU,XT,XS,XQ,XP,XO,XN,XM,XK,XJ,XI,XH,XF,XE,XD,XC,XB,XA,Xz,Xy,Xx,Xw,Xv]
def spTgt:ST:=o7 (D 0) tgtL 0 Pr
def ln0:ST:=(.leaf [(I 1),(N (ae (.ap 63 (.pr 12 (D 0) (.pr 12 (D 1) (.pr 12 (D 2) (.pr 12 (D 3) (.pr 12 (D 4) (.pr 12 (D 5) (.pr 14 (I 0) (I 0)))))))) (I 0) (I 0))))])
def adk:bq:=[((N (D 0)),(N (D 0))),((N (D 1)),(N (D 1))),((N (D 2)),(N (D 2))),((N (D 3)),(N (D 3))),((N (D 4)),(N (D 4))),((D 5),(D 5))]
def adj:bq:=[((N (D 0)),(N (ae (.ap 63 (.pr 12 (D 0) (.pr 12 (D 1) (.pr 12 (D 2) (.pr 12 (D 3) (.pr 12 (D 4) (.pr 12 (D 5) (.pr 14 (I 0) (I 0)))))))) (I 0) (I 0)))))]
def jn0:ST:=(.leaf [(I 0),(D 0)])
def jn1:ST:=(.leaf [(I 0),(D 0),O,(I 0)])
def jn2:ST:=(.leaf [(I 0),(D 1),(D 2),(D 0),(I 0)])
def jn4:ST:=(.ask (lt (D 3) (ae (D 2))) (.ask (eq (.ap 65 (.pr 12 (.cell (D 2) (D 3) 0) (.pr 12 (.cell (D 2) (D 3) 1) (.pr 12 (.cell (D 2) (D 3) 2) (.pr 12 (.cell (D 2) (D 3) 3) (.pr 12 (.cell (D 2) (D 3) 4) (.pr 12 (.cell (D 2) (D 3) 5) (.pr 14 (I 0) (I 0)))))))) (I 0) (I 0)) (I 0)) (.ask (lt (ae (D 0)) (I 1000000001)) (.ask (lt (ae (.ap 63 (.pr 12 (.cell (D 2) (D 3) 0) (.pr 12 (.cell (D 2) (D 3) 1) (.pr 12 (.cell (D 2) (D 3) 2) (.pr 12 (.cell (D 2) (D 3) 3) (.pr 12 (.cell (D 2) (D 3) 4) (.pr 12 (.cell (D 2) (D 3) 5) (.pr 14 (I 0) (I 0)))))))) (I 0) (I 0))) (I 1000000001)) (.leaf [(I 0),(J (D 0) (.ap 63 (.pr 12 (.cell (D 2) (D 3) 0) (.pr 12 (.cell (D 2) (D 3) 1) (.pr 12 (.cell (D 2) (D 3) 2) (.pr 12 (.cell (D 2) (D 3) 3) (.pr 12 (.cell (D 2) (D 3) 4) (.pr 12 (.cell (D 2) (D 3) 5) (.pr 14 (I 0) (I 0)))))))) (I 0) (I 0))),(.pr 28 (D 1) (.pr 29 (.ap 63 (.pr 12 (.cell (D 2) (D 3) 0) (.pr 12 (.cell (D 2) (D 3) 1) (.pr 12 (.cell (D 2) (D 3) 2) (.pr 12 (.cell (D 2) (D 3) 3) (.pr 12 (.cell (D 2) (D 3) 4) (.pr 12 (.cell (D 2) (D 3) 5) (.pr 14 (I 0) (I 0)))))))) (I 0) (I 0)) (I 0))),(D 2),(N (.bin .add .i64 (D 3) (I 1)))]) .none) .none) (.leaf [(I 1),O,(I 0),(N (.ap 65 (.pr 12 (.cell (D 2) (D 3) 0) (.pr 12 (.cell (D 2) (D 3) 1) (.pr 12 (.cell (D 2) (D 3) 2) (.pr 12 (.cell (D 2) (D 3) 3) (.pr 12 (.cell (D 2) (D 3) 4) (.pr 12 (.cell (D 2) (D 3) 5) (.pr 14 (I 0) (I 0)))))))) (I 0) (I 0))),(I 0)])) (.leaf [(I 2),(D 0),(D 1),(I 0),(I 0)]))
def Kb:List aD:=[[((lt (ae (.ap 63 (.pr 12 (.cell (D 2) (D 3) 0) (.pr 12 (.cell (D 2) (D 3) 1) (.pr 12 (.cell (D 2) (D 3) 2) (.pr 12 (.cell (D 2) (D 3) 3) (.pr 12 (.cell (D 2) (D 3) 4) (.pr 12 (.cell (D 2) (D 3) 5) (.pr 14 (I 0) (I 0)))))))) (I 0) (I 0))) (I 1000000001)),false)],[((lt (ae (D 0)) (I 1000000001)),false)]]
def zB:aD:=[((lt (D 3) (I 0)),false)]
def jn6:ST:=(.ask (lt (ae (D 0)) (I 4097)) (.leaf [(I 1),(D 0),(D 1),(I 0)]) (.leaf [(I 1),O,(I 0),(I 3)]))
def adp:bq:=[((D 0),(D 0))]
def ZQ:bq:=[((D 1),(.ap 68 (D 0) (I 0) (I 0))),((N (D 2)),(N (.ap 69 (D 0) (I 0) (I 0)))),((D 0),(.ap 67 (D 0) (I 0) (I 0))),((D 1),(.ap 68 (D 0) (I 0) (I 0)))]
def nu0:ST:=(.leaf [(I 0),(D 0)])
def nu1:ST:=(.leaf [(I 0),(D 0),O,(I 0)])
def nu2:ST:=(.leaf [(I 0),(D 1),(N (D 2)),(D 0),(I 0)])
def nu4:ST:=(.ask (lt (D 3) (ae (D 2))) (.leaf [(I 0),(.pr 33 (D 0) (.pr 12 (D 1) (.pr 12 (D 3) (.pr 14 (I 0) (I 0))))),(N (.bin .add .i64 (D 1) (ae (.ap 63 (.pr 12 (.cell (D 2) (D 3) 0) (.pr 12 (.cell (D 2) (D 3) 1) (.pr 12 (.cell (D 2) (D 3) 2) (.pr 12 (.cell (D 2) (D 3) 3) (.pr 12 (.cell (D 2) (D 3) 4) (.pr 12 (.cell (D 2) (D 3) 5) (.pr 14 (I 0) (I 0)))))))) (I 0) (I 0))))),(D 2),(N (.bin .add .i64 (D 3) (I 1)))]) (.leaf [(I 2),(D 0),(I 0),(I 0),(I 0)]))
def Ni:aD:=[((lt (D 3) (I 0)),false)]
def nu6:ST:=(.leaf [(I 1),(D 0)])
def adb:bq:=[((D 0),(D 0))]
def Y5:bq:=[((D 0),(.ap 70 (D 0) (I 0) (I 0)))]
def la(F:Fn):nE:=(aB (jn0.tr F 1) (aB (jn1.tr F 3) (aB (aB (jn2.tr F 4) (gE 0 (gO (jn4.tr F 4) (fun s=>(ah s 2).toL.length)))) (jn6.tr F 3))))
def wJ(F:Fn):nE:=(aB (nu0.tr F 1) (aB (nu1.tr F 3) (aB (aB (nu2.tr F 4) (gE 0 (gO (nu4.tr F 4) (fun s=>(ah s 2).toL.length)))) (nu6.tr F 1))))
end Go.Tw.NE
namespace Go.Tw.NE
def fc0:ST:=(.leaf [(I 0),(D 0)])
def fc1:ST:=(.ask (eq (.ap 69 (D 0) (I 0) (I 0)) (I 0)) (.leaf [(I 0),(D 0)]) (.leaf [(I 1),(N (.ap 69 (D 0) (I 0) (I 0)))]))
def Un:aD:=[((lt (ae (D 0)) (I 201)),true)]
def fc2:ST:=(.ask (eq (ae (D 0)) (I 0)) (.leaf [(I 1),(I 10)]) (.leaf [(I 0),(D 0)]))
def fc3:ST:=(.leaf [(I 0),(D 0),(.ap 70 (D 0) (I 0) (I 0))])
def aac:aD:=[((lt (ae (D 0)) (I 201)),true)]
def fc4:ST:=(.leaf [(I 0),(D 0),(D 1),(I 0)])
def fc6:ST:=(.ask (lt (D 2) (ae (D 0))) (.ask (lt (.ap 66 (.pr 12 (.cell (D 0) (D 2) 0) (.pr 12 (.cell (D 0) (D 2) 1) (.pr 12 (.cell (D 0) (D 2) 2) (.pr 12 (.cell (D 0) (D 2) 3) (.pr 12 (.cell (D 0) (D 2) 4) (.pr 12 (.cell (D 0) (D 2) 5) (.pr 14 (I 0) (I 0)))))))) (I 0) (I 0)) (I 0)) (.leaf [(I 0),(D 0),(D 1),(N (.bin .add .i64 (D 2) (I 1)))]) (.ask (eq (.pr 31 (D 1) (.ap 66 (.pr 12 (.cell (D 0) (D 2) 0) (.pr 12 (.cell (D 0) (D 2) 1) (.pr 12 (.cell (D 0) (D 2) 2) (.pr 12 (.cell (D 0) (D 2) 3) (.pr 12 (.cell (D 0) (D 2) 4) (.pr 12 (.cell (D 0) (D 2) 5) (.pr 14 (I 0) (I 0)))))))) (I 0) (I 0))) (I 0)) (.leaf [(I 1),(I 13),(I 0),(I 0)]) (.leaf [(I 0),(D 0),(D 1),(N (.bin .add .i64 (D 2) (I 1)))]))) (.leaf [(I 2),(D 0),(I 0),(I 0)]))
def KE:aD:=[((lt (D 2) (I 0)),false)]
def fc8:ST:=(.ask (eq (.cell (D 0) (.bin .sub .i64 (ae (D 0)) (I 1)) 0) (I 25)) (.leaf [(I 1),(I 0)]) (.ask (eq (.cell (D 0) (.bin .sub .i64 (ae (D 0)) (I 1)) 0) (I 29)) (.leaf [(I 1),(I 0)]) (.ask (eq (.cell (D 0) (.bin .sub .i64 (ae (D 0)) (I 1)) 0) (I 32)) (.leaf [(I 1),(I 0)]) (.ask (lt (.cell (D 0) (.bin .sub .i64 (ae (D 0)) (I 1)) 0) (I 0)) (.leaf [(I 1),(I 0)]) (.ask (lt (.cell (D 0) (.bin .sub .i64 (ae (D 0)) (I 1)) 0) (I 33)) (.leaf [(I 1),(I 10)]) (.leaf [(I 1),(I 0)]))))))
def Uh:aD:=[((lt (.bin .sub .i64 (ae (D 0)) (I 1)) (I 0)),false),((lt (.bin .sub .i64 (ae (D 0)) (I 1)) (ae (D 0))),true)]
def adt:bq:=[((D 0),(D 0))]
def Z7:bq:=[((N (D 0)),(N (.ap 71 (D 0) (I 0) (I 0))))]
def en0:ST:=(.leaf [(I 0),(N (D 3)),(D 0),(D 1),(D 2)])
def en1:ST:=(.leaf [(I 0),(N (D 0)),(D 1),(D 2),(D 3)])
def en2:ST:=(.leaf [(I 0),(N (D 0)),(D 1),(D 2),(D 3),(I 0)])
def en4:ST:=(.ask (lt (D 4) (ae (D 2))) (.ask (lt (D 4) (ae (D 3))) (.ask (eq (.cell (D 2) (D 4) 0) (D 0)) (.leaf [(I 1),(N (.cell (D 3) (D 4) 0)),(I 0),(I 0),(I 0),(I 0)]) (.leaf [(I 0),(N (D 0)),(D 1),(D 2),(D 3),(N (.bin .add .i64 (D 4) (I 1)))])) (.leaf [(I 2),(I 0),(I 0),(I 0),(I 0),(I 0)])) (.leaf [(I 2),(I 0),(I 0),(I 0),(I 0),(I 0)]))
def Oh:aD:=[((lt (D 4) (I 0)),false)]
def en6:ST:=(.leaf [(I 1),(I 0),(I 6)])
def aah:bq:=[((D 0),(D 0)),((D 1),(D 1)),((D 2),(D 2)),((N (D 3)),(N (D 3)))]
def adQ:bq:=[((N (D 0)),(N (.ap 81 (.pr 12 (D 0) (.pr 12 (D 1) (.pr 12 (D 2) (.pr 12 (D 3) (.pr 14 (I 0) (I 0)))))) (I 0) (I 0)))),((N (D 1)),(N (.ap 82 (.pr 12 (D 0) (.pr 12 (D 1) (.pr 12 (D 2) (.pr 12 (D 3) (.pr 14 (I 0) (I 0)))))) (I 0) (I 0))))]
def lo0:ST:=(.leaf [(I 0),(N (D 0)),(N (D 1)),(N (D 2)),(D 3)])
def lo1:ST:=(.leaf [(I 0),(N (D 0)),(N (D 1)),(N (D 2)),(D 3),(I 0)])
def lo3:ST:=(.ask (lt (D 4) (ae (D 3))) (.ask (lt (ae (.cell (D 3) (D 4) 5)) (I 21)) (.leaf [(I 0),(N (D 0)),(N (D 1)),(N (D 2)),(D 3),(N (.bin .add .i64 (D 4) (I 1)))]) (.leaf [(I 1),(I 1),(I 0),(I 0),(I 0),(I 0)])) (.leaf [(I 2),(N (D 0)),(N (D 1)),(N (D 2)),(D 3),(I 0)]))
def E8:aD:=[((lt (D 4) (I 0)),false)]
def lo5:ST:=(.ask (lt (ae (D 3)) (I 201)) (.leaf [(I 1),(I 0)]) (.leaf [(I 1),(I 1)]))
def ZB:bq:=[((N (D 0)),(N (D 0))),((N (D 1)),(N (D 1))),((N (D 2)),(N (D 2))),((D 3),(D 3))]
def adi:bq:=[((.pr 21 (D 0) (I 0)),(.pr 21 (.ap 80 (.pr 12 (D 0) (.pr 12 (D 1) (.pr 12 (D 2) (.pr 12 (D 3) (.pr 14 (I 0) (I 0)))))) (I 0) (I 0)) (I 0)))]
def ux(F:Fn):nE:=(aB (fc0.tr F 1) (aB (fc1.tr F 1) (aB (fc2.tr F 1) (aB (fc3.tr F 2) (aB (aB (fc4.tr F 3) (gE 0 (gO (fc6.tr F 3) (fun s=>(ah s 0).toL.length)))) (fc8.tr F 1))))))
def kP(F:Fn):nE:=(aB (en0.tr F 4) (aB (en1.tr F 4) (aB (aB (en2.tr F 5) (gE 0 (gO (en4.tr F 5) (fun s=>(ah s 2).toL.length)))) (en6.tr F 2))))
def sd(F:Fn):nE:=(aB (lo0.tr F 4) (aB (aB (lo1.tr F 5) (gE 0 (gO (lo3.tr F 5) (fun s=>(ah s 3).toL.length)))) (lo5.tr F 1)))
end Go.Tw.NE
namespace Go.Tw.NE
def ir0:ST:=(.leaf [(I 0),(N (D 0)),(N (D 1)),(N (D 2)),(D 3),O,(I 0),(I 0),(I 0)])
def ir2:ST:=(.ask (lt (D 7) (ae (D 3))) (.ask (eq (.ap 8 (.pr 12 (.cell (D 3) (D 7) 0) (.pr 12 (.cell (D 3) (D 7) 1) (W (.cell (D 3) (D 7) 2) (.cell (D 3) (D 7) 3) (.cell (D 3) (D 7) 4) (.cell (D 3) (D 7) 5) (D 1) (D 2) (D 6)))) (I 0) (I 0)) (I 0)) (.ask (lt (ae (D 4)) (I 1000000001)) (.ask (lt (ae (J (D 4) (J (W (I 1) (.bin .add .i64 (D 6) (I 1)) (I 0) (I 0) (I 0) (I 0) (I 0)) O))) (I 1000000001)) (.ask (lt (ae (.ap 9 (.pr 12 (.cell (D 3) (D 7) 0) (.pr 12 (.cell (D 3) (D 7) 1) (W (.cell (D 3) (D 7) 2) (.cell (D 3) (D 7) 3) (.cell (D 3) (D 7) 4) (.cell (D 3) (D 7) 5) (D 1) (D 2) (D 6)))) (I 0) (I 0))) (I 1000000001)) (.leaf [(I 0),(N (D 0)),(N (D 1)),(N (D 2)),(D 3),(J (J (D 4) (J (W (I 1) (.bin .add .i64 (D 6) (I 1)) (I 0) (I 0) (I 0) (I 0) (I 0)) O)) (.ap 9 (.pr 12 (.cell (D 3) (D 7) 0) (.pr 12 (.cell (D 3) (D 7) 1) (W (.cell (D 3) (D 7) 2) (.cell (D 3) (D 7) 3) (.cell (D 3) (D 7) 4) (.cell (D 3) (D 7) 5) (D 1) (D 2) (D 6)))) (I 0) (I 0))),(I 1),(N (.bin .add .i64 (D 6) (ae (.ap 63 (.pr 12 (.cell (D 3) (D 7) 0) (.pr 12 (.cell (D 3) (D 7) 1) (.pr 12 (.cell (D 3) (D 7) 2) (.pr 12 (.cell (D 3) (D 7) 3) (.pr 12 (.cell (D 3) (D 7) 4) (.pr 12 (.cell (D 3) (D 7) 5) (.pr 14 (I 0) (I 0)))))))) (I 0) (I 0))))),(N (.bin .add .i64 (D 7) (I 1)))]) .none) .none) .none) (.leaf [(I 1),(N (D 0)),(N (D 1)),(N (D 2)),(D 3),(N (.ap 8 (.pr 12 (.cell (D 3) (D 7) 0) (.pr 12 (.cell (D 3) (D 7) 1) (W (.cell (D 3) (D 7) 2) (.cell (D 3) (D 7) 3) (.cell (D 3) (D 7) 4) (.cell (D 3) (D 7) 5) (D 1) (D 2) (D 6)))) (I 0) (I 0))),(D 4),(D 5),(N (D 6))])) (.leaf [(I 2),(N (D 0)),(N (D 1)),(N (D 2)),(D 3),(D 4),(D 5),(N (D 6)),(I 0)]))
def xR:List aD:=[[((lt (ae (.ap 9 (.pr 12 (.cell (D 3) (D 7) 0) (.pr 12 (.cell (D 3) (D 7) 1) (W (.cell (D 3) (D 7) 2) (.cell (D 3) (D 7) 3) (.cell (D 3) (D 7) 4) (.cell (D 3) (D 7) 5) (D 1) (D 2) (D 6)))) (I 0) (I 0))) (I 1000000001)),false)],[((lt (ae (J (D 4) (J (W (I 1) (.bin .add .i64 (D 6) (I 1)) (I 0) (I 0) (I 0) (I 0) (I 0)) O))) (I 1000000001)),false)],[((lt (ae (D 4)) (I 1000000001)),false)]]
def NV:aD:=[((lt (D 7) (I 0)),false)]
def li0:ST:=(.leaf [(I 0),(N (D 0)),(N (D 1)),(N (D 2)),(D 3)])
def li1:ST:=(.ask (eq (.ap 71 (D 3) (I 0) (I 0)) (I 0)) (.leaf [(I 0),(N (D 0)),(N (D 1)),(N (D 2)),(D 3)]) (.leaf [(I 1),(N (.ap 71 (D 3) (I 0) (I 0))),(I 0),(I 0),(I 0)]))
def ZK:aD:=[((lt (ae (D 3)) (I 201)),true)]
def li2:ST:=(.leaf [(I 0),(N (D 0)),(N (D 1)),(N (D 2)),(D 3)])
def li3:ST:=(.leaf [(I 0),(N (D 0)),(N (D 1)),(N (D 2)),(D 3)])
def li4:ST:=(.leaf [(I 0),(N (D 0)),(N (D 1)),(N (D 2)),(D 3)])
def cm0:ST:=(.leaf [(I 0),(N (D 0)),(N (D 1)),(N (D 2)),(D 3),O,(I 0),O,(I 0),O,(I 0)])
def cm1:ST:=(.leaf [(I 0),(D 4),(D 5),(D 6),(D 7),(D 8),(D 9),(.ap 83 (.pr 12 (D 0) (.pr 12 (D 1) (.pr 12 (D 2) (.pr 12 (D 3) (.pr 14 (I 0) (I 0)))))) (I 0) (I 0)),(.ap 84 (.pr 12 (D 0) (.pr 12 (D 1) (.pr 12 (D 2) (.pr 12 (D 3) (.pr 14 (I 0) (I 0)))))) (I 0) (I 0)),(N (.ap 85 (.pr 12 (D 0) (.pr 12 (D 1) (.pr 12 (D 2) (.pr 12 (D 3) (.pr 14 (I 0) (I 0)))))) (I 0) (I 0)))])
def Vx:aD:=[((lt (ae (D 3)) (I 201)),true)]
def cm2:ST:=(.ask (eq (D 8) (I 0)) (.leaf [(I 0),(D 0),(D 1),(D 2),(D 3),(D 4),(D 5),(D 6),(D 7)]) (.leaf [(I 1),O,(I 0),O,(I 0),O,(I 0),(N (D 8)),(I 0)]))
def cm3:ST:=(.leaf [(I 0),(D 0),(D 1),(D 2),(D 3),(D 4),(D 5),(D 6),(D 7),(N (.ap 61 (D 6) (I 0) (I 0))),(.ap 59 (D 6) (I 0) (I 0)),(.ap 60 (D 6) (I 0) (I 0))])
def cm4:ST:=(.ask (eq (D 8) (I 0)) (.leaf [(I 0),(D 0),(D 1),(D 2),(D 3),(D 4),(D 5),(D 6),(D 7),(D 9),(D 10)]) (.leaf [(I 1),O,(I 0),O,(I 0),O,(I 0),(N (D 8)),(I 0),(I 0),(I 0)]))
def cm5:ST:=(.leaf [(I 0),(D 0),(D 1),(D 2),(D 3),(D 4),(D 5),(D 6),(D 7),(N (.ap 56 (D 6) (I 0) (I 0))),(D 8),(D 9),(.ap 57 (D 6) (I 0) (I 0)),(.ap 58 (D 6) (I 0) (I 0))])
def cm6:ST:=(.ask (eq (D 8) (I 0)) (.leaf [(I 0),(D 0),(D 1),(D 2),(D 3),(D 4),(D 5),(D 6),(D 7),(D 9),(D 10),(D 11),(D 12)]) (.leaf [(I 1),O,(I 0),O,(I 0),O,(I 0),(N (D 8)),(I 0),(I 0),(I 0),(I 0),(I 0)]))
def cm7:ST:=(.leaf [(I 0),(D 0),(D 1),(D 2),(D 3),(D 4),(D 5),(D 6),(D 7),(D 10),(D 11),(D 8),(D 9),O,(I 0),O,(I 0)])
def cm8:ST:=(.leaf [(I 0),(D 0),(D 1),(D 2),(D 3),(D 4),(D 5),(D 8),(D 9),(D 10),(D 11),(D 12),(D 13),(D 14),(D 15),(D 6),(D 7),(I 0)])
def cm10:ST:=(.ask (lt (D 16) (ae (D 14))) (.ask (eq (.cell (D 14) (D 16) 0) (I 1)) (.ask (lt (ae (D 10)) (I 1000000001)) (.ask (lt (D 16) (ae (D 6))) (.ask (lt (ae (D 12)) (I 1000000001)) (.leaf [(I 0),(D 0),(D 1),(D 2),(D 3),(D 4),(D 5),(D 6),(D 7),(D 8),(D 9),(J (D 10) (J (.pr 12 (.bin .sub .i64 (.cell (D 14) (D 16) 1) (I 1)) (.pr 14 (I 0) (I 0))) O)),(I 1),(J (D 12) (J (.pr 12 (.cell (D 6) (D 16) 0) (.pr 14 (I 0) (I 0))) O)),(I 1),(D 14),(D 15),(N (.bin .add .i64 (D 16) (I 1)))]) .none) .none) .none) (.leaf [(I 0),(D 0),(D 1),(D 2),(D 3),(D 4),(D 5),(D 6),(D 7),(D 8),(D 9),(D 10),(D 11),(D 12),(D 13),(D 14),(D 15),(N (.bin .add .i64 (D 16) (I 1)))])) (.leaf [(I 2),(D 0),(D 1),(D 2),(D 3),(D 4),(D 5),(D 8),(D 9),(D 10),(D 11),(D 12),(D 13),(I 0),(I 0),(I 0),(I 0),(I 0)]))
def Aa:List aD:=[[((lt (ae (D 12)) (I 1000000001)),false)],[((lt (D 16) (ae (D 14))),true),((lt (D 16) (ae (D 6))),false)],[((lt (ae (D 10)) (I 1000000001)),false)]]
def DX:aD:=[((lt (D 16) (I 0)),false)]
def cm12:ST:=(.leaf [(I 1),(D 6),(D 7),(D 8),(D 9),(D 10),(D 11),(I 0)])
def iz(F:Fn):nE:=(aB (ir0.tr F 8) (gE 0 (gO (ir2.tr F 8) (fun s=>(ah s 3).toL.length))))
def jZ(F:Fn):nE:=fun s=>bif ((F 71 (ah s 3) (.int 0) (.int 0)).toI==0)then(bif Nat.beq (iz F s).1 1 then(1,[.lst [],.int 0,ah (iz F s).2 4])else(1,[ah (iz F s).2 4,ah (iz F s).2 5,.int 0]))
 else(1,[.lst [],.int 0,F 71 (ah s 3) (.int 0) (.int 0)])
def di(F:Fn):nE:=(aB (cm0.tr F 10) (aB (cm1.tr F 9) (aB (cm2.tr F 8) (aB (cm3.tr F 11) (aB (cm4.tr F 10) (aB (cm5.tr F 13) (aB (cm6.tr F 12) (aB (cm7.tr F 16) (aB (aB (cm8.tr F 17) (gE 0 (gO (cm10.tr F 17) (fun s=>(ah s 14).toL.length)))) (cm12.tr F 7))))))))))
end Go.Tw.NE
namespace Go.Tw.NE
def jH(F:Fn)(k:Nat)(sp:ST)(i:Nat):Fn:=fun n a b c=>if n=k then sp.val (VL F a.one) i else F n a b c
def F53:Fn:=jH Fb 52 stC 0
def F54:Fn:=jH F53 53 stE 0
def F55:Fn:=jH F54 54 stE 1
def WH:Fn:=jH F55 55 stF 0
def ld(F:Fn):List Dat→Nat×List Dat:=aB (sC0.tr F 1) (aB (sC1.tr F 1) (aB (sC2.tr F 2) (aB (aB (sC3.tr F 3) (sC4.lp F 3 fun s=>(ah s 0).toL.length)) (aB (aB (sC5.tr F 3) (sC6.lp F 3 fun s=>(ah s 0).toL.length)) (sC7.tr F 1)))))
def rQ:Fn:=fun n a b c=>match n with
 |56=>.int (ah (ld WH [a]).2 0).toI
 |n=>WH n a b c
def Pk:Fn:=fun n a b c=>match n with
 |57=>ah (oA rQ [a]).2 0
 |58=>ah (oA rQ [a]).2 1
 |59=>ah (lg rQ [a]).2 0
 |60=>ah (lg rQ [a]).2 1
 |61=>.int (ah (lg rQ [a]).2 2).toI
 |n=>rQ n a b c
def Lx:Fn:=jH Pk 63 spPut 2
def Ge:Fn:=jH Lx 64 spPut 0
def F65:Fn:=jH Ge 65 spPut 1
def wB:Fn:=jH F65 66 spTgt 0
def pQ:Fn:=fun n a b c=>match n with
 |67=>ah (la wB [a]).2 0
 |68=>ah (la wB [a]).2 1
 |69=>.int (ah (la wB [a]).2 2).toI
 |70=>ah (wJ wB [a]).2 0
 |n=>wB n a b c
def F5:Fn:=fun n a b c=>match n with
 |71=>.int (ah (ux pQ [a]).2 0).toI
 |80=>.int (ah (sd pQ a.one).2 0).toI
 |81=>.int (ah (kP pQ a.one).2 0).toI
 |82=>.int (ah (kP pQ a.one).2 1).toI
 |n=>pQ n a b c
def rP:Fn:=fun n a b c=>match n with
 |83=>ah (jZ F5 a.one).2 0
 |84=>ah (jZ F5 a.one).2 1
 |85=>.int (ah (jZ F5 a.one).2 2).toI
 |n=>F5 n a b c
def F93:Fn:=fun n a b c=>match n with
 |86=>ah (di rP a.one).2 0
 |87=>ah (di rP a.one).2 1
 |88=>ah (di rP a.one).2 2
 |89=>ah (di rP a.one).2 3
 |90=>ah (di rP a.one).2 4
 |91=>ah (di rP a.one).2 5
 |92=>.int (ah (di rP a.one).2 6).toI
 |n=>rP n a b c
def F0:Fn:=F93
theorem AB{n:Nat}(h:n<86):F0 n=rP n:=by funext a b c;unfold F0 F93;split<;>first|omega|rfl
theorem Wf{n:Nat}(h:n<83):rP n=F5 n:=by funext a b c;unfold rP;split<;>first|omega|rfl
theorem Q5{n:Nat}(h:n<83):F0 n=F5 n:=(AB (by omega)).trans (Wf h)
theorem Wg{n:Nat}(h:n<71):F5 n=pQ n:=by funext a b c;unfold F5;split<;>first|omega|rfl
theorem wC{n:Nat}(h:n<71):F0 n=pQ n:=(Q5 (by omega)).trans (Wg h)
theorem abh{n:Nat}(h:n<12):Fb n=Go.Proofs.YtlagbijmfchkeaaGreat.Em.F0 n:=by funext a b c;unfold Fb;split<;>first|omega|rfl
theorem fA{F:Fn}{k:Nat}{sp:ST}{i n:Nat}(h:n<k):jH F k sp i n=F n:=by funext a b c;exact if_neg (by omega)
theorem Wh{n:Nat}(h:n<67):pQ n=wB n:=by funext a b c;unfold pQ;split<;>first|omega|rfl
theorem LM{n:Nat}(h:n<67):F0 n=wB n:=(wC (by omega)).trans (Wh h)
theorem wD{n:Nat}(h:n<66):F0 n=F65 n:=(LM (by omega)).trans (fA h)
theorem ur{n:Nat}(h:n<63):F0 n=Pk n:=(wD (by omega)).trans ((fA (by omega)).trans ((fA (by omega)).trans (fA h)))
theorem Wi{n:Nat}(h:n<57):Pk n=rQ n:=by funext a b c;unfold Pk;split<;>first|omega|rfl
theorem Ea{n:Nat}(h:n<57):F0 n=rQ n:=(ur (by omega)).trans (Wi h)
theorem Wj{n:Nat}(h:n<56):rQ n=WH n:=by funext a b c;unfold rQ;split;{omega};rfl
theorem LW{n:Nat}(h:n<56):F0 n=WH n:=(Ea (by omega)).trans (Wj h)
theorem GK:ld F0=ld WH:=by
 have h:∀f,f<56→F0 f=WH f:=fun f hf=>LW hf;unfold ld;rw[ST.tr_congr h (sp:=sC0) (nv:=9) (by kernel_rfl),ST.tr_congr h (sp:=sC1) (nv:=9) (by kernel_rfl),ST.tr_congr h (sp:=sC2) (nv:=9) (by kernel_rfl),ST.tr_congr h (sp:=sC3) (nv:=9) (by kernel_rfl),ST.lp_congr h (sp:=sC4) (nv:=9) (by kernel_rfl),
  ST.tr_congr h (sp:=sC5) (nv:=9) (by kernel_rfl),ST.lp_congr h (sp:=sC6) (nv:=9) (by kernel_rfl),ST.tr_congr h (sp:=sC7) (nv:=9) (by kernel_rfl)]
theorem mV{F:Fn}{k:Nat}{sp:ST}{i n:Nat}(h:n<k):jH F k sp i n=F n:=by funext a b c;exact if_neg (by omega)
theorem rI{F:Fn}{k:Nat}{sp:ST}{i:Nat}{a b c:Dat}:jH F k sp i k a b c=sp.val (VL F a.one) i:=if_pos rfl
theorem D9{a b c:Dat}:F0 56 a b c=.int (ah (ld F0 [a]).2 0).toI:=by rw[GK,Ea (by omega)];rfl
theorem LY{n:Nat}(h:n<55):F0 n=F55 n:=(LW (by omega)).trans (mV h)
theorem LZ{n:Nat}(h:n<54):F0 n=F54 n:=(LY (by omega)).trans (mV h)
theorem L0{n:Nat}(h:n<53):F0 n=F53 n:=(LZ (by omega)).trans (mV h)
theorem LD{n:Nat}(h:n<52):F0 n=Fb n:=(L0 (by omega)).trans (mV h)
theorem Lz{n:Nat}(h:n<12):F0 n=Go.Proofs.YtlagbijmfchkeaaGreat.Em.F0 n:=(LD (by omega)).trans (abh h)
theorem IL{v:Val}:∀l:List Sx,(@Sx.dat v (pk l)).one=l.map (@Sx.dat v)
 |[]=>rfl
 |x::l=>by show(@Sx.dat v x)::(@Sx.dat v (pk l)).one=_;rw[IL l];rfl
theorem qK{v:Val}{F:Fn}{k nv:Nat}{sp:ST}{i:Nat}(hF:v.fn=F0)(hk:∀f,f<k→F0 f=F f)(h:∀a b c,F0 k a b c=sp.val (VL F a.one) i)(ho:sp.okB nv k=true){y z:Sx}:
 @Sx.dat v (.ap k (pk ((List.range nv).map D)) y z)=sp.val v i:=by
 show v.fn k _ _ _=_;rw[hF,h,IL];refine ST.okB_val (nv:=nv) (nf:=k) (fun j hj=> ?_) (fun f hf=> ?_) i ho
 ·show(match((List.range nv).map D |>.map (@Sx.dat v))[j]? with
   |some d=>d
   |none=>Dat.int 0)=v.dat j
  rw[List.map_map,List.getElem?_map,List.getElem?_range hj];rfl
 rw[hF,hk f hf];rfl
theorem Yj{v:Val}(hF:v.fn=F0){y z:Sx}:@Sx.dat v (.ap 52 (pk ((List.range 5).map D)) y z)=stC.val v 0:=
 qK hF (fun f hf=>LD hf) (fun a b c=>by rw[L0 (by omega)];exact rI) (by kernel_rfl)
theorem Yi{v:Val}(hF:v.fn=F0){y z:Sx}:@Sx.dat v (.ap 53 (pk ((List.range 5).map D)) y z)=stE.val v 0:=
 qK hF (fun f hf=>L0 hf) (fun a b c=>by rw[LZ (by omega)];exact rI) (by kernel_rfl)
theorem Yh{v:Val}(hF:v.fn=F0){y z:Sx}:@Sx.dat v (.ap 54 (pk ((List.range 5).map D)) y z)=stE.val v 1:=
 qK hF (fun f hf=>LZ hf) (fun a b c=>by rw[LY (by omega)];exact rI) (by kernel_rfl)
theorem Yg{v:Val}(hF:v.fn=F0){y z:Sx}:@Sx.dat v (.ap 55 (pk ((List.range 7).map D)) y z)=stF.val v 0:=
 qK hF (fun f hf=>LY hf) (fun a b c=>by rw[LW (by omega)];exact rI) (by kernel_rfl)
def Lc:Sx→Bool
 | .lit (.ofNat n)=>Nat.ble n 1
 | .pr 20 _ _=>true
 |_=>false
def ST.bools:ST→Bool
 | .leaf l=>match l[0]? with
  |some e=>Lc e
  |Option.none=>true
 | .ask _ t e=>ST.bools t&&ST.bools e
 | .none=>true
theorem Lb{v:Val}{e:Sx}(h:Lc e=true):@Sx.dat v e=.int (dO ((@Sx.dat v e).toI != 0)):=by unfold Lc at h;split at h;{rename_i n;have:=aA h;rcases Nat.le_one_iff_eq_zero_or_eq_one.1 this with rfl|rfl<;>rfl};{rename_i a b;show Dat.int (dO ((@Sx.dat v a).toI==(@Sx.dat v b).toI))=Dat.int (dO ((dO ((@Sx.dat v a).toI==(@Sx.dat v b).toI)) != 0));cases((@Sx.dat v a).toI==(@Sx.dat v b).toI)<;>rfl};cases h
theorem ST.bools_ok{v:Val}:∀{t:ST},ST.bools t=true→t.val v 0=.int (dO ((t.val v 0).toI != 0))
 | .leaf l,h=>by
  simp only[ST.bools]at h;simp only[ST.val];cases hi:l[0]? with
  |none=>rfl
  |some e=>rw[hi]at h;exact Lb h
 | .ask b t e,h=>by simp only[ST.bools,ak]at h;simp only[ST.val];cases @Bx.eval v b;{exact ST.bools_ok h.2};exact ST.bools_ok h.1
 | .none,_=>rfl
theorem GG(v:Val):stF.val v 0=.int (dO ((stF.val v 0).toI != 0)):=ST.bools_ok (by kernel_rfl)
theorem je{n:Nat}(h:Nat.blt n 52=true){a b c:Dat}:F0 n a b c=Fb n a b c:=by rw[LD (aL h)]
theorem tv{o a b:Dat}(h:o.toI<1∨¬o.toI<64):F0 42 o a b=.str []:=(je rfl).trans (Fo h)
theorem vV{o a b:Dat}{i:Nat}(hi:i<63)(h:o.toI=(i:Int)+1):F0 42 o a b=.str [vW (i+1)]:=(je rfl).trans (KB hi h)
end Go.Tw.NE
namespace Go.Proofs.YtlagbijmfchkeaaGreat
open Go.Tw Go.Tw.NE
noncomputable section
abbrev P:Program:=Tryz.prog
theorem follows:P.follows .mixedOrders=true:=by kernel_rfl
def ba:Nat→Option Nat:=fun _=>none
def b0:bF:=T.leaf.set gid (.opq 0 0 0 .bool (.lit 0) (.lit 0) [] 0)
def R0:Nat:=1024
theorem base0:BaseOk ba b0 R0 where
 gid_lt:=by decide
 gid_at:=⟨0,0,.bool,.lit 0,.lit 0,0,T.get_set_same _ _ _⟩
 none:=fun i hi=>by
  have:i≠gid:=by have:R0≤i:=hi;have h:gid<R0:=by decide
                 omega
  rw[b0,T.get_set_ne _ _ this];rfl
 only:=fun i o h hn=>by rw[b0,T.get_set_ne _ _ hn]at h;simp [T.get_leaf]at h
 gl:=fun g n h=>by cases h
def run(p:aD)(cons:List Con)(nt:Nat)(c:Code)(l:List (Nat×AV))(o:List (Nat×Ob))(nx:Nat):XR:=
 exec P (bL ba b0 p (dZ R0 (dj p) cons)) 1000 nt c {tm:=ax l,ds:=[],md:=none,rd:=false} (ag b0 o nx)
def MX(p:aD)(cons:List Con)(af:List HCon)(nt:Nat)(c:Code)(l:List (Nat×AV))(o:List (Nat×Ob))(nx:Nat):XR:=
 exec P (bL ba b0 p (n6 (dZ R0 (dj p) cons) (dX R0 (dj p) af))) 1000 nt c {tm:=ax l,ds:=[],md:=none,rd:=false} (ag b0 o nx)
abbrev HR(nr nb nt:Nat):=HT P ba b0 R0 nr nb nt
theorem rn{v v':Val}(hF:v.fn=F0){p:aD}(hp:@Holds v p){cons:List Con}(hc:∀c∈cons,c.Sound F0 P ba b0 R0){nr nb nt:Nat}(hrb:nr≤bQ nb){c:Code}{l:List (Nat×AV)}{o:List (Nat×Ob)}{nx:Nat}{e:AExit}{ρ:List RE}
 {l':List (Nat×AV)}{o':List (Nat×Ob)}{nx':Nat}{E:bq}(h:aT R0 nr nb (run p cons nt c l o nx) e ρ l' o' nx' E=true)(hE:EqsOk v v' E):HR nr nb nt v c (ax l) (ag b0 o nx) e v' (ax l') (ag b0 o' nx'):=
 HT.run base0 hrb hp (cO cons) (fF base0 hp hF hc) follows h hE
theorem rnH{v v':Val}(hF:v.fn=F0){p:aD}(hp:@Holds v p){cons:List Con}(hc:∀c∈cons,c.Sound F0 P ba b0 R0){af:List HCon}(hhc:∀c∈af,c.Sound F0 P ba b0 R0){nr nb nt:Nat}(hrb:nr≤bQ nb){c:Code}{l:List (Nat×AV)}{o:List (Nat×Ob)}{nx:Nat}{e:AExit}{ρ:List RE}
 {l':List (Nat×AV)}{o':List (Nat×Ob)}{nx':Nat}{E:bq}(h:aT R0 nr nb (MX p cons af nt c l o nx) e ρ l' o' nx' E=true)(hE:EqsOk v v' E):HR nr nb nt v c (ax l) (ag b0 o nx) e v' (ax l') (ag b0 o' nx'):=
 HT.run base0 hrb hp (lz (cO cons) (fC fun c h=>(hhc c h).1)) (zb (fF base0 hp hF hc) (jM base0 hp hF hhc)) follows h hE
theorem bO{F:Nat→Dat→Dat→Dat→Dat}:∀c∈([]:List Con),c.Sound F P ba b0 R0:=fun _ h=>by cases h
theorem aC{v:Val}:@Holds v []:=fun _ h=>by cases h
theorem af{v:Val}{b:Bx}{x:Bool}{p:aD}(h:@Bx.eval v b=x)(hp:@Holds v p):@Holds v ((b,x)::p):=fun q hq=>by rcases List.mem_cons.1 hq with rfl|hq;{exact h};exact hp q hq
theorem al{v v':Val}:EqsOk v v' []:=fun _ h=>by cases h
theorem aa{v v':Val}{a c:Sx}{e:bq}(h:@Sx.dat v a=@Sx.dat v' c)(he:EqsOk v v' e):EqsOk v v' ((a,c)::e):=fun q hq=>by rcases List.mem_cons.1 hq with rfl|hq;{exact h};exact he q hq
theorem bp{n:Int}(h1: -9223372036854775808≤n)(h2:n≤9223372036854775807):aU .i64 n=n:=by rw[wrap_i64];split<;>omega
def Code.l:Code→Code
 | .seq a _=>a
 | .block _ a=>a
 | .loop a=>a
 | .scope a=>a
 |c=>c
def Code.r:Code→Code
 | .seq _ b=>b
 |c=>c
def SI(i:Nat):AV:=.sym .i64 (D i)
abbrev cX:Sh:=.int .i64
abbrev bo:Sh:=.slc [cX]
def LI(x:Sx):AV:=.opq 0 gid 0 bo x (.lit 0)
def L7:List Sh:=[cX,cX,cX,cX,cX,cX,cX]
def LG(x:Sx):AV:=.opq 0 gid 0 (.slc L7) x (.lit 0)
def OI(x y:Sx):Ob:=.opq 2 0 gid bo x y [] 3
abbrev wR:Sh:=.slc [.bool]
def OB(x y:Sx):Ob:=.opq 2 0 gid wR x y [] 4
def OM(x:Sx):Ob:=.opq 4 0 gid bo x (.lit 0) [] 63
def LV(id:Nat)(sh:List Sh)(y:Sx):AV:=.opq 2 id 0 (.slc sh) (.lit 0) y
def MV(id:Nat):AV:=.opq 4 id 0 bo (.lit 0) (.lit 0)
theorem zm{v:Val}{a b:Sx}(h:@Sx.eval v a<@Sx.eval v b):@Bx.eval v (lt a b)=true:=decide_eq_true h
theorem E5{v:Val}{a b:Sx}(h:¬@Sx.eval v a<@Sx.eval v b):@Bx.eval v (lt a b)=false:=decide_eq_false h
theorem N9{v:Val}{a b:Sx}(h:@Sx.eval v a=@Sx.eval v b):@Bx.eval v (eq a b)=true:=decide_eq_true h
theorem aad{v:Val}{a b:Sx}(h:¬@Sx.eval v a=@Sx.eval v b):@Bx.eval v (eq a b)=false:=decide_eq_false h
theorem aF{v:Val}{b:Bx}{x:Bool}{p:aD}(h:@Holds v ((b,x)::p)):@Bx.eval v b=x∧@Holds v p:=⟨h (b,x) (by simp),fun q hq=>h q (by simp [hq])⟩
end
end Go.Proofs.YtlagbijmfchkeaaGreat
namespace Go.Proofs.YtlagbijmfchkeaaGreat
open Go.Tw Go.Tw.NE
noncomputable section
def iD:Code:=match Tryz.f72.body with
 |some c=>c
 |none=>.skip
def Bm(p m:AV):Ob:=.box [LG (D 0),LV 1025 [.bool] (.lit 1),p,m] 65
abbrev cD:AV:=.ptr 1024 0 0 4
def AL:List (Nat×AV):=[(0,cD)]
def EL:List (Nat×AV):=[(0,cD),(2,SI 2),(15,LG (D 0)),(16,.sym .i64 (ae (D 0))),(17,SI 3)]
def XL:List (Nat×AV):=[(0,cD),(2,SI 2)]
def AI:List (Nat×Ob):=[(1024,Bm .unk .unk),(1025,OB (D 1) (.lit 1))]
def rO:List (Nat×Ob):=[(1024,Bm (LV 1026 [cX] (D 5)) (MV 1027)),(1025,OB (D 1) (.lit 1)),(1026,OI (D 4) (D 5)),(1027,OM (D 6))]
def OLZ:List (Nat×Ob):=[(1024,Bm (LV 1026 [cX] (.lit 1)) (MV 1027)),(1025,OB (D 1) (.lit 1)),(1026,OI (.ap 40 (D 0) (D 1) (.lit 0)) (.lit 1)),(1027,OM (.ap 41 (D 0) (D 1) (.lit 0)))]
def YU:aD:=[]
def aat:bq:=[((.dvar 0),(.dvar 0)),((.lit 1),(.lit 1)),((.lit 0),(.dvar 5)),((.dvar 1),(.dvar 1)),((.lit 1),(.lit 1)),((.pr 13 (.lit 0) (.lit 0)),(.dvar 4)),((.lit 0),(.dvar 5)),((.pr 13 (.lit 0) (.lit 0)),(.dvar 6))]
theorem W0:aT R0 0 1048577 (run YU [] 66 (Code.l iD) AL AI 1026) .normal [⟨1024,1024,0,0,0⟩,⟨1025,1025,0,0,0⟩,⟨1027,1026,0,0,0⟩] AL rO 1028 aat=true:=by kernel_rfl
def YT:aD:=[]
def aas:bq:=[((.lit 0),(.pr 30 (.dvar 2) (.lit 0))),((.dvar 0),(.dvar 0)),((.lit 1),(.lit 1)),((.dvar 5),(.dvar 5)),((.dvar 1),(.dvar 1)),((.lit 1),(.lit 1)),((.dvar 4),(.dvar 4)),((.dvar 5),(.dvar 5)),((.dvar 6),(.dvar 6))]
theorem WZ:aT R0 0 1048577 (run YT [] 66 (Code.l (Code.r iD)) AL rO 1028) .normal [⟨1024,1024,0,0,0⟩,⟨1025,1025,0,0,0⟩,⟨1026,1026,0,0,0⟩,⟨1027,1027,0,0,0⟩] XL rO 1028 aas=true:=by kernel_rfl
def YS:aD:=[]
def aar:bq:=[((.pr 30 (.dvar 2) (.lit 0)),(.pr 30 (.dvar 2) (.lit 0))),((.dvar 0),(.dvar 0)),((.pr 30 (.pr 7 (.dvar 0) (.lit 0)) (.lit 0)),(.pr 30 (.pr 7 (.dvar 0) (.lit 0)) (.lit 0))),((.lit 0),(.pr 30 (.dvar 3) (.lit 0))),((.dvar 0),(.dvar 0)),((.lit 1),(.lit 1)),((.dvar 5),(.dvar 5)),((.dvar 1),(.dvar 1)),((.lit 1),(.lit 1)),((.dvar 4),(.dvar 4)),((.dvar 5),(.dvar 5)),((.dvar 6),(.dvar 6))]
theorem WY:aT R0 0 1048577 (run YS [] 66 (Code.l (Code.l (Code.r (Code.r iD)))) XL rO 1028) .normal [⟨1024,1024,0,0,0⟩,⟨1025,1025,0,0,0⟩,⟨1026,1026,0,0,0⟩,⟨1027,1027,0,0,0⟩] EL rO 1028 aar=true:=by kernel_rfl
def PU:aD:=[((.cmp .lss (.dvar 3) (.pr 7 (.dvar 0) (.lit 0))),true),((.cmp .lss (.dvar 3) (.lit 0)),false),((.cmp .lss (.pr 7 (.dvar 4) (.lit 0)) (.lit 1000000001)),true),((.cmp .eql (.cell (.dvar 0) (.dvar 3) 0) (.lit 1)),true)]
def aaq:bq:=[((.pr 30 (.dvar 2) (.lit 0)),(.pr 30 (.dvar 2) (.lit 0))),((.dvar 0),(.dvar 0)),((.pr 30 (.pr 7 (.dvar 0) (.lit 0)) (.lit 0)),(.pr 30 (.pr 7 (.dvar 0) (.lit 0)) (.lit 0))),((.pr 30 (.bin .add .i64 (.dvar 3) (.lit 1)) (.lit 0)),(.pr 30 (.dvar 3) (.lit 0))),((.dvar 0),(.dvar 0)),((.lit 1),(.lit 1)),((.lit 1),(.dvar 5)),((.dvar 1),(.dvar 1)),((.lit 1),(.lit 1)),((.pr 9 (.dvar 4) (.pr 9 (.pr 12 (.dvar 2) (.pr 14 (.lit 0) (.lit 0))) (.pr 13 (.lit 0) (.lit 0)))),(.dvar 4)),((.lit 1),(.dvar 5)),((.pr 33 (.dvar 6) (.pr 12 (.cell (.dvar 0) (.dvar 3) 1) (.pr 12 (.dvar 2) (.pr 14 (.lit 0) (.lit 0))))),(.dvar 6))]
theorem WX:aT R0 0 1048577 (run PU [] 66 (Code.l (Code.l (Code.r (Code.l (Code.r (Code.r iD)))))) EL rO 1028) .normal [⟨1024,1024,0,0,0⟩,⟨1025,1025,0,0,0⟩,⟨1026,1026,1,0,0⟩,⟨1027,1027,0,0,0⟩] EL rO 1028 aaq=true:=by kernel_rfl
def PT:aD:=[((.cmp .lss (.dvar 3) (.pr 7 (.dvar 0) (.lit 0))),true),((.cmp .lss (.dvar 3) (.lit 0)),false),((.cmp .lss (.pr 7 (.dvar 4) (.lit 0)) (.lit 1000000001)),true),((.cmp .eql (.cell (.dvar 0) (.dvar 3) 0) (.lit 1)),false),((.cmp .lss (.dvar 3) (.pr 7 (.dvar 1) (.lit 0))),true),((.cmp .eql (.cell (.dvar 1) (.dvar 3) 0) (.lit 0)),true)]
def aap:bq:=[((.pr 30 (.bin .add .i64 (.dvar 2) (.lit 1)) (.lit 0)),(.pr 30 (.dvar 2) (.lit 0))),((.dvar 0),(.dvar 0)),((.pr 30 (.pr 7 (.dvar 0) (.lit 0)) (.lit 0)),(.pr 30 (.pr 7 (.dvar 0) (.lit 0)) (.lit 0))),((.pr 30 (.bin .add .i64 (.dvar 3) (.lit 1)) (.lit 0)),(.pr 30 (.dvar 3) (.lit 0))),((.dvar 0),(.dvar 0)),((.lit 1),(.lit 1)),((.lit 1),(.dvar 5)),((.dvar 1),(.dvar 1)),((.lit 1),(.lit 1)),((.pr 9 (.dvar 4) (.pr 9 (.pr 12 (.dvar 2) (.pr 14 (.lit 0) (.lit 0))) (.pr 13 (.lit 0) (.lit 0)))),(.dvar 4)),((.lit 1),(.dvar 5)),((.dvar 6),(.dvar 6))]
theorem WW:aT R0 0 1048577 (run PT [] 66 (Code.l (Code.l (Code.r (Code.l (Code.r (Code.r iD)))))) EL rO 1028) .normal [⟨1024,1024,0,0,0⟩,⟨1025,1025,0,0,0⟩,⟨1026,1026,1,0,0⟩,⟨1027,1027,0,0,0⟩] EL rO 1028 aap=true:=by kernel_rfl
def PS:aD:=[((.cmp .lss (.dvar 3) (.pr 7 (.dvar 0) (.lit 0))),true),((.cmp .lss (.dvar 3) (.lit 0)),false),((.cmp .lss (.pr 7 (.dvar 4) (.lit 0)) (.lit 1000000001)),true),((.cmp .eql (.cell (.dvar 0) (.dvar 3) 0) (.lit 1)),false),((.cmp .lss (.dvar 3) (.pr 7 (.dvar 1) (.lit 0))),true),((.cmp .eql (.cell (.dvar 1) (.dvar 3) 0) (.lit 0)),false)]
def aao:bq:=[((.pr 30 (.bin .add .i64 (.bin .add .i64 (.dvar 2) (.lit 1)) (.lit 1)) (.lit 0)),(.pr 30 (.dvar 2) (.lit 0))),((.dvar 0),(.dvar 0)),((.pr 30 (.pr 7 (.dvar 0) (.lit 0)) (.lit 0)),(.pr 30 (.pr 7 (.dvar 0) (.lit 0)) (.lit 0))),((.pr 30 (.bin .add .i64 (.dvar 3) (.lit 1)) (.lit 0)),(.pr 30 (.dvar 3) (.lit 0))),((.dvar 0),(.dvar 0)),((.lit 1),(.lit 1)),((.lit 1),(.dvar 5)),((.dvar 1),(.dvar 1)),((.lit 1),(.lit 1)),((.pr 9 (.dvar 4) (.pr 9 (.pr 12 (.dvar 2) (.pr 14 (.lit 0) (.lit 0))) (.pr 13 (.lit 0) (.lit 0)))),(.dvar 4)),((.lit 1),(.dvar 5)),((.dvar 6),(.dvar 6))]
theorem WV:aT R0 0 1048577 (run PS [] 66 (Code.l (Code.l (Code.r (Code.l (Code.r (Code.r iD)))))) EL rO 1028) .normal [⟨1024,1024,0,0,0⟩,⟨1025,1025,0,0,0⟩,⟨1026,1026,1,0,0⟩,⟨1027,1027,0,0,0⟩] EL rO 1028 aao=true:=by kernel_rfl
def PQ:aD:=[((.cmp .lss (.dvar 3) (.pr 7 (.dvar 0) (.lit 0))),false)]
def aan:bq:=[((.pr 30 (.dvar 2) (.lit 0)),(.pr 30 (.dvar 2) (.lit 0))),((.dvar 0),(.dvar 0)),((.lit 1),(.lit 1)),((.dvar 5),(.dvar 5)),((.dvar 1),(.dvar 1)),((.lit 1),(.lit 1)),((.dvar 4),(.dvar 4)),((.dvar 5),(.dvar 5)),((.dvar 6),(.dvar 6))]
theorem WU:aT R0 0 1048577 (run PQ [] 66 (Code.l (Code.l (Code.r (Code.l (Code.r (Code.r iD)))))) EL rO 1028) (.exit 0) [⟨1024,1024,0,0,0⟩,⟨1025,1025,0,0,0⟩,⟨1026,1026,0,0,0⟩,⟨1027,1027,0,0,0⟩] XL rO 1028 aan=true:=by kernel_rfl
def PO:aD:=[((.cmp .lss (.pr 7 (.dvar 4) (.lit 0)) (.lit 1000000001)),true)]
def aam:bq:=[((.dvar 0),(.dvar 0)),((.lit 1),(.lit 1)),((.lit 1),(.lit 1)),((.dvar 1),(.dvar 1)),((.lit 1),(.lit 1)),((.pr 9 (.dvar 4) (.pr 9 (.pr 12 (.dvar 2) (.pr 14 (.lit 0) (.lit 0))) (.pr 13 (.lit 0) (.lit 0)))),(.ap 40 (.dvar 0) (.dvar 1) (.lit 0))),((.lit 1),(.lit 1)),((.dvar 6),(.ap 41 (.dvar 0) (.dvar 1) (.lit 0)))]
theorem WT:aT R0 0 1048577 (run PO [] 66 (Code.r (Code.r (Code.r iD))) XL rO 1028) .normal [⟨1024,1024,0,0,0⟩,⟨1025,1025,0,0,0⟩,⟨1026,1026,1,0,0⟩,⟨1027,1027,0,0,0⟩] [] OLZ 1028 aam=true:=by kernel_rfl
def YK:aD:=[(lt (ae (D 0)) (.lit 5000),true),(eq (ae (D 1)) (ae (D 0)),true)]
def hcLay:HCon:={f:=72,args:=[cD],pre:=YK,nr:=0,np:=1,ns:=1,locs:=[⟨none,[0]⟩,⟨some 1024,[1]⟩],ins:=AI,v:=.tup [],outs:=OLZ,nx:=1028}
theorem OV:iD=.seq (Code.l iD) (.seq (Code.l (Code.r iD)) (.seq (.seq (Code.l (Code.l (Code.r (Code.r iD)))) (.block 0 (.loop (Code.l (Code.l (Code.r (Code.l (Code.r (Code.r iD))))))))) (Code.r (Code.r (Code.r iD))))):=by kernel_rfl
theorem Kr:hcLay.Sound F0 P ba b0 R0:=by
 refine fS (fn:=Tryz.f72) (code:=iD) Tryz.func72 (by rfl) (by kernel_rfl) (by kernel_rfl) (by kernel_rfl) fun v hF hpre=> ?_;refine⟨.normal,[],_,_,.inr rfl,?_,by rfl,rfl⟩;show HR 0 1048577 66 v iD (ax AL) (ag b0 AI 1026) .normal v (ax []) (ag b0 OLZ 1028);obtain⟨g0,hpre⟩:=aF hpre;obtain⟨g1,hpre⟩:=aF hpre;obtain⟨d,hd⟩:∃d,d=@Sx.dat v (D 0):=⟨_,rfl⟩;obtain⟨f,hf⟩:∃f,f=@Sx.dat v (D 1):=⟨_,rfl⟩;have hn:(d.toL.length:Int)<5000:=by have h:decide (((@Sx.dat v (D 0)).toL.length:Int)<5000)=true:=g0;rw[hd];exact of_decide_eq_true h
 have hfl:f.toL.length=d.toL.length:=by have h:decide (((@Sx.dat v (D 1)).toL.length:Int)=((@Sx.dat v (D 0)).toL.length:Int))=true:=g1;have:=of_decide_eq_true h;rw[hd,hf];omega
 let V:Nat→Val:=fun k=>VL F0 [d,f,.int (ji d f k:Int),.int (k:Int),.lst (plA d f k),.int (if k=0 then 0 else 1),.lst (JT d f k)];have hat:∀k,k≤d.toL.length→(ji d f k:Int)<10000:=fun k hk=>by have:=Lh d f k;omega
 rw[OV];have h1:HR 0 1048577 66 v (Code.l iD) (ax AL) (ag b0 AI 1026) .normal (V 0) (ax AL) (ag b0 rO 1028):=rn hF aC bO (aP _) W0 (by
  repeat' (first|exact al|refine aa ?_ ?_)
  all_goals first|rfl|exact hd.symm|exact hf.symm)
 have h2:HR 0 1048577 66 (V 0) (Code.l (Code.r iD)) (ax AL) (ag b0 rO 1028) .normal (V 0) (ax XL) (ag b0 rO 1028):=rn (v:=V 0) rfl aC bO (aP _) WZ (by
  repeat' (first|exact al|refine aa ?_ ?_)
  all_goals rfl)
 have h3:HR 0 1048577 66 (V 0) (Code.l (Code.l (Code.r (Code.r iD)))) (ax XL) (ag b0 rO 1028) .normal (V 0) (ax EL) (ag b0 rO 1028):=rn (v:=V 0) rfl aC bO (aP _) WY (by
  repeat' (first|exact al|refine aa ?_ ?_)
  all_goals rfl)
 have hstep:∀k,k<d.toL.length→HR 0 1048577 66 (V k) (Code.l (Code.l (Code.r (Code.l (Code.r (Code.r iD)))))) (ax EL) (ag b0 rO 1028) .normal (V (k+1)) (ax EL) (ag b0 rO 1028):=fun k hk=>by
  have c0:@Bx.eval (V k) (lt (D 3) (ae (D 0)))=true:=zm (show(k:Int)<d.toL.length by omega);have c1:@Bx.eval (V k) (lt (D 3) (.lit 0))=false:=E5 (show ¬(k:Int)<0 by omega);have c2:@Bx.eval (V k) (lt (ae (D 4)) (.lit 1000000001))=true:=zm (show((plA d f k).length:Int)<1000000001 by rw[plA_len];omega);have e3:Dat.int (aU .i64 ((k:Int)+1))=Dat.int ((k+1:Nat):Int):=(by rw[bp (by omega) (by omega)];rfl);have e5:Dat.int 1=Dat.int (if k+1=0 then 0 else 1):=(by rw[if_neg (by omega)]);have hk0:(k:Int).toNat=k:=Int.toNat_natCast k;by_cases hlab:iA d k=1
  ·have c3:@Bx.eval (V k) (eq (.cell (D 0) (D 3) 0) (.lit 1))=true:=N9 (show(d.cell (k:Int) 0).toI=1 from hlab);have hw:eJ d f k=0:=(by simp [eJ,hlab]);refine rn (v:=V k) rfl (show @Holds (V k) PU from af c0 (af c1 (af c2 (af c3 aC)))) bO (aP _) WX ?_;repeat' (first|exact al|refine aa ?_ ?_)
   all_goals first|rfl|exact e3|exact e5|skip
   {show Dat.int (ji d f k:Int)=Dat.int (ji d f (k+1):Int);rw[ji,hw];rfl};show Dat.lst (oB (JT d f k) (d.cell (k:Int) 1).toI (ji d f k:Int))=Dat.lst (JT d f (k+1));rw[JT,if_pos hlab];rfl
  have c3:@Bx.eval (V k) (eq (.cell (D 0) (D 3) 0) (.lit 1))=false:=aad (show ¬(d.cell (k:Int) 0).toI=1 from hlab);have c4:@Bx.eval (V k) (lt (D 3) (ae (D 1)))=true:=zm (show(k:Int)<f.toL.length by omega);have hlb:Dat.lst (JT d f k)=Dat.lst (JT d f (k+1)):=(by rw[JT,if_neg hlab]);have ha:=hat k (by omega);by_cases hfar:(f.cell (k:Int) 0).toI=0
  ·have c5:@Bx.eval (V k) (eq (.cell (D 1) (D 3) 0) (.lit 0))=true:=N9 hfar;have hw:eJ d f k=1:=(by simp [eJ,hlab,fD,hfar]);refine rn (v:=V k) rfl (show @Holds (V k) PT from af c0 (af c1 (af c2 (af c3 (af c4 (af c5 aC)))))) bO (aP _) WW ?_;repeat' (first|exact al|refine aa ?_ ?_)
   all_goals first|rfl|exact e3|exact e5|exact hlb|skip
   show Dat.int (aU .i64 ((ji d f k:Int)+1))=Dat.int (ji d f (k+1):Int);rw[bp (by omega) (by omega),ji,hw];rfl
  have c5:@Bx.eval (V k) (eq (.cell (D 1) (D 3) 0) (.lit 0))=false:=aad hfar;have hw:eJ d f k=2:=(by simp [eJ,hlab,fD,hfar]);refine rn (v:=V k) rfl (show @Holds (V k) PS from af c0 (af c1 (af c2 (af c3 (af c4 (af c5 aC)))))) bO (aP _) WV ?_;repeat' (first|exact al|refine aa ?_ ?_)
  all_goals first|rfl|exact e3|exact e5|exact hlb|skip
  show Dat.int (aU .i64 (aU .i64 ((ji d f k:Int)+1)+1))=Dat.int (ji d f (k+1):Int);rw[bp (n:=(ji d f k:Int)+1) (by omega) (by omega),bp (by omega) (by omega),ji,hw];show Dat.int _=Dat.int _;congr 1
 have hx:HR 0 1048577 66 (V d.toL.length) (Code.l (Code.l (Code.r (Code.l (Code.r (Code.r iD)))))) (ax EL) (ag b0 rO 1028) (.exit 0) (V d.toL.length) (ax XL) (ag b0 rO 1028):=
  rn (v:=V d.toL.length) rfl (show @Holds (V d.toL.length) PQ from af (E5 (show ¬((d.toL.length:Nat):Int)<d.toL.length by omega)) aC) bO (aP _) WU (by
   repeat' (first|exact al|refine aa ?_ ?_)
   all_goals rfl)
 have h4:=HT.block (HT.loop (aP _) d.toL.length V hstep hx (by simp));have h5:HR 0 1048577 66 (V d.toL.length) (Code.r (Code.r (Code.r iD))) (ax XL) (ag b0 rO 1028) .normal v (ax []) (ag b0 OLZ 1028):=rn (v:=V d.toL.length) rfl (show @Holds (V d.toL.length) PO from af (zm (show((plA d f d.toL.length).length:Int)<1000000001 by rw[plA_len];omega)) aC) bO (aP _) WT (by
  have hap:∀n,v.fn n=F0 n:=fun n=>(by rw[hF]);repeat' (first|exact al|refine aa ?_ ?_)
  all_goals first|rfl|exact hd|exact hf|skip
  {show Dat.lst _=v.fn 40 (@Sx.dat v (D 0)) (@Sx.dat v (D 1)) _;rw[hF,←hd,←hf];rfl};show Dat.lst (JT d f d.toL.length)=v.fn 41 (@Sx.dat v (D 0)) (@Sx.dat v (D 1)) _;rw[hF,←hd,←hf];rfl)
 exact HT.seq (aP _) h1 (HT.seq (aP _) h2 (HT.seq (aP _) (HT.seq (aP _) h3 h4) h5))
end
end Go.Proofs.YtlagbijmfchkeaaGreat
namespace Go.Proofs.YtlagbijmfchkeaaGreat
open Go.Tw Go.Tw.NE
noncomputable section
def K8:Code:=match Tryz.f74.body with
 |some c=>c
 |none=>.skip
def Ag:Code:=match Tryz.f71.body with
 |some c=>c
 |none=>.skip
abbrev aX:AV:=.int .u32 0
abbrev eA:AV:=.int .u32 1
abbrev fJ:AV:=.int .u32 51
abbrev kF:AV:=.int .u32 5
abbrev kE:AV:=.int .u32 3
abbrev kb:AV:=.int .u32 19
abbrev iY:AV:=.int .u32 59
abbrev qe:AV:=.int .u32 99
abbrev qb:AV:=.int .u32 4
abbrev p9:AV:=.int .u32 6
abbrev sL:AV:=.int .u32 32
abbrev sK:AV:=.int .u32 7
abbrev sJ:AV:=.int .u32 2
def Pv:AV:=.agg [aJ [],aJ [],aX,aX,aX,aJ [108,117,105],aJ [85],.int .u32 55,aX,aX,aJ [97,117,105,112,99],aJ [85],.int .u32 23,aX,aX,aJ [106,97,108],aJ [74],.int .u32 111,aX,aX,aJ [106,97,108,114],aJ [73],.int .u32 103,aX,aX,aJ [98,101,113],aJ [66],qe,aX,aX,aJ [98,110,101],aJ [66],qe,eA,aX,aJ [98,108,116],aJ [66],qe,qb,aX,aJ [98,103,101],aJ [66],qe,kF,aX,aJ [98,108,116,117],aJ [66],qe,p9,aX,aJ [98,103,101,117],aJ [66],qe,sK,aX,aJ [108,98],aJ [73],kE,aX,aX,aJ [108,104],aJ [73],kE,eA,aX,aJ [108,119],aJ [73],kE,sJ,aX,aJ [108,100],aJ [73],kE,kE,aX,aJ [108,98,117],aJ [73],kE,qb,aX,aJ [108,104,117],aJ [73],kE,kF,aX,aJ [108,119,117],aJ [73],kE,p9,aX,aJ [115,98],aJ [83],.int .u32 35,aX,aX,aJ [115,104],aJ [83],.int .u32 35,eA,aX,aJ [115,119],aJ [83],.int .u32 35,sJ,aX,aJ [115,100],aJ [83],.int .u32 35,kE,aX,aJ [97,100,100,105],aJ [73],kb,aX,aX,aJ [115,108,116,105],aJ [73],kb,sJ,aX,aJ [115,108,116,105,117],aJ [73],kb,kE,aX,aJ [120,111,114,105],aJ [73],kb,qb,aX,aJ [111,114,105],aJ [73],kb,p9,aX,aJ [97,110,100,105],aJ [73],kb,sK,aX,aJ [115,108,108,105],aJ [88],kb,eA,aX,aJ [115,114,108,105],aJ [88],kb,kF,aX,aJ [115,114,97,105],aJ [88],kb,kF,.int .u32 16,aJ [97,100,100,105,119],aJ [73],.int .u32 27,aX,aX,aJ [115,108,108,105,119],aJ [89],.int .u32 27,eA,aX,aJ [115,114,108,105,119],aJ [89],.int .u32 27,kF,aX,aJ [115,114,97,105,119],aJ [89],.int .u32 27,kF,sL,aJ [97,100,100],aJ [82],fJ,aX,aX,aJ [115,117,98],aJ [82],fJ,aX,sL,aJ [115,108,108],aJ [82],fJ,eA,aX,aJ [115,108,116],aJ [82],fJ,sJ,aX,aJ [115,108,116,117],aJ [82],fJ,kE,aX,aJ [120,111,114],aJ [82],fJ,qb,aX,aJ [115,114,108],aJ [82],fJ,kF,aX,aJ [115,114,97],aJ [82],fJ,kF,sL,aJ [111,114],aJ [82],fJ,p9,aX,aJ [97,110,100],aJ [82],fJ,sK,aX,aJ [97,100,100,119],aJ [82],iY,aX,aX,aJ [115,117,98,119],aJ [82],iY,aX,sL,aJ [115,108,108,119],aJ [82],iY,eA,aX,aJ [115,114,108,119],aJ [82],iY,kF,aX,aJ [115,114,97,119],aJ [82],iY,kF,sL,aJ [109,117,108],aJ [82],fJ,aX,eA,aJ [109,117,108,104],aJ [82],fJ,eA,eA,aJ [109,117,108,104,115,117],aJ [82],fJ,sJ,eA,aJ [109,117,108,104,117],aJ [82],fJ,kE,eA,aJ [100,105,118],aJ [82],fJ,qb,eA,aJ [100,105,118,117],aJ [82],fJ,kF,eA,aJ [114,101,109],aJ [82],fJ,p9,eA,aJ [114,101,109,117],aJ [82],fJ,sK,eA,aJ [109,117,108,119],aJ [82],iY,aX,eA,aJ [100,105,118,119],aJ [82],iY,qb,eA,aJ [100,105,118,117,119],aJ [82],iY,kF,eA,aJ [114,101,109,119],aJ [82],iY,p9,eA,aJ [114,101,109,117,119],aJ [82],iY,sK,eA,aJ [101,99,97,108,108],aJ [69],.int .u32 115,aX,aX]
def conRows:Con:={f:=74,args:=[],pre:=[],res:=Pv,objs:=[]}
def YG:List AV:=match Pv with
 | .agg l=>l
 |_=>[]
def Hn:List (Nat×Ob):=[(1024,.box YG 126)]
theorem WQ:aT R0 0 0 (run [] [] 66 K8 [] [] R0) .ret [⟨1024,1024,0,0,0⟩] [(0,.ptr 1024 0 0 320)] Hn 1025 []=true:=by kernel_rfl
set_option maxRecDepth 1000000 in
theorem fU:conRows.Sound F0 P ba b0 R0:=by refine dY (fn:=Tryz.f74) (code:=K8) Tryz.func74 (by rfl) (by kernel_rfl) rfl rfl rfl fun v hF hpre=> ?_;refine⟨.ret,[(0,.ptr 1024 0 0 320)],Hn,1025,_,_,.inl rfl,?_,by rfl,rfl⟩;show HR 0 0 66 v K8 (ax []) (ag b0 [] R0) .ret v (ax [(0,.ptr 1024 0 0 320)]) (ag b0 Hn 1025);exact rn hF aC bO (aw 0) WQ al
theorem dE{c:Con}(h:c.Sound F0 P ba b0 R0):∀x∈[c],x.Sound F0 P ba b0 R0:=fun x hx=>by rcases List.mem_cons.1 hx with rfl|hx;{exact h};cases hx
def RF:List (Nat×AV):=[(2,.vstr (.ap 42 (D 0) (.lit 0) (.lit 0)))]
theorem Xd:(List.range 63).all (fun i=>aT R0 0 0 (run [] [conRows] 12 Ag [(0,.int .i64 (Int.ofNat (i+1)))] [] R0) .ret [] RF [] R0 [(.slit [vW (i+1)],.ap 42 (D 0) (.lit 0) (.lit 0))])=true:=by kernel_rfl
theorem L9:aT R0 0 0 (run [(lt (D 0) (.lit 1),true)] [conRows] 12 Ag [(0,SI 0)] [] R0) .ret [] RF [] R0 [(.slit [],.ap 42 (D 0) (.lit 0) (.lit 0))]=true:=by kernel_rfl
theorem L8:aT R0 0 0 (run [(lt (D 0) (.lit 1),false),(lt (D 0) (.lit 64),false)] [conRows] 12 Ag [(0,SI 0)] [] R0) .ret [] RF [] R0 [(.slit [],.ap 42 (D 0) (.lit 0) (.lit 0))]=true:=by kernel_rfl
theorem mI(k:Int):cM R0 0 [] (ax [(0,SI 0)]) (ag b0 [] R0) [(0,.int .i64 k)] [] R0=some [(.pr 30 (D 0) (.lit 0),.lit k)]:=by rfl
def conForm:Con:={f:=71,args:=[SI 0],pre:=[],res:=.vstr (.ap 42 (D 0) (.lit 0) (.lit 0)),objs:=[]}
theorem eN:conForm.Sound F0 P ba b0 R0:=by refine bX (fn:=Tryz.f71) (code:=Ag) Tryz.func71 (by rfl) (by kernel_rfl) (by kernel_rfl) fun v hF hpre=> ?_;refine⟨.ret,RF,_,_,.inl rfl,?_,by rfl,rfl⟩;show HR 0 0 12 v Ag (ax [(0,SI 0)]) (ag b0 [] R0) .ret v (ax RF) (ag b0 [] R0);have he:∀s:List UInt8,F0 42 (@Sx.dat v (D 0)) (.int 0) (.int 0)=.str s→EqsOk v v [(.slit s,.ap 42 (D 0) (.lit 0) (.lit 0))]:=fun s hs=>aa (by show Dat.str s=v.fn 42 (@Sx.dat v (D 0)) (.int 0) (.int 0);rw[hF];exact hs.symm) al;by_cases h1:(@Sx.dat v (D 0)).toI<1;{exact rn hF (af (zm (show @Sx.eval v (D 0)<@Sx.eval v (.lit 1)from h1)) aC) (dE fU) (aw 0) L9 (he [] (tv (.inl h1)))};by_cases h2:(@Sx.dat v (D 0)).toI<64;{obtain⟨i,hi,hi2⟩:∃i:Nat,i<63∧(@Sx.dat v (D 0)).toI=(i:Int)+1:=⟨((@Sx.dat v (D 0)).toI - 1).toNat,by omega,by omega⟩;have hx:=List.all_eq_true.1 Xd i (List.mem_range.2 hi);have hk:=aI (nr:=0) base0 (mI (Int.ofNat (i+1))) (v:=v) (v':=v) (aa (show Dat.int (@Sx.dat v (D 0)).toI=Dat.int ((i+1:Nat):Int) by rw[hi2];rfl) al);exact HT.pre (aw 0) hk (rn hF aC (dE fU) (aw 0) hx (he [vW (i+1)] (vV hi hi2)))};exact rn hF (af (E5 (show ¬@Sx.eval v (D 0)<@Sx.eval v (.lit 1)from h1)) (af (E5 (show ¬@Sx.eval v (D 0)<@Sx.eval v (.lit 64)from h2)) aC)) (dE fU) (aw 0) L8 (he [] (tv (.inr h2)))
end
end Go.Proofs.YtlagbijmfchkeaaGreat
namespace Go.Proofs.YtlagbijmfchkeaaGreat
open Go.Tw Go.Tw.NE
noncomputable section
def dp:Code:=match Tryz.f34.body with
 |some c=>c
 |none=>.skip
def chS:AV:=.symb (.cmp .neq (D 5) (.lit 0))
def XG:List (Nat×AV):=[(0,cD),(3,chS)]
def EG:List (Nat×AV):=[(0,cD),(3,chS),(12,LG (D 0)),(13,.sym .i64 (ae (D 0))),(14,SI 4)]
def oz:List (Nat×Ob):=[(1024,Bm (LV 1026 [cX] (.lit 1)) (MV 1027)),(1025,OB (D 1) (.lit 1)),(1026,OI (D 2) (.lit 1)),(1027,OM (D 3))]
def RG:List (Nat×AV):=[(2,.symb (.cmp .neq (.ap 44 (D 0) (D 1) (.lit 0)) (.lit 0)))]
def OGZ:List (Nat×Ob):=[(1024,Bm (LV 1026 [cX] (.lit 1)) (MV 1027)),(1025,OB (.ap 43 (D 0) (D 1) (.lit 0)) (.lit 1)),(1026,OI (.ap 40 (D 0) (D 1) (.lit 0)) (.lit 1)),(1027,OM (.ap 41 (D 0) (D 1) (.lit 0)))]
def YY:aD:=[]
def aaF:bq:=[((.dvar 0),(.dvar 0)),((.lit 1),(.lit 1)),((.dvar 1),(.dvar 1)),((.lit 1),(.lit 1))]
theorem Xc:aT R0 0 1048577 (run YY [] 55 (Code.l dp) AL AI 1026) .normal [⟨1024,1024,0,0,0⟩,⟨1025,1025,0,0,0⟩] AL AI 1026 aaF=true:=by kernel_rfl
def P3:aD:=[((.cmp .lss (.pr 7 (.dvar 0) (.lit 0)) (.lit 5000)),true),((.cmp .eql (.pr 7 (.dvar 1) (.lit 0)) (.pr 7 (.dvar 0) (.lit 0))),true)]
def aaE:bq:=[((.dvar 0),(.dvar 0)),((.lit 1),(.lit 1)),((.lit 1),(.lit 1)),((.dvar 1),(.dvar 1)),((.lit 1),(.lit 1)),((.ap 40 (.dvar 0) (.dvar 1) (.lit 0)),(.dvar 2)),((.lit 1),(.lit 1)),((.ap 41 (.dvar 0) (.dvar 1) (.lit 0)),(.dvar 3))]
theorem Xb:aT R0 0 1048577 (MX P3 [] [hcLay] 55 (Code.l (Code.r dp)) AL AI 1026) .normal [⟨1024,1024,0,0,0⟩,⟨1025,1025,1,0,0⟩,⟨1026,1026,0,0,0⟩,⟨1027,1027,0,0,0⟩] AL oz 1028 aaE=true:=by kernel_rfl
def YX:aD:=[]
def aaD:bq:=[((.lit 0),(.pr 21 (.dvar 5) (.lit 0))),((.dvar 0),(.dvar 0)),((.lit 1),(.lit 1)),((.lit 1),(.lit 1)),((.dvar 1),(.dvar 1)),((.lit 1),(.lit 1)),((.dvar 2),(.dvar 2)),((.lit 1),(.lit 1)),((.dvar 3),(.dvar 3))]
theorem Xa:aT R0 0 1048577 (run YX [] 55 (Code.l (Code.r (Code.r dp))) AL oz 1028) .normal [⟨1024,1024,0,0,0⟩,⟨1025,1025,0,0,0⟩,⟨1026,1026,0,0,0⟩,⟨1027,1027,0,0,0⟩] XG oz 1028 aaD=true:=by kernel_rfl
def YW:aD:=[]
def aaC:bq:=[((.pr 21 (.dvar 5) (.lit 0)),(.pr 21 (.dvar 5) (.lit 0))),((.dvar 0),(.dvar 0)),((.pr 30 (.pr 7 (.dvar 0) (.lit 0)) (.lit 0)),(.pr 30 (.pr 7 (.dvar 0) (.lit 0)) (.lit 0))),((.lit 0),(.pr 30 (.dvar 4) (.lit 0))),((.dvar 0),(.dvar 0)),((.lit 1),(.lit 1)),((.lit 1),(.lit 1)),((.dvar 1),(.dvar 1)),((.lit 1),(.lit 1)),((.dvar 2),(.dvar 2)),((.lit 1),(.lit 1)),((.dvar 3),(.dvar 3))]
theorem W9:aT R0 0 1048577 (run YW [] 55 (Code.l (Code.l (Code.r (Code.r (Code.r dp))))) XG oz 1028) .normal [⟨1024,1024,0,0,0⟩,⟨1025,1025,0,0,0⟩,⟨1026,1026,0,0,0⟩,⟨1027,1027,0,0,0⟩] EG oz 1028 aaC=true:=by kernel_rfl
def P2:aD:=[((.cmp .lss (.dvar 4) (.pr 7 (.dvar 0) (.lit 0))),true),((.cmp .lss (.dvar 4) (.lit 0)),false),((.cmp .eql (.cell (.dvar 0) (.dvar 4) 0) (.lit 2)),true),((.seq (.ap 42 (.cell (.dvar 0) (.dvar 4) 2) (.lit 0) (.lit 0)) (.slit [66])),true),((.cmp .lss (.dvar 4) (.pr 7 (.dvar 1) (.lit 0))),true),((.cmp .eql (.cell (.dvar 1) (.dvar 4) 0) (.lit 0)),true),((.cmp .lss (.dvar 4) (.pr 7 (.dvar 2) (.lit 0))),true),((.cmp .lss (.bin .mul .i64 (.lit 4) (.bin .sub .i64 (.pr 32 (.dvar 3) (.cell (.dvar 0) (.dvar 4) 1)) (.cell (.dvar 2) (.dvar 4) 0))) (.lit (-4096))),true)]
def aaB:bq:=[((.lit 1),(.pr 21 (.dvar 5) (.lit 0))),((.dvar 0),(.dvar 0)),((.pr 30 (.pr 7 (.dvar 0) (.lit 0)) (.lit 0)),(.pr 30 (.pr 7 (.dvar 0) (.lit 0)) (.lit 0))),((.pr 30 (.bin .add .i64 (.dvar 4) (.lit 1)) (.lit 0)),(.pr 30 (.dvar 4) (.lit 0))),((.dvar 0),(.dvar 0)),((.lit 1),(.lit 1)),((.lit 1),(.lit 1)),((.setc (.dvar 1) (.dvar 4) 0 (.lit 1)),(.dvar 1)),((.lit 1),(.lit 1)),((.dvar 2),(.dvar 2)),((.lit 1),(.lit 1)),((.dvar 3),(.dvar 3))]
theorem W8:aT R0 0 1048577 (run P2 [conForm] 55 (Code.l (Code.l (Code.r (Code.l (Code.r (Code.r (Code.r dp))))))) EG oz 1028) .normal [⟨1024,1024,0,0,0⟩,⟨1025,1025,0,0,0⟩,⟨1026,1026,0,0,0⟩,⟨1027,1027,0,0,0⟩] EG oz 1028 aaB=true:=by kernel_rfl
def P1:aD:=[((.cmp .lss (.dvar 4) (.pr 7 (.dvar 0) (.lit 0))),true),((.cmp .lss (.dvar 4) (.lit 0)),false),((.cmp .eql (.cell (.dvar 0) (.dvar 4) 0) (.lit 2)),true),((.seq (.ap 42 (.cell (.dvar 0) (.dvar 4) 2) (.lit 0) (.lit 0)) (.slit [66])),true),((.cmp .lss (.dvar 4) (.pr 7 (.dvar 1) (.lit 0))),true),((.cmp .eql (.cell (.dvar 1) (.dvar 4) 0) (.lit 0)),true),((.cmp .lss (.dvar 4) (.pr 7 (.dvar 2) (.lit 0))),true),((.cmp .lss (.bin .mul .i64 (.lit 4) (.bin .sub .i64 (.pr 32 (.dvar 3) (.cell (.dvar 0) (.dvar 4) 1)) (.cell (.dvar 2) (.dvar 4) 0))) (.lit (-4096))),false),((.cmp .lss (.bin .mul .i64 (.lit 4) (.bin .sub .i64 (.pr 32 (.dvar 3) (.cell (.dvar 0) (.dvar 4) 1)) (.cell (.dvar 2) (.dvar 4) 0))) (.lit 4095)),true)]
def aaA:bq:=[((.pr 21 (.dvar 5) (.lit 0)),(.pr 21 (.dvar 5) (.lit 0))),((.dvar 0),(.dvar 0)),((.pr 30 (.pr 7 (.dvar 0) (.lit 0)) (.lit 0)),(.pr 30 (.pr 7 (.dvar 0) (.lit 0)) (.lit 0))),((.pr 30 (.bin .add .i64 (.dvar 4) (.lit 1)) (.lit 0)),(.pr 30 (.dvar 4) (.lit 0))),((.dvar 0),(.dvar 0)),((.lit 1),(.lit 1)),((.lit 1),(.lit 1)),((.dvar 1),(.dvar 1)),((.lit 1),(.lit 1)),((.dvar 2),(.dvar 2)),((.lit 1),(.lit 1)),((.dvar 3),(.dvar 3))]
theorem W7:aT R0 0 1048577 (run P1 [conForm] 55 (Code.l (Code.l (Code.r (Code.l (Code.r (Code.r (Code.r dp))))))) EG oz 1028) .normal [⟨1024,1024,0,0,0⟩,⟨1025,1025,0,0,0⟩,⟨1026,1026,0,0,0⟩,⟨1027,1027,0,0,0⟩] EG oz 1028 aaA=true:=by kernel_rfl
def P0:aD:=[((.cmp .lss (.dvar 4) (.pr 7 (.dvar 0) (.lit 0))),true),((.cmp .lss (.dvar 4) (.lit 0)),false),((.cmp .eql (.cell (.dvar 0) (.dvar 4) 0) (.lit 2)),true),((.seq (.ap 42 (.cell (.dvar 0) (.dvar 4) 2) (.lit 0) (.lit 0)) (.slit [66])),true),((.cmp .lss (.dvar 4) (.pr 7 (.dvar 1) (.lit 0))),true),((.cmp .eql (.cell (.dvar 1) (.dvar 4) 0) (.lit 0)),true),((.cmp .lss (.dvar 4) (.pr 7 (.dvar 2) (.lit 0))),true),((.cmp .lss (.bin .mul .i64 (.lit 4) (.bin .sub .i64 (.pr 32 (.dvar 3) (.cell (.dvar 0) (.dvar 4) 1)) (.cell (.dvar 2) (.dvar 4) 0))) (.lit (-4096))),false),((.cmp .lss (.bin .mul .i64 (.lit 4) (.bin .sub .i64 (.pr 32 (.dvar 3) (.cell (.dvar 0) (.dvar 4) 1)) (.cell (.dvar 2) (.dvar 4) 0))) (.lit 4095)),false)]
def aaz:bq:=[((.lit 1),(.pr 21 (.dvar 5) (.lit 0))),((.dvar 0),(.dvar 0)),((.pr 30 (.pr 7 (.dvar 0) (.lit 0)) (.lit 0)),(.pr 30 (.pr 7 (.dvar 0) (.lit 0)) (.lit 0))),((.pr 30 (.bin .add .i64 (.dvar 4) (.lit 1)) (.lit 0)),(.pr 30 (.dvar 4) (.lit 0))),((.dvar 0),(.dvar 0)),((.lit 1),(.lit 1)),((.lit 1),(.lit 1)),((.setc (.dvar 1) (.dvar 4) 0 (.lit 1)),(.dvar 1)),((.lit 1),(.lit 1)),((.dvar 2),(.dvar 2)),((.lit 1),(.lit 1)),((.dvar 3),(.dvar 3))]
theorem W6:aT R0 0 1048577 (run P0 [conForm] 55 (Code.l (Code.l (Code.r (Code.l (Code.r (Code.r (Code.r dp))))))) EG oz 1028) .normal [⟨1024,1024,0,0,0⟩,⟨1025,1025,0,0,0⟩,⟨1026,1026,0,0,0⟩,⟨1027,1027,0,0,0⟩] EG oz 1028 aaz=true:=by kernel_rfl
def PZ:aD:=[((.cmp .lss (.dvar 4) (.pr 7 (.dvar 0) (.lit 0))),true),((.cmp .lss (.dvar 4) (.lit 0)),false),((.cmp .eql (.cell (.dvar 0) (.dvar 4) 0) (.lit 2)),true),((.seq (.ap 42 (.cell (.dvar 0) (.dvar 4) 2) (.lit 0) (.lit 0)) (.slit [66])),true),((.cmp .lss (.dvar 4) (.pr 7 (.dvar 1) (.lit 0))),true),((.cmp .eql (.cell (.dvar 1) (.dvar 4) 0) (.lit 0)),false)]
def aay:bq:=[((.pr 21 (.dvar 5) (.lit 0)),(.pr 21 (.dvar 5) (.lit 0))),((.dvar 0),(.dvar 0)),((.pr 30 (.pr 7 (.dvar 0) (.lit 0)) (.lit 0)),(.pr 30 (.pr 7 (.dvar 0) (.lit 0)) (.lit 0))),((.pr 30 (.bin .add .i64 (.dvar 4) (.lit 1)) (.lit 0)),(.pr 30 (.dvar 4) (.lit 0))),((.dvar 0),(.dvar 0)),((.lit 1),(.lit 1)),((.lit 1),(.lit 1)),((.dvar 1),(.dvar 1)),((.lit 1),(.lit 1)),((.dvar 2),(.dvar 2)),((.lit 1),(.lit 1)),((.dvar 3),(.dvar 3))]
theorem W5:aT R0 0 1048577 (run PZ [conForm] 55 (Code.l (Code.l (Code.r (Code.l (Code.r (Code.r (Code.r dp))))))) EG oz 1028) .normal [⟨1024,1024,0,0,0⟩,⟨1025,1025,0,0,0⟩,⟨1026,1026,0,0,0⟩,⟨1027,1027,0,0,0⟩] EG oz 1028 aay=true:=by kernel_rfl
def PY:aD:=[((.cmp .lss (.dvar 4) (.pr 7 (.dvar 0) (.lit 0))),true),((.cmp .lss (.dvar 4) (.lit 0)),false),((.cmp .eql (.cell (.dvar 0) (.dvar 4) 0) (.lit 2)),true),((.seq (.ap 42 (.cell (.dvar 0) (.dvar 4) 2) (.lit 0) (.lit 0)) (.slit [66])),false)]
def aax:bq:=[((.pr 21 (.dvar 5) (.lit 0)),(.pr 21 (.dvar 5) (.lit 0))),((.dvar 0),(.dvar 0)),((.pr 30 (.pr 7 (.dvar 0) (.lit 0)) (.lit 0)),(.pr 30 (.pr 7 (.dvar 0) (.lit 0)) (.lit 0))),((.pr 30 (.bin .add .i64 (.dvar 4) (.lit 1)) (.lit 0)),(.pr 30 (.dvar 4) (.lit 0))),((.dvar 0),(.dvar 0)),((.lit 1),(.lit 1)),((.lit 1),(.lit 1)),((.dvar 1),(.dvar 1)),((.lit 1),(.lit 1)),((.dvar 2),(.dvar 2)),((.lit 1),(.lit 1)),((.dvar 3),(.dvar 3))]
theorem W4:aT R0 0 1048577 (run PY [conForm] 55 (Code.l (Code.l (Code.r (Code.l (Code.r (Code.r (Code.r dp))))))) EG oz 1028) .normal [⟨1024,1024,0,0,0⟩,⟨1025,1025,0,0,0⟩,⟨1026,1026,0,0,0⟩,⟨1027,1027,0,0,0⟩] EG oz 1028 aax=true:=by kernel_rfl
def PW:aD:=[((.cmp .lss (.dvar 4) (.pr 7 (.dvar 0) (.lit 0))),true),((.cmp .lss (.dvar 4) (.lit 0)),false),((.cmp .eql (.cell (.dvar 0) (.dvar 4) 0) (.lit 2)),false)]
def aaw:bq:=[((.pr 21 (.dvar 5) (.lit 0)),(.pr 21 (.dvar 5) (.lit 0))),((.dvar 0),(.dvar 0)),((.pr 30 (.pr 7 (.dvar 0) (.lit 0)) (.lit 0)),(.pr 30 (.pr 7 (.dvar 0) (.lit 0)) (.lit 0))),((.pr 30 (.bin .add .i64 (.dvar 4) (.lit 1)) (.lit 0)),(.pr 30 (.dvar 4) (.lit 0))),((.dvar 0),(.dvar 0)),((.lit 1),(.lit 1)),((.lit 1),(.lit 1)),((.dvar 1),(.dvar 1)),((.lit 1),(.lit 1)),((.dvar 2),(.dvar 2)),((.lit 1),(.lit 1)),((.dvar 3),(.dvar 3))]
theorem W3:aT R0 0 1048577 (run PW [conForm] 55 (Code.l (Code.l (Code.r (Code.l (Code.r (Code.r (Code.r dp))))))) EG oz 1028) .normal [⟨1024,1024,0,0,0⟩,⟨1025,1025,0,0,0⟩,⟨1026,1026,0,0,0⟩,⟨1027,1027,0,0,0⟩] EG oz 1028 aaw=true:=by kernel_rfl
def PV:aD:=[((.cmp .lss (.dvar 4) (.pr 7 (.dvar 0) (.lit 0))),false)]
def aav:bq:=[((.pr 21 (.dvar 5) (.lit 0)),(.pr 21 (.dvar 5) (.lit 0))),((.dvar 0),(.dvar 0)),((.lit 1),(.lit 1)),((.lit 1),(.lit 1)),((.dvar 1),(.dvar 1)),((.lit 1),(.lit 1)),((.dvar 2),(.dvar 2)),((.lit 1),(.lit 1)),((.dvar 3),(.dvar 3))]
theorem W2:aT R0 0 1048577 (run PV [] 55 (Code.l (Code.l (Code.r (Code.l (Code.r (Code.r (Code.r dp))))))) EG oz 1028) (.exit 0) [⟨1024,1024,0,0,0⟩,⟨1025,1025,0,0,0⟩,⟨1026,1026,0,0,0⟩,⟨1027,1027,0,0,0⟩] XG oz 1028 aav=true:=by kernel_rfl
def YV:aD:=[]
def aau:bq:=[((.pr 21 (.dvar 5) (.lit 0)),(.pr 21 (.ap 44 (.dvar 0) (.dvar 1) (.lit 0)) (.lit 0))),((.dvar 0),(.dvar 0)),((.lit 1),(.lit 1)),((.lit 1),(.lit 1)),((.dvar 1),(.ap 43 (.dvar 0) (.dvar 1) (.lit 0))),((.lit 1),(.lit 1)),((.dvar 2),(.ap 40 (.dvar 0) (.dvar 1) (.lit 0))),((.lit 1),(.lit 1)),((.dvar 3),(.ap 41 (.dvar 0) (.dvar 1) (.lit 0)))]
theorem W1:aT R0 0 1048577 (run YV [] 55 (Code.r (Code.r (Code.r (Code.r dp)))) XG oz 1028) .ret [⟨1024,1024,0,0,0⟩,⟨1025,1025,0,0,0⟩,⟨1026,1026,0,0,0⟩,⟨1027,1027,0,0,0⟩] RG OGZ 1028 aau=true:=by kernel_rfl
def hcGrow:HCon:={f:=34,args:=[cD],pre:=YK,nr:=0,np:=1,ns:=1,locs:=[⟨none,[0]⟩,⟨some 1024,[1]⟩],ins:=AI,v:=.symb (.cmp .neq (.ap 44 (D 0) (D 1) (.lit 0)) (.lit 0)),outs:=OGZ,nx:=1028}
theorem xg{c:HCon}(h:c.Sound F0 P ba b0 R0):∀x∈[c],x.Sound F0 P ba b0 R0:=fun x hx=>by rcases List.mem_cons.1 hx with rfl|hx;{exact h};cases hx
def Kz:Code:=Code.l (Code.l (Code.r (Code.l (Code.r (Code.r (Code.r dp))))))
theorem K9:dp=.seq (Code.l dp) (.seq (Code.l (Code.r dp)) (.seq (Code.l (Code.r (Code.r dp))) (.seq (.seq (Code.l (Code.l (Code.r (Code.r (Code.r dp))))) (.block 0 (.loop Kz))) (Code.r (Code.r (Code.r (Code.r dp))))))):=by kernel_rfl
theorem vT:hcGrow.Sound F0 P ba b0 R0:=by
 refine fS (fn:=Tryz.f34) (code:=dp) Tryz.func34 (by rfl) (by kernel_rfl) (by kernel_rfl) (by kernel_rfl) fun v hF hpre=> ?_;refine⟨.ret,RG,_,_,.inl rfl,?_,by rfl,rfl⟩;show HR 0 1048577 55 v dp (ax AL) (ag b0 AI 1026) .ret v (ax RG) (ag b0 OGZ 1028);have hpre0:=hpre;obtain⟨g0,hpre⟩:=aF hpre;obtain⟨g1,hpre⟩:=aF hpre;obtain⟨d,hd⟩:∃d,d=@Sx.dat v (D 0):=⟨_,rfl⟩;obtain⟨f,hf⟩:∃f,f=@Sx.dat v (D 1):=⟨_,rfl⟩;have hn:(d.toL.length:Int)<5000:=by have h:decide (((@Sx.dat v (D 0)).toL.length:Int)<5000)=true:=g0;rw[hd];exact of_decide_eq_true h
 have hfl:f.toL.length=d.toL.length:=by have h:decide (((@Sx.dat v (D 1)).toL.length:Int)=((@Sx.dat v (D 0)).toL.length:Int))=true:=g1;have:=of_decide_eq_true h;rw[hd,hf];omega
 have hpl:(AE d f).toL.length=d.toL.length+1:=plA_len d f _;generalize hPL:AE d f=pl at hpl;generalize hLB:L2 d f=lb;let V:Nat→Val:=fun k=>VL F0 [d,fg d pl lb f k,pl,lb,.int (k:Int),.int (dO (AH d pl lb f k))];rw[K9];have h1:HR 0 1048577 55 v (Code.l dp) (ax AL) (ag b0 AI 1026) .normal v (ax AL) (ag b0 AI 1026):=rn hF aC bO (aP _) Xc (by
  repeat' (first|exact al|refine aa ?_ ?_)
  all_goals rfl)
 have h2:HR 0 1048577 55 v (Code.l (Code.r dp)) (ax AL) (ag b0 AI 1026) .normal (V 0) (ax AL) (ag b0 oz 1028):=rnH hF (show @Holds v P3 from hpre0) bO (xg Kr) (aP _) Xb (by
  repeat' (first|exact al|refine aa ?_ ?_)
  all_goals first|rfl|exact hd.symm|exact hf.symm|skip
  {show v.fn 40 (@Sx.dat v (D 0)) (@Sx.dat v (D 1)) _=pl;rw[hF,←hd,←hf];exact hPL};show v.fn 41 (@Sx.dat v (D 0)) (@Sx.dat v (D 1)) _=lb;rw[hF,←hd,←hf];exact hLB)
 have h3:HR 0 1048577 55 (V 0) (Code.l (Code.r (Code.r dp))) (ax AL) (ag b0 oz 1028) .normal (V 0) (ax XG) (ag b0 oz 1028):=rn (v:=V 0) rfl aC bO (aP _) Xa (by
  repeat' (first|exact al|refine aa ?_ ?_)
  all_goals rfl)
 have h4:HR 0 1048577 55 (V 0) (Code.l (Code.l (Code.r (Code.r (Code.r dp))))) (ax XG) (ag b0 oz 1028) .normal (V 0) (ax EG) (ag b0 oz 1028):=rn (v:=V 0) rfl aC bO (aP _) W9 (by
  repeat' (first|exact al|refine aa ?_ ?_)
  all_goals rfl)
 have hstep:∀k,k<d.toL.length→HR 0 1048577 55 (V k) Kz (ax EG) (ag b0 oz 1028) .normal (V (k+1)) (ax EG) (ag b0 oz 1028):=fun k hk=>by
  have c0:@Bx.eval (V k) (lt (D 4) (ae (D 0)))=true:=zm (show(k:Int)<d.toL.length by omega);have c1:@Bx.eval (V k) (lt (D 4) (.lit 0))=false:=E5 (show ¬(k:Int)<0 by omega);have e3:Dat.int (aU .i64 ((k:Int)+1))=Dat.int ((k+1:Nat):Int):=(by rw[bp (by omega) (by omega)];rfl);have hno:iQ d pl lb (fg d pl lb f k) k=false→(fg d pl lb f k=fg d pl lb f (k+1))∧dO (dO (AH d pl lb f k) != 0)=dO (dO (AH d pl lb f (k+1)) != 0):=fun h=>(by simp [fg,AH,h]);have hyes:iQ d pl lb (fg d pl lb f k) k=true→((fg d pl lb f k).setc (k:Int) 0 (.int 1)=fg d pl lb f (k+1))∧(1:Int)=dO (dO (AH d pl lb f (k+1)) != 0):=fun h=>(by simp only[fg,AH,h,Bool.or_true];exact⟨rfl,by decide⟩);have c2:∀b,decide (iA d k=2)=b→@Bx.eval (V k) (eq (.cell (D 0) (D 4) 0) (.lit 2))=b:=fun b h=>h;have c3:∀b,(qY (opD d k)==[66])=b→@Bx.eval (V k) (.seq (.ap 42 (.cell (D 0) (D 4) 2) (.lit 0) (.lit 0)) (.slit [66]))=b:=fun b h=>h;have c4:@Bx.eval (V k) (lt (D 4) (ae (D 1)))=true:=zm (show(k:Int)<(fg d pl lb f k).toL.length by rw[tH];omega);have c5:∀b,decide (((fg d pl lb f k).cell (k:Int) 0).toI=0)=b→@Bx.eval (V k) (eq (.cell (D 1) (D 4) 0) (.lit 0))=b:=fun b h=>h;have c6:@Bx.eval (V k) (lt (D 4) (ae (D 2)))=true:=zm (show(k:Int)<pl.toL.length by omega);have c7:∀b,decide (vU d pl lb k< -4096)=b→@Bx.eval (V k) (lt (.bin .mul .i64 (.lit 4) (.bin .sub .i64 (.pr 32 (D 3) (.cell (D 0) (D 4) 1)) (.cell (D 2) (D 4) 0))) (.lit (-4096)))=b:=fun b h=>h;have c8:∀b,decide (vU d pl lb k<4095)=b→@Bx.eval (V k) (lt (.bin .mul .i64 (.lit 4) (.bin .sub .i64 (.pr 32 (D 3) (.cell (D 0) (D 4) 1)) (.cell (D 2) (D 4) 0))) (.lit 4095))=b:=fun b h=>h;cases q2:decide (iA d k=2)with
  |false=>
   obtain⟨n1,n2⟩:=hno (by simp [iQ,q2]);refine rn (v:=V k) rfl (show @Holds (V k) PW from af c0 (af c1 (af (c2 _ q2) aC))) (dE eN) (aP _) W3 ?_;repeat' (first|exact al|refine aa ?_ ?_)
   all_goals first|rfl|exact e3|exact n1|exact congrArg Dat.int n2
  |true=>
   cases q3:(qY (opD d k)==[66])with
   |false=>
    obtain⟨n1,n2⟩:=hno (by simp [iQ,q2,q3]);refine rn (v:=V k) rfl (show @Holds (V k) PY from af c0 (af c1 (af (c2 _ q2) (af (c3 _ q3) aC)))) (dE eN) (aP _) W4 ?_;repeat' (first|exact al|refine aa ?_ ?_)
    all_goals first|rfl|exact e3|exact n1|exact congrArg Dat.int n2
   |true=>
    cases q5:decide (((fg d pl lb f k).cell (k:Int) 0).toI=0)with
    |false=>
     obtain⟨n1,n2⟩:=hno (by simp [iQ,q2,q3,q5]);refine rn (v:=V k) rfl (show @Holds (V k) PZ from af c0 (af c1 (af (c2 _ q2) (af (c3 _ q3) (af c4 (af (c5 _ q5) aC)))))) (dE eN) (aP _) W5 ?_;repeat' (first|exact al|refine aa ?_ ?_)
     all_goals first|rfl|exact e3|exact n1|exact congrArg Dat.int n2
    |true=>
     cases q7:decide (vU d pl lb k< -4096)with
     |true=>
      obtain⟨n1,n2⟩:=hyes (by simp only[iQ,q2,q3,q5,q7];rfl);refine rn (v:=V k) rfl (show @Holds (V k) P2 from af c0 (af c1 (af (c2 _ q2) (af (c3 _ q3) (af c4 (af (c5 _ q5) (af c6 (af (c7 _ q7) aC)))))))) (dE eN) (aP _) W8 ?_;repeat' (first|exact al|refine aa ?_ ?_)
      all_goals first|rfl|exact e3|exact n1|exact congrArg Dat.int n2
     |false=>
      cases q8:decide (vU d pl lb k<4095)with
      |true=>
       obtain⟨n1,n2⟩:=hno (by simp only[iQ,q2,q3,q5,q7,q8];rfl);refine rn (v:=V k) rfl (show @Holds (V k) P1 from af c0 (af c1 (af (c2 _ q2) (af (c3 _ q3) (af c4 (af (c5 _ q5) (af c6 (af (c7 _ q7) (af (c8 _ q8) aC))))))))) (dE eN) (aP _) W7 ?_;repeat' (first|exact al|refine aa ?_ ?_)
       all_goals first|rfl|exact e3|exact n1|exact congrArg Dat.int n2
      |false=>
       obtain⟨n1,n2⟩:=hyes (by simp only[iQ,q2,q3,q5,q7,q8];rfl);refine rn (v:=V k) rfl (show @Holds (V k) P0 from af c0 (af c1 (af (c2 _ q2) (af (c3 _ q3) (af c4 (af (c5 _ q5) (af c6 (af (c7 _ q7) (af (c8 _ q8) aC))))))))) (dE eN) (aP _) W6 ?_;repeat' (first|exact al|refine aa ?_ ?_)
       all_goals first|rfl|exact e3|exact n1|exact congrArg Dat.int n2
 have hx:HR 0 1048577 55 (V d.toL.length) Kz (ax EG) (ag b0 oz 1028) (.exit 0) (V d.toL.length) (ax XG) (ag b0 oz 1028):=
  rn (v:=V d.toL.length) rfl (show @Holds (V d.toL.length) PV from af (E5 (show ¬((d.toL.length:Nat):Int)<d.toL.length by omega)) aC) bO (aP _) W2 (by
   repeat' (first|exact al|refine aa ?_ ?_)
   all_goals rfl)
 have h5:=HT.block (HT.loop (aP _) d.toL.length V hstep hx (by simp));have h6:HR 0 1048577 55 (V d.toL.length) (Code.r (Code.r (Code.r (Code.r dp)))) (ax XG) (ag b0 oz 1028) .ret v (ax RG) (ag b0 OGZ 1028):=rn (v:=V d.toL.length) rfl aC bO (aP _) W1 (by
  have a0:v.fn 40 (@Sx.dat v (D 0)) (@Sx.dat v (D 1)) (.int 0)=pl:=(by rw[hF,←hd,←hf];exact hPL);have a1:v.fn 41 (@Sx.dat v (D 0)) (@Sx.dat v (D 1)) (.int 0)=lb:=(by rw[hF,←hd,←hf];exact hLB);have a3:v.fn 43 (@Sx.dat v (D 0)) (@Sx.dat v (D 1)) (.int 0)=fg d pl lb f d.toL.length:=(by rw[hF,←hd,←hf,←hPL,←hLB];rfl);have a4:v.fn 44 (@Sx.dat v (D 0)) (@Sx.dat v (D 1)) (.int 0)=.int (dO (AH d pl lb f d.toL.length)):=(by rw[hF,←hd,←hf,←hPL,←hLB];rfl);repeat' (first|exact al|refine aa ?_ ?_)
  all_goals first|rfl|exact hd|exact a0.symm|exact a1.symm|exact a3.symm|skip
  show Dat.int (dO (dO (AH d pl lb f d.toL.length) != 0))=Dat.int (dO ((v.fn 44 (@Sx.dat v (D 0)) (@Sx.dat v (D 1)) (.int 0)).toI != 0));rw[a4];rfl)
 exact HT.seq (aP _) h1 (HT.seq (aP _) h2 (HT.seq (aP _) h3 (HT.seq (aP _) (HT.seq (aP _) h4 h5) h6)))
end
end Go.Proofs.YtlagbijmfchkeaaGreat
namespace Go.Proofs.YtlagbijmfchkeaaGreat
open Go.Tw Go.Tw.NE
noncomputable section
def qD:Code:=match Tryz.f33.body with
 |some c=>c
 |none=>.skip
def Qm:AV:=.fn (.func 34) [] []
def AU:List (Nat×AV):=[(0,cD),(1,Qm)]
def Uq:Sx:=.pr 18 (ae (D 0)) (.pr 12 (.lit 0) (.pr 14 (.lit 0) (.lit 0)))
def OU0:List (Nat×Ob):=[(1024,Bm .unk .unk),(1025,OB Uq (.lit 1))]
def OUZ:List (Nat×Ob):=[(1024,Bm (LV 1026 [cX] (.lit 1)) (MV 1027)),(1025,OB (.ap 45 (D 0) (.lit 0) (.lit 0)) (.lit 1)),(1026,OI (.ap 46 (D 0) (.lit 0) (.lit 0)) (.lit 1)),(1027,OM (.ap 47 (D 0) (.lit 0) (.lit 0)))]
theorem mU:cM R0 1048577 [⟨1024,1024,0,0,0⟩,⟨1025,1025,0,0,0⟩] (ax AU) (ag b0 OU0 1026) AU AI 1026=some [(D 0,D 0),(.lit 1,.lit 1),(Uq,D 1),(.lit 1,.lit 1)]:=by kernel_rfl
def PN:aD:=[((.cmp .lss (.pr 7 (.dvar 0) (.lit 0)) (.lit 5000)),true),((.cmp .eql (.pr 7 (.dvar 1) (.lit 0)) (.pr 7 (.dvar 0) (.lit 0))),true),((.cmp .eql (.ap 44 (.dvar 0) (.dvar 1) (.lit 0)) (.lit 0)),true)]
def aal:bq:=[((.dvar 0),(.dvar 0)),((.lit 1),(.lit 1)),((.lit 1),(.lit 1)),((.ap 43 (.dvar 0) (.dvar 1) (.lit 0)),(.ap 45 (.dvar 0) (.lit 0) (.lit 0))),((.lit 1),(.lit 1)),((.ap 40 (.dvar 0) (.dvar 1) (.lit 0)),(.ap 46 (.dvar 0) (.lit 0) (.lit 0))),((.lit 1),(.lit 1)),((.ap 41 (.dvar 0) (.dvar 1) (.lit 0)),(.ap 47 (.dvar 0) (.lit 0) (.lit 0)))]
theorem WO:aT R0 0 1048577 (MX PN [] [hcGrow] 7 (Code.l (Code.l qD)) AU AI 1026) (.exit 0) [⟨1024,1024,0,0,0⟩,⟨1025,1025,1,0,0⟩,⟨1026,1026,0,0,0⟩,⟨1027,1027,0,0,0⟩] [] OUZ 1028 aal=true:=by kernel_rfl
def PL:aD:=[((.cmp .lss (.pr 7 (.dvar 0) (.lit 0)) (.lit 5000)),true),((.cmp .eql (.pr 7 (.dvar 1) (.lit 0)) (.pr 7 (.dvar 0) (.lit 0))),true),((.cmp .eql (.ap 44 (.dvar 0) (.dvar 1) (.lit 0)) (.lit 0)),false)]
def aak:bq:=[((.dvar 0),(.dvar 0)),((.lit 1),(.lit 1)),((.ap 43 (.dvar 0) (.dvar 1) (.lit 0)),(.dvar 1)),((.lit 1),(.lit 1))]
theorem WN:aT R0 0 1048577 (MX PL [] [hcGrow] 7 (Code.l (Code.l qD)) AU AI 1026) .normal [⟨1024,1024,0,0,0⟩,⟨1025,1025,1,0,0⟩] AU AI 1026 aak=true:=by kernel_rfl
def R5:aD:=[(lt (ae (D 0)) (.lit 5000),true)]
def hcUntil:HCon:={f:=33,args:=[cD,Qm],pre:=R5,nr:=0,np:=1,ns:=1,locs:=[⟨none,[0]⟩,⟨some 1024,[1]⟩],ins:=OU0,v:=.tup [],outs:=OUZ,nx:=1028}
theorem FP:qD=.block 0 (.loop (Code.l (Code.l qD))):=by kernel_rfl
theorem N7{v:Val}:@Sx.dat v Uq=Ur (@Sx.dat v (D 0)):=by show Dat.lst (List.replicate ((@Sx.dat v (D 0)).toL.length:Int).toNat _)=_;rw[Int.toNat_natCast];rfl
theorem B9:hcUntil.Sound F0 P ba b0 R0:=by
 refine fS (fn:=Tryz.f33) (code:=qD) Tryz.func33 (by rfl) (by kernel_rfl) (by kernel_rfl) (by kernel_rfl) fun v hF hpre=> ?_;refine⟨.normal,[],_,_,.inr rfl,?_,by rfl,rfl⟩;show HR 0 1048577 7 v qD (ax AU) (ag b0 OU0 1026) .normal v (ax []) (ag b0 OUZ 1028);obtain⟨g0,hpre⟩:=aF hpre;obtain⟨d,hd⟩:∃d,d=@Sx.dat v (D 0):=⟨_,rfl⟩;let V:Nat→Val:=fun j=>VL F0 [d,jh d j];have c0:∀j,@Bx.eval (V j) (lt (ae (D 0)) (.lit 5000))=true:=fun j=>by have h:decide (((@Sx.dat v (D 0)).toL.length:Int)<5000)=true:=g0;rw[←hd]at h;exact h
 have c1:∀j,@Bx.eval (V j) (eq (ae (D 1)) (ae (D 0)))=true:=fun j=>N9 (show((jh d j).toL.length:Int)=(d.toL.length:Int) by rw[mX]);obtain⟨n,hn1,hn2,hn3⟩:=Kf d;have c2:∀j b,oH d (jh d j)= !b→@Bx.eval (V j) (.cmp .eql (.ap 44 (.dvar 0) (.dvar 1) (.lit 0)) (.lit 0))=b:=fun j b h=>by show decide ((dO (oH d (jh d j)))=0)=b;rw[h];cases b<;>rfl
 rw[FP];refine HT.pre (aP _) (aI base0 mU (v':=V 0) ?_) (HT.block (HT.loop (aP _) n V (fun j hj=> ?_) ?_ (by simp)))
 ·repeat' (first|exact al|refine aa ?_ ?_)
  all_goals first|rfl|exact hd.symm|skip
  rw[N7,←hd];rfl
 ·refine rnH (v:=V j) rfl (show @Holds (V j) PL from af (c0 j) (af (c1 j) (af (c2 j false (hn1 j hj)) aC))) bO (xg vT) (aP _) WN ?_;repeat' (first|exact al|refine aa ?_ ?_)
  all_goals rfl
 refine rnH (v:=V n) rfl (show @Holds (V n) PN from af (c0 n) (af (c1 n) (af (c2 n true hn2) aC))) bO (xg vT) (aP _) WO ?_;have hst:Hp d (jh d n)=jh d n:=zC d hn2;repeat' (first|exact al|refine aa ?_ ?_)
 all_goals first|rfl|exact hd|skip
 {show Hp d (jh d n)=v.fn 45 (@Sx.dat v (D 0)) _ _;rw[hF,←hd,hst];exact hn3.symm};{show AE d (jh d n)=v.fn 46 (@Sx.dat v (D 0)) _ _;rw[hF,←hd,←hn3];rfl};show L2 d (jh d n)=v.fn 47 (@Sx.dat v (D 0)) _ _;rw[hF,←hd,←hn3];rfl
