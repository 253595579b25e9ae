/-
  A part of the law's proof over the abstract evaluator. Conditions: those of each theorem, as it states them.
-/
import Derived.Test.YtkklcbfbjfhacaaGreatDoorB1
set_option linter.all false
namespace Go.Tw.LX
def D(i:Nat):Sx:=.dvar i
def I(n:Int):Sx:=.lit n
def N(e:Sx):Sx:=.pr 30 e (.lit 0)
def lt(a b:Sx):Bx:=.cmp .lss a b
def eq(a b:Sx):Bx:=.cmp .eql a b
def J(a b:Sx):Sx:=.pr 9 a b
def O:Sx:=.pr 13 (.lit 0) (.lit 0)
def ln(x:Sx):Sx:=.pr 0 x (.lit 0)
def A1(f:Nat)(x:Sx):Sx:=.ap f x (.lit 0) (.lit 0)
def A2(f:Nat)(x y:Sx):Sx:=.ap f x y (.lit 0)
def A3(f:Nat)(x y z:Sx):Sx:=.ap f x y z
def muIx(s:List Dat):Nat:=(aJ s 0).toL.length - (aJ s 3).toI.toNat
def muSg(s:List Dat):Nat:=(aJ s 2).toI.toNat - (aJ s 3).toI.toNat
def muRn(s:List Dat):Nat:=(aJ s 0).toS.length - (aJ s 4).toI.toNat
def muSk(s:List Dat):Nat:=(aJ s 0).toS.length - (aJ s 3).toI.toNat
def muQu(s:List Dat):Nat:=(aJ s 0).toS.length - (aJ s 13).toI.toNat
def muPi(s:List Dat):Nat:=(aJ s 9).toI.toNat - (aJ s 10).toI.toNat
def muSc(s:List Dat):Nat:=2*((aJ s 0).toS.length - (aJ s 8).toI.toNat)+(if(aJ s 4).toI=0 then 1 else 0)
def kk0:ST:=(.leaf [(I 1),(J (.pr 12 (.slit [105,110,116]) (.pr 14 (I 0) (I 0))) (J (.pr 12 (.slit [99,104,97,114]) (.pr 14 (I 0) (I 0))) (J (.pr 12 (.slit [115,104,111,114,116]) (.pr 14 (I 0) (I 0))) (J (.pr 12 (.slit [108,111,110,103]) (.pr 14 (I 0) (I 0))) (J (.pr 12 (.slit [117,110,115,105,103,110,101,100]) (.pr 14 (I 0) (I 0))) (J (.pr 12 (.slit [115,105,103,110,101,100]) (.pr 14 (I 0) (I 0))) (J (.pr 12 (.slit [118,111,105,100]) (.pr 14 (I 0) (I 0))) (J (.pr 12 (.slit [115,116,114,117,99,116]) (.pr 14 (I 0) (I 0))) (J (.pr 12 (.slit [105,102]) (.pr 14 (I 0) (I 0))) (J (.pr 12 (.slit [101,108,115,101]) (.pr 14 (I 0) (I 0))) (J (.pr 12 (.slit [119,104,105,108,101]) (.pr 14 (I 0) (I 0))) (J (.pr 12 (.slit [102,111,114]) (.pr 14 (I 0) (I 0))) (J (.pr 12 (.slit [100,111]) (.pr 14 (I 0) (I 0))) (J (.pr 12 (.slit [114,101,116,117,114,110]) (.pr 14 (I 0) (I 0))) (J (.pr 12 (.slit [98,114,101,97,107]) (.pr 14 (I 0) (I 0))) (J (.pr 12 (.slit [99,111,110,116,105,110,117,101]) (.pr 14 (I 0) (I 0))) (J (.pr 12 (.slit [115,105,122,101,111,102]) (.pr 14 (I 0) (I 0))) (J (.pr 12 (.slit [103,111,116,111]) (.pr 14 (I 0) (I 0))) (J (.pr 12 (.slit [115,119,105,116,99,104]) (.pr 14 (I 0) (I 0))) (J (.pr 12 (.slit [99,97,115,101]) (.pr 14 (I 0) (I 0))) (J (.pr 12 (.slit [100,101,102,97,117,108,116]) (.pr 14 (I 0) (I 0))) O))))))))))))))))))))),(I 1)])
def kkE0:bA:=[]
def kkE1:bA:=[((D 1),(I 1)),((D 0),(.ap 1 (I 0) (I 0) (I 0))),((D 1),(I 1))]
def spKk(F:Fn):fA:=(kk0.tr F 2)
def ss0:ST:=(.leaf [(I 1),(J (.pr 12 (.slit [60,60,61]) (.pr 14 (I 0) (I 0))) (J (.pr 12 (.slit [62,62,61]) (.pr 14 (I 0) (I 0))) (J (.pr 12 (.slit [45,62]) (.pr 14 (I 0) (I 0))) (J (.pr 12 (.slit [43,43]) (.pr 14 (I 0) (I 0))) (J (.pr 12 (.slit [45,45]) (.pr 14 (I 0) (I 0))) (J (.pr 12 (.slit [60,61]) (.pr 14 (I 0) (I 0))) (J (.pr 12 (.slit [62,61]) (.pr 14 (I 0) (I 0))) (J (.pr 12 (.slit [61,61]) (.pr 14 (I 0) (I 0))) (J (.pr 12 (.slit [33,61]) (.pr 14 (I 0) (I 0))) (J (.pr 12 (.slit [38,38]) (.pr 14 (I 0) (I 0))) (J (.pr 12 (.slit [124,124]) (.pr 14 (I 0) (I 0))) (J (.pr 12 (.slit [60,60]) (.pr 14 (I 0) (I 0))) (J (.pr 12 (.slit [62,62]) (.pr 14 (I 0) (I 0))) (J (.pr 12 (.slit [43,61]) (.pr 14 (I 0) (I 0))) (J (.pr 12 (.slit [45,61]) (.pr 14 (I 0) (I 0))) (J (.pr 12 (.slit [42,61]) (.pr 14 (I 0) (I 0))) (J (.pr 12 (.slit [47,61]) (.pr 14 (I 0) (I 0))) (J (.pr 12 (.slit [37,61]) (.pr 14 (I 0) (I 0))) (J (.pr 12 (.slit [38,61]) (.pr 14 (I 0) (I 0))) (J (.pr 12 (.slit [124,61]) (.pr 14 (I 0) (I 0))) (J (.pr 12 (.slit [94,61]) (.pr 14 (I 0) (I 0))) (J (.pr 12 (.slit [40]) (.pr 14 (I 0) (I 0))) (J (.pr 12 (.slit [41]) (.pr 14 (I 0) (I 0))) (J (.pr 12 (.slit [123]) (.pr 14 (I 0) (I 0))) (J (.pr 12 (.slit [125]) (.pr 14 (I 0) (I 0))) (J (.pr 12 (.slit [91]) (.pr 14 (I 0) (I 0))) (J (.pr 12 (.slit [93]) (.pr 14 (I 0) (I 0))) (J (.pr 12 (.slit [59]) (.pr 14 (I 0) (I 0))) (J (.pr 12 (.slit [44]) (.pr 14 (I 0) (I 0))) (J (.pr 12 (.slit [46]) (.pr 14 (I 0) (I 0))) (J (.pr 12 (.slit [45]) (.pr 14 (I 0) (I 0))) (J (.pr 12 (.slit [43]) (.pr 14 (I 0) (I 0))) (J (.pr 12 (.slit [42]) (.pr 14 (I 0) (I 0))) (J (.pr 12 (.slit [47]) (.pr 14 (I 0) (I 0))) (J (.pr 12 (.slit [37]) (.pr 14 (I 0) (I 0))) (J (.pr 12 (.slit [38]) (.pr 14 (I 0) (I 0))) (J (.pr 12 (.slit [124]) (.pr 14 (I 0) (I 0))) (J (.pr 12 (.slit [94]) (.pr 14 (I 0) (I 0))) (J (.pr 12 (.slit [126]) (.pr 14 (I 0) (I 0))) (J (.pr 12 (.slit [33]) (.pr 14 (I 0) (I 0))) (J (.pr 12 (.slit [60]) (.pr 14 (I 0) (I 0))) (J (.pr 12 (.slit [62]) (.pr 14 (I 0) (I 0))) (J (.pr 12 (.slit [61]) (.pr 14 (I 0) (I 0))) (J (.pr 12 (.slit [63]) (.pr 14 (I 0) (I 0))) (J (.pr 12 (.slit [58]) (.pr 14 (I 0) (I 0))) O))))))))))))))))))))))))))))))))))))))))))))),(I 1)])
def ssE0:bA:=[]
def ssE1:bA:=[((D 1),(I 1)),((D 0),(.ap 2 (I 0) (I 0) (I 0))),((D 1),(I 1))]
def spSs(F:Fn):fA:=(ss0.tr F 2)
def le0:ST:=(.ask (lt (D 0) (I 97)) (.ask (lt (D 0) (I 65)) (.ask (eq (D 0) (I 95)) .none (.leaf [(I 1),(I 0)])) (.ask (lt (D 0) (I 91)) (.leaf [(I 1),(I 1)]) (.ask (eq (D 0) (I 95)) (.leaf [(I 1),(I 1)]) (.leaf [(I 1),(I 0)])))) (.ask (lt (D 0) (I 123)) (.leaf [(I 1),(I 1)]) (.ask (lt (D 0) (I 65)) .none (.ask (lt (D 0) (I 91)) .none (.ask (eq (D 0) (I 95)) .none (.leaf [(I 1),(I 0)]))))))
def le0c:List aY:=[[((lt (D 0) (I 65)),true),((eq (D 0) (I 95)),true)],[((lt (D 0) (I 123)),false),((lt (D 0) (I 65)),true)],[((lt (D 0) (I 123)),false),((lt (D 0) (I 91)),true)],[((lt (D 0) (I 123)),false),((eq (D 0) (I 95)),true)]]
def leE0:bA:=[((N (D 0)),(N (D 0)))]
def leE1:bA:=[((.pr 21 (D 0) (I 0)),(.pr 21 (.ap 7 (D 0) (I 0) (I 0)) (I 0)))]
def spLe(F:Fn):fA:=(le0.tr F 1)
def di0:ST:=(.ask (lt (D 0) (I 48)) (.leaf [(I 1),(I 0)]) (.ask (lt (D 0) (I 58)) (.leaf [(I 1),(I 1)]) (.leaf [(I 1),(I 0)])))
def diE0:bA:=[((N (D 0)),(N (D 0)))]
def diE1:bA:=[((.pr 21 (D 0) (I 0)),(.pr 21 (.ap 8 (D 0) (I 0) (I 0)) (I 0)))]
def spDi(F:Fn):fA:=(di0.tr F 1)
def ix0:ST:=(.leaf [(I 0),(D 0),(D 2),(D 1)])
def ix1:ST:=(.leaf [(I 0),(D 0),(D 1),(D 2),(I 0)])
def ix3:ST:=(.ask (lt (D 3) (cL (D 0))) (.ask (.seq (.dvar 2) (.cell (.dvar 0) (.dvar 3) 0)) (.leaf [(I 1),(D 0),(D 1),(N (D 3)),(I 0)]) (.leaf [(I 0),(D 0),(D 1),(D 2),(N (.bin .add .i64 (D 3) (I 1)))])) (.leaf [(I 2),(D 0),(D 1),(I 0),(I 0)]))
def ix3v:aY:=[((lt (D 3) (I 0)),false)]
def ix5:ST:=(.leaf [(I 1),(D 0),(D 1),(I (-1))])
def ixE0:bA:=[((D 2),(D 2)),((D 1),(D 1)),((D 0),(D 0)),((D 2),(D 2))]
def ixE1:bA:=[((N (D 2)),(N (.ap 9 (D 0) (D 1) (D 2)))),((D 0),(D 0)),((D 1),(D 2))]
def spIx(F:Fn):fA:=(aD (ix0.tr F 3) (aD (aD (ix1.tr F 4) (ie 0 (fD (ix3.tr F 4) muIx))) (ix5.tr F 3)))
def pi0:ST:=(.leaf [(I 0),(D 0),(N (D 1)),(N (D 2))])
def pi1:ST:=(.ask (.seq (.dvar 0) (.slit [])) (.leaf [(I 1),(I 0),(I 2),(I 0)]) (.leaf [(I 0),(D 0),(N (D 1)),(N (D 2))]))
def pi2:ST:=(.ask (eq (D 1) (I 0)) (.leaf [(I 0),(D 0),(N (D 1)),(N (D 2)),(I 1)]) (.leaf [(I 0),(D 0),(N (D 1)),(N (D 2)),(I 0)]))
def pi3:ST:=(.leaf [(I 0),(D 0),(N (D 1)),(N (D 2)),(.pr 21 (D 3) (I 0)),(D 0)])
def pi3v:aY:=[((lt (D 1) (I 2)),false),((lt (I 36) (D 1)),false),((lt (D 2) (I 1)),false),((lt (I 64) (D 2)),false)]
def pi4:ST:=(.ask (lt (D 1) (I 37)) (.leaf [(I 0),(D 0),(N (D 1)),(N (D 2)),(.pr 21 (D 3) (I 0)),(D 4)]) .none)
def pi4c:List aY:=[[((lt (I 36) (D 1)),false),((lt (D 1) (I 37)),false)]]
def pi4v:aY:=[((lt (D 1) (I 2)),false),((lt (I 36) (D 1)),false),((lt (D 2) (I 1)),false),((lt (I 64) (D 2)),false)]
def pi5:ST:=(.ask (eq (D 2) (I 0)) .none (.ask (lt (D 2) (I 0)) .none (.ask (lt (D 2) (I 65)) (.leaf [(I 0),(D 0),(N (D 1)),(N (D 2)),(.pr 21 (D 3) (I 0)),(D 4)]) .none)))
def pi5c:List aY:=[[((lt (D 2) (I 1)),false),((eq (D 2) (I 0)),true)],[((lt (D 2) (I 1)),false),((lt (D 2) (I 0)),true)],[((lt (I 64) (D 2)),false),((lt (D 2) (I 65)),false)]]
def pi5v:aY:=[((lt (D 1) (I 2)),false),((lt (I 36) (D 1)),false),((lt (D 2) (I 1)),false),((lt (I 64) (D 2)),false)]
def pi6:ST:=(.leaf [(I 0),(D 0),(N (D 1)),(N (D 2)),(.pr 21 (D 3) (I 0)),(D 4)])
def pi6v:aY:=[((lt (D 1) (I 2)),false),((lt (I 36) (D 1)),false),((lt (D 2) (I 1)),false),((lt (I 64) (D 2)),false)]
def pi7:ST:=(.ask (eq (D 1) (I 10)) (.leaf [(I 0),(D 0),(N (D 1)),(N (D 2)),(.pr 21 (D 3) (I 0)),(D 4),(I 1844674407370955162)]) (.ask (eq (D 1) (I 16)) (.leaf [(I 0),(D 0),(N (D 1)),(N (D 2)),(.pr 21 (D 3) (I 0)),(D 4),(I 1152921504606846976)]) (.ask (eq (.wrap .u64 (.dvar 1)) (I 0)) .none (.leaf [(I 0),(D 0),(N (D 1)),(N (D 2)),(.pr 21 (D 3) (I 0)),(D 4),(N (.bin .add .u64 (.bin .quo .u64 (.lit 18446744073709551615) (.wrap .u64 (.dvar 1))) (.lit 1)))]))))
def pi7c:List aY:=[[((lt (D 1) (I 2)),false),((lt (I 36) (D 1)),false),((eq (.wrap .u64 (.dvar 1)) (I 0)),true)]]
def pi7v:aY:=[((lt (D 1) (I 2)),false),((lt (I 36) (D 1)),false),((lt (D 2) (I 1)),false),((lt (I 64) (D 2)),false)]
def pi8:ST:=(.ask (lt (.wrap .u64 (.dvar 2)) (I 0)) .none (.leaf [(I 0),(D 0),(N (D 1)),(N (D 2)),(.pr 21 (D 3) (I 0)),(D 4),(N (D 5)),(N (.bin .sub .u64 (.bin .shl .u64 (.lit 1) (.wrap .u64 (.dvar 2))) (.lit 1)))]))
def pi8c:List aY:=[[((lt (.wrap .u64 (.dvar 2)) (I 0)),true)]]
def pi9:ST:=(.leaf [(I 0),(D 0),(N (D 1)),(N (D 2)),(.pr 21 (D 3) (I 0)),(D 4),(N (D 5)),(N (D 6)),(I 0)])
def pi10:ST:=(.leaf [(I 0),(D 0),(N (D 1)),(N (D 2)),(.pr 21 (D 3) (I 0)),(D 4),(N (D 5)),(N (D 6)),(.pr 21 (D 7) (I 0)),(I 0)])
def pi11:ST:=(.leaf [(I 0),(N (D 1)),(N (D 2)),(.pr 21 (D 3) (I 0)),(D 4),(N (D 5)),(N (D 6)),(.pr 21 (D 7) (I 0)),(N (D 8)),(.pr 16 (D 0) (I 0)),(N (cL (.pr 16 (D 0) (I 0)))),(I 0)])
def pi13:ST:=(.ask (lt (D 10) (D 9)) (.ask (lt (D 10) (cL (D 8))) (.ask (eq (.cell (D 8) (D 10) 0) (I 95)) (.ask (eq (D 2) (I 0)) (.ask (lt (.cell (D 8) (D 10) 0) (I 48)) .none (.ask (lt (.cell (D 8) (D 10) 0) (I 58)) .none (.ask (lt (.bin .or .u8 (.cell (.dvar 8) (.dvar 10) 0) (.lit 32)) (I 97)) (.leaf [(I 1),(I 0),(I 2),(I 0),(I 0),(I 0),(I 0),(I 0),(I 0),(I 0),(I 0),(I 0)]) (.ask (lt (.bin .or .u8 (.cell (.dvar 8) (.dvar 10) 0) (.lit 32)) (I 123)) (.ask (lt (.bin .add .u8 (.bin .sub .u8 (.bin .or .u8 (.cell (.dvar 8) (.dvar 10) 0) (.lit 32)) (.lit 97)) (.lit 10)) (.wrap .u8 (.dvar 0))) (.ask (lt (D 7) (D 4)) (.ask (lt (.bin .add .u64 (.bin .mul .u64 (.dvar 7) (.wrap .u64 (.dvar 0))) (.wrap .u64 (.bin .add .u8 (.bin .sub .u8 (.bin .or .u8 (.cell (.dvar 8) (.dvar 10) 0) (.lit 32)) (.lit 97)) (.lit 10)))) (.bin .mul .u64 (.dvar 7) (.wrap .u64 (.dvar 0)))) (.leaf [(I 1),(N (D 5)),(I 1),(I 0),(I 0),(I 0),(I 0),(I 0),(I 0),(I 0),(I 0),(I 0)]) (.ask (lt (D 5) (.bin .add .u64 (.bin .mul .u64 (.dvar 7) (.wrap .u64 (.dvar 0))) (.wrap .u64 (.bin .add .u8 (.bin .sub .u8 (.bin .or .u8 (.cell (.dvar 8) (.dvar 10) 0) (.lit 32)) (.lit 97)) (.lit 10))))) (.leaf [(I 1),(N (D 5)),(I 1),(I 0),(I 0),(I 0),(I 0),(I 0),(I 0),(I 0),(I 0),(I 0)]) (.leaf [(I 0),(N (D 0)),(N (D 1)),(.pr 21 (D 2) (I 0)),(D 3),(N (D 4)),(N (D 5)),(.pr 21 (D 6) (I 0)),(N (.bin .add .u64 (.bin .mul .u64 (.dvar 7) (.wrap .u64 (.dvar 0))) (.wrap .u64 (.bin .add .u8 (.bin .sub .u8 (.bin .or .u8 (.cell (.dvar 8) (.dvar 10) 0) (.lit 32)) (.lit 97)) (.lit 10))))),(D 8),(N (D 9)),(N (.bin .add .i64 (D 10) (I 1)))]))) (.leaf [(I 1),(N (D 5)),(I 1),(I 0),(I 0),(I 0),(I 0),(I 0),(I 0),(I 0),(I 0),(I 0)])) (.leaf [(I 1),(I 0),(I 2),(I 0),(I 0),(I 0),(I 0),(I 0),(I 0),(I 0),(I 0),(I 0)])) (.leaf [(I 1),(I 0),(I 2),(I 0),(I 0),(I 0),(I 0),(I 0),(I 0),(I 0),(I 0),(I 0)]))))) (.leaf [(I 0),(N (D 0)),(N (D 1)),(.pr 21 (D 2) (I 0)),(D 3),(N (D 4)),(N (D 5)),(I 1),(N (D 7)),(D 8),(N (D 9)),(N (.bin .add .i64 (D 10) (I 1)))])) (.ask (lt (.cell (D 8) (D 10) 0) (I 48)) (.ask (lt (.bin .or .u8 (.cell (.dvar 8) (.dvar 10) 0) (.lit 32)) (I 97)) (.leaf [(I 1),(I 0),(I 2),(I 0),(I 0),(I 0),(I 0),(I 0),(I 0),(I 0),(I 0),(I 0)]) (.ask (lt (.bin .or .u8 (.cell (.dvar 8) (.dvar 10) 0) (.lit 32)) (I 123)) (.ask (lt (.bin .add .u8 (.bin .sub .u8 (.bin .or .u8 (.cell (.dvar 8) (.dvar 10) 0) (.lit 32)) (.lit 97)) (.lit 10)) (.wrap .u8 (.dvar 0))) (.ask (lt (D 7) (D 4)) (.ask (lt (.bin .add .u64 (.bin .mul .u64 (.dvar 7) (.wrap .u64 (.dvar 0))) (.wrap .u64 (.bin .add .u8 (.bin .sub .u8 (.bin .or .u8 (.cell (.dvar 8) (.dvar 10) 0) (.lit 32)) (.lit 97)) (.lit 10)))) (.bin .mul .u64 (.dvar 7) (.wrap .u64 (.dvar 0)))) (.leaf [(I 1),(N (D 5)),(I 1),(I 0),(I 0),(I 0),(I 0),(I 0),(I 0),(I 0),(I 0),(I 0)]) (.ask (lt (D 5) (.bin .add .u64 (.bin .mul .u64 (.dvar 7) (.wrap .u64 (.dvar 0))) (.wrap .u64 (.bin .add .u8 (.bin .sub .u8 (.bin .or .u8 (.cell (.dvar 8) (.dvar 10) 0) (.lit 32)) (.lit 97)) (.lit 10))))) (.leaf [(I 1),(N (D 5)),(I 1),(I 0),(I 0),(I 0),(I 0),(I 0),(I 0),(I 0),(I 0),(I 0)]) (.leaf [(I 0),(N (D 0)),(N (D 1)),(.pr 21 (D 2) (I 0)),(D 3),(N (D 4)),(N (D 5)),(.pr 21 (D 6) (I 0)),(N (.bin .add .u64 (.bin .mul .u64 (.dvar 7) (.wrap .u64 (.dvar 0))) (.wrap .u64 (.bin .add .u8 (.bin .sub .u8 (.bin .or .u8 (.cell (.dvar 8) (.dvar 10) 0) (.lit 32)) (.lit 97)) (.lit 10))))),(D 8),(N (D 9)),(N (.bin .add .i64 (D 10) (I 1)))]))) (.leaf [(I 1),(N (D 5)),(I 1),(I 0),(I 0),(I 0),(I 0),(I 0),(I 0),(I 0),(I 0),(I 0)])) (.leaf [(I 1),(I 0),(I 2),(I 0),(I 0),(I 0),(I 0),(I 0),(I 0),(I 0),(I 0),(I 0)])) (.leaf [(I 1),(I 0),(I 2),(I 0),(I 0),(I 0),(I 0),(I 0),(I 0),(I 0),(I 0),(I 0)]))) (.ask (lt (.cell (D 8) (D 10) 0) (I 58)) (.ask (lt (.bin .sub .u8 (.cell (.dvar 8) (.dvar 10) 0) (.lit 48)) (.wrap .u8 (.dvar 0))) (.ask (lt (D 7) (D 4)) (.ask (lt (.bin .add .u64 (.bin .mul .u64 (.dvar 7) (.wrap .u64 (.dvar 0))) (.wrap .u64 (.bin .sub .u8 (.cell (.dvar 8) (.dvar 10) 0) (.lit 48)))) (.bin .mul .u64 (.dvar 7) (.wrap .u64 (.dvar 0)))) (.leaf [(I 1),(N (D 5)),(I 1),(I 0),(I 0),(I 0),(I 0),(I 0),(I 0),(I 0),(I 0),(I 0)]) (.ask (lt (D 5) (.bin .add .u64 (.bin .mul .u64 (.dvar 7) (.wrap .u64 (.dvar 0))) (.wrap .u64 (.bin .sub .u8 (.cell (.dvar 8) (.dvar 10) 0) (.lit 48))))) (.leaf [(I 1),(N (D 5)),(I 1),(I 0),(I 0),(I 0),(I 0),(I 0),(I 0),(I 0),(I 0),(I 0)]) (.leaf [(I 0),(N (D 0)),(N (D 1)),(.pr 21 (D 2) (I 0)),(D 3),(N (D 4)),(N (D 5)),(.pr 21 (D 6) (I 0)),(N (.bin .add .u64 (.bin .mul .u64 (.dvar 7) (.wrap .u64 (.dvar 0))) (.wrap .u64 (.bin .sub .u8 (.cell (.dvar 8) (.dvar 10) 0) (.lit 48))))),(D 8),(N (D 9)),(N (.bin .add .i64 (D 10) (I 1)))]))) (.leaf [(I 1),(N (D 5)),(I 1),(I 0),(I 0),(I 0),(I 0),(I 0),(I 0),(I 0),(I 0),(I 0)])) (.leaf [(I 1),(I 0),(I 2),(I 0),(I 0),(I 0),(I 0),(I 0),(I 0),(I 0),(I 0),(I 0)])) (.ask (lt (.bin .or .u8 (.cell (.dvar 8) (.dvar 10) 0) (.lit 32)) (I 97)) (.leaf [(I 1),(I 0),(I 2),(I 0),(I 0),(I 0),(I 0),(I 0),(I 0),(I 0),(I 0),(I 0)]) (.ask (lt (.bin .or .u8 (.cell (.dvar 8) (.dvar 10) 0) (.lit 32)) (I 123)) (.ask (lt (.bin .add .u8 (.bin .sub .u8 (.bin .or .u8 (.cell (.dvar 8) (.dvar 10) 0) (.lit 32)) (.lit 97)) (.lit 10)) (.wrap .u8 (.dvar 0))) (.ask (lt (D 7) (D 4)) (.ask (lt (.bin .add .u64 (.bin .mul .u64 (.dvar 7) (.wrap .u64 (.dvar 0))) (.wrap .u64 (.bin .add .u8 (.bin .sub .u8 (.bin .or .u8 (.cell (.dvar 8) (.dvar 10) 0) (.lit 32)) (.lit 97)) (.lit 10)))) (.bin .mul .u64 (.dvar 7) (.wrap .u64 (.dvar 0)))) (.leaf [(I 1),(N (D 5)),(I 1),(I 0),(I 0),(I 0),(I 0),(I 0),(I 0),(I 0),(I 0),(I 0)]) (.ask (lt (D 5) (.bin .add .u64 (.bin .mul .u64 (.dvar 7) (.wrap .u64 (.dvar 0))) (.wrap .u64 (.bin .add .u8 (.bin .sub .u8 (.bin .or .u8 (.cell (.dvar 8) (.dvar 10) 0) (.lit 32)) (.lit 97)) (.lit 10))))) (.leaf [(I 1),(N (D 5)),(I 1),(I 0),(I 0),(I 0),(I 0),(I 0),(I 0),(I 0),(I 0),(I 0)]) (.leaf [(I 0),(N (D 0)),(N (D 1)),(.pr 21 (D 2) (I 0)),(D 3),(N (D 4)),(N (D 5)),(.pr 21 (D 6) (I 0)),(N (.bin .add .u64 (.bin .mul .u64 (.dvar 7) (.wrap .u64 (.dvar 0))) (.wrap .u64 (.bin .add .u8 (.bin .sub .u8 (.bin .or .u8 (.cell (.dvar 8) (.dvar 10) 0) (.lit 32)) (.lit 97)) (.lit 10))))),(D 8),(N (D 9)),(N (.bin .add .i64 (D 10) (I 1)))]))) (.leaf [(I 1),(N (D 5)),(I 1),(I 0),(I 0),(I 0),(I 0),(I 0),(I 0),(I 0),(I 0),(I 0)])) (.leaf [(I 1),(I 0),(I 2),(I 0),(I 0),(I 0),(I 0),(I 0),(I 0),(I 0),(I 0),(I 0)])) (.leaf [(I 1),(I 0),(I 2),(I 0),(I 0),(I 0),(I 0),(I 0),(I 0),(I 0),(I 0),(I 0)])))))) .none) (.leaf [(I 5),(N (D 0)),(D 3),(.pr 21 (D 6) (I 0)),(N (D 7)),(I 0),(I 0),(I 0),(I 0),(I 0),(I 0),(I 0)]))
def pi13c:List aY:=[[((eq (.cell (D 8) (D 10) 0) (I 95)),true),((lt (.cell (D 8) (D 10) 0) (I 48)),true)],[((eq (.cell (D 8) (D 10) 0) (I 95)),true),((lt (.cell (D 8) (D 10) 0) (I 58)),true)],[((lt (D 10) (D 9)),true),((lt (D 10) (cL (D 8))),false)]]
def pi13v:aY:=[((lt (D 10) (I 0)),false)]
def pi15:ST:=(.leaf [(I 1),(N (D 3)),(I 0)])
def pi15v:aY:=[((eq (D 2) (I 0)),true)]
def piE0:bA:=[((D 0),(D 0)),((N (D 1)),(N (D 1))),((N (D 2)),(N (D 2)))]
def piE1:bA:=[((N (D 0)),(N (.ap 10 (D 0) (D 1) (D 2)))),((D 1),(.ap 0 (D 0) (D 1) (D 2)))]
def spPi(F:Fn):fA:=(aD (pi0.tr F 3) (aD (pi1.tr F 3) (aD (pi2.tr F 4) (aD (pi3.tr F 5) (aD (pi4.tr F 5) (aD (pi5.tr F 5) (aD (pi6.tr F 5) (aD (pi7.tr F 6) (aD (pi8.tr F 7) (aD (pi9.tr F 8) (aD (pi10.tr F 9) (aD (aD (pi11.tr F 11) (ie 3 (fD (pi13.tr F 11) muPi))) (pi15.tr F 2)))))))))))))
def pu0:ST:=(.ask (eq (.ap 0 (D 0) (D 1) (D 2)) (I 0)) (.leaf [(I 1),(N (.ap 10 (D 0) (D 1) (D 2))),(I 0)]) (.ask (eq (.ap 0 (D 0) (D 1) (D 2)) (I 2)) (.leaf [(I 1),(N (.ap 10 (D 0) (D 1) (D 2))),(I 1)]) (.ask (eq (.ap 0 (D 0) (D 1) (D 2)) (I 1)) (.leaf [(I 1),(N (.ap 10 (D 0) (D 1) (D 2))),(I 1)]) .none)))
def pu0c:List aY:=[[((eq (.ap 0 (D 0) (D 1) (D 2)) (I 0)),false),((eq (.ap 0 (D 0) (D 1) (D 2)) (I 2)),false),((eq (.ap 0 (D 0) (D 1) (D 2)) (I 1)),false)]]
def pu0v:aY:=[((lt (D 1) (I 2)),false),((lt (I 36) (D 1)),false),((lt (D 2) (I 1)),false),((lt (I 64) (D 2)),false),((lt (.pr 0 (D 0) (I 0)) (I 1000000000)),true)]
def puE0:bA:=[((D 0),(D 0)),((N (D 1)),(N (D 1))),((N (D 2)),(N (D 2)))]
def puE1:bA:=[((N (D 0)),(N (.ap 10 (D 0) (D 1) (D 2)))),((D 1),(.ap 11 (D 0) (D 1) (D 2)))]
def spPu(F:Fn):fA:=(pu0.tr F 2)
def pa0:ST:=(.ask (eq (.ap 8 (D 0) (I 0) (I 0)) (I 0)) (.ask (eq (.ap 7 (D 0) (I 0) (I 0)) (I 0)) (.leaf [(I 1),(I 0)]) (.leaf [(I 1),(I 1)])) (.leaf [(I 1),(I 1)]))
def paE0:bA:=[((N (D 0)),(N (D 0)))]
def paE1:bA:=[((.pr 21 (D 0) (I 0)),(.pr 21 (.ap 12 (D 0) (I 0) (I 0)) (I 0)))]
def spPa(F:Fn):fA:=(pa0.tr F 1)
def ky0:ST:=(.ask (lt (cL (.ap 1 (I 0) (I 0) (I 0))) (I 1000000001)) (.ask (lt (.ap 9 (.ap 1 (I 0) (I 0) (I 0)) (D 0) (I 1)) (I 0)) (.leaf [(I 1),(I 0)]) (.leaf [(I 1),(I 1)])) .none)
def ky0c:List aY:=[[((lt (cL (.ap 1 (I 0) (I 0) (I 0))) (I 1000000001)),false)]]
def kyE0:bA:=[((D 0),(D 0))]
def kyE1:bA:=[((.pr 21 (D 0) (I 0)),(.pr 21 (.ap 13 (D 0) (I 0) (I 0)) (I 0)))]
def spKy(F:Fn):fA:=(ky0.tr F 1)
def sg0:ST:=(.leaf [(I 0),(D 0)])
def sg1:ST:=(.leaf [(I 0),(D 0),(.ap 2 (I 0) (I 0) (I 0)),(N (cL (.ap 2 (I 0) (I 0) (I 0)))),(I 0)])
def sg3:ST:=(.ask (lt (D 3) (D 2)) (.ask (lt (D 3) (cL (D 1))) (.ask (lt (.pr 0 (D 0) (I 0)) (.pr 0 (.cell (D 1) (D 3) 0) (I 0))) (.leaf [(I 0),(D 0),(D 1),(N (D 2)),(N (.bin .add .i64 (D 3) (I 1)))]) (.ask (lt (.pr 0 (.cell (D 1) (D 3) 0) (I 0)) (I 0)) .none (.ask (.seq (.pr 2 (.dvar 0) (.pr 0 (.cell (.dvar 1) (.dvar 3) 0) (.lit 0))) (.cell (.dvar 1) (.dvar 3) 0)) (.leaf [(I 1),(N (.pr 0 (.cell (D 1) (D 3) 0) (I 0))),(I 0),(I 0),(I 0)]) (.leaf [(I 0),(D 0),(D 1),(N (D 2)),(N (.bin .add .i64 (D 3) (I 1)))])))) .none) (.leaf [(I 2),(I 0),(I 0),(I 0),(I 0)]))
def sg3c:List aY:=[[((lt (.pr 0 (.cell (D 1) (D 3) 0) (I 0)) (I 0)),true)],[((lt (D 3) (D 2)),true),((lt (D 3) (cL (D 1))),false)]]
def sg3v:aY:=[((lt (D 3) (I 0)),false)]
def sg5:ST:=(.leaf [(I 1),(I 0)])
def sgE0:bA:=[((D 0),(D 0))]
def sgE1:bA:=[((N (D 0)),(N (.ap 14 (D 0) (I 0) (I 0))))]
def spSg(F:Fn):fA:=(aD (sg0.tr F 1) (aD (aD (sg1.tr F 4) (ie 0 (fD (sg3.tr F 4) muSg))) (sg5.tr F 1)))
def sk0:ST:=(.leaf [(I 0),(D 0),(N (D 1)),(N (D 2)),(N (D 3))])
def sk2:ST:=(.ask (lt (D 3) (.pr 0 (D 0) (I 0))) (.ask (eq (D 1) (I 0)) (.ask (lt (.pr 0 (D 0) (I 0)) (D 3)) .none (.ask (lt (I 0) (.pr 0 (.pr 3 (D 0) (D 3)) (I 0))) (.ask (lt (.pr 6 (.slit [9,10,13,32]) (.pr 1 (.pr 3 (D 0) (D 3)) (I 0))) (I 0)) (.ask (lt (.pr 0 (.pr 3 (D 0) (D 3)) (I 0)) (I 2)) (.leaf [(I 1),(D 0),(N (D 1)),(N (D 2)),(N (D 3))]) (.ask (.seq (.pr 2 (.pr 3 (.dvar 0) (.dvar 3)) (.lit 2)) (.slit [47,47])) (.ask (lt (.pr 6 (.pr 3 (D 0) (D 3)) (I 10)) (I 0)) (.leaf [(I 0),(D 0),(N (D 1)),(N (D 2)),(N (.bin .add .i64 (D 3) (.pr 0 (.pr 3 (D 0) (D 3)) (I 0))))]) (.leaf [(I 0),(D 0),(N (D 1)),(N (D 2)),(N (.bin .add .i64 (D 3) (.pr 6 (.pr 3 (D 0) (D 3)) (I 10))))])) (.ask (.seq (.pr 2 (.pr 3 (.dvar 0) (.dvar 3)) (.lit 2)) (.slit [47,42])) (.ask (lt (.pr 0 (.pr 3 (.pr 3 (D 0) (D 3)) (I 2)) (I 0)) (I 1000000000)) (.ask (lt (.ap 3 (.pr 3 (.pr 3 (D 0) (D 3)) (I 2)) (I 0) (I 0)) (I 0)) (.leaf [(I 1),(D 0),(I 4),(N (D 3)),(N (D 3))]) (.leaf [(I 0),(D 0),(N (D 1)),(N (D 2)),(N (.bin .add .i64 (D 3) (.bin .add .i64 (.ap 3 (.pr 3 (.pr 3 (D 0) (D 3)) (I 2)) (I 0) (I 0)) (I 4))))])) .none) (.leaf [(I 1),(D 0),(N (D 1)),(N (D 2)),(N (D 3))])))) (.leaf [(I 0),(D 0),(N (D 1)),(N (D 2)),(N (.bin .add .i64 (D 3) (I 1)))])) .none)) (.leaf [(I 2),(D 0),(N (D 1)),(N (D 2)),(N (D 3))])) (.leaf [(I 2),(D 0),(N (D 1)),(N (D 2)),(N (D 3))]))
def sk2c:List aY:=[[((lt (D 3) (.pr 0 (D 0) (I 0))),true),((lt (.pr 0 (D 0) (I 0)) (D 3)),true)],[((lt (.pr 0 (.pr 3 (.pr 3 (D 0) (D 3)) (I 2)) (I 0)) (I 1000000000)),false)],[((lt (D 3) (I 0)),false),((lt (D 3) (.pr 0 (D 0) (I 0))),true),((lt (I 0) (.pr 0 (.pr 3 (D 0) (D 3)) (I 0))),false)]]
def sk2v:aY:=[((lt (D 3) (I 0)),false),((lt (.pr 0 (D 0) (I 0)) (I 1000000000)),true)]
def sk4:ST:=(.leaf [(I 1),(D 0),(N (D 1)),(N (D 2)),(N (D 3))])
def skE0:bA:=[((N (D 3)),(N (D 3))),((D 0),(D 0)),((N (D 1)),(N (D 1))),((N (D 2)),(N (D 2)))]
def skE1:bA:=[((N (D 3)),(N (.ap 15 (D 0) (D 3) (I 0)))),((D 0),(D 0)),((N (D 1)),(N (.ap 16 (D 0) (D 3) (I 0)))),((N (D 2)),(N (.ap 17 (D 0) (D 3) (D 2))))]
def spSk(F:Fn):fA:=(aD (sk0.tr F 4) (aD (ie 0 (fD (sk2.tr F 4) muSk)) (sk4.tr F 4)))
def sf0:ST:=(.ask (.seq (.ap 6 (.dvar 0) (.lit 0) (.lit 0)) (.slit [108,117])) (.leaf [(I 1),(.slit [117,108]),(I 1)]) (.ask (.seq (.ap 6 (.dvar 0) (.lit 0) (.lit 0)) (.slit [])) (.leaf [(I 1),(.ap 6 (D 0) (I 0) (I 0)),(I 1)]) (.ask (.seq (.ap 6 (.dvar 0) (.lit 0) (.lit 0)) (.slit [117])) (.leaf [(I 1),(.ap 6 (D 0) (I 0) (I 0)),(I 1)]) (.ask (.seq (.ap 6 (.dvar 0) (.lit 0) (.lit 0)) (.slit [108])) (.leaf [(I 1),(.ap 6 (D 0) (I 0) (I 0)),(I 1)]) (.ask (.seq (.ap 6 (.dvar 0) (.lit 0) (.lit 0)) (.slit [117,108])) (.leaf [(I 1),(.ap 6 (D 0) (I 0) (I 0)),(I 1)]) (.leaf [(I 1),(.slit []),(I 0)]))))))
def sf0v:aY:=[((lt (.pr 0 (D 0) (I 0)) (I 1000000000)),true),((eq (.ap 5 (D 0) (I 0) (I 0)) (I 1)),true)]
def sfE0:bA:=[((D 0),(D 0))]
def sfE1:bA:=[((D 0),(.ap 18 (D 0) (I 0) (I 0))),((.pr 21 (D 1) (I 0)),(.pr 21 (.ap 19 (D 0) (I 0) (I 0)) (I 0)))]
def spSf(F:Fn):fA:=(sf0.tr F 2)
def sp0:ST:=(.ask (lt (.pr 0 (D 0) (I 0)) (I 2)) (.ask (lt (I 0) (.pr 0 (D 0) (I 0))) (.ask (eq (.pr 1 (D 0) (I 0)) (I 48)) (.ask (lt (.bin .sub .i64 (.pr 0 (D 0) (I 0)) (.pr 0 (.ap 4 (D 0) (.slit [48,49,50,51,52,53,54,55]) (I 0)) (I 0))) (I 0)) .none (.ask (lt (.pr 0 (D 0) (I 0)) (.bin .sub .i64 (.pr 0 (D 0) (I 0)) (.pr 0 (.ap 4 (D 0) (.slit [48,49,50,51,52,53,54,55]) (I 0)) (I 0)))) .none (.leaf [(I 1),(I 8),(.pr 2 (D 0) (.bin .sub .i64 (.pr 0 (D 0) (I 0)) (.pr 0 (.ap 4 (D 0) (.slit [48,49,50,51,52,53,54,55]) (I 0)) (I 0)))),(.ap 4 (D 0) (.slit [48,49,50,51,52,53,54,55]) (I 0))]))) (.ask (lt (.bin .sub .i64 (.pr 0 (D 0) (I 0)) (.pr 0 (.ap 4 (D 0) (.slit [48,49,50,51,52,53,54,55,56,57]) (I 0)) (I 0))) (I 0)) .none (.ask (lt (.pr 0 (D 0) (I 0)) (.bin .sub .i64 (.pr 0 (D 0) (I 0)) (.pr 0 (.ap 4 (D 0) (.slit [48,49,50,51,52,53,54,55,56,57]) (I 0)) (I 0)))) .none (.leaf [(I 1),(I 10),(.pr 2 (D 0) (.bin .sub .i64 (.pr 0 (D 0) (I 0)) (.pr 0 (.ap 4 (D 0) (.slit [48,49,50,51,52,53,54,55,56,57]) (I 0)) (I 0)))),(.ap 4 (D 0) (.slit [48,49,50,51,52,53,54,55,56,57]) (I 0))])))) .none) (.ask (.seq (.pr 2 (.dvar 0) (.lit 2)) (.slit [48,120])) (.ask (lt (.pr 0 (.pr 3 (D 0) (I 2)) (I 0)) (I 1000000000)) (.ask (lt (.bin .sub .i64 (.pr 0 (.pr 3 (D 0) (I 2)) (I 0)) (.pr 0 (.ap 4 (.pr 3 (D 0) (I 2)) (.slit [48,49,50,51,52,53,54,55,56,57,97,98,99,100,101,102,65,66,67,68,69,70]) (I 0)) (I 0))) (I 0)) .none (.ask (lt (.pr 0 (.pr 3 (D 0) (I 2)) (I 0)) (.bin .sub .i64 (.pr 0 (.pr 3 (D 0) (I 2)) (I 0)) (.pr 0 (.ap 4 (.pr 3 (D 0) (I 2)) (.slit [48,49,50,51,52,53,54,55,56,57,97,98,99,100,101,102,65,66,67,68,69,70]) (I 0)) (I 0)))) .none (.leaf [(I 1),(I 16),(.pr 2 (.pr 3 (D 0) (I 2)) (.bin .sub .i64 (.pr 0 (.pr 3 (D 0) (I 2)) (I 0)) (.pr 0 (.ap 4 (.pr 3 (D 0) (I 2)) (.slit [48,49,50,51,52,53,54,55,56,57,97,98,99,100,101,102,65,66,67,68,69,70]) (I 0)) (I 0)))),(.ap 4 (.pr 3 (D 0) (I 2)) (.slit [48,49,50,51,52,53,54,55,56,57,97,98,99,100,101,102,65,66,67,68,69,70]) (I 0))]))) .none) (.ask (.seq (.pr 2 (.dvar 0) (.lit 2)) (.slit [48,88])) (.ask (lt (.pr 0 (.pr 3 (D 0) (I 2)) (I 0)) (I 1000000000)) (.ask (lt (.bin .sub .i64 (.pr 0 (.pr 3 (D 0) (I 2)) (I 0)) (.pr 0 (.ap 4 (.pr 3 (D 0) (I 2)) (.slit [48,49,50,51,52,53,54,55,56,57,97,98,99,100,101,102,65,66,67,68,69,70]) (I 0)) (I 0))) (I 0)) .none (.ask (lt (.pr 0 (.pr 3 (D 0) (I 2)) (I 0)) (.bin .sub .i64 (.pr 0 (.pr 3 (D 0) (I 2)) (I 0)) (.pr 0 (.ap 4 (.pr 3 (D 0) (I 2)) (.slit [48,49,50,51,52,53,54,55,56,57,97,98,99,100,101,102,65,66,67,68,69,70]) (I 0)) (I 0)))) .none (.leaf [(I 1),(I 16),(.pr 2 (.pr 3 (D 0) (I 2)) (.bin .sub .i64 (.pr 0 (.pr 3 (D 0) (I 2)) (I 0)) (.pr 0 (.ap 4 (.pr 3 (D 0) (I 2)) (.slit [48,49,50,51,52,53,54,55,56,57,97,98,99,100,101,102,65,66,67,68,69,70]) (I 0)) (I 0)))),(.ap 4 (.pr 3 (D 0) (I 2)) (.slit [48,49,50,51,52,53,54,55,56,57,97,98,99,100,101,102,65,66,67,68,69,70]) (I 0))]))) .none) (.ask (lt (I 0) (.pr 0 (D 0) (I 0))) (.ask (eq (.pr 1 (D 0) (I 0)) (I 48)) (.ask (lt (.bin .sub .i64 (.pr 0 (D 0) (I 0)) (.pr 0 (.ap 4 (D 0) (.slit [48,49,50,51,52,53,54,55]) (I 0)) (I 0))) (I 0)) .none (.ask (lt (.pr 0 (D 0) (I 0)) (.bin .sub .i64 (.pr 0 (D 0) (I 0)) (.pr 0 (.ap 4 (D 0) (.slit [48,49,50,51,52,53,54,55]) (I 0)) (I 0)))) .none (.leaf [(I 1),(I 8),(.pr 2 (D 0) (.bin .sub .i64 (.pr 0 (D 0) (I 0)) (.pr 0 (.ap 4 (D 0) (.slit [48,49,50,51,52,53,54,55]) (I 0)) (I 0)))),(.ap 4 (D 0) (.slit [48,49,50,51,52,53,54,55]) (I 0))]))) (.ask (lt (.bin .sub .i64 (.pr 0 (D 0) (I 0)) (.pr 0 (.ap 4 (D 0) (.slit [48,49,50,51,52,53,54,55,56,57]) (I 0)) (I 0))) (I 0)) .none (.ask (lt (.pr 0 (D 0) (I 0)) (.bin .sub .i64 (.pr 0 (D 0) (I 0)) (.pr 0 (.ap 4 (D 0) (.slit [48,49,50,51,52,53,54,55,56,57]) (I 0)) (I 0)))) .none (.leaf [(I 1),(I 10),(.pr 2 (D 0) (.bin .sub .i64 (.pr 0 (D 0) (I 0)) (.pr 0 (.ap 4 (D 0) (.slit [48,49,50,51,52,53,54,55,56,57]) (I 0)) (I 0)))),(.ap 4 (D 0) (.slit [48,49,50,51,52,53,54,55,56,57]) (I 0))])))) .none))))
def sp0c:List aY:=[[((lt (.bin .sub .i64 (.pr 0 (D 0) (I 0)) (.pr 0 (.ap 4 (D 0) (.slit [48,49,50,51,52,53,54,55]) (I 0)) (I 0))) (I 0)),true)],[((lt (.pr 0 (D 0) (I 0)) (.bin .sub .i64 (.pr 0 (D 0) (I 0)) (.pr 0 (.ap 4 (D 0) (.slit [48,49,50,51,52,53,54,55]) (I 0)) (I 0)))),true)],[((lt (.bin .sub .i64 (.pr 0 (D 0) (I 0)) (.pr 0 (.ap 4 (D 0) (.slit [48,49,50,51,52,53,54,55,56,57]) (I 0)) (I 0))) (I 0)),true)],[((lt (.pr 0 (D 0) (I 0)) (.bin .sub .i64 (.pr 0 (D 0) (I 0)) (.pr 0 (.ap 4 (D 0) (.slit [48,49,50,51,52,53,54,55,56,57]) (I 0)) (I 0)))),true)],[((lt (.pr 0 (D 0) (I 0)) (I 1)),false),((lt (I 0) (.pr 0 (D 0) (I 0))),false)],[((lt (.bin .sub .i64 (.pr 0 (.pr 3 (D 0) (I 2)) (I 0)) (.pr 0 (.ap 4 (.pr 3 (D 0) (I 2)) (.slit [48,49,50,51,52,53,54,55,56,57,97,98,99,100,101,102,65,66,67,68,69,70]) (I 0)) (I 0))) (I 0)),true)],[((lt (.pr 0 (.pr 3 (D 0) (I 2)) (I 0)) (.bin .sub .i64 (.pr 0 (.pr 3 (D 0) (I 2)) (I 0)) (.pr 0 (.ap 4 (.pr 3 (D 0) (I 2)) (.slit [48,49,50,51,52,53,54,55,56,57,97,98,99,100,101,102,65,66,67,68,69,70]) (I 0)) (I 0)))),true)],[((lt (.pr 0 (.pr 3 (D 0) (I 2)) (I 0)) (I 1000000000)),false)],[((lt (.pr 0 (D 0) (I 0)) (I 2)),false),((lt (I 0) (.pr 0 (D 0) (I 0))),false)]]
def sp0v:aY:=[((lt (.pr 0 (D 0) (I 0)) (I 1000000000)),true),((lt (.pr 0 (D 0) (I 0)) (I 1)),false)]
def spE0:bA:=[((D 0),(D 0))]
def spE1:bA:=[((N (D 0)),(N (.ap 20 (D 0) (I 0) (I 0)))),((D 1),(.ap 21 (D 0) (I 0) (I 0))),((D 2),(.ap 22 (D 0) (I 0) (I 0)))]
def spSp(F:Fn):fA:=(sp0.tr F 3)
def rn0:ST:=(.leaf [(I 0),(D 0),(N (D 1)),(N (D 2)),(N (D 3))])
def rn1:ST:=(.leaf [(I 0),(D 0),(N (D 1)),(N (D 2)),(N (D 3)),(N (D 3))])
def rn3:ST:=(.ask (lt (D 4) (.pr 0 (D 0) (I 0))) (.ask (eq (.ap 12 (.pr 1 (D 0) (D 4)) (I 0) (I 0)) (I 0)) (.leaf [(I 2),(D 0),(N (D 1)),(N (D 2)),(N (D 3)),(N (D 4))]) (.leaf [(I 0),(D 0),(N (D 1)),(N (D 2)),(N (D 3)),(N (.bin .add .i64 (D 4) (I 1)))])) (.leaf [(I 2),(D 0),(N (D 1)),(N (D 2)),(N (D 3)),(N (D 4))]))
def rn3v:aY:=[((lt (D 4) (I 0)),false)]
def rn5:ST:=(.leaf [(I 1),(D 0),(N (D 1)),(N (D 2)),(.pr 3 (.pr 2 (D 0) (D 4)) (D 3))])
def rn5v:aY:=[((lt (D 3) (I 0)),false),((lt (D 4) (D 3)),false),((lt (.pr 0 (D 0) (I 0)) (D 4)),false)]
def rnE0:bA:=[((N (D 3)),(N (D 3))),((D 0),(D 0)),((N (D 1)),(N (D 1))),((N (D 2)),(N (D 2)))]
def rnE1:bA:=[((D 3),(.ap 23 (D 0) (D 3) (I 0)))]
def spRn(F:Fn):fA:=(aD (rn0.tr F 4) (aD (rn1.tr F 5) (aD (ie 0 (fD (rn3.tr F 5) muRn)) (rn5.tr F 4))))
def es0:ST:=(.ask (lt (.pr 0 (D 0) (I 0)) (I 2)) (.leaf [(I 1),(I 0),(I 0)]) (.ask (lt (I 1) (.pr 0 (D 0) (I 0))) (.ask (eq (.pr 1 (D 0) (I 1)) (I 120)) (.ask (lt (.pr 0 (D 0) (I 0)) (I 4)) (.leaf [(I 1),(I 0),(I 0)]) (.ask (lt (I 2) (.pr 0 (D 0) (I 0))) (.ask (eq (.ap 12 (.pr 1 (D 0) (I 2)) (I 0) (I 0)) (I 0)) (.leaf [(I 1),(I 0),(I 0)]) (.ask (lt (I 3) (.pr 0 (D 0) (I 0))) (.ask (eq (.ap 12 (.pr 1 (D 0) (I 3)) (I 0) (I 0)) (I 0)) (.leaf [(I 1),(I 0),(I 0)]) (.ask (lt (.pr 0 (.pr 3 (.pr 2 (D 0) (I 4)) (I 2)) (I 0)) (I 1000000000)) (.ask (eq (.ap 11 (.pr 3 (.pr 2 (D 0) (I 4)) (I 2)) (I 16) (I 8)) (I 0)) (.leaf [(I 1),(N (.wrap .u8 (.ap 10 (.pr 3 (.pr 2 (.dvar 0) (.lit 4)) (.lit 2)) (.lit 16) (.lit 8)))),(I 4)]) (.leaf [(I 1),(I 0),(I 0)])) .none)) .none)) .none)) (.ask (eq (.pr 1 (D 0) (I 1)) (I 110)) (.leaf [(I 1),(I 10),(I 2)]) (.ask (eq (.pr 1 (D 0) (I 1)) (I 116)) (.leaf [(I 1),(I 9),(I 2)]) (.ask (eq (.pr 1 (D 0) (I 1)) (I 114)) (.leaf [(I 1),(I 13),(I 2)]) (.ask (eq (.pr 1 (D 0) (I 1)) (I 48)) (.leaf [(I 1),(I 0),(I 2)]) (.ask (eq (.pr 1 (D 0) (I 1)) (I 92)) (.leaf [(I 1),(I 92),(I 2)]) (.ask (eq (.pr 1 (D 0) (I 1)) (I 39)) (.leaf [(I 1),(I 39),(I 2)]) (.ask (eq (.pr 1 (D 0) (I 1)) (I 34)) (.leaf [(I 1),(I 34),(I 2)]) (.leaf [(I 1),(I 0),(I 0)]))))))))) .none))
def es0c:List aY:=[[((lt (.pr 0 (.pr 3 (.pr 2 (D 0) (I 4)) (I 2)) (I 0)) (I 1000000000)),false)],[((lt (.pr 0 (D 0) (I 0)) (I 4)),false),((lt (I 3) (.pr 0 (D 0) (I 0))),false)],[((lt (.pr 0 (D 0) (I 0)) (I 4)),false),((lt (I 2) (.pr 0 (D 0) (I 0))),false)],[((lt (.pr 0 (D 0) (I 0)) (I 2)),false),((lt (I 1) (.pr 0 (D 0) (I 0))),false)]]
def es0v:aY:=[((lt (.pr 0 (D 0) (I 0)) (I 1000000000)),true)]
def esE0:bA:=[((D 0),(D 0))]
def esE1:bA:=[((N (D 0)),(N (.ap 24 (D 0) (I 0) (I 0)))),((N (D 1)),(N (.ap 25 (D 0) (I 0) (I 0))))]
def spEs(F:Fn):fA:=(es0.tr F 2)
def wd0:ST:=(.ask (eq (.ap 13 (.ap 23 (D 0) (D 3) (I 0)) (I 0) (I 0)) (I 0)) (.leaf [(I 1),(D 0),(N (D 1)),(N (D 2)),(I 1),(N (D 3)),(N (.pr 0 (.ap 23 (D 0) (D 3) (I 0)) (I 0))),(.ap 23 (D 0) (D 3) (I 0))]) (.leaf [(I 1),(D 0),(N (D 1)),(N (D 2)),(I 2),(N (D 3)),(N (.pr 0 (.ap 23 (D 0) (D 3) (I 0)) (I 0))),(.ap 23 (D 0) (D 3) (I 0))]))
def wd0v:aY:=[((eq (D 1) (I 0)),true),((lt (D 3) (I 0)),false),((lt (D 3) (.pr 0 (D 0) (I 0))),true),((lt (.pr 0 (D 0) (I 0)) (I 1000000000)),true),((eq (.ap 7 (.pr 1 (D 0) (D 3)) (I 0) (I 0)) (I 0)),false)]
def wdE0:bA:=[((N (D 3)),(N (D 3))),((D 0),(D 0)),((N (D 1)),(N (D 1))),((N (D 2)),(N (D 2)))]
def wdE1:bA:=[((D 0),(D 0)),((N (D 1)),(N (.ap 31 (D 0) (D 3) (I 0)))),((N (D 2)),(N (.ap 32 (D 0) (D 3) (D 2)))),((N (D 3)),(N (.ap 26 (D 0) (D 3) (I 0)))),((N (D 4)),(N (D 3))),((N (D 5)),(N (.ap 27 (D 0) (D 3) (I 0)))),((D 6),(.ap 28 (D 0) (D 3) (I 0))),((I 0),(N (.ap 29 (D 0) (D 3) (I 0)))),(O,(.ap 30 (D 0) (D 3) (I 0)))]
def spWd(F:Fn):fA:=(wd0.tr F 7)
def si0:ST:=(.ask (lt (.pr 0 (D 0) (I 0)) (D 3)) .none (.ask (eq (.ap 14 (.pr 3 (D 0) (D 3)) (I 0) (I 0)) (I 0)) (.ask (lt (.bin .add .i64 (D 3) (.ap 14 (.pr 3 (D 0) (D 3)) (I 0) (I 0))) (D 3)) .none (.ask (lt (.pr 0 (D 0) (I 0)) (.bin .add .i64 (D 3) (.ap 14 (.pr 3 (D 0) (D 3)) (I 0) (I 0)))) .none (.leaf [(I 1),(D 0),(I 10),(N (D 3)),(N (D 3)),(N (.ap 14 (.pr 3 (D 0) (D 3)) (I 0) (I 0))),(.pr 3 (.pr 2 (D 0) (.bin .add .i64 (D 3) (.ap 14 (.pr 3 (D 0) (D 3)) (I 0) (I 0)))) (D 3))]))) (.ask (lt (.bin .add .i64 (D 3) (.ap 14 (.pr 3 (D 0) (D 3)) (I 0) (I 0))) (D 3)) .none (.ask (lt (.pr 0 (D 0) (I 0)) (.bin .add .i64 (D 3) (.ap 14 (.pr 3 (D 0) (D 3)) (I 0) (I 0)))) .none (.leaf [(I 1),(D 0),(N (D 1)),(N (D 2)),(N (D 3)),(N (.ap 14 (.pr 3 (D 0) (D 3)) (I 0) (I 0))),(.pr 3 (.pr 2 (D 0) (.bin .add .i64 (D 3) (.ap 14 (.pr 3 (D 0) (D 3)) (I 0) (I 0)))) (D 3))])))))
def si0c:List aY:=[[((lt (D 3) (.pr 0 (D 0) (I 0))),true),((lt (.pr 0 (D 0) (I 0)) (D 3)),true)],[((lt (.bin .add .i64 (D 3) (.ap 14 (.pr 3 (D 0) (D 3)) (I 0) (I 0))) (D 3)),true)],[((lt (.pr 0 (D 0) (I 0)) (D 3)),false),((eq (.ap 14 (.pr 3 (D 0) (D 3)) (I 0) (I 0)) (I 0)),true),((lt (.pr 0 (D 0) (I 0)) (.bin .add .i64 (D 3) (.ap 14 (.pr 3 (D 0) (D 3)) (I 0) (I 0)))),true)],[((lt (D 3) (I 0)),false),((lt (.pr 0 (D 0) (I 0)) (D 3)),false),((lt (.pr 0 (D 0) (I 0)) (.bin .add .i64 (D 3) (.ap 14 (.pr 3 (D 0) (D 3)) (I 0) (I 0)))),true)]]
def si0v:aY:=[((eq (D 1) (I 0)),true),((lt (D 3) (I 0)),false),((lt (D 3) (.pr 0 (D 0) (I 0))),true),((lt (.pr 0 (D 0) (I 0)) (I 1000000000)),true)]
def siE0:bA:=[((N (D 3)),(N (D 3))),((D 0),(D 0)),((N (D 1)),(N (D 1))),((N (D 2)),(N (D 2)))]
def siE1:bA:=[((D 0),(D 0)),((N (D 1)),(N (.ap 38 (D 0) (D 3) (I 0)))),((N (D 2)),(N (.ap 39 (D 0) (D 3) (D 2)))),((I 6),(N (.ap 33 (D 0) (D 3) (I 0)))),((N (D 3)),(N (D 3))),((N (D 4)),(N (.ap 34 (D 0) (D 3) (I 0)))),((D 5),(.ap 35 (D 0) (D 3) (I 0))),((I 0),(N (.ap 36 (D 0) (D 3) (I 0)))),(O,(.ap 37 (D 0) (D 3) (I 0)))]
def spSi(F:Fn):fA:=(si0.tr F 6)
def nm0:ST:=(.ask (lt (.pr 0 (.ap 23 (D 0) (D 3) (I 0)) (I 0)) (I 1)) .none (.ask (lt (.pr 0 (.ap 23 (D 0) (D 3) (I 0)) (I 0)) (I 1000000000)) (.ask (lt (.pr 0 (.ap 22 (.ap 23 (D 0) (D 3) (I 0)) (I 0) (I 0)) (I 0)) (I 1000000000)) (.ask (eq (.ap 5 (.ap 22 (.ap 23 (D 0) (D 3) (I 0)) (I 0) (I 0)) (I 0) (I 0)) (I 1)) (.ask (eq (.ap 19 (.ap 22 (.ap 23 (D 0) (D 3) (I 0)) (I 0) (I 0)) (I 0) (I 0)) (I 0)) (.leaf [(I 1),(D 0),(I 10),(N (D 3)),(N (D 3)),(I 0),(.slit []),(I 0)]) (.ask (.seq (.ap 21 (.ap 23 (.dvar 0) (.dvar 3) (.lit 0)) (.lit 0) (.lit 0)) (.slit [])) (.leaf [(I 1),(D 0),(I 10),(N (D 3)),(N (D 3)),(I 0),(.slit []),(I 0)]) (.ask (lt (.ap 20 (.ap 23 (D 0) (D 3) (I 0)) (I 0) (I 0)) (I 2)) .none (.ask (lt (I 36) (.ap 20 (.ap 23 (D 0) (D 3) (I 0)) (I 0) (I 0))) .none (.ask (lt (.pr 0 (.ap 21 (.ap 23 (D 0) (D 3) (I 0)) (I 0) (I 0)) (I 0)) (I 1000000000)) (.ask (eq (.ap 11 (.ap 21 (.ap 23 (D 0) (D 3) (I 0)) (I 0) (I 0)) (.ap 20 (.ap 23 (D 0) (D 3) (I 0)) (I 0) (I 0)) (I 64)) (I 0)) (.leaf [(I 1),(D 0),(N (D 1)),(N (D 2)),(N (D 3)),(N (.pr 0 (.ap 23 (D 0) (D 3) (I 0)) (I 0))),(.ap 18 (.ap 22 (.ap 23 (D 0) (D 3) (I 0)) (I 0) (I 0)) (I 0) (I 0)),(N (.wrap .i64 (.ap 10 (.ap 21 (.ap 23 (.dvar 0) (.dvar 3) (.lit 0)) (.lit 0) (.lit 0)) (.ap 20 (.ap 23 (.dvar 0) (.dvar 3) (.lit 0)) (.lit 0) (.lit 0)) (.lit 64))))]) (.leaf [(I 1),(D 0),(I 5),(N (D 3)),(N (D 3)),(N (.pr 0 (.ap 23 (D 0) (D 3) (I 0)) (I 0))),(.ap 18 (.ap 22 (.ap 23 (D 0) (D 3) (I 0)) (I 0) (I 0)) (I 0) (I 0)),(N (.wrap .i64 (.ap 10 (.ap 21 (.ap 23 (.dvar 0) (.dvar 3) (.lit 0)) (.lit 0) (.lit 0)) (.ap 20 (.ap 23 (.dvar 0) (.dvar 3) (.lit 0)) (.lit 0) (.lit 0)) (.lit 64))))])) .none))))) .none) .none) .none))
def nm0c:List aY:=[[((lt (.pr 0 (.ap 23 (D 0) (D 3) (I 0)) (I 0)) (I 1)),true)],[((lt (.ap 20 (.ap 23 (D 0) (D 3) (I 0)) (I 0) (I 0)) (I 2)),true)],[((lt (I 36) (.ap 20 (.ap 23 (D 0) (D 3) (I 0)) (I 0) (I 0))),true)],[((lt (.pr 0 (.ap 21 (.ap 23 (D 0) (D 3) (I 0)) (I 0) (I 0)) (I 0)) (I 1000000000)),false)],[((eq (.ap 5 (.ap 22 (.ap 23 (D 0) (D 3) (I 0)) (I 0) (I 0)) (I 0) (I 0)) (I 1)),false)],[((lt (.pr 0 (.ap 22 (.ap 23 (D 0) (D 3) (I 0)) (I 0) (I 0)) (I 0)) (I 1000000000)),false)],[((lt (.pr 0 (.ap 23 (D 0) (D 3) (I 0)) (I 0)) (I 1000000000)),false)]]
def nm0v:aY:=[((eq (D 1) (I 0)),true),((lt (D 3) (I 0)),false),((lt (D 3) (.pr 0 (D 0) (I 0))),true),((lt (.pr 0 (D 0) (I 0)) (I 1000000000)),true),((eq (.ap 8 (.pr 1 (D 0) (D 3)) (I 0) (I 0)) (I 0)),false)]
def nmE0:bA:=[((N (D 3)),(N (D 3))),((D 0),(D 0)),((N (D 1)),(N (D 1))),((N (D 2)),(N (D 2)))]
def nmE1:bA:=[((D 0),(D 0)),((N (D 1)),(N (.ap 45 (D 0) (D 3) (I 0)))),((N (D 2)),(N (.ap 46 (D 0) (D 3) (D 2)))),((I 3),(N (.ap 40 (D 0) (D 3) (I 0)))),((N (D 3)),(N (D 3))),((N (D 4)),(N (.ap 41 (D 0) (D 3) (I 0)))),((D 5),(.ap 42 (D 0) (D 3) (I 0))),((N (D 6)),(N (.ap 43 (D 0) (D 3) (I 0)))),(O,(.ap 44 (D 0) (D 3) (I 0)))]
def spNm(F:Fn):fA:=(nm0.tr F 7)
def qu0:ST:=(.leaf [(I 0),(D 0),(N (D 1)),(N (D 2)),(N (D 3)),(I 0),(I 0),(I 0),O,(I 0)])
def qu1:ST:=(.leaf [(I 0),(D 0),(N (D 1)),(N (D 2)),(N (D 3)),(N (D 4)),(N (D 5)),(N (D 6)),(D 7),(D 8),(N (D 3)),O,(I 0)])
def qu2:ST:=(.leaf [(I 0),(D 0),(N (D 1)),(N (D 2)),(N (D 3)),(N (D 4)),(N (D 5)),(N (D 6)),(D 7),(D 8),(N (D 9)),(D 10),(D 11),(N (.pr 1 (D 0) (D 3)))])
def qu2v:aY:=[((eq (D 1) (I 0)),true),((lt (D 3) (I 0)),false),((lt (D 3) (.pr 0 (D 0) (I 0))),true),((lt (.pr 0 (D 0) (I 0)) (I 1000000000)),true)]
def qu3:ST:=(.leaf [(I 0),(D 0),(N (D 1)),(N (D 2)),(N (D 3)),(N (D 4)),(N (D 5)),(N (D 6)),(D 7),(D 8),(N (D 9)),(D 10),(D 11),(N (D 12)),(N (.bin .add .i64 (D 3) (I 1)))])
def qu3v:aY:=[((eq (D 1) (I 0)),true),((lt (D 3) (I 0)),false),((lt (D 3) (.pr 0 (D 0) (I 0))),true),((lt (.pr 0 (D 0) (I 0)) (I 1000000000)),true)]
def qu5:ST:=(.ask (lt (D 13) (.pr 0 (D 0) (I 0))) (.ask (eq (.pr 1 (D 0) (D 13)) (D 12)) (.leaf [(I 2),(D 0),(N (D 1)),(N (D 2)),(N (D 3)),(N (D 4)),(N (D 5)),(N (D 6)),(D 7),(D 8),(N (D 9)),(D 10),(D 11),(N (D 12)),(N (D 13))]) (.ask (eq (.pr 1 (D 0) (D 13)) (I 92)) (.ask (lt (.pr 0 (D 0) (I 0)) (D 13)) .none (.ask (lt (.pr 0 (.pr 3 (D 0) (D 13)) (I 0)) (I 1000000000)) (.ask (eq (.ap 25 (.pr 3 (D 0) (D 13)) (I 0) (I 0)) (I 0)) (.leaf [(I 1),(D 0),(I 10),(N (D 13)),(I 5),(N (D 9)),(I 0),(I 0),(D 10),(D 11),(I 0),(I 0),(I 0),(I 0),(I 0)]) (.ask (lt (cL (D 10)) (I 1000000001)) (.leaf [(I 0),(D 0),(N (D 1)),(N (D 2)),(N (D 3)),(N (D 4)),(N (D 5)),(N (D 6)),(D 7),(D 8),(N (D 9)),(J (D 10) (J (.pr 12 (.ap 24 (.pr 3 (D 0) (D 13)) (I 0) (I 0)) (.pr 14 (I 0) (I 0))) O)),(I 1),(N (D 12)),(N (.bin .add .i64 (D 13) (.ap 25 (.pr 3 (D 0) (D 13)) (I 0) (I 0))))]) .none)) .none)) (.ask (lt (.pr 1 (D 0) (D 13)) (I 32)) (.leaf [(I 1),(D 0),(I 10),(N (D 13)),(I 5),(N (D 9)),(I 0),(I 0),(D 10),(D 11),(I 0),(I 0),(I 0),(I 0),(I 0)]) (.ask (lt (.pr 1 (D 0) (D 13)) (I 127)) (.ask (lt (cL (D 10)) (I 1000000001)) (.leaf [(I 0),(D 0),(N (D 1)),(N (D 2)),(N (D 3)),(N (D 4)),(N (D 5)),(N (D 6)),(D 7),(D 8),(N (D 9)),(J (D 10) (J (.pr 12 (.pr 1 (D 0) (D 13)) (.pr 14 (I 0) (I 0))) O)),(I 1),(N (D 12)),(N (.bin .add .i64 (D 13) (I 1)))]) .none) (.leaf [(I 1),(D 0),(I 10),(N (D 13)),(I 5),(N (D 9)),(I 0),(I 0),(D 10),(D 11),(I 0),(I 0),(I 0),(I 0),(I 0)]))))) (.leaf [(I 2),(D 0),(N (D 1)),(N (D 2)),(N (D 3)),(N (D 4)),(N (D 5)),(N (D 6)),(D 7),(D 8),(N (D 9)),(D 10),(D 11),(N (D 12)),(N (D 13))]))
def qu5c:List aY:=[[((lt (D 13) (.pr 0 (D 0) (I 0))),true),((lt (.pr 0 (D 0) (I 0)) (D 13)),true)],[((lt (cL (D 10)) (I 1000000001)),false)],[((lt (.pr 0 (.pr 3 (D 0) (D 13)) (I 0)) (I 1000000000)),false)]]
def qu5v:aY:=[((lt (D 13) (I 0)),false),((eq (D 1) (I 0)),true),((lt (D 3) (I 0)),false),((lt (D 3) (.pr 0 (D 0) (I 0))),true),((lt (.pr 0 (D 0) (I 0)) (I 1000000000)),true)]
def qu7:ST:=(.ask (lt (D 13) (.pr 0 (D 0) (I 0))) (.ask (eq (D 12) (I 34)) (.leaf [(I 1),(D 0),(N (D 1)),(N (D 2)),(I 5),(N (D 9)),(N (.bin .sub .i64 (.bin .add .i64 (D 13) (I 1)) (D 3))),(I 0),(D 10),(D 11)]) (.ask (eq (cL (D 10)) (I 1)) (.ask (lt (I 0) (cL (D 10))) (.leaf [(I 1),(D 0),(N (D 1)),(N (D 2)),(I 4),(N (D 9)),(N (.bin .sub .i64 (.bin .add .i64 (D 13) (I 1)) (D 3))),(N (.wrap .i64 (.cell (.dvar 10) (.lit 0) 0))),O,(I 0)]) .none) (.ask (eq (D 1) (I 0)) (.leaf [(I 1),(D 0),(I 10),(N (D 3)),(I 5),(N (D 9)),(N (.bin .sub .i64 (.bin .add .i64 (D 13) (I 1)) (D 3))),(I 0),(D 10),(D 11)]) (.leaf [(I 1),(D 0),(N (D 1)),(N (D 2)),(I 5),(N (D 9)),(N (.bin .sub .i64 (.bin .add .i64 (D 13) (I 1)) (D 3))),(I 0),(D 10),(D 11)])))) (.ask (eq (D 1) (I 0)) (.leaf [(I 1),(D 0),(I 4),(N (D 3)),(I 5),(N (D 9)),(I 0),(I 0),(D 10),(D 11)]) (.leaf [(I 1),(D 0),(N (D 1)),(N (D 2)),(I 5),(N (D 9)),(I 0),(I 0),(D 10),(D 11)])))
def qu7c:List aY:=[[((eq (cL (D 10)) (I 1)),true),((lt (I 0) (cL (D 10))),false)]]
def quE0:bA:=[((N (D 3)),(N (D 3))),((D 0),(D 0)),((N (D 1)),(N (D 1))),((N (D 2)),(N (D 2)))]
def quE1:bA:=[((D 0),(D 0)),((N (D 1)),(N (.ap 52 (D 0) (D 3) (I 0)))),((N (D 2)),(N (.ap 53 (D 0) (D 3) (D 2)))),((N (D 3)),(N (.ap 47 (D 0) (D 3) (I 0)))),((N (D 4)),(N (D 3))),((N (D 5)),(N (.ap 48 (D 0) (D 3) (I 0)))),((.slit []),(.ap 49 (D 0) (D 3) (I 0))),((N (D 6)),(N (.ap 50 (D 0) (D 3) (I 0)))),((D 7),(.ap 51 (D 0) (D 3) (I 0)))]
def spQu(F:Fn):fA:=(aD (qu0.tr F 9) (aD (qu1.tr F 12) (aD (qu2.tr F 13) (aD (qu3.tr F 14) (aD (ie 0 (fD (qu5.tr F 14) muQu)) (qu7.tr F 9))))))
def sc0:ST:=(.leaf [(I 0),(D 0),(I 0),(I 0)])
def sc1:ST:=(.ask (lt (.pr 0 (D 0) (I 0)) (I 4001)) (.leaf [(I 0),(D 0),(N (D 1)),(N (D 2)),(I 0)]) (.leaf [(I 1),O,(I 0),(I 3),(I 4000)]))
def sc2:ST:=(.leaf [(I 0),(D 0),(N (D 1)),(N (D 2)),(D 0)])
def sc3:ST:=(.leaf [(I 0),(D 0),(N (D 1)),(N (D 2)),(D 3),O,(I 0)])
def sc4:ST:=(.ask (lt (.pr 0 (D 3) (I 0)) (I 1000000000)) (.leaf [(I 0),(D 0),(N (D 1)),(N (D 2)),(D 3),(N (.ap 16 (D 3) (I 0) (I 0))),(N (.ap 17 (D 3) (I 0) (I 0))),(D 4),(D 5),(N (.ap 15 (D 3) (I 0) (I 0)))]) .none)
def sc4c:List aY:=[[((lt (.pr 0 (D 3) (I 0)) (I 1000000000)),false)]]
def sc6:ST:=(.ask (lt (D 8) (.pr 0 (D 0) (I 0))) (.ask (eq (D 4) (I 0)) (.leaf [(I 0),(D 0),(N (D 1)),(N (D 2)),(D 3),(N (D 4)),(N (D 5)),(D 6),(D 7),(N (D 8))]) (.leaf [(I 2),(N (D 1)),(N (D 2)),(D 3),(N (D 4)),(N (D 5)),(D 6),(D 7),(I 0),(I 0)])) (.leaf [(I 2),(N (D 1)),(N (D 2)),(D 3),(N (D 4)),(N (D 5)),(D 6),(D 7),(I 0),(I 0)]))
def sc6v:aY:=[((lt (D 8) (I 0)),false)]
def sc7:ST:=(.ask (eq (.ap 7 (.pr 1 (D 3) (D 8)) (I 0) (I 0)) (I 0)) (.ask (eq (.ap 8 (.pr 1 (D 3) (D 8)) (I 0) (I 0)) (I 0)) (.ask (eq (.pr 1 (D 3) (D 8)) (I 39)) (.ask (lt (.pr 0 (D 3) (I 0)) (I 1000000000)) (.leaf [(I 0),(D 0),(N (D 1)),(N (D 2)),(D 3),(N (.ap 52 (D 3) (D 8) (I 0))),(N (.ap 53 (D 3) (D 8) (D 5))),(D 6),(D 7),(N (D 8)),(N (.ap 47 (D 3) (D 8) (I 0))),(N (D 8)),(N (.ap 48 (D 3) (D 8) (I 0))),(.ap 49 (D 3) (D 8) (I 0)),(N (.ap 50 (D 3) (D 8) (I 0))),(.ap 51 (D 3) (D 8) (I 0))]) .none) (.ask (eq (.pr 1 (D 3) (D 8)) (I 34)) (.ask (lt (.pr 0 (D 3) (I 0)) (I 1000000000)) (.leaf [(I 0),(D 0),(N (D 1)),(N (D 2)),(D 3),(N (.ap 52 (D 3) (D 8) (I 0))),(N (.ap 53 (D 3) (D 8) (D 5))),(D 6),(D 7),(N (D 8)),(N (.ap 47 (D 3) (D 8) (I 0))),(N (D 8)),(N (.ap 48 (D 3) (D 8) (I 0))),(.ap 49 (D 3) (D 8) (I 0)),(N (.ap 50 (D 3) (D 8) (I 0))),(.ap 51 (D 3) (D 8) (I 0))]) .none) (.ask (lt (.pr 0 (D 3) (I 0)) (I 1000000000)) (.leaf [(I 0),(D 0),(N (D 1)),(N (D 2)),(D 3),(N (.ap 38 (D 3) (D 8) (I 0))),(N (.ap 39 (D 3) (D 8) (D 5))),(D 6),(D 7),(N (D 8)),(N (.ap 33 (D 3) (D 8) (I 0))),(N (D 8)),(N (.ap 34 (D 3) (D 8) (I 0))),(.ap 35 (D 3) (D 8) (I 0)),(N (.ap 36 (D 3) (D 8) (I 0))),(.ap 37 (D 3) (D 8) (I 0))]) .none))) (.ask (lt (.pr 0 (D 3) (I 0)) (I 1000000000)) (.leaf [(I 0),(D 0),(N (D 1)),(N (D 2)),(D 3),(N (.ap 45 (D 3) (D 8) (I 0))),(N (.ap 46 (D 3) (D 8) (D 5))),(D 6),(D 7),(N (D 8)),(N (.ap 40 (D 3) (D 8) (I 0))),(N (D 8)),(N (.ap 41 (D 3) (D 8) (I 0))),(.ap 42 (D 3) (D 8) (I 0)),(N (.ap 43 (D 3) (D 8) (I 0))),(.ap 44 (D 3) (D 8) (I 0))]) .none)) (.ask (lt (.pr 0 (D 3) (I 0)) (I 1000000000)) (.leaf [(I 0),(D 0),(N (D 1)),(N (D 2)),(D 3),(N (.ap 31 (D 3) (D 8) (I 0))),(N (.ap 32 (D 3) (D 8) (D 5))),(D 6),(D 7),(N (D 8)),(N (.ap 26 (D 3) (D 8) (I 0))),(N (D 8)),(N (.ap 27 (D 3) (D 8) (I 0))),(.ap 28 (D 3) (D 8) (I 0)),(N (.ap 29 (D 3) (D 8) (I 0))),(.ap 30 (D 3) (D 8) (I 0))]) .none))
def sc7c:List aY:=[[((lt (.pr 0 (D 3) (I 0)) (I 1000000000)),false)]]
def sc7v:aY:=[((lt (D 8) (I 0)),false),((lt (D 8) (.pr 0 (D 3) (I 0))),true),((eq (D 4) (I 0)),true)]
def sc8:ST:=(.ask (lt (cL (D 6)) (I 1000000001)) (.ask (eq (D 4) (I 0)) (.ask (lt (.bin .add .i64 (D 8) (D 11)) (I 0)) .none (.ask (lt (.pr 0 (D 3) (I 0)) (I 1000000000)) (.leaf [(I 0),(D 0),(N (D 1)),(N (D 2)),(D 3),(N (.ap 16 (D 3) (.bin .add .i64 (D 8) (D 11)) (I 0))),(N (.ap 17 (D 3) (.bin .add .i64 (D 8) (D 11)) (D 5))),(J (D 6) (J (.pr 12 (D 9) (.pr 12 (D 10) (.pr 12 (D 11) (.pr 12 (D 12) (.pr 12 (D 13) (.pr 12 (D 14) (.pr 14 (I 0) (I 0)))))))) O)),(I 1),(N (.ap 15 (D 3) (.bin .add .i64 (D 8) (D 11)) (I 0)))]) .none)) (.leaf [(I 0),(D 0),(N (D 1)),(N (D 2)),(D 3),(N (D 4)),(N (D 5)),(J (D 6) (J (.pr 12 (D 9) (.pr 12 (D 10) (.pr 12 (D 11) (.pr 12 (D 12) (.pr 12 (D 13) (.pr 12 (D 14) (.pr 14 (I 0) (I 0)))))))) O)),(I 1),(N (D 8))])) .none)
def sc8c:List aY:=[[((lt (.bin .add .i64 (D 8) (D 11)) (I 0)),true)],[((lt (.pr 0 (D 3) (I 0)) (I 1000000000)),false)],[((lt (cL (D 6)) (I 1000000001)),false)]]
def sc10:ST:=(.ask (eq (D 3) (I 0)) (.leaf [(I 1),(D 5),(D 6),(N (D 3)),(N (D 4))]) (.leaf [(I 1),O,(I 0),(N (D 3)),(N (D 4))]))
def scE0:bA:=[((D 0),(D 0))]
def scE1:bA:=[((D 0),(.ap 54 (D 0) (I 0) (I 0))),((N (D 2)),(N (.ap 55 (D 0) (I 0) (I 0)))),((N (D 3)),(N (.ap 56 (D 0) (I 0) (I 0))))]
def spSc(F:Fn):fA:=(aD (sc0.tr F 3) (aD (sc1.tr F 4) (aD (sc2.tr F 4) (aD (sc3.tr F 6) (aD (aD (sc4.tr F 9) (ie 0 (fD (aD (sc6.tr F 9) (ie 1 (aD (sc7.tr F 15) (sc8.tr F 9)))) muSc))) (sc10.tr F 4))))))
def idxL(x:List UInt8):List UInt8→Nat→Int
 |[],n=>if x.isEmpty then n else -1
 |c::l,n=>if x.isPrefixOf (c::l)then n else idxL x l (n+1)
def lowB(c:UInt8):UInt8:=if 65≤c.toNat∧c.toNat≤90 then c+32 else c
def Fa:Fn:=fun n a b c=>match n with
 |0=>.int (aJ (spPi (fun _ _ _ _=>.int 0) [a,.int b.toI,.int c.toI]).2 1).toI
 |1=>aJ (spKk (fun _ _ _ _=>.int 0) []).2 0
 |2=>aJ (spSs (fun _ _ _ _=>.int 0) []).2 0
 |3=>.int (idxL [42,47] a.toS 0)
 |4=>.str (a.toS.dropWhile fun x=>b.toS.contains x)
 |5=>.int (if a.toS.all fun x=>decide (x.toNat<128)then 1 else 0)
 |6=>.str (a.toS.map lowB)
 |7=>.int (aJ (spLe (fun _ _ _ _=>.int 0) [.int a.toI]).2 0).toI
 |8=>.int (aJ (spDi (fun _ _ _ _=>.int 0) [.int a.toI]).2 0).toI
 |9=>.int (aJ (spIx (fun _ _ _ _=>.int 0) [a,b,c]).2 2).toI
 |10=>.int (aJ (spPi (fun _ _ _ _=>.int 0) [a,.int b.toI,.int c.toI]).2 0).toI
 |_=>.int 0
def Fa2:Fn:=fun n a b c=>match n with
 |11=>aJ (spPu Fa [a,.int b.toI,.int c.toI]).2 1
 |n=>Fa n a b c
def Fb:Fn:=fun n a b c=>match n with
 |12=>.int (aJ (spPa Fa2 [.int a.toI]).2 0).toI
 |13=>.int (aJ (spKy Fa2 [a]).2 0).toI
 |14=>.int (aJ (spSg Fa2 [a]).2 0).toI
 |15=>.int (aJ (spSk Fa2 [a,.int 0,.int 0,.int b.toI]).2 3).toI
 |16=>.int (aJ (spSk Fa2 [a,.int 0,.int 0,.int b.toI]).2 1).toI
 |17=>.int (aJ (spSk Fa2 [a,.int 0,.int c.toI,.int b.toI]).2 2).toI
 |18=>aJ (spSf Fa2 [a]).2 0
 |19=>.int (aJ (spSf Fa2 [a]).2 1).toI
 |20=>.int (aJ (spSp Fa2 [a]).2 0).toI
 |21=>aJ (spSp Fa2 [a]).2 1
 |22=>aJ (spSp Fa2 [a]).2 2
 |n=>Fa2 n a b c
def Fc:Fn:=fun n a b c=>match n with
 |23=>aJ (spRn Fb [a,.int 0,.int 0,.int b.toI]).2 3
 |24=>.int (aJ (spEs Fb [a]).2 0).toI
 |25=>.int (aJ (spEs Fb [a]).2 1).toI
 |n=>Fb n a b c
def Fd:Fn:=fun n a b c=>match n with
 |26=>.int (aJ (spWd Fc [a,.int 0,.int 0,.int b.toI]).2 3).toI
 |27=>.int (aJ (spWd Fc [a,.int 0,.int 0,.int b.toI]).2 5).toI
 |28=>aJ (spWd Fc [a,.int 0,.int 0,.int b.toI]).2 6
 |29=>.int 0
 |30=>.lst []
 |31=>.int (aJ (spWd Fc [a,.int 0,.int 0,.int b.toI]).2 1).toI
 |32=>.int (aJ (spWd Fc [a,.int 0,.int c.toI,.int b.toI]).2 2).toI
 |33=>.int 6
 |34=>.int (aJ (spSi Fc [a,.int 0,.int 0,.int b.toI]).2 4).toI
 |35=>aJ (spSi Fc [a,.int 0,.int 0,.int b.toI]).2 5
 |36=>.int 0
 |37=>.lst []
 |38=>.int (aJ (spSi Fc [a,.int 0,.int 0,.int b.toI]).2 1).toI
 |39=>.int (aJ (spSi Fc [a,.int 0,.int c.toI,.int b.toI]).2 2).toI
 |40=>.int 3
 |41=>.int (aJ (spNm Fc [a,.int 0,.int 0,.int b.toI]).2 4).toI
 |42=>aJ (spNm Fc [a,.int 0,.int 0,.int b.toI]).2 5
 |43=>.int (aJ (spNm Fc [a,.int 0,.int 0,.int b.toI]).2 6).toI
 |44=>.lst []
 |45=>.int (aJ (spNm Fc [a,.int 0,.int 0,.int b.toI]).2 1).toI
 |46=>.int (aJ (spNm Fc [a,.int 0,.int c.toI,.int b.toI]).2 2).toI
 |47=>.int (aJ (spQu Fc [a,.int 0,.int 0,.int b.toI]).2 3).toI
 |48=>.int (aJ (spQu Fc [a,.int 0,.int 0,.int b.toI]).2 5).toI
 |49=>.str []
 |50=>.int (aJ (spQu Fc [a,.int 0,.int 0,.int b.toI]).2 6).toI
 |51=>aJ (spQu Fc [a,.int 0,.int 0,.int b.toI]).2 7
 |52=>.int (aJ (spQu Fc [a,.int 0,.int 0,.int b.toI]).2 1).toI
 |53=>.int (aJ (spQu Fc [a,.int 0,.int c.toI,.int b.toI]).2 2).toI
 |n=>Fc n a b c
def F0:Fn:=fun n a b c=>match n with
 |54=>aJ (spSc Fd [a]).2 0
 |55=>.int (aJ (spSc Fd [a]).2 2).toI
 |56=>.int (aJ (spSc Fd [a]).2 3).toI
 |n=>Fd n a b c
end Go.Tw.LX
namespace Go.Tw.LX
abbrev Fz:Fn:=fun _ _ _ _=>.int 0
theorem up_Fa:∀f,f<11→Fa f=Fa2 f:=fun f hf=>by funext a b c;unfold Fa2;split<;>first|omega|rfl
theorem up_Fa2:∀f,f<12→Fa2 f=Fb f:=fun f hf=>by funext a b c;unfold Fb;split<;>first|omega|rfl
theorem up_Fb:∀f,f<23→Fb f=Fc f:=fun f hf=>by funext a b c;unfold Fc;split<;>first|omega|rfl
theorem up_Fc:∀f,f<26→Fc f=Fd f:=fun f hf=>by funext a b c;unfold Fd;split<;>first|omega|rfl
theorem up_Fd:∀f,f<54→Fd f=F0 f:=fun f hf=>by funext a b c;unfold F0;split<;>first|omega|rfl
theorem F0_Fd:∀f,f<54→Fd f=F0 f:=up_Fd
theorem F0_Fc:∀f,f<26→Fc f=F0 f:=fun f hf=>(up_Fc f hf).trans (F0_Fd f (by omega))
theorem F0_Fb:∀f,f<23→Fb f=F0 f:=fun f hf=>(up_Fb f hf).trans (F0_Fc f (by omega))
theorem F0_Fa2:∀f,f<12→Fa2 f=F0 f:=fun f hf=>(up_Fa2 f hf).trans (F0_Fb f (by omega))
theorem F0_Fa:∀f,f<11→Fa f=F0 f:=fun f hf=>(up_Fa f hf).trans (F0_Fa2 f (by omega))
theorem spKk_F:spKk Fz=spKk F0:=by unfold spKk;rw[ST.tr_congr (F:=Fz) (G:=F0) (fun _ h=>absurd h (Nat.not_lt_zero _)) (sp:=kk0) (nv:=16) (m:=2) (nf:=0) (by kernel_rfl)]
theorem spSs_F:spSs Fz=spSs F0:=by unfold spSs;rw[ST.tr_congr (F:=Fz) (G:=F0) (fun _ h=>absurd h (Nat.not_lt_zero _)) (sp:=ss0) (nv:=16) (m:=2) (nf:=0) (by kernel_rfl)]
theorem spLe_F:spLe Fz=spLe F0:=by unfold spLe;rw[ST.tr_congr (F:=Fz) (G:=F0) (fun _ h=>absurd h (Nat.not_lt_zero _)) (sp:=le0) (nv:=16) (m:=1) (nf:=0) (by kernel_rfl)]
theorem spDi_F:spDi Fz=spDi F0:=by unfold spDi;rw[ST.tr_congr (F:=Fz) (G:=F0) (fun _ h=>absurd h (Nat.not_lt_zero _)) (sp:=di0) (nv:=16) (m:=1) (nf:=0) (by kernel_rfl)]
theorem spIx_F:spIx Fz=spIx F0:=by unfold spIx;rw[ST.tr_congr (F:=Fz) (G:=F0) (fun _ h=>absurd h (Nat.not_lt_zero _)) (sp:=ix0) (nv:=16) (m:=3) (nf:=0) (by kernel_rfl),ST.tr_congr (F:=Fz) (G:=F0) (fun _ h=>absurd h (Nat.not_lt_zero _)) (sp:=ix1) (nv:=16) (m:=4) (nf:=0) (by kernel_rfl),ST.tr_congr (F:=Fz) (G:=F0) (fun _ h=>absurd h (Nat.not_lt_zero _)) (sp:=ix3) (nv:=16) (m:=4) (nf:=0) (by kernel_rfl),ST.tr_congr (F:=Fz) (G:=F0) (fun _ h=>absurd h (Nat.not_lt_zero _)) (sp:=ix5) (nv:=16) (m:=3) (nf:=0) (by kernel_rfl)]
theorem spPi_F:spPi Fz=spPi F0:=by unfold spPi;rw[ST.tr_congr (F:=Fz) (G:=F0) (fun _ h=>absurd h (Nat.not_lt_zero _)) (sp:=pi0) (nv:=16) (m:=3) (nf:=0) (by kernel_rfl),ST.tr_congr (F:=Fz) (G:=F0) (fun _ h=>absurd h (Nat.not_lt_zero _)) (sp:=pi1) (nv:=16) (m:=3) (nf:=0) (by kernel_rfl),ST.tr_congr (F:=Fz) (G:=F0) (fun _ h=>absurd h (Nat.not_lt_zero _)) (sp:=pi2) (nv:=16) (m:=4) (nf:=0) (by kernel_rfl),ST.tr_congr (F:=Fz) (G:=F0) (fun _ h=>absurd h (Nat.not_lt_zero _)) (sp:=pi3) (nv:=16) (m:=5) (nf:=0) (by kernel_rfl),ST.tr_congr (F:=Fz) (G:=F0) (fun _ h=>absurd h (Nat.not_lt_zero _)) (sp:=pi4) (nv:=16) (m:=5) (nf:=0) (by kernel_rfl),ST.tr_congr (F:=Fz) (G:=F0) (fun _ h=>absurd h (Nat.not_lt_zero _)) (sp:=pi5) (nv:=16) (m:=5) (nf:=0) (by kernel_rfl),ST.tr_congr (F:=Fz) (G:=F0) (fun _ h=>absurd h (Nat.not_lt_zero _)) (sp:=pi6) (nv:=16) (m:=5) (nf:=0) (by kernel_rfl),ST.tr_congr (F:=Fz) (G:=F0) (fun _ h=>absurd h (Nat.not_lt_zero _)) (sp:=pi7) (nv:=16) (m:=6) (nf:=0) (by kernel_rfl),ST.tr_congr (F:=Fz) (G:=F0) (fun _ h=>absurd h (Nat.not_lt_zero _)) (sp:=pi8) (nv:=16) (m:=7) (nf:=0) (by kernel_rfl),ST.tr_congr (F:=Fz) (G:=F0) (fun _ h=>absurd h (Nat.not_lt_zero _)) (sp:=pi9) (nv:=16) (m:=8) (nf:=0) (by kernel_rfl),ST.tr_congr (F:=Fz) (G:=F0) (fun _ h=>absurd h (Nat.not_lt_zero _)) (sp:=pi10) (nv:=16) (m:=9) (nf:=0) (by kernel_rfl),ST.tr_congr (F:=Fz) (G:=F0) (fun _ h=>absurd h (Nat.not_lt_zero _)) (sp:=pi11) (nv:=16) (m:=11) (nf:=0) (by kernel_rfl),ST.tr_congr (F:=Fz) (G:=F0) (fun _ h=>absurd h (Nat.not_lt_zero _)) (sp:=pi13) (nv:=16) (m:=11) (nf:=0) (by kernel_rfl),ST.tr_congr (F:=Fz) (G:=F0) (fun _ h=>absurd h (Nat.not_lt_zero _)) (sp:=pi15) (nv:=16) (m:=2) (nf:=0) (by kernel_rfl)]
theorem spPu_F:spPu Fa=spPu F0:=by unfold spPu;rw[ST.tr_congr (F:=Fa) (G:=F0) (F0_Fa) (sp:=pu0) (nv:=16) (m:=2) (nf:=11) (by kernel_rfl)]
theorem spPa_F:spPa Fa2=spPa F0:=by unfold spPa;rw[ST.tr_congr (F:=Fa2) (G:=F0) (F0_Fa2) (sp:=pa0) (nv:=16) (m:=1) (nf:=12) (by kernel_rfl)]
theorem spKy_F:spKy Fa2=spKy F0:=by unfold spKy;rw[ST.tr_congr (F:=Fa2) (G:=F0) (F0_Fa2) (sp:=ky0) (nv:=16) (m:=1) (nf:=12) (by kernel_rfl)]
theorem spSg_F:spSg Fa2=spSg F0:=by unfold spSg;rw[ST.tr_congr (F:=Fa2) (G:=F0) (F0_Fa2) (sp:=sg0) (nv:=16) (m:=1) (nf:=12) (by kernel_rfl),ST.tr_congr (F:=Fa2) (G:=F0) (F0_Fa2) (sp:=sg1) (nv:=16) (m:=4) (nf:=12) (by kernel_rfl),ST.tr_congr (F:=Fa2) (G:=F0) (F0_Fa2) (sp:=sg3) (nv:=16) (m:=4) (nf:=12) (by kernel_rfl),ST.tr_congr (F:=Fa2) (G:=F0) (F0_Fa2) (sp:=sg5) (nv:=16) (m:=1) (nf:=12) (by kernel_rfl)]
theorem spSk_F:spSk Fa2=spSk F0:=by unfold spSk;rw[ST.tr_congr (F:=Fa2) (G:=F0) (F0_Fa2) (sp:=sk0) (nv:=16) (m:=4) (nf:=12) (by kernel_rfl),ST.tr_congr (F:=Fa2) (G:=F0) (F0_Fa2) (sp:=sk2) (nv:=16) (m:=4) (nf:=12) (by kernel_rfl),ST.tr_congr (F:=Fa2) (G:=F0) (F0_Fa2) (sp:=sk4) (nv:=16) (m:=4) (nf:=12) (by kernel_rfl)]
theorem spSf_F:spSf Fa2=spSf F0:=by unfold spSf;rw[ST.tr_congr (F:=Fa2) (G:=F0) (F0_Fa2) (sp:=sf0) (nv:=16) (m:=2) (nf:=12) (by kernel_rfl)]
theorem spSp_F:spSp Fa2=spSp F0:=by unfold spSp;rw[ST.tr_congr (F:=Fa2) (G:=F0) (F0_Fa2) (sp:=sp0) (nv:=16) (m:=3) (nf:=12) (by kernel_rfl)]
theorem spRn_F:spRn Fb=spRn F0:=by unfold spRn;rw[ST.tr_congr (F:=Fb) (G:=F0) (F0_Fb) (sp:=rn0) (nv:=16) (m:=4) (nf:=23) (by kernel_rfl),ST.tr_congr (F:=Fb) (G:=F0) (F0_Fb) (sp:=rn1) (nv:=16) (m:=5) (nf:=23) (by kernel_rfl),ST.tr_congr (F:=Fb) (G:=F0) (F0_Fb) (sp:=rn3) (nv:=16) (m:=5) (nf:=23) (by kernel_rfl),ST.tr_congr (F:=Fb) (G:=F0) (F0_Fb) (sp:=rn5) (nv:=16) (m:=4) (nf:=23) (by kernel_rfl)]
theorem spEs_F:spEs Fb=spEs F0:=by unfold spEs;rw[ST.tr_congr (F:=Fb) (G:=F0) (F0_Fb) (sp:=es0) (nv:=16) (m:=2) (nf:=23) (by kernel_rfl)]
theorem spWd_F:spWd Fc=spWd F0:=by unfold spWd;rw[ST.tr_congr (F:=Fc) (G:=F0) (F0_Fc) (sp:=wd0) (nv:=16) (m:=7) (nf:=26) (by kernel_rfl)]
theorem spSi_F:spSi Fc=spSi F0:=by unfold spSi;rw[ST.tr_congr (F:=Fc) (G:=F0) (F0_Fc) (sp:=si0) (nv:=16) (m:=6) (nf:=26) (by kernel_rfl)]
theorem spNm_F:spNm Fc=spNm F0:=by unfold spNm;rw[ST.tr_congr (F:=Fc) (G:=F0) (F0_Fc) (sp:=nm0) (nv:=16) (m:=7) (nf:=26) (by kernel_rfl)]
theorem spQu_F:spQu Fc=spQu F0:=by unfold spQu;rw[ST.tr_congr (F:=Fc) (G:=F0) (F0_Fc) (sp:=qu0) (nv:=16) (m:=9) (nf:=26) (by kernel_rfl),ST.tr_congr (F:=Fc) (G:=F0) (F0_Fc) (sp:=qu1) (nv:=16) (m:=12) (nf:=26) (by kernel_rfl),ST.tr_congr (F:=Fc) (G:=F0) (F0_Fc) (sp:=qu2) (nv:=16) (m:=13) (nf:=26) (by kernel_rfl),ST.tr_congr (F:=Fc) (G:=F0) (F0_Fc) (sp:=qu3) (nv:=16) (m:=14) (nf:=26) (by kernel_rfl),ST.tr_congr (F:=Fc) (G:=F0) (F0_Fc) (sp:=qu5) (nv:=16) (m:=14) (nf:=26) (by kernel_rfl),ST.tr_congr (F:=Fc) (G:=F0) (F0_Fc) (sp:=qu7) (nv:=16) (m:=9) (nf:=26) (by kernel_rfl)]
theorem spSc_F:spSc Fd=spSc F0:=by unfold spSc;rw[ST.tr_congr (F:=Fd) (G:=F0) (F0_Fd) (sp:=sc0) (nv:=16) (m:=3) (nf:=54) (by kernel_rfl),ST.tr_congr (F:=Fd) (G:=F0) (F0_Fd) (sp:=sc1) (nv:=16) (m:=4) (nf:=54) (by kernel_rfl),ST.tr_congr (F:=Fd) (G:=F0) (F0_Fd) (sp:=sc2) (nv:=16) (m:=4) (nf:=54) (by kernel_rfl),ST.tr_congr (F:=Fd) (G:=F0) (F0_Fd) (sp:=sc3) (nv:=16) (m:=6) (nf:=54) (by kernel_rfl),ST.tr_congr (F:=Fd) (G:=F0) (F0_Fd) (sp:=sc4) (nv:=16) (m:=9) (nf:=54) (by kernel_rfl),ST.tr_congr (F:=Fd) (G:=F0) (F0_Fd) (sp:=sc6) (nv:=16) (m:=9) (nf:=54) (by kernel_rfl),ST.tr_congr (F:=Fd) (G:=F0) (F0_Fd) (sp:=sc7) (nv:=16) (m:=15) (nf:=54) (by kernel_rfl),ST.tr_congr (F:=Fd) (G:=F0) (F0_Fd) (sp:=sc8) (nv:=16) (m:=9) (nf:=54) (by kernel_rfl),ST.tr_congr (F:=Fd) (G:=F0) (F0_Fd) (sp:=sc10) (nv:=16) (m:=4) (nf:=54) (by kernel_rfl)]
theorem F0_0{a b c:Dat}:F0 0 a b c=.int (aJ (spPi F0 [a,.int b.toI,.int c.toI]).2 1).toI:=by rw[←spPi_F];rfl
theorem F0_1{a b c:Dat}:F0 1 a b c=aJ (spKk F0 []).2 0:=by rw[←spKk_F];rfl
theorem F0_2{a b c:Dat}:F0 2 a b c=aJ (spSs F0 []).2 0:=by rw[←spSs_F];rfl
theorem F0_3{a b c:Dat}:F0 3 a b c=.int (idxL [42,47] a.toS 0):=rfl
theorem F0_4{a b c:Dat}:F0 4 a b c=.str (a.toS.dropWhile fun x=>b.toS.contains x):=rfl
theorem F0_5{a b c:Dat}:F0 5 a b c=.int (if a.toS.all fun x=>decide (x.toNat<128)then 1 else 0):=rfl
theorem F0_6{a b c:Dat}:F0 6 a b c=.str (a.toS.map lowB):=rfl
theorem F0_7{a b c:Dat}:F0 7 a b c=.int (aJ (spLe F0 [.int a.toI]).2 0).toI:=by rw[←spLe_F];rfl
theorem F0_8{a b c:Dat}:F0 8 a b c=.int (aJ (spDi F0 [.int a.toI]).2 0).toI:=by rw[←spDi_F];rfl
theorem F0_9{a b c:Dat}:F0 9 a b c=.int (aJ (spIx F0 [a,b,c]).2 2).toI:=by rw[←spIx_F];rfl
theorem F0_10{a b c:Dat}:F0 10 a b c=.int (aJ (spPi F0 [a,.int b.toI,.int c.toI]).2 0).toI:=by rw[←spPi_F];rfl
theorem F0_11{a b c:Dat}:F0 11 a b c=aJ (spPu F0 [a,.int b.toI,.int c.toI]).2 1:=by rw[←spPu_F];rfl
theorem F0_12{a b c:Dat}:F0 12 a b c=.int (aJ (spPa F0 [.int a.toI]).2 0).toI:=by rw[←spPa_F];rfl
theorem F0_13{a b c:Dat}:F0 13 a b c=.int (aJ (spKy F0 [a]).2 0).toI:=by rw[←spKy_F];rfl
theorem F0_14{a b c:Dat}:F0 14 a b c=.int (aJ (spSg F0 [a]).2 0).toI:=by rw[←spSg_F];rfl
theorem F0_15{a b c:Dat}:F0 15 a b c=.int (aJ (spSk F0 [a,.int 0,.int 0,.int b.toI]).2 3).toI:=by rw[←spSk_F];rfl
theorem F0_16{a b c:Dat}:F0 16 a b c=.int (aJ (spSk F0 [a,.int 0,.int 0,.int b.toI]).2 1).toI:=by rw[←spSk_F];rfl
theorem F0_17{a b c:Dat}:F0 17 a b c=.int (aJ (spSk F0 [a,.int 0,.int c.toI,.int b.toI]).2 2).toI:=by rw[←spSk_F];rfl
theorem F0_18{a b c:Dat}:F0 18 a b c=aJ (spSf F0 [a]).2 0:=by rw[←spSf_F];rfl
theorem F0_19{a b c:Dat}:F0 19 a b c=.int (aJ (spSf F0 [a]).2 1).toI:=by rw[←spSf_F];rfl
theorem F0_20{a b c:Dat}:F0 20 a b c=.int (aJ (spSp F0 [a]).2 0).toI:=by rw[←spSp_F];rfl
theorem F0_21{a b c:Dat}:F0 21 a b c=aJ (spSp F0 [a]).2 1:=by rw[←spSp_F];rfl
theorem F0_22{a b c:Dat}:F0 22 a b c=aJ (spSp F0 [a]).2 2:=by rw[←spSp_F];rfl
theorem F0_23{a b c:Dat}:F0 23 a b c=aJ (spRn F0 [a,.int 0,.int 0,.int b.toI]).2 3:=by rw[←spRn_F];rfl
theorem F0_24{a b c:Dat}:F0 24 a b c=.int (aJ (spEs F0 [a]).2 0).toI:=by rw[←spEs_F];rfl
theorem F0_25{a b c:Dat}:F0 25 a b c=.int (aJ (spEs F0 [a]).2 1).toI:=by rw[←spEs_F];rfl
theorem F0_26{a b c:Dat}:F0 26 a b c=.int (aJ (spWd F0 [a,.int 0,.int 0,.int b.toI]).2 3).toI:=by rw[←spWd_F];rfl
theorem F0_27{a b c:Dat}:F0 27 a b c=.int (aJ (spWd F0 [a,.int 0,.int 0,.int b.toI]).2 5).toI:=by rw[←spWd_F];rfl
theorem F0_28{a b c:Dat}:F0 28 a b c=aJ (spWd F0 [a,.int 0,.int 0,.int b.toI]).2 6:=by rw[←spWd_F];rfl
theorem F0_29{a b c:Dat}:F0 29 a b c=.int 0:=rfl
theorem F0_30{a b c:Dat}:F0 30 a b c=.lst []:=rfl
theorem F0_31{a b c:Dat}:F0 31 a b c=.int (aJ (spWd F0 [a,.int 0,.int 0,.int b.toI]).2 1).toI:=by rw[←spWd_F];rfl
theorem F0_32{a b c:Dat}:F0 32 a b c=.int (aJ (spWd F0 [a,.int 0,.int c.toI,.int b.toI]).2 2).toI:=by rw[←spWd_F];rfl
theorem F0_33{a b c:Dat}:F0 33 a b c=.int 6:=rfl
theorem F0_34{a b c:Dat}:F0 34 a b c=.int (aJ (spSi F0 [a,.int 0,.int 0,.int b.toI]).2 4).toI:=by rw[←spSi_F];rfl
theorem F0_35{a b c:Dat}:F0 35 a b c=aJ (spSi F0 [a,.int 0,.int 0,.int b.toI]).2 5:=by rw[←spSi_F];rfl
theorem F0_36{a b c:Dat}:F0 36 a b c=.int 0:=rfl
theorem F0_37{a b c:Dat}:F0 37 a b c=.lst []:=rfl
theorem F0_38{a b c:Dat}:F0 38 a b c=.int (aJ (spSi F0 [a,.int 0,.int 0,.int b.toI]).2 1).toI:=by rw[←spSi_F];rfl
theorem F0_39{a b c:Dat}:F0 39 a b c=.int (aJ (spSi F0 [a,.int 0,.int c.toI,.int b.toI]).2 2).toI:=by rw[←spSi_F];rfl
theorem F0_40{a b c:Dat}:F0 40 a b c=.int 3:=rfl
theorem F0_41{a b c:Dat}:F0 41 a b c=.int (aJ (spNm F0 [a,.int 0,.int 0,.int b.toI]).2 4).toI:=by rw[←spNm_F];rfl
theorem F0_42{a b c:Dat}:F0 42 a b c=aJ (spNm F0 [a,.int 0,.int 0,.int b.toI]).2 5:=by rw[←spNm_F];rfl
theorem F0_43{a b c:Dat}:F0 43 a b c=.int (aJ (spNm F0 [a,.int 0,.int 0,.int b.toI]).2 6).toI:=by rw[←spNm_F];rfl
theorem F0_44{a b c:Dat}:F0 44 a b c=.lst []:=rfl
theorem F0_45{a b c:Dat}:F0 45 a b c=.int (aJ (spNm F0 [a,.int 0,.int 0,.int b.toI]).2 1).toI:=by rw[←spNm_F];rfl
theorem F0_46{a b c:Dat}:F0 46 a b c=.int (aJ (spNm F0 [a,.int 0,.int c.toI,.int b.toI]).2 2).toI:=by rw[←spNm_F];rfl
theorem F0_47{a b c:Dat}:F0 47 a b c=.int (aJ (spQu F0 [a,.int 0,.int 0,.int b.toI]).2 3).toI:=by rw[←spQu_F];rfl
theorem F0_48{a b c:Dat}:F0 48 a b c=.int (aJ (spQu F0 [a,.int 0,.int 0,.int b.toI]).2 5).toI:=by rw[←spQu_F];rfl
theorem F0_49{a b c:Dat}:F0 49 a b c=.str []:=rfl
theorem F0_50{a b c:Dat}:F0 50 a b c=.int (aJ (spQu F0 [a,.int 0,.int 0,.int b.toI]).2 6).toI:=by rw[←spQu_F];rfl
theorem F0_51{a b c:Dat}:F0 51 a b c=aJ (spQu F0 [a,.int 0,.int 0,.int b.toI]).2 7:=by rw[←spQu_F];rfl
theorem F0_52{a b c:Dat}:F0 52 a b c=.int (aJ (spQu F0 [a,.int 0,.int 0,.int b.toI]).2 1).toI:=by rw[←spQu_F];rfl
theorem F0_53{a b c:Dat}:F0 53 a b c=.int (aJ (spQu F0 [a,.int 0,.int c.toI,.int b.toI]).2 2).toI:=by rw[←spQu_F];rfl
theorem F0_54{a b c:Dat}:F0 54 a b c=aJ (spSc F0 [a]).2 0:=by rw[←spSc_F];rfl
theorem F0_55{a b c:Dat}:F0 55 a b c=.int (aJ (spSc F0 [a]).2 2).toI:=by rw[←spSc_F];rfl
theorem F0_56{a b c:Dat}:F0 56 a b c=.int (aJ (spSc F0 [a]).2 3).toI:=by rw[←spSc_F];rfl
end Go.Tw.LX
set_option linter.all false
namespace Go.Tw.LX
noncomputable section
theorem hget{v:Val}{b:Bx}{x:Bool}{p:aY}(h:@Holds v ((b,x)::p)):@Bx.eval v b=x∧@Holds v p:=⟨h (b,x) (by simp),fun q hq=>h q (by simp [hq])⟩
theorem hnil{v:Val}:@Holds v []:=fun _ h=>by cases h
theorem hcons{v:Val}{b:Bx}{x:Bool}{p:aY}(h:@Bx.eval v b=x)(hp:@Holds v p):@Holds v ((b,x)::p):=fun q hq=>by rcases List.mem_cons.1 hq with rfl|hq;{exact h};exact hp q hq
theorem ltT{v:Val}{a b:Sx}(h:@Sx.eval v a<@Sx.eval v b):@Bx.eval v (lt a b)=true:=decide_eq_true h
theorem ltF{v:Val}{a b:Sx}(h:¬@Sx.eval v a<@Sx.eval v b):@Bx.eval v (lt a b)=false:=decide_eq_false h
theorem eqT{v:Val}{a b:Sx}(h:@Sx.eval v a=@Sx.eval v b):@Bx.eval v (eq a b)=true:=decide_eq_true h
theorem eqF{v:Val}{a b:Sx}(h:¬@Sx.eval v a=@Sx.eval v b):@Bx.eval v (eq a b)=false:=decide_eq_false h
theorem ltT'{v:Val}{a b:Sx}(h:@Bx.eval v (lt a b)=true):@Sx.eval v a<@Sx.eval v b:=of_decide_eq_true h
theorem ltF'{v:Val}{a b:Sx}(h:@Bx.eval v (lt a b)=false):¬@Sx.eval v a<@Sx.eval v b:=of_decide_eq_false h
theorem eqT'{v:Val}{a b:Sx}(h:@Bx.eval v (eq a b)=true):@Sx.eval v a=@Sx.eval v b:=of_decide_eq_true h
theorem eqF'{v:Val}{a b:Sx}(h:@Bx.eval v (eq a b)=false):¬@Sx.eval v a=@Sx.eval v b:=of_decide_eq_false h
theorem seqT{v:Val}{a b:Sx}(h:(@Sx.dat v a).toS=(@Sx.dat v b).toS):@Bx.eval v (.seq a b)=true:=by show((@Sx.dat v a).toS==(@Sx.dat v b).toS)=true;rw[h];exact beq_self_eq_true _
theorem wrap_small{n:Int}(h1: -9223372036854775808≤n)(h2:n≤9223372036854775807):bX .i64 n=n:=by rw[wrap_i64];split<;>omega
theorem add_small{a b:Int}(h1: -9223372036854775808≤a+b)(h2:a+b≤9223372036854775807):aS .add .i64 a b=a+b:=wrap_small h1 h2
theorem sub_small{a b:Int}(h1: -9223372036854775808≤a - b)(h2:a - b≤9223372036854775807):aS .sub .i64 a b=a - b:=wrap_small h1 h2
theorem tr_ite{F:Fn}{m:Nat}{s:List Dat}{q:Bx}{a b:ST}:(ST.ask q a b).tr F m s=if @Bx.eval (VL F s) q=true then a.tr F m s else b.tr F m s:=by by_cases h:@Bx.eval (VL F s) q=true;{rw[if_pos h,Bg h]};rw[if_neg h,BI (by simpa using h)]
theorem ev_lt{v:Val}{a b:Sx}:(@Bx.eval v (lt a b)=true)=(@Sx.eval v a<@Sx.eval v b):=propext ⟨ltT',ltT⟩
theorem ev_eq{v:Val}{a b:Sx}:(@Bx.eval v (eq a b)=true)=(@Sx.eval v a=@Sx.eval v b):=propext ⟨eqT',eqT⟩
theorem sI{v:Val}{n:Int}:@Sx.eval v (I n)=n:=rfl
theorem s0{F:Fn}{x:Dat}{l:List Dat}:@Sx.eval (VL F (x::l)) (D 0)=x.toI:=rfl
def letB(c:UInt8):Bool:=decide (97≤c.toNat∧c.toNat<123∨65≤c.toNat∧c.toNat<91∨c.toNat=95)
def digB(c:UInt8):Bool:=decide (48≤c.toNat∧c.toNat<58)
def parB(c:UInt8):Bool:=digB c||letB c
def u8D(c:UInt8):Dat:=.int (c.toNat:Int)
theorem u8I(c:UInt8):(u8D c).toI=(c.toNat:Int):=rfl
theorem le_tr(c:UInt8):le0.tr F0 1 [u8D c]=(1,[.int (dF (letB c))]):=by
 have key:∀(x:Bool),letB c=x→(1,[Dat.int (dF (letB c))])=(1,[Dat.int (dF x)]):=fun x h=>by rw[h]
 simp only[le0,tr_ite,ev_lt,ev_eq,s0,sI,u8I];repeat' split
 all_goals first
  |(rw[key true (decide_eq_true (by omega))];rfl)
  |(rw[key false (decide_eq_false (by omega))];rfl)
  |(exfalso;omega)
theorem di_tr(c:UInt8):di0.tr F0 1 [u8D c]=(1,[.int (dF (digB c))]):=by
 have key:∀(x:Bool),digB c=x→(1,[Dat.int (dF (digB c))])=(1,[Dat.int (dF x)]):=fun x h=>by rw[h]
 simp only[di0,tr_ite,ev_lt,s0,sI,u8I];repeat' split
 all_goals first
  |(rw[key true (decide_eq_true (by omega))];rfl)
  |(rw[key false (decide_eq_false (by omega))];rfl)
theorem f7(c:UInt8){a b:Dat}:F0 7 (u8D c) a b=.int (dF (letB c)):=by rw[F0_7];unfold spLe;rw[show Dat.int (u8D c).toI=u8D c from rfl,le_tr];rfl
theorem f8(c:UInt8){a b:Dat}:F0 8 (u8D c) a b=.int (dF (digB c)):=by rw[F0_8];unfold spDi;rw[show Dat.int (u8D c).toI=u8D c from rfl,di_tr];rfl
theorem pa_tr(c:UInt8):pa0.tr F0 1 [u8D c]=(1,[.int (dF (parB c))]):=by have h7:@Sx.eval (VL F0 [u8D c]) (.ap 7 (D 0) (I 0) (I 0))=dF (letB c):=congrArg Dat.toI (f7 c (a:=.int 0) (b:=.int 0));have h8:@Sx.eval (VL F0 [u8D c]) (.ap 8 (D 0) (I 0) (I 0))=dF (digB c):=congrArg Dat.toI (f8 c (a:=.int 0) (b:=.int 0));simp only[pa0,tr_ite,ev_eq,h7,h8,sI];unfold parB;cases hd:digB c<;>cases hl:letB c<;>simp [dF]<;>rfl
theorem f12(c:UInt8){a b:Dat}:F0 12 (u8D c) a b=.int (dF (parB c)):=by rw[F0_12];unfold spPa;rw[show Dat.int (u8D c).toI=u8D c from rfl,pa_tr];rfl
theorem par_ascii{c:UInt8}(h:parB c=true):c.toNat<128:=by unfold parB digB letB at h;simp only[cS,decide_eq_true_eq]at h;omega
theorem findByteA_eq(s:List UInt8)(c:UInt8):au s c=s.findIdx? (· ==c):=by
 unfold au;have h0:∀i,i<s.length→((⟨⟨s⟩⟩:ByteArray)[i]! ==c)=(s[i]? ==some c):=fun i hi=>by have:(⟨⟨s⟩⟩:ByteArray)[i]! =s[i]:=(by rw[getElem!_pos _ i hi];rfl);rw[this,bn hi];simp
 cases hf:s.findIdx? (· ==c)with
 |none=>rw[List.find?_eq_none];intro i hi;rw[List.mem_range]at hi;rw[h0 i hi,bn hi];have:=List.findIdx?_eq_none_iff.1 hf s[i] (List.getElem_mem hi);simpa using this
 |some k=>obtain⟨hk,h1,h2⟩:=List.findIdx?_eq_some_iff_getElem.1 hf;rw[List.find?_range_eq_some];refine⟨?_,List.mem_range.2 hk,fun j hj=> ?_⟩;{rw[h0 k hk,bn hk];simpa using h1};rw[h0 j (by omega),bn (by omega:j<s.length)];have:=h2 j hj;simpa using this
end
end Go.Tw.LX
namespace Go.Tw.LX
noncomputable section
def fndI:Option Nat→Int
 |some i=>(i:Int)
 |none=> -1
def atI(s:List UInt8)(i:Nat):Int:=match s[i]? with
 |some c=>(c.toNat:Int)
 |none=>0
theorem atI_some{s:List UInt8}{i:Nat}{c:UInt8}(h:s[i]? =some c):atI s i=(c.toNat:Int):=by unfold atI;rw[h]
theorem atI_cons{s:List UInt8}{c:UInt8}:atI (c::s) 0=(c.toNat:Int):=rfl
theorem tl2{F:Fn}{s:List Dat}{x a0 a1:Sx}:(ST.leaf [x,a0,a1]).tr F 2 s=((@Sx.eval (VL F s) x).toNat,[@Sx.dat (VL F s) a0,@Sx.dat (VL F s) a1]):=rfl
theorem tl3{F:Fn}{s:List Dat}{x a0 a1 a2:Sx}:(ST.leaf [x,a0,a1,a2]).tr F 3 s=((@Sx.eval (VL F s) x).toNat,[@Sx.dat (VL F s) a0,@Sx.dat (VL F s) a1,@Sx.dat (VL F s) a2]):=rfl
theorem tl4{F:Fn}{s:List Dat}{x a0 a1 a2 a3:Sx}:(ST.leaf [x,a0,a1,a2,a3]).tr F 4 s=((@Sx.eval (VL F s) x).toNat,[@Sx.dat (VL F s) a0,@Sx.dat (VL F s) a1,@Sx.dat (VL F s) a2,@Sx.dat (VL F s) a3]):=rfl
theorem tl5{F:Fn}{s:List Dat}{x a0 a1 a2 a3 a4:Sx}:(ST.leaf [x,a0,a1,a2,a3,a4]).tr F 5 s=((@Sx.eval (VL F s) x).toNat,[@Sx.dat (VL F s) a0,@Sx.dat (VL F s) a1,@Sx.dat (VL F s) a2,@Sx.dat (VL F s) a3,@Sx.dat (VL F s) a4]):=rfl
theorem tl6{F:Fn}{s:List Dat}{x a0 a1 a2 a3 a4 a5:Sx}:(ST.leaf [x,a0,a1,a2,a3,a4,a5]).tr F 6 s=((@Sx.eval (VL F s) x).toNat,[@Sx.dat (VL F s) a0,@Sx.dat (VL F s) a1,@Sx.dat (VL F s) a2,@Sx.dat (VL F s) a3,@Sx.dat (VL F s) a4,@Sx.dat (VL F s) a5]):=rfl
theorem tl7{F:Fn}{s:List Dat}{x a0 a1 a2 a3 a4 a5 a6:Sx}:(ST.leaf [x,a0,a1,a2,a3,a4,a5,a6]).tr F 7 s=((@Sx.eval (VL F s) x).toNat,[@Sx.dat (VL F s) a0,@Sx.dat (VL F s) a1,@Sx.dat (VL F s) a2,@Sx.dat (VL F s) a3,@Sx.dat (VL F s) a4,@Sx.dat (VL F s) a5,@Sx.dat (VL F s) a6]):=rfl
theorem tl9{F:Fn}{s:List Dat}{x a0 a1 a2 a3 a4 a5 a6 a7 a8:Sx}:(ST.leaf [x,a0,a1,a2,a3,a4,a5,a6,a7,a8]).tr F 9 s=((@Sx.eval (VL F s) x).toNat,[@Sx.dat (VL F s) a0,@Sx.dat (VL F s) a1,@Sx.dat (VL F s) a2,@Sx.dat (VL F s) a3,@Sx.dat (VL F s) a4,@Sx.dat (VL F s) a5,@Sx.dat (VL F s) a6,@Sx.dat (VL F s) a7,@Sx.dat (VL F s) a8]):=rfl
theorem tl14{F:Fn}{s:List Dat}{x a0 a1 a2 a3 a4 a5 a6 a7 a8 a9 a10 a11 a12 a13:Sx}:(ST.leaf [x,a0,a1,a2,a3,a4,a5,a6,a7,a8,a9,a10,a11,a12,a13]).tr F 14 s=((@Sx.eval (VL F s) x).toNat,[@Sx.dat (VL F s) a0,@Sx.dat (VL F s) a1,@Sx.dat (VL F s) a2,@Sx.dat (VL F s) a3,@Sx.dat (VL F s) a4,@Sx.dat (VL F s) a5,@Sx.dat (VL F s) a6,@Sx.dat (VL F s) a7,@Sx.dat (VL F s) a8,@Sx.dat (VL F s) a9,@Sx.dat (VL F s) a10,@Sx.dat (VL F s) a11,@Sx.dat (VL F s) a12,@Sx.dat (VL F s) a13]):=rfl
theorem tl15{F:Fn}{s:List Dat}{x a0 a1 a2 a3 a4 a5 a6 a7 a8 a9 a10 a11 a12 a13 a14:Sx}:(ST.leaf [x,a0,a1,a2,a3,a4,a5,a6,a7,a8,a9,a10,a11,a12,a13,a14]).tr F 15 s=((@Sx.eval (VL F s) x).toNat,[@Sx.dat (VL F s) a0,@Sx.dat (VL F s) a1,@Sx.dat (VL F s) a2,@Sx.dat (VL F s) a3,@Sx.dat (VL F s) a4,@Sx.dat (VL F s) a5,@Sx.dat (VL F s) a6,@Sx.dat (VL F s) a7,@Sx.dat (VL F s) a8,@Sx.dat (VL F s) a9,@Sx.dat (VL F s) a10,@Sx.dat (VL F s) a11,@Sx.dat (VL F s) a12,@Sx.dat (VL F s) a13,@Sx.dat (VL F s) a14]):=rfl
theorem dD0{F:Fn}{x0:Dat}{l:List Dat}:@Sx.dat (VL F (x0::l)) (D 0)=x0:=rfl
theorem dV0{F:Fn}{x0:Dat}{l:List Dat}:@Sx.dat (VL F (x0::l)) (.dvar 0)=x0:=rfl
theorem sD1{F:Fn}{x0 x1:Dat}{l:List Dat}:@Sx.eval (VL F (x0::x1::l)) (D 1)=x1.toI:=rfl
theorem dD1{F:Fn}{x0 x1:Dat}{l:List Dat}:@Sx.dat (VL F (x0::x1::l)) (D 1)=x1:=rfl
theorem sV1{F:Fn}{x0 x1:Dat}{l:List Dat}:@Sx.eval (VL F (x0::x1::l)) (.dvar 1)=x1.toI:=rfl
theorem dV1{F:Fn}{x0 x1:Dat}{l:List Dat}:@Sx.dat (VL F (x0::x1::l)) (.dvar 1)=x1:=rfl
theorem sD2{F:Fn}{x0 x1 x2:Dat}{l:List Dat}:@Sx.eval (VL F (x0::x1::x2::l)) (D 2)=x2.toI:=rfl
theorem dD2{F:Fn}{x0 x1 x2:Dat}{l:List Dat}:@Sx.dat (VL F (x0::x1::x2::l)) (D 2)=x2:=rfl
theorem sD3{F:Fn}{x0 x1 x2 x3:Dat}{l:List Dat}:@Sx.eval (VL F (x0::x1::x2::x3::l)) (D 3)=x3.toI:=rfl
theorem dD3{F:Fn}{x0 x1 x2 x3:Dat}{l:List Dat}:@Sx.dat (VL F (x0::x1::x2::x3::l)) (D 3)=x3:=rfl
theorem sV3{F:Fn}{x0 x1 x2 x3:Dat}{l:List Dat}:@Sx.eval (VL F (x0::x1::x2::x3::l)) (.dvar 3)=x3.toI:=rfl
theorem dV3{F:Fn}{x0 x1 x2 x3:Dat}{l:List Dat}:@Sx.dat (VL F (x0::x1::x2::x3::l)) (.dvar 3)=x3:=rfl
theorem sD4{F:Fn}{x0 x1 x2 x3 x4:Dat}{l:List Dat}:@Sx.eval (VL F (x0::x1::x2::x3::x4::l)) (D 4)=x4.toI:=rfl
theorem dD4{F:Fn}{x0 x1 x2 x3 x4:Dat}{l:List Dat}:@Sx.dat (VL F (x0::x1::x2::x3::x4::l)) (D 4)=x4:=rfl
theorem sD5{F:Fn}{x0 x1 x2 x3 x4 x5:Dat}{l:List Dat}:@Sx.eval (VL F (x0::x1::x2::x3::x4::x5::l)) (D 5)=x5.toI:=rfl
theorem dD5{F:Fn}{x0 x1 x2 x3 x4 x5:Dat}{l:List Dat}:@Sx.dat (VL F (x0::x1::x2::x3::x4::x5::l)) (D 5)=x5:=rfl
theorem sD6{F:Fn}{x0 x1 x2 x3 x4 x5 x6:Dat}{l:List Dat}:@Sx.eval (VL F (x0::x1::x2::x3::x4::x5::x6::l)) (D 6)=x6.toI:=rfl
theorem dD6{F:Fn}{x0 x1 x2 x3 x4 x5 x6:Dat}{l:List Dat}:@Sx.dat (VL F (x0::x1::x2::x3::x4::x5::x6::l)) (D 6)=x6:=rfl
theorem dD7{F:Fn}{x0 x1 x2 x3 x4 x5 x6 x7:Dat}{l:List Dat}:@Sx.dat (VL F (x0::x1::x2::x3::x4::x5::x6::x7::l)) (D 7)=x7:=rfl
theorem sD8{F:Fn}{x0 x1 x2 x3 x4 x5 x6 x7 x8:Dat}{l:List Dat}:@Sx.eval (VL F (x0::x1::x2::x3::x4::x5::x6::x7::x8::l)) (D 8)=x8.toI:=rfl
theorem dD8{F:Fn}{x0 x1 x2 x3 x4 x5 x6 x7 x8:Dat}{l:List Dat}:@Sx.dat (VL F (x0::x1::x2::x3::x4::x5::x6::x7::x8::l)) (D 8)=x8:=rfl
theorem sD9{F:Fn}{x0 x1 x2 x3 x4 x5 x6 x7 x8 x9:Dat}{l:List Dat}:@Sx.eval (VL F (x0::x1::x2::x3::x4::x5::x6::x7::x8::x9::l)) (D 9)=x9.toI:=rfl
theorem dD9{F:Fn}{x0 x1 x2 x3 x4 x5 x6 x7 x8 x9:Dat}{l:List Dat}:@Sx.dat (VL F (x0::x1::x2::x3::x4::x5::x6::x7::x8::x9::l)) (D 9)=x9:=rfl
theorem dD10{F:Fn}{x0 x1 x2 x3 x4 x5 x6 x7 x8 x9 x10:Dat}{l:List Dat}:@Sx.dat (VL F (x0::x1::x2::x3::x4::x5::x6::x7::x8::x9::x10::l)) (D 10)=x10:=rfl
theorem sD11{F:Fn}{x0 x1 x2 x3 x4 x5 x6 x7 x8 x9 x10 x11:Dat}{l:List Dat}:@Sx.eval (VL F (x0::x1::x2::x3::x4::x5::x6::x7::x8::x9::x10::x11::l)) (D 11)=x11.toI:=rfl
theorem dD11{F:Fn}{x0 x1 x2 x3 x4 x5 x6 x7 x8 x9 x10 x11:Dat}{l:List Dat}:@Sx.dat (VL F (x0::x1::x2::x3::x4::x5::x6::x7::x8::x9::x10::x11::l)) (D 11)=x11:=rfl
theorem sD12{F:Fn}{x0 x1 x2 x3 x4 x5 x6 x7 x8 x9 x10 x11 x12:Dat}{l:List Dat}:@Sx.eval (VL F (x0::x1::x2::x3::x4::x5::x6::x7::x8::x9::x10::x11::x12::l)) (D 12)=x12.toI:=rfl
theorem dD12{F:Fn}{x0 x1 x2 x3 x4 x5 x6 x7 x8 x9 x10 x11 x12:Dat}{l:List Dat}:@Sx.dat (VL F (x0::x1::x2::x3::x4::x5::x6::x7::x8::x9::x10::x11::x12::l)) (D 12)=x12:=rfl
theorem sD13{F:Fn}{x0 x1 x2 x3 x4 x5 x6 x7 x8 x9 x10 x11 x12 x13:Dat}{l:List Dat}:@Sx.eval (VL F (x0::x1::x2::x3::x4::x5::x6::x7::x8::x9::x10::x11::x12::x13::l)) (D 13)=x13.toI:=rfl
theorem dD13{F:Fn}{x0 x1 x2 x3 x4 x5 x6 x7 x8 x9 x10 x11 x12 x13:Dat}{l:List Dat}:@Sx.dat (VL F (x0::x1::x2::x3::x4::x5::x6::x7::x8::x9::x10::x11::x12::x13::l)) (D 13)=x13:=rfl
theorem dD14{F:Fn}{x0 x1 x2 x3 x4 x5 x6 x7 x8 x9 x10 x11 x12 x13 x14:Dat}{l:List Dat}:@Sx.dat (VL F (x0::x1::x2::x3::x4::x5::x6::x7::x8::x9::x10::x11::x12::x13::x14::l)) (D 14)=x14:=rfl
theorem aL0{x0:Dat}{l:List Dat}:aJ (x0::l) 0=x0:=rfl
theorem aL1{x0 x1:Dat}{l:List Dat}:aJ (x0::x1::l) 1=x1:=rfl
theorem aL2{x0 x1 x2:Dat}{l:List Dat}:aJ (x0::x1::x2::l) 2=x2:=rfl
theorem aL3{x0 x1 x2 x3:Dat}{l:List Dat}:aJ (x0::x1::x2::x3::l) 3=x3:=rfl
theorem aL4{x0 x1 x2 x3 x4:Dat}{l:List Dat}:aJ (x0::x1::x2::x3::x4::l) 4=x4:=rfl
theorem aL5{x0 x1 x2 x3 x4 x5:Dat}{l:List Dat}:aJ (x0::x1::x2::x3::x4::x5::l) 5=x5:=rfl
theorem aL6{x0 x1 x2 x3 x4 x5 x6:Dat}{l:List Dat}:aJ (x0::x1::x2::x3::x4::x5::x6::l) 6=x6:=rfl
theorem aL7{x0 x1 x2 x3 x4 x5 x6 x7:Dat}{l:List Dat}:aJ (x0::x1::x2::x3::x4::x5::x6::x7::l) 7=x7:=rfl
section
variable{v:Val}{a b c:Sx}
theorem dI{n:Int}:@Sx.dat v (I n)=.int n:=rfl
theorem sLit{n:Int}:@Sx.eval v (.lit n)=n:=rfl
theorem dLit{n:Int}:@Sx.dat v (.lit n)=.int n:=rfl
theorem dN:@Sx.dat v (N a)=.int (@Sx.eval v a):=rfl
theorem dSl{s:List UInt8}:@Sx.dat v (.slit s)=.str s:=rfl
theorem tI{n:Int}:(Dat.int n).toI=n:=rfl
theorem tS{s:List UInt8}:(Dat.str s).toS=s:=rfl
theorem tL{l:List (List Dat)}:(Dat.lst l).toL=l:=rfl
theorem sLn{e:Sx}:@Sx.eval v (.pr 0 a e)=((@Sx.dat v a).toS.length:Int):=rfl
theorem sL:@Sx.eval v (cL a)=((@Sx.dat v a).toL.length:Int):=rfl
theorem sAt:@Sx.eval v (.pr 1 a b)=atI (@Sx.dat v a).toS (@Sx.eval v b).toNat:=rfl
theorem dAt:@Sx.dat v (.pr 1 a b)=.int (atI (@Sx.dat v a).toS (@Sx.eval v b).toNat):=rfl
theorem dTake:@Sx.dat v (.pr 2 a b)=.str ((@Sx.dat v a).toS.take (@Sx.eval v b).toNat):=rfl
theorem dDrop:@Sx.dat v (.pr 3 a b)=.str ((@Sx.dat v a).toS.drop (@Sx.eval v b).toNat):=rfl
theorem sFind:@Sx.eval v (.pr 6 a b)=fndI (au (@Sx.dat v a).toS (@Sx.eval v b).toNat.toUInt8):=rfl
theorem dJ:@Sx.dat v (J a b)=.lst ((@Sx.dat v a).toL++(@Sx.dat v b).toL):=rfl
theorem dO:@Sx.dat v O=.lst []:=rfl
theorem d12:@Sx.dat v (.pr 12 a b)=.lst [@Sx.dat v a::(@Sx.dat v b).one]:=rfl
theorem d15:@Sx.dat v (.pr 15 a b)=.str (lG (@Sx.dat v a).toL):=rfl
theorem d14:@Sx.dat v (.pr 14 a b)=.lst [[]]:=rfl
theorem dAp{F:Fn}{s:List Dat}{n:Nat}:@Sx.dat (VL F s) (.ap n a b c)=F n (@Sx.dat (VL F s) a) (@Sx.dat (VL F s) b) (@Sx.dat (VL F s) c):=rfl
theorem sAp{F:Fn}{s:List Dat}{n:Nat}:@Sx.eval (VL F s) (.ap n a b c)=(F n (@Sx.dat (VL F s) a) (@Sx.dat (VL F s) b) (@Sx.dat (VL F s) c)).toI:=rfl
theorem sBin{o:BinOp}{k:IntKind}:@Sx.eval v (.bin o k a b)=aS o k (@Sx.eval v a) (@Sx.eval v b):=rfl
theorem dBin{o:BinOp}{k:IntKind}:@Sx.dat v (.bin o k a b)=.int (aS o k (@Sx.eval v a) (@Sx.eval v b)):=rfl
theorem sWrap{k:IntKind}:@Sx.eval v (.wrap k a)=bX k (@Sx.eval v a):=rfl
theorem dCell{n:Nat}:@Sx.dat v (.cell a b n)=(@Sx.dat v a).cell (@Sx.eval v b) n:=rfl
theorem sCell{n:Nat}:@Sx.eval v (.cell a b n)=((@Sx.dat v a).cell (@Sx.eval v b) n).toI:=rfl
theorem ev_seq:(@Bx.eval v (.seq a b)=true)=((@Sx.dat v a).toS=(@Sx.dat v b).toS):=propext ⟨fun h=>by have h:((@Sx.dat v a).toS==(@Sx.dat v b).toS)=true:=h;exact eq_of_beq h,seqT⟩
end
end
end Go.Tw.LX
set_option linter.all false
namespace Go.Tw.LX
noncomputable section
def blk(c:UInt8):Bool:=decide (c.toNat=9∨c.toNat=10∨c.toNat=13∨c.toNat=32)
def gp(r:List UInt8):Int:=match r with
 |[]=>0
 |c::_=>if blk c=true then 1 else if r.take 2=[47,47]then(if fndI (au r 10)<0 then(r.length:Int)else fndI (au r 10))else if r.take 2=[47,42]then(if idxL [42,47] (r.drop 2) 0<0 then -1 else idxL [42,47] (r.drop 2) 0+4)else 0
theorem gp_cons(c:UInt8)(r:List UInt8):gp (c::r)=if blk c=true then 1 else if(c::r).take 2=[47,47]then(if fndI (au (c::r) 10)<0 then((c::r).length:Int)else fndI (au (c::r) 10))else
 if(c::r).take 2=[47,42]then(if idxL [42,47] ((c::r).drop 2) 0<0 then -1 else idxL [42,47] ((c::r).drop 2) 0+4)else 0:=rfl
theorem fndI_bd(s:List UInt8)(c:UInt8):fndI (au s c)= -1∨(0≤fndI (au s c)∧fndI (au s c)<s.length):=by
 cases h:au s c with
 |none=>exact .inl rfl
 |some i=>rw[findByteA_eq]at h;have:=(List.findIdx?_eq_some_iff_getElem.1 h).1;exact .inr ⟨by show(0:Int)≤i;omega,by show(i:Int)<_;omega⟩
theorem blk_find(c:UInt8):fndI (au [9,10,13,32] c)<0↔blk c=false:=by rw[findByteA_eq];unfold blk fndI;have hc:∀n:Nat,n<256→(c=UInt8.ofNat n↔c.toNat=n):=fun n hn=>⟨fun h=>by rw[h];simp [UInt8.toNat_ofNat'];omega,fun h=>by rw[←h];simp⟩;have h9:=hc 9 (by omega);have h10:=hc 10 (by omega);have h13:=hc 13 (by omega);have h32:=hc 32 (by omega);simp only[List.findIdx?_cons];by_cases a:c.toNat=9;{have:=h9.2 a;subst this;simp};by_cases b:c.toNat=10;{have:=h10.2 b;subst this;simp};by_cases e:c.toNat=13;{have:=h13.2 e;subst this;simp};by_cases f:c.toNat=32;{have:=h32.2 f;subst this;simp};have a':¬(9:UInt8)=c:=fun h=>a (by rw[←h];rfl);have b':¬(10:UInt8)=c:=fun h=>b (by rw[←h];rfl);have e':¬(13:UInt8)=c:=fun h=>e (by rw[←h];rfl);have f':¬(32:UInt8)=c:=fun h=>f (by rw[←h];rfl);simp [a,b,e,f,a',b',e',f']
theorem idxL_bd(x:List UInt8):∀(l:List UInt8) (n:Nat),idxL x l n= -1∨((n:Int)≤idxL x l n∧idxL x l n+x.length≤n+l.length):=by
 intro l
 induction l with
 |nil=>intro n;unfold idxL;split;{rename_i h;have:x=[]:=(by simpa using h);subst this;exact .inr ⟨by omega,by simp⟩};exact .inl rfl
 |cons c l ih=>intro n;unfold idxL;split;{rename_i h;have:=(List.isPrefixOf_iff_prefix.1 h).length_le;exact .inr ⟨by omega,by omega⟩};rcases ih (n+1)with h|⟨h1,h2⟩;{exact .inl h};exact .inr ⟨by omega,by simp only[List.length_cons];omega⟩
theorem gp_le{r:List UInt8}:gp r≤r.length:=by
 cases r with
 |nil=>simp [gp]
 |cons c l=>
  rw[gp_cons];have h2:2≤(c::l).length∨(c::l).length=1:=(by simp only[List.length_cons];omega);have hf:=fndI_bd (c::l) 10;have hi:=idxL_bd [42,47] ((c::l).drop 2) 0;have hd:((c::l).drop 2).length=(c::l).length - 2:=List.length_drop;have h4:(c::l).take 2=[47,42]→2≤(c::l).length:=fun h=>(by have:=congrArg List.length h;simp only[List.length_take,List.length_cons,List.length_nil]at this⊢;omega);simp only[List.length_cons,List.length_nil]at*;repeat' split
  all_goals first
   |omega
   |(have:=h4 (by assumption);omega)
theorem gp_ge{r:List UInt8}: -1≤gp r:=by
 cases r with
 |nil=>simp [gp]
 |cons c l=>
  rw[gp_cons];repeat' split
  all_goals omega
theorem headE{l:List UInt8}{n:Nat}(h:n<l.length):∃c r,l.drop n=c::r∧l[n]? =some c:=by refine⟨l[n],l.drop (n+1),List.drop_eq_getElem_cons h,bn h⟩
theorem ofN(c:UInt8):((c.toNat:Int).toNat).toUInt8=c:=by simp
theorem sk2_tr{d:Dat}{e ea p:Int}(h0:0≤p)(hl:d.toS.length<1000000000):sk2.tr F0 4 [d,.int e,.int ea,.int p]=
 if p<d.toS.length∧e=0 then(if gp (d.toS.drop p.toNat)=0 then(1,[d,.int e,.int ea,.int p])else if gp (d.toS.drop p.toNat)<0 then(1,[d,.int 4,.int p,.int p])else(0,[d,.int e,.int ea,.int (p+gp (d.toS.drop p.toNat))]))
 else(2,[d,.int e,.int ea,.int p]):=by
 by_cases h1:p<d.toS.length
 ·by_cases h2:e=0
  ·rw[if_pos ⟨h1,h2⟩];subst h2;have hge:=@gp_ge (d.toS.drop p.toNat);have hle:=@gp_le (d.toS.drop p.toNat);obtain⟨c,r,hr,hc⟩:=headE (l:=d.toS) (n:=p.toNat) (by omega);have hlen:(d.toS.drop p.toNat).length=d.toS.length - p.toNat:=List.length_drop;have hadd:gp (d.toS.drop p.toNat)≥0→aS .add .i64 p (gp (d.toS.drop p.toNat))=p+gp (d.toS.drop p.toNat):=fun h=>add_small (by omega) (by omega);simp only[sk2,tr_ite,ev_lt,ev_eq,ev_seq,sD3,sD1,sLn,sI,sFind,sAt,dD0,dDrop,dTake,dV0,dV3,dSl,tS,tI,sAp,dLit,dI,tl4,dD1,dD2,dD3,dN,sBin,F0_3,sD2,sLit,sV3];simp only[if_true];rw[if_pos h1,if_neg (by omega),if_pos (by omega)];rw[hr]at hge hle hlen hadd⊢;simp only[Int.toNat_zero,atI_cons,ofN,show Int.toNat 2=2 from rfl,show Int.toNat 1=1 from rfl,show(Int.toNat 10).toUInt8=10 from rfl];have hlc:(c::r).length=r.length+1:=rfl;by_cases hb:blk c=true;{rw[if_neg (fun h=>by rw[(blk_find c).1 h]at hb;cases hb)];have g:gp (c::r)=1:=(by rw[gp_cons,if_pos hb]);rw[g]at hadd⊢;rw[hadd (by omega)];rfl};rw[if_pos ((blk_find c).2 (by simpa using hb))];by_cases h2:(c::r).length<2
   ·rw[if_pos (by omega)];have e:r=[]:=by cases r with
     |nil=>rfl
     |cons a l=>simp only[List.length_cons]at h2;omega
    subst e;have g:gp [c]=0:=(by rw[gp_cons,if_neg hb,if_neg (by simp),if_neg (by simp)]);rw[g];rfl
   rw[if_neg (by omega)];by_cases h3:List.take 2 (c::r)=[47,47]
   ·rw[if_pos h3];have hf:=fndI_bd (c::r) 10;by_cases h5:fndI (au (c::r) 10)<0;{have g:gp (c::r)=(c::r).length:=(by rw[gp_cons,if_neg hb,if_pos h3,if_pos h5]);rw[g]at hadd;rw[if_pos h5,g,if_neg (by omega),if_neg (by omega),hadd (by omega)]};have g:gp (c::r)=fndI (au (c::r) 10):=(by rw[gp_cons,if_neg hb,if_pos h3,if_neg h5]);have hi:fndI (au (c::r) 10)≠0:=fun h=>by
     cases h6:au (c::r) 10 with
     |none=>rw[h6]at h;cases h
     |some i=>rw[h6]at h;have:i=0:=(by have h:(i:Int)=0:=h;omega);subst this;rw[findByteA_eq]at h6;obtain⟨_,x,_⟩:=List.findIdx?_eq_some_iff_getElem.1 h6;have:c=10:=(by simpa using x);subst this;simp [blk]at hb
    rw[g]at hadd;rw[if_neg h5,g,if_neg hi,if_neg h5,hadd (by omega)]
   rw[if_neg h3];by_cases h4:List.take 2 (c::r)=[47,42];{have g:gp (c::r)=(if idxL [42,47] ((c::r).drop 2) 0<0 then -1 else idxL [42,47] ((c::r).drop 2) 0+4):=(by rw[gp_cons,if_neg hb,if_neg h3,if_pos h4]);have hd:(List.drop 2 (c::r)).length=(c::r).length - 2:=List.length_drop;rw[if_pos h4,if_pos (by omega)];by_cases h5:idxL [42,47] (List.drop 2 (c::r)) 0<0;{rw[if_pos h5]at g⊢;rw[g];rfl};rw[if_neg h5]at g⊢;rw[g]at hle hadd;rw[g,if_neg (by omega),if_neg (by omega),add_small (a:=idxL [42,47] (List.drop 2 (c::r)) 0) (by omega) (by omega),hadd (by omega)]};have g:gp (c::r)=0:=(by rw[gp_cons,if_neg hb,if_neg h3,if_neg h4]);rw[if_neg h4,g];rfl
  rw[if_neg (fun h=>h2 h.2)];simp only[sk2,tr_ite,ev_lt,ev_eq,sD3,sD1,sLn,sI,dD0,tI];rw[if_pos h1,if_neg h2];rfl
 rw[if_neg (fun h=>h1 h.1)];simp only[sk2,tr_ite,ev_lt,ev_eq,sD3,sD1,sLn,sI,dD0,tI];rw[if_neg h1];rfl
end
end Go.Tw.LX
set_option linter.all false
namespace Go.Tw.LX
noncomputable section
def JSk(s:List Dat):Prop:=∃d e ea p,s=[d,.int e,.int ea,.int p]∧0≤p∧d.toS.length<1000000000
theorem sk_mea:vt JSk muSk (sk2.tr F0 4):=fun s hs h0=>by obtain⟨d,e,ea,p,rfl,h1,h2⟩:=hs;rw[sk2_tr h1 h2]at h0⊢;have hle:=@gp_le (d.toS.drop p.toNat);rw[List.length_drop]at hle;split at h0;{rename_i h3;rw[if_pos h3];split at h0;{cases h0};rename_i h4;rw[if_neg h4];split at h0;{cases h0};rename_i h5;rw[if_neg h5];refine⟨⟨d,e,ea,_,rfl,by omega,h2⟩,?_⟩;show d.toS.length - (p+gp (d.toS.drop p.toNat)).toNat<d.toS.length - p.toNat;omega};cases h0
theorem sk0_tr{d:Dat}{e ea p:Int}:sk0.tr F0 4 [d,.int e,.int ea,.int p]=(0,[d,.int e,.int ea,.int p]):=rfl
theorem sk4_tr{d:Dat}{e ea p:Int}:sk4.tr F0 4 [d,.int e,.int ea,.int p]=(1,[d,.int e,.int ea,.int p]):=rfl
theorem bind_go{f g:fA}{s s':List Dat}(h:f s=(0,s')):aD f g s=g s':=by unfold aD;rw[h];rfl
theorem bind_no{f g:fA}{s s':List Dat}{w:Nat}(h:f s=(w,s'))(hw:w≠0):aD f g s=(w,s'):=by unfold aD;rw[h];simp [hw]
theorem unX_at{f:fA}{s s':List Dat}{id:Nat}(h:f s=(id+2,s')):ie id f s=(0,s'):=by unfold ie;rw[h];simp
theorem unX_ne{f:fA}{s s':List Dat}{id w:Nat}(h:f s=(w,s'))(hw:w≠id+2):ie id f s=(w,s'):=by unfold ie;rw[h];simp [hw]
section
variable{d:Dat}{e ea p:Int}
theorem sk_end(h0:0≤p)(hl:d.toS.length<1000000000)(h:¬(p<d.toS.length∧e=0)∨gp (d.toS.drop p.toNat)=0):spSk F0 [d,.int e,.int ea,.int p]=(1,[d,.int e,.int ea,.int p]):=by
 unfold spSk;rw[bind_go sk0_tr];by_cases h1:p<d.toS.length∧e=0;{have h:=h.resolve_left (fun k=>k h1);have t:sk2.tr F0 4 [d,.int e,.int ea,.int p]=(1,[d,.int e,.int ea,.int p]):=(by rw[sk2_tr h0 hl,if_pos h1,if_pos h]);rw[bind_no (unX_ne (by rw[cy (by rw[t];simp),t]) (by simp)) (by simp)]};have t:sk2.tr F0 4 [d,.int e,.int ea,.int p]=(2,[d,.int e,.int ea,.int p]):=by rw[sk2_tr h0 hl,if_neg h1]
 rw[bind_go (unX_at (by rw[cy (by rw[t];simp),t])),sk4_tr]
theorem sk_bad(h0:0≤p)(hl:d.toS.length<1000000000)(h1:p<d.toS.length)(h:gp (d.toS.drop p.toNat)<0):spSk F0 [d,.int 0,.int ea,.int p]=(1,[d,.int 4,.int p,.int p]):=by
 unfold spSk;rw[bind_go sk0_tr];have t:sk2.tr F0 4 [d,.int 0,.int ea,.int p]=(1,[d,.int 4,.int p,.int p]):=by rw[sk2_tr h0 hl,if_pos ⟨h1,rfl⟩,if_neg (by omega),if_pos h]
 rw[bind_no (unX_ne (by rw[cy (by rw[t];simp),t]) (by simp)) (by simp)]
theorem sk_on(h0:0≤p)(hl:d.toS.length<1000000000)(h1:p<d.toS.length)(h:0<gp (d.toS.drop p.toNat)):spSk F0 [d,.int 0,.int ea,.int p]=spSk F0 [d,.int 0,.int ea,.int (p+gp (d.toS.drop p.toNat))]:=by
 unfold spSk;rw[bind_go sk0_tr,bind_go sk0_tr];have t:sk2.tr F0 4 [d,.int 0,.int ea,.int p]=(0,[d,.int 0,.int ea,.int (p+gp (d.toS.drop p.toNat))]):=by rw[sk2_tr h0 hl,if_pos ⟨h1,rfl⟩,if_neg (by omega),if_neg (by omega)]
 have u:fD (sk2.tr F0 4) muSk [d,.int 0,.int ea,.int p]=fD (sk2.tr F0 4) muSk [d,.int 0,.int ea,.int (p+gp (d.toS.drop p.toNat))]:=by rw[iw sk_mea ⟨d,0,ea,p,rfl,h0,hl⟩ (by rw[t]),t]
 have w:ie 0 (fD (sk2.tr F0 4) muSk) [d,.int 0,.int ea,.int p]=ie 0 (fD (sk2.tr F0 4) muSk) [d,.int 0,.int ea,.int (p+gp (d.toS.drop p.toNat))]:=by unfold ie;rw[u]
 unfold aD;rw[w]
end
inductive Gap:List UInt8→Nat→Prop
 |nil (r:List UInt8):Gap r 0
 |step {r:List UInt8} {n:Nat} (h:0<gp r) (k:Gap (r.drop (gp r).toNat) n):Gap r ((gp r).toNat+n)
theorem Gap.le{r:List UInt8}{n:Nat}(h:Gap r n):n≤r.length:=by
 induction h with
 |nil r=>omega
 |@step r n h k ih=>have:=@gp_le r;rw[List.length_drop]at ih;omega
theorem sk_gap{d:Dat}(hl:d.toS.length<1000000000):∀(m:Nat) (p:Nat),d.toS.length - p≤m→p≤d.toS.length→∃n,Gap (d.toS.drop p) n∧
 ((gp (d.toS.drop (p+n))=0∧∀ea,spSk F0 [d,.int 0,.int ea,.int p]=(1,[d,.int 0,.int ea,.int ((p+n:Nat):Int)]))∨
  (gp (d.toS.drop (p+n))<0∧p+n<d.toS.length∧∀ea,spSk F0 [d,.int 0,.int ea,.int p]=(1,[d,.int 4,.int ((p+n:Nat):Int),.int ((p+n:Nat):Int)]))):=by
 intro m
 induction m with
 |zero=>intro p hm hp;have e:p=d.toS.length:=(by omega);refine⟨0,.nil _,.inl ⟨?_,fun ea=> ?_⟩⟩;{rw[e,Nat.add_zero,List.drop_length];rfl};rw[sk_end (by omega) hl (.inl (fun h=>by omega))];rfl
 |succ m ih=>
  intro p hm hp;by_cases h1:p<d.toS.length
  ·rcases Int.lt_trichotomy (gp (d.toS.drop p)) 0 with h|h|h;{exact⟨0,.nil _,.inr ⟨h,by omega,fun ea=>by rw[sk_bad (by omega) hl (by omega) (by rw[Int.toNat_natCast];exact h)];rfl⟩⟩};{exact⟨0,.nil _,.inl ⟨h,fun ea=>by rw[sk_end (by omega) hl (.inr (by rw[Int.toNat_natCast];exact h))];rfl⟩⟩};have hle:=@gp_le (d.toS.drop p);rw[List.length_drop]at hle;obtain⟨n,g,k⟩:=ih (p+(gp (d.toS.drop p)).toNat) (by omega) (by omega);have e2:(p:Int)+gp (d.toS.drop p)=((p+(gp (d.toS.drop p)).toNat:Nat):Int):=(by omega);have e:∀ea,spSk F0 [d,.int 0,.int ea,.int p]=spSk F0 [d,.int 0,.int ea,.int ((p+(gp (d.toS.drop p)).toNat:Nat):Int)]:=fun ea=>by
    have e:=sk_on (d:=d) (ea:=ea) (p:=p) (by omega) hl (by omega) (by rw[Int.toNat_natCast];exact h);rw[Int.toNat_natCast,e2]at e;exact e
   refine⟨(gp (d.toS.drop p)).toNat+n,.step h (by rw[List.drop_drop];exact g),?_⟩;rw[←Nat.add_assoc];rcases k with⟨k1,k2⟩|⟨k1,k2,k3⟩;{exact .inl ⟨k1,fun ea=>by rw[e];exact k2 ea⟩};exact .inr ⟨k1,k2,fun ea=>by rw[e];exact k3 ea⟩
  have e:p=d.toS.length:=(by omega);refine⟨0,.nil _,.inl ⟨?_,fun ea=> ?_⟩⟩;{rw[e,Nat.add_zero,List.drop_length];rfl};rw[sk_end (by omega) hl (.inl (fun h=>by omega))];rfl
theorem gap_sk{d:Dat}(hl:d.toS.length<1000000000){r:List UInt8}{n:Nat}(g:Gap r n):∀(p:Nat) (ea:Int),p≤d.toS.length→r=d.toS.drop p→gp (d.toS.drop (p+n))=0→spSk F0 [d,.int 0,.int ea,.int p]=(1,[d,.int 0,.int ea,.int ((p+n:Nat):Int)]):=by
 induction g with
 |nil r=>intro p ea hp hr h;exact sk_end (by omega) hl (.inr (by rw[Int.toNat_natCast];exact h))
 |@step r n h k ih=>intro p ea hp hr h2;have hle:=@gp_le r;have hlen:r.length=d.toS.length - p:=(by rw[hr,List.length_drop]);have e:=sk_on (d:=d) (ea:=ea) (p:=p) (by omega) hl (by omega) (by rw[Int.toNat_natCast,←hr];exact h);rw[Int.toNat_natCast,←hr]at e;have e2:(p:Int)+gp r=((p+(gp r).toNat:Nat):Int):=(by omega);rw[e2]at e;rw[e,ih (p+(gp r).toNat) ea (by omega) (by rw[hr,List.drop_drop]) (by rw[Nat.add_assoc];exact h2),Nat.add_assoc]
end
end Go.Tw.LX
set_option linter.all false
namespace Go.Tw.LX
noncomputable section
theorem tw_len(q:UInt8→Bool)(l:List UInt8):(l.takeWhile q).length≤l.length:=(List.takeWhile_sublist q).length_le
section
variable{d:Dat}{e ea p t:Int}
theorem rn3_tr(h0:0≤t)(hl:d.toS.length<1000000000):rn3.tr F0 5 [d,.int e,.int ea,.int p,.int t]=
 if ∃c,d.toS[t.toNat]? =some c∧parB c=true then(0,[d,.int e,.int ea,.int p,.int (t+1)])else(2,[d,.int e,.int ea,.int p,.int t]):=by
 by_cases h1:t<d.toS.length
 ·obtain⟨c,r,hr,hc⟩:=headE (l:=d.toS) (n:=t.toNat) (by omega);simp only[rn3,tr_ite,ev_lt,ev_eq,sD4,sLn,sI,sAp,dAt,dD0,tI,tl5,dD1,dD2,dD3,dN,sD1,sD2,sD3,sBin,atI_some hc,show Dat.int (c.toNat:Int)=u8D c from rfl,f12];rw[if_pos h1,add_small (by omega) (by omega)];cases hp:parB c with
  |true=>rw[if_neg (by simp [dF]),if_pos ⟨c,hc,hp⟩];rfl
  |false=>rw[if_pos (by simp [dF]),if_neg (fun⟨x,hx,hy⟩=>by rw[hc]at hx;cases hx;rw[hp]at hy;cases hy)];rfl
 have hn:d.toS[t.toNat]? =none:=bH (by omega);rw[if_neg (fun⟨x,hx,_⟩=>by rw[hn]at hx;cases hx)];simp only[rn3,tr_ite,ev_lt,sD4,sLn,dD0,tI,tl5,dD1,dD2,dD3,dN,sD1,sD2,sD3,sI];rw[if_neg h1];rfl
end
def JRn(s:List Dat):Prop:=∃d e ea p t,s=[d,.int e,.int ea,.int p,.int t]∧0≤p∧p≤t∧t≤d.toS.length∧d.toS.length<1000000000
theorem rn_mea:vt JRn muRn (rn3.tr F0 5):=fun s hs h0=>by obtain⟨d,e,ea,p,t,rfl,h1,h2,h3,h4⟩:=hs;rw[rn3_tr (by omega) h4]at h0⊢;split at h0;{rename_i h;rw[if_pos h];obtain⟨c,hc,_⟩:=h;have:=(List.getElem?_eq_some_iff.1 hc).1;refine⟨⟨d,e,ea,p,t+1,rfl,h1,by omega,by omega,h4⟩,?_⟩;show d.toS.length - (t+1).toNat<d.toS.length - t.toNat;omega};cases h0
theorem rn_lp{d:Dat}{e ea p:Int}(h0:0≤p)(hl:d.toS.length<1000000000):∀(m t:Nat),d.toS.length - t≤m→p≤t→t≤d.toS.length→
 fD (rn3.tr F0 5) muRn [d,.int e,.int ea,.int p,.int t]=(2,[d,.int e,.int ea,.int p,.int ((t+((d.toS.drop t).takeWhile parB).length:Nat):Int)]):=by
 intro m
 induction m with
 |zero=>intro t hm hp ht;have e:t=d.toS.length:=(by omega);have k:¬∃c,d.toS[(t:Int).toNat]? =some c∧parB c=true:=fun⟨c,hc,_⟩=>(by have:=(List.getElem?_eq_some_iff.1 hc).1;omega);rw[cy (by rw[rn3_tr (by omega) hl,if_neg k];simp),rn3_tr (by omega) hl,if_neg k,e,List.drop_length];simp
 |succ m ih=>
  intro t hm hp ht;by_cases k:∃c,d.toS[(t:Int).toNat]? =some c∧parB c=true
  ·have hr:=rn3_tr (d:=d) (e:=e) (ea:=ea) (p:=p) (t:=t) (by omega) hl;rw[if_pos k]at hr;rw[iw rn_mea ⟨d,e,ea,p,t,rfl,h0,hp,by omega,hl⟩ (by rw[hr]),hr];obtain⟨c,hc,hpc⟩:=k;have hlt:=(List.getElem?_eq_some_iff.1 hc).1;have hi:=ih (t+1) (by omega) (by omega) (by omega);rw[show((t:Int)+1)=((t+1:Nat):Int) by omega,hi];have hd:d.toS.drop t=c::d.toS.drop (t+1):=by
    rw[List.drop_eq_getElem_cons (by omega)];have:d.toS[t]? =some c:=(by rw[←hc];simp);rw[bn (by omega)]at this;rw[Option.some.inj this]
   rw[hd,List.takeWhile_cons,hpc];simp only[if_true,List.length_cons];rw[show t+1+(List.takeWhile parB (List.drop (t+1) d.toS)).length=t+((List.takeWhile parB (List.drop (t+1) d.toS)).length+1) by omega]
  rw[cy (by rw[rn3_tr (by omega) hl,if_neg k];simp),rn3_tr (by omega) hl,if_neg k];have:(d.toS.drop t).takeWhile parB=[]:=by
   cases hd:d.toS.drop t with
   |nil=>rfl
   |cons c r=>have hc:d.toS[t]? =some c:=(by have:=congrArg (fun l=>l[0]?) hd;simpa using this);rw[List.takeWhile_cons];have:¬parB c=true:=fun h=>k ⟨c,by rw[Int.toNat_natCast];exact hc,h⟩;simp [this]
  rw[this];rfl
theorem rn_sp{d:Dat}{e ea:Int}{p:Nat}(hp:p≤d.toS.length)(hl:d.toS.length<1000000000):spRn F0 [d,.int e,.int ea,.int p]=(1,[d,.int e,.int ea,.str ((d.toS.drop p).takeWhile parB)]):=by
 unfold spRn;rw[bind_go (f:=rn0.tr F0 4) (s':=[d,.int e,.int ea,.int p]) rfl,bind_go (f:=rn1.tr F0 5) (s':=[d,.int e,.int ea,.int p,.int p]) rfl];rw[bind_go (unX_at (rn_lp (by omega) hl _ p (aw _) (by omega) hp))];have hle:=tw_len parB (d.toS.drop p);rw[List.length_drop]at hle;simp only[rn5,tl4,sI,dD0,dN,sD1,sD2,tI,dDrop,dTake,sD3,sD4,tS,Int.toNat_natCast];have:List.drop p (List.take (p+(List.takeWhile parB (List.drop p d.toS)).length) d.toS)=List.takeWhile parB (List.drop p d.toS):=by rw[List.drop_take,Nat.add_sub_cancel_left];exact(List.prefix_iff_eq_take.1 (List.takeWhile_prefix parB)).symm
 rw[this];rfl
theorem f23{d b c:Dat}{p:Nat}(hp:p≤d.toS.length)(hl:d.toS.length<1000000000)(hb:b.toI=p):F0 23 d b c=.str ((d.toS.drop p).takeWhile parB):=by rw[F0_23,hb,rn_sp hp hl];rfl
def JIx(s:List Dat):Prop:=∃l y x i,s=[l,y,x,.int i]∧0≤i∧l.toL.length<1000000001
theorem ix_mea:vt JIx muIx (ix3.tr F0 4):=fun s hs h0=>by obtain⟨l,y,x,i,rfl,h1,h2⟩:=hs;revert h0;simp only[ix3,tr_ite,ev_lt,ev_seq,sD3,sL,dD0,tI,sI,tl4,dD1,dD2,dN,sBin];split;{rename_i h3;split;{intro h;cases h};intro _;rw[add_small (by omega) (by omega)];refine⟨⟨l,y,x,i+1,rfl,by omega,h2⟩,?_⟩;show l.toL.length - (i+1).toNat<l.toL.length - i.toNat;omega};intro h;cases h
def celS(l:Dat)(i:Nat):List UInt8:=(l.cell (i:Int) 0).toS
def sgF(l:Dat)(s:List UInt8):Nat→Nat→Nat
 |0,_=>0
 |k+1,i=>if(celS l i).isPrefixOf s then(celS l i).length else sgF l s k (i+1)
theorem sgF_le(l:Dat)(s:List UInt8):∀k i,sgF l s k i≤s.length:=by
 intro k
 induction k with
 |zero=>intro i;exact bQ _
 |succ k ih=>intro i;unfold sgF;split;{rename_i h;exact(List.isPrefixOf_iff_prefix.1 h).length_le};exact ih _
theorem sgF_take(l:Dat)(s:List UInt8):∀k i,0<sgF l s k i→sgF l (s.take (sgF l s k i)) k i=sgF l s k i:=by
 intro k
 induction k with
 |zero=>intro i h;cases h
 |succ k ih=>intro i h;by_cases hp:(celS l i).isPrefixOf s=true;{have e:sgF l s (k+1) i=(celS l i).length:=(by unfold sgF;rw[if_pos hp]);rw[e];have:s.take (celS l i).length=celS l i:=(List.prefix_iff_eq_take.1 (List.isPrefixOf_iff_prefix.1 hp)).symm;rw[this];unfold sgF;rw[if_pos (List.isPrefixOf_iff_prefix.2 (List.prefix_refl _))]};have e:sgF l s (k+1) i=sgF l s k (i+1):=(by rw[sgF,if_neg hp]);rw[e]at h⊢;rw[sgF,if_neg,ih _ h];intro h2;exact hp (List.isPrefixOf_iff_prefix.2 ((List.isPrefixOf_iff_prefix.1 h2).trans (List.take_prefix _ _)))
theorem pre_iff{x s:List UInt8}:(¬(s.length:Int)<x.length∧s.take x.length=x)↔x.isPrefixOf s=true:=by rw[List.isPrefixOf_iff_prefix];constructor;{intro h;rw[List.prefix_iff_eq_take];exact h.2.symm};intro h;have:=h.length_le;exact⟨by omega,(List.prefix_iff_eq_take.1 h).symm⟩
def JSg(s:List Dat):Prop:=∃x l i,s=[x,l,.int (l.toL.length:Int),.int i]∧0≤i∧l.toL.length<1000000001
theorem sg3_tr{x l:Dat}{i:Nat}(h2:l.toL.length<1000000001):sg3.tr F0 4 [x,l,.int (l.toL.length:Int),.int i]=
 if i<l.toL.length then(if(celS l i).isPrefixOf x.toS=true then(1,[.int ((celS l i).length:Int),.int 0,.int 0,.int 0])else(0,[x,l,.int (l.toL.length:Int),.int ((i+1:Nat):Int)]))else(2,[.int 0,.int 0,.int 0,.int 0]):=by
 simp only[sg3,tr_ite,ev_lt,ev_seq,sD3,sD2,sL,dD0,dD1,tI,tS,sI,tl4,dN,sBin,sLn,dCell,sCell,dTake,dV0,dV1,sV3,dI];by_cases h1:i<l.toL.length;{rw[if_pos h1,if_pos (by omega),if_pos (by omega),add_small (by omega) (by omega)];have e:((i:Int)+1)=((i+1:Nat):Int):=(by omega);rw[e];have hp:=@pre_iff (celS l i) x.toS;rw[show(l.cell (i:Int) 0).toS=celS l i from rfl];by_cases h3:(x.toS.length:Int)<(celS l i).length;{rw[if_pos h3,if_neg (fun h=>(hp.2 h).1 h3)];rfl};rw[if_neg h3,if_neg (by omega)];by_cases h4:x.toS.take (celS l i).length=celS l i;{rw[if_pos (by rw[Int.toNat_natCast];exact h4),if_pos (hp.1 ⟨h3,h4⟩)];rfl};rw[if_neg (by rw[Int.toNat_natCast];exact h4),if_neg (fun h=>h4 (hp.2 h).2)];rfl};rw[if_neg h1,if_neg (by omega)];rfl
theorem sg_mea:vt JSg muSg (sg3.tr F0 4):=fun s hs h0=>by obtain⟨x,l,i,rfl,h1,h2⟩:=hs;obtain⟨n,rfl⟩:∃n:Nat,i=n:=⟨i.toNat,by omega⟩;rw[sg3_tr h2]at h0⊢;split at h0;{rename_i h3;rw[if_pos h3];split at h0;{cases h0};rename_i h4;rw[if_neg h4];refine⟨⟨x,l,_,rfl,by omega,h2⟩,?_⟩;show(l.toL.length:Int).toNat - ((n+1:Nat):Int).toNat<(l.toL.length:Int).toNat - (n:Int).toNat;omega};cases h0
theorem sg_lp{x l:Dat}(h2:l.toL.length<1000000001):∀(k i:Nat),i+k=l.toL.length→
 fD (sg3.tr F0 4) muSg [x,l,.int (l.toL.length:Int),.int i]=(1,[.int (sgF l x.toS k i:Int),.int 0,.int 0,.int 0])∨(fD (sg3.tr F0 4) muSg [x,l,.int (l.toL.length:Int),.int i]=(2,[.int 0,.int 0,.int 0,.int 0])∧sgF l x.toS k i=0):=by
 intro k
 induction k with
 |zero=>intro i hi;have r:=sg3_tr (x:=x) (i:=i) h2;rw[if_neg (by omega)]at r;exact .inr ⟨by rw[cy (by rw[r];simp),r],rfl⟩
 |succ k ih=>intro i hi;have r:=sg3_tr (x:=x) (i:=i) h2;rw[if_pos (by omega)]at r;by_cases hp:(celS l i).isPrefixOf x.toS=true;{rw[if_pos hp]at r;have e:sgF l x.toS (k+1) i=(celS l i).length:=(by rw[sgF,if_pos hp]);exact .inl (by rw[cy (by rw[r];simp),r,e])};rw[if_neg hp]at r;have e:sgF l x.toS (k+1) i=sgF l x.toS k (i+1):=(by rw[sgF,if_neg hp]);rw[iw sg_mea ⟨x,l,i,rfl,by omega,h2⟩ (by rw[r]),r,e];exact ih (i+1) (by omega)
def sgns:Dat:=F0 2 (.int 0) (.int 0) (.int 0)
theorem sgns_len:sgns.toL.length=45:=by kernel_rfl
theorem sg_sp(x:Dat):(spSg F0 [x]).1=1∧aJ (spSg F0 [x]).2 0=.int (sgF sgns x.toS 45 0:Int):=by
 unfold spSg;rw[bind_go (f:=sg0.tr F0 1) (s':=[x]) rfl];have hl:=sgns_len;have e1:sg1.tr F0 4 [x]=(0,[x,sgns,.int (sgns.toL.length:Int),.int 0]):=rfl;rcases sg_lp (x:=x) (l:=sgns) (by omega) 45 0 (by omega)with h|⟨h,h3⟩;{have u:ie 0 (fD (sg3.tr F0 4) muSg) [x,sgns,.int (sgns.toL.length:Int),.int 0]=(1,[.int (sgF sgns x.toS 45 0:Int),.int 0,.int 0,.int 0]):=unX_ne h (by simp);have w:aD (sg1.tr F0 4) (ie 0 (fD (sg3.tr F0 4) muSg)) [x]=(1,[.int (sgF sgns x.toS 45 0:Int),.int 0,.int 0,.int 0]):=(by rw[bind_go e1];exact u);rw[bind_no w (by simp)];exact⟨rfl,rfl⟩};have u:ie 0 (fD (sg3.tr F0 4) muSg) [x,sgns,.int (sgns.toL.length:Int),.int 0]=(0,[.int 0,.int 0,.int 0,.int 0]):=unX_at h;have w:aD (sg1.tr F0 4) (ie 0 (fD (sg3.tr F0 4) muSg)) [x]=(0,[.int 0,.int 0,.int 0,.int 0]):=by rw[bind_go e1];exact u
 rw[bind_go w,h3];exact⟨rfl,rfl⟩
def sgn(s:List UInt8):Nat:=sgF sgns s 45 0
theorem f14{x b c:Dat}:F0 14 x b c=.int (sgn x.toS:Int):=by rw[F0_14,(sg_sp x).2];rfl
end
end Go.Tw.LX
set_option linter.all false
namespace Go.Tw.LX
noncomputable section
def esZ:Nat×List Dat:=(1,[.int 0,.int 0])
def esM(c:Int):Nat×List Dat:=
 if c=110 then(1,[.int 10,.int 2])else if c=116 then(1,[.int 9,.int 2])else if c=114 then(1,[.int 13,.int 2])else if c=48 then(1,[.int 0,.int 2])else
 if c=92 then(1,[.int 92,.int 2])else if c=39 then(1,[.int 39,.int 2])else if c=34 then(1,[.int 34,.int 2])else esZ
def esX(s:List UInt8):Nat×List Dat:=
 if(F0 12 (.int (atI s 2)) (.int 0) (.int 0)).toI=0 then esZ else if(F0 12 (.int (atI s 3)) (.int 0) (.int 0)).toI=0 then esZ else
 if(F0 11 (.str ((s.take 4).drop 2)) (.int 16) (.int 8)).toI=0 then(1,[.int (bX .u8 (F0 10 (.str ((s.take 4).drop 2)) (.int 16) (.int 8)).toI),.int 4])else esZ
def esP(s:List UInt8):Nat×List Dat:=if s.length<2 then esZ else if atI s 1=120 then(if s.length<4 then esZ else esX s)else esM (atI s 1)
theorem es_nf(d:Dat):es0.tr F0 2 [d]=esP d.toS:=by
 have h4:(List.drop (Int.toNat 2) (List.take (Int.toNat 4) d.toS)).length<1000000000:=by rw[List.length_drop,List.length_take,show Int.toNat 4=4 from rfl];omega
 simp only[es0,tr_ite,ev_lt,ev_eq,ev_seq,sLn,sI,sAt,dAt,dD0,dV0,tI,tS,sAp,dAp,dTake,dDrop,dN,dI,dLit,sLit,tl2];unfold esP;by_cases h1:d.toS.length<2;{rw[if_pos h1,if_pos (by omega)];rfl};rw[if_neg h1,if_neg (by omega),if_pos (by omega)];by_cases h2:atI d.toS 1=120;{rw[if_pos h2,if_pos (show atI d.toS (Int.toNat 1)=120 from h2)];by_cases h3:d.toS.length<4;{rw[if_pos h3,if_pos (by omega)];rfl};rw[if_neg h3,if_neg (by omega),if_pos (by omega)];unfold esX;simp only[show Int.toNat 2=2 from rfl,show Int.toNat 3=3 from rfl,show Int.toNat 4=4 from rfl];by_cases h5:(F0 12 (.int (atI d.toS 2)) (.int 0) (.int 0)).toI=0;{rw[if_pos h5,if_pos h5];rfl};rw[if_neg h5,if_neg h5,if_pos (by omega)];by_cases h6:(F0 12 (.int (atI d.toS 3)) (.int 0) (.int 0)).toI=0;{rw[if_pos h6,if_pos h6];rfl};rw[if_neg h6,if_neg h6,if_pos (by rw[show Int.toNat 2=2 from rfl,show Int.toNat 4=4 from rfl]at h4;omega)];rfl};rw[if_neg h2,if_neg (show ¬atI d.toS (Int.toNat 1)=120 from h2)];rfl
theorem esM_n(c:Int):∃b n:Int,esM c=(1,[.int b,.int n])∧(n=0∨n=2):=by
 unfold esM esZ;repeat' split
 all_goals first|exact⟨_,_,rfl,.inr rfl⟩|exact⟨_,_,rfl,.inl rfl⟩
theorem esX_n(s:List UInt8):∃b n:Int,esX s=(1,[.int b,.int n])∧(n=0∨n=4):=by
 unfold esX esZ;repeat' split
 all_goals first|exact⟨_,_,rfl,.inr rfl⟩|exact⟨_,_,rfl,.inl rfl⟩
theorem esP_n(s:List UInt8):∃(b:Int) (n:Nat),esP s=(1,[.int b,.int (n:Int)])∧n≤s.length∧(n=0∨2≤n)∧n≤4:=by unfold esP;split;{exact⟨0,0,rfl,by omega,.inl rfl,by omega⟩};split;{split;{exact⟨0,0,rfl,by omega,.inl rfl,by omega⟩};obtain⟨b,n,h,h2⟩:=esX_n s;exact⟨b,n.toNat,by rw[h];congr 4;omega,by omega,by omega,by omega⟩};obtain⟨b,n,h,h2⟩:=esM_n (atI s 1);exact⟨b,n.toNat,by rw[h];congr 4;omega,by omega,by omega,by omega⟩
theorem atI_take{s:List UInt8}{i m:Nat}(h:i<m):atI (s.take m) i=atI s i:=by unfold atI;rw[List.getElem?_take];simp [h]
theorem esP_same{s s':List UInt8}{b:Int}{n:Nat}(h:esP s=(1,[.int b,.int (n:Int)]))(hn:0<n)(ht:s'.take n=s.take n):esP s'=(1,[.int b,.int (n:Int)]):=by
 obtain⟨b',n',e,h1,h2,_⟩:=esP_n s;have hnn:n'=n:=by rw[h]at e;injection e with _ e;injection e with _ e;injection e with e _;injection e with e;omega
 subst hnn;have hlen:n'≤s'.length:=by have:=congrArg List.length ht;rw[List.length_take,List.length_take]at this;omega
 have hat:∀i,i<n'→atI s' i=atI s i:=fun i hi=>by rw[←atI_take hi,ht,atI_take hi]
 unfold esP at h⊢;rw[if_neg (by omega)]at h;rw[if_neg (by omega),hat 1 (by omega)];split at h
 ·rename_i hx;rw[if_pos hx];split at h;{injection h with _ h;injection h with _ h;injection h with h _;injection h with h;omega};rename_i h4;obtain⟨b2,n2,e2,h5⟩:=esX_n s;have:n2=n':=(by rw[h]at e2;injection e2 with _ e2;injection e2 with _ e2;injection e2 with e2 _;injection e2 with e2;exact e2.symm);rw[if_neg (by omega)];have e4:n'=4:=(by omega);have ex:esX s'=esX s:=by
   unfold esX;rw[hat 2 (by omega),hat 3 (by omega),←e4,ht]
  rw[ex];exact h
 rename_i hx;rw[if_neg hx];exact h
def esB(s:List UInt8):Dat:=aJ (esP s).2 0
def esN(s:List UInt8):Nat:=(aJ (esP s).2 1).toI.toNat
theorem esP_eq(s:List UInt8):esP s=(1,[esB s,.int (esN s:Int)]):=by obtain⟨b,n,e,_⟩:=esP_n s;unfold esB esN;rw[e];rfl
theorem esB_int(s:List UInt8):∃b:Int,esB s=.int b:=by obtain⟨b,n,e,_⟩:=esP_n s;unfold esB;rw[e];exact⟨b,rfl⟩
theorem esN_bd(s:List UInt8):esN s≤s.length∧(esN s=0∨2≤esN s)∧esN s≤4:=by obtain⟨b,n,e,h⟩:=esP_n s;unfold esN;rw[e];exact h
theorem es_same{s s':List UInt8}(hn:0<esN s)(ht:s'.take (esN s)=s.take (esN s)):esB s'=esB s∧esN s'=esN s:=by obtain⟨b,hb⟩:=esB_int s;have e:=esP_eq s;rw[hb]at e;have k:=esP_same e hn ht;constructor;{rw[hb];unfold esB;rw[k];rfl};unfold esN at k⊢;rw[k];rfl
theorem f24{d b c:Dat}:F0 24 d b c=.int (esB d.toS).toI:=by rw[F0_24];unfold spEs;rw[es_nf,esP_eq];rfl
theorem f25{d b c:Dat}:F0 25 d b c=.int (esN d.toS:Int):=by rw[F0_25];unfold spEs;rw[es_nf,esP_eq];rfl
theorem dw_len(q:UInt8→Bool)(l:List UInt8):(l.dropWhile q).length≤l.length:=(List.dropWhile_sublist q).length_le
theorem sp_tr{d:Dat}(hl:d.toS.length<1000000000)(h1:1≤d.toS.length):∃(b:Int) (x y:List UInt8),sp0.tr F0 3 [d]=(1,[.int b,.str x,.str y])∧8≤b∧b≤16∧x.length≤d.toS.length∧y.Sublist d.toS:=by
 have h2:(List.drop (Int.toNat 2) d.toS).length≤d.toS.length:=by rw[List.length_drop];omega
 have key:∀(q:UInt8→Bool) (l:List UInt8),l.length<1000000000→aS .sub .i64 (l.length:Int) ((l.dropWhile q).length:Int)=((l.length - (l.dropWhile q).length:Nat):Int):=fun q l h=>by have:=dw_len q l;rw[sub_small (by omega) (by omega)];omega
 simp only[sp0,tr_ite,ev_lt,ev_eq,ev_seq,sLn,sI,sAt,dAt,dD0,dV0,tI,tS,sAp,dAp,dTake,dDrop,dN,dI,dLit,sLit,tl3,dSl,F0_4,sBin];simp only[key _ d.toS hl,key _ (List.drop (Int.toNat 2) d.toS) (by omega)];repeat' split
 all_goals first
  |(exfalso;omega)
  |exact⟨_,_,_,rfl,by omega,by omega,by rw[List.length_take];omega,List.dropWhile_sublist _⟩
  |exact⟨_,_,_,rfl,by omega,by omega,by rw[List.length_take];omega,(List.dropWhile_sublist _).trans (List.drop_sublist _ _)⟩
theorem sp_f{d b c:Dat}(hl:d.toS.length<1000000000)(h1:1≤d.toS.length):∃(k:Int) (x y:List UInt8),F0 20 d b c=.int k∧F0 21 d b c=.str x∧F0 22 d b c=.str y∧8≤k∧k≤16∧x.length≤d.toS.length∧y.Sublist d.toS:=by obtain⟨k,x,y,e,h⟩:=sp_tr hl h1;refine⟨k,x,y,?_,?_,?_,h⟩;{rw[F0_20];unfold spSp;rw[e];rfl};{rw[F0_21];unfold spSp;rw[e];rfl};rw[F0_22];unfold spSp;rw[e];rfl
end
end Go.Tw.LX
set_option linter.all false
namespace Go.Tw.LX
noncomputable section
def qst:List UInt8→Option (Dat×Nat)
 |[]=>none
 |c::r=>if c.toNat=92 then(if esN (c::r)=0 then none else some (.int (esB (c::r)).toI,esN (c::r)))else if c.toNat<32 then none else if c.toNat<127 then some (.int (c.toNat:Int),1)else none
theorem qst_cons(c:UInt8)(r:List UInt8):qst (c::r)=if c.toNat=92 then(if esN (c::r)=0 then none else some (.int (esB (c::r)).toI,esN (c::r)))else if c.toNat<32 then none else if c.toNat<127 then some (.int (c.toNat:Int),1)else none:=rfl
theorem qst_bd{r:List UInt8}{x:Dat}{k:Nat}(h:qst r=some (x,k)):1≤k∧k≤r.length:=by
 cases r with
 |nil=>cases h
 |cons c r=>rw[qst_cons]at h;split at h;{split at h;{cases h};injection h with h;injection h with _ h;have:=esN_bd (c::r);omega};split at h;{cases h};split at h;{injection h with h;injection h with _ h;simp only[List.length_cons];omega};cases h
theorem qst_same{r r':List UInt8}{x:Dat}{k:Nat}(h:qst r=some (x,k))(ht:r'.take k=r.take k):qst r'=some (x,k):=by
 have hb:=qst_bd h;cases r with
 |nil=>cases h
 |cons c r=>
  obtain⟨k',rfl⟩:∃k',k=k'+1:=⟨k - 1,by omega⟩;cases r' with
  |nil=>rw[List.take_succ_cons]at ht;cases ht
  |cons c' r'=>have hc:c'=c:=(by rw[List.take_succ_cons,List.take_succ_cons]at ht;injection ht);subst hc;rw[qst_cons]at h⊢;split at h;{rename_i hc;rw[if_pos hc];split at h;{cases h};rename_i h0;injection h with h;injection h with h1 h2;have e:=es_same (s:=c'::r) (s':=c'::r') (by omega) (by rw[h2];exact ht);rw[e.2,e.1,if_neg h0,h1,h2]};rename_i hc;rw[if_neg hc];exact h
inductive Qt (q:Int):List UInt8→Nat→List (List Dat)→Prop
 |nil (r:List UInt8):Qt q r 0 []
 |step {c:UInt8} {r:List UInt8} {x:Dat} {k n:Nat} {l:List (List Dat)} (hc:(c.toNat:Int)≠q) (h:qst (c::r)=some (x,k)) (t:Qt q ((c::r).drop k) n l):Qt q (c::r) (k+n) ([x]::l)
theorem Qt.same{q:Int}{r:List UInt8}{n:Nat}{l:List (List Dat)}(h:Qt q r n l):∀r':List UInt8,r'.take n=r.take n→Qt q r' n l:=by
 induction h with
 |nil r=>intro r' _;exact .nil _
 |@step c r x k n l hc h t ih=>
  intro r' ht;have hb:=qst_bd h;have ht1:r'.take k=(c::r).take k:=(by have:=congrArg (List.take k) ht;rwa[List.take_take,List.take_take,Nat.min_eq_left (by omega)]at this);have h2:=qst_same h ht1;obtain⟨k',rfl⟩:∃k',k=k'+1:=⟨k - 1,by omega⟩;cases r' with
  |nil=>rw[List.take_succ_cons]at ht1;cases ht1
  |cons c' r'=>have hcc:c'=c:=(by rw[List.take_succ_cons,List.take_succ_cons]at ht1;injection ht1);subst hcc;refine .step hc h2 (ih _ ?_);have:=congrArg (List.drop (k'+1)) ht;rw[List.drop_take,List.drop_take,Nat.add_sub_cancel_left]at this;exact this
def st14(d:Dat)(ea p:Int)(rows:List (List Dat))(y q t:Int):List Dat:=[d,.int 0,.int ea,.int p,.int 0,.int 0,.int 0,.lst [],.int 0,.int p,.lst rows,.int y,.int q,.int t]
section
variable{d:Dat}{ea p y q t:Int}{rows:List (List Dat)}
theorem qu5_end(h:¬(t<d.toS.length∧atI d.toS t.toNat≠q)):qu5.tr F0 14 (st14 d ea p rows y q t)=(2,st14 d ea p rows y q t):=by unfold st14;simp only[qu5,tr_ite,ev_lt,ev_eq,sD13,sD12,sLn,dD0,tI,sAt];by_cases h1:t<d.toS.length;{rw[if_pos h1,if_pos (Classical.byContradiction fun h2=>h ⟨h1,h2⟩)];rfl};rw[if_neg h1];rfl
theorem qu5_bad(h0:0≤t)(hl:d.toS.length<1000000000)(h1:t<d.toS.length)(h2:atI d.toS t.toNat≠q)(h:qst (d.toS.drop t.toNat)=none):
 qu5.tr F0 14 (st14 d ea p rows y q t)=(1,[d,.int 10,.int t,.int 5,.int p,.int 0,.int 0,.lst rows,.int y,.int 0,.int 0,.int 0,.int 0,.int 0]):=by
 obtain⟨c,r,hr,hc⟩:=headE (l:=d.toS) (n:=t.toNat) (by omega);have hld:(d.toS.drop t.toNat).length=d.toS.length - t.toNat:=List.length_drop;unfold st14;simp only[qu5,tr_ite,ev_lt,ev_eq,sD13,sD12,sLn,sI,dD0,tI,sAt,sAp,dAp,dAt,dDrop,tS,f24,f25,dI,tl14,sL,dD10,tL];rw[if_pos h1,if_neg h2,atI_some hc];rw[hr]at h hld⊢;rw[qst_cons]at h;by_cases h3:c.toNat=92;{rw[if_pos h3]at h;rw[if_pos (by omega),if_neg (by omega),if_pos (by omega)];by_cases h4:esN (c::r)=0;{rw[if_pos (by omega)];rfl};rw[if_neg h4]at h;cases h};rw[if_neg h3]at h;rw[if_neg (by omega)];by_cases h4:c.toNat<32;{rw[if_pos (by omega)];rfl};rw[if_neg h4]at h;by_cases h5:c.toNat<127;{rw[if_pos h5]at h;cases h};rw[if_neg (by omega),if_neg (by omega)];rfl
theorem qu5_on{x:Dat}{k:Nat}(h0:0≤t)(hl:d.toS.length<1000000000)(hy:rows.length<1000000001)(h1:t<d.toS.length)(h2:atI d.toS t.toNat≠q)(h:qst (d.toS.drop t.toNat)=some (x,k)):
 qu5.tr F0 14 (st14 d ea p rows y q t)=(0,st14 d ea p (rows++[[x]]) 1 q (t+k)):=by
 obtain⟨c,r,hr,hc⟩:=headE (l:=d.toS) (n:=t.toNat) (by omega);have hld:(d.toS.drop t.toNat).length=d.toS.length - t.toNat:=List.length_drop;have hb:=qst_bd h;unfold st14;simp only[qu5,tr_ite,ev_lt,ev_eq,sD13,sD12,sLn,sI,dD0,tI,sAt,sAp,dAp,dAt,dDrop,tS,f24,f25,dI,tl14,sL,dD10,tL,dN,sD1,sD2,sD3,sD4,sD5,sD6,dD7,dD8,sD9,dJ,d12,d14,dO,sBin,Dat.one];rw[if_pos h1,if_neg h2,atI_some hc];rw[hr]at h hld hb⊢;rw[qst_cons]at h;by_cases h3:c.toNat=92;{rw[if_pos h3]at h;rw[if_pos (by omega),if_neg (by omega),if_pos (by omega)];by_cases h4:esN (c::r)=0;{rw[if_pos h4]at h;cases h};rw[if_neg h4]at h;injection h with h;injection h with hx hk;rw[if_neg (by omega),if_pos (by omega),add_small (by omega) (by omega),hx,hk];rfl};rw[if_neg h3]at h;rw[if_neg (by omega)];by_cases h4:c.toNat<32;{rw[if_pos h4]at h;cases h};rw[if_neg h4]at h;by_cases h5:c.toNat<127;{rw[if_pos h5]at h;injection h with h;injection h with hx hk;rw[if_neg (by omega),if_pos (by omega),if_pos (by omega),add_small (by omega) (by omega),hx,←hk];rfl};rw[if_neg h5]at h;cases h
end
end
end Go.Tw.LX
set_option linter.all false
namespace Go.Tw.LX
noncomputable section
def JQu(s:List Dat):Prop:=∃d ea p rows y q t,s=st14 d ea p rows y q t∧0≤p∧p<d.toS.length∧0≤t∧t≤d.toS.length∧(rows.length:Int)≤t∧d.toS.length<1000000000
section
variable{d:Dat}{ea p y q t:Int}{rows:List (List Dat)}
theorem qu5_cases(h0:0≤t)(hl:d.toS.length<1000000000)(hy:rows.length<1000000001):(¬(t<d.toS.length∧atI d.toS t.toNat≠q)∧qu5.tr F0 14 (st14 d ea p rows y q t)=(2,st14 d ea p rows y q t))∨
 (t<d.toS.length∧atI d.toS t.toNat≠q∧qst (d.toS.drop t.toNat)=none∧qu5.tr F0 14 (st14 d ea p rows y q t)=(1,[d,.int 10,.int t,.int 5,.int p,.int 0,.int 0,.lst rows,.int y,.int 0,.int 0,.int 0,.int 0,.int 0]))∨
 (∃x k,t<d.toS.length∧atI d.toS t.toNat≠q∧qst (d.toS.drop t.toNat)=some (x,k)∧1≤k∧t+k≤d.toS.length∧qu5.tr F0 14 (st14 d ea p rows y q t)=(0,st14 d ea p (rows++[[x]]) 1 q (t+k))):=by
 by_cases h:t<d.toS.length∧atI d.toS t.toNat≠q
 ·cases hq:qst (d.toS.drop t.toNat)with
  |none=>exact .inr (.inl ⟨h.1,h.2,rfl,qu5_bad h0 hl h.1 h.2 hq⟩)
  |some z=>obtain⟨x,k⟩:=z;have hb:=qst_bd hq;rw[List.length_drop]at hb;exact .inr (.inr ⟨x,k,h.1,h.2,rfl,hb.1,by omega,qu5_on h0 hl hy h.1 h.2 hq⟩)
 exact .inl ⟨h,qu5_end h⟩
end
theorem qu_mea:vt JQu muQu (qu5.tr F0 14):=fun s hs h0=>by obtain⟨d,ea,p,rows,y,q,t,rfl,h1,h2,h3,h4,h5,h6⟩:=hs;rcases qu5_cases (d:=d) (ea:=ea) (p:=p) (y:=y) (q:=q) (t:=t) (rows:=rows) h3 h6 (by omega)with⟨_,e⟩|⟨_,_,_,e⟩|⟨x,k,a,b,c,k1,k2,e⟩;{rw[e]at h0;cases h0};{rw[e]at h0;cases h0};rw[e];refine⟨⟨d,ea,p,_,1,q,_,rfl,h1,h2,by omega,k2,by simp only[fG,List.length_cons,List.length_nil];omega,h6⟩,?_⟩;show d.toS.length - (t+k).toNat<d.toS.length - t.toNat;omega
theorem qu_lp{d:Dat}{ea p q:Int}(hp:0≤p)(hp2:p<d.toS.length)(hl:d.toS.length<1000000000):∀(m t:Nat) (rows:List (List Dat)) (y:Int),d.toS.length - t≤m→t≤d.toS.length→rows.length≤t→
 ∃n l,Qt q (d.toS.drop t) n l∧∃y',(t+n≤d.toS.length∧¬(t+n<d.toS.length∧atI d.toS (t+n)≠q)∧fD (qu5.tr F0 14) muQu (st14 d ea p rows y q t)=(2,st14 d ea p (rows++l) y' q ((t+n:Nat):Int)))∨
  (t+n<d.toS.length∧fD (qu5.tr F0 14) muQu (st14 d ea p rows y q t)=(1,[d,.int 10,.int ((t+n:Nat):Int),.int 5,.int p,.int 0,.int 0,.lst (rows++l),.int y',.int 0,.int 0,.int 0,.int 0,.int 0])):=by
 intro m
 induction m with
 |zero=>intro t rows y hm ht hr;refine⟨0,[],.nil _,y,.inl ⟨ht,fun h=>by omega,?_⟩⟩;have e:=qu5_end (d:=d) (ea:=ea) (p:=p) (y:=y) (q:=q) (t:=t) (rows:=rows) (fun h=>by omega);rw[cy (by rw[e];simp),e,List.append_nil];rfl
 |succ m ih=>intro t rows y hm ht hr;rcases qu5_cases (d:=d) (ea:=ea) (p:=p) (y:=y) (q:=q) (t:=t) (rows:=rows) (by omega) hl (by omega)with⟨a,e⟩|⟨a,_,_,e⟩|⟨x,k,a,b,c,k1,k2,e⟩;{rw[Int.toNat_natCast]at a;refine⟨0,[],.nil _,y,.inl ⟨ht,fun h=>a ⟨by omega,h.2⟩,?_⟩⟩;rw[cy (by rw[e];simp),e,List.append_nil];rfl};{refine⟨0,[],.nil _,y,.inr ⟨by omega,?_⟩⟩;rw[cy (by rw[e];simp),e,List.append_nil];rfl};rw[Int.toNat_natCast]at b c;have e2:(t:Int)+k=((t+k:Nat):Int):=(by omega);rw[e2]at e;rw[iw qu_mea ⟨d,ea,p,rows,y,q,t,rfl,hp,hp2,by omega,by omega,by omega,hl⟩ (by rw[e]),e];obtain⟨n,l,hq,y',h⟩:=ih (t+k) (rows++[[x]]) 1 (by omega) (by omega) (by simp only[fG,List.length_cons,List.length_nil];omega);refine⟨k+n,[x]::l,?_,y',?_⟩;{obtain⟨z,r,hr,hz⟩:=headE (l:=d.toS) (n:=t) (by omega);rw[atI_some hz]at b;rw[hr]at c⊢;refine .step b c ?_;rw[←hr,List.drop_drop];exact hq};rw[List.append_assoc]at h;rw[←Nat.add_assoc];exact h
theorem qt_lp{d:Dat}{ea p q:Int}(hp:0≤p)(hp2:p<d.toS.length)(hl:d.toS.length<1000000000){r:List UInt8}{n:Nat}{l:List (List Dat)}(h:Qt q r n l):∀(t:Nat) (rows:List (List Dat)) (y:Int),r=d.toS.drop t→t≤d.toS.length→rows.length≤t→
 ¬(t+n<d.toS.length∧atI d.toS (t+n)≠q)→∃y',fD (qu5.tr F0 14) muQu (st14 d ea p rows y q t)=(2,st14 d ea p (rows++l) y' q ((t+n:Nat):Int)):=by
 induction h with
 |nil r=>intro t rows y hr ht hrl hx;have e:=qu5_end (d:=d) (ea:=ea) (p:=p) (y:=y) (q:=q) (t:=t) (rows:=rows) (fun h=>hx ⟨by omega,by rw[Int.toNat_natCast]at h;exact h.2⟩);exact⟨y,by rw[cy (by rw[e];simp),e,List.append_nil];rfl⟩
 |@step c r x k n l hc h t' ih=>intro t rows y hr ht hrl hx;have hb:=qst_bd h;have hlen:(c::r).length=d.toS.length - t:=(by rw[hr,List.length_drop]);have hat:atI d.toS t=c.toNat:=atI_some (by have:=congrArg (fun l=>l[0]?) hr;simpa using this.symm);have e:=qu5_on (d:=d) (ea:=ea) (p:=p) (y:=y) (q:=q) (t:=t) (rows:=rows) (x:=x) (k:=k) (by omega) hl (by omega) (by omega) (by rw[Int.toNat_natCast,hat];exact hc) (by rw[Int.toNat_natCast,←hr];exact h);have e2:(t:Int)+k=((t+k:Nat):Int):=(by omega);rw[e2]at e;rw[iw qu_mea ⟨d,ea,p,rows,y,q,t,rfl,hp,hp2,by omega,by omega,by omega,hl⟩ (by rw[e]),e];obtain⟨y',h2⟩:=ih (t+k) (rows++[[x]]) 1 (by rw[hr,List.drop_drop]) (by omega) (by simp only[fG,List.length_cons,List.length_nil];omega) (by rw[Nat.add_assoc];exact hx);refine⟨y',?_⟩;rw[h2,List.append_assoc,Nat.add_assoc];rfl
def qE(q:Int)(rows:List (List Dat)):Int:=if q=34 then 0 else if rows.length=1 then 0 else 10
def qK(q:Int)(rows:List (List Dat)):Int:=if q=34 then 5 else if rows.length=1 then 4 else 5
def qN(q:Int)(rows:List (List Dat)):Int:=if q=34 then 0 else if rows.length=1 then bX .i64 ((Dat.lst rows).cell 0 0).toI else 0
def qB(q:Int)(rows:List (List Dat)):List (List Dat):=if q=34 then rows else if rows.length=1 then[]else rows
theorem qu7_tr{d:Dat}{ea p y q t:Int}{rows:List (List Dat)}(h0:0≤p)(h1:p<t)(h2:t<d.toS.length)(hl:d.toS.length<1000000000):
 ∃ea' y',qu7.tr F0 9 (st14 d ea p rows y q t)=(1,[d,.int (qE q rows),.int ea',.int (qK q rows),.int p,.int (t+1 - p),.int (qN q rows),.lst (qB q rows),.int y'])∧(qE q rows≠0→ea'=p)∧(qE q rows=0→ea'=ea):=by
 unfold st14 qE qK qN qB;simp only[qu7,tr_ite,ev_lt,ev_eq,sD13,sD12,sLn,sI,dD0,tI,dI,tl9,sL,dD10,tL,dN,sD1,sD2,sD3,sD9,sBin,dO,dD11];rw[if_pos h2,add_small (by omega) (by omega),sub_small (by omega) (by omega)];by_cases h3:q=34;{simp only[if_pos h3];exact⟨ea,y,rfl,fun h=>absurd rfl h,fun _=>rfl⟩};simp only[if_neg h3];by_cases h4:rows.length=1;{rw[if_pos (by omega),if_pos (by omega)];simp only[if_pos h4];exact⟨ea,0,rfl,fun h=>absurd rfl h,fun _=>rfl⟩};rw[if_neg (by omega)];simp only[if_neg h4,if_true];exact⟨p,y,rfl,fun _=>rfl,fun h=>by cases h⟩
theorem qu7_no{d:Dat}{ea p y q t:Int}{rows:List (List Dat)}(h2:¬t<d.toS.length):qu7.tr F0 9 (st14 d ea p rows y q t)=(1,[d,.int 4,.int p,.int 5,.int p,.int 0,.int 0,.lst rows,.int y]):=by unfold st14;simp only[qu7,tr_ite,ev_lt,ev_eq,sD13,sLn,dD0,tI,sD1,sI];rw[if_neg h2];simp only[if_true];rfl
theorem qu_start{d:Dat}{ea:Int}{p:Nat}(hl:d.toS.length<1000000000)(h1:p<d.toS.length):spQu F0 [d,.int 0,.int ea,.int p]=aD (ie 0 (fD (qu5.tr F0 14) muQu)) (qu7.tr F0 9) (st14 d ea p [] 0 (atI d.toS p) ((p+1:Nat):Int)):=by
 unfold spQu;rw[bind_go (f:=qu0.tr F0 9) (s':=[d,.int 0,.int ea,.int p,.int 0,.int 0,.int 0,.lst [],.int 0]) rfl,
  bind_go (f:=qu1.tr F0 12) (s':=[d,.int 0,.int ea,.int p,.int 0,.int 0,.int 0,.lst [],.int 0,.int p,.lst [],.int 0]) rfl,
  bind_go (f:=qu2.tr F0 13) (s':=[d,.int 0,.int ea,.int p,.int 0,.int 0,.int 0,.lst [],.int 0,.int p,.lst [],.int 0,.int (atI d.toS p)]) rfl]
 have e:qu3.tr F0 14 [d,.int 0,.int ea,.int p,.int 0,.int 0,.int 0,.lst [],.int 0,.int p,.lst [],.int 0,.int (atI d.toS p)]=(0,st14 d ea p [] 0 (atI d.toS p) ((p+1:Nat):Int)):=by have:aS .add .i64 (p:Int) 1=((p+1:Nat):Int):=(by rw[add_small (by omega) (by omega)];omega);show(0,[d,.int 0,.int ea,.int p,.int 0,.int 0,.int 0,.lst [],.int 0,.int p,.lst [],.int 0,.int (atI d.toS p),.int (aS .add .i64 (p:Int) 1)])=_;rw[this];rfl
 rw[bind_go e]
theorem qu_sp{d:Dat}{ea:Int}{p:Nat}(hl:d.toS.length<1000000000)(h1:p<d.toS.length):
 (∃n l ea' y',Qt (atI d.toS p) (d.toS.drop (p+1)) n l∧p+1+n<d.toS.length∧atI d.toS (p+1+n)=atI d.toS p∧
   spQu F0 [d,.int 0,.int ea,.int p]=(1,[d,.int (qE (atI d.toS p) l),.int ea',.int (qK (atI d.toS p) l),.int p,.int ((n+2:Nat):Int),.int (qN (atI d.toS p) l),.lst (qB (atI d.toS p) l),.int y'])∧(qE (atI d.toS p) l≠0→ea'=p))∨
 (∃(er ea':Nat) (l:List (List Dat)) (y':Int),(er=4∨er=10)∧ea'<d.toS.length∧spQu F0 [d,.int 0,.int ea,.int p]=(1,[d,.int er,.int ea',.int 5,.int p,.int 0,.int 0,.lst l,.int y'])∨
   ∃z,spQu F0 [d,.int 0,.int ea,.int p]=(1,d:: .int er:: .int ea':: .int 5:: .int p:: .int 0:: .int 0:: .lst l:: .int y'::z)∧(er=4∨er=10)∧ea'<d.toS.length):=by
 rw[qu_start hl h1];obtain⟨n,l,hq,y',h|h⟩:=qu_lp (d:=d) (ea:=ea) (p:=p) (q:=atI d.toS p) (by omega) (by omega) hl _ (p+1) [] 0 (aw _) (by omega) (by simp);{obtain⟨a,b,e⟩:=h;rw[bind_go (unX_at e)];by_cases h2:p+1+n<d.toS.length;{have h3:atI d.toS (p+1+n)=atI d.toS p:=Classical.byContradiction fun h3=>b ⟨h2,h3⟩;obtain⟨ea',y2,e2,e3,_⟩:=qu7_tr (d:=d) (ea:=ea) (p:=p) (y:=y') (q:=atI d.toS p) (t:=((p+1+n:Nat):Int)) (rows:=[]++l) (by omega) (by omega) (by omega) hl;rw[show(((p+1+n:Nat):Int)+1 - p)=((n+2:Nat):Int) by omega]at e2;exact .inl ⟨n,l,ea',y2,hq,h2,h3,e2,e3⟩};rw[qu7_no (by omega)];exact .inr ⟨4,p,_,y',.inl ⟨.inl rfl,h1,rfl⟩⟩};obtain⟨a,e⟩:=h;rw[bind_no (unX_ne e (by simp)) (by simp)];exact .inr ⟨10,p+1+n,_,y',.inr ⟨_,rfl,.inr rfl,a⟩⟩
theorem qt_sp{d:Dat}{ea:Int}{p n:Nat}{l:List (List Dat)}(hl:d.toS.length<1000000000)(h1:p<d.toS.length)(h:Qt (atI d.toS p) (d.toS.drop (p+1)) n l)(h2:p+1+n<d.toS.length)(h3:atI d.toS (p+1+n)=atI d.toS p):
 ∃ea' y',spQu F0 [d,.int 0,.int ea,.int p]=(1,[d,.int (qE (atI d.toS p) l),.int ea',.int (qK (atI d.toS p) l),.int p,.int ((n+2:Nat):Int),.int (qN (atI d.toS p) l),.lst (qB (atI d.toS p) l),.int y'])∧(qE (atI d.toS p) l=0→ea'=ea):=by
 rw[qu_start hl h1];obtain⟨y',e⟩:=qt_lp (d:=d) (ea:=ea) (p:=p) (q:=atI d.toS p) (by omega) (by omega) hl h (p+1) [] 0 rfl (by omega) (by simp) (fun k=>k.2 h3);rw[bind_go (unX_at e)];obtain⟨ea',y2,e2,_,e4⟩:=qu7_tr (d:=d) (ea:=ea) (p:=p) (y:=y') (q:=atI d.toS p) (t:=((p+1+n:Nat):Int)) (rows:=[]++l) (by omega) (by omega) (by omega) hl;rw[show(((p+1+n:Nat):Int)+1 - p)=((n+2:Nat):Int) by omega]at e2;exact⟨ea',y2,e2,e4⟩
end
end Go.Tw.LX
set_option linter.all false
namespace Go.Tw.LX
noncomputable section
def wK(r:List UInt8):Int:=if(F0 13 (.str r) (.int 0) (.int 0)).toI=0 then 1 else 2
theorem wd_tr{d:Dat}{ea:Int}{p:Nat}(hl:d.toS.length<1000000000)(h1:p<d.toS.length):
 wd0.tr F0 7 [d,.int 0,.int ea,.int p]=(1,[d,.int 0,.int ea,.int (wK ((d.toS.drop p).takeWhile parB)),.int p,.int (((d.toS.drop p).takeWhile parB).length:Int),.str ((d.toS.drop p).takeWhile parB)]):=by
 have hr:∀c,F0 23 d (.int (p:Int)) c=.str ((d.toS.drop p).takeWhile parB):=fun c=>f23 (by omega) hl rfl;simp only[wd0,tr_ite,ev_eq,sAp,dAp,dD0,dD3,dI,hr,sI,tl7,dN,sD1,sD2,sD3,sLn,tI,tS];unfold wK;split<;>rfl
def nmT(r:List UInt8):Dat:=F0 22 (.str r) (.int 0) (.int 0)
def nmD(r:List UInt8):Dat:=F0 21 (.str r) (.int 0) (.int 0)
def nmB(r:List UInt8):Dat:=F0 20 (.str r) (.int 0) (.int 0)
def nmOk(r:List UInt8):Bool:=decide ((F0 19 (nmT r) (.int 0) (.int 0)).toI≠0∧(nmD r).toS≠[])
def nmE(r:List UInt8):Int:=if nmOk r=true then(if(F0 11 (nmD r) (nmB r) (.int 64)).toI=0 then 0 else 5)else 10
def nmZ(r:List UInt8):Nat:=if nmOk r=true then r.length else 0
def nmX(r:List UInt8):Dat:=if nmOk r=true then F0 18 (nmT r) (.int 0) (.int 0)else .str []
def nmN(r:List UInt8):Int:=if nmOk r=true then bX .i64 (F0 10 (nmD r) (nmB r) (.int 64)).toI else 0
theorem sub_ascii{x y:List UInt8}(h:x.Sublist y)(hy:∀c∈y,parB c=true):(x.all fun c=>decide (c.toNat<128))=true:=by rw[kU];intro c hc;exact decide_eq_true (par_ascii (hy c (h.subset hc)))
theorem tw_all(q:UInt8→Bool)(l:List UInt8):∀c∈l.takeWhile q,q c=true:=fun c hc=>by
 induction l with
 |nil=>cases hc
 |cons a l ih=>rw[List.takeWhile_cons]at hc;split at hc;{rename_i h;rcases List.mem_cons.1 hc with rfl|hc;{exact h};exact ih hc};cases hc
theorem nm_facts{r:List UInt8}(hl:r.length<1000000000)(h1:1≤r.length)(hr:∀c∈r,parB c=true):
 2≤(nmB r).toI∧(nmB r).toI≤36∧(nmD r).toS.length<1000000000∧(nmT r).toS.length<1000000000∧∀b c,F0 5 (nmT r) b c=.int 1:=by
 obtain⟨k,x,y,e1,e2,e3,h2,h3,h4,h5⟩:=sp_f (d:=.str r) (b:=.int 0) (c:=.int 0) hl h1;unfold nmB nmD nmT;rw[e1,e2,e3];have h4:x.length≤r.length:=h4;have h5:y.Sublist r:=h5;refine⟨?_,?_,?_,?_,fun b c=> ?_⟩;{show 2≤k;omega};{show k≤36;omega};{show x.length<_;omega};{show y.length<_;have:=h5.length_le;omega};rw[F0_5];show Dat.int (if(y.all fun c=>decide (c.toNat<128))=true then 1 else 0)=_;rw[if_pos (sub_ascii h5 hr)]
theorem nm_tr{d:Dat}{ea:Int}{p:Nat}(hl:d.toS.length<1000000000)(h1:p<d.toS.length){r:List UInt8}(hr:r=(d.toS.drop p).takeWhile parB)(h2:1≤r.length):∃ea',
 nm0.tr F0 7 [d,.int 0,.int ea,.int p]=(1,[d,.int (nmE r),.int ea',.int p,.int (nmZ r:Int),nmX r,.int (nmN r)])∧(nmE r≠0→ea'=p)∧(nmE r=0→ea'=ea):=by
 have h23:∀c,F0 23 d (.int (p:Int)) c=.str r:=fun c=>by rw[hr];exact f23 (by omega) hl rfl
 have hlr:r.length≤d.toS.length:=by have:=tw_len parB (d.toS.drop p);rw[←hr,List.length_drop]at this;omega
 obtain⟨a1,a2,a3,a4,a5⟩:=nm_facts (r:=r) (by omega) h2 (by rw[hr];exact tw_all _ _);have t22:∀x y,F0 22 (.str r) x y=nmT r:=fun x y=>F0_22.trans F0_22.symm;have t21:∀x y,F0 21 (.str r) x y=nmD r:=fun x y=>F0_21.trans F0_21.symm;have t20:∀x y,F0 20 (.str r) x y=nmB r:=fun x y=>F0_20.trans F0_20.symm;simp only[nm0,tr_ite,ev_lt,ev_eq,ev_seq,sAp,dAp,dD0,dD3,dV0,dV3,dI,dLit,h23,t22,t21,t20,sI,sLn,tI,tS,dSl,a5];rw[if_neg (by omega),if_pos (by omega),if_pos (by omega)];simp only[if_true];unfold nmE nmZ nmX nmN;by_cases h3:(F0 19 (nmT r) (.int 0) (.int 0)).toI=0;{have k:¬nmOk r=true:=fun h=>(of_decide_eq_true h).1 h3;rw[if_pos h3];simp only[if_neg k];refine⟨p,?_,fun _=>rfl,fun h=>by cases h⟩;simp only[tl7,dD0,dI,dN,sD3,tI,sI,dSl];rfl};rw[if_neg h3];by_cases h4:(nmD r).toS=[];{have k:¬nmOk r=true:=fun h=>(of_decide_eq_true h).2 h4;rw[if_pos h4];simp only[if_neg k];refine⟨p,?_,fun _=>rfl,fun h=>by cases h⟩;simp only[tl7,dD0,dI,dN,sD3,tI,sI,dSl];rfl};have k:nmOk r=true:=decide_eq_true ⟨h3,h4⟩;rw[if_neg h4,if_neg (by omega),if_neg (by omega),if_pos (by omega)];simp only[if_pos k];by_cases h5:(F0 11 (nmD r) (nmB r) (.int 64)).toI=0;{rw[if_pos h5];simp only[if_pos h5];refine⟨ea,?_,fun h=>absurd rfl h,fun _=>rfl⟩;simp only[tl7,dD0,dI,dN,sD3,tI,sI,sD1,sD2,dAp,dD3,h23,t22,t21,t20,sLn,tS,sWrap,sAp,dV0,dV3,dLit];rfl};rw[if_neg h5];simp only[if_neg h5];refine⟨p,?_,fun _=>rfl,fun h=>by cases h⟩;simp only[tl7,dD0,dI,dN,sD3,tI,sI,sD1,sD2,dAp,dD3,h23,t22,t21,t20,sLn,tS,sWrap,sAp,dV0,dV3,dLit];rfl
theorem sgn_le(s:List UInt8):sgn s≤s.length:=sgF_le _ _ _ _
theorem si_tr{d:Dat}{ea:Int}{p:Nat}(hl:d.toS.length<1000000000)(h1:p<d.toS.length):∃ea',
 si0.tr F0 6 [d,.int 0,.int ea,.int p]=(1,[d,.int (if sgn (d.toS.drop p)=0 then 10 else 0),.int ea',.int p,.int (sgn (d.toS.drop p):Int),.str ((d.toS.drop p).take (sgn (d.toS.drop p)))])∧(sgn (d.toS.drop p)=0→ea'=p)∧(sgn (d.toS.drop p)≠0→ea'=ea):=by
 have hle:=sgn_le (d.toS.drop p);rw[List.length_drop]at hle;have hs:d.toS.drop (p:Int).toNat=d.toS.drop p:=by rw[Int.toNat_natCast]
 simp only[si0,tr_ite,ev_lt,ev_eq,sAp,dAp,dD0,dD3,dI,sI,sLn,tI,tS,sD3,dDrop,f14,hs,sBin,tl6,dN,sD1,sD2,dTake];rw[if_neg (by omega),add_small (by omega) (by omega)];have ht:List.drop p (List.take ((p:Int)+(sgn (d.toS.drop p):Int)).toNat d.toS)=List.take (sgn (d.toS.drop p)) (d.toS.drop p):=by rw[show((p:Int)+(sgn (d.toS.drop p):Int)).toNat=p+sgn (d.toS.drop p) by omega,List.drop_take,Nat.add_sub_cancel_left]
 simp only[Int.toNat_natCast,ht];by_cases h:sgn (d.toS.drop p)=0;{rw[if_pos (by omega),if_neg (by omega),if_neg (by omega)];simp only[if_pos h];exact⟨p,rfl,fun _=>rfl,fun h2=>absurd h h2⟩};rw[if_neg (by omega),if_neg (by omega),if_neg (by omega)];simp only[if_neg h];exact⟨ea,rfl,fun h2=>absurd h2 h,fun _=>rfl⟩
end
end Go.Tw.LX
set_option linter.all false
namespace Go.Tw.LX
noncomputable section
structure TokV where
 k:Int
 z:Nat
 x:Dat
 n:Int
 b:List (List Dat)
def IsTok(w:Nat)(d:Dat)(p:Nat)(t:TokV):Prop:=
 ∀c,F0 w d (.int p) c=.int t.k∧F0 (w+1) d (.int p) c=.int t.z∧F0 (w+2) d (.int p) c=t.x∧F0 (w+3) d (.int p) c=.int t.n∧F0 (w+4) d (.int p) c=.lst t.b∧F0 (w+5) d (.int p) c=.int 0∧F0 (w+6) d (.int p) c=.int c.toI
def wOf(c:UInt8):Nat:=if letB c=true then 26 else if digB c=true then 40 else if c.toNat=39∨c.toNat=34 then 47 else 33
def Stop(t u:List UInt8):Prop:=u=[]∨(∃c r,u=c::r∧blk c=true)∨u.take 2=t.take 2
theorem blk_par{c:UInt8}(h:blk c=true):parB c=false:=by unfold blk at h;unfold parB digB letB;simp only[decide_eq_true_eq]at h;rw[Bool.or_eq_false_iff];exact⟨decide_eq_false (by omega),decide_eq_false (by omega)⟩
theorem tw_split(q:UInt8→Bool)(l:List UInt8):∃t,l=l.takeWhile q++t∧(t=[]∨∃c r,t=c::r∧q c=false):=by
 refine⟨l.dropWhile q,(List.takeWhile_append_dropWhile).symm,?_⟩
 induction l with
 |nil=>exact .inl rfl
 |cons a l ih=>rw[List.dropWhile_cons];split;{exact ih};rename_i h;exact .inr ⟨a,l,rfl,by simpa using h⟩
theorem tw_app{q:UInt8→Bool}{x u:List UInt8}(hx:∀c∈x,q c=true)(hu:u=[]∨∃c r,u=c::r∧q c=false):(x++u).takeWhile q=x:=by
 induction x with
 |nil=>rcases hu with rfl|⟨c,r,rfl,h⟩;{rfl};show List.takeWhile q (c::r)=[];rw[List.takeWhile_cons,h];rfl
 |cons a x ih=>show List.takeWhile q (a::(x++u))=_;rw[List.takeWhile_cons,hx a (List.mem_cons_self ..),ih fun c hc=>hx c (List.mem_cons_of_mem _ hc)];rfl
theorem tw_stop{s u x:List UInt8}(hx:x=s.takeWhile parB)(h:Stop (s.drop x.length) u):(x++u).takeWhile parB=x:=by
 refine tw_app (fun c hc=>tw_all parB s c (by rw[←hx];exact hc)) ?_;obtain⟨t,ht,ht2⟩:=tw_split parB s;rw[←hx]at ht;have hd:s.drop x.length=t:=by
  conv=>lhs;rw[ht]
  simp
 rw[hd]at h;rcases h with h|⟨c,r,h1,h2⟩|h;{exact .inl h};{exact .inr ⟨c,r,h1,blk_par h2⟩};rcases ht2 with rfl|⟨c,r,rfl,hc⟩
 ·cases u with
  |nil=>exact .inl rfl
  |cons a u=>cases h
 cases u with
 |nil=>exact .inl rfl
 |cons a u=>simp only[List.take_succ_cons]at h;injection h with h1 _;subst h1;exact .inr ⟨_,u,rfl,hc⟩
theorem sgns_short:((List.range 45).all fun j=>Nat.ble (celS sgns j).length 3&&(celS sgns j).all fun c=> !blk c)=true:=by decide+kernel
theorem sgns_at{j:Nat}(h:j<45):(celS sgns j).length≤3∧∀c∈celS sgns j,blk c=false:=by have:=List.all_eq_true.1 sgns_short j (List.mem_range.2 h);rw[ah,kU]at this;exact⟨Nat.le_of_ble_eq_true this.1,fun c hc=>by simpa using this.2 c hc⟩
theorem sgF_congr{l:Dat}{s s':List UInt8}:∀k i,(∀j,i≤j→j<i+k→(celS l j).isPrefixOf s=(celS l j).isPrefixOf s')→sgF l s k i=sgF l s' k i:=by
 intro k
 induction k with
 |zero=>intro i _;rfl
 |succ k ih=>intro i h;unfold sgF;rw[h i (aw _) (by omega),ih (i+1) fun j h1 h2=>h j (by omega) (by omega)]
theorem pre_eq{x s s':List UInt8}(h:x<+:s↔x<+:s'):x.isPrefixOf s=x.isPrefixOf s':=by rw[Bool.eq_iff_iff,List.isPrefixOf_iff_prefix,List.isPrefixOf_iff_prefix];exact h
theorem pre_take{y s s':List UInt8}{n:Nat}(hy:y.length≤n)(h:s.take n=s'.take n):y<+:s↔y<+:s':=by
 have key:∀{a b:List UInt8},a.take n=b.take n→y<+:a→y<+:b:=fun{a b} e hp=>by have:y<+:a.take n:=(by rw[List.prefix_take_iff];exact⟨hp,hy⟩);rw[e]at this;exact this.trans (List.take_prefix _ _)
 exact⟨key h,key h.symm⟩
theorem sgn_stop{s u:List UInt8}(h0:0<sgn s)(h:Stop (s.drop (sgn s)) u):sgn (s.take (sgn s)++u)=sgn s:=by
 have hle:=sgn_le s;have hx:(s.take (sgn s)).length=sgn s:=by rw[List.length_take];omega
 rcases h with rfl|⟨c,r,rfl,hc⟩|h;·rw[List.append_nil];exact sgF_take _ _ _ _ h0
 ·have e:sgn (s.take (sgn s)++c::r)=sgn (s.take (sgn s)):=by
   refine sgF_congr _ _ fun j _ hj=>pre_eq ⟨fun hp=> ?_,fun hp=>hp.trans (List.prefix_append _ _)⟩;by_cases hl:(celS sgns j).length≤(s.take (sgn s)).length;{exact List.prefix_of_prefix_length_le hp (List.prefix_append _ _) hl};exfalso;obtain⟨z,hz⟩:=hp;have e1:(celS sgns j++z)[(s.take (sgn s)).length]? =some c:=(by rw[hz];simp);rw[List.getElem?_append_left (by omega)]at e1;have:=(sgns_at (by omega:j<45)).2 c (dK e1);rw[this]at hc;cases hc
  rw[e];exact sgF_take _ _ _ _ h0
 refine sgF_congr _ _ fun j _ hj=>pre_eq (pre_take (n:=3) (sgns_at (by omega:j<45)).1 ?_);have e:s=s.take (sgn s)++s.drop (sgn s):=(List.take_append_drop _ _).symm
 conv=>rhs;rw[e]
 rw[List.take_append,List.take_append,hx];congr 1;have k:∀v:List UInt8,v.take (3 - sgn s)=(v.take 2).take (3 - sgn s):=fun v=>by rw[List.take_take,Nat.min_eq_left (by omega)]
 rw[k u,h,←k]
end
end Go.Tw.LX
set_option linter.all false
namespace Go.Tw.LX
noncomputable section
section
variable{d:Dat}{p:Nat}
theorem word_f(hl:d.toS.length<1000000000)(h1:p<d.toS.length){r:List UInt8}(hr:r=(d.toS.drop p).takeWhile parB):IsTok 26 d p ⟨wK r,r.length,.str r,0,[]⟩:=fun c=>by have e:=wd_tr (ea:=0) hl h1;have e2:=wd_tr (ea:=c.toI) hl h1;rw[←hr]at e e2;refine⟨?_,?_,?_,F0_29,F0_30,?_,?_⟩;{rw[F0_26];unfold spWd;rw[show Dat.int (Dat.int (p:Int)).toI=.int p from rfl,e];simp only[aL1,aL2,aL3,aL4,aL5,aL6,aL7,tI]};{rw[F0_27];unfold spWd;rw[show Dat.int (Dat.int (p:Int)).toI=.int p from rfl,e];simp only[aL1,aL2,aL3,aL4,aL5,aL6,aL7,tI]};{rw[F0_28];unfold spWd;rw[show Dat.int (Dat.int (p:Int)).toI=.int p from rfl,e];simp only[aL1,aL2,aL3,aL4,aL5,aL6,aL7,tI]};{rw[F0_31];unfold spWd;rw[show Dat.int (Dat.int (p:Int)).toI=.int p from rfl,e];simp only[aL1,aL2,aL3,aL4,aL5,aL6,aL7,tI]};rw[F0_32];unfold spWd;rw[show Dat.int (Dat.int (p:Int)).toI=.int p from rfl,e2];simp only[aL2,tI]
theorem num_f(hl:d.toS.length<1000000000)(h1:p<d.toS.length){r:List UInt8}(hr:r=(d.toS.drop p).takeWhile parB)(h2:1≤r.length):∀c,F0 40 d (.int p) c=.int 3∧F0 41 d (.int p) c=.int (nmZ r:Int)∧
 F0 42 d (.int p) c=nmX r∧F0 43 d (.int p) c=.int (nmN r)∧F0 44 d (.int p) c=.lst []∧F0 45 d (.int p) c=.int (nmE r)∧(nmE r≠0→F0 46 d (.int p) c=.int p)∧(nmE r=0→F0 46 d (.int p) c=.int c.toI):=fun c=>by
 obtain⟨ea',e,e2⟩:=nm_tr (ea:=0) hl h1 hr h2;obtain⟨ea2,e3,e4,e5⟩:=nm_tr (ea:=c.toI) hl h1 hr h2;refine⟨F0_40,?_,?_,?_,F0_44,?_,fun h=> ?_,fun h=> ?_⟩;{rw[F0_41];unfold spNm;rw[show Dat.int (Dat.int (p:Int)).toI=.int p from rfl,e];simp only[aL1,aL2,aL3,aL4,aL5,aL6,aL7,tI]};{rw[F0_42];unfold spNm;rw[show Dat.int (Dat.int (p:Int)).toI=.int p from rfl,e];simp only[aL1,aL2,aL3,aL4,aL5,aL6,aL7,tI]};{rw[F0_43];unfold spNm;rw[show Dat.int (Dat.int (p:Int)).toI=.int p from rfl,e];simp only[aL1,aL2,aL3,aL4,aL5,aL6,aL7,tI]};{rw[F0_45];unfold spNm;rw[show Dat.int (Dat.int (p:Int)).toI=.int p from rfl,e];simp only[aL1,aL2,aL3,aL4,aL5,aL6,aL7,tI]};{rw[F0_46];unfold spNm;rw[show Dat.int (Dat.int (p:Int)).toI=.int p from rfl,e3,e4 h];rfl};rw[F0_46];unfold spNm;rw[show Dat.int (Dat.int (p:Int)).toI=.int p from rfl,e3,e5 h];simp only[aL2,tI]
theorem sign_f(hl:d.toS.length<1000000000)(h1:p<d.toS.length):∀c,F0 33 d (.int p) c=.int 6∧F0 34 d (.int p) c=.int (sgn (d.toS.drop p):Int)∧
 F0 35 d (.int p) c=.str ((d.toS.drop p).take (sgn (d.toS.drop p)))∧F0 36 d (.int p) c=.int 0∧F0 37 d (.int p) c=.lst []∧F0 38 d (.int p) c=.int (if sgn (d.toS.drop p)=0 then 10 else 0)∧
 (sgn (d.toS.drop p)=0→F0 39 d (.int p) c=.int p)∧(sgn (d.toS.drop p)≠0→F0 39 d (.int p) c=.int c.toI):=fun c=>by
 obtain⟨ea',e,e2⟩:=si_tr (ea:=0) hl h1;obtain⟨ea2,e3,e4,e5⟩:=si_tr (ea:=c.toI) hl h1;refine⟨F0_33,?_,?_,F0_36,F0_37,?_,fun h=> ?_,fun h=> ?_⟩;{rw[F0_34];unfold spSi;rw[show Dat.int (Dat.int (p:Int)).toI=.int p from rfl,e];simp only[aL1,aL2,aL3,aL4,aL5,aL6,aL7,tI]};{rw[F0_35];unfold spSi;rw[show Dat.int (Dat.int (p:Int)).toI=.int p from rfl,e];simp only[aL1,aL2,aL3,aL4,aL5,aL6,aL7,tI]};{rw[F0_38];unfold spSi;rw[show Dat.int (Dat.int (p:Int)).toI=.int p from rfl,e];simp only[aL1,aL2,aL3,aL4,aL5,aL6,aL7,tI]};{rw[F0_39];unfold spSi;rw[show Dat.int (Dat.int (p:Int)).toI=.int p from rfl,e3,e4 h];rfl};rw[F0_39];unfold spSi;rw[show Dat.int (Dat.int (p:Int)).toI=.int p from rfl,e3,e5 h];simp only[aL2,tI]
theorem quo_f(hl:d.toS.length<1000000000)(h1:p<d.toS.length){n:Nat}{l:List (List Dat)}(h:Qt (atI d.toS p) (d.toS.drop (p+1)) n l)(h2:p+1+n<d.toS.length)(h3:atI d.toS (p+1+n)=atI d.toS p)
 (h4:qE (atI d.toS p) l=0):IsTok 47 d p ⟨qK (atI d.toS p) l,n+2,.str [],qN (atI d.toS p) l,qB (atI d.toS p) l⟩:=fun c=>by
 obtain⟨ea',y',e,_⟩:=qt_sp (ea:=0) hl h1 h h2 h3;obtain⟨ea2,y2,e2,e3⟩:=qt_sp (ea:=c.toI) hl h1 h h2 h3;rw[h4]at e;refine⟨?_,?_,F0_49,?_,?_,?_,?_⟩;{rw[F0_47,show Dat.int (Dat.int (p:Int)).toI=.int p from rfl,e];rfl};{rw[F0_48,show Dat.int (Dat.int (p:Int)).toI=.int p from rfl,e];rfl};{rw[F0_50,show Dat.int (Dat.int (p:Int)).toI=.int p from rfl,e];rfl};{rw[F0_51,show Dat.int (Dat.int (p:Int)).toI=.int p from rfl,e];rfl};{rw[F0_52,show Dat.int (Dat.int (p:Int)).toI=.int p from rfl,e];rfl};rw[F0_53,show Dat.int (Dat.int (p:Int)).toI=.int p from rfl,e2,e3 h4];simp only[aL2,tI]
theorem quo_or(hl:d.toS.length<1000000000)(h1:p<d.toS.length):(∃n l,Qt (atI d.toS p) (d.toS.drop (p+1)) n l∧p+1+n<d.toS.length∧atI d.toS (p+1+n)=atI d.toS p∧qE (atI d.toS p) l=0)∨
 (∀c,(F0 52 d (.int p) c).toI≠0∧∃a:Nat,F0 53 d (.int p) c=.int a∧a<d.toS.length):=by
 have key:∀ea:Int,(∃n l,Qt (atI d.toS p) (d.toS.drop (p+1)) n l∧p+1+n<d.toS.length∧atI d.toS (p+1+n)=atI d.toS p∧qE (atI d.toS p) l=0)∨
  ∃er:Int,er≠0∧∃a:Nat,a<d.toS.length∧aJ (spQu F0 [d,.int 0,.int ea,.int p]).2 1=.int er∧aJ (spQu F0 [d,.int 0,.int ea,.int p]).2 2=.int a:=fun ea=>by
  rcases qu_sp (ea:=ea) hl h1 with⟨n,l,ea',y',a1,a2,a3,a4,a5⟩|⟨er,ea',l,y',⟨b1,b2,b3⟩|⟨z,b1,b2,b3⟩⟩;{by_cases h:qE (atI d.toS p) l=0;{exact .inl ⟨n,l,a1,a2,a3,h⟩};refine .inr ⟨_,h,p,h1,by rw[a4];rfl,by rw[a4,a5 h];rfl⟩};{exact .inr ⟨er,by omega,ea',b2,by rw[b3];rfl,by rw[b3];rfl⟩};exact .inr ⟨er,by omega,ea',b3,by rw[b1];rfl,by rw[b1];rfl⟩
 by_cases h:∃n l,Qt (atI d.toS p) (d.toS.drop (p+1)) n l∧p+1+n<d.toS.length∧atI d.toS (p+1+n)=atI d.toS p∧qE (atI d.toS p) l=0;{exact .inl h};refine .inr fun c=>⟨?_,?_⟩;{obtain⟨er,a1,a,a2,a3,a4⟩:=(key 0).resolve_left h;rw[F0_52,show Dat.int (Dat.int (p:Int)).toI=.int p from rfl,a3];exact a1};obtain⟨er,a1,a,a2,a3,a4⟩:=(key c.toI).resolve_left h;exact⟨a,by rw[F0_53,show Dat.int (Dat.int (p:Int)).toI=.int p from rfl,a4];rfl,a2⟩
end
theorem tw_pos{d:Dat}{p:Nat}{c:UInt8}(hc:d.toS[p]? =some c)(hp:parB c=true):1≤((d.toS.drop p).takeWhile parB).length:=by obtain⟨h,he⟩:=List.getElem?_eq_some_iff.1 hc;rw[List.drop_eq_getElem_cons h,he,List.takeWhile_cons,hp];simp
theorem cut_at{d:Dat}{p:Nat}{x u:List UInt8}{c:UInt8}{r:List UInt8}(h:d.toS.drop p=x++u)(hx:x=c::r):p<d.toS.length∧d.toS[p]? =some c:=by
 have e:(d.toS.drop p)[0]? =some c:=by rw[h,hx];rfl
 rw[dV,Nat.add_zero]at e;exact⟨(List.getElem?_eq_some_iff.1 e).1,e⟩
theorem tok_loc{d:Dat}{p:Nat}{c:UInt8}(hl:d.toS.length<1000000000)(hc:d.toS[p]? =some c){c0:Dat}(he:(F0 (wOf c+5) d (.int p) c0).toI=0):
 ∃t:TokV,IsTok (wOf c) d p t∧1≤t.z∧p+t.z≤d.toS.length∧∀(d':Dat) (p':Nat) (u:List UInt8),d'.toS.length<1000000000→d'.toS.drop p'=(d.toS.drop p).take t.z++u→Stop (d.toS.drop (p+t.z)) u→IsTok (wOf c) d' p' t:=by
 have h1:=(List.getElem?_eq_some_iff.1 hc).1;obtain⟨r0,hr0⟩:∃r,d.toS.drop p=c::r:=⟨_,by rw[List.drop_eq_getElem_cons h1,(List.getElem?_eq_some_iff.1 hc).2]⟩;have hhead:∀z,1≤z→∃r,(d.toS.drop p).take z=c::r:=fun z hz=>by obtain⟨z',rfl⟩:∃z',z=z'+1:=⟨z - 1,by omega⟩;exact⟨_,by rw[hr0,List.take_succ_cons]⟩
 have hdl:(d.toS.drop p).length=d.toS.length - p:=List.length_drop;have hdd:∀z,(d.toS.drop p).drop z=d.toS.drop (p+z):=fun z=>List.drop_drop;have htake:(d.toS.drop p).take ((d.toS.drop p).takeWhile parB).length=(d.toS.drop p).takeWhile parB:=(List.prefix_iff_eq_take.1 (List.takeWhile_prefix parB)).symm;have hle:=tw_len parB (d.toS.drop p);unfold wOf at he⊢;by_cases hL:letB c=true;{simp only[if_pos hL]at he⊢;have hp:parB c=true:=(by unfold parB;rw[hL];simp);refine⟨_,word_f hl h1 rfl,tw_pos hc hp,by show p+((d.toS.drop p).takeWhile parB).length≤_;omega,fun d' p' u hl' hd hs=> ?_⟩;have hd:d'.toS.drop p'=(d.toS.drop p).takeWhile parB++u:=hd.trans (by rw[htake]);have hs:Stop ((d.toS.drop p).drop ((d.toS.drop p).takeWhile parB).length) u:=(by rw[hdd];exact hs);obtain⟨r,hr⟩:=hhead _ (tw_pos hc hp);exact word_f hl' (cut_at hd (by rw[←htake];exact hr)).1 (by rw[hd,tw_stop rfl hs])};simp only[if_neg hL]at he⊢;by_cases hD:digB c=true
 ·simp only[if_pos hD]at he⊢;have hp:parB c=true:=(by unfold parB;rw[hD];rfl);have h2:=tw_pos hc hp;have f:=num_f hl h1 rfl h2;have hE:nmE ((d.toS.drop p).takeWhile parB)=0:=by
   have:=(f c0).2.2.2.2.2.1;rw[this]at he;exact he
  have hO:nmOk ((d.toS.drop p).takeWhile parB)=true:=(by unfold nmE at hE;split at hE;{assumption};cases hE);have hZ:nmZ ((d.toS.drop p).takeWhile parB)=((d.toS.drop p).takeWhile parB).length:=(by unfold nmZ;rw[if_pos hO]);refine⟨⟨3,((d.toS.drop p).takeWhile parB).length,nmX ((d.toS.drop p).takeWhile parB),nmN ((d.toS.drop p).takeWhile parB),[]⟩,fun c1=> ?_,h2,by show p+((d.toS.drop p).takeWhile parB).length≤_;omega,fun d' p' u hl' hd hs=> ?_⟩;{obtain⟨a1,a2,a3,a4,a5,a6,_,a7⟩:=f c1;exact⟨a1,by rw[←hZ];exact a2,a3,a4,a5,by rw[←hE];exact a6,a7 hE⟩};have hd:d'.toS.drop p'=(d.toS.drop p).takeWhile parB++u:=hd.trans (by rw[htake]);have hs:Stop ((d.toS.drop p).drop ((d.toS.drop p).takeWhile parB).length) u:=(by rw[hdd];exact hs);obtain⟨r,hr⟩:=hhead _ h2;have f':=num_f hl' (cut_at hd (by rw[←htake];exact hr)).1 (r:=(d.toS.drop p).takeWhile parB) (by rw[hd,tw_stop rfl hs]) h2;intro c1;obtain⟨a1,a2,a3,a4,a5,a6,_,a7⟩:=f' c1;exact⟨a1,by rw[←hZ];exact a2,a3,a4,a5,by rw[←hE];exact a6,a7 hE⟩
 simp only[if_neg hD]at he⊢;by_cases hQ:c.toNat=39∨c.toNat=34
 ·simp only[if_pos hQ]at he⊢;rcases quo_or hl h1 with⟨n,l,a1,a2,a3,a4⟩|h
  ·refine⟨_,quo_f hl h1 a1 a2 a3 a4,by show 1≤n+2;omega,by show p+(n+2)≤_;omega,fun d' p' u hl' hd hs=> ?_⟩;have hd:d'.toS.drop p'=(d.toS.drop p).take (n+2)++u:=hd;obtain⟨r,hr⟩:=hhead (n+2) (by omega);obtain⟨b1,b2⟩:=cut_at hd hr;have hq:atI d'.toS p'=atI d.toS p:=(by rw[atI_some b2,atI_some hc]);have hlen:((d.toS.drop p).take (n+2)).length=n+2:=(by rw[List.length_take];omega);have hdl':(d'.toS.drop p').length=d'.toS.length - p':=List.length_drop;rw[hd,fG,hlen]at hdl';have hat:∀i,i<n+2→atI d'.toS (p'+i)=atI d.toS (p+i):=fun i hi=>by
    have e1:(d'.toS.drop p')[i]? =(d.toS.drop p)[i]? :=(by rw[hd,List.getElem?_append_left (by omega),List.getElem?_take,if_pos hi]);rw[dV,dV]at e1;unfold atI;rw[e1]
   have hdr:d'.toS.drop (p'+1)=(d.toS.drop (p+1)).take (n+1)++u:=(by have e1:d'.toS.drop (p'+1)=(d'.toS.drop p').drop 1:=(by rw[List.drop_drop]);rw[e1,hd,List.drop_append_of_le_length (by omega),List.drop_take,List.drop_drop];rfl);have hQt:Qt (atI d'.toS p') (d'.toS.drop (p'+1)) n l:=(by rw[hq,hdr];refine a1.same _ ?_;rw[List.take_append_of_le_length (by rw[List.length_take,List.length_drop];omega),List.take_take,Nat.min_eq_left (by omega)]);have:=quo_f hl' b1 hQt (by omega) (by rw[show p'+1+n=p'+(n+1) by omega,hat (n+1) (by omega),hq,←a3,show p+(n+1)=p+1+n by omega]) (by rw[hq];exact a4);rw[hq]at this;exact this
  exact absurd he (h c0).1
 simp only[if_neg hQ]at he⊢;have f:=sign_f hl h1;have hE:=(f c0).2.2.2.2.2.1;have h0:0<sgn (d.toS.drop p):=by rcases Nat.eq_zero_or_pos (sgn (d.toS.drop p))with h|h;{rw[hE,if_pos h]at he;cases he};exact h
 have hsl:=sgn_le (d.toS.drop p);refine⟨⟨6,sgn (d.toS.drop p),.str ((d.toS.drop p).take (sgn (d.toS.drop p))),0,[]⟩,fun c1=> ?_,h0,by show p+sgn (d.toS.drop p)≤_;omega,fun d' p' u hl' hd hs=> ?_⟩;{obtain⟨a1,a2,a3,a4,a5,a6,_,a7⟩:=f c1;exact⟨a1,a2,a3,a4,a5,by rw[a6,if_neg (by omega)],a7 (by omega)⟩};have hd:d'.toS.drop p'=(d.toS.drop p).take (sgn (d.toS.drop p))++u:=hd;have hs:Stop ((d.toS.drop p).drop (sgn (d.toS.drop p))) u:=by rw[hdd];exact hs
 obtain⟨r,hr⟩:=hhead _ h0;have f':=sign_f hl' (cut_at hd hr).1;have e:=sgn_stop h0 hs;rw[hd,e]at f';have e2:((d.toS.drop p).take (sgn (d.toS.drop p))++u).take (sgn (d.toS.drop p))=(d.toS.drop p).take (sgn (d.toS.drop p)):=by rw[List.take_append_of_le_length (by rw[List.length_take];omega),List.take_take,Nat.min_self]
 rw[e2]at f';intro c1;obtain⟨a1,a2,a3,a4,a5,a6,_,a7⟩:=f' c1;exact⟨a1,a2,a3,a4,a5,by rw[a6,if_neg (by omega)],a7 (by omega)⟩
end
end Go.Tw.LX
set_option linter.all false
namespace Go.Tw.LX
noncomputable section
theorem quo_any{d:Dat}{p:Nat}(hl:d.toS.length<1000000000)(h1:p<d.toS.length)(c:Dat):∃(z:Nat) (er:Int),F0 48 d (.int p) c=.int z∧p+z≤d.toS.length∧F0 52 d (.int p) c=.int er∧(er≠0→∃a:Nat,F0 53 d (.int p) c=.int a∧a<d.toS.length):=by
 have h53:∀ea:Int,∃(z:Nat) (er a:Int),aJ (spQu F0 [d,.int 0,.int ea,.int p]).2 5=.int z∧p+z≤d.toS.length∧aJ (spQu F0 [d,.int 0,.int ea,.int p]).2 1=.int er:=fun ea=>by rcases qu_sp (ea:=ea) hl h1 with⟨n,l,ea',y',a1,a2,a3,a4,a5⟩|⟨er,ea',l,y',⟨b1,b2,b3⟩|⟨z,b1,b2,b3⟩⟩;{exact⟨n+2,_,0,by rw[a4];rfl,by omega,by rw[a4];rfl⟩};{exact⟨0,_,0,by rw[b3];rfl,by omega,by rw[b3];rfl⟩};exact⟨0,_,0,by rw[b1];rfl,by omega,by rw[b1];rfl⟩
 obtain⟨z,er,a,h2,h3,h4⟩:=h53 0;refine⟨z,er,?_,h3,?_,fun h=> ?_⟩;{rw[F0_48,show Dat.int (Dat.int (p:Int)).toI=.int p from rfl,h2];rfl};{rw[F0_52,show Dat.int (Dat.int (p:Int)).toI=.int p from rfl,h4];rfl};rcases quo_or hl h1 with⟨n,l,a1,a2,a3,a4⟩|h5;{have:=(quo_f hl h1 a1 a2 a3 a4 c).2.2.2.2.2.1;rw[F0_52,show Dat.int (Dat.int (p:Int)).toI=.int p from rfl,h4]at this;injection this with this;exact absurd this h};exact(h5 c).2
theorem tok_any{d:Dat}{p:Nat}{c:UInt8}(hl:d.toS.length<1000000000)(hc:d.toS[p]? =some c)(c0:Dat):
 ∃(z:Nat) (er:Int),F0 (wOf c+1) d (.int p) c0=.int z∧p+z≤d.toS.length∧F0 (wOf c+5) d (.int p) c0=.int er∧(er≠0→∃a:Nat,F0 (wOf c+6) d (.int p) c0=.int a∧a<d.toS.length):=by
 have h1:=(List.getElem?_eq_some_iff.1 hc).1;have hle:=tw_len parB (d.toS.drop p);have hdl:(d.toS.drop p).length=d.toS.length - p:=List.length_drop;unfold wOf;by_cases hL:letB c=true;{simp only[if_pos hL];have f:=word_f hl h1 rfl c0;exact⟨_,0,f.2.1,by show p+((d.toS.drop p).takeWhile parB).length≤_;omega,f.2.2.2.2.2.1,fun h=>absurd rfl h⟩};simp only[if_neg hL];by_cases hD:digB c=true;{simp only[if_pos hD];have hp:parB c=true:=(by unfold parB;rw[hD];rfl);have f:=num_f hl h1 rfl (tw_pos hc hp) c0;refine⟨_,_,f.2.1,?_,f.2.2.2.2.2.1,fun h=>⟨p,f.2.2.2.2.2.2.1 h,h1⟩⟩;unfold nmZ;split<;>omega};simp only[if_neg hD];by_cases hQ:c.toNat=39∨c.toNat=34;{simp only[if_pos hQ];exact quo_any hl h1 c0};simp only[if_neg hQ];have f:=sign_f hl h1 c0;have hsl:=sgn_le (d.toS.drop p);refine⟨_,_,f.2.1,by omega,f.2.2.2.2.2.1,fun h=> ?_⟩;by_cases h0:sgn (d.toS.drop p)=0;{exact⟨p,f.2.2.2.2.2.2.1 h0,h1⟩};rw[if_neg h0]at h;exact absurd rfl h
theorem skip_f{d:Dat}(hl:d.toS.length<1000000000){p:Nat}(hp:p≤d.toS.length):∃n,Gap (d.toS.drop p) n∧
 ((gp (d.toS.drop (p+n))=0∧∀c,F0 15 d (.int p) c=.int ((p+n:Nat):Int)∧F0 16 d (.int p) c=.int 0∧F0 17 d (.int p) c=.int c.toI)∨
  (p+n<d.toS.length∧gp (d.toS.drop (p+n))<0∧∀c,F0 15 d (.int p) c=.int ((p+n:Nat):Int)∧F0 16 d (.int p) c=.int 4∧F0 17 d (.int p) c=.int ((p+n:Nat):Int))):=by
 obtain⟨n,g,h⟩:=sk_gap hl _ p (aw _) hp;refine⟨n,g,?_⟩;have hz:Dat.int (Dat.int (p:Int)).toI=.int p:=rfl;rcases h with⟨h0,e⟩|⟨h0,h2,e⟩;{refine .inl ⟨h0,fun c=>⟨?_,?_,?_⟩⟩;{rw[F0_15,hz,e];simp only[aL3,tI]};{rw[F0_16,hz,e];simp only[aL1,tI]};rw[F0_17,hz,e];simp only[aL2,tI]};refine .inr ⟨h2,h0,fun c=>⟨?_,?_,?_⟩⟩;{rw[F0_15,hz,e];simp only[aL3,tI]};{rw[F0_16,hz,e];simp only[aL1,tI]};rw[F0_17,hz,e];simp only[aL2,tI]
theorem gap_f{d:Dat}(hl:d.toS.length<1000000000){p n:Nat}(hp:p≤d.toS.length)(g:Gap (d.toS.drop p) n)(h:gp (d.toS.drop (p+n))=0):
 ∀c,F0 15 d (.int p) c=.int ((p+n:Nat):Int)∧F0 16 d (.int p) c=.int 0∧F0 17 d (.int p) c=.int c.toI:=fun c=>by
 have hz:Dat.int (Dat.int (p:Int)).toI=.int p:=rfl;refine⟨?_,?_,?_⟩;{rw[F0_15,hz,gap_sk hl g p _ hp rfl h];simp only[aL3,tI]};{rw[F0_16,hz,gap_sk hl g p _ hp rfl h];simp only[aL1,tI]};rw[F0_17,hz,gap_sk hl g p _ hp rfl h];simp only[aL2,tI]
end
end Go.Tw.LX
set_option linter.all false
namespace Go.Tw.LX
noncomputable section
def S9(d:Dat)(e ea:Int)(rows:List (List Dat))(y p:Int):List Dat:=[d,.int 0,.int 0,d,.int e,.int ea,.lst rows,.int y,.int p]
def S15(d:Dat)(w:Nat)(ea:Int)(rows:List (List Dat))(y p:Int):List Dat:=
 [d,.int 0,.int 0,d,.int (F0 (w+5) d (.int p) (.int 0)).toI,.int (F0 (w+6) d (.int p) (.int ea)).toI,.lst rows,.int y,.int p,.int (F0 w d (.int p) (.int 0)).toI,.int p,.int (F0 (w+1) d (.int p) (.int 0)).toI,
  F0 (w+2) d (.int p) (.int 0),.int (F0 (w+3) d (.int p) (.int 0)).toI,F0 (w+4) d (.int p) (.int 0)]
def SX(d:Dat)(e ea:Int)(rows:List (List Dat))(y:Int):List Dat:=[.int 0,.int 0,d,.int e,.int ea,.lst rows,.int y,.int 0,.int 0]
section
variable{d:Dat}{e ea y:Int}{rows:List (List Dat)}
theorem sc6_tr{p:Int}:sc6.tr F0 9 (S9 d e ea rows y p)=if p<d.toS.length∧e=0 then(0,S9 d e ea rows y p)else(2,SX d e ea rows y):=by unfold S9 SX;simp only[sc6,tr_ite,ev_lt,ev_eq,sD8,sLn,dD0,tI,sD4,sI];by_cases h1:p<d.toS.length;{by_cases h2:e=0;{rw[if_pos h1,if_pos h2,if_pos ⟨h1,h2⟩];rfl};rw[if_pos h1,if_neg h2,if_neg (fun h=>h2 h.2)];rfl};rw[if_neg h1,if_neg (fun h=>h1 h.1)];rfl
theorem sc7_tr{p:Nat}{c:UInt8}(hl:d.toS.length<1000000000)(hc:d.toS[p]? =some c):sc7.tr F0 15 (S9 d 0 ea rows y p)=(0,S15 d (wOf c) ea rows y p):=by
 unfold S9;have hat:∀z,atI d.toS (Dat.int (p:Int)).toI.toNat=z↔(c.toNat:Int)=z:=fun z=>by rw[show(Dat.int (p:Int)).toI.toNat=p from Int.toNat_natCast p,atI_some hc]
 have e7:(F0 7 (.int (atI d.toS (Dat.int (p:Int)).toI.toNat)) (.int 0) (.int 0)).toI=dF (letB c):=by rw[show(Dat.int (p:Int)).toI.toNat=p from Int.toNat_natCast p,atI_some hc,show Dat.int (c.toNat:Int)=u8D c from rfl,f7];rfl
 have e8:(F0 8 (.int (atI d.toS (Dat.int (p:Int)).toI.toNat)) (.int 0) (.int 0)).toI=dF (digB c):=by rw[show(Dat.int (p:Int)).toI.toNat=p from Int.toNat_natCast p,atI_some hc,show Dat.int (c.toNat:Int)=u8D c from rfl,f8];rfl
 have hlt:(d.toS.length:Int)<1000000000:=by omega
 simp only[sc7,tr_ite,ev_lt,ev_eq,sAp,dAt,sAt,dD3,sD8,dI,sI,e7,e8,hat,sLn];simp only[if_pos hlt];cases hL:letB c with
 |true=>have hw:wOf c=26:=(by unfold wOf;rw[hL];rfl);rw[if_neg (show ¬dF true=0 by decide),hw];unfold S15;simp only[tl15,dN,dI,sI,dD0,dD3,dD5,dD6,dD7,dD8,sD1,sD2,sD8,sAp,dAp,tI,Nat.reduceAdd];rfl
 |false=>
  rw[if_pos (show dF false=0 from rfl)];cases hD:digB c with
  |true=>have hw:wOf c=40:=(by unfold wOf;rw[hL,hD];rfl);rw[if_neg (show ¬dF true=0 by decide),hw];unfold S15;simp only[tl15,dN,dI,sI,dD0,dD3,dD5,dD6,dD7,dD8,sD1,sD2,sD8,sAp,dAp,tI,Nat.reduceAdd];rfl
  |false=>
   rw[if_pos (show dF false=0 from rfl)];have hw:wOf c=if c.toNat=39∨c.toNat=34 then 47 else 33:=by unfold wOf;rw[hL,hD];rfl
   by_cases h1:c.toNat=39;{rw[if_pos (by omega),hw,if_pos (Or.inl h1)];unfold S15;simp only[tl15,dN,dI,sI,dD0,dD3,dD5,dD6,dD7,dD8,sD1,sD2,sD8,sAp,dAp,tI,Nat.reduceAdd];rfl};rw[if_neg (by omega)];by_cases h2:c.toNat=34;{rw[if_pos (by omega),hw,if_pos (Or.inr h2)];unfold S15;simp only[tl15,dN,dI,sI,dD0,dD3,dD5,dD6,dD7,dD8,sD1,sD2,sD8,sAp,dAp,tI,Nat.reduceAdd];rfl};rw[if_neg (by omega),hw,if_neg (fun h=>h.elim h1 h2)];unfold S15;simp only[tl15,dN,dI,sI,dD0,dD3,dD5,dD6,dD7,dD8,sD1,sD2,sD8,sAp,dAp,tI,Nat.reduceAdd];rfl
def rowW(d:Dat)(w:Nat)(p:Nat):List Dat:=[.int (F0 w d (.int p) (.int 0)).toI,.int p,.int (F0 (w+1) d (.int p) (.int 0)).toI,F0 (w+2) d (.int p) (.int 0),.int (F0 (w+3) d (.int p) (.int 0)).toI,F0 (w+4) d (.int p) (.int 0)]
theorem sc8_tr{p w z:Nat}(hl:d.toS.length<1000000000)(hr:rows.length<1000000001)(hz:F0 (w+1) d (.int p) (.int 0)=.int z)(hp:p+z≤d.toS.length):sc8.tr F0 9 (S15 d w ea rows y p)=
 (0,if(F0 (w+5) d (.int p) (.int 0)).toI=0 then S9 d (F0 16 d (.int ((p+z:Nat):Int)) (.int 0)).toI (F0 17 d (.int ((p+z:Nat):Int)) (.int (F0 (w+6) d (.int p) (.int ea)).toI)).toI (rows++[rowW d w p]) 1 (F0 15 d (.int ((p+z:Nat):Int)) (.int 0)).toI
   else S9 d (F0 (w+5) d (.int p) (.int 0)).toI (F0 (w+6) d (.int p) (.int ea)).toI (rows++[rowW d w p]) 1 p):=by
 have hadd:aS .add .i64 (p:Int) (z:Int)=((p+z:Nat):Int):=by rw[add_small (by omega) (by omega)];omega
 unfold S15 rowW;rw[hz];simp only[sc8,tr_ite,ev_lt,ev_eq,sL,sI,sD4,sBin,sD8,sD11,sLn,tI,tl9,dD0,dD1,dD2,dD3,dD4,dD5,dD6,dD7,dD8,dD9,dD10,dD11,dD12,dD13,dD14,dN,dI,sD1,sD2,sAp,dAp,dBin,tL,sD5,dJ,d12,d14,dO,Dat.one,hadd];rw[if_pos (by omega)];by_cases h:(F0 (w+5) d (.int p) (.int 0)).toI=0;{rw[if_pos h,if_neg (by omega),if_pos (by omega),if_pos h];rfl};rw[if_neg h,if_neg h];rfl
end
def scBody:fA:=aD (sc6.tr F0 9) (ie 1 (aD (sc7.tr F0 15) (sc8.tr F0 9)))
section
variable{d:Dat}{e ea y:Int}{rows:List (List Dat)}
theorem body_end{p:Int}(h:¬(p<d.toS.length∧e=0)):scBody (S9 d e ea rows y p)=(2,SX d e ea rows y):=by unfold scBody;rw[bind_no (by rw[sc6_tr,if_neg h]) (by simp)]
theorem body_on{p z:Nat}{c:UInt8}(hl:d.toS.length<1000000000)(hr:rows.length<1000000001)(hc:d.toS[p]? =some c)(hz:F0 (wOf c+1) d (.int p) (.int 0)=.int z)(hp:p+z≤d.toS.length):scBody (S9 d 0 ea rows y p)=
 (0,if(F0 (wOf c+5) d (.int p) (.int 0)).toI=0 then S9 d (F0 16 d (.int ((p+z:Nat):Int)) (.int 0)).toI (F0 17 d (.int ((p+z:Nat):Int)) (.int (F0 (wOf c+6) d (.int p) (.int ea)).toI)).toI (rows++[rowW d (wOf c) p]) 1 (F0 15 d (.int ((p+z:Nat):Int)) (.int 0)).toI
   else S9 d (F0 (wOf c+5) d (.int p) (.int 0)).toI (F0 (wOf c+6) d (.int p) (.int ea)).toI (rows++[rowW d (wOf c) p]) 1 p):=by
 have h1:=(List.getElem?_eq_some_iff.1 hc).1;unfold scBody;rw[bind_go (by rw[sc6_tr,if_pos ⟨by omega,rfl⟩])];have e2:aD (sc7.tr F0 15) (sc8.tr F0 9) (S9 d 0 ea rows y p)=_:=(bind_go (sc7_tr hl hc)).trans (sc8_tr hl hr hz hp);rw[unX_ne e2 (by simp)]
end
end
end Go.Tw.LX
set_option linter.all false
namespace Go.Tw.LX
noncomputable section
def rowT(p:Nat)(t:TokV):List Dat:=[.int t.k,.int p,.int t.z,t.x,.int t.n,.lst t.b]
theorem rowW_T{d:Dat}{w p:Nat}{t:TokV}(h:IsTok w d p t):rowW d w p=rowT p t:=by obtain⟨a1,a2,a3,a4,a5,_,_⟩:=h (.int 0);unfold rowW rowT;rw[a1,a2,a3,a4,a5];rfl
inductive Ch (d:Dat):Nat→List (List Dat)→Prop
 |nil {e:Nat} (h:e≤d.toS.length) (g:Gap (d.toS.drop e) (d.toS.length - e)):Ch d e []
 |cons {e n:Nat} {t:TokV} {c:UInt8} {l:List (List Dat)} (g:Gap (d.toS.drop e) n) (h0:gp (d.toS.drop (e+n))=0) (hc:d.toS[e+n]? =some c) (ht:IsTok (wOf c) d (e+n) t) (hz:1≤t.z)
  (hb:e+n+t.z≤d.toS.length) (k:Ch d (e+n+t.z) l):Ch d e (rowT (e+n) t::l)
def JSc(s:List Dat):Prop:=∃d e ea rows y,∃p:Nat,s=S9 d e ea rows y p∧p≤d.toS.length∧(e=0→rows.length≤p)∧d.toS.length<1000000000
theorem tok_size{d:Dat}{p z:Nat}{c:UInt8}(hl:d.toS.length<1000000000)(hc:d.toS[p]? =some c)(hz:F0 (wOf c+1) d (.int p) (.int 0)=.int z)(he:(F0 (wOf c+5) d (.int p) (.int 0)).toI=0):1≤z:=by obtain⟨t,h1,h2,_⟩:=tok_loc hl hc he;have:=(h1 (.int 0)).2.1;rw[hz]at this;injection this with this;omega
theorem body_cases{d:Dat}{e ea y:Int}{rows:List (List Dat)}{p:Nat}(hl:d.toS.length<1000000000)(hr:e=0→rows.length≤p)(hp:p≤d.toS.length):
 scBody (S9 d e ea rows y p)=(2,SX d e ea rows y)∨(e=0∧∃e' ea' row,∃p':Nat,scBody (S9 d e ea rows y p)=(0,S9 d e' ea' (rows++[row]) 1 p')∧p'≤d.toS.length∧(e'=0→p+1≤p')∧(p+1≤p'∨(p'=p∧e'≠0))):=by
 by_cases h:(p:Int)<d.toS.length∧e=0
 ·refine .inr ⟨h.2,?_⟩;obtain⟨h1,rfl⟩:=h;obtain⟨c,r,_,hc⟩:=headE (l:=d.toS) (n:=p) (by omega);obtain⟨z,er,z1,z2,z3,z4⟩:=tok_any hl hc (.int 0);have e1:=body_on (ea:=ea) (y:=y) (rows:=rows) hl (by have:=hr rfl;omega) hc z1 z2;by_cases h2:(F0 (wOf c+5) d (.int p) (.int 0)).toI=0
  ·rw[if_pos h2]at e1;have hz:=tok_size hl hc z1 h2;obtain⟨n,g,hs⟩:=skip_f hl z2;have gle:=g.le;rw[List.length_drop]at gle;have h15:F0 15 d (.int ((p+z:Nat):Int)) (.int 0)=.int ((p+z+n:Nat):Int):=by
    rcases hs with⟨_,hs⟩|⟨_,_,hs⟩;{exact(hs _).1};exact(hs _).1
   rw[h15]at e1;exact⟨_,_,_,p+z+n,e1,by omega,fun _=>by omega,.inl (by omega)⟩
  rw[if_neg h2]at e1;exact⟨_,_,_,p,e1,hp,fun h=>absurd h h2,.inr ⟨rfl,h2⟩⟩
 exact .inl (body_end h)
theorem sc_mea:vt JSc muSc scBody:=fun s hs h0=>by obtain⟨d,e,ea,rows,y,p,rfl,h1,h2,h3⟩:=hs;rcases body_cases (ea:=ea) (y:=y) h3 h2 h1 with k|⟨k0,e',ea',row,p',k,k1,k2,k3⟩;{rw[k]at h0;cases h0};rw[k];subst k0;refine⟨⟨d,e',ea',_,1,p',rfl,k1,fun h=> ?_,h3⟩,?_⟩;{have:=k2 h;have:=h2 rfl;simp only[fG,List.length_cons,List.length_nil];omega};show 2*(d.toS.length - (p':Int).toNat)+(if e'=0 then 1 else 0)<2*(d.toS.length - (p:Int).toNat)+(if(0:Int)=0 then 1 else 0);rw[if_pos rfl];rcases k3 with k3|⟨k3,k4⟩;{split<;>omega};rw[if_neg k4];omega
def SK(d:Dat)(rows:List (List Dat))(y:Int)(e:Nat):List Dat:=S9 d (F0 16 d (.int e) (.int 0)).toI (F0 17 d (.int e) (.int 0)).toI rows y (F0 15 d (.int e) (.int 0)).toI
theorem SK_ok{d:Dat}(hl:d.toS.length<1000000000){rows:List (List Dat)}{y:Int}{e n:Nat}(he:e≤d.toS.length)(g:Gap (d.toS.drop e) n)(h0:gp (d.toS.drop (e+n))=0):SK d rows y e=S9 d 0 0 rows y ((e+n:Nat):Int):=by obtain⟨a,b,c⟩:=gap_f hl he g h0 (.int 0);unfold SK;rw[a,b,c];rfl
theorem body_tok{d:Dat}(hl:d.toS.length<1000000000){rows:List (List Dat)}{y:Int}{p:Nat}{c:UInt8}{t:TokV}(hr:rows.length≤p)(hc:d.toS[p]? =some c)(ht:IsTok (wOf c) d p t)(hb:p+t.z≤d.toS.length):
 scBody (S9 d 0 0 rows y p)=(0,SK d (rows++[rowT p t]) 1 (p+t.z)):=by
 have h1:=(List.getElem?_eq_some_iff.1 hc).1;have e:=body_on (ea:=0) (y:=y) (rows:=rows) hl (by omega) hc (ht (.int 0)).2.1 hb;rw[e,rowW_T ht,if_pos (by rw[(ht (.int 0)).2.2.2.2.2.1];rfl),(ht (.int 0)).2.2.2.2.2.2];rfl
theorem ch_run{d:Dat}(hl:d.toS.length<1000000000){e:Nat}{l:List (List Dat)}(h:Ch d e l):∀(rows:List (List Dat)) (y:Int),rows.length≤e→e≤d.toS.length→∃y',fD scBody muSc (SK d rows y e)=(2,SX d 0 0 (rows++l) y'):=by
 induction h with
 |@nil e h g=>intro rows y hr he;have h0:gp (d.toS.drop (e+(d.toS.length - e)))=0:=(by rw[show e+(d.toS.length - e)=d.toS.length by omega,List.drop_length];rfl);rw[SK_ok hl he g h0];have b:=body_end (d:=d) (e:=0) (ea:=0) (y:=y) (rows:=rows) (p:=((e+(d.toS.length - e):Nat):Int)) (fun k=>by omega);exact⟨y,by rw[cy (by rw[b];simp),b,List.append_nil]⟩
 |@cons e n t c l g h0 hc ht hz hb k ih=>intro rows y hr he;rw[SK_ok hl he g h0];have b:=body_tok (y:=y) (rows:=rows) hl (by omega) hc ht hb;have h1:=(List.getElem?_eq_some_iff.1 hc).1;rw[iw sc_mea ⟨d,0,0,rows,y,e+n,rfl,by omega,fun _=>by omega,hl⟩ (by rw[b]),b];obtain⟨y',h2⟩:=ih (rows++[rowT (e+n) t]) 1 (by simp only[fG,List.length_cons,List.length_nil];omega) hb;exact⟨y',by rw[h2,List.append_assoc];rfl⟩
theorem sc_run{d:Dat}(hl:d.toS.length<1000000000):∀(m e:Nat) (rows:List (List Dat)) (y:Int),d.toS.length - e≤m→rows.length≤e→e≤d.toS.length→∃L y',∃er ea:Int,fD scBody muSc (SK d rows y e)=(2,SX d er ea L y')∧
 ((er=0∧ea=0∧∃l,L=rows++l∧Ch d e l)∨(er≠0∧0≤ea∧ea<d.toS.length)):=by
 intro m
 induction m with
 |zero=>intro e rows y hm hr he;have hz:d.toS.length - e=0:=(by omega);have hn:Ch d e []:=.nil he (by rw[hz];exact .nil _);obtain⟨y',h⟩:=ch_run hl hn rows y hr he;exact⟨_,y',0,0,h,.inl ⟨rfl,rfl,[],rfl,hn⟩⟩
 |succ m ih=>intro e rows y hm hr he;obtain⟨n,g,h|⟨h1,h2,h3⟩⟩:=skip_f hl he;{have gle:=g.le;rw[List.length_drop]at gle;by_cases hlt:e+n<d.toS.length;{obtain⟨c,r,_,hc⟩:=headE hlt;by_cases h2:(F0 (wOf c+5) d (.int ((e+n:Nat):Int)) (.int 0)).toI=0;{obtain⟨t,t1,t2,t3,_⟩:=tok_loc hl hc h2;rw[SK_ok hl he g h.1];have b:=body_tok (y:=y) (rows:=rows) hl (by omega) hc t1 t3;rw[iw sc_mea ⟨d,0,0,rows,y,e+n,rfl,by omega,fun _=>by omega,hl⟩ (by rw[b]),b];obtain⟨L,y',er,ea,k1,k2⟩:=ih (e+n+t.z) (rows++[rowT (e+n) t]) 1 (by omega) (by simp only[fG,List.length_cons,List.length_nil];omega) t3;refine⟨L,y',er,ea,k1,?_⟩;rcases k2 with⟨k3,k4,l,rfl,k5⟩|k2;{exact .inl ⟨k3,k4,_,by rw[List.append_assoc];rfl,.cons g h.1 hc t1 t2 t3 k5⟩};exact .inr k2};rw[SK_ok hl he g h.1];obtain⟨z,er,z1,z2,z3,z4⟩:=tok_any hl hc (.int 0);obtain⟨a,a1,a2⟩:=z4 (by rw[z3]at h2;exact h2);have b:=body_on (ea:=0) (y:=y) (rows:=rows) hl (by omega) hc z1 z2;rw[if_neg h2,z3,a1]at b;have b:scBody (S9 d 0 0 rows y ((e+n:Nat):Int))=(0,S9 d er a (rows++[rowW d (wOf c) (e+n)]) 1 ((e+n:Nat):Int)):=b;have her:er≠0:=(by rw[z3]at h2;exact h2);rw[iw sc_mea ⟨d,0,0,rows,y,e+n,rfl,by omega,fun _=>by omega,hl⟩ (by rw[b]),b];have b2:=body_end (d:=d) (e:=er) (ea:=a) (y:=1) (rows:=rows++[rowW d (wOf c) (e+n)]) (p:=((e+n:Nat):Int)) (fun k=>her k.2);exact⟨_,1,er,a,by rw[cy (by rw[b2];simp),b2],.inr ⟨her,by omega,by omega⟩⟩};have hn:Ch d e []:=.nil he (by rw[show d.toS.length - e=n by omega];exact g);obtain⟨y',h⟩:=ch_run hl hn rows y hr he;exact⟨_,y',0,0,h,.inl ⟨rfl,rfl,[],rfl,hn⟩⟩};obtain⟨a1,a2,a3⟩:=h3 (.int 0);have e1:SK d rows y e=S9 d 4 ((e+n:Nat):Int) rows y ((e+n:Nat):Int):=(by unfold SK;rw[a1,a2,a3];rfl);rw[e1];have b2:=body_end (d:=d) (e:=4) (ea:=((e+n:Nat):Int)) (y:=y) (rows:=rows) (p:=((e+n:Nat):Int)) (fun k=>by cases k.2);exact⟨_,y,4,_,by rw[cy (by rw[b2];simp),b2],.inr ⟨by decide,by omega,by omega⟩⟩
theorem sc_start{d:Dat}(h4:d.toS.length<4001):spSc F0 [d]=aD (ie 0 (fD scBody muSc)) (sc10.tr F0 4) (SK d [] 0 0):=by
 unfold spSc;rw[bind_go (f:=sc0.tr F0 3) (s':=[d,.int 0,.int 0]) rfl];have e1:sc1.tr F0 4 [d,.int 0,.int 0]=(0,[d,.int 0,.int 0,.int 0]):=by rw[show sc1=.ask (lt (.pr 0 (D 0) (I 0)) (I 4001)) (.leaf [(I 0),(D 0),(N (D 1)),(N (D 2)),(I 0)]) (.leaf [(I 1),O,(I 0),(I 3),(I 4000)])from rfl,Bg (ltT (by show(d.toS.length:Int)<4001;omega))];rfl
 rw[bind_go e1,bind_go (f:=sc2.tr F0 4) (s':=[d,.int 0,.int 0,d]) rfl,bind_go (f:=sc3.tr F0 6) (s':=[d,.int 0,.int 0,d,.lst [],.int 0]) rfl];have e4:sc4.tr F0 9 [d,.int 0,.int 0,d,.lst [],.int 0]=(0,SK d [] 0 0):=by unfold SK S9;simp only[sc4,tr_ite,ev_lt,sLn,dD3,sI];rw[if_pos (by omega)];rfl
 have e5:aD (sc4.tr F0 9) (ie 0 (fD (aD (sc6.tr F0 9) (ie 1 (aD (sc7.tr F0 15) (sc8.tr F0 9)))) muSc)) [d,.int 0,.int 0,d,.lst [],.int 0]=ie 0 (fD scBody muSc) (SK d [] 0 0):=bind_go e4;unfold aD at e5⊢;rw[e5]
theorem sc10_tr{d:Dat}{e ea y:Int}{rows:List (List Dat)}:sc10.tr F0 4 (SX d e ea rows y)=if e=0 then(1,[.lst rows,.int y,.int e,.int ea])else(1,[.lst [],.int 0,.int e,.int ea]):=by unfold SX;simp only[sc10,tr_ite,ev_eq,sD3,tI,sI];split<;>rfl
theorem scan_f{d:Dat}(h4:d.toS.length<4001):∃L er ea,(∀b c,F0 54 d b c=.lst L∧F0 55 d b c=.int er∧F0 56 d b c=.int ea)∧((er=0∧ea=0∧Ch d 0 L)∨(er≠0∧0≤ea∧ea<d.toS.length∧L=[])):=by
 obtain⟨L,y',er,ea,h1,h2⟩:=sc_run (d:=d) (by omega) _ 0 [] 0 (aw _) (by simp) (by omega);have hs:spSc F0 [d]=if er=0 then(1,[.lst L,.int y',.int er,.int ea])else(1,[.lst [],.int 0,.int er,.int ea]):=by rw[sc_start h4,bind_go (unX_at h1),sc10_tr]
 by_cases he:er=0;{rw[if_pos he]at hs;refine⟨L,er,ea,fun b c=>⟨?_,?_,?_⟩,?_⟩;{rw[F0_54,hs];rfl};{rw[F0_55,hs];rfl};{rw[F0_56,hs];rfl};rcases h2 with⟨k1,k2,l,rfl,k3⟩|⟨k1,_⟩;{exact .inl ⟨k1,k2,k3⟩};exact absurd he k1};rw[if_neg he]at hs;refine⟨[],er,ea,fun b c=>⟨?_,?_,?_⟩,?_⟩;{rw[F0_54,hs];rfl};{rw[F0_55,hs];rfl};{rw[F0_56,hs];rfl};rcases h2 with⟨k1,_⟩|⟨k1,k2,k3⟩;{exact absurd k1 he};exact .inr ⟨k1,k2,k3,rfl⟩
theorem scan_of{d:Dat}{l:List (List Dat)}(h4:d.toS.length<4001)(h:Ch d 0 l)(b c:Dat):F0 54 d b c=.lst l∧F0 55 d b c=.int 0∧F0 56 d b c=.int 0:=by
 obtain⟨y',h1⟩:=ch_run (by omega) h [] 0 (by simp) (by omega);have hs:spSc F0 [d]=(1,[.lst l,.int y',.int 0,.int 0]):=by rw[sc_start h4,bind_go (unX_at h1),sc10_tr];rfl
 refine⟨?_,?_,?_⟩;{rw[F0_54,hs];rfl};{rw[F0_55,hs];rfl};rw[F0_56,hs];rfl
end
end Go.Tw.LX
set_option linter.all false
namespace Go.Tw.LX
noncomputable section
theorem idxL_take(x:List UInt8):∀(l:List UInt8) (n k:Nat),0≤idxL x l n→idxL x l n+x.length≤n+k→idxL x (l.take k) n=idxL x l n:=by
 intro l
 induction l with
 |nil=>intro n k _ _;rw[List.take_nil]
 |cons c l ih=>
  intro n k h1 h2;by_cases hp:x.isPrefixOf (c::l)=true
  ·have e:idxL x (c::l) n=n:=(by unfold idxL;rw[if_pos hp]);rw[e]at h2⊢;have hx:x<+:(c::l).take k:=by
    rw[List.prefix_take_iff];exact⟨List.isPrefixOf_iff_prefix.1 hp,by omega⟩
   cases hk:(c::l).take k with
   |nil=>rw[hk]at hx;have:x=[]:=List.prefix_nil.1 hx;subst this;rfl
   |cons a m=>rw[hk]at hx;unfold idxL;rw[if_pos (List.isPrefixOf_iff_prefix.2 hx)]
  have e:idxL x (c::l) n=idxL x l (n+1):=by
   conv=>lhs;unfold idxL
   rw[if_neg hp]
  rw[e]at h1 h2⊢;have hb:=idxL_bd x l (n+1);obtain⟨k',rfl⟩:∃k',k=k'+1:=⟨k - 1,by omega⟩;rw[List.take_succ_cons];have hp':¬x.isPrefixOf (c::l.take k')=true:=fun h=>hp (List.isPrefixOf_iff_prefix.2 ((List.isPrefixOf_iff_prefix.1 h).trans (by rw[←List.take_succ_cons];exact List.take_prefix _ _)))
  conv=>lhs;unfold idxL
  rw[if_neg hp'];exact ih (n+1) k' h1 (by omega)
theorem fnd_take{r:List UInt8}{c:UInt8}{m:Nat}(h:0≤fndI (au r c))(hm:fndI (au r c)<m):fndI (au (r.take m) c)=fndI (au r c):=by
 cases hf:au r c with
 |none=>rw[hf]at h;exact absurd h (by decide)
 |some i=>rw[hf]at hm;have hm:(i:Int)<m:=hm;rw[findByteA_eq]at hf;obtain⟨h1,h2,h3⟩:=List.findIdx?_eq_some_iff_getElem.1 hf;have:au (r.take m) c=some i:=(by rw[findByteA_eq];refine List.findIdx?_eq_some_iff_getElem.2 ⟨by rw[List.length_take];omega,by rw[List.getElem_take];exact h2,fun j hj=>by rw[List.getElem_take];exact h3 j hj⟩);rw[this]
theorem fnd_short{r:List UInt8}{c:UInt8}{m:Nat}(hm:fndI (au r c)=m):fndI (au (r.take m) c)= -1:=by
 cases hf:au r c with
 |none=>rw[hf]at hm;have hm:(-1:Int)=m:=hm;omega
 |some i=>rw[hf]at hm;have hm:(i:Int)=m:=hm;rw[findByteA_eq]at hf;obtain⟨h1,h2,h3⟩:=List.findIdx?_eq_some_iff_getElem.1 hf;have:au (r.take m) c=none:=(by rw[findByteA_eq,List.findIdx?_eq_none_iff];intro x hx;obtain⟨j,hj,rfl⟩:=List.getElem_of_mem hx;rw[List.length_take]at hj;rw[List.getElem_take];have:=h3 j (by omega);simpa using this);rw[this];rfl
theorem gp_two{c:UInt8}{r:List UInt8}(hb:¬blk c=true)(h:0<gp (c::r)):2≤gp (c::r)∧2≤(c::r).length:=by
 rw[gp_cons,if_neg hb]at h⊢;have hlen:∀a b:UInt8,(c::r).take 2=[a,b]→2≤(c::r).length:=fun a b h=>by have:=congrArg List.length h;rw[List.length_take]at this;simp only[List.length_cons,List.length_nil]at this⊢;omega
 by_cases h3:(c::r).take 2=[47,47]
 ·rw[if_pos h3]at h⊢;refine⟨?_,hlen _ _ h3⟩;have hl:=hlen _ _ h3;split;{omega};rename_i h5;rw[if_neg h5]at h;cases hf:au (c::r) 10 with
  |none=>rw[hf]at h5;exact absurd (by decide) h5
  |some i=>rw[hf]at h;have h:(0:Int)<i:=h;show(2:Int)≤i;rw[findByteA_eq]at hf;obtain⟨h6,h7,_⟩:=List.findIdx?_eq_some_iff_getElem.1 hf;rcases aK i 2 with h8|h8;{exfalso;have h9:i=1:=(by omega);subst h9;have e:((c::r).take 2)[1]? =(c::r)[1]? :=(by rw[List.getElem?_take];rfl);rw[h3,bn h6]at e;have e:(some 47:Option UInt8)=some (c::r)[1]:=e;rw[←Option.some.inj e]at h7;exact absurd h7 (by decide)};omega
 rw[if_neg h3]at h⊢;by_cases h4:(c::r).take 2=[47,42];{rw[if_pos h4]at h⊢;refine⟨?_,hlen _ _ h4⟩;split;{rename_i h5;rw[if_pos h5]at h;omega};omega};rw[if_neg h4]at h;omega
theorem take2{r:List UInt8}{m:Nat}(h:2≤m):(r.take m).take 2=r.take 2:=by rw[List.take_take,Nat.min_eq_left h]
theorem gp_take{r:List UInt8}{m:Nat}(h:0<gp r)(hm:gp r≤m):gp (r.take m)=gp r:=by
 cases r with
 |nil=>cases h
 |cons c r=>have hle:=@gp_le (c::r);obtain⟨m',rfl⟩:∃m',m=m'+1:=⟨m - 1,by omega⟩;by_cases hb:blk c=true;{rw[List.take_succ_cons,gp_cons,gp_cons,if_pos hb,if_pos hb]};obtain⟨h1,h2⟩:=gp_two hb h;have ht:((c::r).take (m'+1)).take 2=(c::r).take 2:=take2 (by omega);have hcons:(c::r).take (m'+1)=c::r.take m':=List.take_succ_cons;rw[hcons]at ht⊢;rw[gp_cons,gp_cons,if_neg hb,if_neg hb,ht];rw[gp_cons,if_neg hb]at hm h;rw[←hcons];by_cases h3:(c::r).take 2=[47,47];{rw[if_pos h3]at hm h⊢;rw[if_pos h3];have hbd:=fndI_bd (c::r) 10;by_cases h5:fndI (au (c::r) 10)<0;{rw[if_pos h5]at hm h⊢;have:(c::r).take (m'+1)=c::r:=List.take_of_length_le (by omega);rw[this,if_pos h5]};rw[if_neg h5]at hm h⊢;by_cases h6:fndI (au (c::r) 10)<(m'+1:Nat);{rw[fnd_take (by omega) h6,if_neg h5]};have h7:fndI (au (c::r) 10)=(m'+1:Nat):=(by omega);rw[fnd_short h7,if_pos (by decide),List.length_take,h7];omega};rw[if_neg h3]at hm h⊢;rw[if_neg h3];by_cases h4:(c::r).take 2=[47,42];{rw[if_pos h4]at hm h⊢;rw[if_pos h4];by_cases h5:idxL [42,47] ((c::r).drop 2) 0<0;{rw[if_pos h5]at h;omega};rw[if_neg h5]at hm⊢;have e:((c::r).take (m'+1)).drop 2=((c::r).drop 2).take (m' - 1):=(by rw[List.drop_take];congr 1);rw[e,idxL_take _ _ 0 (m' - 1) (by omega) (by simp only[List.length_cons,List.length_nil];omega),if_neg h5]};rw[if_neg h4]at h;omega
theorem gp_take0{r:List UInt8}{m:Nat}(h:gp r=0):gp (r.take m)=0:=by
 cases r with
 |nil=>rw[List.take_nil];rfl
 |cons c r=>
  cases m with
  |zero=>rfl
  |succ m=>
   rw[gp_cons]at h;by_cases hb:blk c=true;{rw[if_pos hb]at h;cases h};rw[if_neg hb]at h;cases m with
   |zero=>rw[List.take_succ_cons,List.take_zero,gp_cons,if_neg hb,if_neg (by simp),if_neg (by simp)]
   |succ m=>
    have ht:((c::r).take (m+2)).take 2=(c::r).take 2:=take2 (by omega);have hcons:(c::r).take (m+2)=c::r.take (m+1):=List.take_succ_cons;rw[hcons]at ht⊢;have h3:¬(c::r).take 2=[47,47]:=fun h3=>by
     rw[if_pos h3]at h;have hbd:=fndI_bd (c::r) 10;by_cases h5:fndI (au (c::r) 10)<0;{rw[if_pos h5]at h;simp only[List.length_cons]at h;omega};rw[if_neg h5]at h;cases hf:au (c::r) 10 with
     |none=>rw[hf]at h;cases h
     |some i=>rw[hf]at h;have h:(i:Int)=0:=h;have:i=0:=(by omega);subst this;rw[findByteA_eq]at hf;obtain⟨_,h7,_⟩:=List.findIdx?_eq_some_iff_getElem.1 hf;have:c=10:=(by simpa using h7);subst this;simp [blk]at hb
    have h4:¬(c::r).take 2=[47,42]:=fun h4=>(by rw[if_neg h3,if_pos h4]at h;split at h;{cases h};omega);rw[gp_cons,if_neg hb,ht,if_neg h3,if_neg h4]
theorem Gap.take{r:List UInt8}{n:Nat}(g:Gap r n):∀m,n≤m→Gap (r.take m) n:=by
 induction g with
 |nil r=>intro m _;exact .nil _
 |@step r n h k ih=>intro m hm;have e:=gp_take (m:=m) h (by omega);have:=ih (m - (gp r).toNat) (by omega);have s:=@Gap.step (r.take m) n (by rw[e];exact h) (by rw[e,List.drop_take];exact this);rw[e]at s;exact s
theorem gap_alone{r:List UInt8}{n:Nat}(g:Gap r n):Ch (.str (r.take n)) 0 []:=by
 have hn:=g.le;have hl:(r.take n).length=n:=by rw[List.length_take];omega
 refine .nil (bQ _) ?_;show Gap ((r.take n).drop 0) ((r.take n).length - 0);rw[List.drop_zero,hl];exact g.take n (aw _)
theorem tok_alone{d:Dat}{p:Nat}{c:UInt8}{t:TokV}(hl:d.toS.length<1000000000)(hc:d.toS[p]? =some c)(ht:IsTok (wOf c) d p t)(hz:1≤t.z)(hb:p+t.z≤d.toS.length)(h0:gp (d.toS.drop p)=0):
 Ch (.str ((d.toS.drop p).take t.z)) 0 [rowT 0 t]:=by
 have h1:=(List.getElem?_eq_some_iff.1 hc).1;obtain⟨t',k1,k2,k3,k4⟩:=tok_loc (c0:=.int 0) hl hc (by rw[(ht (.int 0)).2.2.2.2.2.1];rfl);have hlen:((d.toS.drop p).take t.z).length=t.z:=by rw[List.length_take,List.length_drop];omega
 have hzz:t'.z=t.z:=by have a:=(k1 (.int 0)).2.1;rw[(ht (.int 0)).2.1]at a;injection a with a;omega
 have hd:((d.toS.drop p).take t.z)[0]? =some c:=by rw[List.getElem?_take,if_pos (show 0<t.z from hz),dV,Nat.add_zero];exact hc
 have htt:=k4 (.str ((d.toS.drop p).take t.z)) 0 [] (by show((d.toS.drop p).take t.z).length<_;omega) (by rw[hzz,List.append_nil];rfl) (.inl rfl);have e:t'=t:=by obtain⟨a1,a2,a3,a4,a5,_⟩:=k1 (.int 0);obtain⟨b1,b2,b3,b4,b5,_⟩:=ht (.int 0);rw[b1]at a1;rw[b3]at a3;rw[b4]at a4;rw[b5]at a5;cases t;cases t';injection a1 with a1;injection a4 with a4;injection a5 with a5;simp only at a1 a3 a4 a5 hzz;rw[a1,a3,a4,a5,hzz]
 rw[e]at htt;have:=@Ch.cons (.str ((d.toS.drop p).take t.z)) 0 0 t c [] (.nil _) (by show gp (((d.toS.drop p).take t.z).drop 0)=0;rw[List.drop_zero];exact gp_take0 h0) hd htt hz (by show 0+0+t.z≤((d.toS.drop p).take t.z).length;omega)
  (.nil (by show 0+0+t.z≤((d.toS.drop p).take t.z).length;omega) (by show Gap _ (((d.toS.drop p).take t.z).length - (0+0+t.z));rw[hlen,show t.z - (0+0+t.z)=0 by omega];exact .nil _))
 exact this
end
end Go.Tw.LX
set_option linter.all false
namespace Go.Tw.LX
noncomputable section
def muLw(s:List Dat):Nat:=(aJ s 1).toL.length - (aJ s 3).toI.toNat
def lw0:ST:=(.leaf [(I 0),(D 0)])
def lw1:ST:=(.leaf [(I 0),(D 0)])
def lw2:ST:=(.ask (lt (.pr 0 (D 0) (I 0)) (I 4001)) (.leaf [(I 0),(D 0),(N (.pr 0 (D 0) (I 0)))]) (.leaf [(I 1),(I 1),(I 0)]))
def lw3:ST:=(.ask (lt (.pr 0 (D 0) (I 0)) (I 1000000000)) (.leaf [(I 0),(D 0),(.ap 54 (D 0) (I 0) (I 0)),(N (.ap 55 (D 0) (I 0) (I 0))),(N (.ap 56 (D 0) (I 0) (I 0))),(N (D 1))]) .none)
def lw3c:List aY:=[[((lt (.pr 0 (D 0) (I 0)) (I 1000000000)),false)]]
def lw4:ST:=(.ask (eq (D 2) (I 0)) (.leaf [(I 0),(D 0),(D 1),(N (D 2)),(N (D 3))]) (.ask (eq (cL (D 1)) (I 0)) (.ask (lt (D 3) (I 0)) (.leaf [(I 1),(I 0),(I 0),(I 0),(I 0)]) (.ask (lt (D 3) (.pr 0 (D 0) (I 0))) (.leaf [(I 1),(I 1),(I 0),(I 0),(I 0)]) (.leaf [(I 1),(I 0),(I 0),(I 0),(I 0)]))) (.leaf [(I 1),(I 0),(I 0),(I 0),(I 0)])))
def lw5:ST:=(.leaf [(I 0),(D 0),(D 1),(I 0),(N (D 2)),(N (D 3))])
def lw6:ST:=(.leaf [(I 0),(D 0),(D 1),(N (D 2)),(I 0),(N (D 3)),(N (D 4))])
def lw8:ST:=(.ask (lt (D 3) (cL (D 1))) (.ask (lt (.cell (D 1) (D 3) 1) (D 2)) (.leaf [(I 1),(I 0),(I 0),(I 0),(I 0),(I 0),(I 0)]) (.ask (lt (.cell (D 1) (D 3) 2) (I 1)) (.leaf [(I 1),(I 0),(I 0),(I 0),(I 0),(I 0),(I 0)]) (.ask (lt (.bin .sub .i64 (.pr 0 (D 0) (I 0)) (.cell (D 1) (D 3) 1)) (.cell (D 1) (D 3) 2)) (.leaf [(I 1),(I 0),(I 0),(I 0),(I 0),(I 0),(I 0)]) (.ask (lt (.pr 0 (D 0) (I 0)) (.cell (D 1) (D 3) 1)) .none (.ask (lt (.pr 0 (.pr 3 (.pr 2 (D 0) (.cell (D 1) (D 3) 1)) (D 2)) (I 0)) (I 1000000000)) (.ask (eq (.ap 55 (.pr 3 (.pr 2 (D 0) (.cell (D 1) (D 3) 1)) (D 2)) (I 0) (I 0)) (I 0)) (.ask (eq (.ap 56 (.pr 3 (.pr 2 (D 0) (.cell (D 1) (D 3) 1)) (D 2)) (I 0) (I 0)) (I 0)) (.ask (eq (cL (.ap 54 (.pr 3 (.pr 2 (D 0) (.cell (D 1) (D 3) 1)) (D 2)) (I 0) (I 0))) (I 0)) (.ask (lt (.cell (D 1) (D 3) 1) (I 0)) .none (.ask (lt (.bin .add .i64 (.cell (D 1) (D 3) 1) (.cell (D 1) (D 3) 2)) (.cell (D 1) (D 3) 1)) .none (.ask (lt (.pr 0 (D 0) (I 0)) (.bin .add .i64 (.cell (D 1) (D 3) 1) (.cell (D 1) (D 3) 2))) .none (.ask (lt (.pr 0 (.pr 3 (.pr 2 (D 0) (.bin .add .i64 (.cell (D 1) (D 3) 1) (.cell (D 1) (D 3) 2))) (.cell (D 1) (D 3) 1)) (I 0)) (I 1000000000)) (.ask (eq (.ap 55 (.pr 3 (.pr 2 (D 0) (.bin .add .i64 (.cell (D 1) (D 3) 1) (.cell (D 1) (D 3) 2))) (.cell (D 1) (D 3) 1)) (I 0) (I 0)) (I 0)) (.ask (eq (.ap 56 (.pr 3 (.pr 2 (D 0) (.bin .add .i64 (.cell (D 1) (D 3) 1) (.cell (D 1) (D 3) 2))) (.cell (D 1) (D 3) 1)) (I 0) (I 0)) (I 0)) (.ask (eq (cL (.ap 54 (.pr 3 (.pr 2 (D 0) (.bin .add .i64 (.cell (D 1) (D 3) 1) (.cell (D 1) (D 3) 2))) (.cell (D 1) (D 3) 1)) (I 0) (I 0))) (I 1)) (.ask (lt (I 0) (cL (.ap 54 (.pr 3 (.pr 2 (D 0) (.bin .add .i64 (.cell (D 1) (D 3) 1) (.cell (D 1) (D 3) 2))) (.cell (D 1) (D 3) 1)) (I 0) (I 0)))) (.ask (eq (.cell (.ap 54 (.pr 3 (.pr 2 (D 0) (.bin .add .i64 (.cell (D 1) (D 3) 1) (.cell (D 1) (D 3) 2))) (.cell (D 1) (D 3) 1)) (I 0) (I 0)) (I 0) 0) (.cell (D 1) (D 3) 0)) (.ask (eq (.cell (.ap 54 (.pr 3 (.pr 2 (D 0) (.bin .add .i64 (.cell (D 1) (D 3) 1) (.cell (D 1) (D 3) 2))) (.cell (D 1) (D 3) 1)) (I 0) (I 0)) (I 0) 1) (I 0)) (.ask (eq (.cell (.ap 54 (.pr 3 (.pr 2 (D 0) (.bin .add .i64 (.cell (D 1) (D 3) 1) (.cell (D 1) (D 3) 2))) (.cell (D 1) (D 3) 1)) (I 0) (I 0)) (I 0) 2) (.cell (D 1) (D 3) 2)) (.ask (.seq (.cell (.ap 54 (.pr 3 (.pr 2 (.dvar 0) (.bin .add .i64 (.cell (.dvar 1) (.dvar 3) 1) (.cell (.dvar 1) (.dvar 3) 2))) (.cell (.dvar 1) (.dvar 3) 1)) (.lit 0) (.lit 0)) (.lit 0) 3) (.cell (.dvar 1) (.dvar 3) 3)) (.ask (eq (.cell (.ap 54 (.pr 3 (.pr 2 (D 0) (.bin .add .i64 (.cell (D 1) (D 3) 1) (.cell (D 1) (D 3) 2))) (.cell (D 1) (D 3) 1)) (I 0) (I 0)) (I 0) 4) (.cell (D 1) (D 3) 4)) (.ask (.seq (.pr 15 (.cell (.ap 54 (.pr 3 (.pr 2 (.dvar 0) (.bin .add .i64 (.cell (.dvar 1) (.dvar 3) 1) (.cell (.dvar 1) (.dvar 3) 2))) (.cell (.dvar 1) (.dvar 3) 1)) (.lit 0) (.lit 0)) (.lit 0) 5) (.lit 0)) (.pr 15 (.cell (.dvar 1) (.dvar 3) 5) (.lit 0))) (.leaf [(I 0),(D 0),(D 1),(N (.bin .add .i64 (.cell (D 1) (D 3) 1) (.cell (D 1) (D 3) 2))),(N (.bin .add .i64 (D 3) (I 1))),(N (D 4)),(N (D 5))]) (.leaf [(I 1),(I 0),(I 0),(I 0),(I 0),(I 0),(I 0)])) (.leaf [(I 1),(I 0),(I 0),(I 0),(I 0),(I 0),(I 0)])) (.leaf [(I 1),(I 0),(I 0),(I 0),(I 0),(I 0),(I 0)])) (.leaf [(I 1),(I 0),(I 0),(I 0),(I 0),(I 0),(I 0)])) (.leaf [(I 1),(I 0),(I 0),(I 0),(I 0),(I 0),(I 0)])) (.leaf [(I 1),(I 0),(I 0),(I 0),(I 0),(I 0),(I 0)])) .none) (.leaf [(I 1),(I 0),(I 0),(I 0),(I 0),(I 0),(I 0)])) (.leaf [(I 1),(I 0),(I 0),(I 0),(I 0),(I 0),(I 0)])) (.leaf [(I 1),(I 0),(I 0),(I 0),(I 0),(I 0),(I 0)])) .none)))) (.leaf [(I 1),(I 0),(I 0),(I 0),(I 0),(I 0),(I 0)])) (.leaf [(I 1),(I 0),(I 0),(I 0),(I 0),(I 0),(I 0)])) (.leaf [(I 1),(I 0),(I 0),(I 0),(I 0),(I 0),(I 0)])) .none))))) (.leaf [(I 2),(D 0),(N (D 2)),(I 0),(I 0),(I 0),(I 0)]))
def lw8c:List aY:=[[((lt (.cell (D 1) (D 3) 2) (I 1)),false),((lt (.bin .sub .i64 (.pr 0 (D 0) (I 0)) (.cell (D 1) (D 3) 1)) (.cell (D 1) (D 3) 2)),false),((lt (.pr 0 (D 0) (I 0)) (.cell (D 1) (D 3) 1)),true)],[((lt (D 2) (I 0)),false),((lt (.cell (D 1) (D 3) 1) (D 2)),false),((lt (.cell (D 1) (D 3) 1) (I 0)),true)],[((lt (.cell (D 1) (D 3) 2) (I 1)),false),((lt (.bin .add .i64 (.cell (D 1) (D 3) 1) (.cell (D 1) (D 3) 2)) (.cell (D 1) (D 3) 1)),true)],[((lt (.bin .sub .i64 (.pr 0 (D 0) (I 0)) (.cell (D 1) (D 3) 1)) (.cell (D 1) (D 3) 2)),false),((lt (.pr 0 (D 0) (I 0)) (.bin .add .i64 (.cell (D 1) (D 3) 1) (.cell (D 1) (D 3) 2))),true)],[((eq (cL (.ap 54 (.pr 3 (.pr 2 (D 0) (.bin .add .i64 (.cell (D 1) (D 3) 1) (.cell (D 1) (D 3) 2))) (.cell (D 1) (D 3) 1)) (I 0) (I 0))) (I 1)),true),((lt (I 0) (cL (.ap 54 (.pr 3 (.pr 2 (D 0) (.bin .add .i64 (.cell (D 1) (D 3) 1) (.cell (D 1) (D 3) 2))) (.cell (D 1) (D 3) 1)) (I 0) (I 0)))),false)],[((lt (.pr 0 (.pr 3 (.pr 2 (D 0) (.bin .add .i64 (.cell (D 1) (D 3) 1) (.cell (D 1) (D 3) 2))) (.cell (D 1) (D 3) 1)) (I 0)) (I 1000000000)),false)],[((lt (.pr 0 (.pr 3 (.pr 2 (D 0) (.cell (D 1) (D 3) 1)) (D 2)) (I 0)) (I 1000000000)),false)]]
def lw8v:aY:=[((lt (D 3) (I 0)),false),((lt (D 2) (I 0)),false)]
def lw10:ST:=(.ask (lt (.pr 0 (.pr 3 (D 0) (D 1)) (I 0)) (I 1000000000)) (.ask (eq (.ap 55 (.pr 3 (D 0) (D 1)) (I 0) (I 0)) (I 0)) (.ask (eq (.ap 56 (.pr 3 (D 0) (D 1)) (I 0) (I 0)) (I 0)) (.ask (eq (cL (.ap 54 (.pr 3 (D 0) (D 1)) (I 0) (I 0))) (I 0)) (.leaf [(I 1),(I 1)]) (.leaf [(I 1),(I 0)])) (.leaf [(I 1),(I 0)])) (.leaf [(I 1),(I 0)])) .none)
def lw10c:List aY:=[[((lt (.pr 0 (.pr 3 (D 0) (D 1)) (I 0)) (I 1000000000)),false)]]
def lw10v:aY:=[((lt (D 1) (I 0)),false),((lt (.pr 0 (D 0) (I 0)) (D 1)),false)]
def lwE0:bA:=[((D 0),(D 0))]
def spLw(F:Fn):fA:=(aD (lw0.tr F 1) (aD (lw1.tr F 1) (aD (lw2.tr F 2) (aD (lw3.tr F 5) (aD (lw4.tr F 4) (aD (lw5.tr F 5) (aD (aD (lw6.tr F 6) (ie 0 (fD (lw8.tr F 6) muLw))) (lw10.tr F 1))))))))
def SL(d:Dat)(L:List (List Dat))(e k:Int):List Dat:=[d,.lst L,.int e,.int k,.int 0,.int 0]
def JLd(d:Dat)(s:List Dat):Prop:=∃L,∃e k:Nat,s=SL d L e k∧Ch d e (L.drop k)∧k≤L.length∧e≤d.toS.length∧d.toS.length<4001∧L.length≤4001
theorem Ch.len{d:Dat}{e:Nat}{l:List (List Dat)}(h:Ch d e l):e+l.length≤d.toS.length:=by
 induction h with
 |nil h g=>simpa using h
 |cons g h0 hc ht hz hb k ih=>simp only[List.length_cons];omega
theorem cell_at{L:List (List Dat)}{k:Nat}{r:List Dat}{l:List (List Dat)}(h:L.drop k=r::l)(i:Nat):(Dat.lst L).cell (k:Int) i=match r[i]? with
 |some c=>c
 |none=>.int 0:=by
 have e:L[k]? =some r:=by have:=congrArg (fun l=>l[0]?) h;simpa using this
 show(match(match(Dat.lst L).toL[(k:Int).toNat]? with
  |some r=>r
  |none=>[])[i]? with
  |some c=>c
  |none=>.int 0)=_
 rw[Int.toNat_natCast,show(Dat.lst L).toL=L from rfl,e]
theorem lw8_on{d:Dat}{L:List (List Dat)}{e k n:Nat}{t:TokV}{c:UInt8}{l:List (List Dat)}(hd:L.drop k=rowT (e+n) t::l)(h4:d.toS.length<4001)(hL:L.length≤4001)
 (g:Gap (d.toS.drop e) n)(h0:gp (d.toS.drop (e+n))=0)(hc:d.toS[e+n]? =some c)(ht:IsTok (wOf c) d (e+n) t)(hz:1≤t.z)(hb:e+n+t.z≤d.toS.length):
 lw8.tr F0 6 (SL d L e k)=(0,SL d L ((e+n+t.z:Nat):Int) ((k+1:Nat):Int)):=by
 have hk:k<L.length:=by have:=congrArg List.length hd;rw[List.length_drop,List.length_cons]at this;omega
 have c0:(Dat.lst L).cell (k:Int) 0=.int t.k:=cell_at hd 0;have c1:(Dat.lst L).cell (k:Int) 1=.int ((e+n:Nat):Int):=cell_at hd 1;have c2:(Dat.lst L).cell (k:Int) 2=.int t.z:=cell_at hd 2;have c3:(Dat.lst L).cell (k:Int) 3=t.x:=cell_at hd 3;have c4:(Dat.lst L).cell (k:Int) 4=.int t.n:=cell_at hd 4;have c5:(Dat.lst L).cell (k:Int) 5=.lst t.b:=cell_at hd 5;have hs:aS .sub .i64 (d.toS.length:Int) ((e+n:Nat):Int)=(d.toS.length:Int) - ((e+n:Nat):Int):=sub_small (by omega) (by omega);have ha:aS .add .i64 ((e+n:Nat):Int) (t.z:Int)=((e+n+t.z:Nat):Int):=by rw[add_small (by omega) (by omega)];omega
 have ha1:aS .add .i64 (k:Int) 1=((k+1:Nat):Int):=by rw[add_small (by omega) (by omega)];omega
 -- what is between
 have w1:List.drop e (List.take (e+n) d.toS)=List.take n (d.toS.drop e):=by rw[List.drop_take,Nat.add_sub_cancel_left]
 have w2:List.drop (e+n) (List.take (e+n+t.z) d.toS)=List.take t.z (d.toS.drop (e+n)):=by rw[List.drop_take,Nat.add_sub_cancel_left]
 have l1:(List.take n (d.toS.drop e)).length<4001:=by rw[List.length_take,List.length_drop];omega
 have l2:(List.take t.z (d.toS.drop (e+n))).length<4001:=by rw[List.length_take,List.length_drop];omega
 have b1:=fun b c=>scan_of (d:=.str (List.take n (d.toS.drop e))) l1 (gap_alone g) b c;have b2:=fun b c=>scan_of (d:=.str (List.take t.z (d.toS.drop (e+n)))) l2 (tok_alone (by omega) hc ht hz hb h0) b c;have b154:=fun b c=>(b1 b c).1;have b155:=fun b c=>(b1 b c).2.1;have b156:=fun b c=>(b1 b c).2.2;have b254:=fun b c=>(b2 b c).1;have b255:=fun b c=>(b2 b c).2.1;have b256:=fun b c=>(b2 b c).2.2;have t0:(Dat.lst [rowT 0 t]).cell 0 0=.int t.k:=rfl;have t1:(Dat.lst [rowT 0 t]).cell 0 1=.int 0:=rfl;have t2:(Dat.lst [rowT 0 t]).cell 0 2=.int t.z:=rfl;have t3:(Dat.lst [rowT 0 t]).cell 0 3=t.x:=rfl;have t4:(Dat.lst [rowT 0 t]).cell 0 4=.int t.n:=rfl;have t5:(Dat.lst [rowT 0 t]).cell 0 5=.lst t.b:=rfl;unfold SL;simp only[lw8,tr_ite,ev_lt,ev_eq,ev_seq,sD3,sD2,sL,sCell,dCell,dD1,dD0,dV0,dV1,dV3,sV1,sV3,sI,sLit,dI,dLit,sBin,dBin,sLn,tI,tS,tL,c0,c1,c2,c3,c4,c5,hs,ha,ha1,dTake,dDrop,sAp,dAp,Int.toNat_natCast,w1,w2,b154,b155,b156,b254,b255,b256,tl6,dN,sD4,sD5,
  t0,t1,t2,t3,t4,t5,List.length_nil,List.length_cons,if_true,d15]
 repeat first
  |rw[if_pos (by omega)]
  |rw[if_neg (by omega)]
 rfl
theorem lw8_end{d:Dat}{L:List (List Dat)}{e k:Nat}(hk:L.length≤k):lw8.tr F0 6 (SL d L e k)=(2,[d,.int e,.int 0,.int 0,.int 0,.int 0]):=by unfold SL;simp only[lw8,tr_ite,ev_lt,sD3,sL,dD1,tI,tL];rw[if_neg (by omega)];rfl
theorem lw_cases{d:Dat}{s:List Dat}(h:JLd d s):(∃L,∃e k:Nat,s=SL d L e k∧L.length≤k∧Ch d e []∧e≤d.toS.length∧lw8.tr F0 6 s=(2,[d,.int e,.int 0,.int 0,.int 0,.int 0]))∨
 (∃L,∃e k e':Nat,s=SL d L e k∧k<L.length∧L.length≤4001∧lw8.tr F0 6 s=(0,SL d L e' ((k+1:Nat):Int))∧JLd d (SL d L e' ((k+1:Nat):Int))):=by
 obtain⟨L,e,k,rfl,hc,hk,he,h4,hL⟩:=h;cases hd:L.drop k with
 |nil=>have:L.length≤k:=List.drop_eq_nil_iff.1 hd;rw[hd]at hc;exact .inl ⟨L,e,k,rfl,this,hc,he,lw8_end this⟩
 |cons r l=>
  have hk2:k<L.length:=(by have:=congrArg List.length hd;rw[List.length_drop,List.length_cons]at this;omega);rw[hd]at hc;cases hc with
  |@cons _ n t c _ g h0 hc ht hz hb k2=>refine .inr ⟨L,e,k,e+n+t.z,rfl,hk2,hL,lw8_on hd h4 hL g h0 hc ht hz hb,L,e+n+t.z,k+1,rfl,?_,by omega,hb,h4,hL⟩;have:L.drop (k+1)=l:=(by rw[←List.drop_drop,hd];rfl);rw[this];exact k2
theorem lw_mea(d:Dat):vt (JLd d) muLw (lw8.tr F0 6):=fun s hs h0=>by rcases lw_cases hs with⟨L,e,k,rfl,_,_,_,h⟩|⟨L,e,k,e',rfl,hk,hL,h,h2⟩;{rw[h]at h0;cases h0};rw[h];refine⟨h2,?_⟩;show L.length - ((k+1:Nat):Int).toNat<L.length - (k:Int).toNat;omega
theorem lw10_tr{d:Dat}{e:Nat}{z:List Dat}(h4:d.toS.length<4001)(hc:Ch d e []):lw10.tr F0 1 (d:: .int e::z)=(1,[.int 1]):=by
 cases hc with
 |nil h g=>
  have e1:(d.toS.drop e).take (d.toS.length - e)=d.toS.drop e:=List.take_of_length_le (by rw[List.length_drop];omega);have k:=gap_alone g;rw[e1]at k;have hl:(d.toS.drop e).length<4001:=(by rw[List.length_drop];omega);have b:=fun b c=>scan_of (d:=.str (d.toS.drop e)) hl k b c;have b54:=fun x c=>(b x c).1;have b55:=fun x c=>(b x c).2.1;have b56:=fun x c=>(b x c).2.2;simp only[lw10,tr_ite,ev_lt,ev_eq,sLn,dDrop,dD0,sD1,sI,dI,sAp,dAp,tI,tS,Int.toNat_natCast,b54,b55,b56,sL,tL,if_true,List.length_nil];repeat first
   |rw[if_pos (by omega)]
   |rw[if_neg (by omega)]
  rfl
theorem lw4_tr{d:Dat}{L:List (List Dat)}{er ea:Int}{z:List Dat}(h:(er=0∧ea=0∧Ch d 0 L)∨(er≠0∧0≤ea∧ea<d.toS.length∧L=[])):
 (er=0∧ea=0∧Ch d 0 L∧lw4.tr F0 4 (d:: .lst L:: .int er:: .int ea::z)=(0,[d,.lst L,.int 0,.int 0]))∨lw4.tr F0 4 (d:: .lst L:: .int er:: .int ea::z)=(1,[.int 1,.int 0,.int 0,.int 0]):=by
 rcases h with⟨rfl,rfl,h⟩|⟨h1,h2,h3,rfl⟩;{exact .inl ⟨rfl,rfl,h,rfl⟩};refine .inr ?_;simp only[lw4,tr_ite,ev_lt,ev_eq,sD2,sD3,sL,dD1,sLn,dD0,sI,tI,tL,List.length_nil];rw[if_neg h1];repeat first
  |rw[if_pos (by omega)]
  |rw[if_neg (by omega)]
 rfl
theorem lw_law(d:Dat):(spLw F0 [d]).1=1∧aJ (spLw F0 [d]).2 0=.int 1:=by
 unfold spLw;rw[bind_go (f:=lw0.tr F0 1) (s':=[d]) rfl,bind_go (f:=lw1.tr F0 1) (s':=[d]) rfl];by_cases h4:d.toS.length<4001
 ·have e2:lw2.tr F0 2 [d]=(0,[d,.int (d.toS.length:Int)]):=by
   simp only[lw2,tr_ite,ev_lt,sLn,dD0,sI];rw[if_pos (by omega)];rfl
  rw[bind_go e2];obtain⟨L,er,ea,hs,h⟩:=scan_f h4;have e3:lw3.tr F0 5 [d,.int (d.toS.length:Int)]=(0,[d,.lst L,.int er,.int ea,.int (d.toS.length:Int)]):=(by simp only[lw3,tr_ite,ev_lt,sLn,dD0,sI,tl5,dN,sAp,dAp,dI,(hs _ _).1,(hs _ _).2.1,(hs _ _).2.2,tI,sD1];rw[if_pos (by omega)];rfl);rw[bind_go e3];rcases lw4_tr (z:=[.int (d.toS.length:Int)]) h with⟨rfl,rfl,hc,e4⟩|e4
  ·rw[bind_go e4,bind_go (f:=lw5.tr F0 5) (s':=[d,.lst L,.int 0,.int 0,.int 0]) rfl];have hL:=hc.len;have hj:JLd d (SL d L (0:Nat) (0:Nat)):=⟨L,0,0,rfl,hc,by omega,by omega,h4,by omega⟩;obtain⟨s',hs',hne,hlp⟩:=hC (lw_mea d) hj;rcases lw_cases hs' with⟨L',e,k,rfl,_,hce,he,h6⟩|⟨L',e,k,e',rfl,_,_,h6,_⟩
   ·rw[h6]at hlp;have e5:aD (lw6.tr F0 6) (ie 0 (fD (lw8.tr F0 6) muLw)) [d,.lst L,.int 0,.int 0,.int 0]=(0,[d,.int e,.int 0,.int 0,.int 0,.int 0]):=by
     rw[bind_go (f:=lw6.tr F0 6) (s':=SL d L (0:Nat) (0:Nat)) rfl];exact unX_at hlp
    rw[bind_go e5,lw10_tr h4 hce];exact⟨rfl,rfl⟩
   rw[h6]at hne;exact absurd rfl hne
  rw[bind_no e4 (by simp)];exact⟨rfl,rfl⟩
 have e2:lw2.tr F0 2 [d]=(1,[.int 1,.int 0]):=by simp only[lw2,tr_ite,ev_lt,sLn,dD0,sI];rw[if_neg (by omega)];rfl
 rw[bind_no e2 (by simp)];exact⟨rfl,rfl⟩
end
end Go.Tw.LX
set_option linter.all false
namespace Go.Tw.LX
noncomputable section
theorem dAtL{F:Fn}{l:List Dat}{i:Nat}:@Sx.dat (VL F l) (D i)=aJ l i:=rfl
theorem f13'{d b c:Dat}:F0 13 d b c=.int (aJ (ky0.tr F0 1 [d]).2 0).toI:=by rw[F0_13];unfold spKy;rfl
theorem ix_sp{l x y:Dat}(hl:l.toL.length<1000000001):∃(i:Int) (z:List Dat),spIx F0 [l,x,y]=(1,l::y:: .int i::z):=by
 unfold spIx;rw[bind_go (f:=ix0.tr F0 3) (s':=[l,y,x]) rfl];have hm:vt (fun s=>∃i:Int,s=[l,y,x,.int i]∧0≤i) muIx (ix3.tr F0 4):=fun s hs h0=>by obtain⟨i,rfl,h1⟩:=hs;have:=ix_mea _ ⟨l,y,x,i,rfl,h1,hl⟩ h0;refine⟨?_,this.2⟩;obtain⟨⟨l',y',x',i',e,h2,_⟩,_⟩:=this;revert h0 e;simp only[ix3,tr_ite,ev_lt,ev_seq,sD3,sL,dD0,tI,sI,tl4,dD1,dD2,dN,sBin];split;{split;{intro h;cases h};intro _ e;injection e with _ e;injection e with _ e;injection e with _ e;injection e with e _;injection e with e;exact⟨_,rfl,by rw[e];exact h2⟩};intro h;cases h
 obtain⟨s',⟨i,rfl,h1⟩,h2,h3⟩:=hC hm (s:=[l,y,x,.int 0]) ⟨0,rfl,Int.le_refl _⟩;have e1:∃w z,fD (ix3.tr F0 4) muIx [l,y,x,.int 0]=(w,l::y::z)∧(w=1∧(∃i z',z=.int i::z')∨w=2):=by rw[h3];revert h2;simp only[ix3,tr_ite,ev_lt,ev_seq,sD3,sL,dD0,tI,sI,tl4,dD1,dD2,dN,sBin,dI];split;{split;{intro _;exact⟨_,_,rfl,.inl ⟨rfl,_,_,rfl⟩⟩};intro h;exact absurd rfl h};intro _;exact⟨_,_,rfl,.inr rfl⟩
 obtain⟨w,z,e2,⟨rfl,i2,z',rfl⟩|rfl⟩:=e1
 ·have u:aD (ix1.tr F0 4) (ie 0 (fD (ix3.tr F0 4) muIx)) [l,y,x]=(1,l::y:: .int i2::z'):=by
   rw[bind_go (f:=ix1.tr F0 4) (s':=[l,y,x,.int 0]) rfl];exact unX_ne e2 (by simp)
  exact⟨i2,z',by rw[bind_no u (by simp)]⟩
 have u:aD (ix1.tr F0 4) (ie 0 (fD (ix3.tr F0 4) muIx)) [l,y,x]=(0,l::y::z):=by rw[bind_go (f:=ix1.tr F0 4) (s':=[l,y,x,.int 0]) rfl];exact unX_at e2
 exact⟨-1,[],by rw[bind_go u];rfl⟩
theorem ix3_inv(s:List Dat)(h:JIx s):@Holds (VL F0 s) ix3v:=by obtain⟨l,y,x,i,rfl,h1,h2⟩:=h;exact hcons (ltF (by show ¬i<0;omega)) hnil
theorem ky0_co(s:List Dat):∀q∈ky0c,¬@Holds (VL F0 s) q:=fun q hq h=>by
 simp only[ky0c,da,fg,or_false]at hq;subst hq;have h1:=ltF' (hget h).1;have e:@Sx.eval (VL F0 s) (cL (.ap 1 (I 0) (I 0) (I 0)))=21:=by show(((F0 1 (.int 0) (.int 0) (.int 0)).toL.length:Nat):Int)=21;have:(F0 1 (.int 0) (.int 0) (.int 0)).toL.length=21:=(by kernel_rfl);rw[this];rfl
 rw[e,sI]at h1;omega
theorem sg3_inv(s:List Dat)(h:JSg s):@Holds (VL F0 s) sg3v:=by obtain⟨x,l,i,rfl,h1,h2⟩:=h;exact hcons (ltF (by show ¬i<0;omega)) hnil
theorem sg3_co(s:List Dat)(hs:JSg s):∀q∈sg3c,¬@Holds (VL F0 s) q:=fun q hq h=>by obtain⟨x,l,i,rfl,h1,h2⟩:=hs;simp only[sg3c,da,fg,or_false]at hq;rcases hq with rfl|rfl;{have k:=ltT' (hget h).1;rw[sLn,sI]at k;omega};have k:=ltT' (hget h).1;have k2:=ltF' (hget (hget h).2).1;simp only[sD3,sD2,sL,dD1,tI]at k k2;omega
theorem rn3_inv(s:List Dat)(h:JRn s):@Holds (VL F0 s) rn3v:=by obtain⟨d,e,ea,p,t,rfl,h1,h2,h3,h4⟩:=h;exact hcons (ltF (by show ¬t<0;omega)) hnil
theorem rn5_inv(s:List Dat)(h:JRn s):@Holds (VL F0 s) rn5v:=by obtain⟨d,e,ea,p,t,rfl,h1,h2,h3,h4⟩:=h;exact hcons (ltF (by show ¬p<0;omega)) (hcons (ltF (by show ¬t<p;omega)) (hcons (ltF (by show ¬(d.toS.length:Int)<t;omega)) hnil))
end
end Go.Tw.LX
set_option linter.all false
namespace Go.Tw.LX
noncomputable section
theorem atn{sp:ST}{F:Fn}{m i:Nat}{s:List Dat}(h:i<m):aJ (sp.tr F m s).2 i=sp.val (VL F s) (i+1):=AK h
def bkS(s:List Dat):Prop:=2≤(aJ s 1).toI∧(aJ s 1).toI≤36∧1≤(aJ s 2).toI∧(aJ s 2).toI≤64
def bkV:aY:=[((lt (D 1) (I 2)),false),((lt (I 36) (D 1)),false),((lt (D 2) (I 1)),false),((lt (I 64) (D 2)),false)]
theorem bk_inv(s:List Dat)(h:bkS s):@Holds (VL F0 s) bkV:=by obtain⟨h1,h2,h3,h4⟩:=h;exact hcons (ltF (by show ¬(aJ s 1).toI<2;omega)) (hcons (ltF (by show ¬36<(aJ s 1).toI;omega)) (hcons (ltF (by show ¬(aJ s 2).toI<1;omega)) (hcons (ltF (by show ¬64<(aJ s 2).toI;omega)) hnil)))
def K0(s:List Dat):Prop:=bkS s∧(aJ s 0).toS.length<1000000000
def K3(s:List Dat):Prop:=K0 s∧(aJ s 3).toI=0
def K7(s:List Dat):Prop:=K3 s∧(aJ s 7).toI=0
theorem nz{x:Dat}(h:x.toI=0):dF (x.toI != 0)=0:=by rw[h];rfl
theorem sDi{F:Fn}{s:List Dat}{i:Nat}:@Sx.eval (VL F s) (D i)=(aJ s i).toI:=rfl
theorem pi1_j(s:List Dat)(hs:K0 s)(h:(pi1.tr F0 3 s).1=0):K0 (pi1.tr F0 3 s).2:=by revert h;simp only[pi1,tr_ite];split;{intro h;cases h};intro _;exact hs
theorem pi2_j(s:List Dat)(hs:K0 s):K3 (pi2.tr F0 4 s).2:=by simp only[pi2,tr_ite,ev_eq,sDi,sI];rw[if_neg (by have:=hs.1.1;omega)];exact⟨hs,rfl⟩
theorem pi3_j(s:List Dat)(hs:K3 s):K3 (pi3.tr F0 5 s).2:=⟨hs.1,nz hs.2⟩
theorem pi4_j(s:List Dat)(hs:K3 s):K3 (pi4.tr F0 5 s).2:=by simp only[pi4,tr_ite,ev_lt,sDi,sI];rw[if_pos (by have:=hs.1.1.2.1;omega)];exact⟨hs.1,nz hs.2⟩
theorem pi4_co(s:List Dat):∀q∈pi4c,¬@Holds (VL F0 s) q:=fun q hq h=>by simp only[pi4c,da,fg,or_false]at hq;subst hq;have h1:=ltF' (hget h).1;have h2:=ltF' (hget (hget h).2).1;rw[sI,sDi]at h1 h2;omega
theorem pi5_co(s:List Dat):∀q∈pi5c,¬@Holds (VL F0 s) q:=fun q hq h=>by simp only[pi5c,da,fg,or_false]at hq;rcases hq with rfl|rfl|rfl;{have h1:=ltF' (hget h).1;have h2:=eqT' (hget (hget h).2).1;rw[sI,sDi]at h1 h2;omega};{have h1:=ltF' (hget h).1;have h2:=ltT' (hget (hget h).2).1;rw[sI,sDi]at h1 h2;omega};have h1:=ltF' (hget h).1;have h2:=ltF' (hget (hget h).2).1;rw[sI,sDi]at h1 h2;omega
theorem pi5_j(s:List Dat)(hs:K3 s):K3 (pi5.tr F0 5 s).2:=by have h3:=hs.1.1.2.2.1;have h4:=hs.1.1.2.2.2;simp only[pi5,tr_ite,ev_lt,ev_eq,sDi,sI];rw[if_neg (by omega),if_neg (by omega),if_pos (by omega)];exact⟨hs.1,nz hs.2⟩
theorem pi6_j(s:List Dat)(hs:K3 s):K3 (pi6.tr F0 5 s).2:=⟨hs.1,nz hs.2⟩
theorem wrapU{n:Int}(h1:0≤n)(h2:n≤64):bX .u64 n=n:=by
 obtain⟨k,rfl⟩:∃k:Nat,n=k:=⟨n.toNat,by omega⟩;have:k<65:=by omega
 revert k;intro k _ _ hk
 match k,hk with
 |0,_=>rfl|1,_=>rfl|2,_=>rfl|3,_=>rfl|4,_=>rfl|5,_=>rfl|6,_=>rfl|7,_=>rfl|8,_=>rfl|9,_=>rfl
 |10,_=>rfl|11,_=>rfl|12,_=>rfl|13,_=>rfl|14,_=>rfl|15,_=>rfl|16,_=>rfl|17,_=>rfl|18,_=>rfl|19,_=>rfl
 |20,_=>rfl|21,_=>rfl|22,_=>rfl|23,_=>rfl|24,_=>rfl|25,_=>rfl|26,_=>rfl|27,_=>rfl|28,_=>rfl|29,_=>rfl
 |30,_=>rfl|31,_=>rfl|32,_=>rfl|33,_=>rfl|34,_=>rfl|35,_=>rfl|36,_=>rfl|37,_=>rfl|38,_=>rfl|39,_=>rfl
 |40,_=>rfl|41,_=>rfl|42,_=>rfl|43,_=>rfl|44,_=>rfl|45,_=>rfl|46,_=>rfl|47,_=>rfl|48,_=>rfl|49,_=>rfl
 |50,_=>rfl|51,_=>rfl|52,_=>rfl|53,_=>rfl|54,_=>rfl|55,_=>rfl|56,_=>rfl|57,_=>rfl|58,_=>rfl|59,_=>rfl
 |60,_=>rfl|61,_=>rfl|62,_=>rfl|63,_=>rfl|64,_=>rfl
theorem sWi{F:Fn}{s:List Dat}{i:Nat}:@Sx.eval (VL F s) (.wrap .u64 (.dvar i))=bX .u64 (aJ s i).toI:=rfl
theorem pi7_co(s:List Dat)(hs:K3 s):∀q∈pi7c,¬@Holds (VL F0 s) q:=fun q hq h=>by simp only[pi7c,da,fg,or_false]at hq;subst hq;have h3:=eqT' (hget (hget (hget h).2).2).1;obtain⟨⟨⟨h1,h2,_⟩,_⟩,_⟩:=hs;rw[sI,sWi,wrapU (by omega) (by omega)]at h3;omega
theorem pi8_co(s:List Dat)(hs:K3 s):∀q∈pi8c,¬@Holds (VL F0 s) q:=fun q hq h=>by simp only[pi8c,da,fg,or_false]at hq;subst hq;have h3:=ltT' (hget h).1;obtain⟨⟨⟨_,_,h1,h2⟩,_⟩,_⟩:=hs;rw[sI,sWi,wrapU (by omega) (by omega)]at h3;omega
theorem pi7_j(s:List Dat)(hs:K3 s):K3 (pi7.tr F0 6 s).2:=by simp only[pi7,tr_ite];split;{exact⟨hs.1,nz hs.2⟩};split;{exact⟨hs.1,nz hs.2⟩};split;{rename_i h;have h3:=eqT' h;have h1:=hs.1.1.1;have h2:=hs.1.1.2.1;rw[sI,sWi,wrapU (by omega) (by omega)]at h3;omega};exact⟨hs.1,nz hs.2⟩
theorem pi8_j(s:List Dat)(hs:K3 s):K3 (pi8.tr F0 7 s).2:=by simp only[pi8,tr_ite];split;{rename_i h;exact absurd (show @Holds (VL F0 s) _ from hcons h hnil) (pi8_co s hs _ (by simp only[pi8c,da,true_or]))};exact⟨hs.1,nz hs.2⟩
theorem pi9_j(s:List Dat)(hs:K3 s):K7 (pi9.tr F0 8 s).2:=⟨⟨hs.1,nz hs.2⟩,rfl⟩
theorem pi10_j(s:List Dat)(hs:K7 s):K7 (pi10.tr F0 9 s).2:=⟨⟨hs.1.1,nz hs.1.2⟩,nz hs.2⟩
def JPi(s:List Dat):Prop:=(aJ s 2).toI=0∧(aJ s 6).toI=0∧(aJ s 9).toI=((aJ s 8).toL.length:Int)∧0≤(aJ s 10).toI∧(aJ s 8).toL.length<1000000000
theorem pi11_j(s:List Dat)(hs:K7 s):JPi (pi11.tr F0 11 s).2:=by
 refine⟨nz hs.1.2,nz hs.2,rfl,Int.le_refl _,?_⟩;show(eK (aJ s 0).toS).length<_;have:(eK (aJ s 0).toS).length=(aJ s 0).toS.length:=by unfold eK;exact List.length_map ..
 rw[this];exact hs.1.1.2
theorem pi13_inv(s:List Dat)(hs:JPi s):@Holds (VL F0 s) pi13v:=hcons (ltF (by rw[sDi,sI];have:=hs.2.2.2.1;omega)) hnil
theorem pi13_co(s:List Dat)(hs:JPi s):∀q∈pi13c,¬@Holds (VL F0 s) q:=fun q hq h=>by simp only[pi13c,da,fg,or_false]at hq;rcases hq with rfl|rfl|rfl;{have h1:=eqT' (hget h).1;have h2:=ltT' (hget (hget h).2).1;rw[sI]at h1 h2;omega};{have h1:=eqT' (hget h).1;have h2:=ltT' (hget (hget h).2).1;rw[sI]at h1 h2;omega};have h1:=ltT' (hget h).1;have h2:=ltF' (hget (hget h).2).1;rw[sDi,sDi,hs.2.2.1]at h1;rw[sDi,sL,dAtL]at h2;omega
def piQ(p:aY)(xs:List Sx):Bool:=(iO xs 2).same (.pr 21 (D 2) (I 0))&&((match dR p (eq (D 2) (I 0))with
 |some false=>true
 |_=>(iO xs 6).same (.pr 21 (D 6) (I 0)))&&((iO xs 8).same (D 8)&&((iO xs 9).same (N (D 9))&&((iO xs 10).same (N (.bin .add .i64 (D 10) (I 1)))&&(match dR p (lt (D 10) (D 9))with
 |some true=>true
 |_=>false)))))
theorem pi13_q:pi13.leafs 0 piQ pi13v=true:=by kernel_rfl
theorem pi13_d:pi13.deadsOk pi13c pi13v=true:=by kernel_rfl
theorem pi13_fl:pi13.flsX [0,1,5]=true:=by kernel_rfl
def piQ5(_:aY)(xs:List Sx):Bool:=(iO xs 2).same (.pr 21 (D 6) (I 0))
theorem pi13_q5:pi13.leafs 5 piQ5 pi13v=true:=by kernel_rfl
def piQ1(_:aY)(xs:List Sx):Bool:=(iO xs 1).same (I 0)||(iO xs 1).same (I 1)||(iO xs 1).same (I 2)
theorem pi13_q1:pi13.leafs 1 piQ1 pi13v=true:=by kernel_rfl
theorem pi13_flag{s:List Dat}(hs:JPi s){w:Nat}(h:(pi13.tr F0 11 s).1=w):pi13.flg F0 s=(w:Int):=by obtain⟨k,hk⟩:=pX (F:=F0) (s:=s) (show pi13.natF=true by kernel_rfl);have h:(pi13.flg F0 s).toNat=w:=h;rw[hk]at h⊢;omega
theorem xval{xs:List Sx}{v:Val}{w:Int}{i:Nat}{x:Sx}(h:(iO xs i).same x=true)(hx:∀n:Int,x≠.lit n):(ST.leaf (.lit w::xs)).val v (i+1)=@Sx.dat v x:=by
 have e:=Sx.same_eq h;rw[kr]at e;show(match xs[i]? with
  |some e=>@Sx.dat v e
  |none=>.int 0)=_
 cases hi:xs[i]? with
 |none=>rw[hi]at e;exact absurd e.symm (hx 0)
 |some y=>rw[hi]at e;have e:y=x:=e;rw[e]
theorem pi_mea:vt JPi muPi (pi13.tr F0 11):=fun s hs h0=>by
 obtain⟨p',xs,q1,q2,q3⟩:=jj (fun q hq=>pi13_co s hs q hq) pi13_d pi13_q (pi13_inv s hs) (pi13_flag hs h0);simp only[piQ,ah]at q1;obtain⟨c2,c6,c8,c9,c10,cp⟩:=q1;have hlt:(aJ s 10).toI<(aJ s 9).toI:=by split at cp;{rename_i hd;have:=ltT' (@eO (VL F0 s) _ q2 _ _ hd);rwa[sDi,sDi]at this};cases cp
 obtain⟨j2,j6,j9,j10,j8⟩:=hs;have e2:aJ (pi13.tr F0 11 s).2 2=.int (dF ((aJ s 2).toI != 0)):=by rw[atn (by omega),q3,xval c2 (by intro n h;cases h)];rfl
 have e8:aJ (pi13.tr F0 11 s).2 8=aJ s 8:=by rw[atn (by omega),q3,xval c8 (by intro n h;cases h)];rfl
 have e9:aJ (pi13.tr F0 11 s).2 9=.int (aJ s 9).toI:=by rw[atn (by omega),q3,xval c9 (by intro n h;cases h)];rfl
 have e10:aJ (pi13.tr F0 11 s).2 10=.int (aS .add .i64 (aJ s 10).toI 1):=by rw[atn (by omega),q3,xval c10 (by intro n h;cases h)];rfl
 have e6:(aJ (pi13.tr F0 11 s).2 6).toI=0:=by split at c6;{rename_i hd;have:=eqF' (@eO (VL F0 s) _ q2 _ _ hd);rw[sDi,sI]at this;exact absurd j2 this};rw[atn (by omega),q3,xval c6 (by intro n h;cases h)];exact nz j6
 rw[add_small (by omega) (by omega)]at e10;refine⟨⟨by rw[e2];exact nz j2,e6,by rw[e9,e8];exact j9,by rw[e10];show 0≤(aJ s 10).toI+1;omega,by rw[e8];exact j8⟩,?_⟩;unfold muPi;rw[e9,e10];show(aJ s 9).toI.toNat - ((aJ s 10).toI+1).toNat<_;omega
def J15(s:List Dat):Prop:=(aJ s 2).toI=0
theorem pi15_inv(s:List Dat)(hs:J15 s):@Holds (VL F0 s) pi15v:=hcons (eqT hs) hnil
theorem pi13_fin(s:List Dat)(hs:JPi s)(h:(ie 3 (fD (pi13.tr F0 11) muPi) s).1=0):J15 (ie 3 (fD (pi13.tr F0 11) muPi) s).2:=by obtain⟨s',h1,h2,h3⟩:=hC pi_mea hs;unfold ie at h⊢;rw[h3]at h⊢;by_cases hx:(pi13.tr F0 11 s').1=3+2;{rw[if_pos hx];obtain⟨p',xs,q1,q2,q3⟩:=jj (fun q hq=>pi13_co s' h1 q hq) pi13_d pi13_q5 (pi13_inv s' h1) (pi13_flag h1 hx);show(aJ (pi13.tr F0 11 s').2 2).toI=0;rw[atn (by omega),q3,xval q1 (by intro n h;cases h)];exact nz h1.2.1};rw[if_neg hx]at h;exact absurd h h2
theorem pi_fl:vu K0 [1] (spPi F0):=by
 unfold spPi;have ho:∀{J:List Dat→Prop} {sp:ST} {m:Nat},sp.fls [0]=true→vu J (0::[1]) (sp.tr F0 m):=fun{J sp m} h s _=>by have:=mj (F:=F0) (m:=m) h s;rw[kT]at this;rw[this];exact List.mem_cons_self ..
 refine dA (J2:=K0) (ho (by kernel_rfl)) (fun s hs _=>hs) (dA (J2:=K0) (cJ (cores:=[]) (inv:=[]) (fun _ _ _ h=>by cases h) (fun _ _=>hnil) (by kernel_rfl) (by kernel_rfl)) pi1_j
  (dA (J2:=K3) (cJ (cores:=[]) (inv:=[]) (fun _ _ _ h=>by cases h) (fun _ _=>hnil) (by kernel_rfl) (by kernel_rfl)) (fun s hs _=>pi2_j s hs)
  (dA (J2:=K3) (ho (by kernel_rfl)) (fun s hs _=>pi3_j s hs) (dA (J2:=K3) (cJ (fun s _=>pi4_co s) (fun s hs=>bk_inv s hs.1.1) (by kernel_rfl) (by kernel_rfl)) (fun s hs _=>pi4_j s hs)
  (dA (J2:=K3) (cJ (fun s _=>pi5_co s) (fun s hs=>bk_inv s hs.1.1) (by kernel_rfl) (by kernel_rfl)) (fun s hs _=>pi5_j s hs) (dA (J2:=K3) (ho (by kernel_rfl)) (fun s hs _=>pi6_j s hs)
  (dA (J2:=K3) (cJ pi7_co (fun s hs=>bk_inv s hs.1.1) (by kernel_rfl) (by kernel_rfl)) (fun s hs _=>pi7_j s hs) (dA (J2:=K3) (cJ (inv:=[]) pi8_co (fun _ _=>hnil) (by kernel_rfl) (by kernel_rfl)) (fun s hs _=>pi8_j s hs)
  (dA (J2:=K7) (ho (by kernel_rfl)) (fun s hs _=>pi9_j s hs) (dA (J2:=K7) (ho (by kernel_rfl)) (fun s hs _=>pi10_j s hs) ?_))))))))))
 have hlp:vu JPi (0::[1]) (ie 3 (fD (pi13.tr F0 11) muPi)):=wF (l:=[0,1]) (wE (l:=[5,0,1]) pi_mea (sc (cJ pi13_co pi13_inv pi13_d pi13_fl) (fun _ h=>h) (by decide))) (by decide);exact dA (J2:=J15) (dA (J2:=JPi) (sc (J:=K7) (l:=[0,1]) (ho (by kernel_rfl)) (fun _ h=>h) (by decide)) (fun s hs _=>pi11_j s hs) hlp) (fun s hs h=>by unfold aD at h⊢;have e:(pi11.tr F0 11 s).1=0:=rfl;rw[if_pos e]at h⊢;exact pi13_fin _ (pi11_j s hs) h) (cJ (cores:=[]) (fun _ _ _ h=>by cases h) pi15_inv (by kernel_rfl) (by kernel_rfl))
end
end Go.Tw.LX
set_option linter.all false
namespace Go.Tw.LX
noncomputable section
def RetJ(J Q:List Dat→Prop)(f:fA):Prop:=∀s,J s→(f s).1≠0→Q (f s).2
theorem ret_seq{J J2 Q:List Dat→Prop}{f g:fA}(h1:RetJ J Q f)(hJ:∀s,J s→(f s).1=0→J2 (f s).2)(h2:RetJ J2 Q g):RetJ J Q (aD f g):=fun s hs h=>by unfold aD at h⊢;by_cases h0:(f s).1=0;{rw[if_pos h0]at h⊢;exact h2 _ (hJ s hs h0) h};rw[if_neg h0]at h⊢;exact h1 s hs h0
theorem ret_on{J Q:List Dat→Prop}{sp:ST}{m:Nat}(h:sp.fls [0]=true):RetJ J Q (sp.tr F0 m):=fun s _ h0=>by have:=mj (F:=F0) (m:=m) h s;rw[kT]at this;exact absurd this h0
def QE(s:List Dat):Prop:=aJ s 1=.int 0∨aJ s 1=.int 1∨aJ s 1=.int 2
theorem pi4_0(s:List Dat)(hs:K3 s):(pi4.tr F0 5 s).1=0:=by simp only[pi4,tr_ite,ev_lt,sDi,sI];rw[if_pos (by have:=hs.1.1.2.1;omega)];rfl
theorem pi5_0(s:List Dat)(hs:K3 s):(pi5.tr F0 5 s).1=0:=by have h3:=hs.1.1.2.2.1;have h4:=hs.1.1.2.2.2;simp only[pi5,tr_ite,ev_lt,ev_eq,sDi,sI];rw[if_neg (by omega),if_neg (by omega),if_pos (by omega)];rfl
theorem pi_ret:RetJ K0 QE (spPi F0):=by
 unfold spPi;refine ret_seq (J2:=K0) (ret_on (by kernel_rfl)) (fun s hs _=>hs) (ret_seq (J2:=K0) (fun s hs h=> ?_) pi1_j (ret_seq (J2:=K3) (ret_on (by kernel_rfl)) (fun s hs _=>pi2_j s hs) (ret_seq (J2:=K3) (ret_on (by kernel_rfl)) (fun s hs _=>pi3_j s hs)
  (ret_seq (J2:=K3) (fun s hs h=>absurd (pi4_0 s hs) h) (fun s hs _=>pi4_j s hs) (ret_seq (J2:=K3) (fun s hs h=>absurd (pi5_0 s hs) h) (fun s hs _=>pi5_j s hs) (ret_seq (J2:=K3) (ret_on (by kernel_rfl)) (fun s hs _=>pi6_j s hs)
  (ret_seq (J2:=K3) (fun s hs h=> ?_) (fun s hs _=>pi7_j s hs) (ret_seq (J2:=K3) (fun s hs h=> ?_) (fun s hs _=>pi8_j s hs) (ret_seq (J2:=K7) (ret_on (by kernel_rfl)) (fun s hs _=>pi9_j s hs)
  (ret_seq (J2:=K7) (ret_on (by kernel_rfl)) (fun s hs _=>pi10_j s hs) (ret_seq (J2:=J15) (ret_seq (J2:=JPi) (ret_on (by kernel_rfl)) (fun s hs _=>pi11_j s hs) (fun s hs h=> ?_)) (fun s hs h=> ?_) (fun s hs h=>.inl rfl))))))))))))
 {revert h;simp only[pi1,tr_ite];split;{intro _;exact .inr (.inr rfl)};intro h;exact absurd rfl h};{have:=cJ (J:=K3) (sp:=pi7) (m:=6) (l:=[0]) pi7_co (fun s hs=>bk_inv s hs.1.1) (by kernel_rfl) (by kernel_rfl) s hs;rw[kT]at this;exact absurd this h};·have:=cJ (J:=K3) (sp:=pi8) (m:=7) (l:=[0]) (inv:=[]) pi8_co (fun _ _=>hnil) (by kernel_rfl) (by kernel_rfl) s hs;rw[kT]at this;exact absurd this h
 ·obtain⟨s',h1,h2,h3⟩:=hC pi_mea hs;unfold ie at h⊢;rw[h3]at h⊢;by_cases hx:(pi13.tr F0 11 s').1=3+2;{rw[if_pos hx]at h;exact absurd rfl h};rw[if_neg hx];have hfl:=cJ (J:=JPi) (sp:=pi13) (m:=11) pi13_co pi13_inv pi13_d pi13_fl s' h1;have hx1:(pi13.tr F0 11 s').1=1:=by
   simp only[da,fg,or_false]at hfl;omega
  obtain⟨p',xs,q1,q2,q3⟩:=jj (fun q hq=>pi13_co s' h1 q hq) pi13_d pi13_q1 (pi13_inv s' h1) (pi13_flag h1 hx1);have ex:aJ (pi13.tr F0 11 s').2 1=(ST.leaf (.lit ((1:Nat):Int)::xs)).val (VL F0 s') 2:=(by rw[atn (by omega),q3]);unfold QE;rw[ex];have key:∀n:Int,(iO xs 1).same (I n)=true→(ST.leaf (.lit ((1:Nat):Int)::xs)).val (VL F0 s') 2=.int n:=fun n hn=>by
   have e:=Sx.same_eq hn;rw[kr]at e;show(match xs[1]? with
    |some e=>@Sx.dat (VL F0 s') e
    |none=>.int 0)=_
   cases hi:xs[1]? with
   |none=>rw[hi]at e;have e:Sx.lit 0=Sx.lit n:=e;injection e with e;show Dat.int 0=.int n;rw[e]
   |some y=>rw[hi]at e;have e:y=I n:=e;rw[e];rfl
  simp only[piQ1,cS]at q1;rcases q1 with(q1|q1)|q1;{exact .inl (key _ q1)};{exact .inr (.inl (key _ q1))};exact .inr (.inr (key _ q1))
 unfold aD at h⊢;have e:(pi11.tr F0 11 s).1=0:=rfl;rw[if_pos e]at h⊢;exact pi13_fin _ (pi11_j s hs) h
theorem f0_cases{a b c:Dat}(h:K0 [a,.int b.toI,.int c.toI]):(F0 0 a b c).toI=0∨(F0 0 a b c).toI=1∨(F0 0 a b c).toI=2:=by rw[F0_0,tI];rcases pi_ret _ h (by rw[ml pi_fl h];simp)with k|k|k<;>rw[k];{exact .inl rfl};{exact .inr (.inl rfl)};exact .inr (.inr rfl)
theorem pi_int{s:List Dat}(h:K0 s):aJ (spPi F0 s).2 1=.int (aJ (spPi F0 s).2 1).toI:=by rcases pi_ret _ h (by rw[ml pi_fl h];simp)with k|k|k<;>rw[k]<;>rfl
theorem pu0_co{d b k:Dat}(h:K0 [d,.int b.toI,.int k.toI]):∀q∈pu0c,¬@Holds (VL F0 [d,.int b.toI,.int k.toI]) q:=fun q hq hh=>by simp only[pu0c,da,fg,or_false]at hq;subst hq;have h1:=eqF' (hget hh).1;have h2:=eqF' (hget (hget hh).2).1;have h3:=eqF' (hget (hget (hget hh).2).2).1;have hc:=f0_cases (a:=d) (b:=.int b.toI) (c:=.int k.toI) h;rw[sAp,dD0,dD1,dD2,sI]at h1 h2 h3;omega
theorem sp0_co{d:Dat}(hl:d.toS.length<1000000000):∀q∈sp0c,¬@Holds (VL F0 [d]) q:=fun q hq h=>by
 have h2:(List.drop (Int.toNat 2) d.toS).length≤d.toS.length:=by rw[List.length_drop];omega
 have key:∀(q:UInt8→Bool) (l:List UInt8),l.length<1000000000→aS .sub .i64 (l.length:Int) ((l.dropWhile q).length:Int)=((l.length - (l.dropWhile q).length:Nat):Int):=fun q l h=>by have:=dw_len q l;rw[sub_small (by omega) (by omega)];omega
 simp only[sp0c,da,fg,or_false]at hq;rcases hq with rfl|rfl|rfl|rfl|rfl|rfl|rfl|rfl|rfl;all_goals
  first
  |(have k:=ltT' (hget h).1
    simp only[sLn,sI,dD0,sBin,dAp,dSl,F0_4,tS,dDrop]at k;simp only[key _ d.toS hl,key _ (List.drop (Int.toNat 2) d.toS) (by omega)]at k;omega)
  |(have k:=ltF' (hget h).1
    simp only[sLn,sI,dD0,dDrop,tS]at k;omega)
  |(have k:=ltF' (hget h).1
    have k2:=ltF' (hget (hget h).2).1;simp only[sLn,sI,dD0]at k k2;omega)
theorem es0_co{d:Dat}:∀q∈es0c,¬@Holds (VL F0 [d]) q:=fun q hq h=>by
 simp only[es0c,da,fg,or_false]at hq;rcases hq with rfl|rfl|rfl|rfl;{have k:=ltF' (hget h).1;simp only[sLn,sI,dD0,dDrop,dTake,tS,List.length_drop,List.length_take,show Int.toNat 2=2 from rfl,show Int.toNat 4=4 from rfl]at k;omega};all_goals
  have k:=ltF' (hget h).1;have k2:=ltF' (hget (hget h).2).1;simp only[sLn,sI,dD0]at k k2;omega
end
end Go.Tw.LX
set_option linter.all false
namespace Go.Tw.LX
noncomputable section
theorem fb26{d b c:Dat}:F0 26 d b c=F0 26 d (.int b.toI) c:=by rw[F0_26,F0_26];rfl
theorem fb27{d b c:Dat}:F0 27 d b c=F0 27 d (.int b.toI) c:=by rw[F0_27,F0_27];rfl
theorem fb28{d b c:Dat}:F0 28 d b c=F0 28 d (.int b.toI) c:=by rw[F0_28,F0_28];rfl
theorem fb31{d b c:Dat}:F0 31 d b c=F0 31 d (.int b.toI) c:=by rw[F0_31,F0_31];rfl
theorem fb32{d b c:Dat}:F0 32 d b c=F0 32 d (.int b.toI) c:=by rw[F0_32,F0_32];rfl
theorem fb34{d b c:Dat}:F0 34 d b c=F0 34 d (.int b.toI) c:=by rw[F0_34,F0_34];rfl
theorem fb35{d b c:Dat}:F0 35 d b c=F0 35 d (.int b.toI) c:=by rw[F0_35,F0_35];rfl
theorem fb38{d b c:Dat}:F0 38 d b c=F0 38 d (.int b.toI) c:=by rw[F0_38,F0_38];rfl
theorem fb39{d b c:Dat}:F0 39 d b c=F0 39 d (.int b.toI) c:=by rw[F0_39,F0_39];rfl
theorem fb41{d b c:Dat}:F0 41 d b c=F0 41 d (.int b.toI) c:=by rw[F0_41,F0_41];rfl
theorem fb42{d b c:Dat}:F0 42 d b c=F0 42 d (.int b.toI) c:=by rw[F0_42,F0_42];rfl
theorem fb43{d b c:Dat}:F0 43 d b c=F0 43 d (.int b.toI) c:=by rw[F0_43,F0_43];rfl
theorem fb45{d b c:Dat}:F0 45 d b c=F0 45 d (.int b.toI) c:=by rw[F0_45,F0_45];rfl
theorem fb46{d b c:Dat}:F0 46 d b c=F0 46 d (.int b.toI) c:=by rw[F0_46,F0_46];rfl
theorem fb47{d b c:Dat}:F0 47 d b c=F0 47 d (.int b.toI) c:=by rw[F0_47,F0_47];rfl
theorem fb48{d b c:Dat}:F0 48 d b c=F0 48 d (.int b.toI) c:=by rw[F0_48,F0_48];rfl
theorem fb50{d b c:Dat}:F0 50 d b c=F0 50 d (.int b.toI) c:=by rw[F0_50,F0_50];rfl
theorem fb51{d b c:Dat}:F0 51 d b c=F0 51 d (.int b.toI) c:=by rw[F0_51,F0_51];rfl
theorem fb52{d b c:Dat}:F0 52 d b c=F0 52 d (.int b.toI) c:=by rw[F0_52,F0_52];rfl
theorem fb53{d b c:Dat}:F0 53 d b c=F0 53 d (.int b.toI) c:=by rw[F0_53,F0_53];rfl
theorem fb15{d b c:Dat}:F0 15 d b c=F0 15 d (.int b.toI) c:=by rw[F0_15,F0_15];rfl
theorem fb16{d b c:Dat}:F0 16 d b c=F0 16 d (.int b.toI) c:=by rw[F0_16,F0_16];rfl
theorem fb17{d b c:Dat}:F0 17 d b c=F0 17 d (.int b.toI) c:=by rw[F0_17,F0_17];rfl
theorem tok_inv{d:Dat}{ea:Int}{p:Nat}(hl:d.toS.length<1000000000)(h1:p<d.toS.length){l:aY}(h:@Holds (VL F0 [d,.int 0,.int ea,.int p]) l):
 @Holds (VL F0 [d,.int 0,.int ea,.int p]) ([((eq (D 1) (I 0)),true),((lt (D 3) (I 0)),false),((lt (D 3) (.pr 0 (D 0) (I 0))),true),((lt (.pr 0 (D 0) (I 0)) (I 1000000000)),true)]++l):=
 hcons (eqT (by rw[sD1,sI,tI])) (hcons (ltF (by rw[sD3,sI,tI];omega)) (hcons (ltT (by rw[sD3,sLn,dD0,tI];omega)) (hcons (ltT (by rw[sLn,sI,dD0];omega)) h)))
theorem si0_co{d:Dat}{ea:Int}{p:Nat}(hl:d.toS.length<1000000000)(h1:p<d.toS.length):∀q∈si0c,¬@Holds (VL F0 [d,.int 0,.int ea,.int p]) q:=fun q hq h=>by
 have hle:=sgn_le (d.toS.drop p);rw[List.length_drop]at hle;have hs:d.toS.drop (p:Int).toNat=d.toS.drop p:=by rw[Int.toNat_natCast]
 have ha:aS .add .i64 (p:Int) (sgn (d.toS.drop p):Int)=(p:Int)+(sgn (d.toS.drop p):Int):=add_small (by omega) (by omega);simp only[si0c,da,fg,or_false]at hq;rcases hq with rfl|rfl|rfl|rfl;{have k2:=ltT' (hget (hget h).2).1;rw[sLn,sD3,dD0,tI]at k2;omega};{have k:=ltT' (hget h).1;simp only[sAp,dAp,dD0,dD3,dI,sI,sLn,tI,tS,sD3,dDrop,f14,hs,sBin,ha]at k;omega};{have k:=ltT' (hget (hget (hget h).2).2).1;simp only[sAp,dAp,dD0,dD3,dI,sI,sLn,tI,tS,sD3,dDrop,f14,hs,sBin,ha]at k;omega};have k:=ltT' (hget (hget (hget h).2).2).1;simp only[sAp,dAp,dD0,dD3,dI,sI,sLn,tI,tS,sD3,dDrop,f14,hs,sBin,ha]at k;omega
theorem nm0_co{d:Dat}{ea:Int}{p:Nat}(hl:d.toS.length<1000000000)(h1:p<d.toS.length)(h2:1≤((d.toS.drop p).takeWhile parB).length):∀q∈nm0c,¬@Holds (VL F0 [d,.int 0,.int ea,.int p]) q:=fun q hq h=>by
 obtain⟨r,hr⟩:∃r,r=(d.toS.drop p).takeWhile parB:=⟨_,rfl⟩;rw[←hr]at h2;have h23:∀c,F0 23 d (.int (p:Int)) c=.str r:=fun c=>by rw[hr];exact f23 (by omega) hl rfl
 have hlr:r.length≤d.toS.length:=by have:=tw_len parB (d.toS.drop p);rw[←hr,List.length_drop]at this;omega
 obtain⟨a1,a2,a3,a4,a5⟩:=nm_facts (r:=r) (by omega) h2 (by rw[hr];exact tw_all _ _);have t22:∀x y,F0 22 (.str r) x y=nmT r:=fun x y=>F0_22.trans F0_22.symm;have t21:∀x y,F0 21 (.str r) x y=nmD r:=fun x y=>F0_21.trans F0_21.symm;have t20:∀x y,F0 20 (.str r) x y=nmB r:=fun x y=>F0_20.trans F0_20.symm;simp only[nm0c,da,fg,or_false]at hq;rcases hq with rfl|rfl|rfl|rfl|rfl|rfl|rfl;{have k:=ltT' (hget h).1;simp only[sAp,dAp,dD0,dD3,dI,sI,sLn,tI,tS,h23]at k;omega};{have k:=ltT' (hget h).1;simp only[sAp,dAp,dD0,dD3,dI,sI,sLn,tI,tS,h23,t20]at k;omega};{have k:=ltT' (hget h).1;simp only[sAp,dAp,dD0,dD3,dI,sI,sLn,tI,tS,h23,t20]at k;omega};{have k:=ltF' (hget h).1;simp only[sAp,dAp,dD0,dD3,dI,sI,sLn,tI,tS,h23,t21]at k;omega};{have k:=eqF' (hget h).1;simp only[sAp,dAp,dD0,dD3,dI,sI,sLn,tI,tS,h23,t22,a5]at k;exact k trivial};{have k:=ltF' (hget h).1;simp only[sAp,dAp,dD0,dD3,dI,sI,sLn,tI,tS,h23,t22]at k;omega};have k:=ltF' (hget h).1;simp only[sAp,dAp,dD0,dD3,dI,sI,sLn,tI,tS,h23]at k;omega
end
end Go.Tw.LX
set_option linter.all false
namespace Go.Tw.LX
noncomputable section
theorem qu_lpU{d:Dat}{p q:Int}(hp:0≤p)(hp2:p<d.toS.length)(hl:d.toS.length<1000000000):∀(m t:Nat) (rows:List (List Dat)) (y:Int),d.toS.length - t≤m→t≤d.toS.length→rows.length≤t→p<t→
 ∃(T:Nat) (L:List (List Dat)) (y':Int),(p<T∧T≤d.toS.length∧∀ea,fD (qu5.tr F0 14) muQu (st14 d ea p rows y q t)=(2,st14 d ea p L y' q T))∨
  (∀ea,fD (qu5.tr F0 14) muQu (st14 d ea p rows y q t)=(1,[d,.int 10,.int T,.int 5,.int p,.int 0,.int 0,.lst L,.int y',.int 0,.int 0,.int 0,.int 0,.int 0])):=by
 intro m
 induction m with
 |zero=>intro t rows y hm ht hr hpt;refine⟨t,rows,y,.inl ⟨hpt,ht,fun ea=> ?_⟩⟩;have e:=qu5_end (d:=d) (ea:=ea) (p:=p) (y:=y) (q:=q) (t:=t) (rows:=rows) (fun h=>by omega);rw[cy (by rw[e];simp),e]
 |succ m ih=>
  intro t rows y hm ht hr hpt;by_cases h:(t:Int)<d.toS.length∧atI d.toS (t:Int).toNat≠q
  ·cases hq:qst (d.toS.drop (t:Int).toNat)with
   |none=>refine⟨t,rows,y,.inr fun ea=> ?_⟩;have e:=qu5_bad (d:=d) (ea:=ea) (p:=p) (y:=y) (q:=q) (t:=t) (rows:=rows) (by omega) hl h.1 h.2 hq;rw[cy (by rw[e];simp),e]
   |some z=>obtain⟨x,k⟩:=z;have hb:=qst_bd hq;rw[List.length_drop,Int.toNat_natCast]at hb;obtain⟨T,L,y',hh⟩:=ih (t+k) (rows++[[x]]) 1 (by omega) (by omega) (by simp only[fG,List.length_cons,List.length_nil];omega) (by omega);have e:∀ea,fD (qu5.tr F0 14) muQu (st14 d ea p rows y q t)=fD (qu5.tr F0 14) muQu (st14 d ea p (rows++[[x]]) 1 q ((t+k:Nat):Int)):=fun ea=>(by have e:=qu5_on (d:=d) (ea:=ea) (p:=p) (y:=y) (q:=q) (t:=t) (rows:=rows) (by omega) hl (by omega) h.1 h.2 hq;have e2:(t:Int)+k=((t+k:Nat):Int):=(by omega);rw[e2]at e;rw[iw qu_mea ⟨d,ea,p,rows,y,q,t,rfl,hp,hp2,by omega,by omega,by omega,hl⟩ (by rw[e]),e]);refine⟨T,L,y',?_⟩;rcases hh with⟨a,b,c⟩|c;{exact .inl ⟨a,b,fun ea=>by rw[e];exact c ea⟩};exact .inr fun ea=>by rw[e];exact c ea
  refine⟨t,rows,y,.inl ⟨hpt,ht,fun ea=> ?_⟩⟩;have e:=qu5_end (d:=d) (ea:=ea) (p:=p) (y:=y) (q:=q) (t:=t) (rows:=rows) h;rw[cy (by rw[e];simp),e]
theorem qu_all{d:Dat}{p:Nat}(hl:d.toS.length<1000000000)(h1:p<d.toS.length):∃(er kd sz nu:Int) (L:List (List Dat)),∀ea,∃(ea':Int) (z:List Dat),spQu F0 [d,.int 0,.int ea,.int p]=(1,d:: .int er:: .int ea':: .int kd:: .int p:: .int sz:: .int nu:: .lst L::z):=by obtain⟨T,L,y',⟨a,b,c⟩|c⟩:=qu_lpU (d:=d) (p:=p) (q:=atI d.toS p) (by omega) (by omega) hl _ (p+1) [] 0 (aw _) (by omega) (by simp) (by omega);{by_cases h2:(T:Int)<d.toS.length;{refine⟨qE (atI d.toS p) L,qK (atI d.toS p) L,(T:Int)+1 - p,qN (atI d.toS p) L,qB (atI d.toS p) L,fun ea=> ?_⟩;obtain⟨ea',y2,e2,_⟩:=qu7_tr (d:=d) (ea:=ea) (p:=p) (y:=y') (q:=atI d.toS p) (t:=T) (rows:=L) (by omega) a h2 hl;exact⟨ea',_,by rw[qu_start hl h1,bind_go (unX_at (c ea)),e2]⟩};exact⟨4,5,0,0,L,fun ea=>⟨p,_,by rw[qu_start hl h1,bind_go (unX_at (c ea)),qu7_no h2]⟩⟩};exact⟨10,5,0,0,L,fun ea=>⟨T,_,by rw[qu_start hl h1,bind_no (unX_ne (c ea) (by simp)) (by simp)]⟩⟩
theorem qu5_inv(s:List Dat)(h:JQu s):@Holds (VL F0 s) qu5v:=by obtain⟨d,ea,p,rows,y,q,t,rfl,h1,h2,h3,h4,h5,h6⟩:=h;unfold st14;exact hcons (ltF (by rw[sD13,sI,tI];omega)) (hcons (eqT (by rw[sD1,sI,tI])) (hcons (ltF (by rw[sD3,sI,tI];omega)) (hcons (ltT (by rw[sD3,sLn,dD0,tI];omega)) (hcons (ltT (by rw[sLn,sI,dD0];omega)) hnil))))
theorem qu5_co(s:List Dat)(h:JQu s):∀q∈qu5c,¬@Holds (VL F0 s) q:=fun q hq hh=>by obtain⟨d,ea,p,rows,y,q',t,rfl,h1,h2,h3,h4,h5,h6⟩:=h;unfold st14 at hh;simp only[qu5c,da,fg,or_false]at hq;rcases hq with rfl|rfl|rfl;{have k1:=ltT' (hget hh).1;have k2:=ltT' (hget (hget hh).2).1;rw[sD13,sLn,dD0]at k1 k2;omega};{have k1:=ltF' (hget hh).1;rw[sL,dD10,sI,tL]at k1;omega};have k1:=ltF' (hget hh).1;rw[sLn,dDrop,dD0,sI,tS,List.length_drop]at k1;omega
theorem qu7_co(s:List Dat):∀q∈qu7c,¬@Holds (VL F0 s) q:=fun q hq hh=>by simp only[qu7c,da,fg,or_false]at hq;subst hq;have k1:=eqT' (hget hh).1;have k2:=ltF' (hget (hget hh).2).1;rw[sI]at k1 k2;omega
theorem sk2_inv(s:List Dat)(h:JSk s):@Holds (VL F0 s) sk2v:=by obtain⟨d,e,ea,p,rfl,h1,h2⟩:=h;exact hcons (ltF (by rw[sD3,sI,tI];omega)) (hcons (ltT (by rw[sLn,sI,dD0];omega)) hnil)
theorem sk2_co(s:List Dat)(h:JSk s):∀q∈sk2c,¬@Holds (VL F0 s) q:=fun q hq hh=>by obtain⟨d,e,ea,p,rfl,h1,h2⟩:=h;simp only[sk2c,da,fg,or_false]at hq;rcases hq with rfl|rfl|rfl;{have k1:=ltT' (hget hh).1;have k2:=ltT' (hget (hget hh).2).1;rw[sD3,sLn,dD0]at k1 k2;omega};{have k1:=ltF' (hget hh).1;simp only[sLn,dDrop,dD0,sI,tS,List.length_drop]at k1;omega};have k1:=ltT' (hget (hget hh).2).1;have k2:=ltF' (hget (hget (hget hh).2).2).1;simp only[sLn,dDrop,dD0,sI,tS,List.length_drop,sD3,tI]at k1 k2;omega
end
end Go.Tw.LX
set_option linter.all false
namespace Go.Tw.LX
noncomputable section
def J6s(s:List Dat):Prop:=∃d ea rows y,∃p:Nat,s=S9 d 0 ea rows y p∧p<d.toS.length∧rows.length≤p∧d.toS.length<1000000000
def J7s(s:List Dat):Prop:=∃d ea rows y,∃p:Nat,∃c,s=S15 d (wOf c) ea rows y p∧d.toS[p]? =some c∧rows.length≤p∧d.toS.length<1000000000
theorem sc6_j(s:List Dat)(hs:JSc s)(h:(sc6.tr F0 9 s).1=0):J6s (sc6.tr F0 9 s).2:=by obtain⟨d,e,ea,rows,y,p,rfl,h1,h2,h3⟩:=hs;rw[sc6_tr]at h⊢;by_cases k:(p:Int)<d.toS.length∧e=0;{rw[if_pos k];obtain⟨k1,rfl⟩:=k;exact⟨d,ea,rows,y,p,rfl,by omega,h2 rfl,h3⟩};rw[if_neg k]at h;cases h
theorem sc7_j(s:List Dat)(hs:J6s s):J7s (sc7.tr F0 15 s).2:=by obtain⟨d,ea,rows,y,p,rfl,h1,h2,h3⟩:=hs;obtain⟨c,_,_,hc⟩:=headE h1;rw[sc7_tr h3 hc];exact⟨d,ea,rows,y,p,c,rfl,hc,h2,h3⟩
theorem sc6_inv(s:List Dat)(hs:JSc s):@Holds (VL F0 s) sc6v:=by obtain⟨d,e,ea,rows,y,p,rfl,h1,h2,h3⟩:=hs;unfold S9;exact hcons (ltF (by rw[sD8,sI,tI];omega)) hnil
theorem sc7_inv(s:List Dat)(hs:J6s s):@Holds (VL F0 s) sc7v:=by obtain⟨d,ea,rows,y,p,rfl,h1,h2,h3⟩:=hs;unfold S9;exact hcons (ltF (by rw[sD8,sI,tI];omega)) (hcons (ltT (by rw[sD8,sLn,dD3,tI];omega)) (hcons (eqT (by rw[sD4,sI,tI])) hnil))
theorem sc7_co(s:List Dat)(hs:J6s s):∀q∈sc7c,¬@Holds (VL F0 s) q:=fun q hq hh=>by obtain⟨d,ea,rows,y,p,rfl,h1,h2,h3⟩:=hs;simp only[sc7c,da,fg,or_false]at hq;subst hq;have k:=ltF' (hget hh).1;unfold S9 at k;rw[sLn,dD3,sI]at k;omega
theorem sc8_co(s:List Dat)(hs:J7s s):∀q∈sc8c,¬@Holds (VL F0 s) q:=fun q hq hh=>by obtain⟨d,ea,rows,y,p,c,rfl,hc,h2,h3⟩:=hs;have h1:=(List.getElem?_eq_some_iff.1 hc).1;obtain⟨z,er,z1,z2,_⟩:=tok_any h3 hc (.int 0);simp only[sc8c,da,fg,or_false]at hq;unfold S15 at hh;rw[z1]at hh;rcases hq with rfl|rfl|rfl;{have k:=ltT' (hget hh).1;rw[sBin,sD8,sD11,sI,tI,tI,tI,add_small (by omega) (by omega)]at k;omega};{have k:=ltF' (hget hh).1;rw[sLn,dD3,sI]at k;omega};have k:=ltF' (hget hh).1;rw[sL,dD6,sI,tL]at k;omega
theorem sc4_co(d:Dat)(z:List Dat)(h4:d.toS.length<4001)(x y w:Dat):∀q∈sc4c,¬@Holds (VL F0 (x::y::w::d::z)) q:=fun q hq hh=>by simp only[sc4c,da,fg,or_false]at hq;subst hq;have k:=ltF' (hget hh).1;rw[sLn,dD3,sI]at k;omega
end
end Go.Tw.LX
set_option linter.all false
namespace Go.Tw.LX
noncomputable section
theorem lw_cells{d:Dat}{L:List (List Dat)}{e k:Nat}(hc:Ch d e (L.drop k)):∃c1 c2:Nat,(Dat.lst L).cell (k:Int) 1=.int c1∧(Dat.lst L).cell (k:Int) 2=.int c2∧c1+c2≤d.toS.length:=by
 cases hd:L.drop k with
 |nil=>
  have e1:L[k]? =none:=bH (List.drop_eq_nil_iff.1 hd);have key:∀i,(Dat.lst L).cell (k:Int) i=.int 0:=fun i=>by
   show(match(match(Dat.lst L).toL[(k:Int).toNat]? with
    |some r=>r
    |none=>[])[i]? with
    |some c=>c
    |none=>.int 0)=_
   rw[Int.toNat_natCast,show(Dat.lst L).toL=L from rfl,e1];rfl
  exact⟨0,0,key 1,key 2,by omega⟩
 |cons r l=>
  rw[hd]at hc;cases hc with
  |@cons _ n t c _ g h0 hc ht hz hb k2=>exact⟨e+n,t.z,cell_at hd 1,cell_at hd 2,hb⟩
theorem lw8_inv(d:Dat)(s:List Dat)(h:JLd d s):@Holds (VL F0 s) lw8v:=by obtain⟨L,e,k,rfl,_⟩:=h;unfold SL;exact hcons (ltF (by rw[sD3,sI,tI];omega)) (hcons (ltF (by rw[sD2,sI,tI];omega)) hnil)
theorem lw8_co(d:Dat)(s:List Dat)(h:JLd d s):∀q∈lw8c,¬@Holds (VL F0 s) q:=fun q hq hh=>by obtain⟨L,e,k,rfl,hc,hk,he,h4,hL⟩:=h;obtain⟨c1,c2,e1,e2,h3⟩:=lw_cells hc;unfold SL at hh;have hs:aS .sub .i64 (d.toS.length:Int) (c1:Int)=(d.toS.length:Int) - c1:=sub_small (by omega) (by omega);have ha:aS .add .i64 (c1:Int) (c2:Int)=(c1:Int)+c2:=add_small (by omega) (by omega);simp only[lw8c,da,fg,or_false]at hq;rcases hq with rfl|rfl|rfl|rfl|rfl|rfl|rfl;{have k1:=ltF' (hget hh).1;have k2:=ltF' (hget (hget hh).2).1;have k3:=ltT' (hget (hget (hget hh).2).2).1;simp only[sCell,dD1,sD3,tI,e1,e2,sI,sBin,sLn,dD0,hs]at k1 k2 k3;omega};{have k3:=ltT' (hget (hget (hget hh).2).2).1;simp only[sCell,dD1,sD3,tI,e1,e2,sI]at k3;omega};{have k3:=ltT' (hget (hget hh).2).1;simp only[sCell,dD1,sD3,tI,e1,e2,sI,sBin,ha]at k3;omega};{have k3:=ltT' (hget (hget hh).2).1;simp only[sCell,dD1,sD3,tI,e1,e2,sI,sBin,ha,sLn,dD0]at k3;omega};{have k1:=eqT' (hget hh).1;have k2:=ltF' (hget (hget hh).2).1;rw[sI]at k1 k2;omega};{have k1:=ltF' (hget hh).1;simp only[sLn,dDrop,dTake,dD0,tS,sI,List.length_drop,List.length_take]at k1;omega};have k1:=ltF' (hget hh).1;simp only[sLn,dDrop,dTake,dD0,tS,sI,List.length_drop,List.length_take]at k1;omega
def JL2(s:List Dat):Prop:=(aJ s 0).toS.length<4001
theorem lw3_co(s:List Dat)(h:JL2 s):∀q∈lw3c,¬@Holds (VL F0 s) q:=fun q hq hh=>by simp only[lw3c,da,fg,or_false]at hq;subst hq;have k:=ltF' (hget hh).1;have h:(aJ s 0).toS.length<4001:=h;rw[sLn,dAtL,sI]at k;omega
def JLe(s:List Dat):Prop:=∃d,∃e:Nat,∃z,s=d:: .int e::z∧e≤d.toS.length∧d.toS.length<4001
theorem lw10_co(s:List Dat)(h:JLe s):∀q∈lw10c,¬@Holds (VL F0 s) q:=fun q hq hh=>by obtain⟨d,e,z,rfl,h1,h2⟩:=h;simp only[lw10c,da,fg,or_false]at hq;subst hq;have k:=ltF' (hget hh).1;simp only[sLn,dDrop,dD0,tS,sI,List.length_drop]at k;omega
theorem lw10_inv(s:List Dat)(h:JLe s):@Holds (VL F0 s) lw10v:=by obtain⟨d,e,z,rfl,h1,h2⟩:=h;exact hcons (ltF (by rw[sD1,sI,tI];omega)) (hcons (ltF (by rw[sD1,sLn,dD0,tI];omega)) hnil)
end
end Go.Tw.LX
