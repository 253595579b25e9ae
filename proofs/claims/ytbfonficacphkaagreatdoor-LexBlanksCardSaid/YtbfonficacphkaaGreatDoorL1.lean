/-
  A part of the law's proof over the abstract evaluator. Conditions: those of each theorem, as it states them.
-/
import Derived.Test.YtbfonficacphkaaGreatDoorB1
set_option linter.all false
namespace Go.Tw.LX
def D(i:Nat):Sx:=.dvar i
def I(n:Int):Sx:=.lit n
def N(e:Sx):Sx:=.pr 30 e (.lit 0)
def lt(a b:Sx):Bx:=.cmp .lss a b
def eq(a b:Sx):Bx:=.cmp .eql a b
def J(a b:Sx):Sx:=.pr 9 a b
def O:Sx:=.pr 13 (.lit 0) (.lit 0)
def ln(x:Sx):Sx:=.pr 0 x (.lit 0)
def A1(f:Nat)(x:Sx):Sx:=.ap f x (.lit 0) (.lit 0)
def A2(f:Nat)(x y:Sx):Sx:=.ap f x y (.lit 0)
def A3(f:Nat)(x y z:Sx):Sx:=.ap f x y z
def FB(s:List Dat):Nat:=(aP s 0).toL.length - (aP s 3).toI.toNat
def zI(s:List Dat):Nat:=(aP s 2).toI.toNat - (aP s 3).toI.toNat
def Ce(s:List Dat):Nat:=(aP s 2).toL.length - (aP s 3).toI.toNat
def RM(s:List Dat):Nat:=(aP s 0).toS.length - (aP s 4).toI.toNat
def Fy(s:List Dat):Nat:=(aP s 0).toS.length - (aP s 3).toI.toNat
def uq(s:List Dat):Nat:=(aP s 0).toS.length - (aP s 13).toI.toNat
def FA(s:List Dat):Nat:=(aP s 9).toI.toNat - (aP s 10).toI.toNat
def Cf(s:List Dat):Nat:=2*((aP s 0).toS.length - (aP s 8).toI.toNat)+(if(aP s 4).toI=0 then 1 else 0)
abbrev bz:Sx:=.pr 14 (I 0) (I 0)
def kk0:ST:=(.leaf [(I 1),(J (.pr 12 (.slit [105,110,116]) bz) (J (.pr 12 (.slit [99,104,97,114]) bz) (J (.pr 12 (.slit [115,104,111,114,116]) bz) (J (.pr 12 (.slit [108,111,110,103]) bz) (J (.pr 12 (.slit [117,110,115,105,103,110,101,100]) bz) (J (.pr 12 (.slit [115,105,103,110,101,100]) bz) (J (.pr 12 (.slit [118,111,105,100]) bz) (J (.pr 12 (.slit [115,116,114,117,99,116]) bz) (J (.pr 12 (.slit [105,102]) bz) (J (.pr 12 (.slit [101,108,115,101]) bz) (J (.pr 12 (.slit [119,104,105,108,101]) bz) (J (.pr 12 (.slit [102,111,114]) bz) (J (.pr 12 (.slit [100,111]) bz) (J (.pr 12 (.slit [114,101,116,117,114,110]) bz) (J (.pr 12 (.slit [98,114,101,97,107]) bz) (J (.pr 12 (.slit [99,111,110,116,105,110,117,101]) bz) (J (.pr 12 (.slit [115,105,122,101,111,102]) bz) (J (.pr 12 (.slit [103,111,116,111]) bz) (J (.pr 12 (.slit [115,119,105,116,99,104]) bz) (J (.pr 12 (.slit [99,97,115,101]) bz) (J (.pr 12 (.slit [100,101,102,97,117,108,116]) bz) O))))))))))))))))))))),(I 1)])
def W7:bS:=[]
abbrev sQ:Sx:=.ap 1 (I 0) (I 0) (I 0)
def W6:bS:=[((D 1),(I 1)),((D 0),sQ),((D 1),(I 1))]
def Hb(F:Fn):gw:=(kk0.tr F 2)
def ss0:ST:=(.leaf [(I 1),(J (.pr 12 (.slit [60,60,61]) bz) (J (.pr 12 (.slit [62,62,61]) bz) (J (.pr 12 (.slit [45,62]) bz) (J (.pr 12 (.slit [43,43]) bz) (J (.pr 12 (.slit [45,45]) bz) (J (.pr 12 (.slit [60,61]) bz) (J (.pr 12 (.slit [62,61]) bz) (J (.pr 12 (.slit [61,61]) bz) (J (.pr 12 (.slit [33,61]) bz) (J (.pr 12 (.slit [38,38]) bz) (J (.pr 12 (.slit [124,124]) bz) (J (.pr 12 (.slit [60,60]) bz) (J (.pr 12 (.slit [62,62]) bz) (J (.pr 12 (.slit [43,61]) bz) (J (.pr 12 (.slit [45,61]) bz) (J (.pr 12 (.slit [42,61]) bz) (J (.pr 12 (.slit [47,61]) bz) (J (.pr 12 (.slit [37,61]) bz) (J (.pr 12 (.slit [38,61]) bz) (J (.pr 12 (.slit [124,61]) bz) (J (.pr 12 (.slit [94,61]) bz) (J (.pr 12 (.slit [40]) bz) (J (.pr 12 (.slit [41]) bz) (J (.pr 12 (.slit [123]) bz) (J (.pr 12 (.slit [125]) bz) (J (.pr 12 (.slit [91]) bz) (J (.pr 12 (.slit [93]) bz) (J (.pr 12 (.slit [59]) bz) (J (.pr 12 (.slit [44]) bz) (J (.pr 12 (.slit [46]) bz) (J (.pr 12 (.slit [45]) bz) (J (.pr 12 (.slit [43]) bz) (J (.pr 12 (.slit [42]) bz) (J (.pr 12 (.slit [47]) bz) (J (.pr 12 (.slit [37]) bz) (J (.pr 12 (.slit [38]) bz) (J (.pr 12 (.slit [124]) bz) (J (.pr 12 (.slit [94]) bz) (J (.pr 12 (.slit [126]) bz) (J (.pr 12 (.slit [33]) bz) (J (.pr 12 (.slit [60]) bz) (J (.pr 12 (.slit [62]) bz) (J (.pr 12 (.slit [61]) bz) (J (.pr 12 (.slit [63]) bz) (J (.pr 12 (.slit [58]) bz) O))))))))))))))))))))))))))))))))))))))))))))),(I 1)])
def V9:bS:=[]
abbrev w7:Sx:=.ap 2 (I 0) (I 0) (I 0)
def V8:bS:=[((D 1),(I 1)),((D 0),w7),((D 1),(I 1))]
def G7(F:Fn):gw:=(ss0.tr F 2)
abbrev mh:ST:=.leaf [(I 1),(I 0)]
abbrev qc:ST:=.leaf [(I 1),(I 1)]
abbrev sF:Bx:=eq (D 0) (I 95)
abbrev wX:Bx:=lt (D 0) (I 123)
abbrev wU:Bx:=lt (D 0) (I 65)
abbrev BB:Bx:=lt (D 0) (I 91)
def le0:ST:=(.ask (lt (D 0) (I 97)) (.ask wU (.ask sF .none mh) (.ask BB qc (.ask sF qc mh))) (.ask wX qc (.ask wU .none (.ask BB .none (.ask sF .none mh)))))
def MX:List bo:=[[(wU,true),(sF,true)],[(wX,false),(wU,true)],[(wX,false),(BB,true)],[(wX,false),(sF,true)]]
abbrev BA:List (Sx×Sx):=[((N (D 0)),(N (D 0)))]
def W0:bS:=BA
abbrev sK:Sx:=.pr 21 (D 0) (I 0)
def WZ:bS:=[(sK,(.pr 21 (.ap 7 (D 0) (I 0) (I 0)) (I 0)))]
def E3(F:Fn):gw:=(le0.tr F 1)
def di0:ST:=(.ask (lt (D 0) (I 48)) mh (.ask (lt (D 0) (I 58)) qc mh))
def XG:bS:=BA
def XF:bS:=[(sK,(.pr 21 (.ap 8 (D 0) (I 0) (I 0)) (I 0)))]
def E5(F:Fn):gw:=(di0.tr F 1)
def ix0:ST:=(.leaf [(I 0),(D 0),(D 2),(D 1)])
abbrev Ie:ST:=.leaf [(I 0),(D 0),(D 1),(D 2),(I 0)]
def ix1:ST:=Ie
abbrev DC:Sx:=N (.bin .add .i64 (D 3) (I 1))
abbrev Ic:ST:=.leaf [(I 0),(D 0),(D 1),(D 2),DC]
abbrev Ib:ST:=.leaf [(I 2),(D 0),(D 1),(I 0),(I 0)]
def ix3:ST:=(.ask (lt (D 3) (bg (D 0))) (.ask (.seq (.dvar 2) (.cell (.dvar 0) (.dvar 3) 0)) (.leaf [(I 1),(D 0),(D 1),(N (D 3)),(I 0)]) Ic) Ib)
abbrev jE:Bx:=lt (D 3) (I 0)
def Sq:bo:=[(jE,false)]
def ix5:ST:=(.leaf [(I 1),(D 0),(D 1),(I (-1))])
def Xc:bS:=[((D 2),(D 2)),((D 1),(D 1)),((D 0),(D 0)),((D 2),(D 2))]
def Xb:bS:=[((N (D 2)),(N (.ap 9 (D 0) (D 1) (D 2)))),((D 0),(D 0)),((D 1),(D 2))]
def yQ(F:Fn):gw:=(aG (ix0.tr F 3) (aG (aG (ix1.tr F 4) (jg 0 (gd (ix3.tr F 4) FB))) (ix5.tr F 3)))
abbrev Ig:ST:=.leaf [(I 0),(D 0),(N (D 1)),(N (D 2))]
def pi0:ST:=Ig
abbrev kW:Sx:=.slit []
def pi1:ST:=(.ask (.seq (.dvar 0) kW) (.leaf [(I 1),(I 0),(I 2),(I 0)]) Ig)
abbrev kU:Bx:=eq (D 1) (I 0)
abbrev Ir:ST:=.leaf [(I 0),(D 0),(N (D 1)),(N (D 2)),(I 0)]
def pi2:ST:=(.ask kU (.leaf [(I 0),(D 0),(N (D 1)),(N (D 2)),(I 1)]) Ir)
abbrev nA:Sx:=.pr 21 (D 3) (I 0)
def pi3:ST:=(.leaf [(I 0),(D 0),(N (D 1)),(N (D 2)),nA,(D 0)])
abbrev w6:Bx:=lt (I 36) (D 1)
abbrev w5:Bx:=lt (D 2) (I 1)
abbrev BL:Bx:=lt (I 64) (D 2)
abbrev BI:Bx:=lt (D 1) (I 2)
abbrev HW:List (Bx×Bool):=[(BI,false),(w6,false),(w5,false),(BL,false)]
abbrev zu:List (Bx×Bool):=HW
def UF:bo:=zu
abbrev HF:ST:=.leaf [(I 0),(D 0),(N (D 1)),(N (D 2)),nA,(D 4)]
def pi4:ST:=(.ask (lt (D 1) (I 37)) HF .none)
def Mr:List bo:=[[(w6,false),((lt (D 1) (I 37)),false)]]
def UD:bo:=zu
abbrev wT:Bx:=eq (D 2) (I 0)
def pi5:ST:=(.ask wT .none (.ask (lt (D 2) (I 0)) .none (.ask (lt (D 2) (I 65)) HF .none)))
def Mq:List bo:=[[(w5,false),(wT,true)],[(w5,false),((lt (D 2) (I 0)),true)],[(BL,false),((lt (D 2) (I 65)),false)]]
def UB:bo:=zu
def pi6:ST:=HF
def UA:bo:=zu
abbrev BK:Sx:=.wrap .u64 (.dvar 1)
def pi7:ST:=(.ask (eq (D 1) (I 10)) (.leaf [(I 0),(D 0),(N (D 1)),(N (D 2)),nA,(D 4),(I 1844674407370955162)]) (.ask (eq (D 1) (I 16)) (.leaf [(I 0),(D 0),(N (D 1)),(N (D 2)),nA,(D 4),(I 1152921504606846976)]) (.ask (eq BK (I 0)) .none (.leaf [(I 0),(D 0),(N (D 1)),(N (D 2)),nA,(D 4),(N (.bin .add .u64 (.bin .quo .u64 (.lit 18446744073709551615) BK) (.lit 1)))]))))
def Mp:List bo:=[[(BI,false),(w6,false),((eq BK (I 0)),true)]]
def Uz:bo:=zu
abbrev BJ:Sx:=.wrap .u64 (.dvar 2)
def pi8:ST:=(.ask (lt BJ (I 0)) .none (.leaf [(I 0),(D 0),(N (D 1)),(N (D 2)),nA,(D 4),(N (D 5)),(N (.bin .sub .u64 (.bin .shl .u64 (.lit 1) BJ) (.lit 1)))]))
def IY:List bo:=[[((lt BJ (I 0)),true)]]
def pi9:ST:=(.leaf [(I 0),(D 0),(N (D 1)),(N (D 2)),nA,(D 4),(N (D 5)),(N (D 6)),(I 0)])
def pi10:ST:=(.leaf [(I 0),(D 0),(N (D 1)),(N (D 2)),nA,(D 4),(N (D 5)),(N (D 6)),(.pr 21 (D 7) (I 0)),(I 0)])
def pi11:ST:=(.leaf [(I 0),(N (D 1)),(N (D 2)),nA,(D 4),(N (D 5)),(N (D 6)),(.pr 21 (D 7) (I 0)),(N (D 8)),(.pr 16 (D 0) (I 0)),(N (bg (.pr 16 (D 0) (I 0)))),(I 0)])
abbrev oO:Sx:=.dvar 10
abbrev IA:Sx:=.cell (.dvar 8) oO 0
abbrev HI:Sx:=.bin .or .u8 IA (.lit 32)
abbrev Iz:Sx:=.bin .add .u8 (.bin .sub .u8 HI (.lit 97)) (.lit 10)
abbrev vb:ST:=.leaf [(I 1),(N (D 5)),(I 1),(I 0),(I 0),(I 0),(I 0),(I 0),(I 0),(I 0),(I 0),(I 0)]
abbrev BH:Sx:=.pr 21 (D 6) (I 0)
abbrev DB:Sx:=.bin .mul .u64 (.dvar 7) (.wrap .u64 (.dvar 0))
abbrev HS:Sx:=.bin .add .u64 DB (.wrap .u64 Iz)
abbrev DE:ST:=.leaf [(I 1),(I 0),(I 2),(I 0),(I 0),(I 0),(I 0),(I 0),(I 0),(I 0),(I 0),(I 0)]
abbrev jF:Sx:=.pr 21 (D 2) (I 0)
abbrev zj:Sx:=N (.bin .add .i64 (D 10) (I 1))
abbrev QQ:ST:=.ask (lt HI (I 97)) DE (.ask (lt HI (I 123)) (.ask (lt Iz (.wrap .u8 (.dvar 0))) (.ask (lt (D 7) (D 4)) (.ask (lt HS DB) vb (.ask (lt (D 5) HS) vb (.leaf [(I 0),(N (D 0)),(N (D 1)),jF,(D 3),(N (D 4)),(N (D 5)),BH,(N HS),(D 8),(N (D 9)),zj]))) vb) DE) DE)
abbrev HZ:Sx:=.bin .sub .u8 IA (.lit 48)
abbrev HQ:Sx:=.bin .add .u64 DB (.wrap .u64 HZ)
abbrev HH:Sx:=.cell (D 8) (D 10) 0
abbrev Bz:Bx:=eq HH (I 95)
abbrev By:Bx:=lt HH (I 48)
abbrev Bw:Bx:=lt HH (I 58)
def pi13:ST:=(.ask (lt (D 10) (D 9)) (.ask (lt (D 10) (bg (D 8))) (.ask Bz (.ask wT (.ask By .none (.ask Bw .none QQ)) (.leaf [(I 0),(N (D 0)),(N (D 1)),jF,(D 3),(N (D 4)),(N (D 5)),(I 1),(N (D 7)),(D 8),(N (D 9)),zj])) (.ask By QQ (.ask Bw (.ask (lt HZ (.wrap .u8 (.dvar 0))) (.ask (lt (D 7) (D 4)) (.ask (lt HQ DB) vb (.ask (lt (D 5) HQ) vb (.leaf [(I 0),(N (D 0)),(N (D 1)),jF,(D 3),(N (D 4)),(N (D 5)),BH,(N HQ),(D 8),(N (D 9)),zj]))) vb) DE) QQ))) .none) (.leaf [(I 5),(N (D 0)),(D 3),BH,(N (D 7)),(I 0),(I 0),(I 0),(I 0),(I 0),(I 0),(I 0)]))
def zy:List bo:=[[(Bz,true),(By,true)],[(Bz,true),(Bw,true)],[((lt (D 10) (D 9)),true),((lt (D 10) (bg (D 8))),false)]]
def sW:bo:=[((lt (D 10) (I 0)),false)]
def pi15:ST:=(.leaf [(I 1),(N (D 3)),(I 0)])
def I9:bo:=[(wT,true)]
abbrev Iq:List (Sx×Sx):=[((D 0),(D 0)),((N (D 1)),(N (D 1))),((N (D 2)),(N (D 2)))]
def WO:bS:=Iq
abbrev sw:Sx:=.ap 0 (D 0) (D 1) (D 2)
abbrev zh:Sx:=N (.ap 10 (D 0) (D 1) (D 2))
def WN:bS:=[((N (D 0)),zh),((D 1),sw)]
def mZ(F:Fn):gw:=(aG (pi0.tr F 3) (aG (pi1.tr F 3) (aG (pi2.tr F 4) (aG (pi3.tr F 5) (aG (pi4.tr F 5) (aG (pi5.tr F 5) (aG (pi6.tr F 5) (aG (pi7.tr F 6) (aG (pi8.tr F 7) (aG (pi9.tr F 8) (aG (pi10.tr F 9) (aG (aG (pi11.tr F 11) (jg 3 (gd (pi13.tr F 11) FA))) (pi15.tr F 2)))))))))))))
def pu0:ST:=(.ask (eq sw (I 0)) (.leaf [(I 1),zh,(I 0)]) (.ask (eq sw (I 2)) (.leaf [(I 1),zh,(I 1)]) (.ask (eq sw (I 1)) (.leaf [(I 1),zh,(I 1)]) .none)))
def Fo:List bo:=[[((eq sw (I 0)),false),((eq sw (I 2)),false),((eq sw (I 1)),false)]]
abbrev db:Sx:=.pr 0 (D 0) (I 0)
abbrev kF:Sx:=I 1000000000
abbrev kT:Bx:=lt db kF
def Ra:bo:=[(BI,false),(w6,false),(w5,false),(BL,false),(kT,true)]
def WK:bS:=Iq
def WJ:bS:=[((N (D 0)),zh),((D 1),(.ap 11 (D 0) (D 1) (D 2)))]
def E0(F:Fn):gw:=(pu0.tr F 2)
def pa0:ST:=(.ask (eq (.ap 8 (D 0) (I 0) (I 0)) (I 0)) (.ask (eq (.ap 7 (D 0) (I 0) (I 0)) (I 0)) mh qc) qc)
def WT:bS:=BA
def WS:bS:=[(sK,(.pr 21 (.ap 12 (D 0) (I 0) (I 0)) (I 0)))]
def E2(F:Fn):gw:=(pa0.tr F 1)
abbrev cW:Sx:=I 1000000001
def ky0:ST:=(.ask (lt (bg sQ) cW) (.ask (lt (.ap 9 sQ (D 0) (I 1)) (I 0)) mh qc) .none)
def M9:List bo:=[[((lt (bg sQ) cW),false)]]
abbrev oQ:List (Sx×Sx):=[((D 0),(D 0))]
def W5:bS:=oQ
def W4:bS:=[(sK,(.pr 21 (.ap 13 (D 0) (I 0) (I 0)) (I 0)))]
def E4(F:Fn):gw:=(ky0.tr F 1)
def sg0:ST:=(.leaf [(I 0),(D 0)])
def sg1:ST:=(.leaf [(I 0),(D 0),w7,(N (bg w7)),(I 0)])
abbrev Dw:Sx:=.pr 0 (.cell (D 1) (D 3) 0) (I 0)
abbrev Il:ST:=.leaf [(I 0),(D 0),(D 1),(N (D 2)),DC]
def sg3:ST:=(.ask (lt (D 3) (D 2)) (.ask (lt (D 3) (bg (D 1))) (.ask (lt db Dw) Il (.ask (lt Dw (I 0)) .none (.ask (.seq (.pr 2 (.dvar 0) (.pr 0 (.cell (.dvar 1) (.dvar 3) 0) (.lit 0))) (.cell (.dvar 1) (.dvar 3) 0)) (.leaf [(I 1),(N Dw),(I 0),(I 0),(I 0)]) Il))) .none) (.leaf [(I 2),(I 0),(I 0),(I 0),(I 0)]))
def LJ:List bo:=[[((lt Dw (I 0)),true)],[((lt (D 3) (D 2)),true),((lt (D 3) (bg (D 1))),false)]]
def PZ:bo:=[(jE,false)]
def sg5:ST:=mh
def Wo:bS:=oQ
def Wn:bS:=[((N (D 0)),(N (.ap 14 (D 0) (I 0) (I 0))))]
def wq(F:Fn):gw:=(aG (sg0.tr F 1) (aG (aG (sg1.tr F 4) (jg 0 (gd (sg3.tr F 4) zI))) (sg5.tr F 1)))
abbrev Iv:ST:=.leaf [(I 0),(D 0),(N (D 1)),(N (D 2)),(N (D 3))]
def sk0:ST:=Iv
abbrev uY:Sx:=.pr 3 (D 0) (D 3)
abbrev p9:Bx:=lt (D 3) db
abbrev BU:ST:=.leaf [(I 1),(D 0),(N (D 1)),(N (D 2)),(N (D 3))]
abbrev oS:Bx:=lt db (D 3)
abbrev w4:Sx:=.pr 0 uY (I 0)
abbrev wZ:Sx:=.pr 3 uY (I 2)
abbrev Iu:ST:=.leaf [(I 2),(D 0),(N (D 1)),(N (D 2)),(N (D 3))]
abbrev Im:Sx:=.pr 2 (.pr 3 (.dvar 0) (.dvar 3)) (.lit 2)
def sk2:ST:=(.ask p9 (.ask kU (.ask oS .none (.ask (lt (I 0) w4) (.ask (lt (.pr 6 (.slit [9,10,13,32]) (.pr 1 uY (I 0))) (I 0)) (.ask (lt w4 (I 2)) BU (.ask (.seq Im (.slit [47,47])) (.ask (lt (.pr 6 uY (I 10)) (I 0)) (.leaf [(I 0),(D 0),(N (D 1)),(N (D 2)),(N (.bin .add .i64 (D 3) w4))]) (.leaf [(I 0),(D 0),(N (D 1)),(N (D 2)),(N (.bin .add .i64 (D 3) (.pr 6 uY (I 10))))])) (.ask (.seq Im (.slit [47,42])) (.ask (lt (.pr 0 wZ (I 0)) kF) (.ask (lt (.ap 3 wZ (I 0) (I 0)) (I 0)) (.leaf [(I 1),(D 0),(I 4),(N (D 3)),(N (D 3))]) (.leaf [(I 0),(D 0),(N (D 1)),(N (D 2)),(N (.bin .add .i64 (D 3) (.bin .add .i64 (.ap 3 wZ (I 0) (I 0)) (I 4))))])) .none) BU))) (.leaf [(I 0),(D 0),(N (D 1)),(N (D 2)),DC])) .none)) Iu) Iu)
def LD:List bo:=[[(p9,true),(oS,true)],[((lt (.pr 0 wZ (I 0)) kF),false)],[(jE,false),(p9,true),((lt (I 0) w4),false)]]
def PD:bo:=[(jE,false),(kT,true)]
def sk4:ST:=BU
abbrev u0:List (Sx×Sx):=[((N (D 3)),(N (D 3))),((D 0),(D 0)),((N (D 1)),(N (D 1))),((N (D 2)),(N (D 2)))]
def Wj:bS:=u0
def Wi:bS:=[((N (D 3)),(N (.ap 15 (D 0) (D 3) (I 0)))),((D 0),(D 0)),((N (D 1)),(N (.ap 16 (D 0) (D 3) (I 0)))),((N (D 2)),(N (.ap 17 (D 0) (D 3) (D 2))))]
def gW(F:Fn):gw:=(aG (sk0.tr F 4) (aG (jg 0 (gd (sk2.tr F 4) Fy)) (sk4.tr F 4)))
abbrev DA:ST:=.leaf [(I 1),(.ap 6 (D 0) (I 0) (I 0)),(I 1)]
abbrev zk:Sx:=.ap 6 (.dvar 0) (.lit 0) (.lit 0)
def sf0:ST:=(.ask (.seq zk (.slit [108,117])) (.leaf [(I 1),(.slit [117,108]),(I 1)]) (.ask (.seq zk kW) DA (.ask (.seq zk (.slit [117])) DA (.ask (.seq zk (.slit [108])) DA (.ask (.seq zk (.slit [117,108])) DA (.leaf [(I 1),kW,(I 0)]))))))
def P6:bo:=[(kT,true),((eq (.ap 5 (D 0) (I 0) (I 0)) (I 1)),true)]
def Wq:bS:=oQ
def Wp:bS:=[((D 0),(.ap 18 (D 0) (I 0) (I 0))),((.pr 21 (D 1) (I 0)),(.pr 21 (.ap 19 (D 0) (I 0) (I 0)) (I 0)))]
def wu(F:Fn):gw:=(sf0.tr F 2)
abbrev BE:Sx:=.pr 3 (D 0) (I 2)
abbrev zi:Sx:=.pr 0 BE (I 0)
abbrev NW:Sx:=.ap 4 BE (.slit [48,49,50,51,52,53,54,55,56,57,97,98,99,100,101,102,65,66,67,68,69,70]) (I 0)
abbrev HJ:Sx:=.bin .sub .i64 zi (.pr 0 NW (I 0))
abbrev IB:Sx:=.ap 4 (D 0) (.slit [48,49,50,51,52,53,54,55,56,57]) (I 0)
abbrev Iw:Sx:=.ap 4 (D 0) (.slit [48,49,50,51,52,53,54,55]) (I 0)
abbrev zt:Sx:=.bin .sub .i64 db (.pr 0 IB (I 0))
abbrev zq:Sx:=.bin .sub .i64 db (.pr 0 Iw (I 0))
abbrev Ud:ST:=.ask (lt (I 0) db) (.ask (eq (.pr 1 (D 0) (I 0)) (I 48)) (.ask (lt zq (I 0)) .none (.ask (lt db zq) .none (.leaf [(I 1),(I 8),(.pr 2 (D 0) zq),Iw]))) (.ask (lt zt (I 0)) .none (.ask (lt db zt) .none (.leaf [(I 1),(I 10),(.pr 2 (D 0) zt),IB])))) .none
abbrev N1:ST:=.ask (lt zi kF) (.ask (lt HJ (I 0)) .none (.ask (lt zi HJ) .none (.leaf [(I 1),(I 16),(.pr 2 BE HJ),NW]))) .none
abbrev wR:Bx:=lt db (I 2)
def sp0:ST:=(.ask wR Ud (.ask (.seq (.pr 2 (.dvar 0) (.lit 2)) (.slit [48,120])) N1 (.ask (.seq (.pr 2 (.dvar 0) (.lit 2)) (.slit [48,88])) N1 Ud)))
def Ly:List bo:=[[((lt zq (I 0)),true)],[((lt db zq),true)],[((lt zt (I 0)),true)],[((lt db zt),true)],[((lt db (I 1)),false),((lt (I 0) db),false)],[((lt HJ (I 0)),true)],[((lt zi HJ),true)],[((lt zi kF),false)],[(wR,false),((lt (I 0) db),false)]]
def Pg:bo:=[(kT,true),((lt db (I 1)),false)]
def Wc:bS:=oQ
def Wb:bS:=[((N (D 0)),(N (.ap 20 (D 0) (I 0) (I 0)))),((D 1),(.ap 21 (D 0) (I 0) (I 0))),((D 2),(.ap 22 (D 0) (I 0) (I 0)))]
def mA(F:Fn):gw:=(sp0.tr F 3)
def rn0:ST:=Iv
def rn1:ST:=(.leaf [(I 0),(D 0),(N (D 1)),(N (D 2)),(N (D 3)),(N (D 3))])
abbrev IC:ST:=.leaf [(I 2),(D 0),(N (D 1)),(N (D 2)),(N (D 3)),(N (D 4))]
def rn3:ST:=(.ask (lt (D 4) db) (.ask (eq (.ap 12 (.pr 1 (D 0) (D 4)) (I 0) (I 0)) (I 0)) IC (.leaf [(I 0),(D 0),(N (D 1)),(N (D 2)),(N (D 3)),(N (.bin .add .i64 (D 4) (I 1)))])) IC)
def QM:bo:=[((lt (D 4) (I 0)),false)]
def rn5:ST:=(.leaf [(I 1),(D 0),(N (D 1)),(N (D 2)),(.pr 3 (.pr 2 (D 0) (D 4)) (D 3))])
def QK:bo:=[(jE,false),((lt (D 4) (D 3)),false),((lt db (D 4)),false)]
def WE:bS:=u0
abbrev wM:Sx:=.ap 23 (D 0) (D 3) (I 0)
def WD:bS:=[((D 3),wM)]
def yP(F:Fn):gw:=(aG (rn0.tr F 4) (aG (rn1.tr F 5) (aG (jg 0 (gd (rn3.tr F 5) RM)) (rn5.tr F 4))))
abbrev uU:ST:=.leaf [(I 1),(I 0),(I 0)]
abbrev qb:Sx:=.pr 1 (D 0) (I 1)
abbrev BO:Sx:=.pr 3 (.pr 2 (D 0) (I 4)) (I 2)
def es0:ST:=(.ask wR uU (.ask (lt (I 1) db) (.ask (eq qb (I 120)) (.ask (lt db (I 4)) uU (.ask (lt (I 2) db) (.ask (eq (.ap 12 (.pr 1 (D 0) (I 2)) (I 0) (I 0)) (I 0)) uU (.ask (lt (I 3) db) (.ask (eq (.ap 12 (.pr 1 (D 0) (I 3)) (I 0) (I 0)) (I 0)) uU (.ask (lt (.pr 0 BO (I 0)) kF) (.ask (eq (.ap 11 BO (I 16) (I 8)) (I 0)) (.leaf [(I 1),(N (.wrap .u8 (.ap 10 (.pr 3 (.pr 2 (.dvar 0) (.lit 4)) (.lit 2)) (.lit 16) (.lit 8)))),(I 4)]) uU) .none)) .none)) .none)) (.ask (eq qb (I 110)) (.leaf [(I 1),(I 10),(I 2)]) (.ask (eq qb (I 116)) (.leaf [(I 1),(I 9),(I 2)]) (.ask (eq qb (I 114)) (.leaf [(I 1),(I 13),(I 2)]) (.ask (eq qb (I 48)) (.leaf [(I 1),(I 0),(I 2)]) (.ask (eq qb (I 92)) (.leaf [(I 1),(I 92),(I 2)]) (.ask (eq qb (I 39)) (.leaf [(I 1),(I 39),(I 2)]) (.ask (eq qb (I 34)) (.leaf [(I 1),(I 34),(I 2)]) uU)))))))) .none))
def Nt:List bo:=[[((lt (.pr 0 BO (I 0)) kF),false)],[((lt db (I 4)),false),((lt (I 3) db),false)],[((lt db (I 4)),false),((lt (I 2) db),false)],[(wR,false),((lt (I 1) db),false)]]
def SN:bo:=[(kT,true)]
def XD:bS:=oQ
def XC:bS:=[((N (D 0)),(N (.ap 24 (D 0) (I 0) (I 0)))),((N (D 1)),(N (.ap 25 (D 0) (I 0) (I 0))))]
def wv(F:Fn):gw:=(es0.tr F 2)
abbrev p8:Sx:=.pr 0 wM (I 0)
def wd0:ST:=(.ask (eq (.ap 13 wM (I 0) (I 0)) (I 0)) (.leaf [(I 1),(D 0),(N (D 1)),(N (D 2)),(I 1),(N (D 3)),(N p8),wM]) (.leaf [(I 1),(D 0),(N (D 1)),(N (D 2)),(I 2),(N (D 3)),(N p8),wM]))
abbrev sJ:Sx:=.pr 1 (D 0) (D 3)
def OQ:bo:=[(kU,true),(jE,false),(p9,true),(kT,true),((eq (.ap 7 sJ (I 0) (I 0)) (I 0)),false)]
def V1:bS:=u0
def V0:bS:=[((D 0),(D 0)),((N (D 1)),(N (.ap 31 (D 0) (D 3) (I 0)))),((N (D 2)),(N (.ap 32 (D 0) (D 3) (D 2)))),((N (D 3)),(N (.ap 26 (D 0) (D 3) (I 0)))),((N (D 4)),(N (D 3))),((N (D 5)),(N (.ap 27 (D 0) (D 3) (I 0)))),((D 6),(.ap 28 (D 0) (D 3) (I 0))),((I 0),(N (.ap 29 (D 0) (D 3) (I 0)))),(O,(.ap 30 (D 0) (D 3) (I 0)))]
def kE(F:Fn):gw:=(wd0.tr F 7)
abbrev sR:Sx:=.ap 14 uY (I 0) (I 0)
abbrev zv:Sx:=.bin .add .i64 (D 3) sR
abbrev wQ:Bx:=lt db zv
abbrev H5:Sx:=.pr 3 (.pr 2 (D 0) zv) (D 3)
def si0:ST:=(.ask oS .none (.ask (eq sR (I 0)) (.ask (lt zv (D 3)) .none (.ask wQ .none (.leaf [(I 1),(D 0),(I 10),(N (D 3)),(N (D 3)),(N sR),H5]))) (.ask (lt zv (D 3)) .none (.ask wQ .none (.leaf [(I 1),(D 0),(N (D 1)),(N (D 2)),(N (D 3)),(N sR),H5])))))
def LH:List bo:=[[(p9,true),(oS,true)],[((lt zv (D 3)),true)],[(oS,false),((eq sR (I 0)),true),(wQ,true)],[(jE,false),(oS,false),(wQ,true)]]
abbrev BS:List (Bx×Bool):=[(kU,true),(jE,false),(p9,true),(kT,true)]
def PK:bo:=BS
def Wl:bS:=u0
def Wk:bS:=[((D 0),(D 0)),((N (D 1)),(N (.ap 38 (D 0) (D 3) (I 0)))),((N (D 2)),(N (.ap 39 (D 0) (D 3) (D 2)))),((I 6),(N (.ap 33 (D 0) (D 3) (I 0)))),((N (D 3)),(N (D 3))),((N (D 4)),(N (.ap 34 (D 0) (D 3) (I 0)))),((D 5),(.ap 35 (D 0) (D 3) (I 0))),((I 0),(N (.ap 36 (D 0) (D 3) (I 0)))),(O,(.ap 37 (D 0) (D 3) (I 0)))]
def l9(F:Fn):gw:=(si0.tr F 6)
abbrev HL:Sx:=.ap 23 (.dvar 0) (.dvar 3) (.lit 0)
abbrev uV:Sx:=.ap 22 wM (I 0) (I 0)
abbrev HY:Sx:=.ap 21 HL (.lit 0) (.lit 0)
abbrev NU:Sx:=N (.wrap .i64 (.ap 10 HY (.ap 20 HL (.lit 0) (.lit 0)) (.lit 64)))
abbrev sP:Sx:=.ap 20 wM (I 0) (I 0)
abbrev ID:ST:=.leaf [(I 1),(D 0),(I 10),(N (D 3)),(N (D 3)),(I 0),kW,(I 0)]
abbrev Is:Bx:=lt (.pr 0 (.ap 21 wM (I 0) (I 0)) (I 0)) kF
abbrev Ia:Bx:=eq (.ap 5 uV (I 0) (I 0)) (I 1)
def nm0:ST:=(.ask (lt p8 (I 1)) .none (.ask (lt p8 kF) (.ask (lt (.pr 0 uV (I 0)) kF) (.ask Ia (.ask (eq (.ap 19 uV (I 0) (I 0)) (I 0)) ID (.ask (.seq HY kW) ID (.ask (lt sP (I 2)) .none (.ask (lt (I 36) sP) .none (.ask Is (.ask (eq (.ap 11 (.ap 21 wM (I 0) (I 0)) sP (I 64)) (I 0)) (.leaf [(I 1),(D 0),(N (D 1)),(N (D 2)),(N (D 3)),(N p8),(.ap 18 uV (I 0) (I 0)),NU]) (.leaf [(I 1),(D 0),(I 5),(N (D 3)),(N (D 3)),(N p8),(.ap 18 uV (I 0) (I 0)),NU])) .none))))) .none) .none) .none))
def MI:List bo:=[[((lt p8 (I 1)),true)],[((lt sP (I 2)),true)],[((lt (I 36) sP),true)],[(Is,false)],[(Ia,false)],[((lt (.pr 0 uV (I 0)) kF),false)],[((lt p8 kF),false)]]
def RI:bo:=[(kU,true),(jE,false),(p9,true),(kT,true),((eq (.ap 8 sJ (I 0) (I 0)) (I 0)),false)]
def WX:bS:=u0
def WW:bS:=[((D 0),(D 0)),((N (D 1)),(N (.ap 45 (D 0) (D 3) (I 0)))),((N (D 2)),(N (.ap 46 (D 0) (D 3) (D 2)))),((I 3),(N (.ap 40 (D 0) (D 3) (I 0)))),((N (D 3)),(N (D 3))),((N (D 4)),(N (.ap 41 (D 0) (D 3) (I 0)))),((D 5),(.ap 42 (D 0) (D 3) (I 0))),((N (D 6)),(N (.ap 43 (D 0) (D 3) (I 0)))),(O,(.ap 44 (D 0) (D 3) (I 0)))]
def jT(F:Fn):gw:=(nm0.tr F 7)
def qu0:ST:=(.leaf [(I 0),(D 0),(N (D 1)),(N (D 2)),(N (D 3)),(I 0),(I 0),(I 0),O,(I 0)])
def qu1:ST:=(.leaf [(I 0),(D 0),(N (D 1)),(N (D 2)),(N (D 3)),(N (D 4)),(N (D 5)),(N (D 6)),(D 7),(D 8),(N (D 3)),O,(I 0)])
def qu2:ST:=(.leaf [(I 0),(D 0),(N (D 1)),(N (D 2)),(N (D 3)),(N (D 4)),(N (D 5)),(N (D 6)),(D 7),(D 8),(N (D 9)),(D 10),(D 11),(N sJ)])
def Q4:bo:=BS
def qu3:ST:=(.leaf [(I 0),(D 0),(N (D 1)),(N (D 2)),(N (D 3)),(N (D 4)),(N (D 5)),(N (D 6)),(D 7),(D 8),(N (D 9)),(D 10),(D 11),(N (D 12)),DC])
def Uk:bo:=BS
abbrev HO:ST:=.leaf [(I 1),(D 0),(I 10),(N (D 13)),(I 5),(N (D 9)),(I 0),(I 0),(D 10),(D 11),(I 0),(I 0),(I 0),(I 0),(I 0)]
abbrev NZ:ST:=.leaf [(I 2),(D 0),(N (D 1)),(N (D 2)),(N (D 3)),(N (D 4)),(N (D 5)),(N (D 6)),(D 7),(D 8),(N (D 9)),(D 10),(D 11),(N (D 12)),(N (D 13))]
abbrev sN:Sx:=.pr 1 (D 0) (D 13)
abbrev sM:Sx:=.pr 3 (D 0) (D 13)
def qu5:ST:=(.ask (lt (D 13) db) (.ask (eq sN (D 12)) NZ (.ask (eq sN (I 92)) (.ask (lt db (D 13)) .none (.ask (lt (.pr 0 sM (I 0)) kF) (.ask (eq (.ap 25 sM (I 0) (I 0)) (I 0)) HO (.ask (lt (bg (D 10)) cW) (.leaf [(I 0),(D 0),(N (D 1)),(N (D 2)),(N (D 3)),(N (D 4)),(N (D 5)),(N (D 6)),(D 7),(D 8),(N (D 9)),(J (D 10) (J (.pr 12 (.ap 24 sM (I 0) (I 0)) bz) O)),(I 1),(N (D 12)),(N (.bin .add .i64 (D 13) (.ap 25 sM (I 0) (I 0))))]) .none)) .none)) (.ask (lt sN (I 32)) HO (.ask (lt sN (I 127)) (.ask (lt (bg (D 10)) cW) (.leaf [(I 0),(D 0),(N (D 1)),(N (D 2)),(N (D 3)),(N (D 4)),(N (D 5)),(N (D 6)),(D 7),(D 8),(N (D 9)),(J (D 10) (J (.pr 12 sN bz) O)),(I 1),(N (D 12)),(N (.bin .add .i64 (D 13) (I 1)))]) .none) HO)))) NZ)
def Ml:List bo:=[[((lt (D 13) db),true),((lt db (D 13)),true)],[((lt (bg (D 10)) cW),false)],[((lt (.pr 0 sM (I 0)) kF),false)]]
def Q0:bo:=[((lt (D 13) (I 0)),false),(kU,true),(jE,false),(p9,true),(kT,true)]
abbrev HK:Sx:=N (.bin .sub .i64 (.bin .add .i64 (D 13) (I 1)) (D 3))
abbrev IE:ST:=.leaf [(I 1),(D 0),(N (D 1)),(N (D 2)),(I 5),(N (D 9)),HK,(I 0),(D 10),(D 11)]
def qu7:ST:=(.ask (lt (D 13) db) (.ask (eq (D 12) (I 34)) IE (.ask (eq (bg (D 10)) (I 1)) (.ask (lt (I 0) (bg (D 10))) (.leaf [(I 1),(D 0),(N (D 1)),(N (D 2)),(I 4),(N (D 9)),HK,(N (.wrap .i64 (.cell oO (.lit 0) 0))),O,(I 0)]) .none) (.ask kU (.leaf [(I 1),(D 0),(I 10),(N (D 3)),(I 5),(N (D 9)),HK,(I 0),(D 10),(D 11)]) IE))) (.ask kU (.leaf [(I 1),(D 0),(I 4),(N (D 3)),(I 5),(N (D 9)),(I 0),(I 0),(D 10),(D 11)]) (.leaf [(I 1),(D 0),(N (D 1)),(N (D 2)),(I 5),(N (D 9)),(I 0),(I 0),(D 10),(D 11)])))
def Mk:List bo:=[[((eq (bg (D 10)) (I 1)),true),((lt (I 0) (bg (D 10))),false)]]
def WI:bS:=u0
def WH:bS:=[((D 0),(D 0)),((N (D 1)),(N (.ap 52 (D 0) (D 3) (I 0)))),((N (D 2)),(N (.ap 53 (D 0) (D 3) (D 2)))),((N (D 3)),(N (.ap 47 (D 0) (D 3) (I 0)))),((N (D 4)),(N (D 3))),((N (D 5)),(N (.ap 48 (D 0) (D 3) (I 0)))),(kW,(.ap 49 (D 0) (D 3) (I 0))),((N (D 6)),(N (.ap 50 (D 0) (D 3) (I 0)))),((D 7),(.ap 51 (D 0) (D 3) (I 0)))]
def fZ(F:Fn):gw:=(aG (qu0.tr F 9) (aG (qu1.tr F 12) (aG (qu2.tr F 13) (aG (qu3.tr F 14) (aG (jg 0 (gd (qu5.tr F 14) uq)) (qu7.tr F 9))))))
def sc0:ST:=(.leaf [(I 0),(D 0),(I 0),(I 0)])
def sc1:ST:=(.ask (lt db (I 4001)) Ir (.leaf [(I 1),O,(I 0),(I 3),(I 4000)]))
def sc2:ST:=(.leaf [(I 0),(D 0),(N (D 1)),(N (D 2)),(D 0)])
def sc3:ST:=(.leaf [(I 0),(D 0),(N (D 1)),(N (D 2)),(D 3),O,(I 0)])
abbrev nB:Bx:=lt (.pr 0 (D 3) (I 0)) kF
def sc4:ST:=(.ask nB (.leaf [(I 0),(D 0),(N (D 1)),(N (D 2)),(D 3),(N (.ap 16 (D 3) (I 0) (I 0))),(N (.ap 17 (D 3) (I 0) (I 0))),(D 4),(D 5),(N (.ap 15 (D 3) (I 0) (I 0)))]) .none)
def LU:List bo:=[[(nB,false)]]
abbrev IF:ST:=.leaf [(I 2),(N (D 1)),(N (D 2)),(D 3),(N (D 4)),(N (D 5)),(D 6),(D 7),(I 0),(I 0)]
abbrev wS:Bx:=eq (D 4) (I 0)
def sc6:ST:=(.ask (lt (D 8) db) (.ask wS (.leaf [(I 0),(D 0),(N (D 1)),(N (D 2)),(D 3),(N (D 4)),(N (D 5)),(D 6),(D 7),(N (D 8))]) IF) IF)
def Qi:bo:=[((lt (D 8) (I 0)),false)]
abbrev N2:ST:=.ask nB (.leaf [(I 0),(D 0),(N (D 1)),(N (D 2)),(D 3),(N (.ap 52 (D 3) (D 8) (I 0))),(N (.ap 53 (D 3) (D 8) (D 5))),(D 6),(D 7),(N (D 8)),(N (.ap 47 (D 3) (D 8) (I 0))),(N (D 8)),(N (.ap 48 (D 3) (D 8) (I 0))),(.ap 49 (D 3) (D 8) (I 0)),(N (.ap 50 (D 3) (D 8) (I 0))),(.ap 51 (D 3) (D 8) (I 0))]) .none
abbrev wY:Sx:=.pr 1 (D 3) (D 8)
def sc7:ST:=(.ask (eq (.ap 7 wY (I 0) (I 0)) (I 0)) (.ask (eq (.ap 8 wY (I 0) (I 0)) (I 0)) (.ask (eq wY (I 39)) N2 (.ask (eq wY (I 34)) N2 (.ask nB (.leaf [(I 0),(D 0),(N (D 1)),(N (D 2)),(D 3),(N (.ap 38 (D 3) (D 8) (I 0))),(N (.ap 39 (D 3) (D 8) (D 5))),(D 6),(D 7),(N (D 8)),(N (.ap 33 (D 3) (D 8) (I 0))),(N (D 8)),(N (.ap 34 (D 3) (D 8) (I 0))),(.ap 35 (D 3) (D 8) (I 0)),(N (.ap 36 (D 3) (D 8) (I 0))),(.ap 37 (D 3) (D 8) (I 0))]) .none))) (.ask nB (.leaf [(I 0),(D 0),(N (D 1)),(N (D 2)),(D 3),(N (.ap 45 (D 3) (D 8) (I 0))),(N (.ap 46 (D 3) (D 8) (D 5))),(D 6),(D 7),(N (D 8)),(N (.ap 40 (D 3) (D 8) (I 0))),(N (D 8)),(N (.ap 41 (D 3) (D 8) (I 0))),(.ap 42 (D 3) (D 8) (I 0)),(N (.ap 43 (D 3) (D 8) (I 0))),(.ap 44 (D 3) (D 8) (I 0))]) .none)) (.ask nB (.leaf [(I 0),(D 0),(N (D 1)),(N (D 2)),(D 3),(N (.ap 31 (D 3) (D 8) (I 0))),(N (.ap 32 (D 3) (D 8) (D 5))),(D 6),(D 7),(N (D 8)),(N (.ap 26 (D 3) (D 8) (I 0))),(N (D 8)),(N (.ap 27 (D 3) (D 8) (I 0))),(.ap 28 (D 3) (D 8) (I 0)),(N (.ap 29 (D 3) (D 8) (I 0))),(.ap 30 (D 3) (D 8) (I 0))]) .none))
def LP:List bo:=[[(nB,false)]]
def Qf:bo:=[((lt (D 8) (I 0)),false),((lt (D 8) (.pr 0 (D 3) (I 0))),true),(wS,true)]
abbrev NX:Sx:=J (D 6) (J (.pr 12 (D 9) (.pr 12 (D 10) (.pr 12 (D 11) (.pr 12 (D 12) (.pr 12 (D 13) (.pr 12 (D 14) bz)))))) O)
abbrev zg:Sx:=.bin .add .i64 (D 8) (D 11)
def sc8:ST:=(.ask (lt (bg (D 6)) cW) (.ask wS (.ask (lt zg (I 0)) .none (.ask nB (.leaf [(I 0),(D 0),(N (D 1)),(N (D 2)),(D 3),(N (.ap 16 (D 3) zg (I 0))),(N (.ap 17 (D 3) zg (D 5))),NX,(I 1),(N (.ap 15 (D 3) zg (I 0)))]) .none)) (.leaf [(I 0),(D 0),(N (D 1)),(N (D 2)),(D 3),(N (D 4)),(N (D 5)),NX,(I 1),(N (D 8))])) .none)
def LN:List bo:=[[((lt zg (I 0)),true)],[(nB,false)],[((lt (bg (D 6)) cW),false)]]
def sc10:ST:=(.ask (eq (D 3) (I 0)) (.leaf [(I 1),(D 5),(D 6),(N (D 3)),(N (D 4))]) (.leaf [(I 1),O,(I 0),(N (D 3)),(N (D 4))]))
def Wv:bS:=oQ
def Wu:bS:=[((D 0),(.ap 54 (D 0) (I 0) (I 0))),((N (D 2)),(N (.ap 55 (D 0) (I 0) (I 0)))),((N (D 3)),(N (.ap 56 (D 0) (I 0) (I 0))))]
def ma(F:Fn):gw:=(aG (sc0.tr F 3) (aG (sc1.tr F 4) (aG (sc2.tr F 4) (aG (sc3.tr F 6) (aG (aG (sc4.tr F 9) (jg 0 (gd (aG (sc6.tr F 9) (jg 1 (aG (sc7.tr F 15) (sc8.tr F 9)))) Cf))) (sc10.tr F 4))))))
def pc0:ST:=(.ask kU .none (.leaf [(I 1),(N (.bin .rem .i64 (.bin .add .i64 (.bin .rem .i64 (D 0) (D 1)) (D 1)) (D 1)))]))
def Mz:List bo:=[[((lt (D 1) (I 1)),false),(kU,true)]]
def Rs:bo:=[((lt (D 1) (I 1)),false)]
def WR:bS:=[((N (D 0)),(N (D 0))),((N (D 1)),(N (D 1)))]
def WQ:bS:=[((N (D 0)),(N (.ap 57 (D 0) (D 1) (I 0))))]
def E1(F:Fn):gw:=(pc0.tr F 1)
def sm0:ST:=(.leaf [(I 0),(D 1),(D 2),(D 0)])
def sm1:ST:=(.ask (eq (bg (D 2)) (bg (D 0))) (.leaf [(I 0),(D 0),(D 1),(D 2)]) (.leaf [(I 1),(D 0),(D 1),(I 0)]))
def sm2:ST:=Ie
abbrev uX:ST:=.leaf [(I 1),(D 0),(D 1),(I 0),(I 0)]
def sm4:ST:=(.ask (lt (D 3) (bg (D 2))) (.ask (lt (D 3) (bg (D 0))) (.ask (eq (.cell (D 2) (D 3) 0) (.cell (D 0) (D 3) 0)) (.ask (eq (.cell (D 2) (D 3) 1) (.cell (D 0) (D 3) 1)) (.ask (eq (.cell (D 2) (D 3) 2) (.cell (D 0) (D 3) 2)) (.ask (.seq (.cell (.dvar 2) (.dvar 3) 3) (.cell (.dvar 0) (.dvar 3) 3)) (.ask (eq (.cell (D 2) (D 3) 4) (.cell (D 0) (D 3) 4)) (.ask (.seq (.pr 15 (.cell (.dvar 2) (.dvar 3) 5) (.lit 0)) (.pr 15 (.cell (.dvar 0) (.dvar 3) 5) (.lit 0))) Ic uX) uX) uX) uX) uX) uX) .none) Ib)
def LB:List bo:=[[((lt (D 3) (bg (D 2))),true),((lt (D 3) (bg (D 0))),false)]]
def Pp:bo:=[(jE,false)]
def sm6:ST:=(.leaf [(I 1),(D 0),(D 1),(I 1)])
def Wg:bS:=[((D 0),(D 0)),((D 2),(D 2)),((D 1),(D 1)),((D 2),(D 2))]
def Wf:bS:=[(jF,(.pr 21 (.ap 58 (D 0) (D 1) (D 2)) (I 0))),((D 0),(D 1)),((D 1),(D 2))]
def uj(F:Fn):gw:=(aG (sm0.tr F 3) (aG (sm1.tr F 3) (aG (aG (sm2.tr F 4) (jg 0 (gd (sm4.tr F 4) Ce))) (sm6.tr F 3))))
def cL(x:List UInt8):List UInt8→Nat→Int
 |[],n=>if x.isEmpty then n else -1
 |c::l,n=>if x.isPrefixOf (c::l)then n else cL x l (n+1)
def FO(c:UInt8):UInt8:=if 65≤c.toNat∧c.toNat≤90 then c+32 else c
def Fa:Fn:=fun n a b c=>match n with
 |0=>.int (aP (mZ (fun _ _ _ _=>.int 0) [a,.int b.toI,.int c.toI]).2 1).toI
 |1=>aP (Hb (fun _ _ _ _=>.int 0) []).2 0
 |2=>aP (G7 (fun _ _ _ _=>.int 0) []).2 0
 |3=>.int (cL [42,47] a.toS 0)
 |4=>.str (a.toS.dropWhile fun x=>b.toS.contains x)
 |5=>.int (if a.toS.all fun x=>decide (x.toNat<128)then 1 else 0)
 |6=>.str (a.toS.map FO)
 |7=>.int (aP (E3 (fun _ _ _ _=>.int 0) [.int a.toI]).2 0).toI
 |8=>.int (aP (E5 (fun _ _ _ _=>.int 0) [.int a.toI]).2 0).toI
 |9=>.int (aP (yQ (fun _ _ _ _=>.int 0) [a,b,c]).2 2).toI
 |10=>.int (aP (mZ (fun _ _ _ _=>.int 0) [a,.int b.toI,.int c.toI]).2 0).toI
 |57=>.int (aP (E1 (fun _ _ _ _=>.int 0) [.int a.toI,.int b.toI]).2 0).toI
 |58=>.int (aP (uj (fun _ _ _ _=>.int 0) [a,b,c]).2 2).toI
 |_=>.int 0
def mc:Fn:=fun n a b c=>match n with
 |11=>aP (E0 Fa [a,.int b.toI,.int c.toI]).2 1
 |n=>Fa n a b c
def Fb:Fn:=fun n a b c=>match n with
 |12=>.int (aP (E2 mc [.int a.toI]).2 0).toI
 |13=>.int (aP (E4 mc [a]).2 0).toI
 |14=>.int (aP (wq mc [a]).2 0).toI
 |15=>.int (aP (gW mc [a,.int 0,.int 0,.int b.toI]).2 3).toI
 |16=>.int (aP (gW mc [a,.int 0,.int 0,.int b.toI]).2 1).toI
 |17=>.int (aP (gW mc [a,.int 0,.int c.toI,.int b.toI]).2 2).toI
 |18=>aP (wu mc [a]).2 0
 |19=>.int (aP (wu mc [a]).2 1).toI
 |20=>.int (aP (mA mc [a]).2 0).toI
 |21=>aP (mA mc [a]).2 1
 |22=>aP (mA mc [a]).2 2
 |n=>mc n a b c
def Fc:Fn:=fun n a b c=>match n with
 |23=>aP (yP Fb [a,.int 0,.int 0,.int b.toI]).2 3
 |24=>.int (aP (wv Fb [a]).2 0).toI
 |25=>.int (aP (wv Fb [a]).2 1).toI
 |n=>Fb n a b c
def Fd:Fn:=fun n a b c=>match n with
 |26=>.int (aP (kE Fc [a,.int 0,.int 0,.int b.toI]).2 3).toI
 |27=>.int (aP (kE Fc [a,.int 0,.int 0,.int b.toI]).2 5).toI
 |28=>aP (kE Fc [a,.int 0,.int 0,.int b.toI]).2 6
 |29=>.int 0
 |30=>.lst []
 |31=>.int (aP (kE Fc [a,.int 0,.int 0,.int b.toI]).2 1).toI
 |32=>.int (aP (kE Fc [a,.int 0,.int c.toI,.int b.toI]).2 2).toI
 |33=>.int 6
 |34=>.int (aP (l9 Fc [a,.int 0,.int 0,.int b.toI]).2 4).toI
 |35=>aP (l9 Fc [a,.int 0,.int 0,.int b.toI]).2 5
 |36=>.int 0
 |37=>.lst []
 |38=>.int (aP (l9 Fc [a,.int 0,.int 0,.int b.toI]).2 1).toI
 |39=>.int (aP (l9 Fc [a,.int 0,.int c.toI,.int b.toI]).2 2).toI
 |40=>.int 3
 |41=>.int (aP (jT Fc [a,.int 0,.int 0,.int b.toI]).2 4).toI
 |42=>aP (jT Fc [a,.int 0,.int 0,.int b.toI]).2 5
 |43=>.int (aP (jT Fc [a,.int 0,.int 0,.int b.toI]).2 6).toI
 |44=>.lst []
 |45=>.int (aP (jT Fc [a,.int 0,.int 0,.int b.toI]).2 1).toI
 |46=>.int (aP (jT Fc [a,.int 0,.int c.toI,.int b.toI]).2 2).toI
 |47=>.int (aP (fZ Fc [a,.int 0,.int 0,.int b.toI]).2 3).toI
 |48=>.int (aP (fZ Fc [a,.int 0,.int 0,.int b.toI]).2 5).toI
 |49=>.str []
 |50=>.int (aP (fZ Fc [a,.int 0,.int 0,.int b.toI]).2 6).toI
 |51=>aP (fZ Fc [a,.int 0,.int 0,.int b.toI]).2 7
 |52=>.int (aP (fZ Fc [a,.int 0,.int 0,.int b.toI]).2 1).toI
 |53=>.int (aP (fZ Fc [a,.int 0,.int c.toI,.int b.toI]).2 2).toI
 |n=>Fc n a b c
def F0:Fn:=fun n a b c=>match n with
 |54=>aP (ma Fd [a]).2 0
 |55=>.int (aP (ma Fd [a]).2 2).toI
 |56=>.int (aP (ma Fd [a]).2 3).toI
 |n=>Fd n a b c
end Go.Tw.LX
namespace Go.Tw.LX
abbrev Fz:Fn:=fun _ _ _ _=>.int 0
theorem Tz:∀f,f<11→Fa f=mc f:=fun f hf=>by funext a b c;unfold mc;split<;>first|omega|rfl
theorem OU:∀f,f<12→mc f=Fb f:=fun f hf=>by funext a b c;unfold Fb;split<;>first|omega|rfl
theorem Ty:∀f,f<23→Fb f=Fc f:=fun f hf=>by funext a b c;unfold Fc;split<;>first|omega|rfl
theorem Tx:∀f,f<26→Fc f=Fd f:=fun f hf=>by funext a b c;unfold Fd;split<;>first|omega|rfl
theorem Tv:∀f,f<54→Fd f=F0 f:=fun f hf=>by funext a b c;unfold F0;split<;>first|omega|rfl
theorem mq:∀f,f<54→Fd f=F0 f:=Tv
theorem mr:∀f,f<26→Fc f=F0 f:=fun f hf=>(Tx f hf).trans (mq f (by omega))
theorem vZ:∀f,f<23→Fb f=F0 f:=fun f hf=>(Ty f hf).trans (mr f (by omega))
theorem gU:∀f,f<12→mc f=F0 f:=fun f hf=>(OU f hf).trans (vZ f (by omega))
theorem Vw:∀f,f<11→Fa f=F0 f:=fun f hf=>(Tz f hf).trans (gU f (by omega))
theorem Pd:Hb Fz=Hb F0:=by unfold Hb;rw[ST.tr_congr (F:=Fz) (G:=F0) (fun _ h=>absurd h (Nat.not_lt_zero _)) (sp:=kk0) (nv:=16) (m:=2) (nf:=0) (by kernel_rfl)]
theorem O4:G7 Fz=G7 F0:=by unfold G7;rw[ST.tr_congr (F:=Fz) (G:=F0) (fun _ h=>absurd h (Nat.not_lt_zero _)) (sp:=ss0) (nv:=16) (m:=2) (nf:=0) (by kernel_rfl)]
theorem Pb:E3 Fz=E3 F0:=by unfold E3;rw[ST.tr_congr (F:=Fz) (G:=F0) (fun _ h=>absurd h (Nat.not_lt_zero _)) (sp:=le0) (nv:=16) (m:=1) (nf:=0) (by kernel_rfl)]
theorem Pf:E5 Fz=E5 F0:=by unfold E5;rw[ST.tr_congr (F:=Fz) (G:=F0) (fun _ h=>absurd h (Nat.not_lt_zero _)) (sp:=di0) (nv:=16) (m:=1) (nf:=0) (by kernel_rfl)]
theorem Pe:yQ Fz=yQ F0:=by unfold yQ;rw[ST.tr_congr (F:=Fz) (G:=F0) (fun _ h=>absurd h (Nat.not_lt_zero _)) (sp:=ix0) (nv:=16) (m:=3) (nf:=0) (by kernel_rfl),ST.tr_congr (F:=Fz) (G:=F0) (fun _ h=>absurd h (Nat.not_lt_zero _)) (sp:=ix1) (nv:=16) (m:=4) (nf:=0) (by kernel_rfl),ST.tr_congr (F:=Fz) (G:=F0) (fun _ h=>absurd h (Nat.not_lt_zero _)) (sp:=ix3) (nv:=16) (m:=4) (nf:=0) (by kernel_rfl),ST.tr_congr (F:=Fz) (G:=F0) (fun _ h=>absurd h (Nat.not_lt_zero _)) (sp:=ix5) (nv:=16) (m:=3) (nf:=0) (by kernel_rfl)]
theorem G9:mZ Fz=mZ F0:=by unfold mZ;rw[ST.tr_congr (F:=Fz) (G:=F0) (fun _ h=>absurd h (Nat.not_lt_zero _)) (sp:=pi0) (nv:=16) (m:=3) (nf:=0) (by kernel_rfl),ST.tr_congr (F:=Fz) (G:=F0) (fun _ h=>absurd h (Nat.not_lt_zero _)) (sp:=pi1) (nv:=16) (m:=3) (nf:=0) (by kernel_rfl),ST.tr_congr (F:=Fz) (G:=F0) (fun _ h=>absurd h (Nat.not_lt_zero _)) (sp:=pi2) (nv:=16) (m:=4) (nf:=0) (by kernel_rfl),ST.tr_congr (F:=Fz) (G:=F0) (fun _ h=>absurd h (Nat.not_lt_zero _)) (sp:=pi3) (nv:=16) (m:=5) (nf:=0) (by kernel_rfl),ST.tr_congr (F:=Fz) (G:=F0) (fun _ h=>absurd h (Nat.not_lt_zero _)) (sp:=pi4) (nv:=16) (m:=5) (nf:=0) (by kernel_rfl),ST.tr_congr (F:=Fz) (G:=F0) (fun _ h=>absurd h (Nat.not_lt_zero _)) (sp:=pi5) (nv:=16) (m:=5) (nf:=0) (by kernel_rfl),ST.tr_congr (F:=Fz) (G:=F0) (fun _ h=>absurd h (Nat.not_lt_zero _)) (sp:=pi6) (nv:=16) (m:=5) (nf:=0) (by kernel_rfl),ST.tr_congr (F:=Fz) (G:=F0) (fun _ h=>absurd h (Nat.not_lt_zero _)) (sp:=pi7) (nv:=16) (m:=6) (nf:=0) (by kernel_rfl),ST.tr_congr (F:=Fz) (G:=F0) (fun _ h=>absurd h (Nat.not_lt_zero _)) (sp:=pi8) (nv:=16) (m:=7) (nf:=0) (by kernel_rfl),ST.tr_congr (F:=Fz) (G:=F0) (fun _ h=>absurd h (Nat.not_lt_zero _)) (sp:=pi9) (nv:=16) (m:=8) (nf:=0) (by kernel_rfl),ST.tr_congr (F:=Fz) (G:=F0) (fun _ h=>absurd h (Nat.not_lt_zero _)) (sp:=pi10) (nv:=16) (m:=9) (nf:=0) (by kernel_rfl),ST.tr_congr (F:=Fz) (G:=F0) (fun _ h=>absurd h (Nat.not_lt_zero _)) (sp:=pi11) (nv:=16) (m:=11) (nf:=0) (by kernel_rfl),ST.tr_congr (F:=Fz) (G:=F0) (fun _ h=>absurd h (Nat.not_lt_zero _)) (sp:=pi13) (nv:=16) (m:=11) (nf:=0) (by kernel_rfl),ST.tr_congr (F:=Fz) (G:=F0) (fun _ h=>absurd h (Nat.not_lt_zero _)) (sp:=pi15) (nv:=16) (m:=2) (nf:=0) (by kernel_rfl)]
theorem O9:E1 Fz=E1 F0:=by unfold E1;rw[ST.tr_congr (F:=Fz) (G:=F0) (fun _ h=>absurd h (Nat.not_lt_zero _)) (sp:=pc0) (nv:=16) (m:=1) (nf:=0) (by kernel_rfl)]
theorem O5:uj Fz=uj F0:=by unfold uj;rw[ST.tr_congr (F:=Fz) (G:=F0) (fun _ h=>absurd h (Nat.not_lt_zero _)) (sp:=sm0) (nv:=16) (m:=3) (nf:=0) (by kernel_rfl),ST.tr_congr (F:=Fz) (G:=F0) (fun _ h=>absurd h (Nat.not_lt_zero _)) (sp:=sm1) (nv:=16) (m:=3) (nf:=0) (by kernel_rfl),ST.tr_congr (F:=Fz) (G:=F0) (fun _ h=>absurd h (Nat.not_lt_zero _)) (sp:=sm2) (nv:=16) (m:=4) (nf:=0) (by kernel_rfl),ST.tr_congr (F:=Fz) (G:=F0) (fun _ h=>absurd h (Nat.not_lt_zero _)) (sp:=sm4) (nv:=16) (m:=4) (nf:=0) (by kernel_rfl),ST.tr_congr (F:=Fz) (G:=F0) (fun _ h=>absurd h (Nat.not_lt_zero _)) (sp:=sm6) (nv:=16) (m:=3) (nf:=0) (by kernel_rfl)]
theorem O8:E0 Fa=E0 F0:=by unfold E0;rw[ST.tr_congr (F:=Fa) (G:=F0) (Vw) (sp:=pu0) (nv:=16) (m:=2) (nf:=11) (by kernel_rfl)]
theorem Pa:E2 mc=E2 F0:=by unfold E2;rw[ST.tr_congr (F:=mc) (G:=F0) (gU) (sp:=pa0) (nv:=16) (m:=1) (nf:=12) (by kernel_rfl)]
theorem Pc:E4 mc=E4 F0:=by unfold E4;rw[ST.tr_congr (F:=mc) (G:=F0) (gU) (sp:=ky0) (nv:=16) (m:=1) (nf:=12) (by kernel_rfl)]
theorem O6:wq mc=wq F0:=by unfold wq;rw[ST.tr_congr (F:=mc) (G:=F0) (gU) (sp:=sg0) (nv:=16) (m:=1) (nf:=12) (by kernel_rfl),ST.tr_congr (F:=mc) (G:=F0) (gU) (sp:=sg1) (nv:=16) (m:=4) (nf:=12) (by kernel_rfl),ST.tr_congr (F:=mc) (G:=F0) (gU) (sp:=sg3) (nv:=16) (m:=4) (nf:=12) (by kernel_rfl),ST.tr_congr (F:=mc) (G:=F0) (gU) (sp:=sg5) (nv:=16) (m:=1) (nf:=12) (by kernel_rfl)]
theorem Bh:gW mc=gW F0:=by unfold gW;rw[ST.tr_congr (F:=mc) (G:=F0) (gU) (sp:=sk0) (nv:=16) (m:=4) (nf:=12) (by kernel_rfl),ST.tr_congr (F:=mc) (G:=F0) (gU) (sp:=sk2) (nv:=16) (m:=4) (nf:=12) (by kernel_rfl),ST.tr_congr (F:=mc) (G:=F0) (gU) (sp:=sk4) (nv:=16) (m:=4) (nf:=12) (by kernel_rfl)]
theorem G8:wu mc=wu F0:=by unfold wu;rw[ST.tr_congr (F:=mc) (G:=F0) (gU) (sp:=sf0) (nv:=16) (m:=2) (nf:=12) (by kernel_rfl)]
theorem Bg:mA mc=mA F0:=by unfold mA;rw[ST.tr_congr (F:=mc) (G:=F0) (gU) (sp:=sp0) (nv:=16) (m:=3) (nf:=12) (by kernel_rfl)]
theorem O7:yP Fb=yP F0:=by unfold yP;rw[ST.tr_congr (F:=Fb) (G:=F0) (vZ) (sp:=rn0) (nv:=16) (m:=4) (nf:=23) (by kernel_rfl),ST.tr_congr (F:=Fb) (G:=F0) (vZ) (sp:=rn1) (nv:=16) (m:=5) (nf:=23) (by kernel_rfl),ST.tr_congr (F:=Fb) (G:=F0) (vZ) (sp:=rn3) (nv:=16) (m:=5) (nf:=23) (by kernel_rfl),ST.tr_congr (F:=Fb) (G:=F0) (vZ) (sp:=rn5) (nv:=16) (m:=4) (nf:=23) (by kernel_rfl)]
theorem Hc:wv Fb=wv F0:=by unfold wv;rw[ST.tr_congr (F:=Fb) (G:=F0) (vZ) (sp:=es0) (nv:=16) (m:=2) (nf:=23) (by kernel_rfl)]
theorem rT:kE Fc=kE F0:=by unfold kE;rw[ST.tr_congr (F:=Fc) (G:=F0) (mr) (sp:=wd0) (nv:=16) (m:=7) (nf:=26) (by kernel_rfl)]
theorem wo:l9 Fc=l9 F0:=by unfold l9;rw[ST.tr_congr (F:=Fc) (G:=F0) (mr) (sp:=si0) (nv:=16) (m:=6) (nf:=26) (by kernel_rfl)]
theorem rU:jT Fc=jT F0:=by unfold jT;rw[ST.tr_congr (F:=Fc) (G:=F0) (mr) (sp:=nm0) (nv:=16) (m:=7) (nf:=26) (by kernel_rfl)]
theorem oJ:fZ Fc=fZ F0:=by unfold fZ;rw[ST.tr_congr (F:=Fc) (G:=F0) (mr) (sp:=qu0) (nv:=16) (m:=9) (nf:=26) (by kernel_rfl),ST.tr_congr (F:=Fc) (G:=F0) (mr) (sp:=qu1) (nv:=16) (m:=12) (nf:=26) (by kernel_rfl),ST.tr_congr (F:=Fc) (G:=F0) (mr) (sp:=qu2) (nv:=16) (m:=13) (nf:=26) (by kernel_rfl),ST.tr_congr (F:=Fc) (G:=F0) (mr) (sp:=qu3) (nv:=16) (m:=14) (nf:=26) (by kernel_rfl),ST.tr_congr (F:=Fc) (G:=F0) (mr) (sp:=qu5) (nv:=16) (m:=14) (nf:=26) (by kernel_rfl),ST.tr_congr (F:=Fc) (G:=F0) (mr) (sp:=qu7) (nv:=16) (m:=9) (nf:=26) (by kernel_rfl)]
theorem Bi:ma Fd=ma F0:=by unfold ma;rw[ST.tr_congr (F:=Fd) (G:=F0) (mq) (sp:=sc0) (nv:=16) (m:=3) (nf:=54) (by kernel_rfl),ST.tr_congr (F:=Fd) (G:=F0) (mq) (sp:=sc1) (nv:=16) (m:=4) (nf:=54) (by kernel_rfl),ST.tr_congr (F:=Fd) (G:=F0) (mq) (sp:=sc2) (nv:=16) (m:=4) (nf:=54) (by kernel_rfl),ST.tr_congr (F:=Fd) (G:=F0) (mq) (sp:=sc3) (nv:=16) (m:=6) (nf:=54) (by kernel_rfl),ST.tr_congr (F:=Fd) (G:=F0) (mq) (sp:=sc4) (nv:=16) (m:=9) (nf:=54) (by kernel_rfl),ST.tr_congr (F:=Fd) (G:=F0) (mq) (sp:=sc6) (nv:=16) (m:=9) (nf:=54) (by kernel_rfl),ST.tr_congr (F:=Fd) (G:=F0) (mq) (sp:=sc7) (nv:=16) (m:=15) (nf:=54) (by kernel_rfl),ST.tr_congr (F:=Fd) (G:=F0) (mq) (sp:=sc8) (nv:=16) (m:=9) (nf:=54) (by kernel_rfl),ST.tr_congr (F:=Fd) (G:=F0) (mq) (sp:=sc10) (nv:=16) (m:=4) (nf:=54) (by kernel_rfl)]
theorem VI{a b c:Dat}:F0 0 a b c=.int (aP (mZ F0 [a,.int b.toI,.int c.toI]).2 1).toI:=by rw[←G9];rfl
theorem XX{a b c:Dat}:F0 1 a b c=aP (Hb F0 []).2 0:=by rw[←Pd];rfl
theorem XW{a b c:Dat}:F0 2 a b c=aP (G7 F0 []).2 0:=by rw[←O4];rfl
theorem VA{a b c:Dat}:F0 3 a b c=.int (cL [42,47] a.toS 0):=rfl
theorem Tp{a b c:Dat}:F0 4 a b c=.str (a.toS.dropWhile fun x=>b.toS.contains x):=rfl
theorem Vz{a b c:Dat}:F0 5 a b c=.int (if a.toS.all fun x=>decide (x.toNat<128)then 1 else 0):=rfl
theorem XV{a b c:Dat}:F0 6 a b c=.str (a.toS.map FO):=rfl
theorem Vy{a b c:Dat}:F0 7 a b c=.int (aP (E3 F0 [.int a.toI]).2 0).toI:=by rw[←Pb];rfl
theorem Vx{a b c:Dat}:F0 8 a b c=.int (aP (E5 F0 [.int a.toI]).2 0).toI:=by rw[←Pf];rfl
theorem XU{a b c:Dat}:F0 9 a b c=.int (aP (yQ F0 [a,b,c]).2 2).toI:=by rw[←Pe];rfl
theorem Lg{a b c:Dat}:F0 10 a b c=.int (aP (mZ F0 [a,.int b.toI,.int c.toI]).2 0).toI:=by rw[←G9];rfl
theorem OB{a b c:Dat}:F0 57 a b c=.int (aP (E1 F0 [.int a.toI,.int b.toI]).2 0).toI:=by rw[←O9];rfl
theorem OA{a b c:Dat}:F0 58 a b c=.int (aP (uj F0 [a,b,c]).2 2).toI:=by rw[←O5];rfl
theorem VH{a b c:Dat}:F0 11 a b c=aP (E0 F0 [a,.int b.toI,.int c.toI]).2 1:=by rw[←O8];rfl
theorem OL{a b c:Dat}:F0 12 a b c=.int (aP (E2 F0 [.int a.toI]).2 0).toI:=by rw[←Pa];rfl
theorem VG{a b c:Dat}:F0 13 a b c=.int (aP (E4 F0 [a]).2 0).toI:=by rw[←Pc];rfl
theorem OK{a b c:Dat}:F0 14 a b c=.int (aP (wq F0 [a]).2 0).toI:=by rw[←O6];rfl
theorem wa{a b c:Dat}:F0 15 a b c=.int (aP (gW F0 [a,.int 0,.int 0,.int b.toI]).2 3).toI:=by rw[←Bh];rfl
theorem v8{a b c:Dat}:F0 16 a b c=.int (aP (gW F0 [a,.int 0,.int 0,.int b.toI]).2 1).toI:=by rw[←Bh];rfl
theorem v7{a b c:Dat}:F0 17 a b c=.int (aP (gW F0 [a,.int 0,.int c.toI,.int b.toI]).2 2).toI:=by rw[←Bh];rfl
theorem VF{a b c:Dat}:F0 18 a b c=aP (wu F0 [a]).2 0:=by rw[←G8];rfl
theorem VE{a b c:Dat}:F0 19 a b c=.int (aP (wu F0 [a]).2 1).toI:=by rw[←G8];rfl
theorem F0_20{a b c:Dat}:F0 20 a b c=.int (aP (mA F0 [a]).2 0).toI:=by rw[←Bg];rfl
theorem F0_21{a b c:Dat}:F0 21 a b c=aP (mA F0 [a]).2 1:=by rw[←Bg];rfl
theorem F0_22{a b c:Dat}:F0 22 a b c=aP (mA F0 [a]).2 2:=by rw[←Bg];rfl
theorem VD{a b c:Dat}:F0 23 a b c=aP (yP F0 [a,.int 0,.int 0,.int b.toI]).2 3:=by rw[←O7];rfl
theorem VC{a b c:Dat}:F0 24 a b c=.int (aP (wv F0 [a]).2 0).toI:=by rw[←Hc];rfl
theorem VB{a b c:Dat}:F0 25 a b c=.int (aP (wv F0 [a]).2 1).toI:=by rw[←Hc];rfl
theorem Lf{a b c:Dat}:F0 26 a b c=.int (aP (kE F0 [a,.int 0,.int 0,.int b.toI]).2 3).toI:=by rw[←rT];rfl
theorem Le{a b c:Dat}:F0 27 a b c=.int (aP (kE F0 [a,.int 0,.int 0,.int b.toI]).2 5).toI:=by rw[←rT];rfl
theorem Ld{a b c:Dat}:F0 28 a b c=aP (kE F0 [a,.int 0,.int 0,.int b.toI]).2 6:=by rw[←rT];rfl
theorem OJ{a b c:Dat}:F0 29 a b c=.int 0:=rfl
theorem OI{a b c:Dat}:F0 30 a b c=.lst []:=rfl
theorem Lc{a b c:Dat}:F0 31 a b c=.int (aP (kE F0 [a,.int 0,.int 0,.int b.toI]).2 1).toI:=by rw[←rT];rfl
theorem Lb{a b c:Dat}:F0 32 a b c=.int (aP (kE F0 [a,.int 0,.int c.toI,.int b.toI]).2 2).toI:=by rw[←rT];rfl
theorem OH{a b c:Dat}:F0 33 a b c=.int 6:=rfl
theorem La{a b c:Dat}:F0 34 a b c=.int (aP (l9 F0 [a,.int 0,.int 0,.int b.toI]).2 4).toI:=by rw[←wo];rfl
theorem K9{a b c:Dat}:F0 35 a b c=aP (l9 F0 [a,.int 0,.int 0,.int b.toI]).2 5:=by rw[←wo];rfl
theorem OG{a b c:Dat}:F0 36 a b c=.int 0:=rfl
theorem OF{a b c:Dat}:F0 37 a b c=.lst []:=rfl
theorem K8{a b c:Dat}:F0 38 a b c=.int (aP (l9 F0 [a,.int 0,.int 0,.int b.toI]).2 1).toI:=by rw[←wo];rfl
theorem EF{a b c:Dat}:F0 39 a b c=.int (aP (l9 F0 [a,.int 0,.int c.toI,.int b.toI]).2 2).toI:=by rw[←wo];rfl
theorem OE{a b c:Dat}:F0 40 a b c=.int 3:=rfl
theorem K6{a b c:Dat}:F0 41 a b c=.int (aP (jT F0 [a,.int 0,.int 0,.int b.toI]).2 4).toI:=by rw[←rU];rfl
theorem K4{a b c:Dat}:F0 42 a b c=aP (jT F0 [a,.int 0,.int 0,.int b.toI]).2 5:=by rw[←rU];rfl
theorem K2{a b c:Dat}:F0 43 a b c=.int (aP (jT F0 [a,.int 0,.int 0,.int b.toI]).2 6).toI:=by rw[←rU];rfl
theorem OD{a b c:Dat}:F0 44 a b c=.lst []:=rfl
theorem K1{a b c:Dat}:F0 45 a b c=.int (aP (jT F0 [a,.int 0,.int 0,.int b.toI]).2 1).toI:=by rw[←rU];rfl
theorem EE{a b c:Dat}:F0 46 a b c=.int (aP (jT F0 [a,.int 0,.int c.toI,.int b.toI]).2 2).toI:=by rw[←rU];rfl
theorem ED{a b c:Dat}:F0 47 a b c=.int (aP (fZ F0 [a,.int 0,.int 0,.int b.toI]).2 3).toI:=by rw[←oJ];rfl
theorem AZ{a b c:Dat}:F0 48 a b c=.int (aP (fZ F0 [a,.int 0,.int 0,.int b.toI]).2 5).toI:=by rw[←oJ];rfl
theorem OC{a b c:Dat}:F0 49 a b c=.str []:=rfl
theorem EC{a b c:Dat}:F0 50 a b c=.int (aP (fZ F0 [a,.int 0,.int 0,.int b.toI]).2 6).toI:=by rw[←oJ];rfl
theorem EA{a b c:Dat}:F0 51 a b c=aP (fZ F0 [a,.int 0,.int 0,.int b.toI]).2 7:=by rw[←oJ];rfl
theorem ug{a b c:Dat}:F0 52 a b c=.int (aP (fZ F0 [a,.int 0,.int 0,.int b.toI]).2 1).toI:=by rw[←oJ];rfl
theorem AY{a b c:Dat}:F0 53 a b c=.int (aP (fZ F0 [a,.int 0,.int c.toI,.int b.toI]).2 2).toI:=by rw[←oJ];rfl
theorem Ez{a b c:Dat}:F0 54 a b c=aP (ma F0 [a]).2 0:=by rw[←Bi];rfl
theorem Ey{a b c:Dat}:F0 55 a b c=.int (aP (ma F0 [a]).2 2).toI:=by rw[←Bi];rfl
theorem Ex{a b c:Dat}:F0 56 a b c=.int (aP (ma F0 [a]).2 3).toI:=by rw[←Bi];rfl
end Go.Tw.LX
set_option linter.all false
namespace Go.Tw.LX
noncomputable section
theorem aj{v:Val}{b:Bx}{x:Bool}{p:bo}(h:@Holds v ((b,x)::p)):@Bx.eval v b=x∧@Holds v p:=⟨h (b,x) (by simp),fun q hq=>h q (by simp [hq])⟩
theorem aW{v:Val}:@Holds v []:=fun _ h=>by cases h
theorem ak{v:Val}{b:Bx}{x:Bool}{p:bo}(h:@Bx.eval v b=x)(hp:@Holds v p):@Holds v ((b,x)::p):=fun q hq=>by rcases List.mem_cons.1 hq with rfl|hq;{exact h};exact hp q hq
theorem DU{v:Val}{a b:Sx}(h:@Sx.eval v a<@Sx.eval v b):@Bx.eval v (lt a b)=true:=decide_eq_true h
theorem qI{v:Val}{a b:Sx}(h:¬@Sx.eval v a<@Sx.eval v b):@Bx.eval v (lt a b)=false:=decide_eq_false h
theorem SS{v:Val}{a b:Sx}(h:@Sx.eval v a=@Sx.eval v b):@Bx.eval v (eq a b)=true:=decide_eq_true h
theorem X9{v:Val}{a b:Sx}(h:¬@Sx.eval v a=@Sx.eval v b):@Bx.eval v (eq a b)=false:=decide_eq_false h
theorem cD{v:Val}{a b:Sx}(h:@Bx.eval v (lt a b)=true):@Sx.eval v a<@Sx.eval v b:=of_decide_eq_true h
theorem bU{v:Val}{a b:Sx}(h:@Bx.eval v (lt a b)=false):¬@Sx.eval v a<@Sx.eval v b:=of_decide_eq_false h
theorem mP{v:Val}{a b:Sx}(h:@Bx.eval v (eq a b)=true):@Sx.eval v a=@Sx.eval v b:=of_decide_eq_true h
theorem Ao{v:Val}{a b:Sx}(h:@Bx.eval v (eq a b)=false):¬@Sx.eval v a=@Sx.eval v b:=of_decide_eq_false h
theorem Wr{v:Val}{a b:Sx}(h:(@Sx.dat v a).toS=(@Sx.dat v b).toS):@Bx.eval v (.seq a b)=true:=by show((@Sx.dat v a).toS==(@Sx.dat v b).toS)=true;rw[h];exact beq_self_eq_true _
theorem wrap_small{n:Int}(h1: -9223372036854775808≤n)(h2:n≤9223372036854775807):cG .i64 n=n:=by rw[wrap_i64];split<;>omega
theorem bG{a b:Int}(h1: -9223372036854775808≤a+b)(h2:a+b≤9223372036854775807):bu .add .i64 a b=a+b:=wrap_small h1 h2
theorem oG{a b:Int}(h1: -9223372036854775808≤a - b)(h2:a - b≤9223372036854775807):bu .sub .i64 a b=a - b:=wrap_small h1 h2
theorem aI{F:Fn}{m:Nat}{s:List Dat}{q:Bx}{a b:ST}:(ST.ask q a b).tr F m s=if @Bx.eval (VL F s) q=true then a.tr F m s else b.tr F m s:=by by_cases h:@Bx.eval (VL F s) q=true;{rw[if_pos h,TB h]};rw[if_neg h,V2 (by simpa using h)]
theorem bO{v:Val}{a b:Sx}:(@Bx.eval v (lt a b)=true)=(@Sx.eval v a<@Sx.eval v b):=propext ⟨cD,DU⟩
theorem bV{v:Val}{a b:Sx}:(@Bx.eval v (eq a b)=true)=(@Sx.eval v a=@Sx.eval v b):=propext ⟨mP,SS⟩
theorem sI{v:Val}{n:Int}:@Sx.eval v (I n)=n:=rfl
theorem s0{F:Fn}{x:Dat}{l:List Dat}:@Sx.eval (VL F (x::l)) (D 0)=x.toI:=rfl
def nP(c:UInt8):Bool:=decide (97≤c.toNat∧c.toNat<123∨65≤c.toNat∧c.toNat<91∨c.toNat=95)
def mQ(c:UInt8):Bool:=decide (48≤c.toNat∧c.toNat<58)
def bD(c:UInt8):Bool:=mQ c||nP c
def wg(c:UInt8):Dat:=.int (c.toNat:Int)
theorem XY(c:UInt8):(wg c).toI=(c.toNat:Int):=rfl
theorem UP(c:UInt8):le0.tr F0 1 [wg c]=(1,[.int (dW (nP c))]):=by
 have key:∀(x:Bool),nP c=x→(1,[Dat.int (dW (nP c))])=(1,[Dat.int (dW x)]):=fun x h=>by rw[h]
 simp only[le0,aI,bO,bV,s0,sI,XY];repeat' split
 all_goals first
  |(rw[key true (decide_eq_true (by omega))];rfl)
  |(rw[key false (decide_eq_false (by omega))];rfl)
  |(exfalso;omega)
theorem Vj(c:UInt8):di0.tr F0 1 [wg c]=(1,[.int (dW (mQ c))]):=by
 have key:∀(x:Bool),mQ c=x→(1,[Dat.int (dW (mQ c))])=(1,[Dat.int (dW x)]):=fun x h=>by rw[h]
 simp only[di0,aI,bO,s0,sI,XY];repeat' split
 all_goals first
  |(rw[key true (decide_eq_true (by omega))];rfl)
  |(rw[key false (decide_eq_false (by omega))];rfl)
theorem f7(c:UInt8){a b:Dat}:F0 7 (wg c) a b=.int (dW (nP c)):=by rw[Vy];unfold E3;rw[show Dat.int (wg c).toI=wg c from rfl,UP];rfl
theorem f8(c:UInt8){a b:Dat}:F0 8 (wg c) a b=.int (dW (mQ c)):=by rw[Vx];unfold E5;rw[show Dat.int (wg c).toI=wg c from rfl,Vj];rfl
theorem UG(c:UInt8):pa0.tr F0 1 [wg c]=(1,[.int (dW (bD c))]):=by have h7:@Sx.eval (VL F0 [wg c]) (.ap 7 (D 0) (I 0) (I 0))=dW (nP c):=congrArg Dat.toI (f7 c (a:=.int 0) (b:=.int 0));have h8:@Sx.eval (VL F0 [wg c]) (.ap 8 (D 0) (I 0) (I 0))=dW (mQ c):=congrArg Dat.toI (f8 c (a:=.int 0) (b:=.int 0));simp only[pa0,aI,bV,h7,h8,sI];unfold bD;cases hd:mQ c<;>cases hl:nP c<;>simp [dW]<;>rfl
theorem f12(c:UInt8){a b:Dat}:F0 12 (wg c) a b=.int (dW (bD c)):=by rw[OL];unfold E2;rw[show Dat.int (wg c).toI=wg c from rfl,UG];rfl
theorem Fq{c:UInt8}(h:bD c=true):c.toNat<128:=by unfold bD mQ nP at h;simp only[dH,decide_eq_true_eq]at h;omega
theorem bj(s:List UInt8)(c:UInt8):aq s c=s.findIdx? (· ==c):=by
 unfold aq;have h0:∀i,i<s.length→((⟨⟨s⟩⟩:ByteArray)[i]! ==c)=(s[i]? ==some c):=fun i hi=>by have:(⟨⟨s⟩⟩:ByteArray)[i]! =s[i]:=(by rw[getElem!_pos _ i hi];rfl);rw[this,bC hi];simp
 cases hf:s.findIdx? (· ==c)with
 |none=>rw[List.find?_eq_none];intro i hi;rw[List.mem_range]at hi;rw[h0 i hi,bC hi];have:=List.findIdx?_eq_none_iff.1 hf s[i] (List.getElem_mem hi);simpa using this
 |some k=>obtain⟨hk,h1,h2⟩:=List.findIdx?_eq_some_iff_getElem.1 hf;rw[List.find?_range_eq_some];refine⟨?_,List.mem_range.2 hk,fun j hj=> ?_⟩;{rw[h0 k hk,bC hk];simpa using h1};rw[h0 j (by omega),bC (by omega:j<s.length)];have:=h2 j hj;simpa using this
end
end Go.Tw.LX
namespace Go.Tw.LX
noncomputable section
def fg:Option Nat→Int
 |some i=>(i:Int)
 |none=> -1
def cJ(s:List UInt8)(i:Nat):Int:=match s[i]? with
 |some c=>(c.toNat:Int)
 |none=>0
theorem ek{s:List UInt8}{i:Nat}{c:UInt8}(h:s[i]? =some c):cJ s i=(c.toNat:Int):=by unfold cJ;rw[h]
theorem KT{s:List UInt8}{c:UInt8}:cJ (c::s) 0=(c.toNat:Int):=rfl
theorem Yy{F:Fn}{s:List Dat}{x a0:Sx}:(ST.leaf [x,a0]).tr F 1 s=((@Sx.eval (VL F s) x).toNat,[@Sx.dat (VL F s) a0]):=rfl
theorem Yx{F:Fn}{s:List Dat}{x a0 a1:Sx}:(ST.leaf [x,a0,a1]).tr F 2 s=((@Sx.eval (VL F s) x).toNat,[@Sx.dat (VL F s) a0,@Sx.dat (VL F s) a1]):=rfl
theorem Yw{F:Fn}{s:List Dat}{x a0 a1 a2:Sx}:(ST.leaf [x,a0,a1,a2]).tr F 3 s=((@Sx.eval (VL F s) x).toNat,[@Sx.dat (VL F s) a0,@Sx.dat (VL F s) a1,@Sx.dat (VL F s) a2]):=rfl
theorem OY{F:Fn}{s:List Dat}{x a0 a1 a2 a3:Sx}:(ST.leaf [x,a0,a1,a2,a3]).tr F 4 s=((@Sx.eval (VL F s) x).toNat,[@Sx.dat (VL F s) a0,@Sx.dat (VL F s) a1,@Sx.dat (VL F s) a2,@Sx.dat (VL F s) a3]):=rfl
theorem X1{F:Fn}{s:List Dat}{x a0 a1 a2 a3 a4:Sx}:(ST.leaf [x,a0,a1,a2,a3,a4]).tr F 5 s=((@Sx.eval (VL F s) x).toNat,[@Sx.dat (VL F s) a0,@Sx.dat (VL F s) a1,@Sx.dat (VL F s) a2,@Sx.dat (VL F s) a3,@Sx.dat (VL F s) a4]):=rfl
theorem X0{F:Fn}{s:List Dat}{x a0 a1 a2 a3 a4 a5:Sx}:(ST.leaf [x,a0,a1,a2,a3,a4,a5]).tr F 6 s=((@Sx.eval (VL F s) x).toNat,[@Sx.dat (VL F s) a0,@Sx.dat (VL F s) a1,@Sx.dat (VL F s) a2,@Sx.dat (VL F s) a3,@Sx.dat (VL F s) a4,@Sx.dat (VL F s) a5]):=rfl
theorem Tq{F:Fn}{s:List Dat}{x a0 a1 a2 a3 a4 a5 a6:Sx}:(ST.leaf [x,a0,a1,a2,a3,a4,a5,a6]).tr F 7 s=((@Sx.eval (VL F s) x).toNat,[@Sx.dat (VL F s) a0,@Sx.dat (VL F s) a1,@Sx.dat (VL F s) a2,@Sx.dat (VL F s) a3,@Sx.dat (VL F s) a4,@Sx.dat (VL F s) a5,@Sx.dat (VL F s) a6]):=rfl
theorem XZ{F:Fn}{s:List Dat}{x a0 a1 a2 a3 a4 a5 a6 a7 a8:Sx}:(ST.leaf [x,a0,a1,a2,a3,a4,a5,a6,a7,a8]).tr F 9 s=((@Sx.eval (VL F s) x).toNat,[@Sx.dat (VL F s) a0,@Sx.dat (VL F s) a1,@Sx.dat (VL F s) a2,@Sx.dat (VL F s) a3,@Sx.dat (VL F s) a4,@Sx.dat (VL F s) a5,@Sx.dat (VL F s) a6,@Sx.dat (VL F s) a7,@Sx.dat (VL F s) a8]):=rfl
theorem TD{F:Fn}{s:List Dat}{x a0 a1 a2 a3 a4 a5 a6 a7 a8 a9 a10 a11 a12 a13:Sx}:(ST.leaf [x,a0,a1,a2,a3,a4,a5,a6,a7,a8,a9,a10,a11,a12,a13]).tr F 14 s=((@Sx.eval (VL F s) x).toNat,[@Sx.dat (VL F s) a0,@Sx.dat (VL F s) a1,@Sx.dat (VL F s) a2,@Sx.dat (VL F s) a3,@Sx.dat (VL F s) a4,@Sx.dat (VL F s) a5,@Sx.dat (VL F s) a6,@Sx.dat (VL F s) a7,@Sx.dat (VL F s) a8,@Sx.dat (VL F s) a9,@Sx.dat (VL F s) a10,@Sx.dat (VL F s) a11,@Sx.dat (VL F s) a12,@Sx.dat (VL F s) a13]):=rfl
theorem GU{F:Fn}{s:List Dat}{x a0 a1 a2 a3 a4 a5 a6 a7 a8 a9 a10 a11 a12 a13 a14:Sx}:(ST.leaf [x,a0,a1,a2,a3,a4,a5,a6,a7,a8,a9,a10,a11,a12,a13,a14]).tr F 15 s=((@Sx.eval (VL F s) x).toNat,[@Sx.dat (VL F s) a0,@Sx.dat (VL F s) a1,@Sx.dat (VL F s) a2,@Sx.dat (VL F s) a3,@Sx.dat (VL F s) a4,@Sx.dat (VL F s) a5,@Sx.dat (VL F s) a6,@Sx.dat (VL F s) a7,@Sx.dat (VL F s) a8,@Sx.dat (VL F s) a9,@Sx.dat (VL F s) a10,@Sx.dat (VL F s) a11,@Sx.dat (VL F s) a12,@Sx.dat (VL F s) a13,@Sx.dat (VL F s) a14]):=rfl
theorem YF{F:Fn}{x0:Dat}{l:List Dat}:@Sx.eval (VL F (x0::l)) (D 0)=x0.toI:=rfl
theorem cm{F:Fn}{x0:Dat}{l:List Dat}:@Sx.dat (VL F (x0::l)) (D 0)=x0:=rfl
theorem On{F:Fn}{x0:Dat}{l:List Dat}:@Sx.dat (VL F (x0::l)) (.dvar 0)=x0:=rfl
theorem qD{F:Fn}{x0 x1:Dat}{l:List Dat}:@Sx.eval (VL F (x0::x1::l)) (D 1)=x1.toI:=rfl
theorem kJ{F:Fn}{x0 x1:Dat}{l:List Dat}:@Sx.dat (VL F (x0::x1::l)) (D 1)=x1:=rfl
theorem YS{F:Fn}{x0 x1:Dat}{l:List Dat}:@Sx.dat (VL F (x0::x1::l)) (.dvar 1)=x1:=rfl
theorem uR{F:Fn}{x0 x1 x2:Dat}{l:List Dat}:@Sx.eval (VL F (x0::x1::x2::l)) (D 2)=x2.toI:=rfl
theorem kH{F:Fn}{x0 x1 x2:Dat}{l:List Dat}:@Sx.dat (VL F (x0::x1::x2::l)) (D 2)=x2:=rfl
theorem YR{F:Fn}{x0 x1 x2:Dat}{l:List Dat}:@Sx.dat (VL F (x0::x1::x2::l)) (.dvar 2)=x2:=rfl
theorem jX{F:Fn}{x0 x1 x2 x3:Dat}{l:List Dat}:@Sx.eval (VL F (x0::x1::x2::x3::l)) (D 3)=x3.toI:=rfl
theorem fA{F:Fn}{x0 x1 x2 x3:Dat}{l:List Dat}:@Sx.dat (VL F (x0::x1::x2::x3::l)) (D 3)=x3:=rfl
theorem Wy{F:Fn}{x0 x1 x2 x3:Dat}{l:List Dat}:@Sx.eval (VL F (x0::x1::x2::x3::l)) (.dvar 3)=x3.toI:=rfl
theorem VU{F:Fn}{x0 x1 x2 x3:Dat}{l:List Dat}:@Sx.dat (VL F (x0::x1::x2::x3::l)) (.dvar 3)=x3:=rfl
theorem Mb{F:Fn}{x0 x1 x2 x3 x4:Dat}{l:List Dat}:@Sx.eval (VL F (x0::x1::x2::x3::x4::l)) (D 4)=x4.toI:=rfl
theorem qv{F:Fn}{x0 x1 x2 x3 x4:Dat}{l:List Dat}:@Sx.dat (VL F (x0::x1::x2::x3::x4::l)) (D 4)=x4:=rfl
theorem WA{F:Fn}{x0 x1 x2 x3 x4 x5:Dat}{l:List Dat}:@Sx.eval (VL F (x0::x1::x2::x3::x4::x5::l)) (D 5)=x5.toI:=rfl
theorem tP{F:Fn}{x0 x1 x2 x3 x4 x5:Dat}{l:List Dat}:@Sx.dat (VL F (x0::x1::x2::x3::x4::x5::l)) (D 5)=x5:=rfl
theorem YE{F:Fn}{x0 x1 x2 x3 x4 x5 x6:Dat}{l:List Dat}:@Sx.eval (VL F (x0::x1::x2::x3::x4::x5::x6::l)) (D 6)=x6.toI:=rfl
theorem om{F:Fn}{x0 x1 x2 x3 x4 x5 x6:Dat}{l:List Dat}:@Sx.dat (VL F (x0::x1::x2::x3::x4::x5::x6::l)) (D 6)=x6:=rfl
theorem y8{F:Fn}{x0 x1 x2 x3 x4 x5 x6 x7:Dat}{l:List Dat}:@Sx.eval (VL F (x0::x1::x2::x3::x4::x5::x6::x7::l)) (D 7)=x7.toI:=rfl
theorem rv{F:Fn}{x0 x1 x2 x3 x4 x5 x6 x7:Dat}{l:List Dat}:@Sx.dat (VL F (x0::x1::x2::x3::x4::x5::x6::x7::l)) (D 7)=x7:=rfl
theorem GG{F:Fn}{x0 x1 x2 x3 x4 x5 x6 x7 x8:Dat}{l:List Dat}:@Sx.eval (VL F (x0::x1::x2::x3::x4::x5::x6::x7::x8::l)) (D 8)=x8.toI:=rfl
theorem Ej{F:Fn}{x0 x1 x2 x3 x4 x5 x6 x7 x8:Dat}{l:List Dat}:@Sx.dat (VL F (x0::x1::x2::x3::x4::x5::x6::x7::x8::l)) (D 8)=x8:=rfl
theorem X2{F:Fn}{x0 x1 x2 x3 x4 x5 x6 x7 x8 x9:Dat}{l:List Dat}:@Sx.eval (VL F (x0::x1::x2::x3::x4::x5::x6::x7::x8::x9::l)) (D 9)=x9.toI:=rfl
theorem S0{F:Fn}{x0 x1 x2 x3 x4 x5 x6 x7 x8 x9:Dat}{l:List Dat}:@Sx.dat (VL F (x0::x1::x2::x3::x4::x5::x6::x7::x8::x9::l)) (D 9)=x9:=rfl
theorem iw{F:Fn}{x0 x1 x2 x3 x4 x5 x6 x7 x8 x9 x10:Dat}{l:List Dat}:@Sx.eval (VL F (x0::x1::x2::x3::x4::x5::x6::x7::x8::x9::x10::l)) (D 10)=x10.toI:=rfl
theorem tQ{F:Fn}{x0 x1 x2 x3 x4 x5 x6 x7 x8 x9 x10:Dat}{l:List Dat}:@Sx.dat (VL F (x0::x1::x2::x3::x4::x5::x6::x7::x8::x9::x10::l)) (D 10)=x10:=rfl
theorem T5{F:Fn}{x0 x1 x2 x3 x4 x5 x6 x7 x8 x9 x10 x11:Dat}{l:List Dat}:@Sx.eval (VL F (x0::x1::x2::x3::x4::x5::x6::x7::x8::x9::x10::x11::l)) (D 11)=x11.toI:=rfl
theorem Vl{F:Fn}{x0 x1 x2 x3 x4 x5 x6 x7 x8 x9 x10 x11:Dat}{l:List Dat}:@Sx.dat (VL F (x0::x1::x2::x3::x4::x5::x6::x7::x8::x9::x10::x11::l)) (D 11)=x11:=rfl
theorem Mc{F:Fn}{x0 x1 x2 x3 x4 x5 x6 x7 x8 x9 x10 x11 x12:Dat}{l:List Dat}:@Sx.eval (VL F (x0::x1::x2::x3::x4::x5::x6::x7::x8::x9::x10::x11::x12::l)) (D 12)=x12.toI:=rfl
theorem XJ{F:Fn}{x0 x1 x2 x3 x4 x5 x6 x7 x8 x9 x10 x11 x12:Dat}{l:List Dat}:@Sx.dat (VL F (x0::x1::x2::x3::x4::x5::x6::x7::x8::x9::x10::x11::x12::l)) (D 12)=x12:=rfl
theorem Bq{F:Fn}{x0 x1 x2 x3 x4 x5 x6 x7 x8 x9 x10 x11 x12 x13:Dat}{l:List Dat}:@Sx.eval (VL F (x0::x1::x2::x3::x4::x5::x6::x7::x8::x9::x10::x11::x12::x13::l)) (D 13)=x13.toI:=rfl
theorem XI{F:Fn}{x0 x1 x2 x3 x4 x5 x6 x7 x8 x9 x10 x11 x12 x13:Dat}{l:List Dat}:@Sx.dat (VL F (x0::x1::x2::x3::x4::x5::x6::x7::x8::x9::x10::x11::x12::x13::l)) (D 13)=x13:=rfl
theorem XH{F:Fn}{x0 x1 x2 x3 x4 x5 x6 x7 x8 x9 x10 x11 x12 x13 x14:Dat}{l:List Dat}:@Sx.dat (VL F (x0::x1::x2::x3::x4::x5::x6::x7::x8::x9::x10::x11::x12::x13::x14::l)) (D 14)=x14:=rfl
theorem XN{x0:Dat}{l:List Dat}:aP (x0::l) 0=x0:=rfl
theorem yF{x0 x1:Dat}{l:List Dat}:aP (x0::x1::l) 1=x1:=rfl
theorem yE{x0 x1 x2:Dat}{l:List Dat}:aP (x0::x1::x2::l) 2=x2:=rfl
theorem yD{x0 x1 x2 x3:Dat}{l:List Dat}:aP (x0::x1::x2::x3::l) 3=x3:=rfl
theorem GJ{x0 x1 x2 x3 x4:Dat}{l:List Dat}:aP (x0::x1::x2::x3::x4::l) 4=x4:=rfl
theorem GB{x0 x1 x2 x3 x4 x5:Dat}{l:List Dat}:aP (x0::x1::x2::x3::x4::x5::l) 5=x5:=rfl
theorem GA{x0 x1 x2 x3 x4 x5 x6:Dat}{l:List Dat}:aP (x0::x1::x2::x3::x4::x5::x6::l) 6=x6:=rfl
theorem Gz{x0 x1 x2 x3 x4 x5 x6 x7:Dat}{l:List Dat}:aP (x0::x1::x2::x3::x4::x5::x6::x7::l) 7=x7:=rfl
section
variable{v:Val}{a b c:Sx}
theorem dI{n:Int}:@Sx.dat v (I n)=.int n:=rfl
theorem Qw{n:Int}:@Sx.eval v (.lit n)=n:=rfl
theorem Gj{n:Int}:@Sx.dat v (.lit n)=.int n:=rfl
theorem dN:@Sx.dat v (N a)=.int (@Sx.eval v a):=rfl
theorem Kx{s:List UInt8}:@Sx.dat v (.slit s)=.str s:=rfl
theorem tI{n:Int}:(Dat.int n).toI=n:=rfl
theorem tS{s:List UInt8}:(Dat.str s).toS=s:=rfl
theorem tL{l:List (List Dat)}:(Dat.lst l).toL=l:=rfl
theorem cQ{e:Sx}:@Sx.eval v (.pr 0 a e)=((@Sx.dat v a).toS.length:Int):=rfl
theorem sL:@Sx.eval v (bg a)=((@Sx.dat v a).toL.length:Int):=rfl
theorem QA:@Sx.eval v (.pr 1 a b)=cJ (@Sx.dat v a).toS (@Sx.eval v b).toNat:=rfl
theorem Lm:@Sx.dat v (.pr 1 a b)=.int (cJ (@Sx.dat v a).toS (@Sx.eval v b).toNat):=rfl
theorem fy:@Sx.dat v (.pr 2 a b)=.str ((@Sx.dat v a).toS.take (@Sx.eval v b).toNat):=rfl
theorem dg:@Sx.dat v (.pr 3 a b)=.str ((@Sx.dat v a).toS.drop (@Sx.eval v b).toNat):=rfl
theorem T4:@Sx.eval v (.pr 6 a b)=fg (aq (@Sx.dat v a).toS (@Sx.eval v b).toNat.toUInt8):=rfl
theorem dJ:@Sx.dat v (J a b)=.lst ((@Sx.dat v a).toL++(@Sx.dat v b).toL):=rfl
theorem dO:@Sx.dat v O=.lst []:=rfl
theorem d12:@Sx.dat v (.pr 12 a b)=.lst [@Sx.dat v a::(@Sx.dat v b).one]:=rfl
theorem d15:@Sx.dat v (.pr 15 a b)=.str (pT (@Sx.dat v a).toL):=rfl
theorem d14:@Sx.dat v (.pr 14 a b)=.lst [[]]:=rfl
theorem lZ{F:Fn}{s:List Dat}{n:Nat}:@Sx.dat (VL F s) (.ap n a b c)=F n (@Sx.dat (VL F s) a) (@Sx.dat (VL F s) b) (@Sx.dat (VL F s) c):=rfl
theorem iQ{F:Fn}{s:List Dat}{n:Nat}:@Sx.eval (VL F s) (.ap n a b c)=(F n (@Sx.dat (VL F s) a) (@Sx.dat (VL F s) b) (@Sx.dat (VL F s) c)).toI:=rfl
theorem iP{o:BinOp}{k:IntKind}:@Sx.eval v (.bin o k a b)=bu o k (@Sx.eval v a) (@Sx.eval v b):=rfl
theorem XK{o:BinOp}{k:IntKind}:@Sx.dat v (.bin o k a b)=.int (bu o k (@Sx.eval v a) (@Sx.eval v b)):=rfl
theorem NR{k:IntKind}:@Sx.eval v (.wrap k a)=cG k (@Sx.eval v a):=rfl
theorem kA{n:Nat}:@Sx.dat v (.cell a b n)=(@Sx.dat v a).cell (@Sx.eval v b) n:=rfl
theorem ix{n:Nat}:@Sx.eval v (.cell a b n)=((@Sx.dat v a).cell (@Sx.eval v b) n).toI:=rfl
theorem ke:(@Bx.eval v (.seq a b)=true)=((@Sx.dat v a).toS=(@Sx.dat v b).toS):=propext ⟨fun h=>by have h:((@Sx.dat v a).toS==(@Sx.dat v b).toS)=true:=h;exact eq_of_beq h,Wr⟩
end
end
end Go.Tw.LX
set_option linter.all false
namespace Go.Tw.LX
noncomputable section
def blk(c:UInt8):Bool:=decide (c.toNat=9∨c.toNat=10∨c.toNat=13∨c.toNat=32)
def gp(r:List UInt8):Int:=match r with
 |[]=>0
 |c::_=>if blk c=true then 1 else if r.take 2=[47,47]then(if fg (aq r 10)<0 then(r.length:Int)else fg (aq r 10))else if r.take 2=[47,42]then(if cL [42,47] (r.drop 2) 0<0 then -1 else cL [42,47] (r.drop 2) 0+4)else 0
theorem bm(c:UInt8)(r:List UInt8):gp (c::r)=if blk c=true then 1 else if(c::r).take 2=[47,47]then(if fg (aq (c::r) 10)<0 then((c::r).length:Int)else fg (aq (c::r) 10))else
 if(c::r).take 2=[47,42]then(if cL [42,47] ((c::r).drop 2) 0<0 then -1 else cL [42,47] ((c::r).drop 2) 0+4)else 0:=rfl
theorem rl(s:List UInt8)(c:UInt8):fg (aq s c)= -1∨(0≤fg (aq s c)∧fg (aq s c)<s.length):=by
 cases h:aq s c with
 |none=>exact .inl rfl
 |some i=>rw[bj]at h;have:=(List.findIdx?_eq_some_iff_getElem.1 h).1;exact .inr ⟨by show(0:Int)≤i;omega,by show(i:Int)<_;omega⟩
theorem AS(c:UInt8):fg (aq [9,10,13,32] c)<0↔blk c=false:=by rw[bj];unfold blk fg;have hc:∀n:Nat,n<256→(c=UInt8.ofNat n↔c.toNat=n):=fun n hn=>⟨fun h=>by rw[h];simp [UInt8.toNat_ofNat'];omega,fun h=>by rw[←h];simp⟩;have h9:=hc 9 (by omega);have h10:=hc 10 (by omega);have h13:=hc 13 (by omega);have h32:=hc 32 (by omega);simp only[List.findIdx?_cons];by_cases a:c.toNat=9;{have:=h9.2 a;subst this;simp};by_cases b:c.toNat=10;{have:=h10.2 b;subst this;simp};by_cases e:c.toNat=13;{have:=h13.2 e;subst this;simp};by_cases f:c.toNat=32;{have:=h32.2 f;subst this;simp};have a':¬(9:UInt8)=c:=fun h=>a (by rw[←h];rfl);have b':¬(10:UInt8)=c:=fun h=>b (by rw[←h];rfl);have e':¬(13:UInt8)=c:=fun h=>e (by rw[←h];rfl);have f':¬(32:UInt8)=c:=fun h=>f (by rw[←h];rfl);simp [a,b,e,f,a',b',e',f']
theorem xZ(x:List UInt8):∀(l:List UInt8) (n:Nat),cL x l n= -1∨((n:Int)≤cL x l n∧cL x l n+x.length≤n+l.length):=by
 intro l
 induction l with
 |nil=>intro n;unfold cL;split;{rename_i h;have:x=[]:=(by simpa using h);subst this;exact .inr ⟨by omega,by simp⟩};exact .inl rfl
 |cons c l ih=>intro n;unfold cL;split;{rename_i h;have:=(List.isPrefixOf_iff_prefix.1 h).length_le;exact .inr ⟨by omega,by omega⟩};rcases ih (n+1)with h|⟨h1,h2⟩;{exact .inl h};exact .inr ⟨by omega,by simp only[List.length_cons];omega⟩
theorem vJ{r:List UInt8}:gp r≤r.length:=by
 cases r with
 |nil=>simp [gp]
 |cons c l=>
  rw[bm];have h2:2≤(c::l).length∨(c::l).length=1:=(by simp only[List.length_cons];omega);have hf:=rl (c::l) 10;have hi:=xZ [42,47] ((c::l).drop 2) 0;have hd:((c::l).drop 2).length=(c::l).length - 2:=List.length_drop;have h4:(c::l).take 2=[47,42]→2≤(c::l).length:=fun h=>(by have:=congrArg List.length h;simp only[List.length_take,List.length_cons,List.length_nil]at this⊢;omega);simp only[List.length_cons,List.length_nil]at*;repeat' split
  all_goals first
   |omega
   |(have:=h4 (by assumption);omega)
theorem Ve{r:List UInt8}: -1≤gp r:=by
 cases r with
 |nil=>simp [gp]
 |cons c l=>
  rw[bm];repeat' split
  all_goals omega
theorem nX{l:List UInt8}{n:Nat}(h:n<l.length):∃c r,l.drop n=c::r∧l[n]? =some c:=by refine⟨l[n],l.drop (n+1),List.drop_eq_getElem_cons h,bC h⟩
theorem YK(c:UInt8):((c.toNat:Int).toNat).toUInt8=c:=by simp
theorem r7{d:Dat}{e ea p:Int}(h0:0≤p)(hl:d.toS.length<1000000000):sk2.tr F0 4 [d,.int e,.int ea,.int p]=
 if p<d.toS.length∧e=0 then(if gp (d.toS.drop p.toNat)=0 then(1,[d,.int e,.int ea,.int p])else if gp (d.toS.drop p.toNat)<0 then(1,[d,.int 4,.int p,.int p])else(0,[d,.int e,.int ea,.int (p+gp (d.toS.drop p.toNat))]))
 else(2,[d,.int e,.int ea,.int p]):=by
 by_cases h1:p<d.toS.length
 ·by_cases h2:e=0
  ·rw[if_pos ⟨h1,h2⟩];subst h2;have hge:=@Ve (d.toS.drop p.toNat);have hle:=@vJ (d.toS.drop p.toNat);obtain⟨c,r,hr,hc⟩:=nX (l:=d.toS) (n:=p.toNat) (by omega);have hlen:(d.toS.drop p.toNat).length=d.toS.length - p.toNat:=List.length_drop;have hadd:gp (d.toS.drop p.toNat)≥0→bu .add .i64 p (gp (d.toS.drop p.toNat))=p+gp (d.toS.drop p.toNat):=fun h=>bG (by omega) (by omega);simp only[sk2,aI,bO,bV,ke,jX,qD,cQ,sI,T4,QA,cm,dg,fy,On,VU,Kx,tS,tI,iQ,Gj,dI,OY,kJ,kH,fA,dN,iP,VA,uR,Qw,Wy];simp only[if_true];rw[if_pos h1,if_neg (by omega),if_pos (by omega)];rw[hr]at hge hle hlen hadd⊢;simp only[Int.toNat_zero,KT,YK,show Int.toNat 2=2 from rfl,show Int.toNat 1=1 from rfl,show(Int.toNat 10).toUInt8=10 from rfl];have hlc:(c::r).length=r.length+1:=rfl;by_cases hb:blk c=true;{rw[if_neg (fun h=>by rw[(AS c).1 h]at hb;cases hb)];have g:gp (c::r)=1:=(by rw[bm,if_pos hb]);rw[g]at hadd⊢;rw[hadd (by omega)];rfl};rw[if_pos ((AS c).2 (by simpa using hb))];by_cases h2:(c::r).length<2
   ·rw[if_pos (by omega)];have e:r=[]:=by cases r with
     |nil=>rfl
     |cons a l=>simp only[List.length_cons]at h2;omega
    subst e;have g:gp [c]=0:=(by rw[bm,if_neg hb,if_neg (by simp),if_neg (by simp)]);rw[g];rfl
   rw[if_neg (by omega)];by_cases h3:List.take 2 (c::r)=[47,47]
   ·rw[if_pos h3];have hf:=rl (c::r) 10;by_cases h5:fg (aq (c::r) 10)<0;{have g:gp (c::r)=(c::r).length:=(by rw[bm,if_neg hb,if_pos h3,if_pos h5]);rw[g]at hadd;rw[if_pos h5,g,if_neg (by omega),if_neg (by omega),hadd (by omega)]};have g:gp (c::r)=fg (aq (c::r) 10):=(by rw[bm,if_neg hb,if_pos h3,if_neg h5]);have hi:fg (aq (c::r) 10)≠0:=fun h=>by
     cases h6:aq (c::r) 10 with
     |none=>rw[h6]at h;cases h
     |some i=>rw[h6]at h;have:i=0:=(by have h:(i:Int)=0:=h;omega);subst this;rw[bj]at h6;obtain⟨_,x,_⟩:=List.findIdx?_eq_some_iff_getElem.1 h6;have:c=10:=(by simpa using x);subst this;simp [blk]at hb
    rw[g]at hadd;rw[if_neg h5,g,if_neg hi,if_neg h5,hadd (by omega)]
   rw[if_neg h3];by_cases h4:List.take 2 (c::r)=[47,42];{have g:gp (c::r)=(if cL [42,47] ((c::r).drop 2) 0<0 then -1 else cL [42,47] ((c::r).drop 2) 0+4):=(by rw[bm,if_neg hb,if_neg h3,if_pos h4]);have hd:(List.drop 2 (c::r)).length=(c::r).length - 2:=List.length_drop;rw[if_pos h4,if_pos (by omega)];by_cases h5:cL [42,47] (List.drop 2 (c::r)) 0<0;{rw[if_pos h5]at g⊢;rw[g];rfl};rw[if_neg h5]at g⊢;rw[g]at hle hadd;rw[g,if_neg (by omega),if_neg (by omega),bG (a:=cL [42,47] (List.drop 2 (c::r)) 0) (by omega) (by omega),hadd (by omega)]};have g:gp (c::r)=0:=(by rw[bm,if_neg hb,if_neg h3,if_neg h4]);rw[if_neg h4,g];rfl
  rw[if_neg (fun h=>h2 h.2)];simp only[sk2,aI,bO,bV,jX,qD,cQ,sI,cm,tI];rw[if_pos h1,if_neg h2];rfl
 rw[if_neg (fun h=>h1 h.1)];simp only[sk2,aI,bO,bV,jX,qD,cQ,sI,cm,tI];rw[if_neg h1];rfl
end
end Go.Tw.LX
set_option linter.all false
namespace Go.Tw.LX
noncomputable section
def Vs(s:List Dat):Prop:=∃d e ea p,s=[d,.int e,.int ea,.int p]∧0≤p∧d.toS.length<1000000000
theorem Hd:A7 Vs Fy (sk2.tr F0 4):=fun s hs h0=>by obtain⟨d,e,ea,p,rfl,h1,h2⟩:=hs;rw[r7 h1 h2]at h0⊢;have hle:=@vJ (d.toS.drop p.toNat);rw[List.length_drop]at hle;split at h0;{rename_i h3;rw[if_pos h3];split at h0;{cases h0};rename_i h4;rw[if_neg h4];split at h0;{cases h0};rename_i h5;rw[if_neg h5];refine⟨⟨d,e,ea,_,rfl,by omega,h2⟩,?_⟩;show d.toS.length - (p+gp (d.toS.drop p.toNat)).toNat<d.toS.length - p.toNat;omega};cases h0
theorem wB{d:Dat}{e ea p:Int}:sk0.tr F0 4 [d,.int e,.int ea,.int p]=(0,[d,.int e,.int ea,.int p]):=rfl
theorem PB{d:Dat}{e ea p:Int}:sk4.tr F0 4 [d,.int e,.int ea,.int p]=(1,[d,.int e,.int ea,.int p]):=rfl
theorem aF{f g:gw}{s s':List Dat}(h:f s=(0,s')):aG f g s=g s':=by unfold aG;rw[h];rfl
theorem eI{f g:gw}{s s':List Dat}{w:Nat}(h:f s=(w,s'))(hw:w≠0):aG f g s=(w,s'):=by unfold aG;rw[h];simp [hw]
theorem eO{f:gw}{s s':List Dat}{id:Nat}(h:f s=(id+2,s')):jg id f s=(0,s'):=by unfold jg;rw[h];simp
theorem kK{f:gw}{s s':List Dat}{id w:Nat}(h:f s=(w,s'))(hw:w≠id+2):jg id f s=(w,s'):=by unfold jg;rw[h];simp [hw]
section
variable{d:Dat}{e ea p:Int}
theorem rZ(h0:0≤p)(hl:d.toS.length<1000000000)(h:¬(p<d.toS.length∧e=0)∨gp (d.toS.drop p.toNat)=0):gW F0 [d,.int e,.int ea,.int p]=(1,[d,.int e,.int ea,.int p]):=by
 unfold gW;rw[aF wB];by_cases h1:p<d.toS.length∧e=0;{have h:=h.resolve_left (fun k=>k h1);have t:sk2.tr F0 4 [d,.int e,.int ea,.int p]=(1,[d,.int e,.int ea,.int p]):=(by rw[r7 h0 hl,if_pos h1,if_pos h]);rw[eI (kK (by rw[cA (by rw[t];simp),t]) (by simp)) (by simp)]};have t:sk2.tr F0 4 [d,.int e,.int ea,.int p]=(2,[d,.int e,.int ea,.int p]):=by rw[r7 h0 hl,if_neg h1]
 rw[aF (eO (by rw[cA (by rw[t];simp),t])),PB]
theorem Px(h0:0≤p)(hl:d.toS.length<1000000000)(h1:p<d.toS.length)(h:gp (d.toS.drop p.toNat)<0):gW F0 [d,.int 0,.int ea,.int p]=(1,[d,.int 4,.int p,.int p]):=by
 unfold gW;rw[aF wB];have t:sk2.tr F0 4 [d,.int 0,.int ea,.int p]=(1,[d,.int 4,.int p,.int p]):=by rw[r7 h0 hl,if_pos ⟨h1,rfl⟩,if_neg (by omega),if_pos h]
 rw[eI (kK (by rw[cA (by rw[t];simp),t]) (by simp)) (by simp)]
theorem NP(h0:0≤p)(hl:d.toS.length<1000000000)(h1:p<d.toS.length)(h:0<gp (d.toS.drop p.toNat)):gW F0 [d,.int 0,.int ea,.int p]=gW F0 [d,.int 0,.int ea,.int (p+gp (d.toS.drop p.toNat))]:=by
 unfold gW;rw[aF wB,aF wB];have t:sk2.tr F0 4 [d,.int 0,.int ea,.int p]=(0,[d,.int 0,.int ea,.int (p+gp (d.toS.drop p.toNat))]):=by rw[r7 h0 hl,if_pos ⟨h1,rfl⟩,if_neg (by omega),if_neg (by omega)]
 have u:gd (sk2.tr F0 4) Fy [d,.int 0,.int ea,.int p]=gd (sk2.tr F0 4) Fy [d,.int 0,.int ea,.int (p+gp (d.toS.drop p.toNat))]:=by rw[iC Hd ⟨d,0,ea,p,rfl,h0,hl⟩ (by rw[t]),t]
 have w:jg 0 (gd (sk2.tr F0 4) Fy) [d,.int 0,.int ea,.int p]=jg 0 (gd (sk2.tr F0 4) Fy) [d,.int 0,.int ea,.int (p+gp (d.toS.drop p.toNat))]:=by unfold jg;rw[u]
 unfold aG;rw[w]
end
inductive Gap:List UInt8→Nat→Prop
 |nil (r:List UInt8):Gap r 0
 |step {r:List UInt8} {n:Nat} (h:0<gp r) (k:Gap (r.drop (gp r).toNat) n):Gap r ((gp r).toNat+n)
theorem Gap.le{r:List UInt8}{n:Nat}(h:Gap r n):n≤r.length:=by
 induction h with
 |nil r=>omega
 |@step r n h k ih=>have:=@vJ r;rw[List.length_drop]at ih;omega
theorem He{d:Dat}(hl:d.toS.length<1000000000):∀(m:Nat) (p:Nat),d.toS.length - p≤m→p≤d.toS.length→∃n,Gap (d.toS.drop p) n∧
 ((gp (d.toS.drop (p+n))=0∧∀ea,gW F0 [d,.int 0,.int ea,.int p]=(1,[d,.int 0,.int ea,.int ((p+n:Nat):Int)]))∨
  (gp (d.toS.drop (p+n))<0∧p+n<d.toS.length∧∀ea,gW F0 [d,.int 0,.int ea,.int p]=(1,[d,.int 4,.int ((p+n:Nat):Int),.int ((p+n:Nat):Int)]))):=by
 intro m
 induction m with
 |zero=>intro p hm hp;have e:p=d.toS.length:=(by omega);refine⟨0,.nil _,.inl ⟨?_,fun ea=> ?_⟩⟩;{rw[e,Nat.add_zero,List.drop_length];rfl};rw[rZ (by omega) hl (.inl (fun h=>by omega))];rfl
 |succ m ih=>
  intro p hm hp;by_cases h1:p<d.toS.length
  ·rcases Int.lt_trichotomy (gp (d.toS.drop p)) 0 with h|h|h;{exact⟨0,.nil _,.inr ⟨h,by omega,fun ea=>by rw[Px (by omega) hl (by omega) (by rw[Int.toNat_natCast];exact h)];rfl⟩⟩};{exact⟨0,.nil _,.inl ⟨h,fun ea=>by rw[rZ (by omega) hl (.inr (by rw[Int.toNat_natCast];exact h))];rfl⟩⟩};have hle:=@vJ (d.toS.drop p);rw[List.length_drop]at hle;obtain⟨n,g,k⟩:=ih (p+(gp (d.toS.drop p)).toNat) (by omega) (by omega);have e2:(p:Int)+gp (d.toS.drop p)=((p+(gp (d.toS.drop p)).toNat:Nat):Int):=(by omega);have e:∀ea,gW F0 [d,.int 0,.int ea,.int p]=gW F0 [d,.int 0,.int ea,.int ((p+(gp (d.toS.drop p)).toNat:Nat):Int)]:=fun ea=>by
    have e:=NP (d:=d) (ea:=ea) (p:=p) (by omega) hl (by omega) (by rw[Int.toNat_natCast];exact h);rw[Int.toNat_natCast,e2]at e;exact e
   refine⟨(gp (d.toS.drop p)).toNat+n,.step h (by rw[List.drop_drop];exact g),?_⟩;rw[←Nat.add_assoc];rcases k with⟨k1,k2⟩|⟨k1,k2,k3⟩;{exact .inl ⟨k1,fun ea=>by rw[e];exact k2 ea⟩};exact .inr ⟨k1,k2,fun ea=>by rw[e];exact k3 ea⟩
  have e:p=d.toS.length:=(by omega);refine⟨0,.nil _,.inl ⟨?_,fun ea=> ?_⟩⟩;{rw[e,Nat.add_zero,List.drop_length];rfl};rw[rZ (by omega) hl (.inl (fun h=>by omega))];rfl
theorem CT{d:Dat}(hl:d.toS.length<1000000000){r:List UInt8}{n:Nat}(g:Gap r n):∀(p:Nat) (ea:Int),p≤d.toS.length→r=d.toS.drop p→gp (d.toS.drop (p+n))=0→gW F0 [d,.int 0,.int ea,.int p]=(1,[d,.int 0,.int ea,.int ((p+n:Nat):Int)]):=by
 induction g with
 |nil r=>intro p ea hp hr h;exact rZ (by omega) hl (.inr (by rw[Int.toNat_natCast];exact h))
 |@step r n h k ih=>intro p ea hp hr h2;have hle:=@vJ r;have hlen:r.length=d.toS.length - p:=(by rw[hr,List.length_drop]);have e:=NP (d:=d) (ea:=ea) (p:=p) (by omega) hl (by omega) (by rw[Int.toNat_natCast,←hr];exact h);rw[Int.toNat_natCast,←hr]at e;have e2:(p:Int)+gp r=((p+(gp r).toNat:Nat):Int):=(by omega);rw[e2]at e;rw[e,ih (p+(gp r).toNat) ea (by omega) (by rw[hr,List.drop_drop]) (by rw[Nat.add_assoc];exact h2),Nat.add_assoc]
end
end Go.Tw.LX
set_option linter.all false
namespace Go.Tw.LX
noncomputable section
theorem oF(q:UInt8→Bool)(l:List UInt8):(l.takeWhile q).length≤l.length:=(List.takeWhile_sublist q).length_le
section
variable{d:Dat}{e ea p t:Int}
theorem oL(h0:0≤t)(hl:d.toS.length<1000000000):rn3.tr F0 5 [d,.int e,.int ea,.int p,.int t]=
 if ∃c,d.toS[t.toNat]? =some c∧bD c=true then(0,[d,.int e,.int ea,.int p,.int (t+1)])else(2,[d,.int e,.int ea,.int p,.int t]):=by
 by_cases h1:t<d.toS.length
 ·obtain⟨c,r,hr,hc⟩:=nX (l:=d.toS) (n:=t.toNat) (by omega);simp only[rn3,aI,bO,bV,Mb,cQ,sI,iQ,Lm,cm,tI,X1,kJ,kH,fA,dN,qD,uR,jX,iP,ek hc,show Dat.int (c.toNat:Int)=wg c from rfl,f12];rw[if_pos h1,bG (by omega) (by omega)];cases hp:bD c with
  |true=>rw[if_neg (by simp [dW]),if_pos ⟨c,hc,hp⟩];rfl
  |false=>rw[if_pos (by simp [dW]),if_neg (fun⟨x,hx,hy⟩=>by rw[hc]at hx;cases hx;rw[hp]at hy;cases hy)];rfl
 have hn:d.toS[t.toNat]? =none:=bZ (by omega);rw[if_neg (fun⟨x,hx,_⟩=>by rw[hn]at hx;cases hx)];simp only[rn3,aI,bO,Mb,cQ,cm,tI,X1,kJ,kH,fA,dN,qD,uR,jX,sI];rw[if_neg h1];rfl
end
def VZ(s:List Dat):Prop:=∃d e ea p t,s=[d,.int e,.int ea,.int p,.int t]∧0≤p∧p≤t∧t≤d.toS.length∧d.toS.length<1000000000
theorem Hz:A7 VZ RM (rn3.tr F0 5):=fun s hs h0=>by obtain⟨d,e,ea,p,t,rfl,h1,h2,h3,h4⟩:=hs;rw[oL (by omega) h4]at h0⊢;split at h0;{rename_i h;rw[if_pos h];obtain⟨c,hc,_⟩:=h;have:=(List.getElem?_eq_some_iff.1 hc).1;refine⟨⟨d,e,ea,p,t+1,rfl,h1,by omega,by omega,h4⟩,?_⟩;show d.toS.length - (t+1).toNat<d.toS.length - t.toNat;omega};cases h0
theorem NT{d:Dat}{e ea p:Int}(h0:0≤p)(hl:d.toS.length<1000000000):∀(m t:Nat),d.toS.length - t≤m→p≤t→t≤d.toS.length→
 gd (rn3.tr F0 5) RM [d,.int e,.int ea,.int p,.int t]=(2,[d,.int e,.int ea,.int p,.int ((t+((d.toS.drop t).takeWhile bD).length:Nat):Int)]):=by
 intro m
 induction m with
 |zero=>intro t hm hp ht;have e:t=d.toS.length:=(by omega);have k:¬∃c,d.toS[(t:Int).toNat]? =some c∧bD c=true:=fun⟨c,hc,_⟩=>(by have:=(List.getElem?_eq_some_iff.1 hc).1;omega);rw[cA (by rw[oL (by omega) hl,if_neg k];simp),oL (by omega) hl,if_neg k,e,List.drop_length];simp
 |succ m ih=>
  intro t hm hp ht;by_cases k:∃c,d.toS[(t:Int).toNat]? =some c∧bD c=true
  ·have hr:=oL (d:=d) (e:=e) (ea:=ea) (p:=p) (t:=t) (by omega) hl;rw[if_pos k]at hr;rw[iC Hz ⟨d,e,ea,p,t,rfl,h0,hp,by omega,hl⟩ (by rw[hr]),hr];obtain⟨c,hc,hpc⟩:=k;have hlt:=(List.getElem?_eq_some_iff.1 hc).1;have hi:=ih (t+1) (by omega) (by omega) (by omega);rw[show((t:Int)+1)=((t+1:Nat):Int) by omega,hi];have hd:d.toS.drop t=c::d.toS.drop (t+1):=by
    rw[List.drop_eq_getElem_cons (by omega)];have:d.toS[t]? =some c:=(by rw[←hc];simp);rw[bC (by omega)]at this;rw[Option.some.inj this]
   rw[hd,List.takeWhile_cons,hpc];simp only[if_true,List.length_cons];rw[show t+1+(List.takeWhile bD (List.drop (t+1) d.toS)).length=t+((List.takeWhile bD (List.drop (t+1) d.toS)).length+1) by omega]
  rw[cA (by rw[oL (by omega) hl,if_neg k];simp),oL (by omega) hl,if_neg k];have:(d.toS.drop t).takeWhile bD=[]:=by
   cases hd:d.toS.drop t with
   |nil=>rfl
   |cons c r=>have hc:d.toS[t]? =some c:=(by have:=congrArg (fun l=>l[0]?) hd;simpa using this);rw[List.takeWhile_cons];have:¬bD c=true:=fun h=>k ⟨c,by rw[Int.toNat_natCast];exact hc,h⟩;simp [this]
  rw[this];rfl
theorem NS{d:Dat}{e ea:Int}{p:Nat}(hp:p≤d.toS.length)(hl:d.toS.length<1000000000):yP F0 [d,.int e,.int ea,.int p]=(1,[d,.int e,.int ea,.str ((d.toS.drop p).takeWhile bD)]):=by
 unfold yP;rw[aF (f:=rn0.tr F0 4) (s':=[d,.int e,.int ea,.int p]) rfl,aF (f:=rn1.tr F0 5) (s':=[d,.int e,.int ea,.int p,.int p]) rfl];rw[aF (eO (NT (by omega) hl _ p (aE _) (by omega) hp))];have hle:=oF bD (d.toS.drop p);rw[List.length_drop]at hle;simp only[rn5,OY,sI,cm,dN,qD,uR,tI,dg,fy,jX,Mb,tS,Int.toNat_natCast];have:List.drop p (List.take (p+(List.takeWhile bD (List.drop p d.toS)).length) d.toS)=List.takeWhile bD (List.drop p d.toS):=by rw[List.drop_take,Nat.add_sub_cancel_left];exact(List.prefix_iff_eq_take.1 (List.takeWhile_prefix bD)).symm
 rw[this];rfl
theorem f23{d b c:Dat}{p:Nat}(hp:p≤d.toS.length)(hl:d.toS.length<1000000000)(hb:b.toI=p):F0 23 d b c=.str ((d.toS.drop p).takeWhile bD):=by rw[VD,hb,NS hp hl];rfl
def XS(s:List Dat):Prop:=∃l y x i,s=[l,y,x,.int i]∧0≤i∧l.toL.length<1000000001
theorem JW:A7 XS FB (ix3.tr F0 4):=fun s hs h0=>by obtain⟨l,y,x,i,rfl,h1,h2⟩:=hs;revert h0;simp only[ix3,aI,bO,ke,jX,sL,cm,tI,sI,OY,kJ,kH,dN,iP];split;{rename_i h3;split;{intro h;cases h};intro _;rw[bG (by omega) (by omega)];refine⟨⟨l,y,x,i+1,rfl,by omega,h2⟩,?_⟩;show l.toL.length - (i+1).toNat<l.toL.length - i.toNat;omega};intro h;cases h
def gS(l:Dat)(i:Nat):List UInt8:=(l.cell (i:Int) 0).toS
def jU(l:Dat)(s:List UInt8):Nat→Nat→Nat
 |0,_=>0
 |k+1,i=>if(gS l i).isPrefixOf s then(gS l i).length else jU l s k (i+1)
theorem PU(l:Dat)(s:List UInt8):∀k i,jU l s k i≤s.length:=by
 intro k
 induction k with
 |zero=>intro i;exact bP _
 |succ k ih=>intro i;unfold jU;split;{rename_i h;exact(List.isPrefixOf_iff_prefix.1 h).length_le};exact ih _
theorem yS(l:Dat)(s:List UInt8):∀k i,0<jU l s k i→jU l (s.take (jU l s k i)) k i=jU l s k i:=by
 intro k
 induction k with
 |zero=>intro i h;cases h
 |succ k ih=>intro i h;by_cases hp:(gS l i).isPrefixOf s=true;{have e:jU l s (k+1) i=(gS l i).length:=(by unfold jU;rw[if_pos hp]);rw[e];have:s.take (gS l i).length=gS l i:=(List.prefix_iff_eq_take.1 (List.isPrefixOf_iff_prefix.1 hp)).symm;rw[this];unfold jU;rw[if_pos (List.isPrefixOf_iff_prefix.2 (List.prefix_refl _))]};have e:jU l s (k+1) i=jU l s k (i+1):=(by rw[jU,if_neg hp]);rw[e]at h⊢;rw[jU,if_neg,ih _ h];intro h2;exact hp (List.isPrefixOf_iff_prefix.2 ((List.isPrefixOf_iff_prefix.1 h2).trans (List.take_prefix _ _)))
theorem Mo{x s:List UInt8}:(¬(s.length:Int)<x.length∧s.take x.length=x)↔x.isPrefixOf s=true:=by rw[List.isPrefixOf_iff_prefix];constructor;{intro h;rw[List.prefix_iff_eq_take];exact h.2.symm};intro h;have:=h.length_le;exact⟨by omega,(List.prefix_iff_eq_take.1 h).symm⟩
def VY(s:List Dat):Prop:=∃x l i,s=[x,l,.int (l.toL.length:Int),.int i]∧0≤i∧l.toL.length<1000000001
theorem Bo{x l:Dat}{i:Nat}(h2:l.toL.length<1000000001):sg3.tr F0 4 [x,l,.int (l.toL.length:Int),.int i]=
 if i<l.toL.length then(if(gS l i).isPrefixOf x.toS=true then(1,[.int ((gS l i).length:Int),.int 0,.int 0,.int 0])else(0,[x,l,.int (l.toL.length:Int),.int ((i+1:Nat):Int)]))else(2,[.int 0,.int 0,.int 0,.int 0]):=by
 simp only[sg3,aI,bO,ke,jX,uR,sL,cm,kJ,tI,tS,sI,OY,dN,iP,cQ,kA,ix,fy,On,YS,Wy,dI];by_cases h1:i<l.toL.length;{rw[if_pos h1,if_pos (by omega),if_pos (by omega),bG (by omega) (by omega)];have e:((i:Int)+1)=((i+1:Nat):Int):=(by omega);rw[e];have hp:=@Mo (gS l i) x.toS;rw[show(l.cell (i:Int) 0).toS=gS l i from rfl];by_cases h3:(x.toS.length:Int)<(gS l i).length;{rw[if_pos h3,if_neg (fun h=>(hp.2 h).1 h3)];rfl};rw[if_neg h3,if_neg (by omega)];by_cases h4:x.toS.take (gS l i).length=gS l i;{rw[if_pos (by rw[Int.toNat_natCast];exact h4),if_pos (hp.1 ⟨h3,h4⟩)];rfl};rw[if_neg (by rw[Int.toNat_natCast];exact h4),if_neg (fun h=>h4 (hp.2 h).2)];rfl};rw[if_neg h1,if_neg (by omega)];rfl
theorem Hj:A7 VY zI (sg3.tr F0 4):=fun s hs h0=>by obtain⟨x,l,i,rfl,h1,h2⟩:=hs;obtain⟨n,rfl⟩:∃n:Nat,i=n:=⟨i.toNat,by omega⟩;rw[Bo h2]at h0⊢;split at h0;{rename_i h3;rw[if_pos h3];split at h0;{cases h0};rename_i h4;rw[if_neg h4];refine⟨⟨x,l,_,rfl,by omega,h2⟩,?_⟩;show(l.toL.length:Int).toNat - ((n+1:Nat):Int).toNat<(l.toL.length:Int).toNat - (n:Int).toNat;omega};cases h0
theorem TQ{x l:Dat}(h2:l.toL.length<1000000001):∀(k i:Nat),i+k=l.toL.length→
 gd (sg3.tr F0 4) zI [x,l,.int (l.toL.length:Int),.int i]=(1,[.int (jU l x.toS k i:Int),.int 0,.int 0,.int 0])∨(gd (sg3.tr F0 4) zI [x,l,.int (l.toL.length:Int),.int i]=(2,[.int 0,.int 0,.int 0,.int 0])∧jU l x.toS k i=0):=by
 intro k
 induction k with
 |zero=>intro i hi;have r:=Bo (x:=x) (i:=i) h2;rw[if_neg (by omega)]at r;exact .inr ⟨by rw[cA (by rw[r];simp),r],rfl⟩
 |succ k ih=>intro i hi;have r:=Bo (x:=x) (i:=i) h2;rw[if_pos (by omega)]at r;by_cases hp:(gS l i).isPrefixOf x.toS=true;{rw[if_pos hp]at r;have e:jU l x.toS (k+1) i=(gS l i).length:=(by rw[jU,if_pos hp]);exact .inl (by rw[cA (by rw[r];simp),r,e])};rw[if_neg hp]at r;have e:jU l x.toS (k+1) i=jU l x.toS k (i+1):=(by rw[jU,if_neg hp]);rw[iC Hj ⟨x,l,i,rfl,by omega,h2⟩ (by rw[r]),r,e];exact ih (i+1) (by omega)
def sgns:Dat:=F0 2 (.int 0) (.int 0) (.int 0)
theorem yR:sgns.toL.length=45:=by kernel_rfl
theorem NQ(x:Dat):(wq F0 [x]).1=1∧aP (wq F0 [x]).2 0=.int (jU sgns x.toS 45 0:Int):=by
 unfold wq;rw[aF (f:=sg0.tr F0 1) (s':=[x]) rfl];have hl:=yR;have e1:sg1.tr F0 4 [x]=(0,[x,sgns,.int (sgns.toL.length:Int),.int 0]):=rfl;rcases TQ (x:=x) (l:=sgns) (by omega) 45 0 (by omega)with h|⟨h,h3⟩;{have u:jg 0 (gd (sg3.tr F0 4) zI) [x,sgns,.int (sgns.toL.length:Int),.int 0]=(1,[.int (jU sgns x.toS 45 0:Int),.int 0,.int 0,.int 0]):=kK h (by simp);have w:aG (sg1.tr F0 4) (jg 0 (gd (sg3.tr F0 4) zI)) [x]=(1,[.int (jU sgns x.toS 45 0:Int),.int 0,.int 0,.int 0]):=(by rw[aF e1];exact u);rw[eI w (by simp)];exact⟨rfl,rfl⟩};have u:jg 0 (gd (sg3.tr F0 4) zI) [x,sgns,.int (sgns.toL.length:Int),.int 0]=(0,[.int 0,.int 0,.int 0,.int 0]):=eO h;have w:aG (sg1.tr F0 4) (jg 0 (gd (sg3.tr F0 4) zI)) [x]=(0,[.int 0,.int 0,.int 0,.int 0]):=by rw[aF e1];exact u
 rw[aF w,h3];exact⟨rfl,rfl⟩
def gO(s:List UInt8):Nat:=jU sgns s 45 0
theorem f14{x b c:Dat}:F0 14 x b c=.int (gO x.toS:Int):=by rw[OK,(NQ x).2];rfl
end
end Go.Tw.LX
set_option linter.all false
namespace Go.Tw.LX
noncomputable section
def esZ:Nat×List Dat:=(1,[.int 0,.int 0])
def XB(c:Int):Nat×List Dat:=
 if c=110 then(1,[.int 10,.int 2])else if c=116 then(1,[.int 9,.int 2])else if c=114 then(1,[.int 13,.int 2])else if c=48 then(1,[.int 0,.int 2])else
 if c=92 then(1,[.int 92,.int 2])else if c=39 then(1,[.int 39,.int 2])else if c=34 then(1,[.int 34,.int 2])else esZ
def SJ(s:List UInt8):Nat×List Dat:=
 if(F0 12 (.int (cJ s 2)) (.int 0) (.int 0)).toI=0 then esZ else if(F0 12 (.int (cJ s 3)) (.int 0) (.int 0)).toI=0 then esZ else
 if(F0 11 (.str ((s.take 4).drop 2)) (.int 16) (.int 8)).toI=0 then(1,[.int (cG .u8 (F0 10 (.str ((s.take 4).drop 2)) (.int 16) (.int 8)).toI),.int 4])else esZ
def Lk(s:List UInt8):Nat×List Dat:=if s.length<2 then esZ else if cJ s 1=120 then(if s.length<4 then esZ else SJ s)else XB (cJ s 1)
theorem Eg(d:Dat):es0.tr F0 2 [d]=Lk d.toS:=by
 have h4:(List.drop (Int.toNat 2) (List.take (Int.toNat 4) d.toS)).length<1000000000:=by rw[List.length_drop,List.length_take,show Int.toNat 4=4 from rfl];omega
 simp only[es0,aI,bO,bV,ke,cQ,sI,QA,Lm,cm,On,tI,tS,iQ,lZ,fy,dg,dN,dI,Gj,Qw,Yx];unfold Lk;by_cases h1:d.toS.length<2;{rw[if_pos h1,if_pos (by omega)];rfl};rw[if_neg h1,if_neg (by omega),if_pos (by omega)];by_cases h2:cJ d.toS 1=120;{rw[if_pos h2,if_pos (show cJ d.toS (Int.toNat 1)=120 from h2)];by_cases h3:d.toS.length<4;{rw[if_pos h3,if_pos (by omega)];rfl};rw[if_neg h3,if_neg (by omega),if_pos (by omega)];unfold SJ;simp only[show Int.toNat 2=2 from rfl,show Int.toNat 3=3 from rfl,show Int.toNat 4=4 from rfl];by_cases h5:(F0 12 (.int (cJ d.toS 2)) (.int 0) (.int 0)).toI=0;{rw[if_pos h5,if_pos h5];rfl};rw[if_neg h5,if_neg h5,if_pos (by omega)];by_cases h6:(F0 12 (.int (cJ d.toS 3)) (.int 0) (.int 0)).toI=0;{rw[if_pos h6,if_pos h6];rfl};rw[if_neg h6,if_neg h6,if_pos (by rw[show Int.toNat 2=2 from rfl,show Int.toNat 4=4 from rfl]at h4;omega)];rfl};rw[if_neg h2,if_neg (show ¬cJ d.toS (Int.toNat 1)=120 from h2)];rfl
theorem Vg(c:Int):∃b n:Int,XB c=(1,[.int b,.int n])∧(n=0∨n=2):=by
 unfold XB esZ;repeat' split
 all_goals first|exact⟨_,_,rfl,.inr rfl⟩|exact⟨_,_,rfl,.inl rfl⟩
theorem Om(s:List UInt8):∃b n:Int,SJ s=(1,[.int b,.int n])∧(n=0∨n=4):=by
 unfold SJ esZ;repeat' split
 all_goals first|exact⟨_,_,rfl,.inr rfl⟩|exact⟨_,_,rfl,.inl rfl⟩
theorem Eh(s:List UInt8):∃(b:Int) (n:Nat),Lk s=(1,[.int b,.int (n:Int)])∧n≤s.length∧(n=0∨2≤n)∧n≤4:=by unfold Lk;split;{exact⟨0,0,rfl,by omega,.inl rfl,by omega⟩};split;{split;{exact⟨0,0,rfl,by omega,.inl rfl,by omega⟩};obtain⟨b,n,h,h2⟩:=Om s;exact⟨b,n.toNat,by rw[h];congr 4;omega,by omega,by omega,by omega⟩};obtain⟨b,n,h,h2⟩:=Vg (cJ s 1);exact⟨b,n.toNat,by rw[h];congr 4;omega,by omega,by omega,by omega⟩
theorem AW{s:List UInt8}{i m:Nat}(h:i<m):cJ (s.take m) i=cJ s i:=by unfold cJ;rw[List.getElem?_take];simp [h]
theorem Kn{s s':List UInt8}{b:Int}{n:Nat}(h:Lk s=(1,[.int b,.int (n:Int)]))(hn:0<n)(ht:s'.take n=s.take n):Lk s'=(1,[.int b,.int (n:Int)]):=by
 obtain⟨b',n',e,h1,h2,_⟩:=Eh s;have hnn:n'=n:=by rw[h]at e;injection e with _ e;injection e with _ e;injection e with e _;injection e with e;omega
 subst hnn;have hlen:n'≤s'.length:=by have:=congrArg List.length ht;rw[List.length_take,List.length_take]at this;omega
 have hat:∀i,i<n'→cJ s' i=cJ s i:=fun i hi=>by rw[←AW hi,ht,AW hi]
 unfold Lk at h⊢;rw[if_neg (by omega)]at h;rw[if_neg (by omega),hat 1 (by omega)];split at h
 ·rename_i hx;rw[if_pos hx];split at h;{injection h with _ h;injection h with _ h;injection h with h _;injection h with h;omega};rename_i h4;obtain⟨b2,n2,e2,h5⟩:=Om s;have:n2=n':=(by rw[h]at e2;injection e2 with _ e2;injection e2 with _ e2;injection e2 with e2 _;injection e2 with e2;exact e2.symm);rw[if_neg (by omega)];have e4:n'=4:=(by omega);have ex:SJ s'=SJ s:=by
   unfold SJ;rw[hat 2 (by omega),hat 3 (by omega),←e4,ht]
  rw[ex];exact h
 rename_i hx;rw[if_neg hx];exact h
def Ll(s:List UInt8):Dat:=aP (Lk s).2 0
def vM(s:List UInt8):Nat:=(aP (Lk s).2 1).toI.toNat
theorem tM(s:List UInt8):Lk s=(1,[Ll s,.int (vM s:Int)]):=by obtain⟨b,n,e,_⟩:=Eh s;unfold Ll vM;rw[e];rfl
theorem Ns(s:List UInt8):∃b:Int,Ll s=.int b:=by obtain⟨b,n,e,_⟩:=Eh s;unfold Ll;rw[e];exact⟨b,rfl⟩
theorem SM(s:List UInt8):vM s≤s.length∧(vM s=0∨2≤vM s)∧vM s≤4:=by obtain⟨b,n,e,h⟩:=Eh s;unfold vM;rw[e];exact h
theorem Nq{s s':List UInt8}(hn:0<vM s)(ht:s'.take (vM s)=s.take (vM s)):Ll s'=Ll s∧vM s'=vM s:=by obtain⟨b,hb⟩:=Ns s;have e:=tM s;rw[hb]at e;have k:=Kn e hn ht;constructor;{rw[hb];unfold Ll;rw[k];rfl};unfold vM at k⊢;rw[k];rfl
theorem f24{d b c:Dat}:F0 24 d b c=.int (Ll d.toS).toI:=by rw[VC];unfold wv;rw[Eg,tM];rfl
theorem f25{d b c:Dat}:F0 25 d b c=.int (vM d.toS:Int):=by rw[VB];unfold wv;rw[Eg,tM];rfl
theorem Ks(q:UInt8→Bool)(l:List UInt8):(l.dropWhile q).length≤l.length:=(List.dropWhile_sublist q).length_le
theorem NO{d:Dat}(hl:d.toS.length<1000000000)(h1:1≤d.toS.length):∃(b:Int) (x y:List UInt8),sp0.tr F0 3 [d]=(1,[.int b,.str x,.str y])∧8≤b∧b≤16∧x.length≤d.toS.length∧y.Sublist d.toS:=by
 have h2:(List.drop (Int.toNat 2) d.toS).length≤d.toS.length:=by rw[List.length_drop];omega
 have key:∀(q:UInt8→Bool) (l:List UInt8),l.length<1000000000→bu .sub .i64 (l.length:Int) ((l.dropWhile q).length:Int)=((l.length - (l.dropWhile q).length:Nat):Int):=fun q l h=>by have:=Ks q l;rw[oG (by omega) (by omega)];omega
 simp only[sp0,aI,bO,bV,ke,cQ,sI,QA,Lm,cm,On,tI,tS,iQ,lZ,fy,dg,dN,dI,Gj,Qw,Yw,Kx,Tp,iP];simp only[key _ d.toS hl,key _ (List.drop (Int.toNat 2) d.toS) (by omega)];repeat' split
 all_goals first
  |(exfalso;omega)
  |exact⟨_,_,_,rfl,by omega,by omega,by rw[List.length_take];omega,List.dropWhile_sublist _⟩
  |exact⟨_,_,_,rfl,by omega,by omega,by rw[List.length_take];omega,(List.dropWhile_sublist _).trans (List.drop_sublist _ _)⟩
theorem Wa{d b c:Dat}(hl:d.toS.length<1000000000)(h1:1≤d.toS.length):∃(k:Int) (x y:List UInt8),F0 20 d b c=.int k∧F0 21 d b c=.str x∧F0 22 d b c=.str y∧8≤k∧k≤16∧x.length≤d.toS.length∧y.Sublist d.toS:=by obtain⟨k,x,y,e,h⟩:=NO hl h1;refine⟨k,x,y,?_,?_,?_,h⟩;{rw[F0_20];unfold mA;rw[e];rfl};{rw[F0_21];unfold mA;rw[e];rfl};rw[F0_22];unfold mA;rw[e];rfl
end
end Go.Tw.LX
set_option linter.all false
namespace Go.Tw.LX
noncomputable section
def IK:List UInt8→Option (Dat×Nat)
 |[]=>none
 |c::r=>if c.toNat=92 then(if vM (c::r)=0 then none else some (.int (Ll (c::r)).toI,vM (c::r)))else if c.toNat<32 then none else if c.toNat<127 then some (.int (c.toNat:Int),1)else none
theorem nE(c:UInt8)(r:List UInt8):IK (c::r)=if c.toNat=92 then(if vM (c::r)=0 then none else some (.int (Ll (c::r)).toI,vM (c::r)))else if c.toNat<32 then none else if c.toNat<127 then some (.int (c.toNat:Int),1)else none:=rfl
theorem oW{r:List UInt8}{x:Dat}{k:Nat}(h:IK r=some (x,k)):1≤k∧k≤r.length:=by
 cases r with
 |nil=>cases h
 |cons c r=>rw[nE]at h;split at h;{split at h;{cases h};injection h with h;injection h with _ h;have:=SM (c::r);omega};split at h;{cases h};split at h;{injection h with h;injection h with _ h;simp only[List.length_cons];omega};cases h
theorem IJ{r r':List UInt8}{x:Dat}{k:Nat}(h:IK r=some (x,k))(ht:r'.take k=r.take k):IK r'=some (x,k):=by
 have hb:=oW h;cases r with
 |nil=>cases h
 |cons c r=>
  obtain⟨k',rfl⟩:∃k',k=k'+1:=⟨k - 1,by omega⟩;cases r' with
  |nil=>rw[List.take_succ_cons]at ht;cases ht
  |cons c' r'=>have hc:c'=c:=(by rw[List.take_succ_cons,List.take_succ_cons]at ht;injection ht);subst hc;rw[nE]at h⊢;split at h;{rename_i hc;rw[if_pos hc];split at h;{cases h};rename_i h0;injection h with h;injection h with h1 h2;have e:=Nq (s:=c'::r) (s':=c'::r') (by omega) (by rw[h2];exact ht);rw[e.2,e.1,if_neg h0,h1,h2]};rename_i hc;rw[if_neg hc];exact h
inductive Qt (q:Int):List UInt8→Nat→List (List Dat)→Prop
 |nil (r:List UInt8):Qt q r 0 []
 |step {c:UInt8} {r:List UInt8} {x:Dat} {k n:Nat} {l:List (List Dat)} (hc:(c.toNat:Int)≠q) (h:IK (c::r)=some (x,k)) (t:Qt q ((c::r).drop k) n l):Qt q (c::r) (k+n) ([x]::l)
theorem Qt.same{q:Int}{r:List UInt8}{n:Nat}{l:List (List Dat)}(h:Qt q r n l):∀r':List UInt8,r'.take n=r.take n→Qt q r' n l:=by
 induction h with
 |nil r=>intro r' _;exact .nil _
 |@step c r x k n l hc h t ih=>
  intro r' ht;have hb:=oW h;have ht1:r'.take k=(c::r).take k:=(by have:=congrArg (List.take k) ht;rwa[List.take_take,List.take_take,Nat.min_eq_left (by omega)]at this);have h2:=IJ h ht1;obtain⟨k',rfl⟩:∃k',k=k'+1:=⟨k - 1,by omega⟩;cases r' with
  |nil=>rw[List.take_succ_cons]at ht1;cases ht1
  |cons c' r'=>have hcc:c'=c:=(by rw[List.take_succ_cons,List.take_succ_cons]at ht1;injection ht1);subst hcc;refine .step hc h2 (ih _ ?_);have:=congrArg (List.drop (k'+1)) ht;rw[List.drop_take,List.drop_take,Nat.add_sub_cancel_left]at this;exact this
def ep(d:Dat)(ea p:Int)(rows:List (List Dat))(y q t:Int):List Dat:=[d,.int 0,.int ea,.int p,.int 0,.int 0,.int 0,.lst [],.int 0,.int p,.lst rows,.int y,.int q,.int t]
section
variable{d:Dat}{ea p y q t:Int}{rows:List (List Dat)}
theorem nD(h:¬(t<d.toS.length∧cJ d.toS t.toNat≠q)):qu5.tr F0 14 (ep d ea p rows y q t)=(2,ep d ea p rows y q t):=by unfold ep;simp only[qu5,aI,bO,bV,Bq,Mc,cQ,cm,tI,QA];by_cases h1:t<d.toS.length;{rw[if_pos h1,if_pos (Classical.byContradiction fun h2=>h ⟨h1,h2⟩)];rfl};rw[if_neg h1];rfl
theorem DF(h0:0≤t)(hl:d.toS.length<1000000000)(h1:t<d.toS.length)(h2:cJ d.toS t.toNat≠q)(h:IK (d.toS.drop t.toNat)=none):
 qu5.tr F0 14 (ep d ea p rows y q t)=(1,[d,.int 10,.int t,.int 5,.int p,.int 0,.int 0,.lst rows,.int y,.int 0,.int 0,.int 0,.int 0,.int 0]):=by
 obtain⟨c,r,hr,hc⟩:=nX (l:=d.toS) (n:=t.toNat) (by omega);have hld:(d.toS.drop t.toNat).length=d.toS.length - t.toNat:=List.length_drop;unfold ep;simp only[qu5,aI,bO,bV,Bq,Mc,cQ,sI,cm,tI,QA,iQ,lZ,Lm,dg,tS,f24,f25,dI,TD,sL,tQ,tL];rw[if_pos h1,if_neg h2,ek hc];rw[hr]at h hld⊢;rw[nE]at h;by_cases h3:c.toNat=92;{rw[if_pos h3]at h;rw[if_pos (by omega),if_neg (by omega),if_pos (by omega)];by_cases h4:vM (c::r)=0;{rw[if_pos (by omega)];rfl};rw[if_neg h4]at h;cases h};rw[if_neg h3]at h;rw[if_neg (by omega)];by_cases h4:c.toNat<32;{rw[if_pos (by omega)];rfl};rw[if_neg h4]at h;by_cases h5:c.toNat<127;{rw[if_pos h5]at h;cases h};rw[if_neg (by omega),if_neg (by omega)];rfl
theorem BW{x:Dat}{k:Nat}(h0:0≤t)(hl:d.toS.length<1000000000)(hy:rows.length<1000000001)(h1:t<d.toS.length)(h2:cJ d.toS t.toNat≠q)(h:IK (d.toS.drop t.toNat)=some (x,k)):
 qu5.tr F0 14 (ep d ea p rows y q t)=(0,ep d ea p (rows++[[x]]) 1 q (t+k)):=by
 obtain⟨c,r,hr,hc⟩:=nX (l:=d.toS) (n:=t.toNat) (by omega);have hld:(d.toS.drop t.toNat).length=d.toS.length - t.toNat:=List.length_drop;have hb:=oW h;unfold ep;simp only[qu5,aI,bO,bV,Bq,Mc,cQ,sI,cm,tI,QA,iQ,lZ,Lm,dg,tS,f24,f25,dI,TD,sL,tQ,tL,dN,qD,uR,jX,Mb,WA,YE,rv,Ej,X2,dJ,d12,d14,dO,iP,Dat.one];rw[if_pos h1,if_neg h2,ek hc];rw[hr]at h hld hb⊢;rw[nE]at h;by_cases h3:c.toNat=92;{rw[if_pos h3]at h;rw[if_pos (by omega),if_neg (by omega),if_pos (by omega)];by_cases h4:vM (c::r)=0;{rw[if_pos h4]at h;cases h};rw[if_neg h4]at h;injection h with h;injection h with hx hk;rw[if_neg (by omega),if_pos (by omega),bG (by omega) (by omega),hx,hk];rfl};rw[if_neg h3]at h;rw[if_neg (by omega)];by_cases h4:c.toNat<32;{rw[if_pos h4]at h;cases h};rw[if_neg h4]at h;by_cases h5:c.toNat<127;{rw[if_pos h5]at h;injection h with h;injection h with hx hk;rw[if_neg (by omega),if_pos (by omega),if_pos (by omega),bG (by omega) (by omega),hx,←hk];rfl};rw[if_neg h5]at h;cases h
end
end
end Go.Tw.LX
set_option linter.all false
namespace Go.Tw.LX
noncomputable section
def XQ(s:List Dat):Prop:=∃d ea p rows y q t,s=ep d ea p rows y q t∧0≤p∧p<d.toS.length∧0≤t∧t≤d.toS.length∧(rows.length:Int)≤t∧d.toS.length<1000000000
section
variable{d:Dat}{ea p y q t:Int}{rows:List (List Dat)}
theorem vd(h0:0≤t)(hl:d.toS.length<1000000000)(hy:rows.length<1000000001):(¬(t<d.toS.length∧cJ d.toS t.toNat≠q)∧qu5.tr F0 14 (ep d ea p rows y q t)=(2,ep d ea p rows y q t))∨
 (t<d.toS.length∧cJ d.toS t.toNat≠q∧IK (d.toS.drop t.toNat)=none∧qu5.tr F0 14 (ep d ea p rows y q t)=(1,[d,.int 10,.int t,.int 5,.int p,.int 0,.int 0,.lst rows,.int y,.int 0,.int 0,.int 0,.int 0,.int 0]))∨
 (∃x k,t<d.toS.length∧cJ d.toS t.toNat≠q∧IK (d.toS.drop t.toNat)=some (x,k)∧1≤k∧t+k≤d.toS.length∧qu5.tr F0 14 (ep d ea p rows y q t)=(0,ep d ea p (rows++[[x]]) 1 q (t+k))):=by
 by_cases h:t<d.toS.length∧cJ d.toS t.toNat≠q
 ·cases hq:IK (d.toS.drop t.toNat)with
  |none=>exact .inr (.inl ⟨h.1,h.2,rfl,DF h0 hl h.1 h.2 hq⟩)
  |some z=>obtain⟨x,k⟩:=z;have hb:=oW hq;rw[List.length_drop]at hb;exact .inr (.inr ⟨x,k,h.1,h.2,rfl,hb.1,by omega,BW h0 hl hy h.1 h.2 hq⟩)
 exact .inl ⟨h,nD h⟩
end
theorem w9:A7 XQ uq (qu5.tr F0 14):=fun s hs h0=>by obtain⟨d,ea,p,rows,y,q,t,rfl,h1,h2,h3,h4,h5,h6⟩:=hs;rcases vd (d:=d) (ea:=ea) (p:=p) (y:=y) (q:=q) (t:=t) (rows:=rows) h3 h6 (by omega)with⟨_,e⟩|⟨_,_,_,e⟩|⟨x,k,a,b,c,k1,k2,e⟩;{rw[e]at h0;cases h0};{rw[e]at h0;cases h0};rw[e];refine⟨⟨d,ea,p,_,1,q,_,rfl,h1,h2,by omega,k2,by simp only[cg,List.length_cons,List.length_nil];omega,h6⟩,?_⟩;show d.toS.length - (t+k).toNat<d.toS.length - t.toNat;omega
theorem Uf{d:Dat}{ea p q:Int}(hp:0≤p)(hp2:p<d.toS.length)(hl:d.toS.length<1000000000):∀(m t:Nat) (rows:List (List Dat)) (y:Int),d.toS.length - t≤m→t≤d.toS.length→rows.length≤t→
 ∃n l,Qt q (d.toS.drop t) n l∧∃y',(t+n≤d.toS.length∧¬(t+n<d.toS.length∧cJ d.toS (t+n)≠q)∧gd (qu5.tr F0 14) uq (ep d ea p rows y q t)=(2,ep d ea p (rows++l) y' q ((t+n:Nat):Int)))∨
  (t+n<d.toS.length∧gd (qu5.tr F0 14) uq (ep d ea p rows y q t)=(1,[d,.int 10,.int ((t+n:Nat):Int),.int 5,.int p,.int 0,.int 0,.lst (rows++l),.int y',.int 0,.int 0,.int 0,.int 0,.int 0])):=by
 intro m
 induction m with
 |zero=>intro t rows y hm ht hr;refine⟨0,[],.nil _,y,.inl ⟨ht,fun h=>by omega,?_⟩⟩;have e:=nD (d:=d) (ea:=ea) (p:=p) (y:=y) (q:=q) (t:=t) (rows:=rows) (fun h=>by omega);rw[cA (by rw[e];simp),e,List.append_nil];rfl
 |succ m ih=>intro t rows y hm ht hr;rcases vd (d:=d) (ea:=ea) (p:=p) (y:=y) (q:=q) (t:=t) (rows:=rows) (by omega) hl (by omega)with⟨a,e⟩|⟨a,_,_,e⟩|⟨x,k,a,b,c,k1,k2,e⟩;{rw[Int.toNat_natCast]at a;refine⟨0,[],.nil _,y,.inl ⟨ht,fun h=>a ⟨by omega,h.2⟩,?_⟩⟩;rw[cA (by rw[e];simp),e,List.append_nil];rfl};{refine⟨0,[],.nil _,y,.inr ⟨by omega,?_⟩⟩;rw[cA (by rw[e];simp),e,List.append_nil];rfl};rw[Int.toNat_natCast]at b c;have e2:(t:Int)+k=((t+k:Nat):Int):=(by omega);rw[e2]at e;rw[iC w9 ⟨d,ea,p,rows,y,q,t,rfl,hp,hp2,by omega,by omega,by omega,hl⟩ (by rw[e]),e];obtain⟨n,l,hq,y',h⟩:=ih (t+k) (rows++[[x]]) 1 (by omega) (by omega) (by simp only[cg,List.length_cons,List.length_nil];omega);refine⟨k+n,[x]::l,?_,y',?_⟩;{obtain⟨z,r,hr,hz⟩:=nX (l:=d.toS) (n:=t) (by omega);rw[ek hz]at b;rw[hr]at c⊢;refine .step b c ?_;rw[←hr,List.drop_drop];exact hq};rw[List.append_assoc]at h;rw[←Nat.add_assoc];exact h
theorem Ul{d:Dat}{ea p q:Int}(hp:0≤p)(hp2:p<d.toS.length)(hl:d.toS.length<1000000000){r:List UInt8}{n:Nat}{l:List (List Dat)}(h:Qt q r n l):∀(t:Nat) (rows:List (List Dat)) (y:Int),r=d.toS.drop t→t≤d.toS.length→rows.length≤t→
 ¬(t+n<d.toS.length∧cJ d.toS (t+n)≠q)→∃y',gd (qu5.tr F0 14) uq (ep d ea p rows y q t)=(2,ep d ea p (rows++l) y' q ((t+n:Nat):Int)):=by
 induction h with
 |nil r=>intro t rows y hr ht hrl hx;have e:=nD (d:=d) (ea:=ea) (p:=p) (y:=y) (q:=q) (t:=t) (rows:=rows) (fun h=>hx ⟨by omega,by rw[Int.toNat_natCast]at h;exact h.2⟩);exact⟨y,by rw[cA (by rw[e];simp),e,List.append_nil];rfl⟩
 |@step c r x k n l hc h t' ih=>intro t rows y hr ht hrl hx;have hb:=oW h;have hlen:(c::r).length=d.toS.length - t:=(by rw[hr,List.length_drop]);have hat:cJ d.toS t=c.toNat:=ek (by have:=congrArg (fun l=>l[0]?) hr;simpa using this.symm);have e:=BW (d:=d) (ea:=ea) (p:=p) (y:=y) (q:=q) (t:=t) (rows:=rows) (x:=x) (k:=k) (by omega) hl (by omega) (by omega) (by rw[Int.toNat_natCast,hat];exact hc) (by rw[Int.toNat_natCast,←hr];exact h);have e2:(t:Int)+k=((t+k:Nat):Int):=(by omega);rw[e2]at e;rw[iC w9 ⟨d,ea,p,rows,y,q,t,rfl,hp,hp2,by omega,by omega,by omega,hl⟩ (by rw[e]),e];obtain⟨y',h2⟩:=ih (t+k) (rows++[[x]]) 1 (by rw[hr,List.drop_drop]) (by omega) (by simp only[cg,List.length_cons,List.length_nil];omega) (by rw[Nat.add_assoc];exact hx);refine⟨y',?_⟩;rw[h2,List.append_assoc,Nat.add_assoc];rfl
def qE(q:Int)(rows:List (List Dat)):Int:=if q=34 then 0 else if rows.length=1 then 0 else 10
def qK(q:Int)(rows:List (List Dat)):Int:=if q=34 then 5 else if rows.length=1 then 4 else 5
def qN(q:Int)(rows:List (List Dat)):Int:=if q=34 then 0 else if rows.length=1 then cG .i64 ((Dat.lst rows).cell 0 0).toI else 0
def qB(q:Int)(rows:List (List Dat)):List (List Dat):=if q=34 then rows else if rows.length=1 then[]else rows
theorem BV{d:Dat}{ea p y q t:Int}{rows:List (List Dat)}(h0:0≤p)(h1:p<t)(h2:t<d.toS.length)(hl:d.toS.length<1000000000):
 ∃ea' y',qu7.tr F0 9 (ep d ea p rows y q t)=(1,[d,.int (qE q rows),.int ea',.int (qK q rows),.int p,.int (t+1 - p),.int (qN q rows),.lst (qB q rows),.int y'])∧(qE q rows≠0→ea'=p)∧(qE q rows=0→ea'=ea):=by
 unfold ep qE qK qN qB;simp only[qu7,aI,bO,bV,Bq,Mc,cQ,sI,cm,tI,dI,XZ,sL,tQ,tL,dN,qD,uR,jX,X2,iP,dO,Vl];rw[if_pos h2,bG (by omega) (by omega),oG (by omega) (by omega)];by_cases h3:q=34;{simp only[if_pos h3];exact⟨ea,y,rfl,fun h=>absurd rfl h,fun _=>rfl⟩};simp only[if_neg h3];by_cases h4:rows.length=1;{rw[if_pos (by omega),if_pos (by omega)];simp only[if_pos h4];exact⟨ea,0,rfl,fun h=>absurd rfl h,fun _=>rfl⟩};rw[if_neg (by omega)];simp only[if_neg h4,if_true];exact⟨p,y,rfl,fun _=>rfl,fun h=>by cases h⟩
theorem II{d:Dat}{ea p y q t:Int}{rows:List (List Dat)}(h2:¬t<d.toS.length):qu7.tr F0 9 (ep d ea p rows y q t)=(1,[d,.int 4,.int p,.int 5,.int p,.int 0,.int 0,.lst rows,.int y]):=by unfold ep;simp only[qu7,aI,bO,bV,Bq,cQ,cm,tI,qD,sI];rw[if_neg h2];simp only[if_true];rfl
theorem kX{d:Dat}{ea:Int}{p:Nat}(hl:d.toS.length<1000000000)(h1:p<d.toS.length):fZ F0 [d,.int 0,.int ea,.int p]=aG (jg 0 (gd (qu5.tr F0 14) uq)) (qu7.tr F0 9) (ep d ea p [] 0 (cJ d.toS p) ((p+1:Nat):Int)):=by
 unfold fZ;rw[aF (f:=qu0.tr F0 9) (s':=[d,.int 0,.int ea,.int p,.int 0,.int 0,.int 0,.lst [],.int 0]) rfl,
  aF (f:=qu1.tr F0 12) (s':=[d,.int 0,.int ea,.int p,.int 0,.int 0,.int 0,.lst [],.int 0,.int p,.lst [],.int 0]) rfl,
  aF (f:=qu2.tr F0 13) (s':=[d,.int 0,.int ea,.int p,.int 0,.int 0,.int 0,.lst [],.int 0,.int p,.lst [],.int 0,.int (cJ d.toS p)]) rfl]
 have e:qu3.tr F0 14 [d,.int 0,.int ea,.int p,.int 0,.int 0,.int 0,.lst [],.int 0,.int p,.lst [],.int 0,.int (cJ d.toS p)]=(0,ep d ea p [] 0 (cJ d.toS p) ((p+1:Nat):Int)):=by have:bu .add .i64 (p:Int) 1=((p+1:Nat):Int):=(by rw[bG (by omega) (by omega)];omega);show(0,[d,.int 0,.int ea,.int p,.int 0,.int 0,.int 0,.lst [],.int 0,.int p,.lst [],.int 0,.int (cJ d.toS p),.int (bu .add .i64 (p:Int) 1)])=_;rw[this];rfl
 rw[aF e]
theorem N3{d:Dat}{ea:Int}{p:Nat}(hl:d.toS.length<1000000000)(h1:p<d.toS.length):
 (∃n l ea' y',Qt (cJ d.toS p) (d.toS.drop (p+1)) n l∧p+1+n<d.toS.length∧cJ d.toS (p+1+n)=cJ d.toS p∧
   fZ F0 [d,.int 0,.int ea,.int p]=(1,[d,.int (qE (cJ d.toS p) l),.int ea',.int (qK (cJ d.toS p) l),.int p,.int ((n+2:Nat):Int),.int (qN (cJ d.toS p) l),.lst (qB (cJ d.toS p) l),.int y'])∧(qE (cJ d.toS p) l≠0→ea'=p))∨
 (∃(er ea':Nat) (l:List (List Dat)) (y':Int),(er=4∨er=10)∧ea'<d.toS.length∧fZ F0 [d,.int 0,.int ea,.int p]=(1,[d,.int er,.int ea',.int 5,.int p,.int 0,.int 0,.lst l,.int y'])∨
   ∃z,fZ F0 [d,.int 0,.int ea,.int p]=(1,d:: .int er:: .int ea':: .int 5:: .int p:: .int 0:: .int 0:: .lst l:: .int y'::z)∧(er=4∨er=10)∧ea'<d.toS.length):=by
 rw[kX hl h1];obtain⟨n,l,hq,y',h|h⟩:=Uf (d:=d) (ea:=ea) (p:=p) (q:=cJ d.toS p) (by omega) (by omega) hl _ (p+1) [] 0 (aE _) (by omega) (by simp);{obtain⟨a,b,e⟩:=h;rw[aF (eO e)];by_cases h2:p+1+n<d.toS.length;{have h3:cJ d.toS (p+1+n)=cJ d.toS p:=Classical.byContradiction fun h3=>b ⟨h2,h3⟩;obtain⟨ea',y2,e2,e3,_⟩:=BV (d:=d) (ea:=ea) (p:=p) (y:=y') (q:=cJ d.toS p) (t:=((p+1+n:Nat):Int)) (rows:=[]++l) (by omega) (by omega) (by omega) hl;rw[show(((p+1+n:Nat):Int)+1 - p)=((n+2:Nat):Int) by omega]at e2;exact .inl ⟨n,l,ea',y2,hq,h2,h3,e2,e3⟩};rw[II (by omega)];exact .inr ⟨4,p,_,y',.inl ⟨.inl rfl,h1,rfl⟩⟩};obtain⟨a,e⟩:=h;rw[eI (kK e (by simp)) (by simp)];exact .inr ⟨10,p+1+n,_,y',.inr ⟨_,rfl,.inr rfl,a⟩⟩
theorem N4{d:Dat}{ea:Int}{p n:Nat}{l:List (List Dat)}(hl:d.toS.length<1000000000)(h1:p<d.toS.length)(h:Qt (cJ d.toS p) (d.toS.drop (p+1)) n l)(h2:p+1+n<d.toS.length)(h3:cJ d.toS (p+1+n)=cJ d.toS p):
 ∃ea' y',fZ F0 [d,.int 0,.int ea,.int p]=(1,[d,.int (qE (cJ d.toS p) l),.int ea',.int (qK (cJ d.toS p) l),.int p,.int ((n+2:Nat):Int),.int (qN (cJ d.toS p) l),.lst (qB (cJ d.toS p) l),.int y'])∧(qE (cJ d.toS p) l=0→ea'=ea):=by
 rw[kX hl h1];obtain⟨y',e⟩:=Ul (d:=d) (ea:=ea) (p:=p) (q:=cJ d.toS p) (by omega) (by omega) hl h (p+1) [] 0 rfl (by omega) (by simp) (fun k=>k.2 h3);rw[aF (eO e)];obtain⟨ea',y2,e2,_,e4⟩:=BV (d:=d) (ea:=ea) (p:=p) (y:=y') (q:=cJ d.toS p) (t:=((p+1+n:Nat):Int)) (rows:=[]++l) (by omega) (by omega) (by omega) hl;rw[show(((p+1+n:Nat):Int)+1 - p)=((n+2:Nat):Int) by omega]at e2;exact⟨ea',y2,e2,e4⟩
end
end Go.Tw.LX
set_option linter.all false
namespace Go.Tw.LX
noncomputable section
def wK(r:List UInt8):Int:=if(F0 13 (.str r) (.int 0) (.int 0)).toI=0 then 1 else 2
theorem Dl{d:Dat}{ea:Int}{p:Nat}(hl:d.toS.length<1000000000)(h1:p<d.toS.length):
 wd0.tr F0 7 [d,.int 0,.int ea,.int p]=(1,[d,.int 0,.int ea,.int (wK ((d.toS.drop p).takeWhile bD)),.int p,.int (((d.toS.drop p).takeWhile bD).length:Int),.str ((d.toS.drop p).takeWhile bD)]):=by
 have hr:∀c,F0 23 d (.int (p:Int)) c=.str ((d.toS.drop p).takeWhile bD):=fun c=>f23 (by omega) hl rfl;simp only[wd0,aI,bV,iQ,lZ,cm,fA,dI,hr,sI,Tq,dN,qD,uR,jX,cQ,tI,tS];unfold wK;split<;>rfl
def Lh(r:List UInt8):Dat:=F0 22 (.str r) (.int 0) (.int 0)
def MH(r:List UInt8):Dat:=F0 21 (.str r) (.int 0) (.int 0)
def N9(r:List UInt8):Dat:=F0 20 (.str r) (.int 0) (.int 0)
def zH(r:List UInt8):Bool:=decide ((F0 19 (Lh r) (.int 0) (.int 0)).toI≠0∧(MH r).toS≠[])
def Li(r:List UInt8):Int:=if zH r=true then(if(F0 11 (MH r) (N9 r) (.int 64)).toI=0 then 0 else 5)else 10
def nmZ(r:List UInt8):Nat:=if zH r=true then r.length else 0
def VO(r:List UInt8):Dat:=if zH r=true then F0 18 (Lh r) (.int 0) (.int 0)else .str []
def VP(r:List UInt8):Int:=if zH r=true then cG .i64 (F0 10 (MH r) (N9 r) (.int 64)).toI else 0
theorem ES{x y:List UInt8}(h:x.Sublist y)(hy:∀c∈y,bD c=true):(x.all fun c=>decide (c.toNat<128))=true:=by rw[oD];intro c hc;exact decide_eq_true (Fq (hy c (h.subset hc)))
theorem Bc(q:UInt8→Bool)(l:List UInt8):∀c∈l.takeWhile q,q c=true:=fun c hc=>by
 induction l with
 |nil=>cases hc
 |cons a l ih=>rw[List.takeWhile_cons]at hc;split at hc;{rename_i h;rcases List.mem_cons.1 hc with rfl|hc;{exact h};exact ih hc};cases hc
theorem zG{r:List UInt8}(hl:r.length<1000000000)(h1:1≤r.length)(hr:∀c∈r,bD c=true):
 2≤(N9 r).toI∧(N9 r).toI≤36∧(MH r).toS.length<1000000000∧(Lh r).toS.length<1000000000∧∀b c,F0 5 (Lh r) b c=.int 1:=by
 obtain⟨k,x,y,e1,e2,e3,h2,h3,h4,h5⟩:=Wa (d:=.str r) (b:=.int 0) (c:=.int 0) hl h1;unfold N9 MH Lh;rw[e1,e2,e3];have h4:x.length≤r.length:=h4;have h5:y.Sublist r:=h5;refine⟨?_,?_,?_,?_,fun b c=> ?_⟩;{show 2≤k;omega};{show k≤36;omega};{show x.length<_;omega};{show y.length<_;have:=h5.length_le;omega};rw[Vz];show Dat.int (if(y.all fun c=>decide (c.toNat<128))=true then 1 else 0)=_;rw[if_pos (ES h5 hr)]
theorem Ji{d:Dat}{ea:Int}{p:Nat}(hl:d.toS.length<1000000000)(h1:p<d.toS.length){r:List UInt8}(hr:r=(d.toS.drop p).takeWhile bD)(h2:1≤r.length):∃ea',
 nm0.tr F0 7 [d,.int 0,.int ea,.int p]=(1,[d,.int (Li r),.int ea',.int p,.int (nmZ r:Int),VO r,.int (VP r)])∧(Li r≠0→ea'=p)∧(Li r=0→ea'=ea):=by
 have h23:∀c,F0 23 d (.int (p:Int)) c=.str r:=fun c=>by rw[hr];exact f23 (by omega) hl rfl
 have hlr:r.length≤d.toS.length:=by have:=oF bD (d.toS.drop p);rw[←hr,List.length_drop]at this;omega
 obtain⟨a1,a2,a3,a4,a5⟩:=zG (r:=r) (by omega) h2 (by rw[hr];exact Bc _ _);have t22:∀x y,F0 22 (.str r) x y=Lh r:=fun x y=>F0_22.trans F0_22.symm;have t21:∀x y,F0 21 (.str r) x y=MH r:=fun x y=>F0_21.trans F0_21.symm;have t20:∀x y,F0 20 (.str r) x y=N9 r:=fun x y=>F0_20.trans F0_20.symm;simp only[nm0,aI,bO,bV,ke,iQ,lZ,cm,fA,On,VU,dI,Gj,h23,t22,t21,t20,sI,cQ,tI,tS,Kx,a5];rw[if_neg (by omega),if_pos (by omega),if_pos (by omega)];simp only[if_true];unfold Li nmZ VO VP;by_cases h3:(F0 19 (Lh r) (.int 0) (.int 0)).toI=0;{have k:¬zH r=true:=fun h=>(of_decide_eq_true h).1 h3;rw[if_pos h3];simp only[if_neg k];refine⟨p,?_,fun _=>rfl,fun h=>by cases h⟩;simp only[Tq,cm,dI,dN,jX,tI,sI,Kx];rfl};rw[if_neg h3];by_cases h4:(MH r).toS=[];{have k:¬zH r=true:=fun h=>(of_decide_eq_true h).2 h4;rw[if_pos h4];simp only[if_neg k];refine⟨p,?_,fun _=>rfl,fun h=>by cases h⟩;simp only[Tq,cm,dI,dN,jX,tI,sI,Kx];rfl};have k:zH r=true:=decide_eq_true ⟨h3,h4⟩;rw[if_neg h4,if_neg (by omega),if_neg (by omega),if_pos (by omega)];simp only[if_pos k];by_cases h5:(F0 11 (MH r) (N9 r) (.int 64)).toI=0;{rw[if_pos h5];simp only[if_pos h5];refine⟨ea,?_,fun h=>absurd rfl h,fun _=>rfl⟩;simp only[Tq,cm,dI,dN,jX,tI,sI,qD,uR,lZ,fA,h23,t22,t21,t20,cQ,tS,NR,iQ,On,VU,Gj];rfl};rw[if_neg h5];simp only[if_neg h5];refine⟨p,?_,fun _=>rfl,fun h=>by cases h⟩;simp only[Tq,cm,dI,dN,jX,tI,sI,qD,uR,lZ,fA,h23,t22,t21,t20,cQ,tS,NR,iQ,On,VU,Gj];rfl
theorem r9(s:List UInt8):gO s≤s.length:=PU _ _ _ _
theorem Hf{d:Dat}{ea:Int}{p:Nat}(hl:d.toS.length<1000000000)(h1:p<d.toS.length):∃ea',
 si0.tr F0 6 [d,.int 0,.int ea,.int p]=(1,[d,.int (if gO (d.toS.drop p)=0 then 10 else 0),.int ea',.int p,.int (gO (d.toS.drop p):Int),.str ((d.toS.drop p).take (gO (d.toS.drop p)))])∧(gO (d.toS.drop p)=0→ea'=p)∧(gO (d.toS.drop p)≠0→ea'=ea):=by
 have hle:=r9 (d.toS.drop p);rw[List.length_drop]at hle;have hs:d.toS.drop (p:Int).toNat=d.toS.drop p:=by rw[Int.toNat_natCast]
 simp only[si0,aI,bO,bV,iQ,lZ,cm,fA,dI,sI,cQ,tI,tS,jX,dg,f14,hs,iP,X0,dN,qD,uR,fy];rw[if_neg (by omega),bG (by omega) (by omega)];have ht:List.drop p (List.take ((p:Int)+(gO (d.toS.drop p):Int)).toNat d.toS)=List.take (gO (d.toS.drop p)) (d.toS.drop p):=by rw[show((p:Int)+(gO (d.toS.drop p):Int)).toNat=p+gO (d.toS.drop p) by omega,List.drop_take,Nat.add_sub_cancel_left]
 simp only[Int.toNat_natCast,ht];by_cases h:gO (d.toS.drop p)=0;{rw[if_pos (by omega),if_neg (by omega),if_neg (by omega)];simp only[if_pos h];exact⟨p,rfl,fun _=>rfl,fun h2=>absurd h h2⟩};rw[if_neg (by omega),if_neg (by omega),if_neg (by omega)];simp only[if_neg h];exact⟨ea,rfl,fun h2=>absurd h2 h,fun _=>rfl⟩
end
end Go.Tw.LX
set_option linter.all false
namespace Go.Tw.LX
noncomputable section
structure TokV where
 k:Int
 z:Nat
 x:Dat
 n:Int
 b:List (List Dat)
def oB(w:Nat)(d:Dat)(p:Nat)(t:TokV):Prop:=
 ∀c,F0 w d (.int p) c=.int t.k∧F0 (w+1) d (.int p) c=.int t.z∧F0 (w+2) d (.int p) c=t.x∧F0 (w+3) d (.int p) c=.int t.n∧F0 (w+4) d (.int p) c=.lst t.b∧F0 (w+5) d (.int p) c=.int 0∧F0 (w+6) d (.int p) c=.int c.toI
def l8(c:UInt8):Nat:=if nP c=true then 26 else if mQ c=true then 40 else if c.toNat=39∨c.toNat=34 then 47 else 33
def Stop(t u:List UInt8):Prop:=u=[]∨(∃c r,u=c::r∧blk c=true)∨u.take 2=t.take 2∨∃p v,u=p++v∧p<+:t∧(v=[]∨∃c r,v=c::r∧blk c=true)
theorem En{c:UInt8}(h:blk c=true):bD c=false:=by unfold blk at h;unfold bD mQ nP;simp only[decide_eq_true_eq]at h;rw[Bool.or_eq_false_iff];exact⟨decide_eq_false (by omega),decide_eq_false (by omega)⟩
theorem GO(q:UInt8→Bool)(l:List UInt8):∃t,l=l.takeWhile q++t∧(t=[]∨∃c r,t=c::r∧q c=false):=by
 refine⟨l.dropWhile q,(List.takeWhile_append_dropWhile).symm,?_⟩
 induction l with
 |nil=>exact .inl rfl
 |cons a l ih=>rw[List.dropWhile_cons];split;{exact ih};rename_i h;exact .inr ⟨a,l,rfl,by simpa using h⟩
theorem OX{q:UInt8→Bool}{x u:List UInt8}(hx:∀c∈x,q c=true)(hu:u=[]∨∃c r,u=c::r∧q c=false):(x++u).takeWhile q=x:=by
 induction x with
 |nil=>rcases hu with rfl|⟨c,r,rfl,h⟩;{rfl};show List.takeWhile q (c::r)=[];rw[List.takeWhile_cons,h];rfl
 |cons a x ih=>show List.takeWhile q (a::(x++u))=_;rw[List.takeWhile_cons,hx a (List.mem_cons_self ..),ih fun c hc=>hx c (List.mem_cons_of_mem _ hc)];rfl
theorem Dn{s u x:List UInt8}(hx:x=s.takeWhile bD)(h:Stop (s.drop x.length) u):(x++u).takeWhile bD=x:=by
 refine OX (fun c hc=>Bc bD s c (by rw[←hx];exact hc)) ?_;obtain⟨t,ht,ht2⟩:=GO bD s;rw[←hx]at ht;have hd:s.drop x.length=t:=by
  conv=>lhs;rw[ht]
  simp
 rw[hd]at h;rcases h with h|⟨c,r,h1,h2⟩|h|⟨p,v,rfl,h1,h2⟩;{exact .inl h};·exact .inr ⟨c,r,h1,En h2⟩
 ·rcases ht2 with rfl|⟨c,r,rfl,hc⟩
  ·cases u with
   |nil=>exact .inl rfl
   |cons a u=>cases h
  cases u with
  |nil=>exact .inl rfl
  |cons a u=>simp only[List.take_succ_cons]at h;injection h with h1 _;subst h1;exact .inr ⟨_,u,rfl,hc⟩
 cases p with
 |nil=>rcases h2 with rfl|⟨c,r,rfl,h2⟩;{exact .inl rfl};exact .inr ⟨c,r,rfl,En h2⟩
 |cons a p=>obtain⟨w,rfl⟩:=h1;rcases ht2 with ht2|⟨c,r,ht2,hc⟩;{cases ht2};cases ht2;exact .inr ⟨a,p++v,rfl,hc⟩
theorem Bn:((List.range 45).all fun j=>Nat.ble (gS sgns j).length 3&&(gS sgns j).all fun c=> !blk c)=true:=by decide+kernel
theorem Dr{j:Nat}(h:j<45):(gS sgns j).length≤3∧∀c∈gS sgns j,blk c=false:=by have:=List.all_eq_true.1 Bn j (List.mem_range.2 h);rw[al,oD]at this;exact⟨Nat.le_of_ble_eq_true this.1,fun c hc=>by simpa using this.2 c hc⟩
theorem uP{l:Dat}{s s':List UInt8}:∀k i,(∀j,i≤j→j<i+k→(gS l j).isPrefixOf s=(gS l j).isPrefixOf s')→jU l s k i=jU l s' k i:=by
 intro k
 induction k with
 |zero=>intro i _;rfl
 |succ k ih=>intro i h;unfold jU;rw[h i (aE _) (by omega),ih (i+1) fun j h1 h2=>h j (by omega) (by omega)]
theorem IP{x s s':List UInt8}(h:x<+:s↔x<+:s'):x.isPrefixOf s=x.isPrefixOf s':=by rw[Bool.eq_iff_iff,List.isPrefixOf_iff_prefix,List.isPrefixOf_iff_prefix];exact h
theorem IN{y s s':List UInt8}{n:Nat}(hy:y.length≤n)(h:s.take n=s'.take n):y<+:s↔y<+:s':=by
 have key:∀{a b:List UInt8},a.take n=b.take n→y<+:a→y<+:b:=fun{a b} e hp=>by have:y<+:a.take n:=(by rw[List.prefix_take_iff];exact⟨hp,hy⟩);rw[e]at this;exact this.trans (List.take_prefix _ _)
 exact⟨key h,key h.symm⟩
theorem Fe(l:Dat)(s:List UInt8):∀k i m,0<jU l s k i→jU l s k i≤m→jU l (s.take m) k i=jU l s k i:=by
 intro k
 induction k with
 |zero=>intro i m h;cases h
 |succ k ih=>intro i m h hm;by_cases hp:(gS l i).isPrefixOf s=true;{have e:jU l s (k+1) i=(gS l i).length:=(by unfold jU;rw[if_pos hp]);rw[e]at hm⊢;unfold jU;rw[if_pos (List.isPrefixOf_iff_prefix.2 (List.prefix_take_iff.2 ⟨List.isPrefixOf_iff_prefix.1 hp,hm⟩))]};have e:jU l s (k+1) i=jU l s k (i+1):=(by rw[jU,if_neg hp]);rw[e]at h hm⊢;rw[jU,if_neg,ih _ _ h hm];intro h2;exact hp (List.isPrefixOf_iff_prefix.2 ((List.isPrefixOf_iff_prefix.1 h2).trans (List.take_prefix _ _)))
theorem Ds{y r:List UInt8}{c:UInt8}(hc:blk c=true):gO (y++c::r)=gO y:=by
 refine uP _ _ fun j _ hj=>IP ⟨fun hp=> ?_,fun hp=>hp.trans (List.prefix_append _ _)⟩;by_cases hl:(gS sgns j).length≤y.length;{exact List.prefix_of_prefix_length_le hp (List.prefix_append _ _) hl};exfalso;obtain⟨z,hz⟩:=hp;have e1:(gS sgns j++z)[y.length]? =some c:=by rw[hz];simp
 rw[List.getElem?_append_left (by omega)]at e1;have:=(Dr (by omega:j<45)).2 c (eQ e1);rw[this]at hc;cases hc
theorem Hi{s u:List UInt8}(h0:0<gO s)(h:Stop (s.drop (gO s)) u):gO (s.take (gO s)++u)=gO s:=by
 have hle:=r9 s;have hx:(s.take (gO s)).length=gO s:=by rw[List.length_take];omega
 rcases h with rfl|⟨c,r,rfl,hc⟩|h|⟨p,v,rfl,hp,hv⟩;{rw[List.append_nil];exact yS _ _ _ _ h0};·rw[Ds hc];exact yS _ _ _ _ h0
 ·refine uP _ _ fun j _ hj=>IP (IN (n:=3) (Dr (by omega:j<45)).1 ?_);have e:s=s.take (gO s)++s.drop (gO s):=(List.take_append_drop _ _).symm
  conv=>rhs;rw[e]
  rw[List.take_append,List.take_append,hx];congr 1;have k:∀v:List UInt8,v.take (3 - gO s)=(v.take 2).take (3 - gO s):=fun v=>(by rw[List.take_take,Nat.min_eq_left (by omega)]);rw[k u,h,←k]
 have hpl:=hp.length_le;rw[List.length_drop]at hpl;have e:s.take (gO s)++p=s.take (gO s+p.length):=by
  have e2:p=(s.drop (gO s)).take p.length:=List.prefix_iff_eq_take.1 hp
  conv=>lhs;rw[e2]
  rw[List.take_add]
 rw[←List.append_assoc,e];have e3:gO (s.take (gO s+p.length))=gO s:=Fe _ _ _ _ _ h0 (by unfold gO;omega);rcases hv with rfl|⟨c,r,rfl,hc⟩;{rw[List.append_nil];exact e3};rw[Ds hc];exact e3
end
end Go.Tw.LX
set_option linter.all false
namespace Go.Tw.LX
noncomputable section
section
variable{d:Dat}{p:Nat}
theorem wb(hl:d.toS.length<1000000000)(h1:p<d.toS.length){r:List UInt8}(hr:r=(d.toS.drop p).takeWhile bD):oB 26 d p ⟨wK r,r.length,.str r,0,[]⟩:=fun c=>by have e:=Dl (ea:=0) hl h1;have e2:=Dl (ea:=c.toI) hl h1;rw[←hr]at e e2;refine⟨?_,?_,?_,OJ,OI,?_,?_⟩;{rw[Lf];unfold kE;rw[show Dat.int (Dat.int (p:Int)).toI=.int p from rfl,e];simp only[yF,yE,yD,GJ,GB,GA,Gz,tI]};{rw[Le];unfold kE;rw[show Dat.int (Dat.int (p:Int)).toI=.int p from rfl,e];simp only[yF,yE,yD,GJ,GB,GA,Gz,tI]};{rw[Ld];unfold kE;rw[show Dat.int (Dat.int (p:Int)).toI=.int p from rfl,e];simp only[yF,yE,yD,GJ,GB,GA,Gz,tI]};{rw[Lc];unfold kE;rw[show Dat.int (Dat.int (p:Int)).toI=.int p from rfl,e];simp only[yF,yE,yD,GJ,GB,GA,Gz,tI]};rw[Lb];unfold kE;rw[show Dat.int (Dat.int (p:Int)).toI=.int p from rfl,e2];simp only[yE,tI]
theorem DM(hl:d.toS.length<1000000000)(h1:p<d.toS.length){r:List UInt8}(hr:r=(d.toS.drop p).takeWhile bD)(h2:1≤r.length):∀c,F0 40 d (.int p) c=.int 3∧F0 41 d (.int p) c=.int (nmZ r:Int)∧
 F0 42 d (.int p) c=VO r∧F0 43 d (.int p) c=.int (VP r)∧F0 44 d (.int p) c=.lst []∧F0 45 d (.int p) c=.int (Li r)∧(Li r≠0→F0 46 d (.int p) c=.int p)∧(Li r=0→F0 46 d (.int p) c=.int c.toI):=fun c=>by
 obtain⟨ea',e,e2⟩:=Ji (ea:=0) hl h1 hr h2;obtain⟨ea2,e3,e4,e5⟩:=Ji (ea:=c.toI) hl h1 hr h2;refine⟨OE,?_,?_,?_,OD,?_,fun h=> ?_,fun h=> ?_⟩;{rw[K6];unfold jT;rw[show Dat.int (Dat.int (p:Int)).toI=.int p from rfl,e];simp only[yF,yE,yD,GJ,GB,GA,Gz,tI]};{rw[K4];unfold jT;rw[show Dat.int (Dat.int (p:Int)).toI=.int p from rfl,e];simp only[yF,yE,yD,GJ,GB,GA,Gz,tI]};{rw[K2];unfold jT;rw[show Dat.int (Dat.int (p:Int)).toI=.int p from rfl,e];simp only[yF,yE,yD,GJ,GB,GA,Gz,tI]};{rw[K1];unfold jT;rw[show Dat.int (Dat.int (p:Int)).toI=.int p from rfl,e];simp only[yF,yE,yD,GJ,GB,GA,Gz,tI]};{rw[EE];unfold jT;rw[show Dat.int (Dat.int (p:Int)).toI=.int p from rfl,e3,e4 h];rfl};rw[EE];unfold jT;rw[show Dat.int (Dat.int (p:Int)).toI=.int p from rfl,e3,e5 h];simp only[yE,tI]
theorem wC(hl:d.toS.length<1000000000)(h1:p<d.toS.length):∀c,F0 33 d (.int p) c=.int 6∧F0 34 d (.int p) c=.int (gO (d.toS.drop p):Int)∧
 F0 35 d (.int p) c=.str ((d.toS.drop p).take (gO (d.toS.drop p)))∧F0 36 d (.int p) c=.int 0∧F0 37 d (.int p) c=.lst []∧F0 38 d (.int p) c=.int (if gO (d.toS.drop p)=0 then 10 else 0)∧
 (gO (d.toS.drop p)=0→F0 39 d (.int p) c=.int p)∧(gO (d.toS.drop p)≠0→F0 39 d (.int p) c=.int c.toI):=fun c=>by
 obtain⟨ea',e,e2⟩:=Hf (ea:=0) hl h1;obtain⟨ea2,e3,e4,e5⟩:=Hf (ea:=c.toI) hl h1;refine⟨OH,?_,?_,OG,OF,?_,fun h=> ?_,fun h=> ?_⟩;{rw[La];unfold l9;rw[show Dat.int (Dat.int (p:Int)).toI=.int p from rfl,e];simp only[yF,yE,yD,GJ,GB,GA,Gz,tI]};{rw[K9];unfold l9;rw[show Dat.int (Dat.int (p:Int)).toI=.int p from rfl,e];simp only[yF,yE,yD,GJ,GB,GA,Gz,tI]};{rw[K8];unfold l9;rw[show Dat.int (Dat.int (p:Int)).toI=.int p from rfl,e];simp only[yF,yE,yD,GJ,GB,GA,Gz,tI]};{rw[EF];unfold l9;rw[show Dat.int (Dat.int (p:Int)).toI=.int p from rfl,e3,e4 h];rfl};rw[EF];unfold l9;rw[show Dat.int (Dat.int (p:Int)).toI=.int p from rfl,e3,e5 h];simp only[yE,tI]
theorem IH(hl:d.toS.length<1000000000)(h1:p<d.toS.length){n:Nat}{l:List (List Dat)}(h:Qt (cJ d.toS p) (d.toS.drop (p+1)) n l)(h2:p+1+n<d.toS.length)(h3:cJ d.toS (p+1+n)=cJ d.toS p)
 (h4:qE (cJ d.toS p) l=0):oB 47 d p ⟨qK (cJ d.toS p) l,n+2,.str [],qN (cJ d.toS p) l,qB (cJ d.toS p) l⟩:=fun c=>by
 obtain⟨ea',y',e,_⟩:=N4 (ea:=0) hl h1 h h2 h3;obtain⟨ea2,y2,e2,e3⟩:=N4 (ea:=c.toI) hl h1 h h2 h3;rw[h4]at e;refine⟨?_,?_,OC,?_,?_,?_,?_⟩;{rw[ED,show Dat.int (Dat.int (p:Int)).toI=.int p from rfl,e];rfl};{rw[AZ,show Dat.int (Dat.int (p:Int)).toI=.int p from rfl,e];rfl};{rw[EC,show Dat.int (Dat.int (p:Int)).toI=.int p from rfl,e];rfl};{rw[EA,show Dat.int (Dat.int (p:Int)).toI=.int p from rfl,e];rfl};{rw[ug,show Dat.int (Dat.int (p:Int)).toI=.int p from rfl,e];rfl};rw[AY,show Dat.int (Dat.int (p:Int)).toI=.int p from rfl,e2,e3 h4];simp only[yE,tI]
theorem IG(hl:d.toS.length<1000000000)(h1:p<d.toS.length):(∃n l,Qt (cJ d.toS p) (d.toS.drop (p+1)) n l∧p+1+n<d.toS.length∧cJ d.toS (p+1+n)=cJ d.toS p∧qE (cJ d.toS p) l=0)∨
 (∀c,(F0 52 d (.int p) c).toI≠0∧∃a:Nat,F0 53 d (.int p) c=.int a∧a<d.toS.length):=by
 have key:∀ea:Int,(∃n l,Qt (cJ d.toS p) (d.toS.drop (p+1)) n l∧p+1+n<d.toS.length∧cJ d.toS (p+1+n)=cJ d.toS p∧qE (cJ d.toS p) l=0)∨
  ∃er:Int,er≠0∧∃a:Nat,a<d.toS.length∧aP (fZ F0 [d,.int 0,.int ea,.int p]).2 1=.int er∧aP (fZ F0 [d,.int 0,.int ea,.int p]).2 2=.int a:=fun ea=>by
  rcases N3 (ea:=ea) hl h1 with⟨n,l,ea',y',a1,a2,a3,a4,a5⟩|⟨er,ea',l,y',⟨b1,b2,b3⟩|⟨z,b1,b2,b3⟩⟩;{by_cases h:qE (cJ d.toS p) l=0;{exact .inl ⟨n,l,a1,a2,a3,h⟩};refine .inr ⟨_,h,p,h1,by rw[a4];rfl,by rw[a4,a5 h];rfl⟩};{exact .inr ⟨er,by omega,ea',b2,by rw[b3];rfl,by rw[b3];rfl⟩};exact .inr ⟨er,by omega,ea',b3,by rw[b1];rfl,by rw[b1];rfl⟩
 by_cases h:∃n l,Qt (cJ d.toS p) (d.toS.drop (p+1)) n l∧p+1+n<d.toS.length∧cJ d.toS (p+1+n)=cJ d.toS p∧qE (cJ d.toS p) l=0;{exact .inl h};refine .inr fun c=>⟨?_,?_⟩;{obtain⟨er,a1,a,a2,a3,a4⟩:=(key 0).resolve_left h;rw[ug,show Dat.int (Dat.int (p:Int)).toI=.int p from rfl,a3];exact a1};obtain⟨er,a1,a,a2,a3,a4⟩:=(key c.toI).resolve_left h;exact⟨a,by rw[AY,show Dat.int (Dat.int (p:Int)).toI=.int p from rfl,a4];rfl,a2⟩
end
theorem rJ{d:Dat}{p:Nat}{c:UInt8}(hc:d.toS[p]? =some c)(hp:bD c=true):1≤((d.toS.drop p).takeWhile bD).length:=by obtain⟨h,he⟩:=List.getElem?_eq_some_iff.1 hc;rw[List.drop_eq_getElem_cons h,he,List.takeWhile_cons,hp];simp
theorem yj{d:Dat}{p:Nat}{x u:List UInt8}{c:UInt8}{r:List UInt8}(h:d.toS.drop p=x++u)(hx:x=c::r):p<d.toS.length∧d.toS[p]? =some c:=by
 have e:(d.toS.drop p)[0]? =some c:=by rw[h,hx];rfl
 rw[fc,Nat.add_zero]at e;exact⟨(List.getElem?_eq_some_iff.1 e).1,e⟩
theorem wi{d:Dat}{p:Nat}{c:UInt8}(hl:d.toS.length<1000000000)(hc:d.toS[p]? =some c){c0:Dat}(he:(F0 (l8 c+5) d (.int p) c0).toI=0):
 ∃t:TokV,oB (l8 c) d p t∧1≤t.z∧p+t.z≤d.toS.length∧∀(d':Dat) (p':Nat) (u:List UInt8),d'.toS.length<1000000000→d'.toS.drop p'=(d.toS.drop p).take t.z++u→Stop (d.toS.drop (p+t.z)) u→oB (l8 c) d' p' t:=by
 have h1:=(List.getElem?_eq_some_iff.1 hc).1;obtain⟨r0,hr0⟩:∃r,d.toS.drop p=c::r:=⟨_,by rw[List.drop_eq_getElem_cons h1,(List.getElem?_eq_some_iff.1 hc).2]⟩;have hhead:∀z,1≤z→∃r,(d.toS.drop p).take z=c::r:=fun z hz=>by obtain⟨z',rfl⟩:∃z',z=z'+1:=⟨z - 1,by omega⟩;exact⟨_,by rw[hr0,List.take_succ_cons]⟩
 have hdl:(d.toS.drop p).length=d.toS.length - p:=List.length_drop;have hdd:∀z,(d.toS.drop p).drop z=d.toS.drop (p+z):=fun z=>List.drop_drop;have htake:(d.toS.drop p).take ((d.toS.drop p).takeWhile bD).length=(d.toS.drop p).takeWhile bD:=(List.prefix_iff_eq_take.1 (List.takeWhile_prefix bD)).symm;have hle:=oF bD (d.toS.drop p);unfold l8 at he⊢;by_cases hL:nP c=true;{simp only[if_pos hL]at he⊢;have hp:bD c=true:=(by unfold bD;rw[hL];simp);refine⟨_,wb hl h1 rfl,rJ hc hp,by show p+((d.toS.drop p).takeWhile bD).length≤_;omega,fun d' p' u hl' hd hs=> ?_⟩;have hd:d'.toS.drop p'=(d.toS.drop p).takeWhile bD++u:=hd.trans (by rw[htake]);have hs:Stop ((d.toS.drop p).drop ((d.toS.drop p).takeWhile bD).length) u:=(by rw[hdd];exact hs);obtain⟨r,hr⟩:=hhead _ (rJ hc hp);exact wb hl' (yj hd (by rw[←htake];exact hr)).1 (by rw[hd,Dn rfl hs])};simp only[if_neg hL]at he⊢;by_cases hD:mQ c=true
 ·simp only[if_pos hD]at he⊢;have hp:bD c=true:=(by unfold bD;rw[hD];rfl);have h2:=rJ hc hp;have f:=DM hl h1 rfl h2;have hE:Li ((d.toS.drop p).takeWhile bD)=0:=by
   have:=(f c0).2.2.2.2.2.1;rw[this]at he;exact he
  have hO:zH ((d.toS.drop p).takeWhile bD)=true:=(by unfold Li at hE;split at hE;{assumption};cases hE);have hZ:nmZ ((d.toS.drop p).takeWhile bD)=((d.toS.drop p).takeWhile bD).length:=(by unfold nmZ;rw[if_pos hO]);refine⟨⟨3,((d.toS.drop p).takeWhile bD).length,VO ((d.toS.drop p).takeWhile bD),VP ((d.toS.drop p).takeWhile bD),[]⟩,fun c1=> ?_,h2,by show p+((d.toS.drop p).takeWhile bD).length≤_;omega,fun d' p' u hl' hd hs=> ?_⟩;{obtain⟨a1,a2,a3,a4,a5,a6,_,a7⟩:=f c1;exact⟨a1,by rw[←hZ];exact a2,a3,a4,a5,by rw[←hE];exact a6,a7 hE⟩};have hd:d'.toS.drop p'=(d.toS.drop p).takeWhile bD++u:=hd.trans (by rw[htake]);have hs:Stop ((d.toS.drop p).drop ((d.toS.drop p).takeWhile bD).length) u:=(by rw[hdd];exact hs);obtain⟨r,hr⟩:=hhead _ h2;have f':=DM hl' (yj hd (by rw[←htake];exact hr)).1 (r:=(d.toS.drop p).takeWhile bD) (by rw[hd,Dn rfl hs]) h2;intro c1;obtain⟨a1,a2,a3,a4,a5,a6,_,a7⟩:=f' c1;exact⟨a1,by rw[←hZ];exact a2,a3,a4,a5,by rw[←hE];exact a6,a7 hE⟩
 simp only[if_neg hD]at he⊢;by_cases hQ:c.toNat=39∨c.toNat=34
 ·simp only[if_pos hQ]at he⊢;rcases IG hl h1 with⟨n,l,a1,a2,a3,a4⟩|h
  ·refine⟨_,IH hl h1 a1 a2 a3 a4,by show 1≤n+2;omega,by show p+(n+2)≤_;omega,fun d' p' u hl' hd hs=> ?_⟩;have hd:d'.toS.drop p'=(d.toS.drop p).take (n+2)++u:=hd;obtain⟨r,hr⟩:=hhead (n+2) (by omega);obtain⟨b1,b2⟩:=yj hd hr;have hq:cJ d'.toS p'=cJ d.toS p:=(by rw[ek b2,ek hc]);have hlen:((d.toS.drop p).take (n+2)).length=n+2:=(by rw[List.length_take];omega);have hdl':(d'.toS.drop p').length=d'.toS.length - p':=List.length_drop;rw[hd,cg,hlen]at hdl';have hat:∀i,i<n+2→cJ d'.toS (p'+i)=cJ d.toS (p+i):=fun i hi=>by
    have e1:(d'.toS.drop p')[i]? =(d.toS.drop p)[i]? :=(by rw[hd,List.getElem?_append_left (by omega),List.getElem?_take,if_pos hi]);rw[fc,fc]at e1;unfold cJ;rw[e1]
   have hdr:d'.toS.drop (p'+1)=(d.toS.drop (p+1)).take (n+1)++u:=(by have e1:d'.toS.drop (p'+1)=(d'.toS.drop p').drop 1:=(by rw[List.drop_drop]);rw[e1,hd,List.drop_append_of_le_length (by omega),List.drop_take,List.drop_drop];rfl);have hQt:Qt (cJ d'.toS p') (d'.toS.drop (p'+1)) n l:=(by rw[hq,hdr];refine a1.same _ ?_;rw[List.take_append_of_le_length (by rw[List.length_take,List.length_drop];omega),List.take_take,Nat.min_eq_left (by omega)]);have:=IH hl' b1 hQt (by omega) (by rw[show p'+1+n=p'+(n+1) by omega,hat (n+1) (by omega),hq,←a3,show p+(n+1)=p+1+n by omega]) (by rw[hq];exact a4);rw[hq]at this;exact this
  exact absurd he (h c0).1
 simp only[if_neg hQ]at he⊢;have f:=wC hl h1;have hE:=(f c0).2.2.2.2.2.1;have h0:0<gO (d.toS.drop p):=by rcases Nat.eq_zero_or_pos (gO (d.toS.drop p))with h|h;{rw[hE,if_pos h]at he;cases he};exact h
 have hsl:=r9 (d.toS.drop p);refine⟨⟨6,gO (d.toS.drop p),.str ((d.toS.drop p).take (gO (d.toS.drop p))),0,[]⟩,fun c1=> ?_,h0,by show p+gO (d.toS.drop p)≤_;omega,fun d' p' u hl' hd hs=> ?_⟩;{obtain⟨a1,a2,a3,a4,a5,a6,_,a7⟩:=f c1;exact⟨a1,a2,a3,a4,a5,by rw[a6,if_neg (by omega)],a7 (by omega)⟩};have hd:d'.toS.drop p'=(d.toS.drop p).take (gO (d.toS.drop p))++u:=hd;have hs:Stop ((d.toS.drop p).drop (gO (d.toS.drop p))) u:=by rw[hdd];exact hs
 obtain⟨r,hr⟩:=hhead _ h0;have f':=wC hl' (yj hd hr).1;have e:=Hi h0 hs;rw[hd,e]at f';have e2:((d.toS.drop p).take (gO (d.toS.drop p))++u).take (gO (d.toS.drop p))=(d.toS.drop p).take (gO (d.toS.drop p)):=by rw[List.take_append_of_le_length (by rw[List.length_take];omega),List.take_take,Nat.min_self]
 rw[e2]at f';intro c1;obtain⟨a1,a2,a3,a4,a5,a6,_,a7⟩:=f' c1;exact⟨a1,a2,a3,a4,a5,by rw[a6,if_neg (by omega)],a7 (by omega)⟩
end
end Go.Tw.LX
set_option linter.all false
namespace Go.Tw.LX
noncomputable section
theorem Mj{d:Dat}{p:Nat}(hl:d.toS.length<1000000000)(h1:p<d.toS.length)(c:Dat):∃(z:Nat) (er:Int),F0 48 d (.int p) c=.int z∧p+z≤d.toS.length∧F0 52 d (.int p) c=.int er∧(er≠0→∃a:Nat,F0 53 d (.int p) c=.int a∧a<d.toS.length):=by
 have h53:∀ea:Int,∃(z:Nat) (er a:Int),aP (fZ F0 [d,.int 0,.int ea,.int p]).2 5=.int z∧p+z≤d.toS.length∧aP (fZ F0 [d,.int 0,.int ea,.int p]).2 1=.int er:=fun ea=>by rcases N3 (ea:=ea) hl h1 with⟨n,l,ea',y',a1,a2,a3,a4,a5⟩|⟨er,ea',l,y',⟨b1,b2,b3⟩|⟨z,b1,b2,b3⟩⟩;{exact⟨n+2,_,0,by rw[a4];rfl,by omega,by rw[a4];rfl⟩};{exact⟨0,_,0,by rw[b3];rfl,by omega,by rw[b3];rfl⟩};exact⟨0,_,0,by rw[b1];rfl,by omega,by rw[b1];rfl⟩
 obtain⟨z,er,a,h2,h3,h4⟩:=h53 0;refine⟨z,er,?_,h3,?_,fun h=> ?_⟩;{rw[AZ,show Dat.int (Dat.int (p:Int)).toI=.int p from rfl,h2];rfl};{rw[ug,show Dat.int (Dat.int (p:Int)).toI=.int p from rfl,h4];rfl};rcases IG hl h1 with⟨n,l,a1,a2,a3,a4⟩|h5;{have:=(IH hl h1 a1 a2 a3 a4 c).2.2.2.2.2.1;rw[ug,show Dat.int (Dat.int (p:Int)).toI=.int p from rfl,h4]at this;injection this with this;exact absurd this h};exact(h5 c).2
theorem wk{d:Dat}{p:Nat}{c:UInt8}(hl:d.toS.length<1000000000)(hc:d.toS[p]? =some c)(c0:Dat):
 ∃(z:Nat) (er:Int),F0 (l8 c+1) d (.int p) c0=.int z∧p+z≤d.toS.length∧F0 (l8 c+5) d (.int p) c0=.int er∧(er≠0→∃a:Nat,F0 (l8 c+6) d (.int p) c0=.int a∧a<d.toS.length):=by
 have h1:=(List.getElem?_eq_some_iff.1 hc).1;have hle:=oF bD (d.toS.drop p);have hdl:(d.toS.drop p).length=d.toS.length - p:=List.length_drop;unfold l8;by_cases hL:nP c=true;{simp only[if_pos hL];have f:=wb hl h1 rfl c0;exact⟨_,0,f.2.1,by show p+((d.toS.drop p).takeWhile bD).length≤_;omega,f.2.2.2.2.2.1,fun h=>absurd rfl h⟩};simp only[if_neg hL];by_cases hD:mQ c=true;{simp only[if_pos hD];have hp:bD c=true:=(by unfold bD;rw[hD];rfl);have f:=DM hl h1 rfl (rJ hc hp) c0;refine⟨_,_,f.2.1,?_,f.2.2.2.2.2.1,fun h=>⟨p,f.2.2.2.2.2.2.1 h,h1⟩⟩;unfold nmZ;split<;>omega};simp only[if_neg hD];by_cases hQ:c.toNat=39∨c.toNat=34;{simp only[if_pos hQ];exact Mj hl h1 c0};simp only[if_neg hQ];have f:=wC hl h1 c0;have hsl:=r9 (d.toS.drop p);refine⟨_,_,f.2.1,by omega,f.2.2.2.2.2.1,fun h=> ?_⟩;by_cases h0:gO (d.toS.drop p)=0;{exact⟨p,f.2.2.2.2.2.2.1 h0,h1⟩};rw[if_neg h0]at h;exact absurd rfl h
theorem Bl{d:Dat}(hl:d.toS.length<1000000000){p:Nat}(hp:p≤d.toS.length):∃n,Gap (d.toS.drop p) n∧
 ((gp (d.toS.drop (p+n))=0∧∀c,F0 15 d (.int p) c=.int ((p+n:Nat):Int)∧F0 16 d (.int p) c=.int 0∧F0 17 d (.int p) c=.int c.toI)∨
  (p+n<d.toS.length∧gp (d.toS.drop (p+n))<0∧∀c,F0 15 d (.int p) c=.int ((p+n:Nat):Int)∧F0 16 d (.int p) c=.int 4∧F0 17 d (.int p) c=.int ((p+n:Nat):Int))):=by
 obtain⟨n,g,h⟩:=He hl _ p (aE _) hp;refine⟨n,g,?_⟩;have hz:Dat.int (Dat.int (p:Int)).toI=.int p:=rfl;rcases h with⟨h0,e⟩|⟨h0,h2,e⟩;{refine .inl ⟨h0,fun c=>⟨?_,?_,?_⟩⟩;{rw[wa,hz,e];simp only[yD,tI]};{rw[v8,hz,e];simp only[yF,tI]};rw[v7,hz,e];simp only[yE,tI]};refine .inr ⟨h2,h0,fun c=>⟨?_,?_,?_⟩⟩;{rw[wa,hz,e];simp only[yD,tI]};{rw[v8,hz,e];simp only[yF,tI]};rw[v7,hz,e];simp only[yE,tI]
theorem Vf{d:Dat}(hl:d.toS.length<1000000000){p n:Nat}(hp:p≤d.toS.length)(g:Gap (d.toS.drop p) n)(h:gp (d.toS.drop (p+n))=0):
 ∀c,F0 15 d (.int p) c=.int ((p+n:Nat):Int)∧F0 16 d (.int p) c=.int 0∧F0 17 d (.int p) c=.int c.toI:=fun c=>by
 have hz:Dat.int (Dat.int (p:Int)).toI=.int p:=rfl;refine⟨?_,?_,?_⟩;{rw[wa,hz,CT hl g p _ hp rfl h];simp only[yD,tI]};{rw[v8,hz,CT hl g p _ hp rfl h];simp only[yF,tI]};rw[v7,hz,CT hl g p _ hp rfl h];simp only[yE,tI]
end
end Go.Tw.LX
set_option linter.all false
namespace Go.Tw.LX
noncomputable section
def S9(d:Dat)(e ea:Int)(rows:List (List Dat))(y p:Int):List Dat:=[d,.int 0,.int 0,d,.int e,.int ea,.lst rows,.int y,.int p]
def Ln(d:Dat)(w:Nat)(ea:Int)(rows:List (List Dat))(y p:Int):List Dat:=
 [d,.int 0,.int 0,d,.int (F0 (w+5) d (.int p) (.int 0)).toI,.int (F0 (w+6) d (.int p) (.int ea)).toI,.lst rows,.int y,.int p,.int (F0 w d (.int p) (.int 0)).toI,.int p,.int (F0 (w+1) d (.int p) (.int 0)).toI,
  F0 (w+2) d (.int p) (.int 0),.int (F0 (w+3) d (.int p) (.int 0)).toI,F0 (w+4) d (.int p) (.int 0)]
def SX(d:Dat)(e ea:Int)(rows:List (List Dat))(y:Int):List Dat:=[.int 0,.int 0,d,.int e,.int ea,.lst rows,.int y,.int 0,.int 0]
section
variable{d:Dat}{e ea y:Int}{rows:List (List Dat)}
theorem Bp{p:Int}:sc6.tr F0 9 (S9 d e ea rows y p)=if p<d.toS.length∧e=0 then(0,S9 d e ea rows y p)else(2,SX d e ea rows y):=by unfold S9 SX;simp only[sc6,aI,bO,bV,GG,cQ,cm,tI,Mb,sI];by_cases h1:p<d.toS.length;{by_cases h2:e=0;{rw[if_pos h1,if_pos h2,if_pos ⟨h1,h2⟩];rfl};rw[if_pos h1,if_neg h2,if_neg (fun h=>h2 h.2)];rfl};rw[if_neg h1,if_neg (fun h=>h1 h.1)];rfl
theorem Hr{p:Nat}{c:UInt8}(hl:d.toS.length<1000000000)(hc:d.toS[p]? =some c):sc7.tr F0 15 (S9 d 0 ea rows y p)=(0,Ln d (l8 c) ea rows y p):=by
 unfold S9;have hat:∀z,cJ d.toS (Dat.int (p:Int)).toI.toNat=z↔(c.toNat:Int)=z:=fun z=>by rw[show(Dat.int (p:Int)).toI.toNat=p from Int.toNat_natCast p,ek hc]
 have e7:(F0 7 (.int (cJ d.toS (Dat.int (p:Int)).toI.toNat)) (.int 0) (.int 0)).toI=dW (nP c):=by rw[show(Dat.int (p:Int)).toI.toNat=p from Int.toNat_natCast p,ek hc,show Dat.int (c.toNat:Int)=wg c from rfl,f7];rfl
 have e8:(F0 8 (.int (cJ d.toS (Dat.int (p:Int)).toI.toNat)) (.int 0) (.int 0)).toI=dW (mQ c):=by rw[show(Dat.int (p:Int)).toI.toNat=p from Int.toNat_natCast p,ek hc,show Dat.int (c.toNat:Int)=wg c from rfl,f8];rfl
 have hlt:(d.toS.length:Int)<1000000000:=by omega
 simp only[sc7,aI,bO,bV,iQ,Lm,QA,fA,GG,dI,sI,e7,e8,hat,cQ];simp only[if_pos hlt];cases hL:nP c with
 |true=>have hw:l8 c=26:=(by unfold l8;rw[hL];rfl);rw[if_neg (show ¬dW true=0 by decide),hw];unfold Ln;simp only[GU,dN,dI,sI,cm,fA,tP,om,rv,Ej,qD,uR,GG,iQ,lZ,tI,Nat.reduceAdd];rfl
 |false=>
  rw[if_pos (show dW false=0 from rfl)];cases hD:mQ c with
  |true=>have hw:l8 c=40:=(by unfold l8;rw[hL,hD];rfl);rw[if_neg (show ¬dW true=0 by decide),hw];unfold Ln;simp only[GU,dN,dI,sI,cm,fA,tP,om,rv,Ej,qD,uR,GG,iQ,lZ,tI,Nat.reduceAdd];rfl
  |false=>
   rw[if_pos (show dW false=0 from rfl)];have hw:l8 c=if c.toNat=39∨c.toNat=34 then 47 else 33:=by unfold l8;rw[hL,hD];rfl
   by_cases h1:c.toNat=39;{rw[if_pos (by omega),hw,if_pos (Or.inl h1)];unfold Ln;simp only[GU,dN,dI,sI,cm,fA,tP,om,rv,Ej,qD,uR,GG,iQ,lZ,tI,Nat.reduceAdd];rfl};rw[if_neg (by omega)];by_cases h2:c.toNat=34;{rw[if_pos (by omega),hw,if_pos (Or.inr h2)];unfold Ln;simp only[GU,dN,dI,sI,cm,fA,tP,om,rv,Ej,qD,uR,GG,iQ,lZ,tI,Nat.reduceAdd];rfl};rw[if_neg (by omega),hw,if_neg (fun h=>h.elim h1 h2)];unfold Ln;simp only[GU,dN,dI,sI,cm,fA,tP,om,rv,Ej,qD,uR,GG,iQ,lZ,tI,Nat.reduceAdd];rfl
def wH(d:Dat)(w:Nat)(p:Nat):List Dat:=[.int (F0 w d (.int p) (.int 0)).toI,.int p,.int (F0 (w+1) d (.int p) (.int 0)).toI,F0 (w+2) d (.int p) (.int 0),.int (F0 (w+3) d (.int p) (.int 0)).toI,F0 (w+4) d (.int p) (.int 0)]
theorem Qc{p w z:Nat}(hl:d.toS.length<1000000000)(hr:rows.length<1000000001)(hz:F0 (w+1) d (.int p) (.int 0)=.int z)(hp:p+z≤d.toS.length):sc8.tr F0 9 (Ln d w ea rows y p)=
 (0,if(F0 (w+5) d (.int p) (.int 0)).toI=0 then S9 d (F0 16 d (.int ((p+z:Nat):Int)) (.int 0)).toI (F0 17 d (.int ((p+z:Nat):Int)) (.int (F0 (w+6) d (.int p) (.int ea)).toI)).toI (rows++[wH d w p]) 1 (F0 15 d (.int ((p+z:Nat):Int)) (.int 0)).toI
   else S9 d (F0 (w+5) d (.int p) (.int 0)).toI (F0 (w+6) d (.int p) (.int ea)).toI (rows++[wH d w p]) 1 p):=by
 have hadd:bu .add .i64 (p:Int) (z:Int)=((p+z:Nat):Int):=by rw[bG (by omega) (by omega)];omega
 unfold Ln wH;rw[hz];simp only[sc8,aI,bO,bV,sL,sI,Mb,iP,GG,T5,cQ,tI,XZ,cm,kJ,kH,fA,qv,tP,om,rv,Ej,S0,tQ,Vl,XJ,XI,XH,dN,dI,qD,uR,iQ,lZ,XK,tL,WA,dJ,d12,d14,dO,Dat.one,hadd];rw[if_pos (by omega)];by_cases h:(F0 (w+5) d (.int p) (.int 0)).toI=0;{rw[if_pos h,if_neg (by omega),if_pos (by omega),if_pos h];rfl};rw[if_neg h,if_neg h];rfl
end
def fJ:gw:=aG (sc6.tr F0 9) (jg 1 (aG (sc7.tr F0 15) (sc8.tr F0 9)))
section
variable{d:Dat}{e ea y:Int}{rows:List (List Dat)}
theorem oz{p:Int}(h:¬(p<d.toS.length∧e=0)):fJ (S9 d e ea rows y p)=(2,SX d e ea rows y):=by unfold fJ;rw[eI (by rw[Bp,if_neg h]) (by simp)]
theorem yq{p z:Nat}{c:UInt8}(hl:d.toS.length<1000000000)(hr:rows.length<1000000001)(hc:d.toS[p]? =some c)(hz:F0 (l8 c+1) d (.int p) (.int 0)=.int z)(hp:p+z≤d.toS.length):fJ (S9 d 0 ea rows y p)=
 (0,if(F0 (l8 c+5) d (.int p) (.int 0)).toI=0 then S9 d (F0 16 d (.int ((p+z:Nat):Int)) (.int 0)).toI (F0 17 d (.int ((p+z:Nat):Int)) (.int (F0 (l8 c+6) d (.int p) (.int ea)).toI)).toI (rows++[wH d (l8 c) p]) 1 (F0 15 d (.int ((p+z:Nat):Int)) (.int 0)).toI
   else S9 d (F0 (l8 c+5) d (.int p) (.int 0)).toI (F0 (l8 c+6) d (.int p) (.int ea)).toI (rows++[wH d (l8 c) p]) 1 p):=by
 have h1:=(List.getElem?_eq_some_iff.1 hc).1;unfold fJ;rw[aF (by rw[Bp,if_pos ⟨by omega,rfl⟩])];have e2:aG (sc7.tr F0 15) (sc8.tr F0 9) (S9 d 0 ea rows y p)=_:=(aF (Hr hl hc)).trans (Qc hl hr hz hp);rw[kK e2 (by simp)]
end
end
end Go.Tw.LX
set_option linter.all false
namespace Go.Tw.LX
noncomputable section
def ng(p:Nat)(t:TokV):List Dat:=[.int t.k,.int p,.int t.z,t.x,.int t.n,.lst t.b]
theorem QD{d:Dat}{w p:Nat}{t:TokV}(h:oB w d p t):wH d w p=ng p t:=by obtain⟨a1,a2,a3,a4,a5,_,_⟩:=h (.int 0);unfold wH ng;rw[a1,a2,a3,a4,a5];rfl
inductive Ch (d:Dat):Nat→List (List Dat)→Prop
 |nil {e:Nat} (h:e≤d.toS.length) (g:Gap (d.toS.drop e) (d.toS.length - e)):Ch d e []
 |cons {e n:Nat} {t:TokV} {c:UInt8} {l:List (List Dat)} (g:Gap (d.toS.drop e) n) (h0:gp (d.toS.drop (e+n))=0) (hc:d.toS[e+n]? =some c) (ht:oB (l8 c) d (e+n) t) (hz:1≤t.z)
  (hb:e+n+t.z≤d.toS.length) (k:Ch d (e+n+t.z) l):Ch d e (ng (e+n) t::l)
def Vt(s:List Dat):Prop:=∃d e ea rows y,∃p:Nat,s=S9 d e ea rows y p∧p≤d.toS.length∧(e=0→rows.length≤p)∧d.toS.length<1000000000
theorem GP{d:Dat}{p z:Nat}{c:UInt8}(hl:d.toS.length<1000000000)(hc:d.toS[p]? =some c)(hz:F0 (l8 c+1) d (.int p) (.int 0)=.int z)(he:(F0 (l8 c+5) d (.int p) (.int 0)).toI=0):1≤z:=by obtain⟨t,h1,h2,_⟩:=wi hl hc he;have:=(h1 (.int 0)).2.1;rw[hz]at this;injection this with this;omega
theorem Dc{d:Dat}{e ea y:Int}{rows:List (List Dat)}{p:Nat}(hl:d.toS.length<1000000000)(hr:e=0→rows.length≤p)(hp:p≤d.toS.length):
 fJ (S9 d e ea rows y p)=(2,SX d e ea rows y)∨(e=0∧∃e' ea' row,∃p':Nat,fJ (S9 d e ea rows y p)=(0,S9 d e' ea' (rows++[row]) 1 p')∧p'≤d.toS.length∧(e'=0→p+1≤p')∧(p+1≤p'∨(p'=p∧e'≠0))):=by
 by_cases h:(p:Int)<d.toS.length∧e=0
 ·refine .inr ⟨h.2,?_⟩;obtain⟨h1,rfl⟩:=h;obtain⟨c,r,_,hc⟩:=nX (l:=d.toS) (n:=p) (by omega);obtain⟨z,er,z1,z2,z3,z4⟩:=wk hl hc (.int 0);have e1:=yq (ea:=ea) (y:=y) (rows:=rows) hl (by have:=hr rfl;omega) hc z1 z2;by_cases h2:(F0 (l8 c+5) d (.int p) (.int 0)).toI=0
  ·rw[if_pos h2]at e1;have hz:=GP hl hc z1 h2;obtain⟨n,g,hs⟩:=Bl hl z2;have gle:=g.le;rw[List.length_drop]at gle;have h15:F0 15 d (.int ((p+z:Nat):Int)) (.int 0)=.int ((p+z+n:Nat):Int):=by
    rcases hs with⟨_,hs⟩|⟨_,_,hs⟩;{exact(hs _).1};exact(hs _).1
   rw[h15]at e1;exact⟨_,_,_,p+z+n,e1,by omega,fun _=>by omega,.inl (by omega)⟩
  rw[if_neg h2]at e1;exact⟨_,_,_,p,e1,hp,fun h=>absurd h h2,.inr ⟨rfl,h2⟩⟩
 exact .inl (oz h)
theorem wD:A7 Vt Cf fJ:=fun s hs h0=>by obtain⟨d,e,ea,rows,y,p,rfl,h1,h2,h3⟩:=hs;rcases Dc (ea:=ea) (y:=y) h3 h2 h1 with k|⟨k0,e',ea',row,p',k,k1,k2,k3⟩;{rw[k]at h0;cases h0};rw[k];subst k0;refine⟨⟨d,e',ea',_,1,p',rfl,k1,fun h=> ?_,h3⟩,?_⟩;{have:=k2 h;have:=h2 rfl;simp only[cg,List.length_cons,List.length_nil];omega};show 2*(d.toS.length - (p':Int).toNat)+(if e'=0 then 1 else 0)<2*(d.toS.length - (p:Int).toNat)+(if(0:Int)=0 then 1 else 0);rw[if_pos rfl];rcases k3 with k3|⟨k3,k4⟩;{split<;>omega};rw[if_neg k4];omega
def SK(d:Dat)(rows:List (List Dat))(y:Int)(e:Nat):List Dat:=S9 d (F0 16 d (.int e) (.int 0)).toI (F0 17 d (.int e) (.int 0)).toI rows y (F0 15 d (.int e) (.int 0)).toI
theorem Ev{d:Dat}(hl:d.toS.length<1000000000){rows:List (List Dat)}{y:Int}{e n:Nat}(he:e≤d.toS.length)(g:Gap (d.toS.drop e) n)(h0:gp (d.toS.drop (e+n))=0):SK d rows y e=S9 d 0 0 rows y ((e+n:Nat):Int):=by obtain⟨a,b,c⟩:=Vf hl he g h0 (.int 0);unfold SK;rw[a,b,c];rfl
theorem AQ{d:Dat}(hl:d.toS.length<1000000000){rows:List (List Dat)}{y:Int}{p:Nat}{c:UInt8}{t:TokV}(hr:rows.length≤p)(hc:d.toS[p]? =some c)(ht:oB (l8 c) d p t)(hb:p+t.z≤d.toS.length):
 fJ (S9 d 0 0 rows y p)=(0,SK d (rows++[ng p t]) 1 (p+t.z)):=by
 have h1:=(List.getElem?_eq_some_iff.1 hc).1;have e:=yq (ea:=0) (y:=y) (rows:=rows) hl (by omega) hc (ht (.int 0)).2.1 hb;rw[e,QD ht,if_pos (by rw[(ht (.int 0)).2.2.2.2.2.1];rfl),(ht (.int 0)).2.2.2.2.2.2];rfl
theorem C8{d:Dat}(hl:d.toS.length<1000000000){e:Nat}{l:List (List Dat)}(h:Ch d e l):∀(rows:List (List Dat)) (y:Int),rows.length≤e→e≤d.toS.length→∃y',gd fJ Cf (SK d rows y e)=(2,SX d 0 0 (rows++l) y'):=by
 induction h with
 |@nil e h g=>intro rows y hr he;have h0:gp (d.toS.drop (e+(d.toS.length - e)))=0:=(by rw[show e+(d.toS.length - e)=d.toS.length by omega,List.drop_length];rfl);rw[Ev hl he g h0];have b:=oz (d:=d) (e:=0) (ea:=0) (y:=y) (rows:=rows) (p:=((e+(d.toS.length - e):Nat):Int)) (fun k=>by omega);exact⟨y,by rw[cA (by rw[b];simp),b,List.append_nil]⟩
 |@cons e n t c l g h0 hc ht hz hb k ih=>intro rows y hr he;rw[Ev hl he g h0];have b:=AQ (y:=y) (rows:=rows) hl (by omega) hc ht hb;have h1:=(List.getElem?_eq_some_iff.1 hc).1;rw[iC wD ⟨d,0,0,rows,y,e+n,rfl,by omega,fun _=>by omega,hl⟩ (by rw[b]),b];obtain⟨y',h2⟩:=ih (rows++[ng (e+n) t]) 1 (by simp only[cg,List.length_cons,List.length_nil];omega) hb;exact⟨y',by rw[h2,List.append_assoc];rfl⟩
theorem Ho{d:Dat}(hl:d.toS.length<1000000000):∀(m e:Nat) (rows:List (List Dat)) (y:Int),d.toS.length - e≤m→rows.length≤e→e≤d.toS.length→∃L y',∃er ea:Int,gd fJ Cf (SK d rows y e)=(2,SX d er ea L y')∧
 ((er=0∧ea=0∧∃l,L=rows++l∧Ch d e l)∨(er≠0∧0≤ea∧ea<d.toS.length)):=by
 intro m
 induction m with
 |zero=>intro e rows y hm hr he;have hz:d.toS.length - e=0:=(by omega);have hn:Ch d e []:=.nil he (by rw[hz];exact .nil _);obtain⟨y',h⟩:=C8 hl hn rows y hr he;exact⟨_,y',0,0,h,.inl ⟨rfl,rfl,[],rfl,hn⟩⟩
 |succ m ih=>intro e rows y hm hr he;obtain⟨n,g,h|⟨h1,h2,h3⟩⟩:=Bl hl he;{have gle:=g.le;rw[List.length_drop]at gle;by_cases hlt:e+n<d.toS.length;{obtain⟨c,r,_,hc⟩:=nX hlt;by_cases h2:(F0 (l8 c+5) d (.int ((e+n:Nat):Int)) (.int 0)).toI=0;{obtain⟨t,t1,t2,t3,_⟩:=wi hl hc h2;rw[Ev hl he g h.1];have b:=AQ (y:=y) (rows:=rows) hl (by omega) hc t1 t3;rw[iC wD ⟨d,0,0,rows,y,e+n,rfl,by omega,fun _=>by omega,hl⟩ (by rw[b]),b];obtain⟨L,y',er,ea,k1,k2⟩:=ih (e+n+t.z) (rows++[ng (e+n) t]) 1 (by omega) (by simp only[cg,List.length_cons,List.length_nil];omega) t3;refine⟨L,y',er,ea,k1,?_⟩;rcases k2 with⟨k3,k4,l,rfl,k5⟩|k2;{exact .inl ⟨k3,k4,_,by rw[List.append_assoc];rfl,.cons g h.1 hc t1 t2 t3 k5⟩};exact .inr k2};rw[Ev hl he g h.1];obtain⟨z,er,z1,z2,z3,z4⟩:=wk hl hc (.int 0);obtain⟨a,a1,a2⟩:=z4 (by rw[z3]at h2;exact h2);have b:=yq (ea:=0) (y:=y) (rows:=rows) hl (by omega) hc z1 z2;rw[if_neg h2,z3,a1]at b;have b:fJ (S9 d 0 0 rows y ((e+n:Nat):Int))=(0,S9 d er a (rows++[wH d (l8 c) (e+n)]) 1 ((e+n:Nat):Int)):=b;have her:er≠0:=(by rw[z3]at h2;exact h2);rw[iC wD ⟨d,0,0,rows,y,e+n,rfl,by omega,fun _=>by omega,hl⟩ (by rw[b]),b];have b2:=oz (d:=d) (e:=er) (ea:=a) (y:=1) (rows:=rows++[wH d (l8 c) (e+n)]) (p:=((e+n:Nat):Int)) (fun k=>her k.2);exact⟨_,1,er,a,by rw[cA (by rw[b2];simp),b2],.inr ⟨her,by omega,by omega⟩⟩};have hn:Ch d e []:=.nil he (by rw[show d.toS.length - e=n by omega];exact g);obtain⟨y',h⟩:=C8 hl hn rows y hr he;exact⟨_,y',0,0,h,.inl ⟨rfl,rfl,[],rfl,hn⟩⟩};obtain⟨a1,a2,a3⟩:=h3 (.int 0);have e1:SK d rows y e=S9 d 4 ((e+n:Nat):Int) rows y ((e+n:Nat):Int):=(by unfold SK;rw[a1,a2,a3];rfl);rw[e1];have b2:=oz (d:=d) (e:=4) (ea:=((e+n:Nat):Int)) (y:=y) (rows:=rows) (p:=((e+n:Nat):Int)) (fun k=>by cases k.2);exact⟨_,y,4,_,by rw[cA (by rw[b2];simp),b2],.inr ⟨by decide,by omega,by omega⟩⟩
theorem sc{d:Dat}(h4:d.toS.length<4001):ma F0 [d]=aG (jg 0 (gd fJ Cf)) (sc10.tr F0 4) (SK d [] 0 0):=by
 unfold ma;rw[aF (f:=sc0.tr F0 3) (s':=[d,.int 0,.int 0]) rfl];have e1:sc1.tr F0 4 [d,.int 0,.int 0]=(0,[d,.int 0,.int 0,.int 0]):=by rw[show sc1=.ask (lt (.pr 0 (D 0) (I 0)) (I 4001)) (.leaf [(I 0),(D 0),(N (D 1)),(N (D 2)),(I 0)]) (.leaf [(I 1),O,(I 0),(I 3),(I 4000)])from rfl,TB (DU (by show(d.toS.length:Int)<4001;omega))];rfl
 rw[aF e1,aF (f:=sc2.tr F0 4) (s':=[d,.int 0,.int 0,d]) rfl,aF (f:=sc3.tr F0 6) (s':=[d,.int 0,.int 0,d,.lst [],.int 0]) rfl];have e4:sc4.tr F0 9 [d,.int 0,.int 0,d,.lst [],.int 0]=(0,SK d [] 0 0):=by unfold SK S9;simp only[sc4,aI,bO,cQ,fA,sI];rw[if_pos (by omega)];rfl
 have e5:aG (sc4.tr F0 9) (jg 0 (gd (aG (sc6.tr F0 9) (jg 1 (aG (sc7.tr F0 15) (sc8.tr F0 9)))) Cf)) [d,.int 0,.int 0,d,.lst [],.int 0]=jg 0 (gd fJ Cf) (SK d [] 0 0):=aF e4;unfold aG at e5⊢;rw[e5]
theorem wE{d:Dat}{e ea y:Int}{rows:List (List Dat)}:sc10.tr F0 4 (SX d e ea rows y)=if e=0 then(1,[.lst rows,.int y,.int e,.int ea])else(1,[.lst [],.int 0,.int e,.int ea]):=by unfold SX;simp only[sc10,aI,bV,jX,tI,sI];split<;>rfl
theorem Hn{d:Dat}(h4:d.toS.length<4001):∃L er ea,(∀b c,F0 54 d b c=.lst L∧F0 55 d b c=.int er∧F0 56 d b c=.int ea)∧((er=0∧ea=0∧Ch d 0 L)∨(er≠0∧0≤ea∧ea<d.toS.length∧L=[])):=by
 obtain⟨L,y',er,ea,h1,h2⟩:=Ho (d:=d) (by omega) _ 0 [] 0 (aE _) (by simp) (by omega);have hs:ma F0 [d]=if er=0 then(1,[.lst L,.int y',.int er,.int ea])else(1,[.lst [],.int 0,.int er,.int ea]):=by rw[sc h4,aF (eO h1),wE]
 by_cases he:er=0;{rw[if_pos he]at hs;refine⟨L,er,ea,fun b c=>⟨?_,?_,?_⟩,?_⟩;{rw[Ez,hs];rfl};{rw[Ey,hs];rfl};{rw[Ex,hs];rfl};rcases h2 with⟨k1,k2,l,rfl,k3⟩|⟨k1,_⟩;{exact .inl ⟨k1,k2,k3⟩};exact absurd he k1};rw[if_neg he]at hs;refine⟨[],er,ea,fun b c=>⟨?_,?_,?_⟩,?_⟩;{rw[Ez,hs];rfl};{rw[Ey,hs];rfl};{rw[Ex,hs];rfl};rcases h2 with⟨k1,_⟩|⟨k1,k2,k3⟩;{exact absurd k1 he};exact .inr ⟨k1,k2,k3,rfl⟩
theorem Du{d:Dat}{l:List (List Dat)}(h4:d.toS.length<4001)(h:Ch d 0 l)(b c:Dat):F0 54 d b c=.lst l∧F0 55 d b c=.int 0∧F0 56 d b c=.int 0:=by
 obtain⟨y',h1⟩:=C8 (by omega) h [] 0 (by simp) (by omega);have hs:ma F0 [d]=(1,[.lst l,.int y',.int 0,.int 0]):=by rw[sc h4,aF (eO h1),wE];rfl
 refine⟨?_,?_,?_⟩;{rw[Ez,hs];rfl};{rw[Ey,hs];rfl};rw[Ex,hs];rfl
end
end Go.Tw.LX
set_option linter.all false
namespace Go.Tw.LX
noncomputable section
theorem FY(x:List UInt8):∀(l:List UInt8) (n k:Nat),0≤cL x l n→cL x l n+x.length≤n+k→cL x (l.take k) n=cL x l n:=by
 intro l
 induction l with
 |nil=>intro n k _ _;rw[List.take_nil]
 |cons c l ih=>
  intro n k h1 h2;by_cases hp:x.isPrefixOf (c::l)=true
  ·have e:cL x (c::l) n=n:=(by unfold cL;rw[if_pos hp]);rw[e]at h2⊢;have hx:x<+:(c::l).take k:=by
    rw[List.prefix_take_iff];exact⟨List.isPrefixOf_iff_prefix.1 hp,by omega⟩
   cases hk:(c::l).take k with
   |nil=>rw[hk]at hx;have:x=[]:=List.prefix_nil.1 hx;subst this;rfl
   |cons a m=>rw[hk]at hx;unfold cL;rw[if_pos (List.isPrefixOf_iff_prefix.2 hx)]
  have e:cL x (c::l) n=cL x l (n+1):=by
   conv=>lhs;unfold cL
   rw[if_neg hp]
  rw[e]at h1 h2⊢;have hb:=xZ x l (n+1);obtain⟨k',rfl⟩:∃k',k=k'+1:=⟨k - 1,by omega⟩;rw[List.take_succ_cons];have hp':¬x.isPrefixOf (c::l.take k')=true:=fun h=>hp (List.isPrefixOf_iff_prefix.2 ((List.isPrefixOf_iff_prefix.1 h).trans (by rw[←List.take_succ_cons];exact List.take_prefix _ _)))
  conv=>lhs;unfold cL
  rw[if_neg hp'];exact ih (n+1) k' h1 (by omega)
theorem Kh{r:List UInt8}{c:UInt8}{m:Nat}(h:0≤fg (aq r c))(hm:fg (aq r c)<m):fg (aq (r.take m) c)=fg (aq r c):=by
 cases hf:aq r c with
 |none=>rw[hf]at h;exact absurd h (by decide)
 |some i=>rw[hf]at hm;have hm:(i:Int)<m:=hm;rw[bj]at hf;obtain⟨h1,h2,h3⟩:=List.findIdx?_eq_some_iff_getElem.1 hf;have:aq (r.take m) c=some i:=(by rw[bj];refine List.findIdx?_eq_some_iff_getElem.2 ⟨by rw[List.length_take];omega,by rw[List.getElem_take];exact h2,fun j hj=>by rw[List.getElem_take];exact h3 j hj⟩);rw[this]
theorem F6{r:List UInt8}{c:UInt8}{m:Nat}(hm:fg (aq r c)=m):fg (aq (r.take m) c)= -1:=by
 cases hf:aq r c with
 |none=>rw[hf]at hm;have hm:(-1:Int)=m:=hm;omega
 |some i=>rw[hf]at hm;have hm:(i:Int)=m:=hm;rw[bj]at hf;obtain⟨h1,h2,h3⟩:=List.findIdx?_eq_some_iff_getElem.1 hf;have:aq (r.take m) c=none:=(by rw[bj,List.findIdx?_eq_none_iff];intro x hx;obtain⟨j,hj,rfl⟩:=List.getElem_of_mem hx;rw[List.length_take]at hj;rw[List.getElem_take];have:=h3 j (by omega);simpa using this);rw[this];rfl
theorem Kd{c:UInt8}{r:List UInt8}(hb:¬blk c=true)(h:0<gp (c::r)):2≤gp (c::r)∧2≤(c::r).length:=by
 rw[bm,if_neg hb]at h⊢;have hlen:∀a b:UInt8,(c::r).take 2=[a,b]→2≤(c::r).length:=fun a b h=>by have:=congrArg List.length h;rw[List.length_take]at this;simp only[List.length_cons,List.length_nil]at this⊢;omega
 by_cases h3:(c::r).take 2=[47,47]
 ·rw[if_pos h3]at h⊢;refine⟨?_,hlen _ _ h3⟩;have hl:=hlen _ _ h3;split;{omega};rename_i h5;rw[if_neg h5]at h;cases hf:aq (c::r) 10 with
  |none=>rw[hf]at h5;exact absurd (by decide) h5
  |some i=>rw[hf]at h;have h:(0:Int)<i:=h;show(2:Int)≤i;rw[bj]at hf;obtain⟨h6,h7,_⟩:=List.findIdx?_eq_some_iff_getElem.1 hf;rcases aS i 2 with h8|h8;{exfalso;have h9:i=1:=(by omega);subst h9;have e:((c::r).take 2)[1]? =(c::r)[1]? :=(by rw[List.getElem?_take];rfl);rw[h3,bC h6]at e;have e:(some 47:Option UInt8)=some (c::r)[1]:=e;rw[←Option.some.inj e]at h7;exact absurd h7 (by decide)};omega
 rw[if_neg h3]at h⊢;by_cases h4:(c::r).take 2=[47,42];{rw[if_pos h4]at h⊢;refine⟨?_,hlen _ _ h4⟩;split;{rename_i h5;rw[if_pos h5]at h;omega};omega};rw[if_neg h4]at h;omega
theorem NM{r:List UInt8}{m:Nat}(h:2≤m):(r.take m).take 2=r.take 2:=by rw[List.take_take,Nat.min_eq_left h]
theorem Ec{r:List UInt8}{m:Nat}(h:0<gp r)(hm:gp r≤m):gp (r.take m)=gp r:=by
 cases r with
 |nil=>cases h
 |cons c r=>have hle:=@vJ (c::r);obtain⟨m',rfl⟩:∃m',m=m'+1:=⟨m - 1,by omega⟩;by_cases hb:blk c=true;{rw[List.take_succ_cons,bm,bm,if_pos hb,if_pos hb]};obtain⟨h1,h2⟩:=Kd hb h;have ht:((c::r).take (m'+1)).take 2=(c::r).take 2:=NM (by omega);have ak:(c::r).take (m'+1)=c::r.take m':=List.take_succ_cons;rw[ak]at ht⊢;rw[bm,bm,if_neg hb,if_neg hb,ht];rw[bm,if_neg hb]at hm h;rw[←ak];by_cases h3:(c::r).take 2=[47,47];{rw[if_pos h3]at hm h⊢;rw[if_pos h3];have hbd:=rl (c::r) 10;by_cases h5:fg (aq (c::r) 10)<0;{rw[if_pos h5]at hm h⊢;have:(c::r).take (m'+1)=c::r:=List.take_of_length_le (by omega);rw[this,if_pos h5]};rw[if_neg h5]at hm h⊢;by_cases h6:fg (aq (c::r) 10)<(m'+1:Nat);{rw[Kh (by omega) h6,if_neg h5]};have h7:fg (aq (c::r) 10)=(m'+1:Nat):=(by omega);rw[F6 h7,if_pos (by decide),List.length_take,h7];omega};rw[if_neg h3]at hm h⊢;rw[if_neg h3];by_cases h4:(c::r).take 2=[47,42];{rw[if_pos h4]at hm h⊢;rw[if_pos h4];by_cases h5:cL [42,47] ((c::r).drop 2) 0<0;{rw[if_pos h5]at h;omega};rw[if_neg h5]at hm⊢;have e:((c::r).take (m'+1)).drop 2=((c::r).drop 2).take (m' - 1):=(by rw[List.drop_take];congr 1);rw[e,FY _ _ 0 (m' - 1) (by omega) (by simp only[List.length_cons,List.length_nil];omega),if_neg h5]};rw[if_neg h4]at h;omega
theorem Ke{r:List UInt8}{m:Nat}(h:gp r=0):gp (r.take m)=0:=by
 cases r with
 |nil=>rw[List.take_nil];rfl
 |cons c r=>
  cases m with
  |zero=>rfl
  |succ m=>
   rw[bm]at h;by_cases hb:blk c=true;{rw[if_pos hb]at h;cases h};rw[if_neg hb]at h;cases m with
   |zero=>rw[List.take_succ_cons,List.take_zero,bm,if_neg hb,if_neg (by simp),if_neg (by simp)]
   |succ m=>
    have ht:((c::r).take (m+2)).take 2=(c::r).take 2:=NM (by omega);have ak:(c::r).take (m+2)=c::r.take (m+1):=List.take_succ_cons;rw[ak]at ht⊢;have h3:¬(c::r).take 2=[47,47]:=fun h3=>by
     rw[if_pos h3]at h;have hbd:=rl (c::r) 10;by_cases h5:fg (aq (c::r) 10)<0;{rw[if_pos h5]at h;simp only[List.length_cons]at h;omega};rw[if_neg h5]at h;cases hf:aq (c::r) 10 with
     |none=>rw[hf]at h;cases h
     |some i=>rw[hf]at h;have h:(i:Int)=0:=h;have:i=0:=(by omega);subst this;rw[bj]at hf;obtain⟨_,h7,_⟩:=List.findIdx?_eq_some_iff_getElem.1 hf;have:c=10:=(by simpa using h7);subst this;simp [blk]at hb
    have h4:¬(c::r).take 2=[47,42]:=fun h4=>(by rw[if_neg h3,if_pos h4]at h;split at h;{cases h};omega);rw[bm,if_neg hb,ht,if_neg h3,if_neg h4]
theorem Gap.take{r:List UInt8}{n:Nat}(g:Gap r n):∀m,n≤m→Gap (r.take m) n:=by
 induction g with
 |nil r=>intro m _;exact .nil _
 |@step r n h k ih=>intro m hm;have e:=Ec (m:=m) h (by omega);have:=ih (m - (gp r).toNat) (by omega);have s:=@Gap.step (r.take m) n (by rw[e];exact h) (by rw[e,List.drop_take];exact this);rw[e]at s;exact s
end
end Go.Tw.LX
