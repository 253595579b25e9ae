/-
  A part of the law's proof over the abstract evaluator. Conditions: those of each theorem, as it states them.
-/
import Derived.Test.YtbfonficacphkaaGreatDoorL2
import Derived.Test.YtbfonficacphkaaGreatDoorB1
import Derived.Test.YtbfonficacphkaaGreatDoorProg
import Derived.Test.YtbfonficacphkaaGreatDoorRows
set_option linter.all false
set_option linter.all false
namespace Go.Proofs.YtbfonficacphkaaGreatDoor
open Go.Tw Go.Tw.LX
noncomputable section
abbrev P:Program:=Tryz.prog
theorem follows:P.follows .mixedOrders=true:=by kernel_rfl
def Lz:List AV:=[.iface 132 .anyp]
def OA:List AV:=Oo .u8 (On Rows.laid_strings_asciiSpace)
abbrev jD:Sh:=.int .i64
abbrev H0:AV:=.opq 8 0 0 jD (.lit 0) (.lit 0)
def iQ:gU:=[(1,OA),(2,Lz),(3,Lz),(0,[H0])]
def bh:Nat→Option Nat:=Bf iQ
def b0:bK:=rM iQ
def R0:Nat:=1024
theorem lL:pZ R0 iQ=true:=by kernel_rfl
theorem uN:lM R0 iQ=true:=by kernel_rfl
theorem az:BaseOk bh b0 R0:=Es lL (by decide) uN
theorem cQ:∀c∈([]:List HCon),c.Sound F0 P bh b0 R0:=fun _ h=>by cases h
theorem qk:∀c∈([]:List Con),c.Sound F0 P bh b0 R0:=fun _ h=>by cases h
theorem mT{a:Con}(h:a.Sound F0 P bh b0 R0):∀c∈[a],c.Sound F0 P bh b0 R0:=fun c hc=>by rcases List.mem_cons.1 hc with rfl|hc;{exact h};cases hc
theorem yo{a:Con}{l:List Con}(h:a.Sound F0 P bh b0 R0)(hl:∀c∈l,c.Sound F0 P bh b0 R0):∀c∈a::l,c.Sound F0 P bh b0 R0:=fun c hc=>by rcases List.mem_cons.1 hc with rfl|hc;{exact h};exact hl c hc
theorem mn{a:HCon}{l:List HCon}(h:a.Sound F0 P bh b0 R0)(hl:∀c∈l,c.Sound F0 P bh b0 R0):∀c∈a::l,c.Sound F0 P bh b0 R0:=fun c hc=>by rcases List.mem_cons.1 hc with rfl|hc;{exact h};exact hl c hc
theorem aK{v v':Val}:EqsOk v v' []:=fun _ h=>by cases h
theorem ag{v v':Val}{a c:Sx}{e:bS}(h:@Sx.dat v a=@Sx.dat v' c)(he:EqsOk v v' e):EqsOk v v' ((a,c)::e):=fun q hq=>by rcases List.mem_cons.1 hq with rfl|hq;{exact h};exact he q hq
theorem ct{v v':Val}{a a':Sx}(h:(@Sx.dat v a).toI=(@Sx.dat v' a').toI):@Sx.dat v (N a)=@Sx.dat v' (N a'):=congrArg Dat.int h
def VS(i:Nat):AV:=.vstr (D i)
def SI(i:Nat):AV:=.sym .i64 (D i)
def XQ(f:Nat)(k:Nat):Con:={f:=f,args:=[.sym .u8 (D 0)],pre:=[],res:=.symb (.cmp .neq (A1 k (D 0)) (.lit 0)),objs:=[]}
theorem M1:∀c∈([]:List Con),c.Sound F0 P bh b0 R0:=qk
theorem JF:∀c∈([]:List HCon),c.Sound F0 P bh b0 R0:=cQ
def Yn:Code:=match Tryz.f20.body with
 |some c=>c
 |none=>.skip
abbrev wX:AV:=.sym .u8 (.dvar 0)
def leA:Tl:=⟨[(0,wX)],[],1024⟩
abbrev zo:AV:=.symb (.cmp .neq (.dvar 0) (.lit 0))
def leT1:Tl:=⟨[(2,zo)],[],1024⟩
def YR:Nat→Tl:=fun w=>match w with
 |1=>leT1
 |_=>leA
theorem RZ{J:List Dat→Prop}(hco:∀s,J s→∀q∈M3,¬@Holds (VL F0 s) q):PX P bh b0 R0 0 0 21 F0 J Yn leA leA YR (le0.tr F0 1):=
 PX.tree (pins:=[]) az (by decide) follows (cons:=[]) M1 (ak:=[]) JF (cores:=M3) hco (inv:=[]) (fun _ _=>aW) (by kernel_rfl)
theorem RX:eB R0 0 [] (ba leA.l) (aA b0 leA.o leA.nx) leA.l leA.o leA.nx=some W5:=by kernel_rfl
def leZ:Tl:=⟨[(2,.symb (.cmp .neq (.ap 7 (.dvar 0) (.lit 0) (.lit 0)) (.lit 0)))],[],1024⟩
theorem RY:dT R0 0 [] [] (ba leT1.l) (aA b0 leT1.o leT1.nx) leZ.l leZ.o leZ.nx=some W4:=by kernel_rfl
def conLetter:Con:=XQ 20 7
theorem Og(s:List Dat):∀q∈M3,¬@Holds (VL F0 s) q:=fun q hq h=>by simp only[M3,dC,fE,or_false]at hq;rcases hq with rfl|rfl|rfl|rfl;{have h1:=cD (aj h).1;have h2:=mP (aj (aj h).2).1;rw[sI]at h1 h2;omega};{have h1:=bU (aj h).1;have h2:=cD (aj (aj h).2).1;rw[sI]at h1 h2;omega};{have h1:=bU (aj h).1;have h2:=cD (aj (aj h).2).1;rw[sI]at h1 h2;omega};have h1:=bU (aj h).1;have h2:=mP (aj (aj h).2).1;rw[sI]at h1 h2;omega
theorem Ot{J:List Dat→Prop}{sp:ST}{m:Nat}{cores:List bo}{inv:bo}(hco:∀s,J s→∀q∈cores,¬@Holds (VL F0 s) q)(hinv:∀s,J s→@Holds (VL F0 s) inv)(h1:sp.deadsOk cores inv=true)(h2:sp.flsX [1]=true){s:List Dat}(hs:J s):(sp.tr F0 m s).1=1:=
 ru (dx (J:=J) (l:=[1]) hco hinv h1 h2) hs
theorem Ty{v v':Val}{x y:Sx}(h:(@Sx.dat v x).toI=(@Sx.dat v' y).toI):@Sx.dat v (.pr 21 x (I 0))=@Sx.dat v' (.pr 21 y (I 0)):=by show Dat.int (dX ((@Sx.dat v x).toI != 0))=Dat.int (dX ((@Sx.dat v' y).toI != 0));rw[h]
theorem ot:conLetter.Sound F0 P bh b0 R0:=by refine cE (fn:=Tryz.f20) (code:=Yn) Tryz.func20 (by rfl) (by kernel_rfl) rfl rfl rfl fun v hF hpre=> ?_;refine⟨.ret,leZ.l,leZ.o,leZ.nx,_,_,.inl rfl,?_,by rfl,rfl⟩;have h:=PX.ret (RZ (J:=fun _=>True) (fun s _=>Og s)) (s:=[.int (@Sx.dat v (D 0)).toI]) trivial (Ot (J:=fun _=>True) (fun s _=>Og s) (fun _ _=>aW) (by kernel_rfl) (by kernel_rfl) trivial);refine HT.pre (bP _) (aT (v:=v) (v':=VL F0 [.int (@Sx.dat v (D 0)).toI]) az RX (ag rfl aK)) (HT.retell (bP _) h (aV (v':=v) az RY (ag (Ty ?_) aK)));show _=(v.fn 7 _ _ _).toI;rw[hF,VD];rfl
end
end Go.Proofs.YtbfonficacphkaaGreatDoor
