/-
  A part of the law's proof over the abstract evaluator. Conditions: those of each theorem, as it states them.
-/
import Derived.Test.YtbfonficacphkaaGreatDoorL2
import Derived.Test.YtbfonficacphkaaGreatDoorB1
import Derived.Test.YtbfonficacphkaaGreatDoorProg
import Derived.Test.YtbfonficacphkaaGreatDoorRows
set_option linter.all false
set_option linter.all false
namespace Go.Proofs.YtbfonficacphkaaGreatDoor
open Go.Tw Go.Tw.LX
noncomputable section
abbrev P:Program:=Tryz.prog
theorem follows:P.follows .mixedOrders=true:=by kernel_rfl
def Lu:List AV:=[.iface 132 .anyp]
def Ov:List AV:=Oj .u8 (Oi Rows.laid_strings_asciiSpace)
abbrev jD:Sh:=.int .i64
abbrev HV:AV:=.opq 8 0 0 jD (.lit 0) (.lit 0)
def iO:gT:=[(1,Ov),(2,Lu),(3,Lu),(0,[HV])]
def bh:Nat→Option Nat:=Bf iO
def b0:bK:=rL iO
def R0:Nat:=1024
theorem lL:pY R0 iO=true:=by kernel_rfl
theorem uK:lM R0 iO=true:=by kernel_rfl
theorem az:BaseOk bh b0 R0:=Ep lL (by decide) uK
theorem cO:∀c∈([]:List HCon),c.Sound F0 P bh b0 R0:=fun _ h=>by cases h
theorem qj:∀c∈([]:List Con),c.Sound F0 P bh b0 R0:=fun _ h=>by cases h
theorem mT{a:Con}(h:a.Sound F0 P bh b0 R0):∀c∈[a],c.Sound F0 P bh b0 R0:=fun c hc=>by rcases List.mem_cons.1 hc with rfl|hc;{exact h};cases hc
theorem ym{a:Con}{l:List Con}(h:a.Sound F0 P bh b0 R0)(hl:∀c∈l,c.Sound F0 P bh b0 R0):∀c∈a::l,c.Sound F0 P bh b0 R0:=fun c hc=>by rcases List.mem_cons.1 hc with rfl|hc;{exact h};exact hl c hc
theorem mn{a:HCon}{l:List HCon}(h:a.Sound F0 P bh b0 R0)(hl:∀c∈l,c.Sound F0 P bh b0 R0):∀c∈a::l,c.Sound F0 P bh b0 R0:=fun c hc=>by rcases List.mem_cons.1 hc with rfl|hc;{exact h};exact hl c hc
theorem aK{v v':Val}:EqsOk v v' []:=fun _ h=>by cases h
theorem ag{v v':Val}{a c:Sx}{e:bS}(h:@Sx.dat v a=@Sx.dat v' c)(he:EqsOk v v' e):EqsOk v v' ((a,c)::e):=fun q hq=>by rcases List.mem_cons.1 hq with rfl|hq;{exact h};exact he q hq
theorem ct{v v':Val}{a a':Sx}(h:(@Sx.dat v a).toI=(@Sx.dat v' a').toI):@Sx.dat v (N a)=@Sx.dat v' (N a'):=congrArg Dat.int h
def VS(i:Nat):AV:=.vstr (D i)
def SI(i:Nat):AV:=.sym .i64 (D i)
def XL(f:Nat)(k:Nat):Con:={f:=f,args:=[.sym .u8 (D 0)],pre:=[],res:=.symb (.cmp .neq (A1 k (D 0)) (.lit 0)),objs:=[]}
theorem MW:∀c∈([]:List Con),c.Sound F0 P bh b0 R0:=qj
theorem JA:∀c∈([]:List HCon),c.Sound F0 P bh b0 R0:=cO
def Yi:Code:=match Tryz.f20.body with
 |some c=>c
 |none=>.skip
abbrev wW:AV:=.sym .u8 (.dvar 0)
def leA:Tl:=⟨[(0,wW)],[],1024⟩
abbrev zm:AV:=.symb (.cmp .neq (.dvar 0) (.lit 0))
def leT1:Tl:=⟨[(2,zm)],[],1024⟩
def YM:Nat→Tl:=fun w=>match w with
 |1=>leT1
 |_=>leA
theorem RU{J:List Dat→Prop}(hco:∀s,J s→∀q∈MX,¬@Holds (VL F0 s) q):PX P bh b0 R0 0 0 21 F0 J Yi leA leA YM (le0.tr F0 1):=
 PX.tree (pins:=[]) az (by decide) follows (cons:=[]) MW (ak:=[]) JA (cores:=MX) hco (inv:=[]) (fun _ _=>aW) (by kernel_rfl)
theorem RS:eA R0 0 [] (ba leA.l) (aA b0 leA.o leA.nx) leA.l leA.o leA.nx=some W0:=by kernel_rfl
def leZ:Tl:=⟨[(2,.symb (.cmp .neq (.ap 7 (.dvar 0) (.lit 0) (.lit 0)) (.lit 0)))],[],1024⟩
theorem RT:dS R0 0 [] [] (ba leT1.l) (aA b0 leT1.o leT1.nx) leZ.l leZ.o leZ.nx=some WZ:=by kernel_rfl
def conLetter:Con:=XL 20 7
theorem Oa(s:List Dat):∀q∈MX,¬@Holds (VL F0 s) q:=fun q hq h=>by simp only[MX,dB,fE,or_false]at hq;rcases hq with rfl|rfl|rfl|rfl;{have h1:=cD (aj h).1;have h2:=mP (aj (aj h).2).1;rw[sI]at h1 h2;omega};{have h1:=bU (aj h).1;have h2:=cD (aj (aj h).2).1;rw[sI]at h1 h2;omega};{have h1:=bU (aj h).1;have h2:=cD (aj (aj h).2).1;rw[sI]at h1 h2;omega};have h1:=bU (aj h).1;have h2:=mP (aj (aj h).2).1;rw[sI]at h1 h2;omega
theorem Ol{J:List Dat→Prop}{sp:ST}{m:Nat}{cores:List bo}{inv:bo}(hco:∀s,J s→∀q∈cores,¬@Holds (VL F0 s) q)(hinv:∀s,J s→@Holds (VL F0 s) inv)(h1:sp.deadsOk cores inv=true)(h2:sp.flsX [1]=true){s:List Dat}(hs:J s):(sp.tr F0 m s).1=1:=
 rq (dw (J:=J) (l:=[1]) hco hinv h1 h2) hs
theorem Ts{v v':Val}{x y:Sx}(h:(@Sx.dat v x).toI=(@Sx.dat v' y).toI):@Sx.dat v (.pr 21 x (I 0))=@Sx.dat v' (.pr 21 y (I 0)):=by show Dat.int (dW ((@Sx.dat v x).toI != 0))=Dat.int (dW ((@Sx.dat v' y).toI != 0));rw[h]
theorem oq:conLetter.Sound F0 P bh b0 R0:=by refine cE (fn:=Tryz.f20) (code:=Yi) Tryz.func20 (by rfl) (by kernel_rfl) rfl rfl rfl fun v hF hpre=> ?_;refine⟨.ret,leZ.l,leZ.o,leZ.nx,_,_,.inl rfl,?_,by rfl,rfl⟩;have h:=PX.ret (RU (J:=fun _=>True) (fun s _=>Oa s)) (s:=[.int (@Sx.dat v (D 0)).toI]) trivial (Ol (J:=fun _=>True) (fun s _=>Oa s) (fun _ _=>aW) (by kernel_rfl) (by kernel_rfl) trivial);refine HT.pre (bP _) (aT (v:=v) (v':=VL F0 [.int (@Sx.dat v (D 0)).toI]) az RS (ag rfl aK)) (HT.retell (bP _) h (aV (v':=v) az RT (ag (Ts ?_) aK)));show _=(v.fn 7 _ _ _).toI;rw[hF,Vy];rfl
end
end Go.Proofs.YtbfonficacphkaaGreatDoor
