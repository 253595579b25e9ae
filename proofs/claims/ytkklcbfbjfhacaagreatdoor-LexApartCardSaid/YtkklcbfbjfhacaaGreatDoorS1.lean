/-
  A part of the law's proof over the abstract evaluator. Conditions: those of each theorem, as it states them.
-/
import Derived.Test.YtkklcbfbjfhacaaGreatDoorL1
import Derived.Test.YtkklcbfbjfhacaaGreatDoorB1
import Derived.Test.YtkklcbfbjfhacaaGreatDoorProg
import Derived.Test.YtkklcbfbjfhacaaGreatDoorRows
set_option linter.all false
set_option linter.all false
namespace Go.Proofs.YtkklcbfbjfhacaaGreatDoor
open Go.Tw Go.Tw.LX
noncomputable section
abbrev P:Program:=Tryz.prog
theorem follows:P.follows .mixedOrders=true:=by kernel_rfl
def tErr:List AV:=[.iface 144 .anyp]
def asTab:List AV:=Ak .u8 (Aj Rows.laid_strings_asciiSpace)
def tabs:fM:=[(1,asTab),(3,tErr),(4,tErr),(0,[.opq 8 0 0 (.int .i64) (.lit 0) (.lit 0)])]
def gl0:Nat→Option Nat:=s6 tabs
def b0:bm:=mC tabs
def R0:Nat:=1024
theorem tabs_lt:lL R0 tabs=true:=by kernel_rfl
theorem tabs_self:jA R0 tabs=true:=by kernel_rfl
theorem base0:BaseOk gl0 b0 R0:=vp tabs_lt (by decide) tabs_self
theorem nohcon:∀c∈([]:List HCon),c.Sound F0 P gl0 b0 R0:=fun _ h=>by cases h
theorem nocon:∀c∈([]:List Con),c.Sound F0 P gl0 b0 R0:=fun _ h=>by cases h
theorem con1{a:Con}(h:a.Sound F0 P gl0 b0 R0):∀c∈[a],c.Sound F0 P gl0 b0 R0:=fun c hc=>by rcases List.mem_cons.1 hc with rfl|hc;{exact h};cases hc
theorem conC{a:Con}{l:List Con}(h:a.Sound F0 P gl0 b0 R0)(hl:∀c∈l,c.Sound F0 P gl0 b0 R0):∀c∈a::l,c.Sound F0 P gl0 b0 R0:=fun c hc=>by rcases List.mem_cons.1 hc with rfl|hc;{exact h};exact hl c hc
theorem hconC{a:HCon}{l:List HCon}(h:a.Sound F0 P gl0 b0 R0)(hl:∀c∈l,c.Sound F0 P gl0 b0 R0):∀c∈a::l,c.Sound F0 P gl0 b0 R0:=fun c hc=>by rcases List.mem_cons.1 hc with rfl|hc;{exact h};exact hl c hc
theorem eqs_nil{v v':Val}:EqsOk v v' []:=fun _ h=>by cases h
theorem eqs_cons{v v':Val}{a c:Sx}{e:bA}(h:@Sx.dat v a=@Sx.dat v' c)(he:EqsOk v v' e):EqsOk v v' ((a,c)::e):=fun q hq=>by rcases List.mem_cons.1 hq with rfl|hq;{exact h};exact he q hq
theorem numI{v v':Val}{a a':Sx}(h:(@Sx.dat v a).toI=(@Sx.dat v' a').toI):@Sx.dat v (N a)=@Sx.dat v' (N a'):=congrArg Dat.int h
def VS(i:Nat):AV:=.vstr (D i)
def SI(i:Nat):AV:=.sym .i64 (D i)
def byC(f:Nat)(k:Nat):Con:={f:=f,args:=[.sym .u8 (D 0)],pre:=[],res:=.symb (.cmp .neq (A1 k (D 0)) (.lit 0)),objs:=[]}
theorem le_cons:∀c∈([]:List Con),c.Sound F0 P gl0 b0 R0:=nocon
theorem le_hcons:∀c∈([]:List HCon),c.Sound F0 P gl0 b0 R0:=nohcon
def cle:Code:=match Tryz.f27.body with
 |some c=>c
 |none=>.skip
def leA:Tl:=⟨[(0,.sym .u8 (.dvar 0))],[],1024⟩
def leT1:Tl:=⟨[(2,.symb (.cmp .neq (.dvar 0) (.lit 0)))],[],1024⟩
def leT:Nat→Tl:=fun w=>match w with
 |1=>leT1
 |_=>leA
theorem le0_px{J:List Dat→Prop}(hco:∀s,J s→∀q∈le0c,¬@Holds (VL F0 s) q):PX P gl0 b0 R0 0 0 21 F0 J cle leA leA leT (le0.tr F0 1):=
 PX.tree (pins:=[]) base0 (by decide) follows (cons:=[]) le_cons (hcons:=[]) le_hcons (cores:=le0c) hco (inv:=[]) (fun _ _=>hnil) (by kernel_rfl)
theorem le_ini:dQ R0 0 [] (aR leA.l) (ao b0 leA.o leA.nx) leA.l leA.o leA.nx=some leE0:=by kernel_rfl
def leZ:Tl:=⟨[(2,.symb (.cmp .neq (.ap 7 (.dvar 0) (.lit 0) (.lit 0)) (.lit 0)))],[],1024⟩
theorem le_fin:dD R0 0 [] [] (aR leT1.l) (ao b0 leT1.o leT1.nx) leZ.l leZ.o leZ.nx=some leE1:=by kernel_rfl
def conLetter:Con:=byC 27 7
theorem le_co(s:List Dat):∀q∈le0c,¬@Holds (VL F0 s) q:=fun q hq h=>by simp only[le0c,da,fg,or_false]at hq;rcases hq with rfl|rfl|rfl|rfl;{have h1:=ltT' (hget h).1;have h2:=eqT' (hget (hget h).2).1;rw[sI]at h1 h2;omega};{have h1:=ltF' (hget h).1;have h2:=ltT' (hget (hget h).2).1;rw[sI]at h1 h2;omega};{have h1:=ltF' (hget h).1;have h2:=ltT' (hget (hget h).2).1;rw[sI]at h1 h2;omega};have h1:=ltF' (hget h).1;have h2:=eqT' (hget (hget h).2).1;rw[sI]at h1 h2;omega
theorem fl1{J:List Dat→Prop}{sp:ST}{m:Nat}{cores:List aY}{inv:aY}(hco:∀s,J s→∀q∈cores,¬@Holds (VL F0 s) q)(hinv:∀s,J s→@Holds (VL F0 s) inv)(h1:sp.deadsOk cores inv=true)(h2:sp.flsX [1]=true){s:List Dat}(hs:J s):(sp.tr F0 m s).1=1:=
 ml (cJ (J:=J) (l:=[1]) hco hinv h1 h2) hs
theorem b2d{v v':Val}{x y:Sx}(h:(@Sx.dat v x).toI=(@Sx.dat v' y).toI):@Sx.dat v (.pr 21 x (I 0))=@Sx.dat v' (.pr 21 y (I 0)):=by show Dat.int (dF ((@Sx.dat v x).toI != 0))=Dat.int (dF ((@Sx.dat v' y).toI != 0));rw[h]
theorem conLetter_ok:conLetter.Sound F0 P gl0 b0 R0:=by refine cg (fn:=Tryz.f27) (code:=cle) Tryz.func27 (by rfl) (by kernel_rfl) rfl rfl rfl fun v hF hpre=> ?_;refine⟨.ret,leZ.l,leZ.o,leZ.nx,_,_,.inl rfl,?_,by rfl,rfl⟩;have h:=PX.ret (le0_px (J:=fun _=>True) (fun s _=>le_co s)) (s:=[.int (@Sx.dat v (D 0)).toI]) trivial (fl1 (J:=fun _=>True) (fun s _=>le_co s) (fun _ _=>hnil) (by kernel_rfl) (by kernel_rfl) trivial);refine HT.pre (bQ _) (aN (v:=v) (v':=VL F0 [.int (@Sx.dat v (D 0)).toI]) base0 le_ini (eqs_cons rfl eqs_nil)) (HT.retell (bQ _) h (aP (v':=v) base0 le_fin (eqs_cons (b2d ?_) eqs_nil)));show _=(v.fn 7 _ _ _).toI;rw[hF,F0_7];rfl
end
end Go.Proofs.YtkklcbfbjfhacaaGreatDoor
