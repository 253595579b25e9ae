/-
  A part of the law's proof over the abstract evaluator. Conditions: those of each theorem, as it states them.
-/
import Derived.Test.YtbfonficacphkaaGreatDoorS1
import Derived.Test.YtbfonficacphkaaGreatDoorL2
set_option linter.all false
set_option linter.all false
namespace Go.Proofs.YtbfonficacphkaaGreatDoor
open Go.Tw Go.Tw.LX
noncomputable section
theorem NA:∀c∈([]:List Con),c.Sound F0 P bh b0 R0:=qj
theorem Kw:∀c∈([]:List HCon),c.Sound F0 P bh b0 R0:=cO
def Ym:Code:=match Tryz.f22.body with
 |some c=>c
 |none=>.skip
def diA:Tl:=⟨[(0,wW)],[],1024⟩
def diT1:Tl:=⟨[(2,zm)],[],1024⟩
def YQ:Nat→Tl:=fun w=>match w with
 |1=>diT1
 |_=>diA
theorem SZ{J:List Dat→Prop}:PX P bh b0 R0 0 0 9 F0 J Ym diA diA YQ (di0.tr F0 1):=
 PX.tree (pins:=[]) az (by decide) follows (cons:=[]) NA (ak:=[]) Kw (cores:=[]) (fun _ _ _ h=>by cases h) (inv:=[]) (fun _ _=>aW) (by kernel_rfl)
theorem SW:eA R0 0 [] (ba diA.l) (aA b0 diA.o diA.nx) diA.l diA.o diA.nx=some XG:=by kernel_rfl
def diZ:Tl:=⟨[(2,.symb (.cmp .neq (.ap 8 (.dvar 0) (.lit 0) (.lit 0)) (.lit 0)))],[],1024⟩
theorem SY:dS R0 0 [] [] (ba diT1.l) (aA b0 diT1.o diT1.nx) diZ.l diZ.o diZ.nx=some XF:=by kernel_rfl
def conDigit:Con:=XL 22 8
theorem qw:conDigit.Sound F0 P bh b0 R0:=by refine cE (fn:=Tryz.f22) (code:=Ym) Tryz.func22 (by rfl) (by kernel_rfl) rfl rfl rfl fun v hF hpre=> ?_;refine⟨.ret,diZ.l,diZ.o,diZ.nx,_,_,.inl rfl,?_,by rfl,rfl⟩;have h:=PX.ret (SZ (J:=fun _=>True)) (s:=[.int (@Sx.dat v (D 0)).toI]) trivial (Ol (J:=fun _=>True) (cores:=[]) (fun _ _ _ h=>by cases h) (fun _ _=>aW) (by kernel_rfl) (by kernel_rfl) trivial);refine HT.pre (bP _) (aT (v:=v) (v':=VL F0 [.int (@Sx.dat v (D 0)).toI]) az SW (ag rfl aK)) (HT.retell (bP _) h (aV (v':=v) az SY (ag (Ts ?_) aK)));show _=(v.fn 8 _ _ _).toI;rw[hF,Vx];rfl
theorem MA:∀c∈[conLetter,conDigit],c.Sound F0 P bh b0 R0:=ym oq (mT qw)
theorem Jd:∀c∈([]:List HCon),c.Sound F0 P bh b0 R0:=cO
def Yg:Code:=match Tryz.f41.body with
 |some c=>c
 |none=>.skip
def paA:Tl:=⟨[(0,wW)],[],1024⟩
def paT1:Tl:=⟨[(2,zm)],[],1024⟩
def YI:Nat→Tl:=fun w=>match w with
 |1=>paT1
 |_=>paA
theorem Rx{J:List Dat→Prop}:PX P bh b0 R0 0 0 9 F0 J Yg paA paA YI (pa0.tr F0 1):=
 PX.tree (pins:=[]) az (by decide) follows (cons:=[conLetter,conDigit]) MA (ak:=[]) Jd (cores:=[]) (fun _ _ _ h=>by cases h) (inv:=[]) (fun _ _=>aW) (by kernel_rfl)
theorem Rv:eA R0 0 [] (ba paA.l) (aA b0 paA.o paA.nx) paA.l paA.o paA.nx=some WT:=by kernel_rfl
def paZ:Tl:=⟨[(2,.symb (.cmp .neq (.ap 12 (.dvar 0) (.lit 0) (.lit 0)) (.lit 0)))],[],1024⟩
theorem Rw:dS R0 0 [] [] (ba paT1.l) (aA b0 paT1.o paT1.nx) paZ.l paZ.o paZ.nx=some WS:=by kernel_rfl
def conPart:Con:=XL 41 12
theorem tR:conPart.Sound F0 P bh b0 R0:=by refine cE (fn:=Tryz.f41) (code:=Yg) Tryz.func41 (by rfl) (by kernel_rfl) rfl rfl rfl fun v hF hpre=> ?_;refine⟨.ret,paZ.l,paZ.o,paZ.nx,_,_,.inl rfl,?_,by rfl,rfl⟩;have h:=PX.ret (Rx (J:=fun _=>True)) (s:=[.int (@Sx.dat v (D 0)).toI]) trivial (Ol (J:=fun _=>True) (cores:=[]) (fun _ _ _ h=>by cases h) (fun _ _=>aW) (by kernel_rfl) (by kernel_rfl) trivial);refine HT.pre (bP _) (aT (v:=v) (v':=VL F0 [.int (@Sx.dat v (D 0)).toI]) az Rv (ag rfl aK)) (HT.retell (bP _) h (aV (v':=v) az Rw (ag (Ts ?_) aK)));show _=(v.fn 12 _ _ _).toI;rw[hF,OL];rfl
abbrev kn:Sh:=.slc [.str]
def OS(x y:Sx):Ob:=.opq 2 0 gid kn x y [] 9
def LO(y:Sx):AV:=.opq 2 1024 0 kn (.lit 0) y
theorem Na:∀c∈([]:List Con),c.Sound F0 P bh b0 R0:=qj
theorem JJ:∀c∈([]:List HCon),c.Sound F0 P bh b0 R0:=cO
def Yk:Code:=match Tryz.f43.body with
 |some c=>c
 |none=>.skip
def kkA:Tl:=⟨[],[],1024⟩
abbrev sB:List (Nat×Ob):=[(1024,.opq 2 0 1023 kn (.dvar 0) (.dvar 1) [] 9)]
abbrev Dz:AV:=.opq 2 1024 0 kn (.lit 0) (.dvar 1)
def kkT1:Tl:=⟨[(0,Dz)],sB,1025⟩
def YO:Nat→Tl:=fun w=>match w with
 |1=>kkT1
 |_=>kkA
theorem Sf{J:List Dat→Prop}:PX P bh b0 R0 0 0 2 F0 J Yk kkA kkA YO (kk0.tr F0 2):=
 PX.tree (pins:=[]) az (by decide) follows (cons:=[]) Na (ak:=[]) JJ (cores:=[]) (fun _ _ _ h=>by cases h) (inv:=[]) (fun _ _=>aW) (by kernel_rfl)
theorem Sd:eA R0 0 [] (ba kkA.l) (aA b0 kkA.o kkA.nx) kkA.l kkA.o kkA.nx=some W7:=by kernel_rfl
abbrev BQ:AV:=.opq 2 1024 0 kn (.lit 0) (.lit 1)
def kkZ:Tl:=⟨[(0,BQ)],[(1024,.opq 2 0 1023 kn (.ap 1 (.lit 0) (.lit 0) (.lit 0)) (.lit 1) [] 9)],1025⟩
theorem Se:dS R0 0 [⟨1024,1024,0,0,0⟩] [] (ba kkT1.l) (aA b0 kkT1.o kkT1.nx) kkZ.l kkZ.o kkZ.nx=some W6:=by kernel_rfl
def conKeys:Con:={f:=43,args:=[],pre:=[],res:=LO (.lit 1),objs:=[OS sQ (.lit 1)]}
theorem C7:conKeys.Sound F0 P bh b0 R0:=by refine vQ (fn:=Tryz.f43) (code:=Yk) Tryz.func43 (by rfl) (by kernel_rfl) (by kernel_rfl) fun v hF hpre=> ?_;refine⟨.ret,kkZ.l,_,_,.inl rfl,?_,by rfl,rfl⟩;have h:=PX.ret (Sf (J:=fun _=>True)) (s:=[]) trivial (Ol (J:=fun _=>True) (cores:=[]) (fun _ _ _ h=>by cases h) (fun _ _=>aW) (by kernel_rfl) (by kernel_rfl) trivial);refine HT.pre (bP _) (aT (v:=v) (v':=VL F0 []) az Sd aK) (HT.retell (bP _) h (aV (v':=v) az Se (ag rfl (ag ?_ (ag rfl aK)))));show _=v.fn 1 _ _ _;rw[hF,XX];rfl
theorem Lw:∀c∈([]:List Con),c.Sound F0 P bh b0 R0:=qj
theorem G5:∀c∈([]:List HCon),c.Sound F0 P bh b0 R0:=cO
def Ya:Code:=match Tryz.f49.body with
 |some c=>c
 |none=>.skip
def ssA:Tl:=⟨[],[],1024⟩
def ssT1:Tl:=⟨[(0,Dz)],sB,1025⟩
def Yz:Nat→Tl:=fun w=>match w with
 |1=>ssT1
 |_=>ssA
theorem O1{J:List Dat→Prop}:PX P bh b0 R0 0 0 2 F0 J Ya ssA ssA Yz (ss0.tr F0 2):=
 PX.tree (pins:=[]) az (by decide) follows (cons:=[]) Lw (ak:=[]) G5 (cores:=[]) (fun _ _ _ h=>by cases h) (inv:=[]) (fun _ _=>aW) (by kernel_rfl)
theorem OZ:eA R0 0 [] (ba ssA.l) (aA b0 ssA.o ssA.nx) ssA.l ssA.o ssA.nx=some V9:=by kernel_rfl
def ssZ:Tl:=⟨[(0,BQ)],[(1024,.opq 2 0 1023 kn (.ap 2 (.lit 0) (.lit 0) (.lit 0)) (.lit 1) [] 9)],1025⟩
theorem O0:dS R0 0 [⟨1024,1024,0,0,0⟩] [] (ba ssT1.l) (aA b0 ssT1.o ssT1.nx) ssZ.l ssZ.o ssZ.nx=some V8:=by kernel_rfl
def conSigns:Con:={f:=49,args:=[],pre:=[],res:=LO (.lit 1),objs:=[OS w7 (.lit 1)]}
theorem AB:conSigns.Sound F0 P bh b0 R0:=by refine vQ (fn:=Tryz.f49) (code:=Ya) Tryz.func49 (by rfl) (by kernel_rfl) (by kernel_rfl) fun v hF hpre=> ?_;refine⟨.ret,ssZ.l,_,_,.inl rfl,?_,by rfl,rfl⟩;have h:=PX.ret (O1 (J:=fun _=>True)) (s:=[]) trivial (Ol (J:=fun _=>True) (cores:=[]) (fun _ _ _ h=>by cases h) (fun _ _=>aW) (by kernel_rfl) (by kernel_rfl) trivial);refine HT.pre (bP _) (aT (v:=v) (v':=VL F0 []) az OZ aK) (HT.retell (bP _) h (aV (v':=v) az O0 (ag rfl (ag ?_ (ag rfl aK)))));show _=v.fn 2 _ _ _;rw[hF,XW];rfl
end
end Go.Proofs.YtbfonficacphkaaGreatDoor
