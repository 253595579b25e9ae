/-
  A part of the law's proof over the abstract evaluator. Conditions: those of each theorem, as it states them.
-/
import Derived.Test.YtbfonficacphkaaGreatDoorS1
import Derived.Test.YtbfonficacphkaaGreatDoorL2
set_option linter.all false
set_option linter.all false
namespace Go.Proofs.YtbfonficacphkaaGreatDoor
open Go.Tw Go.Tw.LX
noncomputable section
theorem NG:∀c∈([]:List Con),c.Sound F0 P bh b0 R0:=qk
theorem KB:∀c∈([]:List HCon),c.Sound F0 P bh b0 R0:=cQ
def Yr:Code:=match Tryz.f22.body with
 |some c=>c
 |none=>.skip
def diA:Tl:=⟨[(0,wX)],[],1024⟩
def diT1:Tl:=⟨[(2,zo)],[],1024⟩
def YV:Nat→Tl:=fun w=>match w with
 |1=>diT1
 |_=>diA
theorem Td{J:List Dat→Prop}:PX P bh b0 R0 0 0 9 F0 J Yr diA diA YV (di0.tr F0 1):=
 PX.tree (pins:=[]) az (by decide) follows (cons:=[]) NG (ak:=[]) KB (cores:=[]) (fun _ _ _ h=>by cases h) (inv:=[]) (fun _ _=>aW) (by kernel_rfl)
theorem Tb:eB R0 0 [] (ba diA.l) (aA b0 diA.o diA.nx) diA.l diA.o diA.nx=some XL:=by kernel_rfl
def diZ:Tl:=⟨[(2,.symb (.cmp .neq (.ap 8 (.dvar 0) (.lit 0) (.lit 0)) (.lit 0)))],[],1024⟩
theorem Tc:dT R0 0 [] [] (ba diT1.l) (aA b0 diT1.o diT1.nx) diZ.l diZ.o diZ.nx=some XK:=by kernel_rfl
def conDigit:Con:=XQ 22 8
theorem qx:conDigit.Sound F0 P bh b0 R0:=by refine cE (fn:=Tryz.f22) (code:=Yr) Tryz.func22 (by rfl) (by kernel_rfl) rfl rfl rfl fun v hF hpre=> ?_;refine⟨.ret,diZ.l,diZ.o,diZ.nx,_,_,.inl rfl,?_,by rfl,rfl⟩;have h:=PX.ret (Td (J:=fun _=>True)) (s:=[.int (@Sx.dat v (D 0)).toI]) trivial (Ot (J:=fun _=>True) (cores:=[]) (fun _ _ _ h=>by cases h) (fun _ _=>aW) (by kernel_rfl) (by kernel_rfl) trivial);refine HT.pre (bP _) (aT (v:=v) (v':=VL F0 [.int (@Sx.dat v (D 0)).toI]) az Tb (ag rfl aK)) (HT.retell (bP _) h (aV (v':=v) az Tc (ag (Ty ?_) aK)));show _=(v.fn 8 _ _ _).toI;rw[hF,VC];rfl
theorem MF:∀c∈[conLetter,conDigit],c.Sound F0 P bh b0 R0:=yo ot (mT qx)
theorem Ji:∀c∈([]:List HCon),c.Sound F0 P bh b0 R0:=cQ
def Yl:Code:=match Tryz.f41.body with
 |some c=>c
 |none=>.skip
def paA:Tl:=⟨[(0,wX)],[],1024⟩
def paT1:Tl:=⟨[(2,zo)],[],1024⟩
def YN:Nat→Tl:=fun w=>match w with
 |1=>paT1
 |_=>paA
theorem RC{J:List Dat→Prop}:PX P bh b0 R0 0 0 9 F0 J Yl paA paA YN (pa0.tr F0 1):=
 PX.tree (pins:=[]) az (by decide) follows (cons:=[conLetter,conDigit]) MF (ak:=[]) Ji (cores:=[]) (fun _ _ _ h=>by cases h) (inv:=[]) (fun _ _=>aW) (by kernel_rfl)
theorem RA:eB R0 0 [] (ba paA.l) (aA b0 paA.o paA.nx) paA.l paA.o paA.nx=some WY:=by kernel_rfl
def paZ:Tl:=⟨[(2,.symb (.cmp .neq (.ap 12 (.dvar 0) (.lit 0) (.lit 0)) (.lit 0)))],[],1024⟩
theorem RB:dT R0 0 [] [] (ba paT1.l) (aA b0 paT1.o paT1.nx) paZ.l paZ.o paZ.nx=some WX:=by kernel_rfl
def conPart:Con:=XQ 41 12
theorem tU:conPart.Sound F0 P bh b0 R0:=by refine cE (fn:=Tryz.f41) (code:=Yl) Tryz.func41 (by rfl) (by kernel_rfl) rfl rfl rfl fun v hF hpre=> ?_;refine⟨.ret,paZ.l,paZ.o,paZ.nx,_,_,.inl rfl,?_,by rfl,rfl⟩;have h:=PX.ret (RC (J:=fun _=>True)) (s:=[.int (@Sx.dat v (D 0)).toI]) trivial (Ot (J:=fun _=>True) (cores:=[]) (fun _ _ _ h=>by cases h) (fun _ _=>aW) (by kernel_rfl) (by kernel_rfl) trivial);refine HT.pre (bP _) (aT (v:=v) (v':=VL F0 [.int (@Sx.dat v (D 0)).toI]) az RA (ag rfl aK)) (HT.retell (bP _) h (aV (v':=v) az RB (ag (Ty ?_) aK)));show _=(v.fn 12 _ _ _).toI;rw[hF,OQ];rfl
abbrev kn:Sh:=.slc [.str]
def OS(x y:Sx):Ob:=.opq 2 0 gid kn x y [] 9
def LO(y:Sx):AV:=.opq 2 1024 0 kn (.lit 0) y
theorem Ng:∀c∈([]:List Con),c.Sound F0 P bh b0 R0:=qk
theorem JO:∀c∈([]:List HCon),c.Sound F0 P bh b0 R0:=cQ
def Yp:Code:=match Tryz.f43.body with
 |some c=>c
 |none=>.skip
def kkA:Tl:=⟨[],[],1024⟩
abbrev sC:List (Nat×Ob):=[(1024,.opq 2 0 1023 kn (.dvar 0) (.dvar 1) [] 9)]
abbrev DA:AV:=.opq 2 1024 0 kn (.lit 0) (.dvar 1)
def kkT1:Tl:=⟨[(0,DA)],sC,1025⟩
def YT:Nat→Tl:=fun w=>match w with
 |1=>kkT1
 |_=>kkA
theorem Sl{J:List Dat→Prop}:PX P bh b0 R0 0 0 2 F0 J Yp kkA kkA YT (kk0.tr F0 2):=
 PX.tree (pins:=[]) az (by decide) follows (cons:=[]) Ng (ak:=[]) JO (cores:=[]) (fun _ _ _ h=>by cases h) (inv:=[]) (fun _ _=>aW) (by kernel_rfl)
theorem Sj:eB R0 0 [] (ba kkA.l) (aA b0 kkA.o kkA.nx) kkA.l kkA.o kkA.nx=some Xc:=by kernel_rfl
abbrev BS:AV:=.opq 2 1024 0 kn (.lit 0) (.lit 1)
def kkZ:Tl:=⟨[(0,BS)],[(1024,.opq 2 0 1023 kn (.ap 1 (.lit 0) (.lit 0) (.lit 0)) (.lit 1) [] 9)],1025⟩
theorem Sk:dT R0 0 [⟨1024,1024,0,0,0⟩] [] (ba kkT1.l) (aA b0 kkT1.o kkT1.nx) kkZ.l kkZ.o kkZ.nx=some Xb:=by kernel_rfl
def conKeys:Con:={f:=43,args:=[],pre:=[],res:=LO (.lit 1),objs:=[OS sS (.lit 1)]}
theorem C9:conKeys.Sound F0 P bh b0 R0:=by refine vS (fn:=Tryz.f43) (code:=Yp) Tryz.func43 (by rfl) (by kernel_rfl) (by kernel_rfl) fun v hF hpre=> ?_;refine⟨.ret,kkZ.l,_,_,.inl rfl,?_,by rfl,rfl⟩;have h:=PX.ret (Sl (J:=fun _=>True)) (s:=[]) trivial (Ot (J:=fun _=>True) (cores:=[]) (fun _ _ _ h=>by cases h) (fun _ _=>aW) (by kernel_rfl) (by kernel_rfl) trivial);refine HT.pre (bP _) (aT (v:=v) (v':=VL F0 []) az Sj aK) (HT.retell (bP _) h (aV (v':=v) az Sk (ag rfl (ag ?_ (ag rfl aK)))));show _=v.fn 1 _ _ _;rw[hF,X2];rfl
theorem LC:∀c∈([]:List Con),c.Sound F0 P bh b0 R0:=qk
theorem G7:∀c∈([]:List HCon),c.Sound F0 P bh b0 R0:=cQ
def Yf:Code:=match Tryz.f49.body with
 |some c=>c
 |none=>.skip
def ssA:Tl:=⟨[],[],1024⟩
def ssT1:Tl:=⟨[(0,DA)],sC,1025⟩
def YE:Nat→Tl:=fun w=>match w with
 |1=>ssT1
 |_=>ssA
theorem O6{J:List Dat→Prop}:PX P bh b0 R0 0 0 2 F0 J Yf ssA ssA YE (ss0.tr F0 2):=
 PX.tree (pins:=[]) az (by decide) follows (cons:=[]) LC (ak:=[]) G7 (cores:=[]) (fun _ _ _ h=>by cases h) (inv:=[]) (fun _ _=>aW) (by kernel_rfl)
theorem O4:eB R0 0 [] (ba ssA.l) (aA b0 ssA.o ssA.nx) ssA.l ssA.o ssA.nx=some Wf:=by kernel_rfl
def ssZ:Tl:=⟨[(0,BS)],[(1024,.opq 2 0 1023 kn (.ap 2 (.lit 0) (.lit 0) (.lit 0)) (.lit 1) [] 9)],1025⟩
theorem O5:dT R0 0 [⟨1024,1024,0,0,0⟩] [] (ba ssT1.l) (aA b0 ssT1.o ssT1.nx) ssZ.l ssZ.o ssZ.nx=some We:=by kernel_rfl
def conSigns:Con:={f:=49,args:=[],pre:=[],res:=LO (.lit 1),objs:=[OS w8 (.lit 1)]}
theorem AB:conSigns.Sound F0 P bh b0 R0:=by refine vS (fn:=Tryz.f49) (code:=Yf) Tryz.func49 (by rfl) (by kernel_rfl) (by kernel_rfl) fun v hF hpre=> ?_;refine⟨.ret,ssZ.l,_,_,.inl rfl,?_,by rfl,rfl⟩;have h:=PX.ret (O6 (J:=fun _=>True)) (s:=[]) trivial (Ot (J:=fun _=>True) (cores:=[]) (fun _ _ _ h=>by cases h) (fun _ _=>aW) (by kernel_rfl) (by kernel_rfl) trivial);refine HT.pre (bP _) (aT (v:=v) (v':=VL F0 []) az O4 aK) (HT.retell (bP _) h (aV (v':=v) az O5 (ag rfl (ag ?_ (ag rfl aK)))));show _=v.fn 2 _ _ _;rw[hF,X1];rfl
end
end Go.Proofs.YtbfonficacphkaaGreatDoor
