/-
  A part of the law's proof over the abstract evaluator. Conditions: those of each theorem, as it states them.
-/
import Derived.Test.YtkklcbfbjfhacaaGreatDoorS1
import Derived.Test.YtkklcbfbjfhacaaGreatDoorL1
set_option linter.all false
set_option linter.all false
namespace Go.Proofs.YtkklcbfbjfhacaaGreatDoor
open Go.Tw Go.Tw.LX
noncomputable section
theorem di_cons:∀c∈([]:List Con),c.Sound F0 P gl0 b0 R0:=nocon
theorem di_hcons:∀c∈([]:List HCon),c.Sound F0 P gl0 b0 R0:=nohcon
def cdi:Code:=match Tryz.f29.body with
 |some c=>c
 |none=>.skip
def diA:Tl:=⟨[(0,.sym .u8 (.dvar 0))],[],1024⟩
def diT1:Tl:=⟨[(2,.symb (.cmp .neq (.dvar 0) (.lit 0)))],[],1024⟩
def diT:Nat→Tl:=fun w=>match w with
 |1=>diT1
 |_=>diA
theorem di0_px{J:List Dat→Prop}:PX P gl0 b0 R0 0 0 9 F0 J cdi diA diA diT (di0.tr F0 1):=
 PX.tree (pins:=[]) base0 (by decide) follows (cons:=[]) di_cons (hcons:=[]) di_hcons (cores:=[]) (fun _ _ _ h=>by cases h) (inv:=[]) (fun _ _=>hnil) (by kernel_rfl)
theorem di_ini:dQ R0 0 [] (aR diA.l) (ao b0 diA.o diA.nx) diA.l diA.o diA.nx=some diE0:=by kernel_rfl
def diZ:Tl:=⟨[(2,.symb (.cmp .neq (.ap 8 (.dvar 0) (.lit 0) (.lit 0)) (.lit 0)))],[],1024⟩
theorem di_fin:dD R0 0 [] [] (aR diT1.l) (ao b0 diT1.o diT1.nx) diZ.l diZ.o diZ.nx=some diE1:=by kernel_rfl
def conDigit:Con:=byC 29 8
theorem conDigit_ok:conDigit.Sound F0 P gl0 b0 R0:=by refine cg (fn:=Tryz.f29) (code:=cdi) Tryz.func29 (by rfl) (by kernel_rfl) rfl rfl rfl fun v hF hpre=> ?_;refine⟨.ret,diZ.l,diZ.o,diZ.nx,_,_,.inl rfl,?_,by rfl,rfl⟩;have h:=PX.ret (di0_px (J:=fun _=>True)) (s:=[.int (@Sx.dat v (D 0)).toI]) trivial (fl1 (J:=fun _=>True) (cores:=[]) (fun _ _ _ h=>by cases h) (fun _ _=>hnil) (by kernel_rfl) (by kernel_rfl) trivial);refine HT.pre (bQ _) (aN (v:=v) (v':=VL F0 [.int (@Sx.dat v (D 0)).toI]) base0 di_ini (eqs_cons rfl eqs_nil)) (HT.retell (bQ _) h (aP (v':=v) base0 di_fin (eqs_cons (b2d ?_) eqs_nil)));show _=(v.fn 8 _ _ _).toI;rw[hF,F0_8];rfl
theorem pa_cons:∀c∈[conLetter,conDigit],c.Sound F0 P gl0 b0 R0:=conC conLetter_ok (con1 conDigit_ok)
theorem pa_hcons:∀c∈([]:List HCon),c.Sound F0 P gl0 b0 R0:=nohcon
def cpa:Code:=match Tryz.f54.body with
 |some c=>c
 |none=>.skip
def paA:Tl:=⟨[(0,.sym .u8 (.dvar 0))],[],1024⟩
def paT1:Tl:=⟨[(2,.symb (.cmp .neq (.dvar 0) (.lit 0)))],[],1024⟩
def paT:Nat→Tl:=fun w=>match w with
 |1=>paT1
 |_=>paA
theorem pa0_px{J:List Dat→Prop}:PX P gl0 b0 R0 0 0 9 F0 J cpa paA paA paT (pa0.tr F0 1):=
 PX.tree (pins:=[]) base0 (by decide) follows (cons:=[conLetter,conDigit]) pa_cons (hcons:=[]) pa_hcons (cores:=[]) (fun _ _ _ h=>by cases h) (inv:=[]) (fun _ _=>hnil) (by kernel_rfl)
theorem pa_ini:dQ R0 0 [] (aR paA.l) (ao b0 paA.o paA.nx) paA.l paA.o paA.nx=some paE0:=by kernel_rfl
def paZ:Tl:=⟨[(2,.symb (.cmp .neq (.ap 12 (.dvar 0) (.lit 0) (.lit 0)) (.lit 0)))],[],1024⟩
theorem pa_fin:dD R0 0 [] [] (aR paT1.l) (ao b0 paT1.o paT1.nx) paZ.l paZ.o paZ.nx=some paE1:=by kernel_rfl
def conPart:Con:=byC 54 12
theorem conPart_ok:conPart.Sound F0 P gl0 b0 R0:=by refine cg (fn:=Tryz.f54) (code:=cpa) Tryz.func54 (by rfl) (by kernel_rfl) rfl rfl rfl fun v hF hpre=> ?_;refine⟨.ret,paZ.l,paZ.o,paZ.nx,_,_,.inl rfl,?_,by rfl,rfl⟩;have h:=PX.ret (pa0_px (J:=fun _=>True)) (s:=[.int (@Sx.dat v (D 0)).toI]) trivial (fl1 (J:=fun _=>True) (cores:=[]) (fun _ _ _ h=>by cases h) (fun _ _=>hnil) (by kernel_rfl) (by kernel_rfl) trivial);refine HT.pre (bQ _) (aN (v:=v) (v':=VL F0 [.int (@Sx.dat v (D 0)).toI]) base0 pa_ini (eqs_cons rfl eqs_nil)) (HT.retell (bQ _) h (aP (v':=v) base0 pa_fin (eqs_cons (b2d ?_) eqs_nil)));show _=(v.fn 12 _ _ _).toI;rw[hF,F0_12];rfl
def OS(x y:Sx):Ob:=.opq 2 0 gid (.slc [.str]) x y [] 9
def LO(y:Sx):AV:=.opq 2 1024 0 (.slc [.str]) (.lit 0) y
theorem kk_cons:∀c∈([]:List Con),c.Sound F0 P gl0 b0 R0:=nocon
theorem kk_hcons:∀c∈([]:List HCon),c.Sound F0 P gl0 b0 R0:=nohcon
def ckk:Code:=match Tryz.f22.body with
 |some c=>c
 |none=>.skip
def kkA:Tl:=⟨[],[],1024⟩
def kkT1:Tl:=⟨[(0,.opq 2 1024 0 (.slc [.str]) (.lit 0) (.dvar 1))],[(1024,.opq 2 0 1023 (.slc [.str]) (.dvar 0) (.dvar 1) [] 9)],1025⟩
def kkT:Nat→Tl:=fun w=>match w with
 |1=>kkT1
 |_=>kkA
theorem kk0_px{J:List Dat→Prop}:PX P gl0 b0 R0 0 0 2 F0 J ckk kkA kkA kkT (kk0.tr F0 2):=
 PX.tree (pins:=[]) base0 (by decide) follows (cons:=[]) kk_cons (hcons:=[]) kk_hcons (cores:=[]) (fun _ _ _ h=>by cases h) (inv:=[]) (fun _ _=>hnil) (by kernel_rfl)
theorem kk_ini:dQ R0 0 [] (aR kkA.l) (ao b0 kkA.o kkA.nx) kkA.l kkA.o kkA.nx=some kkE0:=by kernel_rfl
def kkZ:Tl:=⟨[(0,.opq 2 1024 0 (.slc [.str]) (.lit 0) (.lit 1))],[(1024,.opq 2 0 1023 (.slc [.str]) (.ap 1 (.lit 0) (.lit 0) (.lit 0)) (.lit 1) [] 9)],1025⟩
theorem kk_fin:dD R0 0 [⟨1024,1024,0,0,0⟩] [] (aR kkT1.l) (ao b0 kkT1.o kkT1.nx) kkZ.l kkZ.o kkZ.nx=some kkE1:=by kernel_rfl
def conKeys:Con:={f:=22,args:=[],pre:=[],res:=LO (.lit 1),objs:=[OS (.ap 1 (I 0) (I 0) (I 0)) (.lit 1)]}
theorem conKeys_ok:conKeys.Sound F0 P gl0 b0 R0:=by refine po (fn:=Tryz.f22) (code:=ckk) Tryz.func22 (by rfl) (by kernel_rfl) (by kernel_rfl) fun v hF hpre=> ?_;refine⟨.ret,kkZ.l,_,_,.inl rfl,?_,by rfl,rfl⟩;have h:=PX.ret (kk0_px (J:=fun _=>True)) (s:=[]) trivial (fl1 (J:=fun _=>True) (cores:=[]) (fun _ _ _ h=>by cases h) (fun _ _=>hnil) (by kernel_rfl) (by kernel_rfl) trivial);refine HT.pre (bQ _) (aN (v:=v) (v':=VL F0 []) base0 kk_ini eqs_nil) (HT.retell (bQ _) h (aP (v':=v) base0 kk_fin (eqs_cons rfl (eqs_cons ?_ (eqs_cons rfl eqs_nil)))));show _=v.fn 1 _ _ _;rw[hF,F0_1];rfl
theorem ss_cons:∀c∈([]:List Con),c.Sound F0 P gl0 b0 R0:=nocon
theorem ss_hcons:∀c∈([]:List HCon),c.Sound F0 P gl0 b0 R0:=nohcon
def css:Code:=match Tryz.f19.body with
 |some c=>c
 |none=>.skip
def ssA:Tl:=⟨[],[],1024⟩
def ssT1:Tl:=⟨[(0,.opq 2 1024 0 (.slc [.str]) (.lit 0) (.dvar 1))],[(1024,.opq 2 0 1023 (.slc [.str]) (.dvar 0) (.dvar 1) [] 9)],1025⟩
def ssT:Nat→Tl:=fun w=>match w with
 |1=>ssT1
 |_=>ssA
theorem ss0_px{J:List Dat→Prop}:PX P gl0 b0 R0 0 0 2 F0 J css ssA ssA ssT (ss0.tr F0 2):=
 PX.tree (pins:=[]) base0 (by decide) follows (cons:=[]) ss_cons (hcons:=[]) ss_hcons (cores:=[]) (fun _ _ _ h=>by cases h) (inv:=[]) (fun _ _=>hnil) (by kernel_rfl)
theorem ss_ini:dQ R0 0 [] (aR ssA.l) (ao b0 ssA.o ssA.nx) ssA.l ssA.o ssA.nx=some ssE0:=by kernel_rfl
def ssZ:Tl:=⟨[(0,.opq 2 1024 0 (.slc [.str]) (.lit 0) (.lit 1))],[(1024,.opq 2 0 1023 (.slc [.str]) (.ap 2 (.lit 0) (.lit 0) (.lit 0)) (.lit 1) [] 9)],1025⟩
theorem ss_fin:dD R0 0 [⟨1024,1024,0,0,0⟩] [] (aR ssT1.l) (ao b0 ssT1.o ssT1.nx) ssZ.l ssZ.o ssZ.nx=some ssE1:=by kernel_rfl
def conSigns:Con:={f:=19,args:=[],pre:=[],res:=LO (.lit 1),objs:=[OS (.ap 2 (I 0) (I 0) (I 0)) (.lit 1)]}
theorem conSigns_ok:conSigns.Sound F0 P gl0 b0 R0:=by refine po (fn:=Tryz.f19) (code:=css) Tryz.func19 (by rfl) (by kernel_rfl) (by kernel_rfl) fun v hF hpre=> ?_;refine⟨.ret,ssZ.l,_,_,.inl rfl,?_,by rfl,rfl⟩;have h:=PX.ret (ss0_px (J:=fun _=>True)) (s:=[]) trivial (fl1 (J:=fun _=>True) (cores:=[]) (fun _ _ _ h=>by cases h) (fun _ _=>hnil) (by kernel_rfl) (by kernel_rfl) trivial);refine HT.pre (bQ _) (aN (v:=v) (v':=VL F0 []) base0 ss_ini eqs_nil) (HT.retell (bQ _) h (aP (v':=v) base0 ss_fin (eqs_cons rfl (eqs_cons ?_ (eqs_cons rfl eqs_nil)))));show _=v.fn 2 _ _ _;rw[hF,F0_2];rfl
end
end Go.Proofs.YtkklcbfbjfhacaaGreatDoor
