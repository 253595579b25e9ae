/-
  A part of the law's proof over the abstract evaluator. Conditions: those of each theorem, as it states them.
-/
import Derived.Test.YtkklcbfbjfhacaaGreatDoorS2
import Derived.Test.YtkklcbfbjfhacaaGreatDoorH1
import Derived.Test.YtkklcbfbjfhacaaGreatDoorL1
set_option linter.all false
set_option linter.all false
namespace Go.Proofs.YtkklcbfbjfhacaaGreatDoor
open Go.Tw Go.Tw.LX
noncomputable section
theorem ix_cons:∀c∈([]:List Con),c.Sound F0 P gl0 b0 R0:=nocon
theorem ix_hcons:∀c∈([]:List HCon),c.Sound F0 P gl0 b0 R0:=nohcon
def cix:Code:=match Tryz.f39.body with
 |some c=>c
 |none=>.skip
def ixA:Tl:=⟨[(0,.opq 2 1024 0 (.slc [.str]) (.lit 0) (.dvar 2)),(1,.vstr (.dvar 1))],[(1024,.opq 2 0 1023 (.slc [.str]) (.dvar 0) (.dvar 2) [] 9)],1025⟩
def ixpins:List RE:=[⟨1024,1024,0,0,0⟩]
def ixT1:Tl:=⟨[(4,.sym .i64 (.dvar 2))],[(1024,.opq 2 0 1023 (.slc [.str]) (.dvar 0) (.dvar 1) [] 9)],1025⟩
def ixT2:Tl:=⟨[],[(1024,.opq 2 0 1023 (.slc [.str]) (.dvar 0) (.dvar 1) [] 9)],1025⟩
def ixT:Nat→Tl:=fun w=>match w with
 |1=>ixT1
 |2=>ixT2
 |_=>ixA
def ixB0:Tl:=⟨[(0,.opq 2 1024 0 (.slc [.str]) (.lit 0) (.dvar 1)),(1,.vstr (.dvar 2))],[(1024,.opq 2 0 1023 (.slc [.str]) (.dvar 0) (.dvar 1) [] 9)],1025⟩
theorem ix0_px{J:List Dat→Prop}:PX P gl0 b0 R0 0 1048576 19 F0 J (cl cix) ixA ixB0 ixT (ix0.tr F0 3):=
 PX.tree (pins:=ixpins) base0 (by decide) follows (cons:=[]) ix_cons (hcons:=[]) ix_hcons (cores:=[]) (fun _ _ _ h=>by cases h) (inv:=[]) (fun _ _=>hnil) (by kernel_rfl)
def ixB1:Tl:=⟨[(0,.opq 2 1024 0 (.slc [.str]) (.lit 0) (.dvar 1)),(1,.vstr (.dvar 2)),(7,.sym .i64 (.pr 7 (.dvar 0) (.lit 0))),(8,.sym .i64 (.dvar 3))],[(1024,.opq 2 0 1023 (.slc [.str]) (.dvar 0) (.dvar 1) [] 9)],1025⟩
theorem ix1_px{J:List Dat→Prop}:PX P gl0 b0 R0 0 1048576 19 F0 J (cl (cl (cr cix))) ixB0 ixB1 ixT (ix1.tr F0 4):=
 PX.tree (pins:=ixpins) base0 (by decide) follows (cons:=[]) ix_cons (hcons:=[]) ix_hcons (cores:=[]) (fun _ _ _ h=>by cases h) (inv:=[]) (fun _ _=>hnil) (by kernel_rfl)
theorem ix3_px{J:List Dat→Prop}(hinv:∀s,J s→@Holds (VL F0 s) ix3v):PX P gl0 b0 R0 0 1048576 19 F0 J (cl (cl (cr (cl (cr cix))))) ixB1 ixB1 ixT (ix3.tr F0 4):=
 PX.tree (pins:=ixpins) base0 (by decide) follows (cons:=[]) ix_cons (hcons:=[]) ix_hcons (cores:=[]) (fun _ _ _ h=>by cases h) (inv:=ix3v) hinv (by kernel_rfl)
def ixB4:Tl:=⟨[],[(1024,.opq 2 0 1023 (.slc [.str]) (.dvar 0) (.dvar 1) [] 9)],1025⟩
theorem ix5_px{J:List Dat→Prop}:PX P gl0 b0 R0 0 1048576 19 F0 J (cr (cr cix)) ixB4 ixB4 ixT (ix5.tr F0 3):=
 PX.tree (pins:=ixpins) base0 (by decide) follows (cons:=[]) ix_cons (hcons:=[]) ix_hcons (cores:=[]) (fun _ _ _ h=>by cases h) (inv:=[]) (fun _ _=>hnil) (by kernel_rfl)
theorem ix_ini:dQ R0 1048576 [⟨1024,1024,0,0,0⟩] (aR ixA.l) (ao b0 ixA.o ixA.nx) ixA.l ixA.o ixA.nx=some ixE0:=by kernel_rfl
def ixZ:Tl:=⟨[(4,.sym .i64 (.ap 9 (.dvar 0) (.dvar 1) (.dvar 2)))],[(1024,.opq 2 0 1023 (.slc [.str]) (.dvar 0) (.dvar 2) [] 9)],1025⟩
theorem ix_fin:dD R0 1048576 [⟨1024,1024,0,0,0⟩] [] (aR ixT1.l) (ao b0 ixT1.o ixT1.nx) ixZ.l ixZ.o ixZ.nx=some ixE1:=by kernel_rfl
theorem ix_eq:cix=(.seq (cl cix) (.seq (.seq (cl (cl (cr cix))) (.block 0 (.loop (cl (cl (cr (cl (cr cix)))))))) (cr (cr cix)))):=by kernel_rfl
def hcIdx:HCon:={f:=39,args:=[LO (D 2),VS 1],pre:=[(lt (.pr 7 (D 0) (I 0)) (I 1000000001),true)],nr:=0,np:=0,ns:=1,locs:=[⟨none,[0]⟩],ins:=[(1024,OS (D 0) (D 2))],v:=.sym .i64 (A3 9 (D 0) (D 1) (D 2)),outs:=[(1024,OS (D 0) (D 2))],nx:=1025}
def At(s0:List Dat)(s:List Dat):Prop:=s=s0
theorem at_go{f:fA}{s0 s1:List Dat}(h:f s0=(0,s1)):∀s,At s0 s→(f s).1=0→At s1 (f s).2:=fun s hs _=>by have hs:s=s0:=hs;subst hs;rw[h];rfl
theorem ix_px{l x y:Dat}(hl:l.toL.length<1000000001):PX P gl0 b0 R0 0 1048576 19 F0 (At [l,x,y]) cix ixA ixB4 ixT (spIx F0):=by
 rw[ix_eq];exact PX.seq (J2:=At [l,y,x]) (by decide) ix0_px (at_go rfl) (PX.seq (J2:=fun _=>True) (by decide)
  (PX.seq (J2:=JIx) (by decide) ix1_px (fun s hs _=>by have hs:s=[l,y,x]:=hs;subst hs;exact⟨l,y,x,0,rfl,Int.le_refl _,hl⟩) (PX.block (PX.loopM (by decide) (ix3_px ix3_inv) ix_mea) rfl)) (fun _ _ _=>trivial) ix5_px)
theorem hcIdx_ok:hcIdx.Sound F0 P gl0 b0 R0:=by
 refine dq (fn:=Tryz.f39) (code:=cix) Tryz.func39 (by rfl) (by kernel_rfl) (by kernel_rfl) (by kernel_rfl) fun v hF hpre=> ?_;refine⟨.ret,ixZ.l,_,_,.inl rfl,?_,by rfl,rfl⟩;obtain⟨s,hs⟩:∃s,s=[@Sx.dat v (D 0),@Sx.dat v (D 1),@Sx.dat v (D 2)]:=⟨_,rfl⟩;have hl:(@Sx.dat v (D 0)).toL.length<1000000001:=by have k:=ltT' (hget hpre).1;rw[sI,show(Sx.pr 7 (D 0) (I 0))=cL (D 0)from rfl,sL]at k;omega
 obtain⟨i,z,e⟩:=ix_sp (x:=@Sx.dat v (D 1)) (y:=@Sx.dat v (D 2)) hl;have h:=PX.ret (ix_px hl) (s:=[@Sx.dat v (D 0),@Sx.dat v (D 1),@Sx.dat v (D 2)]) rfl (by rw[e]);have h9:v.fn 9 (@Sx.dat v (D 0)) (@Sx.dat v (D 1)) (@Sx.dat v (D 2))=.int i:=by rw[hF,F0_9,e];rfl
 rw[e]at h;refine HT.pre (bQ _) (aN (v:=v) (v':=VL F0 [@Sx.dat v (D 0),@Sx.dat v (D 1),@Sx.dat v (D 2)]) base0 ix_ini (eqs_cons rfl (eqs_cons rfl (eqs_cons rfl (eqs_cons rfl eqs_nil)))))
  (HT.retell (bQ _) h (aP (v':=v) base0 ix_fin (eqs_cons (numI ?_) (eqs_cons rfl (eqs_cons rfl eqs_nil)))))
 show i=(v.fn 9 (@Sx.dat v (D 0)) (@Sx.dat v (D 1)) (@Sx.dat v (D 2))).toI;rw[h9];rfl
theorem ky_cons:∀c∈[conKeys],c.Sound F0 P gl0 b0 R0:=con1 conKeys_ok
theorem ky_hcons:∀c∈[hcIdx],c.Sound F0 P gl0 b0 R0:=hconC hcIdx_ok nohcon
def cky:Code:=match Tryz.f13.body with
 |some c=>c
 |none=>.skip
def kyA:Tl:=⟨[(0,.vstr (.dvar 0))],[],1024⟩
def kyT1:Tl:=⟨[(2,.symb (.cmp .neq (.dvar 0) (.lit 0)))],[],1024⟩
def kyT:Nat→Tl:=fun w=>match w with
 |1=>kyT1
 |_=>kyA
theorem ky0_px{J:List Dat→Prop}(hco:∀s,J s→∀q∈ky0c,¬@Holds (VL F0 s) q):PX P gl0 b0 R0 0 0 6 F0 J cky kyA kyA kyT (ky0.tr F0 1):=
 PX.tree (pins:=[]) base0 (by decide) follows (cons:=[conKeys]) ky_cons (hcons:=[hcIdx]) ky_hcons (cores:=ky0c) hco (inv:=[]) (fun _ _=>hnil) (by kernel_rfl)
theorem ky_ini:dQ R0 0 [] (aR kyA.l) (ao b0 kyA.o kyA.nx) kyA.l kyA.o kyA.nx=some kyE0:=by kernel_rfl
def kyZ:Tl:=⟨[(2,.symb (.cmp .neq (.ap 13 (.dvar 0) (.lit 0) (.lit 0)) (.lit 0)))],[],1024⟩
theorem ky_fin:dD R0 0 [] [] (aR kyT1.l) (ao b0 kyT1.o kyT1.nx) kyZ.l kyZ.o kyZ.nx=some kyE1:=by kernel_rfl
def conKey:Con:={f:=13,args:=[VS 0],pre:=[],res:=.symb (.cmp .neq (A1 13 (D 0)) (.lit 0)),objs:=[]}
theorem conKey_ok:conKey.Sound F0 P gl0 b0 R0:=by refine cg (fn:=Tryz.f13) (code:=cky) Tryz.func13 (by rfl) (by kernel_rfl) rfl rfl rfl fun v hF hpre=> ?_;refine⟨.ret,kyZ.l,kyZ.o,kyZ.nx,_,_,.inl rfl,?_,by rfl,rfl⟩;have h:=PX.ret (ky0_px (J:=fun _=>True) (fun s _=>ky0_co s)) (s:=[@Sx.dat v (D 0)]) trivial (fl1 (J:=fun _=>True) (fun s _=>ky0_co s) (fun _ _=>hnil) (by kernel_rfl) (by kernel_rfl) trivial);refine HT.pre (bQ _) (aN (v:=v) (v':=VL F0 [@Sx.dat v (D 0)]) base0 ky_ini (eqs_cons rfl eqs_nil)) (HT.retell (bQ _) h (aP (v':=v) base0 ky_fin (eqs_cons (b2d ?_) eqs_nil)));rw[dAtL,show @Sx.dat v (.ap 13 (D 0) (I 0) (I 0))=v.fn 13 (@Sx.dat v (D 0)) (.int 0) (.int 0)from rfl,hF,f13',tI]
theorem sg_cons:∀c∈[conSigns],c.Sound F0 P gl0 b0 R0:=con1 conSigns_ok
theorem sg_hcons:∀c∈([]:List HCon),c.Sound F0 P gl0 b0 R0:=nohcon
def csg:Code:=match Tryz.f12.body with
 |some c=>c
 |none=>.skip
def sgA:Tl:=⟨[(0,.vstr (.dvar 0))],[],1024⟩
def sgT1:Tl:=⟨[(2,.sym .i64 (.dvar 0))],[],1024⟩
def sgT2:Tl:=⟨[],[],1024⟩
def sgT:Nat→Tl:=fun w=>match w with
 |1=>sgT1
 |2=>sgT2
 |_=>sgA
def sgB0:Tl:=⟨[(0,.vstr (.dvar 0))],[],1024⟩
theorem sg0_px{J:List Dat→Prop}:PX P gl0 b0 R0 0 0 17 F0 J (cl csg) sgA sgB0 sgT (sg0.tr F0 1):=
 PX.tree (pins:=[]) base0 (by decide) follows (cons:=[conSigns]) sg_cons (hcons:=[]) sg_hcons (cores:=[]) (fun _ _ _ h=>by cases h) (inv:=[]) (fun _ _=>hnil) (by kernel_rfl)
def sgB1:Tl:=⟨[(0,.vstr (.dvar 0)),(5,.opq 2 1024 0 (.slc [.str]) (.lit 0) (.lit 1)),(6,.sym .i64 (.dvar 2)),(7,.sym .i64 (.dvar 3))],[(1024,.opq 2 0 1023 (.slc [.str]) (.dvar 1) (.lit 1) [] 9)],1025⟩
theorem sg1_px{J:List Dat→Prop}:PX P gl0 b0 R0 0 0 17 F0 J (cl (cl (cr csg))) sgB0 sgB1 sgT (sg1.tr F0 4):=
 PX.tree (pins:=[]) base0 (by decide) follows (cons:=[conSigns]) sg_cons (hcons:=[]) sg_hcons (cores:=[]) (fun _ _ _ h=>by cases h) (inv:=[]) (fun _ _=>hnil) (by kernel_rfl)
theorem sg3_px{J:List Dat→Prop}(hco:∀s,J s→∀q∈sg3c,¬@Holds (VL F0 s) q)(hinv:∀s,J s→@Holds (VL F0 s) sg3v):PX P gl0 b0 R0 0 0 17 F0 J (cl (cl (cr (cl (cr csg))))) sgB1 sgB1 sgT (sg3.tr F0 4):=
 PX.tree (pins:=[]) base0 (by decide) follows (cons:=[conSigns]) sg_cons (hcons:=[]) sg_hcons (cores:=sg3c) hco (inv:=sg3v) hinv (by kernel_rfl)
def sgB4:Tl:=⟨[],[],1024⟩
theorem sg5_px{J:List Dat→Prop}:PX P gl0 b0 R0 0 0 17 F0 J (cr (cr csg)) sgB4 sgB4 sgT (sg5.tr F0 1):=
 PX.tree (pins:=[]) base0 (by decide) follows (cons:=[conSigns]) sg_cons (hcons:=[]) sg_hcons (cores:=[]) (fun _ _ _ h=>by cases h) (inv:=[]) (fun _ _=>hnil) (by kernel_rfl)
theorem sg_ini:dQ R0 0 [] (aR sgA.l) (ao b0 sgA.o sgA.nx) sgA.l sgA.o sgA.nx=some sgE0:=by kernel_rfl
def sgZ:Tl:=⟨[(2,.sym .i64 (.ap 14 (.dvar 0) (.lit 0) (.lit 0)))],[],1024⟩
theorem sg_fin:dD R0 0 [] [] (aR sgT1.l) (ao b0 sgT1.o sgT1.nx) sgZ.l sgZ.o sgZ.nx=some sgE1:=by kernel_rfl
theorem sg_eq:csg=(.seq (cl csg) (.seq (.seq (cl (cl (cr csg))) (.block 0 (.loop (cl (cl (cr (cl (cr csg)))))))) (cr (cr csg)))):=by kernel_rfl
def conSign:Con:={f:=12,args:=[VS 0],pre:=[],res:=.sym .i64 (A1 14 (D 0)),objs:=[]}
theorem sg_px{x:Dat}:PX P gl0 b0 R0 0 0 17 F0 (At [x]) csg sgA sgB4 sgT (spSg F0):=by
 rw[sg_eq];exact PX.seq (J2:=At [x]) (by decide) sg0_px (at_go rfl) (PX.seq (J2:=fun _=>True) (by decide)
  (PX.seq (J2:=JSg) (by decide) sg1_px (fun s hs _=>by have hs:s=[x]:=hs;subst hs;exact⟨x,sgns,0,rfl,Int.le_refl _,by rw[sgns_len];decide⟩) (PX.block (PX.loopM (by decide) (sg3_px sg3_co sg3_inv) sg_mea) rfl)) (fun _ _ _=>trivial) sg5_px)
theorem conSign_ok:conSign.Sound F0 P gl0 b0 R0:=by refine cg (fn:=Tryz.f12) (code:=csg) Tryz.func12 (by rfl) (by kernel_rfl) rfl rfl rfl fun v hF hpre=> ?_;refine⟨.ret,sgZ.l,sgZ.o,sgZ.nx,_,_,.inl rfl,?_,by rfl,rfl⟩;have h:=PX.ret (sg_px (x:=@Sx.dat v (D 0))) (s:=[@Sx.dat v (D 0)]) rfl (sg_sp _).1;refine HT.pre (bQ _) (aN (v:=v) (v':=VL F0 [@Sx.dat v (D 0)]) base0 sg_ini (eqs_cons rfl eqs_nil)) (HT.retell (bQ _) h (aP (v':=v) base0 sg_fin (eqs_cons (numI ?_) eqs_nil)));rw[dAtL,show @Sx.dat v (.ap 14 (D 0) (I 0) (I 0))=v.fn 14 (@Sx.dat v (D 0)) (.int 0) (.int 0)from rfl,hF,F0_14,tI]
def SP:AV:=.ptr 1024 0 0 3
def sbox(x y z:AV):Ob:=.box [x,y,z] 42
def sb0:Ob:=sbox (VS 0) (SI 1) (SI 2)
def ins:aY:=[(lt (D 3) (I 0),false),(lt (D 3) (ln (D 0)),true)]
theorem rn_cons:∀c∈[conPart],c.Sound F0 P gl0 b0 R0:=con1 conPart_ok
theorem rn_hcons:∀c∈([]:List HCon),c.Sound F0 P gl0 b0 R0:=nohcon
def crn:Code:=match Tryz.f42.body with
 |some c=>c
 |none=>.skip
def rnA:Tl:=⟨[(0,.ptr 1024 0 0 3),(1,.sym .i64 (.dvar 3))],[(1024,.box [.vstr (.dvar 0),.sym .i64 (.dvar 1),.sym .i64 (.dvar 2)] 42)],1025⟩
def rnpins:List RE:=[⟨1024,1024,0,0,0⟩]
def rnT2:Tl:=⟨[(0,.ptr 1024 0 0 3),(1,.sym .i64 (.dvar 3)),(5,.sym .i64 (.dvar 4))],[(1024,.box [.vstr (.dvar 0),.sym .i64 (.dvar 1),.sym .i64 (.dvar 2)] 42)],1025⟩
def rnT1:Tl:=⟨[(4,.vstr (.dvar 3))],[(1024,.box [.vstr (.dvar 0),.sym .i64 (.dvar 1),.sym .i64 (.dvar 2)] 42)],1025⟩
def rnT:Nat→Tl:=fun w=>match w with
 |2=>rnT2
 |1=>rnT1
 |_=>rnA
def rnB0:Tl:=⟨[(0,.ptr 1024 0 0 3),(1,.sym .i64 (.dvar 3))],[(1024,.box [.vstr (.dvar 0),.sym .i64 (.dvar 1),.sym .i64 (.dvar 2)] 42)],1025⟩
theorem rn0_px{J:List Dat→Prop}:PX P gl0 b0 R0 1 1 32 F0 J (cl crn) rnA rnB0 rnT (rn0.tr F0 4):=
 PX.tree (pins:=rnpins) base0 (by decide) follows (cons:=[conPart]) rn_cons (hcons:=[]) rn_hcons (cores:=[]) (fun _ _ _ h=>by cases h) (inv:=[]) (fun _ _=>hnil) (by kernel_rfl)
def rnB1:Tl:=⟨[(0,.ptr 1024 0 0 3),(1,.sym .i64 (.dvar 3)),(5,.sym .i64 (.dvar 4))],[(1024,.box [.vstr (.dvar 0),.sym .i64 (.dvar 1),.sym .i64 (.dvar 2)] 42)],1025⟩
theorem rn1_px{J:List Dat→Prop}:PX P gl0 b0 R0 1 1 32 F0 J (cl (cr crn)) rnB0 rnB1 rnT (rn1.tr F0 5):=
 PX.tree (pins:=rnpins) base0 (by decide) follows (cons:=[conPart]) rn_cons (hcons:=[]) rn_hcons (cores:=[]) (fun _ _ _ h=>by cases h) (inv:=[]) (fun _ _=>hnil) (by kernel_rfl)
theorem rn3_px{J:List Dat→Prop}(hinv:∀s,J s→@Holds (VL F0 s) rn3v):PX P gl0 b0 R0 1 1 32 F0 J (cl (cl (cl (cr (cr crn))))) rnB1 rnB1 rnT (rn3.tr F0 5):=
 PX.tree (pins:=rnpins) base0 (by decide) follows (cons:=[conPart]) rn_cons (hcons:=[]) rn_hcons (cores:=[]) (fun _ _ _ h=>by cases h) (inv:=rn3v) hinv (by kernel_rfl)
def rnB4:Tl:=⟨[(0,.ptr 1024 0 0 3),(1,.sym .i64 (.dvar 3)),(5,.sym .i64 (.dvar 4))],[(1024,.box [.vstr (.dvar 0),.sym .i64 (.dvar 1),.sym .i64 (.dvar 2)] 42)],1025⟩
theorem rn5_px{J:List Dat→Prop}(hinv:∀s,J s→@Holds (VL F0 s) rn5v):PX P gl0 b0 R0 1 1 32 F0 J (cr (cr (cr crn))) rnB4 rnB4 rnT (rn5.tr F0 4):=
 PX.tree (pins:=rnpins) base0 (by decide) follows (cons:=[conPart]) rn_cons (hcons:=[]) rn_hcons (cores:=[]) (fun _ _ _ h=>by cases h) (inv:=rn5v) hinv (by kernel_rfl)
theorem rn_ini:dQ R0 1 [⟨1024,1024,0,0,0⟩] (aR rnA.l) (ao b0 rnA.o rnA.nx) rnA.l rnA.o rnA.nx=some rnE0:=by kernel_rfl
def rnZ:Tl:=⟨[(4,.vstr (.ap 23 (.dvar 0) (.dvar 3) (.lit 0)))],[],1025⟩
theorem rn_fin:dD R0 1 [⟨1024,1024,0,0,0⟩] [] (aR rnT1.l) (ao b0 rnT1.o rnT1.nx) rnZ.l rnZ.o rnZ.nx=some rnE1:=by kernel_rfl
theorem rn_eq:crn=(.seq (cl crn) (.seq (cl (cr crn)) (.seq (.block 0 (.loop (cl (cl (cl (cr (cr crn))))))) (cr (cr (cr crn)))))):=by kernel_rfl
def hcRun:HCon:={f:=42,args:=[SP,SI 3],pre:=ins++[(lt (ln (D 0)) (I 1000000000),true)],nr:=1,np:=1,ns:=0,locs:=[⟨none,[0]⟩],ins:=[(1024,sb0)],v:=.vstr (A2 23 (D 0) (D 3)),outs:=[],nx:=1025}
theorem rn_px{d:Dat}{e ea:Int}{p:Nat}(hp:p≤d.toS.length)(hl:d.toS.length<1000000000):PX P gl0 b0 R0 1 1 32 F0 (At [d,.int e,.int ea,.int p]) crn rnA rnB4 rnT (spRn F0):=by
 rw[rn_eq];have hle:=tw_len parB (d.toS.drop p);rw[List.length_drop]at hle;exact PX.seq (J2:=At [d,.int e,.int ea,.int p]) (by decide) rn0_px (at_go rfl) (PX.seq (J2:=At [d,.int e,.int ea,.int p,.int p]) (by decide) rn1_px (at_go rfl)
  (PX.seq (J2:=JRn) (by decide) (PX.weak (PX.block (PX.loopM (by decide) (rn3_px rn3_inv) rn_mea) rfl) (fun s hs=>by have hs:s=[d,.int e,.int ea,.int p,.int p]:=hs;subst hs;exact⟨d,e,ea,p,p,rfl,by omega,by omega,by omega,hl⟩)) (fun s hs _=>by have hs:s=[d,.int e,.int ea,.int p,.int p]:=hs;subst hs;rw[unX_at (rn_lp (by omega) hl _ p (aw _) (by omega) hp)];exact⟨d,e,ea,p,_,rfl,by omega,by omega,by omega,hl⟩) (rn5_px rn5_inv)))
theorem hcRun_ok:hcRun.Sound F0 P gl0 b0 R0:=by
 refine dq (fn:=Tryz.f42) (code:=crn) Tryz.func42 (by rfl) (by kernel_rfl) (by kernel_rfl) (by kernel_rfl) fun v hF hpre=> ?_;refine⟨.ret,rnZ.l,_,_,.inl rfl,?_,by rfl,rfl⟩;have k1:=ltF' (hget hpre).1;have k2:=ltT' (hget (hget hpre).2).1;have k3:=ltT' (hget (hget (hget hpre).2).2).1;rw[sI]at k1 k3;rw[show(ln (D 0))=Sx.pr 0 (D 0) (.lit 0)from rfl,sLn]at k2 k3;obtain⟨p,hp⟩:∃p:Nat,@Sx.eval v (D 3)=p:=⟨(@Sx.eval v (D 3)).toNat,by omega⟩;obtain⟨d,hd⟩:∃d,d=@Sx.dat v (D 0):=⟨_,rfl⟩;rw[hp]at k2;rw[←hd]at k2 k3;have e:=rn_sp (d:=d) (e:=(@Sx.dat v (D 1)).toI) (ea:=(@Sx.dat v (D 2)).toI) (p:=p) (by omega) (by omega);have h:=PX.ret (rn_px (d:=d) (e:=(@Sx.dat v (D 1)).toI) (ea:=(@Sx.dat v (D 2)).toI) (p:=p) (by omega) (by omega)) (s:=[d,.int (@Sx.dat v (D 1)).toI,.int (@Sx.dat v (D 2)).toI,.int p]) rfl (by rw[e]);rw[e]at h;have hD3:(@Sx.dat v (D 3)).toI=p:=hp;refine HT.pre (by decide) (aN (v:=v) (v':=VL F0 [d,.int (@Sx.dat v (D 1)).toI,.int (@Sx.dat v (D 2)).toI,.int p]) base0 rn_ini (eqs_cons (numI hD3) (eqs_cons hd.symm (eqs_cons rfl (eqs_cons rfl eqs_nil)))))
  (HT.retell (by decide) h (aP (v':=v) base0 rn_fin (eqs_cons ?_ eqs_nil)))
 rw[show @Sx.dat v (.ap 23 (D 0) (D 3) (I 0))=v.fn 23 (@Sx.dat v (D 0)) (@Sx.dat v (D 3)) (.int 0)from rfl,hF,←hd,f23 (by omega) (by omega) hD3];rfl
end
end Go.Proofs.YtkklcbfbjfhacaaGreatDoor
set_option linter.all false
namespace Go.Proofs.YtkklcbfbjfhacaaGreatDoor
open Go.Tw Go.Tw.LX
noncomputable section
theorem sf_cons:∀c∈[conLow],c.Sound F0 P gl0 b0 R0:=con1 conLow_ok
theorem sf_hcons:∀c∈([]:List HCon),c.Sound F0 P gl0 b0 R0:=nohcon
def csf:Code:=match Tryz.f44.body with
 |some c=>c
 |none=>.skip
def sfA:Tl:=⟨[(0,.vstr (.dvar 0))],[],1024⟩
def sfT1:Tl:=⟨[(2,.vstr (.dvar 0)),(3,.symb (.cmp .neq (.dvar 1) (.lit 0)))],[],1024⟩
def sfT:Nat→Tl:=fun w=>match w with
 |1=>sfT1
 |_=>sfA
theorem sf0_px{J:List Dat→Prop}(hinv:∀s,J s→@Holds (VL F0 s) sf0v):PX P gl0 b0 R0 0 0 15 F0 J csf sfA sfA sfT (sf0.tr F0 2):=
 PX.tree (pins:=[]) base0 (by decide) follows (cons:=[conLow]) sf_cons (hcons:=[]) sf_hcons (cores:=[]) (fun _ _ _ h=>by cases h) (inv:=sf0v) hinv (by kernel_rfl)
theorem sf_ini:dQ R0 0 [] (aR sfA.l) (ao b0 sfA.o sfA.nx) sfA.l sfA.o sfA.nx=some sfE0:=by kernel_rfl
def sfZ:Tl:=⟨[(2,.vstr (.ap 18 (.dvar 0) (.lit 0) (.lit 0))),(3,.symb (.cmp .neq (.ap 19 (.dvar 0) (.lit 0) (.lit 0)) (.lit 0)))],[],1024⟩
theorem sf_fin:dD R0 0 [] [] (aR sfT1.l) (ao b0 sfT1.o sfT1.nx) sfZ.l sfZ.o sfZ.nx=some sfE1:=by kernel_rfl
def conSuf:Con:={f:=44,args:=[VS 0],pre:=[(lt (ln (D 0)) (I 1000000000),true),(eq (A1 5 (D 0)) (I 1),true)],res:=.tup [.vstr (A1 18 (D 0)),.symb (.cmp .neq (A1 19 (D 0)) (.lit 0))],objs:=[]}
theorem conSuf_ok:conSuf.Sound F0 P gl0 b0 R0:=by
 refine cg (fn:=Tryz.f44) (code:=csf) Tryz.func44 (by rfl) (by kernel_rfl) rfl rfl rfl fun v hF hpre=> ?_;refine⟨.ret,sfZ.l,sfZ.o,sfZ.nx,_,_,.inl rfl,?_,by rfl,rfl⟩;have hi:@Holds (VL F0 [@Sx.dat v (D 0)]) sf0v:=by have k1:=ltT' (hget hpre).1;have k2:=eqT' (hget (hget hpre).2).1;rw[show(ln (D 0))=Sx.pr 0 (D 0) (.lit 0)from rfl,sLn,sI]at k1;rw[sI,show @Sx.eval v (A1 5 (D 0))=(v.fn 5 (@Sx.dat v (D 0)) (.int 0) (.int 0)).toI from rfl,hF]at k2;exact hcons (ltT (by rw[sLn,sI,dD0];exact k1)) (hcons (eqT (by rw[sAp,sI,dD0];exact k2)) hnil)
 have h:=PX.ret (sf0_px (J:=At [@Sx.dat v (D 0)]) (fun s hs=>by have hs:s=[@Sx.dat v (D 0)]:=hs;subst hs;exact hi)) (s:=[@Sx.dat v (D 0)]) rfl (fl1 (J:=fun _=>True) (cores:=[]) (inv:=[]) (fun _ _ _ h=>by cases h) (fun _ _=>hnil) (by kernel_rfl) (by kernel_rfl) trivial);refine HT.pre (bQ _) (aN (v:=v) (v':=VL F0 [@Sx.dat v (D 0)]) base0 sf_ini (eqs_cons rfl eqs_nil)) (HT.retell (bQ _) h (aP (v':=v) base0 sf_fin (eqs_cons ?_ (eqs_cons (b2d ?_) eqs_nil))));{rw[dAtL,show @Sx.dat v (.ap 18 (D 0) (I 0) (I 0))=v.fn 18 (@Sx.dat v (D 0)) (.int 0) (.int 0)from rfl,hF,F0_18];unfold spSf;rfl};rw[dAtL,show @Sx.dat v (.ap 19 (D 0) (I 0) (I 0))=v.fn 19 (@Sx.dat v (D 0)) (.int 0) (.int 0)from rfl,hF,F0_19];unfold spSf;rw[tI]
theorem sp_cons:∀c∈[conTrim cut10,conTrim cut8,conTrim cut16],c.Sound F0 P gl0 b0 R0:=conC conTrim10_ok (conC conTrim8_ok (con1 conTrim16_ok))
theorem sp_hcons:∀c∈([]:List HCon),c.Sound F0 P gl0 b0 R0:=nohcon
def csp:Code:=match Tryz.f43.body with
 |some c=>c
 |none=>.skip
def spA:Tl:=⟨[(0,.vstr (.dvar 0))],[],1024⟩
def spT1:Tl:=⟨[(2,.sym .i64 (.dvar 0)),(3,.vstr (.dvar 1)),(4,.vstr (.dvar 2))],[],1024⟩
def spT:Nat→Tl:=fun w=>match w with
 |1=>spT1
 |_=>spA
theorem sp0_px{J:List Dat→Prop}(hco:∀s,J s→∀q∈sp0c,¬@Holds (VL F0 s) q)(hinv:∀s,J s→@Holds (VL F0 s) sp0v):PX P gl0 b0 R0 0 0 33 F0 J csp spA spA spT (sp0.tr F0 3):=
 PX.tree (pins:=[]) base0 (by decide) follows (cons:=[conTrim cut10,conTrim cut8,conTrim cut16]) sp_cons (hcons:=[]) sp_hcons (cores:=sp0c) hco (inv:=sp0v) hinv (by kernel_rfl)
theorem sp_ini:dQ R0 0 [] (aR spA.l) (ao b0 spA.o spA.nx) spA.l spA.o spA.nx=some spE0:=by kernel_rfl
def spZ:Tl:=⟨[(2,.sym .i64 (.ap 20 (.dvar 0) (.lit 0) (.lit 0))),(3,.vstr (.ap 21 (.dvar 0) (.lit 0) (.lit 0))),(4,.vstr (.ap 22 (.dvar 0) (.lit 0) (.lit 0)))],[],1024⟩
theorem sp_fin:dD R0 0 [] [] (aR spT1.l) (ao b0 spT1.o spT1.nx) spZ.l spZ.o spZ.nx=some spE1:=by kernel_rfl
def conSplit:Con:={f:=43,args:=[VS 0],pre:=[(lt (ln (D 0)) (I 1),false),(lt (ln (D 0)) (I 1000000000),true)],res:=.tup [.sym .i64 (A1 20 (D 0)),.vstr (A1 21 (D 0)),.vstr (A1 22 (D 0))],objs:=[]}
theorem conSplit_ok:conSplit.Sound F0 P gl0 b0 R0:=by
 refine cg (fn:=Tryz.f43) (code:=csp) Tryz.func43 (by rfl) (by kernel_rfl) rfl rfl rfl fun v hF hpre=> ?_;refine⟨.ret,spZ.l,spZ.o,spZ.nx,_,_,.inl rfl,?_,by rfl,rfl⟩;have k1:=ltF' (hget hpre).1;have k2:=ltT' (hget (hget hpre).2).1;rw[show(ln (D 0))=Sx.pr 0 (D 0) (.lit 0)from rfl,sLn,sI]at k1 k2;have hl:(@Sx.dat v (D 0)).toS.length<1000000000:=by omega
 have hi:@Holds (VL F0 [@Sx.dat v (D 0)]) sp0v:=hcons (ltT (by rw[sLn,sI,dD0];exact k2)) (hcons (ltF (by rw[sLn,sI,dD0];exact k1)) hnil);have h:=PX.ret (sp0_px (J:=At [@Sx.dat v (D 0)]) (fun s hs=>by
  have hs:s=[@Sx.dat v (D 0)]:=hs;subst hs;exact sp0_co hl) (fun s hs=>by
  have hs:s=[@Sx.dat v (D 0)]:=hs;subst hs;exact hi)) (s:=[@Sx.dat v (D 0)]) rfl (by obtain⟨k,x,y,e,_⟩:=sp_tr (d:=@Sx.dat v (D 0)) hl (by omega);rw[e])
 refine HT.pre (bQ _) (aN (v:=v) (v':=VL F0 [@Sx.dat v (D 0)]) base0 sp_ini (eqs_cons rfl eqs_nil)) (HT.retell (bQ _) h (aP (v':=v) base0 sp_fin (eqs_cons (numI ?_) (eqs_cons ?_ (eqs_cons ?_ eqs_nil)))));{rw[dAtL,show @Sx.dat v (.ap 20 (D 0) (I 0) (I 0))=v.fn 20 (@Sx.dat v (D 0)) (.int 0) (.int 0)from rfl,hF,F0_20];unfold spSp;rw[tI]};{rw[dAtL,show @Sx.dat v (.ap 21 (D 0) (I 0) (I 0))=v.fn 21 (@Sx.dat v (D 0)) (.int 0) (.int 0)from rfl,hF,F0_21];unfold spSp;rfl};rw[dAtL,show @Sx.dat v (.ap 22 (D 0) (I 0) (I 0))=v.fn 22 (@Sx.dat v (D 0)) (.int 0) (.int 0)from rfl,hF,F0_22];unfold spSp;rfl
theorem pi_cons:∀c∈([]:List Con),c.Sound F0 P gl0 b0 R0:=nocon
theorem pi_hcons:∀c∈([]:List HCon),c.Sound F0 P gl0 b0 R0:=nohcon
def cpi:Code:=match Tryz.f57.body with
 |some c=>c
 |none=>.skip
def piA:Tl:=⟨[(0,.vstr (.dvar 0)),(1,.sym .i64 (.dvar 1)),(2,.sym .i64 (.dvar 2))],[],1024⟩
def piT1:Tl:=⟨[(6,.sym .u64 (.dvar 0)),(7,.opq 5 0 107 (.int .i64) (.dvar 1) (.lit 0))],[],1024⟩
def piT5:Tl:=⟨[(1,.sym .i64 (.dvar 0)),(9,.vstr (.dvar 1)),(12,.symb (.cmp .neq (.dvar 2) (.lit 0))),(13,.sym .u64 (.dvar 3))],[],1024⟩
def piT:Nat→Tl:=fun w=>match w with
 |1=>piT1
 |5=>piT5
 |_=>piA
def piB0:Tl:=⟨[(0,.vstr (.dvar 0)),(1,.sym .i64 (.dvar 1)),(2,.sym .i64 (.dvar 2))],[],1024⟩
theorem pi0_px{J:List Dat→Prop}:PX P gl0 b0 R0 0 0 172 F0 J (cl cpi) piA piB0 piT (pi0.tr F0 3):=
 PX.tree (pins:=[]) base0 (by decide) follows (cons:=[]) pi_cons (hcons:=[]) pi_hcons (cores:=[]) (fun _ _ _ h=>by cases h) (inv:=[]) (fun _ _=>hnil) (by kernel_rfl)
def piB1:Tl:=⟨[(0,.vstr (.dvar 0)),(1,.sym .i64 (.dvar 1)),(2,.sym .i64 (.dvar 2))],[],1024⟩
theorem pi1_px{J:List Dat→Prop}:PX P gl0 b0 R0 0 0 172 F0 J (cl (cr cpi)) piB0 piB1 piT (pi1.tr F0 3):=
 PX.tree (pins:=[]) base0 (by decide) follows (cons:=[]) pi_cons (hcons:=[]) pi_hcons (cores:=[]) (fun _ _ _ h=>by cases h) (inv:=[]) (fun _ _=>hnil) (by kernel_rfl)
def piB2:Tl:=⟨[(0,.vstr (.dvar 0)),(1,.sym .i64 (.dvar 1)),(2,.sym .i64 (.dvar 2)),(8,.symb (.cmp .neq (.dvar 3) (.lit 0)))],[],1024⟩
theorem pi2_px{J:List Dat→Prop}:PX P gl0 b0 R0 0 0 172 F0 J (cl (cr (cr cpi))) piB1 piB2 piT (pi2.tr F0 4):=
 PX.tree (pins:=[]) base0 (by decide) follows (cons:=[]) pi_cons (hcons:=[]) pi_hcons (cores:=[]) (fun _ _ _ h=>by cases h) (inv:=[]) (fun _ _=>hnil) (by kernel_rfl)
def piB3:Tl:=⟨[(0,.vstr (.dvar 0)),(1,.sym .i64 (.dvar 1)),(2,.sym .i64 (.dvar 2)),(8,.symb (.cmp .neq (.dvar 3) (.lit 0))),(9,.vstr (.dvar 4))],[],1024⟩
theorem pi3_px{J:List Dat→Prop}(hinv:∀s,J s→@Holds (VL F0 s) pi3v):PX P gl0 b0 R0 0 0 172 F0 J (cl (cr (cr (cr cpi)))) piB2 piB3 piT (pi3.tr F0 5):=
 PX.tree (pins:=[]) base0 (by decide) follows (cons:=[]) pi_cons (hcons:=[]) pi_hcons (cores:=[]) (fun _ _ _ h=>by cases h) (inv:=pi3v) hinv (by kernel_rfl)
def piB4:Tl:=⟨[(0,.vstr (.dvar 0)),(1,.sym .i64 (.dvar 1)),(2,.sym .i64 (.dvar 2)),(8,.symb (.cmp .neq (.dvar 3) (.lit 0))),(9,.vstr (.dvar 4))],[],1024⟩
theorem pi4_px{J:List Dat→Prop}(hco:∀s,J s→∀q∈pi4c,¬@Holds (VL F0 s) q)(hinv:∀s,J s→@Holds (VL F0 s) pi4v):PX P gl0 b0 R0 0 0 172 F0 J (cl (cr (cr (cr (cr cpi))))) piB3 piB4 piT (pi4.tr F0 5):=
 PX.tree (pins:=[]) base0 (by decide) follows (cons:=[]) pi_cons (hcons:=[]) pi_hcons (cores:=pi4c) hco (inv:=pi4v) hinv (by kernel_rfl)
def piB5:Tl:=⟨[(0,.vstr (.dvar 0)),(1,.sym .i64 (.dvar 1)),(2,.sym .i64 (.dvar 2)),(8,.symb (.cmp .neq (.dvar 3) (.lit 0))),(9,.vstr (.dvar 4))],[],1024⟩
theorem pi5_px{J:List Dat→Prop}(hco:∀s,J s→∀q∈pi5c,¬@Holds (VL F0 s) q)(hinv:∀s,J s→@Holds (VL F0 s) pi5v):PX P gl0 b0 R0 0 0 172 F0 J (cl (cr (cr (cr (cr (cr cpi)))))) piB4 piB5 piT (pi5.tr F0 5):=
 PX.tree (pins:=[]) base0 (by decide) follows (cons:=[]) pi_cons (hcons:=[]) pi_hcons (cores:=pi5c) hco (inv:=pi5v) hinv (by kernel_rfl)
def piB6:Tl:=⟨[(0,.vstr (.dvar 0)),(1,.sym .i64 (.dvar 1)),(2,.sym .i64 (.dvar 2)),(8,.symb (.cmp .neq (.dvar 3) (.lit 0))),(9,.vstr (.dvar 4))],[],1024⟩
theorem pi6_px{J:List Dat→Prop}(hinv:∀s,J s→@Holds (VL F0 s) pi6v):PX P gl0 b0 R0 0 0 172 F0 J (cl (cr (cr (cr (cr (cr (cr cpi))))))) piB5 piB6 piT (pi6.tr F0 5):=
 PX.tree (pins:=[]) base0 (by decide) follows (cons:=[]) pi_cons (hcons:=[]) pi_hcons (cores:=[]) (fun _ _ _ h=>by cases h) (inv:=pi6v) hinv (by kernel_rfl)
def piB7:Tl:=⟨[(0,.vstr (.dvar 0)),(1,.sym .i64 (.dvar 1)),(2,.sym .i64 (.dvar 2)),(8,.symb (.cmp .neq (.dvar 3) (.lit 0))),(9,.vstr (.dvar 4)),(10,.sym .u64 (.dvar 5))],[],1024⟩
theorem pi7_px{J:List Dat→Prop}(hco:∀s,J s→∀q∈pi7c,¬@Holds (VL F0 s) q)(hinv:∀s,J s→@Holds (VL F0 s) pi7v):PX P gl0 b0 R0 0 0 172 F0 J (cl (cr (cr (cr (cr (cr (cr (cr cpi)))))))) piB6 piB7 piT (pi7.tr F0 6):=
 PX.tree (pins:=[]) base0 (by decide) follows (cons:=[]) pi_cons (hcons:=[]) pi_hcons (cores:=pi7c) hco (inv:=pi7v) hinv (by kernel_rfl)
def piB8:Tl:=⟨[(0,.vstr (.dvar 0)),(1,.sym .i64 (.dvar 1)),(2,.sym .i64 (.dvar 2)),(8,.symb (.cmp .neq (.dvar 3) (.lit 0))),(9,.vstr (.dvar 4)),(10,.sym .u64 (.dvar 5)),(11,.sym .u64 (.dvar 6))],[],1024⟩
theorem pi8_px{J:List Dat→Prop}(hco:∀s,J s→∀q∈pi8c,¬@Holds (VL F0 s) q):PX P gl0 b0 R0 0 0 172 F0 J (cl (cr (cr (cr (cr (cr (cr (cr (cr cpi))))))))) piB7 piB8 piT (pi8.tr F0 7):=
 PX.tree (pins:=[]) base0 (by decide) follows (cons:=[]) pi_cons (hcons:=[]) pi_hcons (cores:=pi8c) hco (inv:=[]) (fun _ _=>hnil) (by kernel_rfl)
def piB9:Tl:=⟨[(0,.vstr (.dvar 0)),(1,.sym .i64 (.dvar 1)),(2,.sym .i64 (.dvar 2)),(8,.symb (.cmp .neq (.dvar 3) (.lit 0))),(9,.vstr (.dvar 4)),(10,.sym .u64 (.dvar 5)),(11,.sym .u64 (.dvar 6)),(12,.symb (.cmp .neq (.dvar 7) (.lit 0)))],[],1024⟩
theorem pi9_px{J:List Dat→Prop}:PX P gl0 b0 R0 0 0 172 F0 J (cl (cr (cr (cr (cr (cr (cr (cr (cr (cr cpi)))))))))) piB8 piB9 piT (pi9.tr F0 8):=
 PX.tree (pins:=[]) base0 (by decide) follows (cons:=[]) pi_cons (hcons:=[]) pi_hcons (cores:=[]) (fun _ _ _ h=>by cases h) (inv:=[]) (fun _ _=>hnil) (by kernel_rfl)
def piB10:Tl:=⟨[(0,.vstr (.dvar 0)),(1,.sym .i64 (.dvar 1)),(2,.sym .i64 (.dvar 2)),(8,.symb (.cmp .neq (.dvar 3) (.lit 0))),(9,.vstr (.dvar 4)),(10,.sym .u64 (.dvar 5)),(11,.sym .u64 (.dvar 6)),(12,.symb (.cmp .neq (.dvar 7) (.lit 0))),(13,.sym .u64 (.dvar 8))],[],1024⟩
theorem pi10_px{J:List Dat→Prop}:PX P gl0 b0 R0 0 0 172 F0 J (cl (cr (cr (cr (cr (cr (cr (cr (cr (cr (cr cpi))))))))))) piB9 piB10 piT (pi10.tr F0 9):=
 PX.tree (pins:=[]) base0 (by decide) follows (cons:=[]) pi_cons (hcons:=[]) pi_hcons (cores:=[]) (fun _ _ _ h=>by cases h) (inv:=[]) (fun _ _=>hnil) (by kernel_rfl)
def piB11:Tl:=⟨[(1,.sym .i64 (.dvar 0)),(2,.sym .i64 (.dvar 1)),(8,.symb (.cmp .neq (.dvar 2) (.lit 0))),(9,.vstr (.dvar 3)),(10,.sym .u64 (.dvar 4)),(11,.sym .u64 (.dvar 5)),(12,.symb (.cmp .neq (.dvar 6) (.lit 0))),(13,.sym .u64 (.dvar 7)),(99,.opq 2 1024 0 (.slc [.int .u8]) (.lit 0) (.lit 1)),(100,.sym .i64 (.dvar 9)),(101,.sym .i64 (.dvar 10))],[(1024,.opq 2 0 1023 (.slc [.int .u8]) (.dvar 8) (.lit 1) [] 5)],1025⟩
theorem pi11_px{J:List Dat→Prop}:PX P gl0 b0 R0 0 0 172 F0 J (cl (cl (cr (cr (cr (cr (cr (cr (cr (cr (cr (cr (cr cpi))))))))))))) piB10 piB11 piT (pi11.tr F0 11):=
 PX.tree (pins:=[]) base0 (by decide) follows (cons:=[]) pi_cons (hcons:=[]) pi_hcons (cores:=[]) (fun _ _ _ h=>by cases h) (inv:=[]) (fun _ _=>hnil) (by kernel_rfl)
theorem pi13_px{J:List Dat→Prop}(hco:∀s,J s→∀q∈pi13c,¬@Holds (VL F0 s) q)(hinv:∀s,J s→@Holds (VL F0 s) pi13v):PX P gl0 b0 R0 0 0 172 F0 J (cl (cl (cr (cl (cr (cr (cr (cr (cr (cr (cr (cr (cr (cr (cr cpi))))))))))))))) piB11 piB11 piT (pi13.tr F0 11):=
 PX.tree (pins:=[]) base0 (by decide) follows (cons:=[]) pi_cons (hcons:=[]) pi_hcons (cores:=pi13c) hco (inv:=pi13v) hinv (by kernel_rfl)
def piB14:Tl:=⟨[(1,.sym .i64 (.dvar 0)),(9,.vstr (.dvar 1)),(12,.symb (.cmp .neq (.dvar 2) (.lit 0))),(13,.sym .u64 (.dvar 3))],[],1024⟩
theorem pi15_px{J:List Dat→Prop}(hinv:∀s,J s→@Holds (VL F0 s) pi15v):PX P gl0 b0 R0 0 0 172 F0 J (cr (cr (cr (cr (cr (cr (cr (cr (cr (cr (cr (cr cpi)))))))))))) piB14 piB14 piT (pi15.tr F0 2):=
 PX.tree (pins:=[]) base0 (by decide) follows (cons:=[]) pi_cons (hcons:=[]) pi_hcons (cores:=[]) (fun _ _ _ h=>by cases h) (inv:=pi15v) hinv (by kernel_rfl)
theorem pi_ini:dQ R0 0 [] (aR piA.l) (ao b0 piA.o piA.nx) piA.l piA.o piA.nx=some piE0:=by kernel_rfl
def piZ:Tl:=⟨[(6,.sym .u64 (.ap 10 (.dvar 0) (.dvar 1) (.dvar 2))),(7,.opq 5 0 107 (.int .i64) (.ap 0 (.dvar 0) (.dvar 1) (.dvar 2)) (.lit 0))],[],1024⟩
theorem pi_fin:dD R0 0 [] [] (aR piT1.l) (ao b0 piT1.o piT1.nx) piZ.l piZ.o piZ.nx=some piE1:=by kernel_rfl
theorem pi_eq:cpi=(.seq (cl cpi) (.seq (cl (cr cpi)) (.seq (cl (cr (cr cpi))) (.seq (cl (cr (cr (cr cpi)))) (.seq (cl (cr (cr (cr (cr cpi))))) (.seq (cl (cr (cr (cr (cr (cr cpi)))))) (.seq (cl (cr (cr (cr (cr (cr (cr cpi))))))) (.seq (cl (cr (cr (cr (cr (cr (cr (cr cpi)))))))) (.seq (cl (cr (cr (cr (cr (cr (cr (cr (cr cpi))))))))) (.seq (cl (cr (cr (cr (cr (cr (cr (cr (cr (cr cpi)))))))))) (.seq (cl (cr (cr (cr (cr (cr (cr (cr (cr (cr (cr cpi))))))))))) (.seq (.seq (cl (cl (cr (cr (cr (cr (cr (cr (cr (cr (cr (cr (cr cpi))))))))))))) (.block 3 (.loop (cl (cl (cr (cl (cr (cr (cr (cr (cr (cr (cr (cr (cr (cr (cr cpi)))))))))))))))))) (cr (cr (cr (cr (cr (cr (cr (cr (cr (cr (cr (cr cpi)))))))))))))))))))))))):=by kernel_rfl
theorem pi_px:PX P gl0 b0 R0 0 0 172 F0 K0 cpi piA piB14 piT (spPi F0):=by
 rw[pi_eq];exact PX.seq (J2:=K0) (by decide) pi0_px (fun s hs _=>hs) (PX.seq (J2:=K0) (by decide) pi1_px pi1_j (PX.seq (J2:=K3) (by decide) pi2_px (fun s hs _=>pi2_j s hs)
  (PX.seq (J2:=K3) (by decide) (pi3_px (fun s hs=>bk_inv s hs.1.1)) (fun s hs _=>pi3_j s hs) (PX.seq (J2:=K3) (by decide) (pi4_px (fun s _=>pi4_co s) (fun s hs=>bk_inv s hs.1.1)) (fun s hs _=>pi4_j s hs)
  (PX.seq (J2:=K3) (by decide) (pi5_px (fun s _=>pi5_co s) (fun s hs=>bk_inv s hs.1.1)) (fun s hs _=>pi5_j s hs) (PX.seq (J2:=K3) (by decide) (pi6_px (fun s hs=>bk_inv s hs.1.1)) (fun s hs _=>pi6_j s hs)
  (PX.seq (J2:=K3) (by decide) (pi7_px pi7_co (fun s hs=>bk_inv s hs.1.1)) (fun s hs _=>pi7_j s hs) (PX.seq (J2:=K3) (by decide) (pi8_px pi8_co) (fun s hs _=>pi8_j s hs)
  (PX.seq (J2:=K7) (by decide) pi9_px (fun s hs _=>pi9_j s hs) (PX.seq (J2:=K7) (by decide) pi10_px (fun s hs _=>pi10_j s hs)
  (PX.seq (J2:=J15) (by decide) (PX.seq (J2:=JPi) (by decide) pi11_px (fun s hs _=>pi11_j s hs) (PX.block (PX.loopM (by decide) (pi13_px pi13_co pi13_inv) pi_mea) rfl)) (fun s hs h=>by unfold aD at h⊢;have e:(pi11.tr F0 11 s).1=0:=rfl;rw[if_pos e]at h⊢;exact pi13_fin _ (pi11_j s hs) h) (pi15_px pi15_inv))))))))))))
end
end Go.Proofs.YtkklcbfbjfhacaaGreatDoor
set_option linter.all false
namespace Go.Proofs.YtkklcbfbjfhacaaGreatDoor
open Go.Tw Go.Tw.LX
noncomputable section
def bkP:aY:=[(lt (D 1) (I 2),false),(lt (I 36) (D 1),false),(lt (D 2) (I 1),false),(lt (I 64) (D 2),false)]
def conPI:Con:={f:=57,args:=[VS 0,SI 1,SI 2],pre:=bkP++[(lt (ln (D 0)) (I 1000000000),true)],res:=.tup [.sym .u64 (A3 10 (D 0) (D 1) (D 2)),.opq 5 0 107 (.int .i64) (A3 0 (D 0) (D 1) (D 2)) (.lit 0)],objs:=[]}
theorem bk_pre{v:Val}(h:@Holds v (bkP++[(lt (ln (D 0)) (I 1000000000),true)])):K0 [@Sx.dat v (D 0),.int (@Sx.dat v (D 1)).toI,.int (@Sx.dat v (D 2)).toI]:=by have k1:=ltF' (hget h).1;have h:=(hget h).2;have k2:=ltF' (hget h).1;have h:=(hget h).2;have k3:=ltF' (hget h).1;have h:=(hget h).2;have k4:=ltF' (hget h).1;have h:=(hget h).2;have k5:=ltT' (hget h).1;rw[show(ln (D 0))=Sx.pr 0 (D 0) (.lit 0)from rfl,sLn]at k5;rw[sI]at k1 k2 k3 k4 k5;have e1:@Sx.eval v (D 1)=(@Sx.dat v (D 1)).toI:=rfl;have e2:@Sx.eval v (D 2)=(@Sx.dat v (D 2)).toI:=rfl;rw[e1]at k1 k2;rw[e2]at k3 k4;exact⟨⟨by show 2≤(@Sx.dat v (D 1)).toI;omega,by show(@Sx.dat v (D 1)).toI≤36;omega,by show 1≤(@Sx.dat v (D 2)).toI;omega,by show(@Sx.dat v (D 2)).toI≤64;omega⟩,by show(@Sx.dat v (D 0)).toS.length<_;omega⟩
theorem conPI_ok:conPI.Sound F0 P gl0 b0 R0:=by
 refine cg (fn:=Tryz.f57) (code:=cpi) Tryz.func57 (by rfl) (by kernel_rfl) rfl rfl rfl fun v hF hpre=> ?_;refine⟨.ret,piZ.l,piZ.o,piZ.nx,_,_,.inl rfl,?_,by rfl,rfl⟩;have hk:=bk_pre hpre;have h:=PX.ret pi_px hk (ml pi_fl hk);refine HT.pre (bQ _) (aN (v:=v) (v':=VL F0 [@Sx.dat v (D 0),.int (@Sx.dat v (D 1)).toI,.int (@Sx.dat v (D 2)).toI]) base0 pi_ini (eqs_cons rfl (eqs_cons (numI rfl) (eqs_cons (numI rfl) eqs_nil))))
  (HT.retell (bQ _) h (aP (v':=v) base0 pi_fin (eqs_cons (numI ?_) (eqs_cons ?_ eqs_nil))))
 {rw[dAtL,show @Sx.dat v (.ap 10 (D 0) (D 1) (D 2))=v.fn 10 (@Sx.dat v (D 0)) (@Sx.dat v (D 1)) (@Sx.dat v (D 2))from rfl,hF,F0_10,tI]};rw[dAtL,show @Sx.dat v (.ap 0 (D 0) (D 1) (D 2))=v.fn 0 (@Sx.dat v (D 0)) (@Sx.dat v (D 1)) (@Sx.dat v (D 2))from rfl,hF,F0_0];exact pi_int hk
theorem pu_cons:∀c∈[conPI,conClone],c.Sound F0 P gl0 b0 R0:=conC conPI_ok (con1 conClone_ok)
theorem pu_hcons:∀c∈([]:List HCon),c.Sound F0 P gl0 b0 R0:=nohcon
def conPIx:Con:=conPI
def cpu:Code:=match Tryz.f45.body with
 |some c=>c
 |none=>.skip
def puA:Tl:=⟨[(0,.vstr (.dvar 0)),(1,.sym .i64 (.dvar 1)),(2,.sym .i64 (.dvar 2))],[],1024⟩
def puT1:Tl:=⟨[(6,.sym .u64 (.dvar 0)),(7,.opq 5 0 0 (.bool) (.dvar 1) (.lit 0))],[],1024⟩
def puT:Nat→Tl:=fun w=>match w with
 |1=>puT1
 |_=>puA
theorem pu0_px{J:List Dat→Prop}(hco:∀s,J s→∀q∈pu0c,¬@Holds (VL F0 s) q)(hinv:∀s,J s→@Holds (VL F0 s) pu0v):PX P gl0 b0 R0 0 0 26 F0 J cpu puA puA puT (pu0.tr F0 2):=
 PX.tree (pins:=[]) base0 (by decide) follows (cons:=[conPIx,conClone]) pu_cons (hcons:=[]) pu_hcons (cores:=pu0c) hco (inv:=pu0v) hinv (by kernel_rfl)
theorem pu_ini:dQ R0 0 [] (aR puA.l) (ao b0 puA.o puA.nx) puA.l puA.o puA.nx=some puE0:=by kernel_rfl
def puZ:Tl:=⟨[(6,.sym .u64 (.ap 10 (.dvar 0) (.dvar 1) (.dvar 2))),(7,.opq 5 0 0 (.bool) (.ap 11 (.dvar 0) (.dvar 1) (.dvar 2)) (.lit 0))],[],1024⟩
theorem pu_fin:dD R0 0 [] [] (aR puT1.l) (ao b0 puT1.o puT1.nx) puZ.l puZ.o puZ.nx=some puE1:=by kernel_rfl
def conPU:Con:={f:=45,args:=[VS 0,SI 1,SI 2],pre:=bkP++[(lt (ln (D 0)) (I 1000000000),true)],res:=.tup [.sym .u64 (A3 10 (D 0) (D 1) (D 2)),.opq 5 0 0 .bool (A3 11 (D 0) (D 1) (D 2)) (.lit 0)],objs:=[]}
theorem pu_flag{s:List Dat}(hco:∀q∈pu0c,¬@Holds (VL F0 s) q):(pu0.tr F0 2 s).1=1:=by have:=cJ (J:=At s) (sp:=pu0) (m:=2) (l:=[1]) (cores:=pu0c) (inv:=[]) (fun s' hs=>by have hs:s'=s:=hs;subst hs;exact hco) (fun _ _=>hnil) (by kernel_rfl) (by kernel_rfl) s rfl;simpa using this
theorem conPU_ok:conPU.Sound F0 P gl0 b0 R0:=by
 refine cg (fn:=Tryz.f45) (code:=cpu) Tryz.func45 (by rfl) (by kernel_rfl) rfl rfl rfl fun v hF hpre=> ?_;refine⟨.ret,puZ.l,puZ.o,puZ.nx,_,_,.inl rfl,?_,by rfl,rfl⟩;have hk:=bk_pre hpre;have hi:@Holds (VL F0 [@Sx.dat v (D 0),.int (@Sx.dat v (D 1)).toI,.int (@Sx.dat v (D 2)).toI]) pu0v:=by have b:=bk_inv _ hk.1;have k1:=(hget b).1;have b:=(hget b).2;have k2:=(hget b).1;have b:=(hget b).2;have k3:=(hget b).1;have b:=(hget b).2;have k4:=(hget b).1;exact hcons k1 (hcons k2 (hcons k3 (hcons k4 (hcons (ltT (by rw[sLn,sI,dD0];have:=hk.2;have e:(@Sx.dat v (D 0)).toS.length<1000000000:=this;omega)) hnil))))
 have h:=PX.ret (pu0_px (J:=At [@Sx.dat v (D 0),.int (@Sx.dat v (D 1)).toI,.int (@Sx.dat v (D 2)).toI]) (fun s hs=>by
  have hs:s=[@Sx.dat v (D 0),.int (@Sx.dat v (D 1)).toI,.int (@Sx.dat v (D 2)).toI]:=hs;subst hs;exact pu0_co hk) (fun s hs=>by
  have hs:s=[@Sx.dat v (D 0),.int (@Sx.dat v (D 1)).toI,.int (@Sx.dat v (D 2)).toI]:=hs;subst hs;exact hi)) rfl (pu_flag (pu0_co hk))
 have e1:∃z,(pu0.tr F0 2 [@Sx.dat v (D 0),.int (@Sx.dat v (D 1)).toI,.int (@Sx.dat v (D 2)).toI]).2=.int (F0 10 (@Sx.dat v (D 0)) (.int (@Sx.dat v (D 1)).toI) (.int (@Sx.dat v (D 2)).toI)).toI::z:=by have hf:=pu_flag (pu0_co hk);revert hf;simp only[pu0,tr_ite];split;{intro _;exact⟨_,rfl⟩};split;{intro _;exact⟨_,rfl⟩};split;{intro _;exact⟨_,rfl⟩};intro hf;cases hf
 obtain⟨z,e1⟩:=e1;refine HT.pre (bQ _) (aN (v:=v) (v':=VL F0 [@Sx.dat v (D 0),.int (@Sx.dat v (D 1)).toI,.int (@Sx.dat v (D 2)).toI]) base0 pu_ini (eqs_cons rfl (eqs_cons (numI rfl) (eqs_cons (numI rfl) eqs_nil))))
  (HT.retell (bQ _) h (aP (v':=v) base0 pu_fin (eqs_cons (numI ?_) (eqs_cons ?_ eqs_nil))))
 {rw[dAtL,e1,aL0,tI,show @Sx.dat v (.ap 10 (D 0) (D 1) (D 2))=v.fn 10 (@Sx.dat v (D 0)) (@Sx.dat v (D 1)) (@Sx.dat v (D 2))from rfl,hF,F0_10,F0_10];rfl};rw[dAtL,show @Sx.dat v (.ap 11 (D 0) (D 1) (D 2))=v.fn 11 (@Sx.dat v (D 0)) (@Sx.dat v (D 1)) (@Sx.dat v (D 2))from rfl,hF,F0_11];unfold spPu;rfl
theorem es_cons:∀c∈[conPU,conPart],c.Sound F0 P gl0 b0 R0:=conC conPU_ok (con1 conPart_ok)
theorem es_hcons:∀c∈([]:List HCon),c.Sound F0 P gl0 b0 R0:=nohcon
def conPUx:Con:=conPU
def ces:Code:=match Tryz.f46.body with
 |some c=>c
 |none=>.skip
def esA:Tl:=⟨[(0,.vstr (.dvar 0))],[],1024⟩
def esT1:Tl:=⟨[(2,.sym .u8 (.dvar 0)),(3,.sym .i64 (.dvar 1))],[],1024⟩
def esT:Nat→Tl:=fun w=>match w with
 |1=>esT1
 |_=>esA
theorem es0_px{J:List Dat→Prop}(hco:∀s,J s→∀q∈es0c,¬@Holds (VL F0 s) q)(hinv:∀s,J s→@Holds (VL F0 s) es0v):PX P gl0 b0 R0 0 0 49 F0 J ces esA esA esT (es0.tr F0 2):=
 PX.tree (pins:=[]) base0 (by decide) follows (cons:=[conPUx,conPart]) es_cons (hcons:=[]) es_hcons (cores:=es0c) hco (inv:=es0v) hinv (by kernel_rfl)
theorem es_ini:dQ R0 0 [] (aR esA.l) (ao b0 esA.o esA.nx) esA.l esA.o esA.nx=some esE0:=by kernel_rfl
def esZ:Tl:=⟨[(2,.sym .u8 (.ap 24 (.dvar 0) (.lit 0) (.lit 0))),(3,.sym .i64 (.ap 25 (.dvar 0) (.lit 0) (.lit 0)))],[],1024⟩
theorem es_fin:dD R0 0 [] [] (aR esT1.l) (ao b0 esT1.o esT1.nx) esZ.l esZ.o esZ.nx=some esE1:=by kernel_rfl
def conEsc:Con:={f:=46,args:=[VS 0],pre:=[(lt (ln (D 0)) (I 1000000000),true)],res:=.tup [.sym .u8 (A1 24 (D 0)),.sym .i64 (A1 25 (D 0))],objs:=[]}
theorem conEsc_ok:conEsc.Sound F0 P gl0 b0 R0:=by
 refine cg (fn:=Tryz.f46) (code:=ces) Tryz.func46 (by rfl) (by kernel_rfl) rfl rfl rfl fun v hF hpre=> ?_;refine⟨.ret,esZ.l,esZ.o,esZ.nx,_,_,.inl rfl,?_,by rfl,rfl⟩;have k1:=ltT' (hget hpre).1;rw[show(ln (D 0))=Sx.pr 0 (D 0) (.lit 0)from rfl,sLn,sI]at k1;have hi:@Holds (VL F0 [@Sx.dat v (D 0)]) es0v:=hcons (ltT (by rw[sLn,sI,dD0];exact k1)) hnil;have h:=PX.ret (es0_px (J:=At [@Sx.dat v (D 0)]) (fun s hs=>by
  have hs:s=[@Sx.dat v (D 0)]:=hs;subst hs;exact es0_co) (fun s hs=>by
  have hs:s=[@Sx.dat v (D 0)]:=hs;subst hs;exact hi)) rfl (by rw[es_nf,esP_eq])
 rw[es_nf,esP_eq]at h;refine HT.pre (bQ _) (aN (v:=v) (v':=VL F0 [@Sx.dat v (D 0)]) base0 es_ini (eqs_cons rfl eqs_nil)) (HT.retell (bQ _) h (aP (v':=v) base0 es_fin (eqs_cons (numI ?_) (eqs_cons (numI ?_) eqs_nil))));{rw[show @Sx.dat v (.ap 24 (D 0) (I 0) (I 0))=v.fn 24 (@Sx.dat v (D 0)) (.int 0) (.int 0)from rfl,hF,f24,dD0];rfl};rw[show @Sx.dat v (.ap 25 (D 0) (I 0) (I 0))=v.fn 25 (@Sx.dat v (D 0)) (.int 0) (.int 0)from rfl,hF,f25,dD1]
end
end Go.Proofs.YtkklcbfbjfhacaaGreatDoor
