/-
  A part of the law's proof over the abstract evaluator. Conditions: those of each theorem, as it states them.
-/
import Derived.Test.YtbfonficacphkaaGreatDoorS2
import Derived.Test.YtbfonficacphkaaGreatDoorH1
import Derived.Test.YtbfonficacphkaaGreatDoorL2
set_option linter.all false
set_option linter.all false
namespace Go.Proofs.YtbfonficacphkaaGreatDoor
open Go.Tw Go.Tw.LX
noncomputable section
theorem rl:∀c∈([]:List Con),c.Sound F0 P bh b0 R0:=qk
theorem nT:∀c∈([]:List HCon),c.Sound F0 P bh b0 R0:=cQ
def KN:Code:=match Tryz.f51.body with
 |some c=>c
 |none=>.skip
abbrev Ip:Ob:=.opq 2 0 1023 kn (.dvar 0) (.dvar 2) [] 9
def ixA:Tl:=⟨[(0,.opq 2 1024 0 kn (.lit 0) (.dvar 2)),(1,.vstr (.dvar 1))],[(1024,Ip)],1025⟩
def xV:List RE:=[⟨1024,1024,0,0,0⟩]
abbrev ko:AV:=.sym .i64 (.dvar 2)
def ixT1:Tl:=⟨[(4,ko)],sC,1025⟩
def Xf:Tl:=⟨[],sC,1025⟩
def Vc:Nat→Tl:=fun w=>match w with
 |1=>ixT1
 |2=>Xf
 |_=>ixA
abbrev sG:AV:=.vstr (.dvar 2)
def Ve:Tl:=⟨[(0,DA),(1,sG)],sC,1025⟩
theorem SA{J:List Dat→Prop}:PX P bh b0 R0 0 1048576 19 F0 J (cl KN) ixA Ve Vc (ix0.tr F0 3):=
 PX.tree (pins:=xV) az (by decide) follows (cons:=[]) rl (ak:=[]) nT (cores:=[]) (fun _ _ _ h=>by cases h) (inv:=[]) (fun _ _=>aW) (by kernel_rfl)
abbrev eL:AV:=.sym .i64 (.dvar 3)
def Su:Tl:=⟨[(0,DA),(1,sG),(7,.sym .i64 (.pr 7 (.dvar 0) (.lit 0))),(8,eL)],sC,1025⟩
theorem Sz{J:List Dat→Prop}:PX P bh b0 R0 0 1048576 19 F0 J (cl (cl (cr KN))) Ve Su Vc (ix1.tr F0 4):=
 PX.tree (pins:=xV) az (by decide) follows (cons:=[]) rl (ak:=[]) nT (cores:=[]) (fun _ _ _ h=>by cases h) (inv:=[]) (fun _ _=>aW) (by kernel_rfl)
theorem Sy{J:List Dat→Prop}(hinv:∀s,J s→@Holds (VL F0 s) Sw):PX P bh b0 R0 0 1048576 19 F0 J (cl (cl (cr (cl (cr KN))))) Su Su Vc (ix3.tr F0 4):=
 PX.tree (pins:=xV) az (by decide) follows (cons:=[]) rl (ak:=[]) nT (cores:=[]) (fun _ _ _ h=>by cases h) (inv:=Sw) hinv (by kernel_rfl)
def Ss:Tl:=⟨[],sC,1025⟩
theorem Sv{J:List Dat→Prop}:PX P bh b0 R0 0 1048576 19 F0 J (cr (cr KN)) Ss Ss Vc (ix5.tr F0 3):=
 PX.tree (pins:=xV) az (by decide) follows (cons:=[]) rl (ak:=[]) nT (cores:=[]) (fun _ _ _ h=>by cases h) (inv:=[]) (fun _ _=>aW) (by kernel_rfl)
theorem Sq:eB R0 1048576 [⟨1024,1024,0,0,0⟩] (ba ixA.l) (aA b0 ixA.o ixA.nx) ixA.l ixA.o ixA.nx=some Xh:=by kernel_rfl
def ixZ:Tl:=⟨[(4,.sym .i64 (.ap 9 (.dvar 0) (.dvar 1) (.dvar 2)))],[(1024,Ip)],1025⟩
theorem Sr:dT R0 1048576 [⟨1024,1024,0,0,0⟩] [] (ba ixT1.l) (aA b0 ixT1.o ixT1.nx) ixZ.l ixZ.o ixZ.nx=some Xg:=by kernel_rfl
theorem Vb:KN=(.seq (cl KN) (.seq (.seq (cl (cl (cr KN))) (.block 0 (.loop (cl (cl (cr (cl (cr KN)))))))) (cr (cr KN)))):=by kernel_rfl
def hcIdx:HCon:={f:=51,args:=[LO (D 2),VS 1],pre:=[(lt (.pr 7 (D 0) (I 0)) cY,true)],nr:=0,np:=0,ns:=1,locs:=[⟨none,[0]⟩],ins:=[(1024,OS (D 0) (D 2))],v:=.sym .i64 (A3 9 (D 0) (D 1) (D 2)),outs:=[(1024,OS (D 0) (D 2))],nx:=1025}
def At(s0:List Dat)(s:List Dat):Prop:=s=s0
theorem kC{f:gx}{s0 s1:List Dat}(h:f s0=(0,s1)):∀s,At s0 s→(f s).1=0→At s1 (f s).2:=fun s hs _=>by have hs:s=s0:=hs;subst hs;rw[h];rfl
theorem Va{l x y:Dat}(hl:l.toL.length<1000000001):PX P bh b0 R0 0 1048576 19 F0 (At [l,x,y]) KN ixA Ss Vc (yS F0):=by
 rw[Vb];exact PX.seq (J2:=At [l,y,x]) (by decide) SA (kC rfl) (PX.seq (J2:=fun _=>True) (by decide)
  (PX.seq (J2:=XX) (by decide) Sz (fun s hs _=>by have hs:s=[l,y,x]:=hs;subst hs;exact⟨l,y,x,0,rfl,Int.le_refl _,hl⟩) (PX.block (PX.loopM (by decide) (Sy Nl) J3) rfl)) (fun _ _ _=>trivial) Sv)
theorem Kd:hcIdx.Sound F0 P bh b0 R0:=by
 refine dH (fn:=Tryz.f51) (code:=KN) Tryz.func51 (by rfl) (by kernel_rfl) (by kernel_rfl) (by kernel_rfl) fun v hF hpre=> ?_;refine⟨.ret,ixZ.l,_,_,.inl rfl,?_,by rfl,rfl⟩;obtain⟨s,hs⟩:∃s,s=[@Sx.dat v (D 0),@Sx.dat v (D 1),@Sx.dat v (D 2)]:=⟨_,rfl⟩;have hl:(@Sx.dat v (D 0)).toL.length<1000000001:=by have k:=cD (aj hpre).1;rw[sI,show(Sx.pr 7 (D 0) (I 0))=bg (D 0)from rfl,sL]at k;omega
 obtain⟨i,z,e⟩:=U9 (x:=@Sx.dat v (D 1)) (y:=@Sx.dat v (D 2)) hl;have h:=PX.ret (Va hl) (s:=[@Sx.dat v (D 0),@Sx.dat v (D 1),@Sx.dat v (D 2)]) rfl (by rw[e]);have h9:v.fn 9 (@Sx.dat v (D 0)) (@Sx.dat v (D 1)) (@Sx.dat v (D 2))=.int i:=by rw[hF,XZ,e];rfl
 rw[e]at h;refine HT.pre (bP _) (aT (v:=v) (v':=VL F0 [@Sx.dat v (D 0),@Sx.dat v (D 1),@Sx.dat v (D 2)]) az Sq (ag rfl (ag rfl (ag rfl (ag rfl aK)))))
  (HT.retell (bP _) h (aV (v':=v) az Sr (ag (ct ?_) (ag rfl (ag rfl aK)))))
 show i=(v.fn 9 (@Sx.dat v (D 0)) (@Sx.dat v (D 1)) (@Sx.dat v (D 2))).toI;rw[h9];rfl
theorem Nd:∀c∈[conKeys],c.Sound F0 P bh b0 R0:=mT C9
theorem JM:∀c∈[hcIdx],c.Sound F0 P bh b0 R0:=mn Kd cQ
def Yo:Code:=match Tryz.f31.body with
 |some c=>c
 |none=>.skip
abbrev cI:AV:=.vstr (.dvar 0)
abbrev mG:List (Nat×AV):=[(0,cI)]
def kyA:Tl:=⟨mG,[],1024⟩
def kyT1:Tl:=⟨[(2,zo)],[],1024⟩
def YS:Nat→Tl:=fun w=>match w with
 |1=>kyT1
 |_=>kyA
theorem Si{J:List Dat→Prop}(hco:∀s,J s→∀q∈Nf,¬@Holds (VL F0 s) q):PX P bh b0 R0 0 0 6 F0 J Yo kyA kyA YS (ky0.tr F0 1):=
 PX.tree (pins:=[]) az (by decide) follows (cons:=[conKeys]) Nd (ak:=[hcIdx]) JM (cores:=Nf) hco (inv:=[]) (fun _ _=>aW) (by kernel_rfl)
theorem Sf:eB R0 0 [] (ba kyA.l) (aA b0 kyA.o kyA.nx) kyA.l kyA.o kyA.nx=some Xa:=by kernel_rfl
def kyZ:Tl:=⟨[(2,.symb (.cmp .neq (.ap 13 (.dvar 0) (.lit 0) (.lit 0)) (.lit 0)))],[],1024⟩
theorem Sg:dT R0 0 [] [] (ba kyT1.l) (aA b0 kyT1.o kyT1.nx) kyZ.l kyZ.o kyZ.nx=some W9:=by kernel_rfl
def conKey:Con:={f:=31,args:=[VS 0],pre:=[],res:=.symb (.cmp .neq (A1 13 (D 0)) (.lit 0)),objs:=[]}
theorem Gq:conKey.Sound F0 P bh b0 R0:=by refine cE (fn:=Tryz.f31) (code:=Yo) Tryz.func31 (by rfl) (by kernel_rfl) rfl rfl rfl fun v hF hpre=> ?_;refine⟨.ret,kyZ.l,kyZ.o,kyZ.nx,_,_,.inl rfl,?_,by rfl,rfl⟩;have h:=PX.ret (Si (J:=fun _=>True) (fun s _=>JN s)) (s:=[@Sx.dat v (D 0)]) trivial (Ot (J:=fun _=>True) (fun s _=>JN s) (fun _ _=>aW) (by kernel_rfl) (by kernel_rfl) trivial);refine HT.pre (bP _) (aT (v:=v) (v':=VL F0 [@Sx.dat v (D 0)]) az Sf (ag rfl aK)) (HT.retell (bP _) h (aV (v':=v) az Sg (ag (Ty ?_) aK)));rw[gu,show @Sx.dat v (.ap 13 (D 0) (I 0) (I 0))=v.fn 13 (@Sx.dat v (D 0)) (.int 0) (.int 0)from rfl,hF,XF,tI]
theorem rf:∀c∈[conSigns],c.Sound F0 P bh b0 R0:=mT AB
theorem nd:∀c∈([]:List HCon),c.Sound F0 P bh b0 R0:=cQ
def KG:Code:=match Tryz.f36.body with
 |some c=>c
 |none=>.skip
def sgA:Tl:=⟨mG,[],1024⟩
abbrev sw:AV:=.sym .i64 (.dvar 0)
def sgT1:Tl:=⟨[(2,sw)],[],1024⟩
def Wr:Tl:=⟨[],[],1024⟩
def TX:Nat→Tl:=fun w=>match w with
 |1=>sgT1
 |2=>Wr
 |_=>sgA
def TY:Tl:=⟨mG,[],1024⟩
theorem P8{J:List Dat→Prop}:PX P bh b0 R0 0 0 17 F0 J (cl KG) sgA TY TX (sg0.tr F0 1):=
 PX.tree (pins:=[]) az (by decide) follows (cons:=[conSigns]) rf (ak:=[]) nd (cores:=[]) (fun _ _ _ h=>by cases h) (inv:=[]) (fun _ _=>aW) (by kernel_rfl)
def P2:Tl:=⟨[(0,cI),(5,BS),(6,ko),(7,eL)],[(1024,.opq 2 0 1023 kn (.dvar 1) (.lit 1) [] 9)],1025⟩
theorem P7{J:List Dat→Prop}:PX P bh b0 R0 0 0 17 F0 J (cl (cl (cr KG))) TY P2 TX (sg1.tr F0 4):=
 PX.tree (pins:=[]) az (by decide) follows (cons:=[conSigns]) rf (ak:=[]) nd (cores:=[]) (fun _ _ _ h=>by cases h) (inv:=[]) (fun _ _=>aW) (by kernel_rfl)
theorem P5{J:List Dat→Prop}(hco:∀s,J s→∀q∈LQ,¬@Holds (VL F0 s) q)(hinv:∀s,J s→@Holds (VL F0 s) P4):PX P bh b0 R0 0 0 17 F0 J (cl (cl (cr (cl (cr KG))))) P2 P2 TX (sg3.tr F0 4):=
 PX.tree (pins:=[]) az (by decide) follows (cons:=[conSigns]) rf (ak:=[]) nd (cores:=LQ) hco (inv:=P4) hinv (by kernel_rfl)
def P1:Tl:=⟨[],[],1024⟩
theorem P3{J:List Dat→Prop}:PX P bh b0 R0 0 0 17 F0 J (cr (cr KG)) P1 P1 TX (sg5.tr F0 1):=
 PX.tree (pins:=[]) az (by decide) follows (cons:=[conSigns]) rf (ak:=[]) nd (cores:=[]) (fun _ _ _ h=>by cases h) (inv:=[]) (fun _ _=>aW) (by kernel_rfl)
theorem PY:eB R0 0 [] (ba sgA.l) (aA b0 sgA.o sgA.nx) sgA.l sgA.o sgA.nx=some Wt:=by kernel_rfl
def sgZ:Tl:=⟨[(2,.sym .i64 (.ap 14 (.dvar 0) (.lit 0) (.lit 0)))],[],1024⟩
theorem PZ:dT R0 0 [] [] (ba sgT1.l) (aA b0 sgT1.o sgT1.nx) sgZ.l sgZ.o sgZ.nx=some Ws:=by kernel_rfl
theorem TW:KG=(.seq (cl KG) (.seq (.seq (cl (cl (cr KG))) (.block 0 (.loop (cl (cl (cr (cl (cr KG)))))))) (cr (cr KG)))):=by kernel_rfl
def conSign:Con:={f:=36,args:=[VS 0],pre:=[],res:=.sym .i64 (A1 14 (D 0)),objs:=[]}
theorem TU{x:Dat}:PX P bh b0 R0 0 0 17 F0 (At [x]) KG sgA P1 TX (wv F0):=by
 rw[TW];exact PX.seq (J2:=At [x]) (by decide) P8 (kC rfl) (PX.seq (J2:=fun _=>True) (by decide)
  (PX.seq (J2:=V3) (by decide) P7 (fun s hs _=>by have hs:s=[x]:=hs;subst hs;exact⟨x,sgns,0,rfl,Int.le_refl _,by rw[yT];decide⟩) (PX.block (PX.loopM (by decide) (P5 P6 LS) Hl) rfl)) (fun _ _ _=>trivial) P3)
theorem C6:conSign.Sound F0 P bh b0 R0:=by refine cE (fn:=Tryz.f36) (code:=KG) Tryz.func36 (by rfl) (by kernel_rfl) rfl rfl rfl fun v hF hpre=> ?_;refine⟨.ret,sgZ.l,sgZ.o,sgZ.nx,_,_,.inl rfl,?_,by rfl,rfl⟩;have h:=PX.ret (TU (x:=@Sx.dat v (D 0))) (s:=[@Sx.dat v (D 0)]) rfl (NV _).1;refine HT.pre (bP _) (aT (v:=v) (v':=VL F0 [@Sx.dat v (D 0)]) az PY (ag rfl aK)) (HT.retell (bP _) h (aV (v':=v) az PZ (ag (ct ?_) aK)));rw[gu,show @Sx.dat v (.ap 14 (D 0) (I 0) (I 0))=v.fn 14 (@Sx.dat v (D 0)) (.int 0) (.int 0)from rfl,hF,OP,tI]
def SP:AV:=.ptr 1024 0 0 3
def Qx(x y z:AV):Ob:=.box [x,y,z] 43
def WB:Ob:=Qx (VS 0) (SI 1) (SI 2)
def ins:bo:=[(jE,false),(lt (D 3) (ln (D 0)),true)]
theorem rh:∀c∈[conPart],c.Sound F0 P bh b0 R0:=mT tU
theorem nh:∀c∈([]:List HCon),c.Sound F0 P bh b0 R0:=cQ
def KH:Code:=match Tryz.f30.body with
 |some c=>c
 |none=>.skip
abbrev jG:AV:=.sym .i64 (.dvar 1)
abbrev sA:Ob:=.box [cI,jG,ko] 43
abbrev oU:AV:=.ptr 1024 0 0 3
abbrev qf:List (Nat×AV):=[(0,oU),(1,eL)]
abbrev iA:List (Nat×Ob):=[(1024,sA)]
def rnA:Tl:=⟨qf,iA,1025⟩
def wN:List RE:=[⟨1024,1024,0,0,0⟩]
abbrev iB:AV:=.sym .i64 (.dvar 4)
abbrev BL:List (Nat×AV):=[(0,oU),(1,eL),(5,iB)]
def WI:Tl:=⟨BL,iA,1025⟩
abbrev oS:AV:=.vstr (.dvar 3)
def rnT1:Tl:=⟨[(4,oS)],iA,1025⟩
def Ue:Nat→Tl:=fun w=>match w with
 |2=>WI
 |1=>rnT1
 |_=>rnA
def Uf:Tl:=⟨qf,iA,1025⟩
theorem QU{J:List Dat→Prop}:PX P bh b0 R0 1 1 32 F0 J (cl KH) rnA Uf Ue (rn0.tr F0 4):=
 PX.tree (pins:=wN) az (by decide) follows (cons:=[conPart]) rh (ak:=[]) nh (cores:=[]) (fun _ _ _ h=>by cases h) (inv:=[]) (fun _ _=>aW) (by kernel_rfl)
def QO:Tl:=⟨BL,iA,1025⟩
theorem QT{J:List Dat→Prop}:PX P bh b0 R0 1 1 32 F0 J (cl (cr KH)) Uf QO Ue (rn1.tr F0 5):=
 PX.tree (pins:=wN) az (by decide) follows (cons:=[conPart]) rh (ak:=[]) nh (cores:=[]) (fun _ _ _ h=>by cases h) (inv:=[]) (fun _ _=>aW) (by kernel_rfl)
theorem QS{J:List Dat→Prop}(hinv:∀s,J s→@Holds (VL F0 s) QR):PX P bh b0 R0 1 1 32 F0 J (cl (cl (cl (cr (cr KH))))) QO QO Ue (rn3.tr F0 5):=
 PX.tree (pins:=wN) az (by decide) follows (cons:=[conPart]) rh (ak:=[]) nh (cores:=[]) (fun _ _ _ h=>by cases h) (inv:=QR) hinv (by kernel_rfl)
def QN:Tl:=⟨BL,iA,1025⟩
theorem QQ{J:List Dat→Prop}(hinv:∀s,J s→@Holds (VL F0 s) QP):PX P bh b0 R0 1 1 32 F0 J (cr (cr (cr KH))) QN QN Ue (rn5.tr F0 4):=
 PX.tree (pins:=wN) az (by decide) follows (cons:=[conPart]) rh (ak:=[]) nh (cores:=[]) (fun _ _ _ h=>by cases h) (inv:=QP) hinv (by kernel_rfl)
theorem QL:eB R0 1 [⟨1024,1024,0,0,0⟩] (ba rnA.l) (aA b0 rnA.o rnA.nx) rnA.l rnA.o rnA.nx=some WK:=by kernel_rfl
def rnZ:Tl:=⟨[(4,.vstr HO)],[],1025⟩
theorem QM:dT R0 1 [⟨1024,1024,0,0,0⟩] [] (ba rnT1.l) (aA b0 rnT1.o rnT1.nx) rnZ.l rnZ.o rnZ.nx=some WJ:=by kernel_rfl
theorem Ud:KH=(.seq (cl KH) (.seq (cl (cr KH)) (.seq (.block 0 (.loop (cl (cl (cl (cr (cr KH))))))) (cr (cr (cr KH)))))):=by kernel_rfl
abbrev wW:Bx:=lt (ln (D 0)) kF
abbrev qe:List (Bx×Bool):=[(wW,true)]
def hcRun:HCon:={f:=30,args:=[SP,SI 3],pre:=ins++qe,nr:=1,np:=1,ns:=0,locs:=[⟨none,[0]⟩],ins:=[(1024,WB)],v:=.vstr (A2 23 (D 0) (D 3)),outs:=[],nx:=1025}
theorem Uc{d:Dat}{e ea:Int}{p:Nat}(hp:p≤d.toS.length)(hl:d.toS.length<1000000000):PX P bh b0 R0 1 1 32 F0 (At [d,.int e,.int ea,.int p]) KH rnA QN Ue (yR F0):=by
 rw[Ud];have hle:=oG bD (d.toS.drop p);rw[List.length_drop]at hle;exact PX.seq (J2:=At [d,.int e,.int ea,.int p]) (by decide) QU (kC rfl) (PX.seq (J2:=At [d,.int e,.int ea,.int p,.int p]) (by decide) QT (kC rfl)
  (PX.seq (J2:=V4) (by decide) (PX.weak (PX.block (PX.loopM (by decide) (QS Mm) HB) rfl) (fun s hs=>by have hs:s=[d,.int e,.int ea,.int p,.int p]:=hs;subst hs;exact⟨d,e,ea,p,p,rfl,by omega,by omega,by omega,hl⟩)) (fun s hs _=>by have hs:s=[d,.int e,.int ea,.int p,.int p]:=hs;subst hs;rw[eP (NY (by omega) hl _ p (aE _) (by omega) hp)];exact⟨d,e,ea,p,_,rfl,by omega,by omega,by omega,hl⟩) (QQ Ml)))
theorem Ad:hcRun.Sound F0 P bh b0 R0:=by
 refine dH (fn:=Tryz.f30) (code:=KH) Tryz.func30 (by rfl) (by kernel_rfl) (by kernel_rfl) (by kernel_rfl) fun v hF hpre=> ?_;refine⟨.ret,rnZ.l,_,_,.inl rfl,?_,by rfl,rfl⟩;have k1:=bU (aj hpre).1;have k2:=cD (aj (aj hpre).2).1;have k3:=cD (aj (aj (aj hpre).2).2).1;rw[sI]at k1 k3;rw[show(ln (D 0))=Sx.pr 0 (D 0) (.lit 0)from rfl,cS]at k2 k3;obtain⟨p,hp⟩:∃p:Nat,@Sx.eval v (D 3)=p:=⟨(@Sx.eval v (D 3)).toNat,by omega⟩;obtain⟨d,hd⟩:∃d,d=@Sx.dat v (D 0):=⟨_,rfl⟩;rw[hp]at k2;rw[←hd]at k2 k3;have e:=NX (d:=d) (e:=(@Sx.dat v (D 1)).toI) (ea:=(@Sx.dat v (D 2)).toI) (p:=p) (by omega) (by omega);have h:=PX.ret (Uc (d:=d) (e:=(@Sx.dat v (D 1)).toI) (ea:=(@Sx.dat v (D 2)).toI) (p:=p) (by omega) (by omega)) (s:=[d,.int (@Sx.dat v (D 1)).toI,.int (@Sx.dat v (D 2)).toI,.int p]) rfl (by rw[e]);rw[e]at h;have hD3:(@Sx.dat v (D 3)).toI=p:=hp;refine HT.pre (by decide) (aT (v:=v) (v':=VL F0 [d,.int (@Sx.dat v (D 1)).toI,.int (@Sx.dat v (D 2)).toI,.int p]) az QL (ag (ct hD3) (ag hd.symm (ag rfl (ag rfl aK)))))
  (HT.retell (by decide) h (aV (v':=v) az QM (ag ?_ aK)))
 rw[show @Sx.dat v (.ap 23 (D 0) (D 3) (I 0))=v.fn 23 (@Sx.dat v (D 0)) (@Sx.dat v (D 3)) (.int 0)from rfl,hF,←hd,f23 (by omega) (by omega) hD3];rfl
end
end Go.Proofs.YtbfonficacphkaaGreatDoor
set_option linter.all false
namespace Go.Proofs.YtbfonficacphkaaGreatDoor
open Go.Tw Go.Tw.LX
noncomputable section
theorem LU:∀c∈[conLow],c.Sound F0 P bh b0 R0:=mT Gp
theorem Hm:∀c∈([]:List HCon),c.Sound F0 P bh b0 R0:=cQ
def Yi:Code:=match Tryz.f33.body with
 |some c=>c
 |none=>.skip
def sfA:Tl:=⟨mG,[],1024⟩
def sfT1:Tl:=⟨[(2,cI),(3,.symb (.cmp .neq (.dvar 1) (.lit 0)))],[],1024⟩
def YI:Nat→Tl:=fun w=>match w with
 |1=>sfT1
 |_=>sfA
theorem Qc{J:List Dat→Prop}(hinv:∀s,J s→@Holds (VL F0 s) Qb):PX P bh b0 R0 0 0 15 F0 J Yi sfA sfA YI (sf0.tr F0 2):=
 PX.tree (pins:=[]) az (by decide) follows (cons:=[conLow]) LU (ak:=[]) Hm (cores:=[]) (fun _ _ _ h=>by cases h) (inv:=Qb) hinv (by kernel_rfl)
theorem P9:eB R0 0 [] (ba sfA.l) (aA b0 sfA.o sfA.nx) sfA.l sfA.o sfA.nx=some Wv:=by kernel_rfl
def sfZ:Tl:=⟨[(2,.vstr (.ap 18 (.dvar 0) (.lit 0) (.lit 0))),(3,.symb (.cmp .neq (.ap 19 (.dvar 0) (.lit 0) (.lit 0)) (.lit 0)))],[],1024⟩
theorem Qa:dT R0 0 [] [] (ba sfT1.l) (aA b0 sfT1.o sfT1.nx) sfZ.l sfZ.o sfZ.nx=some Wu:=by kernel_rfl
def conSuf:Con:={f:=33,args:=[VS 0],pre:=[(wW,true),(eq (A1 5 (D 0)) (I 1),true)],res:=.tup [.vstr (A1 18 (D 0)),.symb (.cmp .neq (A1 19 (D 0)) (.lit 0))],objs:=[]}
theorem Gn:conSuf.Sound F0 P bh b0 R0:=by
 refine cE (fn:=Tryz.f33) (code:=Yi) Tryz.func33 (by rfl) (by kernel_rfl) rfl rfl rfl fun v hF hpre=> ?_;refine⟨.ret,sfZ.l,sfZ.o,sfZ.nx,_,_,.inl rfl,?_,by rfl,rfl⟩;have hi:@Holds (VL F0 [@Sx.dat v (D 0)]) Qb:=by have k1:=cD (aj hpre).1;have k2:=mP (aj (aj hpre).2).1;rw[show(ln (D 0))=Sx.pr 0 (D 0) (.lit 0)from rfl,cS,sI]at k1;rw[sI,show @Sx.eval v (A1 5 (D 0))=(v.fn 5 (@Sx.dat v (D 0)) (.int 0) (.int 0)).toI from rfl,hF]at k2;exact ak (DW (by rw[cS,sI,cm];exact k1)) (ak (SZ (by rw[iS,sI,cm];exact k2)) aW)
 have h:=PX.ret (Qc (J:=At [@Sx.dat v (D 0)]) (fun s hs=>by have hs:s=[@Sx.dat v (D 0)]:=hs;subst hs;exact hi)) (s:=[@Sx.dat v (D 0)]) rfl (Ot (J:=fun _=>True) (cores:=[]) (inv:=[]) (fun _ _ _ h=>by cases h) (fun _ _=>aW) (by kernel_rfl) (by kernel_rfl) trivial);refine HT.pre (bP _) (aT (v:=v) (v':=VL F0 [@Sx.dat v (D 0)]) az P9 (ag rfl aK)) (HT.retell (bP _) h (aV (v':=v) az Qa (ag ?_ (ag (Ty ?_) aK))));{rw[gu,show @Sx.dat v (.ap 18 (D 0) (I 0) (I 0))=v.fn 18 (@Sx.dat v (D 0)) (.int 0) (.int 0)from rfl,hF,VK];unfold wx;rfl};rw[gu,show @Sx.dat v (.ap 19 (D 0) (I 0) (I 0))=v.fn 19 (@Sx.dat v (D 0)) (.int 0) (.int 0)from rfl,hF,VJ];unfold wx;rw[tI]
theorem LD:∀c∈[gz KF,gz Tf,gz KE],c.Sound F0 P bh b0 R0:=yo yn (yo Az (mT ym))
theorem G8:∀c∈([]:List HCon),c.Sound F0 P bh b0 R0:=cQ
def Yg:Code:=match Tryz.f32.body with
 |some c=>c
 |none=>.skip
def spA:Tl:=⟨mG,[],1024⟩
def spT1:Tl:=⟨[(2,sw),(3,.vstr (.dvar 1)),(4,sG)],[],1024⟩
def YF:Nat→Tl:=fun w=>match w with
 |1=>spT1
 |_=>spA
theorem Pn{J:List Dat→Prop}(hco:∀s,J s→∀q∈LF,¬@Holds (VL F0 s) q)(hinv:∀s,J s→@Holds (VL F0 s) Pm):PX P bh b0 R0 0 0 33 F0 J Yg spA spA YF (sp0.tr F0 3):=
 PX.tree (pins:=[]) az (by decide) follows (cons:=[gz KF,gz Tf,gz KE]) LD (ak:=[]) G8 (cores:=LF) hco (inv:=Pm) hinv (by kernel_rfl)
theorem O7:eB R0 0 [] (ba spA.l) (aA b0 spA.o spA.nx) spA.l spA.o spA.nx=some Wi:=by kernel_rfl
def spZ:Tl:=⟨[(2,.sym .i64 (.ap 20 (.dvar 0) (.lit 0) (.lit 0))),(3,.vstr (.ap 21 (.dvar 0) (.lit 0) (.lit 0))),(4,.vstr (.ap 22 (.dvar 0) (.lit 0) (.lit 0)))],[],1024⟩
theorem O8:dT R0 0 [] [] (ba spT1.l) (aA b0 spT1.o spT1.nx) spZ.l spZ.o spZ.nx=some Wh:=by kernel_rfl
def conSplit:Con:={f:=32,args:=[VS 0],pre:=[(lt (ln (D 0)) (I 1),false),(wW,true)],res:=.tup [.sym .i64 (A1 20 (D 0)),.vstr (A1 21 (D 0)),.vstr (A1 22 (D 0))],objs:=[]}
theorem AA:conSplit.Sound F0 P bh b0 R0:=by
 refine cE (fn:=Tryz.f32) (code:=Yg) Tryz.func32 (by rfl) (by kernel_rfl) rfl rfl rfl fun v hF hpre=> ?_;refine⟨.ret,spZ.l,spZ.o,spZ.nx,_,_,.inl rfl,?_,by rfl,rfl⟩;have k1:=bU (aj hpre).1;have k2:=cD (aj (aj hpre).2).1;rw[show(ln (D 0))=Sx.pr 0 (D 0) (.lit 0)from rfl,cS,sI]at k1 k2;have hl:(@Sx.dat v (D 0)).toS.length<1000000000:=by omega
 have hi:@Holds (VL F0 [@Sx.dat v (D 0)]) Pm:=ak (DW (by rw[cS,sI,cm];exact k2)) (ak (qJ (by rw[cS,sI,cm];exact k1)) aW);have h:=PX.ret (Pn (J:=At [@Sx.dat v (D 0)]) (fun s hs=>by
  have hs:s=[@Sx.dat v (D 0)]:=hs;subst hs;exact Po hl) (fun s hs=>by
  have hs:s=[@Sx.dat v (D 0)]:=hs;subst hs;exact hi)) (s:=[@Sx.dat v (D 0)]) rfl (by obtain⟨k,x,y,e,_⟩:=NT (d:=@Sx.dat v (D 0)) hl (by omega);rw[e])
 refine HT.pre (bP _) (aT (v:=v) (v':=VL F0 [@Sx.dat v (D 0)]) az O7 (ag rfl aK)) (HT.retell (bP _) h (aV (v':=v) az O8 (ag (ct ?_) (ag ?_ (ag ?_ aK)))));{rw[gu,show @Sx.dat v (.ap 20 (D 0) (I 0) (I 0))=v.fn 20 (@Sx.dat v (D 0)) (.int 0) (.int 0)from rfl,hF,F0_20];unfold mA;rw[tI]};{rw[gu,show @Sx.dat v (.ap 21 (D 0) (I 0) (I 0))=v.fn 21 (@Sx.dat v (D 0)) (.int 0) (.int 0)from rfl,hF,F0_21];unfold mA;rfl};rw[gu,show @Sx.dat v (.ap 22 (D 0) (I 0) (I 0))=v.fn 22 (@Sx.dat v (D 0)) (.int 0) (.int 0)from rfl,hF,F0_22];unfold mA;rfl
theorem dS:∀c∈([]:List Con),c.Sound F0 P bh b0 R0:=qk
theorem df:∀c∈([]:List HCon),c.Sound F0 P bh b0 R0:=cQ
def mR:Code:=match Tryz.f46.body with
 |some c=>c
 |none=>.skip
abbrev w9:List (Nat×AV):=[(0,cI),(1,jG),(2,ko)]
def piA:Tl:=⟨w9,[],1024⟩
def piT1:Tl:=⟨[(6,.sym .u64 (.dvar 0)),(7,.opq 5 0 100 jD (.dvar 1) (.lit 0))],[],1024⟩
abbrev kp:AV:=.symb (.cmp .neq (.dvar 2) (.lit 0))
abbrev IB:List (Nat×AV):=[(1,sw),(9,.vstr (.dvar 1)),(12,kp),(13,.sym .u64 (.dvar 3))]
def WR:Tl:=⟨IB,[],1024⟩
def B1:Nat→Tl:=fun w=>match w with
 |1=>piT1
 |5=>WR
 |_=>piA
def UD:Tl:=⟨w9,[],1024⟩
theorem Rv{J:List Dat→Prop}:PX P bh b0 R0 0 0 172 F0 J (cl mR) piA UD B1 (pi0.tr F0 3):=
 PX.tree (pins:=[]) az (by decide) follows (cons:=[]) dS (ak:=[]) df (cores:=[]) (fun _ _ _ h=>by cases h) (inv:=[]) (fun _ _=>aW) (by kernel_rfl)
def UC:Tl:=⟨w9,[],1024⟩
theorem Rs{J:List Dat→Prop}:PX P bh b0 R0 0 0 172 F0 J (cl (cr mR)) UD UC B1 (pi1.tr F0 3):=
 PX.tree (pins:=[]) az (by decide) follows (cons:=[]) dS (ak:=[]) df (cores:=[]) (fun _ _ _ h=>by cases h) (inv:=[]) (fun _ _=>aW) (by kernel_rfl)
abbrev vb:AV:=.symb (.cmp .neq (.dvar 3) (.lit 0))
def UB:Tl:=⟨[(0,cI),(1,jG),(2,ko),(8,vb)],[],1024⟩
theorem Rr{J:List Dat→Prop}:PX P bh b0 R0 0 0 172 F0 J (cl (cr (cr mR))) UC UB B1 (pi2.tr F0 4):=
 PX.tree (pins:=[]) az (by decide) follows (cons:=[]) dS (ak:=[]) df (cores:=[]) (fun _ _ _ h=>by cases h) (inv:=[]) (fun _ _=>aW) (by kernel_rfl)
abbrev sF:AV:=.vstr (.dvar 4)
abbrev DE:List (Nat×AV):=[(0,cI),(1,jG),(2,ko),(8,vb),(9,sF)]
def UA:Tl:=⟨DE,[],1024⟩
theorem Rq{J:List Dat→Prop}(hinv:∀s,J s→@Holds (VL F0 s) UK):PX P bh b0 R0 0 0 172 F0 J (cl (cr (cr (cr mR)))) UB UA B1 (pi3.tr F0 5):=
 PX.tree (pins:=[]) az (by decide) follows (cons:=[]) dS (ak:=[]) df (cores:=[]) (fun _ _ _ h=>by cases h) (inv:=UK) hinv (by kernel_rfl)
def Uz:Tl:=⟨DE,[],1024⟩
theorem Rp{J:List Dat→Prop}(hco:∀s,J s→∀q∈Mw,¬@Holds (VL F0 s) q)(hinv:∀s,J s→@Holds (VL F0 s) UI):PX P bh b0 R0 0 0 172 F0 J (cl (cr (cr (cr (cr mR))))) UA Uz B1 (pi4.tr F0 5):=
 PX.tree (pins:=[]) az (by decide) follows (cons:=[]) dS (ak:=[]) df (cores:=Mw) hco (inv:=UI) hinv (by kernel_rfl)
def Uy:Tl:=⟨DE,[],1024⟩
theorem Ro{J:List Dat→Prop}(hco:∀s,J s→∀q∈Mv,¬@Holds (VL F0 s) q)(hinv:∀s,J s→@Holds (VL F0 s) UG):PX P bh b0 R0 0 0 172 F0 J (cl (cr (cr (cr (cr (cr mR)))))) Uz Uy B1 (pi5.tr F0 5):=
 PX.tree (pins:=[]) az (by decide) follows (cons:=[]) dS (ak:=[]) df (cores:=Mv) hco (inv:=UG) hinv (by kernel_rfl)
def Ux:Tl:=⟨DE,[],1024⟩
theorem Rn{J:List Dat→Prop}(hinv:∀s,J s→@Holds (VL F0 s) UF):PX P bh b0 R0 0 0 172 F0 J (cl (cr (cr (cr (cr (cr (cr mR))))))) Uy Ux B1 (pi6.tr F0 5):=
 PX.tree (pins:=[]) az (by decide) follows (cons:=[]) dS (ak:=[]) df (cores:=[]) (fun _ _ _ h=>by cases h) (inv:=UF) hinv (by kernel_rfl)
abbrev sM:AV:=.sym .u64 (.dvar 5)
def Uw:Tl:=⟨[(0,cI),(1,jG),(2,ko),(8,vb),(9,sF),(10,sM)],[],1024⟩
theorem Rm{J:List Dat→Prop}(hco:∀s,J s→∀q∈Mu,¬@Holds (VL F0 s) q)(hinv:∀s,J s→@Holds (VL F0 s) UE):PX P bh b0 R0 0 0 172 F0 J (cl (cr (cr (cr (cr (cr (cr (cr mR)))))))) Ux Uw B1 (pi7.tr F0 6):=
 PX.tree (pins:=[]) az (by decide) follows (cons:=[]) dS (ak:=[]) df (cores:=Mu) hco (inv:=UE) hinv (by kernel_rfl)
abbrev BD:AV:=.sym .u64 (.dvar 6)
def Uv:Tl:=⟨[(0,cI),(1,jG),(2,ko),(8,vb),(9,sF),(10,sM),(11,BD)],[],1024⟩
theorem Rl{J:List Dat→Prop}(hco:∀s,J s→∀q∈I3,¬@Holds (VL F0 s) q):PX P bh b0 R0 0 0 172 F0 J (cl (cr (cr (cr (cr (cr (cr (cr (cr mR))))))))) Uw Uv B1 (pi8.tr F0 7):=
 PX.tree (pins:=[]) az (by decide) follows (cons:=[]) dS (ak:=[]) df (cores:=I3) hco (inv:=[]) (fun _ _=>aW) (by kernel_rfl)
abbrev H9:AV:=.symb (.cmp .neq (.dvar 7) (.lit 0))
def Uu:Tl:=⟨[(0,cI),(1,jG),(2,ko),(8,vb),(9,sF),(10,sM),(11,BD),(12,H9)],[],1024⟩
theorem Rk{J:List Dat→Prop}:PX P bh b0 R0 0 0 172 F0 J (cl (cr (cr (cr (cr (cr (cr (cr (cr (cr mR)))))))))) Uv Uu B1 (pi9.tr F0 8):=
 PX.tree (pins:=[]) az (by decide) follows (cons:=[]) dS (ak:=[]) df (cores:=[]) (fun _ _ _ h=>by cases h) (inv:=[]) (fun _ _=>aW) (by kernel_rfl)
def Oa:Tl:=⟨[(0,cI),(1,jG),(2,ko),(8,vb),(9,sF),(10,sM),(11,BD),(12,H9),(13,.sym .u64 (.dvar 8))],[],1024⟩
theorem MC{J:List Dat→Prop}:PX P bh b0 R0 0 0 172 F0 J (cl (cr (cr (cr (cr (cr (cr (cr (cr (cr (cr mR))))))))))) Uu Oa B1 (pi10.tr F0 9):=
 PX.tree (pins:=[]) az (by decide) follows (cons:=[]) dS (ak:=[]) df (cores:=[]) (fun _ _ _ h=>by cases h) (inv:=[]) (fun _ _=>aW) (by kernel_rfl)
abbrev kq:Sh:=.slc [.int .u8]
abbrev mH:AV:=.sym .i64 (.dvar 9)
def I1:Tl:=⟨[(1,sw),(2,jG),(8,kp),(9,oS),(10,.sym .u64 (.dvar 4)),(11,sM),(12,.symb (.cmp .neq (.dvar 6) (.lit 0))),(13,.sym .u64 (.dvar 7)),(99,.opq 2 1024 0 kq (.lit 0) (.lit 1)),(100,mH),(101,.sym .i64 oP)],[(1024,.opq 2 0 1023 kq (.dvar 8) (.lit 1) [] 5)],1025⟩
theorem MB{J:List Dat→Prop}:PX P bh b0 R0 0 0 172 F0 J (cl (cl (cr (cr (cr (cr (cr (cr (cr (cr (cr (cr (cr mR))))))))))))) Oa I1 B1 (pi11.tr F0 11):=
 PX.tree (pins:=[]) az (by decide) follows (cons:=[]) dS (ak:=[]) df (cores:=[]) (fun _ _ _ h=>by cases h) (inv:=[]) (fun _ _=>aW) (by kernel_rfl)
theorem MA{J:List Dat→Prop}(hco:∀s,J s→∀q∈zy,¬@Holds (VL F0 s) q)(hinv:∀s,J s→@Holds (VL F0 s) sY):PX P bh b0 R0 0 0 172 F0 J (cl (cl (cr (cl (cr (cr (cr (cr (cr (cr (cr (cr (cr (cr (cr mR))))))))))))))) I1 I1 B1 (pi13.tr F0 11):=
 PX.tree (pins:=[]) az (by decide) follows (cons:=[]) dS (ak:=[]) df (cores:=zy) hco (inv:=sY) hinv (by kernel_rfl)
def I0:Tl:=⟨IB,[],1024⟩
theorem Mx{J:List Dat→Prop}(hinv:∀s,J s→@Holds (VL F0 s) Je):PX P bh b0 R0 0 0 172 F0 J (cr (cr (cr (cr (cr (cr (cr (cr (cr (cr (cr (cr mR)))))))))))) I0 I0 B1 (pi15.tr F0 2):=
 PX.tree (pins:=[]) az (by decide) follows (cons:=[]) dS (ak:=[]) df (cores:=[]) (fun _ _ _ h=>by cases h) (inv:=Je) hinv (by kernel_rfl)
theorem Ri:eB R0 0 [] (ba piA.l) (aA b0 piA.o piA.nx) piA.l piA.o piA.nx=some WU:=by kernel_rfl
abbrev Is:AV:=.sym .u64 (.ap 10 (.dvar 0) (.dvar 1) (.dvar 2))
def piZ:Tl:=⟨[(6,Is),(7,.opq 5 0 100 jD (.ap 0 (.dvar 0) (.dvar 1) (.dvar 2)) (.lit 0))],[],1024⟩
theorem Rj:dT R0 0 [] [] (ba piT1.l) (aA b0 piT1.o piT1.nx) piZ.l piZ.o piZ.nx=some WT:=by kernel_rfl
theorem Us:mR=(.seq (cl mR) (.seq (cl (cr mR)) (.seq (cl (cr (cr mR))) (.seq (cl (cr (cr (cr mR)))) (.seq (cl (cr (cr (cr (cr mR))))) (.seq (cl (cr (cr (cr (cr (cr mR)))))) (.seq (cl (cr (cr (cr (cr (cr (cr mR))))))) (.seq (cl (cr (cr (cr (cr (cr (cr (cr mR)))))))) (.seq (cl (cr (cr (cr (cr (cr (cr (cr (cr mR))))))))) (.seq (cl (cr (cr (cr (cr (cr (cr (cr (cr (cr mR)))))))))) (.seq (cl (cr (cr (cr (cr (cr (cr (cr (cr (cr (cr mR))))))))))) (.seq (.seq (cl (cl (cr (cr (cr (cr (cr (cr (cr (cr (cr (cr (cr mR))))))))))))) (.block 3 (.loop (cl (cl (cr (cl (cr (cr (cr (cr (cr (cr (cr (cr (cr (cr (cr mR)))))))))))))))))) (cr (cr (cr (cr (cr (cr (cr (cr (cr (cr (cr (cr mR)))))))))))))))))))))))):=by kernel_rfl
theorem Ur:PX P bh b0 R0 0 0 172 F0 K0 mR piA I0 B1 (mZ F0):=by
 rw[Us];exact PX.seq (J2:=K0) (by decide) Rv (fun s hs _=>hs) (PX.seq (J2:=K0) (by decide) Rs Jd (PX.seq (J2:=K3) (by decide) Rr (fun s hs _=>Jc s hs)
  (PX.seq (J2:=K3) (by decide) (Rq (fun s hs=>jv s hs.1.1)) (fun s hs _=>Jb s hs) (PX.seq (J2:=K3) (by decide) (Rp (fun s _=>Ja s) (fun s hs=>jv s hs.1.1)) (fun s hs _=>I9 s hs)
  (PX.seq (J2:=K3) (by decide) (Ro (fun s _=>I8 s) (fun s hs=>jv s hs.1.1)) (fun s hs _=>I7 s hs) (PX.seq (J2:=K3) (by decide) (Rn (fun s hs=>jv s hs.1.1)) (fun s hs _=>I6 s hs)
  (PX.seq (J2:=K3) (by decide) (Rm B2 (fun s hs=>jv s hs.1.1)) (fun s hs _=>I5 s hs) (PX.seq (J2:=K3) (by decide) (Rl xg) (fun s hs _=>I4 s hs)
  (PX.seq (J2:=K7) (by decide) Rk (fun s hs _=>I2 s hs) (PX.seq (J2:=K7) (by decide) MC (fun s hs _=>B3 s hs)
  (PX.seq (J2:=VA) (by decide) (PX.seq (J2:=K8) (by decide) MB (fun s hs _=>o6 s hs) (PX.block (PX.loopM (by decide) (MA lT jI) xf) rfl)) (fun s hs h=>by unfold aG at h⊢;have e:(pi11.tr F0 11 s).1=0:=rfl;rw[if_pos e]at h⊢;exact sZ _ (o6 s hs) h) (Mx zx))))))))))))
end
end Go.Proofs.YtbfonficacphkaaGreatDoor
set_option linter.all false
namespace Go.Proofs.YtbfonficacphkaaGreatDoor
open Go.Tw Go.Tw.LX
noncomputable section
def XS:bo:=H8
abbrev H4:AV:=.sym .u64 (A3 10 (D 0) (D 1) (D 2))
def conPI:Con:={f:=46,args:=[VS 0,SI 1,SI 2],pre:=XS++qe,res:=.tup [H4,.opq 5 0 100 jD (A3 0 (D 0) (D 1) (D 2)) (.lit 0)],objs:=[]}
theorem KU{v:Val}(h:@Holds v (XS++qe)):K0 [@Sx.dat v (D 0),.int (@Sx.dat v (D 1)).toI,.int (@Sx.dat v (D 2)).toI]:=by have k1:=bU (aj h).1;have h:=(aj h).2;have k2:=bU (aj h).1;have h:=(aj h).2;have k3:=bU (aj h).1;have h:=(aj h).2;have k4:=bU (aj h).1;have h:=(aj h).2;have k5:=cD (aj h).1;rw[show(ln (D 0))=Sx.pr 0 (D 0) (.lit 0)from rfl,cS]at k5;rw[sI]at k1 k2 k3 k4 k5;have e1:@Sx.eval v (D 1)=(@Sx.dat v (D 1)).toI:=rfl;have e2:@Sx.eval v (D 2)=(@Sx.dat v (D 2)).toI:=rfl;rw[e1]at k1 k2;rw[e2]at k3 k4;exact⟨⟨by show 2≤(@Sx.dat v (D 1)).toI;omega,by show(@Sx.dat v (D 1)).toI≤36;omega,by show 1≤(@Sx.dat v (D 2)).toI;omega,by show(@Sx.dat v (D 2)).toI≤64;omega⟩,by show(@Sx.dat v (D 0)).toS.length<_;omega⟩
theorem KL:conPI.Sound F0 P bh b0 R0:=by
 refine cE (fn:=Tryz.f46) (code:=mR) Tryz.func46 (by rfl) (by kernel_rfl) rfl rfl rfl fun v hF hpre=> ?_;refine⟨.ret,piZ.l,piZ.o,piZ.nx,_,_,.inl rfl,?_,by rfl,rfl⟩;have hk:=KU hpre;have h:=PX.ret Ur hk (ru IZ hk);refine HT.pre (bP _) (aT (v:=v) (v':=VL F0 [@Sx.dat v (D 0),.int (@Sx.dat v (D 1)).toI,.int (@Sx.dat v (D 2)).toI]) az Ri (ag rfl (ag (ct rfl) (ag (ct rfl) aK))))
  (HT.retell (bP _) h (aV (v':=v) az Rj (ag (ct ?_) (ag ?_ aK))))
 {rw[gu,show @Sx.dat v (.ap 10 (D 0) (D 1) (D 2))=v.fn 10 (@Sx.dat v (D 0)) (@Sx.dat v (D 1)) (@Sx.dat v (D 2))from rfl,hF,Ll,tI]};rw[gu,show @Sx.dat v (.ap 0 (D 0) (D 1) (D 2))=v.fn 0 (@Sx.dat v (D 0)) (@Sx.dat v (D 1)) (@Sx.dat v (D 2))from rfl,hF,VO];exact Rh hk
theorem Ms:∀c∈[conPI,conClone],c.Sound F0 P bh b0 R0:=yo KL (mT AG)
theorem IS:∀c∈([]:List HCon),c.Sound F0 P bh b0 R0:=cQ
def Th:Con:=conPI
def Yj:Code:=match Tryz.f34.body with
 |some c=>c
 |none=>.skip
def puA:Tl:=⟨w9,[],1024⟩
def puT1:Tl:=⟨[(6,.sym .u64 (.dvar 0)),(7,.opq 5 0 0 (.bool) (.dvar 1) (.lit 0))],[],1024⟩
def YL:Nat→Tl:=fun w=>match w with
 |1=>puT1
 |_=>puA
theorem Rg{J:List Dat→Prop}(hco:∀s,J s→∀q∈Fq,¬@Holds (VL F0 s) q)(hinv:∀s,J s→@Holds (VL F0 s) Rf):PX P bh b0 R0 0 0 26 F0 J Yj puA puA YL (pu0.tr F0 2):=
 PX.tree (pins:=[]) az (by decide) follows (cons:=[Th,conClone]) Ms (ak:=[]) IS (cores:=Fq) hco (inv:=Rf) hinv (by kernel_rfl)
theorem Rd:eB R0 0 [] (ba puA.l) (aA b0 puA.o puA.nx) puA.l puA.o puA.nx=some WQ:=by kernel_rfl
def puZ:Tl:=⟨[(6,Is),(7,.opq 5 0 0 (.bool) (.ap 11 (.dvar 0) (.dvar 1) (.dvar 2)) (.lit 0))],[],1024⟩
theorem Re:dT R0 0 [] [] (ba puT1.l) (aA b0 puT1.o puT1.nx) puZ.l puZ.o puZ.nx=some WO:=by kernel_rfl
def conPU:Con:={f:=34,args:=[VS 0,SI 1,SI 2],pre:=XS++qe,res:=.tup [H4,.opq 5 0 0 .bool (A3 11 (D 0) (D 1) (D 2)) (.lit 0)],objs:=[]}
theorem DI{s:List Dat}(hco:∀q∈Fq,¬@Holds (VL F0 s) q):(pu0.tr F0 2 s).1=1:=by have:=dx (J:=At s) (sp:=pu0) (m:=2) (l:=[1]) (cores:=Fq) (inv:=[]) (fun s' hs=>by have hs:s'=s:=hs;subst hs;exact hco) (fun _ _=>aW) (by kernel_rfl) (by kernel_rfl) s rfl;simpa using this
theorem AE:conPU.Sound F0 P bh b0 R0:=by
 refine cE (fn:=Tryz.f34) (code:=Yj) Tryz.func34 (by rfl) (by kernel_rfl) rfl rfl rfl fun v hF hpre=> ?_;refine⟨.ret,puZ.l,puZ.o,puZ.nx,_,_,.inl rfl,?_,by rfl,rfl⟩;have hk:=KU hpre;have hi:@Holds (VL F0 [@Sx.dat v (D 0),.int (@Sx.dat v (D 1)).toI,.int (@Sx.dat v (D 2)).toI]) Rf:=by have b:=jv _ hk.1;have k1:=(aj b).1;have b:=(aj b).2;have k2:=(aj b).1;have b:=(aj b).2;have k3:=(aj b).1;have b:=(aj b).2;have k4:=(aj b).1;exact ak k1 (ak k2 (ak k3 (ak k4 (ak (DW (by rw[cS,sI,cm];have:=hk.2;have e:(@Sx.dat v (D 0)).toS.length<1000000000:=this;omega)) aW))))
 have h:=PX.ret (Rg (J:=At [@Sx.dat v (D 0),.int (@Sx.dat v (D 1)).toI,.int (@Sx.dat v (D 2)).toI]) (fun s hs=>by
  have hs:s=[@Sx.dat v (D 0),.int (@Sx.dat v (D 1)).toI,.int (@Sx.dat v (D 2)).toI]:=hs;subst hs;exact BZ hk) (fun s hs=>by
  have hs:s=[@Sx.dat v (D 0),.int (@Sx.dat v (D 1)).toI,.int (@Sx.dat v (D 2)).toI]:=hs;subst hs;exact hi)) rfl (DI (BZ hk))
 have e1:∃z,(pu0.tr F0 2 [@Sx.dat v (D 0),.int (@Sx.dat v (D 1)).toI,.int (@Sx.dat v (D 2)).toI]).2=.int (F0 10 (@Sx.dat v (D 0)) (.int (@Sx.dat v (D 1)).toI) (.int (@Sx.dat v (D 2)).toI)).toI::z:=by have hf:=DI (BZ hk);revert hf;simp only[pu0,aI];split;{intro _;exact⟨_,rfl⟩};split;{intro _;exact⟨_,rfl⟩};split;{intro _;exact⟨_,rfl⟩};intro hf;cases hf
 obtain⟨z,e1⟩:=e1;refine HT.pre (bP _) (aT (v:=v) (v':=VL F0 [@Sx.dat v (D 0),.int (@Sx.dat v (D 1)).toI,.int (@Sx.dat v (D 2)).toI]) az Rd (ag rfl (ag (ct rfl) (ag (ct rfl) aK))))
  (HT.retell (bP _) h (aV (v':=v) az Re (ag (ct ?_) (ag ?_ aK))))
 {rw[gu,e1,XT,tI,show @Sx.dat v (.ap 10 (D 0) (D 1) (D 2))=v.fn 10 (@Sx.dat v (D 0)) (@Sx.dat v (D 1)) (@Sx.dat v (D 2))from rfl,hF,Ll,Ll];rfl};rw[gu,show @Sx.dat v (.ap 11 (D 0) (D 1) (D 2))=v.fn 11 (@Sx.dat v (D 0)) (@Sx.dat v (D 1)) (@Sx.dat v (D 2))from rfl,hF,VN];unfold E2;rfl
theorem Nw:∀c∈[conPU,conPart],c.Sound F0 P bh b0 R0:=yo AE (mT tU)
theorem Kr:∀c∈([]:List HCon),c.Sound F0 P bh b0 R0:=cQ
def C8:Con:=conPU
def Yq:Code:=match Tryz.f35.body with
 |some c=>c
 |none=>.skip
def esA:Tl:=⟨mG,[],1024⟩
def esT1:Tl:=⟨[(2,wX),(3,jG)],[],1024⟩
def YU:Nat→Tl:=fun w=>match w with
 |1=>esT1
 |_=>esA
theorem SV{J:List Dat→Prop}(hco:∀s,J s→∀q∈Ny,¬@Holds (VL F0 s) q)(hinv:∀s,J s→@Holds (VL F0 s) SU):PX P bh b0 R0 0 0 49 F0 J Yq esA esA YU (es0.tr F0 2):=
 PX.tree (pins:=[]) az (by decide) follows (cons:=[C8,conPart]) Nw (ak:=[]) Kr (cores:=Ny) hco (inv:=SU) hinv (by kernel_rfl)
theorem SO:eB R0 0 [] (ba esA.l) (aA b0 esA.o esA.nx) esA.l esA.o esA.nx=some XI:=by kernel_rfl
def esZ:Tl:=⟨[(2,.sym .u8 (.ap 24 (.dvar 0) (.lit 0) (.lit 0))),(3,.sym .i64 (.ap 25 (.dvar 0) (.lit 0) (.lit 0)))],[],1024⟩
theorem SQ:dT R0 0 [] [] (ba esT1.l) (aA b0 esT1.o esT1.nx) esZ.l esZ.o esZ.nx=some XH:=by kernel_rfl
def conEsc:Con:={f:=35,args:=[VS 0],pre:=qe,res:=.tup [.sym .u8 (A1 24 (D 0)),.sym .i64 (A1 25 (D 0))],objs:=[]}
theorem Gr:conEsc.Sound F0 P bh b0 R0:=by
 refine cE (fn:=Tryz.f35) (code:=Yq) Tryz.func35 (by rfl) (by kernel_rfl) rfl rfl rfl fun v hF hpre=> ?_;refine⟨.ret,esZ.l,esZ.o,esZ.nx,_,_,.inl rfl,?_,by rfl,rfl⟩;have k1:=cD (aj hpre).1;rw[show(ln (D 0))=Sx.pr 0 (D 0) (.lit 0)from rfl,cS,sI]at k1;have hi:@Holds (VL F0 [@Sx.dat v (D 0)]) SU:=ak (DW (by rw[cS,sI,cm];exact k1)) aW;have h:=PX.ret (SV (J:=At [@Sx.dat v (D 0)]) (fun s hs=>by
  have hs:s=[@Sx.dat v (D 0)]:=hs;subst hs;exact SW) (fun s hs=>by
  have hs:s=[@Sx.dat v (D 0)]:=hs;subst hs;exact hi)) rfl (by rw[Ei,tO])
 rw[Ei,tO]at h;refine HT.pre (bP _) (aT (v:=v) (v':=VL F0 [@Sx.dat v (D 0)]) az SO (ag rfl aK)) (HT.retell (bP _) h (aV (v':=v) az SQ (ag (ct ?_) (ag (ct ?_) aK))));{rw[show @Sx.dat v (.ap 24 (D 0) (I 0) (I 0))=v.fn 24 (@Sx.dat v (D 0)) (.int 0) (.int 0)from rfl,hF,f24,cm];rfl};rw[show @Sx.dat v (.ap 25 (D 0) (I 0) (I 0))=v.fn 25 (@Sx.dat v (D 0)) (.int 0) (.int 0)from rfl,hF,f25,kJ]
end
end Go.Proofs.YtbfonficacphkaaGreatDoor
