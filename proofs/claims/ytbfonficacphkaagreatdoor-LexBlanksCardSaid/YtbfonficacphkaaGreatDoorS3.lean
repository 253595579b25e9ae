/-
  A part of the law's proof over the abstract evaluator. Conditions: those of each theorem, as it states them.
-/
import Derived.Test.YtbfonficacphkaaGreatDoorS2
import Derived.Test.YtbfonficacphkaaGreatDoorH1
import Derived.Test.YtbfonficacphkaaGreatDoorL2
set_option linter.all false
set_option linter.all false
namespace Go.Proofs.YtbfonficacphkaaGreatDoor
open Go.Tw Go.Tw.LX
noncomputable section
theorem rk:∀c∈([]:List Con),c.Sound F0 P bh b0 R0:=qj
theorem nS:∀c∈([]:List HCon),c.Sound F0 P bh b0 R0:=cO
def KI:Code:=match Tryz.f51.body with
 |some c=>c
 |none=>.skip
abbrev Ik:Ob:=.opq 2 0 1023 kn (.dvar 0) (.dvar 2) [] 9
def ixA:Tl:=⟨[(0,.opq 2 1024 0 kn (.lit 0) (.dvar 2)),(1,.vstr (.dvar 1))],[(1024,Ik)],1025⟩
def xT:List RE:=[⟨1024,1024,0,0,0⟩]
abbrev ko:AV:=.sym .i64 (.dvar 2)
def ixT1:Tl:=⟨[(4,ko)],sB,1025⟩
def Xa:Tl:=⟨[],sB,1025⟩
def U7:Nat→Tl:=fun w=>match w with
 |1=>ixT1
 |2=>Xa
 |_=>ixA
abbrev sE:AV:=.vstr (.dvar 2)
def U8:Tl:=⟨[(0,Dz),(1,sE)],sB,1025⟩
theorem Su{J:List Dat→Prop}:PX P bh b0 R0 0 1048576 19 F0 J (cl KI) ixA U8 U7 (ix0.tr F0 3):=
 PX.tree (pins:=xT) az (by decide) follows (cons:=[]) rk (ak:=[]) nS (cores:=[]) (fun _ _ _ h=>by cases h) (inv:=[]) (fun _ _=>aW) (by kernel_rfl)
abbrev eK:AV:=.sym .i64 (.dvar 3)
def So:Tl:=⟨[(0,Dz),(1,sE),(7,.sym .i64 (.pr 7 (.dvar 0) (.lit 0))),(8,eK)],sB,1025⟩
theorem Ss{J:List Dat→Prop}:PX P bh b0 R0 0 1048576 19 F0 J (cl (cl (cr KI))) U8 So U7 (ix1.tr F0 4):=
 PX.tree (pins:=xT) az (by decide) follows (cons:=[]) rk (ak:=[]) nS (cores:=[]) (fun _ _ _ h=>by cases h) (inv:=[]) (fun _ _=>aW) (by kernel_rfl)
theorem Sr{J:List Dat→Prop}(hinv:∀s,J s→@Holds (VL F0 s) Sq):PX P bh b0 R0 0 1048576 19 F0 J (cl (cl (cr (cl (cr KI))))) So So U7 (ix3.tr F0 4):=
 PX.tree (pins:=xT) az (by decide) follows (cons:=[]) rk (ak:=[]) nS (cores:=[]) (fun _ _ _ h=>by cases h) (inv:=Sq) hinv (by kernel_rfl)
def Sn:Tl:=⟨[],sB,1025⟩
theorem Sp{J:List Dat→Prop}:PX P bh b0 R0 0 1048576 19 F0 J (cr (cr KI)) Sn Sn U7 (ix5.tr F0 3):=
 PX.tree (pins:=xT) az (by decide) follows (cons:=[]) rk (ak:=[]) nS (cores:=[]) (fun _ _ _ h=>by cases h) (inv:=[]) (fun _ _=>aW) (by kernel_rfl)
theorem Sl:eA R0 1048576 [⟨1024,1024,0,0,0⟩] (ba ixA.l) (aA b0 ixA.o ixA.nx) ixA.l ixA.o ixA.nx=some Xc:=by kernel_rfl
def ixZ:Tl:=⟨[(4,.sym .i64 (.ap 9 (.dvar 0) (.dvar 1) (.dvar 2)))],[(1024,Ik)],1025⟩
theorem Sm:dS R0 1048576 [⟨1024,1024,0,0,0⟩] [] (ba ixT1.l) (aA b0 ixT1.o ixT1.nx) ixZ.l ixZ.o ixZ.nx=some Xb:=by kernel_rfl
theorem U6:KI=(.seq (cl KI) (.seq (.seq (cl (cl (cr KI))) (.block 0 (.loop (cl (cl (cr (cl (cr KI)))))))) (cr (cr KI)))):=by kernel_rfl
def hcIdx:HCon:={f:=51,args:=[LO (D 2),VS 1],pre:=[(lt (.pr 7 (D 0) (I 0)) cW,true)],nr:=0,np:=0,ns:=1,locs:=[⟨none,[0]⟩],ins:=[(1024,OS (D 0) (D 2))],v:=.sym .i64 (A3 9 (D 0) (D 1) (D 2)),outs:=[(1024,OS (D 0) (D 2))],nx:=1025}
def At(s0:List Dat)(s:List Dat):Prop:=s=s0
theorem kC{f:gw}{s0 s1:List Dat}(h:f s0=(0,s1)):∀s,At s0 s→(f s).1=0→At s1 (f s).2:=fun s hs _=>by have hs:s=s0:=hs;subst hs;rw[h];rfl
theorem U5{l x y:Dat}(hl:l.toL.length<1000000001):PX P bh b0 R0 0 1048576 19 F0 (At [l,x,y]) KI ixA Sn U7 (yQ F0):=by
 rw[U6];exact PX.seq (J2:=At [l,y,x]) (by decide) Su (kC rfl) (PX.seq (J2:=fun _=>True) (by decide)
  (PX.seq (J2:=XS) (by decide) Ss (fun s hs _=>by have hs:s=[l,y,x]:=hs;subst hs;exact⟨l,y,x,0,rfl,Int.le_refl _,hl⟩) (PX.block (PX.loopM (by decide) (Sr Ng) JW) rfl)) (fun _ _ _=>trivial) Sp)
theorem J8:hcIdx.Sound F0 P bh b0 R0:=by
 refine dG (fn:=Tryz.f51) (code:=KI) Tryz.func51 (by rfl) (by kernel_rfl) (by kernel_rfl) (by kernel_rfl) fun v hF hpre=> ?_;refine⟨.ret,ixZ.l,_,_,.inl rfl,?_,by rfl,rfl⟩;obtain⟨s,hs⟩:∃s,s=[@Sx.dat v (D 0),@Sx.dat v (D 1),@Sx.dat v (D 2)]:=⟨_,rfl⟩;have hl:(@Sx.dat v (D 0)).toL.length<1000000001:=by have k:=cD (aj hpre).1;rw[sI,show(Sx.pr 7 (D 0) (I 0))=bg (D 0)from rfl,sL]at k;omega
 obtain⟨i,z,e⟩:=U4 (x:=@Sx.dat v (D 1)) (y:=@Sx.dat v (D 2)) hl;have h:=PX.ret (U5 hl) (s:=[@Sx.dat v (D 0),@Sx.dat v (D 1),@Sx.dat v (D 2)]) rfl (by rw[e]);have h9:v.fn 9 (@Sx.dat v (D 0)) (@Sx.dat v (D 1)) (@Sx.dat v (D 2))=.int i:=by rw[hF,XU,e];rfl
 rw[e]at h;refine HT.pre (bP _) (aT (v:=v) (v':=VL F0 [@Sx.dat v (D 0),@Sx.dat v (D 1),@Sx.dat v (D 2)]) az Sl (ag rfl (ag rfl (ag rfl (ag rfl aK)))))
  (HT.retell (bP _) h (aV (v':=v) az Sm (ag (ct ?_) (ag rfl (ag rfl aK)))))
 show i=(v.fn 9 (@Sx.dat v (D 0)) (@Sx.dat v (D 1)) (@Sx.dat v (D 2))).toI;rw[h9];rfl
theorem M8:∀c∈[conKeys],c.Sound F0 P bh b0 R0:=mT C7
theorem JH:∀c∈[hcIdx],c.Sound F0 P bh b0 R0:=mn J8 cO
def Yj:Code:=match Tryz.f31.body with
 |some c=>c
 |none=>.skip
abbrev eU:AV:=.vstr (.dvar 0)
abbrev mG:List (Nat×AV):=[(0,eU)]
def kyA:Tl:=⟨mG,[],1024⟩
def kyT1:Tl:=⟨[(2,zm)],[],1024⟩
def YN:Nat→Tl:=fun w=>match w with
 |1=>kyT1
 |_=>kyA
theorem Sc{J:List Dat→Prop}(hco:∀s,J s→∀q∈M9,¬@Holds (VL F0 s) q):PX P bh b0 R0 0 0 6 F0 J Yj kyA kyA YN (ky0.tr F0 1):=
 PX.tree (pins:=[]) az (by decide) follows (cons:=[conKeys]) M8 (ak:=[hcIdx]) JH (cores:=M9) hco (inv:=[]) (fun _ _=>aW) (by kernel_rfl)
theorem Sa:eA R0 0 [] (ba kyA.l) (aA b0 kyA.o kyA.nx) kyA.l kyA.o kyA.nx=some W5:=by kernel_rfl
def kyZ:Tl:=⟨[(2,.symb (.cmp .neq (.ap 13 (.dvar 0) (.lit 0) (.lit 0)) (.lit 0)))],[],1024⟩
theorem Sb:dS R0 0 [] [] (ba kyT1.l) (aA b0 kyT1.o kyT1.nx) kyZ.l kyZ.o kyZ.nx=some W4:=by kernel_rfl
def conKey:Con:={f:=31,args:=[VS 0],pre:=[],res:=.symb (.cmp .neq (A1 13 (D 0)) (.lit 0)),objs:=[]}
theorem Gn:conKey.Sound F0 P bh b0 R0:=by refine cE (fn:=Tryz.f31) (code:=Yj) Tryz.func31 (by rfl) (by kernel_rfl) rfl rfl rfl fun v hF hpre=> ?_;refine⟨.ret,kyZ.l,kyZ.o,kyZ.nx,_,_,.inl rfl,?_,by rfl,rfl⟩;have h:=PX.ret (Sc (J:=fun _=>True) (fun s _=>JI s)) (s:=[@Sx.dat v (D 0)]) trivial (Ol (J:=fun _=>True) (fun s _=>JI s) (fun _ _=>aW) (by kernel_rfl) (by kernel_rfl) trivial);refine HT.pre (bP _) (aT (v:=v) (v':=VL F0 [@Sx.dat v (D 0)]) az Sa (ag rfl aK)) (HT.retell (bP _) h (aV (v':=v) az Sb (ag (Ts ?_) aK)));rw[gq,show @Sx.dat v (.ap 13 (D 0) (I 0) (I 0))=v.fn 13 (@Sx.dat v (D 0)) (.int 0) (.int 0)from rfl,hF,XA,tI]
theorem re:∀c∈[conSigns],c.Sound F0 P bh b0 R0:=mT AB
theorem nd:∀c∈([]:List HCon),c.Sound F0 P bh b0 R0:=cO
def KB:Code:=match Tryz.f36.body with
 |some c=>c
 |none=>.skip
def sgA:Tl:=⟨mG,[],1024⟩
abbrev sv:AV:=.sym .i64 (.dvar 0)
def sgT1:Tl:=⟨[(2,sv)],[],1024⟩
def Wm:Tl:=⟨[],[],1024⟩
def TS:Nat→Tl:=fun w=>match w with
 |1=>sgT1
 |2=>Wm
 |_=>sgA
def TT:Tl:=⟨mG,[],1024⟩
theorem P3{J:List Dat→Prop}:PX P bh b0 R0 0 0 17 F0 J (cl KB) sgA TT TS (sg0.tr F0 1):=
 PX.tree (pins:=[]) az (by decide) follows (cons:=[conSigns]) re (ak:=[]) nd (cores:=[]) (fun _ _ _ h=>by cases h) (inv:=[]) (fun _ _=>aW) (by kernel_rfl)
def PW:Tl:=⟨[(0,eU),(5,BQ),(6,ko),(7,eK)],[(1024,.opq 2 0 1023 kn (.dvar 1) (.lit 1) [] 9)],1025⟩
theorem P2{J:List Dat→Prop}:PX P bh b0 R0 0 0 17 F0 J (cl (cl (cr KB))) TT PW TS (sg1.tr F0 4):=
 PX.tree (pins:=[]) az (by decide) follows (cons:=[conSigns]) re (ak:=[]) nd (cores:=[]) (fun _ _ _ h=>by cases h) (inv:=[]) (fun _ _=>aW) (by kernel_rfl)
theorem P0{J:List Dat→Prop}(hco:∀s,J s→∀q∈LJ,¬@Holds (VL F0 s) q)(hinv:∀s,J s→@Holds (VL F0 s) PZ):PX P bh b0 R0 0 0 17 F0 J (cl (cl (cr (cl (cr KB))))) PW PW TS (sg3.tr F0 4):=
 PX.tree (pins:=[]) az (by decide) follows (cons:=[conSigns]) re (ak:=[]) nd (cores:=LJ) hco (inv:=PZ) hinv (by kernel_rfl)
def PV:Tl:=⟨[],[],1024⟩
theorem PY{J:List Dat→Prop}:PX P bh b0 R0 0 0 17 F0 J (cr (cr KB)) PV PV TS (sg5.tr F0 1):=
 PX.tree (pins:=[]) az (by decide) follows (cons:=[conSigns]) re (ak:=[]) nd (cores:=[]) (fun _ _ _ h=>by cases h) (inv:=[]) (fun _ _=>aW) (by kernel_rfl)
theorem PS:eA R0 0 [] (ba sgA.l) (aA b0 sgA.o sgA.nx) sgA.l sgA.o sgA.nx=some Wo:=by kernel_rfl
def sgZ:Tl:=⟨[(2,.sym .i64 (.ap 14 (.dvar 0) (.lit 0) (.lit 0)))],[],1024⟩
theorem PT:dS R0 0 [] [] (ba sgT1.l) (aA b0 sgT1.o sgT1.nx) sgZ.l sgZ.o sgZ.nx=some Wn:=by kernel_rfl
theorem TR:KB=(.seq (cl KB) (.seq (.seq (cl (cl (cr KB))) (.block 0 (.loop (cl (cl (cr (cl (cr KB)))))))) (cr (cr KB)))):=by kernel_rfl
def conSign:Con:={f:=36,args:=[VS 0],pre:=[],res:=.sym .i64 (A1 14 (D 0)),objs:=[]}
theorem TP{x:Dat}:PX P bh b0 R0 0 0 17 F0 (At [x]) KB sgA PV TS (wq F0):=by
 rw[TR];exact PX.seq (J2:=At [x]) (by decide) P3 (kC rfl) (PX.seq (J2:=fun _=>True) (by decide)
  (PX.seq (J2:=VY) (by decide) P2 (fun s hs _=>by have hs:s=[x]:=hs;subst hs;exact⟨x,sgns,0,rfl,Int.le_refl _,by rw[yR];decide⟩) (PX.block (PX.loopM (by decide) (P0 P1 LL) Hj) rfl)) (fun _ _ _=>trivial) PY)
theorem C4:conSign.Sound F0 P bh b0 R0:=by refine cE (fn:=Tryz.f36) (code:=KB) Tryz.func36 (by rfl) (by kernel_rfl) rfl rfl rfl fun v hF hpre=> ?_;refine⟨.ret,sgZ.l,sgZ.o,sgZ.nx,_,_,.inl rfl,?_,by rfl,rfl⟩;have h:=PX.ret (TP (x:=@Sx.dat v (D 0))) (s:=[@Sx.dat v (D 0)]) rfl (NQ _).1;refine HT.pre (bP _) (aT (v:=v) (v':=VL F0 [@Sx.dat v (D 0)]) az PS (ag rfl aK)) (HT.retell (bP _) h (aV (v':=v) az PT (ag (ct ?_) aK)));rw[gq,show @Sx.dat v (.ap 14 (D 0) (I 0) (I 0))=v.fn 14 (@Sx.dat v (D 0)) (.int 0) (.int 0)from rfl,hF,OK,tI]
def SP:AV:=.ptr 1024 0 0 3
def Qr(x y z:AV):Ob:=.box [x,y,z] 43
def Ww:Ob:=Qr (VS 0) (SI 1) (SI 2)
def ins:bo:=[(jE,false),(lt (D 3) (ln (D 0)),true)]
theorem rf:∀c∈[conPart],c.Sound F0 P bh b0 R0:=mT tR
theorem nh:∀c∈([]:List HCon),c.Sound F0 P bh b0 R0:=cO
def KC:Code:=match Tryz.f30.body with
 |some c=>c
 |none=>.skip
abbrev jG:AV:=.sym .i64 (.dvar 1)
abbrev sy:Ob:=.box [eU,jG,ko] 43
abbrev oT:AV:=.ptr 1024 0 0 3
abbrev qe:List (Nat×AV):=[(0,oT),(1,eK)]
abbrev iz:List (Nat×Ob):=[(1024,sy)]
def rnA:Tl:=⟨qe,iz,1025⟩
def wL:List RE:=[⟨1024,1024,0,0,0⟩]
abbrev iA:AV:=.sym .i64 (.dvar 4)
abbrev BM:List (Nat×AV):=[(0,oT),(1,eK),(5,iA)]
def WC:Tl:=⟨BM,iz,1025⟩
abbrev oR:AV:=.vstr (.dvar 3)
def rnT1:Tl:=⟨[(4,oR)],iz,1025⟩
def T9:Nat→Tl:=fun w=>match w with
 |2=>WC
 |1=>rnT1
 |_=>rnA
def Ua:Tl:=⟨qe,iz,1025⟩
theorem QP{J:List Dat→Prop}:PX P bh b0 R0 1 1 32 F0 J (cl KC) rnA Ua T9 (rn0.tr F0 4):=
 PX.tree (pins:=wL) az (by decide) follows (cons:=[conPart]) rf (ak:=[]) nh (cores:=[]) (fun _ _ _ h=>by cases h) (inv:=[]) (fun _ _=>aW) (by kernel_rfl)
def QJ:Tl:=⟨BM,iz,1025⟩
theorem QO{J:List Dat→Prop}:PX P bh b0 R0 1 1 32 F0 J (cl (cr KC)) Ua QJ T9 (rn1.tr F0 5):=
 PX.tree (pins:=wL) az (by decide) follows (cons:=[conPart]) rf (ak:=[]) nh (cores:=[]) (fun _ _ _ h=>by cases h) (inv:=[]) (fun _ _=>aW) (by kernel_rfl)
theorem QN{J:List Dat→Prop}(hinv:∀s,J s→@Holds (VL F0 s) QM):PX P bh b0 R0 1 1 32 F0 J (cl (cl (cl (cr (cr KC))))) QJ QJ T9 (rn3.tr F0 5):=
 PX.tree (pins:=wL) az (by decide) follows (cons:=[conPart]) rf (ak:=[]) nh (cores:=[]) (fun _ _ _ h=>by cases h) (inv:=QM) hinv (by kernel_rfl)
def QI:Tl:=⟨BM,iz,1025⟩
theorem QL{J:List Dat→Prop}(hinv:∀s,J s→@Holds (VL F0 s) QK):PX P bh b0 R0 1 1 32 F0 J (cr (cr (cr KC))) QI QI T9 (rn5.tr F0 4):=
 PX.tree (pins:=wL) az (by decide) follows (cons:=[conPart]) rf (ak:=[]) nh (cores:=[]) (fun _ _ _ h=>by cases h) (inv:=QK) hinv (by kernel_rfl)
theorem QG:eA R0 1 [⟨1024,1024,0,0,0⟩] (ba rnA.l) (aA b0 rnA.o rnA.nx) rnA.l rnA.o rnA.nx=some WE:=by kernel_rfl
def rnZ:Tl:=⟨[(4,.vstr HL)],[],1025⟩
theorem QH:dS R0 1 [⟨1024,1024,0,0,0⟩] [] (ba rnT1.l) (aA b0 rnT1.o rnT1.nx) rnZ.l rnZ.o rnZ.nx=some WD:=by kernel_rfl
theorem T8:KC=(.seq (cl KC) (.seq (cl (cr KC)) (.seq (.block 0 (.loop (cl (cl (cl (cr (cr KC))))))) (cr (cr (cr KC)))))):=by kernel_rfl
abbrev wV:Bx:=lt (ln (D 0)) kF
abbrev qd:List (Bx×Bool):=[(wV,true)]
def hcRun:HCon:={f:=30,args:=[SP,SI 3],pre:=ins++qd,nr:=1,np:=1,ns:=0,locs:=[⟨none,[0]⟩],ins:=[(1024,Ww)],v:=.vstr (A2 23 (D 0) (D 3)),outs:=[],nx:=1025}
theorem T7{d:Dat}{e ea:Int}{p:Nat}(hp:p≤d.toS.length)(hl:d.toS.length<1000000000):PX P bh b0 R0 1 1 32 F0 (At [d,.int e,.int ea,.int p]) KC rnA QI T9 (yP F0):=by
 rw[T8];have hle:=oF bD (d.toS.drop p);rw[List.length_drop]at hle;exact PX.seq (J2:=At [d,.int e,.int ea,.int p]) (by decide) QP (kC rfl) (PX.seq (J2:=At [d,.int e,.int ea,.int p,.int p]) (by decide) QO (kC rfl)
  (PX.seq (J2:=VZ) (by decide) (PX.weak (PX.block (PX.loopM (by decide) (QN Mh) Hz) rfl) (fun s hs=>by have hs:s=[d,.int e,.int ea,.int p,.int p]:=hs;subst hs;exact⟨d,e,ea,p,p,rfl,by omega,by omega,by omega,hl⟩)) (fun s hs _=>by have hs:s=[d,.int e,.int ea,.int p,.int p]:=hs;subst hs;rw[eO (NT (by omega) hl _ p (aE _) (by omega) hp)];exact⟨d,e,ea,p,_,rfl,by omega,by omega,by omega,hl⟩) (QL Mg)))
theorem Ad:hcRun.Sound F0 P bh b0 R0:=by
 refine dG (fn:=Tryz.f30) (code:=KC) Tryz.func30 (by rfl) (by kernel_rfl) (by kernel_rfl) (by kernel_rfl) fun v hF hpre=> ?_;refine⟨.ret,rnZ.l,_,_,.inl rfl,?_,by rfl,rfl⟩;have k1:=bU (aj hpre).1;have k2:=cD (aj (aj hpre).2).1;have k3:=cD (aj (aj (aj hpre).2).2).1;rw[sI]at k1 k3;rw[show(ln (D 0))=Sx.pr 0 (D 0) (.lit 0)from rfl,cQ]at k2 k3;obtain⟨p,hp⟩:∃p:Nat,@Sx.eval v (D 3)=p:=⟨(@Sx.eval v (D 3)).toNat,by omega⟩;obtain⟨d,hd⟩:∃d,d=@Sx.dat v (D 0):=⟨_,rfl⟩;rw[hp]at k2;rw[←hd]at k2 k3;have e:=NS (d:=d) (e:=(@Sx.dat v (D 1)).toI) (ea:=(@Sx.dat v (D 2)).toI) (p:=p) (by omega) (by omega);have h:=PX.ret (T7 (d:=d) (e:=(@Sx.dat v (D 1)).toI) (ea:=(@Sx.dat v (D 2)).toI) (p:=p) (by omega) (by omega)) (s:=[d,.int (@Sx.dat v (D 1)).toI,.int (@Sx.dat v (D 2)).toI,.int p]) rfl (by rw[e]);rw[e]at h;have hD3:(@Sx.dat v (D 3)).toI=p:=hp;refine HT.pre (by decide) (aT (v:=v) (v':=VL F0 [d,.int (@Sx.dat v (D 1)).toI,.int (@Sx.dat v (D 2)).toI,.int p]) az QG (ag (ct hD3) (ag hd.symm (ag rfl (ag rfl aK)))))
  (HT.retell (by decide) h (aV (v':=v) az QH (ag ?_ aK)))
 rw[show @Sx.dat v (.ap 23 (D 0) (D 3) (I 0))=v.fn 23 (@Sx.dat v (D 0)) (@Sx.dat v (D 3)) (.int 0)from rfl,hF,←hd,f23 (by omega) (by omega) hD3];rfl
end
end Go.Proofs.YtbfonficacphkaaGreatDoor
set_option linter.all false
namespace Go.Proofs.YtbfonficacphkaaGreatDoor
open Go.Tw Go.Tw.LX
noncomputable section
theorem LM:∀c∈[conLow],c.Sound F0 P bh b0 R0:=mT Gm
theorem Hk:∀c∈([]:List HCon),c.Sound F0 P bh b0 R0:=cO
def Yd:Code:=match Tryz.f33.body with
 |some c=>c
 |none=>.skip
def sfA:Tl:=⟨mG,[],1024⟩
def sfT1:Tl:=⟨[(2,eU),(3,.symb (.cmp .neq (.dvar 1) (.lit 0)))],[],1024⟩
def YD:Nat→Tl:=fun w=>match w with
 |1=>sfT1
 |_=>sfA
theorem P7{J:List Dat→Prop}(hinv:∀s,J s→@Holds (VL F0 s) P6):PX P bh b0 R0 0 0 15 F0 J Yd sfA sfA YD (sf0.tr F0 2):=
 PX.tree (pins:=[]) az (by decide) follows (cons:=[conLow]) LM (ak:=[]) Hk (cores:=[]) (fun _ _ _ h=>by cases h) (inv:=P6) hinv (by kernel_rfl)
theorem P4:eA R0 0 [] (ba sfA.l) (aA b0 sfA.o sfA.nx) sfA.l sfA.o sfA.nx=some Wq:=by kernel_rfl
def sfZ:Tl:=⟨[(2,.vstr (.ap 18 (.dvar 0) (.lit 0) (.lit 0))),(3,.symb (.cmp .neq (.ap 19 (.dvar 0) (.lit 0) (.lit 0)) (.lit 0)))],[],1024⟩
theorem P5:dS R0 0 [] [] (ba sfT1.l) (aA b0 sfT1.o sfT1.nx) sfZ.l sfZ.o sfZ.nx=some Wp:=by kernel_rfl
def conSuf:Con:={f:=33,args:=[VS 0],pre:=[(wV,true),(eq (A1 5 (D 0)) (I 1),true)],res:=.tup [.vstr (A1 18 (D 0)),.symb (.cmp .neq (A1 19 (D 0)) (.lit 0))],objs:=[]}
theorem Gl:conSuf.Sound F0 P bh b0 R0:=by
 refine cE (fn:=Tryz.f33) (code:=Yd) Tryz.func33 (by rfl) (by kernel_rfl) rfl rfl rfl fun v hF hpre=> ?_;refine⟨.ret,sfZ.l,sfZ.o,sfZ.nx,_,_,.inl rfl,?_,by rfl,rfl⟩;have hi:@Holds (VL F0 [@Sx.dat v (D 0)]) P6:=by have k1:=cD (aj hpre).1;have k2:=mP (aj (aj hpre).2).1;rw[show(ln (D 0))=Sx.pr 0 (D 0) (.lit 0)from rfl,cQ,sI]at k1;rw[sI,show @Sx.eval v (A1 5 (D 0))=(v.fn 5 (@Sx.dat v (D 0)) (.int 0) (.int 0)).toI from rfl,hF]at k2;exact ak (DU (by rw[cQ,sI,cm];exact k1)) (ak (SS (by rw[iQ,sI,cm];exact k2)) aW)
 have h:=PX.ret (P7 (J:=At [@Sx.dat v (D 0)]) (fun s hs=>by have hs:s=[@Sx.dat v (D 0)]:=hs;subst hs;exact hi)) (s:=[@Sx.dat v (D 0)]) rfl (Ol (J:=fun _=>True) (cores:=[]) (inv:=[]) (fun _ _ _ h=>by cases h) (fun _ _=>aW) (by kernel_rfl) (by kernel_rfl) trivial);refine HT.pre (bP _) (aT (v:=v) (v':=VL F0 [@Sx.dat v (D 0)]) az P4 (ag rfl aK)) (HT.retell (bP _) h (aV (v':=v) az P5 (ag ?_ (ag (Ts ?_) aK))));{rw[gq,show @Sx.dat v (.ap 18 (D 0) (I 0) (I 0))=v.fn 18 (@Sx.dat v (D 0)) (.int 0) (.int 0)from rfl,hF,VF];unfold wu;rfl};rw[gq,show @Sx.dat v (.ap 19 (D 0) (I 0) (I 0))=v.fn 19 (@Sx.dat v (D 0)) (.int 0) (.int 0)from rfl,hF,VE];unfold wu;rw[tI]
theorem Lx:∀c∈[gy KA,gy Ta,gy Kz],c.Sound F0 P bh b0 R0:=ym yl (ym Az (mT yk))
theorem G6:∀c∈([]:List HCon),c.Sound F0 P bh b0 R0:=cO
def Yb:Code:=match Tryz.f32.body with
 |some c=>c
 |none=>.skip
def spA:Tl:=⟨mG,[],1024⟩
def spT1:Tl:=⟨[(2,sv),(3,.vstr (.dvar 1)),(4,sE)],[],1024⟩
def YA:Nat→Tl:=fun w=>match w with
 |1=>spT1
 |_=>spA
theorem Ph{J:List Dat→Prop}(hco:∀s,J s→∀q∈Ly,¬@Holds (VL F0 s) q)(hinv:∀s,J s→@Holds (VL F0 s) Pg):PX P bh b0 R0 0 0 33 F0 J Yb spA spA YA (sp0.tr F0 3):=
 PX.tree (pins:=[]) az (by decide) follows (cons:=[gy KA,gy Ta,gy Kz]) Lx (ak:=[]) G6 (cores:=Ly) hco (inv:=Pg) hinv (by kernel_rfl)
theorem O2:eA R0 0 [] (ba spA.l) (aA b0 spA.o spA.nx) spA.l spA.o spA.nx=some Wc:=by kernel_rfl
def spZ:Tl:=⟨[(2,.sym .i64 (.ap 20 (.dvar 0) (.lit 0) (.lit 0))),(3,.vstr (.ap 21 (.dvar 0) (.lit 0) (.lit 0))),(4,.vstr (.ap 22 (.dvar 0) (.lit 0) (.lit 0)))],[],1024⟩
theorem O3:dS R0 0 [] [] (ba spT1.l) (aA b0 spT1.o spT1.nx) spZ.l spZ.o spZ.nx=some Wb:=by kernel_rfl
def conSplit:Con:={f:=32,args:=[VS 0],pre:=[(lt (ln (D 0)) (I 1),false),(wV,true)],res:=.tup [.sym .i64 (A1 20 (D 0)),.vstr (A1 21 (D 0)),.vstr (A1 22 (D 0))],objs:=[]}
theorem AA:conSplit.Sound F0 P bh b0 R0:=by
 refine cE (fn:=Tryz.f32) (code:=Yb) Tryz.func32 (by rfl) (by kernel_rfl) rfl rfl rfl fun v hF hpre=> ?_;refine⟨.ret,spZ.l,spZ.o,spZ.nx,_,_,.inl rfl,?_,by rfl,rfl⟩;have k1:=bU (aj hpre).1;have k2:=cD (aj (aj hpre).2).1;rw[show(ln (D 0))=Sx.pr 0 (D 0) (.lit 0)from rfl,cQ,sI]at k1 k2;have hl:(@Sx.dat v (D 0)).toS.length<1000000000:=by omega
 have hi:@Holds (VL F0 [@Sx.dat v (D 0)]) Pg:=ak (DU (by rw[cQ,sI,cm];exact k2)) (ak (qI (by rw[cQ,sI,cm];exact k1)) aW);have h:=PX.ret (Ph (J:=At [@Sx.dat v (D 0)]) (fun s hs=>by
  have hs:s=[@Sx.dat v (D 0)]:=hs;subst hs;exact Pj hl) (fun s hs=>by
  have hs:s=[@Sx.dat v (D 0)]:=hs;subst hs;exact hi)) (s:=[@Sx.dat v (D 0)]) rfl (by obtain⟨k,x,y,e,_⟩:=NO (d:=@Sx.dat v (D 0)) hl (by omega);rw[e])
 refine HT.pre (bP _) (aT (v:=v) (v':=VL F0 [@Sx.dat v (D 0)]) az O2 (ag rfl aK)) (HT.retell (bP _) h (aV (v':=v) az O3 (ag (ct ?_) (ag ?_ (ag ?_ aK)))));{rw[gq,show @Sx.dat v (.ap 20 (D 0) (I 0) (I 0))=v.fn 20 (@Sx.dat v (D 0)) (.int 0) (.int 0)from rfl,hF,F0_20];unfold mA;rw[tI]};{rw[gq,show @Sx.dat v (.ap 21 (D 0) (I 0) (I 0))=v.fn 21 (@Sx.dat v (D 0)) (.int 0) (.int 0)from rfl,hF,F0_21];unfold mA;rfl};rw[gq,show @Sx.dat v (.ap 22 (D 0) (I 0) (I 0))=v.fn 22 (@Sx.dat v (D 0)) (.int 0) (.int 0)from rfl,hF,F0_22];unfold mA;rfl
theorem dR:∀c∈([]:List Con),c.Sound F0 P bh b0 R0:=qj
theorem de:∀c∈([]:List HCon),c.Sound F0 P bh b0 R0:=cO
def mR:Code:=match Tryz.f46.body with
 |some c=>c
 |none=>.skip
abbrev w8:List (Nat×AV):=[(0,eU),(1,jG),(2,ko)]
def piA:Tl:=⟨w8,[],1024⟩
def piT1:Tl:=⟨[(6,.sym .u64 (.dvar 0)),(7,.opq 5 0 100 jD (.dvar 1) (.lit 0))],[],1024⟩
abbrev kp:AV:=.symb (.cmp .neq (.dvar 2) (.lit 0))
abbrev Iy:List (Nat×AV):=[(1,sv),(9,.vstr (.dvar 1)),(12,kp),(13,.sym .u64 (.dvar 3))]
def WL:Tl:=⟨Iy,[],1024⟩
def BZ:Nat→Tl:=fun w=>match w with
 |1=>piT1
 |5=>WL
 |_=>piA
def Uy:Tl:=⟨w8,[],1024⟩
theorem Rp{J:List Dat→Prop}:PX P bh b0 R0 0 0 172 F0 J (cl mR) piA Uy BZ (pi0.tr F0 3):=
 PX.tree (pins:=[]) az (by decide) follows (cons:=[]) dR (ak:=[]) de (cores:=[]) (fun _ _ _ h=>by cases h) (inv:=[]) (fun _ _=>aW) (by kernel_rfl)
def Ux:Tl:=⟨w8,[],1024⟩
theorem Rn{J:List Dat→Prop}:PX P bh b0 R0 0 0 172 F0 J (cl (cr mR)) Uy Ux BZ (pi1.tr F0 3):=
 PX.tree (pins:=[]) az (by decide) follows (cons:=[]) dR (ak:=[]) de (cores:=[]) (fun _ _ _ h=>by cases h) (inv:=[]) (fun _ _=>aW) (by kernel_rfl)
abbrev uZ:AV:=.symb (.cmp .neq (.dvar 3) (.lit 0))
def Uw:Tl:=⟨[(0,eU),(1,jG),(2,ko),(8,uZ)],[],1024⟩
theorem Rm{J:List Dat→Prop}:PX P bh b0 R0 0 0 172 F0 J (cl (cr (cr mR))) Ux Uw BZ (pi2.tr F0 4):=
 PX.tree (pins:=[]) az (by decide) follows (cons:=[]) dR (ak:=[]) de (cores:=[]) (fun _ _ _ h=>by cases h) (inv:=[]) (fun _ _=>aW) (by kernel_rfl)
abbrev sD:AV:=.vstr (.dvar 4)
abbrev DD:List (Nat×AV):=[(0,eU),(1,jG),(2,ko),(8,uZ),(9,sD)]
def Uv:Tl:=⟨DD,[],1024⟩
theorem Rl{J:List Dat→Prop}(hinv:∀s,J s→@Holds (VL F0 s) UF):PX P bh b0 R0 0 0 172 F0 J (cl (cr (cr (cr mR)))) Uw Uv BZ (pi3.tr F0 5):=
 PX.tree (pins:=[]) az (by decide) follows (cons:=[]) dR (ak:=[]) de (cores:=[]) (fun _ _ _ h=>by cases h) (inv:=UF) hinv (by kernel_rfl)
def Uu:Tl:=⟨DD,[],1024⟩
theorem Rk{J:List Dat→Prop}(hco:∀s,J s→∀q∈Mr,¬@Holds (VL F0 s) q)(hinv:∀s,J s→@Holds (VL F0 s) UD):PX P bh b0 R0 0 0 172 F0 J (cl (cr (cr (cr (cr mR))))) Uv Uu BZ (pi4.tr F0 5):=
 PX.tree (pins:=[]) az (by decide) follows (cons:=[]) dR (ak:=[]) de (cores:=Mr) hco (inv:=UD) hinv (by kernel_rfl)
def Ut:Tl:=⟨DD,[],1024⟩
theorem Rj{J:List Dat→Prop}(hco:∀s,J s→∀q∈Mq,¬@Holds (VL F0 s) q)(hinv:∀s,J s→@Holds (VL F0 s) UB):PX P bh b0 R0 0 0 172 F0 J (cl (cr (cr (cr (cr (cr mR)))))) Uu Ut BZ (pi5.tr F0 5):=
 PX.tree (pins:=[]) az (by decide) follows (cons:=[]) dR (ak:=[]) de (cores:=Mq) hco (inv:=UB) hinv (by kernel_rfl)
def Us:Tl:=⟨DD,[],1024⟩
theorem Ri{J:List Dat→Prop}(hinv:∀s,J s→@Holds (VL F0 s) UA):PX P bh b0 R0 0 0 172 F0 J (cl (cr (cr (cr (cr (cr (cr mR))))))) Ut Us BZ (pi6.tr F0 5):=
 PX.tree (pins:=[]) az (by decide) follows (cons:=[]) dR (ak:=[]) de (cores:=[]) (fun _ _ _ h=>by cases h) (inv:=UA) hinv (by kernel_rfl)
abbrev sH:AV:=.sym .u64 (.dvar 5)
def Ur:Tl:=⟨[(0,eU),(1,jG),(2,ko),(8,uZ),(9,sD),(10,sH)],[],1024⟩
theorem Rh{J:List Dat→Prop}(hco:∀s,J s→∀q∈Mp,¬@Holds (VL F0 s) q)(hinv:∀s,J s→@Holds (VL F0 s) Uz):PX P bh b0 R0 0 0 172 F0 J (cl (cr (cr (cr (cr (cr (cr (cr mR)))))))) Us Ur BZ (pi7.tr F0 6):=
 PX.tree (pins:=[]) az (by decide) follows (cons:=[]) dR (ak:=[]) de (cores:=Mp) hco (inv:=Uz) hinv (by kernel_rfl)
abbrev BD:AV:=.sym .u64 (.dvar 6)
def Uq:Tl:=⟨[(0,eU),(1,jG),(2,ko),(8,uZ),(9,sD),(10,sH),(11,BD)],[],1024⟩
theorem Rg{J:List Dat→Prop}(hco:∀s,J s→∀q∈IY,¬@Holds (VL F0 s) q):PX P bh b0 R0 0 0 172 F0 J (cl (cr (cr (cr (cr (cr (cr (cr (cr mR))))))))) Ur Uq BZ (pi8.tr F0 7):=
 PX.tree (pins:=[]) az (by decide) follows (cons:=[]) dR (ak:=[]) de (cores:=IY) hco (inv:=[]) (fun _ _=>aW) (by kernel_rfl)
abbrev H6:AV:=.symb (.cmp .neq (.dvar 7) (.lit 0))
def Up:Tl:=⟨[(0,eU),(1,jG),(2,ko),(8,uZ),(9,sD),(10,sH),(11,BD),(12,H6)],[],1024⟩
theorem Rf{J:List Dat→Prop}:PX P bh b0 R0 0 0 172 F0 J (cl (cr (cr (cr (cr (cr (cr (cr (cr (cr mR)))))))))) Uq Up BZ (pi9.tr F0 8):=
 PX.tree (pins:=[]) az (by decide) follows (cons:=[]) dR (ak:=[]) de (cores:=[]) (fun _ _ _ h=>by cases h) (inv:=[]) (fun _ _=>aW) (by kernel_rfl)
def N5:Tl:=⟨[(0,eU),(1,jG),(2,ko),(8,uZ),(9,sD),(10,sH),(11,BD),(12,H6),(13,.sym .u64 (.dvar 8))],[],1024⟩
theorem Mx{J:List Dat→Prop}:PX P bh b0 R0 0 0 172 F0 J (cl (cr (cr (cr (cr (cr (cr (cr (cr (cr (cr mR))))))))))) Up N5 BZ (pi10.tr F0 9):=
 PX.tree (pins:=[]) az (by decide) follows (cons:=[]) dR (ak:=[]) de (cores:=[]) (fun _ _ _ h=>by cases h) (inv:=[]) (fun _ _=>aW) (by kernel_rfl)
abbrev kq:Sh:=.slc [.int .u8]
abbrev mH:AV:=.sym .i64 (.dvar 9)
def IW:Tl:=⟨[(1,sv),(2,jG),(8,kp),(9,oR),(10,.sym .u64 (.dvar 4)),(11,sH),(12,.symb (.cmp .neq (.dvar 6) (.lit 0))),(13,.sym .u64 (.dvar 7)),(99,.opq 2 1024 0 kq (.lit 0) (.lit 1)),(100,mH),(101,.sym .i64 oO)],[(1024,.opq 2 0 1023 kq (.dvar 8) (.lit 1) [] 5)],1025⟩
theorem Mw{J:List Dat→Prop}:PX P bh b0 R0 0 0 172 F0 J (cl (cl (cr (cr (cr (cr (cr (cr (cr (cr (cr (cr (cr mR))))))))))))) N5 IW BZ (pi11.tr F0 11):=
 PX.tree (pins:=[]) az (by decide) follows (cons:=[]) dR (ak:=[]) de (cores:=[]) (fun _ _ _ h=>by cases h) (inv:=[]) (fun _ _=>aW) (by kernel_rfl)
theorem Mv{J:List Dat→Prop}(hco:∀s,J s→∀q∈zy,¬@Holds (VL F0 s) q)(hinv:∀s,J s→@Holds (VL F0 s) sW):PX P bh b0 R0 0 0 172 F0 J (cl (cl (cr (cl (cr (cr (cr (cr (cr (cr (cr (cr (cr (cr (cr mR))))))))))))))) IW IW BZ (pi13.tr F0 11):=
 PX.tree (pins:=[]) az (by decide) follows (cons:=[]) dR (ak:=[]) de (cores:=zy) hco (inv:=sW) hinv (by kernel_rfl)
def IV:Tl:=⟨Iy,[],1024⟩
theorem Ms{J:List Dat→Prop}(hinv:∀s,J s→@Holds (VL F0 s) I9):PX P bh b0 R0 0 0 172 F0 J (cr (cr (cr (cr (cr (cr (cr (cr (cr (cr (cr (cr mR)))))))))))) IV IV BZ (pi15.tr F0 2):=
 PX.tree (pins:=[]) az (by decide) follows (cons:=[]) dR (ak:=[]) de (cores:=[]) (fun _ _ _ h=>by cases h) (inv:=I9) hinv (by kernel_rfl)
theorem Rd:eA R0 0 [] (ba piA.l) (aA b0 piA.o piA.nx) piA.l piA.o piA.nx=some WO:=by kernel_rfl
abbrev Ip:AV:=.sym .u64 (.ap 10 (.dvar 0) (.dvar 1) (.dvar 2))
def piZ:Tl:=⟨[(6,Ip),(7,.opq 5 0 100 jD (.ap 0 (.dvar 0) (.dvar 1) (.dvar 2)) (.lit 0))],[],1024⟩
theorem Re:dS R0 0 [] [] (ba piT1.l) (aA b0 piT1.o piT1.nx) piZ.l piZ.o piZ.nx=some WN:=by kernel_rfl
theorem Un:mR=(.seq (cl mR) (.seq (cl (cr mR)) (.seq (cl (cr (cr mR))) (.seq (cl (cr (cr (cr mR)))) (.seq (cl (cr (cr (cr (cr mR))))) (.seq (cl (cr (cr (cr (cr (cr mR)))))) (.seq (cl (cr (cr (cr (cr (cr (cr mR))))))) (.seq (cl (cr (cr (cr (cr (cr (cr (cr mR)))))))) (.seq (cl (cr (cr (cr (cr (cr (cr (cr (cr mR))))))))) (.seq (cl (cr (cr (cr (cr (cr (cr (cr (cr (cr mR)))))))))) (.seq (cl (cr (cr (cr (cr (cr (cr (cr (cr (cr (cr mR))))))))))) (.seq (.seq (cl (cl (cr (cr (cr (cr (cr (cr (cr (cr (cr (cr (cr mR))))))))))))) (.block 3 (.loop (cl (cl (cr (cl (cr (cr (cr (cr (cr (cr (cr (cr (cr (cr (cr mR)))))))))))))))))) (cr (cr (cr (cr (cr (cr (cr (cr (cr (cr (cr (cr mR)))))))))))))))))))))))):=by kernel_rfl
theorem Um:PX P bh b0 R0 0 0 172 F0 K0 mR piA IV BZ (mZ F0):=by
 rw[Un];exact PX.seq (J2:=K0) (by decide) Rp (fun s hs _=>hs) (PX.seq (J2:=K0) (by decide) Rn I8 (PX.seq (J2:=K3) (by decide) Rm (fun s hs _=>I7 s hs)
  (PX.seq (J2:=K3) (by decide) (Rl (fun s hs=>jv s hs.1.1)) (fun s hs _=>I6 s hs) (PX.seq (J2:=K3) (by decide) (Rk (fun s _=>I5 s) (fun s hs=>jv s hs.1.1)) (fun s hs _=>I4 s hs)
  (PX.seq (J2:=K3) (by decide) (Rj (fun s _=>I3 s) (fun s hs=>jv s hs.1.1)) (fun s hs _=>I2 s hs) (PX.seq (J2:=K3) (by decide) (Ri (fun s hs=>jv s hs.1.1)) (fun s hs _=>I1 s hs)
  (PX.seq (J2:=K3) (by decide) (Rh B0 (fun s hs=>jv s hs.1.1)) (fun s hs _=>I0 s hs) (PX.seq (J2:=K3) (by decide) (Rg xe) (fun s hs _=>IZ s hs)
  (PX.seq (J2:=K7) (by decide) Rf (fun s hs _=>IX s hs) (PX.seq (J2:=K7) (by decide) Mx (fun s hs _=>B1 s hs)
  (PX.seq (J2:=Vv) (by decide) (PX.seq (J2:=KZ) (by decide) Mw (fun s hs _=>o5 s hs) (PX.block (PX.loopM (by decide) (Mv lT jI) xd) rfl)) (fun s hs h=>by unfold aG at h⊢;have e:(pi11.tr F0 11 s).1=0:=rfl;rw[if_pos e]at h⊢;exact sX _ (o5 s hs) h) (Ms zx))))))))))))
end
end Go.Proofs.YtbfonficacphkaaGreatDoor
set_option linter.all false
namespace Go.Proofs.YtbfonficacphkaaGreatDoor
open Go.Tw Go.Tw.LX
noncomputable section
def XM:bo:=HW
abbrev H0:AV:=.sym .u64 (A3 10 (D 0) (D 1) (D 2))
def conPI:Con:={f:=46,args:=[VS 0,SI 1,SI 2],pre:=XM++qd,res:=.tup [H0,.opq 5 0 100 jD (A3 0 (D 0) (D 1) (D 2)) (.lit 0)],objs:=[]}
theorem KP{v:Val}(h:@Holds v (XM++qd)):K0 [@Sx.dat v (D 0),.int (@Sx.dat v (D 1)).toI,.int (@Sx.dat v (D 2)).toI]:=by have k1:=bU (aj h).1;have h:=(aj h).2;have k2:=bU (aj h).1;have h:=(aj h).2;have k3:=bU (aj h).1;have h:=(aj h).2;have k4:=bU (aj h).1;have h:=(aj h).2;have k5:=cD (aj h).1;rw[show(ln (D 0))=Sx.pr 0 (D 0) (.lit 0)from rfl,cQ]at k5;rw[sI]at k1 k2 k3 k4 k5;have e1:@Sx.eval v (D 1)=(@Sx.dat v (D 1)).toI:=rfl;have e2:@Sx.eval v (D 2)=(@Sx.dat v (D 2)).toI:=rfl;rw[e1]at k1 k2;rw[e2]at k3 k4;exact⟨⟨by show 2≤(@Sx.dat v (D 1)).toI;omega,by show(@Sx.dat v (D 1)).toI≤36;omega,by show 1≤(@Sx.dat v (D 2)).toI;omega,by show(@Sx.dat v (D 2)).toI≤64;omega⟩,by show(@Sx.dat v (D 0)).toS.length<_;omega⟩
theorem KG:conPI.Sound F0 P bh b0 R0:=by
 refine cE (fn:=Tryz.f46) (code:=mR) Tryz.func46 (by rfl) (by kernel_rfl) rfl rfl rfl fun v hF hpre=> ?_;refine⟨.ret,piZ.l,piZ.o,piZ.nx,_,_,.inl rfl,?_,by rfl,rfl⟩;have hk:=KP hpre;have h:=PX.ret Um hk (rq IU hk);refine HT.pre (bP _) (aT (v:=v) (v':=VL F0 [@Sx.dat v (D 0),.int (@Sx.dat v (D 1)).toI,.int (@Sx.dat v (D 2)).toI]) az Rd (ag rfl (ag (ct rfl) (ag (ct rfl) aK))))
  (HT.retell (bP _) h (aV (v':=v) az Re (ag (ct ?_) (ag ?_ aK))))
 {rw[gq,show @Sx.dat v (.ap 10 (D 0) (D 1) (D 2))=v.fn 10 (@Sx.dat v (D 0)) (@Sx.dat v (D 1)) (@Sx.dat v (D 2))from rfl,hF,Lg,tI]};rw[gq,show @Sx.dat v (.ap 0 (D 0) (D 1) (D 2))=v.fn 0 (@Sx.dat v (D 0)) (@Sx.dat v (D 1)) (@Sx.dat v (D 2))from rfl,hF,VI];exact Rc hk
theorem Mn:∀c∈[conPI,conClone],c.Sound F0 P bh b0 R0:=ym KG (mT AG)
theorem IL:∀c∈([]:List HCon),c.Sound F0 P bh b0 R0:=cO
def Tc:Con:=conPI
def Ye:Code:=match Tryz.f34.body with
 |some c=>c
 |none=>.skip
def puA:Tl:=⟨w8,[],1024⟩
def puT1:Tl:=⟨[(6,.sym .u64 (.dvar 0)),(7,.opq 5 0 0 (.bool) (.dvar 1) (.lit 0))],[],1024⟩
def YG:Nat→Tl:=fun w=>match w with
 |1=>puT1
 |_=>puA
theorem Rb{J:List Dat→Prop}(hco:∀s,J s→∀q∈Fo,¬@Holds (VL F0 s) q)(hinv:∀s,J s→@Holds (VL F0 s) Ra):PX P bh b0 R0 0 0 26 F0 J Ye puA puA YG (pu0.tr F0 2):=
 PX.tree (pins:=[]) az (by decide) follows (cons:=[Tc,conClone]) Mn (ak:=[]) IL (cores:=Fo) hco (inv:=Ra) hinv (by kernel_rfl)
theorem Q8:eA R0 0 [] (ba puA.l) (aA b0 puA.o puA.nx) puA.l puA.o puA.nx=some WK:=by kernel_rfl
def puZ:Tl:=⟨[(6,Ip),(7,.opq 5 0 0 (.bool) (.ap 11 (.dvar 0) (.dvar 1) (.dvar 2)) (.lit 0))],[],1024⟩
theorem Q9:dS R0 0 [] [] (ba puT1.l) (aA b0 puT1.o puT1.nx) puZ.l puZ.o puZ.nx=some WJ:=by kernel_rfl
def conPU:Con:={f:=34,args:=[VS 0,SI 1,SI 2],pre:=XM++qd,res:=.tup [H0,.opq 5 0 0 .bool (A3 11 (D 0) (D 1) (D 2)) (.lit 0)],objs:=[]}
theorem DG{s:List Dat}(hco:∀q∈Fo,¬@Holds (VL F0 s) q):(pu0.tr F0 2 s).1=1:=by have:=dw (J:=At s) (sp:=pu0) (m:=2) (l:=[1]) (cores:=Fo) (inv:=[]) (fun s' hs=>by have hs:s'=s:=hs;subst hs;exact hco) (fun _ _=>aW) (by kernel_rfl) (by kernel_rfl) s rfl;simpa using this
theorem AE:conPU.Sound F0 P bh b0 R0:=by
 refine cE (fn:=Tryz.f34) (code:=Ye) Tryz.func34 (by rfl) (by kernel_rfl) rfl rfl rfl fun v hF hpre=> ?_;refine⟨.ret,puZ.l,puZ.o,puZ.nx,_,_,.inl rfl,?_,by rfl,rfl⟩;have hk:=KP hpre;have hi:@Holds (VL F0 [@Sx.dat v (D 0),.int (@Sx.dat v (D 1)).toI,.int (@Sx.dat v (D 2)).toI]) Ra:=by have b:=jv _ hk.1;have k1:=(aj b).1;have b:=(aj b).2;have k2:=(aj b).1;have b:=(aj b).2;have k3:=(aj b).1;have b:=(aj b).2;have k4:=(aj b).1;exact ak k1 (ak k2 (ak k3 (ak k4 (ak (DU (by rw[cQ,sI,cm];have:=hk.2;have e:(@Sx.dat v (D 0)).toS.length<1000000000:=this;omega)) aW))))
 have h:=PX.ret (Rb (J:=At [@Sx.dat v (D 0),.int (@Sx.dat v (D 1)).toI,.int (@Sx.dat v (D 2)).toI]) (fun s hs=>by
  have hs:s=[@Sx.dat v (D 0),.int (@Sx.dat v (D 1)).toI,.int (@Sx.dat v (D 2)).toI]:=hs;subst hs;exact BX hk) (fun s hs=>by
  have hs:s=[@Sx.dat v (D 0),.int (@Sx.dat v (D 1)).toI,.int (@Sx.dat v (D 2)).toI]:=hs;subst hs;exact hi)) rfl (DG (BX hk))
 have e1:∃z,(pu0.tr F0 2 [@Sx.dat v (D 0),.int (@Sx.dat v (D 1)).toI,.int (@Sx.dat v (D 2)).toI]).2=.int (F0 10 (@Sx.dat v (D 0)) (.int (@Sx.dat v (D 1)).toI) (.int (@Sx.dat v (D 2)).toI)).toI::z:=by have hf:=DG (BX hk);revert hf;simp only[pu0,aI];split;{intro _;exact⟨_,rfl⟩};split;{intro _;exact⟨_,rfl⟩};split;{intro _;exact⟨_,rfl⟩};intro hf;cases hf
 obtain⟨z,e1⟩:=e1;refine HT.pre (bP _) (aT (v:=v) (v':=VL F0 [@Sx.dat v (D 0),.int (@Sx.dat v (D 1)).toI,.int (@Sx.dat v (D 2)).toI]) az Q8 (ag rfl (ag (ct rfl) (ag (ct rfl) aK))))
  (HT.retell (bP _) h (aV (v':=v) az Q9 (ag (ct ?_) (ag ?_ aK))))
 {rw[gq,e1,XN,tI,show @Sx.dat v (.ap 10 (D 0) (D 1) (D 2))=v.fn 10 (@Sx.dat v (D 0)) (@Sx.dat v (D 1)) (@Sx.dat v (D 2))from rfl,hF,Lg,Lg];rfl};rw[gq,show @Sx.dat v (.ap 11 (D 0) (D 1) (D 2))=v.fn 11 (@Sx.dat v (D 0)) (@Sx.dat v (D 1)) (@Sx.dat v (D 2))from rfl,hF,VH];unfold E0;rfl
theorem Nr:∀c∈[conPU,conPart],c.Sound F0 P bh b0 R0:=ym AE (mT tR)
theorem Km:∀c∈([]:List HCon),c.Sound F0 P bh b0 R0:=cO
def C6:Con:=conPU
def Yl:Code:=match Tryz.f35.body with
 |some c=>c
 |none=>.skip
def esA:Tl:=⟨mG,[],1024⟩
def esT1:Tl:=⟨[(2,wW),(3,jG)],[],1024⟩
def YP:Nat→Tl:=fun w=>match w with
 |1=>esT1
 |_=>esA
theorem SO{J:List Dat→Prop}(hco:∀s,J s→∀q∈Nt,¬@Holds (VL F0 s) q)(hinv:∀s,J s→@Holds (VL F0 s) SN):PX P bh b0 R0 0 0 49 F0 J Yl esA esA YP (es0.tr F0 2):=
 PX.tree (pins:=[]) az (by decide) follows (cons:=[C6,conPart]) Nr (ak:=[]) Km (cores:=Nt) hco (inv:=SN) hinv (by kernel_rfl)
theorem SF:eA R0 0 [] (ba esA.l) (aA b0 esA.o esA.nx) esA.l esA.o esA.nx=some XD:=by kernel_rfl
def esZ:Tl:=⟨[(2,.sym .u8 (.ap 24 (.dvar 0) (.lit 0) (.lit 0))),(3,.sym .i64 (.ap 25 (.dvar 0) (.lit 0) (.lit 0)))],[],1024⟩
theorem SG:dS R0 0 [] [] (ba esT1.l) (aA b0 esT1.o esT1.nx) esZ.l esZ.o esZ.nx=some XC:=by kernel_rfl
def conEsc:Con:={f:=35,args:=[VS 0],pre:=qd,res:=.tup [.sym .u8 (A1 24 (D 0)),.sym .i64 (A1 25 (D 0))],objs:=[]}
theorem Gp:conEsc.Sound F0 P bh b0 R0:=by
 refine cE (fn:=Tryz.f35) (code:=Yl) Tryz.func35 (by rfl) (by kernel_rfl) rfl rfl rfl fun v hF hpre=> ?_;refine⟨.ret,esZ.l,esZ.o,esZ.nx,_,_,.inl rfl,?_,by rfl,rfl⟩;have k1:=cD (aj hpre).1;rw[show(ln (D 0))=Sx.pr 0 (D 0) (.lit 0)from rfl,cQ,sI]at k1;have hi:@Holds (VL F0 [@Sx.dat v (D 0)]) SN:=ak (DU (by rw[cQ,sI,cm];exact k1)) aW;have h:=PX.ret (SO (J:=At [@Sx.dat v (D 0)]) (fun s hs=>by
  have hs:s=[@Sx.dat v (D 0)]:=hs;subst hs;exact SQ) (fun s hs=>by
  have hs:s=[@Sx.dat v (D 0)]:=hs;subst hs;exact hi)) rfl (by rw[Eg,tM])
 rw[Eg,tM]at h;refine HT.pre (bP _) (aT (v:=v) (v':=VL F0 [@Sx.dat v (D 0)]) az SF (ag rfl aK)) (HT.retell (bP _) h (aV (v':=v) az SG (ag (ct ?_) (ag (ct ?_) aK))));{rw[show @Sx.dat v (.ap 24 (D 0) (I 0) (I 0))=v.fn 24 (@Sx.dat v (D 0)) (.int 0) (.int 0)from rfl,hF,f24,cm];rfl};rw[show @Sx.dat v (.ap 25 (D 0) (I 0) (I 0))=v.fn 25 (@Sx.dat v (D 0)) (.int 0) (.int 0)from rfl,hF,f25,kJ]
end
end Go.Proofs.YtbfonficacphkaaGreatDoor
