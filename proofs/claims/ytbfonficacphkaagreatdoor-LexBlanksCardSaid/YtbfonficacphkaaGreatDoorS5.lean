/-
  A part of the law's proof over the abstract evaluator. Conditions: those of each theorem, as it states them.
-/
import Derived.Test.YtbfonficacphkaaGreatDoorS4
import Derived.Test.YtbfonficacphkaaGreatDoorL2
import Derived.Test.YtbfonficacphkaaGreatDoorK1
import Derived.Shelf.Vars
import Derived.Lib.LaidTab
import Derived.Stop.LaidErr
import Derived.Test.YtbfonficacphkaaGreatDoorChecked
set_option linter.all false
set_option linter.all false
namespace Go.Proofs.YtbfonficacphkaaGreatDoor
open Go.Tw Go.Tw.LX
noncomputable section
theorem gZ:∀c∈[conLetter,conDigit],c.Sound F0 P bh b0 R0:=ym oq (mT qw)
def Lj:List HCon:=[hcSkip,hcWord,hcSign,hcNumber,hcQuoted]
theorem fI:∀c∈Lj,c.Sound F0 P bh b0 R0:=mn F1 (mn FZ (mn F2 (mn Af (mn Ae cO))))
def ry:Code:=match Tryz.f5.body with
 |some c=>c
 |none=>.skip
def scA:Tl:=⟨mG,[],1024⟩
abbrev iR:Sh:=.slc [jD,jD,jD,.str,jD,kq]
abbrev N0:Ob:=.opq 2 0 1023 iR (.dvar 0) (.dvar 1) [] 33
abbrev Dx:AV:=.opq 2 1024 0 iR (.lit 0) (.dvar 1)
def scT1:Tl:=⟨[(2,Dx),(3,.ptr 1025 0 0 2)],[(1024,N0),(1025,.box [ko,eK] 27)],1026⟩
abbrev nw:AV:=.ptr 1024 0 0 2
abbrev NV:List (Nat×Ob):=[(1024,.box [sv,jG] 27),(1025,.box [sE,eK,iA] 43),(1026,.opq 2 0 1023 iR (.dvar 5) (.dvar 6) [] 33)]
abbrev sG:AV:=.ptr 1025 0 0 3
abbrev It:List (Nat×AV):=[(3,nw),(4,sG),(5,.opq 2 1026 0 iR (.lit 0) (.dvar 6))]
def Wt:Tl:=⟨It,NV,1027⟩
abbrev H9:AV:=.opq 2 1026 0 iR (.lit 0) (.dvar 7)
abbrev HN:List (Nat×AV):=[(0,eU),(3,nw),(4,sG),(5,H9),(6,.sym .i64 (.dvar 8))]
abbrev oU:Ob:=.box [jG,ko] 27
abbrev Ij:Ob:=.opq 2 0 1023 iR (.dvar 6) (.dvar 7) [] 33
abbrev HM:List (Nat×Ob):=[(1024,oU),(1025,.box [oR,iA,km] 43),(1026,Ij)]
def Ws:Tl:=⟨HN,HM,1027⟩
def Hp:Nat→Tl:=fun w=>match w with
 |1=>scT1
 |2=>Wt
 |3=>Ws
 |_=>scA
def T1:Tl:=⟨[(0,eU),(3,nw)],[(1024,oU)],1025⟩
theorem Qq{J:List Dat→Prop}:PX P bh b0 R0 0 0 65 F0 J (cl ry) scA T1 Hp (sc0.tr F0 3):=
 PX.tree (pins:=[]) az (by decide) follows (cons:=[conLetter,conDigit]) gZ (ak:=Lj) fI (cores:=[]) (fun _ _ _ h=>by cases h) (inv:=[]) (fun _ _=>aW) (by kernel_rfl)
def T0:Tl:=⟨[(0,eU),(3,nw)],[(1024,oU)],1025⟩
theorem Qo{J:List Dat→Prop}:PX P bh b0 R0 0 0 65 F0 J (cl (cr ry)) T1 T0 Hp (sc1.tr F0 4):=
 PX.tree (pins:=[]) az (by decide) follows (cons:=[conLetter,conDigit]) gZ (ak:=Lj) fI (cores:=[]) (fun _ _ _ h=>by cases h) (inv:=[]) (fun _ _=>aW) (by kernel_rfl)
def TZ:Tl:=⟨[(0,eU),(3,nw),(4,sG)],[(1024,oU),(1025,.box [oR,eJ,eJ] 43)],1026⟩
theorem Qn{J:List Dat→Prop}:PX P bh b0 R0 0 0 65 F0 J (cl (cr (cr ry))) T0 TZ Hp (sc2.tr F0 4):=
 PX.tree (pins:=[]) az (by decide) follows (cons:=[conLetter,conDigit]) gZ (ak:=Lj) fI (cores:=[]) (fun _ _ _ h=>by cases h) (inv:=[]) (fun _ _=>aW) (by kernel_rfl)
def TY:Tl:=⟨[(0,eU),(3,nw),(4,sG),(5,.opq 2 1026 0 iR (.lit 0) (.dvar 5))],[(1024,oU),(1025,.box [oR,eJ,eJ] 43),(1026,.opq 2 0 1023 iR (.dvar 4) (.dvar 5) [] 33)],1027⟩
theorem Qm{J:List Dat→Prop}:PX P bh b0 R0 0 0 65 F0 J (cl (cr (cr (cr ry)))) TZ TY Hp (sc3.tr F0 6):=
 PX.tree (pins:=[]) az (by decide) follows (cons:=[conLetter,conDigit]) gZ (ak:=Lj) fI (cores:=[]) (fun _ _ _ h=>by cases h) (inv:=[]) (fun _ _=>aW) (by kernel_rfl)
def Hq:Tl:=⟨HN,HM,1027⟩
theorem Qk{J:List Dat→Prop}(hco:∀s,J s→∀q∈LU,¬@Holds (VL F0 s) q):PX P bh b0 R0 0 0 65 F0 J (cl (cl (cr (cr (cr (cr ry)))))) TY Hq Hp (sc4.tr F0 9):=
 PX.tree (pins:=[]) az (by decide) follows (cons:=[conLetter,conDigit]) gZ (ak:=Lj) fI (cores:=LU) hco (inv:=[]) (fun _ _=>aW) (by kernel_rfl)
def TX:Tl:=⟨HN,HM,1027⟩
theorem Qj{J:List Dat→Prop}(hinv:∀s,J s→@Holds (VL F0 s) Qi):PX P bh b0 R0 0 0 65 F0 J (cl (cl (cl (cr (cl (cr (cr (cr (cr ry))))))))) Hq TX Hp (sc6.tr F0 9):=
 PX.tree (pins:=[]) az (by decide) follows (cons:=[conLetter,conDigit]) gZ (ak:=Lj) fI (cores:=[]) (fun _ _ _ h=>by cases h) (inv:=Qi) hinv (by kernel_rfl)
def TW:Tl:=⟨[(0,eU),(3,nw),(4,sG),(5,H9),(6,.sym .i64 (.dvar 8)),(7,wO)],[(1024,oU),(1025,.box [oR,iA,km] 43),(1026,Ij),(1027,.box [mH,.sym .i64 oO,.sym .i64 (.dvar 11),.vstr (.dvar 12),.sym .i64 (.dvar 13),.opq 0 1023 0 kq (.dvar 14) (.lit 0)] 33)],1028⟩
theorem Qg{J:List Dat→Prop}(hco:∀s,J s→∀q∈LP,¬@Holds (VL F0 s) q)(hinv:∀s,J s→@Holds (VL F0 s) Qf):PX P bh b0 R0 0 0 65 F0 J (cl (cl (cr (cl (cl (cr (cl (cr (cr (cr (cr ry))))))))))) TX TW Hp (sc7.tr F0 15):=
 PX.tree (pins:=[]) az (by decide) follows (cons:=[conLetter,conDigit]) gZ (ak:=Lj) fI (cores:=LP) hco (inv:=Qf) hinv (by kernel_rfl)
theorem Qd{J:List Dat→Prop}(hco:∀s,J s→∀q∈LN,¬@Holds (VL F0 s) q):PX P bh b0 R0 0 0 65 F0 J (cr (cl (cr (cl (cl (cr (cl (cr (cr (cr (cr ry))))))))))) TW Hq Hp (sc8.tr F0 9):=
 PX.tree (pins:=[]) az (by decide) follows (cons:=[conLetter,conDigit]) gZ (ak:=Lj) fI (cores:=LN) hco (inv:=[]) (fun _ _=>aW) (by kernel_rfl)
def Qb:Tl:=⟨It,NV,1027⟩
theorem LV{J:List Dat→Prop}:PX P bh b0 R0 0 0 65 F0 J (cr (cr (cr (cr (cr ry))))) Qb Qb Hp (sc10.tr F0 4):=
 PX.tree (pins:=[]) az (by decide) follows (cons:=[conLetter,conDigit]) gZ (ak:=Lj) fI (cores:=[]) (fun _ _ _ h=>by cases h) (inv:=[]) (fun _ _=>aW) (by kernel_rfl)
theorem P9:eA R0 0 [] (ba scA.l) (aA b0 scA.o scA.nx) scA.l scA.o scA.nx=some Wv:=by kernel_rfl
def scZ:Tl:=⟨[(2,.opq 0 1023 0 iR (.ap 54 (.dvar 0) (.lit 0) (.lit 0)) (.lit 0)),(3,nw)],[(1024,.box [.sym .i64 (.ap 55 (.dvar 0) (.lit 0) (.lit 0)),.sym .i64 (.ap 56 (.dvar 0) (.lit 0) (.lit 0))] 27)],1025⟩
theorem Qa:dS R0 0 [⟨1024,1025,0,0,0⟩] [1024] (ba scT1.l) (aA b0 scT1.o scT1.nx) scZ.l scZ.o scZ.nx=some Wu:=by kernel_rfl
theorem TV:ry=(.seq (cl ry) (.seq (cl (cr ry)) (.seq (cl (cr (cr ry))) (.seq (cl (cr (cr (cr ry)))) (.seq (.seq (cl (cl (cr (cr (cr (cr ry)))))) (.block 0 (.loop (.seq (cl (cl (cl (cr (cl (cr (cr (cr (cr ry))))))))) (.block 1 (.seq (cl (cl (cr (cl (cl (cr (cl (cr (cr (cr (cr ry))))))))))) (cr (cl (cr (cl (cl (cr (cl (cr (cr (cr (cr ry))))))))))))))))) (cr (cr (cr (cr (cr ry)))))))))):=by kernel_rfl
def T6:List Sh:=[jD,jD,jD,.str,jD,.slc B8]
def Yp(x:Sx):AV:=.opq 0 gid 0 (.slc T6) x (.lit 0)
abbrev Ii:List AV:=[.sym .i64 (A1 55 (D 0)),.sym .i64 (A1 56 (D 0))]
def hcScan:HCon:={f:=5,args:=[VS 0],pre:=qd,nr:=0,np:=0,ns:=0,locs:=[],ins:=[],v:=.tup [Yp (A1 54 (D 0)),.agg Ii],outs:=[(1024,.box Ii 27)],nx:=1025,fz:=true}
theorem NH:PX P bh b0 R0 0 0 65 F0 Vt (.seq (cl (cl (cl (cr (cl (cr (cr (cr (cr ry))))))))) (.block 1 (.seq (cl (cl (cr (cl (cl (cr (cl (cr (cr (cr (cr ry))))))))))) (cr (cl (cr (cl (cl (cr (cl (cr (cr (cr (cr ry)))))))))))))) Hq Hq Hp fJ:=
 PX.seq (J2:=Vu) (by decide) (Qj LS) T3 (PX.block (PX.seq (J2:=XT) (by decide) (Qg Qh LQ) (fun s hs _=>T2 s hs) (Qd Qe)) rfl)
theorem Qp{d:Dat}(h:(sc1.tr F0 4 [d,.int 0,.int 0]).1=0):d.toS.length<4001∧sc1.tr F0 4 [d,.int 0,.int 0]=(0,[d,.int 0,.int 0,.int 0]):=by revert h;simp only[sc1,aI,bO,cQ,cm,sI];split;{intro _;exact⟨by omega,rfl⟩};intro h;cases h
def A4(l:List Dat)(d:Dat)(s:List Dat):Prop:=s=l∧d.toS.length<4001
theorem TU{d:Dat}:PX P bh b0 R0 0 0 65 F0 (At [d]) ry scA Qb Hp (ma F0):=by
 rw[TV];refine PX.seq (J2:=At [d,.int 0,.int 0]) (by decide) Qq (kC rfl) (PX.seq (J2:=A4 [d,.int 0,.int 0,.int 0] d) (by decide) Qo (fun s hs h=>by
  have hs:s=[d,.int 0,.int 0]:=hs;subst hs;obtain⟨k,e⟩:=Qp h;rw[e];exact⟨rfl,k⟩) (PX.seq (J2:=A4 [d,.int 0,.int 0,d] d) (by decide) Qn (fun s hs _=>by
  obtain⟨rfl,k⟩:=hs;exact⟨rfl,k⟩) (PX.seq (J2:=A4 [d,.int 0,.int 0,d,.lst [],.int 0] d) (by decide) Qm (fun s hs _=>by
  obtain⟨rfl,k⟩:=hs;exact⟨rfl,k⟩) (PX.seq (J2:=fun _=>True) (by decide) (PX.seq (J2:=Vt) (by decide) (Qk fun s hs=>by
  obtain⟨rfl,k⟩:=hs;exact Ql d _ k _ _ _) (fun s hs _=>by
  obtain⟨rfl,k⟩:=hs;have e4:sc4.tr F0 9 [d,.int 0,.int 0,d,.lst [],.int 0]=(0,SK d [] 0 0):=(by unfold SK S9;simp only[sc4,aI,bO,cQ,fA,sI];rw[if_pos (by omega)];rfl);rw[e4];obtain⟨n,g,hh⟩:=Bl (d:=d) (p:=0) (by omega) (by omega);have gl:=g.le;rw[List.length_drop]at gl;have h15:F0 15 d (.int ((0:Nat):Int)) (.int 0)=.int ((0+n:Nat):Int):=(by rcases hh with⟨_,hh⟩|⟨_,_,hh⟩;{exact(hh _).1};exact(hh _).1);unfold SK;rw[h15];exact⟨d,_,_,[],0,0+n,rfl,by omega,fun _=>by simp,by omega⟩) (PX.block (PX.loopM (by decide) NH wD) rfl)) (fun _ _ _=>trivial) LV))))
theorem P8(d:Dat):(ma F0 [d]).1=1:=by
 by_cases h4:d.toS.length<4001;{obtain⟨L,y',er,ea,h1,h2⟩:=Ho (d:=d) (by omega) _ 0 [] 0 (aE _) (by simp) (by omega);rw[sc h4,aF (eO h1),wE];split<;>rfl};unfold ma;rw[aF (f:=sc0.tr F0 3) (s':=[d,.int 0,.int 0]) rfl];have e:sc1.tr F0 4 [d,.int 0,.int 0]=(1,[.lst [],.int 0,.int 3,.int 4000]):=by simp only[sc1,aI,bO,cQ,cm,sI];rw[if_neg (by omega)];rfl
 rw[eI e (by simp)]
theorem F3:hcScan.Sound F0 P bh b0 R0:=by
 refine dG (fn:=Tryz.f5) (code:=ry) Tryz.func5 (by rfl) (by kernel_rfl) (by kernel_rfl) (by kernel_rfl) fun v hF hpre=> ?_;refine⟨.ret,scZ.l,_,_,.inl rfl,?_,lb (by kernel_rfl),by kernel_rfl⟩;obtain⟨d,hd⟩:∃d,d=@Sx.dat v (D 0):=⟨_,rfl⟩;have h:=PX.ret (TU (d:=d)) rfl (P8 d);have va:∀k,@Sx.dat v (.ap k (D 0) (I 0) (I 0))=F0 k d (.int 0) (.int 0):=fun k=>by show v.fn k (@Sx.dat v (D 0)) (.int 0) (.int 0)=_;rw[hF,hd]
 refine HT.pre (by decide) (aT (v:=v) (v':=VL F0 [d]) az P9 (ag hd.symm aK)) (HT.retell (by decide) h (aV (v':=v) az Qa ?_));refine ag ?_ (ag (ct ?_) (ag (ct ?_) aK));{rw[gq,va,Ez]};{rw[gq,va,Ey,tI]};rw[gq,va,Ex,tI]
end
end Go.Proofs.YtbfonficacphkaaGreatDoor
set_option linter.all false
namespace Go.Proofs.YtbfonficacphkaaGreatDoor
open Go.Tw Go.Tw.LX
noncomputable section
theorem My:∀c∈([]:List Con),c.Sound F0 P bh b0 R0:=qj
theorem Ja:∀c∈([]:List HCon),c.Sound F0 P bh b0 R0:=cO
def Yf:Code:=match Tryz.f6.body with
 |some c=>c
 |none=>.skip
def pcA:Tl:=⟨[(0,sv),(1,jG)],[],1024⟩
def pcT1:Tl:=⟨[(4,sv)],[],1024⟩
def YH:Nat→Tl:=fun w=>match w with
 |1=>pcT1
 |_=>pcA
theorem Ru{J:List Dat→Prop}(hco:∀s,J s→∀q∈Mz,¬@Holds (VL F0 s) q)(hinv:∀s,J s→@Holds (VL F0 s) Rs):PX P bh b0 R0 0 0 14 F0 J Yf pcA pcA YH (pc0.tr F0 1):=
 PX.tree (pins:=[]) az (by decide) follows (cons:=[]) My (ak:=[]) Ja (cores:=Mz) hco (inv:=Rs) hinv (by kernel_rfl)
theorem Rq:eA R0 0 [] (ba pcA.l) (aA b0 pcA.o pcA.nx) pcA.l pcA.o pcA.nx=some WR:=by kernel_rfl
def pcZ:Tl:=⟨[(4,.sym .i64 (.ap 57 (.dvar 0) (.dvar 1) (.lit 0)))],[],1024⟩
theorem Rr:dS R0 0 [] [] (ba pcT1.l) (aA b0 pcT1.o pcT1.nx) pcZ.l pcZ.o pcZ.nx=some WQ:=by kernel_rfl
def conPick:Con:={f:=6,args:=[SI 0,SI 1],pre:=[(lt (D 1) (I 1),false)],res:=.sym .i64 (A2 57 (D 0) (D 1)),objs:=[]}
theorem C5:conPick.Sound F0 P bh b0 R0:=by
 refine cE (fn:=Tryz.f6) (code:=Yf) Tryz.func6 (by rfl) (by kernel_rfl) rfl rfl rfl fun v hF hpre=> ?_;refine⟨.ret,pcZ.l,pcZ.o,pcZ.nx,_,_,.inl rfl,?_,by rfl,rfl⟩;have h1:=bU (aj hpre).1;have h1:¬(@Sx.dat v (D 1)).toI<1:=h1;have hj:∀s,At [.int (@Sx.dat v (D 0)).toI,.int (@Sx.dat v (D 1)).toI] s→∀q∈Mz,¬@Holds (VL F0 s) q:=fun s hs q hq h=>by have hs:s=_:=hs;subst hs;simp only[Mz,dB,fE,or_false]at hq;subst hq;have h2:=mP (aj (aj h).2).1;rw[qD,sI,tI]at h2;omega
 have hi:∀s,At [.int (@Sx.dat v (D 0)).toI,.int (@Sx.dat v (D 1)).toI] s→@Holds (VL F0 s) Rs:=fun s hs=>by have hs:s=_:=hs;subst hs;exact ak (qI (by rw[qD,sI,tI];omega)) aW
 have h:=PX.ret (Ru hj hi) (s:=[.int (@Sx.dat v (D 0)).toI,.int (@Sx.dat v (D 1)).toI]) rfl (Ol hj hi (by kernel_rfl) (by kernel_rfl) rfl);refine HT.pre (bP _) (aT (v:=v) (v':=VL F0 [.int (@Sx.dat v (D 0)).toI,.int (@Sx.dat v (D 1)).toI]) az Rq (ag rfl (ag rfl aK))) (HT.retell (bP _) h (aV (v':=v) az Rr (ag (ct ?_) aK)));show _=(v.fn 57 _ _ _).toI;rw[hF,OB];rfl
theorem na:∀c∈([]:List Con),c.Sound F0 P bh b0 R0:=qj
theorem kR:∀c∈([]:List HCon),c.Sound F0 P bh b0 R0:=cO
def Gk:Code:=match Tryz.f8.body with
 |some c=>c
 |none=>.skip
abbrev Ih:Ob:=.opq 2 0 1023 iR (.dvar 1) (.dvar 2) [] 33
def smA:Tl:=⟨[(0,.opq 0 1023 0 iR (.dvar 0) (.lit 0)),(1,.opq 2 1024 0 iR (.lit 0) (.dvar 2))],[(1024,Ih)],1025⟩
def rW:List RE:=[⟨1024,1024,0,0,0⟩]
abbrev oP:List (Nat×Ob):=[(1024,N0)]
def smT1:Tl:=⟨[(4,kp)],oP,1025⟩
def We:Tl:=⟨[],oP,1025⟩
def Tr:Nat→Tl:=fun w=>match w with
 |1=>smT1
 |2=>We
 |_=>smA
abbrev BP:AV:=.opq 0 1023 0 iR (.dvar 2) (.lit 0)
def TJ:Tl:=⟨[(0,BP),(1,Dx)],oP,1025⟩
theorem Pu{J:List Dat→Prop}:PX P bh b0 R0 0 1048576 27 F0 J (cl Gk) smA TJ Tr (sm0.tr F0 3):=
 PX.tree (pins:=rW) az (by decide) follows (cons:=[]) na (ak:=[]) kR (cores:=[]) (fun _ _ _ h=>by cases h) (inv:=[]) (fun _ _=>aW) (by kernel_rfl)
def TI:Tl:=⟨[(0,BP),(1,Dx)],oP,1025⟩
theorem Pt{J:List Dat→Prop}:PX P bh b0 R0 0 1048576 27 F0 J (cl (cr Gk)) TJ TI Tr (sm1.tr F0 3):=
 PX.tree (pins:=rW) az (by decide) follows (cons:=[]) na (ak:=[]) kR (cores:=[]) (fun _ _ _ h=>by cases h) (inv:=[]) (fun _ _=>aW) (by kernel_rfl)
def Pn:Tl:=⟨[(0,BP),(1,Dx),(5,eK)],oP,1025⟩
theorem Ps{J:List Dat→Prop}:PX P bh b0 R0 0 1048576 27 F0 J (cl (cl (cr (cr Gk)))) TI Pn Tr (sm2.tr F0 4):=
 PX.tree (pins:=rW) az (by decide) follows (cons:=[]) na (ak:=[]) kR (cores:=[]) (fun _ _ _ h=>by cases h) (inv:=[]) (fun _ _=>aW) (by kernel_rfl)
theorem Pq{J:List Dat→Prop}(hco:∀s,J s→∀q∈LB,¬@Holds (VL F0 s) q)(hinv:∀s,J s→@Holds (VL F0 s) Pp):PX P bh b0 R0 0 1048576 27 F0 J (cl (cl (cr (cl (cr (cr Gk)))))) Pn Pn Tr (sm4.tr F0 4):=
 PX.tree (pins:=rW) az (by decide) follows (cons:=[]) na (ak:=[]) kR (cores:=LB) hco (inv:=Pp) hinv (by kernel_rfl)
def Pm:Tl:=⟨[],oP,1025⟩
theorem Po{J:List Dat→Prop}:PX P bh b0 R0 0 1048576 27 F0 J (cr (cr (cr Gk))) Pm Pm Tr (sm6.tr F0 3):=
 PX.tree (pins:=rW) az (by decide) follows (cons:=[]) na (ak:=[]) kR (cores:=[]) (fun _ _ _ h=>by cases h) (inv:=[]) (fun _ _=>aW) (by kernel_rfl)
theorem Pk:eA R0 1048576 [⟨1024,1024,0,0,0⟩] (ba smA.l) (aA b0 smA.o smA.nx) smA.l smA.o smA.nx=some Wg:=by kernel_rfl
def smZ:Tl:=⟨[(4,.symb (.cmp .neq (.ap 58 (.dvar 0) (.dvar 1) (.dvar 2)) (.lit 0)))],[(1024,Ih)],1025⟩
theorem Pl:dS R0 1048576 [⟨1024,1024,0,0,0⟩] [] (ba smT1.l) (aA b0 smT1.o smT1.nx) smZ.l smZ.o smZ.nx=some Wf:=by kernel_rfl
theorem TH:Gk=(.seq (cl Gk) (.seq (cl (cr Gk)) (.seq (.seq (cl (cl (cr (cr Gk)))) (.block 0 (.loop (cl (cl (cr (cl (cr (cr Gk))))))))) (cr (cr (cr Gk)))))):=by kernel_rfl
def YU:AV:=.opq 2 1024 0 (.slc T6) (.lit 0) (D 2)
def Yq(x y:Sx):Ob:=.opq 2 0 gid (.slc T6) x y [] 33
def hcSame:HCon:={f:=8,args:=[Yp (D 0),YU],pre:=[(lt (.pr 7 (D 0) (I 0)) cW,true),(lt (.pr 7 (D 1) (I 0)) cW,true)],nr:=0,np:=0,ns:=1,locs:=[⟨none,[1]⟩],ins:=[(1024,Yq (D 1) (D 2))],v:=.symb (.cmp .neq (A3 58 (D 0) (D 1) (D 2)) (.lit 0)),outs:=[(1024,Yq (D 1) (D 2))],nx:=1025,fz:=true}
theorem Pr(s:List Dat)(h:VX s):∀q∈LB,¬@Holds (VL F0 s) q:=fun q hq hh=>by obtain⟨a,b,y,k,rfl,h1,_,_⟩:=h;simp only[LB,dB,fE,or_false]at hq;subst hq;have k1:=cD (aj hh).1;have k2:=bU (aj (aj hh).2).1;rw[jX,sL]at k1 k2;rw[kH]at k1;rw[cm]at k2;omega
theorem LC(s:List Dat)(h:VX s):@Holds (VL F0 s) Pp:=by obtain⟨a,b,y,k,rfl,_⟩:=h;exact ak (qI (by rw[jX,sI,tI];omega)) aW
theorem TF{a b y:Dat}(hl:a.toL.length<1000000001):PX P bh b0 R0 0 1048576 27 F0 (At [a,b,y]) Gk smA Pm Tr (uj F0):=by
 rw[TH]
 exact PX.seq (J2:=At [b,y,a]) (by decide) Pu (kC rfl) (PX.seq (J2:=fun s=>s=[b,y,a]∧a.toL.length=b.toL.length) (by decide) Pt (fun s hs h=>by
  have hs:s=[b,y,a]:=hs
  subst hs
  revert h
  simp only[sm1,aI,bV,sL,cm,kH]
  split
  ·rename_i h2
   intro _;exact⟨rfl,by omega⟩
  ·intro h;cases h) (PX.seq (J2:=fun _=>True) (by decide)
  (PX.seq (J2:=VX) (by decide) Ps (fun s hs _=>by
    obtain⟨rfl,h2⟩:=hs
    exact⟨a,b,y,0,rfl,h2,bP _,hl⟩) (PX.block (PX.loopM (by decide) (Pq Pr LC) Bj) rfl)) (fun _ _ _=>trivial) Po))
theorem F4:hcSame.Sound F0 P bh b0 R0:=by
 refine dG (fn:=Tryz.f8) (code:=Gk) Tryz.func8 (by rfl) (by kernel_rfl) (by kernel_rfl) (by kernel_rfl) fun v hF hpre=> ?_;refine⟨.ret,smZ.l,_,_,.inl rfl,?_,by rfl,rfl⟩;have hl:(@Sx.dat v (D 0)).toL.length<1000000001:=by have k:=cD (aj hpre).1;rw[sI,show(Sx.pr 7 (D 0) (I 0))=bg (D 0)from rfl,sL]at k;omega
 obtain⟨i,z,e⟩:=TE (b:=@Sx.dat v (D 1)) (y:=@Sx.dat v (D 2)) hl;have h:=PX.ret (TF hl) (s:=[@Sx.dat v (D 0),@Sx.dat v (D 1),@Sx.dat v (D 2)]) rfl (by rw[e]);have h9:(v.fn 58 (@Sx.dat v (D 0)) (@Sx.dat v (D 1)) (@Sx.dat v (D 2))).toI=i:=by rw[hF,OA,e];rfl
 rw[e]at h;refine HT.pre (bP _) (aT (v:=v) (v':=VL F0 [@Sx.dat v (D 0),@Sx.dat v (D 1),@Sx.dat v (D 2)]) az Pk (ag rfl (ag rfl (ag rfl (ag rfl aK)))))
  (HT.retell (bP _) h (aV (v':=v) az Pl (ag (Ts ?_) (ag rfl (ag rfl aK)))))
 show i=(v.fn 58 (@Sx.dat v (D 0)) (@Sx.dat v (D 1)) (@Sx.dat v (D 2))).toI;rw[h9]
end
end Go.Proofs.YtbfonficacphkaaGreatDoor
set_option linter.all false
namespace Go.Proofs.YtbfonficacphkaaGreatDoor
open Go.Tw Go.Tw.LX
noncomputable section
theorem eC:∀c∈[conAwake,conPick],c.Sound F0 P bh b0 R0:=ym AH (mT C5)
theorem du:∀c∈[hcScan,hcSame],c.Sound F0 P bh b0 R0:=mn F3 (mn F4 cO)
def ou:Code:=match Tryz.f3.body with
 |some c=>c
 |none=>.skip
abbrev wN:Sh:=.slc [jD]
abbrev mi:AV:=.opq 0 1023 0 wN (.dvar 1) (.lit 0)
def lbA:Tl:=⟨[(0,eU),(1,mi)],[],1024⟩
def lbT1:Tl:=⟨[(4,zm)],[],1024⟩
abbrev jk:AV:=.bool true
abbrev Io:AV:=.opq 0 1023 0 wN (.dvar 0) (.lit 0)
abbrev H7:AV:=.opq 0 1023 0 iR (.dvar 1) (.lit 0)
abbrev HR:List (Nat×AV):=[(1,Io),(5,jk),(6,H7),(9,sE),(11,.opq 2 1024 0 iR (.lit 0) (.dvar 4))]
abbrev BR:List (Nat×Ob):=[(1024,.opq 2 0 1023 iR (.dvar 3) (.dvar 4) [] 33)]
def W1:Tl:=⟨HR,BR,1025⟩
def DX:Nat→Tl:=fun w=>match w with
 |1=>lbT1
 |2=>W1
 |_=>lbA
def U2:Tl:=⟨[(0,eU),(1,mi),(4,kp)],[],1024⟩
theorem R9{J:List Dat→Prop}:PX P bh b0 R0 0 0 133 F0 J (cl ou) lbA U2 DX (lb0.tr F0 3):=
 PX.tree (pins:=[]) az (by decide) follows (cons:=[conAwake,conPick]) eC (ak:=[hcScan,hcSame]) du (cores:=[]) (fun _ _ _ h=>by cases h) (inv:=[]) (fun _ _=>aW) (by kernel_rfl)
def U1:Tl:=⟨[(0,eU),(1,mi),(4,kp),(5,jk)],[],1024⟩
theorem R8{J:List Dat→Prop}:PX P bh b0 R0 0 0 133 F0 J (cl (cr ou)) U2 U1 DX (lb1.tr F0 3):=
 PX.tree (pins:=[]) az (by decide) follows (cons:=[conAwake,conPick]) eC (ak:=[hcScan,hcSame]) du (cores:=[]) (fun _ _ _ h=>by cases h) (inv:=[]) (fun _ _=>aW) (by kernel_rfl)
def UZ:Tl:=⟨[(0,eU),(1,mi),(4,kp),(5,jk)],[],1024⟩
theorem R7{J:List Dat→Prop}:PX P bh b0 R0 0 0 133 F0 J (cl (cr (cr ou))) U1 UZ DX (lb2.tr F0 3):=
 PX.tree (pins:=[]) az (by decide) follows (cons:=[conAwake,conPick]) eC (ak:=[hcScan,hcSame]) du (cores:=[]) (fun _ _ _ h=>by cases h) (inv:=[]) (fun _ _=>aW) (by kernel_rfl)
abbrev uW:AV:=.opq 0 1023 0 iR (.dvar 3) (.lit 0)
def UY:Tl:=⟨[(0,eU),(1,mi),(4,kp),(5,jk),(6,uW),(7,nw)],[(1024,.box [iA,km] 27)],1025⟩
theorem R5{J:List Dat→Prop}(hco:∀s,J s→∀q∈MY,¬@Holds (VL F0 s) q):PX P bh b0 R0 0 0 133 F0 J (cl (cr (cr (cr ou)))) UZ UY DX (lb3.tr F0 6):=
 PX.tree (pins:=[]) az (by decide) follows (cons:=[conAwake,conPick]) eC (ak:=[hcScan,hcSame]) du (cores:=MY) hco (inv:=[]) (fun _ _=>aW) (by kernel_rfl)
def UX:Tl:=⟨[(0,eU),(1,mi),(4,kp),(5,jk),(6,uW)],[],1024⟩
theorem R4{J:List Dat→Prop}:PX P bh b0 R0 0 0 133 F0 J (cl (cr (cr (cr (cr ou))))) UY UX DX (lb4.tr F0 4):=
 PX.tree (pins:=[]) az (by decide) follows (cons:=[conAwake,conPick]) eC (ak:=[hcScan,hcSame]) du (cores:=[]) (fun _ _ _ h=>by cases h) (inv:=[]) (fun _ _=>aW) (by kernel_rfl)
abbrev HG:Ob:=.opq 2 0 1023 kn (.dvar 4) (.dvar 5) [] 9
abbrev Dy:AV:=.opq 2 1024 0 kn (.lit 0) (.dvar 5)
def UW:Tl:=⟨[(0,eU),(1,mi),(4,kp),(5,jk),(6,uW),(8,Dy)],[(1024,HG)],1025⟩
theorem R3{J:List Dat→Prop}:PX P bh b0 R0 0 0 133 F0 J (cl (cr (cr (cr (cr (cr ou)))))) UX UW DX (lb5.tr F0 6):=
 PX.tree (pins:=[]) az (by decide) follows (cons:=[conAwake,conPick]) eC (ak:=[hcScan,hcSame]) du (cores:=[]) (fun _ _ _ h=>by cases h) (inv:=[]) (fun _ _=>aW) (by kernel_rfl)
abbrev BC:AV:=.sym .i64 (.dvar 7)
def UU:Tl:=⟨[(0,eU),(1,mi),(4,kp),(5,jk),(6,uW),(8,Dy),(9,wP),(10,BC)],[(1024,HG)],1025⟩
theorem R2{J:List Dat→Prop}:PX P bh b0 R0 0 0 133 F0 J (cl (cr (cr (cr (cr (cr (cr ou))))))) UW UU DX (lb6.tr F0 8):=
 PX.tree (pins:=[]) az (by decide) follows (cons:=[conAwake,conPick]) eC (ak:=[hcScan,hcSame]) du (cores:=[]) (fun _ _ _ h=>by cases h) (inv:=[]) (fun _ _=>aW) (by kernel_rfl)
abbrev Ix:List (Nat×Ob):=[(1024,HG),(1025,.opq 2 0 1023 iR (.dvar 8) (.dvar 9) [] 33)]
abbrev H8:AV:=.opq 2 1025 0 iR (.lit 0) (.dvar 9)
def UT:Tl:=⟨[(0,eU),(1,mi),(4,kp),(5,jk),(6,uW),(8,Dy),(9,wP),(10,BC),(11,H8)],Ix,1026⟩
theorem R1{J:List Dat→Prop}:PX P bh b0 R0 0 0 133 F0 J (cl (cr (cr (cr (cr (cr (cr (cr ou)))))))) UU UT DX (lb7.tr F0 10):=
 PX.tree (pins:=[]) az (by decide) follows (cons:=[conAwake,conPick]) eC (ak:=[hcScan,hcSame]) du (cores:=[]) (fun _ _ _ h=>by cases h) (inv:=[]) (fun _ _=>aW) (by kernel_rfl)
def RY:Tl:=⟨[(0,eU),(1,mi),(4,kp),(5,jk),(6,uW),(8,Dy),(9,wP),(10,BC),(11,H8),(12,.sym .i64 oO)],Ix,1026⟩
theorem RZ{J:List Dat→Prop}:PX P bh b0 R0 0 0 133 F0 J (cl (cl (cr (cr (cr (cr (cr (cr (cr (cr ou)))))))))) UT RY DX (lb8.tr F0 11):=
 PX.tree (pins:=[]) az (by decide) follows (cons:=[conAwake,conPick]) eC (ak:=[hcScan,hcSame]) du (cores:=[]) (fun _ _ _ h=>by cases h) (inv:=[]) (fun _ _=>aW) (by kernel_rfl)
theorem M6{J:List Dat→Prop}(hco:∀s,J s→∀q∈D3,¬@Holds (VL F0 s) q)(hinv:∀s,J s→@Holds (VL F0 s) JF):PX P bh b0 R0 0 0 133 F0 J (cl (cl (cr (cl (cr (cr (cr (cr (cr (cr (cr (cr ou)))))))))))) RY RY DX (lb10.tr F0 11):=
 PX.tree (pins:=[]) az (by decide) follows (cons:=[conAwake,conPick]) eC (ak:=[hcScan,hcSame]) du (cores:=D3) hco (inv:=JF) hinv (by kernel_rfl)
def U0:Tl:=⟨HR,BR,1025⟩
def Od:Tl:=⟨HR,BR,1025⟩
theorem M5{J:List Dat→Prop}:PX P bh b0 R0 0 0 133 F0 J (cl (cr (cr (cr (cr (cr (cr (cr (cr (cr ou)))))))))) U0 Od DX (lb12.tr F0 5):=
 PX.tree (pins:=[]) az (by decide) follows (cons:=[conAwake,conPick]) eC (ak:=[hcScan,hcSame]) du (cores:=[]) (fun _ _ _ h=>by cases h) (inv:=[]) (fun _ _=>aW) (by kernel_rfl)
def DY:Tl:=⟨[(1,Io),(5,jk),(6,H7),(11,.opq 2 1024 0 iR (.lit 0) (.dvar 3)),(14,.opq 0 1023 0 iR (.dvar 4) (.lit 0)),(15,.ptr 1025 0 0 2)],[(1024,.opq 2 0 1023 iR (.dvar 2) (.dvar 3) [] 33),(1025,.box [km,ny] 27)],1026⟩
theorem M3{J:List Dat→Prop}(hco:∀s,J s→∀q∈D0,¬@Holds (VL F0 s) q):PX P bh b0 R0 0 0 133 F0 J (cl (cr (cr (cr (cr (cr (cr (cr (cr (cr (cr ou))))))))))) Od DY DX (lb13.tr F0 7):=
 PX.tree (pins:=[]) az (by decide) follows (cons:=[conAwake,conPick]) eC (ak:=[hcScan,hcSame]) du (cores:=D0) hco (inv:=[]) (fun _ _=>aW) (by kernel_rfl)
theorem M0{J:List Dat→Prop}(hco:∀s,J s→∀q∈DZ,¬@Holds (VL F0 s) q):PX P bh b0 R0 0 0 133 F0 J (cr (cr (cr (cr (cr (cr (cr (cr (cr (cr (cr ou))))))))))) DY DY DX (lb14.tr F0 1):=
 PX.tree (pins:=[]) az (by decide) follows (cons:=[conAwake,conPick]) eC (ak:=[hcScan,hcSame]) du (cores:=DZ) hco (inv:=[]) (fun _ _=>aW) (by kernel_rfl)
theorem RW:eA R0 0 [] (ba lbA.l) (aA b0 lbA.o lbA.nx) lbA.l lbA.o lbA.nx=some W3:=by kernel_rfl
theorem US:ou=(.seq (cl ou) (.seq (cl (cr ou)) (.seq (cl (cr (cr ou))) (.seq (cl (cr (cr (cr ou)))) (.seq (cl (cr (cr (cr (cr ou))))) (.seq (cl (cr (cr (cr (cr (cr ou)))))) (.seq (cl (cr (cr (cr (cr (cr (cr ou))))))) (.seq (cl (cr (cr (cr (cr (cr (cr (cr ou)))))))) (.seq (.seq (cl (cl (cr (cr (cr (cr (cr (cr (cr (cr ou)))))))))) (.block 0 (.loop (cl (cl (cr (cl (cr (cr (cr (cr (cr (cr (cr (cr ou))))))))))))))) (.seq (cl (cr (cr (cr (cr (cr (cr (cr (cr (cr ou)))))))))) (.seq (cl (cr (cr (cr (cr (cr (cr (cr (cr (cr (cr ou))))))))))) (cr (cr (cr (cr (cr (cr (cr (cr (cr (cr (cr ou)))))))))))))))))))))):=by kernel_rfl
theorem R6(d w:Dat)(h4:d.toS.length<1001)(s:List Dat)(hs:At [d,w,.int 0] s):∀q∈MY,¬@Holds (VL F0 s) q:=fun q hq hh=>by have hs:s=_:=hs;subst hs;simp only[MY,dB,fE,or_false]at hq;subst hq;have k:=bU (aj hh).1;rw[cQ,sI,cm]at k;omega
theorem JG(d w:Dat)(s:List Dat)(h:To d w s):@Holds (VL F0 s) JF:=by obtain⟨L,wide,want,y,e,i,rfl,hc,hi,he,h4,hL,hw,hn⟩:=h;unfold SB;exact ak (qI (by rw[sL,qv,iL,sI];decide)) (ak (qI (by rw[iw,sI,tI];omega)) (ak (qI (by rw[y8,sI,tI];omega)) (ak (qI (by rw[cQ,y8,cm,tI];omega)) aW)))
theorem M7(d w:Dat)(s:List Dat)(h:To d w s):∀q∈D3,¬@Holds (VL F0 s) q:=fun q hq hh=>by
 obtain⟨L,wide,want,y,e,i,rfl,hc,hi,he,h4,hL,hw,hn⟩:=h;have hp:=nI (w.cell (i:Int) 0).toI;have hx:(A6.cell (la (w.cell (i:Int) 0).toI) 0).toS.length≤8:=by obtain⟨x,h1,h2⟩:=Et hp.1 hp.2;rw[h2];exact(vY _ h1).2.2
 have hcut:∀a b:Nat,((d.toS.take a).drop b).length≤d.toS.length:=fun a b=>by rw[List.length_drop,List.length_take];omega
 have hrow:i<L.length→∃n,∃t:TokV,(Dat.lst L).cell (i:Int) 1=.int ((e+n:Nat):Int)∧(Dat.lst L).cell (i:Int) 2=.int t.z∧e+n+t.z≤d.toS.length:=fun hlt=>by
  cases hd:L.drop i with
  |nil=>have:=List.drop_eq_nil_iff.1 hd;omega
  |cons r l=>
   rw[hd]at hc;cases hc with
   |@cons _ n t c _ g h0 hc ht hz hb k2=>exact⟨n,t,jd hd 1,jd hd 2,hb⟩
 unfold SB at hh;simp only[D3,dB,fE,or_false]at hq;rcases hq with rfl|rfl|rfl|rfl|rfl|rfl|rfl|rfl|rfl|rfl|rfl|rfl|rfl|rfl|rfl|rfl|rfl|rfl|rfl|rfl;{have k0:=cD (aj hh).1;rw[iw,sL,fA,tI,tL]at k0;obtain⟨n,t,c1,c2,hb⟩:=hrow (by omega);have k:=cD (aj (aj hh).2).1;simp only[ix,fA,iw,tI,c1,y8]at k;omega};{have k0:=cD (aj hh).1;rw[iw,sL,fA,tI,tL]at k0;obtain⟨n,t,c1,c2,hb⟩:=hrow (by omega);have k:=cD (aj (aj hh).2).1;simp only[ix,fA,iw,tI,c1,cQ,cm]at k;omega};{have k0:=cD (aj hh).1;have k:=mP (aj (aj hh).2).1;rw[iw,sL,fA,tI,tL]at k0 k;omega};{have k:=cD (aj hh).1;simp only[iQ,kA,kJ,iw,tI,uA,qv,iL,uy,sI]at k;omega};{have k0:=bU (aj hh).1;have k1:=bU (aj (aj hh).2).1;have k2:=cD (aj (aj (aj hh).2).2).1;rw[y8,sI,tI]at k0;rw[y8,tI]at k1;rw[sI]at k2;omega};{have k0:=cD (aj hh).1;rw[iw,sL,fA,tI,tL]at k0;obtain⟨n,t,c1,c2,hb⟩:=hrow (by omega);have k:=cD (aj (aj hh).2).1;simp only[ix,fA,iw,tI,c1,c2,iP]at k;rw[bG (by omega) (by omega)]at k;omega};{have k0:=cD (aj hh).1;rw[iw,sL,fA,tI,tL]at k0;obtain⟨n,t,c1,c2,hb⟩:=hrow (by omega);have k:=cD (aj (aj hh).2).1;simp only[ix,fA,iw,tI,c1,c2,iP,cQ,cm]at k;rw[bG (by omega) (by omega)]at k;omega};{have k:=bU (aj hh).1;simp only[cQ,dg,fy,cm,tS,sI]at k;have:=hcut (@Sx.eval (VL F0 [d,w,.int 0,.lst L,A6,.int 1,.str wide,.int e,.lst want,y,.int i]) (.bin .add .i64 (.cell (D 3) (D 10) 1) (.cell (D 3) (D 10) 2))).toNat (@Sx.eval (VL F0 [d,w,.int 0,.lst L,A6,.int 1,.str wide,.int e,.lst want,y,.int i]) (.cell (D 3) (D 10) 1)).toNat;omega};{have k:=bU (aj hh).1;simp only[cQ,uB,dg,fy,cm,om,tS,sI,ix,kA,fA,iw,y8,tI,iQ,kJ,uA,qv,iL,uy,cg]at k;have:=hcut ((Dat.lst L).cell (i:Int) 1).toI.toNat (e:Int).toNat;omega};{have k:=bU (aj hh).1;simp only[sL,Ej,tL,sI]at k;omega};{have k:=bU (aj hh).1;simp only[cQ,sI,kA,iQ,kJ,iw,tI,uA,qv,iL,uy]at k;omega};{have k:=bU (aj hh).1;simp only[cQ,uB,dg,fy,cm,om,tS,sI,ix,fA,iw,y8,tI,cg]at k;have:=hcut ((Dat.lst L).cell (i:Int) 1).toI.toNat (e:Int).toNat;omega};{have k:=bU (aj hh).1;simp only[iQ,kA,kJ,iw,tI,uA,qv,iL,uy,sL]at k;omega};{have k:=bU (aj hh).1;simp only[cQ,dg,fy,cm,tS,sI,ix,fA,iw,y8,tI]at k;have:=hcut ((Dat.lst L).cell (i:Int) 1).toI.toNat (e:Int).toNat;omega};{have k:=bU (aj hh).1;simp only[cQ,om,tS,sI]at k;omega};{have k:=cD (aj hh).1;omega};{have k:=bU (aj hh).1;simp only[cQ,uB,dg,fy,cm,om,tS,sI,y8,tI,Kx,cg,List.length_cons,List.length_nil]at k;have:=hcut (d.toS.length:Int).toNat (e:Int).toNat;omega};{have k:=bU (aj hh).1;simp only[cQ,uB,dg,fy,cm,om,tS,sI,y8,tI,cg]at k;have:=hcut (d.toS.length:Int).toNat (e:Int).toNat;omega};{have k0:=bU (aj hh).1;have k1:=bU (aj (aj hh).2).1;have k2:=Ao (aj (aj (aj hh).2).2).1;rw[iw,sL,fA,tI,tL]at k0 k1 k2;omega};have k:=bU (aj hh).1;simp only[cQ,dg,fy,cm,tS,sI,y8,tI]at k;have:=hcut (d.toS.length:Int).toNat (e:Int).toNat;omega
theorem M4(s:List Dat)(hs:∃w L wide want y,s=[w,.lst L,.str wide,.lst want,y]∧wide.length<4001):∀q∈D0,¬@Holds (VL F0 s) q:=fun q hq hh=>by obtain⟨w,L,wide,want,y,rfl,h⟩:=hs;simp only[D0,dB,fE,or_false]at hq;subst hq;have k:=bU (aj hh).1;rw[cQ,sI,kH,tS]at k;omega
theorem M1(s:List Dat)(hs:∃w L M y er ea,s=[w,.lst L,.lst M,y,.lst M,er,ea]∧M.length<4002):∀q∈DZ,¬@Holds (VL F0 s) q:=fun q hq hh=>by obtain⟨w,L,M,y,er,ea,rfl,h⟩:=hs;simp only[DZ,dB,fE,or_false]at hq;rcases hq with rfl|rfl;{have k:=bU (aj hh).1;rw[sL,sI,kH,tL]at k;omega};have k:=bU (aj hh).1;rw[sL,sI,qv,tL]at k;omega
def K5(d w:Dat)(s:List Dat):Prop:=∃L,s=[d,w,.int 0,.lst L]∧Ch d 0 L∧d.toS.length<1001
def YY(d w:Dat)(s:List Dat):Prop:=∃L y',s=EB w L (Wd d.toS (iN w) 0 L 0) (Vd d.toS (iN w) 0 0 L 0) y'∧Ch d 0 L∧d.toS.length<1001
theorem UR{d w:Dat}:PX P bh b0 R0 0 0 133 F0 (At [d,w]) ou lbA DY DX (Ha F0):=by
 rw[US];refine PX.seq (J2:=At [d,w,.int 0]) (by decide) R9 (kC rfl) (PX.seq (J2:=At [d,w,.int 0]) (by decide) R8 (kC rfl) (PX.seq (J2:=fun s=>s=[d,w,.int 0]∧d.toS.length<1001) (by decide) R7 (fun s hs h=>by
  have hs:s=[d,w,.int 0]:=hs;subst hs;have e:=@JE d w;by_cases h4:d.toS.length<1001∧w.toL.length<1001;{rw[if_pos h4]at e;rw[e];exact⟨rfl,h4.1⟩};·rw[if_neg h4]at e;rw[e]at h;cases h) (PX.seq (J2:=fun s=>∃L,∃er ea:Int,s=[d,w,.int 0,.lst L,.int er,.int ea]∧(er=0→Ch d 0 L)∧d.toS.length<1001) (by decide) (R5 fun s hs=>R6 d w hs.2 s hs.1) (fun s hs _=>by
  obtain⟨rfl,h4⟩:=hs;obtain⟨L,er,ea,hs,h⟩:=Hn (d:=d) (by omega);rw[JD h4 hs];exact⟨L,er,ea,rfl,fun h0=>by rcases h with h|h;{exact h.2.2};exact absurd h0 h.1,h4⟩) (PX.seq (J2:=K5 d w) (by decide) R4 (fun s hs h=>by
  obtain⟨L,er,ea,rfl,hc,h4⟩:=hs;revert h;simp only[lb4,aI,bV,Mb,sI,tI];split;{rename_i h0;intro _;exact⟨L,rfl,hc h0,h4⟩};·intro h;cases h) (PX.seq (J2:=fun s=>∃L,s=[d,w,.int 0,.lst L,A6,.int 1]∧Ch d 0 L∧d.toS.length<1001) (by decide) R3 (fun s hs _=>by
  obtain⟨L,rfl,hc,h4⟩:=hs;exact⟨L,rfl,hc,h4⟩) (PX.seq (J2:=fun s=>∃L,s=[d,w,.int 0,.lst L,A6,.int 1,.str [],.int 0]∧Ch d 0 L∧d.toS.length<1001) (by decide) R2 (fun s hs _=>by
  obtain⟨L,rfl,hc,h4⟩:=hs;exact⟨L,rfl,hc,h4⟩) (PX.seq (J2:=fun s=>∃L,s=[d,w,.int 0,.lst L,A6,.int 1,.str [],.int 0,.lst [],.int 0]∧Ch d 0 L∧d.toS.length<1001) (by decide) R1 (fun s hs _=>by
  obtain⟨L,rfl,hc,h4⟩:=hs;exact⟨L,rfl,hc,h4⟩) (PX.seq (J2:=YY d w) (by decide) (PX.seq (J2:=To d w) (by decide) RZ (fun s hs _=>by
  obtain⟨L,rfl,hc,h4⟩:=hs;have hL:=hc.len;exact⟨L,[],[],.int 0,0,0,rfl,hc,by omega,by omega,h4,by omega,bP _,rfl⟩) (PX.block (PX.loopM (by decide) (M6 (M7 d w) (JG d w)) (JB d w)) rfl)) (fun s hs _=>by
  obtain⟨L,rfl,hc,h4⟩:=hs;have hL:=hc.len;obtain⟨y',e9⟩:=Oc (w:=w) h4 (by omega) hc 0 [] [] (.int 0) rfl (bP _) (bP _) (bP _) rfl;have e8:aG (lb8.tr F0 11) (jg 0 (gd (lb10.tr F0 11) Cg)) [d,w,.int 0,.lst L,A6,.int 1,.str [],.int 0,.lst [],.int 0]=(0,EB w L (Wd d.toS (iN w) 0 L 0) (Vd d.toS (iN w) 0 0 L 0) y'):=(by rw[aF (f:=lb8.tr F0 11) (s':=SB d w L [] (0:Nat) [] (.int 0) (0:Nat)) rfl];exact eO e9);rw[e8];exact⟨L,y',rfl,hc,h4⟩) (PX.seq (J2:=fun s=>∃w' L wide want y,s=[w',.lst L,.str wide,.lst want,y]∧wide.length<4001∧Ch (.str wide) 0 want∧want.length<4002) (by decide) M5 (fun s hs h=>by
  obtain⟨L,y',rfl,hc,h4⟩:=hs;have hL:=hc.len;have e12:lb12.tr F0 5 (EB w L (Wd d.toS (iN w) 0 L 0) (Vd d.toS (iN w) 0 0 L 0) y')=_:=@D2 w y' L (Vd d.toS (iN w) 0 0 L 0) (Wd d.toS (iN w) 0 L 0) [.int 0,.int 0,.int 0,.int 0,.int 0,.int 0];by_cases hw:(Wd d.toS (iN w) 0 L 0).length<4001;{rw[if_pos hw]at e12;rw[e12];exact⟨w,L,_,_,y',rfl,hw,Dk h4 hc hw,by rw[GN];omega⟩};·rw[if_neg hw]at e12;rw[e12]at h;cases h) (PX.seq (J2:=fun s=>∃w L M y er ea,s=[w,.lst L,.lst M,y,.lst M,er,ea]∧M.length<4002) (by decide) (M3 fun s hs=>M4 s (by
  obtain⟨w',L,wide,want,y,rfl,h1,_⟩:=hs;exact⟨w',L,wide,want,y,rfl,h1⟩)) (fun s hs _=>by
  obtain⟨w',L,wide,want,y,rfl,h1,h2,h3⟩:=hs;rw[D1 h1 (Du (d:=.str wide) h1 h2)];exact⟨w',L,want,y,_,_,rfl,h3⟩) (M0 M1)))))))))))
end
end Go.Proofs.YtbfonficacphkaaGreatDoor
set_option linter.all false
namespace Go.Proofs.YtbfonficacphkaaGreatDoor
open Go.Tw Go.Tw.LX Go.RowKit
noncomputable section
def Yr:AV:=.opq 0 gid 0 wN (D 1) (.lit 0)
def conLb:Con:={f:=3,args:=[VS 0,Yr],pre:=[],res:=.symb (.cmp .neq (I 1) (I 0)),objs:=[]}
def lbZ:Tl:=⟨[(4,.symb (.cmp .neq (I 1) (I 0)))],[],1024⟩
def W2:bS:=[(sK,.pr 21 (I 1) (I 0))]
theorem RX:eA R0 0 [] (ba lbT1.l) (aA b0 lbT1.o lbT1.nx) lbZ.l lbZ.o lbZ.nx=some W2:=by kernel_rfl
theorem KH:conLb.Sound F0 P bh b0 R0:=by refine cE (fn:=Tryz.f3) (code:=ou) Tryz.func3 (by rfl) (by kernel_rfl) rfl rfl rfl fun v hF hpre=> ?_;refine⟨.ret,lbZ.l,lbZ.o,lbZ.nx,_,_,.inl rfl,?_,by rfl,rfl⟩;obtain⟨h1,h2⟩:=RV (@Sx.dat v (D 0)) (@Sx.dat v (D 1));have h:=PX.ret (UR (d:=@Sx.dat v (D 0)) (w:=@Sx.dat v (D 1))) (s:=[@Sx.dat v (D 0),@Sx.dat v (D 1)]) rfl h1;generalize Ha F0 [@Sx.dat v (D 0),@Sx.dat v (D 1)]=S at h h2;refine HT.pre (bP _) (aT (v:=v) (v':=VL F0 [@Sx.dat v (D 0),@Sx.dat v (D 1)]) az RW (ag rfl (ag rfl aK))) (HT.retell (bP _) h (aT (v':=v) az RX (ag ?_ aK)));show Dat.int (dW ((aP S.2 0).toI != 0))=_;rw[h2];rfl
theorem vE{W:World}{s:List UInt8}{x:Value}{d1:Dat}(hg:GC (N6 W) (.slc [.int .i64]) d1 x)(hl:∀v:Val,∀p∈iO,@kD v W p):Calls P 3 #[.string ⟨⟨s⟩⟩,x] W fun e W'=>e=.returned (.bool true)∧Below W.heap.size W W':=by
 let v:Val:=VL F0 [.str s,d1];have hh:Hold v bh b0 R0 0 .leaf (conLb.start b0 R0) {tmps:= #[],defers:=[]} W (dC iO W):=Nk lL (by decide) (by rfl) uK hl v;have hx:@VR v (dC iO W) Yr x:=by
  cases x with
  |slice a n c=>exact @VR.opq v _ _ _ _ _ _ _ _ ⟨_,a,n,c,rfl,rfl,hg.mono fun _ _ h=>IQ h⟩
  |_=>cases hg
 have ha:@VRL v (dC iO W) conLb.args (#[.string ⟨⟨s⟩⟩,x]:Array Value).toList:=@VRL.cons v _ _ _ _ _ (@VR.vstr v _ (D 0) s rfl) (@VRL.cons v _ _ _ _ _ hx (@VRL.nil v _));refine(KH v rfl aW W _ _ hh ha).mono fun e W' q=> ?_;obtain⟨φ',x,rfl,hx,ht,_⟩:=q;have hx:@VR v φ' (.symb (.cmp .neq (I 1) (I 0))) x:=hx;have hx:x=.bool true:=by cases hx;rfl
 subst hx;exact⟨rfl,ht.os,ht.tape,ht.out,ht.size,fun k hk=>ht.keep k hk fun i u e hi he=>by rw[hh.free i hi u]at he;cases he⟩
end
end Go.Proofs.YtbfonficacphkaaGreatDoor
set_option linter.all false
namespace Go.Proofs.YtbfonficacphkaaGreatDoor
open Go.Tw Go.Tw.LX Go.RowKit
theorem mM:(Rows.lexBlanksRow.laid.filter fun x=>x.2.handleName?.isSome)=[]:=by kernel_rfl
theorem star: "*"++ "errors.errorString"= "*errors.errorString":=by decide
theorem V7[Val]{W:World}(h:laidMet P Rows.lexBlanksRow.laid W):kD W (1,Ov):=by obtain⟨rest,h1⟩:=xJ h (i:=7) (n:= "strings.asciiSpace") (d:=Lib.tabData .u8 (Oi Rows.laid_strings_asciiSpace)) (by kernel_rfl);exact GX (Lib.tabIs_of_head (P:=P) (g:=1) (t:=105) (e:=5) (n:=256) (by kernel_rfl) (by kernel_rfl) (by kernel_rfl) (by kernel_rfl) (by kernel_rfl) (by kernel_rfl) h1) (by kernel_rfl)
theorem Ko(u:TypeId)(h:P.typeName? 3 u=some "*errors.errorString"):u=132:=
 typeName_ptr_named (nm:= "errors.errorString") (by rw[star];kernel_rfl) (by kernel_rfl) (by decide) u (by rw[star];exact h)
theorem V6[Val]{W:World}(h:laidMet P Rows.lexBlanksRow.laid W):kD W (2,Lu):=by obtain⟨rest,h1⟩:=xJ h (i:=5) (n:= "strconv.ErrSyntax") (d:=Rows.laid_strconv_ErrSyntax) (by kernel_rfl);obtain⟨a,s,hv,_⟩:=laid_sentinel h1 (g:=2) (ti:=63) (tp:=132) (te:=134) (ts:=9) (by kernel_rfl) (by kernel_rfl) Tryz.underlying63 (fun u hu=>Ko u hu) Tryz.underlying132 Tryz.underlying134 rfl rfl Tryz.underlying9 (by kernel_rfl) (by kernel_rfl);exact Dq hv (by kernel_rfl)
theorem V5[Val]{W:World}(h:laidMet P Rows.lexBlanksRow.laid W):kD W (3,Lu):=by obtain⟨rest,h1⟩:=xJ h (i:=4) (n:= "strconv.ErrRange") (d:=Rows.laid_strconv_ErrRange) (by kernel_rfl);obtain⟨a,s,hv,_⟩:=laid_sentinel h1 (g:=3) (ti:=63) (tp:=132) (te:=134) (ts:=9) (by kernel_rfl) (by kernel_rfl) Tryz.underlying63 (fun u hu=>Ko u hu) Tryz.underlying132 Tryz.underlying134 rfl rfl Tryz.underlying9 (by kernel_rfl) (by kernel_rfl);exact Dq hv (by kernel_rfl)
theorem V4[Val]{W:World}(h:W.ShapedOpen P):kD W (0,[HV]):=by
 have h0:((begin P (fun _ _=>0) default).world.heap[0]?).bind Obj.row? =some (#[.int .i64 0],3):=by kernel_rfl
 have hg:0<P.globals.size:=of_decide_eq_true (by kernel_rfl);obtain⟨m,hm⟩:=cell_of_shapedOpen_int h hg h0 rfl (by kernel_rfl) (by kernel_rfl) (Tryz.underlying3);obtain⟨cs,hh,hs,_⟩:=h.1 _ _ _ hg h0;refine⟨cs,_,_,hh,?_⟩;obtain⟨l⟩:=cs;unfold World.cell? at hm;rw[hh]at hm
 match l,hs with
 |[x],_=>have hm:some x=some (.int .i64 m):=hm;cases hm;exact .cons (.opq _ ⟨_,_,rfl,rfl⟩) .nil
theorem Ls{W:World}(h:laidMetH P Rows.lexBlanksRow.laid W)(hs:W.ShapedOpen P):∀v:Val,∀p∈iO,@kD v W p:=by unfold laidMetH at h;rw[mM]at h;intro v p hp;simp only[iO,dB,fE,or_false]at hp;rcases hp with rfl|rfl|rfl|rfl;{exact @V7 v W h};{exact @V6 v W h};{exact @V5 v W h};exact @V4 v W hs
end Go.Proofs.YtbfonficacphkaaGreatDoor
