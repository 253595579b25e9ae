/-
  A part of the law's proof over the abstract evaluator. Conditions: those of each theorem, as it states them.
-/
import Derived.Test.YtbfonficacphkaaGreatDoorS4
import Derived.Test.YtbfonficacphkaaGreatDoorL2
import Derived.Test.YtbfonficacphkaaGreatDoorK1
import Derived.Shelf.Vars
import Derived.Lib.LaidTab
import Derived.Stop.LaidErr
import Derived.Test.YtbfonficacphkaaGreatDoorChecked
set_option linter.all false
set_option linter.all false
namespace Go.Proofs.YtbfonficacphkaaGreatDoor
open Go.Tw Go.Tw.LX
noncomputable section
theorem hC:∀c∈[conLetter,conDigit],c.Sound F0 P bh b0 R0:=yo ot (mT qx)
def Lo:List HCon:=[hcSkip,hcWord,hcSign,hcNumber,hcQuoted]
theorem fI:∀c∈Lo,c.Sound F0 P bh b0 R0:=mn F3 (mn F2 (mn F4 (mn Af (mn Ae cQ))))
def rA:Code:=match Tryz.f5.body with
 |some c=>c
 |none=>.skip
def scA:Tl:=⟨mG,[],1024⟩
abbrev iT:Sh:=.slc [jD,jD,jD,.str,jD,kq]
abbrev N5:Ob:=.opq 2 0 1023 iT (.dvar 0) (.dvar 1) [] 33
abbrev Dy:AV:=.opq 2 1024 0 iT (.lit 0) (.dvar 1)
def scT1:Tl:=⟨[(2,Dy),(3,.ptr 1025 0 0 2)],[(1024,N5),(1025,.box [ko,eL] 27)],1026⟩
abbrev nw:AV:=.ptr 1024 0 0 2
abbrev N0:List (Nat×Ob):=[(1024,.box [sw,jG] 27),(1025,.box [sG,eL,iB] 43),(1026,.opq 2 0 1023 iT (.dvar 5) (.dvar 6) [] 33)]
abbrev sK:AV:=.ptr 1025 0 0 3
abbrev Iw:List (Nat×AV):=[(3,nw),(4,sK),(5,.opq 2 1026 0 iT (.lit 0) (.dvar 6))]
def Wy:Tl:=⟨Iw,N0,1027⟩
abbrev Ic:AV:=.opq 2 1026 0 iT (.lit 0) (.dvar 7)
abbrev HQ:List (Nat×AV):=[(0,cI),(3,nw),(4,sK),(5,Ic),(6,.sym .i64 (.dvar 8))]
abbrev oV:Ob:=.box [jG,ko] 27
abbrev Io:Ob:=.opq 2 0 1023 iT (.dvar 6) (.dvar 7) [] 33
abbrev HP:List (Nat×Ob):=[(1024,oV),(1025,.box [oS,iB,km] 43),(1026,Io)]
def Wx:Tl:=⟨HQ,HP,1027⟩
def Hr:Nat→Tl:=fun w=>match w with
 |1=>scT1
 |2=>Wy
 |3=>Wx
 |_=>scA
def T7:Tl:=⟨[(0,cI),(3,nw)],[(1024,oV)],1025⟩
theorem Qw{J:List Dat→Prop}:PX P bh b0 R0 0 0 65 F0 J (cl rA) scA T7 Hr (sc0.tr F0 3):=
 PX.tree (pins:=[]) az (by decide) follows (cons:=[conLetter,conDigit]) hC (ak:=Lo) fI (cores:=[]) (fun _ _ _ h=>by cases h) (inv:=[]) (fun _ _=>aW) (by kernel_rfl)
def T5:Tl:=⟨[(0,cI),(3,nw)],[(1024,oV)],1025⟩
theorem Qu{J:List Dat→Prop}:PX P bh b0 R0 0 0 65 F0 J (cl (cr rA)) T7 T5 Hr (sc1.tr F0 4):=
 PX.tree (pins:=[]) az (by decide) follows (cons:=[conLetter,conDigit]) hC (ak:=Lo) fI (cores:=[]) (fun _ _ _ h=>by cases h) (inv:=[]) (fun _ _=>aW) (by kernel_rfl)
def T4:Tl:=⟨[(0,cI),(3,nw),(4,sK)],[(1024,oV),(1025,.box [oS,eK,eK] 43)],1026⟩
theorem Qs{J:List Dat→Prop}:PX P bh b0 R0 0 0 65 F0 J (cl (cr (cr rA))) T5 T4 Hr (sc2.tr F0 4):=
 PX.tree (pins:=[]) az (by decide) follows (cons:=[conLetter,conDigit]) hC (ak:=Lo) fI (cores:=[]) (fun _ _ _ h=>by cases h) (inv:=[]) (fun _ _=>aW) (by kernel_rfl)
def T3:Tl:=⟨[(0,cI),(3,nw),(4,sK),(5,.opq 2 1026 0 iT (.lit 0) (.dvar 5))],[(1024,oV),(1025,.box [oS,eK,eK] 43),(1026,.opq 2 0 1023 iT (.dvar 4) (.dvar 5) [] 33)],1027⟩
theorem Qr{J:List Dat→Prop}:PX P bh b0 R0 0 0 65 F0 J (cl (cr (cr (cr rA)))) T4 T3 Hr (sc3.tr F0 6):=
 PX.tree (pins:=[]) az (by decide) follows (cons:=[conLetter,conDigit]) hC (ak:=Lo) fI (cores:=[]) (fun _ _ _ h=>by cases h) (inv:=[]) (fun _ _=>aW) (by kernel_rfl)
def Hs:Tl:=⟨HQ,HP,1027⟩
theorem Qp{J:List Dat→Prop}(hco:∀s,J s→∀q∈Ma,¬@Holds (VL F0 s) q):PX P bh b0 R0 0 0 65 F0 J (cl (cl (cr (cr (cr (cr rA)))))) T3 Hs Hr (sc4.tr F0 9):=
 PX.tree (pins:=[]) az (by decide) follows (cons:=[conLetter,conDigit]) hC (ak:=Lo) fI (cores:=Ma) hco (inv:=[]) (fun _ _=>aW) (by kernel_rfl)
def T2:Tl:=⟨HQ,HP,1027⟩
theorem Qo{J:List Dat→Prop}(hinv:∀s,J s→@Holds (VL F0 s) Qn):PX P bh b0 R0 0 0 65 F0 J (cl (cl (cl (cr (cl (cr (cr (cr (cr rA))))))))) Hs T2 Hr (sc6.tr F0 9):=
 PX.tree (pins:=[]) az (by decide) follows (cons:=[conLetter,conDigit]) hC (ak:=Lo) fI (cores:=[]) (fun _ _ _ h=>by cases h) (inv:=Qn) hinv (by kernel_rfl)
def T1:Tl:=⟨[(0,cI),(3,nw),(4,sK),(5,Ic),(6,.sym .i64 (.dvar 8)),(7,wP)],[(1024,oV),(1025,.box [oS,iB,km] 43),(1026,Io),(1027,.box [mH,.sym .i64 oP,.sym .i64 (.dvar 11),.vstr (.dvar 12),.sym .i64 (.dvar 13),.opq 0 1023 0 kq (.dvar 14) (.lit 0)] 33)],1028⟩
theorem Ql{J:List Dat→Prop}(hco:∀s,J s→∀q∈LW,¬@Holds (VL F0 s) q)(hinv:∀s,J s→@Holds (VL F0 s) Qk):PX P bh b0 R0 0 0 65 F0 J (cl (cl (cr (cl (cl (cr (cl (cr (cr (cr (cr rA))))))))))) T2 T1 Hr (sc7.tr F0 15):=
 PX.tree (pins:=[]) az (by decide) follows (cons:=[conLetter,conDigit]) hC (ak:=Lo) fI (cores:=LW) hco (inv:=Qk) hinv (by kernel_rfl)
theorem Qi{J:List Dat→Prop}(hco:∀s,J s→∀q∈LV,¬@Holds (VL F0 s) q):PX P bh b0 R0 0 0 65 F0 J (cr (cl (cr (cl (cl (cr (cl (cr (cr (cr (cr rA))))))))))) T1 Hs Hr (sc8.tr F0 9):=
 PX.tree (pins:=[]) az (by decide) follows (cons:=[conLetter,conDigit]) hC (ak:=Lo) fI (cores:=LV) hco (inv:=[]) (fun _ _=>aW) (by kernel_rfl)
def Qg:Tl:=⟨Iw,N0,1027⟩
theorem Mb{J:List Dat→Prop}:PX P bh b0 R0 0 0 65 F0 J (cr (cr (cr (cr (cr rA))))) Qg Qg Hr (sc10.tr F0 4):=
 PX.tree (pins:=[]) az (by decide) follows (cons:=[conLetter,conDigit]) hC (ak:=Lo) fI (cores:=[]) (fun _ _ _ h=>by cases h) (inv:=[]) (fun _ _=>aW) (by kernel_rfl)
theorem Qe:eB R0 0 [] (ba scA.l) (aA b0 scA.o scA.nx) scA.l scA.o scA.nx=some WA:=by kernel_rfl
def scZ:Tl:=⟨[(2,.opq 0 1023 0 iT (.ap 54 (.dvar 0) (.lit 0) (.lit 0)) (.lit 0)),(3,nw)],[(1024,.box [.sym .i64 (.ap 55 (.dvar 0) (.lit 0) (.lit 0)),.sym .i64 (.ap 56 (.dvar 0) (.lit 0) (.lit 0))] 27)],1025⟩
theorem Qf:dT R0 0 [⟨1024,1025,0,0,0⟩] [1024] (ba scT1.l) (aA b0 scT1.o scT1.nx) scZ.l scZ.o scZ.nx=some Wz:=by kernel_rfl
theorem T0:rA=(.seq (cl rA) (.seq (cl (cr rA)) (.seq (cl (cr (cr rA))) (.seq (cl (cr (cr (cr rA)))) (.seq (.seq (cl (cl (cr (cr (cr (cr rA)))))) (.block 0 (.loop (.seq (cl (cl (cl (cr (cl (cr (cr (cr (cr rA))))))))) (.block 1 (.seq (cl (cl (cr (cl (cl (cr (cl (cr (cr (cr (cr rA))))))))))) (cr (cl (cr (cl (cl (cr (cl (cr (cr (cr (cr rA))))))))))))))))) (cr (cr (cr (cr (cr rA)))))))))):=by kernel_rfl
def T6:List Sh:=[jD,jD,jD,.str,jD,.slc B8]
def Yu(x:Sx):AV:=.opq 0 gid 0 (.slc T6) x (.lit 0)
abbrev Im:List AV:=[.sym .i64 (A1 55 (D 0)),.sym .i64 (A1 56 (D 0))]
def hcScan:HCon:={f:=5,args:=[VS 0],pre:=qe,nr:=0,np:=0,ns:=0,locs:=[],ins:=[],v:=.tup [Yu (A1 54 (D 0)),.agg Im],outs:=[(1024,.box Im 27)],nx:=1025,fz:=true}
theorem NM:PX P bh b0 R0 0 0 65 F0 Vy (.seq (cl (cl (cl (cr (cl (cr (cr (cr (cr rA))))))))) (.block 1 (.seq (cl (cl (cr (cl (cl (cr (cl (cr (cr (cr (cr rA))))))))))) (cr (cl (cr (cl (cl (cr (cl (cr (cr (cr (cr rA)))))))))))))) Hs Hs Hr fJ:=
 PX.seq (J2:=Vz) (by decide) (Qo LZ) T9 (PX.block (PX.seq (J2:=XY) (by decide) (Ql Qm LY) (fun s hs _=>T8 s hs) (Qi Qj)) rfl)
theorem Qv{d:Dat}(h:(sc1.tr F0 4 [d,.int 0,.int 0]).1=0):d.toS.length<4001∧sc1.tr F0 4 [d,.int 0,.int 0]=(0,[d,.int 0,.int 0,.int 0]):=by revert h;simp only[sc1,aI,bO,cS,cm,sI];split;{intro _;exact⟨by omega,rfl⟩};intro h;cases h
def A4(l:List Dat)(d:Dat)(s:List Dat):Prop:=s=l∧d.toS.length<4001
theorem TZ{d:Dat}:PX P bh b0 R0 0 0 65 F0 (At [d]) rA scA Qg Hr (ma F0):=by
 rw[T0];refine PX.seq (J2:=At [d,.int 0,.int 0]) (by decide) Qw (kC rfl) (PX.seq (J2:=A4 [d,.int 0,.int 0,.int 0] d) (by decide) Qu (fun s hs h=>by
  have hs:s=[d,.int 0,.int 0]:=hs;subst hs;obtain⟨k,e⟩:=Qv h;rw[e];exact⟨rfl,k⟩) (PX.seq (J2:=A4 [d,.int 0,.int 0,d] d) (by decide) Qs (fun s hs _=>by
  obtain⟨rfl,k⟩:=hs;exact⟨rfl,k⟩) (PX.seq (J2:=A4 [d,.int 0,.int 0,d,.lst [],.int 0] d) (by decide) Qr (fun s hs _=>by
  obtain⟨rfl,k⟩:=hs;exact⟨rfl,k⟩) (PX.seq (J2:=fun _=>True) (by decide) (PX.seq (J2:=Vy) (by decide) (Qp fun s hs=>by
  obtain⟨rfl,k⟩:=hs;exact Qq d _ k _ _ _) (fun s hs _=>by
  obtain⟨rfl,k⟩:=hs;have e4:sc4.tr F0 9 [d,.int 0,.int 0,d,.lst [],.int 0]=(0,SK d [] 0 0):=(by unfold SK S9;simp only[sc4,aI,bO,cS,fA,sI];rw[if_pos (by omega)];rfl);rw[e4];obtain⟨n,g,hh⟩:=Bl (d:=d) (p:=0) (by omega) (by omega);have gl:=g.le;rw[List.length_drop]at gl;have h15:F0 15 d (.int ((0:Nat):Int)) (.int 0)=.int ((0+n:Nat):Int):=(by rcases hh with⟨_,hh⟩|⟨_,_,hh⟩;{exact(hh _).1};exact(hh _).1);unfold SK;rw[h15];exact⟨d,_,_,[],0,0+n,rfl,by omega,fun _=>by simp,by omega⟩) (PX.block (PX.loopM (by decide) NM wF) rfl)) (fun _ _ _=>trivial) Mb))))
theorem Qd(d:Dat):(ma F0 [d]).1=1:=by
 by_cases h4:d.toS.length<4001;{obtain⟨L,y',er,ea,h1,h2⟩:=Hq (d:=d) (by omega) _ 0 [] 0 (aE _) (by simp) (by omega);rw[sd h4,aF (eP h1),wG];split<;>rfl};unfold ma;rw[aF (f:=sc0.tr F0 3) (s':=[d,.int 0,.int 0]) rfl];have e:sc1.tr F0 4 [d,.int 0,.int 0]=(1,[.lst [],.int 0,.int 3,.int 4000]):=by simp only[sc1,aI,bO,cS,cm,sI];rw[if_neg (by omega)];rfl
 rw[eJ e (by simp)]
theorem F5:hcScan.Sound F0 P bh b0 R0:=by
 refine dH (fn:=Tryz.f5) (code:=rA) Tryz.func5 (by rfl) (by kernel_rfl) (by kernel_rfl) (by kernel_rfl) fun v hF hpre=> ?_;refine⟨.ret,scZ.l,_,_,.inl rfl,?_,lb (by kernel_rfl),by kernel_rfl⟩;obtain⟨d,hd⟩:∃d,d=@Sx.dat v (D 0):=⟨_,rfl⟩;have h:=PX.ret (TZ (d:=d)) rfl (Qd d);have va:∀k,@Sx.dat v (.ap k (D 0) (I 0) (I 0))=F0 k d (.int 0) (.int 0):=fun k=>by show v.fn k (@Sx.dat v (D 0)) (.int 0) (.int 0)=_;rw[hF,hd]
 refine HT.pre (by decide) (aT (v:=v) (v':=VL F0 [d]) az Qe (ag hd.symm aK)) (HT.retell (by decide) h (aV (v':=v) az Qf ?_));refine ag ?_ (ag (ct ?_) (ag (ct ?_) aK));{rw[gu,va,EC]};{rw[gu,va,EA,tI]};rw[gu,va,Ez,tI]
end
end Go.Proofs.YtbfonficacphkaaGreatDoor
set_option linter.all false
namespace Go.Proofs.YtbfonficacphkaaGreatDoor
open Go.Tw Go.Tw.LX
noncomputable section
theorem MD:∀c∈([]:List Con),c.Sound F0 P bh b0 R0:=qk
theorem Jf:∀c∈([]:List HCon),c.Sound F0 P bh b0 R0:=cQ
def Yk:Code:=match Tryz.f6.body with
 |some c=>c
 |none=>.skip
def pcA:Tl:=⟨[(0,sw),(1,jG)],[],1024⟩
def pcT1:Tl:=⟨[(4,sw)],[],1024⟩
def YM:Nat→Tl:=fun w=>match w with
 |1=>pcT1
 |_=>pcA
theorem Rz{J:List Dat→Prop}(hco:∀s,J s→∀q∈ME,¬@Holds (VL F0 s) q)(hinv:∀s,J s→@Holds (VL F0 s) Ry):PX P bh b0 R0 0 0 14 F0 J Yk pcA pcA YM (pc0.tr F0 1):=
 PX.tree (pins:=[]) az (by decide) follows (cons:=[]) MD (ak:=[]) Jf (cores:=ME) hco (inv:=Ry) hinv (by kernel_rfl)
theorem Rw:eB R0 0 [] (ba pcA.l) (aA b0 pcA.o pcA.nx) pcA.l pcA.o pcA.nx=some WW:=by kernel_rfl
def pcZ:Tl:=⟨[(4,.sym .i64 (.ap 57 (.dvar 0) (.dvar 1) (.lit 0)))],[],1024⟩
theorem Rx:dT R0 0 [] [] (ba pcT1.l) (aA b0 pcT1.o pcT1.nx) pcZ.l pcZ.o pcZ.nx=some WV:=by kernel_rfl
def conPick:Con:={f:=6,args:=[SI 0,SI 1],pre:=[(lt (D 1) (I 1),false)],res:=.sym .i64 (A2 57 (D 0) (D 1)),objs:=[]}
theorem C7:conPick.Sound F0 P bh b0 R0:=by
 refine cE (fn:=Tryz.f6) (code:=Yk) Tryz.func6 (by rfl) (by kernel_rfl) rfl rfl rfl fun v hF hpre=> ?_;refine⟨.ret,pcZ.l,pcZ.o,pcZ.nx,_,_,.inl rfl,?_,by rfl,rfl⟩;have h1:=bU (aj hpre).1;have h1:¬(@Sx.dat v (D 1)).toI<1:=h1;have hj:∀s,At [.int (@Sx.dat v (D 0)).toI,.int (@Sx.dat v (D 1)).toI] s→∀q∈ME,¬@Holds (VL F0 s) q:=fun s hs q hq h=>by have hs:s=_:=hs;subst hs;simp only[ME,dC,fE,or_false]at hq;subst hq;have h2:=mP (aj (aj h).2).1;rw[qF,sI,tI]at h2;omega
 have hi:∀s,At [.int (@Sx.dat v (D 0)).toI,.int (@Sx.dat v (D 1)).toI] s→@Holds (VL F0 s) Ry:=fun s hs=>by have hs:s=_:=hs;subst hs;exact ak (qJ (by rw[qF,sI,tI];omega)) aW
 have h:=PX.ret (Rz hj hi) (s:=[.int (@Sx.dat v (D 0)).toI,.int (@Sx.dat v (D 1)).toI]) rfl (Ot hj hi (by kernel_rfl) (by kernel_rfl) rfl);refine HT.pre (bP _) (aT (v:=v) (v':=VL F0 [.int (@Sx.dat v (D 0)).toI,.int (@Sx.dat v (D 1)).toI]) az Rw (ag rfl (ag rfl aK))) (HT.retell (bP _) h (aV (v':=v) az Rx (ag (ct ?_) aK)));show _=(v.fn 57 _ _ _).toI;rw[hF,OG];rfl
theorem na:∀c∈([]:List Con),c.Sound F0 P bh b0 R0:=qk
theorem kR:∀c∈([]:List HCon),c.Sound F0 P bh b0 R0:=cQ
def Gm:Code:=match Tryz.f8.body with
 |some c=>c
 |none=>.skip
abbrev Il:Ob:=.opq 2 0 1023 iT (.dvar 1) (.dvar 2) [] 33
def smA:Tl:=⟨[(0,.opq 0 1023 0 iT (.dvar 0) (.lit 0)),(1,.opq 2 1024 0 iT (.lit 0) (.dvar 2))],[(1024,Il)],1025⟩
def rX:List RE:=[⟨1024,1024,0,0,0⟩]
abbrev oQ:List (Nat×Ob):=[(1024,N5)]
def smT1:Tl:=⟨[(4,kp)],oQ,1025⟩
def Wj:Tl:=⟨[],oQ,1025⟩
def Tx:Nat→Tl:=fun w=>match w with
 |1=>smT1
 |2=>Wj
 |_=>smA
abbrev BR:AV:=.opq 0 1023 0 iT (.dvar 2) (.lit 0)
def TO:Tl:=⟨[(0,BR),(1,Dy)],oQ,1025⟩
theorem Pz{J:List Dat→Prop}:PX P bh b0 R0 0 1048576 27 F0 J (cl Gm) smA TO Tx (sm0.tr F0 3):=
 PX.tree (pins:=rX) az (by decide) follows (cons:=[]) na (ak:=[]) kR (cores:=[]) (fun _ _ _ h=>by cases h) (inv:=[]) (fun _ _=>aW) (by kernel_rfl)
def TN:Tl:=⟨[(0,BR),(1,Dy)],oQ,1025⟩
theorem Py{J:List Dat→Prop}:PX P bh b0 R0 0 1048576 27 F0 J (cl (cr Gm)) TO TN Tx (sm1.tr F0 3):=
 PX.tree (pins:=rX) az (by decide) follows (cons:=[]) na (ak:=[]) kR (cores:=[]) (fun _ _ _ h=>by cases h) (inv:=[]) (fun _ _=>aW) (by kernel_rfl)
def Ps:Tl:=⟨[(0,BR),(1,Dy),(5,eL)],oQ,1025⟩
theorem Px{J:List Dat→Prop}:PX P bh b0 R0 0 1048576 27 F0 J (cl (cl (cr (cr Gm)))) TN Ps Tx (sm2.tr F0 4):=
 PX.tree (pins:=rX) az (by decide) follows (cons:=[]) na (ak:=[]) kR (cores:=[]) (fun _ _ _ h=>by cases h) (inv:=[]) (fun _ _=>aW) (by kernel_rfl)
theorem Pv{J:List Dat→Prop}(hco:∀s,J s→∀q∈LH,¬@Holds (VL F0 s) q)(hinv:∀s,J s→@Holds (VL F0 s) Pu):PX P bh b0 R0 0 1048576 27 F0 J (cl (cl (cr (cl (cr (cr Gm)))))) Ps Ps Tx (sm4.tr F0 4):=
 PX.tree (pins:=rX) az (by decide) follows (cons:=[]) na (ak:=[]) kR (cores:=LH) hco (inv:=Pu) hinv (by kernel_rfl)
def Pr:Tl:=⟨[],oQ,1025⟩
theorem Pt{J:List Dat→Prop}:PX P bh b0 R0 0 1048576 27 F0 J (cr (cr (cr Gm))) Pr Pr Tx (sm6.tr F0 3):=
 PX.tree (pins:=rX) az (by decide) follows (cons:=[]) na (ak:=[]) kR (cores:=[]) (fun _ _ _ h=>by cases h) (inv:=[]) (fun _ _=>aW) (by kernel_rfl)
theorem Pp:eB R0 1048576 [⟨1024,1024,0,0,0⟩] (ba smA.l) (aA b0 smA.o smA.nx) smA.l smA.o smA.nx=some Wl:=by kernel_rfl
def smZ:Tl:=⟨[(4,.symb (.cmp .neq (.ap 58 (.dvar 0) (.dvar 1) (.dvar 2)) (.lit 0)))],[(1024,Il)],1025⟩
theorem Pq:dT R0 1048576 [⟨1024,1024,0,0,0⟩] [] (ba smT1.l) (aA b0 smT1.o smT1.nx) smZ.l smZ.o smZ.nx=some Wk:=by kernel_rfl
theorem TM:Gm=(.seq (cl Gm) (.seq (cl (cr Gm)) (.seq (.seq (cl (cl (cr (cr Gm)))) (.block 0 (.loop (cl (cl (cr (cl (cr (cr Gm))))))))) (cr (cr (cr Gm)))))):=by kernel_rfl
def YZ:AV:=.opq 2 1024 0 (.slc T6) (.lit 0) (D 2)
def Yv(x y:Sx):Ob:=.opq 2 0 gid (.slc T6) x y [] 33
def hcSame:HCon:={f:=8,args:=[Yu (D 0),YZ],pre:=[(lt (.pr 7 (D 0) (I 0)) cY,true),(lt (.pr 7 (D 1) (I 0)) cY,true)],nr:=0,np:=0,ns:=1,locs:=[⟨none,[1]⟩],ins:=[(1024,Yv (D 1) (D 2))],v:=.symb (.cmp .neq (A3 58 (D 0) (D 1) (D 2)) (.lit 0)),outs:=[(1024,Yv (D 1) (D 2))],nx:=1025,fz:=true}
theorem Pw(s:List Dat)(h:V2 s):∀q∈LH,¬@Holds (VL F0 s) q:=fun q hq hh=>by obtain⟨a,b,y,k,rfl,h1,_,_⟩:=h;simp only[LH,dC,fE,or_false]at hq;subst hq;have k1:=cD (aj hh).1;have k2:=bU (aj (aj hh).2).1;rw[jX,sL]at k1 k2;rw[kH]at k1;rw[cm]at k2;omega
theorem LI(s:List Dat)(h:V2 s):@Holds (VL F0 s) Pu:=by obtain⟨a,b,y,k,rfl,_⟩:=h;exact ak (qJ (by rw[jX,sI,tI];omega)) aW
theorem TK{a b y:Dat}(hl:a.toL.length<1000000001):PX P bh b0 R0 0 1048576 27 F0 (At [a,b,y]) Gm smA Pr Tx (um F0):=by
 rw[TM]
 exact PX.seq (J2:=At [b,y,a]) (by decide) Pz (kC rfl) (PX.seq (J2:=fun s=>s=[b,y,a]∧a.toL.length=b.toL.length) (by decide) Py (fun s hs h=>by
  have hs:s=[b,y,a]:=hs
  subst hs
  revert h
  simp only[sm1,aI,bV,sL,cm,kH]
  split
  ·rename_i h2
   intro _;exact⟨rfl,by omega⟩
  ·intro h;cases h) (PX.seq (J2:=fun _=>True) (by decide)
  (PX.seq (J2:=V2) (by decide) Px (fun s hs _=>by
    obtain⟨rfl,h2⟩:=hs
    exact⟨a,b,y,0,rfl,h2,bP _,hl⟩) (PX.block (PX.loopM (by decide) (Pv Pw LI) Bj) rfl)) (fun _ _ _=>trivial) Pt))
theorem F6:hcSame.Sound F0 P bh b0 R0:=by
 refine dH (fn:=Tryz.f8) (code:=Gm) Tryz.func8 (by rfl) (by kernel_rfl) (by kernel_rfl) (by kernel_rfl) fun v hF hpre=> ?_;refine⟨.ret,smZ.l,_,_,.inl rfl,?_,by rfl,rfl⟩;have hl:(@Sx.dat v (D 0)).toL.length<1000000001:=by have k:=cD (aj hpre).1;rw[sI,show(Sx.pr 7 (D 0) (I 0))=bg (D 0)from rfl,sL]at k;omega
 obtain⟨i,z,e⟩:=TJ (b:=@Sx.dat v (D 1)) (y:=@Sx.dat v (D 2)) hl;have h:=PX.ret (TK hl) (s:=[@Sx.dat v (D 0),@Sx.dat v (D 1),@Sx.dat v (D 2)]) rfl (by rw[e]);have h9:(v.fn 58 (@Sx.dat v (D 0)) (@Sx.dat v (D 1)) (@Sx.dat v (D 2))).toI=i:=by rw[hF,OF,e];rfl
 rw[e]at h;refine HT.pre (bP _) (aT (v:=v) (v':=VL F0 [@Sx.dat v (D 0),@Sx.dat v (D 1),@Sx.dat v (D 2)]) az Pp (ag rfl (ag rfl (ag rfl (ag rfl aK)))))
  (HT.retell (bP _) h (aV (v':=v) az Pq (ag (Ty ?_) (ag rfl (ag rfl aK)))))
 show i=(v.fn 58 (@Sx.dat v (D 0)) (@Sx.dat v (D 1)) (@Sx.dat v (D 2))).toI;rw[h9]
end
end Go.Proofs.YtbfonficacphkaaGreatDoor
set_option linter.all false
namespace Go.Proofs.YtbfonficacphkaaGreatDoor
open Go.Tw Go.Tw.LX
noncomputable section
theorem eD:∀c∈[conAwake,conPick],c.Sound F0 P bh b0 R0:=yo AH (mT C7)
theorem dv:∀c∈[hcScan,hcSame],c.Sound F0 P bh b0 R0:=mn F5 (mn F6 cQ)
def ov:Code:=match Tryz.f3.body with
 |some c=>c
 |none=>.skip
abbrev sH:Sh:=.slc [jD]
abbrev mi:AV:=.opq 0 1023 0 sH (.dvar 1) (.lit 0)
def lbA:Tl:=⟨[(0,cI),(1,mi)],[],1024⟩
def lbT1:Tl:=⟨[(4,zo)],[],1024⟩
abbrev iC:AV:=.bool true
abbrev Ig:AV:=.opq 0 1023 0 sH (.dvar 0) (.lit 0)
abbrev Ia:AV:=.opq 0 1023 0 iT (.dvar 1) (.lit 0)
abbrev HV:List (Nat×AV):=[(1,Ig),(5,iC),(6,Ia),(9,sG),(11,.opq 2 1024 0 iT (.lit 0) (.dvar 4))]
abbrev BU:List (Nat×Ob):=[(1024,.opq 2 0 1023 iT (.dvar 3) (.dvar 4) [] 33)]
def W6:Tl:=⟨HV,BU,1025⟩
def DZ:Nat→Tl:=fun w=>match w with
 |1=>lbT1
 |2=>W6
 |_=>lbA
def U7:Tl:=⟨[(0,cI),(1,mi),(4,kp)],[],1024⟩
theorem Se{J:List Dat→Prop}:PX P bh b0 R0 0 0 133 F0 J (cl ov) lbA U7 DZ (lb0.tr F0 3):=
 PX.tree (pins:=[]) az (by decide) follows (cons:=[conAwake,conPick]) eD (ak:=[hcScan,hcSame]) dv (cores:=[]) (fun _ _ _ h=>by cases h) (inv:=[]) (fun _ _=>aW) (by kernel_rfl)
def U6:Tl:=⟨[(0,cI),(1,mi),(4,kp),(5,iC)],[],1024⟩
theorem Sd{J:List Dat→Prop}:PX P bh b0 R0 0 0 133 F0 J (cl (cr ov)) U7 U6 DZ (lb1.tr F0 3):=
 PX.tree (pins:=[]) az (by decide) follows (cons:=[conAwake,conPick]) eD (ak:=[hcScan,hcSame]) dv (cores:=[]) (fun _ _ _ h=>by cases h) (inv:=[]) (fun _ _=>aW) (by kernel_rfl)
def U4:Tl:=⟨[(0,cI),(1,mi),(4,kp),(5,iC)],[],1024⟩
theorem Sc{J:List Dat→Prop}:PX P bh b0 R0 0 0 133 F0 J (cl (cr (cr ov))) U6 U4 DZ (lb2.tr F0 3):=
 PX.tree (pins:=[]) az (by decide) follows (cons:=[conAwake,conPick]) eD (ak:=[hcScan,hcSame]) dv (cores:=[]) (fun _ _ _ h=>by cases h) (inv:=[]) (fun _ _=>aW) (by kernel_rfl)
abbrev uY:AV:=.opq 0 1023 0 iT (.dvar 3) (.lit 0)
def U3:Tl:=⟨[(0,cI),(1,mi),(4,kp),(5,iC),(6,uY),(7,nw)],[(1024,.box [iB,km] 27)],1025⟩
theorem Sa{J:List Dat→Prop}(hco:∀s,J s→∀q∈M4,¬@Holds (VL F0 s) q):PX P bh b0 R0 0 0 133 F0 J (cl (cr (cr (cr ov)))) U4 U3 DZ (lb3.tr F0 6):=
 PX.tree (pins:=[]) az (by decide) follows (cons:=[conAwake,conPick]) eD (ak:=[hcScan,hcSame]) dv (cores:=M4) hco (inv:=[]) (fun _ _=>aW) (by kernel_rfl)
def U2:Tl:=⟨[(0,cI),(1,mi),(4,kp),(5,iC),(6,uY)],[],1024⟩
theorem R9{J:List Dat→Prop}:PX P bh b0 R0 0 0 133 F0 J (cl (cr (cr (cr (cr ov))))) U3 U2 DZ (lb4.tr F0 4):=
 PX.tree (pins:=[]) az (by decide) follows (cons:=[conAwake,conPick]) eD (ak:=[hcScan,hcSame]) dv (cores:=[]) (fun _ _ _ h=>by cases h) (inv:=[]) (fun _ _=>aW) (by kernel_rfl)
abbrev HJ:Ob:=.opq 2 0 1023 kn (.dvar 4) (.dvar 5) [] 9
abbrev Dz:AV:=.opq 2 1024 0 kn (.lit 0) (.dvar 5)
def U1:Tl:=⟨[(0,cI),(1,mi),(4,kp),(5,iC),(6,uY),(8,Dz)],[(1024,HJ)],1025⟩
theorem R8{J:List Dat→Prop}:PX P bh b0 R0 0 0 133 F0 J (cl (cr (cr (cr (cr (cr ov)))))) U2 U1 DZ (lb5.tr F0 6):=
 PX.tree (pins:=[]) az (by decide) follows (cons:=[conAwake,conPick]) eD (ak:=[hcScan,hcSame]) dv (cores:=[]) (fun _ _ _ h=>by cases h) (inv:=[]) (fun _ _=>aW) (by kernel_rfl)
abbrev BC:AV:=.sym .i64 (.dvar 7)
def U0:Tl:=⟨[(0,cI),(1,mi),(4,kp),(5,iC),(6,uY),(8,Dz),(9,wQ),(10,BC)],[(1024,HJ)],1025⟩
theorem R7{J:List Dat→Prop}:PX P bh b0 R0 0 0 133 F0 J (cl (cr (cr (cr (cr (cr (cr ov))))))) U1 U0 DZ (lb6.tr F0 8):=
 PX.tree (pins:=[]) az (by decide) follows (cons:=[conAwake,conPick]) eD (ak:=[hcScan,hcSame]) dv (cores:=[]) (fun _ _ _ h=>by cases h) (inv:=[]) (fun _ _=>aW) (by kernel_rfl)
abbrev IA:List (Nat×Ob):=[(1024,HJ),(1025,.opq 2 0 1023 iT (.dvar 8) (.dvar 9) [] 33)]
abbrev Ib:AV:=.opq 2 1025 0 iT (.lit 0) (.dvar 9)
def UZ:Tl:=⟨[(0,cI),(1,mi),(4,kp),(5,iC),(6,uY),(8,Dz),(9,wQ),(10,BC),(11,Ib)],IA,1026⟩
theorem R6{J:List Dat→Prop}:PX P bh b0 R0 0 0 133 F0 J (cl (cr (cr (cr (cr (cr (cr (cr ov)))))))) U0 UZ DZ (lb7.tr F0 10):=
 PX.tree (pins:=[]) az (by decide) follows (cons:=[conAwake,conPick]) eD (ak:=[hcScan,hcSame]) dv (cores:=[]) (fun _ _ _ h=>by cases h) (inv:=[]) (fun _ _=>aW) (by kernel_rfl)
def R4:Tl:=⟨[(0,cI),(1,mi),(4,kp),(5,iC),(6,uY),(8,Dz),(9,wQ),(10,BC),(11,Ib),(12,.sym .i64 oP)],IA,1026⟩
theorem R5{J:List Dat→Prop}:PX P bh b0 R0 0 0 133 F0 J (cl (cl (cr (cr (cr (cr (cr (cr (cr (cr ov)))))))))) UZ R4 DZ (lb8.tr F0 11):=
 PX.tree (pins:=[]) az (by decide) follows (cons:=[conAwake,conPick]) eD (ak:=[hcScan,hcSame]) dv (cores:=[]) (fun _ _ _ h=>by cases h) (inv:=[]) (fun _ _=>aW) (by kernel_rfl)
theorem Nb{J:List Dat→Prop}(hco:∀s,J s→∀q∈D5,¬@Holds (VL F0 s) q)(hinv:∀s,J s→@Holds (VL F0 s) JK):PX P bh b0 R0 0 0 133 F0 J (cl (cl (cr (cl (cr (cr (cr (cr (cr (cr (cr (cr ov)))))))))))) R4 R4 DZ (lb10.tr F0 11):=
 PX.tree (pins:=[]) az (by decide) follows (cons:=[conAwake,conPick]) eD (ak:=[hcScan,hcSame]) dv (cores:=D5) hco (inv:=JK) hinv (by kernel_rfl)
def U5:Tl:=⟨HV,BU,1025⟩
def Oi:Tl:=⟨HV,BU,1025⟩
theorem Na{J:List Dat→Prop}:PX P bh b0 R0 0 0 133 F0 J (cl (cr (cr (cr (cr (cr (cr (cr (cr (cr ov)))))))))) U5 Oi DZ (lb12.tr F0 5):=
 PX.tree (pins:=[]) az (by decide) follows (cons:=[conAwake,conPick]) eD (ak:=[hcScan,hcSame]) dv (cores:=[]) (fun _ _ _ h=>by cases h) (inv:=[]) (fun _ _=>aW) (by kernel_rfl)
def D0:Tl:=⟨[(1,Ig),(5,iC),(6,Ia),(11,.opq 2 1024 0 iT (.lit 0) (.dvar 3)),(14,.opq 0 1023 0 iT (.dvar 4) (.lit 0)),(15,.ptr 1025 0 0 2)],[(1024,.opq 2 0 1023 iT (.dvar 2) (.dvar 3) [] 33),(1025,.box [km,nA] 27)],1026⟩
theorem M8{J:List Dat→Prop}(hco:∀s,J s→∀q∈D2,¬@Holds (VL F0 s) q):PX P bh b0 R0 0 0 133 F0 J (cl (cr (cr (cr (cr (cr (cr (cr (cr (cr (cr ov))))))))))) Oi D0 DZ (lb13.tr F0 7):=
 PX.tree (pins:=[]) az (by decide) follows (cons:=[conAwake,conPick]) eD (ak:=[hcScan,hcSame]) dv (cores:=D2) hco (inv:=[]) (fun _ _=>aW) (by kernel_rfl)
theorem M6{J:List Dat→Prop}(hco:∀s,J s→∀q∈D1,¬@Holds (VL F0 s) q):PX P bh b0 R0 0 0 133 F0 J (cr (cr (cr (cr (cr (cr (cr (cr (cr (cr (cr ov))))))))))) D0 D0 DZ (lb14.tr F0 1):=
 PX.tree (pins:=[]) az (by decide) follows (cons:=[conAwake,conPick]) eD (ak:=[hcScan,hcSame]) dv (cores:=D1) hco (inv:=[]) (fun _ _=>aW) (by kernel_rfl)
theorem R2:eB R0 0 [] (ba lbA.l) (aA b0 lbA.o lbA.nx) lbA.l lbA.o lbA.nx=some W8:=by kernel_rfl
theorem UY:ov=(.seq (cl ov) (.seq (cl (cr ov)) (.seq (cl (cr (cr ov))) (.seq (cl (cr (cr (cr ov)))) (.seq (cl (cr (cr (cr (cr ov))))) (.seq (cl (cr (cr (cr (cr (cr ov)))))) (.seq (cl (cr (cr (cr (cr (cr (cr ov))))))) (.seq (cl (cr (cr (cr (cr (cr (cr (cr ov)))))))) (.seq (.seq (cl (cl (cr (cr (cr (cr (cr (cr (cr (cr ov)))))))))) (.block 0 (.loop (cl (cl (cr (cl (cr (cr (cr (cr (cr (cr (cr (cr ov))))))))))))))) (.seq (cl (cr (cr (cr (cr (cr (cr (cr (cr (cr ov)))))))))) (.seq (cl (cr (cr (cr (cr (cr (cr (cr (cr (cr (cr ov))))))))))) (cr (cr (cr (cr (cr (cr (cr (cr (cr (cr (cr ov)))))))))))))))))))))):=by kernel_rfl
theorem Sb(d w:Dat)(h4:d.toS.length<1001)(s:List Dat)(hs:At [d,w,.int 0] s):∀q∈M4,¬@Holds (VL F0 s) q:=fun q hq hh=>by have hs:s=_:=hs;subst hs;simp only[M4,dC,fE,or_false]at hq;subst hq;have k:=bU (aj hh).1;rw[cS,sI,cm]at k;omega
theorem JL(d w:Dat)(s:List Dat)(h:Tt d w s):@Holds (VL F0 s) JK:=by obtain⟨L,wide,want,y,e,i,rfl,hc,hi,he,h4,hL,hw,hn⟩:=h;unfold SB;exact ak (qJ (by rw[sL,qw,iN,sI];decide)) (ak (qJ (by rw[ix,sI,tI];omega)) (ak (qJ (by rw[za,sI,tI];omega)) (ak (qJ (by rw[cS,za,cm,tI];omega)) aW)))
theorem Nc(d w:Dat)(s:List Dat)(h:Tt d w s):∀q∈D5,¬@Holds (VL F0 s) q:=fun q hq hh=>by
 obtain⟨L,wide,want,y,e,i,rfl,hc,hi,he,h4,hL,hw,hn⟩:=h;have hp:=nJ (w.cell (i:Int) 0).toI;have hx:(A6.cell (la (w.cell (i:Int) 0).toI) 0).toS.length≤8:=by obtain⟨x,h1,h2⟩:=Ev hp.1 hp.2;rw[h2];exact(v7 _ h1).2.2
 have hcut:∀a b:Nat,((d.toS.take a).drop b).length≤d.toS.length:=fun a b=>by rw[List.length_drop,List.length_take];omega
 have hrow:i<L.length→∃n,∃t:TokV,(Dat.lst L).cell (i:Int) 1=.int ((e+n:Nat):Int)∧(Dat.lst L).cell (i:Int) 2=.int t.z∧e+n+t.z≤d.toS.length:=fun hlt=>by
  cases hd:L.drop i with
  |nil=>have:=List.drop_eq_nil_iff.1 hd;omega
  |cons r l=>
   rw[hd]at hc;cases hc with
   |@cons _ n t c _ g h0 hc ht hz hb k2=>exact⟨n,t,je hd 1,je hd 2,hb⟩
 unfold SB at hh;simp only[D5,dC,fE,or_false]at hq;rcases hq with rfl|rfl|rfl|rfl|rfl|rfl|rfl|rfl|rfl|rfl|rfl|rfl|rfl|rfl|rfl|rfl|rfl|rfl|rfl|rfl;{have k0:=cD (aj hh).1;rw[ix,sL,fA,tI,tL]at k0;obtain⟨n,t,c1,c2,hb⟩:=hrow (by omega);have k:=cD (aj (aj hh).2).1;simp only[iy,fA,ix,tI,c1,za]at k;omega};{have k0:=cD (aj hh).1;rw[ix,sL,fA,tI,tL]at k0;obtain⟨n,t,c1,c2,hb⟩:=hrow (by omega);have k:=cD (aj (aj hh).2).1;simp only[iy,fA,ix,tI,c1,cS,cm]at k;omega};{have k0:=cD (aj hh).1;have k:=mP (aj (aj hh).2).1;rw[ix,sL,fA,tI,tL]at k0 k;omega};{have k:=cD (aj hh).1;simp only[iS,kA,kJ,ix,tI,uC,qw,iN,uA,sI]at k;omega};{have k0:=bU (aj hh).1;have k1:=bU (aj (aj hh).2).1;have k2:=cD (aj (aj (aj hh).2).2).1;rw[za,sI,tI]at k0;rw[za,tI]at k1;rw[sI]at k2;omega};{have k0:=cD (aj hh).1;rw[ix,sL,fA,tI,tL]at k0;obtain⟨n,t,c1,c2,hb⟩:=hrow (by omega);have k:=cD (aj (aj hh).2).1;simp only[iy,fA,ix,tI,c1,c2,iR]at k;rw[bG (by omega) (by omega)]at k;omega};{have k0:=cD (aj hh).1;rw[ix,sL,fA,tI,tL]at k0;obtain⟨n,t,c1,c2,hb⟩:=hrow (by omega);have k:=cD (aj (aj hh).2).1;simp only[iy,fA,ix,tI,c1,c2,iR,cS,cm]at k;rw[bG (by omega) (by omega)]at k;omega};{have k:=bU (aj hh).1;simp only[cS,dh,fy,cm,tS,sI]at k;have:=hcut (@Sx.eval (VL F0 [d,w,.int 0,.lst L,A6,.int 1,.str wide,.int e,.lst want,y,.int i]) (.bin .add .i64 (.cell (D 3) (D 10) 1) (.cell (D 3) (D 10) 2))).toNat (@Sx.eval (VL F0 [d,w,.int 0,.lst L,A6,.int 1,.str wide,.int e,.lst want,y,.int i]) (.cell (D 3) (D 10) 1)).toNat;omega};{have k:=bU (aj hh).1;simp only[cS,uD,dh,fy,cm,oq,tS,sI,iy,kA,fA,ix,za,tI,iS,kJ,uC,qw,iN,uA,cg]at k;have:=hcut ((Dat.lst L).cell (i:Int) 1).toI.toNat (e:Int).toNat;omega};{have k:=bU (aj hh).1;simp only[sL,El,tL,sI]at k;omega};{have k:=bU (aj hh).1;simp only[cS,sI,kA,iS,kJ,ix,tI,uC,qw,iN,uA]at k;omega};{have k:=bU (aj hh).1;simp only[cS,uD,dh,fy,cm,oq,tS,sI,iy,fA,ix,za,tI,cg]at k;have:=hcut ((Dat.lst L).cell (i:Int) 1).toI.toNat (e:Int).toNat;omega};{have k:=bU (aj hh).1;simp only[iS,kA,kJ,ix,tI,uC,qw,iN,uA,sL]at k;omega};{have k:=bU (aj hh).1;simp only[cS,dh,fy,cm,tS,sI,iy,fA,ix,za,tI]at k;have:=hcut ((Dat.lst L).cell (i:Int) 1).toI.toNat (e:Int).toNat;omega};{have k:=bU (aj hh).1;simp only[cS,oq,tS,sI]at k;omega};{have k:=cD (aj hh).1;omega};{have k:=bU (aj hh).1;simp only[cS,uD,dh,fy,cm,oq,tS,sI,za,tI,KC,cg,List.length_cons,List.length_nil]at k;have:=hcut (d.toS.length:Int).toNat (e:Int).toNat;omega};{have k:=bU (aj hh).1;simp only[cS,uD,dh,fy,cm,oq,tS,sI,za,tI,cg]at k;have:=hcut (d.toS.length:Int).toNat (e:Int).toNat;omega};{have k0:=bU (aj hh).1;have k1:=bU (aj (aj hh).2).1;have k2:=Ao (aj (aj (aj hh).2).2).1;rw[ix,sL,fA,tI,tL]at k0 k1 k2;omega};have k:=bU (aj hh).1;simp only[cS,dh,fy,cm,tS,sI,za,tI]at k;have:=hcut (d.toS.length:Int).toNat (e:Int).toNat;omega
theorem M9(s:List Dat)(hs:∃w L wide want y,s=[w,.lst L,.str wide,.lst want,y]∧wide.length<4001):∀q∈D2,¬@Holds (VL F0 s) q:=fun q hq hh=>by obtain⟨w,L,wide,want,y,rfl,h⟩:=hs;simp only[D2,dC,fE,or_false]at hq;subst hq;have k:=bU (aj hh).1;rw[cS,sI,kH,tS]at k;omega
theorem M7(s:List Dat)(hs:∃w L M y er ea,s=[w,.lst L,.lst M,y,.lst M,er,ea]∧M.length<4002):∀q∈D1,¬@Holds (VL F0 s) q:=fun q hq hh=>by obtain⟨w,L,M,y,er,ea,rfl,h⟩:=hs;simp only[D1,dC,fE,or_false]at hq;rcases hq with rfl|rfl;{have k:=bU (aj hh).1;rw[sL,sI,kH,tL]at k;omega};have k:=bU (aj hh).1;rw[sL,sI,qw,tL]at k;omega
def K5(d w:Dat)(s:List Dat):Prop:=∃L,s=[d,w,.int 0,.lst L]∧Ch d 0 L∧d.toS.length<1001
def Y3(d w:Dat)(s:List Dat):Prop:=∃L y',s=EB w L (Wd d.toS (iP w) 0 L 0) (Vd d.toS (iP w) 0 0 L 0) y'∧Ch d 0 L∧d.toS.length<1001
theorem UX{d w:Dat}:PX P bh b0 R0 0 0 133 F0 (At [d,w]) ov lbA D0 DZ (Hc F0):=by
 rw[UY];refine PX.seq (J2:=At [d,w,.int 0]) (by decide) Se (kC rfl) (PX.seq (J2:=At [d,w,.int 0]) (by decide) Sd (kC rfl) (PX.seq (J2:=fun s=>s=[d,w,.int 0]∧d.toS.length<1001) (by decide) Sc (fun s hs h=>by
  have hs:s=[d,w,.int 0]:=hs;subst hs;have e:=@JJ d w;by_cases h4:d.toS.length<1001∧w.toL.length<1001;{rw[if_pos h4]at e;rw[e];exact⟨rfl,h4.1⟩};·rw[if_neg h4]at e;rw[e]at h;cases h) (PX.seq (J2:=fun s=>∃L,∃er ea:Int,s=[d,w,.int 0,.lst L,.int er,.int ea]∧(er=0→Ch d 0 L)∧d.toS.length<1001) (by decide) (Sa fun s hs=>Sb d w hs.2 s hs.1) (fun s hs _=>by
  obtain⟨rfl,h4⟩:=hs;obtain⟨L,er,ea,hs,h⟩:=Hp (d:=d) (by omega);rw[JI h4 hs];exact⟨L,er,ea,rfl,fun h0=>by rcases h with h|h;{exact h.2.2};exact absurd h0 h.1,h4⟩) (PX.seq (J2:=K5 d w) (by decide) R9 (fun s hs h=>by
  obtain⟨L,er,ea,rfl,hc,h4⟩:=hs;revert h;simp only[lb4,aI,bV,Mg,sI,tI];split;{rename_i h0;intro _;exact⟨L,rfl,hc h0,h4⟩};·intro h;cases h) (PX.seq (J2:=fun s=>∃L,s=[d,w,.int 0,.lst L,A6,.int 1]∧Ch d 0 L∧d.toS.length<1001) (by decide) R8 (fun s hs _=>by
  obtain⟨L,rfl,hc,h4⟩:=hs;exact⟨L,rfl,hc,h4⟩) (PX.seq (J2:=fun s=>∃L,s=[d,w,.int 0,.lst L,A6,.int 1,.str [],.int 0]∧Ch d 0 L∧d.toS.length<1001) (by decide) R7 (fun s hs _=>by
  obtain⟨L,rfl,hc,h4⟩:=hs;exact⟨L,rfl,hc,h4⟩) (PX.seq (J2:=fun s=>∃L,s=[d,w,.int 0,.lst L,A6,.int 1,.str [],.int 0,.lst [],.int 0]∧Ch d 0 L∧d.toS.length<1001) (by decide) R6 (fun s hs _=>by
  obtain⟨L,rfl,hc,h4⟩:=hs;exact⟨L,rfl,hc,h4⟩) (PX.seq (J2:=Y3 d w) (by decide) (PX.seq (J2:=Tt d w) (by decide) R5 (fun s hs _=>by
  obtain⟨L,rfl,hc,h4⟩:=hs;have hL:=hc.len;exact⟨L,[],[],.int 0,0,0,rfl,hc,by omega,by omega,h4,by omega,bP _,rfl⟩) (PX.block (PX.loopM (by decide) (Nb (Nc d w) (JL d w)) (JG d w)) rfl)) (fun s hs _=>by
  obtain⟨L,rfl,hc,h4⟩:=hs;have hL:=hc.len;obtain⟨y',e9⟩:=Oh (w:=w) h4 (by omega) hc 0 [] [] (.int 0) rfl (bP _) (bP _) (bP _) rfl;have e8:aG (lb8.tr F0 11) (jh 0 (gd (lb10.tr F0 11) Cj)) [d,w,.int 0,.lst L,A6,.int 1,.str [],.int 0,.lst [],.int 0]=(0,EB w L (Wd d.toS (iP w) 0 L 0) (Vd d.toS (iP w) 0 0 L 0) y'):=(by rw[aF (f:=lb8.tr F0 11) (s':=SB d w L [] (0:Nat) [] (.int 0) (0:Nat)) rfl];exact eP e9);rw[e8];exact⟨L,y',rfl,hc,h4⟩) (PX.seq (J2:=fun s=>∃w' L wide want y,s=[w',.lst L,.str wide,.lst want,y]∧wide.length<4001∧Ch (.str wide) 0 want∧want.length<4002) (by decide) Na (fun s hs h=>by
  obtain⟨L,y',rfl,hc,h4⟩:=hs;have hL:=hc.len;have e12:lb12.tr F0 5 (EB w L (Wd d.toS (iP w) 0 L 0) (Vd d.toS (iP w) 0 0 L 0) y')=_:=@D4 w y' L (Vd d.toS (iP w) 0 0 L 0) (Wd d.toS (iP w) 0 L 0) [.int 0,.int 0,.int 0,.int 0,.int 0,.int 0];by_cases hw:(Wd d.toS (iP w) 0 L 0).length<4001;{rw[if_pos hw]at e12;rw[e12];exact⟨w,L,_,_,y',rfl,hw,Dm h4 hc hw,by rw[GP];omega⟩};·rw[if_neg hw]at e12;rw[e12]at h;cases h) (PX.seq (J2:=fun s=>∃w L M y er ea,s=[w,.lst L,.lst M,y,.lst M,er,ea]∧M.length<4002) (by decide) (M8 fun s hs=>M9 s (by
  obtain⟨w',L,wide,want,y,rfl,h1,_⟩:=hs;exact⟨w',L,wide,want,y,rfl,h1⟩)) (fun s hs _=>by
  obtain⟨w',L,wide,want,y,rfl,h1,h2,h3⟩:=hs;rw[D3 h1 (Dw (d:=.str wide) h1 h2)];exact⟨w',L,want,y,_,_,rfl,h3⟩) (M6 M7)))))))))))
end
end Go.Proofs.YtbfonficacphkaaGreatDoor
set_option linter.all false
namespace Go.Proofs.YtbfonficacphkaaGreatDoor
open Go.Tw Go.Tw.LX Go.RowKit
noncomputable section
def Yw:AV:=.opq 0 gid 0 sH (D 1) (.lit 0)
def conLb:Con:={f:=3,args:=[VS 0,Yw],pre:=[],res:=.symb (.cmp .neq (I 1) (I 0)),objs:=[]}
def lbZ:Tl:=⟨[(4,.symb (.cmp .neq (I 1) (I 0)))],[],1024⟩
def W7:bS:=[(sO,.pr 21 (I 1) (I 0))]
theorem R3:eB R0 0 [] (ba lbT1.l) (aA b0 lbT1.o lbT1.nx) lbZ.l lbZ.o lbZ.nx=some W7:=by kernel_rfl
theorem KM:conLb.Sound F0 P bh b0 R0:=by refine cE (fn:=Tryz.f3) (code:=ov) Tryz.func3 (by rfl) (by kernel_rfl) rfl rfl rfl fun v hF hpre=> ?_;refine⟨.ret,lbZ.l,lbZ.o,lbZ.nx,_,_,.inl rfl,?_,by rfl,rfl⟩;obtain⟨h1,h2⟩:=R1 (@Sx.dat v (D 0)) (@Sx.dat v (D 1));have h:=PX.ret (UX (d:=@Sx.dat v (D 0)) (w:=@Sx.dat v (D 1))) (s:=[@Sx.dat v (D 0),@Sx.dat v (D 1)]) rfl h1;generalize Hc F0 [@Sx.dat v (D 0),@Sx.dat v (D 1)]=S at h h2;refine HT.pre (bP _) (aT (v:=v) (v':=VL F0 [@Sx.dat v (D 0),@Sx.dat v (D 1)]) az R2 (ag rfl (ag rfl aK))) (HT.retell (bP _) h (aT (v':=v) az R3 (ag ?_ aK)));show Dat.int (dX ((aP S.2 0).toI != 0))=_;rw[h2];rfl
theorem vG{W:World}{s:List UInt8}{x:Value}{d1:Dat}(hg:GC (Oc W) sH d1 x)(hl:∀v:Val,∀p∈iQ,@kD v W p):Calls P 3 #[.string ⟨⟨s⟩⟩,x] W fun e W'=>e=.returned iC∧Below W.heap.size W W':=by
 let v:Val:=VL F0 [.str s,d1];have hh:Hold v bh b0 R0 0 .leaf (conLb.start b0 R0) {tmps:= #[],defers:=[]} W (dD iQ W):=Nr lL (by decide) (by rfl) uN hl v;have hx:@VR v (dD iQ W) Yw x:=by
  cases x with
  |slice a n c=>exact @VR.opq v _ _ _ _ _ _ _ _ ⟨_,a,n,c,rfl,rfl,hg.mono fun _ _ h=>IW h⟩
  |_=>cases hg
 have ha:@VRL v (dD iQ W) conLb.args (#[.string ⟨⟨s⟩⟩,x]:Array Value).toList:=@VRL.cons v _ _ _ _ _ (@VR.vstr v _ (D 0) s rfl) (@VRL.cons v _ _ _ _ _ hx (@VRL.nil v _));refine(KM v rfl aW W _ _ hh ha).mono fun e W' q=> ?_;obtain⟨φ',x,rfl,hx,ht,_⟩:=q;have hx:@VR v φ' (.symb (.cmp .neq (I 1) (I 0))) x:=hx;have hx:x=.bool true:=by cases hx;rfl
 subst hx;exact⟨rfl,ht.os,ht.tape,ht.out,ht.size,fun k hk=>ht.keep k hk fun i u e hi he=>by rw[hh.free i hi u]at he;cases he⟩
end
end Go.Proofs.YtbfonficacphkaaGreatDoor
set_option linter.all false
namespace Go.Proofs.YtbfonficacphkaaGreatDoor
open Go.Tw Go.Tw.LX Go.RowKit
theorem mM:(Rows.lexBlanksRow.laid.filter fun x=>x.2.handleName?.isSome)=[]:=by kernel_rfl
theorem star: "*"++ "errors.errorString"= "*errors.errorString":=by decide
theorem Wc[Val]{W:World}(h:laidMet P Rows.lexBlanksRow.laid W):kD W (1,OA):=by obtain⟨rest,h1⟩:=xL h (i:=7) (n:= "strings.asciiSpace") (d:=Lib.tabData .u8 (On Rows.laid_strings_asciiSpace)) (by kernel_rfl);exact GZ (Lib.tabIs_of_head (P:=P) (g:=1) (t:=105) (e:=5) (n:=256) (by kernel_rfl) (by kernel_rfl) (by kernel_rfl) (by kernel_rfl) (by kernel_rfl) (by kernel_rfl) h1) (by kernel_rfl)
theorem Kt(u:TypeId)(h:P.typeName? 3 u=some "*errors.errorString"):u=132:=
 typeName_ptr_named (nm:= "errors.errorString") (by rw[star];kernel_rfl) (by kernel_rfl) (by decide) u (by rw[star];exact h)
theorem Wb[Val]{W:World}(h:laidMet P Rows.lexBlanksRow.laid W):kD W (2,Lz):=by obtain⟨rest,h1⟩:=xL h (i:=5) (n:= "strconv.ErrSyntax") (d:=Rows.laid_strconv_ErrSyntax) (by kernel_rfl);obtain⟨a,s,hv,_⟩:=laid_sentinel h1 (g:=2) (ti:=63) (tp:=132) (te:=134) (ts:=9) (by kernel_rfl) (by kernel_rfl) Tryz.underlying63 (fun u hu=>Kt u hu) Tryz.underlying132 Tryz.underlying134 rfl rfl Tryz.underlying9 (by kernel_rfl) (by kernel_rfl);exact Ds hv (by kernel_rfl)
theorem Wa[Val]{W:World}(h:laidMet P Rows.lexBlanksRow.laid W):kD W (3,Lz):=by obtain⟨rest,h1⟩:=xL h (i:=4) (n:= "strconv.ErrRange") (d:=Rows.laid_strconv_ErrRange) (by kernel_rfl);obtain⟨a,s,hv,_⟩:=laid_sentinel h1 (g:=3) (ti:=63) (tp:=132) (te:=134) (ts:=9) (by kernel_rfl) (by kernel_rfl) Tryz.underlying63 (fun u hu=>Kt u hu) Tryz.underlying132 Tryz.underlying134 rfl rfl Tryz.underlying9 (by kernel_rfl) (by kernel_rfl);exact Ds hv (by kernel_rfl)
theorem V9[Val]{W:World}(h:W.ShapedOpen P):kD W (0,[H0]):=by
 have h0:((begin P (fun _ _=>0) default).world.heap[0]?).bind Obj.row? =some (#[.int .i64 0],3):=by kernel_rfl
 have hg:0<P.globals.size:=of_decide_eq_true (by kernel_rfl);obtain⟨m,hm⟩:=cell_of_shapedOpen_int h hg h0 rfl (by kernel_rfl) (by kernel_rfl) (Tryz.underlying3);obtain⟨cs,hh,hs,_⟩:=h.1 _ _ _ hg h0;refine⟨cs,_,_,hh,?_⟩;obtain⟨l⟩:=cs;unfold World.cell? at hm;rw[hh]at hm
 match l,hs with
 |[x],_=>have hm:some x=some (.int .i64 m):=hm;cases hm;exact .cons (.opq _ ⟨_,_,rfl,rfl⟩) .nil
theorem Lx{W:World}(h:laidMetH P Rows.lexBlanksRow.laid W)(hs:W.ShapedOpen P):∀v:Val,∀p∈iQ,@kD v W p:=by unfold laidMetH at h;rw[mM]at h;intro v p hp;simp only[iQ,dC,fE,or_false]at hp;rcases hp with rfl|rfl|rfl|rfl;{exact @Wc v W h};{exact @Wb v W h};{exact @Wa v W h};exact @V9 v W hs
end Go.Proofs.YtbfonficacphkaaGreatDoor
