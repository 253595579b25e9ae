/-
  A part of the law's proof over the abstract evaluator. Conditions: those of each theorem, as it states them.
-/
import Derived.Test.YtbfonficacphkaaGreatDoorS3
import Derived.Test.YtbfonficacphkaaGreatDoorL2
set_option linter.all false
set_option linter.all false
namespace Go.Proofs.YtbfonficacphkaaGreatDoor
open Go.Tw Go.Tw.LX
noncomputable section
def B8:List Sh:=[.int .u8]
def e0:bo:=[(kU,true)]
def TH(k:Nat):List AV:=[.sym .i64 (A2 k (D 0) (D 3)),SI 3,.sym .i64 (A2 (k+1) (D 0) (D 3)),.vstr (A2 (k+2) (D 0) (D 3)),.sym .i64 (A2 (k+3) (D 0) (D 3)),.opq 0 gid 0 (.slc B8) (A2 (k+4) (D 0) (D 3)) (.lit 0)]
def V8(k:Nat):Ob:=Qx (VS 0) (.sym .i64 (A2 (k+5) (D 0) (D 3))) (.sym .i64 (.ap (k+6) (D 0) (D 3) (D 2)))
def Ec(f k:Nat)(ex:bo):HCon:={f:=f,args:=[SP,SI 3],pre:=e0++ins++qe++ex,nr:=0,np:=1,ns:=0,locs:=[⟨none,[0]⟩],ins:=[(1024,WB)],v:=.agg (TH k),outs:=[(1024,V8 k),(1025,.box (TH k) 33)],nx:=1026,fz:=true}
def Yd:bo:=[(eq (A1 8 sN) (I 0),false)]
def Yc:bo:=[(eq (A1 7 sN) (I 0),false)]
theorem rb{v:Val}{ex:bo}(h:@Holds v (e0++ins++qe++ex)):∃p:Nat,(@Sx.dat v (D 3)).toI=p∧p<(@Sx.dat v (D 0)).toS.length∧(@Sx.dat v (D 0)).toS.length<1000000000∧(@Sx.dat v (D 1)).toI=0∧@Holds v ex:=by have k0:(@Sx.dat v (D 1)).toI=0:=mP (aj h).1;have h:=(aj h).2;have k1:=bU (aj h).1;have h:=(aj h).2;have k2:=cD (aj h).1;have h:=(aj h).2;have k3:=cD (aj h).1;have h:=(aj h).2;rw[show(ln (D 0))=Sx.pr 0 (D 0) (.lit 0)from rfl,cS]at k2 k3;rw[sI]at k1 k3;have e3:@Sx.eval v (D 3)=(@Sx.dat v (D 3)).toI:=rfl;rw[e3]at k1 k2;exact⟨(@Sx.dat v (D 3)).toI.toNat,by omega,by omega,by omega,k0,h⟩
theorem lb{α β:Type}{r:Option (α×β)}(h:r.isSome=true):r=some ((r.get h).1,(r.get h).2):=by
 cases r with
 |none=>cases h
 |some q=>rfl
theorem mu{v:Val}(hF:v.fn=F0){d:Dat}(hd:d=@Sx.dat v (D 0)){k:Nat}{c:Sx}:@Sx.dat v (.ap k (D 0) (D 3) c)=F0 k d (@Sx.dat v (D 3)) (@Sx.dat v c):=by show v.fn k (@Sx.dat v (D 0)) (@Sx.dat v (D 3)) (@Sx.dat v c)=_;rw[hF,hd]
theorem Lt:∀c∈[conKey],c.Sound F0 P bh b0 R0:=mT Gq
theorem GO:∀c∈[hcRun],c.Sound F0 P bh b0 R0:=mn Ad cQ
def cwd:Code:=match Tryz.f21.body with
 |some c=>c
 |none=>.skip
def wdA:Tl:=⟨qf,iA,1025⟩
def OT:List RE:=[⟨1024,1024,0,0,0⟩]
abbrev km:AV:=.sym .i64 (.dvar 5)
abbrev eK:AV:=.int .i64 0
abbrev zn:AV:=.ptr 1025 0 0 6
abbrev kV:List (Nat×AV):=[(4,zn)]
abbrev wQ:AV:=.vstr (.dvar 6)
def wdT1:Tl:=⟨kV,[(1024,sA),(1025,.box [eL,iB,km,wQ,eK,.nils] 33)],1026⟩
def YA:Nat→Tl:=fun w=>match w with
 |1=>wdT1
 |_=>wdA
theorem OY{J:List Dat→Prop}(hinv:∀s,J s→@Holds (VL F0 s) OX):PX P bh b0 R0 0 1 20 F0 J cwd wdA wdA YA (wd0.tr F0 7):=
 PX.tree (pins:=OT) az (by decide) follows (cons:=[conKey]) Lt (ak:=[hcRun]) GO (cores:=[]) (fun _ _ _ h=>by cases h) (inv:=OX) hinv (by kernel_rfl)
theorem OU:eB R0 1 [⟨1024,1024,0,0,0⟩] (ba wdA.l) (aA b0 wdA.o wdA.nx) wdA.l wdA.o wdA.nx=some V6:=by kernel_rfl
def wdZ:Tl:=⟨kV,[(1024,.box [cI,.sym .i64 (.ap 31 (.dvar 0) (.dvar 3) (.lit 0)),.sym .i64 (.ap 32 (.dvar 0) (.dvar 3) (.dvar 2))] 43),(1025,.box [.sym .i64 (.ap 26 (.dvar 0) (.dvar 3) (.lit 0)),eL,.sym .i64 (.ap 27 (.dvar 0) (.dvar 3) (.lit 0)),.vstr (.ap 28 (.dvar 0) (.dvar 3) (.lit 0)),.sym .i64 (.ap 29 (.dvar 0) (.dvar 3) (.lit 0)),.opq 0 1023 0 kq (.ap 30 (.dvar 0) (.dvar 3) (.lit 0)) (.lit 0)] 33)],1026⟩
theorem OV:dT R0 1 [⟨1024,1024,0,0,0⟩,⟨1025,1025,0,0,0⟩] [] (ba wdT1.l) (aA b0 wdT1.o wdT1.nx) wdZ.l wdZ.o wdZ.nx=some V5:=by kernel_rfl
def hcWord:HCon:=Ec 21 26 Yc
theorem F2:hcWord.Sound F0 P bh b0 R0:=by
 refine dH (fn:=Tryz.f21) (code:=cwd) Tryz.func21 (by rfl) (by kernel_rfl) (by kernel_rfl) (by kernel_rfl) fun v hF hpre=> ?_;refine⟨.ret,wdZ.l,_,_,.inl rfl,?_,lb (by kernel_rfl),by kernel_rfl⟩;obtain⟨p,hp,h1,hl,h0,hx⟩:=rb (v:=v) (ex:=Yc) hpre;obtain⟨d,hd⟩:∃d,d=@Sx.dat v (D 0):=⟨_,rfl⟩;obtain⟨ea,he⟩:∃ea,ea=(@Sx.dat v (D 2)).toI:=⟨_,rfl⟩;rw[←hd]at h1 hl;have hi:@Holds (VL F0 [d,.int 0,.int ea,.int p]) OX:=wm hl h1 (ak (by have k:=Ao (aj hx).1;rw[sI,show @Sx.eval v (A1 7 (.pr 1 (D 0) (D 3)))=(v.fn 7 (@Sx.dat v (.pr 1 (D 0) (D 3))) (.int 0) (.int 0)).toI from rfl,hF,Lr,←hd,show @Sx.eval v (D 3)=(@Sx.dat v (D 3)).toI from rfl,hp]at k;exact Ye (by rw[iS,sI,Lr,cm,jX,tI];exact k)) aW);have h:=PX.ret (OY (J:=At [d,.int 0,.int ea,.int p]) (fun s hs=>by have hs:s=[d,.int 0,.int ea,.int p]:=hs;subst hs;exact hi)) rfl (by rw[Dn hl h1]);rw[Dn hl h1]at h;refine HT.pre (by decide) (aT (v:=v) (v':=VL F0 [d,.int 0,.int ea,.int p]) az OU (ag (ct hp) (ag hd.symm (ag (ct h0) (ag (ct he.symm) aK)))))
  (HT.retell (by decide) h (aV (v':=v) az OV ?_))
 have T:=we hl h1 (r:=(d.toS.drop p).takeWhile bD) rfl;refine ag (hd) (ag (ct (by rw[mu hF hd,Xy,hp,(T _).2.2.2.2.2.1];first|(simp only[cm,kJ,kH,fA,qw,tR,oq,ry,tI];done)|rfl)) (ag (ct (by rw[mu hF hd,Xx,hp,(T _).2.2.2.2.2.2];exact he)) (ag (ct (by rw[mu hF hd,XB,hp,(T _).1];first|(simp only[cm,kJ,kH,fA,qw,tR,oq,ry,tI];done)|rfl)) (ag (ct hp.symm) (ag (ct (by rw[mu hF hd,XA,hp,(T _).2.1];first|(simp only[cm,kJ,kH,fA,qw,tR,oq,ry,tI];done)|rfl)) (ag (by rw[mu hF hd,Xz,hp,(T _).2.2.1];first|(simp only[cm,kJ,kH,fA,qw,tR,oq,ry,tI];done)|rfl) (ag (by rw[show @Sx.dat v (N (.ap 29 (D 0) (D 3) (I 0)))=.int (@Sx.dat v (.ap 29 (D 0) (D 3) (I 0))).toI from rfl,mu hF hd,OO];rfl) (ag (by rw[mu hF hd,ON];rfl) aK))))))))
theorem LM:∀c∈[conSign],c.Sound F0 P bh b0 R0:=mT C6
theorem Hi:∀c∈([]:List HCon),c.Sound F0 P bh b0 R0:=cQ
def Yh:Code:=match Tryz.f25.body with
 |some c=>c
 |none=>.skip
def siA:Tl:=⟨qf,iA,1025⟩
def PN:List RE:=[⟨1024,1024,0,0,0⟩]
def siT1:Tl:=⟨kV,[(1024,sA),(1025,.box [.int .i64 6,eL,iB,.vstr (.dvar 5),eK,.nils] 33)],1026⟩
def YG:Nat→Tl:=fun w=>match w with
 |1=>siT1
 |_=>siA
theorem PT{J:List Dat→Prop}(hco:∀s,J s→∀q∈LN,¬@Holds (VL F0 s) q)(hinv:∀s,J s→@Holds (VL F0 s) PS):PX P bh b0 R0 0 1 27 F0 J Yh siA siA YG (si0.tr F0 6):=
 PX.tree (pins:=PN) az (by decide) follows (cons:=[conSign]) LM (ak:=[]) Hi (cores:=LN) hco (inv:=PS) hinv (by kernel_rfl)
theorem PO:eB R0 1 [⟨1024,1024,0,0,0⟩] (ba siA.l) (aA b0 siA.o siA.nx) siA.l siA.o siA.nx=some Wq:=by kernel_rfl
def siZ:Tl:=⟨kV,[(1024,.box [cI,.sym .i64 (.ap 38 (.dvar 0) (.dvar 3) (.lit 0)),.sym .i64 (.ap 39 (.dvar 0) (.dvar 3) (.dvar 2))] 43),(1025,.box [.sym .i64 (.ap 33 (.dvar 0) (.dvar 3) (.lit 0)),eL,.sym .i64 (.ap 34 (.dvar 0) (.dvar 3) (.lit 0)),.vstr (.ap 35 (.dvar 0) (.dvar 3) (.lit 0)),.sym .i64 (.ap 36 (.dvar 0) (.dvar 3) (.lit 0)),.opq 0 1023 0 kq (.ap 37 (.dvar 0) (.dvar 3) (.lit 0)) (.lit 0)] 33)],1026⟩
theorem PQ:dT R0 1 [⟨1024,1024,0,0,0⟩,⟨1025,1025,0,0,0⟩] [] (ba siT1.l) (aA b0 siT1.o siT1.nx) siZ.l siZ.o siZ.nx=some Wp:=by kernel_rfl
def hcSign:HCon:=Ec 25 33 []
theorem F4:hcSign.Sound F0 P bh b0 R0:=by
 refine dH (fn:=Tryz.f25) (code:=Yh) Tryz.func25 (by rfl) (by kernel_rfl) (by kernel_rfl) (by kernel_rfl) fun v hF hpre=> ?_;refine⟨.ret,siZ.l,_,_,.inl rfl,?_,lb (by kernel_rfl),by kernel_rfl⟩;obtain⟨p,hp,h1,hl,h0,hx⟩:=rb (v:=v) (ex:=[]) hpre;obtain⟨d,hd⟩:∃d,d=@Sx.dat v (D 0):=⟨_,rfl⟩;obtain⟨ea,he⟩:∃ea,ea=(@Sx.dat v (D 2)).toI:=⟨_,rfl⟩;rw[←hd]at h1 hl;obtain⟨ea',q0,q1,q2⟩:=Hh (ea:=ea) hl h1;have hi:@Holds (VL F0 [d,.int 0,.int ea,.int p]) PS:=wm hl h1 aW;have h:=PX.ret (PT (J:=At [d,.int 0,.int ea,.int p]) (fun s hs=>by
  have hs:s=[d,.int 0,.int ea,.int p]:=hs;subst hs;exact PU hl h1) (fun s hs=>by
  have hs:s=[d,.int 0,.int ea,.int p]:=hs;subst hs;exact hi)) rfl (by rw[q0])
 rw[q0]at h;refine HT.pre (by decide) (aT (v:=v) (v':=VL F0 [d,.int 0,.int ea,.int p]) az PO (ag (ct hp) (ag hd.symm (ag (ct h0) (ag (ct he.symm) aK)))))
  (HT.retell (by decide) h (aV (v':=v) az PQ ?_))
 have T:=wE hl h1;refine ag (hd) (ag (ct (by rw[mu hF hd,Xu,hp,(T _).2.2.2.2.2.1];first|(simp only[cm,kJ,kH,fA,qw,tR,oq,ry,tI];done)|rfl)) (ag (ct (by rw[mu hF hd,Xt,hp];by_cases h7:gP (d.toS.drop p)=0;{rw[(T _).2.2.2.2.2.2.1 h7,q1 h7];rfl};rw[(T _).2.2.2.2.2.2.2 h7,q2 h7];exact he)) (ag (by rw[show @Sx.dat v (N (.ap 33 (D 0) (D 3) (I 0)))=.int (@Sx.dat v (.ap 33 (D 0) (D 3) (I 0))).toI from rfl,mu hF hd,OM];rfl) (ag (ct hp.symm) (ag (ct (by rw[mu hF hd,Xw,hp,(T _).2.1];first|(simp only[cm,kJ,kH,fA,qw,tR,oq,ry,tI];done)|rfl)) (ag (by rw[mu hF hd,Xv,hp,(T _).2.2.1];first|(simp only[cm,kJ,kH,fA,qw,tR,oq,ry,tI];done)|rfl) (ag (by rw[show @Sx.dat v (N (.ap 36 (D 0) (D 3) (I 0)))=.int (@Sx.dat v (.ap 36 (D 0) (D 3) (I 0))).toI from rfl,mu hF hd,OL];rfl) (ag (by rw[mu hF hd,OK];rfl) aK))))))))
theorem ML:∀c∈[conSplit,conSuf,C8],c.Sound F0 P bh b0 R0:=yo AA (yo Gn (mT AE))
theorem Jo:∀c∈[hcRun],c.Sound F0 P bh b0 R0:=mn Ad cQ
def Ym:Code:=match Tryz.f23.body with
 |some c=>c
 |none=>.skip
def nmA:Tl:=⟨qf,iA,1025⟩
def RL:List RE:=[⟨1024,1024,0,0,0⟩]
abbrev nA:AV:=.sym .i64 (.dvar 6)
def nmT1:Tl:=⟨kV,[(1024,sA),(1025,.box [.int .i64 3,eL,iB,.vstr (.dvar 5),nA,.nils] 33)],1026⟩
def Lm:Nat→Tl:=fun w=>match w with
 |1=>nmT1
 |_=>nmA
theorem RP{J:List Dat→Prop}(hco:∀s,J s→∀q∈MN,¬@Holds (VL F0 s) q)(hinv:∀s,J s→@Holds (VL F0 s) RO):PX P bh b0 R0 0 1 60 F0 J Ym nmA nmA Lm (nm0.tr F0 7):=
 PX.tree (pins:=RL) az (by decide) follows (cons:=[conSplit,conSuf,C8]) ML (ak:=[hcRun]) Jo (cores:=MN) hco (inv:=RO) hinv (by kernel_rfl)
theorem RM:eB R0 1 [⟨1024,1024,0,0,0⟩] (ba nmA.l) (aA b0 nmA.o nmA.nx) nmA.l nmA.o nmA.nx=some W2:=by kernel_rfl
def nmZ:Tl:=⟨kV,[(1024,.box [cI,.sym .i64 (.ap 45 (.dvar 0) (.dvar 3) (.lit 0)),.sym .i64 (.ap 46 (.dvar 0) (.dvar 3) (.dvar 2))] 43),(1025,.box [.sym .i64 (.ap 40 (.dvar 0) (.dvar 3) (.lit 0)),eL,.sym .i64 (.ap 41 (.dvar 0) (.dvar 3) (.lit 0)),.vstr (.ap 42 (.dvar 0) (.dvar 3) (.lit 0)),.sym .i64 (.ap 43 (.dvar 0) (.dvar 3) (.lit 0)),.opq 0 1023 0 kq (.ap 44 (.dvar 0) (.dvar 3) (.lit 0)) (.lit 0)] 33)],1026⟩
theorem RN:dT R0 1 [⟨1024,1024,0,0,0⟩,⟨1025,1025,0,0,0⟩] [] (ba nmT1.l) (aA b0 nmT1.o nmT1.nx) nmZ.l nmZ.o nmZ.nx=some W1:=by kernel_rfl
def hcNumber:HCon:=Ec 23 40 Yd
theorem Af:hcNumber.Sound F0 P bh b0 R0:=by
 refine dH (fn:=Tryz.f23) (code:=Ym) Tryz.func23 (by rfl) (by kernel_rfl) (by kernel_rfl) (by kernel_rfl) fun v hF hpre=> ?_;refine⟨.ret,nmZ.l,_,_,.inl rfl,?_,lb (by kernel_rfl),by kernel_rfl⟩;obtain⟨p,hp,h1,hl,h0,hx⟩:=rb (v:=v) (ex:=Yd) hpre;obtain⟨d,hd⟩:∃d,d=@Sx.dat v (D 0):=⟨_,rfl⟩;obtain⟨ea,he⟩:∃ea,ea=(@Sx.dat v (D 2)).toI:=⟨_,rfl⟩;rw[←hd]at h1 hl;have k:=Ao (aj hx).1;rw[sI,show @Sx.eval v (A1 8 (.pr 1 (D 0) (D 3)))=(v.fn 8 (@Sx.dat v (.pr 1 (D 0) (D 3))) (.int 0) (.int 0)).toI from rfl,hF,Lr,←hd,show @Sx.eval v (D 3)=(@Sx.dat v (D 3)).toI from rfl,hp]at k;have hi:@Holds (VL F0 [d,.int 0,.int ea,.int p]) RO:=wm hl h1 (ak (Ye (by rw[iS,sI,Lr,cm,jX,tI];exact k)) aW);obtain⟨c,_,_,hc⟩:=nY h1;have hr:1≤((d.toS.drop p).takeWhile bD).length:=rK hc (by
  rw[Int.toNat_natCast,en hc,show Dat.int (c.toNat:Int)=wi c from rfl,f8]at k;unfold bD;cases hD:mQ c with
  |true=>rfl
  |false=>rw[hD]at k;exact absurd rfl k)
 obtain⟨ea',q0,q1,q2⟩:=Jn (ea:=ea) hl h1 rfl hr;have h:=PX.ret (RP (J:=At [d,.int 0,.int ea,.int p]) (fun s hs=>by
  have hs:s=[d,.int 0,.int ea,.int p]:=hs;subst hs;exact RQ hl h1 hr) (fun s hs=>by
  have hs:s=[d,.int 0,.int ea,.int p]:=hs;subst hs;exact hi)) rfl (by rw[q0])
 rw[q0]at h;refine HT.pre (by decide) (aT (v:=v) (v':=VL F0 [d,.int 0,.int ea,.int p]) az RM (ag (ct hp) (ag hd.symm (ag (ct h0) (ag (ct he.symm) aK)))))
  (HT.retell (by decide) h (aV (v':=v) az RN ?_))
 have T:=DO hl h1 (r:=(d.toS.drop p).takeWhile bD) rfl hr;refine ag (hd) (ag (ct (by rw[mu hF hd,Xp,hp,(T _).2.2.2.2.2.1];first|(simp only[cm,kJ,kH,fA,qw,tR,oq,ry,tI];done)|rfl)) (ag (ct (by rw[mu hF hd,Xo,hp];by_cases h7:Ln ((d.toS.drop p).takeWhile bD)=0;{rw[(T _).2.2.2.2.2.2.2 h7,q2 h7];exact he};rw[(T _).2.2.2.2.2.2.1 h7,q1 h7];rfl)) (ag (by rw[show @Sx.dat v (N (.ap 40 (D 0) (D 3) (I 0)))=.int (@Sx.dat v (.ap 40 (D 0) (D 3) (I 0))).toI from rfl,mu hF hd,OJ];rfl) (ag (ct hp.symm) (ag (ct (by rw[mu hF hd,Xs,hp,(T _).2.1];first|(simp only[cm,kJ,kH,fA,qw,tR,oq,ry,tI];done)|rfl)) (ag (by rw[mu hF hd,Xr,hp,(T _).2.2.1];first|(simp only[cm,kJ,kH,fA,qw,tR,oq,ry,tI];done)|rfl) (ag (ct (by rw[mu hF hd,Xq,hp,(T _).2.2.2.1];first|(simp only[cm,kJ,kH,fA,qw,tR,oq,ry,tI];done)|rfl)) (ag (by rw[mu hF hd,OI];rfl) aK))))))))
end
end Go.Proofs.YtbfonficacphkaaGreatDoor
set_option linter.all false
namespace Go.Proofs.YtbfonficacphkaaGreatDoor
open Go.Tw Go.Tw.LX
noncomputable section
theorem lS:∀c∈[conEsc],c.Sound F0 P bh b0 R0:=mT Gr
theorem jH:∀c∈([]:List HCon),c.Sound F0 P bh b0 R0:=cQ
def C3:Code:=match Tryz.f24.body with
 |some c=>c
 |none=>.skip
def quA:Tl:=⟨qf,iA,1025⟩
def oW:List RE:=[⟨1024,1024,0,0,0⟩]
abbrev sB:Ob:=.opq 2 0 1023 kq (.dvar 7) (.dvar 8) [] 5
abbrev wP:AV:=.ptr 1027 0 0 6
abbrev HS:List (Nat×AV):=[(0,oU),(1,eL),(4,zn),(5,wP),(6,.sym .u8 (.dvar 12)),(7,.sym .i64 (.dvar 13))]
abbrev sy:AV:=.opq 2 1026 0 kq (.lit 0) (.dvar 8)
abbrev zq:Ob:=.opq 2 0 1023 kq oP (.dvar 11) [] 5
abbrev zp:AV:=.opq 2 1028 0 kq (.lit 0) (.dvar 11)
abbrev sE:AV:=.int .i64 5
def WL:Tl:=⟨HS,[(1024,sA),(1025,.box [iB,eK,km,bp [],nA,sy] 33),(1026,sB),(1027,.box [sE,mH,eK,bp [],eK,zp] 33),(1028,zq)],1029⟩
def quT1:Tl:=⟨kV,[(1024,sA),(1025,.box [eL,iB,km,bp [],nA,sy] 33),(1026,sB)],1027⟩
def Q0:Nat→Tl:=fun w=>match w with
 |2=>WL
 |1=>quT1
 |_=>quA
def Uo:Tl:=⟨[(0,oU),(1,eL),(4,zn)],[(1024,sA),(1025,.box [iB,eK,km,bp [],nA,sy] 33),(1026,sB)],1027⟩
theorem Rc{J:List Dat→Prop}:PX P bh b0 R0 0 1 111 F0 J (cl C3) quA Uo Q0 (qu0.tr F0 9):=
 PX.tree (pins:=oW) az (by decide) follows (cons:=[conEsc]) lS (ak:=[]) jH (cores:=[]) (fun _ _ _ h=>by cases h) (inv:=[]) (fun _ _=>aW) (by kernel_rfl)
def Un:Tl:=⟨[(0,oU),(1,eL),(4,zn),(5,wP)],[(1024,sA),(1025,.box [iB,eK,km,bp [],nA,sy] 33),(1026,sB),(1027,.box [sE,mH,eK,bp [],eK,zp] 33),(1028,zq)],1029⟩
theorem Rb{J:List Dat→Prop}:PX P bh b0 R0 0 1 111 F0 J (cl (cr C3)) Uo Un Q0 (qu1.tr F0 12):=
 PX.tree (pins:=oW) az (by decide) follows (cons:=[conEsc]) lS (ak:=[]) jH (cores:=[]) (fun _ _ _ h=>by cases h) (inv:=[]) (fun _ _=>aW) (by kernel_rfl)
def Um:Tl:=⟨[(0,oU),(1,eL),(4,zn),(5,wP),(6,.sym .u8 (.dvar 12))],[(1024,sA),(1025,.box [iB,eK,km,bp [],nA,sy] 33),(1026,sB),(1027,.box [sE,mH,eK,bp [],eK,zp] 33),(1028,zq)],1029⟩
theorem Ra{J:List Dat→Prop}(hinv:∀s,J s→@Holds (VL F0 s) Q9):PX P bh b0 R0 0 1 111 F0 J (cl (cr (cr C3))) Un Um Q0 (qu2.tr F0 13):=
 PX.tree (pins:=oW) az (by decide) follows (cons:=[conEsc]) lS (ak:=[]) jH (cores:=[]) (fun _ _ _ h=>by cases h) (inv:=Q9) hinv (by kernel_rfl)
def Q2:Tl:=⟨HS,[(1024,sA),(1025,.box [iB,eK,km,bp [],nA,sy] 33),(1026,sB),(1027,.box [sE,mH,eK,bp [],eK,zp] 33),(1028,zq)],1029⟩
theorem Q8{J:List Dat→Prop}(hinv:∀s,J s→@Holds (VL F0 s) Up):PX P bh b0 R0 0 1 111 F0 J (cl (cr (cr (cr C3)))) Um Q2 Q0 (qu3.tr F0 14):=
 PX.tree (pins:=oW) az (by decide) follows (cons:=[conEsc]) lS (ak:=[]) jH (cores:=[]) (fun _ _ _ h=>by cases h) (inv:=Up) hinv (by kernel_rfl)
theorem Q6{J:List Dat→Prop}(hco:∀s,J s→∀q∈Mq,¬@Holds (VL F0 s) q)(hinv:∀s,J s→@Holds (VL F0 s) Q5):PX P bh b0 R0 0 1 111 F0 J (cl (cl (cl (cr (cr (cr (cr C3))))))) Q2 Q2 Q0 (qu5.tr F0 14):=
 PX.tree (pins:=oW) az (by decide) follows (cons:=[conEsc]) lS (ak:=[]) jH (cores:=Mq) hco (inv:=Q5) hinv (by kernel_rfl)
def Q1:Tl:=⟨HS,[(1024,sA),(1025,.box [iB,eK,km,bp [],nA,sy] 33),(1026,sB),(1027,.box [sE,mH,eK,bp [],eK,zp] 33),(1028,zq)],1029⟩
theorem Q3{J:List Dat→Prop}(hco:∀s,J s→∀q∈Mp,¬@Holds (VL F0 s) q):PX P bh b0 R0 0 1 111 F0 J (cr (cr (cr (cr (cr C3))))) Q1 Q1 Q0 (qu7.tr F0 9):=
 PX.tree (pins:=oW) az (by decide) follows (cons:=[conEsc]) lS (ak:=[]) jH (cores:=Mp) hco (inv:=[]) (fun _ _=>aW) (by kernel_rfl)
theorem QX:eB R0 1 [⟨1024,1024,0,0,0⟩] (ba quA.l) (aA b0 quA.o quA.nx) quA.l quA.o quA.nx=some WN:=by kernel_rfl
def quZ:Tl:=⟨kV,[(1024,.box [cI,.sym .i64 (.ap 52 (.dvar 0) (.dvar 3) (.lit 0)),.sym .i64 (.ap 53 (.dvar 0) (.dvar 3) (.dvar 2))] 43),(1025,.box [.sym .i64 (.ap 47 (.dvar 0) (.dvar 3) (.lit 0)),eL,.sym .i64 (.ap 48 (.dvar 0) (.dvar 3) (.lit 0)),.vstr (.ap 49 (.dvar 0) (.dvar 3) (.lit 0)),.sym .i64 (.ap 50 (.dvar 0) (.dvar 3) (.lit 0)),.opq 0 1023 0 kq (.ap 51 (.dvar 0) (.dvar 3) (.lit 0)) (.lit 0)] 33)],1026⟩
theorem QY:dT R0 1 [⟨1024,1024,0,0,0⟩,⟨1025,1025,0,0,0⟩] [1026] (ba quT1.l) (aA b0 quT1.o quT1.nx) quZ.l quZ.o quZ.nx=some WM:=by kernel_rfl
theorem Ul:C3=(.seq (cl C3) (.seq (cl (cr C3)) (.seq (cl (cr (cr C3))) (.seq (cl (cr (cr (cr C3)))) (.seq (.block 0 (.loop (cl (cl (cl (cr (cr (cr (cr C3))))))))) (cr (cr (cr (cr (cr C3)))))))))):=by kernel_rfl
def hcQuoted:HCon:=Ec 24 47 []
theorem Uj{d:Dat}{ea:Int}{p:Nat}(hl:d.toS.length<1000000000)(h1:p<d.toS.length):PX P bh b0 R0 0 1 111 F0 (At [d,.int 0,.int ea,.int p]) C3 quA Q1 Q0 (fZ F0):=by
 rw[Ul];have e3:qu3.tr F0 14 [d,.int 0,.int ea,.int p,.int 0,.int 0,.int 0,.lst [],.int 0,.int p,.lst [],.int 0,.int (cK d.toS p)]=(0,eu d ea p [] 0 (cK d.toS p) ((p+1:Nat):Int)):=by have:bu .add .i64 (p:Int) 1=((p+1:Nat):Int):=(by rw[bG (by omega) (by omega)];omega);show(0,[d,.int 0,.int ea,.int p,.int 0,.int 0,.int 0,.lst [],.int 0,.int p,.lst [],.int 0,.int (cK d.toS p),.int (bu .add .i64 (p:Int) 1)])=_;rw[this];rfl
 have hv:∀z:List Dat,@Holds (VL F0 (d:: .int 0:: .int ea:: .int p::z)) Q9:=fun z=>ak (SZ (by rw[qF,sI,tI])) (ak (qJ (by rw[jX,sI,tI];omega)) (ak (DW (by rw[jX,cS,cm,tI];omega)) (ak (DW (by rw[cS,sI,cm];omega)) aW)));exact PX.seq (J2:=At [d,.int 0,.int ea,.int p,.int 0,.int 0,.int 0,.lst [],.int 0]) (by decide) Rc (kC rfl)
  (PX.seq (J2:=At [d,.int 0,.int ea,.int p,.int 0,.int 0,.int 0,.lst [],.int 0,.int p,.lst [],.int 0]) (by decide) Rb (kC rfl)
  (PX.seq (J2:=At [d,.int 0,.int ea,.int p,.int 0,.int 0,.int 0,.lst [],.int 0,.int p,.lst [],.int 0,.int (cK d.toS p)]) (by decide) (Ra fun s hs=>by have hs:s=_:=hs;subst hs;exact hv _) (kC rfl)
  (PX.seq (J2:=At (eu d ea p [] 0 (cK d.toS p) ((p+1:Nat):Int))) (by decide) (Q8 fun s hs=>by have hs:s=_:=hs;subst hs;exact hv _) (kC e3)
  (PX.seq (J2:=fun _=>True) (by decide) (PX.weak (PX.block (PX.loopM (by decide) (Q6 Q7 Mr) xb) rfl) (fun s hs=>by have hs:s=_:=hs;subst hs;exact⟨d,ea,p,[],0,_,_,rfl,by omega,by omega,by omega,by omega,by simp only[List.length_nil];omega,hl⟩)) (fun _ _ _=>trivial) (Q3 fun s _=>Q4 s)))))
theorem Ae:hcQuoted.Sound F0 P bh b0 R0:=by
 refine dH (fn:=Tryz.f24) (code:=C3) Tryz.func24 (by rfl) (by kernel_rfl) (by kernel_rfl) (by kernel_rfl) fun v hF hpre=> ?_;refine⟨.ret,quZ.l,_,_,.inl rfl,?_,lb (by kernel_rfl),by kernel_rfl⟩;obtain⟨p,hp,h1,hl,h0,hx⟩:=rb (v:=v) (ex:=[]) hpre;obtain⟨d,hd⟩:∃d,d=@Sx.dat v (D 0):=⟨_,rfl⟩;obtain⟨ea,he⟩:∃ea,ea=(@Sx.dat v (D 2)).toI:=⟨_,rfl⟩;rw[←hd]at h1 hl;obtain⟨er,kd,sz,nu,L,hU⟩:=QZ hl h1;obtain⟨ea',z,e⟩:=hU ea;obtain⟨ea0,z0,e0⟩:=hU 0;have h:=PX.ret (Uj (ea:=ea) hl h1) rfl (by rw[e]);have hq:∀(i:Nat),aP (fZ F0 [d,.int 0,.int ea,.int p]).2 i=aP (d:: .int er:: .int ea':: .int kd:: .int p:: .int sz:: .int nu:: .lst L::z) i:=fun i=>by rw[e]
 have hz:Dat.int (Dat.int (p:Int)).toI=.int p:=rfl;refine HT.pre (by decide) (aT (v:=v) (v':=VL F0 [d,.int 0,.int ea,.int p]) az QX (ag (ct hp) (ag hd.symm (ag (ct h0) (ag (ct he.symm) aK)))))
  (HT.retell (by decide) h (aV (v':=v) az QY ?_))
 refine ag (by rw[gu,hq,XT];exact hd) (ag (ct ?_) (ag (ct ?_) (ag (ct ?_) (ag (ct ?_) (ag (ct ?_) (ag ?_ (ag (ct ?_) (ag ?_ aK))))))));{rw[gu,hq,yH,mu hF hd,Xj,hp,ui,hz,e0];simp only[yH,tI]};{rw[gu,mu hF hd,Xi,hp,AY,hz,←he,tI]};{rw[gu,hq,yF,mu hF hd,Xn,hp,EF,hz,e0];simp only[yF,tI]};{rw[gu,hq,GL];exact hp.symm};{rw[gu,hq,GF,mu hF hd,Xm,hp,AZ,hz,e0];simp only[GF,tI]};{rw[mu hF hd,OH];rfl};{rw[gu,hq,GD,mu hF hd,Xl,hp,EE,hz,e0];simp only[GD,tI]};rw[gu,hq,GB,mu hF hd,Xk,hp,ED,hz,e0];simp only[GB]
theorem PD{d:Dat}{p:Nat}(hl:d.toS.length<1000000000):∃e' p':Int,∀ea,∃ea':Int,gZ F0 [d,.int 0,.int ea,.int p]=(1,[d,.int e',.int ea',.int p']):=by by_cases hp:p≤d.toS.length;{obtain⟨n,g,⟨_,h⟩|⟨_,_,h⟩⟩:=Hg hl _ p (aE _) hp;{exact⟨_,_,fun ea=>⟨_,h ea⟩⟩};exact⟨_,_,fun ea=>⟨_,h ea⟩⟩};exact⟨0,p,fun ea=>⟨ea,r7 (by omega) hl (.inl fun h=>by omega)⟩⟩
theorem wC:∀c∈[conIndex],c.Sound F0 P bh b0 R0:=mT AF
theorem rZ:∀c∈([]:List HCon),c.Sound F0 P bh b0 R0:=cQ
def NH:Code:=match Tryz.f12.body with
 |some c=>c
 |none=>.skip
def skA:Tl:=⟨qf,iA,1025⟩
def Bk:List RE:=[⟨1024,1024,0,0,0⟩]
def skT1:Tl:=⟨[(4,eL)],iA,1025⟩
def Wm:Tl:=⟨[(1,eL)],iA,1025⟩
def VU:Nat→Tl:=fun w=>match w with
 |1=>skT1
 |2=>Wm
 |_=>skA
def PF:Tl:=⟨qf,iA,1025⟩
theorem PL{J:List Dat→Prop}:PX P bh b0 R0 0 1 63 F0 J (cl NH) skA PF VU (sk0.tr F0 4):=
 PX.tree (pins:=Bk) az (by decide) follows (cons:=[conIndex]) wC (ak:=[]) rZ (cores:=[]) (fun _ _ _ h=>by cases h) (inv:=[]) (fun _ _=>aW) (by kernel_rfl)
theorem PJ{J:List Dat→Prop}(hco:∀s,J s→∀q∈LJ,¬@Holds (VL F0 s) q)(hinv:∀s,J s→@Holds (VL F0 s) PI):PX P bh b0 R0 0 1 63 F0 J (cl (cl (cl (cr NH)))) PF PF VU (sk2.tr F0 4):=
 PX.tree (pins:=Bk) az (by decide) follows (cons:=[conIndex]) wC (ak:=[]) rZ (cores:=LJ) hco (inv:=PI) hinv (by kernel_rfl)
def PE:Tl:=⟨[(1,eL)],iA,1025⟩
theorem PH{J:List Dat→Prop}:PX P bh b0 R0 0 1 63 F0 J (cr (cr NH)) PE PE VU (sk4.tr F0 4):=
 PX.tree (pins:=Bk) az (by decide) follows (cons:=[conIndex]) wC (ak:=[]) rZ (cores:=[]) (fun _ _ _ h=>by cases h) (inv:=[]) (fun _ _=>aW) (by kernel_rfl)
theorem PA:eB R0 1 [⟨1024,1024,0,0,0⟩] (ba skA.l) (aA b0 skA.o skA.nx) skA.l skA.o skA.nx=some Wo:=by kernel_rfl
def skZ:Tl:=⟨[(4,.sym .i64 (.ap 15 (.dvar 0) (.dvar 3) (.lit 0)))],[(1024,.box [cI,.sym .i64 (.ap 16 (.dvar 0) (.dvar 3) (.lit 0)),.sym .i64 (.ap 17 (.dvar 0) (.dvar 3) (.dvar 2))] 43)],1025⟩
theorem PB:dT R0 1 [⟨1024,1024,0,0,0⟩] [] (ba skT1.l) (aA b0 skT1.o skT1.nx) skZ.l skZ.o skZ.nx=some Wn:=by kernel_rfl
theorem TQ:NH=(.seq (cl NH) (.seq (.block 0 (.loop (cl (cl (cl (cr NH)))))) (cr (cr NH)))):=by kernel_rfl
def hcSkip:HCon:={f:=12,args:=[SP,SI 3],pre:=e0++[(jE,false),(wW,true)],nr:=0,np:=1,ns:=0,locs:=[⟨none,[0]⟩],ins:=[(1024,WB)],v:=.sym .i64 (A2 15 (D 0) (D 3)),outs:=[(1024,Qx (VS 0) (.sym .i64 (A2 16 (D 0) (D 3))) (.sym .i64 (.ap 17 (D 0) (D 3) (D 2))))],nx:=1025}
theorem TP:PX P bh b0 R0 0 1 63 F0 Vx NH skA PE VU (gZ F0):=by rw[TQ];exact PX.seq (J2:=Vx) (by decide) PL (fun s hs _=>by obtain⟨d,e,ea,p,rfl,h⟩:=hs;exact⟨d,e,ea,p,rfl,h⟩) (PX.seq (J2:=fun _=>True) (by decide) (PX.block (PX.loopM (by decide) (PJ PK LL) Hf) rfl) (fun _ _ _=>trivial) PH)
theorem F3:hcSkip.Sound F0 P bh b0 R0:=by
 refine dH (fn:=Tryz.f12) (code:=NH) Tryz.func12 (by rfl) (by kernel_rfl) (by kernel_rfl) (by kernel_rfl) fun v hF hpre=> ?_;refine⟨.ret,skZ.l,_,_,.inl rfl,?_,by rfl,rfl⟩;have k0:(@Sx.dat v (D 1)).toI=0:=mP (aj hpre).1;have hpre:=(aj hpre).2;have k1:=bU (aj hpre).1;have hpre:=(aj hpre).2;have k2:=cD (aj hpre).1;rw[show(ln (D 0))=Sx.pr 0 (D 0) (.lit 0)from rfl,cS]at k2;rw[sI]at k1 k2;have e3:@Sx.eval v (D 3)=(@Sx.dat v (D 3)).toI:=rfl;rw[e3]at k1;obtain⟨p,hp⟩:∃p:Nat,(@Sx.dat v (D 3)).toI=p:=⟨(@Sx.dat v (D 3)).toI.toNat,by omega⟩;obtain⟨d,hd⟩:∃d,d=@Sx.dat v (D 0):=⟨_,rfl⟩;obtain⟨ea,he⟩:∃ea,ea=(@Sx.dat v (D 2)).toI:=⟨_,rfl⟩;rw[←hd]at k2;have hl:d.toS.length<1000000000:=by omega
 obtain⟨e',p',hU⟩:=PD (p:=p) hl;obtain⟨ea',e⟩:=hU ea;obtain⟨ea0,e0⟩:=hU 0;have h:=PX.ret TP (s:=[d,.int 0,.int ea,.int p]) ⟨d,0,ea,p,rfl,by omega,hl⟩ (by rw[e]);have hz:Dat.int (Dat.int (p:Int)).toI=.int p:=rfl;have hq:∀(i:Nat),aP (gZ F0 [d,.int 0,.int ea,.int p]).2 i=aP [d,.int e',.int ea',.int p'] i:=fun i=>by rw[e]
 refine HT.pre (by decide) (aT (v:=v) (v':=VL F0 [d,.int 0,.int ea,.int p]) az PA (ag (ct hp) (ag hd.symm (ag (ct k0) (ag (ct he.symm) aK)))))
  (HT.retell (by decide) h (aV (v':=v) az PB ?_))
 refine ag (ct ?_) (ag (by rw[gu,hq,XT];exact hd) (ag (ct ?_) (ag (ct ?_) aK)));{rw[gu,hq,yF,mu hF hd,XE,hp,wc,hz,e0];simp only[yF,tI]};{rw[gu,hq,yH,mu hF hd,XD,hp,wb,hz,e0];simp only[yH,tI]};rw[gu,mu hF hd,XC,hp,wa,hz,←he,tI]
end
end Go.Proofs.YtbfonficacphkaaGreatDoor
