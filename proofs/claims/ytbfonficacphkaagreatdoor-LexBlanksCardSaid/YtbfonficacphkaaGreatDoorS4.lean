/-
  A part of the law's proof over the abstract evaluator. Conditions: those of each theorem, as it states them.
-/
import Derived.Test.YtbfonficacphkaaGreatDoorS3
import Derived.Test.YtbfonficacphkaaGreatDoorL2
set_option linter.all false
set_option linter.all false
namespace Go.Proofs.YtbfonficacphkaaGreatDoor
open Go.Tw Go.Tw.LX
noncomputable section
def B8:List Sh:=[.int .u8]
def e0:bo:=[(kU,true)]
def TC(k:Nat):List AV:=[.sym .i64 (A2 k (D 0) (D 3)),SI 3,.sym .i64 (A2 (k+1) (D 0) (D 3)),.vstr (A2 (k+2) (D 0) (D 3)),.sym .i64 (A2 (k+3) (D 0) (D 3)),.opq 0 gid 0 (.slc B8) (A2 (k+4) (D 0) (D 3)) (.lit 0)]
def V3(k:Nat):Ob:=Qr (VS 0) (.sym .i64 (A2 (k+5) (D 0) (D 3))) (.sym .i64 (.ap (k+6) (D 0) (D 3) (D 2)))
def Ea(f k:Nat)(ex:bo):HCon:={f:=f,args:=[SP,SI 3],pre:=e0++ins++qd++ex,nr:=0,np:=1,ns:=0,locs:=[⟨none,[0]⟩],ins:=[(1024,Ww)],v:=.agg (TC k),outs:=[(1024,V3 k),(1025,.box (TC k) 33)],nx:=1026,fz:=true}
def X8:bo:=[(eq (A1 8 sJ) (I 0),false)]
def X7:bo:=[(eq (A1 7 sJ) (I 0),false)]
theorem qZ{v:Val}{ex:bo}(h:@Holds v (e0++ins++qd++ex)):∃p:Nat,(@Sx.dat v (D 3)).toI=p∧p<(@Sx.dat v (D 0)).toS.length∧(@Sx.dat v (D 0)).toS.length<1000000000∧(@Sx.dat v (D 1)).toI=0∧@Holds v ex:=by have k0:(@Sx.dat v (D 1)).toI=0:=mP (aj h).1;have h:=(aj h).2;have k1:=bU (aj h).1;have h:=(aj h).2;have k2:=cD (aj h).1;have h:=(aj h).2;have k3:=cD (aj h).1;have h:=(aj h).2;rw[show(ln (D 0))=Sx.pr 0 (D 0) (.lit 0)from rfl,cQ]at k2 k3;rw[sI]at k1 k3;have e3:@Sx.eval v (D 3)=(@Sx.dat v (D 3)).toI:=rfl;rw[e3]at k1 k2;exact⟨(@Sx.dat v (D 3)).toI.toNat,by omega,by omega,by omega,k0,h⟩
theorem lb{α β:Type}{r:Option (α×β)}(h:r.isSome=true):r=some ((r.get h).1,(r.get h).2):=by
 cases r with
 |none=>cases h
 |some q=>rfl
theorem mu{v:Val}(hF:v.fn=F0){d:Dat}(hd:d=@Sx.dat v (D 0)){k:Nat}{c:Sx}:@Sx.dat v (.ap k (D 0) (D 3) c)=F0 k d (@Sx.dat v (D 3)) (@Sx.dat v c):=by show v.fn k (@Sx.dat v (D 0)) (@Sx.dat v (D 3)) (@Sx.dat v c)=_;rw[hF,hd]
theorem Lo:∀c∈[conKey],c.Sound F0 P bh b0 R0:=mT Gn
theorem GM:∀c∈[hcRun],c.Sound F0 P bh b0 R0:=mn Ad cO
def cwd:Code:=match Tryz.f21.body with
 |some c=>c
 |none=>.skip
def wdA:Tl:=⟨qe,iz,1025⟩
def OM:List RE:=[⟨1024,1024,0,0,0⟩]
abbrev km:AV:=.sym .i64 (.dvar 5)
abbrev eJ:AV:=.int .i64 0
abbrev zl:AV:=.ptr 1025 0 0 6
abbrev kV:List (Nat×AV):=[(4,zl)]
abbrev wP:AV:=.vstr (.dvar 6)
def wdT1:Tl:=⟨kV,[(1024,sy),(1025,.box [eK,iA,km,wP,eJ,.nils] 33)],1026⟩
def Yv:Nat→Tl:=fun w=>match w with
 |1=>wdT1
 |_=>wdA
theorem OT{J:List Dat→Prop}(hinv:∀s,J s→@Holds (VL F0 s) OQ):PX P bh b0 R0 0 1 20 F0 J cwd wdA wdA Yv (wd0.tr F0 7):=
 PX.tree (pins:=OM) az (by decide) follows (cons:=[conKey]) Lo (ak:=[hcRun]) GM (cores:=[]) (fun _ _ _ h=>by cases h) (inv:=OQ) hinv (by kernel_rfl)
theorem ON:eA R0 1 [⟨1024,1024,0,0,0⟩] (ba wdA.l) (aA b0 wdA.o wdA.nx) wdA.l wdA.o wdA.nx=some V1:=by kernel_rfl
def wdZ:Tl:=⟨kV,[(1024,.box [eU,.sym .i64 (.ap 31 (.dvar 0) (.dvar 3) (.lit 0)),.sym .i64 (.ap 32 (.dvar 0) (.dvar 3) (.dvar 2))] 43),(1025,.box [.sym .i64 (.ap 26 (.dvar 0) (.dvar 3) (.lit 0)),eK,.sym .i64 (.ap 27 (.dvar 0) (.dvar 3) (.lit 0)),.vstr (.ap 28 (.dvar 0) (.dvar 3) (.lit 0)),.sym .i64 (.ap 29 (.dvar 0) (.dvar 3) (.lit 0)),.opq 0 1023 0 kq (.ap 30 (.dvar 0) (.dvar 3) (.lit 0)) (.lit 0)] 33)],1026⟩
theorem OO:dS R0 1 [⟨1024,1024,0,0,0⟩,⟨1025,1025,0,0,0⟩] [] (ba wdT1.l) (aA b0 wdT1.o wdT1.nx) wdZ.l wdZ.o wdZ.nx=some V0:=by kernel_rfl
def hcWord:HCon:=Ea 21 26 X7
theorem FZ:hcWord.Sound F0 P bh b0 R0:=by
 refine dG (fn:=Tryz.f21) (code:=cwd) Tryz.func21 (by rfl) (by kernel_rfl) (by kernel_rfl) (by kernel_rfl) fun v hF hpre=> ?_;refine⟨.ret,wdZ.l,_,_,.inl rfl,?_,lb (by kernel_rfl),by kernel_rfl⟩;obtain⟨p,hp,h1,hl,h0,hx⟩:=qZ (v:=v) (ex:=X7) hpre;obtain⟨d,hd⟩:∃d,d=@Sx.dat v (D 0):=⟨_,rfl⟩;obtain⟨ea,he⟩:∃ea,ea=(@Sx.dat v (D 2)).toI:=⟨_,rfl⟩;rw[←hd]at h1 hl;have hi:@Holds (VL F0 [d,.int 0,.int ea,.int p]) OQ:=wj hl h1 (ak (by have k:=Ao (aj hx).1;rw[sI,show @Sx.eval v (A1 7 (.pr 1 (D 0) (D 3)))=(v.fn 7 (@Sx.dat v (.pr 1 (D 0) (D 3))) (.int 0) (.int 0)).toI from rfl,hF,Lm,←hd,show @Sx.eval v (D 3)=(@Sx.dat v (D 3)).toI from rfl,hp]at k;exact X9 (by rw[iQ,sI,Lm,cm,jX,tI];exact k)) aW);have h:=PX.ret (OT (J:=At [d,.int 0,.int ea,.int p]) (fun s hs=>by have hs:s=[d,.int 0,.int ea,.int p]:=hs;subst hs;exact hi)) rfl (by rw[Dl hl h1]);rw[Dl hl h1]at h;refine HT.pre (by decide) (aT (v:=v) (v':=VL F0 [d,.int 0,.int ea,.int p]) az ON (ag (ct hp) (ag hd.symm (ag (ct h0) (ag (ct he.symm) aK)))))
  (HT.retell (by decide) h (aV (v':=v) az OO ?_))
 have T:=wb hl h1 (r:=(d.toS.drop p).takeWhile bD) rfl;refine ag (hd) (ag (ct (by rw[mu hF hd,Xt,hp,(T _).2.2.2.2.2.1];first|(simp only[cm,kJ,kH,fA,qv,tP,om,rv,tI];done)|rfl)) (ag (ct (by rw[mu hF hd,Xs,hp,(T _).2.2.2.2.2.2];exact he)) (ag (ct (by rw[mu hF hd,Xw,hp,(T _).1];first|(simp only[cm,kJ,kH,fA,qv,tP,om,rv,tI];done)|rfl)) (ag (ct hp.symm) (ag (ct (by rw[mu hF hd,Xv,hp,(T _).2.1];first|(simp only[cm,kJ,kH,fA,qv,tP,om,rv,tI];done)|rfl)) (ag (by rw[mu hF hd,Xu,hp,(T _).2.2.1];first|(simp only[cm,kJ,kH,fA,qv,tP,om,rv,tI];done)|rfl) (ag (by rw[show @Sx.dat v (N (.ap 29 (D 0) (D 3) (I 0)))=.int (@Sx.dat v (.ap 29 (D 0) (D 3) (I 0))).toI from rfl,mu hF hd,OJ];rfl) (ag (by rw[mu hF hd,OI];rfl) aK))))))))
theorem LG:∀c∈[conSign],c.Sound F0 P bh b0 R0:=mT C4
theorem Hg:∀c∈([]:List HCon),c.Sound F0 P bh b0 R0:=cO
def Yc:Code:=match Tryz.f25.body with
 |some c=>c
 |none=>.skip
def siA:Tl:=⟨qe,iz,1025⟩
def PH:List RE:=[⟨1024,1024,0,0,0⟩]
def siT1:Tl:=⟨kV,[(1024,sy),(1025,.box [.int .i64 6,eK,iA,.vstr (.dvar 5),eJ,.nils] 33)],1026⟩
def YB:Nat→Tl:=fun w=>match w with
 |1=>siT1
 |_=>siA
theorem PL{J:List Dat→Prop}(hco:∀s,J s→∀q∈LH,¬@Holds (VL F0 s) q)(hinv:∀s,J s→@Holds (VL F0 s) PK):PX P bh b0 R0 0 1 27 F0 J Yc siA siA YB (si0.tr F0 6):=
 PX.tree (pins:=PH) az (by decide) follows (cons:=[conSign]) LG (ak:=[]) Hg (cores:=LH) hco (inv:=PK) hinv (by kernel_rfl)
theorem PI:eA R0 1 [⟨1024,1024,0,0,0⟩] (ba siA.l) (aA b0 siA.o siA.nx) siA.l siA.o siA.nx=some Wl:=by kernel_rfl
def siZ:Tl:=⟨kV,[(1024,.box [eU,.sym .i64 (.ap 38 (.dvar 0) (.dvar 3) (.lit 0)),.sym .i64 (.ap 39 (.dvar 0) (.dvar 3) (.dvar 2))] 43),(1025,.box [.sym .i64 (.ap 33 (.dvar 0) (.dvar 3) (.lit 0)),eK,.sym .i64 (.ap 34 (.dvar 0) (.dvar 3) (.lit 0)),.vstr (.ap 35 (.dvar 0) (.dvar 3) (.lit 0)),.sym .i64 (.ap 36 (.dvar 0) (.dvar 3) (.lit 0)),.opq 0 1023 0 kq (.ap 37 (.dvar 0) (.dvar 3) (.lit 0)) (.lit 0)] 33)],1026⟩
theorem PJ:dS R0 1 [⟨1024,1024,0,0,0⟩,⟨1025,1025,0,0,0⟩] [] (ba siT1.l) (aA b0 siT1.o siT1.nx) siZ.l siZ.o siZ.nx=some Wk:=by kernel_rfl
def hcSign:HCon:=Ea 25 33 []
theorem F2:hcSign.Sound F0 P bh b0 R0:=by
 refine dG (fn:=Tryz.f25) (code:=Yc) Tryz.func25 (by rfl) (by kernel_rfl) (by kernel_rfl) (by kernel_rfl) fun v hF hpre=> ?_;refine⟨.ret,siZ.l,_,_,.inl rfl,?_,lb (by kernel_rfl),by kernel_rfl⟩;obtain⟨p,hp,h1,hl,h0,hx⟩:=qZ (v:=v) (ex:=[]) hpre;obtain⟨d,hd⟩:∃d,d=@Sx.dat v (D 0):=⟨_,rfl⟩;obtain⟨ea,he⟩:∃ea,ea=(@Sx.dat v (D 2)).toI:=⟨_,rfl⟩;rw[←hd]at h1 hl;obtain⟨ea',q0,q1,q2⟩:=Hf (ea:=ea) hl h1;have hi:@Holds (VL F0 [d,.int 0,.int ea,.int p]) PK:=wj hl h1 aW;have h:=PX.ret (PL (J:=At [d,.int 0,.int ea,.int p]) (fun s hs=>by
  have hs:s=[d,.int 0,.int ea,.int p]:=hs;subst hs;exact PN hl h1) (fun s hs=>by
  have hs:s=[d,.int 0,.int ea,.int p]:=hs;subst hs;exact hi)) rfl (by rw[q0])
 rw[q0]at h;refine HT.pre (by decide) (aT (v:=v) (v':=VL F0 [d,.int 0,.int ea,.int p]) az PI (ag (ct hp) (ag hd.symm (ag (ct h0) (ag (ct he.symm) aK)))))
  (HT.retell (by decide) h (aV (v':=v) az PJ ?_))
 have T:=wC hl h1;refine ag (hd) (ag (ct (by rw[mu hF hd,Xp,hp,(T _).2.2.2.2.2.1];first|(simp only[cm,kJ,kH,fA,qv,tP,om,rv,tI];done)|rfl)) (ag (ct (by rw[mu hF hd,Xo,hp];by_cases h7:gO (d.toS.drop p)=0;{rw[(T _).2.2.2.2.2.2.1 h7,q1 h7];rfl};rw[(T _).2.2.2.2.2.2.2 h7,q2 h7];exact he)) (ag (by rw[show @Sx.dat v (N (.ap 33 (D 0) (D 3) (I 0)))=.int (@Sx.dat v (.ap 33 (D 0) (D 3) (I 0))).toI from rfl,mu hF hd,OH];rfl) (ag (ct hp.symm) (ag (ct (by rw[mu hF hd,Xr,hp,(T _).2.1];first|(simp only[cm,kJ,kH,fA,qv,tP,om,rv,tI];done)|rfl)) (ag (by rw[mu hF hd,Xq,hp,(T _).2.2.1];first|(simp only[cm,kJ,kH,fA,qv,tP,om,rv,tI];done)|rfl) (ag (by rw[show @Sx.dat v (N (.ap 36 (D 0) (D 3) (I 0)))=.int (@Sx.dat v (.ap 36 (D 0) (D 3) (I 0))).toI from rfl,mu hF hd,OG];rfl) (ag (by rw[mu hF hd,OF];rfl) aK))))))))
theorem MG:∀c∈[conSplit,conSuf,C6],c.Sound F0 P bh b0 R0:=ym AA (ym Gl (mT AE))
theorem Jj:∀c∈[hcRun],c.Sound F0 P bh b0 R0:=mn Ad cO
def Yh:Code:=match Tryz.f23.body with
 |some c=>c
 |none=>.skip
def nmA:Tl:=⟨qe,iz,1025⟩
def RF:List RE:=[⟨1024,1024,0,0,0⟩]
abbrev ny:AV:=.sym .i64 (.dvar 6)
def nmT1:Tl:=⟨kV,[(1024,sy),(1025,.box [.int .i64 3,eK,iA,.vstr (.dvar 5),ny,.nils] 33)],1026⟩
def Lh:Nat→Tl:=fun w=>match w with
 |1=>nmT1
 |_=>nmA
theorem RJ{J:List Dat→Prop}(hco:∀s,J s→∀q∈MI,¬@Holds (VL F0 s) q)(hinv:∀s,J s→@Holds (VL F0 s) RI):PX P bh b0 R0 0 1 60 F0 J Yh nmA nmA Lh (nm0.tr F0 7):=
 PX.tree (pins:=RF) az (by decide) follows (cons:=[conSplit,conSuf,C6]) MG (ak:=[hcRun]) Jj (cores:=MI) hco (inv:=RI) hinv (by kernel_rfl)
theorem RG:eA R0 1 [⟨1024,1024,0,0,0⟩] (ba nmA.l) (aA b0 nmA.o nmA.nx) nmA.l nmA.o nmA.nx=some WX:=by kernel_rfl
def nmZ:Tl:=⟨kV,[(1024,.box [eU,.sym .i64 (.ap 45 (.dvar 0) (.dvar 3) (.lit 0)),.sym .i64 (.ap 46 (.dvar 0) (.dvar 3) (.dvar 2))] 43),(1025,.box [.sym .i64 (.ap 40 (.dvar 0) (.dvar 3) (.lit 0)),eK,.sym .i64 (.ap 41 (.dvar 0) (.dvar 3) (.lit 0)),.vstr (.ap 42 (.dvar 0) (.dvar 3) (.lit 0)),.sym .i64 (.ap 43 (.dvar 0) (.dvar 3) (.lit 0)),.opq 0 1023 0 kq (.ap 44 (.dvar 0) (.dvar 3) (.lit 0)) (.lit 0)] 33)],1026⟩
theorem RH:dS R0 1 [⟨1024,1024,0,0,0⟩,⟨1025,1025,0,0,0⟩] [] (ba nmT1.l) (aA b0 nmT1.o nmT1.nx) nmZ.l nmZ.o nmZ.nx=some WW:=by kernel_rfl
def hcNumber:HCon:=Ea 23 40 X8
theorem Af:hcNumber.Sound F0 P bh b0 R0:=by
 refine dG (fn:=Tryz.f23) (code:=Yh) Tryz.func23 (by rfl) (by kernel_rfl) (by kernel_rfl) (by kernel_rfl) fun v hF hpre=> ?_;refine⟨.ret,nmZ.l,_,_,.inl rfl,?_,lb (by kernel_rfl),by kernel_rfl⟩;obtain⟨p,hp,h1,hl,h0,hx⟩:=qZ (v:=v) (ex:=X8) hpre;obtain⟨d,hd⟩:∃d,d=@Sx.dat v (D 0):=⟨_,rfl⟩;obtain⟨ea,he⟩:∃ea,ea=(@Sx.dat v (D 2)).toI:=⟨_,rfl⟩;rw[←hd]at h1 hl;have k:=Ao (aj hx).1;rw[sI,show @Sx.eval v (A1 8 (.pr 1 (D 0) (D 3)))=(v.fn 8 (@Sx.dat v (.pr 1 (D 0) (D 3))) (.int 0) (.int 0)).toI from rfl,hF,Lm,←hd,show @Sx.eval v (D 3)=(@Sx.dat v (D 3)).toI from rfl,hp]at k;have hi:@Holds (VL F0 [d,.int 0,.int ea,.int p]) RI:=wj hl h1 (ak (X9 (by rw[iQ,sI,Lm,cm,jX,tI];exact k)) aW);obtain⟨c,_,_,hc⟩:=nX h1;have hr:1≤((d.toS.drop p).takeWhile bD).length:=rJ hc (by
  rw[Int.toNat_natCast,ek hc,show Dat.int (c.toNat:Int)=wg c from rfl,f8]at k;unfold bD;cases hD:mQ c with
  |true=>rfl
  |false=>rw[hD]at k;exact absurd rfl k)
 obtain⟨ea',q0,q1,q2⟩:=Ji (ea:=ea) hl h1 rfl hr;have h:=PX.ret (RJ (J:=At [d,.int 0,.int ea,.int p]) (fun s hs=>by
  have hs:s=[d,.int 0,.int ea,.int p]:=hs;subst hs;exact RL hl h1 hr) (fun s hs=>by
  have hs:s=[d,.int 0,.int ea,.int p]:=hs;subst hs;exact hi)) rfl (by rw[q0])
 rw[q0]at h;refine HT.pre (by decide) (aT (v:=v) (v':=VL F0 [d,.int 0,.int ea,.int p]) az RG (ag (ct hp) (ag hd.symm (ag (ct h0) (ag (ct he.symm) aK)))))
  (HT.retell (by decide) h (aV (v':=v) az RH ?_))
 have T:=DM hl h1 (r:=(d.toS.drop p).takeWhile bD) rfl hr;refine ag (hd) (ag (ct (by rw[mu hF hd,Xk,hp,(T _).2.2.2.2.2.1];first|(simp only[cm,kJ,kH,fA,qv,tP,om,rv,tI];done)|rfl)) (ag (ct (by rw[mu hF hd,Xj,hp];by_cases h7:Li ((d.toS.drop p).takeWhile bD)=0;{rw[(T _).2.2.2.2.2.2.2 h7,q2 h7];exact he};rw[(T _).2.2.2.2.2.2.1 h7,q1 h7];rfl)) (ag (by rw[show @Sx.dat v (N (.ap 40 (D 0) (D 3) (I 0)))=.int (@Sx.dat v (.ap 40 (D 0) (D 3) (I 0))).toI from rfl,mu hF hd,OE];rfl) (ag (ct hp.symm) (ag (ct (by rw[mu hF hd,Xn,hp,(T _).2.1];first|(simp only[cm,kJ,kH,fA,qv,tP,om,rv,tI];done)|rfl)) (ag (by rw[mu hF hd,Xm,hp,(T _).2.2.1];first|(simp only[cm,kJ,kH,fA,qv,tP,om,rv,tI];done)|rfl) (ag (ct (by rw[mu hF hd,Xl,hp,(T _).2.2.2.1];first|(simp only[cm,kJ,kH,fA,qv,tP,om,rv,tI];done)|rfl)) (ag (by rw[mu hF hd,OD];rfl) aK))))))))
end
end Go.Proofs.YtbfonficacphkaaGreatDoor
set_option linter.all false
namespace Go.Proofs.YtbfonficacphkaaGreatDoor
open Go.Tw Go.Tw.LX
noncomputable section
theorem lS:∀c∈[conEsc],c.Sound F0 P bh b0 R0:=mT Gp
theorem jH:∀c∈([]:List HCon),c.Sound F0 P bh b0 R0:=cO
def C1:Code:=match Tryz.f24.body with
 |some c=>c
 |none=>.skip
def quA:Tl:=⟨qe,iz,1025⟩
def oV:List RE:=[⟨1024,1024,0,0,0⟩]
abbrev sA:Ob:=.opq 2 0 1023 kq (.dvar 7) (.dvar 8) [] 5
abbrev wO:AV:=.ptr 1027 0 0 6
abbrev HP:List (Nat×AV):=[(0,oT),(1,eK),(4,zl),(5,wO),(6,.sym .u8 (.dvar 12)),(7,.sym .i64 (.dvar 13))]
abbrev sx:AV:=.opq 2 1026 0 kq (.lit 0) (.dvar 8)
abbrev zo:Ob:=.opq 2 0 1023 kq oO (.dvar 11) [] 5
abbrev zn:AV:=.opq 2 1028 0 kq (.lit 0) (.dvar 11)
abbrev sC:AV:=.int .i64 5
def WG:Tl:=⟨HP,[(1024,sy),(1025,.box [iA,eJ,km,bp [],ny,sx] 33),(1026,sA),(1027,.box [sC,mH,eJ,bp [],eJ,zn] 33),(1028,zo)],1029⟩
def quT1:Tl:=⟨kV,[(1024,sy),(1025,.box [eK,iA,km,bp [],ny,sx] 33),(1026,sA)],1027⟩
def QV:Nat→Tl:=fun w=>match w with
 |2=>WG
 |1=>quT1
 |_=>quA
def Uj:Tl:=⟨[(0,oT),(1,eK),(4,zl)],[(1024,sy),(1025,.box [iA,eJ,km,bp [],ny,sx] 33),(1026,sA)],1027⟩
theorem Q7{J:List Dat→Prop}:PX P bh b0 R0 0 1 111 F0 J (cl C1) quA Uj QV (qu0.tr F0 9):=
 PX.tree (pins:=oV) az (by decide) follows (cons:=[conEsc]) lS (ak:=[]) jH (cores:=[]) (fun _ _ _ h=>by cases h) (inv:=[]) (fun _ _=>aW) (by kernel_rfl)
def Ui:Tl:=⟨[(0,oT),(1,eK),(4,zl),(5,wO)],[(1024,sy),(1025,.box [iA,eJ,km,bp [],ny,sx] 33),(1026,sA),(1027,.box [sC,mH,eJ,bp [],eJ,zn] 33),(1028,zo)],1029⟩
theorem Q6{J:List Dat→Prop}:PX P bh b0 R0 0 1 111 F0 J (cl (cr C1)) Uj Ui QV (qu1.tr F0 12):=
 PX.tree (pins:=oV) az (by decide) follows (cons:=[conEsc]) lS (ak:=[]) jH (cores:=[]) (fun _ _ _ h=>by cases h) (inv:=[]) (fun _ _=>aW) (by kernel_rfl)
def Uh:Tl:=⟨[(0,oT),(1,eK),(4,zl),(5,wO),(6,.sym .u8 (.dvar 12))],[(1024,sy),(1025,.box [iA,eJ,km,bp [],ny,sx] 33),(1026,sA),(1027,.box [sC,mH,eJ,bp [],eJ,zn] 33),(1028,zo)],1029⟩
theorem Q5{J:List Dat→Prop}(hinv:∀s,J s→@Holds (VL F0 s) Q4):PX P bh b0 R0 0 1 111 F0 J (cl (cr (cr C1))) Ui Uh QV (qu2.tr F0 13):=
 PX.tree (pins:=oV) az (by decide) follows (cons:=[conEsc]) lS (ak:=[]) jH (cores:=[]) (fun _ _ _ h=>by cases h) (inv:=Q4) hinv (by kernel_rfl)
def QX:Tl:=⟨HP,[(1024,sy),(1025,.box [iA,eJ,km,bp [],ny,sx] 33),(1026,sA),(1027,.box [sC,mH,eJ,bp [],eJ,zn] 33),(1028,zo)],1029⟩
theorem Q3{J:List Dat→Prop}(hinv:∀s,J s→@Holds (VL F0 s) Uk):PX P bh b0 R0 0 1 111 F0 J (cl (cr (cr (cr C1)))) Uh QX QV (qu3.tr F0 14):=
 PX.tree (pins:=oV) az (by decide) follows (cons:=[conEsc]) lS (ak:=[]) jH (cores:=[]) (fun _ _ _ h=>by cases h) (inv:=Uk) hinv (by kernel_rfl)
theorem Q1{J:List Dat→Prop}(hco:∀s,J s→∀q∈Ml,¬@Holds (VL F0 s) q)(hinv:∀s,J s→@Holds (VL F0 s) Q0):PX P bh b0 R0 0 1 111 F0 J (cl (cl (cl (cr (cr (cr (cr C1))))))) QX QX QV (qu5.tr F0 14):=
 PX.tree (pins:=oV) az (by decide) follows (cons:=[conEsc]) lS (ak:=[]) jH (cores:=Ml) hco (inv:=Q0) hinv (by kernel_rfl)
def QW:Tl:=⟨HP,[(1024,sy),(1025,.box [iA,eJ,km,bp [],ny,sx] 33),(1026,sA),(1027,.box [sC,mH,eJ,bp [],eJ,zn] 33),(1028,zo)],1029⟩
theorem QY{J:List Dat→Prop}(hco:∀s,J s→∀q∈Mk,¬@Holds (VL F0 s) q):PX P bh b0 R0 0 1 111 F0 J (cr (cr (cr (cr (cr C1))))) QW QW QV (qu7.tr F0 9):=
 PX.tree (pins:=oV) az (by decide) follows (cons:=[conEsc]) lS (ak:=[]) jH (cores:=Mk) hco (inv:=[]) (fun _ _=>aW) (by kernel_rfl)
theorem QS:eA R0 1 [⟨1024,1024,0,0,0⟩] (ba quA.l) (aA b0 quA.o quA.nx) quA.l quA.o quA.nx=some WI:=by kernel_rfl
def quZ:Tl:=⟨kV,[(1024,.box [eU,.sym .i64 (.ap 52 (.dvar 0) (.dvar 3) (.lit 0)),.sym .i64 (.ap 53 (.dvar 0) (.dvar 3) (.dvar 2))] 43),(1025,.box [.sym .i64 (.ap 47 (.dvar 0) (.dvar 3) (.lit 0)),eK,.sym .i64 (.ap 48 (.dvar 0) (.dvar 3) (.lit 0)),.vstr (.ap 49 (.dvar 0) (.dvar 3) (.lit 0)),.sym .i64 (.ap 50 (.dvar 0) (.dvar 3) (.lit 0)),.opq 0 1023 0 kq (.ap 51 (.dvar 0) (.dvar 3) (.lit 0)) (.lit 0)] 33)],1026⟩
theorem QT:dS R0 1 [⟨1024,1024,0,0,0⟩,⟨1025,1025,0,0,0⟩] [1026] (ba quT1.l) (aA b0 quT1.o quT1.nx) quZ.l quZ.o quZ.nx=some WH:=by kernel_rfl
theorem Ug:C1=(.seq (cl C1) (.seq (cl (cr C1)) (.seq (cl (cr (cr C1))) (.seq (cl (cr (cr (cr C1)))) (.seq (.block 0 (.loop (cl (cl (cl (cr (cr (cr (cr C1))))))))) (cr (cr (cr (cr (cr C1)))))))))):=by kernel_rfl
def hcQuoted:HCon:=Ea 24 47 []
theorem Ue{d:Dat}{ea:Int}{p:Nat}(hl:d.toS.length<1000000000)(h1:p<d.toS.length):PX P bh b0 R0 0 1 111 F0 (At [d,.int 0,.int ea,.int p]) C1 quA QW QV (fZ F0):=by
 rw[Ug];have e3:qu3.tr F0 14 [d,.int 0,.int ea,.int p,.int 0,.int 0,.int 0,.lst [],.int 0,.int p,.lst [],.int 0,.int (cJ d.toS p)]=(0,ep d ea p [] 0 (cJ d.toS p) ((p+1:Nat):Int)):=by have:bu .add .i64 (p:Int) 1=((p+1:Nat):Int):=(by rw[bG (by omega) (by omega)];omega);show(0,[d,.int 0,.int ea,.int p,.int 0,.int 0,.int 0,.lst [],.int 0,.int p,.lst [],.int 0,.int (cJ d.toS p),.int (bu .add .i64 (p:Int) 1)])=_;rw[this];rfl
 have hv:∀z:List Dat,@Holds (VL F0 (d:: .int 0:: .int ea:: .int p::z)) Q4:=fun z=>ak (SS (by rw[qD,sI,tI])) (ak (qI (by rw[jX,sI,tI];omega)) (ak (DU (by rw[jX,cQ,cm,tI];omega)) (ak (DU (by rw[cQ,sI,cm];omega)) aW)));exact PX.seq (J2:=At [d,.int 0,.int ea,.int p,.int 0,.int 0,.int 0,.lst [],.int 0]) (by decide) Q7 (kC rfl)
  (PX.seq (J2:=At [d,.int 0,.int ea,.int p,.int 0,.int 0,.int 0,.lst [],.int 0,.int p,.lst [],.int 0]) (by decide) Q6 (kC rfl)
  (PX.seq (J2:=At [d,.int 0,.int ea,.int p,.int 0,.int 0,.int 0,.lst [],.int 0,.int p,.lst [],.int 0,.int (cJ d.toS p)]) (by decide) (Q5 fun s hs=>by have hs:s=_:=hs;subst hs;exact hv _) (kC rfl)
  (PX.seq (J2:=At (ep d ea p [] 0 (cJ d.toS p) ((p+1:Nat):Int))) (by decide) (Q3 fun s hs=>by have hs:s=_:=hs;subst hs;exact hv _) (kC e3)
  (PX.seq (J2:=fun _=>True) (by decide) (PX.weak (PX.block (PX.loopM (by decide) (Q1 Q2 Mm) w9) rfl) (fun s hs=>by have hs:s=_:=hs;subst hs;exact⟨d,ea,p,[],0,_,_,rfl,by omega,by omega,by omega,by omega,by simp only[List.length_nil];omega,hl⟩)) (fun _ _ _=>trivial) (QY fun s _=>QZ s)))))
theorem Ae:hcQuoted.Sound F0 P bh b0 R0:=by
 refine dG (fn:=Tryz.f24) (code:=C1) Tryz.func24 (by rfl) (by kernel_rfl) (by kernel_rfl) (by kernel_rfl) fun v hF hpre=> ?_;refine⟨.ret,quZ.l,_,_,.inl rfl,?_,lb (by kernel_rfl),by kernel_rfl⟩;obtain⟨p,hp,h1,hl,h0,hx⟩:=qZ (v:=v) (ex:=[]) hpre;obtain⟨d,hd⟩:∃d,d=@Sx.dat v (D 0):=⟨_,rfl⟩;obtain⟨ea,he⟩:∃ea,ea=(@Sx.dat v (D 2)).toI:=⟨_,rfl⟩;rw[←hd]at h1 hl;obtain⟨er,kd,sz,nu,L,hU⟩:=QU hl h1;obtain⟨ea',z,e⟩:=hU ea;obtain⟨ea0,z0,e0⟩:=hU 0;have h:=PX.ret (Ue (ea:=ea) hl h1) rfl (by rw[e]);have hq:∀(i:Nat),aP (fZ F0 [d,.int 0,.int ea,.int p]).2 i=aP (d:: .int er:: .int ea':: .int kd:: .int p:: .int sz:: .int nu:: .lst L::z) i:=fun i=>by rw[e]
 have hz:Dat.int (Dat.int (p:Int)).toI=.int p:=rfl;refine HT.pre (by decide) (aT (v:=v) (v':=VL F0 [d,.int 0,.int ea,.int p]) az QS (ag (ct hp) (ag hd.symm (ag (ct h0) (ag (ct he.symm) aK)))))
  (HT.retell (by decide) h (aV (v':=v) az QT ?_))
 refine ag (by rw[gq,hq,XN];exact hd) (ag (ct ?_) (ag (ct ?_) (ag (ct ?_) (ag (ct ?_) (ag (ct ?_) (ag ?_ (ag (ct ?_) (ag ?_ aK))))))));{rw[gq,hq,yF,mu hF hd,Xe,hp,ug,hz,e0];simp only[yF,tI]};{rw[gq,mu hF hd,Xd,hp,AY,hz,←he,tI]};{rw[gq,hq,yD,mu hF hd,Xi,hp,ED,hz,e0];simp only[yD,tI]};{rw[gq,hq,GJ];exact hp.symm};{rw[gq,hq,GB,mu hF hd,Xh,hp,AZ,hz,e0];simp only[GB,tI]};{rw[mu hF hd,OC];rfl};{rw[gq,hq,GA,mu hF hd,Xg,hp,EC,hz,e0];simp only[GA,tI]};rw[gq,hq,Gz,mu hF hd,Xf,hp,EA,hz,e0];simp only[Gz]
theorem Py{d:Dat}{p:Nat}(hl:d.toS.length<1000000000):∃e' p':Int,∀ea,∃ea':Int,gW F0 [d,.int 0,.int ea,.int p]=(1,[d,.int e',.int ea',.int p']):=by by_cases hp:p≤d.toS.length;{obtain⟨n,g,⟨_,h⟩|⟨_,_,h⟩⟩:=He hl _ p (aE _) hp;{exact⟨_,_,fun ea=>⟨_,h ea⟩⟩};exact⟨_,_,fun ea=>⟨_,h ea⟩⟩};exact⟨0,p,fun ea=>⟨ea,rZ (by omega) hl (.inl fun h=>by omega)⟩⟩
theorem wA:∀c∈[conIndex],c.Sound F0 P bh b0 R0:=mT AF
theorem rY:∀c∈([]:List HCon),c.Sound F0 P bh b0 R0:=cO
def NB:Code:=match Tryz.f12.body with
 |some c=>c
 |none=>.skip
def skA:Tl:=⟨qe,iz,1025⟩
def Bk:List RE:=[⟨1024,1024,0,0,0⟩]
def skT1:Tl:=⟨[(4,eK)],iz,1025⟩
def Wh:Tl:=⟨[(1,eK)],iz,1025⟩
def VN:Nat→Tl:=fun w=>match w with
 |1=>skT1
 |2=>Wh
 |_=>skA
def PA:Tl:=⟨qe,iz,1025⟩
theorem PG{J:List Dat→Prop}:PX P bh b0 R0 0 1 63 F0 J (cl NB) skA PA VN (sk0.tr F0 4):=
 PX.tree (pins:=Bk) az (by decide) follows (cons:=[conIndex]) wA (ak:=[]) rY (cores:=[]) (fun _ _ _ h=>by cases h) (inv:=[]) (fun _ _=>aW) (by kernel_rfl)
theorem PE{J:List Dat→Prop}(hco:∀s,J s→∀q∈LD,¬@Holds (VL F0 s) q)(hinv:∀s,J s→@Holds (VL F0 s) PD):PX P bh b0 R0 0 1 63 F0 J (cl (cl (cl (cr NB)))) PA PA VN (sk2.tr F0 4):=
 PX.tree (pins:=Bk) az (by decide) follows (cons:=[conIndex]) wA (ak:=[]) rY (cores:=LD) hco (inv:=PD) hinv (by kernel_rfl)
def Pz:Tl:=⟨[(1,eK)],iz,1025⟩
theorem PC{J:List Dat→Prop}:PX P bh b0 R0 0 1 63 F0 J (cr (cr NB)) Pz Pz VN (sk4.tr F0 4):=
 PX.tree (pins:=Bk) az (by decide) follows (cons:=[conIndex]) wA (ak:=[]) rY (cores:=[]) (fun _ _ _ h=>by cases h) (inv:=[]) (fun _ _=>aW) (by kernel_rfl)
theorem Pv:eA R0 1 [⟨1024,1024,0,0,0⟩] (ba skA.l) (aA b0 skA.o skA.nx) skA.l skA.o skA.nx=some Wj:=by kernel_rfl
def skZ:Tl:=⟨[(4,.sym .i64 (.ap 15 (.dvar 0) (.dvar 3) (.lit 0)))],[(1024,.box [eU,.sym .i64 (.ap 16 (.dvar 0) (.dvar 3) (.lit 0)),.sym .i64 (.ap 17 (.dvar 0) (.dvar 3) (.dvar 2))] 43)],1025⟩
theorem Pw:dS R0 1 [⟨1024,1024,0,0,0⟩] [] (ba skT1.l) (aA b0 skT1.o skT1.nx) skZ.l skZ.o skZ.nx=some Wi:=by kernel_rfl
theorem TL:NB=(.seq (cl NB) (.seq (.block 0 (.loop (cl (cl (cl (cr NB)))))) (cr (cr NB)))):=by kernel_rfl
def hcSkip:HCon:={f:=12,args:=[SP,SI 3],pre:=e0++[(jE,false),(wV,true)],nr:=0,np:=1,ns:=0,locs:=[⟨none,[0]⟩],ins:=[(1024,Ww)],v:=.sym .i64 (A2 15 (D 0) (D 3)),outs:=[(1024,Qr (VS 0) (.sym .i64 (A2 16 (D 0) (D 3))) (.sym .i64 (.ap 17 (D 0) (D 3) (D 2))))],nx:=1025}
theorem TK:PX P bh b0 R0 0 1 63 F0 Vs NB skA Pz VN (gW F0):=by rw[TL];exact PX.seq (J2:=Vs) (by decide) PG (fun s hs _=>by obtain⟨d,e,ea,p,rfl,h⟩:=hs;exact⟨d,e,ea,p,rfl,h⟩) (PX.seq (J2:=fun _=>True) (by decide) (PX.block (PX.loopM (by decide) (PE PF LF) Hd) rfl) (fun _ _ _=>trivial) PC)
theorem F1:hcSkip.Sound F0 P bh b0 R0:=by
 refine dG (fn:=Tryz.f12) (code:=NB) Tryz.func12 (by rfl) (by kernel_rfl) (by kernel_rfl) (by kernel_rfl) fun v hF hpre=> ?_;refine⟨.ret,skZ.l,_,_,.inl rfl,?_,by rfl,rfl⟩;have k0:(@Sx.dat v (D 1)).toI=0:=mP (aj hpre).1;have hpre:=(aj hpre).2;have k1:=bU (aj hpre).1;have hpre:=(aj hpre).2;have k2:=cD (aj hpre).1;rw[show(ln (D 0))=Sx.pr 0 (D 0) (.lit 0)from rfl,cQ]at k2;rw[sI]at k1 k2;have e3:@Sx.eval v (D 3)=(@Sx.dat v (D 3)).toI:=rfl;rw[e3]at k1;obtain⟨p,hp⟩:∃p:Nat,(@Sx.dat v (D 3)).toI=p:=⟨(@Sx.dat v (D 3)).toI.toNat,by omega⟩;obtain⟨d,hd⟩:∃d,d=@Sx.dat v (D 0):=⟨_,rfl⟩;obtain⟨ea,he⟩:∃ea,ea=(@Sx.dat v (D 2)).toI:=⟨_,rfl⟩;rw[←hd]at k2;have hl:d.toS.length<1000000000:=by omega
 obtain⟨e',p',hU⟩:=Py (p:=p) hl;obtain⟨ea',e⟩:=hU ea;obtain⟨ea0,e0⟩:=hU 0;have h:=PX.ret TK (s:=[d,.int 0,.int ea,.int p]) ⟨d,0,ea,p,rfl,by omega,hl⟩ (by rw[e]);have hz:Dat.int (Dat.int (p:Int)).toI=.int p:=rfl;have hq:∀(i:Nat),aP (gW F0 [d,.int 0,.int ea,.int p]).2 i=aP [d,.int e',.int ea',.int p'] i:=fun i=>by rw[e]
 refine HT.pre (by decide) (aT (v:=v) (v':=VL F0 [d,.int 0,.int ea,.int p]) az Pv (ag (ct hp) (ag hd.symm (ag (ct k0) (ag (ct he.symm) aK)))))
  (HT.retell (by decide) h (aV (v':=v) az Pw ?_))
 refine ag (ct ?_) (ag (by rw[gq,hq,XN];exact hd) (ag (ct ?_) (ag (ct ?_) aK)));{rw[gq,hq,yD,mu hF hd,Xz,hp,wa,hz,e0];simp only[yD,tI]};{rw[gq,hq,yF,mu hF hd,Xy,hp,v8,hz,e0];simp only[yF,tI]};rw[gq,mu hF hd,Xx,hp,v7,hz,←he,tI]
end
end Go.Proofs.YtbfonficacphkaaGreatDoor
