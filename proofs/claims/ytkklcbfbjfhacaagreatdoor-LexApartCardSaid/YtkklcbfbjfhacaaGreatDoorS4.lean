/-
  A part of the law's proof over the abstract evaluator. Conditions: those of each theorem, as it states them.
-/
import Derived.Test.YtkklcbfbjfhacaaGreatDoorS3
import Derived.Test.YtkklcbfbjfhacaaGreatDoorL1
set_option linter.all false
set_option linter.all false
namespace Go.Proofs.YtkklcbfbjfhacaaGreatDoor
open Go.Tw Go.Tw.LX
noncomputable section
def B8:List Sh:=[.int .u8]
def e0:aY:=[(eq (D 1) (I 0),true)]
def tokC(k:Nat):List AV:=[.sym .i64 (A2 k (D 0) (D 3)),SI 3,.sym .i64 (A2 (k+1) (D 0) (D 3)),.vstr (A2 (k+2) (D 0) (D 3)),.sym .i64 (A2 (k+3) (D 0) (D 3)),.opq 0 gid 0 (.slc B8) (A2 (k+4) (D 0) (D 3)) (.lit 0)]
def tokB(k:Nat):Ob:=sbox (VS 0) (.sym .i64 (A2 (k+5) (D 0) (D 3))) (.sym .i64 (.ap (k+6) (D 0) (D 3) (D 2)))
def hcTok(f k:Nat)(ex:aY):HCon:={f:=f,args:=[SP,SI 3],pre:=e0++ins++[(lt (ln (D 0)) (I 1000000000),true)]++ex,nr:=0,np:=1,ns:=0,locs:=[⟨none,[0]⟩],ins:=[(1024,sb0)],v:=.agg (tokC k),outs:=[(1024,tokB k),(1025,.box (tokC k) 31)],nx:=1026,fz:=true}
def exN:aY:=[(eq (A1 8 (.pr 1 (D 0) (D 3))) (I 0),false)]
def exW:aY:=[(eq (A1 7 (.pr 1 (D 0) (D 3))) (I 0),false)]
theorem tok_pre{v:Val}{ex:aY}(h:@Holds v (e0++ins++[(lt (ln (D 0)) (I 1000000000),true)]++ex)):∃p:Nat,(@Sx.dat v (D 3)).toI=p∧p<(@Sx.dat v (D 0)).toS.length∧(@Sx.dat v (D 0)).toS.length<1000000000∧(@Sx.dat v (D 1)).toI=0∧@Holds v ex:=by have k0:(@Sx.dat v (D 1)).toI=0:=eqT' (hget h).1;have h:=(hget h).2;have k1:=ltF' (hget h).1;have h:=(hget h).2;have k2:=ltT' (hget h).1;have h:=(hget h).2;have k3:=ltT' (hget h).1;have h:=(hget h).2;rw[show(ln (D 0))=Sx.pr 0 (D 0) (.lit 0)from rfl,sLn]at k2 k3;rw[sI]at k1 k3;have e3:@Sx.eval v (D 3)=(@Sx.dat v (D 3)).toI:=rfl;rw[e3]at k1 k2;exact⟨(@Sx.dat v (D 3)).toI.toNat,by omega,by omega,by omega,k0,h⟩
theorem opt_some{α β:Type}{r:Option (α×β)}(h:r.isSome=true):r=some ((r.get h).1,(r.get h).2):=by
 cases r with
 |none=>cases h
 |some q=>rfl
theorem vap{v:Val}(hF:v.fn=F0){d:Dat}(hd:d=@Sx.dat v (D 0)){k:Nat}{c:Sx}:@Sx.dat v (.ap k (D 0) (D 3) c)=F0 k d (@Sx.dat v (D 3)) (@Sx.dat v c):=by show v.fn k (@Sx.dat v (D 0)) (@Sx.dat v (D 3)) (@Sx.dat v c)=_;rw[hF,hd]
theorem wd_cons:∀c∈[conKey],c.Sound F0 P gl0 b0 R0:=con1 conKey_ok
theorem wd_hcons:∀c∈[hcRun],c.Sound F0 P gl0 b0 R0:=hconC hcRun_ok nohcon
def cwd:Code:=match Tryz.f28.body with
 |some c=>c
 |none=>.skip
def wdA:Tl:=⟨[(0,.ptr 1024 0 0 3),(1,.sym .i64 (.dvar 3))],[(1024,.box [.vstr (.dvar 0),.sym .i64 (.dvar 1),.sym .i64 (.dvar 2)] 42)],1025⟩
def wdpins:List RE:=[⟨1024,1024,0,0,0⟩]
def wdT1:Tl:=⟨[(4,.ptr 1025 0 0 6)],[(1024,.box [.vstr (.dvar 0),.sym .i64 (.dvar 1),.sym .i64 (.dvar 2)] 42),(1025,.box [.sym .i64 (.dvar 3),.sym .i64 (.dvar 4),.sym .i64 (.dvar 5),.vstr (.dvar 6),.int .i64 0,.nils] 31)],1026⟩
def wdT:Nat→Tl:=fun w=>match w with
 |1=>wdT1
 |_=>wdA
theorem wd0_px{J:List Dat→Prop}(hinv:∀s,J s→@Holds (VL F0 s) wd0v):PX P gl0 b0 R0 0 1 20 F0 J cwd wdA wdA wdT (wd0.tr F0 7):=
 PX.tree (pins:=wdpins) base0 (by decide) follows (cons:=[conKey]) wd_cons (hcons:=[hcRun]) wd_hcons (cores:=[]) (fun _ _ _ h=>by cases h) (inv:=wd0v) hinv (by kernel_rfl)
theorem wd_ini:dQ R0 1 [⟨1024,1024,0,0,0⟩] (aR wdA.l) (ao b0 wdA.o wdA.nx) wdA.l wdA.o wdA.nx=some wdE0:=by kernel_rfl
def wdZ:Tl:=⟨[(4,.ptr 1025 0 0 6)],[(1024,.box [.vstr (.dvar 0),.sym .i64 (.ap 31 (.dvar 0) (.dvar 3) (.lit 0)),.sym .i64 (.ap 32 (.dvar 0) (.dvar 3) (.dvar 2))] 42),(1025,.box [.sym .i64 (.ap 26 (.dvar 0) (.dvar 3) (.lit 0)),.sym .i64 (.dvar 3),.sym .i64 (.ap 27 (.dvar 0) (.dvar 3) (.lit 0)),.vstr (.ap 28 (.dvar 0) (.dvar 3) (.lit 0)),.sym .i64 (.ap 29 (.dvar 0) (.dvar 3) (.lit 0)),.opq 0 1023 0 (.slc [.int .u8]) (.ap 30 (.dvar 0) (.dvar 3) (.lit 0)) (.lit 0)] 31)],1026⟩
theorem wd_fin:dD R0 1 [⟨1024,1024,0,0,0⟩,⟨1025,1025,0,0,0⟩] [] (aR wdT1.l) (ao b0 wdT1.o wdT1.nx) wdZ.l wdZ.o wdZ.nx=some wdE1:=by kernel_rfl
def hcWord:HCon:=hcTok 28 26 exW
theorem hcWord_ok:hcWord.Sound F0 P gl0 b0 R0:=by
 refine dq (fn:=Tryz.f28) (code:=cwd) Tryz.func28 (by rfl) (by kernel_rfl) (by kernel_rfl) (by kernel_rfl) fun v hF hpre=> ?_;refine⟨.ret,wdZ.l,_,_,.inl rfl,?_,opt_some (by kernel_rfl),by kernel_rfl⟩;obtain⟨p,hp,h1,hl,h0,hx⟩:=tok_pre (v:=v) (ex:=exW) hpre;obtain⟨d,hd⟩:∃d,d=@Sx.dat v (D 0):=⟨_,rfl⟩;obtain⟨ea,he⟩:∃ea,ea=(@Sx.dat v (D 2)).toI:=⟨_,rfl⟩;rw[←hd]at h1 hl;have hi:@Holds (VL F0 [d,.int 0,.int ea,.int p]) wd0v:=tok_inv hl h1 (hcons (by have k:=eqF' (hget hx).1;rw[sI,show @Sx.eval v (A1 7 (.pr 1 (D 0) (D 3)))=(v.fn 7 (@Sx.dat v (.pr 1 (D 0) (D 3))) (.int 0) (.int 0)).toI from rfl,hF,dAt,←hd,show @Sx.eval v (D 3)=(@Sx.dat v (D 3)).toI from rfl,hp]at k;exact eqF (by rw[sAp,sI,dAt,dD0,sD3,tI];exact k)) hnil);have h:=PX.ret (wd0_px (J:=At [d,.int 0,.int ea,.int p]) (fun s hs=>by have hs:s=[d,.int 0,.int ea,.int p]:=hs;subst hs;exact hi)) rfl (by rw[wd_tr hl h1]);rw[wd_tr hl h1]at h;refine HT.pre (by decide) (aN (v:=v) (v':=VL F0 [d,.int 0,.int ea,.int p]) base0 wd_ini (eqs_cons (numI hp) (eqs_cons hd.symm (eqs_cons (numI h0) (eqs_cons (numI he.symm) eqs_nil)))))
  (HT.retell (by decide) h (aP (v':=v) base0 wd_fin ?_))
 have T:=word_f hl h1 (r:=(d.toS.drop p).takeWhile parB) rfl;refine eqs_cons (hd) (eqs_cons (numI (by rw[vap hF hd,fb31,hp,(T _).2.2.2.2.2.1];first|(simp only[dD0,dD1,dD2,dD3,dD4,dD5,dD6,dD7,tI];done)|rfl)) (eqs_cons (numI (by rw[vap hF hd,fb32,hp,(T _).2.2.2.2.2.2];exact he)) (eqs_cons (numI (by rw[vap hF hd,fb26,hp,(T _).1];first|(simp only[dD0,dD1,dD2,dD3,dD4,dD5,dD6,dD7,tI];done)|rfl)) (eqs_cons (numI hp.symm) (eqs_cons (numI (by rw[vap hF hd,fb27,hp,(T _).2.1];first|(simp only[dD0,dD1,dD2,dD3,dD4,dD5,dD6,dD7,tI];done)|rfl)) (eqs_cons (by rw[vap hF hd,fb28,hp,(T _).2.2.1];first|(simp only[dD0,dD1,dD2,dD3,dD4,dD5,dD6,dD7,tI];done)|rfl) (eqs_cons (by rw[show @Sx.dat v (N (.ap 29 (D 0) (D 3) (I 0)))=.int (@Sx.dat v (.ap 29 (D 0) (D 3) (I 0))).toI from rfl,vap hF hd,F0_29];rfl) (eqs_cons (by rw[vap hF hd,F0_30];rfl) eqs_nil))))))))
theorem si_cons:∀c∈[conSign],c.Sound F0 P gl0 b0 R0:=con1 conSign_ok
theorem si_hcons:∀c∈([]:List HCon),c.Sound F0 P gl0 b0 R0:=nohcon
def csi:Code:=match Tryz.f32.body with
 |some c=>c
 |none=>.skip
def siA:Tl:=⟨[(0,.ptr 1024 0 0 3),(1,.sym .i64 (.dvar 3))],[(1024,.box [.vstr (.dvar 0),.sym .i64 (.dvar 1),.sym .i64 (.dvar 2)] 42)],1025⟩
def sipins:List RE:=[⟨1024,1024,0,0,0⟩]
def siT1:Tl:=⟨[(4,.ptr 1025 0 0 6)],[(1024,.box [.vstr (.dvar 0),.sym .i64 (.dvar 1),.sym .i64 (.dvar 2)] 42),(1025,.box [.int .i64 6,.sym .i64 (.dvar 3),.sym .i64 (.dvar 4),.vstr (.dvar 5),.int .i64 0,.nils] 31)],1026⟩
def siT:Nat→Tl:=fun w=>match w with
 |1=>siT1
 |_=>siA
theorem si0_px{J:List Dat→Prop}(hco:∀s,J s→∀q∈si0c,¬@Holds (VL F0 s) q)(hinv:∀s,J s→@Holds (VL F0 s) si0v):PX P gl0 b0 R0 0 1 27 F0 J csi siA siA siT (si0.tr F0 6):=
 PX.tree (pins:=sipins) base0 (by decide) follows (cons:=[conSign]) si_cons (hcons:=[]) si_hcons (cores:=si0c) hco (inv:=si0v) hinv (by kernel_rfl)
theorem si_ini:dQ R0 1 [⟨1024,1024,0,0,0⟩] (aR siA.l) (ao b0 siA.o siA.nx) siA.l siA.o siA.nx=some siE0:=by kernel_rfl
def siZ:Tl:=⟨[(4,.ptr 1025 0 0 6)],[(1024,.box [.vstr (.dvar 0),.sym .i64 (.ap 38 (.dvar 0) (.dvar 3) (.lit 0)),.sym .i64 (.ap 39 (.dvar 0) (.dvar 3) (.dvar 2))] 42),(1025,.box [.sym .i64 (.ap 33 (.dvar 0) (.dvar 3) (.lit 0)),.sym .i64 (.dvar 3),.sym .i64 (.ap 34 (.dvar 0) (.dvar 3) (.lit 0)),.vstr (.ap 35 (.dvar 0) (.dvar 3) (.lit 0)),.sym .i64 (.ap 36 (.dvar 0) (.dvar 3) (.lit 0)),.opq 0 1023 0 (.slc [.int .u8]) (.ap 37 (.dvar 0) (.dvar 3) (.lit 0)) (.lit 0)] 31)],1026⟩
theorem si_fin:dD R0 1 [⟨1024,1024,0,0,0⟩,⟨1025,1025,0,0,0⟩] [] (aR siT1.l) (ao b0 siT1.o siT1.nx) siZ.l siZ.o siZ.nx=some siE1:=by kernel_rfl
def hcSign:HCon:=hcTok 32 33 []
theorem hcSign_ok:hcSign.Sound F0 P gl0 b0 R0:=by
 refine dq (fn:=Tryz.f32) (code:=csi) Tryz.func32 (by rfl) (by kernel_rfl) (by kernel_rfl) (by kernel_rfl) fun v hF hpre=> ?_;refine⟨.ret,siZ.l,_,_,.inl rfl,?_,opt_some (by kernel_rfl),by kernel_rfl⟩;obtain⟨p,hp,h1,hl,h0,hx⟩:=tok_pre (v:=v) (ex:=[]) hpre;obtain⟨d,hd⟩:∃d,d=@Sx.dat v (D 0):=⟨_,rfl⟩;obtain⟨ea,he⟩:∃ea,ea=(@Sx.dat v (D 2)).toI:=⟨_,rfl⟩;rw[←hd]at h1 hl;obtain⟨ea',q0,q1,q2⟩:=si_tr (ea:=ea) hl h1;have hi:@Holds (VL F0 [d,.int 0,.int ea,.int p]) si0v:=tok_inv hl h1 hnil;have h:=PX.ret (si0_px (J:=At [d,.int 0,.int ea,.int p]) (fun s hs=>by
  have hs:s=[d,.int 0,.int ea,.int p]:=hs;subst hs;exact si0_co hl h1) (fun s hs=>by
  have hs:s=[d,.int 0,.int ea,.int p]:=hs;subst hs;exact hi)) rfl (by rw[q0])
 rw[q0]at h;refine HT.pre (by decide) (aN (v:=v) (v':=VL F0 [d,.int 0,.int ea,.int p]) base0 si_ini (eqs_cons (numI hp) (eqs_cons hd.symm (eqs_cons (numI h0) (eqs_cons (numI he.symm) eqs_nil)))))
  (HT.retell (by decide) h (aP (v':=v) base0 si_fin ?_))
 have T:=sign_f hl h1;refine eqs_cons (hd) (eqs_cons (numI (by rw[vap hF hd,fb38,hp,(T _).2.2.2.2.2.1];first|(simp only[dD0,dD1,dD2,dD3,dD4,dD5,dD6,dD7,tI];done)|rfl)) (eqs_cons (numI (by rw[vap hF hd,fb39,hp];by_cases h7:sgn (d.toS.drop p)=0;{rw[(T _).2.2.2.2.2.2.1 h7,q1 h7];rfl};rw[(T _).2.2.2.2.2.2.2 h7,q2 h7];exact he)) (eqs_cons (by rw[show @Sx.dat v (N (.ap 33 (D 0) (D 3) (I 0)))=.int (@Sx.dat v (.ap 33 (D 0) (D 3) (I 0))).toI from rfl,vap hF hd,F0_33];rfl) (eqs_cons (numI hp.symm) (eqs_cons (numI (by rw[vap hF hd,fb34,hp,(T _).2.1];first|(simp only[dD0,dD1,dD2,dD3,dD4,dD5,dD6,dD7,tI];done)|rfl)) (eqs_cons (by rw[vap hF hd,fb35,hp,(T _).2.2.1];first|(simp only[dD0,dD1,dD2,dD3,dD4,dD5,dD6,dD7,tI];done)|rfl) (eqs_cons (by rw[show @Sx.dat v (N (.ap 36 (D 0) (D 3) (I 0)))=.int (@Sx.dat v (.ap 36 (D 0) (D 3) (I 0))).toI from rfl,vap hF hd,F0_36];rfl) (eqs_cons (by rw[vap hF hd,F0_37];rfl) eqs_nil))))))))
theorem nm_cons:∀c∈[conSplit,conSuf,conPUx],c.Sound F0 P gl0 b0 R0:=conC conSplit_ok (conC conSuf_ok (con1 conPU_ok))
theorem nm_hcons:∀c∈[hcRun],c.Sound F0 P gl0 b0 R0:=hconC hcRun_ok nohcon
def cnm:Code:=match Tryz.f30.body with
 |some c=>c
 |none=>.skip
def nmA:Tl:=⟨[(0,.ptr 1024 0 0 3),(1,.sym .i64 (.dvar 3))],[(1024,.box [.vstr (.dvar 0),.sym .i64 (.dvar 1),.sym .i64 (.dvar 2)] 42)],1025⟩
def nmpins:List RE:=[⟨1024,1024,0,0,0⟩]
def nmT1:Tl:=⟨[(4,.ptr 1025 0 0 6)],[(1024,.box [.vstr (.dvar 0),.sym .i64 (.dvar 1),.sym .i64 (.dvar 2)] 42),(1025,.box [.int .i64 3,.sym .i64 (.dvar 3),.sym .i64 (.dvar 4),.vstr (.dvar 5),.sym .i64 (.dvar 6),.nils] 31)],1026⟩
def nmT:Nat→Tl:=fun w=>match w with
 |1=>nmT1
 |_=>nmA
theorem nm0_px{J:List Dat→Prop}(hco:∀s,J s→∀q∈nm0c,¬@Holds (VL F0 s) q)(hinv:∀s,J s→@Holds (VL F0 s) nm0v):PX P gl0 b0 R0 0 1 60 F0 J cnm nmA nmA nmT (nm0.tr F0 7):=
 PX.tree (pins:=nmpins) base0 (by decide) follows (cons:=[conSplit,conSuf,conPUx]) nm_cons (hcons:=[hcRun]) nm_hcons (cores:=nm0c) hco (inv:=nm0v) hinv (by kernel_rfl)
theorem nm_ini:dQ R0 1 [⟨1024,1024,0,0,0⟩] (aR nmA.l) (ao b0 nmA.o nmA.nx) nmA.l nmA.o nmA.nx=some nmE0:=by kernel_rfl
def nmZ:Tl:=⟨[(4,.ptr 1025 0 0 6)],[(1024,.box [.vstr (.dvar 0),.sym .i64 (.ap 45 (.dvar 0) (.dvar 3) (.lit 0)),.sym .i64 (.ap 46 (.dvar 0) (.dvar 3) (.dvar 2))] 42),(1025,.box [.sym .i64 (.ap 40 (.dvar 0) (.dvar 3) (.lit 0)),.sym .i64 (.dvar 3),.sym .i64 (.ap 41 (.dvar 0) (.dvar 3) (.lit 0)),.vstr (.ap 42 (.dvar 0) (.dvar 3) (.lit 0)),.sym .i64 (.ap 43 (.dvar 0) (.dvar 3) (.lit 0)),.opq 0 1023 0 (.slc [.int .u8]) (.ap 44 (.dvar 0) (.dvar 3) (.lit 0)) (.lit 0)] 31)],1026⟩
theorem nm_fin:dD R0 1 [⟨1024,1024,0,0,0⟩,⟨1025,1025,0,0,0⟩] [] (aR nmT1.l) (ao b0 nmT1.o nmT1.nx) nmZ.l nmZ.o nmZ.nx=some nmE1:=by kernel_rfl
def hcNumber:HCon:=hcTok 30 40 exN
theorem hcNumber_ok:hcNumber.Sound F0 P gl0 b0 R0:=by
 refine dq (fn:=Tryz.f30) (code:=cnm) Tryz.func30 (by rfl) (by kernel_rfl) (by kernel_rfl) (by kernel_rfl) fun v hF hpre=> ?_;refine⟨.ret,nmZ.l,_,_,.inl rfl,?_,opt_some (by kernel_rfl),by kernel_rfl⟩;obtain⟨p,hp,h1,hl,h0,hx⟩:=tok_pre (v:=v) (ex:=exN) hpre;obtain⟨d,hd⟩:∃d,d=@Sx.dat v (D 0):=⟨_,rfl⟩;obtain⟨ea,he⟩:∃ea,ea=(@Sx.dat v (D 2)).toI:=⟨_,rfl⟩;rw[←hd]at h1 hl;have k:=eqF' (hget hx).1;rw[sI,show @Sx.eval v (A1 8 (.pr 1 (D 0) (D 3)))=(v.fn 8 (@Sx.dat v (.pr 1 (D 0) (D 3))) (.int 0) (.int 0)).toI from rfl,hF,dAt,←hd,show @Sx.eval v (D 3)=(@Sx.dat v (D 3)).toI from rfl,hp]at k;have hi:@Holds (VL F0 [d,.int 0,.int ea,.int p]) nm0v:=tok_inv hl h1 (hcons (eqF (by rw[sAp,sI,dAt,dD0,sD3,tI];exact k)) hnil);obtain⟨c,_,_,hc⟩:=headE h1;have hr:1≤((d.toS.drop p).takeWhile parB).length:=tw_pos hc (by
  rw[Int.toNat_natCast,atI_some hc,show Dat.int (c.toNat:Int)=u8D c from rfl,f8]at k;unfold parB;cases hD:digB c with
  |true=>rfl
  |false=>rw[hD]at k;exact absurd rfl k)
 obtain⟨ea',q0,q1,q2⟩:=nm_tr (ea:=ea) hl h1 rfl hr;have h:=PX.ret (nm0_px (J:=At [d,.int 0,.int ea,.int p]) (fun s hs=>by
  have hs:s=[d,.int 0,.int ea,.int p]:=hs;subst hs;exact nm0_co hl h1 hr) (fun s hs=>by
  have hs:s=[d,.int 0,.int ea,.int p]:=hs;subst hs;exact hi)) rfl (by rw[q0])
 rw[q0]at h;refine HT.pre (by decide) (aN (v:=v) (v':=VL F0 [d,.int 0,.int ea,.int p]) base0 nm_ini (eqs_cons (numI hp) (eqs_cons hd.symm (eqs_cons (numI h0) (eqs_cons (numI he.symm) eqs_nil)))))
  (HT.retell (by decide) h (aP (v':=v) base0 nm_fin ?_))
 have T:=num_f hl h1 (r:=(d.toS.drop p).takeWhile parB) rfl hr;refine eqs_cons (hd) (eqs_cons (numI (by rw[vap hF hd,fb45,hp,(T _).2.2.2.2.2.1];first|(simp only[dD0,dD1,dD2,dD3,dD4,dD5,dD6,dD7,tI];done)|rfl)) (eqs_cons (numI (by rw[vap hF hd,fb46,hp];by_cases h7:nmE ((d.toS.drop p).takeWhile parB)=0;{rw[(T _).2.2.2.2.2.2.2 h7,q2 h7];exact he};rw[(T _).2.2.2.2.2.2.1 h7,q1 h7];rfl)) (eqs_cons (by rw[show @Sx.dat v (N (.ap 40 (D 0) (D 3) (I 0)))=.int (@Sx.dat v (.ap 40 (D 0) (D 3) (I 0))).toI from rfl,vap hF hd,F0_40];rfl) (eqs_cons (numI hp.symm) (eqs_cons (numI (by rw[vap hF hd,fb41,hp,(T _).2.1];first|(simp only[dD0,dD1,dD2,dD3,dD4,dD5,dD6,dD7,tI];done)|rfl)) (eqs_cons (by rw[vap hF hd,fb42,hp,(T _).2.2.1];first|(simp only[dD0,dD1,dD2,dD3,dD4,dD5,dD6,dD7,tI];done)|rfl) (eqs_cons (numI (by rw[vap hF hd,fb43,hp,(T _).2.2.2.1];first|(simp only[dD0,dD1,dD2,dD3,dD4,dD5,dD6,dD7,tI];done)|rfl)) (eqs_cons (by rw[vap hF hd,F0_44];rfl) eqs_nil))))))))
end
end Go.Proofs.YtkklcbfbjfhacaaGreatDoor
set_option linter.all false
namespace Go.Proofs.YtkklcbfbjfhacaaGreatDoor
open Go.Tw Go.Tw.LX
noncomputable section
theorem qu_cons:∀c∈[conEsc],c.Sound F0 P gl0 b0 R0:=con1 conEsc_ok
theorem qu_hcons:∀c∈([]:List HCon),c.Sound F0 P gl0 b0 R0:=nohcon
def cqu:Code:=match Tryz.f31.body with
 |some c=>c
 |none=>.skip
def quA:Tl:=⟨[(0,.ptr 1024 0 0 3),(1,.sym .i64 (.dvar 3))],[(1024,.box [.vstr (.dvar 0),.sym .i64 (.dvar 1),.sym .i64 (.dvar 2)] 42)],1025⟩
def qupins:List RE:=[⟨1024,1024,0,0,0⟩]
def quT2:Tl:=⟨[(0,.ptr 1024 0 0 3),(1,.sym .i64 (.dvar 3)),(4,.ptr 1025 0 0 6),(5,.ptr 1027 0 0 6),(6,.sym .u8 (.dvar 12)),(7,.sym .i64 (.dvar 13))],[(1024,.box [.vstr (.dvar 0),.sym .i64 (.dvar 1),.sym .i64 (.dvar 2)] 42),(1025,.box [.sym .i64 (.dvar 4),.int .i64 0,.sym .i64 (.dvar 5),aQ [],.sym .i64 (.dvar 6),.opq 2 1026 0 (.slc [.int .u8]) (.lit 0) (.dvar 8)] 31),(1026,.opq 2 0 1023 (.slc [.int .u8]) (.dvar 7) (.dvar 8) [] 5),(1027,.box [.int .i64 5,.sym .i64 (.dvar 9),.int .i64 0,aQ [],.int .i64 0,.opq 2 1028 0 (.slc [.int .u8]) (.lit 0) (.dvar 11)] 31),(1028,.opq 2 0 1023 (.slc [.int .u8]) (.dvar 10) (.dvar 11) [] 5)],1029⟩
def quT1:Tl:=⟨[(4,.ptr 1025 0 0 6)],[(1024,.box [.vstr (.dvar 0),.sym .i64 (.dvar 1),.sym .i64 (.dvar 2)] 42),(1025,.box [.sym .i64 (.dvar 3),.sym .i64 (.dvar 4),.sym .i64 (.dvar 5),aQ [],.sym .i64 (.dvar 6),.opq 2 1026 0 (.slc [.int .u8]) (.lit 0) (.dvar 8)] 31),(1026,.opq 2 0 1023 (.slc [.int .u8]) (.dvar 7) (.dvar 8) [] 5)],1027⟩
def quT:Nat→Tl:=fun w=>match w with
 |2=>quT2
 |1=>quT1
 |_=>quA
def quB0:Tl:=⟨[(0,.ptr 1024 0 0 3),(1,.sym .i64 (.dvar 3)),(4,.ptr 1025 0 0 6)],[(1024,.box [.vstr (.dvar 0),.sym .i64 (.dvar 1),.sym .i64 (.dvar 2)] 42),(1025,.box [.sym .i64 (.dvar 4),.int .i64 0,.sym .i64 (.dvar 5),aQ [],.sym .i64 (.dvar 6),.opq 2 1026 0 (.slc [.int .u8]) (.lit 0) (.dvar 8)] 31),(1026,.opq 2 0 1023 (.slc [.int .u8]) (.dvar 7) (.dvar 8) [] 5)],1027⟩
theorem qu0_px{J:List Dat→Prop}:PX P gl0 b0 R0 0 1 111 F0 J (cl cqu) quA quB0 quT (qu0.tr F0 9):=
 PX.tree (pins:=qupins) base0 (by decide) follows (cons:=[conEsc]) qu_cons (hcons:=[]) qu_hcons (cores:=[]) (fun _ _ _ h=>by cases h) (inv:=[]) (fun _ _=>hnil) (by kernel_rfl)
def quB1:Tl:=⟨[(0,.ptr 1024 0 0 3),(1,.sym .i64 (.dvar 3)),(4,.ptr 1025 0 0 6),(5,.ptr 1027 0 0 6)],[(1024,.box [.vstr (.dvar 0),.sym .i64 (.dvar 1),.sym .i64 (.dvar 2)] 42),(1025,.box [.sym .i64 (.dvar 4),.int .i64 0,.sym .i64 (.dvar 5),aQ [],.sym .i64 (.dvar 6),.opq 2 1026 0 (.slc [.int .u8]) (.lit 0) (.dvar 8)] 31),(1026,.opq 2 0 1023 (.slc [.int .u8]) (.dvar 7) (.dvar 8) [] 5),(1027,.box [.int .i64 5,.sym .i64 (.dvar 9),.int .i64 0,aQ [],.int .i64 0,.opq 2 1028 0 (.slc [.int .u8]) (.lit 0) (.dvar 11)] 31),(1028,.opq 2 0 1023 (.slc [.int .u8]) (.dvar 10) (.dvar 11) [] 5)],1029⟩
theorem qu1_px{J:List Dat→Prop}:PX P gl0 b0 R0 0 1 111 F0 J (cl (cr cqu)) quB0 quB1 quT (qu1.tr F0 12):=
 PX.tree (pins:=qupins) base0 (by decide) follows (cons:=[conEsc]) qu_cons (hcons:=[]) qu_hcons (cores:=[]) (fun _ _ _ h=>by cases h) (inv:=[]) (fun _ _=>hnil) (by kernel_rfl)
def quB2:Tl:=⟨[(0,.ptr 1024 0 0 3),(1,.sym .i64 (.dvar 3)),(4,.ptr 1025 0 0 6),(5,.ptr 1027 0 0 6),(6,.sym .u8 (.dvar 12))],[(1024,.box [.vstr (.dvar 0),.sym .i64 (.dvar 1),.sym .i64 (.dvar 2)] 42),(1025,.box [.sym .i64 (.dvar 4),.int .i64 0,.sym .i64 (.dvar 5),aQ [],.sym .i64 (.dvar 6),.opq 2 1026 0 (.slc [.int .u8]) (.lit 0) (.dvar 8)] 31),(1026,.opq 2 0 1023 (.slc [.int .u8]) (.dvar 7) (.dvar 8) [] 5),(1027,.box [.int .i64 5,.sym .i64 (.dvar 9),.int .i64 0,aQ [],.int .i64 0,.opq 2 1028 0 (.slc [.int .u8]) (.lit 0) (.dvar 11)] 31),(1028,.opq 2 0 1023 (.slc [.int .u8]) (.dvar 10) (.dvar 11) [] 5)],1029⟩
theorem qu2_px{J:List Dat→Prop}(hinv:∀s,J s→@Holds (VL F0 s) qu2v):PX P gl0 b0 R0 0 1 111 F0 J (cl (cr (cr cqu))) quB1 quB2 quT (qu2.tr F0 13):=
 PX.tree (pins:=qupins) base0 (by decide) follows (cons:=[conEsc]) qu_cons (hcons:=[]) qu_hcons (cores:=[]) (fun _ _ _ h=>by cases h) (inv:=qu2v) hinv (by kernel_rfl)
def quB3:Tl:=⟨[(0,.ptr 1024 0 0 3),(1,.sym .i64 (.dvar 3)),(4,.ptr 1025 0 0 6),(5,.ptr 1027 0 0 6),(6,.sym .u8 (.dvar 12)),(7,.sym .i64 (.dvar 13))],[(1024,.box [.vstr (.dvar 0),.sym .i64 (.dvar 1),.sym .i64 (.dvar 2)] 42),(1025,.box [.sym .i64 (.dvar 4),.int .i64 0,.sym .i64 (.dvar 5),aQ [],.sym .i64 (.dvar 6),.opq 2 1026 0 (.slc [.int .u8]) (.lit 0) (.dvar 8)] 31),(1026,.opq 2 0 1023 (.slc [.int .u8]) (.dvar 7) (.dvar 8) [] 5),(1027,.box [.int .i64 5,.sym .i64 (.dvar 9),.int .i64 0,aQ [],.int .i64 0,.opq 2 1028 0 (.slc [.int .u8]) (.lit 0) (.dvar 11)] 31),(1028,.opq 2 0 1023 (.slc [.int .u8]) (.dvar 10) (.dvar 11) [] 5)],1029⟩
theorem qu3_px{J:List Dat→Prop}(hinv:∀s,J s→@Holds (VL F0 s) qu3v):PX P gl0 b0 R0 0 1 111 F0 J (cl (cr (cr (cr cqu)))) quB2 quB3 quT (qu3.tr F0 14):=
 PX.tree (pins:=qupins) base0 (by decide) follows (cons:=[conEsc]) qu_cons (hcons:=[]) qu_hcons (cores:=[]) (fun _ _ _ h=>by cases h) (inv:=qu3v) hinv (by kernel_rfl)
theorem qu5_px{J:List Dat→Prop}(hco:∀s,J s→∀q∈qu5c,¬@Holds (VL F0 s) q)(hinv:∀s,J s→@Holds (VL F0 s) qu5v):PX P gl0 b0 R0 0 1 111 F0 J (cl (cl (cl (cr (cr (cr (cr cqu))))))) quB3 quB3 quT (qu5.tr F0 14):=
 PX.tree (pins:=qupins) base0 (by decide) follows (cons:=[conEsc]) qu_cons (hcons:=[]) qu_hcons (cores:=qu5c) hco (inv:=qu5v) hinv (by kernel_rfl)
def quB6:Tl:=⟨[(0,.ptr 1024 0 0 3),(1,.sym .i64 (.dvar 3)),(4,.ptr 1025 0 0 6),(5,.ptr 1027 0 0 6),(6,.sym .u8 (.dvar 12)),(7,.sym .i64 (.dvar 13))],[(1024,.box [.vstr (.dvar 0),.sym .i64 (.dvar 1),.sym .i64 (.dvar 2)] 42),(1025,.box [.sym .i64 (.dvar 4),.int .i64 0,.sym .i64 (.dvar 5),aQ [],.sym .i64 (.dvar 6),.opq 2 1026 0 (.slc [.int .u8]) (.lit 0) (.dvar 8)] 31),(1026,.opq 2 0 1023 (.slc [.int .u8]) (.dvar 7) (.dvar 8) [] 5),(1027,.box [.int .i64 5,.sym .i64 (.dvar 9),.int .i64 0,aQ [],.int .i64 0,.opq 2 1028 0 (.slc [.int .u8]) (.lit 0) (.dvar 11)] 31),(1028,.opq 2 0 1023 (.slc [.int .u8]) (.dvar 10) (.dvar 11) [] 5)],1029⟩
theorem qu7_px{J:List Dat→Prop}(hco:∀s,J s→∀q∈qu7c,¬@Holds (VL F0 s) q):PX P gl0 b0 R0 0 1 111 F0 J (cr (cr (cr (cr (cr cqu))))) quB6 quB6 quT (qu7.tr F0 9):=
 PX.tree (pins:=qupins) base0 (by decide) follows (cons:=[conEsc]) qu_cons (hcons:=[]) qu_hcons (cores:=qu7c) hco (inv:=[]) (fun _ _=>hnil) (by kernel_rfl)
theorem qu_ini:dQ R0 1 [⟨1024,1024,0,0,0⟩] (aR quA.l) (ao b0 quA.o quA.nx) quA.l quA.o quA.nx=some quE0:=by kernel_rfl
def quZ:Tl:=⟨[(4,.ptr 1025 0 0 6)],[(1024,.box [.vstr (.dvar 0),.sym .i64 (.ap 52 (.dvar 0) (.dvar 3) (.lit 0)),.sym .i64 (.ap 53 (.dvar 0) (.dvar 3) (.dvar 2))] 42),(1025,.box [.sym .i64 (.ap 47 (.dvar 0) (.dvar 3) (.lit 0)),.sym .i64 (.dvar 3),.sym .i64 (.ap 48 (.dvar 0) (.dvar 3) (.lit 0)),.vstr (.ap 49 (.dvar 0) (.dvar 3) (.lit 0)),.sym .i64 (.ap 50 (.dvar 0) (.dvar 3) (.lit 0)),.opq 0 1023 0 (.slc [.int .u8]) (.ap 51 (.dvar 0) (.dvar 3) (.lit 0)) (.lit 0)] 31)],1026⟩
theorem qu_fin:dD R0 1 [⟨1024,1024,0,0,0⟩,⟨1025,1025,0,0,0⟩] [1026] (aR quT1.l) (ao b0 quT1.o quT1.nx) quZ.l quZ.o quZ.nx=some quE1:=by kernel_rfl
theorem qu_eq:cqu=(.seq (cl cqu) (.seq (cl (cr cqu)) (.seq (cl (cr (cr cqu))) (.seq (cl (cr (cr (cr cqu)))) (.seq (.block 0 (.loop (cl (cl (cl (cr (cr (cr (cr cqu))))))))) (cr (cr (cr (cr (cr cqu)))))))))):=by kernel_rfl
def hcQuoted:HCon:=hcTok 31 47 []
theorem qu_px{d:Dat}{ea:Int}{p:Nat}(hl:d.toS.length<1000000000)(h1:p<d.toS.length):PX P gl0 b0 R0 0 1 111 F0 (At [d,.int 0,.int ea,.int p]) cqu quA quB6 quT (spQu F0):=by
 rw[qu_eq];have e3:qu3.tr F0 14 [d,.int 0,.int ea,.int p,.int 0,.int 0,.int 0,.lst [],.int 0,.int p,.lst [],.int 0,.int (atI d.toS p)]=(0,st14 d ea p [] 0 (atI d.toS p) ((p+1:Nat):Int)):=by have:aS .add .i64 (p:Int) 1=((p+1:Nat):Int):=(by rw[add_small (by omega) (by omega)];omega);show(0,[d,.int 0,.int ea,.int p,.int 0,.int 0,.int 0,.lst [],.int 0,.int p,.lst [],.int 0,.int (atI d.toS p),.int (aS .add .i64 (p:Int) 1)])=_;rw[this];rfl
 have hv:∀z:List Dat,@Holds (VL F0 (d:: .int 0:: .int ea:: .int p::z)) qu2v:=fun z=>hcons (eqT (by rw[sD1,sI,tI])) (hcons (ltF (by rw[sD3,sI,tI];omega)) (hcons (ltT (by rw[sD3,sLn,dD0,tI];omega)) (hcons (ltT (by rw[sLn,sI,dD0];omega)) hnil)));exact PX.seq (J2:=At [d,.int 0,.int ea,.int p,.int 0,.int 0,.int 0,.lst [],.int 0]) (by decide) qu0_px (at_go rfl)
  (PX.seq (J2:=At [d,.int 0,.int ea,.int p,.int 0,.int 0,.int 0,.lst [],.int 0,.int p,.lst [],.int 0]) (by decide) qu1_px (at_go rfl)
  (PX.seq (J2:=At [d,.int 0,.int ea,.int p,.int 0,.int 0,.int 0,.lst [],.int 0,.int p,.lst [],.int 0,.int (atI d.toS p)]) (by decide) (qu2_px fun s hs=>by have hs:s=_:=hs;subst hs;exact hv _) (at_go rfl)
  (PX.seq (J2:=At (st14 d ea p [] 0 (atI d.toS p) ((p+1:Nat):Int))) (by decide) (qu3_px fun s hs=>by have hs:s=_:=hs;subst hs;exact hv _) (at_go e3)
  (PX.seq (J2:=fun _=>True) (by decide) (PX.weak (PX.block (PX.loopM (by decide) (qu5_px qu5_co qu5_inv) qu_mea) rfl) (fun s hs=>by have hs:s=_:=hs;subst hs;exact⟨d,ea,p,[],0,_,_,rfl,by omega,by omega,by omega,by omega,by simp only[List.length_nil];omega,hl⟩)) (fun _ _ _=>trivial) (qu7_px fun s _=>qu7_co s)))))
theorem hcQuoted_ok:hcQuoted.Sound F0 P gl0 b0 R0:=by
 refine dq (fn:=Tryz.f31) (code:=cqu) Tryz.func31 (by rfl) (by kernel_rfl) (by kernel_rfl) (by kernel_rfl) fun v hF hpre=> ?_;refine⟨.ret,quZ.l,_,_,.inl rfl,?_,opt_some (by kernel_rfl),by kernel_rfl⟩;obtain⟨p,hp,h1,hl,h0,hx⟩:=tok_pre (v:=v) (ex:=[]) hpre;obtain⟨d,hd⟩:∃d,d=@Sx.dat v (D 0):=⟨_,rfl⟩;obtain⟨ea,he⟩:∃ea,ea=(@Sx.dat v (D 2)).toI:=⟨_,rfl⟩;rw[←hd]at h1 hl;obtain⟨er,kd,sz,nu,L,hU⟩:=qu_all hl h1;obtain⟨ea',z,e⟩:=hU ea;obtain⟨ea0,z0,e0⟩:=hU 0;have h:=PX.ret (qu_px (ea:=ea) hl h1) rfl (by rw[e]);have hq:∀(i:Nat),aJ (spQu F0 [d,.int 0,.int ea,.int p]).2 i=aJ (d:: .int er:: .int ea':: .int kd:: .int p:: .int sz:: .int nu:: .lst L::z) i:=fun i=>by rw[e]
 have hz:Dat.int (Dat.int (p:Int)).toI=.int p:=rfl;refine HT.pre (by decide) (aN (v:=v) (v':=VL F0 [d,.int 0,.int ea,.int p]) base0 qu_ini (eqs_cons (numI hp) (eqs_cons hd.symm (eqs_cons (numI h0) (eqs_cons (numI he.symm) eqs_nil)))))
  (HT.retell (by decide) h (aP (v':=v) base0 qu_fin ?_))
 refine eqs_cons (by rw[dAtL,hq,aL0];exact hd) (eqs_cons (numI ?_) (eqs_cons (numI ?_) (eqs_cons (numI ?_) (eqs_cons (numI ?_) (eqs_cons (numI ?_) (eqs_cons ?_ (eqs_cons (numI ?_) (eqs_cons ?_ eqs_nil))))))));{rw[dAtL,hq,aL1,vap hF hd,fb52,hp,F0_52,hz,e0];simp only[aL1,tI]};{rw[dAtL,vap hF hd,fb53,hp,F0_53,hz,←he,tI]};{rw[dAtL,hq,aL3,vap hF hd,fb47,hp,F0_47,hz,e0];simp only[aL3,tI]};{rw[dAtL,hq,aL4];exact hp.symm};{rw[dAtL,hq,aL5,vap hF hd,fb48,hp,F0_48,hz,e0];simp only[aL5,tI]};{rw[vap hF hd,F0_49];rfl};{rw[dAtL,hq,aL6,vap hF hd,fb50,hp,F0_50,hz,e0];simp only[aL6,tI]};rw[dAtL,hq,aL7,vap hF hd,fb51,hp,F0_51,hz,e0];simp only[aL7]
theorem sk_all{d:Dat}{p:Nat}(hl:d.toS.length<1000000000):∃e' p':Int,∀ea,∃ea':Int,spSk F0 [d,.int 0,.int ea,.int p]=(1,[d,.int e',.int ea',.int p']):=by by_cases hp:p≤d.toS.length;{obtain⟨n,g,⟨_,h⟩|⟨_,_,h⟩⟩:=sk_gap hl _ p (aw _) hp;{exact⟨_,_,fun ea=>⟨_,h ea⟩⟩};exact⟨_,_,fun ea=>⟨_,h ea⟩⟩};exact⟨0,p,fun ea=>⟨ea,sk_end (by omega) hl (.inl fun h=>by omega)⟩⟩
theorem sk_cons:∀c∈[conIndex],c.Sound F0 P gl0 b0 R0:=con1 conIndex_ok
theorem sk_hcons:∀c∈([]:List HCon),c.Sound F0 P gl0 b0 R0:=nohcon
def csk:Code:=match Tryz.f14.body with
 |some c=>c
 |none=>.skip
def skA:Tl:=⟨[(0,.ptr 1024 0 0 3),(1,.sym .i64 (.dvar 3))],[(1024,.box [.vstr (.dvar 0),.sym .i64 (.dvar 1),.sym .i64 (.dvar 2)] 42)],1025⟩
def skpins:List RE:=[⟨1024,1024,0,0,0⟩]
def skT1:Tl:=⟨[(4,.sym .i64 (.dvar 3))],[(1024,.box [.vstr (.dvar 0),.sym .i64 (.dvar 1),.sym .i64 (.dvar 2)] 42)],1025⟩
def skT2:Tl:=⟨[(1,.sym .i64 (.dvar 3))],[(1024,.box [.vstr (.dvar 0),.sym .i64 (.dvar 1),.sym .i64 (.dvar 2)] 42)],1025⟩
def skT:Nat→Tl:=fun w=>match w with
 |1=>skT1
 |2=>skT2
 |_=>skA
def skB0:Tl:=⟨[(0,.ptr 1024 0 0 3),(1,.sym .i64 (.dvar 3))],[(1024,.box [.vstr (.dvar 0),.sym .i64 (.dvar 1),.sym .i64 (.dvar 2)] 42)],1025⟩
theorem sk0_px{J:List Dat→Prop}:PX P gl0 b0 R0 0 1 63 F0 J (cl csk) skA skB0 skT (sk0.tr F0 4):=
 PX.tree (pins:=skpins) base0 (by decide) follows (cons:=[conIndex]) sk_cons (hcons:=[]) sk_hcons (cores:=[]) (fun _ _ _ h=>by cases h) (inv:=[]) (fun _ _=>hnil) (by kernel_rfl)
theorem sk2_px{J:List Dat→Prop}(hco:∀s,J s→∀q∈sk2c,¬@Holds (VL F0 s) q)(hinv:∀s,J s→@Holds (VL F0 s) sk2v):PX P gl0 b0 R0 0 1 63 F0 J (cl (cl (cl (cr csk)))) skB0 skB0 skT (sk2.tr F0 4):=
 PX.tree (pins:=skpins) base0 (by decide) follows (cons:=[conIndex]) sk_cons (hcons:=[]) sk_hcons (cores:=sk2c) hco (inv:=sk2v) hinv (by kernel_rfl)
def skB3:Tl:=⟨[(1,.sym .i64 (.dvar 3))],[(1024,.box [.vstr (.dvar 0),.sym .i64 (.dvar 1),.sym .i64 (.dvar 2)] 42)],1025⟩
theorem sk4_px{J:List Dat→Prop}:PX P gl0 b0 R0 0 1 63 F0 J (cr (cr csk)) skB3 skB3 skT (sk4.tr F0 4):=
 PX.tree (pins:=skpins) base0 (by decide) follows (cons:=[conIndex]) sk_cons (hcons:=[]) sk_hcons (cores:=[]) (fun _ _ _ h=>by cases h) (inv:=[]) (fun _ _=>hnil) (by kernel_rfl)
theorem sk_ini:dQ R0 1 [⟨1024,1024,0,0,0⟩] (aR skA.l) (ao b0 skA.o skA.nx) skA.l skA.o skA.nx=some skE0:=by kernel_rfl
def skZ:Tl:=⟨[(4,.sym .i64 (.ap 15 (.dvar 0) (.dvar 3) (.lit 0)))],[(1024,.box [.vstr (.dvar 0),.sym .i64 (.ap 16 (.dvar 0) (.dvar 3) (.lit 0)),.sym .i64 (.ap 17 (.dvar 0) (.dvar 3) (.dvar 2))] 42)],1025⟩
theorem sk_fin:dD R0 1 [⟨1024,1024,0,0,0⟩] [] (aR skT1.l) (ao b0 skT1.o skT1.nx) skZ.l skZ.o skZ.nx=some skE1:=by kernel_rfl
theorem sk_eq:csk=(.seq (cl csk) (.seq (.block 0 (.loop (cl (cl (cl (cr csk)))))) (cr (cr csk)))):=by kernel_rfl
def hcSkip:HCon:={f:=14,args:=[SP,SI 3],pre:=e0++[(lt (D 3) (I 0),false),(lt (ln (D 0)) (I 1000000000),true)],nr:=0,np:=1,ns:=0,locs:=[⟨none,[0]⟩],ins:=[(1024,sb0)],v:=.sym .i64 (A2 15 (D 0) (D 3)),outs:=[(1024,sbox (VS 0) (.sym .i64 (A2 16 (D 0) (D 3))) (.sym .i64 (.ap 17 (D 0) (D 3) (D 2))))],nx:=1025}
theorem sk_px:PX P gl0 b0 R0 0 1 63 F0 JSk csk skA skB3 skT (spSk F0):=by rw[sk_eq];exact PX.seq (J2:=JSk) (by decide) sk0_px (fun s hs _=>by obtain⟨d,e,ea,p,rfl,h⟩:=hs;exact⟨d,e,ea,p,rfl,h⟩) (PX.seq (J2:=fun _=>True) (by decide) (PX.block (PX.loopM (by decide) (sk2_px sk2_co sk2_inv) sk_mea) rfl) (fun _ _ _=>trivial) sk4_px)
theorem hcSkip_ok:hcSkip.Sound F0 P gl0 b0 R0:=by
 refine dq (fn:=Tryz.f14) (code:=csk) Tryz.func14 (by rfl) (by kernel_rfl) (by kernel_rfl) (by kernel_rfl) fun v hF hpre=> ?_;refine⟨.ret,skZ.l,_,_,.inl rfl,?_,by rfl,rfl⟩;have k0:(@Sx.dat v (D 1)).toI=0:=eqT' (hget hpre).1;have hpre:=(hget hpre).2;have k1:=ltF' (hget hpre).1;have hpre:=(hget hpre).2;have k2:=ltT' (hget hpre).1;rw[show(ln (D 0))=Sx.pr 0 (D 0) (.lit 0)from rfl,sLn]at k2;rw[sI]at k1 k2;have e3:@Sx.eval v (D 3)=(@Sx.dat v (D 3)).toI:=rfl;rw[e3]at k1;obtain⟨p,hp⟩:∃p:Nat,(@Sx.dat v (D 3)).toI=p:=⟨(@Sx.dat v (D 3)).toI.toNat,by omega⟩;obtain⟨d,hd⟩:∃d,d=@Sx.dat v (D 0):=⟨_,rfl⟩;obtain⟨ea,he⟩:∃ea,ea=(@Sx.dat v (D 2)).toI:=⟨_,rfl⟩;rw[←hd]at k2;have hl:d.toS.length<1000000000:=by omega
 obtain⟨e',p',hU⟩:=sk_all (p:=p) hl;obtain⟨ea',e⟩:=hU ea;obtain⟨ea0,e0⟩:=hU 0;have h:=PX.ret sk_px (s:=[d,.int 0,.int ea,.int p]) ⟨d,0,ea,p,rfl,by omega,hl⟩ (by rw[e]);have hz:Dat.int (Dat.int (p:Int)).toI=.int p:=rfl;have hq:∀(i:Nat),aJ (spSk F0 [d,.int 0,.int ea,.int p]).2 i=aJ [d,.int e',.int ea',.int p'] i:=fun i=>by rw[e]
 refine HT.pre (by decide) (aN (v:=v) (v':=VL F0 [d,.int 0,.int ea,.int p]) base0 sk_ini (eqs_cons (numI hp) (eqs_cons hd.symm (eqs_cons (numI k0) (eqs_cons (numI he.symm) eqs_nil)))))
  (HT.retell (by decide) h (aP (v':=v) base0 sk_fin ?_))
 refine eqs_cons (numI ?_) (eqs_cons (by rw[dAtL,hq,aL0];exact hd) (eqs_cons (numI ?_) (eqs_cons (numI ?_) eqs_nil)));{rw[dAtL,hq,aL3,vap hF hd,fb15,hp,F0_15,hz,e0];simp only[aL3,tI]};{rw[dAtL,hq,aL1,vap hF hd,fb16,hp,F0_16,hz,e0];simp only[aL1,tI]};rw[dAtL,vap hF hd,fb17,hp,F0_17,hz,←he,tI]
end
end Go.Proofs.YtkklcbfbjfhacaaGreatDoor
