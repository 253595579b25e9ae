/-
  A part of the law's proof over the abstract evaluator. Conditions: those of each theorem, as it states them.
-/
import Derived.Test.YtbfonficacphkaaGreatDoorL1
set_option linter.all false
set_option linter.all false
namespace Go.Tw.LX
noncomputable section
def SL(d:Dat)(L:List (List Dat))(e k:Int):List Dat:=[d,.lst L,.int e,.int k,.int 0,.int 0]
theorem Ch.len{d:Dat}{e:Nat}{l:List (List Dat)}(h:Ch d e l):e+l.length≤d.toS.length:=by
 induction h with
 |nil h g=>simpa using h
 |cons g h0 hc ht hz hb k ih=>simp only[List.length_cons];omega
theorem jd{L:List (List Dat)}{k:Nat}{r:List Dat}{l:List (List Dat)}(h:L.drop k=r::l)(i:Nat):(Dat.lst L).cell (k:Int) i=match r[i]? with
 |some c=>c
 |none=>.int 0:=by
 have e:L[k]? =some r:=by have:=congrArg (fun l=>l[0]?) h;simpa using this
 show(match(match(Dat.lst L).toL[(k:Int).toNat]? with
  |some r=>r
  |none=>[])[i]? with
  |some c=>c
  |none=>.int 0)=_
 rw[Int.toNat_natCast,show(Dat.lst L).toL=L from rfl,e]
end
end Go.Tw.LX
set_option linter.all false
namespace Go.Tw.LX
noncomputable section
theorem gq{F:Fn}{l:List Dat}{i:Nat}:@Sx.dat (VL F l) (D i)=aP l i:=rfl
theorem XA{d b c:Dat}:F0 13 d b c=.int (aP (ky0.tr F0 1 [d]).2 0).toI:=by rw[VG];unfold E4;rfl
theorem U4{l x y:Dat}(hl:l.toL.length<1000000001):∃(i:Int) (z:List Dat),yQ F0 [l,x,y]=(1,l::y:: .int i::z):=by
 unfold yQ;rw[aF (f:=ix0.tr F0 3) (s':=[l,y,x]) rfl];have hm:A7 (fun s=>∃i:Int,s=[l,y,x,.int i]∧0≤i) FB (ix3.tr F0 4):=fun s hs h0=>by obtain⟨i,rfl,h1⟩:=hs;have:=JW _ ⟨l,y,x,i,rfl,h1,hl⟩ h0;refine⟨?_,this.2⟩;obtain⟨⟨l',y',x',i',e,h2,_⟩,_⟩:=this;revert h0 e;simp only[ix3,aI,bO,ke,jX,sL,cm,tI,sI,OY,kJ,kH,dN,iP];split;{split;{intro h;cases h};intro _ e;injection e with _ e;injection e with _ e;injection e with _ e;injection e with e _;injection e with e;exact⟨_,rfl,by rw[e];exact h2⟩};intro h;cases h
 obtain⟨s',⟨i,rfl,h1⟩,h2,h3⟩:=lu hm (s:=[l,y,x,.int 0]) ⟨0,rfl,Int.le_refl _⟩;have e1:∃w z,gd (ix3.tr F0 4) FB [l,y,x,.int 0]=(w,l::y::z)∧(w=1∧(∃i z',z=.int i::z')∨w=2):=by rw[h3];revert h2;simp only[ix3,aI,bO,ke,jX,sL,cm,tI,sI,OY,kJ,kH,dN,iP,dI];split;{split;{intro _;exact⟨_,_,rfl,.inl ⟨rfl,_,_,rfl⟩⟩};intro h;exact absurd rfl h};intro _;exact⟨_,_,rfl,.inr rfl⟩
 obtain⟨w,z,e2,⟨rfl,i2,z',rfl⟩|rfl⟩:=e1
 ·have u:aG (ix1.tr F0 4) (jg 0 (gd (ix3.tr F0 4) FB)) [l,y,x]=(1,l::y:: .int i2::z'):=by
   rw[aF (f:=ix1.tr F0 4) (s':=[l,y,x,.int 0]) rfl];exact kK e2 (by simp)
  exact⟨i2,z',by rw[eI u (by simp)]⟩
 have u:aG (ix1.tr F0 4) (jg 0 (gd (ix3.tr F0 4) FB)) [l,y,x]=(0,l::y::z):=by rw[aF (f:=ix1.tr F0 4) (s':=[l,y,x,.int 0]) rfl];exact eO e2
 exact⟨-1,[],by rw[aF u];rfl⟩
theorem Ng(s:List Dat)(h:XS s):@Holds (VL F0 s) Sq:=by obtain⟨l,y,x,i,rfl,h1,h2⟩:=h;exact ak (qI (by show ¬i<0;omega)) aW
theorem JI(s:List Dat):∀q∈M9,¬@Holds (VL F0 s) q:=fun q hq h=>by
 simp only[M9,dB,fE,or_false]at hq;subst hq;have h1:=bU (aj h).1;have e:@Sx.eval (VL F0 s) (bg (.ap 1 (I 0) (I 0) (I 0)))=21:=by show(((F0 1 (.int 0) (.int 0) (.int 0)).toL.length:Nat):Int)=21;have:(F0 1 (.int 0) (.int 0) (.int 0)).toL.length=21:=(by kernel_rfl);rw[this];rfl
 rw[e,sI]at h1;omega
theorem LL(s:List Dat)(h:VY s):@Holds (VL F0 s) PZ:=by obtain⟨x,l,i,rfl,h1,h2⟩:=h;exact ak (qI (by show ¬i<0;omega)) aW
theorem P1(s:List Dat)(hs:VY s):∀q∈LJ,¬@Holds (VL F0 s) q:=fun q hq h=>by obtain⟨x,l,i,rfl,h1,h2⟩:=hs;simp only[LJ,dB,fE,or_false]at hq;rcases hq with rfl|rfl;{have k:=cD (aj h).1;rw[cQ,sI]at k;omega};have k:=cD (aj h).1;have k2:=bU (aj (aj h).2).1;simp only[jX,uR,sL,kJ,tI]at k k2;omega
theorem Mh(s:List Dat)(h:VZ s):@Holds (VL F0 s) QM:=by obtain⟨d,e,ea,p,t,rfl,h1,h2,h3,h4⟩:=h;exact ak (qI (by show ¬t<0;omega)) aW
theorem Mg(s:List Dat)(h:VZ s):@Holds (VL F0 s) QK:=by obtain⟨d,e,ea,p,t,rfl,h1,h2,h3,h4⟩:=h;exact ak (qI (by show ¬p<0;omega)) (ak (qI (by show ¬t<p;omega)) (ak (qI (by show ¬(d.toS.length:Int)<t;omega)) aW))
end
end Go.Tw.LX
set_option linter.all false
namespace Go.Tw.LX
noncomputable section
theorem Tj{sp:ST}{F:Fn}{m i:Nat}{s:List Dat}(h:i<m):aP (sp.tr F m s).2 i=sp.val (VL F s) (i+1):=RD h
def Yo(s:List Dat):Prop:=2≤(aP s 1).toI∧(aP s 1).toI≤36∧1≤(aP s 2).toI∧(aP s 2).toI≤64
def YT:bo:=[((lt (D 1) (I 2)),false),((lt (I 36) (D 1)),false),((lt (D 2) (I 1)),false),((lt (I 64) (D 2)),false)]
theorem jv(s:List Dat)(h:Yo s):@Holds (VL F0 s) YT:=by obtain⟨h1,h2,h3,h4⟩:=h;exact ak (qI (by show ¬(aP s 1).toI<2;omega)) (ak (qI (by show ¬36<(aP s 1).toI;omega)) (ak (qI (by show ¬(aP s 2).toI<1;omega)) (ak (qI (by show ¬64<(aP s 2).toI;omega)) aW)))
def K0(s:List Dat):Prop:=Yo s∧(aP s 0).toS.length<1000000000
def K3(s:List Dat):Prop:=K0 s∧(aP s 3).toI=0
def K7(s:List Dat):Prop:=K3 s∧(aP s 7).toI=0
theorem nz{x:Dat}(h:x.toI=0):dW (x.toI != 0)=0:=by rw[h];rfl
theorem A5{F:Fn}{s:List Dat}{i:Nat}:@Sx.eval (VL F s) (D i)=(aP s i).toI:=rfl
theorem I8(s:List Dat)(hs:K0 s)(h:(pi1.tr F0 3 s).1=0):K0 (pi1.tr F0 3 s).2:=by revert h;simp only[pi1,aI];split;{intro h;cases h};intro _;exact hs
theorem I7(s:List Dat)(hs:K0 s):K3 (pi2.tr F0 4 s).2:=by simp only[pi2,aI,bV,A5,sI];rw[if_neg (by have:=hs.1.1;omega)];exact⟨hs,rfl⟩
theorem I6(s:List Dat)(hs:K3 s):K3 (pi3.tr F0 5 s).2:=⟨hs.1,nz hs.2⟩
theorem I4(s:List Dat)(hs:K3 s):K3 (pi4.tr F0 5 s).2:=by simp only[pi4,aI,bO,A5,sI];rw[if_pos (by have:=hs.1.1.2.1;omega)];exact⟨hs.1,nz hs.2⟩
theorem I5(s:List Dat):∀q∈Mr,¬@Holds (VL F0 s) q:=fun q hq h=>by simp only[Mr,dB,fE,or_false]at hq;subst hq;have h1:=bU (aj h).1;have h2:=bU (aj (aj h).2).1;rw[sI,A5]at h1 h2;omega
theorem I3(s:List Dat):∀q∈Mq,¬@Holds (VL F0 s) q:=fun q hq h=>by simp only[Mq,dB,fE,or_false]at hq;rcases hq with rfl|rfl|rfl;{have h1:=bU (aj h).1;have h2:=mP (aj (aj h).2).1;rw[sI,A5]at h1 h2;omega};{have h1:=bU (aj h).1;have h2:=cD (aj (aj h).2).1;rw[sI,A5]at h1 h2;omega};have h1:=bU (aj h).1;have h2:=bU (aj (aj h).2).1;rw[sI,A5]at h1 h2;omega
theorem I2(s:List Dat)(hs:K3 s):K3 (pi5.tr F0 5 s).2:=by have h3:=hs.1.1.2.2.1;have h4:=hs.1.1.2.2.2;simp only[pi5,aI,bO,bV,A5,sI];rw[if_neg (by omega),if_neg (by omega),if_pos (by omega)];exact⟨hs.1,nz hs.2⟩
theorem I1(s:List Dat)(hs:K3 s):K3 (pi6.tr F0 5 s).2:=⟨hs.1,nz hs.2⟩
theorem GL{n:Int}(h1:0≤n)(h2:n≤64):cG .u64 n=n:=by
 obtain⟨k,rfl⟩:∃k:Nat,n=k:=⟨n.toNat,by omega⟩;have:k<65:=by omega
 revert k;intro k _ _ hk
 match k,hk with
 |0,_=>rfl|1,_=>rfl|2,_=>rfl|3,_=>rfl|4,_=>rfl|5,_=>rfl|6,_=>rfl|7,_=>rfl|8,_=>rfl|9,_=>rfl
 |10,_=>rfl|11,_=>rfl|12,_=>rfl|13,_=>rfl|14,_=>rfl|15,_=>rfl|16,_=>rfl|17,_=>rfl|18,_=>rfl|19,_=>rfl
 |20,_=>rfl|21,_=>rfl|22,_=>rfl|23,_=>rfl|24,_=>rfl|25,_=>rfl|26,_=>rfl|27,_=>rfl|28,_=>rfl|29,_=>rfl
 |30,_=>rfl|31,_=>rfl|32,_=>rfl|33,_=>rfl|34,_=>rfl|35,_=>rfl|36,_=>rfl|37,_=>rfl|38,_=>rfl|39,_=>rfl
 |40,_=>rfl|41,_=>rfl|42,_=>rfl|43,_=>rfl|44,_=>rfl|45,_=>rfl|46,_=>rfl|47,_=>rfl|48,_=>rfl|49,_=>rfl
 |50,_=>rfl|51,_=>rfl|52,_=>rfl|53,_=>rfl|54,_=>rfl|55,_=>rfl|56,_=>rfl|57,_=>rfl|58,_=>rfl|59,_=>rfl
 |60,_=>rfl|61,_=>rfl|62,_=>rfl|63,_=>rfl|64,_=>rfl
theorem Wx{F:Fn}{s:List Dat}{i:Nat}:@Sx.eval (VL F s) (.wrap .u64 (.dvar i))=cG .u64 (aP s i).toI:=rfl
theorem B0(s:List Dat)(hs:K3 s):∀q∈Mp,¬@Holds (VL F0 s) q:=fun q hq h=>by simp only[Mp,dB,fE,or_false]at hq;subst hq;have h3:=mP (aj (aj (aj h).2).2).1;obtain⟨⟨⟨h1,h2,_⟩,_⟩,_⟩:=hs;rw[sI,Wx,GL (by omega) (by omega)]at h3;omega
theorem xe(s:List Dat)(hs:K3 s):∀q∈IY,¬@Holds (VL F0 s) q:=fun q hq h=>by simp only[IY,dB,fE,or_false]at hq;subst hq;have h3:=cD (aj h).1;obtain⟨⟨⟨_,_,h1,h2⟩,_⟩,_⟩:=hs;rw[sI,Wx,GL (by omega) (by omega)]at h3;omega
theorem I0(s:List Dat)(hs:K3 s):K3 (pi7.tr F0 6 s).2:=by simp only[pi7,aI];split;{exact⟨hs.1,nz hs.2⟩};split;{exact⟨hs.1,nz hs.2⟩};split;{rename_i h;have h3:=mP h;have h1:=hs.1.1.1;have h2:=hs.1.1.2.1;rw[sI,Wx,GL (by omega) (by omega)]at h3;omega};exact⟨hs.1,nz hs.2⟩
theorem IZ(s:List Dat)(hs:K3 s):K3 (pi8.tr F0 7 s).2:=by simp only[pi8,aI];split;{rename_i h;exact absurd (show @Holds (VL F0 s) _ from ak h aW) (xe s hs _ (by simp only[IY,dB,true_or]))};exact⟨hs.1,nz hs.2⟩
theorem IX(s:List Dat)(hs:K3 s):K7 (pi9.tr F0 8 s).2:=⟨⟨hs.1,nz hs.2⟩,rfl⟩
theorem B1(s:List Dat)(hs:K7 s):K7 (pi10.tr F0 9 s).2:=⟨⟨hs.1.1,nz hs.1.2⟩,nz hs.2⟩
def KZ(s:List Dat):Prop:=(aP s 2).toI=0∧(aP s 6).toI=0∧(aP s 9).toI=((aP s 8).toL.length:Int)∧0≤(aP s 10).toI∧(aP s 8).toL.length<1000000000
theorem o5(s:List Dat)(hs:K7 s):KZ (pi11.tr F0 11 s).2:=by
 refine⟨nz hs.1.2,nz hs.2,rfl,Int.le_refl _,?_⟩;show(fT (aP s 0).toS).length<_;have:(fT (aP s 0).toS).length=(aP s 0).toS.length:=by unfold fT;exact List.length_map ..
 rw[this];exact hs.1.1.2
theorem jI(s:List Dat)(hs:KZ s):@Holds (VL F0 s) sW:=ak (qI (by rw[A5,sI];have:=hs.2.2.2.1;omega)) aW
theorem lT(s:List Dat)(hs:KZ s):∀q∈zy,¬@Holds (VL F0 s) q:=fun q hq h=>by simp only[zy,dB,fE,or_false]at hq;rcases hq with rfl|rfl|rfl;{have h1:=mP (aj h).1;have h2:=cD (aj (aj h).2).1;rw[sI]at h1 h2;omega};{have h1:=mP (aj h).1;have h2:=cD (aj (aj h).2).1;rw[sI]at h1 h2;omega};have h1:=cD (aj h).1;have h2:=bU (aj (aj h).2).1;rw[A5,A5,hs.2.2.1]at h1;rw[A5,sL,gq]at h2;omega
def X3(p:bo)(xs:List Sx):Bool:=(kG xs 2).same (.pr 21 (D 2) (I 0))&&((match eW p (eq (D 2) (I 0))with
 |some false=>true
 |_=>(kG xs 6).same (.pr 21 (D 6) (I 0)))&&((kG xs 8).same (D 8)&&((kG xs 9).same (N (D 9))&&((kG xs 10).same (N (.bin .add .i64 (D 10) (I 1)))&&(match eW p (lt (D 10) (D 9))with
 |some true=>true
 |_=>false)))))
theorem Ro:pi13.leafs 0 X3 sW=true:=by kernel_rfl
theorem sY:pi13.deadsOk zy sW=true:=by kernel_rfl
theorem DH:pi13.flsX [0,1,5]=true:=by kernel_rfl
def WM(_:bo)(xs:List Sx):Bool:=(kG xs 2).same (.pr 21 (D 6) (I 0))
theorem Mt:pi13.leafs 5 WM sW=true:=by kernel_rfl
def Uo(_:bo)(xs:List Sx):Bool:=(kG xs 1).same (I 0)||(kG xs 1).same (I 1)||(kG xs 1).same (I 2)
theorem Mu:pi13.leafs 1 Uo sW=true:=by kernel_rfl
theorem oZ{s:List Dat}(hs:KZ s){w:Nat}(h:(pi13.tr F0 11 s).1=w):pi13.flg F0 s=(w:Int):=by obtain⟨k,hk⟩:=xr (F:=F0) (s:=s) (show pi13.natF=true by kernel_rfl);have h:(pi13.flg F0 s).toNat=w:=h;rw[hk]at h⊢;omega
theorem EH{xs:List Sx}{v:Val}{w:Int}{i:Nat}{x:Sx}(h:(kG xs i).same x=true)(hx:∀n:Int,x≠.lit n):(ST.leaf (.lit w::xs)).val v (i+1)=@Sx.dat v x:=by
 have e:=Sx.same_eq h;rw[nK]at e;show(match xs[i]? with
  |some e=>@Sx.dat v e
  |none=>.int 0)=_
 cases hi:xs[i]? with
 |none=>rw[hi]at e;exact absurd e.symm (hx 0)
 |some y=>rw[hi]at e;have e:y=x:=e;rw[e]
theorem xd:A7 KZ FA (pi13.tr F0 11):=fun s hs h0=>by
 obtain⟨p',xs,q1,q2,q3⟩:=lB (fun q hq=>lT s hs q hq) sY Ro (jI s hs) (oZ hs h0);simp only[X3,al]at q1;obtain⟨c2,c6,c8,c9,c10,cp⟩:=q1;have hlt:(aP s 10).toI<(aP s 9).toI:=by split at cp;{rename_i hd;have:=cD (@fX (VL F0 s) _ q2 _ _ hd);rwa[A5,A5]at this};cases cp
 obtain⟨j2,j6,j9,j10,j8⟩:=hs;have e2:aP (pi13.tr F0 11 s).2 2=.int (dW ((aP s 2).toI != 0)):=by rw[Tj (by omega),q3,EH c2 (by intro n h;cases h)];rfl
 have e8:aP (pi13.tr F0 11 s).2 8=aP s 8:=by rw[Tj (by omega),q3,EH c8 (by intro n h;cases h)];rfl
 have e9:aP (pi13.tr F0 11 s).2 9=.int (aP s 9).toI:=by rw[Tj (by omega),q3,EH c9 (by intro n h;cases h)];rfl
 have e10:aP (pi13.tr F0 11 s).2 10=.int (bu .add .i64 (aP s 10).toI 1):=by rw[Tj (by omega),q3,EH c10 (by intro n h;cases h)];rfl
 have e6:(aP (pi13.tr F0 11 s).2 6).toI=0:=by split at c6;{rename_i hd;have:=Ao (@fX (VL F0 s) _ q2 _ _ hd);rw[A5,sI]at this;exact absurd j2 this};rw[Tj (by omega),q3,EH c6 (by intro n h;cases h)];exact nz j6
 rw[bG (by omega) (by omega)]at e10;refine⟨⟨by rw[e2];exact nz j2,e6,by rw[e9,e8];exact j9,by rw[e10];show 0≤(aP s 10).toI+1;omega,by rw[e8];exact j8⟩,?_⟩;unfold FA;rw[e9,e10];show(aP s 9).toI.toNat - ((aP s 10).toI+1).toNat<_;omega
def Vv(s:List Dat):Prop:=(aP s 2).toI=0
theorem zx(s:List Dat)(hs:Vv s):@Holds (VL F0 s) I9:=ak (SS hs) aW
theorem sX(s:List Dat)(hs:KZ s)(h:(jg 3 (gd (pi13.tr F0 11) FA) s).1=0):Vv (jg 3 (gd (pi13.tr F0 11) FA) s).2:=by obtain⟨s',h1,h2,h3⟩:=lu xd hs;unfold jg at h⊢;rw[h3]at h⊢;by_cases hx:(pi13.tr F0 11 s').1=3+2;{rw[if_pos hx];obtain⟨p',xs,q1,q2,q3⟩:=lB (fun q hq=>lT s' h1 q hq) sY Mt (jI s' h1) (oZ h1 hx);show(aP (pi13.tr F0 11 s').2 2).toI=0;rw[Tj (by omega),q3,EH q1 (by intro n h;cases h)];exact nz h1.2.1};rw[if_neg hx]at h;exact absurd h h2
theorem IU:Ew K0 [1] (mZ F0):=by
 unfold mZ;have ho:∀{J:List Dat→Prop} {sp:ST} {m:Nat},sp.fls [0]=true→Ew J (0::[1]) (sp.tr F0 m):=fun{J sp m} h s _=>by have:=rn (F:=F0) (m:=m) h s;rw[oC]at this;rw[this];exact List.mem_cons_self ..
 refine eF (J2:=K0) (ho (by kernel_rfl)) (fun s hs _=>hs) (eF (J2:=K0) (dw (cores:=[]) (inv:=[]) (fun _ _ _ h=>by cases h) (fun _ _=>aW) (by kernel_rfl) (by kernel_rfl)) I8
  (eF (J2:=K3) (dw (cores:=[]) (inv:=[]) (fun _ _ _ h=>by cases h) (fun _ _=>aW) (by kernel_rfl) (by kernel_rfl)) (fun s hs _=>I7 s hs)
  (eF (J2:=K3) (ho (by kernel_rfl)) (fun s hs _=>I6 s hs) (eF (J2:=K3) (dw (fun s _=>I5 s) (fun s hs=>jv s hs.1.1) (by kernel_rfl) (by kernel_rfl)) (fun s hs _=>I4 s hs)
  (eF (J2:=K3) (dw (fun s _=>I3 s) (fun s hs=>jv s hs.1.1) (by kernel_rfl) (by kernel_rfl)) (fun s hs _=>I2 s hs) (eF (J2:=K3) (ho (by kernel_rfl)) (fun s hs _=>I1 s hs)
  (eF (J2:=K3) (dw B0 (fun s hs=>jv s hs.1.1) (by kernel_rfl) (by kernel_rfl)) (fun s hs _=>I0 s hs) (eF (J2:=K3) (dw (inv:=[]) xe (fun _ _=>aW) (by kernel_rfl) (by kernel_rfl)) (fun s hs _=>IZ s hs)
  (eF (J2:=K7) (ho (by kernel_rfl)) (fun s hs _=>IX s hs) (eF (J2:=K7) (ho (by kernel_rfl)) (fun s hs _=>B1 s hs) ?_))))))))))
 have hlp:Ew KZ (0::[1]) (jg 3 (gd (pi13.tr F0 11) FA)):=F8 (l:=[0,1]) (F7 (l:=[5,0,1]) xd (Ah (dw lT jI sY DH) (fun _ h=>h) (by decide))) (by decide);exact eF (J2:=Vv) (eF (J2:=KZ) (Ah (J:=K7) (l:=[0,1]) (ho (by kernel_rfl)) (fun _ h=>h) (by decide)) (fun s hs _=>o5 s hs) hlp) (fun s hs h=>by unfold aG at h⊢;have e:(pi11.tr F0 11 s).1=0:=rfl;rw[if_pos e]at h⊢;exact sX _ (o5 s hs) h) (dw (cores:=[]) (fun _ _ _ h=>by cases h) zx (by kernel_rfl) (by kernel_rfl))
end
end Go.Tw.LX
set_option linter.all false
namespace Go.Tw.LX
noncomputable section
def KY(J Q:List Dat→Prop)(f:gw):Prop:=∀s,J s→(f s).1≠0→Q (f s).2
theorem ew{J J2 Q:List Dat→Prop}{f g:gw}(h1:KY J Q f)(hJ:∀s,J s→(f s).1=0→J2 (f s).2)(h2:KY J2 Q g):KY J Q (aG f g):=fun s hs h=>by unfold aG at h⊢;by_cases h0:(f s).1=0;{rw[if_pos h0]at h⊢;exact h2 _ (hJ s hs h0) h};rw[if_neg h0]at h⊢;exact h1 s hs h0
theorem mD{J Q:List Dat→Prop}{sp:ST}{m:Nat}(h:sp.fls [0]=true):KY J Q (sp.tr F0 m):=fun s _ h0=>by have:=rn (F:=F0) (m:=m) h s;rw[oC]at this;exact absurd this h0
def QE(s:List Dat):Prop:=aP s 1=.int 0∨aP s 1=.int 1∨aP s 1=.int 2
theorem UE(s:List Dat)(hs:K3 s):(pi4.tr F0 5 s).1=0:=by simp only[pi4,aI,bO,A5,sI];rw[if_pos (by have:=hs.1.1.2.1;omega)];rfl
theorem UC(s:List Dat)(hs:K3 s):(pi5.tr F0 5 s).1=0:=by have h3:=hs.1.1.2.2.1;have h4:=hs.1.1.2.2.2;simp only[pi5,aI,bO,bV,A5,sI];rw[if_neg (by omega),if_neg (by omega),if_pos (by omega)];rfl
theorem IT:KY K0 QE (mZ F0):=by
 unfold mZ;refine ew (J2:=K0) (mD (by kernel_rfl)) (fun s hs _=>hs) (ew (J2:=K0) (fun s hs h=> ?_) I8 (ew (J2:=K3) (mD (by kernel_rfl)) (fun s hs _=>I7 s hs) (ew (J2:=K3) (mD (by kernel_rfl)) (fun s hs _=>I6 s hs)
  (ew (J2:=K3) (fun s hs h=>absurd (UE s hs) h) (fun s hs _=>I4 s hs) (ew (J2:=K3) (fun s hs h=>absurd (UC s hs) h) (fun s hs _=>I2 s hs) (ew (J2:=K3) (mD (by kernel_rfl)) (fun s hs _=>I1 s hs)
  (ew (J2:=K3) (fun s hs h=> ?_) (fun s hs _=>I0 s hs) (ew (J2:=K3) (fun s hs h=> ?_) (fun s hs _=>IZ s hs) (ew (J2:=K7) (mD (by kernel_rfl)) (fun s hs _=>IX s hs)
  (ew (J2:=K7) (mD (by kernel_rfl)) (fun s hs _=>B1 s hs) (ew (J2:=Vv) (ew (J2:=KZ) (mD (by kernel_rfl)) (fun s hs _=>o5 s hs) (fun s hs h=> ?_)) (fun s hs h=> ?_) (fun s hs h=>.inl rfl))))))))))))
 {revert h;simp only[pi1,aI];split;{intro _;exact .inr (.inr rfl)};intro h;exact absurd rfl h};{have:=dw (J:=K3) (sp:=pi7) (m:=6) (l:=[0]) B0 (fun s hs=>jv s hs.1.1) (by kernel_rfl) (by kernel_rfl) s hs;rw[oC]at this;exact absurd this h};·have:=dw (J:=K3) (sp:=pi8) (m:=7) (l:=[0]) (inv:=[]) xe (fun _ _=>aW) (by kernel_rfl) (by kernel_rfl) s hs;rw[oC]at this;exact absurd this h
 ·obtain⟨s',h1,h2,h3⟩:=lu xd hs;unfold jg at h⊢;rw[h3]at h⊢;by_cases hx:(pi13.tr F0 11 s').1=3+2;{rw[if_pos hx]at h;exact absurd rfl h};rw[if_neg hx];have hfl:=dw (J:=KZ) (sp:=pi13) (m:=11) lT jI sY DH s' h1;have hx1:(pi13.tr F0 11 s').1=1:=by
   simp only[dB,fE,or_false]at hfl;omega
  obtain⟨p',xs,q1,q2,q3⟩:=lB (fun q hq=>lT s' h1 q hq) sY Mu (jI s' h1) (oZ h1 hx1);have ex:aP (pi13.tr F0 11 s').2 1=(ST.leaf (.lit ((1:Nat):Int)::xs)).val (VL F0 s') 2:=(by rw[Tj (by omega),q3]);unfold QE;rw[ex];have key:∀n:Int,(kG xs 1).same (I n)=true→(ST.leaf (.lit ((1:Nat):Int)::xs)).val (VL F0 s') 2=.int n:=fun n hn=>by
   have e:=Sx.same_eq hn;rw[nK]at e;show(match xs[1]? with
    |some e=>@Sx.dat (VL F0 s') e
    |none=>.int 0)=_
   cases hi:xs[1]? with
   |none=>rw[hi]at e;have e:Sx.lit 0=Sx.lit n:=e;injection e with e;show Dat.int 0=.int n;rw[e]
   |some y=>rw[hi]at e;have e:y=I n:=e;rw[e];rfl
  simp only[Uo,dH]at q1;rcases q1 with(q1|q1)|q1;{exact .inl (key _ q1)};{exact .inr (.inl (key _ q1))};exact .inr (.inr (key _ q1))
 unfold aG at h⊢;have e:(pi11.tr F0 11 s).1=0:=rfl;rw[if_pos e]at h⊢;exact sX _ (o5 s hs) h
theorem Kj{a b c:Dat}(h:K0 [a,.int b.toI,.int c.toI]):(F0 0 a b c).toI=0∨(F0 0 a b c).toI=1∨(F0 0 a b c).toI=2:=by rw[VI,tI];rcases IT _ h (by rw[rq IU h];simp)with k|k|k<;>rw[k];{exact .inl rfl};{exact .inr (.inl rfl)};exact .inr (.inr rfl)
theorem Rc{s:List Dat}(h:K0 s):aP (mZ F0 s).2 1=.int (aP (mZ F0 s).2 1).toI:=by rcases IT _ h (by rw[rq IU h];simp)with k|k|k<;>rw[k]<;>rfl
theorem BX{d b k:Dat}(h:K0 [d,.int b.toI,.int k.toI]):∀q∈Fo,¬@Holds (VL F0 [d,.int b.toI,.int k.toI]) q:=fun q hq hh=>by simp only[Fo,dB,fE,or_false]at hq;subst hq;have h1:=Ao (aj hh).1;have h2:=Ao (aj (aj hh).2).1;have h3:=Ao (aj (aj (aj hh).2).2).1;have hc:=Kj (a:=d) (b:=.int b.toI) (c:=.int k.toI) h;rw[iQ,cm,kJ,kH,sI]at h1 h2 h3;omega
theorem Pj{d:Dat}(hl:d.toS.length<1000000000):∀q∈Ly,¬@Holds (VL F0 [d]) q:=fun q hq h=>by
 have h2:(List.drop (Int.toNat 2) d.toS).length≤d.toS.length:=by rw[List.length_drop];omega
 have key:∀(q:UInt8→Bool) (l:List UInt8),l.length<1000000000→bu .sub .i64 (l.length:Int) ((l.dropWhile q).length:Int)=((l.length - (l.dropWhile q).length:Nat):Int):=fun q l h=>by have:=Ks q l;rw[oG (by omega) (by omega)];omega
 simp only[Ly,dB,fE,or_false]at hq;rcases hq with rfl|rfl|rfl|rfl|rfl|rfl|rfl|rfl|rfl;all_goals
  first
  |(have k:=cD (aj h).1
    simp only[cQ,sI,cm,iP,lZ,Kx,Tp,tS,dg]at k;simp only[key _ d.toS hl,key _ (List.drop (Int.toNat 2) d.toS) (by omega)]at k;omega)
  |(have k:=bU (aj h).1
    simp only[cQ,sI,cm,dg,tS]at k;omega)
  |(have k:=bU (aj h).1
    have k2:=bU (aj (aj h).2).1;simp only[cQ,sI,cm]at k k2;omega)
theorem SQ{d:Dat}:∀q∈Nt,¬@Holds (VL F0 [d]) q:=fun q hq h=>by
 simp only[Nt,dB,fE,or_false]at hq;rcases hq with rfl|rfl|rfl|rfl;{have k:=bU (aj h).1;simp only[cQ,sI,cm,dg,fy,tS,List.length_drop,List.length_take,show Int.toNat 2=2 from rfl,show Int.toNat 4=4 from rfl]at k;omega};all_goals
  have k:=bU (aj h).1;have k2:=bU (aj (aj h).2).1;simp only[cQ,sI,cm]at k k2;omega
end
end Go.Tw.LX
set_option linter.all false
namespace Go.Tw.LX
noncomputable section
theorem Xw{d b c:Dat}:F0 26 d b c=F0 26 d (.int b.toI) c:=by rw[Lf,Lf];rfl
theorem Xv{d b c:Dat}:F0 27 d b c=F0 27 d (.int b.toI) c:=by rw[Le,Le];rfl
theorem Xu{d b c:Dat}:F0 28 d b c=F0 28 d (.int b.toI) c:=by rw[Ld,Ld];rfl
theorem Xt{d b c:Dat}:F0 31 d b c=F0 31 d (.int b.toI) c:=by rw[Lc,Lc];rfl
theorem Xs{d b c:Dat}:F0 32 d b c=F0 32 d (.int b.toI) c:=by rw[Lb,Lb];rfl
theorem Xr{d b c:Dat}:F0 34 d b c=F0 34 d (.int b.toI) c:=by rw[La,La];rfl
theorem Xq{d b c:Dat}:F0 35 d b c=F0 35 d (.int b.toI) c:=by rw[K9,K9];rfl
theorem Xp{d b c:Dat}:F0 38 d b c=F0 38 d (.int b.toI) c:=by rw[K8,K8];rfl
theorem Xo{d b c:Dat}:F0 39 d b c=F0 39 d (.int b.toI) c:=by rw[EF,EF];rfl
theorem Xn{d b c:Dat}:F0 41 d b c=F0 41 d (.int b.toI) c:=by rw[K6,K6];rfl
theorem Xm{d b c:Dat}:F0 42 d b c=F0 42 d (.int b.toI) c:=by rw[K4,K4];rfl
theorem Xl{d b c:Dat}:F0 43 d b c=F0 43 d (.int b.toI) c:=by rw[K2,K2];rfl
theorem Xk{d b c:Dat}:F0 45 d b c=F0 45 d (.int b.toI) c:=by rw[K1,K1];rfl
theorem Xj{d b c:Dat}:F0 46 d b c=F0 46 d (.int b.toI) c:=by rw[EE,EE];rfl
theorem Xi{d b c:Dat}:F0 47 d b c=F0 47 d (.int b.toI) c:=by rw[ED,ED];rfl
theorem Xh{d b c:Dat}:F0 48 d b c=F0 48 d (.int b.toI) c:=by rw[AZ,AZ];rfl
theorem Xg{d b c:Dat}:F0 50 d b c=F0 50 d (.int b.toI) c:=by rw[EC,EC];rfl
theorem Xf{d b c:Dat}:F0 51 d b c=F0 51 d (.int b.toI) c:=by rw[EA,EA];rfl
theorem Xe{d b c:Dat}:F0 52 d b c=F0 52 d (.int b.toI) c:=by rw[ug,ug];rfl
theorem Xd{d b c:Dat}:F0 53 d b c=F0 53 d (.int b.toI) c:=by rw[AY,AY];rfl
theorem Xz{d b c:Dat}:F0 15 d b c=F0 15 d (.int b.toI) c:=by rw[wa,wa];rfl
theorem Xy{d b c:Dat}:F0 16 d b c=F0 16 d (.int b.toI) c:=by rw[v8,v8];rfl
theorem Xx{d b c:Dat}:F0 17 d b c=F0 17 d (.int b.toI) c:=by rw[v7,v7];rfl
theorem wj{d:Dat}{ea:Int}{p:Nat}(hl:d.toS.length<1000000000)(h1:p<d.toS.length){l:bo}(h:@Holds (VL F0 [d,.int 0,.int ea,.int p]) l):
 @Holds (VL F0 [d,.int 0,.int ea,.int p]) ([((eq (D 1) (I 0)),true),((lt (D 3) (I 0)),false),((lt (D 3) (.pr 0 (D 0) (I 0))),true),((lt (.pr 0 (D 0) (I 0)) (I 1000000000)),true)]++l):=
 ak (SS (by rw[qD,sI,tI])) (ak (qI (by rw[jX,sI,tI];omega)) (ak (DU (by rw[jX,cQ,cm,tI];omega)) (ak (DU (by rw[cQ,sI,cm];omega)) h)))
theorem PN{d:Dat}{ea:Int}{p:Nat}(hl:d.toS.length<1000000000)(h1:p<d.toS.length):∀q∈LH,¬@Holds (VL F0 [d,.int 0,.int ea,.int p]) q:=fun q hq h=>by
 have hle:=r9 (d.toS.drop p);rw[List.length_drop]at hle;have hs:d.toS.drop (p:Int).toNat=d.toS.drop p:=by rw[Int.toNat_natCast]
 have ha:bu .add .i64 (p:Int) (gO (d.toS.drop p):Int)=(p:Int)+(gO (d.toS.drop p):Int):=bG (by omega) (by omega);simp only[LH,dB,fE,or_false]at hq;rcases hq with rfl|rfl|rfl|rfl;{have k2:=cD (aj (aj h).2).1;rw[cQ,jX,cm,tI]at k2;omega};{have k:=cD (aj h).1;simp only[iQ,lZ,cm,fA,dI,sI,cQ,tI,tS,jX,dg,f14,hs,iP,ha]at k;omega};{have k:=cD (aj (aj (aj h).2).2).1;simp only[iQ,lZ,cm,fA,dI,sI,cQ,tI,tS,jX,dg,f14,hs,iP,ha]at k;omega};have k:=cD (aj (aj (aj h).2).2).1;simp only[iQ,lZ,cm,fA,dI,sI,cQ,tI,tS,jX,dg,f14,hs,iP,ha]at k;omega
theorem RL{d:Dat}{ea:Int}{p:Nat}(hl:d.toS.length<1000000000)(h1:p<d.toS.length)(h2:1≤((d.toS.drop p).takeWhile bD).length):∀q∈MI,¬@Holds (VL F0 [d,.int 0,.int ea,.int p]) q:=fun q hq h=>by
 obtain⟨r,hr⟩:∃r,r=(d.toS.drop p).takeWhile bD:=⟨_,rfl⟩;rw[←hr]at h2;have h23:∀c,F0 23 d (.int (p:Int)) c=.str r:=fun c=>by rw[hr];exact f23 (by omega) hl rfl
 have hlr:r.length≤d.toS.length:=by have:=oF bD (d.toS.drop p);rw[←hr,List.length_drop]at this;omega
 obtain⟨a1,a2,a3,a4,a5⟩:=zG (r:=r) (by omega) h2 (by rw[hr];exact Bc _ _);have t22:∀x y,F0 22 (.str r) x y=Lh r:=fun x y=>F0_22.trans F0_22.symm;have t21:∀x y,F0 21 (.str r) x y=MH r:=fun x y=>F0_21.trans F0_21.symm;have t20:∀x y,F0 20 (.str r) x y=N9 r:=fun x y=>F0_20.trans F0_20.symm;simp only[MI,dB,fE,or_false]at hq;rcases hq with rfl|rfl|rfl|rfl|rfl|rfl|rfl;{have k:=cD (aj h).1;simp only[iQ,lZ,cm,fA,dI,sI,cQ,tI,tS,h23]at k;omega};{have k:=cD (aj h).1;simp only[iQ,lZ,cm,fA,dI,sI,cQ,tI,tS,h23,t20]at k;omega};{have k:=cD (aj h).1;simp only[iQ,lZ,cm,fA,dI,sI,cQ,tI,tS,h23,t20]at k;omega};{have k:=bU (aj h).1;simp only[iQ,lZ,cm,fA,dI,sI,cQ,tI,tS,h23,t21]at k;omega};{have k:=Ao (aj h).1;simp only[iQ,lZ,cm,fA,dI,sI,cQ,tI,tS,h23,t22,a5]at k;exact k trivial};{have k:=bU (aj h).1;simp only[iQ,lZ,cm,fA,dI,sI,cQ,tI,tS,h23,t22]at k;omega};have k:=bU (aj h).1;simp only[iQ,lZ,cm,fA,dI,sI,cQ,tI,tS,h23]at k;omega
end
end Go.Tw.LX
set_option linter.all false
namespace Go.Tw.LX
noncomputable section
theorem QR{d:Dat}{p q:Int}(hp:0≤p)(hp2:p<d.toS.length)(hl:d.toS.length<1000000000):∀(m t:Nat) (rows:List (List Dat)) (y:Int),d.toS.length - t≤m→t≤d.toS.length→rows.length≤t→p<t→
 ∃(T:Nat) (L:List (List Dat)) (y':Int),(p<T∧T≤d.toS.length∧∀ea,gd (qu5.tr F0 14) uq (ep d ea p rows y q t)=(2,ep d ea p L y' q T))∨
  (∀ea,gd (qu5.tr F0 14) uq (ep d ea p rows y q t)=(1,[d,.int 10,.int T,.int 5,.int p,.int 0,.int 0,.lst L,.int y',.int 0,.int 0,.int 0,.int 0,.int 0])):=by
 intro m
 induction m with
 |zero=>intro t rows y hm ht hr hpt;refine⟨t,rows,y,.inl ⟨hpt,ht,fun ea=> ?_⟩⟩;have e:=nD (d:=d) (ea:=ea) (p:=p) (y:=y) (q:=q) (t:=t) (rows:=rows) (fun h=>by omega);rw[cA (by rw[e];simp),e]
 |succ m ih=>
  intro t rows y hm ht hr hpt;by_cases h:(t:Int)<d.toS.length∧cJ d.toS (t:Int).toNat≠q
  ·cases hq:IK (d.toS.drop (t:Int).toNat)with
   |none=>refine⟨t,rows,y,.inr fun ea=> ?_⟩;have e:=DF (d:=d) (ea:=ea) (p:=p) (y:=y) (q:=q) (t:=t) (rows:=rows) (by omega) hl h.1 h.2 hq;rw[cA (by rw[e];simp),e]
   |some z=>obtain⟨x,k⟩:=z;have hb:=oW hq;rw[List.length_drop,Int.toNat_natCast]at hb;obtain⟨T,L,y',hh⟩:=ih (t+k) (rows++[[x]]) 1 (by omega) (by omega) (by simp only[cg,List.length_cons,List.length_nil];omega) (by omega);have e:∀ea,gd (qu5.tr F0 14) uq (ep d ea p rows y q t)=gd (qu5.tr F0 14) uq (ep d ea p (rows++[[x]]) 1 q ((t+k:Nat):Int)):=fun ea=>(by have e:=BW (d:=d) (ea:=ea) (p:=p) (y:=y) (q:=q) (t:=t) (rows:=rows) (by omega) hl (by omega) h.1 h.2 hq;have e2:(t:Int)+k=((t+k:Nat):Int):=(by omega);rw[e2]at e;rw[iC w9 ⟨d,ea,p,rows,y,q,t,rfl,hp,hp2,by omega,by omega,by omega,hl⟩ (by rw[e]),e]);refine⟨T,L,y',?_⟩;rcases hh with⟨a,b,c⟩|c;{exact .inl ⟨a,b,fun ea=>by rw[e];exact c ea⟩};exact .inr fun ea=>by rw[e];exact c ea
  refine⟨t,rows,y,.inl ⟨hpt,ht,fun ea=> ?_⟩⟩;have e:=nD (d:=d) (ea:=ea) (p:=p) (y:=y) (q:=q) (t:=t) (rows:=rows) h;rw[cA (by rw[e];simp),e]
theorem QU{d:Dat}{p:Nat}(hl:d.toS.length<1000000000)(h1:p<d.toS.length):∃(er kd sz nu:Int) (L:List (List Dat)),∀ea,∃(ea':Int) (z:List Dat),fZ F0 [d,.int 0,.int ea,.int p]=(1,d:: .int er:: .int ea':: .int kd:: .int p:: .int sz:: .int nu:: .lst L::z):=by obtain⟨T,L,y',⟨a,b,c⟩|c⟩:=QR (d:=d) (p:=p) (q:=cJ d.toS p) (by omega) (by omega) hl _ (p+1) [] 0 (aE _) (by omega) (by simp) (by omega);{by_cases h2:(T:Int)<d.toS.length;{refine⟨qE (cJ d.toS p) L,qK (cJ d.toS p) L,(T:Int)+1 - p,qN (cJ d.toS p) L,qB (cJ d.toS p) L,fun ea=> ?_⟩;obtain⟨ea',y2,e2,_⟩:=BV (d:=d) (ea:=ea) (p:=p) (y:=y') (q:=cJ d.toS p) (t:=T) (rows:=L) (by omega) a h2 hl;exact⟨ea',_,by rw[kX hl h1,aF (eO (c ea)),e2]⟩};exact⟨4,5,0,0,L,fun ea=>⟨p,_,by rw[kX hl h1,aF (eO (c ea)),II h2]⟩⟩};exact⟨10,5,0,0,L,fun ea=>⟨T,_,by rw[kX hl h1,eI (kK (c ea) (by simp)) (by simp)]⟩⟩
theorem Mm(s:List Dat)(h:XQ s):@Holds (VL F0 s) Q0:=by obtain⟨d,ea,p,rows,y,q,t,rfl,h1,h2,h3,h4,h5,h6⟩:=h;unfold ep;exact ak (qI (by rw[Bq,sI,tI];omega)) (ak (SS (by rw[qD,sI,tI])) (ak (qI (by rw[jX,sI,tI];omega)) (ak (DU (by rw[jX,cQ,cm,tI];omega)) (ak (DU (by rw[cQ,sI,cm];omega)) aW))))
theorem Q2(s:List Dat)(h:XQ s):∀q∈Ml,¬@Holds (VL F0 s) q:=fun q hq hh=>by obtain⟨d,ea,p,rows,y,q',t,rfl,h1,h2,h3,h4,h5,h6⟩:=h;unfold ep at hh;simp only[Ml,dB,fE,or_false]at hq;rcases hq with rfl|rfl|rfl;{have k1:=cD (aj hh).1;have k2:=cD (aj (aj hh).2).1;rw[Bq,cQ,cm]at k1 k2;omega};{have k1:=bU (aj hh).1;rw[sL,tQ,sI,tL]at k1;omega};have k1:=bU (aj hh).1;rw[cQ,dg,cm,sI,tS,List.length_drop]at k1;omega
theorem QZ(s:List Dat):∀q∈Mk,¬@Holds (VL F0 s) q:=fun q hq hh=>by simp only[Mk,dB,fE,or_false]at hq;subst hq;have k1:=mP (aj hh).1;have k2:=bU (aj (aj hh).2).1;rw[sI]at k1 k2;omega
theorem LF(s:List Dat)(h:Vs s):@Holds (VL F0 s) PD:=by obtain⟨d,e,ea,p,rfl,h1,h2⟩:=h;exact ak (qI (by rw[jX,sI,tI];omega)) (ak (DU (by rw[cQ,sI,cm];omega)) aW)
theorem PF(s:List Dat)(h:Vs s):∀q∈LD,¬@Holds (VL F0 s) q:=fun q hq hh=>by obtain⟨d,e,ea,p,rfl,h1,h2⟩:=h;simp only[LD,dB,fE,or_false]at hq;rcases hq with rfl|rfl|rfl;{have k1:=cD (aj hh).1;have k2:=cD (aj (aj hh).2).1;rw[jX,cQ,cm]at k1 k2;omega};{have k1:=bU (aj hh).1;simp only[cQ,dg,cm,sI,tS,List.length_drop]at k1;omega};have k1:=cD (aj (aj hh).2).1;have k2:=bU (aj (aj (aj hh).2).2).1;simp only[cQ,dg,cm,sI,tS,List.length_drop,jX,tI]at k1 k2;omega
end
end Go.Tw.LX
set_option linter.all false
namespace Go.Tw.LX
noncomputable section
def Vu(s:List Dat):Prop:=∃d ea rows y,∃p:Nat,s=S9 d 0 ea rows y p∧p<d.toS.length∧rows.length≤p∧d.toS.length<1000000000
def XT(s:List Dat):Prop:=∃d ea rows y,∃p:Nat,∃c,s=Ln d (l8 c) ea rows y p∧d.toS[p]? =some c∧rows.length≤p∧d.toS.length<1000000000
theorem T3(s:List Dat)(hs:Vt s)(h:(sc6.tr F0 9 s).1=0):Vu (sc6.tr F0 9 s).2:=by obtain⟨d,e,ea,rows,y,p,rfl,h1,h2,h3⟩:=hs;rw[Bp]at h⊢;by_cases k:(p:Int)<d.toS.length∧e=0;{rw[if_pos k];obtain⟨k1,rfl⟩:=k;exact⟨d,ea,rows,y,p,rfl,by omega,h2 rfl,h3⟩};rw[if_neg k]at h;cases h
theorem T2(s:List Dat)(hs:Vu s):XT (sc7.tr F0 15 s).2:=by obtain⟨d,ea,rows,y,p,rfl,h1,h2,h3⟩:=hs;obtain⟨c,_,_,hc⟩:=nX h1;rw[Hr h3 hc];exact⟨d,ea,rows,y,p,c,rfl,hc,h2,h3⟩
theorem LS(s:List Dat)(hs:Vt s):@Holds (VL F0 s) Qi:=by obtain⟨d,e,ea,rows,y,p,rfl,h1,h2,h3⟩:=hs;unfold S9;exact ak (qI (by rw[GG,sI,tI];omega)) aW
theorem LQ(s:List Dat)(hs:Vu s):@Holds (VL F0 s) Qf:=by obtain⟨d,ea,rows,y,p,rfl,h1,h2,h3⟩:=hs;unfold S9;exact ak (qI (by rw[GG,sI,tI];omega)) (ak (DU (by rw[GG,cQ,fA,tI];omega)) (ak (SS (by rw[Mb,sI,tI])) aW))
theorem Qh(s:List Dat)(hs:Vu s):∀q∈LP,¬@Holds (VL F0 s) q:=fun q hq hh=>by obtain⟨d,ea,rows,y,p,rfl,h1,h2,h3⟩:=hs;simp only[LP,dB,fE,or_false]at hq;subst hq;have k:=bU (aj hh).1;unfold S9 at k;rw[cQ,fA,sI]at k;omega
theorem Qe(s:List Dat)(hs:XT s):∀q∈LN,¬@Holds (VL F0 s) q:=fun q hq hh=>by obtain⟨d,ea,rows,y,p,c,rfl,hc,h2,h3⟩:=hs;have h1:=(List.getElem?_eq_some_iff.1 hc).1;obtain⟨z,er,z1,z2,_⟩:=wk h3 hc (.int 0);simp only[LN,dB,fE,or_false]at hq;unfold Ln at hh;rw[z1]at hh;rcases hq with rfl|rfl|rfl;{have k:=cD (aj hh).1;rw[iP,GG,T5,sI,tI,tI,tI,bG (by omega) (by omega)]at k;omega};{have k:=bU (aj hh).1;rw[cQ,fA,sI]at k;omega};have k:=bU (aj hh).1;rw[sL,om,sI,tL]at k;omega
theorem Ql(d:Dat)(z:List Dat)(h4:d.toS.length<4001)(x y w:Dat):∀q∈LU,¬@Holds (VL F0 (x::y::w::d::z)) q:=fun q hq hh=>by simp only[LU,dB,fE,or_false]at hq;subst hq;have k:=bU (aj hh).1;rw[cQ,fA,sI]at k;omega
end
end Go.Tw.LX
set_option linter.all false
namespace Go.Tw.LX
noncomputable section
end
end Go.Tw.LX
set_option linter.all false
namespace Go.Tw.LX
noncomputable section
theorem J5{x:List UInt8}{u:List UInt8}:∀(l:List UInt8) (n:Nat),0≤cL x l n→cL x (l++u) n=cL x l n:=by
 intro l
 induction l with
 |nil=>
  intro n h;unfold cL at h;split at h
  ·rename_i hx;have:x=[]:=(by simpa using hx);subst this;cases u with
   |nil=>rfl
   |cons c u=>show cL [] (c::u) n=cL [] [] n;unfold cL;rfl
  omega
 |cons c l ih=>
  intro n h;show cL x (c::(l++u)) n=_;by_cases hp:x.isPrefixOf (c::l)=true;{have hp2:x.isPrefixOf (c::(l++u))=true:=List.isPrefixOf_iff_prefix.2 ((List.isPrefixOf_iff_prefix.1 hp).trans ⟨u,rfl⟩);unfold cL;rw[if_pos hp,if_pos hp2]};have e:cL x (c::l) n=cL x l (n+1):=by
   conv=>lhs;unfold cL
   rw[if_neg hp]
  rw[e]at h⊢;have hb:=xZ x l (n+1);have hp2:¬x.isPrefixOf (c::(l++u))=true:=fun h2=>by have h2:=List.isPrefixOf_iff_prefix.1 h2;have h3:x<+:c::l:=List.prefix_of_prefix_length_le h2 (⟨u,rfl⟩:c::l<+:c::(l++u)) (by simp only[List.length_cons];omega);exact hp (List.isPrefixOf_iff_prefix.2 h3)
  conv=>lhs;unfold cL
  rw[if_neg hp2];exact ih (n+1) h
theorem Np{r u:List UInt8}{c:UInt8}(h:0≤fg (aq r c)):fg (aq (r++u) c)=fg (aq r c):=by
 cases hf:aq r c with
 |none=>rw[hf]at h;exact absurd h (by decide)
 |some i=>rw[bj]at hf;have:aq (r++u) c=some i:=(by rw[bj,List.findIdx?_append,hf];rfl);rw[this]
theorem SE{r u:List UInt8}(h:fg (aq r 10)<0):fg (aq (r++10::u) 10)=r.length:=by
 cases hf:aq r 10 with
 |some i=>rw[hf]at h;exact absurd h (by show ¬(i:Int)<0;omega)
 |none=>rw[bj]at hf;have:aq (r++10::u) 10=some r.length:=(by rw[bj,List.findIdx?_append,hf];simp [List.findIdx?_cons]);rw[this];rfl
theorem EP{r u:List UInt8}(h:2≤r.length):(r++u).take 2=r.take 2:=by rw[List.take_append_of_le_length h]
theorem Kf{r u:List UInt8}(h:0<gp r)(hl:r.take 2=[47,47]→gp r<r.length∨∃v,u=10::v):gp (r++u)=gp r:=by
 cases r with
 |nil=>cases h
 |cons c r=>show gp (c::(r++u))=_;by_cases hb:blk c=true;{rw[bm,bm,if_pos hb,if_pos hb]};obtain⟨h1,h2⟩:=Kd hb h;have ht:(c::(r++u)).take 2=(c::r).take 2:=EP (r:=c::r) h2;rw[bm,if_neg hb]at h;by_cases h3:(c::r).take 2=[47,47];{have hl:=hl h3;rw[bm,if_neg hb,if_pos h3]at hl;rw[bm,bm,if_neg hb,if_neg hb,ht,if_pos h3,if_pos h3];by_cases h5:fg (aq (c::r) 10)<0;{rw[if_pos h5]at hl⊢;rcases hl with hl|⟨v,rfl⟩;{omega};rw[show c::(r++10::v)=(c::r)++10::v from rfl,SE h5,if_neg (by omega)]};rw[if_neg h5,show c::(r++u)=(c::r)++u from rfl,Np (by omega),if_neg h5]};rw[if_neg h3]at h;rw[bm,bm,if_neg hb,if_neg hb,ht,if_neg h3,if_neg h3];by_cases h4:(c::r).take 2=[47,42];{rw[if_pos h4]at h⊢;rw[if_pos h4];by_cases h5:cL [42,47] ((c::r).drop 2) 0<0;{rw[if_pos h5]at h;omega};have e:(c::(r++u)).drop 2=(c::r).drop 2++u:=List.drop_append_of_le_length (l₁:=c::r) h2;rw[e,J5 _ _ (by omega)]};rw[if_neg h4]at h;omega
theorem Gap.cat{r:List UInt8}{n m:Nat}(g:Gap r n)(k:Gap (r.drop n) m):Gap r (n+m):=by
 induction g with
 |nil r=>rw[Nat.zero_add];exact k
 |@step r n h _ ih=>rw[Nat.add_assoc];refine .step h (ih ?_);rw[List.drop_drop];exact k
theorem UQ{r:List UInt8}(h:0<gp r)(hl:r.take 2=[47,47])(hb:gp r<r.length):gp (r.drop (gp r).toNat)=1:=by
 cases r with
 |nil=>cases h
 |cons c r=>
  by_cases hc:blk c=true
  ·have:c=47:=by
    cases r with
    |nil=>cases hl
    |cons=>simp only[List.take_succ_cons]at hl;injection hl
   subst this;simp [blk]at hc
  rw[bm,if_neg hc,if_pos hl]at h hb⊢;by_cases h5:fg (aq (c::r) 10)<0;{rw[if_pos h5]at hb;omega};rw[if_neg h5];cases hf:aq (c::r) 10 with
  |none=>rw[hf]at h5;exact absurd (by decide) h5
  |some i=>rw[bj]at hf;obtain⟨h1,h2,_⟩:=List.findIdx?_eq_some_iff_getElem.1 hf;show gp ((c::r).drop ((i:Int)).toNat)=1;rw[Int.toNat_natCast,List.drop_eq_getElem_cons h1];have h2:(c::r)[i]=10:=(by simpa using h2);rw[h2];rfl
theorem Gap.mid{r:List UInt8}{n:Nat}(g:Gap r n)(hn:n<r.length)(h0:gp (r.drop n)=0)(u:List UInt8):Gap (r.take n++u) n:=by
 induction g with
 |nil r=>exact .nil _
 |@step r n h k ih=>
  have hk:=k.le;rw[List.length_drop]at hk;have e:=Ec (m:=(gp r).toNat+n) h (by omega);have hlen:(r.take ((gp r).toNat+n)).length=(gp r).toNat+n:=(by rw[List.length_take];omega);have e2:gp (r.take ((gp r).toNat+n)++u)=gp r:=by
   rw[Kf (by rw[e];exact h) (fun hl=>.inl ?_),e];rw[e,hlen];have hl2:r.take 2=[47,47]:=(by have:2≤(r.take ((gp r).toNat+n)).length:=(by have:=congrArg List.length hl;rw[List.length_take]at this;simp only[List.length_cons,List.length_nil]at this;omega);rw[←hl,List.take_take];congr 1;omega);have h1:=UQ h hl2 (by omega);cases n with
   |zero=>rw[Nat.add_zero,h1]at h0;cases h0
   |succ n=>omega
  have s:=ih (by rw[List.length_drop];omega) (by rw[List.drop_drop];exact h0);have s2:=@Gap.step (r.take ((gp r).toNat+n)++u) n (by rw[e2];exact h) (by rw[e2,List.drop_append_of_le_length (by omega),List.drop_take,Nat.add_sub_cancel_left];exact s);rw[e2]at s2;exact s2
theorem Gap.nl{r:List UInt8}{n:Nat}(g:Gap r n)(hn:n=r.length)(u:List UInt8):Gap (r++10::u) n:=by
 induction g with
 |nil r=>exact .nil _
 |@step r n h k ih=>have e2:gp (r++10::u)=gp r:=Kf h fun _=>.inr ⟨u,rfl⟩;have hk:=k.le;rw[List.length_drop]at hk;have s:=ih (by rw[List.length_drop];omega);have s2:=@Gap.step (r++10::u) n (by rw[e2];exact h) (by rw[e2,List.drop_append_of_le_length (by omega)];exact s);rw[e2]at s2;exact s2
theorem Vc{c:UInt8}{r:List UInt8}(h:gp (c::r)=0):¬blk c=true∧¬(c::r).take 2=[47,47]∧¬(c::r).take 2=[47,42]:=by
 rw[bm]at h;by_cases hb:blk c=true;{rw[if_pos hb]at h;cases h};rw[if_neg hb]at h;have h3:¬(c::r).take 2=[47,47]:=fun h3=>by
  rw[if_pos h3]at h;by_cases h5:fg (aq (c::r) 10)<0;{rw[if_pos h5]at h;simp only[List.length_cons]at h;omega};rw[if_neg h5]at h;cases hf:aq (c::r) 10 with
  |none=>rw[hf]at h;cases h
  |some i=>rw[hf]at h;have h:(i:Int)=0:=h;have:i=0:=(by omega);subst this;rw[bj]at hf;obtain⟨_,h7,_⟩:=List.findIdx?_eq_some_iff_getElem.1 hf;have:c=10:=(by simpa using h7);subst this;simp [blk]at hb
 refine⟨hb,h3,fun h4=> ?_⟩;rw[if_neg h3,if_pos h4]at h;split at h;{cases h};omega
def Cut(t u:List UInt8):Prop:=∃p v,u=p++v∧p<+:t∧(v=[]∨∃c r,v=c::r∧blk c=true)
theorem Cut.stop{t u:List UInt8}(h:Cut t u):Stop t u:=.inr (.inr (.inr h))
theorem Sz{r w:List UInt8}{z:Nat}(h:gp r=0)(hz:1≤z)(hr:z≤r.length)(hw:Cut (r.drop z) w):gp (r.take z++w)=0:=by
 obtain⟨p,v,rfl,hp,hv⟩:=hw;have hpl:=hp.length_le;rw[List.length_drop]at hpl;have e:r.take z++p=r.take (z+p.length):=by
  have e2:p=(r.drop z).take p.length:=List.prefix_iff_eq_take.1 hp
  conv=>lhs;rw[e2]
  rw[List.take_add]
 rw[←List.append_assoc,e];have h0:=Ke (m:=z+p.length) h;cases hy:r.take (z+p.length)with
 |nil=>have:=congrArg List.length hy;rw[List.length_take]at this;simp only[List.length_nil]at this;omega
 |cons c y=>
  rw[hy]at h0;obtain⟨h1,h2,h3⟩:=Vc h0;show gp (c::(y++v))=0;have key:∀b:UInt8,b≠32→b≠9→b≠10→b≠13→¬(c::y).take 2=[47,b]→¬(c::(y++v)).take 2=[47,b]:=fun b k1 k2 k3 k4 hn hk=>by
   cases y with
   |cons a y=>exact hn hk
   |nil=>rcases hv with rfl|⟨a,v,rfl,ha⟩;{exact hn hk};simp only[List.nil_append,List.take_succ_cons]at hk;injection hk with _ hk;injection hk with hk _;subst hk;unfold blk at ha;simp only[decide_eq_true_eq]at ha;rcases ha with ha|ha|ha|ha;{exact k2 (UInt8.toNat_inj.1 ha)};{exact k3 (UInt8.toNat_inj.1 ha)};{exact k4 (UInt8.toNat_inj.1 ha)};exact k1 (UInt8.toNat_inj.1 ha)
  rw[bm,if_neg h1,if_neg (key 47 (by decide) (by decide) (by decide) (by decide) h2),if_neg (key 42 (by decide) (by decide) (by decide) (by decide) h3)]
end
end Go.Tw.LX
set_option linter.all false
namespace Go.Tw.LX
noncomputable section
def X6:List (List UInt8):=[[],[32],[10],[32,47,42,32,97,32,42,47],[9,47,47,32,98,10],[9,13]]
theorem SA{c:UInt8}{u:List UInt8}(h:blk c=true):gp (c::u)=1:=by rw[bm,if_pos h]
theorem iY{c:UInt8}{u:List UInt8}{n:Nat}(h:blk c=true)(g:Gap u n):Gap (c::u) (n+1):=by have e:=SA (u:=u) h;have:=@Gap.step (c::u) n (by rw[e];decide) (by rw[e];exact g);rw[e]at this;rw[Nat.add_comm];exact this
theorem SD(u:List UInt8):Gap (47::42::32::97::32::42::47::u) 7:=by
 have e:gp (47::42::32::97::32::42::47::u)=7:=by rw[bm,if_neg (by decide),if_neg (by simp),if_pos (by simp)];have:cL [42,47] ((47::42::32::97::32::42::47::u).drop 2) 0=3:=(by simp [cL,List.isPrefixOf]);rw[this];rfl
 have:=@Gap.step (47::42::32::97::32::42::47::u) 0 (by rw[e];decide) (.nil _);rw[e]at this;exact this
theorem SC(u:List UInt8):Gap (47::47::32::98::10::u) 5:=by
 have e:gp (47::47::32::98::10::u)=4:=by have:aq (47::47::32::98::10::u) 10=some 4:=(by rw[bj];simp [List.findIdx?_cons]);rw[bm,if_neg (by decide),if_pos (by simp),this];rfl
 have:=@Gap.step (47::47::32::98::10::u) 1 (by rw[e];decide) (by rw[e];exact iY (by decide) (.nil _));rw[e]at this;exact this
theorem vY:∀x∈X6,(∀u,Gap (x++u) x.length)∧(x=[]∨∃c r,x=c::r∧blk c=true)∧x.length≤8:=by intro x hx;simp only[X6,dB,fE,or_false]at hx;rcases hx with rfl|rfl|rfl|rfl|rfl|rfl;{exact⟨fun u=>.nil _,.inl rfl,by decide⟩};{exact⟨fun u=>iY (by decide) (.nil _),.inr ⟨_,_,rfl,by decide⟩,by decide⟩};{exact⟨fun u=>iY (by decide) (.nil _),.inr ⟨_,_,rfl,by decide⟩,by decide⟩};{exact⟨fun u=>iY (by decide) (SD u),.inr ⟨_,_,rfl,by decide⟩,by decide⟩};{exact⟨fun u=>iY (by decide) (SC u),.inr ⟨_,_,rfl,by decide⟩,by decide⟩};exact⟨fun u=>iY (by decide) (iY (by decide) (.nil _)),.inr ⟨_,_,rfl,by decide⟩,by decide⟩
def Aq(s:List UInt8):List UInt8:=match s with
 |[]=>[]
 |s=>s++[10]
def Wd(s:List UInt8)(xs:Nat→List UInt8):Nat→List (List Dat)→Nat→List UInt8
 |e,[],i=>Aq (s.drop e)++xs i
 |e,r::l,i=>(s.take (aP r 1).toI.toNat).drop e++xs i++(s.take ((aP r 1).toI.toNat+(aP r 2).toI.toNat)).drop (aP r 1).toI.toNat++Wd s xs ((aP r 1).toI.toNat+(aP r 2).toI.toNat) l (i+1)
def YL(r:List Dat)(p:Nat):List Dat:=[.int (aP r 0).toI,.int p,.int (aP r 2).toI,aP r 3,.int (aP r 4).toI,aP r 5]
def Vd(s:List UInt8)(xs:Nat→List UInt8):Nat→Nat→List (List Dat)→Nat→List (List Dat)
 |_,_,[],_=>[]
 |p,e,r::l,i=>YL r (p+((s.take (aP r 1).toI.toNat).drop e++xs i).length)::
  Vd s xs (p+((s.take (aP r 1).toI.toNat).drop e++xs i++(s.take ((aP r 1).toI.toNat+(aP r 2).toI.toNat)).drop (aP r 1).toI.toNat).length) ((aP r 1).toI.toNat+(aP r 2).toI.toNat) l (i+1)
theorem yz{s:List UInt8}{xs:Nat→List UInt8}{e p i:Nat}{t:TokV}{l:List (List Dat)}:Wd s xs e (ng p t::l) i=(s.take p).drop e++xs i++(s.take (p+t.z)).drop p++Wd s xs (p+t.z) l (i+1):=rfl
theorem Eu{s:List UInt8}{xs:Nat→List UInt8}{q e p i:Nat}{t:TokV}{l:List (List Dat)}:Vd s xs q e (ng p t::l) i=ng (q+((s.take p).drop e++xs i).length) t::Vd s xs (q+((s.take p).drop e++xs i++(s.take (p+t.z)).drop p).length) (p+t.z) l (i+1):=rfl
theorem EO{s:List UInt8}{e n:Nat}:(s.take (e+n)).drop e=(s.drop e).take n:=by rw[List.drop_take,Nat.add_sub_cancel_left]
theorem OP{d:Dat}{xs:Nat→List UInt8}(hx:∀i,xs i∈X6){e:Nat}{l:List (List Dat)}(h:Ch d e l):∀i,Cut (d.toS.drop e) (Wd d.toS xs e l i):=by
 induction h with
 |@nil e h g=>
  intro i;obtain⟨_,h2,_⟩:=vY _ (hx i);show Cut _ (Aq (d.toS.drop e)++xs i);cases hd:d.toS.drop e with
  |nil=>refine⟨[],xs i,rfl,List.nil_prefix,h2⟩
  |cons c r=>refine⟨c::r,10::xs i,?_,List.prefix_refl _,.inr ⟨10,xs i,rfl,by decide⟩⟩;show(c::r)++[10]++xs i=_;rw[List.append_assoc];rfl
 |@cons e n t c l g h0 hc ht hz hb k ih=>
  intro i;obtain⟨_,h2,_⟩:=vY _ (hx i);rw[yz,EO];rcases h2 with h2|⟨a,r,h2,h3⟩
  ·obtain⟨p,v,e1,e2,e3⟩:=ih (i+1);rw[h2,e1,List.append_nil,EO];refine⟨(d.toS.drop e).take n++((d.toS.drop (e+n)).take t.z++p),v,by simp only[List.append_assoc],?_,e3⟩;have s1:d.toS.drop e=(d.toS.drop e).take n++((d.toS.drop (e+n)).take t.z++d.toS.drop (e+n+t.z)):=by
    rw[←List.drop_drop (i:=t.z),List.take_append_drop,←List.drop_drop (i:=n),List.take_append_drop]
   conv=>rhs;rw[s1]
   exact(List.prefix_append_right_inj _).2 ((List.prefix_append_right_inj _).2 e2)
  refine⟨(d.toS.drop e).take n,xs i++((d.toS.take (e+n+t.z)).drop (e+n)++Wd d.toS xs (e+n+t.z) l (i+1)),by simp only[List.append_assoc],List.take_prefix _ _,.inr ⟨a,r++_,by rw[h2];rfl,h3⟩⟩
end
end Go.Tw.LX
set_option linter.all false
namespace Go.Tw.LX
noncomputable section
theorem GQ{d:Dat}{p:Nat}{c:UInt8}{t:TokV}(hl:d.toS.length<1000000000)(hc:d.toS[p]? =some c)(ht:oB (l8 c) d p t){D:Dat}{q:Nat}{u:List UInt8}(hD:D.toS.length<1000000000)
 (hd:D.toS.drop q=(d.toS.drop p).take t.z++u)(hs:Stop (d.toS.drop (p+t.z)) u):oB (l8 c) D q t:=by
 obtain⟨t',k1,k2,k3,k4⟩:=wi (c0:=.int 0) hl hc (by rw[(ht (.int 0)).2.2.2.2.2.1];rfl);have hzz:t'.z=t.z:=by have a:=(k1 (.int 0)).2.1;rw[(ht (.int 0)).2.1]at a;injection a with a;omega
 have e:t'=t:=by obtain⟨a1,a2,a3,a4,a5,_⟩:=k1 (.int 0);obtain⟨b1,b2,b3,b4,b5,_⟩:=ht (.int 0);rw[b1]at a1;rw[b3]at a3;rw[b4]at a4;rw[b5]at a5;cases t;cases t';injection a1 with a1;injection a4 with a4;injection a5 with a5;simp only at a1 a3 a4 a5 hzz;rw[a1,a3,a4,a5,hzz]
 rw[e]at k4;exact k4 D q u hD hd hs
theorem Kt{s a b:List UInt8}{q n:Nat}(h:s.drop q=a++b)(hn:a.length=n):s.drop (q+n)=b:=by rw[←List.drop_drop,h,List.drop_append_of_le_length (by omega),←hn,List.drop_length];rfl
theorem Tu{d D:Dat}{xs:Nat→List UInt8}(hx:∀i,xs i∈X6)(hl:d.toS.length<1000000000)(hD:D.toS.length<1000000000){e:Nat}{l:List (List Dat)}(h:Ch d e l):
 ∀i q,q≤D.toS.length→D.toS.drop q=Wd d.toS xs e l i→Ch D q (Vd d.toS xs q e l i):=by
 induction h with
 |@nil e h g=>
  intro i q hq hd;obtain⟨h1,h2,_⟩:=vY _ (hx i);have hX:Gap (xs i) (xs i).length:=(by have:=h1 [];rw[List.append_nil]at this;exact this);refine .nil hq ?_;have hlen:D.toS.length - q=(Aq (d.toS.drop e)++xs i).length:=(by have:=congrArg List.length hd;rw[List.length_drop]at this;exact this);rw[hlen,hd];show Gap (Aq (d.toS.drop e)++xs i) _;have g:Gap (d.toS.drop e) (d.toS.drop e).length:=(by rw[List.length_drop];exact g);cases hs:d.toS.drop e with
  |nil=>exact hX
  |cons c r=>rw[hs]at g;have g1:=g.nl rfl (xs i);have g2:Gap (10::xs i) ((xs i).length+1):=iY (by decide) hX;have e1:Aq (c::r)++xs i=(c::r)++10::xs i:=(by show(c::r)++[10]++xs i=_;rw[List.append_assoc];rfl);have:=g1.cat (m:=(xs i).length+1) (by rw[List.drop_append_of_le_length (aE _),List.drop_length];exact g2);rw[e1,cg,List.length_cons];exact this
 |@cons e n t c l g h0 hc ht hz hb k ih=>intro i q hq hd;obtain⟨h1,h2,_⟩:=vY _ (hx i);have hp:=(List.getElem?_eq_some_iff.1 hc).1;have cut:=OP hx k (i+1);rw[yz,EO,EO]at hd;rw[Eu,EO,EO];obtain⟨W,hW⟩:∃W,W=Wd d.toS xs (e+n+t.z) l (i+1):=⟨_,rfl⟩;rw[←hW]at hd cut;have ln:((d.toS.drop e).take n).length=n:=(by rw[List.length_take,List.length_drop];omega);have lz:((d.toS.drop (e+n)).take t.z).length=t.z:=(by rw[List.length_take,List.length_drop];omega);have d1:D.toS.drop q=(d.toS.drop e).take n++(xs i++((d.toS.drop (e+n)).take t.z++W)):=(by rw[hd];simp only[List.append_assoc]);have d2:=Kt d1 ln;have d3:=Kt d2 rfl;have d4:=Kt d3 lz;have hlen:=congrArg List.length d1;rw[List.length_drop,cg,cg,cg,ln,lz]at hlen;have eN:q+n+(xs i).length=q+(n+(xs i).length):=Nat.add_assoc ..;rw[eN]at d3 d4;rw[cg,cg,cg,ln,lz,show q+(n+(xs i).length+t.z)=q+(n+(xs i).length)+t.z by omega];have hdt:d.toS.drop (e+n)=(d.toS.drop e).drop n:=(by rw[List.drop_drop]);have gg:Gap (D.toS.drop q) (n+(xs i).length):=(by have:=g.mid (by rw[List.length_drop];omega) (by rw[←hdt];exact h0) (xs i++((d.toS.drop (e+n)).take t.z++W));rw[←d1]at this;exact this.cat (by rw[List.drop_drop,d2];exact h1 _));have hh:(d.toS.drop (e+n)).take t.z=c::((d.toS.drop (e+n)).take t.z).drop 1:=(by rw[List.drop_eq_getElem_cons hp,(List.getElem?_eq_some_iff.1 hc).2];obtain⟨z,hz'⟩:∃z,t.z=z+1:=⟨t.z - 1,by omega⟩;rw[hz',List.take_succ_cons];rfl);refine .cons (c:=c) gg ?_ ?_ ?_ hz (by omega) ?_;{rw[d3];exact Sz h0 hz (by rw[List.length_drop];omega) (by rw[List.drop_drop];exact cut)};{have:(D.toS.drop (q+(n+(xs i).length)))[0]? =some c:=(by rw[d3,hh];rfl);rw[fc,Nat.add_zero]at this;exact this};{exact GQ hl hc ht hD d3 cut.stop};exact ih (i+1) _ (by omega) (by rw[d4,hW])
theorem GN{s:List UInt8}{xs:Nat→List UInt8}:∀(l:List (List Dat)) (q e i:Nat),(Vd s xs q e l i).length=l.length:=by
 intro l
 induction l with
 |nil=>intros;rfl
 |cons r l ih=>intro q e i;show(Vd _ _ _ _ _ _).length+1=_;rw[ih];rfl
end
end Go.Tw.LX
set_option linter.all false
namespace Go.Tw.LX
noncomputable section
def VX(s:List Dat):Prop:=∃a b y,∃k:Nat,s=[b,y,a,.int k]∧a.toL.length=b.toL.length∧k≤a.toL.length∧a.toL.length<1000000001
theorem lN{a b y:Dat}{k:Nat}(hl:a.toL.length=b.toL.length)(h:k<a.toL.length)(hb:a.toL.length<1000000001):sm4.tr F0 4 [b,y,a,.int k]=(0,[b,y,a,.int ((k+1:Nat):Int)])∨(a≠b∧sm4.tr F0 4 [b,y,a,.int k]=(1,[b,y,.int 0,.int 0])):=by
 have ha:bu .add .i64 (k:Int) 1=((k+1:Nat):Int):=by rw[bG (by omega) (by omega)];omega
 simp only[sm4,aI,bO,bV,ke,jX,sL,cm,kJ,kH,tI,sI,OY,dN,iP,ix,kA,On,YR,Wy,dI,ha,d15,tS];rw[if_pos (by omega),if_pos (by omega)];repeat' split
 all_goals first
  |exact .inl rfl
  |exact .inr ⟨fun h=>by subst h;simp_all,rfl⟩
theorem nc{a b y:Dat}{k:Nat}(h:a.toL.length≤k):sm4.tr F0 4 [b,y,a,.int k]=(2,[b,y,.int 0,.int 0]):=by simp only[sm4,aI,bO,jX,sL,kH,tI];rw[if_neg (by omega)];rfl
theorem Bj:A7 VX Ce (sm4.tr F0 4):=fun s hs h0=>by obtain⟨a,b,y,k,rfl,h1,h2,h3⟩:=hs;rcases aS k a.toL.length with h|h;{rcases lN (y:=y) h1 h h3 with e|⟨_,e⟩;{rw[e];refine⟨⟨a,b,y,k+1,rfl,h1,h,h3⟩,?_⟩;show a.toL.length - ((k+1:Nat):Int).toNat<a.toL.length - (k:Int).toNat;omega};rw[e]at h0;cases h0};rw[nc h]at h0;cases h0
theorem TG{a y:Dat}(h3:a.toL.length<1000000001):∀(m k:Nat),a.toL.length - k≤m→k≤a.toL.length→gd (sm4.tr F0 4) Ce [a,y,a,.int k]=(2,[a,y,.int 0,.int 0]):=by
 intro m
 induction m with
 |zero=>intro k hm hk;have e:=nc (a:=a) (b:=a) (y:=y) (k:=k) (by omega);rw[cA (by rw[e];simp),e]
 |succ m ih=>intro k hm hk;rcases aS k a.toL.length with h|h;{rcases lN (y:=y) rfl h h3 with e|⟨n,_⟩;{rw[iC Bj ⟨a,a,y,k,rfl,rfl,hk,h3⟩ (by rw[e]),e];exact ih (k+1) (by omega) h};exact absurd rfl n};have e:=nc (a:=a) (b:=a) (y:=y) (k:=k) h;rw[cA (by rw[e];simp),e]
theorem Lz{a y:Dat}(h3:a.toL.length<1000000001):uj F0 [a,a,y]=(1,[a,y,.int 1]):=by
 unfold uj;rw[aF (f:=sm0.tr F0 3) (s':=[a,y,a]) rfl];have e1:sm1.tr F0 3 [a,y,a]=(0,[a,y,a]):=by simp only[sm1,aI,bV,sL,cm,kH,if_true];rfl
 rw[aF e1];have e2:aG (sm2.tr F0 4) (jg 0 (gd (sm4.tr F0 4) Ce)) [a,y,a]=(0,[a,y,.int 0,.int 0]):=by rw[aF (f:=sm2.tr F0 4) (s':=[a,y,a,.int (0:Nat)]) rfl];exact eO (TG h3 _ 0 (aE _) (bP _))
 rw[aF e2];rfl
theorem f58{a c:Dat}(h3:a.toL.length<1000000001):F0 58 a a c=.int 1:=by rw[OA,Lz h3];rfl
theorem TE{a b y:Dat}(h3:a.toL.length<1000000001):∃(i:Int) (z:List Dat),uj F0 [a,b,y]=(1,b::y:: .int i::z):=by
 unfold uj;rw[aF (f:=sm0.tr F0 3) (s':=[b,y,a]) rfl];by_cases hl:a.toL.length=b.toL.length
 ·have e1:sm1.tr F0 3 [b,y,a]=(0,[b,y,a]):=by
   simp only[sm1,aI,bV,sL,cm,kH];rw[if_pos (by omega)];rfl
  rw[aF e1];have hm:A7 (fun s=>∃k:Nat,s=[b,y,a,.int k]∧k≤a.toL.length) Ce (sm4.tr F0 4):=fun s hs h0=>(by obtain⟨k,rfl,h1⟩:=hs;refine⟨?_,(Bj _ ⟨a,b,y,k,rfl,hl,h1,h3⟩ h0).2⟩;rcases aS k a.toL.length with h|h;{rcases lN (y:=y) hl h h3 with e|⟨_,e⟩;{rw[e];exact⟨k+1,rfl,h⟩};rw[e]at h0;cases h0};rw[nc h]at h0;cases h0);obtain⟨s',⟨k,rfl,k1⟩,hne,hlp⟩:=lu hm (s:=[b,y,a,.int (0:Nat)]) ⟨0,rfl,bP _⟩;rcases aS k a.toL.length with h|h
  ·rcases lN (y:=y) hl h h3 with e|⟨_,e⟩;{rw[e]at hne;exact absurd rfl hne};rw[e]at hlp;have u:aG (sm2.tr F0 4) (jg 0 (gd (sm4.tr F0 4) Ce)) [b,y,a]=(1,[b,y,.int 0,.int 0]):=by
    rw[aF (f:=sm2.tr F0 4) (s':=[b,y,a,.int (0:Nat)]) rfl];exact kK hlp (by simp)
   exact⟨0,[.int 0],by rw[eI u (by simp)]⟩
  rw[nc h]at hlp;have u:aG (sm2.tr F0 4) (jg 0 (gd (sm4.tr F0 4) Ce)) [b,y,a]=(0,[b,y,.int 0,.int 0]):=(by rw[aF (f:=sm2.tr F0 4) (s':=[b,y,a,.int (0:Nat)]) rfl];exact eO hlp);exact⟨1,[],by rw[aF u];rfl⟩
 have e1:sm1.tr F0 3 [b,y,a]=(1,[b,y,.int 0]):=by simp only[sm1,aI,bV,sL,cm,kH];rw[if_neg (by omega)];rfl
 rw[eI e1 (by simp)];exact⟨0,[],rfl⟩
def la(x:Int):Int:=((x.tmod 6)+6).tmod 6
theorem NL(x:Int): -6<x.tmod 6∧x.tmod 6<6:=by refine⟨?_,Int.tmod_lt_of_pos x (by decide)⟩;have h:=Int.tmod_lt_of_pos (-x) (b:=6) (by decide);rw[Int.neg_tmod]at h;omega
theorem nI(x:Int):0≤la x∧la x<6:=by unfold la;have h:=NL x;exact⟨Int.tmod_nonneg _ (by omega),Int.tmod_lt_of_pos _ (by decide)⟩
theorem f57{a c:Dat}:F0 57 a (.int 6) c=.int (la a.toI):=by rw[OB];unfold E1 la;simp only[pc0,aI,bV,qD,sI,tI,Yy,dN,iP,YF];rw[if_neg (by decide)];show Dat.int (Int.tmod (cG .i64 (Int.tmod a.toI 6+6)) 6)=_;have h:=NL a.toI;rw[wrap_small (by omega) (by omega)]
end
end Go.Tw.LX
set_option linter.all false
namespace Go.Tw.LX
noncomputable section
def Cg(s:List Dat):Nat:=(aP s 3).toL.length+1 - (aP s 10).toI.toNat
def lb0:ST:=(.leaf [(I 0),(D 0),(D 1),(I 0)])
abbrev H4:ST:=.leaf [(I 0),(D 0),(D 1),jF]
def lb1:ST:=H4
abbrev H3:ST:=.leaf [(I 1),(I 1),(I 0),(I 0)]
def lb2:ST:=(.ask (lt db (I 1001)) (.ask (lt (bg (D 1)) (I 1001)) H4 H3) H3)
def lb3:ST:=(.ask kT (.leaf [(I 0),(D 0),(D 1),jF,(.ap 54 (D 0) (I 0) (I 0)),(N (.ap 55 (D 0) (I 0) (I 0))),(N (.ap 56 (D 0) (I 0) (I 0)))]) .none)
def MY:List bo:=[[(kT,false)]]
def lb4:ST:=(.ask wS (.leaf [(I 0),(D 0),(D 1),jF,(D 3)]) (.leaf [(I 1),(I 1),(I 0),(I 0),(I 0)]))
def lb5:ST:=(.leaf [(I 0),(D 0),(D 1),jF,(D 3),(J (.pr 12 kW bz) (J (.pr 12 (.slit [32]) bz) (J (.pr 12 (.slit [10]) bz) (J (.pr 12 (.slit [32,47,42,32,97,32,42,47]) bz) (J (.pr 12 (.slit [9,47,47,32,98,10]) bz) (J (.pr 12 (.slit [9,13]) bz) O)))))),(I 1)])
def lb6:ST:=(.leaf [(I 0),(D 0),(D 1),jF,(D 3),(D 4),(D 5),kW,(I 0)])
def lb7:ST:=(.leaf [(I 0),(D 0),(D 1),jF,(D 3),(D 4),(D 5),(D 6),(N (D 7)),O,(I 0)])
def lb8:ST:=(.leaf [(I 0),(D 0),(D 1),jF,(D 3),(D 4),(D 5),(D 6),(N (D 7)),(D 8),(D 9),(I 0)])
abbrev nC:Sx:=.cell (D 3) (D 10) 1
abbrev sO:Sx:=.bin .add .i64 nC (.cell (D 3) (D 10) 2)
abbrev H2:Sx:=.pr 3 (.pr 2 (D 0) nC) (D 7)
abbrev zr:Sx:=.pr 4 (D 6) H2
abbrev HX:Sx:=.pr 3 (.pr 2 (D 0) db) (D 7)
abbrev zp:Sx:=.pr 4 (D 6) HX
abbrev iV:Sx:=.cell (D 1) (D 10) 0
abbrev NY:Sx:=.pr 12 (.cell (D 3) (D 10) 2) (.pr 12 (.cell (D 3) (D 10) 3) (.pr 12 (.cell (D 3) (D 10) 4) (.pr 12 (.cell (D 3) (D 10) 5) bz)))
abbrev BT:Sx:=.pr 3 (.pr 2 (D 0) sO) nC
abbrev BN:Sx:=.pr 4 zp (.slit [10])
abbrev BG:Sx:=.pr 0 zr (I 0)
abbrev HU:Bx:=lt (.pr 0 BT (I 0)) cW
def lb10:ST:=(.ask (lt (bg (D 3)) (D 10)) (.leaf [(I 2),(D 1),(D 3),(D 6),(D 8),(D 9),(I 0),(I 0),(I 0),(I 0),(I 0),(I 0)]) (.ask (lt (D 10) (bg (D 3))) (.ask (lt nC (D 7)) .none (.ask (lt db nC) .none (.ask (lt (.pr 0 (D 6) (I 0)) cW) (.ask (lt (.pr 0 H2 (I 0)) cW) (.ask (eq (D 10) (bg (D 3))) .none (.ask (lt (D 10) (bg (D 1))) (.ask (lt (.ap 57 iV (bg (D 4)) (I 0)) (I 0)) .none (.ask (lt (.ap 57 iV (bg (D 4)) (I 0)) (bg (D 4))) (.ask (lt BG cW) (.ask (lt (.pr 0 (.cell (D 4) (.ap 57 iV (bg (D 4)) (I 0)) 0) (I 0)) cW) (.ask (lt (bg (D 8)) cW) (.ask (lt nC (I 0)) .none (.ask (lt sO nC) .none (.ask (lt db sO) .none (.ask (lt (.pr 0 (.pr 4 zr (.cell (D 4) (.ap 57 iV (bg (D 4)) (I 0)) 0)) (I 0)) cW) (.ask HU (.leaf [(I 0),(D 0),(D 1),jF,(D 3),(D 4),(D 5),(.pr 4 (.pr 4 zr (.cell (D 4) (.ap 57 iV (bg (D 4)) (I 0)) 0)) BT),(N sO),(J (D 8) (J (.pr 12 (.cell (D 3) (D 10) 0) (.pr 12 (.pr 0 (.pr 4 zr (.cell (D 4) (.ap 57 iV (bg (D 4)) (I 0)) 0)) (I 0)) NY)) O)),(I 1),zj]) .none) .none)))) .none) .none) .none) .none)) (.ask (lt (bg (D 8)) cW) (.ask (lt nC (I 0)) .none (.ask (lt sO nC) .none (.ask (lt db sO) .none (.ask (lt BG cW) (.ask HU (.leaf [(I 0),(D 0),(D 1),jF,(D 3),(D 4),(D 5),(.pr 4 zr BT),(N sO),(J (D 8) (J (.pr 12 (.cell (D 3) (D 10) 0) (.pr 12 BG NY)) O)),(I 1),zj]) .none) .none)))) .none))) .none) .none))) (.ask (lt db db) .none (.ask (lt (.pr 0 (D 6) (I 0)) cW) (.ask (lt (.pr 0 HX (I 0)) cW) (.ask (eq (D 10) (bg (D 3))) (.ask (lt (D 7) db) (.ask (lt (.pr 0 zp (I 0)) cW) (.ask (lt (D 10) (bg (D 1))) (.ask (lt (.ap 57 iV (bg (D 4)) (I 0)) (I 0)) .none (.ask (lt (.ap 57 iV (bg (D 4)) (I 0)) (bg (D 4))) (.ask (lt (.pr 0 BN (I 0)) cW) (.ask (lt (.pr 0 (.cell (D 4) (.ap 57 iV (bg (D 4)) (I 0)) 0) (I 0)) cW) (.leaf [(I 2),(D 1),(D 3),(.pr 4 BN (.cell (D 4) (.ap 57 iV (bg (D 4)) (I 0)) 0)),(D 8),(D 9),(I 0),(I 0),(I 0),(I 0),(I 0),(I 0)]) .none) .none) .none)) (.leaf [(I 2),(D 1),(D 3),BN,(D 8),(D 9),(I 0),(I 0),(I 0),(I 0),(I 0),(I 0)])) .none) (.ask (lt (D 10) (bg (D 1))) (.ask (lt (.ap 57 iV (bg (D 4)) (I 0)) (I 0)) .none (.ask (lt (.ap 57 iV (bg (D 4)) (I 0)) (bg (D 4))) (.ask (lt (.pr 0 zp (I 0)) cW) (.ask (lt (.pr 0 (.cell (D 4) (.ap 57 iV (bg (D 4)) (I 0)) 0) (I 0)) cW) (.leaf [(I 2),(D 1),(D 3),(.pr 4 zp (.cell (D 4) (.ap 57 iV (bg (D 4)) (I 0)) 0)),(D 8),(D 9),(I 0),(I 0),(I 0),(I 0),(I 0),(I 0)]) .none) .none) .none)) (.leaf [(I 2),(D 1),(D 3),zp,(D 8),(D 9),(I 0),(I 0),(I 0),(I 0),(I 0),(I 0)]))) .none) .none) .none))))
def D3:List bo:=[[((lt (D 10) (bg (D 3))),true),((lt (.cell (D 3) (D 10) 1) (D 7)),true)],[((lt (D 10) (bg (D 3))),true),((lt (.pr 0 (D 0) (I 0)) (.cell (D 3) (D 10) 1)),true)],[((lt (D 10) (bg (D 3))),true),((eq (D 10) (bg (D 3))),true)],[((lt (.ap 57 (.cell (D 1) (D 10) 0) (bg (D 4)) (I 0)) (I 0)),true)],[((lt (D 7) (I 0)),false),((lt (.cell (D 3) (D 10) 1) (D 7)),false),((lt (.cell (D 3) (D 10) 1) (I 0)),true)],[((lt (D 10) (bg (D 3))),true),((lt (.bin .add .i64 (.cell (D 3) (D 10) 1) (.cell (D 3) (D 10) 2)) (.cell (D 3) (D 10) 1)),true)],[((lt (D 10) (bg (D 3))),true),((lt (.pr 0 (D 0) (I 0)) (.bin .add .i64 (.cell (D 3) (D 10) 1) (.cell (D 3) (D 10) 2))),true)],[((lt (.pr 0 (.pr 3 (.pr 2 (D 0) (.bin .add .i64 (.cell (D 3) (D 10) 1) (.cell (D 3) (D 10) 2))) (.cell (D 3) (D 10) 1)) (I 0)) (I 1000000001)),false)],[((lt (.pr 0 (.pr 4 (.pr 4 (D 6) (.pr 3 (.pr 2 (D 0) (.cell (D 3) (D 10) 1)) (D 7))) (.cell (D 4) (.ap 57 (.cell (D 1) (D 10) 0) (bg (D 4)) (I 0)) 0)) (I 0)) (I 1000000001)),false)],[((lt (bg (D 8)) (I 1000000001)),false)],[((lt (.pr 0 (.cell (D 4) (.ap 57 (.cell (D 1) (D 10) 0) (bg (D 4)) (I 0)) 0) (I 0)) (I 1000000001)),false)],[((lt (.pr 0 (.pr 4 (D 6) (.pr 3 (.pr 2 (D 0) (.cell (D 3) (D 10) 1)) (D 7))) (I 0)) (I 1000000001)),false)],[((lt (.ap 57 (.cell (D 1) (D 10) 0) (bg (D 4)) (I 0)) (bg (D 4))),false)],[((lt (.pr 0 (.pr 3 (.pr 2 (D 0) (.cell (D 3) (D 10) 1)) (D 7)) (I 0)) (I 1000000001)),false)],[((lt (.pr 0 (D 6) (I 0)) (I 1000000001)),false)],[((lt (.pr 0 (D 0) (I 0)) (.pr 0 (D 0) (I 0))),true)],[((lt (.pr 0 (.pr 4 (.pr 4 (D 6) (.pr 3 (.pr 2 (D 0) (.pr 0 (D 0) (I 0))) (D 7))) (.slit [10])) (I 0)) (I 1000000001)),false)],[((lt (.pr 0 (.pr 4 (D 6) (.pr 3 (.pr 2 (D 0) (.pr 0 (D 0) (I 0))) (D 7))) (I 0)) (I 1000000001)),false)],[((lt (bg (D 3)) (D 10)),false),((lt (D 10) (bg (D 3))),false),((eq (D 10) (bg (D 3))),false)],[((lt (.pr 0 (.pr 3 (.pr 2 (D 0) (.pr 0 (D 0) (I 0))) (D 7)) (I 0)) (I 1000000001)),false)]]
def JF:bo:=[((lt (bg (D 4)) (I 1)),false),((lt (D 10) (I 0)),false),((lt (D 7) (I 0)),false),((lt db (D 7)),false)]
abbrev BF:Sx:=.pr 0 (D 2) (I 0)
def lb12:ST:=(.ask (lt BF (I 4001)) (.leaf [(I 0),(D 0),(D 1),(D 2),(D 3),(D 4)]) (.leaf [(I 1),(I 1),(I 0),(I 0),(I 0),(I 0)]))
def lb13:ST:=(.ask (lt BF kF) (.leaf [(I 0),(D 0),(D 1),(D 3),(D 4),(.ap 54 (D 2) (I 0) (I 0)),(N (.ap 55 (D 2) (I 0) (I 0))),(N (.ap 56 (D 2) (I 0) (I 0)))]) .none)
def D0:List bo:=[[((lt BF kF),false)]]
def lb14:ST:=(.ask (eq (D 5) (I 0)) (.ask (lt (bg (D 4)) cW) (.ask (lt (bg (D 2)) cW) (.ask (eq (.ap 58 (D 4) (D 2) (D 3)) (I 0)) mh qc) .none) .none) mh)
def DZ:List bo:=[[((lt (bg (D 2)) cW),false)],[((lt (bg (D 4)) cW),false)]]
def W3:bS:=[((D 0),(D 0)),((D 1),(D 1))]
def Ha(F:Fn):gw:=(aG (lb0.tr F 3) (aG (lb1.tr F 3) (aG (lb2.tr F 3) (aG (lb3.tr F 6) (aG (lb4.tr F 4) (aG (lb5.tr F 6) (aG (lb6.tr F 8) (aG (lb7.tr F 10) (aG (aG (lb8.tr F 11) (jg 0 (gd (lb10.tr F 11) Cg))) (aG (lb12.tr F 5) (aG (lb13.tr F 7) (lb14.tr F 1))))))))))))
theorem EN{F:Fn}{s:List Dat}{x a0 a1 a2 a3 a4 a5 a6 a7 a8 a9 a10:Sx}:(ST.leaf [x,a0,a1,a2,a3,a4,a5,a6,a7,a8,a9,a10]).tr F 11 s=((@Sx.eval (VL F s) x).toNat,[@Sx.dat (VL F s) a0,@Sx.dat (VL F s) a1,@Sx.dat (VL F s) a2,@Sx.dat (VL F s) a3,@Sx.dat (VL F s) a4,@Sx.dat (VL F s) a5,@Sx.dat (VL F s) a6,@Sx.dat (VL F s) a7,@Sx.dat (VL F s) a8,@Sx.dat (VL F s) a9,@Sx.dat (VL F s) a10]):=rfl
section
variable{v:Val}{a b:Sx}
theorem uA:@Sx.dat v (bg a)=.int ((@Sx.dat v a).toL.length:Int):=rfl
theorem Vk:@Sx.dat v (.pr 0 a b)=.int ((@Sx.dat v a).toS.length:Int):=rfl
theorem uB:@Sx.dat v (.pr 4 a b)=.str ((@Sx.dat v a).toS++(@Sx.dat v b).toS):=rfl
theorem d21:@Sx.dat v (.pr 21 a (I 0))=.int (dW ((@Sx.dat v a).toI != 0)):=rfl
theorem uy{x c:Dat}:F0 57 x (.int ((6:Nat):Int)) c=.int (la x.toI):=f57
end
def A6:Dat:=.lst (X6.map fun x=>[.str x])
theorem iL:A6.toL.length=6:=rfl
theorem Et{k:Int}(h0:0≤k)(h6:k<6):∃x,x∈X6∧A6.cell k 0=.str x:=by
 obtain⟨n,rfl⟩:=Int.eq_ofNat_of_zero_le h0;have hn:n<6:=by omega
 match n,hn with
 |0,_=>exact⟨_,by simp [X6],rfl⟩
 |1,_=>exact⟨[32],by simp [X6],rfl⟩
 |2,_=>exact⟨[10],by simp [X6],rfl⟩
 |3,_=>exact⟨[32,47,42,32,97,32,42,47],by simp [X6],rfl⟩
 |4,_=>exact⟨[9,47,47,32,98,10],by simp [X6],rfl⟩
 |5,_=>exact⟨[9,13],by simp [X6],rfl⟩
def iN(w:Dat)(i:Nat):List UInt8:=if i<w.toL.length then(A6.cell (la (w.cell (i:Int) 0).toI) 0).toS else[]
theorem GK(w:Dat)(i:Nat):iN w i∈X6:=by unfold iN;split;{obtain⟨x,h1,h2⟩:=Et (nI (w.cell (i:Int) 0).toI).1 (nI _).2;rw[h2];exact h1};simp [X6]
theorem qX(w:Dat)(i:Nat):(iN w i).length≤8:=(vY _ (GK w i)).2.2
def SB(d w:Dat)(L:List (List Dat))(wide:List UInt8)(e:Int)(want:List (List Dat))(y:Dat)(i:Int):List Dat:=[d,w,.int 0,.lst L,A6,.int 1,.str wide,.int e,.lst want,y,.int i]
theorem D4{d w y:Dat}{L:List (List Dat)}{wide:List UInt8}{want:List (List Dat)}{e i n:Nat}{t:TokV}{l:List (List Dat)}(hd:L.drop i=ng (e+n) t::l)(h4:d.toS.length<1001)(hL:L.length≤1001)
 (hw:wide.length<100000)(hwt:want.length<100000)(hb:e+n+t.z≤d.toS.length):
 lb10.tr F0 11 (SB d w L wide e want y i)=(0,SB d w L (wide++((d.toS.take (e+n)).drop e++iN w i++(d.toS.take (e+n+t.z)).drop (e+n))) ((e+n+t.z:Nat):Int) (want++[ng (wide.length+((d.toS.take (e+n)).drop e++iN w i).length) t]) (.int 1) ((i+1:Nat):Int)):=by
 have hk:i<L.length:=by have:=congrArg List.length hd;rw[List.length_drop,List.length_cons]at this;omega
 have c0:(Dat.lst L).cell (i:Int) 0=.int t.k:=jd hd 0;have c1:(Dat.lst L).cell (i:Int) 1=.int ((e+n:Nat):Int):=jd hd 1;have c2:(Dat.lst L).cell (i:Int) 2=.int t.z:=jd hd 2;have c3:(Dat.lst L).cell (i:Int) 3=t.x:=jd hd 3;have c4:(Dat.lst L).cell (i:Int) 4=.int t.n:=jd hd 4;have c5:(Dat.lst L).cell (i:Int) 5=.lst t.b:=jd hd 5;have ha:bu .add .i64 ((e+n:Nat):Int) (t.z:Int)=((e+n+t.z:Nat):Int):=by rw[bG (by omega) (by omega)];omega
 have ha1:bu .add .i64 (i:Int) 1=((i+1:Nat):Int):=by rw[bG (by omega) (by omega)];omega
 have hp:=nI (w.cell (i:Int) 0).toI;have hx:=qX w i;have g1:((d.toS.take (e+n)).drop e).length≤1001:=by rw[List.length_drop,List.length_take];omega
 have g2:((d.toS.take (e+n+t.z)).drop (e+n)).length≤1001:=by rw[List.length_drop,List.length_take];omega
 unfold SB;by_cases hi:i<w.toL.length
 ·have ex:iN w i=(A6.cell (la (w.cell (i:Int) 0).toI) 0).toS:=(by unfold iN;rw[if_pos hi]);rw[ex]at hx⊢;simp only[lb10,aI,bO,bV,iw,y8,sL,ix,kA,cm,kJ,kH,fA,qv,tP,om,rv,Ej,S0,tQ,sI,dI,iP,cQ,tI,tS,tL,c0,c1,c2,c3,c4,c5,ha,ha1,fy,dg,iQ,lZ,uA,uy,Int.toNat_natCast,EN,dN,iL,uB,Vk,d21,dJ,d12,d14,dO,Dat.one,uR];repeat first
   |rw[if_pos (by first|omega|(simp only[cg];omega))]
   |rw[if_neg (by first|omega|(simp only[cg];omega))]
  simp only[ng,List.append_assoc,cg,List.append_nil,List.nil_append,List.length_nil,Nat.add_zero,Nat.add_assoc];rfl
 have ex:iN w i=[]:=by unfold iN;rw[if_neg hi]
 rw[ex]at hx⊢;simp only[lb10,aI,bO,bV,iw,y8,sL,ix,kA,cm,kJ,kH,fA,qv,tP,om,rv,Ej,S0,tQ,sI,dI,iP,cQ,tI,tS,tL,c0,c1,c2,c3,c4,c5,ha,ha1,fy,dg,iQ,lZ,uA,uy,Int.toNat_natCast,EN,dN,iL,uB,Vk,d21,dJ,d12,d14,dO,Dat.one,uR];repeat first
  |rw[if_pos (by first|omega|(simp only[cg];omega))]
  |rw[if_neg (by first|omega|(simp only[cg];omega))]
 simp only[ng,List.append_assoc,cg,List.append_nil,List.nil_append,List.length_nil,Nat.add_zero,Nat.add_assoc];rfl
theorem Ny{s:List UInt8}(h:0<s.length):Aq s=s++[10]:=by
 cases s with
 |nil=>cases h
 |cons=>rfl
theorem z8{d w y:Dat}{L:List (List Dat)}{wide:List UInt8}{want:List (List Dat)}{e i:Nat}(hi:i=L.length)(h4:d.toS.length<1001)(hL:L.length≤1001)(hw:wide.length<100000)(he:e≤d.toS.length):
 lb10.tr F0 11 (SB d w L wide e want y i)=(2,[w,.lst L,.str (wide++(Aq (d.toS.drop e)++iN w i)),.lst want,y,.int 0,.int 0,.int 0,.int 0,.int 0,.int 0]):=by
 have hp:=nI (w.cell (i:Int) 0).toI;have hx:=qX w i;have tk:d.toS.take d.toS.length=d.toS:=List.take_length;have g1:(d.toS.drop e).length=d.toS.length - e:=List.length_drop;unfold SB;by_cases hl:e<d.toS.length
 ·rw[Ny (by omega)];by_cases h:i<w.toL.length
  ·have ex:iN w i=(A6.cell (la (w.cell (i:Int) 0).toI) 0).toS:=(by unfold iN;rw[if_pos h]);rw[ex]at hx⊢;simp only[lb10,aI,bO,bV,iw,y8,sL,ix,kA,cm,kJ,kH,fA,qv,tP,om,rv,Ej,S0,tQ,sI,dI,cQ,tI,tS,tL,fy,dg,iQ,lZ,uA,uy,Int.toNat_natCast,EN,iL,uB,Kx,tk];repeat first
    |rw[if_pos (by first|omega|(simp only[cg,List.length_cons,List.length_nil];omega))]
    |rw[if_neg (by first|omega|(simp only[cg,List.length_cons,List.length_nil];omega))]
   simp only[List.append_assoc];rfl
  have ex:iN w i=[]:=(by unfold iN;rw[if_neg h]);rw[ex]at hx⊢;simp only[lb10,aI,bO,bV,iw,y8,sL,ix,kA,cm,kJ,kH,fA,qv,tP,om,rv,Ej,S0,tQ,sI,dI,cQ,tI,tS,tL,fy,dg,iQ,lZ,uA,uy,Int.toNat_natCast,EN,iL,uB,Kx,tk];repeat first
   |rw[if_pos (by first|omega|(simp only[cg,List.length_cons,List.length_nil];omega))]
   |rw[if_neg (by first|omega|(simp only[cg,List.length_cons,List.length_nil];omega))]
  simp only[List.append_assoc,List.append_nil];rfl
 have ed:d.toS.drop e=[]:=List.drop_eq_nil_iff.2 (by omega);rw[ed];by_cases h:i<w.toL.length
 ·have ex:iN w i=(A6.cell (la (w.cell (i:Int) 0).toI) 0).toS:=(by unfold iN;rw[if_pos h]);rw[ex]at hx⊢;simp only[lb10,aI,bO,bV,iw,y8,sL,ix,kA,cm,kJ,kH,fA,qv,tP,om,rv,Ej,S0,tQ,sI,dI,cQ,tI,tS,tL,fy,dg,iQ,lZ,uA,uy,Int.toNat_natCast,EN,iL,uB,Kx,tk,ed,List.append_nil];repeat first
   |rw[if_pos (by first|omega|(simp only[cg,List.length_cons,List.length_nil];omega))]
   |rw[if_neg (by first|omega|(simp only[cg,List.length_cons,List.length_nil];omega))]
  rfl
 have ex:iN w i=[]:=by unfold iN;rw[if_neg h]
 rw[ex]at hx⊢;simp only[lb10,aI,bO,bV,iw,y8,sL,ix,kA,cm,kJ,kH,fA,qv,tP,om,rv,Ej,S0,tQ,sI,dI,cQ,tI,tS,tL,fy,dg,iQ,lZ,uA,uy,Int.toNat_natCast,EN,iL,uB,Kx,tk,ed,List.append_nil];repeat first
  |rw[if_pos (by first|omega|(simp only[cg,List.length_cons,List.length_nil];omega))]
  |rw[if_neg (by first|omega|(simp only[cg,List.length_cons,List.length_nil];omega))]
 show _=(2,[w,.lst L,.str (wide++([]++[])),_,_,_,_,_,_,_,_]);rw[List.append_nil,List.append_nil];rfl
end
end Go.Tw.LX
set_option linter.all false
namespace Go.Tw.LX
noncomputable section
def To(d w:Dat)(s:List Dat):Prop:=∃L wide want y,∃e i:Nat,s=SB d w L wide e want y i∧Ch d e (L.drop i)∧i≤L.length∧e≤d.toS.length∧d.toS.length<1001∧L.length≤1001∧wide.length≤e+8*i∧want.length=i
def EB(w:Dat)(L:List (List Dat))(wide:List UInt8)(want:List (List Dat))(y:Dat):List Dat:=[w,.lst L,.str wide,.lst want,y,.int 0,.int 0,.int 0,.int 0,.int 0,.int 0]
theorem JC{d w:Dat}{s:List Dat}(h:To d w s):(∃L wide want y,lb10.tr F0 11 s=(2,EB w L wide want y))∨(∃s',lb10.tr F0 11 s=(0,s')∧To d w s'∧Cg s'<Cg s):=by
 obtain⟨L,wide,want,y,e,i,rfl,hc,hi,he,h4,hL,hw,hn⟩:=h;cases hd:L.drop i with
 |nil=>have:L.length≤i:=List.drop_eq_nil_iff.1 hd;exact .inl ⟨_,_,_,_,z8 (by omega) h4 hL (by omega) he⟩
 |cons r l=>
  have hk2:i<L.length:=(by have:=congrArg List.length hd;rw[List.length_drop,List.length_cons]at this;omega);rw[hd]at hc;cases hc with
  |@cons _ n t c _ g h0 hc ht hz hb k2=>refine .inr ⟨_,D4 hd h4 hL (by omega) (by omega) hb,⟨L,_,_,_,e+n+t.z,i+1,rfl,?_,hk2,hb,h4,hL,?_,?_⟩,?_⟩;{have:L.drop (i+1)=l:=(by rw[←List.drop_drop,hd];rfl);rw[this];exact k2};{have hx:=qX w i;simp only[cg,List.length_drop,List.length_take];omega};{rw[cg,hn];rfl};show L.length+1 - ((i+1:Nat):Int).toNat<L.length+1 - (i:Int).toNat;omega
theorem JB(d w:Dat):A7 (To d w) Cg (lb10.tr F0 11):=fun s hs h0=>by rcases JC hs with⟨_,_,_,_,h⟩|⟨s',h,h1,h2⟩;{rw[h]at h0;cases h0};rw[h];exact⟨h1,h2⟩
theorem Oc{d w:Dat}{L:List (List Dat)}(h4:d.toS.length<1001)(hL:L.length≤1001){e:Nat}{l:List (List Dat)}(h:Ch d e l):∀(i:Nat) (wide:List UInt8) (want:List (List Dat)) (y:Dat),L.drop i=l→i≤L.length→e≤d.toS.length→wide.length≤e+8*i→want.length=i→
 ∃y',gd (lb10.tr F0 11) Cg (SB d w L wide e want y i)=(2,EB w L (wide++Wd d.toS (iN w) e l i) (want++Vd d.toS (iN w) wide.length e l i) y'):=by
 induction h with
 |@nil e h g=>intro i wide want y hd hi he hw hn;have:L.length≤i:=List.drop_eq_nil_iff.1 hd;have b:=z8 (d:=d) (w:=w) (y:=y) (wide:=wide) (want:=want) (e:=e) (i:=i) (L:=L) (by omega) h4 hL (by omega) he;refine⟨y,?_⟩;rw[cA (by rw[b];simp),b];show _=(2,EB w L (wide++(Aq (d.toS.drop e)++iN w i)) (want++[]) y);rw[List.append_nil];rfl
 |@cons e n t c l g h0 hc ht hz hb k ih=>
  intro i wide want y hd hi he hw hn;have hk2:i<L.length:=(by have:=congrArg List.length hd;rw[List.length_drop,List.length_cons]at this;omega);have b:=D4 (w:=w) (y:=y) (wide:=wide) (want:=want) hd h4 hL (by omega) (by omega) hb;have hx:=qX w i;have hj:To d w (SB d w L wide e want y i):=⟨L,wide,want,y,e,i,rfl,by rw[hd];exact .cons g h0 hc ht hz hb k,hi,he,h4,hL,hw,hn⟩;rw[iC (JB d w) hj (by rw[b]),b];obtain⟨y',h2⟩:=ih (i+1) (wide++((d.toS.take (e+n)).drop e++iN w i++(d.toS.take (e+n+t.z)).drop (e+n))) (want++[ng (wide.length+((d.toS.take (e+n)).drop e++iN w i).length) t]) (.int 1)
   (by rw[←List.drop_drop,hd];rfl) hk2 hb (by simp only[cg,List.length_drop,List.length_take];omega) (by rw[cg,hn];rfl)
  refine⟨y',h2.trans ?_⟩;rw[yz,Eu,@List.length_append _ wide];simp only[List.append_assoc,List.cons_append,List.nil_append]
theorem Dk{d w:Dat}{L:List (List Dat)}(h4:d.toS.length<1001)(h:Ch d 0 L)(hw:(Wd d.toS (iN w) 0 L 0).length<4001):Ch (.str (Wd d.toS (iN w) 0 L 0)) 0 (Vd d.toS (iN w) 0 0 L 0):=
 Tu (D:=.str (Wd d.toS (iN w) 0 L 0)) (GK w) (by omega) (by show(Wd d.toS (iN w) 0 L 0).length<_;omega) h 0 0 (bP _) rfl
theorem JE{d w:Dat}:lb2.tr F0 3 [d,w,.int 0]=if d.toS.length<1001∧w.toL.length<1001 then(0,[d,w,.int 0])else(1,[.int 1,.int 0,.int 0]):=by simp only[lb2,aI,bO,cQ,sL,cm,kJ,sI];by_cases h1:d.toS.length<1001;{by_cases h2:w.toL.length<1001;{rw[if_pos (by omega),if_pos (by omega),if_pos ⟨h1,h2⟩];rfl};rw[if_pos (by omega),if_neg (by omega),if_neg (fun h=>h2 h.2)];rfl};rw[if_neg (by omega),if_neg (fun h=>h1 h.1)];rfl
theorem JD{d w:Dat}{L:List (List Dat)}{er ea:Int}(h4:d.toS.length<1001)(hs:∀b c,F0 54 d b c=.lst L∧F0 55 d b c=.int er∧F0 56 d b c=.int ea):lb3.tr F0 6 [d,w,.int 0]=(0,[d,w,.int 0,.lst L,.int er,.int ea]):=by simp only[lb3,aI,bO,cQ,cm,sI,X0,dN,iQ,lZ,dI,(hs _ _).1,(hs _ _).2.1,(hs _ _).2.2,tI,kJ];rw[if_pos (by omega)];rfl
theorem D1{w y:Dat}{L want M:List (List Dat)}{wide:List UInt8}(h4:wide.length<4001)(hs:∀b c,F0 54 (.str wide) b c=.lst M∧F0 55 (.str wide) b c=.int 0∧F0 56 (.str wide) b c=.int 0):lb13.tr F0 7 [w,.lst L,.str wide,.lst want,y]=(0,[w,.lst L,.lst want,y,.lst M,.int 0,.int 0]):=by simp only[lb13,aI,bO,cQ,cm,kJ,kH,fA,qv,sI,Tq,dN,iQ,lZ,dI,(hs _ _).1,(hs _ _).2.1,(hs _ _).2.2,tI,tS];rw[if_pos (by omega)];rfl
theorem D2{w y:Dat}{L want:List (List Dat)}{wide:List UInt8}{z:List Dat}:lb12.tr F0 5 (w:: .lst L:: .str wide:: .lst want::y::z)=if wide.length<4001 then(0,[w,.lst L,.str wide,.lst want,y])else(1,[.int 1,.int 0,.int 0,.int 0,.int 0]):=by simp only[lb12,aI,bO,cQ,kH,sI,tS];by_cases h:wide.length<4001;{rw[if_pos (by omega),if_pos h];rfl};rw[if_neg (by omega),if_neg h];rfl
theorem MZ{w y:Dat}{L M:List (List Dat)}(h:M.length<4002):lb14.tr F0 1 [w,.lst L,.lst M,y,.lst M,.int 0,.int 0]=(1,[.int 1]):=by simp only[lb14,aI,bO,bV,WA,sL,qv,kH,sI,tI,tL,iQ,dI];rw[f58 (by show M.length<_;omega),if_pos trivial,if_pos (by omega),if_pos (by omega),if_neg (by decide)];rfl
theorem RV(d w:Dat):(Ha F0 [d,w]).1=1∧aP (Ha F0 [d,w]).2 0=.int 1:=by
 unfold Ha;rw[aF (f:=lb0.tr F0 3) (s':=[d,w,.int 0]) rfl,aF (f:=lb1.tr F0 3) (s':=[d,w,.int 0]) rfl];have e2:=@JE d w;by_cases h4:d.toS.length<1001∧w.toL.length<1001
 ·rw[if_pos h4]at e2;rw[aF e2];obtain⟨L,er,ea,hs,h⟩:=Hn (d:=d) (by omega);rw[aF (JD h4.1 hs)];rcases h with⟨rfl,rfl,hc⟩|⟨h1,_⟩
  ·have e4:lb4.tr F0 4 [d,w,.int 0,.lst L,.int 0,.int 0]=(0,[d,w,.int 0,.lst L]):=rfl;rw[aF e4,aF (f:=lb5.tr F0 6) (s':=[d,w,.int 0,.lst L,A6,.int 1]) rfl,aF (f:=lb6.tr F0 8) (s':=[d,w,.int 0,.lst L,A6,.int 1,.str [],.int 0]) rfl,
    aF (f:=lb7.tr F0 10) (s':=[d,w,.int 0,.lst L,A6,.int 1,.str [],.int 0,.lst [],.int 0]) rfl]
   have hL:=hc.len;obtain⟨y',e9⟩:=Oc (w:=w) h4.1 (by omega) hc 0 [] [] (.int 0) rfl (bP _) (bP _) (bP _) rfl;have e8:aG (lb8.tr F0 11) (jg 0 (gd (lb10.tr F0 11) Cg)) [d,w,.int 0,.lst L,A6,.int 1,.str [],.int 0,.lst [],.int 0]=(0,EB w L (Wd d.toS (iN w) 0 L 0) (Vd d.toS (iN w) 0 0 L 0) y'):=(by rw[aF (f:=lb8.tr F0 11) (s':=SB d w L [] (0:Nat) [] (.int 0) (0:Nat)) rfl];exact eO e9);rw[aF e8];have e12:lb12.tr F0 5 (EB w L (Wd d.toS (iN w) 0 L 0) (Vd d.toS (iN w) 0 0 L 0) y')=_:=@D2 w y' L (Vd d.toS (iN w) 0 0 L 0) (Wd d.toS (iN w) 0 L 0) [.int 0,.int 0,.int 0,.int 0,.int 0,.int 0];by_cases hw:(Wd d.toS (iN w) 0 L 0).length<4001;{rw[if_pos hw]at e12;have e13:=Du (d:=.str (Wd d.toS (iN w) 0 L 0)) hw (Dk h4.1 hc hw);rw[aF e12,aF (D1 hw e13),MZ (by rw[GN];omega)];exact⟨rfl,rfl⟩};rw[if_neg hw]at e12;rw[eI e12 (by simp)];exact⟨rfl,rfl⟩
  have e4:lb4.tr F0 4 [d,w,.int 0,.lst L,.int er,.int ea]=(1,[.int 1,.int 0,.int 0,.int 0]):=(by simp only[lb4,aI,bV,Mb,sI,tI];rw[if_neg h1];rfl);rw[eI e4 (by simp)];exact⟨rfl,rfl⟩
 rw[if_neg h4]at e2;rw[eI e2 (by simp)];exact⟨rfl,rfl⟩
end
end Go.Tw.LX
