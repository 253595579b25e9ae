/-
  A part of the law's proof over the abstract evaluator. Conditions: those of each theorem, as it states them.
-/
import Derived.Test.YtlagbijmfchkeaaGreatD1
import Derived.Test.YtlagbijmfchkeaaGreatD2
import Derived.Test.YtlagbijmfchkeaaGreatD3
import Derived.Test.YtlagbijmfchkeaaGreatD4
import Derived.Test.YtlagbijmfchkeaaGreatC3
import Derived.Test.YtlagbijmfchkeaaGreatA3
set_option linter.all false
namespace Go.Proofs.YtlagbijmfchkeaaGreat
open Go.Tw Go.Tw.NE
noncomputable section
def ST.eqAt(i j:Nat):ST→Bool
 | .leaf l=>(cu l i).same (cu l j)&&(Nat.blt i l.length&&Nat.blt j l.length)
 | .ask _ t e=>ST.eqAt i j t&&ST.eqAt i j e
 | .none=>true
theorem eqAt_ok{v:Val}{i j:Nat}:∀{sp:ST},ST.eqAt i j sp=true→sp.val v i=sp.val v j
 | .leaf l,h=>by simp only[ST.eqAt,ak]at h;obtain⟨h1,h2,h3⟩:=h;have h2:=aL h2;have h3:=aL h3;have e:=Sx.same_eq h1;rw[bV,bV,bh h2,bh h3]at e;simp only[ST.val,bh h2,bh h3];exact congrArg (@Sx.dat v) e
 | .ask b t e,h=>by simp only[ST.eqAt,ak]at h;simp only[ST.val,eqAt_ok h.1,eqAt_ok h.2]
 | .none,_=>rfl
theorem LN:∀a b c,F0 63 a b c=spPut.val (VL Pk a.one) 2:=fun a b c=>by
 have e:F0 63=Lx 63:=by rw[wD (by omega)];show jH (jH Lx 64 spPut 0) 65 spPut 1 63=Lx 63;rw[fA (by omega),fA (by omega)]
 rw[e];show jH Pk 63 spPut 2 63 a b c=_;exact if_pos rfl
theorem abk:∀a b c,F0 64 a b c=spPut.val (VL Lx a.one) 0:=fun a b c=>by
 have e:F0 64=Ge 64:=by rw[wD (by omega)];show jH Ge 65 spPut 1 64=Ge 64;rw[fA (by omega)]
 rw[e];show jH Lx 64 spPut 0 64 a b c=_;exact if_pos rfl
theorem Q6:∀a b c,F0 65 a b c=spPut.val (VL Ge a.one) 1:=fun a b c=>by rw[wD (by omega)];show jH Ge 65 spPut 1 65 a b c=_;exact if_pos rfl
theorem D8{f:Nat}(h:f<65):F0 f=Ge f:=by rw[wD (by omega)];show jH Ge 65 spPut 1 f=Ge f;exact fA h
theorem Pl{f:Nat}(h:f<64):F0 f=Lx f:=(D8 (by omega)).trans (by show jH Lx 64 spPut 0 f=Lx f;exact fA h)
theorem d63{v:Val}(hF:v.fn=F0):@Sx.dat v Hx=spPut.val v 2:=qK hF (fun f hf=>ur hf) LN (by kernel_rfl)
theorem d64{v:Val}(hF:v.fn=F0):@Sx.dat v RQ=spPut.val v 0:=qK hF (fun f hf=>Pl hf) abk (by kernel_rfl)
theorem d65{v:Val}(hF:v.fn=F0):@Sx.dat v r65=spPut.val v 1:=qK hF (fun f hf=>D8 hf) Q6 (by kernel_rfl)
theorem RU{v:Val}(hF:v.fn=F0){sp:ST}(h:∀i,spPut.val v i=sp.val v i):∀(i:Nat) (t:Sx),rX[i]? =some t→@Sx.dat v t=sp.val v i:=fun i t ht=>by
 rw[←h i]
 match i,ht with
 |0,ht=>simp [rX]at ht;subst ht;exact d64 hF
 |1,ht=>simp [rX]at ht;subst ht;exact qo (d65 hF) (by kernel_rfl)
 |2,ht=>simp [rX]at ht;subst ht;exact d63 hF
 |3,ht=>simp [rX]at ht;subst ht;exact(d64 hF).trans (eqAt_ok (by kernel_rfl))
 |i+4,ht=>simp [rX]at ht
theorem bm{v:Val}(hF:v.fn=F0){op:AV}{sp:ST}(h:∀i,spPut.val v i=sp.val v i){cores:List aD}{p:aD}(hx:iR op cores sp p=true)(hco:∀q∈cores,¬@Holds v q)(hp:@Holds v p):
 HR 0 0 79 v OU (ax (CA op)) (ag b0 [] R0) .ret v (ax L3) (ag b0 Sq 1025):=
 mK hF bO hx hco hp (RU hF h)
def Y0(q:aD):Bool:=match q with
 |[(.cmp .eql a (.lit n),true),(.cmp .lss (.lit j) c,false)]=>a.same (ae (D 5))&&(c.same (ae (D 5))&&decide (j<n))
 |_=>false
theorem Ij:put28c.all Y0=true:=by kernel_rfl
theorem Ik{v:Val}:∀q∈put28c,¬@Holds v q:=fun q hq hh=>by have h:=List.all_eq_true.1 Ij q hq;unfold Y0 at h;split at h;{rename_i a n j c;simp only[ak]at h;obtain⟨h1,h2,h3⟩:=h;have h1:=Sx.same_eq h1;have h2:=Sx.same_eq h2;subst h1;subst h2;have h3:=of_decide_eq_true h3;obtain⟨f0,hh⟩:=aF hh;obtain⟨f1,_⟩:=aF hh;have g0:=uH f0;have g1:=fQ f1;have e0:(@Sx.dat v (.lit n)).toI=n:=rfl;have e1:(@Sx.dat v (.lit j)).toI=j:=rfl;rw[e0]at g0;rw[e1]at g1;omega};cases h
theorem Zb(k:Int):cM R0 0 [] (ax (CA (SI 0))) (ag b0 [] R0) (CA (.int .i64 k)) [] R0=some [(N (D 0),.lit k),(N (D 1),N (D 1)),(N (D 2),N (D 2)),(N (D 3),N (D 3)),(N (D 4),N (D 4)),(D 5,D 5)]:=by rfl
def conPut:Con:={f:=31,args:=[.agg [SI 0,SI 1,SI 2,SI 3,SI 4,LI (D 5)]],pre:=[],res:=.tup [LV 1024 [.int .u8] RQ,.sym .i64 r65],objs:=[LB Hx RQ]}
theorem M3{v:Val}(hF:v.fn=F0):HR 0 0 79 v OU (ax (CA (SI 0))) (ag b0 [] R0) .ret v (ax L3) (ag b0 Sq 1025):=by
 by_cases hout:(@Sx.dat v (D 0)).toI<0∨33≤(@Sx.dat v (D 0)).toI;{refine bm hF (sp:=put33) (fun i=>gZ (by show _∨(0:Int)+33≤_;omega) i) aca (fun q hq hh=> ?_) aC;simp only[Ic,cP,dQ,or_false]at hq;subst hq;obtain⟨f0,hh⟩:=aF hh;obtain⟨f1,_⟩:=aF hh;have g0:=fQ f0;have g1:=jz f1;rw[dI]at g0 g1;omega};obtain⟨j,hj,hj2⟩:∃j:Nat,j<33∧(@Sx.dat v (D 0)).toI=(j:Int):=⟨((@Sx.dat v (D 0)).toI).toNat,by omega,by omega⟩;have hsp:∀t,putL[j]? =some t→∀i,spPut.val v i=t.val v i:=fun t ht i=>ju ht (by rw[hj2];omega) i;refine HT.pre (aP _) (aI (nr:=0) (v:=v) (v':=v) base0 (Zb (j:Int)) (aa (show Dat.int (@Sx.dat v (D 0)).toI=Dat.int (j:Int) by rw[hj2]) (aa rfl (aa rfl (aa rfl (aa rfl (aa rfl al))))))) ?_;have hop:∀k:Nat,j=k→AV.int .i64 (j:Int)=ja k:=fun k hk=>by subst hk;rfl
 match j,hj with
 |0,_=>exact bm hF (hsp put0 rfl) xP0 (fun q hq=>by cases hq) aC
 |1,_=>exact bm hF (hsp R4 rfl) xP1 (fun q hq=>by cases hq) aC
 |2,_=>exact bm hF (hsp R3 rfl) xP2 (fun q hq=>by cases hq) aC
 |3,_=>exact bm hF (hsp R2 rfl) xP3 (fun q hq=>by cases hq) aC
 |4,_=>exact bm hF (hsp R1 rfl) xP4 (fun q hq=>by cases hq) aC
 |5,_=>exact bm hF (hsp RZ rfl) xP5 (fun q hq=>by cases hq) aC
 |6,_=>exact bm hF (hsp RY rfl) xP6 (fun q hq=>by cases hq) aC
 |7,_=>exact bm hF (hsp RX rfl) xP7 (fun q hq=>by cases hq) aC
 |8,_=>exact bm hF (hsp RW rfl) xP8 (fun q hq=>by cases hq) aC
 |9,_=>exact bm hF (hsp RV rfl) xP9 (fun q hq=>by cases hq) aC
 |10,_=>exact bm hF (hsp IE rfl) acz (fun q hq=>by cases hq) aC
 |11,_=>exact bm hF (hsp ID rfl) acy (fun q hq=>by cases hq) aC
 |12,_=>exact bm hF (hsp IC rfl) acx (fun q hq=>by cases hq) aC
 |13,_=>exact bm hF (hsp IB rfl) acw (fun q hq=>by cases hq) aC
 |14,_=>exact bm hF (hsp IA rfl) acv (fun q hq=>by cases hq) aC
 |15,_=>exact bm hF (hsp Iz rfl) acu (fun q hq=>by cases hq) aC
 |16,_=>exact bm hF (hsp Iy rfl) acs (fun q hq=>by cases hq) aC
 |17,_=>exact bm hF (hsp Ix rfl) acr (fun q hq=>by cases hq) aC
 |18,_=>exact bm hF (hsp Iw rfl) acq (fun q hq=>by cases hq) aC
 |19,_=>exact bm hF (hsp Iv rfl) acp (fun q hq=>by cases hq) aC
 |20,_=>exact bm hF (hsp Iu rfl) aco (fun q hq=>by cases hq) aC
 |21,_=>exact bm hF (hsp It rfl) acn (fun q hq=>by cases hq) aC
 |22,_=>exact bm hF (hsp Is rfl) acm (fun q hq=>by cases hq) aC
 |23,_=>exact bm hF (hsp Ir rfl) ack (fun q hq=>by cases hq) aC
 |24,_=>exact bm hF (hsp Iq rfl) acj (fun q hq=>by cases hq) aC
 |25,_=>exact bm hF (hsp Ip rfl) aci (fun q hq=>by cases hq) aC
 |26,_=>exact bm hF (hsp Io rfl) ach (fun q hq=>by cases hq) aC
 |27,_=>exact bm hF (hsp Im rfl) acg (fun q hq=>by cases hq) aC
 |28,_=>
  by_cases hl:(@Sx.dat v (ae (D 5))).toI<9
  ·obtain⟨n,hn,hn2⟩:∃n:Nat,n<9∧(@Sx.dat v (ae (D 5))).toI=(n:Int):=by
    have:0≤(@Sx.dat v (ae (D 5))).toI:=Int.natCast_nonneg _;exact⟨((@Sx.dat v (ae (D 5))).toI).toNat,by omega,by omega⟩
   have hs2:∀t,[oU,oT,oS,oR,oQ,oP,oO,oN,oM][n]? =some t→∀i,spPut.val v i=t.val v i:=fun t ht i=>(by rw[hsp put28 rfl i];exact ju ht (by rw[hn2];omega) i);have hp:∀x:Int,x=(n:Int)→@Holds v [(eq (ae (D 5)) (I x),true)]:=fun x hx=>af (N9 (by show(@Sx.dat v (ae (D 5))).toI=x;rw[hn2,hx])) aC;have hno:∀q∈put28c,¬@Holds v q:=Ik
   match n,hn with
   |0,_=>exact bm hF (hs2 oU rfl) Rj hno (hp 0 rfl)
   |1,_=>exact bm hF (hs2 oT rfl) Ri hno (hp 1 rfl)
   |2,_=>exact bm hF (hs2 oS rfl) Rh hno (hp 2 rfl)
   |3,_=>exact bm hF (hs2 oR rfl) Rg hno (hp 3 rfl)
   |4,_=>exact bm hF (hs2 oQ rfl) Rf hno (hp 4 rfl)
   |5,_=>exact bm hF (hs2 oP rfl) Re hno (hp 5 rfl)
   |6,_=>exact bm hF (hs2 oO rfl) Rd hno (hp 6 rfl)
   |7,_=>exact bm hF (hs2 oN rfl) Rc hno (hp 7 rfl)
   |8,_=>exact bm hF (hs2 oM rfl) Rb hno (hp 8 rfl)
   |n+9,hn=>exact absurd hn (by omega)
  refine bm hF (sp:=put28_o) (fun i=> ?_) Ra (fun q hq=>by cases hq) (af (jw (by rw[dI];exact hl)) aC);rw[hsp put28 rfl i];exact gZ (.inr (by show(0:Int)+9≤_;omega)) i
 |29,_=>exact bm hF (hsp Ii rfl) acf (fun q hq=>by cases hq) aC
 |30,_=>exact bm hF (hsp Ih rfl) ace (fun q hq=>by cases hq) aC
 |31,_=>exact bm hF (hsp Ig rfl) acd (fun q hq=>by cases hq) aC
 |32,_=>exact bm hF (hsp Ie rfl) acb (fun q hq=>by cases hq) aC
 |j+33,hj=>exact absurd hj (by omega)
theorem wb:conPut.Sound F0 P ba b0 R0:=by refine bX (fn:=Tryz.f31) (code:=OU) Tryz.func31 (by rfl) (by kernel_rfl) (by kernel_rfl) fun v hF hpre=> ?_;exact⟨.ret,L3,_,_,.inl rfl,M3 hF,by rfl,rfl⟩
end
end Go.Proofs.YtlagbijmfchkeaaGreat
namespace Go.Proofs.YtlagbijmfchkeaaGreat
open Go.Tw Go.Tw.NE
noncomputable section
def C6:List Sh:=[cX,cX,cX,cX,cX,bo]
def LC(x:Sx):AV:=.opq 0 gid 0 (.slc C6) x (.lit 0)
def S6:AV:=.agg [SI 0,SI 1,SI 2,SI 3,SI 4,LI (D 5)]
theorem Nv:∀c∈[conPut],c.Sound F0 P ba b0 R0:=dE wb
theorem JO:∀c∈([]:List HCon),c.Sound F0 P ba b0 R0:=n8
def cln:Code:=match Tryz.f16.body with
 |some c=>c
 |none=>.skip
abbrev gw:AV:=.sym .i64 (.dvar 0)
abbrev sS:AV:=.sym .i64 (.dvar 1)
abbrev sR:AV:=.sym .i64 (.dvar 3)
def lnA:Tl:=⟨[(0,.agg [gw,sS,qM,sR,qf,.opq 0 1023 0 bo (.dvar 5) (.lit 0)])],[],1024⟩
def lnT1:Tl:=⟨[(2,gw)],[],1024⟩
def lnT:Nat→Tl:=fun w=>match w with
 |1=>lnT1
 |_=>lnA
theorem Tq{J:List Dat→Prop}:PX P ba b0 R0 0 0 12 F0 J cln lnA lnA lnT (ln0.tr F0 1):=
 PX.tree (pins:=[]) base0 (by decide) follows (cons:=[conPut]) Nv (af:=[]) JO (cores:=[]) (fun _ _ _ h=>by cases h) (inv:=[]) (fun _ _=>aC) (by kernel_rfl)
theorem Tk:cM R0 0 [] (ax lnA.l) (ag b0 lnA.o lnA.nx) lnA.l lnA.o lnA.nx=some adk:=by kernel_rfl
def lnZ:Tl:=⟨[(2,.sym .i64 (.pr 7 (.ap 63 (.pr 12 (.dvar 0) (.pr 12 (.dvar 1) (.pr 12 (.dvar 2) (.pr 12 (.dvar 3) (.pr 12 (.dvar 4) (.pr 12 (.dvar 5) (.pr 14 (.lit 0) (.lit 0)))))))) (.lit 0) (.lit 0)) (.lit 0)))],[],1024⟩
theorem Tm:cM R0 0 [] (ax lnT1.l) (ag b0 lnT1.o lnT1.nx) lnZ.l lnZ.o lnZ.nx=some adj:=by kernel_rfl
def conLen:Con:={f:=16,args:=[S6],pre:=[],res:=.sym .i64 (ae Hx),objs:=[]}
theorem wc:conLen.Sound F0 P ba b0 R0:=by
 refine bX (fn:=Tryz.f16) (code:=cln) Tryz.func16 (by rfl) (by kernel_rfl) (by kernel_rfl) fun v hF hpre=> ?_;refine⟨.ret,lnZ.l,_,_,.inl rfl,?_,by rfl,rfl⟩;let s:List Dat:=(List.range 6).map fun i=>@Sx.dat v (D i);have hs:∀i,i<6→@Sx.dat (VL F0 s) (D i)=@Sx.dat v (D i):=fun i hi=>by
  match i,hi with
  |0,_=>rfl
  |1,_=>rfl
  |2,_=>rfl
  |3,_=>rfl
  |4,_=>rfl
  |5,_=>rfl
 have h:=Tq (J:=fun _=>True) s trivial;refine HT.pre (aP _) (aI (v:=v) (v':=VL F0 s) base0 Tk (aa rfl (aa rfl (aa rfl (aa rfl (aa rfl (aa rfl al))))))) (HT.retell (aP _) h (aI (v':=v) base0 Tm ?_));refine aa (gH ?_) al;have e:ah (ln0.tr F0 1 s).2 0=@Sx.dat (VL F0 s) (N (ae Hx)):=rfl;show(ah (ln0.tr F0 1 s).2 0).toI=(@Sx.dat v (ae Hx)).toI;have e2:spPut.val (VL F0 s) 2=spPut.val v 2:=ST.okB_val (nv:=6) (nf:=63) (fun i hi=>hs i hi) (fun f _=>by rw[hF];rfl) 2 (by kernel_rfl);rw[e,dN,dL,dL,d63 rfl,d63 hF,e2]
def ST.lenAt(i n:Nat):ST→Bool
 | .leaf l=>match growX.litN (cu l i)with
  |some k=>Nat.ble k n&&Nat.blt i l.length
  |Option.none=>false
 | .ask _ t e=>ST.lenAt i n t&&ST.lenAt i n e
 | .none=>true
theorem ta{v:Val}{i n:Nat}:∀{sp:ST},ST.lenAt i n sp=true→(sp.val v i).toL.length≤n
 | .leaf l,h=>by simp only[ST.lenAt]at h;split at h;{rename_i k hk;simp only[ak]at h;have h1:=aA h.1;have h2:=aL h.2;have:=rH (v:=v) hk;rw[bV,bh h2]at this;simp only[ST.val,bh h2];exact Nat.le_trans this h1};cases h
 | .ask b t e,h=>by simp only[ST.lenAt,ak]at h;simp only[ST.val];cases @Bx.eval v b;{exact ta h.2};exact ta h.1
 | .none,_=>aP _
theorem rD(a b c:Dat):(F0 63 a b c).toL.length≤16:=by rw[LN];exact ta (by kernel_rfl)
theorem pq:∀c∈[conPut],c.Sound F0 P ba b0 R0:=dE wb
theorem mh:∀c∈([]:List HCon),c.Sound F0 P ba b0 R0:=n8
def FI:Code:=match Tryz.f22.body with
 |some c=>c
 |none=>.skip
abbrev C1:Sh:=.slc [cX,cX,cX,cX,cX,bo]
abbrev vn:AV:=.opq 0 1023 0 C1 (.dvar 0) (.lit 0)
abbrev iX:List (Nat×AV):=[(0,vn)]
def jnA:Tl:=⟨iX,[],1024⟩
abbrev CX:List (Nat×Ob):=[(1024,.opq 2 0 1023 n4 (.dvar 0) (.dvar 1) [] 5)]
abbrev CW:AV:=.opq 2 1024 0 n4 (.lit 0) (.dvar 1)
def jnT1:Tl:=⟨[(2,CW),(3,qM)],CX,1025⟩
def ado:Tl:=⟨[(4,CW)],CX,1025⟩
def WA:Nat→Tl:=fun w=>match w with
 |1=>jnT1
 |2=>ado
 |_=>jnA
def ZS:Tl:=⟨iX,[],1024⟩
theorem TX{J:List Dat→Prop}:PX P ba b0 R0 0 0 31 F0 J (cl FI) jnA ZS WA (jn0.tr F0 1):=
 PX.tree (pins:=[]) base0 (by decide) follows (cons:=[conPut]) pq (af:=[]) mh (cores:=[]) (fun _ _ _ h=>by cases h) (inv:=[]) (fun _ _=>aC) (by kernel_rfl)
def ZR:Tl:=⟨[(0,vn),(4,.opq 2 1024 0 n4 (.lit 0) (.dvar 2))],[(1024,.opq 2 0 1023 n4 (.dvar 1) (.dvar 2) [] 5)],1025⟩
theorem TW{J:List Dat→Prop}:PX P ba b0 R0 0 0 31 F0 J (cl (cr FI)) ZS ZR WA (jn1.tr F0 3):=
 PX.tree (pins:=[]) base0 (by decide) follows (cons:=[conPut]) pq (af:=[]) mh (cores:=[]) (fun _ _ _ h=>by cases h) (inv:=[]) (fun _ _=>aC) (by kernel_rfl)
abbrev HV:AV:=.opq 0 1023 0 C1 (.dvar 2) (.lit 0)
def TR:Tl:=⟨[(4,CW),(9,HV),(10,CL),(11,sR)],CX,1025⟩
theorem TV{J:List Dat→Prop}:PX P ba b0 R0 0 0 31 F0 J (cl (cl (cr (cr FI)))) ZR TR WA (jn2.tr F0 4):=
 PX.tree (pins:=[]) base0 (by decide) follows (cons:=[conPut]) pq (af:=[]) mh (cores:=[]) (fun _ _ _ h=>by cases h) (inv:=[]) (fun _ _=>aC) (by kernel_rfl)
theorem TU{J:List Dat→Prop}(hco:∀s,J s→∀q∈Kb,¬@Holds (VL F0 s) q)(hinv:∀s,J s→@Holds (VL F0 s) zB):PX P ba b0 R0 0 0 31 F0 J (cl (cl (cr (cl (cr (cr FI)))))) TR TR WA (jn4.tr F0 4):=
 PX.tree (pins:=[]) base0 (by decide) follows (cons:=[conPut]) pq (af:=[]) mh (cores:=Kb) hco (inv:=zB) hinv (by kernel_rfl)
def TQ:Tl:=⟨[(4,CW)],CX,1025⟩
theorem TT{J:List Dat→Prop}:PX P ba b0 R0 0 0 31 F0 J (cr (cr (cr FI))) TQ TQ WA (jn6.tr F0 3):=
 PX.tree (pins:=[]) base0 (by decide) follows (cons:=[conPut]) pq (af:=[]) mh (cores:=[]) (fun _ _ _ h=>by cases h) (inv:=[]) (fun _ _=>aC) (by kernel_rfl)
theorem TN:cM R0 0 [] (ax jnA.l) (ag b0 jnA.o jnA.nx) jnA.l jnA.o jnA.nx=some adp:=by kernel_rfl
def jnZ:Tl:=⟨[(2,.opq 2 1024 0 n4 (.lit 0) (.ap 68 (.dvar 0) (.lit 0) (.lit 0))),(3,.sym .i64 (.ap 69 (.dvar 0) (.lit 0) (.lit 0)))],[(1024,.opq 2 0 1023 n4 (.ap 67 (.dvar 0) (.lit 0) (.lit 0)) (.ap 68 (.dvar 0) (.lit 0) (.lit 0)) [] 5)],1025⟩
theorem TO:cM R0 0 [⟨1024,1024,0,0,0⟩] (ax jnT1.l) (ag b0 jnT1.o jnT1.nx) jnZ.l jnZ.o jnZ.nx=some ZQ:=by kernel_rfl
theorem ZP:FI=(.seq (cl FI) (.seq (cl (cr FI)) (.seq (.seq (cl (cl (cr (cr FI)))) (.block 0 (.loop (cl (cl (cr (cl (cr (cr FI))))))))) (cr (cr (cr FI)))))):=by kernel_rfl
def jP(s:List Dat):Prop:=(ah s 0).toL.length≤200
def jQ(s:List Dat):Prop:=jP s∧(ah s 1).toL.length=0
def jR(s:List Dat):Prop:=(ah s 2).toL.length≤200∧(ah s 0).toL.length=0∧ah s 3=.int 0
def Ga(s0:List Dat)(k:Nat)(s:List Dat):Prop:=(ah s 0).toL.length≤16*k
theorem tf:jn4.rngX 2 3 4 [] [2] 0 2=true:=by kernel_rfl
theorem nN:jn4.deadsOk Kb zB=true:=by kernel_rfl
theorem ij(s:List Dat)(h:AtR jR Ga 2 3 [] [2] 0 200 s):∀q∈Kb,¬@Holds (VL F0 s) q:=fun q hq hh=>by obtain⟨s0,k,a,r,i⟩:=h;simp only[Kb,cP,dQ,or_false]at hq;rcases hq with rfl|rfl;{have g:=fQ (aF hh).1;rw[dL,dI,dA]at g;refine g ?_;have h2:=rD (@Sx.dat (VL F0 s) (.pr 12 (.cell (D 2) (D 3) 0) (.pr 12 (.cell (D 2) (D 3) 1) (.pr 12 (.cell (D 2) (D 3) 2) (.pr 12 (.cell (D 2) (D 3) 3) (.pr 12 (.cell (D 2) (D 3) 4) (.pr 12 (.cell (D 2) (D 3) 5) (.pr 14 (I 0) (I 0))))))))) (@Sx.dat (VL F0 s) (I 0)) (@Sx.dat (VL F0 s) (I 0));omega};have g:=fQ (aF hh).1;rw[dL,dI,dD]at g;unfold Ga at i;have:=r.2.1;have:=r.2.2.1;omega
theorem fB(s:List Dat)(h:AtR jR Ga 2 3 [] [2] 0 200 s):@Holds (VL F0 s) zB:=by obtain⟨s0,k,a,r,i⟩:=h;refine af (jw ?_) aC;rw[dI,dD,r.1];show ¬(k:Int)<0;omega
def T0:Sx→Bool
 | .pr f a y=>Nat.beq f 9&&(a.same (D 0)&&(match y with
  | .ap k _ _ _=>Nat.beq k 63
  |_=>false))
 |_=>false
theorem NU{x:Sx}(h:T0 x=true):∃y1 y2 y3,x=.pr 9 (D 0) (.ap 63 y1 y2 y3):=by unfold T0 at h;split at h;{rename_i f a y;simp only[ak]at h;obtain⟨h1,h2,h3⟩:=h;split at h3;{rename_i k y1 y2 y3;have e1:=ad h1;have e2:=Sx.same_eq h2;have e3:=ad h3;subst e1 e2 e3;exact⟨y1,y2,y3,rfl⟩};cases h3};cases h
theorem Kc:jn4.leafs 0 (fun _ xs=>T0 (cu xs 0)) zB=true:=by kernel_rfl
theorem te(s0:List Dat)(k:Nat)(s:List Dat)(h0:jR s0)(r:RngX 2 3 [] [2] 0 200 s0 k s)(_hk:k<(ah s 2).toL.length)(i:Ga s0 k s)(hf:(jn4.tr F0 4 s).1=0):Ga s0 (k+1) (jn4.tr F0 4 s).2:=by
 have ha:AtR jR Ga 2 3 [] [2] 0 200 s:=⟨s0,k,h0,r,i⟩;have hz:=(dR nN (ij s ha) (fB s ha) tf).1 hf;obtain⟨p',xs,q1,_,q3⟩:=cF (w:=0) (ij s ha) nN Kc (fB s ha) hz;unfold Ga at i⊢;rw[kS (by omega),q3 0];obtain⟨y1,y2,y3,hx⟩:=NU q1;rw[bV]at hx;cases xs with
 |nil=>cases hx
 |cons x xs=>have hx:x=.pr 9 (D 0) (.ap 63 y1 y2 y3):=hx;subst hx;have e:(ST.leaf (.lit (((0:Nat):Int)):: .pr 9 (D 0) (.ap 63 y1 y2 y3)::xs)).val (VL F0 s) (0+1)=@Sx.dat (VL F0 s) (.pr 9 (D 0) (.ap 63 y1 y2 y3)):=rfl;have:(@Sx.dat (VL F0 s) (.pr 9 (D 0) (.ap 63 y1 y2 y3))).toL=(ah s 0).toL++(F0 63 (@Sx.dat (VL F0 s) y1) (@Sx.dat (VL F0 s) y2) (@Sx.dat (VL F0 s) y3)).toL:=rfl;rw[e,this,cZ];have:=rD (@Sx.dat (VL F0 s) y1) (@Sx.dat (VL F0 s) y2) (@Sx.dat (VL F0 s) y3);omega
theorem po(s:List Dat)(h:jR s):ah s 3=.int 0∧(ah s 2).toL.length≤200:=⟨h.2.2,h.1⟩
theorem Ka(s:List Dat)(h:jR s):Ga s 0 s:=by unfold Ga;rw[h.2.1];exact aP _
theorem Qg(s:List Dat)(hs:jP s):jQ (jn1.tr F0 3 s).2:=by refine⟨hs,?_⟩;rw[kS (by omega)];rfl
theorem Qf(s:List Dat)(hs:jQ s):jR (jn2.tr F0 4 s).2:=by refine⟨hs.1,?_,?_⟩;{rw[kS (by omega)];exact hs.2};rw[kS (by omega)];rfl
theorem ZN:PX P ba b0 R0 0 0 31 F0 jP FI jnA TQ WA (la F0):=by
 rw[ZP];exact PX.seq (J2:=jP) (by decide) TX (fun s hs _=>hs) (PX.seq (J2:=jQ) (by decide) TW (fun s hs _=>Qg s hs) (PX.seq (J2:=fun _=>True) (by decide)
  (PX.seq (J2:=jR) (by decide) TV (fun s hs _=>Qf s hs) (PX.block (PX.rngI (by decide) tf nN ij fB (by omega) po Ka te (TU ij fB)) rfl)) (fun _ _ _=>trivial) TT))
theorem ZO:yu jP [1] (la F0):=
 aK (J2:=jP) (aG aM aW (by kernel_rfl) (by kernel_rfl)) (fun s hs _=>hs) (aK (J2:=jQ) (aG aM aW (by kernel_rfl) (by kernel_rfl)) (fun s hs _=>Qg s hs) (aK (J2:=fun _=>True)
  (aK (J2:=jR) (aG aM aW (by kernel_rfl) (by kernel_rfl)) (fun s hs _=>Qf s hs) (df (py tf nN ij fB (by omega) po Ka te (by kernel_rfl)) (by simp))) (fun _ _ _=>trivial) (aG aM aW (by kernel_rfl) (by kernel_rfl))))
end
end Go.Proofs.YtlagbijmfchkeaaGreat
namespace Go.Proofs.YtlagbijmfchkeaaGreat
open Go.Tw Go.Tw.NE
noncomputable section
theorem Q4:∀f,f<67→wB f=F0 f:=fun f hf=>(LM hf).symm
theorem AY:la wB=la F0:=by have h:=Q4;unfold la;rw[ST.tr_congr (F:=wB) (G:=F0) h (sp:=jn0) (nv:=9) (by kernel_rfl),ST.tr_congr (F:=wB) (G:=F0) h (sp:=jn1) (nv:=9) (by kernel_rfl),ST.tr_congr (F:=wB) (G:=F0) h (sp:=jn2) (nv:=9) (by kernel_rfl),ST.tr_congr (F:=wB) (G:=F0) h (sp:=jn4) (nv:=9) (by kernel_rfl),ST.tr_congr (F:=wB) (G:=F0) h (sp:=jn6) (nv:=9) (by kernel_rfl)]
theorem RJ:wJ wB=wJ F0:=by have h:=Q4;unfold wJ;rw[ST.tr_congr (F:=wB) (G:=F0) h (sp:=nu0) (nv:=9) (by kernel_rfl),ST.tr_congr (F:=wB) (G:=F0) h (sp:=nu1) (nv:=9) (by kernel_rfl),ST.tr_congr (F:=wB) (G:=F0) h (sp:=nu2) (nv:=9) (by kernel_rfl),ST.tr_congr (F:=wB) (G:=F0) h (sp:=nu4) (nv:=9) (by kernel_rfl),ST.tr_congr (F:=wB) (G:=F0) h (sp:=nu6) (nv:=9) (by kernel_rfl)]
theorem Wn{d a b:Dat}:F0 67 d a b=ah (la F0 [d]).2 0:=by rw[←AY,wC (by omega)];rfl
theorem Wm{d a b:Dat}:F0 68 d a b=ah (la F0 [d]).2 1:=by rw[←AY,wC (by omega)];rfl
theorem LL{d a b:Dat}:F0 69 d a b=.int (ah (la F0 [d]).2 2).toI:=by rw[←AY,wC (by omega)];rfl
theorem Wl{d a b:Dat}:F0 70 d a b=ah (wJ F0 [d]).2 0:=by rw[←RJ,wC (by omega)];rfl
def wZ:aD:=[(lt (ae (D 0)) (I 201),true)]
theorem qi{v:Val}{d:Dat}(hd:d=@Sx.dat v (D 0))(h:@Holds v wZ):jP [d]:=by have g:=jz (aF h).1;rw[dL,dI,←hd]at g;show d.toL.length≤200;omega
def conJoin:Con:={f:=22,args:=[LC (D 0)],pre:=wZ,res:=.tup [LV 1024 [.int .u8] (.ap 68 (D 0) (I 0) (I 0)),.sym .i64 (A1 69 (D 0))],objs:=[LB (A1 67 (D 0)) (.ap 68 (D 0) (I 0) (I 0))]}
theorem Cm:conJoin.Sound F0 P ba b0 R0:=by
 refine bX (fn:=Tryz.f22) (code:=FI) Tryz.func22 (by rfl) (by kernel_rfl) (by kernel_rfl) fun v hF hpre=> ?_;refine⟨.ret,jnZ.l,_,_,.inl rfl,?_,by rfl,rfl⟩;obtain⟨d,hd⟩:∃d,d=@Sx.dat v (D 0):=⟨_,rfl⟩;have hj:jP [d]:=qi hd hpre;have h:=PX.ret ZN hj (iP ZO hj);refine HT.pre (aP _) (aI (v:=v) (v':=VL F0 [d]) base0 TN (aa hd.symm al)) (HT.retell (aP _) h (aI (v':=v) base0 TO ?_));have hz:∀n a b,v.fn n (@Sx.dat v (D 0)) a b=F0 n d a b:=fun n a b=>by rw[hF,hd]
 have q0:@Sx.dat v (.ap 67 (D 0) (I 0) (I 0))=ah (la F0 [d]).2 0:=(hz 67 (.int 0) (.int 0)).trans Wn;have q1:@Sx.dat v (.ap 68 (D 0) (I 0) (I 0))=ah (la F0 [d]).2 1:=(hz 68 (.int 0) (.int 0)).trans Wm;have q2:@Sx.dat v (.ap 69 (D 0) (I 0) (I 0))=.int (ah (la F0 [d]).2 2).toI:=(hz 69 (.int 0) (.int 0)).trans LL;generalize la F0 [d]=S at q0 q1 q2;unfold ZQ;exact aa (dD.trans q1.symm) (aa (gH (by rw[q2,dD];rfl)) (aa (dD.trans q0.symm) (aa (dD.trans q1.symm) al)))
theorem o6:∀c∈[conLen],c.Sound F0 P ba b0 R0:=dE wc
theorem lC:∀c∈([]:List HCon),c.Sound F0 P ba b0 R0:=n8
def FH:Code:=match Tryz.f23.body with
 |some c=>c
 |none=>.skip
def nuA:Tl:=⟨iX,[],1024⟩
abbrev qN:AV:=.opq 4 1024 0 bo (.lit 0) (.lit 0)
abbrev CV:List (Nat×Ob):=[(1024,.opq 4 0 1023 bo (.dvar 0) (.lit 0) [] 63)]
def ada:Tl:=⟨[(3,qN)],CV,1025⟩
def nuT1:Tl:=⟨[(2,qN)],CV,1025⟩
def Wx:Nat→Tl:=fun w=>match w with
 |2=>ada
 |1=>nuT1
 |_=>nuA
def Y7:Tl:=⟨iX,[],1024⟩
theorem SB{J:List Dat→Prop}:PX P ba b0 R0 0 0 24 F0 J (cl FH) nuA Y7 Wx (nu0.tr F0 1):=
 PX.tree (pins:=[]) base0 (by decide) follows (cons:=[conLen]) o6 (af:=[]) lC (cores:=[]) (fun _ _ _ h=>by cases h) (inv:=[]) (fun _ _=>aC) (by kernel_rfl)
abbrev Hy:List (Nat×Ob):=[(1024,.opq 4 0 1023 bo (.dvar 1) (.lit 0) [] 63)]
def Y6:Tl:=⟨[(0,vn),(3,qN),(4,qM)],Hy,1025⟩
theorem SA{J:List Dat→Prop}:PX P ba b0 R0 0 0 24 F0 J (cl (cr FH)) Y7 Y6 Wx (nu1.tr F0 3):=
 PX.tree (pins:=[]) base0 (by decide) follows (cons:=[conLen]) o6 (af:=[]) lC (cores:=[]) (fun _ _ _ h=>by cases h) (inv:=[]) (fun _ _=>aC) (by kernel_rfl)
def Sv:Tl:=⟨[(3,qN),(4,sS),(8,HV),(9,CL),(10,sR)],CV,1025⟩
theorem Sz{J:List Dat→Prop}:PX P ba b0 R0 0 0 24 F0 J (cl (cl (cr (cr FH)))) Y6 Sv Wx (nu2.tr F0 4):=
 PX.tree (pins:=[]) base0 (by decide) follows (cons:=[conLen]) o6 (af:=[]) lC (cores:=[]) (fun _ _ _ h=>by cases h) (inv:=[]) (fun _ _=>aC) (by kernel_rfl)
theorem Sy{J:List Dat→Prop}(hinv:∀s,J s→@Holds (VL F0 s) Ni):PX P ba b0 R0 0 0 24 F0 J (cl (cl (cr (cl (cr (cr FH)))))) Sv Sv Wx (nu4.tr F0 4):=
 PX.tree (pins:=[]) base0 (by decide) follows (cons:=[conLen]) o6 (af:=[]) lC (cores:=[]) (fun _ _ _ h=>by cases h) (inv:=Ni) hinv (by kernel_rfl)
def Su:Tl:=⟨[(3,qN)],CV,1025⟩
theorem Sw{J:List Dat→Prop}:PX P ba b0 R0 0 0 24 F0 J (cr (cr (cr FH))) Su Su Wx (nu6.tr F0 1):=
 PX.tree (pins:=[]) base0 (by decide) follows (cons:=[conLen]) o6 (af:=[]) lC (cores:=[]) (fun _ _ _ h=>by cases h) (inv:=[]) (fun _ _=>aC) (by kernel_rfl)
theorem Sr:cM R0 0 [] (ax nuA.l) (ag b0 nuA.o nuA.nx) nuA.l nuA.o nuA.nx=some adb:=by kernel_rfl
def nuZ:Tl:=⟨[(2,qN)],[(1024,.opq 4 0 1023 bo (.ap 70 (.dvar 0) (.lit 0) (.lit 0)) (.lit 0) [] 63)],1025⟩
theorem Ss:cM R0 0 [⟨1024,1024,0,0,0⟩] (ax nuT1.l) (ag b0 nuT1.o nuT1.nx) nuZ.l nuZ.o nuZ.nx=some Y5:=by kernel_rfl
theorem Y4:FH=(.seq (cl FH) (.seq (cl (cr FH)) (.seq (.seq (cl (cl (cr (cr FH)))) (.block 0 (.loop (cl (cl (cr (cl (cr (cr FH))))))))) (cr (cr (cr FH)))))):=by kernel_rfl
def nR(s:List Dat):Prop:=(ah s 2).toL.length≤200∧ah s 3=.int 0
theorem P4:nu4.rngX 2 3 4 [] [2] 0 2=true:=by kernel_rfl
theorem P5:nu4.deadsOk [] Ni=true:=by kernel_rfl
theorem xh(s:List Dat)(h:∃s0 k,nR s0∧RngX 2 3 [] [2] 0 200 s0 k s):@Holds (VL F0 s) Ni:=by obtain⟨s0,k,a,r⟩:=h;refine af (jw ?_) aC;rw[dI,dD,r.1];show ¬(k:Int)<0;omega
theorem P6(s:List Dat)(hs:jP s):nR (nu2.tr F0 4 s).2:=by refine⟨?_,?_⟩;{rw[kS (by omega)];exact hs};rw[kS (by omega)];rfl
theorem Y2:PX P ba b0 R0 0 0 24 F0 jP FH nuA Su Wx (wJ F0):=by
 rw[Y4];exact PX.seq (J2:=jP) (by decide) SB (fun s hs _=>hs) (PX.seq (J2:=jP) (by decide) SA (fun s hs _=>hs) (PX.seq (J2:=fun _=>True) (by decide)
  (PX.seq (J2:=nR) (by decide) Sz (fun s hs _=>P6 s hs) (PX.block (PX.rng (by decide) P4 P5 aM xh (by omega) (fun s hs=>⟨hs.2,hs.1⟩) (Sy xh)) rfl)) (fun _ _ _=>trivial) Sw))
theorem Y3:yu jP [1] (wJ F0):=
 aK (J2:=jP) (aG aM aW (by kernel_rfl) (by kernel_rfl)) (fun s hs _=>hs) (aK (J2:=jP) (aG aM aW (by kernel_rfl) (by kernel_rfl)) (fun s hs _=>hs) (aK (J2:=fun _=>True)
  (aK (J2:=nR) (aG aM aW (by kernel_rfl) (by kernel_rfl)) (fun s hs _=>P6 s hs) (df (ko P4 P5 aM xh (by omega) (fun s hs=>⟨hs.2,hs.1⟩) (by kernel_rfl)) (by simp))) (fun _ _ _=>trivial) (aG aM aW (by kernel_rfl) (by kernel_rfl))))
def hcNum:HCon:={f:=23,args:=[LC (D 0)],pre:=wZ,nr:=0,np:=0,ns:=0,locs:=[],ins:=[],v:=MV 1024,outs:=[(1024,OM (A1 70 (D 0)))],nx:=1025}
theorem Kp:hcNum.Sound F0 P ba b0 R0:=by
 refine fS (fn:=Tryz.f23) (code:=FH) Tryz.func23 (by rfl) (by kernel_rfl) (by kernel_rfl) (by kernel_rfl) fun v hF hpre=> ?_;refine⟨.ret,nuZ.l,_,_,.inl rfl,?_,by rfl,rfl⟩;obtain⟨d,hd⟩:∃d,d=@Sx.dat v (D 0):=⟨_,rfl⟩;have hj:jP [d]:=qi hd hpre;have h:=PX.ret Y2 hj (iP Y3 hj);refine HT.pre (aP _) (aI (v:=v) (v':=VL F0 [d]) base0 Sr (aa hd.symm al)) (HT.retell (aP _) h (aI (v':=v) base0 Ss ?_));have hz:∀n a b,v.fn n (@Sx.dat v (D 0)) a b=F0 n d a b:=fun n a b=>by rw[hF,hd]
 have q0:@Sx.dat v (.ap 70 (D 0) (I 0) (I 0))=ah (wJ F0 [d]).2 0:=(hz 70 (.int 0) (.int 0)).trans Wl;generalize wJ F0 [d]=S at q0;unfold Y5;exact aa (dD.trans q0.symm) al
def VE:Code:=match Tryz.f24.body with
 |some c=>c
 |none=>.skip
def Wv:Sx:=.ap 66 pk6 (I 0) (I 0)
def ckT(op:AV)(sp:ST)(cores:List aD):Bool:=FJ [] VE 10 (CA op) [(2,.sym .i64 Wv)] [] R0 [N Wv] cores sp []
def Gu:List aD:=[[(lt (D 0) (I 0),false),(lt (D 0) (I 33),true)]]
set_option maxRecDepth 1000000 in
theorem ab8:(List.range 33).all (fun j=>match tgtL[j]? with
 |some t=>ckT (.int .i64 (Int.ofNat j)) t []
 |none=>false)=true:=by kernel_rfl
theorem Q9:ckT (SI 0) Pr Gu=true:=by kernel_rfl
theorem Wo:∀a b c,F0 66 a b c=spTgt.val (VL F65 a.one) 0:=fun a b c=>by rw[LM (by omega)];show jH F65 66 spTgt 0 66 a b c=_;exact if_pos rfl
theorem d66{v:Val}(hF:v.fn=F0):@Sx.dat v Wv=spTgt.val v 0:=qK hF (fun f hf=>wD hf) Wo (by kernel_rfl)
def conTarget:Con:={f:=24,args:=[S6],pre:=[],res:=.sym .i64 Wv,objs:=[]}
theorem Mp{v:Val}(hF:v.fn=F0):HR 0 0 10 v VE (ax (CA (SI 0))) (ag b0 [] R0) .ret v (ax [(2,.sym .i64 Wv)]) (ag b0 [] R0):=by
 by_cases hout:(@Sx.dat v (D 0)).toI<0∨33≤(@Sx.dat v (D 0)).toI;{refine mK hF bO Q9 (fun q hq hh=> ?_) aC (tg1 (qo ((d66 hF).trans (gZ (by show _∨(0:Int)+33≤_;omega) 0)) (by kernel_rfl)));simp only[Gu,cP,dQ,or_false]at hq;subst hq;obtain⟨f0,hh⟩:=aF hh;obtain⟨f1,_⟩:=aF hh;have g0:=fQ f0;have g1:=jz f1;rw[dI]at g0 g1;omega};obtain⟨j,hj,hj2⟩:∃j:Nat,j<33∧(@Sx.dat v (D 0)).toI=(j:Int):=⟨((@Sx.dat v (D 0)).toI).toNat,by omega,by omega⟩;have hx:=List.all_eq_true.1 ab8 j (List.mem_range.2 hj);cases ht:tgtL[j]? with
 |none=>rw[ht]at hx;cases hx
 |some t=>rw[ht]at hx;have hin:t.intAt 0=true:=List.all_eq_true.1 (show tgtL.all (·.intAt 0)=true by kernel_rfl) t (fH ht);refine HT.pre (aP _) (aI (nr:=0) (v:=v) (v':=v) base0 (Zb (j:Int)) (aa (show Dat.int (@Sx.dat v (D 0)).toI=Dat.int (j:Int) by rw[hj2]) (aa rfl (aa rfl (aa rfl (aa rfl (aa rfl al))))))) ?_;exact mK hF bO hx (fun q hq=>by cases hq) aC (tg1 (qo ((d66 hF).trans (ju ht (by rw[hj2];omega) 0)) hin))
theorem x9:conTarget.Sound F0 P ba b0 R0:=by refine bX (fn:=Tryz.f24) (code:=VE) Tryz.func24 (by rfl) (by kernel_rfl) (by kernel_rfl) fun v hF hpre=> ?_;exact⟨.ret,[(2,.sym .i64 Wv)],_,_,.inl rfl,Mp hF,by rfl,rfl⟩
end
end Go.Proofs.YtlagbijmfchkeaaGreat
set_option linter.unusedVariables false
namespace Go.Tw
noncomputable section
theorem HT.scope{P:Program}{gl:Nat→Option Nat}{b:bF}{R nr nb nt:Nat}{v v2:Val}{x:Code}{tm tm2:T AV}{σ σ2:St}{e:AExit}(h:HT P gl b R nr nb nt v x tm σ e v2 tm2 σ2)(hg:∀l,e≠.goto l):HT P gl b R nr nb nt v (.scope x) tm σ e v2 tm2 σ2:=by
 intro a cs w φ ha bf k hb hkd;obtain⟨e1,a1,cs1,w1,q,harr⟩:=h a cs w φ ha bf (.inScope x::k) hb hkd;refine⟨e1,a1,cs1,w1,q,.of_steps (aS kZ) ?_⟩;have hng:∀l,e1≠.goto l:=by intro l hl;subst hl;obtain⟨_,q2,_⟩:=q;cases e<;>simp_all [ExitP]
 cases e1 with
 |normal=>exact StepsIn.trans harr (aS iW)
 |exit id=>have hx:exitTo id (.inScope x::k)=exitTo id k:=(by simp [exitTo]);exact⟨fun k' hk'=>harr.1 k' (by rw[hx];exact hk'),fun hr hk'=>harr.2 hr (by rw[hx];exact hk')⟩
 |goto l=>exact absurd rfl (hng l)
 |ret=>exact harr
 |panic ch=>exact harr
 |outgrown=>exact harr
theorem zP{w l:Nat}:du w≠.goto l:=by
 match w with
 |0=>simp [du]
 |1=>simp [du]
 |k+2=>simp [du]
theorem PX.scope{P:Program}{gl:Nat→Option Nat}{b:bF}{R nr nb nt:Nat}{F:Fn}{J:List Dat→Prop}{A B:Tl}{T:Nat→Tl}{f:nE}{c:Code}(h:PX P gl b R nr nb nt F J c A B T f):PX P gl b R nr nb nt F J (.scope c) A B T f:=fun s hs=>
 HT.scope (h s hs) fun _=>zP
end
end Go.Tw
namespace Go.Proofs.YtlagbijmfchkeaaGreat
open Go.Tw Go.Tw.NE
noncomputable section
theorem Lw:∀f,f<71→pQ f=F0 f:=fun f hf=>(wC hf).symm
theorem RM:ux pQ=ux F0:=by have h:=Lw;unfold ux;rw[ST.tr_congr (F:=pQ) (G:=F0) h (sp:=fc0) (nv:=9) (by kernel_rfl),ST.tr_congr (F:=pQ) (G:=F0) h (sp:=fc1) (nv:=9) (by kernel_rfl),ST.tr_congr (F:=pQ) (G:=F0) h (sp:=fc2) (nv:=9) (by kernel_rfl),ST.tr_congr (F:=pQ) (G:=F0) h (sp:=fc3) (nv:=9) (by kernel_rfl),ST.tr_congr (F:=pQ) (G:=F0) h (sp:=fc4) (nv:=9) (by kernel_rfl),ST.tr_congr (F:=pQ) (G:=F0) h (sp:=fc6) (nv:=9) (by kernel_rfl),ST.tr_congr (F:=pQ) (G:=F0) h (sp:=fc8) (nv:=9) (by kernel_rfl)]
theorem RK:sd pQ=sd F0:=by have h:=Lw;unfold sd;rw[ST.tr_congr (F:=pQ) (G:=F0) h (sp:=lo0) (nv:=9) (by kernel_rfl),ST.tr_congr (F:=pQ) (G:=F0) h (sp:=lo1) (nv:=9) (by kernel_rfl),ST.tr_congr (F:=pQ) (G:=F0) h (sp:=lo3) (nv:=9) (by kernel_rfl),ST.tr_congr (F:=pQ) (G:=F0) h (sp:=lo5) (nv:=9) (by kernel_rfl)]
theorem GJ:kP pQ=kP F0:=by have h:=Lw;unfold kP;rw[ST.tr_congr (F:=pQ) (G:=F0) h (sp:=en0) (nv:=9) (by kernel_rfl),ST.tr_congr (F:=pQ) (G:=F0) h (sp:=en1) (nv:=9) (by kernel_rfl),ST.tr_congr (F:=pQ) (G:=F0) h (sp:=en2) (nv:=9) (by kernel_rfl),ST.tr_congr (F:=pQ) (G:=F0) h (sp:=en4) (nv:=9) (by kernel_rfl),ST.tr_congr (F:=pQ) (G:=F0) h (sp:=en6) (nv:=9) (by kernel_rfl)]
theorem LJ{d a b:Dat}:F0 71 d a b=.int (ah (ux F0 [d]).2 0).toI:=by rw[←RM];rfl
theorem F0_80d{d a b:Dat}:F0 80 d a b=.int (ah (sd F0 d.one).2 0).toI:=by rw[←RK];rfl
theorem F0_81d{d a b:Dat}:F0 81 d a b=.int (ah (kP F0 d.one).2 0).toI:=by rw[←GJ];rfl
theorem F0_82d{d a b:Dat}:F0 82 d a b=.int (ah (kP F0 d.one).2 1).toI:=by rw[←GJ];rfl
theorem kq:∀c∈[conTarget,conJoin],c.Sound F0 P ba b0 R0:=wG x9 Cm
theorem iq:∀c∈[hcNum],c.Sound F0 P ba b0 R0:=xg Kp
def Ab:Code:=match Tryz.f13.body with
 |some c=>c
 |none=>.skip
def fcA:Tl:=⟨iX,[],1024⟩
def fcT1:Tl:=⟨[(2,gw)],[],1024⟩
def ads:Tl:=⟨iX,[],1024⟩
def Qn:Nat→Tl:=fun w=>match w with
 |1=>fcT1
 |2=>ads
 |_=>fcA
def aab:Tl:=⟨iX,[],1024⟩
theorem Up{J:List Dat→Prop}:PX P ba b0 R0 0 0 50 F0 J (cl Ab) fcA aab Qn (fc0.tr F0 1):=
 PX.tree (pins:=[]) base0 (by decide) follows (cons:=[conTarget,conJoin]) kq (af:=[hcNum]) iq (cores:=[]) (fun _ _ _ h=>by cases h) (inv:=[]) (fun _ _=>aC) (by kernel_rfl)
def aaa:Tl:=⟨iX,[],1024⟩
theorem Uo{J:List Dat→Prop}(hinv:∀s,J s→@Holds (VL F0 s) Un):PX P ba b0 R0 0 0 50 F0 J (cl (cr Ab)) aab aaa Qn (fc1.tr F0 1):=
 PX.tree (pins:=[]) base0 (by decide) follows (cons:=[conTarget,conJoin]) kq (af:=[hcNum]) iq (cores:=[]) (fun _ _ _ h=>by cases h) (inv:=Un) hinv (by kernel_rfl)
def Z9:Tl:=⟨iX,[],1024⟩
theorem Um{J:List Dat→Prop}:PX P ba b0 R0 0 0 50 F0 J (cl (cr (cr Ab))) aaa Z9 Qn (fc2.tr F0 1):=
 PX.tree (pins:=[]) base0 (by decide) follows (cons:=[conTarget,conJoin]) kq (af:=[hcNum]) iq (cores:=[]) (fun _ _ _ h=>by cases h) (inv:=[]) (fun _ _=>aC) (by kernel_rfl)
def Z8:Tl:=⟨[(0,vn),(5,qN)],Hy,1025⟩
theorem Ul{J:List Dat→Prop}(hinv:∀s,J s→@Holds (VL F0 s) aac):PX P ba b0 R0 0 0 50 F0 J (cl (cr (cr (cr Ab)))) Z9 Z8 Qn (fc3.tr F0 2):=
 PX.tree (pins:=[]) base0 (by decide) follows (cons:=[conTarget,conJoin]) kq (af:=[hcNum]) iq (cores:=[]) (fun _ _ _ h=>by cases h) (inv:=aac) hinv (by kernel_rfl)
def Ug:Tl:=⟨[(0,vn),(5,qN),(24,vn),(25,HN),(26,qM)],Hy,1025⟩
theorem Uk{J:List Dat→Prop}:PX P ba b0 R0 0 0 50 F0 J (cl (cl (cr (cr (cr (cr Ab)))))) Z8 Ug Qn (fc4.tr F0 3):=
 PX.tree (pins:=[]) base0 (by decide) follows (cons:=[conTarget,conJoin]) kq (af:=[hcNum]) iq (cores:=[]) (fun _ _ _ h=>by cases h) (inv:=[]) (fun _ _=>aC) (by kernel_rfl)
theorem Uj{J:List Dat→Prop}(hinv:∀s,J s→@Holds (VL F0 s) KE):PX P ba b0 R0 0 0 50 F0 J (cl (cl (cr (cl (cr (cr (cr (cr Ab)))))))) Ug Ug Qn (fc6.tr F0 3):=
 PX.tree (pins:=[]) base0 (by decide) follows (cons:=[conTarget,conJoin]) kq (af:=[hcNum]) iq (cores:=[]) (fun _ _ _ h=>by cases h) (inv:=KE) hinv (by kernel_rfl)
def Uf:Tl:=⟨iX,[],1024⟩
theorem Ui{J:List Dat→Prop}(hinv:∀s,J s→@Holds (VL F0 s) Uh):PX P ba b0 R0 0 0 50 F0 J (cr (cr (cr (cr (cr Ab))))) Uf Uf Qn (fc8.tr F0 1):=
 PX.tree (pins:=[]) base0 (by decide) follows (cons:=[conTarget,conJoin]) kq (af:=[hcNum]) iq (cores:=[]) (fun _ _ _ h=>by cases h) (inv:=Uh) hinv (by kernel_rfl)
theorem Ud:cM R0 0 [] (ax fcA.l) (ag b0 fcA.o fcA.nx) fcA.l fcA.o fcA.nx=some adt:=by kernel_rfl
def fcZ:Tl:=⟨[(2,.sym .i64 (.ap 71 (.dvar 0) (.lit 0) (.lit 0)))],[],1024⟩
theorem Ue:cM R0 0 [] (ax fcT1.l) (ag b0 fcT1.o fcT1.nx) fcZ.l fcZ.o fcZ.nx=some Z7:=by kernel_rfl
theorem Z6:Ab=(.seq (cl Ab) (.seq (cl (cr Ab)) (.seq (cl (cr (cr Ab))) (.seq (cl (cr (cr (cr Ab)))) (.seq (.seq (cl (cl (cr (cr (cr (cr Ab)))))) (.block 0 (.loop (cl (cl (cr (cl (cr (cr (cr (cr Ab))))))))))) (cr (cr (cr (cr (cr Ab)))))))))):=by kernel_rfl
def AF(s:List Dat):Prop:=jP s∧1≤(ah s 0).toL.length
def ZT(s:List Dat):Prop:=AF s∧ah s 2=.int 0
theorem Qr(s:List Dat)(hs:jP s)(h:(fc1.tr F0 1 s).1=0):jP (fc1.tr F0 1 s).2:=by
 cases hb:@Bx.eval (VL F0 s) (eq (.ap 69 (D 0) (I 0) (I 0)) (I 0))with
 |false=>have:(fc1.tr F0 1 s).1=1:=(by unfold fc1 ST.tr ST.flg;simp only[ST.val,hb,cond_false];rfl);rw[this]at h;cases h
 |true=>have e:ah (fc1.tr F0 1 s).2 0=ah s 0:=(by rw[kS (by omega)];unfold fc1;simp only[ST.val,hb,cond_true];rfl);unfold jP;rw[e];exact hs
theorem Qq(s:List Dat)(hs:jP s)(h:(fc2.tr F0 1 s).1=0):AF (fc2.tr F0 1 s).2:=by
 cases hb:@Bx.eval (VL F0 s) (eq (ae (D 0)) (I 0))with
 |true=>have:(fc2.tr F0 1 s).1=1:=(by unfold fc2 ST.tr ST.flg;simp only[ST.val,hb,cond_true];rfl);rw[this]at h;cases h
 |false=>have e:ah (fc2.tr F0 1 s).2 0=ah s 0:=(by rw[kS (by omega)];unfold fc2;simp only[ST.val,hb,cond_false];rfl);have g:=tO hb;rw[dL,dI,dD]at g;unfold AF jP;rw[e];exact⟨hs,by omega⟩
theorem Cb(s:List Dat)(hs:jP s):@Holds (VL F0 s) Un:=af (ie (by rw[dL,dI,dD];unfold jP at hs;omega)) aC
theorem Qp(s:List Dat)(hs:AF s):AF (fc3.tr F0 2 s).2:=hs
theorem DO(s:List Dat)(hs:AF s):ZT (fc4.tr F0 3 s).2:=⟨hs,by rw[kS (by omega)];rfl⟩
theorem DM:fc6.rngX 0 2 3 [] [0,1] 0 2=true:=by kernel_rfl
theorem DN:fc6.deadsOk [] KE=true:=by kernel_rfl
def jL(s:List Dat):Prop:=∃s0 k,ZT s0∧RngX 0 2 [] [0,1] 0 200 s0 k s
theorem pB(s:List Dat)(h:jL s):@Holds (VL F0 s) KE:=by obtain⟨s0,k,a,r⟩:=h;refine af (jw ?_) aC;rw[dI,dD,r.1];show ¬(k:Int)<0;omega
theorem KF:fc6.leafs 2 (fun _ xs=>(cu xs 0).same (D 0)) KE=true:=by kernel_rfl
theorem Qo(s:List Dat)(hs:ZT s)(h:(gE 0 (gO (fc6.tr F0 3) (fun s=>(ah s 0).toL.length)) s).1=0):AF (gE 0 (gO (fc6.tr F0 3) (fun s=>(ah s 0).toL.length)) s).2:=by
 obtain⟨n,s',r,_,h1,h2⟩:=oD (F:=F0) DM DN (by omega) (s:=s) (Inv:=fun _ _=>True) (fun _ _ _ _ h=>by cases h) (fun k s' hr=>pB s' ⟨s,k,hs,hr⟩) hs.2 hs.1.1 trivial (fun _ _ _ _ _ _=>trivial);have hj:jL s':=⟨s,n,hs,r⟩;have e0:ah s' 0=ah s 0:=r.2.2.2.2 0 (by simp);unfold gE at h⊢;rw[h2]at h⊢;by_cases hx:(fc6.tr F0 3 s').1=0+2
 ·rw[if_pos hx];have hw:fc6.flg F0 s'=((2:Nat):Int):=by
   obtain⟨q,hq⟩:=iM (F:=F0) (s:=s') (fq DM);have hx:(fc6.flg F0 s').toNat=2:=hx;rw[hq]at hx⊢;omega
  obtain⟨p',xs,q1,_,q3⟩:=cF (fun _ h=>by cases h) DN KF (pB s' hj) hw;have e:ah (fc6.tr F0 3 s').2 0=ah s' 0:=by
   rw[kS (by omega),q3 0];have:=Sx.same_eq q1;rw[bV]at this;cases xs with
   |nil=>cases this
   |cons x xs=>have this:x=D 0:=this;subst this;rfl
  show AF (fc6.tr F0 3 s').2;unfold AF jP;rw[e,e0];exact hs.1
 rw[if_neg hx]at h;exact absurd h h1
theorem DL(s:List Dat)(hs:AF s):@Holds (VL F0 s) Uh:=by
 obtain⟨h1,h2⟩:=hs;unfold jP at h1;have e:(@Sx.dat (VL F0 s) (.bin .sub .i64 (ae (D 0)) (I 1))).toI=((ah s 0).toL.length:Int) - 1:=by show aZ .sub .i64 ((ah s 0).toL.length:Int) 1=_;show aU .i64 (((ah s 0).toL.length:Int) - 1)=_;exact bp (by omega) (by omega)
 refine af (jw ?_) (af (ie ?_) aC);{rw[e,dI];omega};rw[e,dL,dD];omega
theorem Z4:PX P ba b0 R0 0 0 50 F0 jP Ab fcA Uf Qn (ux F0):=by
 rw[Z6];exact PX.seq (J2:=jP) (by decide) Up (fun s hs _=>hs) (PX.seq (J2:=jP) (by decide) (Uo Cb) (fun s hs h=>Qr s hs h) (PX.seq (J2:=AF) (by decide) Um (fun s hs h=>Qq s hs h) (PX.seq (J2:=AF) (by decide) (Ul fun s hs=>Cb s hs.1) (fun s hs _=>Qp s hs)
  (PX.seq (J2:=AF) (by decide) (PX.seq (J2:=ZT) (by decide) Uk (fun s hs _=>DO s hs) (PX.block (PX.rng (by decide) DM DN aM pB (by omega) (fun s hs=>⟨hs.2,hs.1.1⟩) (Uj pB)) rfl))
    (fun s hs h=>by unfold aB at h⊢;have e:(fc4.tr F0 3 s).1=0:=rfl;rw[if_pos e]at h⊢;exact Qo _ (DO s hs) h) (Ui DL)))))
theorem Z5:yu jP [1] (ux F0):=
 aK (J2:=jP) (aG aM aW (by kernel_rfl) (by kernel_rfl)) (fun s hs _=>hs) (aK (J2:=jP) (aG aM Cb (by kernel_rfl) (by kernel_rfl)) (fun s hs h=>Qr s hs h) (aK (J2:=AF) (aG aM aW (by kernel_rfl) (by kernel_rfl)) (fun s hs h=>Qq s hs h) (aK (J2:=AF) (aG aM aW (by kernel_rfl) (by kernel_rfl)) (fun s hs _=>Qp s hs)
  (aK (J2:=AF) (aK (J2:=ZT) (aG aM aW (by kernel_rfl) (by kernel_rfl)) (fun s hs _=>DO s hs) (df (ko DM DN aM pB (by omega) (fun s hs=>⟨hs.2,hs.1.1⟩) (by kernel_rfl)) (by simp)))
    (fun s hs h=>by unfold aB at h⊢;have e:(fc4.tr F0 3 s).1=0:=rfl;rw[if_pos e]at h⊢;exact Qo _ (DO s hs) h) (aG aM DL (by kernel_rfl) (by kernel_rfl))))))
def conFlow:Con:={f:=13,args:=[LC (D 0)],pre:=wZ,res:=.sym .i64 (A1 71 (D 0)),objs:=[]}
theorem Cn:conFlow.Sound F0 P ba b0 R0:=by
 refine dY (fn:=Tryz.f13) (code:=Ab) Tryz.func13 (by rfl) (by kernel_rfl) rfl rfl rfl fun v hF hpre=> ?_;refine⟨.ret,fcZ.l,fcZ.o,fcZ.nx,_,_,.inl rfl,?_,by rfl,rfl⟩;obtain⟨d,hd⟩:∃d,d=@Sx.dat v (D 0):=⟨_,rfl⟩;have hj:jP [d]:=qi hd hpre;have h:=PX.ret Z4 hj (iP Z5 hj);refine HT.pre (aP _) (aI (v:=v) (v':=VL F0 [d]) base0 Ud (aa hd.symm al)) (HT.retell (aP _) h (aI (v':=v) base0 Ue ?_));have hz:∀n a b,v.fn n (@Sx.dat v (D 0)) a b=F0 n d a b:=fun n a b=>by rw[hF,hd]
 have q0:@Sx.dat v (.ap 71 (D 0) (I 0) (I 0))=.int (ah (ux F0 [d]).2 0).toI:=(hz 71 (.int 0) (.int 0)).trans LJ;generalize ux F0 [d]=S at q0;unfold Z7;exact aa (gH (by rw[q0,dD];rfl)) al
end
end Go.Proofs.YtlagbijmfchkeaaGreat
