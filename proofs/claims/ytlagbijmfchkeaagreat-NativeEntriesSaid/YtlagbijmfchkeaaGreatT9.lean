/-
  A part of the law's proof over the abstract evaluator. Conditions: those of each theorem, as it states them.
-/
import Derived.Test.YtlagbijmfchkeaaGreatB2
import Derived.Test.YtlagbijmfchkeaaGreatT1
import Derived.Test.YtlagbijmfchkeaaGreatT2
import Derived.Test.YtlagbijmfchkeaaGreatT3
import Derived.Test.YtlagbijmfchkeaaGreatT4
import Derived.Test.YtlagbijmfchkeaaGreatT5
import Derived.Test.YtlagbijmfchkeaaGreatT6
import Derived.Test.YtlagbijmfchkeaaGreatT7
import Derived.Test.YtlagbijmfchkeaaGreatT8
set_option linter.all false
namespace Go.Proofs.YtlagbijmfchkeaaGreat.Em
open Go.Tw
noncomputable section
def EA(k:Int):bq:=[(N (D 8),N (D 8)),(N (D 7),N (D 7)),(N (D 6),N (D 6)),(N (D 0),I k),(N (D 1),N (D 1)),(N (D 2),N (D 2)),(N (D 3),N (D 3)),(N (D 4),N (D 4)),(D 5,D 5)]
def EB(k m:Int):bq:=[(N (D 8),N (D 8)),(N (D 7),N (D 7)),(N (D 6),N (D 6)),(N (D 0),I k),(N (D 1),N (D 1)),(N (D 2),N (D 2)),(N (D 3),N (D 3)),(N (D 4),I m),(D 5,D 5)]
theorem mA(k:Int):cM R0 0 [] (ax (AT (SI 0) (SI 4))) (ag b0 [] R0) (AT (.int .i64 k) (SI 4)) [] R0=some (EA k):=by rfl
theorem mB(k m:Int):cM R0 0 [] (ax (AT (SI 0) (SI 4))) (ag b0 [] R0) (AT (.int .i64 k) (.int .i64 m)) [] R0=some (EB k m):=by rfl
theorem fa0:q0.all aO=true:=by kernel_rfl
theorem fa1:q1.all aO=true:=by kernel_rfl
theorem fa2:q2.all aO=true:=by kernel_rfl
theorem fa3:q3.all aO=true:=by kernel_rfl
theorem fa4:q4.all aO=true:=by kernel_rfl
theorem fa5:q5.all aO=true:=by kernel_rfl
theorem fa6:q6.all aO=true:=by kernel_rfl
theorem fa7:q7.all aO=true:=by kernel_rfl
theorem fa8:q8.all aO=true:=by kernel_rfl
theorem fa9:q9.all aO=true:=by kernel_rfl
theorem adN:q10.all aO=true:=by kernel_rfl
theorem adM:q11.all aO=true:=by kernel_rfl
theorem adL:q12.all aO=true:=by kernel_rfl
theorem adK:q13.all aO=true:=by kernel_rfl
theorem adJ:q14.all aO=true:=by kernel_rfl
theorem adI:q15.all aO=true:=by kernel_rfl
theorem adH:q16.all aO=true:=by kernel_rfl
theorem adG:q17.all aO=true:=by kernel_rfl
theorem adF:q18.all aO=true:=by kernel_rfl
theorem adE:q19.all aO=true:=by kernel_rfl
theorem adD:q20.all aO=true:=by kernel_rfl
theorem UP:q21_1.all aO=true:=by kernel_rfl
theorem UO:q21_2.all aO=true:=by kernel_rfl
theorem UN:q21_3.all aO=true:=by kernel_rfl
theorem UM:q21_4.all aO=true:=by kernel_rfl
theorem UL:q21_5.all aO=true:=by kernel_rfl
theorem UK:q21_6.all aO=true:=by kernel_rfl
theorem UJ:q21_7.all aO=true:=by kernel_rfl
theorem UI:q22_1.all aO=true:=by kernel_rfl
theorem UH:q22_2.all aO=true:=by kernel_rfl
theorem UG:q22_3.all aO=true:=by kernel_rfl
theorem UF:q22_4.all aO=true:=by kernel_rfl
theorem UE:q22_5.all aO=true:=by kernel_rfl
theorem UD:q22_6.all aO=true:=by kernel_rfl
theorem UC:q22_7.all aO=true:=by kernel_rfl
theorem UB:q22_8.all aO=true:=by kernel_rfl
theorem adC:q23.all aO=true:=by kernel_rfl
theorem adB:q24.all aO=true:=by kernel_rfl
theorem adA:q25.all aO=true:=by kernel_rfl
theorem adz:q26.all aO=true:=by kernel_rfl
theorem ady:q27.all aO=true:=by kernel_rfl
theorem UA:q28_0.all aO=true:=by kernel_rfl
theorem Uz:q28_1.all aO=true:=by kernel_rfl
theorem Uy:q28_2.all aO=true:=by kernel_rfl
theorem Ux:q28_3.all aO=true:=by kernel_rfl
theorem Uw:q28_4.all aO=true:=by kernel_rfl
theorem Uv:q28_5.all aO=true:=by kernel_rfl
theorem Uu:q28_6.all aO=true:=by kernel_rfl
theorem Ut:q28_7.all aO=true:=by kernel_rfl
theorem Us:q28_8.all aO=true:=by kernel_rfl
theorem adx:q29.all aO=true:=by kernel_rfl
theorem adw:q30.all aO=true:=by kernel_rfl
theorem adv:q31.all aO=true:=by kernel_rfl
theorem adu:q32.all aO=true:=by kernel_rfl
theorem Pg(q:Int×ST)(h:q∈LOp):0≤q.1:=by simp only[LOp,cP,dQ,or_false]at h;rcases h with rfl|rfl|rfl|rfl|rfl|rfl|rfl|rfl|rfl|rfl|rfl|rfl|rfl|rfl|rfl|rfl|rfl|rfl|rfl|rfl|rfl|rfl|rfl|rfl|rfl|rfl|rfl|rfl|rfl|rfl|rfl|rfl|rfl<;>simp
theorem Wb(q:Int×ST)(h:q∈LOp):q.1<33:=by simp only[LOp,cP,dQ,or_false]at h;rcases h with rfl|rfl|rfl|rfl|rfl|rfl|rfl|rfl|rfl|rfl|rfl|rfl|rfl|rfl|rfl|rfl|rfl|rfl|rfl|rfl|rfl|rfl|rfl|rfl|rfl|rfl|rfl|rfl|rfl|rfl|rfl|rfl|rfl<;>simp
theorem Pj(q:Int×ST)(h:q∈L21):1≤q.1:=by simp only[L21,cP,dQ,or_false]at h;rcases h with rfl|rfl|rfl|rfl|rfl|rfl|rfl<;>simp
theorem Ph(q:Int×ST)(h:q∈L22):1≤q.1:=by simp only[L22,cP,dQ,or_false]at h;rcases h with rfl|rfl|rfl|rfl|rfl|rfl|rfl|rfl<;>simp
theorem We(q:Int×ST)(h:q∈L21):q.1<8:=by simp only[L21,cP,dQ,or_false]at h;rcases h with rfl|rfl|rfl|rfl|rfl|rfl|rfl<;>simp
theorem Wd(q:Int×ST)(h:q∈L22):q.1<9:=by simp only[L22,cP,dQ,or_false]at h;rcases h with rfl|rfl|rfl|rfl|rfl|rfl|rfl|rfl<;>simp
theorem Wc(q:Int×ST)(h:q∈L28):q.1<9:=by simp only[L28,cP,dQ,or_false]at h;rcases h with rfl|rfl|rfl|rfl|rfl|rfl|rfl|rfl|rfl<;>simp
section
variable{v:Val}(hF:v.fn=F0)
theorem bN{c:Code}{nt:Nat}{k:Int}(hk:@Sx.eval v (D 0)=k)(h:HR 0 0 nt v c (ax (AT (.int .i64 k) (SI 4))) (ag b0 [] R0) .ret v (ax RT) (ag b0 OT 1025)):HR 0 0 nt v c (ax (AT (SI 0) (SI 4))) (ag b0 [] R0) .ret v (ax RT) (ag b0 OT 1025):=
 HT.pre (aw 0) (aI base0 (mA k) (aa rfl (aa rfl (aa rfl (aa (congrArg Dat.int hk) (aa rfl (aa rfl (aa rfl (aa rfl (aa rfl al)))))))))) h
theorem iu{c:Code}{nt:Nat}{k m:Int}(hk:@Sx.eval v (D 0)=k)(hm:@Sx.eval v (D 4)=m)(h:HR 0 0 nt v c (ax (AT (.int .i64 k) (.int .i64 m))) (ag b0 [] R0) .ret v (ax RT) (ag b0 OT 1025)):HR 0 0 nt v c (ax (AT (SI 0) (SI 4))) (ag b0 [] R0) .ret v (ax RT) (ag b0 OT 1025):=
 HT.pre (aw 0) (aI base0 (mB k m) (aa rfl (aa rfl (aa rfl (aa (congrArg Dat.int hk) (aa rfl (aa rfl (aa rfl (aa (congrArg Dat.int hm) (aa rfl al)))))))))) h
theorem Qt{a b:Sx}(h:@Sx.eval v a≠@Sx.eval v b):@Bx.eval v (eq a b)=false:=by show(@Sx.eval v a==@Sx.eval v b)=false;simpa using h
theorem N8{a b:Sx}(h:@Sx.eval v a=@Sx.eval v b):@Bx.eval v (eq a b)=true:=by show(@Sx.eval v a==@Sx.eval v b)=true;simpa using h
include hF
theorem fV(c:aD)(hc:dF[0]? =some c):¬@Holds v c:=by
 have:c=mw 0:=by simp [dF]at hc;exact hc.symm
 subst this;exact z4 hF 0 (by decide)
theorem tree6:HR 0 0 39 v c6 (ax (AT (SI 0) (SI 4))) (ag b0 [] R0) .ret v (ax RT) (ag b0 OT 1025):=by
 rcases Int.lt_or_le (@Sx.eval v (D 0)) 0 with h0|h0
 ·exact aq hF Ps (by decide) (fun c hc h=>by
   simp [dF]at hc;subst hc;have:=BG (aF h).1;have:0≤@Sx.eval v (D 0):=this;omega) aC (fun i=>eT i fun q hq=>by
   have:0≤q.1:=Pg q hq;omega)
 by_cases h1:33≤@Sx.eval v (D 0)
 ·exact aq hF Ps (by decide) (fun c hc h=>by
   simp [dF]at hc;subst hc;have:=E6 (aF (aF h).2).1;have:@Sx.eval v (D 0)<33:=this;omega) aC (fun i=>eT i fun q hq=>by
   have:q.1<33:=Wb q hq;omega)
 obtain⟨k,hk⟩:∃k:Nat,@Sx.eval v (D 0)=k:=⟨(@Sx.eval v (D 0)).toNat,by omega⟩;have hk33:k<33:=by omega
 match k,hk33,hk with
 |0,_,hk=>exact bN (k:=0) hk (aq hF acX (by decide) (fV hF) (aR hF fa0) (fun i=>az (k:=0) hk i rfl))
 |1,_,hk=>exact bN (k:=1) hk (aq hF acW (by decide) (fV hF) (aR hF fa1) (fun i=>az (k:=1) hk i rfl))
 |2,_,hk=>exact bN (k:=2) hk (aq hF acV (by decide) (fV hF) (aR hF fa2) (fun i=>az (k:=2) hk i rfl))
 |3,_,hk=>exact bN (k:=3) hk (aq hF acU (by decide) (fV hF) (aR hF fa3) (fun i=>az (k:=3) hk i rfl))
 |4,_,hk=>exact bN (k:=4) hk (aq hF acT (by decide) (fV hF) (aR hF fa4) (fun i=>az (k:=4) hk i rfl))
 |5,_,hk=>exact bN (k:=5) hk (aq hF acS (by decide) (fV hF) (aR hF fa5) (fun i=>az (k:=5) hk i rfl))
 |6,_,hk=>exact bN (k:=6) hk (aq hF acR (by decide) (fV hF) (aR hF fa6) (fun i=>az (k:=6) hk i rfl))
 |7,_,hk=>exact bN (k:=7) hk (aq hF acQ (by decide) (fV hF) (aR hF fa7) (fun i=>az (k:=7) hk i rfl))
 |8,_,hk=>exact bN (k:=8) hk (aq hF acP (by decide) (fV hF) (aR hF fa8) (fun i=>az (k:=8) hk i rfl))
 |9,_,hk=>exact bN (k:=9) hk (aq hF acO (by decide) (fV hF) (aR hF fa9) (fun i=>az (k:=9) hk i rfl))
 |10,_,hk=>exact bN (k:=10) hk (aq hF Ye (by decide) (fV hF) (aR hF adN) (fun i=>az (k:=10) hk i rfl))
 |11,_,hk=>exact bN (k:=11) hk (aq hF Yd (by decide) (fV hF) (aR hF adM) (fun i=>az (k:=11) hk i rfl))
 |12,_,hk=>exact bN (k:=12) hk (aq hF Yc (by decide) (fV hF) (aR hF adL) (fun i=>az (k:=12) hk i rfl))
 |13,_,hk=>exact bN (k:=13) hk (aq hF Yb (by decide) (fV hF) (aR hF adK) (fun i=>az (k:=13) hk i rfl))
 |14,_,hk=>exact bN (k:=14) hk (aq hF Ya (by decide) (fV hF) (aR hF adJ) (fun i=>az (k:=14) hk i rfl))
 |15,_,hk=>exact bN (k:=15) hk (aq hF X9 (by decide) (fV hF) (aR hF adI) (fun i=>az (k:=15) hk i rfl))
 |16,_,hk=>exact bN (k:=16) hk (aq hF X8 (by decide) (fV hF) (aR hF adH) (fun i=>az (k:=16) hk i rfl))
 |17,_,hk=>exact bN (k:=17) hk (aq hF X7 (by decide) (fV hF) (aR hF adG) (fun i=>az (k:=17) hk i rfl))
 |18,_,hk=>exact bN (k:=18) hk (aq hF X6 (by decide) (fV hF) (aR hF adF) (fun i=>az (k:=18) hk i rfl))
 |19,_,hk=>exact bN (k:=19) hk (aq hF X5 (by decide) (fV hF) (aR hF adE) (fun i=>az (k:=19) hk i rfl))
 |20,_,hk=>exact bN (k:=20) hk (aq hF X4 (by decide) (fV hF) (aR hF adD) (fun i=>az (k:=20) hk i rfl))
 |21,_,hk=>
  have hs:∀i,spT.val v i=sp21.val v i:=fun i=>az (k:=21) hk i rfl;by_cases hlo:@Sx.eval v (D 4)<1
  ·exact bN (k:=21) hk (aq hF CF (by decide) (fun c hc h=>by
   simp [dF]at hc;subst hc;have:=BG (aF h).1;have:1≤@Sx.eval v (D 4):=this;omega) aC (fun i=>(hs i).trans (eT i fun q hq=>by
   have:1≤q.1:=Pj q hq;omega)))
  by_cases hhi:@Sx.eval v (D 4)≥8
  ·exact bN (k:=21) hk (aq hF CF (by decide) (fun c hc h=>by
   simp [dF]at hc;subst hc;have:=E6 (aF (aF h).2).1;have:@Sx.eval v (D 4)<8:=this;omega) aC (fun i=>(hs i).trans (eT i fun q hq=>by
   have:q.1<8:=We q hq;omega)))
  obtain⟨m,hm⟩:∃m:Nat,@Sx.eval v (D 4)=m:=⟨(@Sx.eval v (D 4)).toNat,by omega⟩;have hm1:1≤m:=(by omega);have hm2:m<8:=by omega
  match m,hm1,hm2,hm with
   |1,_,_,hm=>exact iu (k:=21) (m:=1) hk hm (aq hF MO (by decide) (fV hF) (aR hF UP) (fun i=>(hs i).trans (az (k:=1) hm i rfl)))
   |2,_,_,hm=>exact iu (k:=21) (m:=2) hk hm (aq hF MN (by decide) (fV hF) (aR hF UO) (fun i=>(hs i).trans (az (k:=2) hm i rfl)))
   |3,_,_,hm=>exact iu (k:=21) (m:=3) hk hm (aq hF MM (by decide) (fV hF) (aR hF UN) (fun i=>(hs i).trans (az (k:=3) hm i rfl)))
   |4,_,_,hm=>exact iu (k:=21) (m:=4) hk hm (aq hF ML (by decide) (fV hF) (aR hF UM) (fun i=>(hs i).trans (az (k:=4) hm i rfl)))
   |5,_,_,hm=>exact iu (k:=21) (m:=5) hk hm (aq hF MK (by decide) (fV hF) (aR hF UL) (fun i=>(hs i).trans (az (k:=5) hm i rfl)))
   |6,_,_,hm=>exact iu (k:=21) (m:=6) hk hm (aq hF MJ (by decide) (fV hF) (aR hF UK) (fun i=>(hs i).trans (az (k:=6) hm i rfl)))
   |7,_,_,hm=>exact iu (k:=21) (m:=7) hk hm (aq hF MI (by decide) (fV hF) (aR hF UJ) (fun i=>(hs i).trans (az (k:=7) hm i rfl)))
 |22,_,hk=>
  have hs:∀i,spT.val v i=sp22.val v i:=fun i=>az (k:=22) hk i rfl;by_cases hlo:@Sx.eval v (D 4)<1
  ·exact bN (k:=22) hk (aq hF CE (by decide) (fun c hc h=>by
   simp [dF]at hc;subst hc;have:=BG (aF h).1;have:1≤@Sx.eval v (D 4):=this;omega) (af (Qt (show _≠(1:Int) by omega)) (af (Qt (show _≠(2:Int) by omega)) (af (Qt (show _≠(4:Int) by omega)) (af (Qt (show _≠(8:Int) by omega)) aC)))) (fun i=>(hs i).trans (eT i fun q hq=>by
   have:1≤q.1:=Ph q hq;omega)))
  by_cases hhi:@Sx.eval v (D 4)≥9
  ·exact bN (k:=22) hk (aq hF CE (by decide) (fun c hc h=>by
   simp [dF]at hc;subst hc;have:=E6 (aF (aF h).2).1;have:@Sx.eval v (D 4)<9:=this;omega) (af (Qt (show _≠(1:Int) by omega)) (af (Qt (show _≠(2:Int) by omega)) (af (Qt (show _≠(4:Int) by omega)) (af (Qt (show _≠(8:Int) by omega)) aC)))) (fun i=>(hs i).trans (eT i fun q hq=>by
   have:q.1<9:=Wd q hq;omega)))
  obtain⟨m,hm⟩:∃m:Nat,@Sx.eval v (D 4)=m:=⟨(@Sx.eval v (D 4)).toNat,by omega⟩;have hm1:1≤m:=(by omega);have hm2:m<9:=by omega
  match m,hm1,hm2,hm with
   |1,_,_,hm=>exact iu (k:=22) (m:=1) hk hm (aq hF MH (by decide) (fV hF) (aR hF UI) (fun i=>(hs i).trans (az (k:=1) hm i rfl)))
   |2,_,_,hm=>exact iu (k:=22) (m:=2) hk hm (aq hF MG (by decide) (fV hF) (aR hF UH) (fun i=>(hs i).trans (az (k:=2) hm i rfl)))
   |3,_,_,hm=>exact iu (k:=22) (m:=3) hk hm (aq hF MF (by decide) (fV hF) (aR hF UG) (fun i=>(hs i).trans (az (k:=3) hm i rfl)))
   |4,_,_,hm=>exact iu (k:=22) (m:=4) hk hm (aq hF ME (by decide) (fV hF) (aR hF UF) (fun i=>(hs i).trans (az (k:=4) hm i rfl)))
   |5,_,_,hm=>exact iu (k:=22) (m:=5) hk hm (aq hF MD (by decide) (fV hF) (aR hF UE) (fun i=>(hs i).trans (az (k:=5) hm i rfl)))
   |6,_,_,hm=>exact iu (k:=22) (m:=6) hk hm (aq hF MC (by decide) (fV hF) (aR hF UD) (fun i=>(hs i).trans (az (k:=6) hm i rfl)))
   |7,_,_,hm=>exact iu (k:=22) (m:=7) hk hm (aq hF MB (by decide) (fV hF) (aR hF UC) (fun i=>(hs i).trans (az (k:=7) hm i rfl)))
   |8,_,_,hm=>exact iu (k:=22) (m:=8) hk hm (aq hF MA (by decide) (fV hF) (aR hF UB) (fun i=>(hs i).trans (az (k:=8) hm i rfl)))
 |23,_,hk=>exact bN (k:=23) hk (aq hF X3 (by decide) (fV hF) (aR hF adC) (fun i=>az (k:=23) hk i rfl))
 |24,_,hk=>exact bN (k:=24) hk (aq hF X2 (by decide) (fV hF) (aR hF adB) (fun i=>az (k:=24) hk i rfl))
 |25,_,hk=>exact bN (k:=25) hk (aq hF X1 (by decide) (fV hF) (aR hF adA) (fun i=>az (k:=25) hk i rfl))
 |26,_,hk=>exact bN (k:=26) hk (aq hF X0 (by decide) (fV hF) (aR hF adz) (fun i=>az (k:=26) hk i rfl))
 |27,_,hk=>exact bN (k:=27) hk (aq hF XZ (by decide) (fV hF) (aR hF ady) (fun i=>az (k:=27) hk i rfl))
 |28,_,hk=>
  have hs:∀i,spT.val v i=sp28.val v i:=fun i=>az (k:=28) hk i rfl;have hl:0≤@Sx.eval v (ae (D 5)):=Int.natCast_nonneg _;by_cases hhi:@Sx.eval v (ae (D 5))≥9;{exact bN (k:=28) hk (aq hF Mq (by decide) (fV hF) (af (decide_eq_false (show ¬@Sx.eval v (ae (D 5))<9 by omega)) aC) (fun i=>(hs i).trans (eT i fun q hq=>by have:q.1<9:=Wc q hq;omega)))};obtain⟨m,hm⟩:∃m:Nat,@Sx.eval v (ae (D 5))=m:=⟨(@Sx.eval v (ae (D 5))).toNat,by omega⟩;have hm2:m<9:=by omega
  match m,hm2,hm with
   |0,_,hm=>exact bN (k:=28) hk (aq hF Mz (by decide) (fV hF) (af (N8 hm) (aR hF UA)) (fun i=>(hs i).trans (az (k:=0) hm i rfl)))
   |1,_,hm=>exact bN (k:=28) hk (aq hF My (by decide) (fV hF) (af (N8 hm) (aR hF Uz)) (fun i=>(hs i).trans (az (k:=1) hm i rfl)))
   |2,_,hm=>exact bN (k:=28) hk (aq hF Mx (by decide) (fV hF) (af (N8 hm) (aR hF Uy)) (fun i=>(hs i).trans (az (k:=2) hm i rfl)))
   |3,_,hm=>exact bN (k:=28) hk (aq hF Mw (by decide) (fV hF) (af (N8 hm) (aR hF Ux)) (fun i=>(hs i).trans (az (k:=3) hm i rfl)))
   |4,_,hm=>exact bN (k:=28) hk (aq hF Mv (by decide) (fV hF) (af (N8 hm) (aR hF Uw)) (fun i=>(hs i).trans (az (k:=4) hm i rfl)))
   |5,_,hm=>exact bN (k:=28) hk (aq hF Mu (by decide) (fV hF) (af (N8 hm) (aR hF Uv)) (fun i=>(hs i).trans (az (k:=5) hm i rfl)))
   |6,_,hm=>exact bN (k:=28) hk (aq hF Mt (by decide) (fV hF) (af (N8 hm) (aR hF Uu)) (fun i=>(hs i).trans (az (k:=6) hm i rfl)))
   |7,_,hm=>exact bN (k:=28) hk (aq hF Ms (by decide) (fV hF) (af (N8 hm) (aR hF Ut)) (fun i=>(hs i).trans (az (k:=7) hm i rfl)))
   |8,_,hm=>exact bN (k:=28) hk (aq hF Mr (by decide) (fV hF) (af (N8 hm) (aR hF Us)) (fun i=>(hs i).trans (az (k:=8) hm i rfl)))
 |29,_,hk=>exact bN (k:=29) hk (aq hF XY (by decide) (fV hF) (aR hF adx) (fun i=>az (k:=29) hk i rfl))
 |30,_,hk=>exact bN (k:=30) hk (aq hF XX (by decide) (fV hF) (aR hF adw) (fun i=>az (k:=30) hk i rfl))
 |31,_,hk=>exact bN (k:=31) hk (aq hF XW (by decide) (fV hF) (aR hF adv) (fun i=>az (k:=31) hk i rfl))
 |32,_,hk=>exact bN (k:=32) hk (aq hF XV (by decide) (fV hF) (aR hF adu) (fun i=>az (k:=32) hk i rfl))
 |k+33,h33,_=>exact absurd h33 (by omega)
omit hF in
def conT(f:Nat):Con:={f:=f,args:=[.agg [SI 0,SI 1,SI 2,SI 3,SI 4,LI (D 5)],SI 6,SI 7,SI 8],pre:=[],res:=.tup [LV 0 r10,.sym .i64 r8],objs:=[LO r9 r10]}
end
end
end Go.Proofs.YtlagbijmfchkeaaGreat.Em
