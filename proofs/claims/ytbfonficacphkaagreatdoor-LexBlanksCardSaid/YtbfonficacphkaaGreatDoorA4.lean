/-
  A part of the proof that the abstract evaluator is sound for the model's machine. Conditions: those of each theorem, as it states them.
-/
import Derived.Test.YtbfonficacphkaaGreatDoorA3
import Derived.ProofKit
import Derived.Lib.LaidTab
import Derived.Stop.LaidErr
set_option linter.all false
namespace Go.Tw
section
variable(R d:Nat)
def mv(i:Nat):Nat:=bif Nat.blt i R then i else i+d
mutual
def AV.mv:AV→AV
 | .ptr id ver off hi=>.ptr (Tw.mv R d id) ver off hi
 | .slc id ver off len cap esz=>.slc (Tw.mv R d id) ver off len cap esz
 | .map id=>.map (Tw.mv R d id)
 | .yld id=>.yld (Tw.mv R d id)
 | .fn f a b=>.fn f (DN a) (DN b)
 | .iface t v=>.iface t v.mv
 | .agg l=>.agg (DN l)
 | .tup l=>.tup (DN l)
 | .bool b=>.bool b
 | .int k n=>.int k n
 | .sym k e=>.sym k e
 | .symb b=>.symb b
 | .sslc e=>.sslc e
 | .sstr e=>.sstr e
 | .vstr e=>.vstr e
 | .str s=>.str s
 | .nilp=>.nilp
 | .nils=>.nils
 | .nilm=>.nilm
 | .anyp=>.anyp
 | .unk=>.unk
 | .nilfn=>.nilfn
 | .nili=>.nili
 | .opq .. =>.unk
def DN:List AV→List AV
 |[]=>[]
 |v::l=>v.mv::DN l
end
def WY:List (AV×AV×Nat)→List (AV×AV×Nat)
 |[]=>[]
 |(k,v,n)::l=>(k.mv R d,v.mv R d,n)::WY l
def Ob.mv:Ob→Ob
 | .box c t=>.box (DN R d c) t
 | .ro c=>.ro (DN R d c)
 | .arr c base lim since nv et=>.arr (DN R d c) base lim since nv et
 | .map es clock=>.map (WY R d es) clock
 | .iter s pos=>.iter s pos
 | .dfr=>.dead
 | .miter .. =>.dead
 | .loop .. =>.dead
 | .opq .. =>.dead
 | .dead=>.dead
end
section
variable[Val]{R d:Nat}{φ ψ:PM}
mutual
theorem VR.mv(h:∀i v e,φ i v=some e→ψ (Tw.mv R d i) v=some e):∀{v:AV} {v':Value},VR φ v v'→VR ψ (v.mv R d) v'
 |_,_,.bool b=>.bool b
 |_,_,.int k n=>.int k n
 |_,_,.sym k e=>.sym k e
 |_,_,.symb b=>.symb b
 |_,_,.sslc a l c h=>.sslc a l c h
 |_,_,.sstr s h=>.sstr s h
 |_,_,.vstr s h=>.vstr s h
 |_,_,.str s=>.str s
 |_,_,.nilp=>.nilp
 |_,_,.ptr e o he hd hh ho=>.ptr e o (h _ _ _ he) hd hh ho
 |_,_,.nils=>.nils
 |_,_,.slc e o c he hd hh hl hc ho=>.slc e o c (h _ _ _ he) hd hh hl hc ho
 |_,_,.nilm=>.nilm
 |_,_,.map e he=>.map e (h _ _ _ he)
 |_,_,.yld e he=>.yld e (h _ _ _ he)
 |_,_,.anyp p=>.anyp p
 |_,_,.unk v hv=>.unk v hv
 |_,_,.fn f a' b' ha hb=>.fn f a' b' (VRL.mv h ha) (VRL.mv h hb)
 |_,_,.nilfn=>.nilfn
 |_,_,.iface t hv=>.iface t (VR.mv h hv)
 |_,_,.nili=>.nili
 |_,_,.agg l' hl=>.agg l' (VRL.mv h hl)
 |_,_,.tup l' hl=>.tup l' (VRL.mv h hl)
 |_,_,.opq v hk=>.unk v hk.one
theorem VRL.mv(h:∀i v e,φ i v=some e→ψ (Tw.mv R d i) v=some e):∀{l:List AV} {l':List Value},VRL φ l l'→VRL ψ (DN R d l) l'
 |_,_,.nil=>.nil
 |_,_,.cons hv ht=>.cons (VR.mv h hv) (VRL.mv h ht)
end
omit [Val]in
theorem eh:∀l:List AV,(DN R d l).length=l.length:=by
 intro l
 induction l with
 |nil=>rfl
 |cons v l ih=>simp [DN,ih]
omit [Val]in
theorem MJ:∀(l:List AV) (i:Nat),(DN R d l)[i]? =(l[i]?).map (·.mv R d):=by
 intro l
 induction l with
 |nil=>intro i;simp [DN]
 |cons v l ih=>intro i;cases i<;>simp [DN,ih]
theorem ER.mv(h:∀i v e,φ i v=some e→ψ (Tw.mv R d i) v=some e){l:List (AV×AV×Nat)}{l':List MapEntry}(k:ER φ l l'):ER ψ (WY R d l) l':=by
 induction k with
 |nil=>exact .nil
 |cons hk hv _ ih=>exact .cons (hk.mv h) (hv.mv h) ih
theorem Rep.mv(h:∀i v e,φ i v=some e→ψ (Tw.mv R d i) v=some e){w:World}{id:Nat}{o:Ob}(hid:R≤id)(hs:∀v,ψ (Tw.mv R d id) v=φ id v)
 (k:Rep R φ w id (some o)):Rep R ψ w (Tw.mv R d id) (some (o.mv R d)):=by
 have hR':R≤Tw.mv R d id:=by unfold Tw.mv;rw[ai];split<;>omega
 cases o with
 |dead=>trivial
 |dfr=>trivial
 |loop=>trivial
 |miter=>trivial
 |opq=>trivial
 |box c t=>obtain⟨hR,e,cs,fl,fh,he,hb,h1,h2,h3,h4,h5,h6⟩:=k;exact⟨hR',e,cs,fl,fh,(hs _).trans he,hb,h1,h2,by rw[eh];exact h3,by rw[eh];exact h4,h5.mv h,by rw[eh];exact h6⟩
 |ro c=>obtain⟨e,cs,t,fr,he,hb,h1,h2,h3⟩:=k;exact⟨e,cs,t,fr,(hs _).trans he,hb,h1,by rw[eh];exact h2,by rw[eh];exact h3.mv h⟩
 |arr c base lim since nv fz=>
  obtain⟨hR,h1,h2,h3,h4,h5,h6,h7⟩:=k;refine⟨hR',by rw[eh];exact h1,h2,h3,fun v hv=>(hs _).trans (h4 v hv),fun v hv=> ?_,
   fun v₁ v₂ e₁ e₂ a1 a2 b1 b2=>h6 v₁ v₂ e₁ e₂ a1 a2 ((hs _).symm.trans b1) ((hs _).symm.trans b2),
   fun v e a1 a2 a3 a4=>by rw[eh];exact h7 v e a1 a2 a3 ((hs _).symm.trans a4)⟩
  obtain⟨e,cs,fl,fh,he,hb,k1,k2,k3,k4,k5⟩:=h5 v hv;refine⟨e,cs,fl,fh,(hs _).trans he,hb,k1,k2,by rw[eh];exact k3,k4,fun x a x1 x2 x3=> ?_⟩;rw[MJ]at x3;cases hx:c[x]? with
  |none=>rw[hx]at x3;cases x3
  |some b=>rw[hx]at x3;simp only[Option.map_some,aw]at x3;subst x3;obtain⟨a',y1,y2⟩:=k5 x b x1 x2 hx;exact⟨a',y1,y2.mv h⟩
 |map es clock=>obtain⟨hR,e,es',he,hb,h1⟩:=k;exact⟨hR',e,es',(hs _).trans he,hb,h1.mv h⟩
 |iter s pos=>obtain⟨hR,e,he,hb,h1⟩:=k;exact⟨hR',e,(hs _).trans he,hb,h1⟩
end
end Go.Tw
namespace Go.Tw
noncomputable section
structure Memo where
 f:FuncId
 args:List AV
 v:AV
 objs:List (Nat×Ob)
 n:Nat
mutual
def AV.pure:AV→Bool
 | .ptr .. =>false
 | .slc .. =>false
 | .map _=>false
 | .yld _=>false
 | .fn _ a b=>nF a&&nF b
 | .iface _ v=>v.pure
 | .agg l=>nF l
 | .tup l=>nF l
 | .opq .. =>false
 |_=>true
def nF:List AV→Bool
 |[]=>true
 |v::l=>v.pure&&nF l
end
section
variable[Val]{φ ψ:PM}
mutual
theorem VR.pure:∀{v:AV} {v':Value},VR φ v v'→v.pure=true→VR ψ v v'
 |_,_,.bool b,_=>.bool b
 |_,_,.int k n,_=>.int k n
 |_,_,.sym k e,_=>.sym k e
 |_,_,.symb b,_=>.symb b
 |_,_,.sslc a l c h,_=>.sslc a l c h
 |_,_,.sstr s h,_=>.sstr s h
 |_,_,.vstr s h,_=>.vstr s h
 |_,_,.str s,_=>.str s
 |_,_,.nilp,_=>.nilp
 |_,_,.ptr ..,h=>by simp [AV.pure]at h
 |_,_,.nils,_=>.nils
 |_,_,.slc ..,h=>by simp [AV.pure]at h
 |_,_,.nilm,_=>.nilm
 |_,_,.map ..,h=>by simp [AV.pure]at h
 |_,_,.yld ..,h=>by simp [AV.pure]at h
 |_,_,.anyp p,_=>.anyp p
 |_,_,.unk v hv,_=>.unk v hv
 |_,_,.fn f a' b' ha hb,h=>by simp only[AV.pure,al]at h;exact .fn f a' b' (VRL.pure ha h.1) (VRL.pure hb h.2)
 |_,_,.nilfn,_=>.nilfn
 |_,_,.iface t hv,h=>by simp only[AV.pure]at h;exact .iface t (VR.pure hv h)
 |_,_,.nili,_=>.nili
 |_,_,.agg l' hl,h=>by simp only[AV.pure]at h;exact .agg l' (VRL.pure hl h)
 |_,_,.tup l' hl,h=>by simp only[AV.pure]at h;exact .tup l' (VRL.pure hl h)
 |_,_,.opq ..,h=>by simp [AV.pure]at h
theorem VRL.pure:∀{l:List AV} {l':List Value},VRL φ l l'→nF l=true→VRL ψ l l'
 |_,_,.nil,_=>.nil
 |_,_,.cons hv ht,h=>by simp only[nF,al]at h;exact .cons (VR.pure hv h.1) (VRL.pure ht h.2)
end
end
def jZ(R d:Nat):List (Nat×Ob)→T Ob→T Ob
 |[],h=>h
 |(k,o)::l,h=>jZ R d l (h.set (k+d) (o.mv R d))
def Memo.ret(R:Nat)(m:Memo)(σ:St):CR:=
 bif Nat.ble R σ.next then
  .ret (m.v.mv R (σ.next - R)) {σ with heap:=jZ R (σ.next - R) m.objs σ.heap,next:=m.n+(σ.next - R)}
 else .no
def Memo.ok(P:Program)(C:Cfg)(n R:Nat)(β:St)(m:Memo):Bool:=
 match KM P C n m.f m.args β with
 | .ret v τ=>v.same m.v&&Nat.beq τ.next m.n&&Nat.ble R m.n&&nF m.args&&m.objs.all (fun p=>Nat.ble R p.1&&Nat.blt p.1 m.n&&(match τ.heap.get p.1 with
  |some o=>o.same p.2
  |none=>false))
 |_=>false
def Ef(R:Nat)(args:List AV)(σ:St):List Memo→CR
 |[]=>.no
 |m::l=>bif sameL args m.args then m.ret R σ else Ef R args σ l
def Vr(m:Memo)(t:T (List Memo)):T (List Memo):=t.set m.f (match t.get m.f with
 |some l=>m::l
 |none=>[m])
def kN:List Memo→T (List Memo)
 |[]=>.leaf
 |m::l=>Vr m (kN l)
def ei(R:Nat)(t:T (List Memo))(f:FuncId)(args:List AV)(σ:St):CR:=
 match t.get f with
 |some l=>Ef R args σ l
 |none=>.no
theorem yK:∀{ms:List Memo} {f:FuncId} {l:List Memo},(kN ms).get f=some l→∀m∈l,m∈ms∧m.f=f:=by
 intro ms
 induction ms with
 |nil=>intro f l h;simp [kN,T.get_leaf]at h
 |cons x ms ih=>intro f l h m hm;simp only[kN,Vr]at h;rw[T.get_set]at h;split at h;{rename_i hf;cases h;split at hm;{rename_i l' hl';rcases List.mem_cons.1 hm with rfl|hm;{exact⟨by simp,hf.symm⟩};have:=ih hl' m hm;exact⟨List.mem_cons_of_mem _ this.1,this.2.trans hf.symm⟩};simp only[oC]at hm;subst hm;exact⟨by simp,hf.symm⟩};have:=ih h m hm;exact⟨List.mem_cons_of_mem _ this.1,this.2⟩
theorem lY{R:Nat}{args:List AV}{σ:St}:∀{l:List Memo} {r:CR},Ef R args σ l=r→r≠.no→∃m∈l,args=m.args∧m.ret R σ=r:=by
 intro l
 induction l with
 |nil=>intro r h hr;exact absurd h.symm hr
 |cons m l ih=>intro r h hr;simp only[Ef,ai]at h;split at h;{rename_i hs;exact⟨m,by simp,sameL_eq hs,h⟩};obtain⟨m',h1,h2⟩:=ih h hr;exact⟨m',List.mem_cons_of_mem _ h1,h2⟩
theorem mI(R d:Nat):∀(l:List (Nat×Ob)) (h:T Ob) (i:Nat),(jZ R d l h).get i=h.get i∨∃k o,(k,o)∈l∧i=k+d∧(jZ R d l h).get i=some (o.mv R d):=by
 intro l
 induction l with
 |nil=>intro h i;exact .inl rfl
 |cons x l ih=>intro h i;obtain⟨k,o⟩:=x;simp only[jZ];rcases ih (h.set (k+d) (o.mv R d)) i with h1|⟨k',o',h1,h2,h3⟩;{rw[h1,T.get_set];split;{rename_i e;exact .inr ⟨k,o,by simp,e,rfl⟩};exact .inl rfl};exact .inr ⟨k',o',List.mem_cons_of_mem _ h1,h2,h3⟩
def Memo.Sound[Val](P:Program)(R:Nat)(C:Cfg)(m:Memo):Prop:=
 (R≤m.n∧∀k o,(k,o)∈m.objs→R≤k∧k<m.n)∧
 ∀(σ:St) (D:Nat→Prop) (φ:PM) (w:World) (args':Array Value),Inv R C D φ σ w→VRL φ m.args args'.toList→∀v σ',m.ret R σ=.ret v σ'→Free φ σ σ'→
  Calls P m.f args' w fun e w'=>∃φ' v',e=.returned v'∧VR φ' v v'∧Post R D φ σ w σ' φ' w'
theorem Memo.ret_eq{R:Nat}{m:Memo}{σ:St}{r:CR}(h:m.ret R σ=r)(hr:r≠.no):R≤σ.next∧
 r=.ret (m.v.mv R (σ.next - R)) {σ with heap:=jZ R (σ.next - R) m.objs σ.heap,next:=m.n+(σ.next - R)}:=by
 unfold Memo.ret at h;rw[ai]at h;split at h;{rename_i hle;exact⟨aB hle,h.symm⟩};exact absurd h.symm hr
theorem Memo.ret_step{R:Nat}{m:Memo}(hm:R≤m.n∧∀k o,(k,o)∈m.objs→R≤k∧k<m.n)(σ:St):(m.ret R σ).steps σ:=by
 intro σ' hs;cases hr:m.ret R σ with
 |no=>rw[hr]at hs;cases hs
 |pan c τ=>have:=(Memo.ret_eq hr (by simp)).2;cases this
 |ret v τ=>
  obtain⟨hle,he⟩:=Memo.ret_eq hr (by simp);rw[hr]at hs;simp only[CR.st,aw]at hs;subst hs;cases he;exact{
   next:=by show σ.next≤m.n+(σ.next - R);omega
   rd:=fun _ h=>h
   wr:=fun _ h=>h
   keep:=fun i hi _=>by rcases mI R (σ.next - R) m.objs σ.heap i with h|⟨k,o,h1,h2,_⟩;{exact h};have:=hm.2 k o h1;omega
   dom:=fun hd i hi=>by have hi:m.n+(σ.next - R)≤i:=hi;rcases mI R (σ.next - R) m.objs σ.heap i with h|⟨k,o,h1,h2,_⟩;{exact h.trans (hd i (by omega))};have:=hm.2 k o h1;omega
   wlt:=fun _ i h=>.inl h}
section
variable[Val]{P:Program}{R:Nat}
theorem Cl{C:Cfg}{ms:List Memo}(hms:∀m∈ms,m.Sound P R C):bN {C with hk:=ei R (kN ms)}:=by
 intro f args σ σ' hs;cases hr:ei R (kN ms) f args σ with
 |no=>simp only[hr]at hs;cases hs
 |pan c τ=>unfold ei at hr;split at hr;{rename_i l hl;obtain⟨m,hm,_,h⟩:=lY hr (by simp);have:=(Memo.ret_eq h (by simp)).2;cases this};cases hr
 |ret v τ=>have hr':=hr;unfold ei at hr';split at hr';{rename_i l hl;obtain⟨m,hm,_,h⟩:=lY hr' (by simp);simp only[hr]at hs;refine(Memo.ret_step (hms m (yK hl m hm).1).1 σ) σ' ?_;rw[h];exact hs};cases hr'
theorem Inv.hk{C:Cfg}{h:FuncId→List AV→St→CR}{D:Nat→Prop}{φ:PM}{σ:St}{w:World}(k:Inv R {C with hk:=h} D φ σ w):Inv R C D φ σ w:=
 ⟨k.wf,k.low,k.rep,k.gl,k.dom,k.pin,k.dec,k.wrR,k.ro,k.oh⟩
theorem Inv.hk'{C:Cfg}{h:FuncId→List AV→St→CR}{D:Nat→Prop}{φ:PM}{σ:St}{w:World}(k:Inv R C D φ σ w):Inv R {C with hk:=h} D φ σ w:=
 ⟨k.wf,k.low,k.rep,k.gl,k.dom,k.pin,k.dec,k.wrR,k.ro,k.oh⟩
theorem FF{C:Cfg}{ms:List Memo}(hms:∀m∈ms,m.Sound P R C):kI P R {C with hk:=ei R (kN ms)}:=by intro f args σ D φ w args' hi ha;refine⟨fun v σ' h hk hf=> ?_,fun c σ' h hk hf=> ?_⟩;{have h:ei R (kN ms) f args σ=.ret v σ':=h;unfold ei at h;split at h;{rename_i l hl;obtain⟨m,hm,he,hret⟩:=lY h (by simp);obtain⟨h1,h2⟩:=yK hl m hm;subst he;rw[←h2];exact(hms m h1).2 σ D φ w args' hi.hk ha v σ' hret hf};cases h};have h:ei R (kN ms) f args σ=.pan c σ':=h;unfold ei at h;split at h;{rename_i l hl;obtain⟨m,hm,_,h⟩:=lY h (by simp);have:=(Memo.ret_eq h (by simp)).2;cases this};cases h
theorem zM{C:Cfg}{hk:FuncId→List AV→St→CR}(hs:bN {C with hk:=hk})(hh:kI P R {C with hk:=hk})(hm:P.follows .mixedOrders=true){n:Nat}{β:St}{m:Memo}
 (h1:β.next=R)(_:β.rd=[])(h3:β.wr=[])(h4:∀i,R≤i→β.heap.get i=none)(h5:∀i,i<R→β.heap.get i=C.base i)
 (hgl:∀g k,C.gl g=some k→g<R)(hok:m.ok P {C with hk:=hk} n R β=true):m.Sound P R C:=by
 unfold Memo.ok at hok;split at hok
 ·rename_i v τ hc;simp only[al]at hok;obtain⟨⟨⟨⟨k1,k2⟩,k3⟩,k4⟩,k5⟩:=hok;have k1:=AV.same_eq k1;have k2:=ae k2;have k3:=aB k3;have hobj:∀k o,(k,o)∈m.objs→R≤k∧k<m.n∧τ.heap.get k=some o:=by
   intro k o hko;have:=List.all_eq_true.1 k5 (k,o) hko;simp only[al]at this;refine⟨aB this.1.1,aR this.1.2,?_⟩;have h:=this.2;split at h;{rename_i o' ho';rw[ho',Ob.same_eq h]};cases h
  refine⟨⟨k3,fun k o hko=>⟨(hobj k o hko).1,(hobj k o hko).2.1⟩⟩,fun σ D φ w args' hi ha u σ' hr hf=> ?_⟩;obtain⟨hle,he⟩:=Memo.ret_eq hr (by simp);cases he
  -- the run from what is given
  have hib:Inv R {C with hk:=hk} (fun i=>i<R) (φ.low R) β w:={
   wf:=⟨fun i v e j u f a b c=>hi.wf.inj i v e j u f (PM.low_le φ R _ _ _ a) (PM.low_le φ R _ _ _ b) c,fun i v e a=>hi.wf.lt i v e (PM.low_le φ R _ _ _ a),fun i v e a=>hi.wf.top i v e (PM.low_le φ R _ _ _ a)⟩
   low:=by omega
   rep:=fun i hi' _=>by rw[h5 i hi'];exact hi.ro i hi'
   gl:=fun g k hg=>by obtain⟨e,he,hx⟩:=hi.gl g k hg;exact⟨e,by rw[PM.low_lt _ (hgl g k hg)];exact he,hx⟩
   dom:=fun i hi'=>h4 i (by omega)
   pin:=hi.pin
   dec:=hi.dec
   oh:=hi.oh
   wrR:=fun i hi'=>by rw[h3]at hi';cases hi'
   ro:=fun i hi'=>by have hll:(φ.low R).low R=φ.low R:=(by funext i v;unfold PM.low;split<;>rfl);rw[hll];exact hi.ro i hi'}
  have hkb:Known (fun i=>i<R) β τ:=fun i _ hn=>(by rw[h1]at hn;exact hn);have hfb:Free (φ.low R) β τ:=fun i ha' _ v=>(by have:¬i<R:=(by omega);simp [PM.low,this]);have hcalls:=AM hs hh hm hc hib (ha.pure k4) hkb hfb;refine hcalls.mono fun e w' hq=> ?_;obtain⟨φ',v',rfl,hv,hp⟩:=hq;obtain⟨l1,l2⟩:=hp.lows (by omega) (fun i hi'=>by rw[h3]at hi';cases hi')
  -- where all lies
  have hlow:∀i,i<R→∀v,φ' i v=φ i v:=(by intro i hi' v;have:=congrFun (congrFun l2 i) v;rw[PM.low_lt _ hi',PM.low_lt _ hi',PM.low_lt _ hi']at this;exact this);let φ₂:PM:=fun i v=>if σ.next≤i∧i<m.n+(σ.next - R)then φ' (i - (σ.next - R)) v else φ i v
  have hold:∀i,¬(σ.next≤i∧i<m.n+(σ.next - R))→∀v,φ₂ i v=φ i v:=fun i hi' v=>(by show(if _ then _ else _)=_;rw[if_neg hi']);have hnew:∀i,σ.next≤i→i<m.n+(σ.next - R)→∀v,φ₂ i v=φ' (i - (σ.next - R)) v:=fun i a b v=>(by show(if _ then _ else _)=_;rw[if_pos ⟨a,b⟩]);have hnone:∀i,σ.next≤i→i<m.n+(σ.next - R)→∀v,φ i v=none:=fun i a b v=>hf i a b v;have hmvn:∀i,R≤i→Tw.mv R (σ.next - R) i=i+(σ.next - R):=(by intro i hi';unfold Tw.mv;rw[ai,if_neg];intro hb;have:=aR hb;omega);have hmvo:∀i,i<R→Tw.mv R (σ.next - R) i=i:=(by intro i hi';unfold Tw.mv;have hb:Nat.blt i R=true:=Nat.ble_eq_true_of_le hi';rw[hb];rfl);have hmvs:∀i,R≤i→i<m.n→∀v,φ₂ (Tw.mv R (σ.next - R) i) v=φ' i v:=(by intro i a b v;rw[hmvn i a,hnew _ (by omega) (by omega),Nat.add_sub_cancel]);have hmv:∀i v e,φ' i v=some e→φ₂ (Tw.mv R (σ.next - R) i) v=some e:=by intro i v e he;rcases aS i R with h|h;{rw[hmvo i h,hold i (by omega),←hlow i h];exact he};rcases aS i m.n with h'|h';{rw[hmvs i h h'];exact he};rw[hp.grow i (.inr (by omega)) (by omega) v]at he;have hnr:¬i<R:=(by omega);simp [PM.low,hnr]at he
  -- the new ones lie in new blocks
  have hblk:∀k,R≤k→∀v e,φ' k v=some e→w.heap.size≤e.blk:=(by intro k hk v e he;rcases hp.blk k v e he with⟨u,f,hfu,_⟩|h;{have hnr:¬k<R:=(by omega);simp [PM.low,hnr]at hfu};exact h);have hkeep:∀b,b<w.heap.size→w'.heap[b]? =w.heap[b]? :=fun b hb=>hp.frm.keep b hb fun j hj v e he=>(by have:=l1 j hj;have hnr:¬j<R:=(by omega);simp [PM.low,hnr]at he);have hle2:φ.le φ₂:=(by intro i v e he;by_cases h:σ.next≤i∧i<m.n+(σ.next - R);{rw[hnone i h.1 h.2 v]at he;cases he};rw[hold i h];exact he);have hsz:=hp.frm.size;refine⟨φ₂,v',rfl,by rw[←k1];exact hv.mv hmv,?_⟩;exact{
   le:=hle2
   grow:=fun i _ hn v=>hold i hn v
   wrR:=fun i h=>.inl h
   wf:={
    inj:=fun i a e j b f he hfj hbk=>by by_cases h:σ.next≤i∧i<m.n+(σ.next - R);{rw[hnew i h.1 h.2]at he;by_cases h':σ.next≤j∧j<m.n+(σ.next - R);{rw[hnew j h'.1 h'.2]at hfj;rcases hp.wf.inj _ _ _ _ _ _ he hfj hbk with h3|h3<;>omega};rw[hold j h']at hfj;have h3:=hblk _ (by omega) a e he;have h4:=hi.wf.lt _ _ _ hfj;omega};rw[hold i h]at he;by_cases h':σ.next≤j∧j<m.n+(σ.next - R);{rw[hnew j h'.1 h'.2]at hfj;have h3:=hblk _ (by omega) b f hfj;have h4:=hi.wf.lt _ _ _ he;omega};rw[hold j h']at hfj;exact hi.wf.inj _ _ _ _ _ _ he hfj hbk
    lt:=fun i a e he=>by by_cases h:σ.next≤i∧i<m.n+(σ.next - R);{rw[hnew i h.1 h.2]at he;exact hp.wf.lt _ _ _ he};rw[hold i h]at he;have:=hi.wf.lt _ _ _ he;omega
    top:=fun i a e he=>by by_cases h:σ.next≤i∧i<m.n+(σ.next - R);{rw[hnew i h.1 h.2]at he;exact hp.wf.top _ _ _ he};rw[hold i h]at he;exact hi.wf.top _ _ _ he}
   blk:=fun i a e he=>by by_cases h:σ.next≤i∧i<m.n+(σ.next - R);{rw[hnew i h.1 h.2]at he;exact .inr (hblk _ (by omega) a e he)};rw[hold i h]at he;exact .inl ⟨a,e,he,rfl⟩
   rep:=fun i hii=>by show Rep R φ₂ w' i ((jZ R (σ.next - R) m.objs σ.heap).get i);rcases mI R (σ.next - R) m.objs σ.heap i with h|⟨k,o,hko,hik,h⟩;{rw[h];rcases hii with⟨hd,hn⟩|⟨hn1,_⟩;{refine(hi.rep i hd hn).frame hle2 (fun v=>hold i (by omega) v) fun v e he=>hkeep _ (hi.wf.lt _ _ _ he)};rw[hi.dom i hn1];trivial};rw[h];obtain⟨q1,q2,q3⟩:=hobj k o hko;have hrep:=hp.rep k (.inr ⟨by omega,by omega⟩);rw[q3]at hrep;have:=Rep.mv (d:=σ.next - R) hmv q1 (hmvs k q1 q2) hrep;rw[hmvn k q1,←hik]at this;exact this
   frm:=⟨hsz,fun b hb _=>hkeep b hb,hp.frm.os,hp.frm.out,hp.frm.tape⟩}
 cases hok
theorem s7{C:Cfg}{ms:List Memo}(hms:∀m∈ms,m.Sound P R C)(hm:P.follows .mixedOrders=true){n:Nat}{β:St}{m:Memo}
 (h1:β.next=R)(h2:β.rd=[])(h3:β.wr=[])(h4:∀i,R≤i→β.heap.get i=none)(h5:∀i,i<R→β.heap.get i=C.base i)
 (hgl:∀g k,C.gl g=some k→g<R)(hok:m.ok P {C with hk:=ei R (kN ms)} n R β=true):m.Sound P R C:=
 zM (Cl hms) (FF hms) hm h1 h2 h3 h4 h5 hgl hok
def bp(l:List Nat):AV:=.str (l.map UInt8.ofNat)
theorem E6{C:Cfg}:∀m∈([]:List Memo),m.Sound P R C:=fun _ h=>by cases h
theorem rV{C:Cfg}{m:Memo}{ms:List Memo}(h:m.Sound P R C)(k:∀m∈ms,m.Sound P R C):∀x∈m::ms,x.Sound P R C:=fun x hx=>by rcases List.mem_cons.1 hx with rfl|hx;{exact h};exact k x hx
open Go.ChangeShapes Go.RowKit in
end
end
end Go.Tw
namespace Go.Tw
open Go.ChangeShapes Go.RowKit
end Go.Tw
namespace Go.Tw
open Go.ChangeShapes Go.RowKit
theorem wrap_i64(n:Int):cG .i64 n=if n%18446744073709551616≥9223372036854775808 then n%18446744073709551616 - 18446744073709551616 else n%18446744073709551616:=by
 rw[bq];unfold IntKind.wrap;have e1:(2^IntKind.i64.bits:Int)=18446744073709551616:=by decide
 have e2:(2^(IntKind.i64.bits - 1):Int)=9223372036854775808:=by decide
 have e3:IntKind.i64.signed=true:=rfl;simp only[e1,e2,e3,Bool.true_and,decide_eq_true_eq]
theorem GS(a:Int)(n:Nat):a.tmod (n:Int)=if 0≤a then a%n else -((-a)%n):=by
 split;{rename_i h;exact Int.tmod_eq_emod_of_nonneg h};rename_i h;have:a= -(-a):=by omega
 rw[this,Int.neg_tmod,Int.tmod_eq_emod_of_nonneg (by omega)];simp
theorem uc(a:Int):(BitVec.ofInt 64 a).toNat=(a%18446744073709551616).toNat:=by rw[BitVec.toNat_ofInt];rfl
theorem KU(a:Int)(j:Nat)(hj:j≤62):gf .i64 (· &&& ·) a (2^j - 1)=a%2^j:=by
 have hp:(2:Nat)^j≤2^62:=Nat.pow_le_pow_right (by decide) hj;have hp1:1≤(2:Nat)^j:=Nat.one_le_two_pow;have hc:((2:Int)^j - 1)=((2^j - 1:Nat):Int):=by have:((2^j:Nat):Int)=(2:Int)^j:=(by simp);omega
 show cG .i64 ((BitVec.ofInt 64 a&&& BitVec.ofInt 64 (2^j - 1)).toNat:Int)=_;rw[BitVec.toNat_and,uc,uc,hc];have e1:(((2^j - 1:Nat):Int)%18446744073709551616).toNat=2^j - 1:=by omega
 rw[e1,Nat.and_two_pow_sub_one_eq_mod];have hdiv:(2:Nat)^j ∣ 18446744073709551616:=by have:(18446744073709551616:Nat)=2^64:=(by decide);rw[this];exact Nat.pow_dvd_pow 2 (by omega)
 have e2:(((a%18446744073709551616).toNat%2^j:Nat):Int)=a%2^j:=by rw[Int.natCast_emod,Int.toNat_of_nonneg (Int.emod_nonneg _ (by decide))];have:((2^j:Nat):Int)=(2:Int)^j:=(by simp);rw[this];exact Int.emod_emod_of_dvd a (by rw[←this];exact Int.natCast_dvd_natCast.2 hdiv)
 rw[e2,wrap_i64];have hb:0≤a%2^j∧a%2^j<2^62:=by
  have hpos:(0:Int)<2^j:=by have:((2^j:Nat):Int)=(2:Int)^j:=by simp
                            omega
  refine⟨Int.emod_nonneg _ (by omega),?_⟩;have h1:=Int.emod_lt_of_pos a hpos;have h2:((2^j:Nat):Int)=(2:Int)^j:=(by simp);have h3:((2^62:Nat):Int)=(2:Int)^62:=(by decide);omega
 have h62:(2:Int)^62=4611686018427387904:=by decide
 rw[h62]at hb;generalize a%2^j=z at hb⊢;split<;>omega
theorem Jl[Val](x:Sx):(Sx.bin .and .i64 x (.lit 4095)).eval=(Sx.bin .rem .i64 (.bin .add .i64 (.bin .rem .i64 x (.lit (.ofNat 4096))) (.lit (.ofNat 4096))) (.lit (.ofNat 4096))).eval:=by
 show gf .i64 (· &&& ·) x.eval 4095=(cG .i64 (x.eval.tmod 4096+4096)).tmod 4096;have h1:=KU x.eval 12 (by decide);have e1:((2:Int)^12 - 1)=4095:=by decide
 have e2:((2:Int)^12)=4096:=by decide
 rw[e1,e2]at h1;rw[h1,wrap_i64];have h2:=GS x.eval 4096;have e3:(((4096:Nat):Int))=4096:=rfl;rw[e3]at h2;rw[h2];generalize x.eval=a;have h3:∀z:Int,0≤z→z.tmod 4096=z%4096:=fun z hz=>Int.tmod_eq_emod_of_nonneg hz;split;{rename_i h;rw[if_neg (by omega),h3 _ (by omega)];omega};rename_i h;rw[if_neg (by omega),h3 _ (by omega)];omega
abbrev bo:=List (Bx×Bool)
def rh:bo→Bx→Option Bool
 |[],_=>none
 |(c,x)::l,b=>bif c.same b then some x else rh l b
def isLit:Sx→Option Int
 | .lit n=>some n
 |_=>none
def xz(k:IntKind)(e a b:Sx):Sx:=
 match k,a,b with
 | .i64,.bin .add .i64 (.bin .rem .i64 x (.lit (.ofNat 4096))) (.lit (.ofNat 4096)),.lit (.ofNat 4096)=>.bin .and .i64 x (.lit 4095)
 |_,_,_=>e
def cx:Sx→Sx
 | .lit n=>.lit n
 | .var i=>.var i
 | .wrap k a=>.wrap k (cx a)
 | .bin op k a b=>match op with
  | .rem=>xz k (.bin .rem k (cx a) (cx b)) (cx a) (cx b)
  |op=>.bin op k (cx a) (cx b)
 | .dvar i=>.dvar i
 | .slit s=>.slit s
 | .pr f a b=>.pr f a b
 | .ap f a b c=>.ap f a b c
 | .cell x i o=>.cell x i o
 | .setc x i o c=>.setc x i o c
 | .dlit d=>.dlit d
def xV:Sx→Option (List UInt8)
 | .slit s=>some s
 |_=>none
inductive CB where
 |is (x:Bool)
 |cond (b:Bx) (flip:Bool)
def CB.neg:CB→CB
 | .is x=>.is (!x)
 | .cond b f=>.cond b (!f)
def rB(a b:Sx):CB:=bif a.same b then .is true else match isLit a,isLit b with
 |some n,some m=>.is (mb n m)
 |_,_=>.cond (.cmp .eql a b) false
def l4(a b:Sx):CB:=match isLit a,isLit b with
 |some n,some m=>.is (decide (n<m))
 |_,_=>.cond (.cmp .lss a b) false
def rA(a b:Sx):CB:=match isLit b with
 |some n=>l4 a (.lit (n+1))
 |none=>(l4 b a).neg
def tU(a b:Sx):CB:=bif a.same b then .is true else match xV a,xV b with
 |some s,some t=>.is (GF s t)
 |_,_=>.cond (.seq a b) false
def tV:Bx→CB
 | .not b=>(tV b).neg
 | .seq a b=>tU a b
 | .cmp op a b=>match op with
  | .eql=>rB (cx a) (cx b)
  | .neq=>(rB (cx a) (cx b)).neg
  | .lss=>l4 (cx a) (cx b)
  | .geq=>(l4 (cx a) (cx b)).neg
  | .leq=>rA (cx a) (cx b)
  | .gtr=>(rA (cx a) (cx b)).neg
  |op=>.cond (.cmp op a b) false
def eW(p:bo)(b:Bx):Option Bool:=match tV b with
 | .is x=>some x
 | .cond c f=>match rh p c with
  |some x=>some (bif f then !x else x)
  |none=>none
def fO(p:bo):Cfg:={Cfg.none with dec:=eW p}
section
variable[Val]{P:Program}
def Holds(p:bo):Prop:=∀c∈p,c.1.eval=c.2
theorem Holds.nil:Holds []:=fun _ h=>by cases h
theorem Holds.cons{p:bo}{b:Bx}{x:Bool}(h:b.eval=x)(k:Holds p):Holds ((b,x)::p):=fun c hc=>by rcases List.mem_cons.1 hc with rfl|hc;{exact h};exact k c hc
theorem Holds.head{p:bo}{b:Bx}{x:Bool}(k:Holds ((b,x)::p)):b.eval=x:=k (b,x) (by simp)
theorem Holds.tail{p:bo}{c:Bx×Bool}(k:Holds (c::p)):Holds p:=fun d hd=>k d (by simp [hd])
theorem Holds.at{p:bo}(k:Holds p)(i:Nat){b:Bx}{x:Bool}(h:p[i]? =some (b,x)):b.eval=x:=k _ (eQ h)
theorem B3{p:bo}(h:Holds p){b:Bx}{x:Bool}(hd:rh p b=some x):b.eval=x:=by
 induction p with
 |nil=>cases hd
 |cons c p ih=>obtain⟨c,y⟩:=c;simp only[rh,ai]at hd;split at hd;{rename_i hs;cases hd;rw[←Bx.same_eq hs];exact h.head};exact ih h.tail hd
def CB.eval:CB→Bool
 | .is x=>x
 | .cond b f=>bif f then !b.eval else b.eval
theorem CB.neg_eval(c:CB):c.neg.eval= !c.eval:=by
 cases c with
 |is x=>rfl
 |cond b f=>cases f<;>simp [CB.neg,CB.eval]
omit [Val]in
theorem iH{a:Sx}{n:Int}(h:isLit a=some n):a=.lit n:=by cases a<;>simp only[isLit,aw,reduceCtorEq]at h;rw[h]
theorem ow(a b:Sx):(rB a b).eval=(Bx.cmp .eql a b).eval:=by
 unfold rB;rw[ai];split;{rename_i h;rw[Sx.same_eq h];simp [CB.eval,Bx.eval,cX]};split
 ·rename_i x y ha hb;rw[iH ha,iH hb];simp only[CB.eval,Bx.eval,Sx.eval_lit,cX];by_cases e:x=y;{subst e;have:mb x x=true:=(by cases x<;>simp [mb]);simp [this]};have:mb x y=false:=by
   cases h:mb x y with
   |true=>exact absurd (xW h) e
   |false=>rfl
  simp [this,e]
 rfl
theorem hP(a b:Sx):(l4 a b).eval=(Bx.cmp .lss a b).eval:=by unfold l4;split;{rename_i n m ha hb;rw[iH ha,iH hb];rfl};rfl
theorem ov(a b:Sx):(rA a b).eval=(Bx.cmp .leq a b).eval:=by
 unfold rA;split;{rename_i n hb;rw[iH hb,hP];simp only[Bx.eval,Sx.eval_lit,cX];congr 1;exact propext Int.lt_add_one_iff};rw[CB.neg_eval,hP];simp only[Bx.eval,cX];by_cases h:b.eval<a.eval;{have:¬a.eval≤b.eval:=(by omega);simp [h,this]};have:a.eval≤b.eval:=by omega
 simp [h,this]
theorem xw(k:IntKind)(e a b:Sx)(h:e.eval=(Sx.bin .rem k a b).eval):(xz k e a b).eval=(Sx.bin .rem k a b).eval:=by unfold xz;split;{rename_i x;exact Jl _};exact h
theorem fB:∀e:Sx,(cx e).eval=e.eval:=by
 intro e
 induction e with
 |lit n=>rfl
 |var i=>rfl
 |wrap k a ih=>show cG k (cx a).eval=cG k a.eval;rw[ih]
 |bin op k a b iha ihb=>have hb:∀op,(Sx.bin op k (cx a) (cx b)).eval=(Sx.bin op k a b).eval:=fun op=>(by show bu op k (cx a).eval (cx b).eval=bu op k a.eval b.eval;rw[iha,ihb]);unfold cx;split;{rw[xw _ _ _ _ rfl,hb]};exact hb _
 |dvar i=>rfl
 |slit s=>rfl
 |pr f a b=>rfl
 |ap f a b c=>rfl
 |cell x i o=>rfl
 |setc x i o c=>rfl
 |dlit d=>rfl
omit [Val]in
theorem qs{a:Sx}{s:List UInt8}(h:xV a=some s):a=.slit s:=by cases a<;>simp only[xV,aw,reduceCtorEq]at h;rw[h]
omit [Val]in
theorem Lq:∀(a b:List UInt8),GF a b=(a==b):=by
 intro a
 induction a with
 |nil=>intro b;cases b<;>rfl
 |cons x a ih=>
  intro b;cases b with
  |nil=>rfl
  |cons y b=>
   simp only[GF,ih,List.cons_beq_cons];by_cases h:x=y;{subst h;simp};have h1:(x==y)=false:=(by simpa using h);have h2:Nat.beq x.toNat y.toNat=false:=by
    cases hb:Nat.beq x.toNat y.toNat with
    |false=>rfl
    |true=>exact absurd (UInt8.toNat_inj.1 (Nat.eq_of_beq_eq_true hb)) h
   simp [h1,h2]
theorem uC(a b:Sx):(tU a b).eval=(Bx.seq a b).eval:=by unfold tU;rw[ai];split;{rename_i h;rw[Sx.same_eq h];simp [CB.eval,Bx.eval]};split;{rename_i x y ha hb;rw[qs ha,qs hb];show GF x y=(x==y);exact Lq x y};rfl
theorem AK:∀b:Bx,(tV b).eval=b.eval:=by
 intro b
 induction b with
 |not b ih=>show(tV b).neg.eval= !b.eval;rw[CB.neg_eval,ih]
 |seq a b=>exact uC a b
 |cmp op a b=>unfold tV;split;{rw[ow];simp only[Bx.eval,fB]};{rw[CB.neg_eval,ow];simp only[Bx.eval,fB,cX];rfl};{rw[hP];simp only[Bx.eval,fB]};{rw[CB.neg_eval,hP];simp only[Bx.eval,fB,cX];by_cases h:a.eval<b.eval;{have:¬a.eval≥b.eval:=(by omega);simp [h,this]};have:a.eval≥b.eval:=(by omega);simp [h,this]};{rw[ov];simp only[Bx.eval,fB]};{rw[CB.neg_eval,ov];simp only[Bx.eval,fB,cX];by_cases h:a.eval≤b.eval;{have:¬a.eval>b.eval:=(by omega);simp [h,this]};have:a.eval>b.eval:=(by omega);simp [h,this]};rfl
theorem fX{p:bo}(h:Holds p){b:Bx}{x:Bool}(hd:eW p b=some x):b.eval=x:=by rw[←AK];unfold eW at hd;split at hd;{rename_i y hc;simp only[aw]at hd;rw[hc];exact hd};rename_i c f hc;split at hd;{rename_i y hy;simp only[aw]at hd;rw[hc,←hd];show(bif f then !c.eval else c.eval)=_;rw[B3 h hy]};cases hd
theorem FE{p:bo}{ms:List Memo}(hms:∀m∈ms,m.Sound P 0 (fO p))(hm:P.follows .mixedOrders=true){n:Nat}{m:Memo}
 (hok:m.ok P {fO p with hk:=ei 0 (kN ms)} n 0 (St.empty 0)=true):m.Sound P 0 (fO p):=
 s7 hms hm rfl rfl rfl (fun i _=>by simp [St.empty,T.get_leaf]) (fun i h=>absurd h (Nat.not_lt_zero _)) (fun g k h=>by simp [fO,Cfg.none]at h) hok
theorem B2{p:bo}{f:Nat}{m:Memo}{args':Array Value}(hsound:m.Sound P 0 (fO p))(hp:Holds p)(hmf:m.f=f)(hmv:m.v=.bool true)(W:World)
 (ha:VRL (fun _ _=>none) m.args args'.toList):Calls P f args' W fun e W'=>e=.returned (.bool true)∧Below W.heap.size W W':=by
 have hi:Inv 0 (fO p) (fun _=>False) (fun _ _=>none) (St.empty 0) W:=
  {wf:=⟨fun _ _ _ _ _ _ h=>(by cases h),fun _ _ _ h=>(by cases h),fun _ _ _ h=>(by cases h)⟩,low:=aE _,rep:=fun _ h=>h.elim,
   gl:=fun g n h=>by simp [fO,Cfg.none]at h,dom:=fun i _=>by simp [St.empty,T.get_leaf],pin:=fun e n h=>by simp [fO,Cfg.none]at h,dec:=fun b v h=>fX hp h,
   wrR:=fun i h=>(by cases h),ro:=fun i h=>absurd h (Nat.not_lt_zero _),oh:=OhOk.none}
 have hret:m.ret 0 (St.empty 0)=.ret (m.v.mv 0 0) {St.empty 0 with heap:=jZ 0 0 m.objs (St.empty 0).heap,next:=m.n+0}:=rfl;have hc:=hsound.2 (St.empty 0) (fun _=>False) (fun _ _=>none) W args' hi ha _ _ hret (fun _ _ _ _=>rfl);rw[hmf]at hc;refine hc.mono fun e W' he=> ?_;obtain⟨φ',v',rfl,hvr,hpost⟩:=he;have hv':v'=.bool true:=by rw[hmv]at hvr;cases hvr;rfl
 subst hv';exact⟨rfl,hpost.below⟩
end
section
variable[Val]
end
end Go.Tw
namespace Go.Tw
open Go.ChangeShapes Go.RowKit
noncomputable def Oe(P:Program)(n f:Nat)(args:List AV)(q:bo)(ms:List Memo):Bool:=
 match KM P {fO q with hk:=ei 0 (kN ms)} n f args (St.empty 0)with
 | .ret v _=>match v with
  | .bool true=>true
  |_=>false
 |_=>false
section
variable[Val]{P:Program}
theorem vE{q:bo}(hq:Holds q){ms:List Memo}(hms:∀m∈ms,m.Sound P 0 (fO q))(hm:P.follows .mixedOrders=true){n f:Nat}{args:List AV}(h:Oe P n f args q ms=true)(hpure:nF args=true)
 {args':Array Value}(W:World)(ha:VRL (fun _ _=>none) args args'.toList):Calls P f args' W fun e W'=>e=.returned (.bool true)∧Below W.heap.size W W':=by
 unfold Oe at h;split at h
 ·rename_i v τ hc;split at h
  ·have hok:(⟨f,args,.bool true,[],τ.next⟩:Memo).ok P {fO q with hk:=ei 0 (kN ms)} n 0 (St.empty 0)=true:=by
    unfold Memo.ok;rw[hc];simp [AV.same,mo,hpure]
   exact B2 (FE hms hm hok) hq rfl rfl W ha
  cases h
 cases h
theorem Holds.append{p q:bo}(hp:Holds p)(hq:Holds q):Holds (p++q):=fun c hc=>(List.mem_append.1 hc).elim (hp c) (hq c)
end
end Go.Tw
namespace Go.Tw
open Go.ChangeShapes Go.RowKit
abbrev Fx:PM:=fun _ _=>none
structure PEnv(v:Val)(nt:Nat)(tm:T AV)(a:Act):Prop where
 size:a.tmps.size=nt
 val:∀t x,tm.get t=some x→∃x',a.tmps[t]? =some x'∧@VR v Fx x x'
 dfs:a.defers=[]
def ExitP:AExit→Exit→Prop
 | .normal,.normal=>True
 | .exit i,.exit j=>i=j
 | .goto i,.goto j=>i=j
 | .ret,.ret=>True
 |_,_=>False
theorem ExitP.of{v:Val}{φ:PM}{e:AExit}{e':Exit}(h:@en v φ e e')(hn:∀c,e≠.panic c):ExitP e e':=by cases e<;>cases e'<;>first|exact h|exact absurd rfl (hn _)
def PureTo(v:Val)(P:Program)(nt:Nat)(c:Code)(tm:T AV)(e:AExit)(tm':T AV):Prop:=
 ∀(a:Act) (cs:List Frame) (w:World),PEnv v nt tm a→
  Runs P none false c (fun e' a' cs' w'=>cs'=cs∧ExitP e e'∧PEnv v nt tm' a'∧Frm Fx [] w w') a cs w
theorem Frm.none_trans{w w1 w2:World}(h:Frm Fx [] w w1)(k:Frm Fx [] w1 w2):Frm Fx [] w w2:=
 ⟨Nat.le_trans h.size k.size,fun b hb _=>(k.keep b (Nat.lt_of_lt_of_le hb h.size) fun _ hi=>(by cases hi)).trans (h.keep b hb fun _ hi=>(by cases hi)),k.os.trans h.os,k.out.trans h.out,k.tape.trans h.tape⟩
def Sub(v:Val)(tm:T AV)(v':Val)(tm':T AV):Prop:=
 ∀t x,tm'.get t=some x→∃y,tm.get t=some y∧∀φ z,@VR v φ y z→@VR v' Fx x z
theorem PEnv.sub{v v':Val}{nt:Nat}{tm tm':T AV}{a:Act}(h:PEnv v nt tm a)(k:Sub v tm v' tm'):PEnv v' nt tm' a:=
 ⟨h.size,fun t x hx=>by obtain⟨y,hy,hz⟩:=k t x hx;obtain⟨x',h1,h2⟩:=h.val t y hy;exact⟨x',h1,hz _ _ h2⟩,h.dfs⟩
noncomputable def ba:List (Nat×AV)→T AV
 |[]=>.leaf
 |(t,x)::l=>(ba l).set t x
theorem oi:∀{l:List (Nat×AV)} {t:Nat} {x:AV},(ba l).get t=some x→(t,x)∈l:=by
 intro l
 induction l with
 |nil=>intro t x h;simp [ba,T.get_leaf]at h
 |cons p l ih=>intro t x h;obtain⟨q,y⟩:=p;simp only[ba]at h;rw[T.get_set]at h;split at h;{rename_i e;simp only[aw]at h;subst e;subst h;simp};exact List.mem_cons_of_mem _ (ih h)
section
variable{v:Val}{P:Program}{nt:Nat}
theorem PureTo.weak{c:Code}{tm tm' tm2:T AV}{e:AExit}(h:PureTo v P nt c tm e tm')(k:Sub v tm' v tm2):PureTo v P nt c tm e tm2:=
 fun a cs w ha=>(h a cs w ha).mono fun _ _ _ _ q=>⟨q.1,q.2.1,q.2.2.1.sub k,q.2.2.2⟩
theorem PureTo.pre{v':Val}{c:Code}{tm tm0 tm':T AV}{e:AExit}(h:PureTo v P nt c tm e tm')(k:Sub v' tm0 v tm)(k':Sub v tm' v' tm'):PureTo v' P nt c tm0 e tm':=
 fun a cs w ha=>(h a cs w (ha.sub k)).mono fun _ _ _ _ q=>⟨q.1,q.2.1,q.2.2.1.sub k',q.2.2.2⟩
theorem PureTo.seq{x y:Code}{tm tm1 tm':T AV}{e:AExit}(h:PureTo v P nt x tm .normal tm1)(k:PureTo v P nt y tm1 e tm'):PureTo v P nt (.seq x y) tm e tm':=by
 intro a cs w ha;refine dY ((h a cs w ha).mono fun e1 a1 cs1 w1 q=> ?_);obtain⟨rfl,q2,q3,q4⟩:=q;have:e1=.normal:=by cases e1<;>simp_all [ExitP]
 subst this;exact(k a1 _ w1 q3).mono fun e2 a2 cs2 w2 r=>⟨r.1,r.2.1,r.2.2.1,q4.none_trans r.2.2.2⟩
theorem PureTo.seq_out{x y:Code}{tm tm':T AV}{e:AExit}(h:PureTo v P nt x tm e tm')(hn:e≠.normal):PureTo v P nt (.seq x y) tm e tm':=by
 intro a cs w ha;refine dY ((h a cs w ha).mono fun e1 a1 cs1 w1 q=> ?_);have hnn:e1≠.normal:=by obtain⟨_,q2,_⟩:=q;intro h';subst h';cases e<;>simp_all [ExitP]
 cases e1 with
 |normal=>exact absurd rfl hnn
 |_=>exact q
theorem PureTo.block{id:Nat}{x:Code}{tm tm':T AV}(h:PureTo v P nt x tm (.exit id) tm'):PureTo v P nt (.block id x) tm .normal tm':=by intro a cs w ha;refine cM ((h a cs w ha).mono fun e1 a1 cs1 w1 q=> ?_);obtain⟨q1,q2,q3⟩:=q;cases e1<;>simp only[ExitP]at q2;subst q2;simp only[dv,if_true];exact⟨q1,trivial,q3⟩
theorem PureTo.block_out{id:Nat}{x:Code}{tm tm':T AV}{e:AExit}(h:PureTo v P nt x tm e tm')(hn:e≠.exit id):PureTo v P nt (.block id x) tm e tm':=by
 intro a cs w ha;refine cM ((h a cs w ha).mono fun e1 a1 cs1 w1 q=> ?_);obtain⟨q1,q2,q3⟩:=q;cases e1 with
 |exit j=>cases e<;>simp only[ExitP]at q2;subst q2;rename_i i;have:i≠id:=fun h'=>hn (by rw[h']);simp only[dv,this,if_false];exact⟨q1,rfl,q3⟩
 |_=>exact⟨q1,q2,q3⟩
theorem PureTo.scope{x:Code}{tm tm':T AV}{e:AExit}(h:PureTo v P nt x tm e tm')(hn:∀l,e≠.goto l):PureTo v P nt (.scope x) tm e tm':=by
 intro a cs w ha b k hb hkd;obtain⟨e1,a1,cs1,w1,q,harr⟩:=h a cs w ha b (.inScope x::k) hb hkd;have hng:∀l,e1≠.goto l:=by intro l hl;subst hl;obtain⟨_,q2,_⟩:=q;cases e<;>simp only[ExitP]at q2;exact hn _ rfl
 refine⟨e1,a1,cs1,w1,q,.of_steps (aO kQ) ?_⟩;cases e1 with
 |normal=>exact StepsIn.trans harr (aO ji)
 |exit id=>have hx:exitTo id (.inScope x::k)=exitTo id k:=(by simp [exitTo]);exact⟨fun k' hk'=>harr.1 k' (by rw[hx];exact hk'),fun hr hk'=>harr.2 hr (by rw[hx];exact hk')⟩
 |goto l=>exact absurd rfl (hng l)
 |ret=>exact harr
 |panic ch=>exact harr
 |outgrown=>exact harr
end
def An:AExit→AExit→Bool
 | .normal,.normal=>true
 | .exit i,.exit j=>Nat.beq i j
 | .goto i,.goto j=>Nat.beq i j
 | .ret,.ret=>true
 |_,_=>false
theorem od{e e':AExit}(h:An e e'=true):e=e'∧∀c,e≠.panic c:=by cases e<;>cases e'<;>simp only[An,bY]at h<;>first|exact⟨rfl,fun _ h=>by cases h⟩|exact⟨by rw[ae h],fun _ h=>by cases h⟩
end Go.Tw
namespace Go.Tw
open Go.ChangeShapes Go.RowKit
noncomputable section
abbrev gT:=List (Nat×List AV)
def cV:gT→Nat→Option (List AV)
 |[],_=>none
 |(g,c)::l,i=>bif Nat.beq g i then some c else cV l i
def fH(l:gT):Cfg:=
 {Cfg.none with gl:=fun g=>(match cV l g with
   |some c=>some c.length
   |none=>none),base:=fun i=>(match cV l i with
   |some c=>some (.ro c)
   |none=>none)}
def iT:gT→T Ob→T Ob
 |[],h=>h
 |(g,c)::l,h=>(iT l h).set g (.ro c)
def gD(R:Nat)(l:gT):St:={heap:=iT l .leaf,next:=R,rd:=[],wr:=[]}
def pY(R:Nat):gT→Bool
 |[]=>true
 |(g,_)::l=>Nat.blt g R&&pY R l
theorem gF:∀(l:gT) (i:Nat),(iT l .leaf).get i=(match cV l i with
 |some c=>some (.ro c)
 |none=>none):=by
 intro l
 induction l with
 |nil=>intro i;rfl
 |cons p l ih=>
  intro i;obtain⟨g,c⟩:=p;simp only[iT,cV,ai];rw[T.get_set];by_cases e:i=g;{subst e;simp};have:Nat.beq g i=false:=by
   cases h:Nat.beq g i with
   |true=>exact absurd (ae h).symm e
   |false=>rfl
  simp [e,this,ih]
theorem gG{R:Nat}:∀{l:gT},pY R l=true→∀{i:Nat} {c:List AV},cV l i=some c→i<R:=by
 intro l
 induction l with
 |nil=>intro _ i c h;cases h
 |cons p l ih=>intro hl i c h;obtain⟨g,c'⟩:=p;simp only[pY,al]at hl;simp only[cV,ai]at h;split at h;{rename_i hb;rw[←ae hb];exact aR hl.1};exact ih hl.2 h
section
variable[Val]{P:Program}{R:Nat}
def kD(W:World)(p:Nat×List AV):Prop:=∃cs t fr,W.heap[p.1]? =some (.cells cs t fr)∧VRL (fun _ _=>none) p.2 cs.toList
def kM(l:gT):PM:=fun i v=>if v=0 then(match cV l i with
 |some c=>some ⟨i,0,0,c.length,c.length,[]⟩
 |none=>none)else none
theorem yL{W:World}:∀{l:gT},(∀p∈l,kD W p)→∀{i:Nat} {c:List AV},cV l i=some c→kD W (i,c):=by
 intro l
 induction l with
 |nil=>intro _ i c h;cases h
 |cons p l ih=>intro hl i c h;obtain⟨g,c'⟩:=p;simp only[cV,ai]at h;split at h;{rename_i hb;cases h;rw[←ae hb];exact hl _ (by simp)};exact ih (fun p hp=>hl p (by simp [hp])) h
theorem Lt{W:World}{l:gT}(hl:∀p∈l,kD W p)(i:Nat):Rep R (kM l) W i (match cV l i with
 |some c=>some (.ro c)
 |none=>none):=by
 cases h:cV l i with
 |none=>trivial
 |some c=>obtain⟨cs,t,fr,h1,h2⟩:=yL hl h;have hlen:=h2.length;have h1:W.heap[i]? =some (.cells cs t fr):=h1;refine⟨⟨i,0,0,c.length,c.length,[]⟩,cs,t,fr,by simp [kM,h],h1,rfl,?_,?_⟩;{have:cs.toList.length=c.length:=hlen;simp only[Array.length_toList]at this;show 0+c.length≤cs.size;omega};show VRL (kM l) c ((cs.toList.drop 0).take c.length);have:(cs.toList.drop 0).take c.length=cs.toList:=(by rw[List.drop_zero,List.take_of_length_le (Nat.le_of_eq hlen)]);rw[this];exact h2.mono fun _ _ _ h=>by cases h
omit [Val]in
theorem gj{l:gT}{i v:Nat}{e:Ext}(h:kM l i v=some e):v=0∧∃c,cV l i=some c∧e=⟨i,0,0,c.length,c.length,[]⟩:=by unfold kM at h;split at h;{rename_i hv;split at h;{rename_i c hc;simp only[aw]at h;exact⟨hv,c,hc,h.symm⟩};cases h};cases h
theorem s6{l:gT}{ms:List Memo}(hms:∀m∈ms,m.Sound P R (fH l))(hm:P.follows .mixedOrders=true)(hlt:pY R l=true){n:Nat}{m:Memo}
 (hok:m.ok P {fH l with hk:=ei R (kN ms)} n R (gD R l)=true):m.Sound P R (fH l):=
 s7 hms hm rfl rfl rfl (fun i hi=>by
  show(iT l .leaf).get i=none;rw[gF];cases h:cV l i with
  |none=>rfl
  |some c=>have:=gG hlt h;omega)
  (fun i _=>gF l i) (fun g k h=>by
    have h:(match cV l g with
     |some c=>some c.length
     |none=>none)=some k:=h
    split at h;{rename_i c hc;exact gG hlt hc};cases h) hok
omit [Val]in
theorem yI{W:World}{n:String}{cs:Array Value}{g:Nat}(h:W.var? P n=some cs)(hg:P.globalNamed n=some g):∃t fr,W.heap[g]? =some (.cells cs t fr):=by unfold World.var? at h;rw[hg]at h;simp only[Option.bind_some]at h;split at h;{rename_i cs' t fr hh;cases h;exact⟨t,fr,hh⟩};cases h
omit [Val]in
theorem xJ{W:World}:∀{l:List (String×DataW Unit)},laidMet P l W→∀{i:Nat} {n:String} {d:DataW Unit},l[i]? =some (n,d)→∃rest,laidMet P ((n,d)::rest) W:=by
 intro l
 induction l with
 |nil=>intro _ i n d h;simp at h
 |cons x l ih=>
  intro hl i n d h;cases i with
  |zero=>simp at h;subst h;exact⟨l,hl⟩
  |succ i=>exact ih hl.tail (by simpa using h)
def Oi:DataW Unit→List Int
 | .agg l=>l.map fun| .lit (.int _ n)=>n|_=>0
 |_=>[]
def Oj(k:IntKind)(l:List Int):List AV:=l.map (.int k)
theorem GX{W:World}{n:String}{k:IntKind}{zs:List Int}{g:Nat}(h:Lib.TabIs P W n k zs)(hg:P.globalNamed n=some g):kD W (g,Oj k zs):=by
 obtain⟨t,fr,hh⟩:=yI h hg;refine⟨_,t,fr,hh,?_⟩;show VRL _ (zs.map (.int k)) (zs.map fun z=>Value.int k z)
 induction zs with
 |nil=>exact .nil
 |cons z zs ih=>
  refine .cons (.int _ _) ?_;clear h hh ih
  induction zs with
  |nil=>exact .nil
  |cons y zs ih=>exact .cons (.int _ _) ih
theorem Dq{W:World}{n:String}{tp:TypeId}{a:Addr}{g:Nat}(h:W.var? P n=some #[.iface tp (.pointer (some a))])(hg:P.globalNamed n=some g):kD W (g,[.iface tp .anyp]):=by obtain⟨t,fr,hh⟩:=yI h hg;exact⟨_,t,fr,hh,.cons (.iface tp (.anyp _)) .nil⟩
end
end
end Go.Tw
set_option linter.unusedSectionVars false
namespace Go.Tw
noncomputable section
def bg(x:Sx):Sx:=.pr 7 x (.lit 0)
def mU(id:Nat):Sh→Sx→AV
 | .int k,e=>.sym k e
 | .bool,e=>.symb (.cmp .neq e (.lit 0))
 | .str,e=>.vstr e
 | .slc l,e=>.opq 0 id 0 (.slc l) e (.lit 0)
def gz(id:Nat)(x i:Sx):List Sh→Nat→List AV
 |[],_=>[]
 |s::l,off=>mU id s (.cell x i off)::gz id x i l (off+1)
def Ok(σ:St)(id:Nat):Bool:=match σ.heap.get id with
 |some (.opq k _ _ _ _ _ _ _)=>Nat.beq k 0
 |_=>false
def ks(id:Nat):List Nat:=bif Nat.beq id gid then[gid]else[id,gid]
def qu(σ:St)(id:Nat):Bool:=Ok σ id&&Ok σ gid
def OhR.one(v:AV):Option OhR:=some ⟨v,[],none,none⟩
def OhR.rdo(v:AV)(l:List Nat):Option OhR:=some ⟨v,l,none,none⟩
section
variable(P:Program)(dec:Bx→Option Bool)(ev:Operand→Option AV)(σ:St)
def JV(t:TypeId)(a:AV):Option OhR:=match a,P.underlying t with
 | .opq k _ _ _ x _,some (.slice _)=>bif Nat.beq k 0 then OhR.one (.sym .i64 (bg x))else none
 |_,_=>none
def xR(t:TypeId)(a i:AV):Option OhR:=match a,P.underlying t,my i with
 | .opq k id _ (.slc l) x _,some (.slice e),some (_,n)=>match c7 P e with
  |some s=>bif Nat.beq k 0&&(Nat.beq s l.length&&Nat.blt 0 s&&(ml dec (.cmp .geq n (.lit 0))&&ml dec (.cmp .lss n (bg x))))then OhR.one (.opq 1 id 0 (.slc l) x n)else none
  |none=>none
 |_,_,_=>none
def xS(t:TypeId)(a:AV)(f:Nat):Option OhR:=match a,P.underlying t with
 | .opq k id off (.slc l) x n,some (.struct fs)=>match fs[f]? with
  |some fd=>match c7 P fd.type with
   |some s=>bif Nat.beq k 1&&(Nat.blt 0 s&&Nat.ble (off+fd.offset) l.length)then OhR.one (.opq 1 id (off+fd.offset) (.slc l) x n)else none
   |none=>none
  |none=>none
 |_,_=>none
def CI(t:TypeId)(a:AV):Option OhR:=match a,Gx P t with
 | .opq k id off (.slc l) x n,some false=>match l[off]? with
  |some s=>bif Nat.beq k 1&&qu σ id then OhR.rdo (mU id s (.cell x n off)) (ks id)else none
  |none=>none
 | .opq k id off (.slc l) x n,some true=>match c7 P t with
  |some s=>bif Nat.beq k 1&&(Nat.ble (off+s) l.length&&qu σ id)then OhR.rdo (.agg (gz id x n ((l.drop off).take s) off)) (ks id)else none
  |none=>none
 |_,_=>none
def xQ(t:TypeId)(a:AV)(lo hi mx:Option AV):Option OhR:=match a,P.underlying t,mx with
 | .opq k id _ (.slc l) x _,some (.slice e),none=>match c7 P e,AR (.lit 0) lo,AR (bg x) hi with
  |some s,some p,some q=>bif Nat.beq k 0&&(Nat.beq s l.length&&(ml dec (.cmp .geq p (.lit 0))&&ml dec (.cmp .leq p q)&&ml dec (.cmp .leq q (bg x))))then OhR.one (.opq 0 id 0 (.slc l) (.pr 11 (.pr 10 x q) p) (.lit 0))else none
  |_,_,_=>none
 |_,_,_=>none
def Oh(a:AV):Option OhR:=match a with
 | .opq k id off sh x n=>bif Nat.beq k 1 then OhR.one (.opq k id off sh x n)else none
 |_=>none
def Sk(o:Oper):Option OhR:=match o.op with
 | .call c=>match c.callee,c.argTypes.toList,c.args.toList with
  | .builtin .len,t::_,[a]=>match ev a with
   |some v=>JV P t v
   |none=>none
  |_,_,_=>none
 | .indexAddr t a i=>match ev a,ev i with
  |some v,some n=>xR P dec t v n
  |_,_=>none
 | .fieldAddr t a f=>match ev a with
  |some v=>xS P t v f
  |none=>none
 | .load t a=>match ev a with
  |some v=>CI P σ t v
  |none=>none
 | .nilCheck a=>match ev a with
  |some v=>Oh v
  |none=>none
 | .slice t a lo hi mx=>match ev a with
  |some (.opq k id ver sh x y)=>match(match lo with
   |none=>some none
   |some q=>(ev q).map some),(match hi with
   |none=>some none
   |some q=>(ev q).map some),mx with
   |some lo,some hi,none=>xQ P dec t (.opq k id ver sh x y) lo hi none
   |_,_,_=>none
  |_=>none
 |_=>none
end
section
variable[Val]{P:Program}{R:Nat}{D:Nat→Prop}{φ:PM}{σ:St}{w:World}{dec:Bx→Option Bool}
theorem Inv0.inv(h:Inv0 R D φ σ w):Inv R {Cfg.none with base:=fun _=>none} D φ σ w:=
 {wf:=h.wf,low:=h.low,rep:=h.rep,gl:=fun _ _ h=>by simp [Cfg.none]at h,dom:=h.dom,pin:=fun _ _ h=>by simp [Cfg.none]at h,dec:=fun _ _ h=>by simp [Cfg.none]at h,wrR:=h.wrR,ro:=fun _ _=>trivial,oh:=OhOk.none}
theorem Inv0.lt(h:Inv0 R D φ σ w){id:Nat}{o:Ob}(ho:σ.heap.get id=some o):id<σ.next:=by rcases aS id σ.next with h1|h1;{exact h1};rw[h.dom id h1]at ho;cases ho
theorem Inv0.at(h:Inv0 R D φ σ w){id:Nat}{o:Ob}(ho:σ.heap.get id=some o)(hd:D id):Rep R φ w id (some o):=ho▸h.rep id hd (h.lt ho)
theorem Post.same0{σ':St}(hi:Inv0 R D φ σ w)(hh:σ'.heap=σ.heap)(hn:σ'.next=σ.next)(hw:σ'.wr=σ.wr):Post R D φ σ w σ' φ w where
 le:=φ.le_refl
 grow:=fun _ _ _ _=>rfl
 wrR:=fun i hi=>.inl (hw▸hi)
 wf:=hi.wf
 blk:=fun i v e he=>.inl ⟨v,e,he,rfl⟩
 rep:=fun i h=>by rcases h with⟨hd,hl⟩|⟨h1,h2⟩;{rw[hh];exact hi.rep i hd hl};omega
 frm:=.refl _ _ _
omit [Val]in
theorem ly:∀(l:List Nat) (σ:St),∀i∈l,i∈(cw l σ).rd:=by
 intro l
 induction l with
 |nil=>intro σ i h;cases h
 |cons a l ih=>intro σ i h;rcases List.mem_cons.1 h with rfl|h;{exact(gn l (σ.lgR i)).rd i (aC.2 (.inl rfl))};exact ih _ i h
theorem Post.read(hi:Inv0 R D φ σ w)(l:List Nat):Post R D φ σ w (cw l σ) φ w:=
 .same0 hi (aY l σ).1 (aY l σ).2.1 (aY l σ).2.2
theorem tA(hi:Inv0 R D φ σ w){id b:Nat}{s:List Value}(hf:qu σ id=true)(hk:Known D σ (cw (ks id) σ))(hp:Pict φ id b s):∃t fr,w.heap[b]? =some (.cells s.toArray t fr):=by
 obtain⟨j,n,e,hj,he,rfl,rfl⟩:=hp;have hj':Ok σ j=true∧j∈ks id:=by simp only[qu,al]at hf;unfold ks;rw[ai];rcases hj with rfl|rfl;{refine⟨hf.2,?_⟩;split<;>simp};refine⟨hf.1,?_⟩;split;{rename_i h;rw[ae h];simp};simp
 obtain⟨h1,h2⟩:=hj';unfold Ok at h1;split at h1;{rename_i k a b c d e' f g ho;have:=ae h1;subst this;have hd:D j:=hk j (.inl (ly _ _ _ h2)) (hi.lt ho);exact(hi.at ho hd n e he).2};cases h1
theorem eB{x:Sx}{rows:List (List Dat)}(h:x.dat=.lst rows):(bg x).eval=rows.length:=by simp [Sx.eval,bg,Sx.dat,IM,h,Dat.toL,Dat.toI]
omit [Val]in
theorem GC.inv_slc{pc:Nat→List Value→Prop}{l:List Sh}{x:Dat}{a:Option Addr}{n c:Nat}(h:GC pc (.slc l) x (.slice a n c)):∃rows,x=.lst rows∧n=rows.length∧n≤c∧(n=0∨
 ∃b s o,∃vf:Nat→Nat→Value,a=some ⟨b,o,Option.none⟩∧pc b s∧(∀(i:Nat) (row:List Dat),rows[i]? =some row→row.length=l.length)∧(∀(i j:Nat),i<rows.length→j<l.length→s[o+i*l.length+j]? =some (vf i j))∧
  (∀(i:Nat) (row:List Dat) (j:Nat) (s:Sh) (d:Dat),rows[i]? =some row→l[j]? =some s→row[j]? =some d→GC pc s d (vf i j))):=by
 cases h with
 |none a c=>exact⟨[],rfl,rfl,bP _,.inl rfl⟩
 |slc b s o c vf hp hc hl hs hg=>exact⟨_,rfl,rfl,hc,.inr ⟨b,s,o,vf,rfl,hp,hl,hs,hg⟩⟩
theorem vR{id:Nat}{s:Sh}{e:Sx}{v:Value}(h:GC (Pict φ id) s e.dat v):VR φ (mU id s e) v:=by
 generalize hd:e.dat=d at h;cases h with
 |int k d=>subst hd;exact .sym k e
 |bool d=>subst hd;exact .symb (.cmp .neq e (.lit 0))
 |str s=>exact .vstr s hd
 |none l a c=>refine .opq _ ?_;exact⟨l,a,0,c,rfl,rfl,hd▸.none l a c⟩
 |slc b s o c vf hp hc hl hs hg=>refine .opq _ ?_;exact⟨_,_,_,_,rfl,rfl,hd▸.slc b s o c vf hp hc hl hs hg⟩
theorem JU(hi:Inv0 R D φ σ w){t ty:TypeId}{a:AV}{a':Value}{ts:Array TypeId}{r:OhR}(h:JV P t a=some r)(ha:VR φ a a')(ht:ts[0]? =some t):
 ∃v',(Builtin.len_ ts ty #[a']).run P w=.ok v' w∧VR φ r.v v'∧Post R D φ σ w (r.to σ) φ w:=by
 unfold JV at h;split at h
 ·rename_i k id ver sh x y e hu;rw[ai]at h;split at h
  ·rename_i hk;have:=ae hk;subst this;simp only[OhR.one,aw]at h;subst h;cases ha with
   |opq v hv=>obtain⟨l,a,n,c,rfl,rfl,hg⟩:=hv;obtain⟨rows,hx,rfl,_,_⟩:=hg.inv_slc;refine⟨goInt rows.length,by simp [Builtin.len_,ht,af hu],?_,.same0 hi rfl rfl rfl⟩;show VR φ _ (.int .i64 _);rw[←eB hx];exact .sym _ _
  cases h
 cases h
theorem CJ(hi:Inv0 R D φ σ w)(hdec:∀b v,dec b=some v→b.eval=v){t:TypeId}{a i:AV}{a' i':Value}{r:OhR}(h:xR P dec t a i=some r)(ha:VR φ a a')(hin:VR φ i i'):
 ∃v',(Instr.indexAt t a' i').run P w=.ok v' w∧VR φ r.v v'∧Post R D φ σ w (r.to σ) φ w:=by
 unfold xR at h;split at h
 ·rename_i k id ver l x y e kk n hu hn;split at h
  ·rename_i s hs;simp only[ai,al]at h;split at h
   ·rename_i hb;obtain⟨b0,⟨b1,b2⟩,b3,b4⟩:=hb;have:=ae b0;subst this;have:=ae b1;subst this;have b2:=aR b2;simp only[OhR.one,aw]at h;subst h;have hiv:i'=.int kk n.eval:=eo hn hin;subst hiv;cases ha with
    |opq v hv=>obtain⟨l',a,m,c,hl',rfl,hg⟩:=hv;simp only[Sh.slc.injEq]at hl';subst hl';obtain⟨rows,hx,rfl,hc,hor⟩:=hg.inv_slc;have g1:=hdec _ _ (cY b3);have g2:=hdec _ _ (cY b4);simp only[Bx.eval,cX,decide_eq_true_eq,eB hx]at g1 g2;have g1:0≤n.eval:=g1;have hlt:n.eval.toNat<rows.length:=(by omega);rcases hor with h0|⟨b,s,o,vf,rfl,hp,hl,hs',hgc⟩;{omega};refine⟨.pointer (some ⟨b,o+n.eval.toNat*l.length,none⟩),?_,.opq _ ?_,.same0 hi rfl rfl rfl⟩;{have hc:(0:Int)≤n.eval∧n.eval<(rows.length:Int):=⟨g1,g2⟩;simp only[Instr.indexAt,aQ,asIntOf,Sem.run_pure,aZ,af hu];rw[if_pos hc];simp [aN hs,cT]};have hr:rows[n.eval.toNat]? =some rows[n.eval.toNat]:=bC hlt;refine⟨l,rows[n.eval.toNat],b,s,o+n.eval.toNat*l.length,vf n.eval.toNat,rfl,g1,?_,hl _ _ hr,bP _,hp,fun j hj=> ?_,fun j s' d h1 h2=>hgc _ _ _ _ _ hr h1 h2,rfl⟩;{rw[hx];exact hr};exact hs' _ _ hlt hj
   cases h
  cases h
 cases h
theorem CK(hi:Inv0 R D φ σ w){t:TypeId}{a:AV}{a':Value}{f:Nat}{r:OhR}(h:xS P t a f=some r)(ha:VR φ a a'):
 ∃v',(Instr.fieldAt t a' f).run P w=.ok v' w∧VR φ r.v v'∧Post R D φ σ w (r.to σ) φ w:=by
 unfold xS at h;split at h
 ·rename_i k id off l x n fs hu;split at h
  ·rename_i fd hf;split at h
   ·rename_i s hs;simp only[ai,al]at h;split at h
    ·rename_i hb;obtain⟨b0,b1,b2⟩:=hb;have:=ae b0;subst this;have b1:=aR b1;have b2:=aB b2;simp only[OhR.one,aw]at h;subst h;cases ha with
     |opq v hv=>obtain⟨l',row,b,s',o,vf,hl',h1,h2,h3,h4,h5,h6,h7,rfl⟩:=hv;simp only[Sh.slc.injEq]at hl';subst hl';refine⟨.pointer (some ⟨b,o+(off+fd.offset),none⟩),?_,.opq _ ⟨l,row,b,s',o,vf,rfl,h1,h2,h3,b2,h5,h6,h7,rfl⟩,.same0 hi rfl rfl rfl⟩;have hn1:s≠0:=(by omega);simp [Instr.fieldAt,Instr.sureAddr,af hu,hf,fieldPlace,aN hs,hn1,cT,Nat.add_assoc]
    cases h
   cases h
  cases h
 cases h
theorem C9{id:Nat}{x n:Sx}{row:List Dat}(h1:0≤n.eval)(h2:x.dat.toL[n.eval.toNat]? =some row){vf:Nat→Value}:∀(l:List Sh) (off:Nat),
 (∀j<l.length,∃d,row[off+j]? =some d)→(∀(j:Nat) (s:Sh) (d:Dat),l[j]? =some s→row[off+j]? =some d→GC (Pict φ id) s d (vf (off+j)))→VRL φ (gz id x n l off) ((List.range l.length).map fun j=>vf (off+j)):=by
 intro l
 induction l with
 |nil=>intro off _ _;exact .nil
 |cons s l ih=>
  intro off ha hg;rw[List.length_cons,List.range_succ_eq_map,List.map_cons,List.map_map];refine .cons ?_ ?_
  ·obtain⟨d,hd⟩:=ha 0 (by simp);refine vR ?_;have:(Sx.cell x n off).dat=d:=by
    show(x.dat.cell n.dat.toI off)=d;have h2':x.dat.toL[n.dat.toI.toNat]? =some row:=h2;simp only[Nat.add_zero]at hd;simp [Dat.cell,Dat.row,h2',hd]
   rw[this];exact hg 0 s d rfl hd
  have:=ih (off+1) (fun j hj=>by
   obtain⟨d,hd⟩:=ha (j+1) (by simp;omega);exact⟨d,by rw[←hd];congr 1;omega⟩) (fun j s d a b=>by
   have:=hg (j+1) s d (by simpa using a) (by rw[←b];congr 1;omega);rw[show off+1+j=off+(j+1) by omega];exact this)
  have e:((fun j=>vf (off+j))∘Nat.succ)=fun j=>vf (off+1+j):=(by funext j;show vf (off+(j+1))=_;congr 1;omega);rw[e];exact this
theorem FW(hi:Inv0 R D φ σ w){t:TypeId}{a:AV}{a':Value}{r:OhR}(h:CI P σ t a=some r)(ha:VR φ a a')(hk:Known D σ (r.to σ)):
 ∃v',(Instr.loadAt t a').run P w=.ok v' w∧VR φ r.v v'∧Post R D φ σ w (r.to σ) φ w:=by
 unfold CI at h;split at h
 ·rename_i k id off l x n hagg;split at h
  ·rename_i s hs;simp only[ai,al]at h;split at h
   ·rename_i hb;have:=ae hb.1;subst this;simp only[OhR.rdo,aw]at h;subst h;cases ha with
    |opq v hv=>obtain⟨l',row,b,s',o,vf,hl',h1,h2,h3,h4,h5,h6,h7,rfl⟩:=hv;simp only[Sh.slc.injEq]at hl';subst hl';obtain⟨bt,fr,hblk⟩:=tA hi hb.2 hk h5;have hlt:off<l.length:=(by rcases aS off l.length with h|h;{exact h};rw[bZ h]at hs;cases hs);have hrow:row[off]? =some row[off]:=bC (by omega);refine⟨vf off,?_,vR ?_,Post.read hi _⟩;{have hc:w.cell? ⟨b,o+off,none⟩=some (vf off):=(by rw[jO hblk,←h6 off hlt];simp);simp [Instr.loadAt,Instr.sureAddr,loadVar,fL hagg,hc]};have:(Sx.cell x n off).dat=row[off]:=(by show(x.dat.cell n.dat.toI off)=_;have h2':x.dat.toL[n.dat.toI.toNat]? =some row:=h2;simp [Dat.cell,Dat.row,h2',hrow]);rw[this];exact h7 off s _ hs hrow
   cases h
  cases h
 ·rename_i k id off l x n hagg;split at h
  ·rename_i s hs;simp only[ai,al]at h;split at h
   ·rename_i hb;have:=ae hb.1;subst this;have hle:=aB hb.2.1;simp only[OhR.rdo,aw]at h;subst h;cases ha with
    |opq v hv=>
     obtain⟨l',row,b,s',o,vf,hl',h1,h2,h3,h4,h5,h6,h7,rfl⟩:=hv;simp only[Sh.slc.injEq]at hl';subst hl';obtain⟨bt,fr,hblk⟩:=tA hi hb.2.2 hk h5;have hlen:((l.drop off).take s).length=s:=(by simp;omega);by_cases hs0:s=0;{subst hs0;refine⟨.agg #[],?_,?_,Post.read hi _⟩;{simp [Instr.loadAt,Instr.sureAddr,loadVar,fL hagg,aN hs,loadCells,loadCellsFrom]};simp only[List.take_zero,gz];exact .agg _ .nil};have hlast:=h6 (off+s - 1) (by omega);have hsz:o+off+s≤s'.toArray.size:=(by rcases aS (o+(off+s - 1)) s'.length with h|h;{simp;omega};rw[bZ h]at hlast;cases hlast);refine⟨.agg (((s'.drop (o+off)).take s).toArray),?_,?_,Post.read hi _⟩;{have:=cz (P:=P) (k:=o+off) (n:=s) hblk hsz;simp only[]at this;simp [Instr.loadAt,Instr.sureAddr,loadVar,fL hagg,aN hs,this]};refine .agg _ ?_;have hg:=C9 (φ:=φ) (id:=id) (x:=x) (n:=n) h1 h2 (vf:=vf) ((l.drop off).take s) off (fun j hj=>by
      rw[hlen]at hj;exact⟨_,bC (by omega)⟩) (fun j s₂ d a b=>by
      have hj:j<s:=(by rcases aS j s with h|h;{exact h};rw[bZ (by omega)]at a;cases a);rw[ij hj,fc]at a;exact h7 _ _ _ a b)
     have e:(((s'.drop (o+off)).take s).toArray).toList=(List.range ((l.drop off).take s).length).map fun j=>vf (off+j):=(by rw[hlen];apply List.ext_getElem?;intro j;by_cases hj:j<s;{rw[List.getElem?_map,List.getElem?_range hj];show((s'.drop (o+off)).take s)[j]? =some (vf (off+j));rw[ij hj,fc,←h6 (off+j) (by omega)];congr 1;omega};rw[bZ (by simp;omega),bZ (by simp;omega)]);rw[e];exact hg
   cases h
  cases h
 cases h
theorem CH(hi:Inv0 R D φ σ w)(hdec:∀b v,dec b=some v→b.eval=v){t:TypeId}{a:AV}{a':Value}{lo hi':Option AV}{lo' hi'':Option Value}{r:OhR}(h:xQ P dec t a lo hi' none=some r)(ha:VR φ a a')
 (h1:yG φ lo lo')(h2:yG φ hi' hi''):∃v',(Instr.sliceAt t a' lo' hi'' none).run P w=.ok v' w∧VR φ r.v v'∧Post R D φ σ w (r.to σ) φ w:=by
 unfold xQ at h;split at h
 ·rename_i k id ver l x y e hu hmx;split at h
  ·rename_i s p q hs hp hq;simp only[ai,al]at h;split at h
   ·rename_i hb;obtain⟨b0,b1,⟨b2,b3⟩,b4⟩:=hb;have:=ae b0;subst this;have:=ae b1;subst this;simp only[OhR.one,aw]at h;subst h;cases ha with
    |opq v hv=>
     obtain⟨l',a,len,c,hl',rfl,hg⟩:=hv;simp only[Sh.slc.injEq]at hl';subst hl';obtain⟨rows,hx,rfl,hc,hor⟩:=hg.inv_slc;have g1:=hdec _ _ (cY b2);have g2:=hdec _ _ (cY b3);have g3:=hdec _ _ (cY b4);simp only[Bx.eval,cX,decide_eq_true_eq,eB hx]at g1 g2 g3;have g1:0≤p.eval:=g1;obtain⟨n,hn⟩:∃n:Nat,p.eval=n:=⟨p.eval.toNat,by omega⟩;obtain⟨m,hm⟩:∃m:Nat,q.eval=m:=⟨q.eval.toNat,by omega⟩;have hnm:n≤m:=(by omega);have hms:m≤rows.length:=(by omega);have hbnd:∃lo2 hi2,cS rows.length none lo2 hi2 none=some (n,m,none)∧yG φ lo2 lo'∧yG φ hi2 hi'':=by
      rcases l7 hq h2 with⟨_,rfl,rfl⟩|⟨_,k2,rfl⟩
      ·rw[eB hx]at hm;have hm:rows.length=m:=(by omega);rcases l7 hp h1 with⟨_,rfl,rfl⟩|⟨_,k1,rfl⟩
       ·have hn:n=0:=by
         have:(Sx.lit 0).eval=0:=rfl;omega
        subst hn;exact⟨none,none,by simp [cS,tZ,ub,ua,hm],trivial,trivial⟩
       refine⟨some (.int k1 (n:Int)),none,?_,?_,trivial⟩;{simp [cS,tZ,ub,ua,GI,hm];rw[fG hnm]};rw[hn];exact .int _ _
      rcases l7 hp h1 with⟨_,rfl,rfl⟩|⟨_,k1,rfl⟩
      ·have hn:n=0:=by
        have:(Sx.lit 0).eval=0:=rfl;omega
       subst hn;refine⟨none,some (.int k2 (m:Int)),?_,trivial,?_⟩;{simp [cS,tZ,ub,ua,GI,pX,fG hms]};rw[hm];exact .int _ _
      refine⟨some (.int k1 (n:Int)),some (.int k2 (m:Int)),?_,?_,?_⟩;{simp [cS,tZ,ub,ua,GI,pX,fG hms,fG hnm]};{rw[hn];exact .int _ _};rw[hm];exact .int _ _
     obtain⟨lo2,hi2,hbd,v1,v2⟩:=hbnd;obtain⟨M,r1,r2,r3,r4,r5,r6⟩:=fk (P:=P) (φ:=φ) (b:=true) hbd v1 v2 (lo':=lo') (hi':=hi'') (mx':=none) trivial (c:=c) (fun k hk=>by cases hk) hc;have hd:(Sx.pr 11 (.pr 10 x q) p).dat=.lst ((rows.take m).drop n):=(by show Dat.lst (((x.dat.toL.take q.dat.toI.toNat)).drop p.dat.toI.toNat)=_;have e1:q.dat.toI=(m:Int):=hm;have e2:p.dat.toI=(n:Int):=hn;rw[hx,e1,e2,Int.toNat_natCast,Int.toNat_natCast];rfl);have hlen:((rows.take m).drop n).length=m - n:=(by simp;omega);have hcl:M=c:=(r6 rfl).1;subst hcl;by_cases hz:m - n=0
     ·have hrl:(rows.take m).drop n=[]:=List.length_eq_zero_iff.1 (by omega);have hrun:∃b',(Instr.sliceAt t (.slice a rows.length M) lo' hi'' none).run P w=.ok (.slice b' (m - n) (M - n)) w:=by
       refine⟨if M=n then a else a.map (·.add (n*l.length)),?_⟩;simp only[Instr.sliceAt,Instr.slice,aQ,af hu,aZ,r1,aN hs,Sem.run_pure]
      obtain⟨b',hrun⟩:=hrun;refine⟨_,hrun,.opq _ ⟨l,b',m - n,M - n,rfl,rfl,?_⟩,.same0 hi rfl rfl rfl⟩;rw[hd,hrl,hz];exact .none l b' _
     rcases hor with h0|⟨b,sn,o,vf,rfl,hpc,hll,hss,hgc⟩;{omega};have hne:M≠n:=(by omega);have hrun:(Instr.sliceAt t (.slice (some ⟨b,o,none⟩) rows.length M) lo' hi'' none).run P w=.ok (.slice (some ⟨b,o+n*l.length,none⟩) (m - n) (M - n)) w:=(by simp only[Instr.sliceAt,Instr.slice,aQ,af hu,aZ,r1,aN hs,Sem.run_pure];rw[if_neg hne];simp [cT]);refine⟨_,hrun,.opq _ ⟨l,_,m - n,M - n,rfl,rfl,?_⟩,.same0 hi rfl rfl rfl⟩;rw[hd,←hlen];have aj:∀i,((rows.take m).drop n)[i]? =if n+i<m then rows[n+i]? else none:=by intro i;rw[fc,List.getElem?_take]
     have hin:∀i,i<m - n→n+i<m:=fun i hi=>(by omega);refine .slc b sn (o+n*l.length) (M - n) (fun i j=>vf (n+i) j) hpc (by omega) (fun i row hr=> ?_) (fun i j hi hj=> ?_) (fun i row j s d hr h3 h4=> ?_);{rw[aj]at hr;split at hr;{exact hll _ _ hr};cases hr};{rw[hlen]at hi;have:=hss (n+i) j (by omega) hj;rw[show o+n*l.length+i*l.length+j=o+(n+i)*l.length+j by rw[Nat.add_mul];omega];exact this};rw[aj]at hr;split at hr;{exact hgc _ _ _ _ _ hr h3 h4};cases hr
   cases h
  cases h
 cases h
theorem Nf(hdec:∀b v,dec b=some v→b.eval=v)(hi:Inv0 R D φ σ w){ev:Operand→Option AV}{a:Operand→Value}(hev:∀x v,ev x=some v→VR φ v (a x)){o:Oper}{r:OhR}
 (h:Sk P dec ev σ o=some r)(hk:Known D σ (r.to σ)):
 ∃φ' w' n v',(execOp a o).run P w=.ok n w'∧(n=.value v'∨(n=.skip∧v'=undef))∧VR φ' r.v v'∧Post R D φ σ w (r.to σ) φ' w':=by
 unfold Sk at h;split at h;{rename_i c ho;split at h;{rename_i t ts x hc hts hargs;split at h;{rename_i v hv;have ht0:c.argTypes[0]? =some t:=(by rw[←Array.getElem?_toList,hts];rfl);obtain⟨v',h1,h2,h3⟩:=JU (P:=P) (ty:=o.type) (ts:=c.argTypes) hi h (hev _ _ hv) ht0;refine⟨φ,w,.value v',v',?_,.inl rfl,h2,h3⟩;have ha:Array.map a c.args= #[a x]:=(by apply Array.ext';simp [hargs]);have hr:(do pure (Next.value (←Builtin.len_ c.argTypes o.type #[a x])):Sem Next).run P w=.ok (.value v') w:=(by simp [h1]);simp [execOp,ho,resolve,hc,invoke,ha,builtin,h1]};cases h};cases h};{rename_i t x i ho;split at h;{rename_i v n hv hn;obtain⟨v',h1,h2,h3⟩:=CJ (P:=P) hi hdec h (hev _ _ hv) (hev _ _ hn);exact⟨φ,w,.value v',v',by simp [execOp,ho,h1],.inl rfl,h2,h3⟩};cases h};{rename_i t x f ho;split at h;{rename_i v hv;obtain⟨v',h1,h2,h3⟩:=CK (P:=P) hi h (hev _ _ hv);exact⟨φ,w,.value v',v',by simp [execOp,ho,h1],.inl rfl,h2,h3⟩};cases h};·rename_i t x ho;split at h;{rename_i v hv;obtain⟨v',h1,h2,h3⟩:=FW (P:=P) hi h (hev _ _ hv) hk;exact⟨φ,w,.value v',v',by simp [execOp,ho,h1],.inl rfl,h2,h3⟩};cases h
 ·rename_i x ho;split at h
  ·rename_i v hv;unfold Oh at h;split at h
   ·rename_i k id off sh y n;rw[ai]at h;split at h
    ·rename_i hb;have:=ae hb;subst this;simp only[OhR.one,aw]at h;subst h;have hvr:=hev _ _ hv;have hvr':=hvr;cases hvr' with
     |opq v' hkv=>obtain⟨l',row,b,s',oo,vf,hl',h1,h2,h3,h4,h5,h6,h7,h8⟩:=hkv;refine⟨φ,w,.value (a x),a x,?_,.inl rfl,hvr,.same0 hi rfl rfl rfl⟩;simp [execOp,ho,h8]
    cases h
   cases h
  cases h
 ·rename_i t x lo hi' mx ho;split at h
  ·rename_i k id ver sh y z hv;split at h
   ·rename_i lo1 hi1 hlo hhi;have hvo:∀{q:Option Operand} {q1:Option AV},(match q with
     |none=>some none
     |some q=>(ev q).map some)=some q1→yG φ q1 (q.map a):=by
     intro q q1 hq;cases q with
     |none=>cases hq;trivial
     |some q=>
      simp only at hq;cases he:ev q with
      |none=>rw[he]at hq;cases hq
      |some u=>rw[he]at hq;simp only[Option.map_some,aw]at hq;subst hq;exact hev _ _ he
    obtain⟨v',h1,h2,h3⟩:=CH (P:=P) hi hdec h (hev _ _ hv) (hvo hlo) (hvo hhi);exact⟨φ,w,.value v',v',by simp [execOp,ho,h1],.inl rfl,h2,h3⟩
   cases h
  cases h
 cases h
end
end
end Go.Tw
namespace Go.Tw
noncomputable section
def eP:Sh→Bool
 | .slc _=>false
 |_=>true
def dp(l:List Sh):Bool:=l.all eP
section lists
theorem gx(c:Nat):∀(l:List Sh) (r:List Dat),r.length=l.length→(bE c l r).length=l.length:=by
 intro l
 induction l with
 |nil=>intro r _;cases r<;>rfl
 |cons s l ih=>
  intro r h;cases r with
  |nil=>simp at h
  |cons d r=>simp [bE,ih r (by simpa using h)]
theorem dj(c:Nat):∀(l:List Sh) (r:List Dat) (j:Nat) (s:Sh) (d:Dat),l[j]? =some s→r[j]? =some d→(bE c l r)[j]? =some (dU c s d):=by
 intro l
 induction l with
 |nil=>intro r j s d h;simp at h
 |cons x l ih=>
  intro r j s d h1 h2;cases r with
  |nil=>simp at h2
  |cons y r=>
   cases j with
   |zero=>simp at h1 h2;subst h1;subst h2;rfl
   |succ j=>simp only[List.getElem?_cons_succ]at h1 h2;simp only[bE,List.getElem?_cons_succ];exact ih r j s d h1 h2
theorem zZ(c:Nat)(l:List Sh):ah c l []=[]:=rfl
theorem df(c:Nat)(l:List Sh)(r:List Dat)(rows:List (List Dat)):ah c l (r::rows)=bE c l r++ah c l rows:=by simp [ah]
theorem cP(c:Nat)(l:List Sh)(a b:List (List Dat)):ah c l (a++b)=ah c l a++ah c l b:=by simp [ah]
theorem au(c:Nat)(l:List Sh):∀rows:List (List Dat),(∀r∈rows,r.length=l.length)→(ah c l rows).length=rows.length*l.length:=by
 intro rows
 induction rows with
 |nil=>intro _;simp [ah]
 |cons r rows ih=>intro h;rw[df,cg,gx c l r (h r (by simp)),ih fun r hr=>h r (by simp [hr]),List.length_cons,Nat.add_mul];omega
theorem cu(c:Nat)(l:List Sh):∀(rows:List (List Dat)),(∀r∈rows,r.length=l.length)→∀(i j:Nat) (r:List Dat),rows[i]? =some r→j<l.length→(ah c l rows)[i*l.length+j]? =(bE c l r)[j]? :=by
 intro rows
 induction rows with
 |nil=>intro _ i j r h;simp at h
 |cons x rows ih=>
  intro h i j r hr hj;have hx:=gx c l x (h x (by simp));rw[df];cases i with
  |zero=>simp only[List.getElem?_cons_zero,aw]at hr;subst hr;rw[Nat.zero_mul,Nat.zero_add,List.getElem?_append_left (by omega)]
  |succ i=>rw[List.getElem?_append_right (by rw[hx,Nat.add_mul];omega),hx];rw[show(i+1)*l.length+j - l.length=i*l.length+j by rw[Nat.add_mul];omega];exact ih (fun r hr=>h r (by simp [hr])) i j r (by simpa using hr) hj
theorem Cr(c:Nat)(s:Sh)(d:Dat):(dU c s d).flat=true:=by cases s<;>rfl
theorem qm(c:Nat):∀(l:List Sh) (r:List Dat),(bE c l r).all AV.flat=true:=by
 intro l
 induction l with
 |nil=>intro r;rfl
 |cons s l ih=>
  intro r;cases r with
  |nil=>rfl
  |cons d r=>simp [bE,Cr,ih r]
theorem nO(c:Nat)(l:List Sh)(rows:List (List Dat)):(ah c l rows).all AV.flat=true:=by
 induction rows with
 |nil=>rfl
 |cons r rows ih=>rw[df,List.all_append,qm,ih];rfl
theorem vA{c c':Nat}{s:Sh}(h:eP s=true)(d:Dat):dU c s d=dU c' s d:=by cases s<;>first|rfl|simp [eP]at h
theorem Cp{c c':Nat}:∀{l:List Sh},dp l=true→∀r,bE c l r=bE c' l r:=by
 intro l
 induction l with
 |nil=>intro _ r;cases r<;>rfl
 |cons s l ih=>
  intro h r;simp only[dp,List.all_cons,al]at h;cases r with
  |nil=>rfl
  |cons d r=>simp [bE,vA (c:=c) (c':=c') h.1,ih h.2 r]
theorem ql{c c':Nat}{l:List Sh}(h:dp l=true)(rows:List (List Dat)):ah c l rows=ah c' l rows:=by unfold ah;congr 1;exact List.map_congr_left fun r _=>Cp h r
end lists
def Oo:Bx→Sx
 | .cmp op a b=>match op with
  | .eql=>.pr 20 a b
  | .neq=>.pr 21 a b
  | .lss=>.pr 22 a b
  | .leq=>.pr 23 a b
  | .gtr=>.pr 24 a b
  | .geq=>.pr 25 a b
  |_=>.lit 0
 | .not b=>.pr 26 (Oo b) (.lit 0)
 | .seq a b=>.pr 27 a b
theorem rD[Val]:∀b:Bx,(Oo b).dat=.int (dW b.eval):=by
 intro b
 induction b with
 |cmp op a b=>cases op<;>rfl
 |not b ih=>show Dat.int (dW (!((Oo b).dat.toI != 0)))=.int (dW (!b.eval));rw[ih];cases b.eval<;>rfl
 |seq a b=>rfl
def VV(cid:Nat):Sh→AV→Option Sx
 | .int k,.sym k' e=>bif Nat.beq (bQ k) (bQ k')then some e else none
 | .int k,.int k' n=>bif Nat.beq (bQ k) (bQ k')then some (.lit n)else none
 | .bool,.bool b=>some (.lit (dW b))
 | .bool,.symb b=>some (Oo b)
 | .str,.vstr e=>some e
 | .str,.str s=>some (.slit s)
 | .slc _,.nils=>some (.pr 13 (.lit 0) (.lit 0))
 | .slc l,.opq k id _ sh e _=>bif Nat.beq k 0&&((Nat.beq id cid||Nat.beq id gid)&&sh.same (.slc l))then some e else none
 |_,_=>none
def kg(cid:Nat):List Sh→List AV→Option Sx
 |[],[]=>some (.pr 14 (.lit 0) (.lit 0))
 |s::l,v::r=>match VV cid s v,kg cid l r with
  |some a,some b=>some (.pr 12 a b)
  |_,_=>none
 |_,_=>none
def eG(cid:Nat)(l:List Sh):Nat→List AV→Option Sx
 |0,[]=>some (.pr 13 (.lit 0) (.lit 0))
 |0,_=>none
 |n+1,cs=>match cut cs 0 l.length,eG cid l n (As cs l.length)with
  |some r,some y=>match kg cid l r with
   |some x=>some (.pr 9 x y)
   |none=>none
  |_,_=>none
section
variable[Val]{P:Program}{R:Nat}{D:Nat→Prop}{φ:PM}{σ:St}{w:World}{dec:Bx→Option Bool}
omit [Val]in
theorem GC.cellOk{pc:Nat→List Value→Prop}{s:Sh}{d:Dat}{v:Value}(h:GC pc s d v):iM s d:=by
 cases h with
 |int=>trivial
 |bool=>trivial
 |str s=>exact⟨s,rfl⟩
 |none=>trivial
 |slc=>trivial
theorem GC.lit{id:Nat}{s:Sh}{d:Dat}{v:Value}(h:GC (Pict φ id) s d v):VR φ (dU id s d) v:=by
 cases h with
 |int k d=>exact .int k _
 |bool d=>exact .bool _
 |str s=>exact .str s
 |none l a c=>exact .opq _ ⟨l,a,0,c,rfl,rfl,.none l a c⟩
 |slc b s o c vf hp hc hl hs hg=>exact .opq _ ⟨_,_,_,_,rfl,rfl,.slc b s o c vf hp hc hl hs hg⟩
omit [Val]in
theorem Pict.gid{b:Nat}{s:List Value}(c:Nat)(h:Pict φ gid b s):Pict φ c b s:=by obtain⟨j,n,e,hj,h⟩:=h;exact⟨j,n,e,.inl (hj.elim id id),h⟩
theorem Ky{cid:Nat}{s:Sh}{a:AV}{v:Value}{e:Sx}(h:VV cid s a=some e)(hv:VR φ a v):VR φ (dU cid s e.dat) v∧iM s e.dat:=by
 unfold VV at h;split at h;{rw[ai]at h;split at h;{rename_i hk;have:=bF (ae hk);subst this;cases h;cases hv;exact⟨.int _ _,trivial⟩};cases h};{rw[ai]at h;split at h;{rename_i hk;have:=bF (ae hk);subst this;cases h;cases hv;exact⟨.int _ _,trivial⟩};cases h};{rename_i b;cases h;cases hv;refine⟨?_,trivial⟩;show VR φ (.bool (dW b != 0)) (.bool b);cases b<;>exact .bool _};·rename_i b;cases h;cases hv;refine⟨?_,trivial⟩;show VR φ (.bool ((Oo b).dat.toI != 0)) (.bool b.eval);rw[rD];cases b.eval<;>exact .bool _
 ·rename_i e';cases h;cases hv with
  |vstr s hs=>rw[hs];exact⟨.str s,s,rfl⟩
 {rename_i s;cases h;cases hv;exact⟨.str s,s,rfl⟩};·rename_i l;cases h;cases hv;exact⟨.opq _ ⟨l,none,0,0,rfl,rfl,.none l none 0⟩,trivial⟩
 ·rename_i l k id ver sh e' y;simp only[ai,al,dH]at h;split at h
  ·rename_i hb;cases h;obtain⟨b0,b1,b2⟩:=hb;have:=ae b0;subst this;have:=Sh.same_eq b2;subst this;refine⟨?_,trivial⟩;cases hv with
   |opq v hk=>obtain⟨l',a,n,c,hl,rfl,hg⟩:=hk;simp only[Sh.slc.injEq]at hl;subst hl;refine .opq _ ⟨l,a,n,c,rfl,rfl,?_⟩;rcases b1 with b1|b1;{have:=ae b1;subst this;exact hg};have:=ae b1;subst this;exact hg.mono fun _ _ hp=>hp.gid cid
  cases h
 cases h
theorem jM{cid:Nat}:∀{l:List Sh} {r:List AV} {r':List Value} {e:Sx},kg cid l r=some e→VRL φ r r'→∃row,e.dat=.lst [row]∧row.length=l.length∧VRL φ (bE cid l row) r'∧
 ∀(j:Nat) (s:Sh) (d:Dat),l[j]? =some s→row[j]? =some d→iM s d:=by
 intro l
 induction l with
 |nil=>
  intro r r' e h hv;cases r with
  |nil=>simp only[kg,aw]at h;subst h;cases hv;exact⟨[],rfl,rfl,.nil,fun j s d h=>by simp at h⟩
  |cons v r=>simp [kg]at h
 |cons s l ih=>
  intro r r' e h hv;cases r with
  |nil=>simp [kg]at h
  |cons v r=>
   simp only[kg]at h;split at h
   ·rename_i a b ha hb;cases h;cases hv with
    |cons h1 h2=>
     obtain⟨row,e1,e2,e3,e4⟩:=ih hb h2;obtain⟨c1,c2⟩:=Ky ha h1;refine⟨a.dat::row,?_,by simp [e2],.cons c1 e3,fun j s' d h1 h2=> ?_⟩;{show Dat.lst [a.dat::b.dat.one]=_;rw[e1];rfl};cases j with
     |zero=>simp only[List.getElem?_cons_zero,aw]at h1 h2;subst h1;subst h2;exact c2
     |succ j=>exact e4 j s' d (by simpa using h1) (by simpa using h2)
   cases h
theorem iJ{cid:Nat}{l:List Sh}:∀{n:Nat} {cs:List AV} {cs':List Value} {e:Sx},eG cid l n cs=some e→VRL φ cs cs'→∃rows,e.dat=.lst rows∧rows.length=n∧dm l rows∧VRL φ (ah cid l rows) cs':=by
 intro n
 induction n with
 |zero=>
  intro cs cs' e h hv;cases cs with
  |nil=>simp only[eG,aw]at h;subst h;cases hv;exact⟨[],rfl,rfl,(fun r hr=>absurd hr (by simp)),.nil⟩
  |cons=>simp [eG]at h
 |succ n ih=>
  intro cs cs' e h hv;simp only[eG]at h;split at h
  ·rename_i r y hr hy;split at h
   ·rename_i x hx;cases h;obtain⟨c1,c2⟩:=kh hr;have hdrop:As cs l.length=cs.drop l.length:=by
     have:cut cs l.length (cs.drop l.length).length=cut cs l.length (cs.drop l.length).length:=rfl;exact Ar cs l.length
    rw[hdrop]at hy;simp only[List.drop_zero]at c1;subst c1;have hv1:=hv.take l.length;have hv2:=hv.drop l.length;obtain⟨row,e1,e2,e3,e4⟩:=jM hx hv1;obtain⟨rows,g1,g2,g3,g4⟩:=ih hy hv2;refine⟨row::rows,?_,by simp [g2],fun q hq=> ?_,?_⟩;{show Dat.lst (x.dat.toL++y.dat.toL)=_;rw[e1,g1];rfl};{rcases List.mem_cons.1 hq with rfl|hq;{exact⟨e2,e4⟩};exact g3 q hq};rw[df];have:=e3.append g4;rwa[List.take_append_drop]at this
   cases h
  cases h
theorem zW{cid:Nat}{s:Sh}{e:Sx}{v:Value}(hc:iM s e.dat)(h:VR φ (dU cid s e.dat) v):VR φ (mU cid s e) v:=by
 cases s with
 |int k=>have h:VR φ (.int k e.dat.toI) v:=h;cases h;exact .sym k e
 |bool=>have h:VR φ (.bool (e.dat.toI != 0)) v:=h;cases h;exact .symb (.cmp .neq e (.lit 0))
 |str=>obtain⟨t,ht⟩:=hc;rw[ht]at h;have h:VR φ (.str t) v:=h;cases h;exact .vstr t ht
 |slc l=>
  have h:VR φ (.opq 0 cid 0 (.slc l) (.dlit e.dat) (.lit 0)) v:=h;cases h with
  |opq v hk=>exact .opq v hk
theorem ez{id ver cid t:Nat}{l:List Sh}{rows:List (List Dat)}(h:ArrRep R φ w id (ah cid l rows) ver (ah cid l rows).length (ver+1) (ver+1) t):
 ∃e cs fl fh,φ id ver=some e∧w.heap[e.blk]? =some (.cells cs t (fl,fh))∧cs.size=e.bsz∧(ah cid l rows).length≤e.hi∧(fl=fh∨e.bsz≤fl)∧
  (∀x a,e.dn≤x→x<(ah cid l rows).length→(ah cid l rows)[x]? =some a→∃a',cs[x+e.up - e.dn]? =some a'∧VR φ a a'):=by
 obtain⟨hR,h1,h2,h3,h4,h5,h6,h7⟩:=h;obtain⟨e,cs,fl,fh,he,hb,k1,k2,k3,k4,k5⟩:=h5 ver (.inl rfl);have hl:bJ ver (ah cid l rows).length ver e=(ah cid l rows).length:=by simp [bJ]
 rw[hl]at k2 k5;exact⟨e,cs,fl,fh,he,hb,k1,k2,k4,k5⟩
end
section
variable(P:Program)(dec:Bx→Option Bool)(ev:Operand→Option AV)(σ:St)
structure Own where
 id:Nat
 ver:Nat
 cid:Nat
 l:List Sh
 x:Sx
 y:Sx
 t:TypeId
def eV:AV→Option Own
 | .opq k id ver (.slc l) _ y=>match σ.heap.get id with
  |some (.opq k' ver' cid (.slc l') x y' [] t)=>bif Nat.blt 0 l'.length&&Nat.beq k 2&&(Nat.beq k' 2&&(Nat.beq ver ver'&&(Sh.sameL l l'&&y.same y')))then some ⟨id,ver,cid,l,x,y,t⟩else none
  |_=>none
 |_=>none
def DJ(id ver:Nat)(l:List Sh):Option Own:=match σ.heap.get id with
 |some (.opq k' ver' cid (.slc l') x y' [] t)=>bif Nat.blt 0 l'.length&&Nat.beq k' 2&&(Nat.beq ver ver'&&Sh.sameL l l')then some ⟨id,ver,cid,l,x,y',t⟩else none
 |_=>none
def JT(t:TypeId)(a:AV):Option OhR:=match eV σ a,P.underlying t with
 |some o,some (.slice _)=>OhR.rdo (.sym .i64 (bg o.x)) [o.id]
 |_,_=>none
def xP(t:TypeId)(a i:AV):Option OhR:=match eV σ a,P.underlying t,my i with
 |some o,some (.slice e),some (_,n)=>match c7 P e with
  |some s=>bif Nat.beq s o.l.length&&Nat.blt 0 s&&(ml dec (.cmp .geq n (.lit 0))&&ml dec (.cmp .lss n (bg o.x)))then OhR.rdo (.opq 3 o.id o.ver (.slc o.l) (.lit 0) n) [o.id]else none
  |none=>none
 |_,_,_=>none
def xN(t:TypeId)(a:AV)(f:Nat):Option OhR:=match a,P.underlying t with
 | .opq k id ver (.slc l) (.lit (.ofNat off)) n,some (.struct fs)=>match fs[f]? with
  |some fd=>match c7 P fd.type with
   |some s=>bif Nat.beq k 3&&(Nat.blt 0 s&&Nat.ble (off+fd.offset) l.length)then OhR.one (.opq 3 id ver (.slc l) (.lit (.ofNat (off+fd.offset))) n)else none
   |none=>none
  |none=>none
 |_,_=>none
def CD(t:TypeId)(a:AV):Option OhR:=match a with
 | .opq k id ver (.slc l) (.lit (.ofNat off)) n=>match DJ σ id ver l with
  |some o=>match Gx P t with
   |some false=>match l[off]? with
    |some s=>bif Nat.beq k 3 then OhR.rdo (mU o.cid s (.cell o.x n off)) [id]else none
    |none=>none
   |some true=>match c7 P t with
    |some s=>bif Nat.beq k 3&&(Nat.blt 0 s&&Nat.ble (off+s) l.length)then OhR.rdo (.agg (gz o.cid o.x n ((l.drop off).take s) off)) [id]else none
    |none=>none
   |none=>none
  |none=>none
 |_=>none
def Og(a:AV):Option OhR:=match a with
 | .opq k id off sh x n=>bif Nat.beq k 3 then OhR.one (.opq k id off sh x n)else none
 |_=>none
end
section
variable[Val]{P:Program}{R:Nat}{D:Nat→Prop}{φ:PM}{σ:St}{w:World}{dec:Bx→Option Bool}
omit [Val]in
theorem fQ{a:AV}{o:Own}(h:eV σ a=some o):∃z,a=.opq 2 o.id o.ver (.slc o.l) z o.y∧σ.heap.get o.id=some (.opq 2 o.ver o.cid (.slc o.l) o.x o.y [] o.t)∧0<o.l.length:=by unfold eV at h;split at h;{rename_i k id ver l z y;split at h;{rename_i k' ver' cid l' x y' t ho;simp only[ai,al]at h;split at h;{rename_i hb;obtain⟨⟨b0,b1⟩,b2,b3,b4,b5⟩:=hb;have b0:=aR b0;cases h;have:=ae b1;subst this;have:=ae b2;subst this;have:=ae b3;subst this;have:=Sh.sameL_eq b4;subst this;have:=Sx.same_eq b5;subst this;exact⟨z,rfl,ho,b0⟩};cases h};cases h};cases h
omit [Val]in
theorem zA{id ver:Nat}{l:List Sh}{o:Own}(h:DJ σ id ver l=some o):o.id=id∧o.ver=ver∧o.l=l∧σ.heap.get id=some (.opq 2 ver o.cid (.slc l) o.x o.y [] o.t)∧0<l.length:=by unfold DJ at h;split at h;{rename_i k' ver' cid l' x y' t ho;simp only[ai,al]at h;split at h;{rename_i hb;obtain⟨⟨b0,b2⟩,b3,b4⟩:=hb;have b0:=aR b0;cases h;have:=ae b2;subst this;have:=ae b3;subst this;have:=Sh.sameL_eq b4;subst this;exact⟨rfl,rfl,rfl,ho,b0⟩};cases h};cases h
theorem xk(hi:Inv0 R D φ σ w){id ver cid t:Nat}{l:List Sh}{x y:Sx}(ho:σ.heap.get id=some (.opq 2 ver cid (.slc l) x y [] t))(hd:D id):
 ∃rows,x.dat=.lst rows∧dm l rows∧((y.dat=.int 0∧rows=[]∧R≤id∧∀v,ver≤v→φ id v=none)∨
  (y.dat=.int 1∧(∃e,φ id ver=some e∧e.hi=(ah cid l rows).length)∧ArrRep R φ w id (ah cid l rows) ver (ah cid l rows).length (ver+1) (ver+1) t)):=by
 obtain⟨l',rows,hl,hx,hr,h⟩:=hi.at ho hd;simp only[Sh.slc.injEq]at hl;subst hl;refine⟨rows,hx,hr,?_⟩;rcases h with⟨h1,h2,h3,h4,h5⟩|⟨h1,h2,h3⟩;{exact .inl ⟨h1,h2,h4,h5⟩};rw[List.append_nil]at h2 h3;exact .inr ⟨h1,h2,h3⟩
omit [Val]in
theorem aH{l:List Sh}{rows:List (List Dat)}(h:dm l rows):∀r∈rows,r.length=l.length:=fun r hr=>(h r hr).1
omit [Val]in
theorem ic{r:Nat}{l:List Nat}{v:AV}(hk:Known D σ ((⟨v,l,none,none⟩:OhR).to σ))(hl:r∈l)(hlt:r<σ.next):D r:=hk r (.inl (ly l σ r hl)) hlt
theorem fP(hi:Inv0 R D φ σ w){a:AV}{a':Value}{o:Own}(h:eV σ a=some o)(ha:VR φ a a')(hd:D o.id):∃rows,o.x.dat=.lst rows∧dm o.l rows∧
 ((∃b,a'=.slice b 0 0∧o.y.dat=.int 0∧rows=[]∧R≤o.id∧∀v,o.ver≤v→φ o.id v=none)∨
  (∃e c,a'=.slice (some ⟨e.blk,e.up,none⟩) rows.length c∧o.y.dat=.int 1∧φ o.id o.ver=some e∧e.dn=0∧e.hi=rows.length*o.l.length∧rows.length≤c∧e.up+c*o.l.length≤e.bsz∧
    ArrRep R φ w o.id (ah o.cid o.l rows) o.ver (ah o.cid o.l rows).length (o.ver+1) (o.ver+1) o.t)):=by
 obtain⟨z,rfl,ho,hl0⟩:=fQ h;obtain⟨rows,hx,hr,hor⟩:=xk hi ho hd;refine⟨rows,hx,hr,?_⟩;cases ha with
 |opq v hv=>rcases hv with⟨y0,b,rfl⟩|⟨y1,l',e',c,n,hl,he,hdn,hn,hc,hbs,rfl⟩;{rcases hor with⟨h1,h2,h3,h4⟩|⟨h1,_⟩;{exact .inl ⟨b,rfl,h1,h2,h3,h4⟩};rw[y0]at h1;cases h1};rcases hor with⟨h1,_⟩|⟨_,⟨e2,he2,hh⟩,har⟩;{rw[y1]at h1;cases h1};simp only[Sh.slc.injEq]at hl;subst hl;rw[he]at he2;cases he2;rw[au _ _ _ (aH hr)]at hh;have:n=rows.length:=Nat.eq_of_mul_eq_mul_right hl0 (hn.trans hh);subst this;exact .inr ⟨e',c,rfl,y1,he,hdn,hh,hc,hbs,har⟩
theorem JS(hi:Inv0 R D φ σ w){t ty:TypeId}{a:AV}{a':Value}{ts:Array TypeId}{r:OhR}(h:JT P σ t a=some r)(ha:VR φ a a')(hk:Known D σ (r.to σ))(ht:ts[0]? =some t):
 ∃v',(Builtin.len_ ts ty #[a']).run P w=.ok v' w∧VR φ r.v v'∧Post R D φ σ w (r.to σ) φ w:=by
 unfold JT at h;split at h
 ·rename_i o e hoo hu;simp only[OhR.rdo,aw]at h;subst h;obtain⟨z,_,ho,_⟩:=fQ hoo;obtain⟨rows,hx,hr,hor⟩:=fP hi hoo ha (ic hk (by simp) (hi.lt ho));have hlen:∃b c,a'=.slice b rows.length c:=by
   rcases hor with⟨b,rfl,_,rfl,_⟩|⟨e,c,rfl,_⟩;{exact⟨b,0,rfl⟩};exact⟨_,c,rfl⟩
  obtain⟨b,c,rfl⟩:=hlen;refine⟨goInt rows.length,by simp [Builtin.len_,ht,af hu],?_,Post.read hi _⟩;show VR φ _ (.int .i64 _);rw[←eB hx];exact .sym _ _
 cases h
theorem CG(hi:Inv0 R D φ σ w)(hdec:∀b v,dec b=some v→b.eval=v){t:TypeId}{a i:AV}{a' i':Value}{r:OhR}(h:xP P dec σ t a i=some r)(ha:VR φ a a')(hin:VR φ i i')(hk:Known D σ (r.to σ)):
 ∃v',(Instr.indexAt t a' i').run P w=.ok v' w∧VR φ r.v v'∧Post R D φ σ w (r.to σ) φ w:=by
 unfold xP at h;split at h;{rename_i o e kk n hoo hu hn;split at h;{rename_i s hs;simp only[ai,al]at h;split at h;{rename_i hb;obtain⟨⟨b1,b2⟩,b3,b4⟩:=hb;have:=ae b1;subst this;simp only[OhR.rdo,aw]at h;subst h;have hiv:i'=.int kk n.eval:=eo hn hin;subst hiv;obtain⟨z,_,ho,hl0⟩:=fQ hoo;obtain⟨rows,hx,hr,hor⟩:=fP hi hoo ha (ic hk (by simp) (hi.lt ho));have g1:=hdec _ _ (cY b3);have g2:=hdec _ _ (cY b4);simp only[Bx.eval,cX,decide_eq_true_eq,eB hx]at g1 g2;have g1:0≤n.eval:=g1;have hlt:n.eval.toNat<rows.length:=(by omega);rcases hor with⟨b,rfl,_,rfl,_⟩|⟨e',c,rfl,y1,he,hdn,hh,hc,hbs,har⟩;{simp at hlt};refine⟨.pointer (some ⟨e'.blk,e'.up+n.eval.toNat*o.l.length,none⟩),?_,.opq _ ?_,Post.read hi _⟩;{have hc:(0:Int)≤n.eval∧n.eval<(rows.length:Int):=⟨g1,g2⟩;simp only[Instr.indexAt,aQ,asIntOf,Sem.run_pure,aZ,af hu];rw[if_pos hc];simp [aN hs,cT]};refine⟨o.l,e',rfl,he,hdn,g1,?_,by simp [Sx.dat,Dat.toI],by simp [Sx.dat,Dat.toI],?_⟩;{rw[hh];exact ig _ hlt};simp [Sx.dat,Dat.toI,Sx.eval]};cases h};cases h};cases h
theorem CE(hi:Inv0 R D φ σ w){t:TypeId}{a:AV}{a':Value}{f:Nat}{r:OhR}(h:xN P t a f=some r)(ha:VR φ a a'):
 ∃v',(Instr.fieldAt t a' f).run P w=.ok v' w∧VR φ r.v v'∧Post R D φ σ w (r.to σ) φ w:=by
 unfold xN at h;split at h
 ·rename_i k id ver l off n fs hu;split at h
  ·rename_i fd hf;split at h
   ·rename_i s hs;simp only[ai,al]at h;split at h
    ·rename_i hb;obtain⟨b0,b1,b2⟩:=hb;have:=ae b0;subst this;have b1:=aR b1;have b2:=aB b2;simp only[OhR.one,aw]at h;subst h;cases ha with
     |opq v hv=>obtain⟨l',e,hl',he,h1,h3,h4,h5,h6,rfl⟩:=hv;simp only[Sh.slc.injEq]at hl';subst hl';have hoff:(Sx.lit (.ofNat off)).dat.toI.toNat=off:=rfl;refine⟨.pointer (some ⟨e.blk,e.up+(n.dat.toI.toNat*l.length+(off+fd.offset)),none⟩),?_,.opq _ ⟨l,e,rfl,he,h1,h3,h4,Int.natCast_nonneg _,b2,rfl⟩,.same0 hi rfl rfl rfl⟩;have hn1:s≠0:=(by omega);have hadd:(⟨e.blk,e.up+(n.dat.toI.toNat*l.length+(Sx.lit (.ofNat off)).dat.toI.toNat),none⟩:Addr).add fd.offset=⟨e.blk,e.up+(n.dat.toI.toNat*l.length+(off+fd.offset)),none⟩:=(by rw[cT,hoff,Nat.add_assoc,Nat.add_assoc]);simp [Instr.fieldAt,Instr.sureAddr,af hu,hf,fieldPlace,aN hs,hn1];exact hadd
    cases h
   cases h
  cases h
 cases h
theorem FV(hi:Inv0 R D φ σ w){t:TypeId}{a:AV}{a':Value}{r:OhR}(h:CD P σ t a=some r)(ha:VR φ a a')(hk:Known D σ (r.to σ)):
 ∃v',(Instr.loadAt t a').run P w=.ok v' w∧VR φ r.v v'∧Post R D φ σ w (r.to σ) φ w:=by
 unfold CD at h;split at h
 ·rename_i k id ver l off n;split at h
  ·rename_i o hoo;obtain⟨rfl,rfl,rfl,ho,hl0⟩:=zA hoo;have key:∀(off s:Nat),off+s≤o.l.length→D o.id→Yt φ o.id o.ver (.slc o.l) (Sx.lit (Int.ofNat off)).dat n.dat a'→∃(e:Ext) (cs:Array Value) (t:TypeId) (fr:Nat×Nat),a'=.pointer (some ⟨e.blk,e.up+(n.dat.toI.toNat*o.l.length+off),none⟩)∧w.heap[e.blk]? =some (.cells cs t fr)∧
    e.up+(n.dat.toI.toNat*o.l.length+off)+s≤cs.size∧∀j,j<s→∃sh v,o.l[off+j]? =some sh∧cs[e.up+(n.dat.toI.toNat*o.l.length+(off+j))]? =some v∧VR φ (mU o.cid sh (.cell o.x n (off+j))) v:=by
    intro off s hle hd hv;obtain⟨l',e,hl',he,h1,h3,h4,h5,h6,rfl⟩:=hv;simp only[Sh.slc.injEq]at hl';subst hl';obtain⟨rows,hx,hr,hor⟩:=xk hi ho hd;rcases hor with⟨_,_,_,hno⟩|⟨_,⟨e2,he2,hh⟩,har⟩;{rw[hno _ (aE _)]at he;cases he};rw[he]at he2;cases he2;have hlen:=au o.cid o.l rows (aH hr);rw[hlen]at hh;rw[hh]at h4;have hlt:n.dat.toI.toNat<rows.length:=(by have:=Nat.le_of_mul_le_mul_right h4 hl0;omega);obtain⟨e3,cs,fl,fh,he3,hb,k1,k2,k4,k5⟩:=ez har;rw[he]at he3;cases he3;have hrow:rows[n.dat.toI.toNat]? =some rows[n.dat.toI.toNat]:=bC hlt;have hmem:=hr _ (List.getElem_mem hlt);have htop:=hi.wf.top _ _ _ he;refine⟨e,cs,_,_,rfl,hb,?_,fun j hj=> ?_⟩
    ·have:n.dat.toI.toNat*o.l.length+o.l.length≤rows.length*o.l.length:=by
      have:=h4;rw[Nat.add_mul]at this;omega
     omega
    have hjl:off+j<o.l.length:=(by omega);have hs':o.l[off+j]? =some o.l[off+j]:=bC hjl;have hd':(rows[n.dat.toI.toNat])[off+j]? =some (rows[n.dat.toI.toNat])[off+j]:=bC (by rw[hmem.1];exact hjl);have hg:=cu o.cid o.l rows (aH hr) _ (off+j) _ hrow hjl;rw[dj o.cid o.l _ _ _ _ hs' hd']at hg;have hpos:n.dat.toI.toNat*o.l.length+(off+j)<(ah o.cid o.l rows).length:=(by rw[hlen];have:=h4;rw[Nat.add_mul]at this;omega);obtain⟨v,y1,y2⟩:=k5 _ _ (by omega) hpos hg;refine⟨o.l[off+j],v,hs',by rw[←y1];congr 1;omega,zW ?_ ?_⟩
    ·have:(Sx.cell o.x n (off+j)).dat=(rows[n.dat.toI.toNat])[off+j]:=by
      show(o.x.dat.cell n.dat.toI (off+j))=_;simp [Dat.cell,Dat.row,hx,Dat.toL,hrow,hd']
     rw[this];exact hmem.2 _ _ _ hs' hd'
    have:(Sx.cell o.x n (off+j)).dat=(rows[n.dat.toI.toNat])[off+j]:=(by show(o.x.dat.cell n.dat.toI (off+j))=_;simp [Dat.cell,Dat.row,hx,Dat.toL,hrow,hd']);rw[this];exact y2
   split at h
   ·rename_i hagg;split at h
    ·rename_i s hs;simp only[ai]at h;split at h
     ·rename_i hb;have:=ae hb;subst this;simp only[OhR.rdo,aw]at h;subst h;have hoff:off<o.l.length:=by
       rcases aS off o.l.length with h|h;{exact h};rw[bZ h]at hs;cases hs
      cases ha with
      |opq v hv=>obtain⟨e,cs,bt,fr,rfl,hblk,hsz,hall⟩:=key off 1 (by omega) (ic hk (by simp) (hi.lt ho)) hv;obtain⟨sh,v,q1,q2,q3⟩:=hall 0 (by omega);rw[Nat.add_zero]at q1 q2 q3;rw[hs]at q1;cases q1;refine⟨v,?_,q3,Post.read hi _⟩;have hc:w.cell? ⟨e.blk,e.up+(n.dat.toI.toNat*o.l.length+off),none⟩=some v:=(by rw[jO hblk];exact q2);simp [Instr.loadAt,Instr.sureAddr,loadVar,fL hagg,hc]
     cases h
    cases h
   ·rename_i hagg;split at h
    ·rename_i s hs;simp only[ai,al]at h;split at h
     ·rename_i hb;have:=ae hb.1;subst this;have hle:=aB hb.2.2;simp only[OhR.rdo,aw]at h;subst h;cases ha with
      |opq v hv=>
       obtain⟨e,cs,bt,fr,rfl,hblk,hsz,hall⟩:=key off s hle (ic hk (by simp) (hi.lt ho)) hv;have hrun:=cz (P:=P) (k:=e.up+(n.dat.toI.toNat*o.l.length+off)) (n:=s) hblk hsz;refine⟨.agg ((cs.toList.drop (e.up+(n.dat.toI.toNat*o.l.length+off))).take s).toArray,by simp [Instr.loadAt,Instr.sureAddr,loadVar,fL hagg,aN hs,hrun],.agg _ ?_,Post.read hi _⟩;have hcl:∀(m:Nat) (l:List Sh) (off:Nat) (vs:List Value),l.length=m→vs.length=m→(∀j sh v,l[j]? =some sh→vs[j]? =some v→VR φ (mU o.cid sh (.cell o.x n (off+j))) v)→VRL φ (gz o.cid o.x n l off) vs:=by
        intro m
        induction m with
        |zero=>intro l off vs h1 h2 _;have:=List.length_eq_zero_iff.1 h1;subst this;have:=List.length_eq_zero_iff.1 h2;subst this;exact .nil
        |succ m ih=>
         intro l off vs h1 h2 h3;cases l with
         |nil=>simp at h1
         |cons sh l=>
          cases vs with
          |nil=>simp at h2
          |cons v vs=>refine .cons (h3 0 sh v rfl rfl) (ih l (off+1) vs (by simpa using h1) (by simpa using h2) fun j sh' v' a b=> ?_);have:=h3 (j+1) sh' v' (by simpa using a) (by simpa using b);rwa[show off+1+j=off+(j+1) by omega]
       refine hcl s _ off _ (by simp;omega) (by simp;omega) fun j sh v a b=> ?_;have hj:j<s:=(by rcases aS j s with h|h;{exact h};rw[bZ (by simp;omega)]at a;cases a);obtain⟨sh',v',q1,q2,q3⟩:=hall j hj;rw[ij hj,fc,q1]at a;cases a;have b:((cs.toList.drop (e.up+(n.dat.toI.toNat*o.l.length+off))).take s)[j]? =some v:=(by simpa using b);rw[ij hj,fc,Array.getElem?_toList,show e.up+(n.dat.toI.toNat*o.l.length+off)+j=e.up+(n.dat.toI.toNat*o.l.length+(off+j)) by omega,q2]at b;cases b;exact q3
     cases h
    cases h
   cases h
  cases h
 cases h
end
end
end Go.Tw
