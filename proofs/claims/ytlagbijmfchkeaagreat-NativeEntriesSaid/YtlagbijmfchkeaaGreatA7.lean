/-
  A part of the proof that the abstract evaluator is sound for the model's machine. Conditions: those of each theorem, as it states them.
-/
import Derived.Test.YtlagbijmfchkeaaGreatA6
import Derived.Test.YtlagbijmfchkeaaGreatA4
import Derived.Test.YtlagbijmfchkeaaGreatA3
set_option linter.all false
namespace Go.Tw
open Go.ChangeShapes Go.RowKit
section
variable{v v':Val}{R:Nat}{ρ:List RE}{φ:PM}{w:World}
def Carry(R:Nat)(ρ:List RE)(v v':Val)(x:Option Ob)(o:Ob):Prop:=match x,o with
 |some .dfr,.dfr=>True
 |some (.loop st pend tm nt ps as bd),.loop st' pend' tm' nt' ps' as' bd'=>st=st'∧pend=pend'∧nt=nt'∧ps=ps'∧as=as'∧bd=bd'∧∃l e,tm'=ax l∧Wy R ρ tm l=some e∧EqsOk v v' e
 |_,_=>False
theorem K4{i:Nat}{x:Option Ob}{o:Ob}{n:Nat}(hc:Carry R ρ v v' x o)(hm:aV R ρ φ i 0=φ i 0)(hr:i<n→@Rep v R φ w i x)(hlt:i<n)
 (hv:∀e,EqsOk v v' e→∀y z x',nD R ρ y z=some e→@VR v φ y x'→@VR v' (aV R ρ φ) z x'):@Rep v' R (aV R ρ φ) w i (some o):=by
 have hr:=hr hlt;unfold Carry at hc;split at hc;{obtain⟨h1,e,h2,h3⟩:=hr;exact⟨h1,e,hm.trans h2,h3⟩};{obtain⟨rfl,rfl,rfl,rfl,rfl,rfl,l,e,rfl,h2,h3⟩:=hc;obtain⟨q1,ex,lp,q2,q3,q4,q5,q6,q7,q8,q9,q10⟩:=hr;refine⟨q1,ex,lp,hm.trans q2,q3,q4,q5,q6,q7,q8,q9,fun t x hx=> ?_⟩;obtain⟨y,e',g1,g2,g3⟩:=xo h2 t x (pG hx);obtain⟨x',k1,k2⟩:=q10 t y g1;exact⟨x',k1,hv e' (fun p hp=>h3 p (g3 p hp)) y x x' g2 k2⟩};exact hc.elim
theorem sA{nr nb:Nat}{gl:Nat→Option Nat}{b:bF}(hb:BaseOk gl b R){tm:T AV}{σ:St}{tm':List (Nat×AV)}{objs':List (Nat×Ob)}{nx':Nat}{e:bq}(h:cM R nb ρ tm σ tm' objs' nx'=some e)(he:EqsOk v v' e)
 {X:List (Nat×Ob)}(hX:∀i o,(i,o)∈X→(R≤i∧i<nx')∧(∃t,kR ρ i=some ⟨i,i,0,0,t⟩)∧Carry R ρ v v' (σ.heap.get i) o):
 Retell gl b R nr nb v tm σ v' (ax tm') (ag b (X++objs') nx'):=by
 intro nt a w φ hh;unfold cM at h;rw[au]at h;split at h
 ·rename_i hc;simp only[ak]at hc;obtain⟨hre,hRn,hpin,hst⟩:=hc;have hRn:=aA hRn;split at h
  ·rename_i p q hp hq;cases h;obtain⟨hep,heq⟩:=he.app;have hlow:(aV R ρ φ).low R=φ.low R:=by
    funext i u;unfold PM.low;split;{rename_i hi;exact cA i hi u};rfl
   have hle:(φ.low R).le (aV R ρ φ):=fun i u f hf=>(by unfold PM.low at hf;split at hf;{rename_i hi;rw[cA i hi];exact hf};cases hf);have hwf:=sE hh.wf hre;have hre':=hre;simp only[oG,ak,AK]at hre';have hbase:∀i,i<R→@Rep v' R (aV R ρ φ) w i (b.get i):=fun i hi=>@Rep.frame v' R _ _ w w i _ hle (fun u=>by rw[cA i hi,PM.low_lt _ hi]) (fun _ _ _=>rfl) (hh.roA v' i hi);refine⟨aV R ρ φ,⟨hh.size,fun t x hx=> ?_,hh.dfs,⟨hwf,hRn,fun i _ hn=> ?_,fun g n hg=> ?_,fun i hn=> ?_,fun _ _ h=>by simp [gV]at h,fun _ _ h=>by simp [gV]at h,fun _ h=>(by cases h),fun i hi=> ?_,@kl v'⟩,fun i hn u=> ?_,fun v'' i hi=> ?_,rfl,rfl⟩,.of_sub hlow (yZ hpin) fun i u f hi hf=> ?_⟩;·obtain⟨y,e',h1,h2,h3⟩:=xo hp t x (pG hx);obtain⟨x',q1,q2⟩:=hh.val t y h1;exact⟨x',q1,n9 h2 (fun z hz=>hep z (h3 z hz)) q2⟩
   ·rcases fM b (X++objs') i with h1|⟨o,h1,h2⟩;{show @Rep v' R _ w i ((bu b (X++objs')).get i);rw[h1];by_cases hi:i<R;{exact hbase i hi};rw[hb.none i (by omega)];trivial};show @Rep v' R _ w i ((bu b (X++objs')).get i);rw[h2];rcases List.mem_append.1 h1 with h1|h1
    ·obtain⟨⟨g1,g2⟩,⟨t0,g3⟩,g4⟩:=hX i o h1;have hm0:aV R ρ φ i 0=φ i 0:=by
      have hnR:¬i<R:=(by omega);have:(Ext.upto 0:Ext→Ext)=id:=funext Ext.upto_zero;simp [aV,hnR,g3,this]
     refine K4 g4 hm0 (fun hlt=>hh.rep hlt) (aL (hre'.2 _ (bM g3).1).2) fun e' he' x y x' hxy hx'=>n9 hxy he' hx'
    obtain⟨g1,g2,e',g3,g4⟩:=jv hq i o h1;exact BE hh.lite hre g3 (fun z hz=>heq z (g4 z hz)) g1
   {obtain⟨f,h1,h2⟩:=hh.glo hg;exact⟨f,by rw[cA g (hb.gl g n hg)];exact h1,h2⟩};{show(bu b (X++objs')).get i=none;have hn:nx'≤i:=hn;rcases fM b (X++objs') i with h1|⟨o,h1,h2⟩;{rw[h1];exact hb.none i (by omega)};rcases List.mem_append.1 h1 with h1|h1;{obtain⟨⟨g1,g2⟩,_⟩:=hX i o h1;omega};obtain⟨g1,g2,_⟩:=jv hq i o h1;omega};{rw[hlow];exact hh.roA v' i hi};{have hn:nx'≤i:=hn;have hnR:¬i<R:=(by omega);simp only[aV,hnR,if_false];split;{split;{rename_i r hr;have:=aL (hre'.2 r (bM hr).1).1.2;have:=(bM hr).2;omega};rfl};rfl};{rw[hlow];exact hh.roA v'' i hi};obtain⟨_,r,f',h1,h2,rfl⟩:=hY hi hf;exact⟨r.ido,r.ver,f',aA (hre'.2 r (bM h1).1).1.1.1,h2,(Ext.upto_blk _ _).symm,yD hst h1⟩
  cases h
 cases h
end
structure HoldD(v:Val)(gl:Nat→Option Nat)(b:bF)(R nt:Nat)(tm:T AV)(ds:List ADef)(σ:St)(a:Act)(w:World)(φ:PM):Prop where
 size:a.tmps.size=nt
 val:∀t x,tm.get t=some x→∃x',a.tmps[t]? =some x'∧@VR v φ x x'
 dfs:@DfsR v φ ds a.defers
 inv:@Inv v R (gV gl b) (fun _=>True) φ σ w
 free:∀i,σ.next≤i→∀u,φ i u=none
 roA:∀v':Val,∀i,i<R→@Rep v' R (φ.low R) w i (b.get i)
 rd:σ.rd=[]
 wr:σ.wr=[]
def HTD(P:Program)(gl:Nat→Option Nat)(b:bF)(R nr nb nt:Nat)(v:Val)(c:Code)(tm:T AV)(ds:List ADef)(σ:St)(e:AExit)(v':Val)(tm':T AV)(ds':List ADef)(σ':St):Prop:=
 ∀(a:Act) (cs:List Frame) (w:World) (φ:PM),HoldD v gl b R nt tm ds σ a w φ→
  Runs P none false c (fun e' a' cs' w'=>cs'=cs∧ExitP e e'∧∃φ',HoldD v' gl b R nt tm' ds' σ' a' w' φ'∧Trans R nr nb φ w φ' w') a cs w
section
variable{P:Program}{gl:Nat→Option Nat}{b:bF}{R nr nb nt:Nat}{v v' v1 v2:Val}
theorem HoldD.hold{tm:T AV}{σ:St}{a:Act}{w:World}{φ:PM}(h:HoldD v gl b R nt tm [] σ a w φ):Hold v gl b R nt tm σ a w φ:=
 ⟨h.size,h.val,by have:=h.dfs;generalize a.defers=l at this;cases this;rfl,h.inv,h.free,h.roA,h.rd,h.wr⟩
theorem Hold.d{tm:T AV}{σ:St}{a:Act}{w:World}{φ:PM}(h:Hold v gl b R nt tm σ a w φ):HoldD v gl b R nt tm [] σ a w φ:=
 ⟨h.size,h.val,h.dfs▸.nil,h.inv,h.free,h.roA,h.rd,h.wr⟩
theorem HT.d{c:Code}{tm tm':T AV}{σ σ':St}{e:AExit}(h:HT P gl b R nr nb nt v c tm σ e v' tm' σ'):HTD P gl b R nr nb nt v c tm [] σ e v' tm' [] σ':=
 fun a cs w φ ha=>(h a cs w φ ha.hold).mono fun _ _ _ _ ⟨q1,q2,φ',q3,q4⟩=>⟨q1,q2,φ',q3.d,q4⟩
theorem HTD.seq(hrb:nr≤bQ nb){x y:Code}{tm tm1 tm2:T AV}{ds ds1 ds2:List ADef}{σ σ1 σ2:St}{e:AExit}(h:HTD P gl b R nr nb nt v x tm ds σ .normal v1 tm1 ds1 σ1)(k:HTD P gl b R nr nb nt v1 y tm1 ds1 σ1 e v2 tm2 ds2 σ2):
 HTD P gl b R nr nb nt v (.seq x y) tm ds σ e v2 tm2 ds2 σ2:=by
 intro a cs w φ ha;refine ey ((h a cs w φ ha).mono fun e1 a1 cs1 w1 q=> ?_);obtain⟨rfl,q2,φ1,q3,q4⟩:=q;have:e1=.normal:=by cases e1<;>simp_all [ExitP]
 subst this;exact(k a1 _ w1 φ1 q3).mono fun e2 a2 cs2 w2 ⟨r1,r2,φ2,r3,r4⟩=>⟨r1,r2,φ2,r3,q4.trans hrb r4⟩
theorem HTD.seq_out{x y:Code}{tm tm2:T AV}{ds ds2:List ADef}{σ σ2:St}{e:AExit}(h:HTD P gl b R nr nb nt v x tm ds σ e v2 tm2 ds2 σ2)(hn:e≠.normal):HTD P gl b R nr nb nt v (.seq x y) tm ds σ e v2 tm2 ds2 σ2:=by
 intro a cs w φ ha;refine ey ((h a cs w φ ha).mono fun e1 a1 cs1 w1 q=> ?_);have hnn:e1≠.normal:=by obtain⟨_,q2,_⟩:=q;intro h';subst h';cases e<;>simp_all [ExitP]
 cases e1 with
 |normal=>exact absurd rfl hnn
 |_=>exact q
theorem HTD.block{id:Nat}{x:Code}{tm tm2:T AV}{ds ds2:List ADef}{σ σ2:St}(h:HTD P gl b R nr nb nt v x tm ds σ (.exit id) v2 tm2 ds2 σ2):HTD P gl b R nr nb nt v (.block id x) tm ds σ .normal v2 tm2 ds2 σ2:=by intro a cs w φ ha;refine cC ((h a cs w φ ha).mono fun e1 a1 cs1 w1 q=> ?_);obtain⟨q1,q2,q3⟩:=q;cases e1<;>simp only[ExitP]at q2;subst q2;simp only[de,if_true];exact⟨q1,trivial,q3⟩
theorem HTD.block_out{id:Nat}{x:Code}{tm tm2:T AV}{ds ds2:List ADef}{σ σ2:St}{e:AExit}(h:HTD P gl b R nr nb nt v x tm ds σ e v2 tm2 ds2 σ2)(hn:e≠.exit id):HTD P gl b R nr nb nt v (.block id x) tm ds σ e v2 tm2 ds2 σ2:=by
 intro a cs w φ ha;refine cC ((h a cs w φ ha).mono fun e1 a1 cs1 w1 q=> ?_);obtain⟨q1,q2,q3⟩:=q;cases e1 with
 |exit j=>cases e<;>simp only[ExitP]at q2;subst q2;rename_i i;have:i≠id:=fun h'=>hn (by rw[h']);simp only[de,this,if_false];exact⟨q1,rfl,q3⟩
 |_=>exact⟨q1,q2,q3⟩
theorem B8{p:aD}(hp:@Holds v p){hk:FuncId→List AV→St→CR}(hs:bH (bL gl b p hk))(hh:@kC v P R (bL gl b p hk))(hm:P.follows .mixedOrders=true){n:Nat}{c:Code}{tm:T AV}{ds:List ADef}{σ:St}{e:AExit}{env1:Env}{σ1:St}
 (h:exec P (bL gl b p hk) n nt c {tm:=tm,ds:=ds,md:=none,rd:=false} σ=.ok e env1 σ1)(hn:∀c,e≠.panic c)(hmd:env1.md=none)(hro:∀i∈σ1.wr,R+nr≤i):HTD P gl b R nr nb nt v c tm ds σ e v env1.tm env1.ds σ1.bare:=by
 intro a cs w φ ha;have hi:@Inv v R (bL gl b p hk) (fun _=>True) φ σ w:=
  {wf:=ha.inv.wf,low:=ha.inv.low,rep:=ha.inv.rep,gl:=ha.inv.gl,dom:=ha.inv.dom,pin:=fun _ _ h=>by simp [bL]at h,dec:=fun _ _ hd=>@gU v _ hp _ _ hd,wrR:=ha.inv.wrR,ro:=ha.inv.ro,oh:=@kl v}
 have hf:@FrmR v φ nt {tm:=tm,ds:=ds,md:=none,rd:=false} a:=⟨⟨ha.size,ha.val⟩,ha.dfs⟩;refine((@tM v P R (bL gl b p hk) hs hh hm n).1 nt c _ _ e env1 σ1 (fun _=>True) φ a cs w none false cs h hi hf ⟨rfl,rfl⟩ rfl (fun i _ _=>trivial) (fun i h1 _ u=>ha.free i h1 u)).mono fun e' a' cs' w' q=> ?_;obtain⟨φ',g1,g2,g3,g4,g5⟩:=q;have hcs:cs'=cs:=by rw[hmd]at g3;exact g3.2
 have hst:StepA σ σ1:=by have:=bn (P:=P) hs n nt c {tm:=tm,ds:=ds,md:=none,rd:=false} σ;rw[h]at this;exact this σ1 rfl
 have htr:Trans R nr nb φ w φ' w':=Trans.of_post ha.inv.wf g5 ha.inv.low ha.inv.wrR hro;have hi':=g5.inv hi hst;refine⟨hcs,ExitP.of g1 hn,φ',⟨g2.ev.size,g2.ev.val,g2.dfs,?_,fun i h1 u=> ?_,oC ha.inv.wf htr ha.roA,rfl,rfl⟩,htr⟩;{exact{wf:=hi'.wf,low:=hi'.low,rep:=fun i _ hn=>hi'.rep i (.inl trivial) hn,gl:=hi'.gl,dom:=hi'.dom,pin:=fun _ _ h=>by simp [gV]at h,dec:=fun _ _ h=>by simp [gV]at h,wrR:=fun _ h=>(by cases h),ro:=hi'.ro,oh:=@kl v}};by_cases hlt:i<σ.next;{have:=hst.next;have:σ1.next≤i:=h1;omega};rw[g5.grow i (.inr h1) (fun hx=>by have:σ1.next≤i:=h1;omega) u];exact ha.free i (by omega) u
theorem Trans.fewer{nb2:Nat}(h:bQ nb≤bQ nb2∧kY nb≤kY nb2){φ φ':PM}{w w':World}(t:Trans R nr nb2 φ w φ' w'):Trans R nr nb φ w φ' w':=
 ⟨t.size,t.keep,fun i u e hi he=>(t.own i u e hi he).imp (fun⟨j,s,f,h1,h2,h3,h4⟩=>⟨j,s,f,h1,h2,h3,h4.imp id fun⟨k1,k2⟩=>⟨Nat.le_trans (Nat.add_le_add_left h.2 R) k1,Nat.le_trans (Nat.add_le_add_left h.2 R) k2⟩⟩) id,t.low,fun i e h1 h2 h3=>t.pin i e h1 (Nat.lt_of_lt_of_le h2 (Nat.add_le_add_left h.1 R)) h3,t.ro,t.os,t.out,t.tape⟩
end
section
variable[v:Val]{P:Program}{gl:Nat→Option Nat}{b:bF}{R nr nb nt:Nat}
theorem Hv(hrb:nr≤bQ nb){f:Operand}{ps:Array Tmp}{assign body:Code}{tm:T AV}{σ:St}{g:FuncId}{first captured:List AV}{nt2:Nat}
 (hf:aH (gV gl b) {tm:=tm,ds:=[],md:=none,rd:=false} f=some (.fn (.func g) first captured))
 (hcf:fX P g (first++[.yld (σ.next+1)]++captured) ((σ.mk' .dfr).mk' (.loop 0 none tm nt ps.toList assign body))=.call (.fn g) (first++[.yld (σ.next+1)]++captured) ((σ.mk' .dfr).mk' (.loop 0 none tm nt ps.toList assign body)))
 (hlen:(first++[AV.yld (σ.next+1)]++captured).length≤nt2)
 {a:Act}{cs:List Frame}{w:World}{φ:PM}(ha:Hold v gl b R nt tm σ a w φ){Q:Exit→Act→List Frame→World→Prop}
 (hcall:∀(ar:Array Value) (w2:World) (φ2:PM),Hold v gl b R nt2 (eD (first++[.yld (σ.next+1)]++captured) 0 .leaf) ((σ.mk' .dfr).mk' (.loop 0 none tm nt ps.toList assign body)) {tmps:=ar++Array.replicate (nt2 - ar.size) undef,defers:=[]} w2 φ2→
   Trans R nr nb φ w φ2 w2→φ2 σ.next 0=some ⟨w.heap.size,0,0,0,0,[]⟩→φ2 (σ.next+1) 0=some ⟨w.heap.size+1,0,0,0,0,[]⟩→φ.le φ2→
   Calls P g ar w2 fun ee w3=>∃vv r e',ee=.returned vv∧w3.heap[w.heap.size+1]? =some (.loop r)∧Wu r.state≠1∧
    ((r.pending=none∧e'=.normal)∨(r.pending=some .ret∧e'=.ret)∨(∃i,r.pending=some (.exit i)∧e'=.exit i))∧
    Q e' {a with defers:=[{target:=.collected w.heap.size,args:= #[]}]++a.defers} cs (wset w3 (w.heap.size+1) (.loop {r with state:=.exhausted}))):
 Runs P none false (.rangeFunc f ps assign body) Q a cs w:=by
 obtain⟨_,_,_,hinv⟩:=re hcf;have hi:Inv R (gV gl b) (fun _=>True) φ σ w:=ha.inv;have he:FrmR φ nt {tm:=tm,ds:=[],md:=none,rd:=false} a:=⟨⟨ha.size,ha.val⟩,ha.dfs▸.nil⟩;have hvr:=fE he.ev hi hf;obtain⟨fv,hfe⟩:∃fv,fv=a.eval f:=⟨_,rfl⟩;rw[←hfe]at hvr;cases hvr with
 |fn _ a' b' u1 u2=>
  have hs1:StepA σ (σ.mk' .dfr):=.mk' _ _;have hs2:StepA (σ.mk' .dfr) ((σ.mk' .dfr).mk' (.loop 0 none tm nt ps.toList assign body)):=.mk' _ _;have hfr0:∀i,σ.next≤i→∀u,φ i u=none:=ha.free;have p1:Post R (fun _=>True) φ σ w (σ.mk' .dfr) (φ.ins σ.next 0 ⟨w.heap.size,0,0,0,0,[]⟩) (w.alloc (.deferred (some []))):=
   Post.new hi (fun u=>hfr0 _ (aw _) u) rfl (aw _) ⟨hi.low,_,PM.ins_same _ _ _ _,cm _ _⟩
  have hi1:=p1.inv hi hs1;have hfr1:=he.mono p1.le;have hf1:∀i,(σ.mk' .dfr).next≤i→∀u,(φ.ins σ.next 0 ⟨w.heap.size,0,0,0,0,[]⟩) i u=none:=fun i h u=>(by have h:σ.next+1≤i:=h;rw[PM.ins_id _ _ (by omega)];exact hfr0 i (by omega) u);refine cL (wpIn_rangeFunc fun fnid _=> ?_);let rec0:Loop:={state:=.ready,pending:=none,fn:=fnid,tmps:=a.tmps,params:=ps,assign:=assign,body:=body,defers:=w.heap.size};have p2:Post R (cI (fun _=>True) σ) (φ.ins σ.next 0 ⟨w.heap.size,0,0,0,0,[]⟩) (σ.mk' .dfr) (w.alloc (.deferred (some []))) ((σ.mk' .dfr).mk' (.loop 0 none tm nt ps.toList assign body))
   ((φ.ins σ.next 0 ⟨w.heap.size,0,0,0,0,[]⟩).ins (σ.mk' .dfr).next 0 ⟨(w.alloc (.deferred (some []))).heap.size,0,0,0,0,[]⟩) ((w.alloc (.deferred (some []))).alloc (.loop rec0)):=
   Post.new hi1 (fun u=>hf1 _ (aw _) u) rfl (aw _) ⟨hi1.low,_,rec0,PM.ins_same _ _ _ _,cm _ _,rfl,rfl,ha.size,rfl,rfl,rfl,fun t x hx=>by obtain⟨x',g1,g2⟩:=hfr1.ev.val t x hx;exact⟨x',g1,g2.mono (PM.le_ins _ _ (hf1 _ (aw _) 0))⟩⟩
  have hi2:=p2.inv hi1 hs2;have hf2:∀i,((σ.mk' .dfr).mk' (.loop 0 none tm nt ps.toList assign body)).next≤i→∀u,((φ.ins σ.next 0 ⟨w.heap.size,0,0,0,0,[]⟩).ins (σ.mk' .dfr).next 0 ⟨(w.alloc (.deferred (some []))).heap.size,0,0,0,0,[]⟩) i u=none:=fun i h u=>(by have h:σ.next+1+1≤i:=h;have h':(σ.mk' .dfr).next+1≤i:=h;rw[PM.ins_id _ _ (by omega)];exact hf1 i (by show σ.next+1≤i;omega) u);generalize hφ2:(φ.ins σ.next 0 ⟨w.heap.size,0,0,0,0,[]⟩).ins (σ.mk' .dfr).next 0 ⟨(w.alloc (.deferred (some []))).heap.size,0,0,0,0,[]⟩=φ2 at p2 hi2 hf2;have hl2:φ2 (σ.next+1) 0=some ⟨w.heap.size+1,0,0,0,0,[]⟩:=(by rw[←hφ2];have:=PM.ins_same (φ.ins σ.next 0 ⟨w.heap.size,0,0,0,0,[]⟩) (σ.mk' .dfr).next 0 ⟨(w.alloc (.deferred (some []))).heap.size,0,0,0,0,[]⟩;simpa[St.mk',World.size_alloc]using this);have hd2:φ2 σ.next 0=some ⟨w.heap.size,0,0,0,0,[]⟩:=(by rw[←hφ2,PM.ins_id _ _ (by simp [St.mk'])];exact PM.ins_same _ _ _ _);have hargs:VRL φ2 (first++[.yld (σ.next+1)]++captured) ((a'++ #[Value.func (.yield (w.heap.size+1)) #[] #[]])++b').toList:=(by have q1:=(u1.mono p1.le).mono p2.le;have q2:=(u2.mono p1.le).mono p2.le;have:=(q1.append (.cons (.yld _ hl2) .nil)).append q2;simpa using this);generalize hσ2:(σ.mk' .dfr).mk' (.loop 0 none tm nt ps.toList assign body)=σi at hcall hinv p2 hi2 hf2 hs2;have hσn:σi.next=σ.next+1+1:=(by rw[←hσ2];rfl);have hσw:σi.wr=[]∧σi.rd=[]:=(by rw[←hσ2];exact⟨ha.wr,ha.rd⟩);generalize hw2:(w.alloc (.deferred (some []))).alloc (.loop rec0)=w2 at p2 hi2
  -- what is told ahead of the call
  have htr1:Trans R nr nb φ w _ _:=Trans.of_post hi.wf p1 hi.low (fun i h=>(by rw[ha.wr]at h;cases h)) (fun i h=>(by have h:i∈σ.wr:=h;rw[ha.wr]at h;cases h));have htr2:Trans R nr nb _ _ φ2 w2:=Trans.of_post hi1.wf p2 hi1.low (fun i h=>(by have h:i∈σ.wr:=h;rw[ha.wr]at h;cases h)) (fun i h=>(by rw[hσw.1]at h;cases h));have htr12:=htr1.trans hrb htr2;have hro2:∀v0:Val,∀i,i<R→@Rep v0 R (φ2.low R) w2 i (b.get i):=oC hi.wf htr12 ha.roA;have hen:=en hargs hlen none false;have hhold:Hold v gl b R nt2 (eD (first++[.yld (σ.next+1)]++captured) 0 .leaf) σi {tmps:=((a'++ #[Value.func (.yield (w.heap.size+1)) #[] #[]])++b')++Array.replicate (nt2 - ((a'++ #[Value.func (.yield (w.heap.size+1)) #[] #[]])++b').size) undef,defers:=[]} w2 φ2:=
   ⟨hen.ev.size,hen.ev.val,rfl,⟨hi2.wf,hi2.low,fun i _ hn=>hi2.rep i (.inl (.inl trivial)) hn,hi2.gl,hi2.dom,hi2.pin,hi2.dec,fun i h=>(by rw[hσw.1]at h;cases h),hi2.ro,hi2.oh⟩,hf2,hro2,hσw.2,hσw.1⟩
  refine⟨w.heap.size+1,[{target:=.collected w.heap.size,args:= #[]}],w2,
   {target:=.fn (.func g) b',args:=a'++ #[Value.func (.yield (w.heap.size+1)) #[] #[]]},w2,g,
   (a'++ #[Value.func (.yield (w.heap.size+1)) #[] #[]])++b',w2,?_,?_,fun _ _=>trivial,?_,fun h=>by simp [fI,Fence.wide]at h,?_⟩
  {show(Instr.enterLoop fnid a.tmps ps assign body none).run P w=_;have h1:(w.alloc (.deferred (some []))).heap.size=w.heap.size+1:=(by rw[World.size_alloc]);have h2:∀o (w:World),(newObj o).run P w=.ok w.heap.size (w.alloc o):=fun _ _=>rfl;rw[←hw2];simp only[Instr.enterLoop,br,h2,bG,Sem.run_pure,h1];rfl};{have hmap:Array.map a.eval #[Operand.const (Value.func (Fn.yield (w.heap.size+1)) #[] #[])]= #[Value.func (Fn.yield (w.heap.size+1)) #[] #[]]:=(by simp [Act.eval]);simp only[resolve,←hfe,Deferred.ofValue,hmap];rfl};{show(callFunc g _).run P _=_;exact hinv _ _};refine(callsIn_wide (n:=0)).2 ?_;refine Calls.mono (hcall _ w2 φ2 hhold htr12 hd2 hl2 (p1.le.trans p2.le)) fun ee w3 hq=> ?_;obtain⟨vv,r,e',rfl,hb,hst,hpe,hq⟩:=hq;have hrun:=qL (P:=P) hb hst;refine⟨r.pending,_,hrun,?_⟩;rcases hpe with⟨h1,rfl⟩|⟨h1,rfl⟩|⟨i,h1,rfl⟩;{rw[h1]at hq⊢;exact hq};{rw[h1]at hq⊢;exact wpIn_ret hq};rw[h1]at hq⊢;exact wpIn_exit hq
end
section
variable{P:Program}{gl:Nat→Option Nat}{b:bF}{R nr nb nt:Nat}{v v' v1 v2:Val}
theorem Hw(hrb:nr≤bQ nb){f:Operand}{ps:Array Tmp}{assign body:Code}{tm tm' tm2 tmL:T AV}{σ σ2:St}{g:FuncId}{first captured:List AV}{fn:Func}{c2:Code}{e2 e:AExit}{st nt2:Nat}{pend:Option Code}{ps2:List Tmp}{as2 bd2:Code}{nb2:Nat}
 (hf:aH (gV gl b) {tm:=tm,ds:=[],md:=none,rd:=false} f=some (.fn (.func g) first captured))
 (hcf:fX P g (first++[.yld (σ.next+1)]++captured) ((σ.mk' .dfr).mk' (.loop 0 none tm nt ps.toList assign body))=.call (.fn g) (first++[.yld (σ.next+1)]++captured) ((σ.mk' .dfr).mk' (.loop 0 none tm nt ps.toList assign body)))
 (hfn:P.funcs[g]? =some fn)(hbody:fn.body=some c2)(hlen:Nat.ble (first++[AV.yld (σ.next+1)]++captured).length fn.ntmps=true)(hres:fn.results= #[])
 (inner:HT P gl b R nr nb2 fn.ntmps v c2 (eD (first++[.yld (σ.next+1)]++captured) 0 .leaf) ((σ.mk' .dfr).mk' (.loop 0 none tm nt ps.toList assign body)) e2 v' tm2 σ2)(he2:e2=.ret∨e2=.normal)
 (hol:σ2.heap.get (σ.next+1)=some (.loop st pend tmL nt2 ps2 as2 bd2))(hst:st≠1)(hod:σ2.heap.get σ.next=some .dfr)(hn2:σ.next+2≤R+bQ nb2)(hnr:R+nr≤σ.next)(hnb:bQ nb≤bQ nb2∧kY nb≤kY nb2)(hnx:σ.next+2≤σ2.next)
 (hpend:(pend=none∧e=.normal)∨(pend=some .ret∧e=.ret)∨(∃i,pend=some (.exit i)∧e=.exit i))
 (htm:∀t x,tm'.get t=some x→tm.get t=some x∧∃i off hi,x=.ptr i 0 off hi∧R≤i∧i<R+bQ nb2):
 HTD P gl b R nr nb nt v (.rangeFunc f ps assign body) tm [] σ e v' tm' [.mark σ.next] (σ2.put (σ.next+1) .dead).bare:=by
 intro a cs w φ had;have ha:=had.hold;refine @Hv v P gl b R nr nb nt hrb _ _ _ _ _ _ _ _ _ _ hf hcf (aA hlen) _ _ _ _ ha _ fun ar w2 φ2 hh2 htr hd2 hl2 hle=> ?_;refine cU hfn hbody fun cs1=> ?_;refine(inner _ cs1 w2 φ2 hh2).mono fun e1 a1 cs2 w3 q=> ?_;obtain⟨q1,q2,φ3,q3,q4⟩:=q;refine⟨q1,?_⟩;have hd3:φ3 σ.next 0=some ⟨w.heap.size,0,0,0,0,[]⟩:=q4.pin _ _ (by omega) (by omega) hd2;have hl3:φ3 (σ.next+1) 0=some ⟨w.heap.size+1,0,0,0,0,[]⟩:=q4.pin _ _ (by omega) (by omega) hl2;have hrl:=q3.rep (show σ.next+1<σ2.next by omega);rw[hol]at hrl;obtain⟨hR,ex,r,hex1,hb,s1,s2,_⟩:=hrl;rw[hl3]at hex1;cases hex1;have p4:@Post v' R (fun _=>True) φ3 σ2 w3 (σ2.put (σ.next+1) .dead) φ3 (wset w3 (w.heap.size+1) (.loop {r with state:=.exhausted})):=@Post.change v' _ _ _ _ _ _ _ _ _ _ _ q3.inv hR (by omega) hl3 trivial;have hi4:=p4.inv q3.inv (.put _ _ hol);have htr4:Trans R nr nb φ3 w3 φ3 (wset w3 (w.heap.size+1) (.loop {r with state:=.exhausted})):=@Trans.of_post v' _ _ _ _ _ _ _ _ _ _ q3.inv.wf p4 q3.inv.low q3.inv.wrR (fun i h=>by have h:i∈uL (σ.next+1) σ2.wr:=h;rw[q3.wr]at h;simp [uL]at h;omega);have htot:Trans R nr nb φ w φ3 (wset w3 (w.heap.size+1) (.loop {r with state:=.exhausted})):=(htr.trans hrb (q4.fewer hnb)).trans hrb htr4;have hfin:HoldD v' gl b R nt tm' [.mark σ.next] (σ2.put (σ.next+1) .dead).bare {a with defers:=[{target:=.collected w.heap.size,args:= #[]}]++a.defers} (wset w3 (w.heap.size+1) (.loop {r with state:=.exhausted})) φ3:=by
  refine⟨ha.size,fun t x hx=> ?_,?_,⟨hi4.wf,hi4.low,fun i _ hn=>hi4.rep i (.inl trivial) hn,hi4.gl,hi4.dom,hi4.pin,hi4.dec,fun _ h=>(by cases h),hi4.ro,hi4.oh⟩,fun i hn u=>q3.free i hn u,oC ha.wf htot ha.roA,rfl,rfl⟩
  ·obtain⟨h1,i,off,hi,rfl,h2,h3⟩:=htm t x hx;obtain⟨x',h4,h5⟩:=ha.val t _ h1;refine⟨x',h4,?_⟩;cases h5 with
   |ptr e o g1 g2 g3 g4=>exact @VR.ptr v' _ _ _ _ _ e o (q4.pin _ _ h2 h3 (hle _ _ _ g1)) g2 g3 g4
  rw[ha.dfs];exact @DfsR.cons v' _ _ _ _ _ ⟨_,#[],hd3,rfl⟩ (@DfsR.nil v' _)
 have hl0:∀(e':Exit),((r.pending=none∧e'=.normal)∨(r.pending=some .ret∧e'=.ret)∨(∃i,r.pending=some (.exit i)∧e'=.exit i))→ExitP e e'→
  LeavesInM Fence.wide 0 P fn a1.tmps (fun ee w3=>∃vv r e',ee=.returned vv∧w3.heap[w.heap.size+1]? =some (.loop r)∧Wu r.state≠1∧
   ((r.pending=none∧e'=.normal)∨(r.pending=some .ret∧e'=.ret)∨(∃i,r.pending=some (.exit i)∧e'=.exit i))∧
   (cs=cs∧ExitP e e'∧∃φ',HoldD v' gl b R nt tm' [.mark σ.next] (σ2.put (σ.next+1) .dead).bare {a with defers:=[{target:=.collected w.heap.size,args:= #[]}]++a.defers} (wset w3 (w.heap.size+1) (.loop {r with state:=.exhausted})) φ'∧
     Trans R nr nb φ w φ' (wset w3 (w.heap.size+1) (.loop {r with state:=.exhausted})))) a1.defers .returning w3:=fun e' hp he'=>by
  rw[q3.dfs];exact⟨.tuple #[],by simp [results,hres],_,r,e',rfl,hb,by rw[s1];exact hst,hp,rfl,he',φ3,hfin,htot⟩
 have hfin2:∃e',((r.pending=none∧e'=.normal)∨(r.pending=some .ret∧e'=.ret)∨(∃i,r.pending=some (.exit i)∧e'=.exit i))∧ExitP e e':=by rcases hpend with⟨g1,rfl⟩|⟨g1,rfl⟩|⟨i,g1,rfl⟩;{exact⟨.normal,.inl ⟨s2.trans g1,rfl⟩,trivial⟩};{exact⟨.ret,.inr (.inl ⟨s2.trans g1,rfl⟩),trivial⟩};exact⟨.exit i,.inr (.inr ⟨i,s2.trans g1,rfl⟩),rfl⟩
 obtain⟨e',k1,k2⟩:=hfin2;have hl1:=hl0 e' k1 k2;rcases he2 with rfl|rfl;{cases e1<;>simp only[ExitP]at q2;exact hl1};cases e1<;>simp only[ExitP]at q2;exact hl1
end
end Go.Tw
namespace Go.Tw
open Go.ChangeShapes Go.RowKit
noncomputable section
structure LocP where
 o:Option Nat
 p:List Nat
def AV.kids:AV→List AV
 | .agg l=>l
 | .tup l=>l
 | .iface _ v=>[v]
 | .fn _ a b=>a++b
 |_=>[]
def AV.place:AV→Option Nat
 | .ptr id _ _ _=>some id
 | .opq k id _ _ _ _=>bif Nat.beq k 2||Nat.beq k 4 then some id else none
 | .map id=>some id
 |_=>none
def Y8:List AV→Nat→Option AV
 |[],_=>none
 |x::l,n=>bif Nat.beq n 0 then some x else Y8 l (Nat.pred n)
def lD:List Nat→Nat→Nat
 |[],_=>0
 |x::l,n=>bif Nat.beq n 0 then x else lD l (Nat.pred n)
def partOf:List Nat→AV→Option Nat
 |[],v=>v.place
 |i::p,v=>match Y8 v.kids i with
  |some u=>partOf p u
  |none=>none
def Ob.parts:Ob→List AV
 | .box c _=>c
 | .ro c=>c
 |_=>[]
def Tb(R:Nat)(args:List AV)(h:T Ob)(b:List Nat)(l:LocP):Option Nat:=
 match l.o with
 |none=>partOf l.p (.agg args)
 |some j=>match h.get (lD b (j - R))with
  |some o=>partOf l.p (.agg o.parts)
  |none=>none
def D2(R:Nat)(args:List AV)(h:T Ob):List LocP→List Nat→Option (List Nat)
 |[],b=>some b
 |l::ls,b=>match Tb R args h b l with
  |some j=>D2 R args h ls (b++[j])
  |none=>none
def eu(h:T Ob)(id:Nat):Nat:=match h.get id with
 |some (.opq k ver _ _ _ _ _ _)=>bif Nat.beq k 2 then ver else 0
 |_=>0
def oF(h:T Ob):List Nat→Nat→List RE
 |[],_=>[]
 |id::l,i=>{idn:=i,ido:=id,ver:=eu h id,n:=0,t:=0}::oF h l (Nat.succ i)
def wI(h:T Ob):List Nat→T Ob
 |[]=>.leaf
 |id::l=>match h.get id with
  |some o=>(wI h l).set id o
  |none=>wI h l
structure HCon where
 f:FuncId
 args:List AV
 pre:aD:=[]
 nr:Nat
 np:Nat
 ns:Nat
 locs:List LocP
 ins:List (Nat×Ob)
 v:AV
 outs:List (Nat×Ob)
 nx:Nat
def HCon.k(R:Nat)(c:HCon):Nat:=R+c.np+c.ns
def HCon.nb(c:HCon):Nat:=c.np+1048576*c.ns
def DH(R k d:Nat)(l:List Nat)(i:Nat):Nat:=bif Nat.blt i R then i else bif Nat.blt i k then lD l (i - R)else i - k+d
def Ko(R np k:Nat)(vs:List Nat)(i:Nat):Nat:=bif Nat.blt i R then 0 else bif Nat.blt i (R+np)then lD vs (i - R)else bif Nat.blt i k then Nat.succ (lD vs (i - R))else 0
mutual
def AV.out(g vo:Nat→Nat)(θ:Nat→Sx):AV→AV
 | .sym k e=>.sym k (e.sub θ)
 | .symb b=>.symb (b.sub θ)
 | .vstr e=>.vstr (e.sub θ)
 | .opq k id _ sh x y=>.opq k (g id) (vo id) sh (x.sub θ) (y.sub θ)
 | .agg l=>.agg (xe g vo θ l)
 | .tup l=>.tup (xe g vo θ l)
 | .ptr id _ off hi=>.ptr (g id) (vo id) off hi
 | .slc a b c e f g=>.slc a b c e f g
 | .map a=>.map a
 | .yld a=>.yld a
 | .fn f a b=>.fn f (xe g vo θ a) (xe g vo θ b)
 | .iface t u=>.iface t (u.out g vo θ)
 | .bool b=>.bool b
 | .int k n=>.int k n
 | .sslc e=>.sslc e
 | .sstr e=>.sstr e
 | .str s=>.str s
 | .nilp=>.nilp
 | .nils=>.nils
 | .nilm=>.nilm
 | .anyp=>.anyp
 | .unk=>.unk
 | .nilfn=>.nilfn
 | .nili=>.nili
def xe(g vo:Nat→Nat)(θ:Nat→Sx):List AV→List AV
 |[]=>[]
 |v::l=>v.out g vo θ::xe g vo θ l
end
mutual
def AV.okOut(R:Nat)(vz:Nat→Bool):AV→Bool
 | .sym .. =>true
 | .symb _=>true
 | .vstr _=>true
 | .opq k id ver _ _ _=>(Nat.beq k 0&&Nat.beq id gid)||(Nat.beq k 2&&Nat.beq ver 0)||(Nat.beq k 4&&vz id)
 | .agg l=>lB R vz l
 | .tup l=>lB R vz l
 | .ptr _ ver _ _=>Nat.beq ver 0
 | .slc .. =>false
 | .map _=>false
 | .yld _=>false
 | .fn _ a b=>lB R vz a&&lB R vz b
 | .iface _ u=>u.okOut R vz
 | .bool _=>true
 | .int .. =>true
 | .sslc _=>false
 | .sstr _=>false
 | .str _=>true
 | .nilp=>true
 | .nils=>true
 | .nilm=>true
 | .anyp=>true
 | .unk=>true
 | .nilfn=>true
 | .nili=>true
def lB(R:Nat)(vz:Nat→Bool):List AV→Bool
 |[]=>true
 |v::l=>v.okOut R vz&&lB R vz l
end
def Ob.out(g vo:Nat→Nat)(θ:Nat→Sx)(i:Nat):Ob→Ob
 | .box c t=>.box (xe g vo θ c) t
 | .opq k ver cid sh x y c t=>.opq k (bif Nat.beq k 2 then vo i else ver) cid sh (x.sub θ) (y.sub θ) c t
 |o=>o
def Ob.okOut(R:Nat)(vz:Nat→Bool)(i:Nat):Ob→Bool
 | .box c _=>vz i&&lB R vz c
 | .opq k ver cid (.slc l) _ _ [] _=>(Nat.beq k 2&&(Nat.beq ver 0&&Nat.beq cid gid))||(Nat.beq k 4&&(Nat.beq ver 0&&(th l&&vz i)))
 |_=>false
def Ob.isLst:Ob→Bool
 | .opq k _ _ _ _ _ _ _=>Nat.beq k 2
 |_=>false
def Dw(i:Nat):List (Nat×Ob)→Bool
 |[]=>false
 |(j,o)::l=>(Nat.beq i j&&o.isLst)||Dw i l
def Ku(i:Nat):List (Nat×Ob)→Bool
 |[]=>false
 |(x,_)::l=>Nat.beq x i||Ku i l
def HCon.vz(R:Nat)(c:HCon)(i:Nat):Bool:=Nat.ble (c.k R) i||(Nat.blt i (R+c.np)&& !Dw i c.ins)
def xd(R:Nat)(c:HCon):List (Nat×Ob)→Bool
 |[]=>true
 |(i,o)::l=>Nat.ble (R+c.nr) i&&(Nat.blt i c.nx&&(o.okOut R (c.vz R) i&&((Nat.ble (R+c.np) i&&Nat.blt i (c.k R))==(o.isLst&&Nat.blt i (c.k R))&&xd R c l)))
def ym(outs:List (Nat×Ob)):Nat→Nat→Bool
 |0,_=>true
 |n+1,i=>Ku i outs&&ym outs n (Nat.succ i)
def HCon.ok(R:Nat)(c:HCon):Bool:=Nat.ble c.nr c.np&&(Nat.blt c.np 1048576&&(Nat.ble (c.k R) c.nx&&(c.v.okOut R (c.vz R)&&(xd R c c.outs&&ym c.outs (c.np - c.nr+c.ns) (R+c.nr)))))
def pR(ins:List (Nat×Ob)):List Nat→Nat→Nat→Bool
 |_,_,0=>true
 |vs,i,n+1=>match vs with
  |[]=>false
  |v::vs=>(Dw i ins||Nat.beq v 0)&&pR ins vs (Nat.succ i) n
def JL(h:T Ob):List Nat→Bool
 |[]=>true
 |i::l=>(match h.get i with
  |some (.opq k _ _ _ _ _ _ _)=>Nat.beq k 2
  |_=>false)&&JL h l
def w6:Ob→Bool
 | .box .. =>true
 | .map .. =>true
 | .opq k _ _ _ _ y _ _=>Nat.beq k 4||(Nat.beq k 2&&(match y with
  | .lit (.ofNat n)=>Nat.beq n 1
  |_=>false))
 |_=>false
def qj(h:T Ob):List Nat→Nat→Bool
 |_,0=>true
 |[],_+1=>false
 |i::l,n+1=>(match h.get i with
  |some o=>w6 o
  |none=>false)&&qj h l n
def EE(g vo:Nat→Nat)(θ:Nat→Sx):List (Nat×Ob)→T Ob→T Ob
 |[],h=>h
 |(i,o)::l,h=>EE g vo θ l (h.set (g i) (o.out g vo θ i))
def Kw(i:Nat):List Nat→Bool
 |[]=>false
 |x::l=>Nat.beq x i||Kw i l
def wA:List Nat→List Nat→List Nat
 |[],r=>r
 |i::l,r=>wA l (bif Kw i r then r else i::r)
def iI(h:T Ob):List Nat→List Nat
 |[]=>[]
 |i::l=>eu h i::iI h l
def HCon.ret(R:Nat)(c:HCon)(l vs:List Nat)(θ:Nat→Sx)(σ:St):CR:=
 .ret (c.v.out (DH R (c.k R) σ.next l) (Ko R c.np (c.k R) vs) θ) {heap:=EE (DH R (c.k R) σ.next l) (Ko R c.np (c.k R) vs) θ c.outs σ.heap,next:=c.nx - c.k R+σ.next,rd:=wA l σ.rd,wr:=wA (l.drop c.nr) σ.wr}
def HCon.try(R:Nat)(dec:Bx→Option Bool)(c:HCon)(args:List AV)(σ:St):CR:=
 match D2 R args σ.heap c.locs []with
 |none=>.no
 |some l=>
  bif Nat.beq l.length (c.np+c.ns)&&(oG R (c.k R) σ.next (oF σ.heap l R)&&(Nat.ble R σ.next&&(pR c.ins (iI σ.heap l) R c.np&&(JL σ.heap (l.drop c.np)&&qj σ.heap l c.np))))then
   match Jm R (oF σ.heap l R) args c.args,EV R (c.k R) (oF σ.heap l R) .leaf (wI σ.heap l) c.ins with
   |some e1,some e2=>match mT (e1++e2)with
    |some nl=>bif xl (nameAt nl) nl&&vq dec (nameAt nl) c.pre then c.ret R l (iI σ.heap l) (nameAt nl) σ else .no
    |none=>.no
   |_,_=>.no
  else .no
def dX(R:Nat)(dec:Bx→Option Bool):List HCon→FuncId→List AV→St→CR
 |[],_,_,_=>.no
 |c::l,f,args,σ=>bif Nat.beq c.f f then(match c.try R dec args σ with
  | .no=>dX R dec l f args σ
  |r=>r)else dX R dec l f args σ
def n6(h1 h2:FuncId→List AV→St→CR)(f:FuncId)(args:List AV)(σ:St):CR:=match h1 f args σ with
 | .no=>h2 f args σ
 |r=>r
end
end Go.Tw
namespace Go.Tw
open Go.ChangeShapes Go.RowKit
section
variable{v:Val}{θ g':Nat→Sx}{φ' φ₂:PM}{R:Nat}{g vo:Nat→Nat}{vz:Nat→Bool}
structure OutOk(R:Nat)(φ' φ₂:PM)(g vo:Nat→Nat)(vz:Nat→Bool):Prop where
 at0:∀i e,φ' i 0=some e→φ₂ (g i) (vo i)=some e
 z:∀i,vz i=true→vo i=0
 pic:∀n e,φ' gid n=some e→φ₂ gid n=some e
 ggid:g gid=gid
theorem IM(hm:OutOk R φ' φ₂ g vo vz){b:Nat}{s:List Value}(h:Pict φ' gid b s):Pict φ₂ gid b s:=by obtain⟨j,n,e,h1,h2,h3⟩:=h;have:j=gid:=h1.elim id id;subst this;exact⟨gid,n,e,.inl rfl,hm.pic n e h2,h3⟩
theorem DC(hm:OutOk R φ' φ₂ g vo vz){sh:Sh}{x:Dat}{z:Value}(h:KV0 φ' gid sh x z):KV0 φ₂ gid sh x z:=by obtain⟨l,a,n,c,h1,h2,h3⟩:=h;exact⟨l,a,n,c,h1,h2,h3.mono fun _ _=>IM hm⟩
mutual
theorem Bs(hm:OutOk R φ' φ₂ g vo vz):∀{y:AV} {x:Value},y.okOut R vz=true→@VR (v.at θ) φ' y x→@VR v φ₂ (y.out g vo θ) x
 | .sym k e,x,_,h=>by cases h;have:@Sx.eval (v.at θ) e=@Sx.eval v (e.sub θ):=congrArg Dat.toI (Sx.sub_dat v θ e).symm;rw[this];exact @VR.sym v _ _ _
 | .symb b,x,_,h=>by cases h;rw[←Bx.sub_eval];exact @VR.symb v _ _
 | .vstr e,x,_,h=>by
  cases h with
  |vstr s hs=>exact @VR.vstr v _ _ s ((Sx.sub_dat v θ e).trans hs)
 | .opq k id ver sh X Y,x,ho,h=>by
  cases h with
  |opq _ hk=>refine @VR.opq v _ _ _ _ _ _ _ _ ?_;rw[Sx.sub_dat,Sx.sub_dat];simp only[AV.okOut,dw,ak]at ho;rcases ho with(⟨h1,h2⟩|⟨h1,h2⟩)|⟨h1,h2⟩;{have h1:=ad h1;have h2:=ad h2;subst h1;subst h2;show KV0 φ₂ (g gid) _ _ _;rw[hm.ggid];exact DC hm hk};{have h1:=ad h1;have h2:=ad h2;subst h1;subst h2;have hk:KV2 φ' id 0 _ _ _:=hk;rcases hk with q|⟨q1,l,e,c,n,q2,q3,q4⟩;{exact .inl q};exact .inr ⟨q1,l,e,c,n,q2,hm.at0 id e q3,q4⟩};have h1:=ad h1;subst h1;have hk:KV4 φ' id _:=hk;obtain⟨e,q1,q2⟩:=hk;exact⟨e,by rw[←hm.z id h2];exact hm.at0 id e q1,q2⟩
 | .agg l,x,ho,h=>by
  simp only[AV.okOut]at ho;cases h with
  |agg l' q=>exact @VR.agg v _ _ _ (ke hm ho q)
 | .tup l,x,ho,h=>by
  simp only[AV.okOut]at ho;cases h with
  |tup l' q=>exact @VR.tup v _ _ _ (ke hm ho q)
 | .ptr id ver off hi,x,ho,h=>by
  simp only[AV.okOut]at ho;have ho:=ad ho;subst ho;cases h with
  |ptr e o he hd hh hq=>exact @VR.ptr v _ _ _ _ _ e o (hm.at0 _ _ he) hd hh hq
 | .fn f a b,x,ho,h=>by
  simp only[AV.okOut,ak]at ho;cases h with
  |fn _ a' b' ha hb=>exact @VR.fn v _ f _ _ a' b' (ke hm ho.1 ha) (ke hm ho.2 hb)
 | .iface t u,x,ho,h=>by
  simp only[AV.okOut]at ho;cases h with
  |iface _ hu=>exact @VR.iface v _ t _ _ (Bs hm ho hu)
 | .bool b,x,_,h=>by cases h;exact @VR.bool v _ _
 | .int k n,x,_,h=>by cases h;exact @VR.int v _ _ _
 | .str s,x,_,h=>by cases h;exact @VR.str v _ _
 | .nilp,x,_,h=>by cases h;exact @VR.nilp v _
 | .nils,x,_,h=>by cases h;exact @VR.nils v _
 | .nilm,x,_,h=>by cases h;exact @VR.nilm v _
 | .nilfn,x,_,h=>by cases h;exact @VR.nilfn v _
 | .nili,x,_,h=>by cases h;exact @VR.nili v _
 | .anyp,x,_,h=>by cases h with|anyp p=>exact @VR.anyp v _ p
 | .unk,x,_,h=>by cases h with|unk _ hv=>exact @VR.unk v _ _ hv
 | .slc ..,x,ho,h=>by simp [AV.okOut]at ho
 | .map _,x,ho,h=>by simp [AV.okOut]at ho
 | .yld _,x,ho,h=>by simp [AV.okOut]at ho
 | .sslc _,x,ho,h=>by simp [AV.okOut]at ho
 | .sstr _,x,ho,h=>by simp [AV.okOut]at ho
theorem ke(hm:OutOk R φ' φ₂ g vo vz):∀{y:List AV} {x:List Value},lB R vz y=true→@VRL (v.at θ) φ' y x→@VRL v φ₂ (xe g vo θ y) x
 |[],x,_,h=>by cases h;exact @VRL.nil v _
 |y::l,x,ho,h=>by
  simp only[lB,ak]at ho;cases h with
  |cons hv ht=>exact @VRL.cons v _ _ _ _ _ (Bs hm ho.1 hv) (ke hm ho.2 ht)
end
theorem dU:∀{l:List AV},(xe g vo θ l).length=l.length
 |[]=>rfl
 |v::l=>by simp [xe,dU (l:=l)]
theorem Nx(hm:OutOk R φ' φ₂ g vo vz){v1 v2:Val}{s:Sh}{d:Dat}{z:Value}(h:@VR v1 φ' (fy gid s d) z):@VR v2 φ₂ (fy gid s d) z:=by
 cases s with
 |int k=>cases h;exact @VR.int v2 _ _ _
 |bool=>cases h;exact @VR.bool v2 _ _
 |str=>cases h;exact @VR.str v2 _ _
 |slc l=>
  cases h with
  |opq _ hk=>refine @VR.opq v2 _ _ _ _ _ _ _ _ ?_;have hk:KV0 φ' gid _ _ _:=hk;exact DC hm hk
theorem vK:∀{l:List Sh} {r:List Dat} {x:Nat} {a:AV},(bZ gid l r)[x]? =some a→∃s d,a=fy gid s d
 |[],_,x,a,h=>by simp [bZ]at h
 |_::_,[],x,a,h=>by simp [bZ]at h
 |s::l,d::r,x,a,h=>by
  cases x with
  |zero=>simp only[bZ,List.getElem?_cons_zero,aE]at h;exact⟨s,d,h.symm⟩
  |succ x=>simp only[bZ,List.getElem?_cons_succ]at h;exact vK h
theorem zv{l:List Sh}{rows:List (List Dat)}{a:AV}(h:a∈aj gid l rows):∃s d,a=fy gid s d:=by unfold aj at h;obtain⟨k,h1,h2⟩:=List.mem_flatten.1 h;obtain⟨r,_,rfl⟩:=List.mem_map.1 h1;obtain⟨x,hx,hx2⟩:=List.getElem_of_mem h2;exact vK (by rw[bh hx,hx2])
theorem Sp(hm:OutOk R φ' φ₂ g vo vz){w:World}{i:Nat}{o:Ob}(hgR:R≤g i)(ho:o.okOut R vz i=true)(hnew:∀u,vo i<u→φ₂ (g i) u=none)
 (hnone:φ' i 0=none→φ₂ (g i) (vo i)=none)(h:@Rep (v.at θ) R φ' w i (some o)):@Rep v R φ₂ w (g i) (some (o.out g vo θ i)):=by
 cases o with
 |box c t=>simp only[Ob.okOut,ak]at ho;obtain⟨_,e,cs,fl,fh,he,hb,h1,h2,h3,h4,h5,h6⟩:=h;have hz:=hm.z i ho.1;exact⟨hgR,e,cs,fl,fh,by rw[←hz];exact hm.at0 i e he,hb,h1,h2,by rw[dU];exact h3,by rw[dU];exact h4,ke hm ho.2 h5,by rw[dU];exact h6⟩
 |opq k ver cid sh x y c t=>
  cases sh with
  |slc l=>
   cases c with
   |cons a c=>simp [Ob.okOut]at ho
   |nil=>
    simp only[Ob.okOut,dw,ak]at ho;rcases ho with⟨h1,h2,h3⟩|⟨h1,h2,h3,h4⟩
    ·have h1:=ad h1;have h2:=ad h2;have h3:=ad h3;subst h1;subst h2;subst h3;show @Rep v R φ₂ w (g i) (some (.opq 2 (vo i) gid (.slc l) (x.sub θ) (y.sub θ) [] t));obtain⟨l',rows,q1,q2,q3,q4⟩:=h;simp only[Sh.slc.injEq]at q1;subst q1;refine⟨l,rows,rfl,by rw[Sx.sub_dat];exact q2,q3,?_⟩;rw[Sx.sub_dat];rcases q4 with⟨a1,a2,a3,a4,a5⟩|⟨a1,⟨e,a2,a3⟩,a4⟩;{refine .inl ⟨a1,a2,rfl,hgR,fun u hu=> ?_⟩;rcases Nat.eq_or_lt_of_le hu with hu|hu;{rw[←hu];exact hnone (a5 0 (aw 0))};exact hnew u hu};refine .inr ⟨a1,⟨e,hm.at0 i e a2,a3⟩,?_⟩;obtain⟨_,b1,b2,b3,b4,b5,b6,b7⟩:=a4;refine⟨hgR,b1,Nat.lt_succ_self _,aw _,fun u hu=>hnew u hu,fun u hu=> ?_,fun u1 u2 e1 e2 c1 c2 d1 d2 hbk=> ?_,fun u f c1 c2 c3 c4=> ?_⟩
     ·have hu:u=vo i:=by
       rcases hu with hu|hu;{exact hu};omega
      subst hu;obtain⟨e',cs,fl,fh,d1,d2,d3,d4,d5,d6,d7⟩:=b5 0 (.inl rfl);have d4:(aj gid l rows++[]).length≤e'.hi:=(by simpa[bK]using d4);refine⟨e',cs,fl,fh,hm.at0 i e' d1,d2,d3,?_,?_,d6,fun x0 a f1 f2 f3=> ?_⟩;{show bK (vo i) _ (vo i) e'≤e'.hi;simpa[bK]using d4};{show bK (vo i) _ (vo i) e'≤_;simp [bK]};have f2:x0<(aj gid l rows++[]).length:=(by simpa[bK]using f2);obtain⟨a',g1,g2⟩:=d7 x0 a f1 (by simpa[bK]using f2) f3;obtain⟨s,d,rfl⟩:=zv (by have:=fH f3;simpa using this);exact⟨a',g1,Nx hm g2⟩
     ·have e1':u1=vo i:=by
       rcases c1 with c1|c1;{exact c1};omega
      have e2':u2=vo i:=(by rcases c2 with c2|c2;{exact c2};omega);subst e1';subst e2';rw[d1]at d2;cases d2;exact⟨rfl,rfl⟩
     omega
    have h1:=ad h1;have h2:=ad h2;have h3:=jK h3;subst h1;subst h2;subst h3;show @Rep v R φ₂ w (g i) (some (.opq 4 0 cid (.slc si) (x.sub θ) (y.sub θ) [] t));obtain⟨l',rows,es,q1,q2,q3,q4,_,e,es',clock,q5,q6,q7⟩:=h;simp only[Sh.slc.injEq]at q1;subst q1;exact⟨si,rows,es,rfl,by rw[Sx.sub_dat];exact q2,q3,q4,hgR,e,es',clock,by rw[←hm.z i h4];exact hm.at0 i e q5,q6,x6 q4 (fun r hr=>(q3 r hr).1) q7⟩
  |_=>simp [Ob.okOut]at ho
 |_=>simp [Ob.okOut]at ho
end
end Go.Tw
namespace Go.Tw
open Go.ChangeShapes Go.RowKit
def HCon.Sound(F:Nat→Dat→Dat→Dat→Dat)(P:Program)(gl:Nat→Option Nat)(b:bF)(R:Nat)(c:HCon):Prop:=
 c.ok R=true∧∀v:Val,v.fn=F→@Holds v c.pre→∀(w:World) (φ:PM) (args':Array Value),Hold v gl b R 0 .leaf (ag b c.ins (c.k R)) {tmps:= #[],defers:=[]} w φ→@VRL v φ c.args args'.toList→
  Calls P c.f args' w fun e w'=>∃φ' x,e=.returned x∧@VR v φ' c.v x∧Trans R c.nr c.nb φ w φ' w'∧WF R φ' w'∧(∀i o,(i,o)∈c.outs→@Rep v R φ' w' i (some o))∧∀i,c.nx≤i→∀u,φ' i u=none
theorem Kt{i:Nat}:∀{l:List (Nat×Ob)},Ku i l=true↔∃o,(i,o)∈l:=by
 intro l
 induction l with
 |nil=>simp [Ku]
 |cons x l ih=>
  obtain⟨j,o⟩:=x;simp only[Ku,dw,ih,cP,iU];constructor
  ·rintro (h|⟨o',h⟩)
   {exact⟨o,.inl ⟨(ad h).symm,rfl⟩⟩};exact⟨o',.inr h⟩
  rintro ⟨o',⟨h,_⟩|h⟩
  {exact .inl (by rw[h];exact Nat.beq_refl j)};exact .inr ⟨o',h⟩
theorem Kv{i:Nat}:∀{l:List Nat},Kw i l=true↔i∈l:=by
 intro l
 induction l with
 |nil=>simp [Kw]
 |cons x l ih=>
  simp only[Kw,dw,ih,cP];constructor
  ·rintro (h|h)
   {exact .inl (ad h).symm};exact .inr h
  rintro (h|h)
  {exact .inl (by rw[h];exact Nat.beq_refl x)};exact .inr h
theorem ff{i:Nat}:∀{l r:List Nat},i∈wA l r↔i∈r∨i∈l:=by
 intro l
 induction l with
 |nil=>intro r;simp [wA]
 |cons x l ih=>
  intro r;simp only[wA,ih,au];split
  ·rename_i h;have h:=Kv.1 h;constructor
   ·rintro (h'|h')
    {exact .inl h'};exact .inr (List.mem_cons_of_mem _ h')
   rintro (h'|h')
   {exact .inl h'};rcases List.mem_cons.1 h' with rfl|h';{exact .inl h};exact .inr h'
  simp only[cP];constructor
  ·rintro ((e|h')|h')
   {exact .inr (.inl e)};{exact .inl h'};exact .inr (.inr h')
  rintro (h'|e|h')
  {exact .inl (.inr h')};{exact .inl (.inl e)};exact .inr h'
theorem ze:∀{l:List Nat} {i:Nat} (h:i<l.length),lD l i=l[i]
 |x::l,0,_=>by simp [lD]
 |x::l,i+1,h=>by simp only[lD,Nat.pred_succ];have:Nat.beq (i+1) 0=false:=rfl;rw[this];exact ze (by simpa using h)
theorem uQ{h:T Ob}:∀{l:List Nat} {i:Nat} (hi:i<l.length),lD (iI h l) i=eu h l[i]
 |x::l,0,_=>by simp [iI,lD]
 |x::l,i+1,hi=>by simp only[iI,lD,Nat.pred_succ];have:Nat.beq (i+1) 0=false:=rfl;rw[this];exact uQ (by simpa using hi)
theorem Hq{h:T Ob}:∀{l:List Nat} {s i:Nat} {r:RE},kR (oF h l s) i=some r→∃j,∃hj:j<l.length,i=s+j∧r.ido=l[j]∧r.ver=eu h l[j]∧r.n=0:=by
 intro l
 induction l with
 |nil=>intro s i r h;simp [oF,kR]at h
 |cons x l ih=>intro s i r hr;simp only[oF,kR,au]at hr;split at hr;{rename_i hb;cases hr;exact⟨0,by simp,by have:=ad hb;simpa using this.symm,rfl,rfl,rfl⟩};obtain⟨j,hj,h1,h2,h3,h4⟩:=ih hr;exact⟨j+1,by simpa using hj,by simp only[Nat.succ_eq_add_one]at h1;omega,by simpa using h2,by simpa using h3,h4⟩
theorem oE{h:T Ob}:∀{l:List Nat} {s j:Nat} (hj:j<l.length),∃r,kR (oF h l s) (s+j)=some r∧r.ido=l[j]∧r.ver=eu h l[j]∧r.n=0:=by
 intro l
 induction l with
 |nil=>intro s j hj;simp at hj
 |cons x l ih=>
  intro s j hj;cases j with
  |zero=>exact⟨{idn:=s,ido:=x,ver:=eu h x,n:=0,t:=0},by simp [oF,kR],rfl,rfl,rfl⟩
  |succ j=>obtain⟨r,h1,h2,h3,h4⟩:=ih (s:=Nat.succ s) (j:=j) (by simpa using hj);refine⟨r,?_,by simpa using h2,by simpa using h3,h4⟩;simp only[oF,kR,au];rw[if_neg (fun hb=>by have:=ad hb;omega),show s+(j+1)=Nat.succ s+j by omega];exact h1
theorem GA{h:T Ob}:∀(l:List Nat) (i:Nat),(wI h l).get i=if i∈l then h.get i else none:=by
 intro l
 induction l with
 |nil=>intro i;simp [wI,T.get_leaf]
 |cons x l ih=>intro i;simp only[wI];split;{rename_i o ho;rw[T.get_set];by_cases e:i=x;{subst e;simp [ho]};rw[if_neg e,ih];simp [e]};rename_i ho;rw[ih];by_cases e:i=x;{subst e;simp [ho]};simp [e]
theorem sU{g vo:Nat→Nat}{θ:Nat→Sx}:∀(l:List (Nat×Ob)) (h:T Ob) (i:Nat),(∃k o,(k,o)∈l∧i=g k∧(EE g vo θ l h).get i=some (o.out g vo θ k))∨
 ((∀k o,(k,o)∈l→i≠g k)∧(EE g vo θ l h).get i=h.get i):=by
 intro l
 induction l with
 |nil=>intro h i;exact .inr ⟨fun _ _ h=>(by cases h),rfl⟩
 |cons x l ih=>intro h i;obtain⟨k,o⟩:=x;simp only[EE];rcases ih (h.set (g k) (o.out g vo θ k)) i with⟨k',o',h1,h2,h3⟩|⟨h1,h2⟩;{exact .inl ⟨k',o',List.mem_cons_of_mem _ h1,h2,h3⟩};rw[T.get_set]at h2;split at h2;{rename_i e;exact .inl ⟨k,o,by simp,e,h2⟩};rename_i e;refine .inr ⟨fun k' o' hm=> ?_,h2⟩;rcases List.mem_cons.1 hm with e'|hm;{cases e';exact e};exact h1 k' o' hm
theorem wz{outs:List (Nat×Ob)}:∀{n i:Nat},ym outs n i=true→∀j,i≤j→j<i+n→∃o,(j,o)∈outs:=by
 intro n
 induction n with
 |zero=>intro i _ j a b;omega
 |succ n ih=>intro i h j a b;simp only[ym,ak]at h;rcases Nat.eq_or_lt_of_le a with rfl|a;{exact Kt.1 h.1};exact ih h.2 j (by simp only[Nat.succ_eq_add_one];omega) (by simp only[Nat.succ_eq_add_one];omega)
theorem ia{R:Nat}{c:HCon}:∀{l:List (Nat×Ob)},xd R c l=true→∀i o,(i,o)∈l→R+c.nr≤i∧i<c.nx∧o.okOut R (c.vz R) i=true∧((R+c.np≤i∧i<c.k R)↔(o.isLst=true∧i<c.k R)):=by
 intro l
 induction l with
 |nil=>intro _ i o h;cases h
 |cons x l ih=>obtain⟨j,o'⟩:=x;intro h i o hm;simp only[xd,ak]at h;rcases List.mem_cons.1 hm with e|hm;{simp only[iU]at e;obtain⟨rfl,rfl⟩:=e;refine⟨aA h.1,aL h.2.1,h.2.2.1,?_⟩;have h4:=eq_of_beq h.2.2.2.1;refine⟨fun hx=> ?_,fun hx=> ?_⟩;{rw[show Nat.ble (R+c.np) i=true from Nat.ble_eq_true_of_le hx.1,show Nat.blt i (c.k R)=true from Nat.ble_eq_true_of_le hx.2]at h4;have h4:=h4.symm;simp only[Bool.and_true]at h4;exact⟨h4,hx.2⟩};rw[hx.1,show Nat.blt i (c.k R)=true from Nat.ble_eq_true_of_le hx.2]at h4;simp only[Bool.and_true]at h4;exact⟨aA h4,hx.2⟩};exact ih h.2.2.2.2 i o hm
theorem Eh{ins:List (Nat×Ob)}:∀{n:Nat} {vs:List Nat} {i:Nat},pR ins vs i n=true→∀j,j<n→Dw (i+j) ins=true∨lD vs j=0:=by
 intro n
 induction n with
 |zero=>intro vs i _ j h;omega
 |succ n ih=>
  intro vs i h j hj;cases vs with
  |nil=>simp [pR]at h
  |cons x vs=>
   simp only[pR,ak,dw]at h;cases j with
   |zero=>exact h.1.imp id fun h=>by simpa[lD]using ad h
   |succ j=>have:=ih h.2 j (by omega);rw[show i+(j+1)=Nat.succ i+j by omega];refine this.imp id fun h=> ?_;simp only[lD,Nat.pred_succ];have:Nat.beq (j+1) 0=false:=rfl;rw[this];exact h
end Go.Tw
namespace Go.Tw
open Go.ChangeShapes Go.RowKit
section
variable{v:Val}{F:Nat→Dat→Dat→Dat→Dat}{P:Program}{gl:Nat→Option Nat}{b:bF}{R:Nat}{p:aD}{D:Nat→Prop}{φ:PM}{σ:St}{w:World}
theorem JM(hb:BaseOk gl b R){hk:FuncId→List AV→St→CR}(hi:@Inv v R (bL gl b p hk) D φ σ w)(v2:Val)(i:Nat)(hlt:i<R):@Rep v2 R (φ.low R) w i (b.get i):=by
 have hr:@Rep v R (φ.low R) w i (b.get i):=Kk hi i hlt;by_cases hg:i=gid;{subst hg;obtain⟨ver,cid,sh,x,y,t,hgb⟩:=hb.gid_at;rw[hgb]at hr⊢;exact hr};cases hbi:b.get i with
 |none=>trivial
 |some o=>obtain⟨c,rfl,hcl⟩:=hb.only i o hbi hg;rw[hbi]at hr;obtain⟨e,cs,t,fr,he,hbk,h1,h2,h3⟩:=hr;have h4:@VRL v2 (aV R [] (φ.low R)) c _:=l7 hcl (fun q hq=>by cases hq) h3;refine⟨e,cs,t,fr,he,hbk,h1,h2,@VRL.mono v2 _ _ (fun j u f hf=> ?_) _ _ h4⟩;unfold aV at hf;split at hf;{exact hf};split at hf;{simp [kR]at hf};cases hf
theorem HCon.try_ret{dec:Bx→Option Bool}{c:HCon}{args:List AV}(h:c.try R dec args σ≠.no):∃l e1 e2 nl,l.length=c.np+c.ns∧oG R (c.k R) σ.next (oF σ.heap l R)=true∧R≤σ.next∧
 pR c.ins (iI σ.heap l) R c.np=true∧JL σ.heap (l.drop c.np)=true∧qj σ.heap l c.np=true∧Jm R (oF σ.heap l R) args c.args=some e1∧EV R (c.k R) (oF σ.heap l R) .leaf (wI σ.heap l) c.ins=some e2∧
 mT (e1++e2)=some nl∧vq dec (nameAt nl) c.pre=true∧c.try R dec args σ=c.ret R l (iI σ.heap l) (nameAt nl) σ:=by
 unfold HCon.try at h⊢;split at h;{exact absurd rfl h};rename_i l hl;rw[au]at h⊢;split at h;{rename_i hc;rw[if_pos hc];simp only[ak]at hc;obtain⟨h1,h2,h3,h4,h5,h6⟩:=hc;split at h;{rename_i e1 e2 he1 he2;split at h;{rename_i nl hnl;rw[au]at h⊢;split at h;{rename_i hd;rw[if_pos hd];simp only[ak]at hd;exact⟨l,e1,e2,nl,ad h1,h2,aA h3,h4,h5,h6,he1,he2,hnl,hd.2,rfl⟩};exact absurd rfl h};exact absurd rfl h};exact absurd rfl h};exact absurd rfl h
theorem Nq{h:T Ob}:∀{l:List Nat},JL h l=true→∀i∈l,∃ver cid sh x y c t,h.get i=some (.opq 2 ver cid sh x y c t):=by
 intro l
 induction l with
 |nil=>intro _ i hi;cases hi
 |cons x l ih=>intro hl i hi;simp only[JL,ak]at hl;rcases List.mem_cons.1 hi with rfl|hi;{have h1:=hl.1;split at h1;{rename_i k ver cid sh x y c t ho;have:=ad h1;subst this;exact⟨ver,cid,sh,x,y,c,t,ho⟩};cases h1};exact ih hl.2 i hi
theorem EH{h:T Ob}:∀{n:Nat} {l:List Nat},qj h l n=true→∀j (hj:j<l.length),j<n→∃o,h.get l[j]=some o∧w6 o=true:=by
 intro n
 induction n with
 |zero=>intro l _ j _ h;omega
 |succ n ih=>
  intro l hl j hj hjn;cases l with
  |nil=>simp [qj]at hl
  |cons x l=>
   simp only[qj,ak]at hl;cases j with
   |zero=>have h1:=hl.1;split at h1;{rename_i o ho;exact⟨o,ho,h1⟩};cases h1
   |succ j=>exact ih hl.2 j (by simpa using hj) (by omega)
structure Nums(R np ns d:Nat)(l:List Nat)(g:Nat→Nat):Prop where
 low:∀i,i<R→g i=i
 mid:∀j (h:j<l.length),g (R+j)=l[j]
 top:∀i,R+np+ns≤i→g i=i - (R+np+ns)+d
theorem Dm{R np ns d k:Nat}{l:List Nat}(hl:l.length=np+ns)(hk:k=R+np+ns):Nums R np ns d l (DH R k d l):=by
 subst hk;have hbt:∀a b:Nat,a<b→Nat.blt a b=true:=fun a b h=>Nat.ble_eq_true_of_le h;have hbf:∀a b:Nat,b≤a→Nat.blt a b=false:=fun a b h=>by
  cases hx:Nat.blt a b with
  |true=>have:=aL hx;omega
  |false=>rfl
 refine⟨fun i hi=> ?_,fun j hj=> ?_,fun i hi=> ?_⟩;{simp [DH,hbt _ _ hi]};{simp only[DH,hbf (R+j) R (by omega),hbt (R+j) (R+np+ns) (by omega),cond_false,cond_true,Nat.add_sub_cancel_left];exact ze hj};simp [DH,hbf i R (by omega),hbf i (R+np+ns) hi]
structure Vers(R np ns:Nat)(vs:List Nat)(vo:Nat→Nat):Prop where
 low:∀i,i<R→vo i=0
 pin:∀j,j<np→vo (R+j)=lD vs j
 lst:∀j,np≤j→j<np+ns→vo (R+j)=lD vs j+1
 top:∀i,R+np+ns≤i→vo i=0
theorem Mm{R np ns k:Nat}{vs:List Nat}(hk:k=R+np+ns):Vers R np ns vs (Ko R np k vs):=by
 subst hk;have hbt:∀a b:Nat,a<b→Nat.blt a b=true:=fun a b h=>Nat.ble_eq_true_of_le h;have hbf:∀a b:Nat,b≤a→Nat.blt a b=false:=fun a b h=>by
  cases hx:Nat.blt a b with
  |true=>have:=aL hx;omega
  |false=>rfl
 refine⟨fun i hi=> ?_,fun j hj=> ?_,fun j h1 h2=> ?_,fun i hi=> ?_⟩;{simp [Ko,hbt _ _ hi]};{simp [Ko,hbf (R+j) R (by omega),hbt (R+j) (R+np) (by omega)]};{simp [Ko,hbf (R+j) R (by omega),hbf (R+j) (R+np) (by omega),hbt (R+j) (R+np+ns) (by omega)]};simp [Ko,hbf i R (by omega),hbf i (R+np) (by omega),hbf i (R+np+ns) hi]
theorem N3(hb:BaseOk gl b R)(hp:@Holds v p)(hF:v.fn=F){c:HCon}(hcs:c.Sound F P gl b R){hk:FuncId→List AV→St→CR}{args:List AV}{args':Array Value}(hi:@Inv v R (bL gl b p hk) D φ σ w)(ha:@VRL v φ args args'.toList)
 {x:AV}{σ':St}(hret:c.try R (dj p) args σ=.ret x σ')(hkn:Known D σ σ')(hfr:Free φ σ σ'):
 Calls P c.f args' w fun e w'=>∃φ' v',e=.returned v'∧@VR v φ' x v'∧@Post v R D φ σ w σ' φ' w':=by
 obtain⟨l,e1,e2,nl,hlen,hre,hRn,hvs,hls,hps,hm1,hm2,hnl,hpre,hte⟩:=HCon.try_ret (σ:=σ) (R:=R) (dec:=dj p) (c:=c) (args:=args) (by rw[hret];simp);rw[hte]at hret;unfold HCon.ret at hret;generalize hθ:nameAt nl=θ at*;have hkk:c.k R=R+c.np+c.ns:=rfl;have hN:Nums R c.np c.ns σ.next l (DH R (c.k R) σ.next l):=Dm hlen hkk;have hV:Vers R c.np c.ns (iI σ.heap l) (Ko R c.np (c.k R) (iI σ.heap l)):=Mm hkk;generalize DH R (c.k R) σ.next l=g at*;generalize Ko R c.np (c.k R) (iI σ.heap l)=vo at*;cases hret;obtain⟨hok,hsound⟩:=hcs;simp only[HCon.ok,ak]at hok;obtain⟨ok1,ok2,ok3,ok4,ok5,ok6⟩:=hok;have ok1:=aA ok1;have ok2:=aL ok2;have ok3:=aA ok3;have hgR:=hb.gid_lt;have hnbp:bQ c.nb=c.np:=by show(c.np+1048576*c.ns)%1048576=c.np;omega
 have hnbs:kY c.nb=c.np+c.ns:=by show(c.np+1048576*c.ns)%1048576+(c.np+1048576*c.ns) / 1048576=_;omega
 have heq:EqsOk v (v.at θ) (e1++e2):=sY hθ hnl;obtain⟨heq1,heq2⟩:=heq.app
 -- the numbers that are told
 have hre':=hre;simp only[oG,ak,AK]at hre';have hlR:∀j (h:j<l.length),R≤l[j]∧l[j]<σ.next:=fun j h=>by obtain⟨r,h1,h2,_,_⟩:=oE (h:=σ.heap) (s:=R) h;have:=hre'.2 r (bM h1).1;exact⟨by rw[←h2];exact aA this.1.1.1,by rw[←h2];exact aL this.2⟩
 have hlinj:∀i j (hi':i<l.length) (hj:j<l.length),l[i]=l[j]→i=j:=fun i j hi' hj he=>by obtain⟨r,h1,h2,_,_⟩:=oE (h:=σ.heap) (s:=R) hi';obtain⟨r',h1',h2',_,_⟩:=oE (h:=σ.heap) (s:=R) hj;have:=vB hre'.1 (bM h1).1 (bM h1').1 (by rw[h2,h2',he]);have a1:=(bM h1).2;have a2:=(bM h1').2;rw[this]at a1;omega
 have hlD:∀j (h:j<l.length),D l[j]:=fun j h=>hkn l[j] (.inl (ff.2 (.inr (List.getElem_mem h)))) (hlR j h).2;let φ1:PM:=aV R (oF σ.heap l R) φ;have hφ1:∀i u e,R≤i→φ1 i u=some e→u=0∧∃j,∃hj:j<l.length,i=R+j∧φ l[j] (eu σ.heap l[j])=some e:=fun i u e hRi he=>by obtain⟨h1,r,f,h2,h3,rfl⟩:=hY hRi he;obtain⟨j,hj,q1,q2,q3,q4⟩:=Hq h2;refine⟨h1,j,hj,q1,?_⟩;rw[←q3,←q2,q4];simpa[Ext.upto_zero]using h3
 have hφ1at:∀j (hj:j<l.length),φ1 (R+j) 0=φ l[j] (eu σ.heap l[j]):=fun j hj=>by
  obtain⟨r,h1,h2,h3,h4⟩:=oE (h:=σ.heap) (s:=R) hj;show aV R _ φ (R+j) 0=_;unfold aV;rw[if_neg (by omega),if_pos rfl,h1];dsimp only;rw[←h3,←h2,h4];cases φ r.ido r.ver with
  |none=>rfl
  |some e=>simp [Ext.upto_zero]
 have hlow1:φ1.low R=φ.low R:=by funext i u;unfold PM.low;split;{rename_i hlt;exact cA i hlt u};rfl
 -- the state that the contract begins in
 let σH:St:={heap:=wI σ.heap l,next:=σ.next,rd:=[],wr:=[]};have hlite:HoldL v R .leaf σH {tmps:= #[],defers:=[]} w φ:=⟨fun{i} hlt=>by show @Rep v R φ w i ((wI σ.heap l).get i);rw[GA];split;{rename_i hm;obtain⟨j,hj,rfl⟩:=List.getElem_of_mem hm;exact iO hi (hlD j hj) (hlR j hj).2};trivial,fun t y hy=>(by rw[T.get_leaf]at hy;cases hy),ep hi⟩;have hle1:(φ.low R).le φ1:=fun i u f hf=>by unfold PM.low at hf;split at hf;{rename_i hlt;show aV R _ φ i u=_;rw[cA i hlt];exact hf};cases hf
 have hwf1:WF R φ1 w:=sE (ep hi) hre;have hbase:∀(v2:Val) i,i<R→@Rep v2 R (φ1.low R) w i (b.get i):=fun v2 i hlt=>by rw[hlow1];exact JM hb hi v2 i hlt
 have hinv:@Inv (v.at θ) R (gV gl b) (fun _=>True) φ1 (ag b c.ins (c.k R)) w:=@Inv.mk (v.at θ) R (gV gl b) (fun _=>True) φ1 (ag b c.ins (c.k R)) w hwf1 (by show R≤c.k R;omega)
  (fun i _ hlt=>by show @Rep (v.at θ) R φ1 w i ((bu b c.ins).get i);rcases fM b c.ins i with h1|⟨o,h1,h2⟩;{rw[h1];by_cases hiR:i<R;{have:=hbase (v.at θ) i hiR;exact @Rep.frame (v.at θ) R _ _ w w i _ (fun j u f hf=>by rw[hlow1]at hf;exact hle1 j u f hf) (fun u=>(PM.low_lt _ hiR u).symm) (fun _ _ _=>rfl) this};rw[hb.none i (by omega)];trivial};rw[h2];obtain⟨g1,g2,e',g3,g4⟩:=jv hm2 i o h1;exact BE (σ:=σH) hlite hre g3 (fun z hz=>heq2 z (g4 z hz)) g1)
  (fun gg n hg=>by obtain⟨f,h1,h2⟩:=Kl hi gg n hg;exact⟨f,by show aV R _ φ gg 0=_;rw[cA gg (hb.gl gg n hg)];exact h1,h2⟩)
  (fun i hn=>by have hn:c.k R≤i:=hn;show(bu b c.ins).get i=none;rcases fM b c.ins i with h1|⟨o,h1,h2⟩;{rw[h1];exact hb.none i (by omega)};obtain⟨g1,g2,_⟩:=jv hm2 i o h1;omega)
  (fun _ _ h=>by simp [gV]at h)
  (fun _ _ h=>by simp [gV]at h)
  (fun _ h=>by cases h)
  (fun i hlt=>hbase (v.at θ) i hlt)
  (@kl (v.at θ))
 have hhold:Hold (v.at θ) gl b R 0 .leaf (ag b c.ins (c.k R)) {tmps:= #[],defers:=[]} w φ1:={
  size:=rfl
  val:=fun t y hy=>(by rw[T.get_leaf]at hy;cases hy)
  dfs:=rfl
  inv:=hinv
  free:=fun i hn u=>by
   have hn:c.k R≤i:=hn;cases hx:φ1 i u with
   |none=>rfl
   |some e=>obtain⟨_,j,hj,h1,_⟩:=hφ1 i u e (by omega) hx;omega
  roA:=fun v2 i hlt=>hbase v2 i hlt
  rd:=rfl
  wr:=rfl}
 have hargs:@VRL (v.at θ) φ1 c.args args'.toList:=l7 hm1 heq1 ha;refine(hsound (v.at θ) hF (qP hp hpre) w φ1 args' hhold hargs).mono fun e w' hq=> ?_;obtain⟨φ',z,rfl,hz,htr,hwf',hrep',hfree'⟩:=hq
 -- where all lies
 have hverk:∀j (hj:j<l.length),lD (iI σ.heap l) j=eu σ.heap l[j]:=fun j hj=>uQ hj;have hlist:∀j (hj:j<l.length),c.np≤j→∀u,eu σ.heap l[j]<u→φ l[j] u=none:=fun j hj hnp u hu=>by have hm:l[j]∈l.drop c.np:=(by rw[List.mem_drop_iff_getElem];exact⟨j - c.np,by omega,by simp [show c.np+(j - c.np)=j by omega]⟩);obtain⟨ver,cid,sh,X,Y,cc,t,ho⟩:=Nq hls _ hm;have hver:eu σ.heap l[j]=ver:=(by simp [eu,ho]);have hr:=iO hi (hlD j hj) (hlR j hj).2;rw[ho]at hr;obtain⟨_,_,_,_,_,q⟩:=hr;rcases q with⟨_,_,_,_,q⟩|⟨_,_,q⟩;{exact q u (by omega)};exact q.2.2.2.2.1 u (by omega)
 have hpinat:∀j (hj:j<l.length),j<c.np→∃e,φ1 (R+j) 0=some e:=fun j hj hn=>by
  obtain⟨o,ho,hpo⟩:=EH hps j hj hn;have hr:=iO hi (hlD j hj) (hlR j hj).2;rw[ho]at hr;rw[hφ1at j hj];cases o with
  |box cc t=>have hv:eu σ.heap l[j]=0:=(by simp [eu,ho]);obtain⟨_,e,_,_,_,he,_⟩:=hr;exact⟨e,by rw[hv];exact he⟩
  |map es ck=>have hv:eu σ.heap l[j]=0:=(by simp [eu,ho]);obtain⟨_,e,_,he,_⟩:=hr;exact⟨e,by rw[hv];exact he⟩
  |opq k ver cid sh X Y cc t=>simp only[w6,dw,ak]at hpo;rcases hpo with h1|⟨h1,h2⟩;{have h1:=ad h1;subst h1;have hv:eu σ.heap l[j]=0:=(by simp only[eu,ho];rfl);obtain⟨_,_,_,_,_,_,_,_,e,_,_,he,_⟩:=hr;exact⟨e,by rw[hv];exact he⟩};have h1:=ad h1;subst h1;have hv:eu σ.heap l[j]=ver:=(by simp [eu,ho]);split at h2;{rename_i n;have h2:=ad h2;subst h2;obtain⟨_,_,_,_,_,q⟩:=hr;rcases q with⟨q,_⟩|⟨_,⟨e,he,_⟩,_⟩;{have q:Dat.int 1=Dat.int 0:=q;simp at q};exact⟨e,by rw[hv];exact he⟩};cases h2
  |_=>simp [w6]at hpo
 have hwrl:∀m,R+c.nr≤m→m<R+c.np+c.ns→g m∈l.drop c.nr:=fun m h1 h2=>by have hj:m - R<l.length:=(by omega);have:=hN.mid (m - R) hj;rw[show R+(m - R)=m by omega]at this;rw[this,List.mem_drop_iff_getElem];exact⟨m - R - c.nr,by omega,by simp [show c.nr+(m - R - c.nr)=m - R by omega]⟩
 have hgR':∀m,R≤m→R≤g m:=fun m hm=>by rcases bl m (R+c.np+c.ns)with h|h;{have:=hN.mid (m - R) (by omega);rw[show R+(m - R)=m by omega]at this;rw[this];exact(hlR _ (by omega)).1};rw[hN.top m h];omega
 have hglt:∀m,R≤m→m<R+c.np+c.ns→g m<σ.next:=fun m hm h=>by have:=hN.mid (m - R) (by omega);rw[show R+(m - R)=m by omega]at this;rw[this];exact(hlR _ (by omega)).2
 have hgi:∀m m',R≤m→R≤m'→g m=g m'→m=m':=fun m m' h h' he=>by rcases bl m (R+c.np+c.ns)with h1|h1;{rcases bl m' (R+c.np+c.ns)with h2|h2;{have a1:=hN.mid (m - R) (by omega);have a2:=hN.mid (m' - R) (by omega);rw[show R+(m - R)=m by omega]at a1;rw[show R+(m' - R)=m' by omega]at a2;have:=hlinj (m - R) (m' - R) (by omega) (by omega) (by rw[←a1,←a2,he]);omega};have:=hglt m h h1;rw[he,hN.top m' h2]at this;omega};rcases bl m' (R+c.np+c.ns)with h2|h2;{have:=hglt m' h' h2;rw[←he,hN.top m h1]at this;omega};rw[hN.top m h1,hN.top m' h2]at he;omega
 have hnx:c.k R≤c.nx:=ok3;have hfresh:∀m,R+c.np≤m→m<c.nx→∀u,vo m≤u→φ (g m) u=none:=fun m h1 h2 u hu=>by rcases bl m (R+c.np+c.ns)with h|h;{have a1:=hN.mid (m - R) (by omega);have a2:=hV.lst (m - R) (by omega) (by omega);rw[show R+(m - R)=m by omega]at a1 a2;rw[a1];refine hlist (m - R) (by omega) (by omega) u ?_;rw[hverk (m - R) (by omega)]at a2;omega};rw[hN.top m h];exact hfr _ (by omega) (by show m - (R+c.np+c.ns)+σ.next<c.nx - c.k R+σ.next;omega) u
 let φ₂:PM:=fun j u=>open Classical in if hx:∃m,R+c.np≤m∧m<c.nx∧g m=j∧u=vo m then φ' (Classical.choose hx) 0 else φ j u
 have hF1:∀m,R+c.np≤m→m<c.nx→φ₂ (g m) (vo m)=φ' m 0:=fun m h1 h2=>by have hx:∃m',R+c.np≤m'∧m'<c.nx∧g m'=g m∧vo m=vo m':=⟨m,h1,h2,rfl,rfl⟩;simp only[φ₂];rw[dif_pos hx];have hs:=Classical.choose_spec hx;rw[hgi _ m (by omega) (by omega) hs.2.2.1]
 have hF2:∀j u,(¬∃m,R+c.np≤m∧m<c.nx∧g m=j∧u=vo m)→φ₂ j u=φ j u:=fun j u hx=>by simp only[φ₂];rw[dif_neg hx]
 have hcase:∀j u e,φ₂ j u=some e→(∃m,R+c.np≤m∧m<c.nx∧g m=j∧u=vo m∧φ' m 0=some e)∨φ j u=some e:=fun j u e he=>by by_cases hx:∃m,R+c.np≤m∧m<c.nx∧g m=j∧u=vo m;{obtain⟨m,h1,h2,rfl,rfl⟩:=hx;exact .inl ⟨m,h1,h2,rfl,rfl,by rw[←hF1 m h1 h2];exact he⟩};exact .inr (by rw[←hF2 j u hx];exact he)
 have hle2:φ.le φ₂:=fun j u e he=>by by_cases hx:∃m,R+c.np≤m∧m<c.nx∧g m=j∧u=vo m;{obtain⟨m,h1,h2,rfl,rfl⟩:=hx;rw[hfresh m h1 h2 _ (aw _)]at he;cases he};rw[hF2 j u hx];exact he
 have hlow':∀i,i<R→∀u,φ' i u=φ i u:=fun i hlt u=>by have:=congrFun (congrFun (htr.low.trans hlow1) i) u;rwa[PM.low_lt _ hlt,PM.low_lt _ hlt]at this
 have hnolow:∀i,i<R→∀u,φ₂ i u=φ i u:=fun i hlt u=>hF2 i u fun⟨m,h1,_,h3,_⟩=>by have:=hgR' m (by omega);omega
 have hOut:OutOk R φ' φ₂ g vo (c.vz R):={
  at0:=fun i e he=>by rcases bl i R with h|h;{rw[hN.low i h,hV.low i h,hnolow i h,←hlow' i h];exact he};rcases bl i (R+c.np)with h1|h1;{have hj:i - R<l.length:=(by omega);obtain⟨e1,he1⟩:=hpinat (i - R) hj (by omega);rw[show R+(i - R)=i by omega]at he1;have hp1:=htr.pin i e1 h (by rw[hnbp];omega) he1;rw[hp1]at he;cases he;have a1:=hN.mid (i - R) hj;have a2:=hV.pin (i - R) (by omega);have a3:=hφ1at (i - R) hj;rw[show R+(i - R)=i by omega]at a1 a2 a3;rw[hF2 _ _ (fun⟨m,b1,b2,b3,_⟩=>by have:=hgi m i (by omega) h b3;omega),a1,a2,hverk _ hj,←a3];exact he1};rcases bl i c.nx with h2|h2;{rw[hF1 i h1 h2];exact he};rw[hfree' i h2 0]at he;cases he
  z:=fun i hz=>by simp only[HCon.vz,dw,ak,Bool.not_eq_true']at hz;rcases hz with hz|⟨h1,h2⟩;{exact hV.top i (aA hz)};have h1:=aL h1;rcases bl i R with h|h;{exact hV.low i h};have a2:=hV.pin (i - R) (by omega);have a3:=Eh hvs (i - R) (by omega);rw[show R+(i - R)=i by omega]at a2 a3;rw[a2];rcases a3 with a3|a3;{rw[a3]at h2;cases h2};exact a3
  pic:=fun n e he=>by rw[hnolow gid hgR n,←hlow' gid hgR n];exact he
  ggid:=hN.low gid hgR}
 have horg:∀m,R+c.np≤m→m<c.nx→∀e,φ' m 0=some e→(∃u f,φ (g m) u=some f∧f.blk=e.blk)∨w.heap.size≤e.blk:=fun m h1 h2 e he=>by rcases htr.own m 0 e (by omega) he with⟨q,t,f,b1,b2,b3,b4⟩|h;{obtain⟨_,j,hj,rfl,b5⟩:=hφ1 q t f b1 b2;rcases b4 with b4|b4;{refine .inl ⟨eu σ.heap l[j],f,?_,b3⟩;rw[←b4,hN.mid j hj];exact b5};rw[hnbs]at b4;omega};exact .inr h
 have hrokeep:∀bb,bb<w.heap.size→(∀j (hj:j<l.length),c.nr≤j→∀u e,φ l[j] u=some e→e.blk≠bb)→w'.heap[bb]? =w.heap[bb]? :=fun bb hbb hx=>by by_cases hq:∃q u f,R≤q∧φ1 q u=some f∧f.blk=bb;{obtain⟨q,u,f,q1,q2,rfl⟩:=hq;obtain⟨rfl,j,hj,rfl,q3⟩:=hφ1 q u f q1 q2;rcases bl j c.nr with h|h;{exact htr.ro (R+j) f q1 (by omega) q2};exact absurd rfl (hx j hj h _ f q3)};exact htr.keep bb hbb fun q u f q1 q2 q3=>hq ⟨q,u,f,q1,q2,q3⟩
 have hdropj:∀i,i∈l.drop c.nr→∃j,∃hj:j<l.length,c.nr≤j∧i=l[j]:=fun i hi'=>by rw[List.mem_drop_iff_getElem]at hi';obtain⟨j,h1,h2⟩:=hi';exact⟨c.nr+j,by omega,by omega,h2.symm⟩
 refine⟨φ₂,z,rfl,Bs hOut ok4 hz,?_⟩;exact{
  le:=hle2
  grow:=fun i hw hn u=>hF2 i u fun⟨m,h1,h2,h3,_⟩=>by subst h3;rcases bl m (R+c.np+c.ns)with h|h;{rcases hw with hw|hw;{exact hw (ff.2 (.inr (hwrl m (by omega) h)))};have:=hglt m (by omega) h;have hw:c.nx - c.k R+σ.next≤g m:=hw;omega};refine hn ⟨by rw[hN.top m h];omega,?_⟩;show g m<c.nx - c.k R+σ.next;rw[hN.top m h];omega
  wrR:=fun i hi'=>by rcases ff.1 hi' with h|h;{exact .inl h};obtain⟨j,hj,_,rfl⟩:=hdropj i h;exact .inr (hlR j hj).1
  wf:={
   inj:=fun i u e j t f he hf hbk=>by rcases hcase i u e he with⟨m,a1,a2,rfl,rfl,a3⟩|he';{rcases hcase j t f hf with⟨m',b1,b2,rfl,rfl,b3⟩|hf';{rcases hwf'.inj _ _ _ _ _ _ a3 b3 hbk with q|q;{exact .inl (by rw[q])};omega};rcases horg m a1 a2 e a3 with⟨u',f',q1,q2⟩|q;{rcases(ep hi).inj _ _ _ _ _ _ q1 hf' (q2.trans hbk)with q|q;{exact .inl q};have:=hgR' m (by omega);omega};have:=(ep hi).lt _ _ _ hf';omega};rcases hcase j t f hf with⟨m',b1,b2,rfl,rfl,b3⟩|hf';{rcases horg m' b1 b2 f b3 with⟨u',f',q1,q2⟩|q;{rcases(ep hi).inj _ _ _ _ _ _ he' q1 (hbk.trans q2.symm)with q|q;{exact .inl q};have:=hgR' m' (by omega);omega};have:=(ep hi).lt _ _ _ he';omega};exact(ep hi).inj _ _ _ _ _ _ he' hf' hbk
   lt:=fun i u e he=>by rcases hcase i u e he with⟨m,a1,a2,rfl,rfl,a3⟩|he';{exact hwf'.lt _ _ _ a3};have:=(ep hi).lt _ _ _ he';have:=htr.size;omega
   top:=fun i u e he=>by rcases hcase i u e he with⟨m,a1,a2,rfl,rfl,a3⟩|he';{exact hwf'.top _ _ _ a3};exact(ep hi).top _ _ _ he'}
  blk:=fun i u e he=>by rcases hcase i u e he with⟨m,a1,a2,rfl,rfl,a3⟩|he';{exact horg m a1 a2 e a3};exact .inl ⟨u,e,he',rfl⟩
  rep:=fun i hii=>by
   show @Rep v R φ₂ w' i ((EE g vo θ c.outs σ.heap).get i);rcases sU (g:=g) (vo:=vo) (θ:=θ) c.outs σ.heap i with⟨m,o,q1,q2,q3⟩|⟨q1,q2⟩
   ·rw[q3,q2];obtain⟨o1,o2,o3,o4⟩:=ia ok5 m o q1;have hr:=hrep' m o q1;have hnone:φ' m 0=none→φ₂ (g m) (vo m)=none:=fun hno=>by
     rcases bl m (R+c.np)with h|h;{obtain⟨e1,he1⟩:=hpinat (m - R) (by omega) (by omega);rw[show R+(m - R)=m by omega]at he1;rw[htr.pin m e1 (by omega) (by rw[hnbp];omega) he1]at hno;cases hno};rw[hF1 m h o2];exact hno
    by_cases hlst:o.isLst=true
    ·have hm:R+c.np≤m:=by
      rcases bl m (c.k R)with h|h;{exact(o4.2 ⟨hlst,h⟩).1};omega
     refine Sp hOut (hgR' m (by omega)) o3 (fun u hu=> ?_) hnone hr;rw[hF2 _ _ (fun⟨m',b1,b2,b3,b4⟩=>by have:=hgi m' m (by omega) (by omega) b3;subst this;omega)];exact hfresh m hm o2 u (by omega)
    cases o with
    |box cc t=>simp only[Ob.okOut,ak]at o3;obtain⟨_,e,cs,fl,fh,he,hbk,h1,h2,h3,h4,h5,h6⟩:=hr;have hz0:=hOut.z m o3.1;exact⟨hgR' m (by omega),e,cs,fl,fh,by rw[←hz0];exact hOut.at0 m e he,hbk,h1,h2,by rw[dU];exact h3,by rw[dU];exact h4,ke hOut o3.2 h5,by rw[dU];exact h6⟩
    |opq k ver cid sh X Y cc t=>
     have hk2:Nat.beq k 2=false:=by
      cases hb2:Nat.beq k 2 with
      |true=>exact absurd hb2 (by simpa[Ob.isLst]using hlst)
      |false=>rfl
     cases sh with
     |slc sl=>
      cases cc with
      |cons a cc=>simp [Ob.okOut]at o3
      |nil=>simp only[Ob.okOut,hk2,Bool.false_and,Bool.false_or,ak]at o3;obtain⟨h1,h2,h3,h4⟩:=o3;have h1:=ad h1;have h2:=ad h2;have h3:=jK h3;subst h1;subst h2;subst h3;show @Rep v R φ₂ w' (g m) (some (.opq 4 0 cid (.slc si) (X.sub θ) (Y.sub θ) [] t));obtain⟨l',rows,es,q1,q2,q3,q4,_,e,es',clock,q5,q6,q7⟩:=hr;simp only[Sh.slc.injEq]at q1;subst q1;exact⟨si,rows,es,rfl,by rw[Sx.sub_dat];exact q2,q3,q4,hgR' m (by omega),e,es',clock,by rw[←hOut.z m h4];exact hOut.at0 m e q5,q6,x6 q4 (fun r hr=>(q3 r hr).1) q7⟩
     |_=>simp [Ob.okOut]at o3
    |_=>simp [Ob.okOut]at o3
   rw[q2];rcases hii with⟨hd,hn⟩|⟨hn1,_⟩
   ·have hsame:∀u,φ₂ i u=φ i u:=fun u=>hF2 i u fun⟨m,b1,b2,b3,b4⟩=>by
     rcases bl m (R+c.np+c.ns)with h|h;{obtain⟨o,ho⟩:=wz ok6 m (by omega) (by omega);exact q1 m o ho b3.symm};rw[hN.top m h]at b3;omega
    refine Rep.frame hle2 hsame (fun u e he=> ?_) (iO hi hd hn);refine hrokeep e.blk ((ep hi).lt _ _ _ he) fun j hj hnr t f hf hbk=> ?_;rcases(ep hi).inj _ _ _ _ _ _ hf he hbk with q|q;{obtain⟨o,ho⟩:=wz ok6 (R+j) (by omega) (by omega);exact q1 (R+j) o ho (by rw[hN.mid j hj,q])};have:=(hlR j hj).1;omega
   rw[hi.dom i hn1];trivial
  frm:=⟨htr.size,fun bb hbb hx=>hrokeep bb hbb fun j hj hnr u e he=>hx l[j] (ff.2 (.inr (by rw[List.mem_drop_iff_getElem];exact⟨j - c.nr,by omega,by simp [show c.nr+(j - c.nr)=j by omega]⟩))) u e he,htr.os,htr.out,htr.tape⟩}
end
end Go.Tw
namespace Go.Tw
open Go.ChangeShapes Go.RowKit
theorem HCon.try_step{R:Nat}{dec:Bx→Option Bool}{c:HCon}(hok:c.ok R=true)(args:List AV)(σ:St):(c.try R dec args σ).steps σ:=by
 intro σ' hs;by_cases hn:c.try R dec args σ=.no;{rw[hn]at hs;cases hs};obtain⟨l,e1,e2,nl,hlen,hre,hRn,hvs,hls,hps,hm1,hm2,hnl,hpre,hte⟩:=HCon.try_ret hn;rw[hte]at hs;unfold HCon.ret at hs;simp only[CR.st,aE]at hs;subst hs;simp only[HCon.ok,ak]at hok;obtain⟨ok1,ok2,ok3,ok4,ok5,ok6⟩:=hok;have ok1:=aA ok1;have ok3:=aA ok3;have hkk:c.k R=R+c.np+c.ns:=rfl;have hN:Nums R c.np c.ns σ.next l (DH R (c.k R) σ.next l):=Dm hlen hkk;simp only[oG,ak,AK]at hre;have hlR:∀j (h:j<l.length),R≤l[j]∧l[j]<σ.next:=fun j h=>by obtain⟨r,h1,h2,_,_⟩:=oE (h:=σ.heap) (s:=R) h;have:=hre.2 r (bM h1).1;exact⟨by rw[←h2];exact aA this.1.1.1,by rw[←h2];exact aL this.2⟩
 have hm:∀m o,(m,o)∈c.outs→(m<c.k R∧DH R (c.k R) σ.next l m∈l.drop c.nr∧DH R (c.k R) σ.next l m<σ.next)∨(c.k R≤m∧m<c.nx∧DH R (c.k R) σ.next l m=m - c.k R+σ.next):=fun m o hmo=>by obtain⟨o1,o2,_,_⟩:=ia ok5 m o hmo;rcases bl m (c.k R)with h|h;{have hj:m - R<l.length:=(by omega);have:=hN.mid (m - R) hj;rw[show R+(m - R)=m by omega]at this;refine .inl ⟨h,?_,?_⟩;{rw[this,List.mem_drop_iff_getElem];exact⟨m - R - c.nr,by omega,by simp [show c.nr+(m - R - c.nr)=m - R by omega]⟩};rw[this];exact(hlR _ hj).2};exact .inr ⟨h,o2,hN.top m h⟩
 exact{
  next:=by show σ.next≤c.nx - c.k R+σ.next;omega
  rd:=fun i h=>ff.2 (.inl h)
  wr:=fun i h=>ff.2 (.inl h)
  keep:=fun i hi hw=>by rcases sU (g:=DH R (c.k R) σ.next l) (vo:=Ko R c.np (c.k R) (iI σ.heap l)) (θ:=nameAt nl) c.outs σ.heap i with⟨m,o,h1,h2,h3⟩|⟨_,h⟩;{exfalso;rcases hm m o h1 with⟨_,q,_⟩|⟨_,_,q⟩;{exact hw (ff.2 (.inr (h2▸q)))};omega};exact h
  dom:=fun hd i hi=>by have hi:c.nx - c.k R+σ.next≤i:=hi;rcases sU (g:=DH R (c.k R) σ.next l) (vo:=Ko R c.np (c.k R) (iI σ.heap l)) (θ:=nameAt nl) c.outs σ.heap i with⟨m,o,h1,h2,h3⟩|⟨_,h⟩;{exfalso;rcases hm m o h1 with⟨_,_,q⟩|⟨_,_,q⟩<;>omega};exact h.trans (hd i (by omega))
  wlt:=fun _ i h=>by rcases ff.1 h with h|h;{exact .inl h};rw[List.mem_drop_iff_getElem]at h;obtain⟨j,h1,rfl⟩:=h;have:=(hlR (c.nr+j) (by omega)).2;exact .inr (by show _<c.nx - c.k R+σ.next;omega)}
theorem og{R:Nat}{dec:Bx→Option Bool}{f:FuncId}{args:List AV}{σ:St}:∀{l:List HCon},dX R dec l f args σ=.no∨∃c∈l,c.f=f∧dX R dec l f args σ=c.try R dec args σ:=by
 intro l
 induction l with
 |nil=>exact .inl rfl
 |cons c l ih=>
  simp only[dX,au];split
  ·rename_i hb;cases hr:c.try R dec args σ with
   |no=>rcases ih with h|⟨c',h1,h2,h3⟩;{exact .inl h};exact .inr ⟨c',List.mem_cons_of_mem _ h1,h2,h3⟩
   |ret x τ=>exact .inr ⟨c,by simp,ad hb,hr.symm⟩
   |pan x τ=>exact .inr ⟨c,by simp,ad hb,hr.symm⟩
  rcases ih with h|⟨c',h1,h2,h3⟩;{exact .inl h};exact .inr ⟨c',List.mem_cons_of_mem _ h1,h2,h3⟩
section
variable{v:Val}{F:Nat→Dat→Dat→Dat→Dat}{P:Program}{gl:Nat→Option Nat}{b:bF}{R:Nat}{p:aD}
theorem fC{l:List HCon}(hok:∀c∈l,c.ok R=true){dec:Bx→Option Bool}:bH (bL gl b p (dX R dec l)):=by intro f args σ;show(dX R dec l f args σ).steps σ;rcases og (R:=R) (dec:=dec) (f:=f) (args:=args) (σ:=σ) (l:=l)with h|⟨c,h1,h2,h3⟩;{rw[h];intro σ' hs;cases hs};rw[h3];exact HCon.try_step (hok c h1) args σ
theorem HCon.try_nopan{dec:Bx→Option Bool}{c:HCon}{args:List AV}{σ:St}{x:List (AV×Bool)}{τ:St}(h:c.try R dec args σ=.pan x τ):False:=by obtain⟨l,e1,e2,nl,_,_,_,_,_,_,_,_,_,_,hte⟩:=HCon.try_ret (σ:=σ) (R:=R) (dec:=dec) (c:=c) (args:=args) (by rw[h];simp);rw[hte]at h;unfold HCon.ret at h;cases h
theorem jM(hb:BaseOk gl b R)(hp:@Holds v p)(hF:v.fn=F){l:List HCon}(hcs:∀c∈l,c.Sound F P gl b R):@kC v P R (bL gl b p (dX R (dj p) l)):=by intro f args σ D φ w args' hi ha;refine⟨fun x σ' hret hkn hfr=> ?_,fun ch σ' hret=> ?_⟩;{have hret:dX R (dj p) l f args σ=.ret x σ':=hret;rcases og (R:=R) (dec:=dj p) (f:=f) (args:=args) (σ:=σ) (l:=l)with h|⟨c,h1,h2,h3⟩;{rw[h]at hret;cases hret};rw[←h2];exact N3 hb hp hF (hcs c h1) hi ha (h3.symm.trans hret) hkn hfr};have hret:dX R (dj p) l f args σ=.pan ch σ':=hret;rcases og (R:=R) (dec:=dj p) (f:=f) (args:=args) (σ:=σ) (l:=l)with h|⟨c,h1,h2,h3⟩;{rw[h]at hret;cases hret};exact(HCon.try_nopan (h3.symm.trans hret)).elim
theorem Inv.ofHk{h1 h2:FuncId→List AV→St→CR}{D:Nat→Prop}{φ:PM}{σ:St}{w:World}(hi:@Inv v R (bL gl b p h1) D φ σ w):@Inv v R (bL gl b p h2) D φ σ w:=
 @Inv.mk v R (bL gl b p h2) D φ σ w hi.wf hi.low hi.rep hi.gl hi.dom hi.pin hi.dec hi.wrR hi.ro hi.oh
theorem lz{h1 h2:FuncId→List AV→St→CR}(k1:bH (bL gl b p h1))(k2:bH (bL gl b p h2)):bH (bL gl b p (n6 h1 h2)):=by intro f args σ;show(n6 h1 h2 f args σ).steps σ;unfold n6;split;{exact k2 f args σ};exact k1 f args σ
theorem zb{h1 h2:FuncId→List AV→St→CR}(k1:@kC v P R (bL gl b p h1))(k2:@kC v P R (bL gl b p h2)):@kC v P R (bL gl b p (n6 h1 h2)):=by intro f args σ D φ w args' hi ha;have q1:=k1 f args σ D φ w args' hi.ofHk ha;have q2:=k2 f args σ D φ w args' hi.ofHk ha;refine⟨fun x σ' hret hkn hfr=> ?_,fun ch σ' hret hkn hfr=> ?_⟩;{have hret:n6 h1 h2 f args σ=.ret x σ':=hret;unfold n6 at hret;split at hret;{exact q2.1 x σ' hret hkn hfr};exact q1.1 x σ' hret hkn hfr};have hret:n6 h1 h2 f args σ=.pan ch σ':=hret;unfold n6 at hret;split at hret;{exact q2.2 ch σ' hret hkn hfr};exact q1.2 ch σ' hret hkn hfr
theorem qg{l:List (Nat×Ob)}:cT (l.map (·.1))=true→∀i o,(i,o)∈l→(bu b l).get i=some o:=by
 induction l with
 |nil=>intro _ i o h;cases h
 |cons x l ih=>obtain⟨j,o'⟩:=x;intro hn i o hm;simp only[List.map_cons,cT,ak,Bool.not_eq_true']at hn;simp only[bu];rw[T.get_set];rcases List.mem_cons.1 hm with e|hm;{cases e;rw[if_pos rfl]};have hne:i≠j:=fun e=>(by have h1:=hn.1;rw[List.any_eq_false]at h1;refine h1 i (List.mem_map.2 ⟨(i,o),hm,rfl⟩) ?_;rw[e];exact Nat.beq_refl j);rw[if_neg hne,ih hn.2 i o hm]
theorem fS{c:HCon}{fn:Func}{code:Code}(hf:P.funcs[c.f]? =some fn)(hbody:fn.body=some code)(hlen:Nat.ble c.args.length fn.ntmps=true)
 (hok:c.ok R=true)(hnd:cT (c.outs.map (·.1))=true)
 (h:∀v:Val,v.fn=F→@Holds v c.pre→∃e tm' l σ'',(e=.ret∨e=.normal)∧
   HTo v P gl b R c.nr c.nb fn.ntmps code (eD c.args 0 .leaf) (ag b c.ins (c.k R)) e (ax tm') (ag b c.outs c.nx)∧
   bJ P fn {tm:=ax tm',ds:=[],md:=none,rd:=false} (ag b c.outs c.nx) fn.results.toList=some (l,σ'')∧given l=c.v):c.Sound F P gl b R:=by
 refine⟨hok,?_⟩;simp only[HCon.ok,ak]at hok;obtain⟨_,_,_,_,ok5,_⟩:=hok;intro v hF hp w φ args' hh ha;obtain⟨e,tm',l,σ'',he,hto,hres,hgl⟩:=h v hF hp;refine cU hf hbody fun cs=> ?_;have hen:=@en v φ c.args args' ha fn.ntmps (aA hlen) none false;refine(hto _ cs w φ ⟨hen.ev.size,hen.ev.val,rfl,hh.inv,hh.free,hh.roA,hh.rd,hh.wr⟩).mono fun e1 a1 cs1 w1 q=> ?_;obtain⟨q1,q2,φ1,q3,q4⟩:=q;refine⟨q1,?_⟩;have hev:@EnvR v φ1 fn.ntmps {tm:=ax tm',ds:=[],md:=none,rd:=false} a1:=⟨q3.size,q3.val⟩;obtain⟨x,r1,r2,_⟩:=@eL v P R (gV gl b) (fun _=>True) φ1 _ w1 fn fn.ntmps _ a1 σ'' l hev q3.inv hres (fun i _ _=>trivial);rw[hgl]at r2;have hgo:LeavesInM Fence.wide 0 P fn a1.tmps (fun e w'=>∃φ' x,e=.returned x∧@VR v φ' c.v x∧Trans R c.nr c.nb φ w φ' w'∧WF R φ' w'∧(∀i o,(i,o)∈c.outs→@Rep v R φ' w' i (some o))∧∀i,c.nx≤i→∀u,φ' i u=none) a1.defers .returning w1:=by rw[q3.dfs];exact⟨x,r1,φ1,x,rfl,r2,q4,q3.wf,fun i o hio=>mi q3 (qg hnd i o hio) (ia ok5 i o hio).2.1,fun i hi u=>q3.free i hi u⟩
 rcases he with rfl|rfl;{cases e1<;>simp only[ExitP]at q2;exact hgo};cases e1<;>simp only[ExitP]at q2;exact hgo
end
end Go.Tw
namespace Go.Tw
open Go.ChangeShapes Go.RowKit
theorem BC[Val]{P:Program}{f:Nat}{m:Memo}(hsound:m.Sound P 0 Cfg.none)(hmf:m.f=f)(hma:m.args=[])(hmv:m.v=.bool true)(W:World):
 Calls P f #[] W fun e W'=>e=.returned (.bool true)∧Below W.heap.size W W':=by
 have hi:Inv 0 Cfg.none (fun _=>False) (fun _ _=>none) (St.empty 0) W:=
  {wf:=⟨fun _ _ _ _ _ _ h=>(by cases h),fun _ _ _ h=>(by cases h),fun _ _ _ h=>(by cases h)⟩,low:=aw _,rep:=fun _ h=>h.elim,
   gl:=fun g n h=>by simp [Cfg.none]at h,dom:=fun i _=>by simp [St.empty,T.get_leaf],pin:=fun e n h=>by simp [Cfg.none]at h,dec:=fun b v h=>by simp [Cfg.none]at h,
   wrR:=fun i h=>(by cases h),ro:=fun i h=>absurd h (Nat.not_lt_zero _),oh:=OhOk.none}
 have hret:m.ret 0 (St.empty 0)=.ret (m.v.mv 0 0) {St.empty 0 with heap:=kd 0 0 m.objs (St.empty 0).heap,next:=m.n+0}:=rfl;have hc:=hsound.2 (St.empty 0) (fun _=>False) (fun _ _=>none) W #[] hi (by rw[hma];exact .nil) _ _ hret (fun _ _ _ _=>rfl);rw[hmf]at hc;refine hc.mono fun e W' he=> ?_;obtain⟨φ',v',rfl,hvr,hpost⟩:=he;have hv':v'=.bool true:=by rw[hmv]at hvr;cases hvr;rfl
 subst hv';exact⟨rfl,hpost.below⟩
theorem Ck{F:Nat→Dat→Dat→Dat→Dat}{P:Program}{gl:Nat→Option Nat}{b:bF}{R f:Nat}(h:∀W,Calls P f #[] W fun e W'=>e=.returned (.bool true)∧Below W.heap.size W W'):
 ({f:=f,args:=[],pre:=[],res:=.bool true,objs:=[]}:Con).Sound F P gl b R:=by
 intro v _ _ W φ args' hh ha;have hargs:args'= #[]:=by
  obtain⟨l⟩:=args';cases l with
  |nil=>rfl
  |cons x l=>cases ha
 subst hargs;refine(h W).mono fun e W' he=> ?_;obtain⟨rfl,b1,b2,b3,b4,b5⟩:=he;have hwf:=hh.inv.wf;refine⟨φ,_,rfl,@VR.bool v _ _,⟨b4,fun k hk _=>b5 k hk,fun i u e hi he=>.inl ⟨i,u,e,hi,he,rfl,.inl rfl⟩,rfl,fun _ _ _ _ h=>h,fun i e h1 h2 he=>b5 _ (hwf.lt _ _ _ he),b1,b3,b2⟩,⟨hwf.inj,fun i u e he=>Nat.lt_of_lt_of_le (hwf.lt i u e he) b4,hwf.top⟩,fun k o h=> ?_,fun k l q h=> ?_,fun L h=> ?_⟩;{simp at h};{simp at h};cases h
end Go.Tw
