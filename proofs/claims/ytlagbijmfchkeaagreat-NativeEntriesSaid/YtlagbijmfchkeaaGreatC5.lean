/-
  A part of the proof that the abstract evaluator is sound for the model's machine. Conditions: those of each theorem, as it states them.
-/
import Derived.Test.YtlagbijmfchkeaaGreatC4
import Derived.Test.YtlagbijmfchkeaaGreatA7
import Derived.Test.YtlagbijmfchkeaaGreatT9
import Derived.Test.YtlagbijmfchkeaaGreatB2
set_option linter.all false
set_option linter.unusedVariables false
namespace Go.Tw
noncomputable section
structure LX where
 d:Nat
 nt:Nat
 ps:List Tmp
 asg:Code
 bd:Code
 lx:List (Nat×AV)
def LX.ob(L:LX)(x:Nat×Option Code):List (Nat×Ob):=[(L.d+1,.loop x.1 x.2 (ax L.lx) L.nt L.ps L.asg L.bd),(L.d,.dfr)]
def Tl.withX(A:Tl)(L:LX)(x:Nat×Option Code):Tl:=⟨A.l,L.ob x++A.o,A.nx⟩
def IP:Option Code→Option Code→Bool
 |none,none=>true
 |some .ret,some .ret=>true
 |some (.exit i),some (.exit j)=>Nat.beq i j
 |_,_=>false
theorem IN{a b:Option Code}(h:IP a b=true):a=b:=by unfold IP at h;split at h;{rfl};{rfl};{rw[ad h]};cases h
def Dp:List Nat→List Nat→Bool
 |[],[]=>true
 |x::l,y::m=>Nat.beq x y&&Dp l m
 |_,_=>false
theorem zf:∀{a b:List Nat},Dp a b=true→a=b
 |[],[],_=>rfl
 |x::l,y::m,h=>by simp only[Dp,ak]at h;rw[ad h.1,zf h.2]
 |[],_::_,h=>by cases h
 |_::_,[],h=>by cases h
def VP(ρ:List RE)(i:Nat):Bool:=match kR ρ i with
 |some r=>Nat.beq r.ido i&&(Nat.beq r.ver 0&&Nat.beq r.n 0)
 |none=>false
theorem Cv{ρ:List RE}{i:Nat}(h:VP ρ i=true):∃t,kR ρ i=some ⟨i,i,0,0,t⟩:=by unfold VP at h;split at h;{rename_i r hr;simp only[ak]at h;have h0:=(bM hr).2;have h1:=ad h.1;have h2:=ad h.2.1;have h3:=ad h.2.2;obtain⟨a,b,c,d,e⟩:=r;dsimp only at h0 h1 h2 h3;subst h0;subst h1;subst h2;subst h3;exact⟨_,hr⟩};cases h
def aaZ(R nx:Nat)(ρ:List RE)(L:LX)(x:Nat×Option Code)(h:T Ob):Bool:=
 Nat.ble R L.d&&(Nat.blt (L.d+1) nx&&(VP ρ L.d&&(VP ρ (L.d+1)&&((match h.get L.d with
 |some .dfr=>true
 |_=>false)&&(match h.get (L.d+1)with
 |some (.loop st pend tm nt ps _ _)=>Nat.beq st x.1&&(IP pend x.2&&(Nat.beq nt L.nt&&(Dp ps L.ps&&(match Wy R ρ tm L.lx with
  |some []=>true
  |_=>false))))
 |_=>false)))))
def pI(i:Nat)(x:XR):Option (Code×Code):=match x with
 | .ok _ _ σ=>(match σ.heap.get i with
  |some (.loop _ _ _ _ _ a c)=>some (a,c)
  |_=>none)
 | .no=>none
def leafXX(R nr nb:Nat)(pins:List RE)(L:LX)(q:Nat×Option Code)(x:XR)(e:AExit)(tm':List (Nat×AV))(objs':List (Nat×Ob))(nx':Nat):Option bq:=match x with
 | .ok _ env σ=>bif aaZ R nx' (YH R env.tm σ.heap tm' objs' pins) L q σ.heap then eQ R nr nb pins x e tm' objs' nx' else none
 | .no=>none
section
variable{P:Program}{gl:Nat→Option Nat}{b:bF}{R nr nb nt:Nat}
theorem HT.leafXX{v v2:Val}(hb:BaseOk gl b R)(hrb:nr≤bQ nb){p:aD}(hp:@Holds v p){hk:FuncId→List AV→St→CR}(hs:bH (bL gl b p hk))(hh:@kC v P R (bL gl b p hk))
 (hm:P.follows .mixedOrders=true){n:Nat}{c:Code}{tm:T AV}{σ:St}{pins:List RE}{L:LX}{q:Nat×Option Code}{e:AExit}{tm':List (Nat×AV)}{objs':List (Nat×Ob)}{nx':Nat}{E:bq}
 (h:Go.Tw.leafXX R nr nb pins L q (exec P (bL gl b p hk) n nt c {tm:=tm,ds:=[],md:=none,rd:=false} σ) e tm' objs' nx'=some E)
 (hcd:pI (L.d+1) (exec P (bL gl b p hk) n nt c {tm:=tm,ds:=[],md:=none,rd:=false} σ)=some (L.asg,L.bd))(hE:EqsOk v v2 E):
 HT P gl b R nr nb nt v c tm σ e v2 (ax tm') (ag b (L.ob q++objs') nx'):=by
 unfold Go.Tw.leafXX at h;split at h
 ·rename_i e' env σ' hx;rw[hx]at hcd;rw[au]at h;split at h
  ·rename_i hc;simp only[aaZ,ak]at hc;obtain⟨c1,c2,c3,c4,c5,c6⟩:=hc;unfold eQ at h;rw[hx]at h;dsimp only at h;rw[au]at h;split at h
   ·rename_i hg;simp only[rW,ak]at hg;obtain⟨⟨⟨h1,h0⟩,h2⟩,h3⟩:=hg;obtain⟨rfl,hn⟩:=mr h1;have hd:env.ds=[]:=by
     split at h2;{assumption};cases h2
    have hmd:env.md=none:=(by split at h3;{assumption};cases h3);refine(na hp hs hh hm hx hn hd hmd (fun i hi=>aA (List.all_eq_true.1 h0 i hi))).ht hrb (sA hb h hE fun i o hio=> ?_);have c1:=aA c1;have c2:=aL c2;simp only[LX.ob,cP,dQ,or_false,iU]at hio;rcases hio with⟨rfl,rfl⟩|⟨rfl,rfl⟩;{refine⟨⟨by omega,c2⟩,Cv c4,?_⟩;split at c6;{rename_i st pend tm0 nt0 ps0 as0 bd0 hz;have hz:σ'.heap.get (L.d+1)=some (.loop st pend tm0 nt0 ps0 as0 bd0):=hz;simp only[ak]at c6;obtain⟨d1,d2,d3,d4,d5⟩:=c6;have hcd:pI (L.d+1) (.ok _ env σ')=some (L.asg,L.bd):=hcd;simp only[pI,hz,aE,iU]at hcd;obtain⟨rfl,rfl⟩:=hcd;have d1:=ad d1;have d2:=IN d2;have d3:=ad d3;have d4:=zf d4;subst d3;subst d4;show Carry _ _ _ _ (σ'.heap.get (L.d+1)) _;rw[hz];split at d5;{rename_i ht;exact⟨d1,d2,rfl,rfl,rfl,rfl,_,_,rfl,ht,fun _ h=>by cases h⟩};cases d5};cases c6};refine⟨⟨c1,by omega⟩,Cv c3,?_⟩;split at c5;{rename_i hz;have hz:σ'.heap.get L.d=some .dfr:=hz;show Carry _ _ _ _ (σ'.heap.get L.d) _;rw[hz];trivial};cases c5
   cases h
  cases h
 cases h
def ST.atAll{α:Type}(f:aD→α):ST→aD→List α
 | .leaf _,p=>[f p]
 | .ask b t e,p=>ST.atAll f t ((b,true)::p)++ST.atAll f e ((b,false)::p)
 | .none,_=>[]
abbrev Ex(P:Program)(gl:Nat→Option Nat)(b:bF)(R nt:Nat)(cons:List Con)(af:List HCon)(n:Nat)(c:Code)(l:List (Nat×AV))(o:List (Nat×Ob))(nx:Nat)(p:aD):XR:=
 exec P (bL gl b p (n6 (dZ R (dj p) cons) (dX R (dj p) af))) n nt c {tm:=ax l,ds:=[],md:=Option.none,rd:=false} (ag b o nx)
theorem yI{B:Tl}{T:Nat→Tl}{L:LX}{xs:Nat→Nat×Option Code}{w:Nat}:dH (B.withX L (xs 0)) (fun w=>(T w).withX L (xs w)) w=(dH B T w).withX L (xs w):=by cases w<;>rfl
theorem ST.chkXX_ok{F:Fn}(hb:BaseOk gl b R)(hrb:nr≤bQ nb){s:List Dat}{cons:List Con}(hc:∀c∈cons,c.Sound F P gl b R){af:List HCon}(hhc:∀c∈af,c.Sound F P gl b R)
 (hm:P.follows .mixedOrders=true){n:Nat}{c:Code}{l:List (Nat×AV)}{o:List (Nat×Ob)}{nx:Nat}{pins:List RE}{L:LX}{xs:Nat→Nat×Option Code}{B:Tl}{T:Nat→Tl}{m:Nat}{cores:List aD}(hco:∀q∈cores,¬@Holds (VL F s) q):
 ∀{sp:ST} {p:aD},sp.chkX (fun w p=>Go.Tw.leafXX R nr nb pins L (xs w) (Ex P gl b R nt cons af n c l o nx p) (du w) (dH B T w).l (dH B T w).o (dH B T w).nx) m cores p=true→
  (∀x∈sp.atAll (fun p=>pI (L.d+1) (Ex P gl b R nt cons af n c l o nx p)) p,x=some (L.asg,L.bd))→
  @Holds (VL F s) p→HT P gl b R nr nb nt (VL F s) c (ax l) (ag b o nx) (du (sp.tr F m s).1) (VL F (sp.tr F m s).2) (ax (dH B T (sp.tr F m s).1).l) (ag b (L.ob (xs (sp.tr F m s).1)++(dH B T (sp.tr F m s).1).o) (dH B T (sp.tr F m s).1).nx)
 | .leaf ls,p,h,hcd,hp=>by
  simp only[ST.chkX]at h;split at h
  ·rename_i w ys;rw[ak]at h;obtain⟨h1,h2⟩:=h;have hw:((ST.leaf (.lit (.ofNat w)::ys)).tr F m s).1=w:=rfl;split at h2
   ·rename_i E hE;have hlen:=ad h1;have e2:((ST.leaf (.lit (.ofNat w)::ys)).tr F m s).2=ys.map (@Sx.dat (VL F s)):=by
     apply List.ext_getElem?;intro i;unfold ST.tr ST.nxt;rw[List.getElem?_map,List.getElem?_map];by_cases hi:i<m;{rw[List.getElem?_range hi];have hx:i<ys.length:=(by omega);simp only[Option.map_some,ST.val,List.getElem?_cons_succ,bh hx]};have hx:ys.length≤i:=(by omega);rw[cb (by simpa using hi),cb hx];rfl
    rw[hw,e2];exact HT.leafXX hb hrb hp (lz (cO cons) (fC fun c h=>(hhc c h).1)) (zb (fF hb hp rfl hc) (jM hb hp rfl hhc)) hm hE (hcd _ (List.mem_singleton.2 rfl)) (qv h2)
   cases h2
  cases h
 | .ask q t f,p,h,hcd,hp=>by
  simp only[ST.chkX,ak]at h;simp only[ST.atAll,WI]at hcd;cases hq:@Bx.eval (VL F s) q with
  |true=>have e1:∀i,(ST.ask q t f).val (VL F s) i=t.val (VL F s) i:=fun i=>(by simp only[ST.val,hq,cond_true]);have e2:(ST.ask q t f).tr F m s=t.tr F m s:=(by unfold ST.tr ST.flg ST.nxt;simp only[e1]);rw[e2];exact ST.chkXX_ok hb hrb hc hhc hm hco h.1 (fun x hx=>hcd x (.inl hx)) (@Holds.cons (VL F s) _ _ _ hq hp)
  |false=>have e1:∀i,(ST.ask q t f).val (VL F s) i=f.val (VL F s) i:=fun i=>(by simp only[ST.val,hq,cond_false]);have e2:(ST.ask q t f).tr F m s=f.tr F m s:=(by unfold ST.tr ST.flg ST.nxt;simp only[e1]);rw[e2];exact ST.chkXX_ok hb hrb hc hhc hm hco h.2 (fun x hx=>hcd x (.inr hx)) (@Holds.cons (VL F s) _ _ _ hq hp)
 | .none,p,h,_,hp=>by obtain⟨c,h1,h2⟩:=fT h hp;exact absurd h2 (hco c h1)
variable{F:Fn}{J:List Dat→Prop}{c:Code}
theorem PX.treeX(hb:BaseOk gl b R)(hrb:nr≤bQ nb)(hm:P.follows .mixedOrders=true){cons:List Con}(hc:∀c∈cons,c.Sound F P gl b R){af:List HCon}(hhc:∀c∈af,c.Sound F P gl b R)
 {pins:List RE}{L:LX}{xs:Nat→Nat×Option Code}{q:Nat×Option Code}{A B:Tl}{T:Nat→Tl}{sp:ST}{m:Nat}{cores:List aD}{inv:aD}(hco:∀s,J s→∀q∈cores,¬@Holds (VL F s) q)(hinv:∀s,J s→@Holds (VL F s) inv)
 (h:sp.chkX (fun w p=>Go.Tw.leafXX R nr nb pins L (xs w) (Ex P gl b R nt cons af 1000 c A.l (L.ob q++A.o) A.nx p) (du w) (dH B T w).l (dH B T w).o (dH B T w).nx) m cores inv=true){k:Nat}
 (hcd:sp.atAll (fun p=>pI (L.d+1) (Ex P gl b R nt cons af 1000 c A.l (L.ob q++A.o) A.nx p)) inv=List.replicate k (some (L.asg,L.bd))):
 PX P gl b R nr nb nt F J c (A.withX L q) (B.withX L (xs 0)) (fun w=>(T w).withX L (xs w)) (sp.tr F m):=fun s hs=>by
 have:=ST.chkXX_ok hb hrb hc hhc hm (hco s hs) h (fun x hx=>by rw[hcd]at hx;exact List.eq_of_mem_replicate hx) (hinv s hs);rw[yI];exact this
def yo(gl:Nat→Option Nat)(b:bF)(R nr nb:Nat)(v:Val)(tm:T AV)(ds:List ADef)(σ:St)(v':Val)(tm':T AV)(σ':St):Prop:=
 ∀(nt:Nat) (a:Act) (w:World) (φ:PM),HoldD v gl b R nt tm ds σ a w φ→∃φ',HoldD v' gl b R nt tm' ds σ' a w φ'∧Trans R nr nb φ w φ' w
theorem Retell.d{v v':Val}{tm tm':T AV}{σ σ':St}{d nb2:Nat}(h:Retell gl b R nr nb2 v tm σ v' tm' σ')(hd:R≤d)(hd2:d<R+bQ nb2)(hnb:bQ nb≤bQ nb2∧kY nb≤kY nb2):yo gl b R nr nb v tm [.mark d] σ v' tm' σ':=by
 intro nt a w φ ha;obtain⟨φ',h1,h2⟩:=h nt {a with defers:=[]} w φ ⟨ha.size,ha.val,rfl,ha.inv,ha.free,ha.roA,ha.rd,ha.wr⟩;refine⟨φ',⟨h1.size,h1.val,?_,h1.inv,h1.free,h1.roA,h1.rd,h1.wr⟩,h2.fewer hnb⟩;have hds:=ha.dfs;generalize a.defers=dl at hds⊢;cases hds with
 |cons hdd hdt=>cases hdt;obtain⟨e0,ar0,he0,rfl⟩:=hdd;exact @DfsR.cons v' _ _ _ _ _ ⟨e0,ar0,h2.pin _ _ hd hd2 he0,rfl⟩ (@DfsR.nil v' _)
theorem HTD.retell(hrb:nr≤bQ nb){v v1 v2:Val}{c:Code}{tm tm1 tm2:T AV}{ds ds1:List ADef}{σ σ1 σ2:St}{e:AExit}(h:HTD P gl b R nr nb nt v c tm ds σ e v1 tm1 ds1 σ1)(k:yo gl b R nr nb v1 tm1 ds1 σ1 v2 tm2 σ2):
 HTD P gl b R nr nb nt v c tm ds σ e v2 tm2 ds1 σ2:=fun a cs w φ ha=>
 (h a cs w φ ha).mono fun _ _ _ _ ⟨q1,q2,φ1,q3,q4⟩=>by obtain⟨φ2,r1,r2⟩:=k _ _ _ _ q3;exact⟨q1,q2,φ2,r1,q4.trans hrb r2⟩
theorem sB{v v':Val}(hb:BaseOk gl b R){tm:T AV}{σ:St}{ρ:List RE}{tm':List (Nat×AV)}{objs':List (Nat×Ob)}{nx' d nb2:Nat}{E:bq}(h:cM R nb2 ρ tm σ tm' objs' nx'=some E)(hE:EqsOk v v' E)
 (hd:Nat.ble R d=true)(hd2:Nat.blt d (R+bQ nb2)=true)(hd3:Nat.blt d nx'=true)(hρ:VP ρ d=true)(hg:σ.heap.get d=some .dfr)(hnb:bQ nb≤bQ nb2∧kY nb≤kY nb2):
 yo gl b R nr nb v tm [.mark d] σ v' (ax tm') (ag b ((d,.dfr)::objs') nx'):=
 Retell.d (nb2:=nb2) (sA hb h hE (X:=[(d,.dfr)]) fun i o hio=>by simp only[cP,dQ,or_false,iU]at hio;obtain⟨rfl,rfl⟩:=hio;refine⟨⟨aA hd,aL hd3⟩,Cv hρ,?_⟩;rw[hg];trivial) (aA hd) (aL hd2) hnb
def Gw(R nr nb:Nat)(ρ:List RE)(d:Nat)(x:XR)(e:AExit)(tm':List (Nat×AV))(objs':List (Nat×Ob))(nx':Nat)(E:bq):Bool:=match x with
 | .ok e' env σ=>zR e e'&&(σ.wr.all (fun i=>Nat.ble (R+nr) i)&&((match env.ds with
  |[.mark k]=>Nat.beq k d
  |_=>false)&&((match env.md with
  |none=>true
  |_=>false)&&(VP ρ d&&(Nat.ble R d&&(Nat.blt d (R+bQ nb)&&(Nat.blt d nx'&&((match σ.heap.get d with
  |some .dfr=>true
  |_=>false)&&(match cM R nb ρ env.tm σ.bare tm' objs' nx' with
  |some E'=>Ce E' E
  |none=>false)))))))))
 | .no=>false
theorem HTD.tail{v v2:Val}(hb:BaseOk gl b R)(hrb:nr≤bQ nb){p:aD}(hp:@Holds v p){hk:FuncId→List AV→St→CR}(hs:bH (bL gl b p hk))(hh:@kC v P R (bL gl b p hk))(hm:P.follows .mixedOrders=true)
 {n d nb2:Nat}{c:Code}{tm:T AV}{σ:St}{e:AExit}{ρ:List RE}{tm':List (Nat×AV)}{objs':List (Nat×Ob)}{nx':Nat}{E:bq}(hnb:bQ nb≤bQ nb2∧kY nb≤kY nb2)
 (h:Gw R nr nb2 ρ d (exec P (bL gl b p hk) n nt c {tm:=tm,ds:=[.mark d],md:=none,rd:=false} σ) e tm' objs' nx' E=true)(hE:EqsOk v v2 E):
 HTD P gl b R nr nb nt v c tm [.mark d] σ e v2 (ax tm') [.mark d] (ag b ((d,.dfr)::objs') nx'):=by
 unfold Gw at h;split at h
 ·rename_i e' env σ' hx;simp only[ak]at h;obtain⟨h1,h2,h3,h4,h5,h6,h7,h8,h9,h10⟩:=h;obtain⟨rfl,hn⟩:=mr h1;have hds:env.ds=[.mark d]:=by
   split at h3;{rename_i k hk';have:=ad h3;subst this;exact hk'};cases h3
  have hmd:env.md=none:=(by split at h4;{assumption};cases h4);have hg:σ'.heap.get d=some .dfr:=(by split at h9;{assumption};cases h9);have hr:=B8 (v:=v) hp hs hh hm hx hn hmd (fun i hi=>aA (List.all_eq_true.1 h2 i hi)) (nb:=nb);rw[hds]at hr;split at h10;{rename_i E' hE';have:=DS h10;subst this;exact HTD.retell hrb hr (sB hb hE' hE h6 h7 h8 h5 hg hnb)};cases h10
 cases h
theorem HTD.end{v v1 v2:Val}(hb:BaseOk gl b R)(hrb:nr≤bQ nb){d nb2:Nat}{c:Code}{tm tm1:T AV}{ds:List ADef}{σ σ1:St}{e:AExit}{ρ:List RE}{tm':List (Nat×AV)}{objs':List (Nat×Ob)}{nx':Nat}{E:bq}(hnb:bQ nb≤bQ nb2∧kY nb≤kY nb2)
 (h:HTD P gl b R nr nb nt v c tm ds σ e v1 tm1 [.mark d] σ1)(hm:cM R nb2 ρ tm1 σ1 tm' objs' nx'=some E)(hE:EqsOk v1 v2 E)(hd:(Nat.ble R d&&(Nat.blt d (R+bQ nb2)&&(Nat.blt d nx'&&VP ρ d)))=true)(hg:σ1.heap.get d=some .dfr):
 HTD P gl b R nr nb nt v c tm ds σ e v2 (ax tm') [.mark d] (ag b ((d,.dfr)::objs') nx'):=by
 simp only[ak]at hd;exact HTD.retell hrb h (sB hb hm hE hd.1 hd.2.1 hd.2.2.1 hd.2.2.2 hg hnb)
theorem zK{F:Fn}{c:HCon}{fn:Func}{code:Code}{d:Nat}(hf:P.funcs[c.f]? =some fn)(hbody:fn.body=some code)(hlen:Nat.ble c.args.length fn.ntmps=true)
 (hok:c.ok R=true)(hnd:cT (c.outs.map (·.1))=true)(hd:Nat.blt d c.nx=true)(hdn:c.outs.all (fun q=> !Nat.beq q.1 d)=true)(hdR:Nat.ble (c.k R) d=true)
 (h:∀v:Val,v.fn=F→@Holds v c.pre→(∃e tm' l σ'',(e=.ret∨e=.normal)∧
   HTo v P gl b R c.nr c.nb fn.ntmps code (eD c.args 0 .leaf) (ag b c.ins (c.k R)) e (ax tm') (ag b c.outs c.nx)∧
   bJ P fn {tm:=ax tm',ds:=[],md:=none,rd:=false} (ag b c.outs c.nx) fn.results.toList=some (l,σ'')∧given l=c.v)∨∃e tm' l σ'',(e=.ret∨e=.normal)∧
   HTD P gl b R c.nr c.nb fn.ntmps v code (eD c.args 0 .leaf) [] (ag b c.ins (c.k R)) e v (ax tm') [.mark d] (ag b ((d,.dfr)::c.outs) c.nx)∧
   bJ P fn {tm:=ax tm',ds:=[],md:=none,rd:=false} ((ag b ((d,.dfr)::c.outs) c.nx).put d .dead) fn.results.toList=some (l,σ'')∧given l=c.v):c.Sound F P gl b R:=by
 refine⟨hok,?_⟩;simp only[HCon.ok,ak]at hok;obtain⟨ok1,_,ok3,_,ok5,_⟩:=hok;intro v hF hp w φ args' hh ha;rcases h v hF hp with⟨e,tm',l,σ'',he,hto,hres,hgl⟩|⟨e,tm',l,σ'',he,hto,hres,hgl⟩
 ·refine cU hf hbody fun cs=> ?_;have hen:=@en v φ c.args args' ha fn.ntmps (aA hlen) none false;refine(hto _ cs w φ ⟨hen.ev.size,hen.ev.val,rfl,hh.inv,hh.free,hh.roA,hh.rd,hh.wr⟩).mono fun e1 a1 cs1 w1 q=> ?_;obtain⟨q1,q2,φ1,q3,q4⟩:=q;refine⟨q1,?_⟩;have hev:@EnvR v φ1 fn.ntmps {tm:=ax tm',ds:=[],md:=none,rd:=false} a1:=⟨q3.size,q3.val⟩;obtain⟨x,r1,r2,_⟩:=@eL v P R (gV gl b) (fun _=>True) φ1 _ w1 fn fn.ntmps _ a1 σ'' l hev q3.inv hres (fun i _ _=>trivial);rw[hgl]at r2;have hgo:LeavesInM Fence.wide 0 P fn a1.tmps (fun e w'=>∃φ' x,e=.returned x∧@VR v φ' c.v x∧Trans R c.nr c.nb φ w φ' w'∧WF R φ' w'∧(∀i o,(i,o)∈c.outs→@Rep v R φ' w' i (some o))∧∀i,c.nx≤i→∀u,φ' i u=none) a1.defers .returning w1:=by
   rw[q3.dfs];exact⟨x,r1,φ1,x,rfl,r2,q4,q3.wf,fun i o hio=>mi q3 (qg hnd i o hio) (ia ok5 i o hio).2.1,fun i hi u=>q3.free i hi u⟩
  rcases he with rfl|rfl;{cases e1<;>simp only[ExitP]at q2;exact hgo};cases e1<;>simp only[ExitP]at q2;exact hgo
 refine cU hf hbody fun cs=> ?_;have hen:=@en v φ c.args args' ha fn.ntmps (aA hlen) none false;refine(hto _ cs w φ ⟨hen.ev.size,hen.ev.val,.nil,hh.inv,hh.free,hh.roA,hh.rd,hh.wr⟩).mono fun e1 a1 cs1 w1 q=> ?_;obtain⟨q1,q2,φ1,q3,q4⟩:=q;refine⟨q1,?_⟩;have hdg:(ag b ((d,.dfr)::c.outs) c.nx).heap.get d=some .dfr:=by show((bu b c.outs).set d .dfr).get d=_;rw[T.get_set_same]
 have hds:=q3.dfs;generalize hdl:a1.defers=dl at hds;cases hds with
 |cons hdd hdt=>
 cases hdt;obtain⟨e0,ar0,he0,rfl⟩:=hdd;have hlt:d<(ag b ((d,.dfr)::c.outs) c.nx).next:=aL hd;have hrd:=q3.inv.rep d trivial hlt;rw[hdg]at hrd;obtain⟨hRd,ed,hed,hbd⟩:=hrd;rw[he0]at hed;cases hed;obtain⟨w3,hw3⟩:∃w3,w3=wset w1 e0.blk (.deferred none):=⟨_,rfl⟩;have htake:(Instr.takeDeferred e0.blk).run P w1=.ok [] w3:=by rw[hw3];simp [Instr.takeDeferred,cQ hbd (by simp),dS hbd (by simp)]
 have p4:@Post v R (fun _=>True) φ1 (ag b ((d,.dfr)::c.outs) c.nx) w1 ((ag b ((d,.dfr)::c.outs) c.nx).put d .dead) φ1 w3:=by rw[hw3];exact .change q3.inv hRd hlt he0 trivial
 have hi4:=p4.inv q3.inv (.put _ _ hdg);have hnr:R+c.nr≤d:=by have h1:=aA hdR;have h2:=aA ok1;unfold HCon.k at h1;omega
 have q4':Trans R c.nr c.nb φ w φ1 w3:=q4.trans (by
  have h2:=aA ok1;have h3:c.np<1048576:=(by have:=(show Nat.blt c.np 1048576=true by assumption);exact aL this);show c.nr≤bQ c.nb;unfold HCon.nb bQ;omega) (Trans.of_post q3.inv.wf p4 q3.inv.low q3.inv.wrR (fun i h=>by
  have h:i∈uL d []:=h;simp [uL]at h;omega))
 have hev:@EnvR v φ1 fn.ntmps {tm:=ax tm',ds:=[],md:=none,rd:=false} a1:=⟨q3.size,q3.val⟩;obtain⟨x,r1,r2,_⟩:=@eL v P R (gV gl b) _ φ1 _ w3 fn fn.ntmps _ a1 σ'' l hev hi4 hres (fun i _ hn=>by exact .inl trivial);rw[hgl]at r2;have hgo:LeavesInM Fence.wide 0 P fn a1.tmps (fun e w'=>∃φ' x,e=.returned x∧@VR v φ' c.v x∧Trans R c.nr c.nb φ w φ' w'∧WF R φ' w'∧(∀i o,(i,o)∈c.outs→@Rep v R φ' w' i (some o))∧∀i,c.nx≤i→∀u,φ' i u=none) a1.defers .returning w1:=by rw[hdl];refine⟨by simp,.inl ⟨e0.blk,w3,rfl,htake,x,r1,φ1,x,rfl,r2,q4',p4.wf,fun i o hio=> ?_,fun i hi u=>q3.free i hi u⟩⟩;have hne:i≠d:=fun hx=>(by have:=List.all_eq_true.1 hdn (i,o) hio;simp only[Bool.not_eq_true']at this;rw[hx]at this;rw[Nat.beq_refl]at this;cases this);have h4:=hi4.rep i (.inl trivial) (show i<c.nx from(ia ok5 i o hio).2.1);have hg:((ag b ((d,.dfr)::c.outs) c.nx).put d .dead).heap.get i=some o:=(by show(((bu b c.outs).set d .dfr).set d .dead).get i=_;rw[T.get_set_ne _ _ hne,T.get_set_ne _ _ hne];exact qg hnd i o hio);rw[hg]at h4;exact h4
 rcases he with rfl|rfl;{cases e1<;>simp only[ExitP]at q2;exact hgo};cases e1<;>simp only[ExitP]at q2;exact hgo
end
end
end Go.Tw
namespace Go.Proofs.YtlagbijmfchkeaaGreat
open Go.Tw Go.Tw.NE
noncomputable section
def conT15:Con:=Em.conT 15
def ad9:bq:=[(N (D 8),N (D 8)),(N (D 7),N (D 7)),(N (D 6),N (D 6)),(N (D 0),N (D 0)),(N (D 1),N (D 1)),(N (D 2),N (D 2)),(N (D 3),N (D 3)),(N (D 4),N (D 4)),(D 5,D 5)]
def ad8:bq:=[(Em.r10,Em.r10),(N Em.r8,N Em.r8),(Em.r9,Em.r9),(Em.r10,Em.r10)]
theorem U2:cM R0 0 [] (ax (Em.AT (SI 0) (SI 4))) (ag b0 [] R0) (Em.AT (SI 0) (SI 4)) [] R0=some ad9:=by kernel_rfl
theorem U3:cM R0 0 [⟨1024,1024,0,0,0⟩] (ax Em.RT) (ag b0 Em.OT 1025) Em.RT Em.OT 1025=some ad8:=by kernel_rfl
theorem FC:conT15.Sound F0 P ba b0 R0:=by
 refine bX (fn:=Tryz.f15) (code:=Em.c6) Tryz.func15 (by rfl) (by kernel_rfl) (by kernel_rfl) fun v hF _=> ?_;refine⟨.ret,Em.RT,_,_,.inl rfl,?_,by rfl,rfl⟩;let v':Val:=Val.mk v.num v.dat Em.F0;have h:HR 0 0 39 v' Em.c6 (ax (Em.AT (SI 0) (SI 4))) (ag b0 [] R0) .ret v' (ax Em.RT) (ag b0 Em.OT 1025):=Em.tree6 (v:=v') rfl;have hp:@Sx.dat v' Em.pkT=@Sx.dat v Em.pkT:=rfl;have hz:∀n,n<12→@Sx.dat v' (.ap n Em.pkT (.lit 0) (.lit 0))=@Sx.dat v (.ap n Em.pkT (.lit 0) (.lit 0)):=fun n hn=>by show Em.F0 n _ _ _=v.fn n _ _ _;rw[hF,Lz hn,hp];rfl
 refine HT.pre (aP _) (aI (v:=v) (v':=v') base0 U2 ?_) (HT.retell (aP _) h (aI (v':=v) base0 U3 ?_));{exact aa rfl (aa rfl (aa rfl (aa rfl (aa rfl (aa rfl (aa rfl (aa rfl (aa rfl al))))))))};exact aa (hz 10 (by omega)) (aa (congrArg (fun d:Dat=>Dat.int d.toI) (hz 8 (by omega))) (aa (hz 9 (by omega)) (aa (hz 10 (by omega)) al)))
theorem AP(a b c:Dat):Em.Lns 0 24 (F0 9 a b c).toL∧((F0 8 a b c).toI=0→Em.Lns 4 24 (F0 9 a b c).toL):=by rw[Lz (n:=9) (by omega),Lz (n:=8) (by omega)];exact Em.tmpl_lns a
theorem AQ(a b c:Dat):(F0 9 a b c).toL.length≤24:=Nat.le_trans (Nat.le_add_right _ _) (AP a b c).1.2.2
theorem pf:∀c∈[conFlow],c.Sound F0 P ba b0 R0:=dE Cn
theorem mb:∀c∈([]:List HCon),c.Sound F0 P ba b0 R0:=n8
def yc:Code:=match Tryz.f9.body with
 |some c=>c
 |none=>.skip
def ZJ:bq:=[((N (D 0)),(N (D 0))),((N (D 1)),(N (D 1))),((N (D 2)),(N (D 2))),((D 3),(D 3))]
def adn:bq:=[((I 0),(.ap 84 (.pr 12 (D 0) (.pr 12 (D 1) (.pr 12 (D 2) (.pr 12 (D 3) (.pr 14 (I 0) (I 0)))))) (I 0) (I 0))),((N (D 0)),(N (.ap 85 (.pr 12 (D 0) (.pr 12 (D 1) (.pr 12 (D 2) (.pr 12 (D 3) (.pr 14 (I 0) (I 0)))))) (I 0) (I 0)))),(O,(.ap 83 (.pr 12 (D 0) (.pr 12 (D 1) (.pr 12 (D 2) (.pr 12 (D 3) (.pr 14 (I 0) (I 0)))))) (I 0) (I 0))),((I 0),(.ap 84 (.pr 12 (D 0) (.pr 12 (D 1) (.pr 12 (D 2) (.pr 12 (D 3) (.pr 14 (I 0) (I 0)))))) (I 0) (I 0)))]
abbrev yT:AV:=.opq 0 1023 0 C1 (.dvar 3) (.lit 0)
abbrev HF:List AV:=[gw,sS,qM,yT]
def liA:Tl:=⟨[(0,.agg HF)],[],1024⟩
abbrev lj:Ob:=.box [.nils] 38
abbrev lv:AV:=.ptr 1025 0 0 1
def liT1:Tl:=⟨[(2,.ptr 1024 0 0 1),(3,lv)],[(1024,lj),(1025,.box [gw] 31)],1026⟩
def ZH:Nat→Tl:=fun w=>match w with
 |1=>liT1
 |_=>liA
abbrev kG:Ob:=.box HF 24
abbrev uZ:Ob:=.box [.int .i64 0] 31
abbrev n3:AV:=.ptr 1026 0 0 1
def Tx:Tl:=⟨[(1,cD),(2,lv),(3,n3)],[(1024,kG),(1025,lj),(1026,uZ)],1027⟩
theorem TE{J:List Dat→Prop}:PX P ba b0 R0 0 0 48 F0 J (cl yc) liA Tx ZH (li0.tr F0 4):=
 PX.tree (pins:=[]) base0 (by decide) follows (cons:=[conFlow]) pf (af:=[]) mb (cores:=[]) (fun _ _ _ h=>by cases h) (inv:=[]) (fun _ _=>aC) (by kernel_rfl)
def Tv:Tl:=⟨[(1,cD),(2,lv),(3,n3)],[(1024,kG),(1025,lj),(1026,uZ)],1027⟩
theorem TB{J:List Dat→Prop}(hinv:∀s,J s→@Holds (VL F0 s) ZK):PX P ba b0 R0 0 0 48 F0 J (cl (cr yc)) Tx Tv ZH (li1.tr F0 4):=
 PX.tree (pins:=[]) base0 (by decide) follows (cons:=[conFlow]) pf (af:=[]) mb (cores:=[]) (fun _ _ _ h=>by cases h) (inv:=ZK) hinv (by kernel_rfl)
abbrev wS:AV:=.ptr 1027 0 0 1
def ND:Tl:=⟨[(1,cD),(2,lv),(3,n3),(5,wS)],[(1024,kG),(1025,lj),(1026,uZ),(1027,lj)],1028⟩
theorem TA{J:List Dat→Prop}:PX P ba b0 R0 0 0 48 F0 J (cl (cr (cr yc))) Tv ND ZH (li2.tr F0 4):=
 PX.tree (pins:=[]) base0 (by decide) follows (cons:=[conFlow]) pf (af:=[]) mb (cores:=[]) (fun _ _ _ h=>by cases h) (inv:=[]) (fun _ _=>aC) (by kernel_rfl)
def NC:Tl:=⟨[(1,cD),(2,lv),(3,n3),(5,wS),(6,.ptr 1028 0 0 1)],[(1024,kG),(1025,lj),(1026,uZ),(1027,lj),(1028,.box [.int .i64 0] 3)],1029⟩
theorem Tz{J:List Dat→Prop}:PX P ba b0 R0 0 0 48 F0 J (cl (cr (cr (cr yc)))) ND NC ZH (li3.tr F0 4):=
 PX.tree (pins:=[]) base0 (by decide) follows (cons:=[conFlow]) pf (af:=[]) mb (cores:=[]) (fun _ _ _ h=>by cases h) (inv:=[]) (fun _ _=>aC) (by kernel_rfl)
abbrev Pw:List (Nat×Ob):=[(1024,kG),(1025,lj),(1026,uZ),(1027,lj),(1028,.box [.int .i64 0] 3),(1029,.box [yT] 22)]
abbrev sN:AV:=.ptr 1029 0 0 1
def liB4:Tl:=⟨[(1,cD),(2,lv),(3,n3),(5,wS),(6,.ptr 1028 0 0 1),(19,.fn (.func 26) [] [sN])],Pw,1030⟩
theorem Ty{J:List Dat→Prop}:PX P ba b0 R0 0 0 48 F0 J (cl (cl (cr (cr (cr (cr yc)))))) NC liB4 ZH (li4.tr F0 4):=
 PX.tree (pins:=[]) base0 (by decide) follows (cons:=[conFlow]) pf (af:=[]) mb (cores:=[]) (fun _ _ _ h=>by cases h) (inv:=[]) (fun _ _=>aC) (by kernel_rfl)
theorem JS:cM R0 0 [] (ax liA.l) (ag b0 liA.o liA.nx) liA.l liA.o liA.nx=some ZJ:=by kernel_rfl
def liZ:Tl:=⟨[(2,lv),(3,n3)],[(1025,.box [.opq 2 1032 0 sF (.lit 0) (.ap 84 (.pr 12 (.dvar 0) (.pr 12 (.dvar 1) (.pr 12 (.dvar 2) (.pr 12 (.dvar 3) (.pr 14 (.lit 0) (.lit 0)))))) (.lit 0) (.lit 0))] 38),(1026,.box [.sym .i64 (.ap 85 (.pr 12 (.dvar 0) (.pr 12 (.dvar 1) (.pr 12 (.dvar 2) (.pr 12 (.dvar 3) (.pr 14 (.lit 0) (.lit 0)))))) (.lit 0) (.lit 0))] 31),(1032,.opq 2 0 1023 sF (.ap 83 (.pr 12 (.dvar 0) (.pr 12 (.dvar 1) (.pr 12 (.dvar 2) (.pr 12 (.dvar 3) (.pr 14 (.lit 0) (.lit 0)))))) (.lit 0) (.lit 0)) (.ap 84 (.pr 12 (.dvar 0) (.pr 12 (.dvar 1) (.pr 12 (.dvar 2) (.pr 12 (.dvar 3) (.pr 14 (.lit 0) (.lit 0)))))) (.lit 0) (.lit 0)) [] 51)],1033⟩
theorem Ts:cM R0 0 [⟨1025,1024,0,0,0⟩,⟨1026,1025,0,0,0⟩] (ax liT1.l) (ag b0 liT1.o liT1.nx) liZ.l liZ.o liZ.nx=some adn:=by kernel_rfl
theorem DE:∀c∈[conT15,conLen],c.Sound F0 P ba b0 R0:=wG FC wc
theorem zG:∀c∈([]:List HCon),c.Sound F0 P ba b0 R0:=n8
def OP:Code:=match Tryz.f26.body with
 |some c=>c
 |none=>.skip
def ZI:Code:=cl (cr (cl (cr (cr (cr (cr yc))))))
def xE:Code:=match ZI with
 | .rangeFunc _ _ a _=>a
 |_=>.skip
def xD:Code:=match ZI with
 | .rangeFunc _ _ _ c=>c
 |_=>.skip
def liL:LX:={d:=1030,nt:=48,ps:=[20,21],asg:=xE,bd:=xD,lx:=liB4.l}
def irA:Tl:=⟨[(0,.yld 1031),(1,sN)],Pw,1032⟩
def Ki:List RE:=[⟨1024,1024,0,0,0⟩,⟨1025,1025,0,0,0⟩,⟨1026,1026,0,0,0⟩,⟨1027,1027,0,0,0⟩,⟨1028,1028,0,0,0⟩,⟨1029,1029,0,0,0⟩,⟨1030,1030,0,0,0⟩,⟨1031,1031,0,0,0⟩]
def vS:Nat→Nat×Option Code:=fun w=>match w with
 |1=>(2,some .ret)
 |_=>(0,none)
abbrev A8:AV:=.sym .i64 (.dvar 7)
def irT1:Tl:=⟨[],[(1024,kG),(1025,lj),(1026,.box [qf] 31),(1027,.box [.opq 2 1032 0 sF (.lit 0) (.dvar 6)] 38),(1028,.box [A8] 3),(1029,.box [yT] 22),(1032,.opq 2 0 1023 sF (.dvar 5) (.dvar 6) [] 51)],1033⟩
abbrev PD:List (Nat×Ob):=[(1024,kG),(1025,lj),(1026,uZ),(1027,.box [.opq 2 1032 0 sF (.lit 0) (.dvar 5)] 38),(1028,.box [wU] 3),(1029,.box [yT] 22),(1032,.opq 2 0 1023 sF (.dvar 4) (.dvar 5) [] 51)]
def irT2:Tl:=⟨[],PD,1033⟩
def ZX:Nat→Tl:=fun w=>match w with
 |1=>irT1
 |2=>irT2
 |_=>irA
def irB0:Tl:=⟨[(0,.yld 1031),(5,yT),(6,.sym .i64 (.pr 7 (.dvar 3) (.lit 0))),(7,A8)],PD,1033⟩
theorem T4{J:List Dat→Prop}:PX P ba b0 R0 0 8 18 F0 J (cl OP) (irA.withX liL (vS 0)) (irB0.withX liL (vS 0)) (fun w=>(ZX w).withX liL (vS w)) (ir0.tr F0 8):=
 PX.treeX (pins:=Ki) (L:=liL) (xs:=vS) (q:=vS 0) (A:=irA) (B:=irB0) (T:=ZX) (k:=1) base0 (by decide) follows (cons:=[conT15,conLen]) DE (af:=[]) zG (cores:=[]) (fun _ _ _ h=>by cases h) (inv:=[]) (fun _ _=>aC) (by kernel_rfl) (by kernel_rfl)
theorem T3{J:List Dat→Prop}(hco:∀s,J s→∀q∈xR,¬@Holds (VL F0 s) q)(hinv:∀s,J s→@Holds (VL F0 s) NV):PX P ba b0 R0 0 8 18 F0 J (cl (cl (cr OP))) (irB0.withX liL (vS 0)) (irB0.withX liL (vS 0)) (fun w=>(ZX w).withX liL (vS w)) (ir2.tr F0 8):=
 PX.treeX (pins:=Ki) (L:=liL) (xs:=vS) (q:=vS 0) (A:=irB0) (B:=irB0) (T:=ZX) (k:=3) base0 (by decide) follows (cons:=[conT15,conLen]) DE (af:=[]) zG (cores:=xR) hco (inv:=NV) hinv (by kernel_rfl) (by kernel_rfl)
theorem ZW:OP=(.seq (cl OP) (.block 0 (.loop (cl (cl (cr OP)))))):=by kernel_rfl
def jI(s:List Dat):Prop:=(ah s 3).toL.length≤200
def F9(s:List Dat):Prop:=jI s∧(ah s 4).toL.length=0∧ah s 7=.int 0
def Gb(s0:List Dat)(k:Nat)(s:List Dat):Prop:=(ah s 4).toL.length≤25*k
theorem Qj:ir2.rngX 3 7 8 [] [3] 0 2=true:=by kernel_rfl
theorem Qk:ir2.deadsOk xR NV=true:=by kernel_rfl
theorem xT(s:List Dat)(h:AtR F9 Gb 3 7 [] [3] 0 200 s):∀q∈xR,¬@Holds (VL F0 s) q:=fun q hq hh=>by
 obtain⟨s0,k,a,r,i⟩:=h;have h1:=r.2.1;have h2:=r.2.2.1;unfold Gb at i;simp only[xR,cP,dQ,or_false]at hq;rcases hq with rfl|rfl|rfl;·have g:=fQ (aF hh).1;rw[dL,dI,dA]at g;refine g ?_;have h2:=AQ (@Sx.dat (VL F0 s) (.pr 12 (.cell (D 3) (D 7) 0) (.pr 12 (.cell (D 3) (D 7) 1) (W (.cell (D 3) (D 7) 2) (.cell (D 3) (D 7) 3) (.cell (D 3) (D 7) 4) (.cell (D 3) (D 7) 5) (D 1) (D 2) (D 6))))) (@Sx.dat (VL F0 s) (I 0)) (@Sx.dat (VL F0 s) (I 0));omega
 ·have g:=fQ (aF hh).1;rw[dL,dI]at g;have e:(@Sx.dat (VL F0 s) (J (D 4) (J (W (I 1) (.bin .add .i64 (D 6) (I 1)) (I 0) (I 0) (I 0) (I 0) (I 0)) O))).toL.length=(ah s 4).toL.length+1:=by
   show((ah s 4).toL++(_::[]++[])).length=_;rw[cZ];rfl
  rw[e]at g;omega
 have g:=fQ (aF hh).1;rw[dL,dI,dD]at g;omega
theorem xS(s:List Dat)(h:AtR F9 Gb 3 7 [] [3] 0 200 s):@Holds (VL F0 s) NV:=by obtain⟨s0,k,a,r,i⟩:=h;refine af (jw ?_) aC;rw[dI,dD,r.1];show ¬(k:Int)<0;omega
noncomputable def Ax(s:List Dat):Dat:=@Sx.dat (VL F0 s) (.pr 12 (.cell (D 3) (D 7) 0) (.pr 12 (.cell (D 3) (D 7) 1) (W (.cell (D 3) (D 7) 2) (.cell (D 3) (D 7) 3) (.cell (D 3) (D 7) 4) (.cell (D 3) (D 7) 5) (D 1) (D 2) (D 6))))
noncomputable def aa5(s:List Dat):Dat:=@Sx.dat (VL F0 s) (.pr 12 (.cell (D 3) (D 7) 0) (.pr 12 (.cell (D 3) (D 7) 1) (.pr 12 (.cell (D 3) (D 7) 2) (.pr 12 (.cell (D 3) (D 7) 3) (.pr 12 (.cell (D 3) (D 7) 4) (.pr 12 (.cell (D 3) (D 7) 5) (.pr 14 (I 0) (I 0))))))))
def BO(p:Int):List Dat:=[.int 1,.int (aU .i64 (p+1)),.int 0,.int 0,.int 0,.int 0,.int 0]
theorem tk(s:List Dat)(h:AtR F9 Gb 3 7 [] [3] 0 200 s)(x:aD)(hx:x∈xR)(b:Bx)(hb:x=[(b,false)]):@Bx.eval (VL F0 s) b=true:=by
 cases hv:@Bx.eval (VL F0 s) b with
 |true=>rfl
 |false=>exact absurd (hb▸af hv aC) (xT s h x hx)
theorem Kj(s:List Dat)(h:AtR F9 Gb 3 7 [] [3] 0 200 s)(hk:(ah s 7).toI<(ah s 3).toL.length)(he:(F0 8 (Ax s) (.int 0) (.int 0)).toI=0):
 ir2.tr F0 8 s=(0,[.int (ah s 0).toI,.int (ah s 1).toI,.int (ah s 2).toI,ah s 3,.lst ((ah s 4).toL++[BO (ah s 6).toI]++(F0 9 (Ax s) (.int 0) (.int 0)).toL),.int 1,.int (aZ .add .i64 (ah s 6).toI (F0 63 (aa5 s) (.int 0) (.int 0)).toL.length),.int (aU .i64 ((ah s 7).toI+1))]):=by
 have b1:@Bx.eval (VL F0 s) (lt (D 7) (ae (D 3)))=true:=ie hk;have b2:@Bx.eval (VL F0 s) (eq (.ap 8 (.pr 12 (.cell (D 3) (D 7) 0) (.pr 12 (.cell (D 3) (D 7) 1) (W (.cell (D 3) (D 7) 2) (.cell (D 3) (D 7) 3) (.cell (D 3) (D 7) 4) (.cell (D 3) (D 7) 5) (D 1) (D 2) (D 6)))) (I 0) (I 0)) (I 0))=true:=decide_eq_true he;have b3:=tk s h _ (by simp [xR]) (lt (ae (D 4)) (I 1000000001)) rfl;have b4:=tk s h [((lt (ae (J (D 4) (J (W (I 1) (.bin .add .i64 (D 6) (I 1)) (I 0) (I 0) (I 0) (I 0) (I 0)) O))) (I 1000000001)),false)] (by simp [xR]) _ rfl;have b5:=tk s h [((lt (ae (.ap 9 (.pr 12 (.cell (D 3) (D 7) 0) (.pr 12 (.cell (D 3) (D 7) 1) (W (.cell (D 3) (D 7) 2) (.cell (D 3) (D 7) 3) (.cell (D 3) (D 7) 4) (.cell (D 3) (D 7) 5) (D 1) (D 2) (D 6)))) (I 0) (I 0))) (I 1000000001)),false)] (by simp [xR]) _ rfl;unfold ST.tr ST.flg ST.nxt ir2;simp only[ST.val,b1,b2,b3,b4,b5,cond_true];rfl
theorem DF(s:List Dat)(hk:(ah s 7).toI<(ah s 3).toL.length)(he:(F0 8 (Ax s) (.int 0) (.int 0)).toI≠0):(ir2.tr F0 8 s).1=1∧ah (ir2.tr F0 8 s).2 4=.int (F0 8 (Ax s) (.int 0) (.int 0)).toI:=by have b1:@Bx.eval (VL F0 s) (lt (D 7) (ae (D 3)))=true:=ie hk;have b2:@Bx.eval (VL F0 s) (eq (.ap 8 (.pr 12 (.cell (D 3) (D 7) 0) (.pr 12 (.cell (D 3) (D 7) 1) (W (.cell (D 3) (D 7) 2) (.cell (D 3) (D 7) 3) (.cell (D 3) (D 7) 4) (.cell (D 3) (D 7) 5) (D 1) (D 2) (D 6)))) (I 0) (I 0)) (I 0))=false:=decide_eq_false he;unfold ST.tr ST.flg ST.nxt ir2;simp only[ST.val,b1,b2,cond_true,cond_false];exact⟨rfl,rfl⟩
theorem NW(s:List Dat)(hk:¬(ah s 7).toI<(ah s 3).toL.length):ir2.tr F0 8 s=(2,[.int (ah s 0).toI,.int (ah s 1).toI,.int (ah s 2).toI,ah s 3,ah s 4,ah s 5,.int (ah s 6).toI,.int 0]):=by have b1:@Bx.eval (VL F0 s) (lt (D 7) (ae (D 3)))=false:=jw hk;unfold ST.tr ST.flg ST.nxt ir2;simp only[ST.val,b1,cond_false];rfl
theorem zH(s0:List Dat)(k:Nat)(s:List Dat)(h0:F9 s0)(r:RngX 3 7 [] [3] 0 200 s0 k s)(hk:k<(ah s 3).toL.length)(i:Gb s0 k s)(hf:(ir2.tr F0 8 s).1=0):Gb s0 (k+1) (ir2.tr F0 8 s).2:=by
 have ha:AtR F9 Gb 3 7 [] [3] 0 200 s:=⟨s0,k,h0,r,i⟩;have hk':(ah s 7).toI<(ah s 3).toL.length:=by rw[r.1];show(k:Int)<_;omega
 by_cases he:(F0 8 (Ax s) (.int 0) (.int 0)).toI=0;{rw[Kj s ha hk' he];unfold Gb at i⊢;show((ah s 4).toL++[BO (ah s 6).toI]++(F0 9 (Ax s) (.int 0) (.int 0)).toL).length≤_;rw[cZ,cZ,List.length_singleton];have:=AQ (Ax s) (.int 0) (.int 0);omega};rw[(DF s hk' he).1]at hf;cases hf
theorem zF(s:List Dat)(h:F9 s):ah s 7=.int 0∧(ah s 3).toL.length≤200:=⟨h.2.2,h.1⟩
theorem Qi(s:List Dat)(h:F9 s):Gb s 0 s:=by unfold Gb;rw[h.2.1];exact aP _
theorem Ql(s:List Dat)(h:jI s):F9 (ir0.tr F0 8 s).2:=⟨h,rfl,rfl⟩
theorem ZU:PX P ba b0 R0 0 8 18 F0 jI OP (irA.withX liL (vS 0)) (irT2.withX liL (vS 0)) (fun w=>(ZX w).withX liL (vS w)) (iz F0):=by rw[ZW];exact PX.seq (J2:=F9) (by decide) T4 (fun s hs _=>Ql s hs) (PX.block (PX.rngI (by decide) Qj Qk xT xS (by omega) zF Qi zH (T3 xT xS)) rfl)
theorem ZV:yu jI [0,1] (iz F0):=
 aK (J2:=F9) (aG aM aW (by kernel_rfl) (by kernel_rfl)) (fun s hs _=>Ql s hs) (df (py Qj Qk xT xS (by omega) zF Qi zH (by kernel_rfl)) (by simp))
end
end Go.Proofs.YtlagbijmfchkeaaGreat
namespace Go.Proofs.YtlagbijmfchkeaaGreat
open Go.Tw Go.Tw.NE
noncomputable section
def jg:Sx:=.pr 12 (D 0) (.pr 12 (D 1) (.pr 12 (D 2) (.pr 12 (D 3) (.pr 14 (I 0) (I 0)))))
def YL:aD:=[(lt (ae (D 3)) (I 201),true)]
def F4:AV:=.agg [SI 0,SI 1,SI 2,LC (D 3)]
def hcLi:HCon:={f:=9,args:=[F4],pre:=YL,nr:=0,np:=0,ns:=0,locs:=[],ins:=[],v:=.tup [LV 1032 L7 (A1 84 jg),.sym .i64 (A1 85 jg)],outs:=liZ.o,nx:=1033}
theorem Q3:∀f,f<83→F5 f=F0 f:=fun f hf=>(Q5 hf).symm
theorem RL:iz F5=iz F0:=by have h:=Q3;unfold iz;rw[ST.tr_congr (F:=F5) (G:=F0) h (sp:=ir0) (nv:=9) (by kernel_rfl),ST.tr_congr (F:=F5) (G:=F0) h (sp:=ir2) (nv:=9) (by kernel_rfl)]
theorem AX:jZ F5=jZ F0:=by unfold jZ;rw[RL,Q3 71 (by omega)]
theorem LH{d a b:Dat}:F0 83 d a b=ah (jZ F0 d.one).2 0:=by rw[AB (by omega),←AX];rfl
theorem Wk{d a b:Dat}:F0 84 d a b=ah (jZ F0 d.one).2 1:=by rw[AB (by omega),←AX];rfl
theorem LF{d a b:Dat}:F0 85 d a b=.int (ah (jZ F0 d.one).2 2).toI:=by rw[AB (by omega),←AX];rfl
def qs(s:List Dat):List Dat:=[.int (ah s 0).toI,.int (ah s 1).toI,.int (ah s 2).toI,ah s 3]
theorem GI(s:List Dat):iz F0 (qs s)=iz F0 s:=rfl
def Xu:List (Nat×AV):=[(2,lv),(3,n3),(5,wS)]
theorem Xt(t:Nat)(x:AV)(h:(ax Xu).get t=some x):(ax liB4.l).get t=some x∧∃i off hi,x=.ptr i 0 off hi∧R0≤i∧i<R0+bQ 8:=by have:=pG h;simp only[Xu,cP,dQ,or_false,iU]at this;rcases this with⟨rfl,rfl⟩|⟨rfl,rfl⟩|⟨rfl,rfl⟩;{exact⟨by kernel_rfl,1025,0,1,rfl,by decide,by decide⟩};{exact⟨by kernel_rfl,1026,0,1,rfl,by decide,by decide⟩};exact⟨by kernel_rfl,1027,0,1,rfl,by decide,by decide⟩
def aa0:Code:=cr (cr (cr (cr (cr yc))))
theorem ZE:yc=.seq (cl yc) (.seq (cl (cr yc)) (.seq (cl (cr (cr yc))) (.seq (cl (cr (cr (cr yc)))) (.seq (.seq (cl (cl (cr (cr (cr (cr yc)))))) (.block 0 (.rangeFunc (.tmp 19) #[20,21] xE xD))) aa0)))):=by kernel_rfl
def σ1:St:=ag b0 liB4.o 1030
theorem Tt:eD ([]++[AV.yld (σ1.next+1)]++[sN]) 0 .leaf=ax irA.l:=by kernel_rfl
theorem ZD:(σ1.mk' .dfr).mk' (.loop 0 none (ax liB4.l) 48 [20,21] xE xD)=ag b0 (liL.ob (vS 0)++irA.o) irA.nx:=by kernel_rfl
theorem ZG:fX P 26 ([]++[AV.yld (σ1.next+1)]++[sN]) ((σ1.mk' .dfr).mk' (.loop 0 none (ax liB4.l) 48 [20,21] xE xD))=.call (.fn 26) ([]++[AV.yld (σ1.next+1)]++[sN]) ((σ1.mk' .dfr).mk' (.loop 0 none (ax liB4.l) 48 [20,21] xE xD)):=by kernel_rfl
theorem Nh{q:Nat×Option Code}{o:List (Nat×Ob)}{nx:Nat}:(ag b0 (liL.ob q++o) nx).heap.get 1031=some (.loop q.1 q.2 (ax liB4.l) 48 [20,21] xE xD):=T.get_set_same _ _ _
theorem Jh{q:Nat×Option Code}{o:List (Nat×Ob)}{nx:Nat}:(ag b0 (liL.ob q++o) nx).heap.get 1030=some .dfr:=by show(((bu b0 o).set 1030 .dfr).set 1031 _).get 1030=_;rw[T.get_set_ne _ _ (by decide),T.get_set_same]
theorem Qa{s s2:List Dat}{e2 e:AExit}{q:Nat×Option Code}{B:Tl}(inner:F3 P ba b0 R0 0 8 18 F0 s OP (irA.withX liL (vS 0)) e2 s2 (B.withX liL q))(he2:e2=.ret∨e2=.normal)(hq:q.1≠1)(hnx:1032≤B.nx)
 (hpend:(q.2=none∧e=.normal)∨(q.2=some .ret∧e=.ret)∨∃i,q.2=some (.exit i)∧e=.exit i):
 HTD P ba b0 R0 0 0 48 (VL F0 s) (.rangeFunc (.tmp 19) #[20,21] xE xD) (ax liB4.l) [] σ1 e (VL F0 s2) (ax Xu) [.mark 1030] ((ag b0 (liL.ob q++B.o) B.nx).put 1031 .dead).bare:=by
 have inner':HT P ba b0 R0 0 8 18 (VL F0 s) OP (eD ([]++[AV.yld (σ1.next+1)]++[.ptr 1029 0 0 1]) 0 .leaf) ((σ1.mk' .dfr).mk' (.loop 0 none (ax liB4.l) 48 (#[20,21]:Array Tmp).toList xE xD)) e2 (VL F0 s2) (ax B.l) (ag b0 (liL.ob q++B.o) B.nx):=by rw[Tt];show HT P ba b0 R0 0 8 18 (VL F0 s) OP (ax irA.l) ((σ1.mk' .dfr).mk' (.loop 0 none (ax liB4.l) 48 [20,21] xE xD)) e2 (VL F0 s2) (ax B.l) (ag b0 (liL.ob q++B.o) B.nx);rw[ZD];exact inner
 exact Hw (v:=VL F0 s) (σ:=σ1) (g:=26) (first:=[]) (captured:=[.ptr 1029 0 0 1]) (fn:=Tryz.f26) (nb2:=8) (aP _) (by kernel_rfl) ZG Tryz.func26 (by rfl) (by kernel_rfl) (by rfl) inner' he2 Nh hq Jh (by decide) (by decide) (by decide) hnx hpend Xt
def σ2:St:=((ag b0 (liL.ob (vS 0)++irT2.o) irT2.nx).put 1031 .dead).bare
def σ3:St:=((ag b0 (liL.ob (vS 1)++irT1.o) irT1.nx).put 1031 .dead).bare
def p8:List RE:=[⟨1024,1024,0,0,0⟩,⟨1025,1025,0,0,0⟩,⟨1026,1026,0,0,0⟩,⟨1027,1027,0,0,0⟩,⟨1028,1028,0,0,0⟩,⟨1029,1029,0,0,0⟩,⟨1030,1030,0,0,0⟩,⟨1031,1031,0,0,0⟩]
def adm:bq:=[(D 5,A1 84 jg),(I 0,N (A1 85 jg)),(D 4,A1 83 jg),(D 5,A1 84 jg)]
def adl:bq:=[(I 0,A1 84 jg),(N (D 4),N (A1 85 jg)),(O,A1 83 jg),(I 0,A1 84 jg)]
theorem NA:Gw R0 0 8 (p8++[⟨1032,1032,0,0,0⟩]) 1030 (exec P (bL ba b0 [] (n6 (dZ R0 (dj []) []) (dX R0 (dj []) []))) 1000 48 aa0 {tm:=ax Xu,ds:=[.mark 1030],md:=none,rd:=false} σ2) .ret liZ.l liZ.o 1033 adm=true:=by kernel_rfl
theorem Tu:cM R0 8 p8 (ax Xu) σ3 liZ.l liZ.o 1033=some adl:=by kernel_rfl
theorem ZF:σ3.heap.get 1030=some .dfr:=by show(((ag b0 (liL.ob (vS 1)++irT1.o) irT1.nx).heap.set 1031 .dead)).get 1030=_;rw[T.get_set_ne _ _ (by decide)];exact Jh
theorem A6{x:Option (List AV×St)}{v:AV}(h:(match x with
 |some (l,_)=>some (given l)
 |none=>none)=some v):∃l σ'',x=some (l,σ'')∧given l=v:=by
 split at h;{rename_i l σ'';simp only[aE]at h;exact⟨l,σ'',rfl,h⟩};cases h
theorem Kq:∃l σ'',bJ P Tryz.f9 {tm:=ax liZ.l,ds:=[],md:=none,rd:=false} (ag b0 hcLi.outs hcLi.nx) Tryz.f9.results.toList=some (l,σ'')∧given l=hcLi.v:=A6 (by kernel_rfl)
theorem Fl:∃l σ'',bJ P Tryz.f9 {tm:=ax liZ.l,ds:=[],md:=none,rd:=false} ((ag b0 ((1030,.dfr)::hcLi.outs) hcLi.nx).put 1030 .dead) Tryz.f9.results.toList=some (l,σ'')∧given l=hcLi.v:=A6 (by kernel_rfl)
theorem SD:∀c∈([]:List Con),c.Sound F0 P ba b0 R0:=fun _ h=>by cases h
theorem SC:∀c∈([]:List HCon),c.Sound F0 P ba b0 R0:=fun _ h=>by cases h
theorem k71(F:Go.Tw.Fn)(s:List Dat):@Sx.dat (VL F (qs s)) (.ap 71 (D 3) (I 0) (I 0))=F 71 (ah s 3) (.int 0) (.int 0):=rfl
theorem tN{v:Val}{a b:Sx}(h:(@Sx.dat v a).toI=(@Sx.dat v b).toI):@Bx.eval v (eq a b)=true:=decide_eq_true h
theorem zS{v:Val}{a b:Sx}(h:¬(@Sx.dat v a).toI=(@Sx.dat v b).toI):@Bx.eval v (eq a b)=false:=decide_eq_false h
theorem TC(F:Go.Tw.Fn)(s:List Dat)(h:@Bx.eval (VL F (qs s)) (eq (.ap 71 (D 3) (I 0) (I 0)) (I 0))=true):li1.tr F 4 (qs s)=(0,qs s):=by unfold ST.tr ST.flg ST.nxt li1;simp only[ST.val,h,cond_true];rfl
theorem TD(F:Go.Tw.Fn)(s:List Dat)(h:@Bx.eval (VL F (qs s)) (eq (.ap 71 (D 3) (I 0) (I 0)) (I 0))=false):li1.tr F 4 (qs s)=(1,[.int (F 71 (ah s 3) (.int 0) (.int 0)).toI,.int 0,.int 0,.int 0]):=by unfold ST.tr ST.flg ST.nxt li1;simp only[ST.val,h,cond_false];rfl
theorem CH(F:Go.Tw.Fn)(s:List Dat)(h:¬(F 71 (ah s 3) (.int 0) (.int 0)).toI=0):jZ F s=(1,[.lst [],.int 0,F 71 (ah s 3) (.int 0) (.int 0)]):=by
 unfold jZ;have:((F 71 (ah s 3) (.int 0) (.int 0)).toI==0)=false:=by simpa using h
 rw[this];rfl
theorem CG(F:Go.Tw.Fn)(s:List Dat)(h:(F 71 (ah s 3) (.int 0) (.int 0)).toI=0):jZ F s=bif Nat.beq (iz F s).1 1 then(1,[.lst [],.int 0,ah (iz F s).2 4])else(1,[ah (iz F s).2 4,ah (iz F s).2 5,.int 0]):=by unfold jZ;rw[h];rfl
theorem N4:hcLi.Sound F0 P ba b0 R0:=by
 refine zK (d:=1030) (fn:=Tryz.f9) (code:=yc) Tryz.func9 (by rfl) (by kernel_rfl) (by kernel_rfl) (by kernel_rfl) (by kernel_rfl) (by kernel_rfl) (by kernel_rfl) fun v hF hpre=> ?_;let s:List Dat:=(List.range 4).map fun i=>@Sx.dat v (D i);have hd:∀i,i<4→ah s i=@Sx.dat v (D i):=fun i hi=>by
  match i,hi with
  |0,_=>rfl
  |1,_=>rfl
  |2,_=>rfl
  |3,_=>rfl
 have hj:jI (qs s):=by have g:=jz (aF hpre).1;rw[dL,dI]at g;show(ah s 3).toL.length≤200;rw[hd 3 (by omega)];omega
 have hpk:(@Sx.dat v jg).one=s:=rfl;have q0:@Sx.dat v (A1 83 jg)=ah (jZ F0 s).2 0:=by show v.fn 83 _ _ _=_;rw[hF,LH,hpk]
 have q1:@Sx.dat v (A1 84 jg)=ah (jZ F0 s).2 1:=by show v.fn 84 _ _ _=_;rw[hF,Wk,hpk]
 have q2:@Sx.dat v (A1 85 jg)=.int (ah (jZ F0 s).2 2).toI:=by show v.fn 85 _ _ _=_;rw[hF,LF,hpk]
 have h0:F3 P ba b0 R0 0 0 48 F0 s (cl yc) liA .normal (qs s) Tx:=TE (J:=fun _=>True) s trivial;have h1:=TB (J:=jI) (fun s hs=>af (ie (by rw[dL,dI,dD];unfold jI at hs;omega)) aC) (qs s) hj;have hini:EqsOk v (VL F0 s) ZJ:=aa (gH (by rw[←hd 0 (by omega)];rfl)) (aa (gH (by rw[←hd 1 (by omega)];rfl)) (aa (gH (by rw[←hd 2 (by omega)];rfl)) (aa (hd 3 (by omega)).symm al)));rw[show yc=_ from ZE];have key:@Sx.dat (VL F0 (qs s)) (.ap 71 (D 3) (I 0) (I 0))=F0 71 (ah s 3) (.int 0) (.int 0):=k71 F0 s;by_cases h71:(F0 71 (ah s 3) (.int 0) (.int 0)).toI=0
 ·have b1:@Bx.eval (VL F0 (qs s)) (eq (.ap 71 (D 3) (I 0) (I 0)) (I 0))=true:=tN (by rw[key,dI];exact h71);have e1:=TC F0 s b1;rw[e1]at h1;have h2:F3 P ba b0 R0 0 0 48 F0 (qs s) (cl (cr (cr yc))) Tv .normal (qs s) ND:=TA (J:=fun _=>True) (qs s) trivial;have h3:F3 P ba b0 R0 0 0 48 F0 (qs s) (cl (cr (cr (cr yc)))) ND .normal (qs s) NC:=Tz (J:=fun _=>True) (qs s) trivial;have h4:F3 P ba b0 R0 0 0 48 F0 (qs s) (cl (cl (cr (cr (cr (cr yc)))))) NC .normal (qs s) liB4:=Ty (J:=fun _=>True) (qs s) trivial;have hir:=ZU (qs s) hj;have hfl:=ZV (qs s) hj;rw[GI]at hir hfl;have hsp:=CG F0 s h71;generalize iz F0 s=S at hir hfl hsp;obtain⟨w,s2⟩:=S;have hw:w=0∨w=1:=(by simpa using hfl);obtain⟨l,σ'',hr1,hr2⟩:=Fl;refine .inr ⟨.ret,liZ.l,l,σ'',.inl rfl,?_,hr1,hr2⟩;refine HTD.seq (aP _) (HT.pre (aP _) (aI (v:=v) (v':=VL F0 s) base0 JS hini) h0).d (HTD.seq (aP _) (HT.d h1) (HTD.seq (aP _) (HT.d h2) (HTD.seq (aP _) (HT.d h3) ?_)));rcases hw with rfl|rfl;{rw[show(bif Nat.beq 0 1 then((1,[.lst [],.int 0,ah s2 4]):Nat×List Dat)else(1,[ah s2 4,ah s2 5,.int 0]))=(1,[ah s2 4,ah s2 5,.int 0])from rfl]at hsp;rw[hsp]at q0 q1 q2;have hrf:=Qa (e:=.normal) (q:=vS 0) (B:=irT2) hir (.inr rfl) (by decide) (by decide) (.inl ⟨rfl,rfl⟩);refine HTD.seq (aP _) (HTD.seq (aP _) (HT.d h4) (HTD.block_out hrf (by simp))) ?_;refine HTD.tail (nb2:=8) base0 (aP _) (p:=[]) (fun _ h=>by cases h) (lz (cO []) (fC fun _ h=>by cases h)) (zb (fF (v:=VL F0 s2) (F:=F0) base0 (fun _ h=>by cases h) rfl SD) (jM (v:=VL F0 s2) (F:=F0) base0 (fun _ h=>by cases h) rfl SC)) follows (by decide) NA ?_;exact aa (dD.trans q1.symm) (aa (by show Dat.int 0=Dat.int (@Sx.dat v (A1 85 jg)).toI;rw[q2];rfl) (aa (dD.trans q0.symm) (aa (dD.trans q1.symm) al)))};rw[show(bif Nat.beq 1 1 then((1,[.lst [],.int 0,ah s2 4]):Nat×List Dat)else(1,[ah s2 4,ah s2 5,.int 0]))=(1,[.lst [],.int 0,ah s2 4])from rfl]at hsp;rw[hsp]at q0 q1 q2;have hrf:=Qa (e:=.ret) (q:=vS 1) (B:=irT1) hir (.inl rfl) (by decide) (by decide) (.inr (.inl ⟨rfl,rfl⟩));have hrf:=HTD.end (v2:=v) (nb2:=8) base0 (aP _) (by decide) hrf Tu (by
   exact aa q1.symm (aa (gH (by have:=congrArg Dat.toI q2.symm;exact this)) (aa q0.symm (aa q1.symm al)))) (by kernel_rfl) ZF
  exact HTD.seq_out (HTD.seq (aP _) (HT.d h4) (HTD.block_out hrf (by simp))) (by simp)
 have b1:@Bx.eval (VL F0 (qs s)) (eq (.ap 71 (D 3) (I 0) (I 0)) (I 0))=false:=zS (by rw[key,dI];exact h71);have e1:=TD F0 s b1;rw[e1]at h1;have hsp:=CH F0 s h71;rw[hsp]at q0 q1 q2;obtain⟨l,σ'',hr1,hr2⟩:=Kq;refine .inl ⟨.ret,liZ.l,l,σ'',.inl rfl,?_,hr1,hr2⟩;refine HT.pre (aP _) (aI (v:=v) (v':=VL F0 s) base0 JS hini) (HT.retell (aP _) (HT.seq (aP _) h0 (HT.seq_out h1 (by simp [du]))) (aI (v':=v) base0 Ts ?_));exact aa q1.symm (aa (gH (by have:=congrArg Dat.toI q2.symm;exact this)) (aa q0.symm (aa q1.symm al)))
end
end Go.Proofs.YtlagbijmfchkeaaGreat
namespace Go.Proofs.YtlagbijmfchkeaaGreat
open Go.Tw Go.Tw.NE
noncomputable section
theorem fG:∀c∈[conPlaces,conAsm],c.Sound F0 P ba b0 R0:=wG ya FG
theorem ea:∀c∈[hcLi],c.Sound F0 P ba b0 R0:=xg N4
def rv:Code:=match Tryz.f6.body with
 |some c=>c
 |none=>.skip
def aaM:bq:=[((N (D 0)),(N (D 0))),((N (D 1)),(N (D 1))),((N (D 2)),(N (D 2))),((D 3),(D 3))]
def aaL:bq:=[((N (D 6)),(N (.ap 92 (.pr 12 (D 0) (.pr 12 (D 1) (.pr 12 (D 2) (.pr 12 (D 3) (.pr 14 (I 0) (I 0)))))) (I 0) (I 0)))),((D 1),(.ap 87 (.pr 12 (D 0) (.pr 12 (D 1) (.pr 12 (D 2) (.pr 12 (D 3) (.pr 14 (I 0) (I 0)))))) (I 0) (I 0))),((D 3),(.ap 89 (.pr 12 (D 0) (.pr 12 (D 1) (.pr 12 (D 2) (.pr 12 (D 3) (.pr 14 (I 0) (I 0)))))) (I 0) (I 0))),((D 5),(.ap 91 (.pr 12 (D 0) (.pr 12 (D 1) (.pr 12 (D 2) (.pr 12 (D 3) (.pr 14 (I 0) (I 0)))))) (I 0) (I 0))),((D 0),(.ap 86 (.pr 12 (D 0) (.pr 12 (D 1) (.pr 12 (D 2) (.pr 12 (D 3) (.pr 14 (I 0) (I 0)))))) (I 0) (I 0))),((D 1),(.ap 87 (.pr 12 (D 0) (.pr 12 (D 1) (.pr 12 (D 2) (.pr 12 (D 3) (.pr 14 (I 0) (I 0)))))) (I 0) (I 0))),((D 2),(.ap 88 (.pr 12 (D 0) (.pr 12 (D 1) (.pr 12 (D 2) (.pr 12 (D 3) (.pr 14 (I 0) (I 0)))))) (I 0) (I 0))),((D 3),(.ap 89 (.pr 12 (D 0) (.pr 12 (D 1) (.pr 12 (D 2) (.pr 12 (D 3) (.pr 14 (I 0) (I 0)))))) (I 0) (I 0))),((D 4),(.ap 90 (.pr 12 (D 0) (.pr 12 (D 1) (.pr 12 (D 2) (.pr 12 (D 3) (.pr 14 (I 0) (I 0)))))) (I 0) (I 0))),((D 5),(.ap 91 (.pr 12 (D 0) (.pr 12 (D 1) (.pr 12 (D 2) (.pr 12 (D 3) (.pr 14 (I 0) (I 0)))))) (I 0) (I 0)))]
def cmA:Tl:=⟨[(0,.agg HF)],[],1024⟩
abbrev wQ:Ob:=.box [.opq 2 1025 0 cV (.lit 0) (.dvar 1),.opq 2 1026 0 bo (.lit 0) (.dvar 3),.opq 2 1027 0 bo (.lit 0) (.dvar 5)] 30
abbrev oL:Ob:=.opq 2 0 1023 bo (.dvar 2) (.dvar 3) [] 3
abbrev oK:Ob:=.opq 2 0 1023 bo (.dvar 4) (.dvar 5) [] 3
abbrev gL:AV:=.ptr 1024 0 0 3
def cmT1:Tl:=⟨[(2,gL),(3,wU)],[(1024,wQ),(1025,js),(1026,oL),(1027,oK)],1028⟩
abbrev Bl:Ob:=.opq 2 0 1023 bo (.dvar 10) (.dvar 11) [] 3
abbrev Bi:Ob:=.opq 2 0 1023 bo (.dvar 8) (.dvar 9) [] 3
abbrev HY:AV:=.opq 2 1031 0 bo (.lit 0) (.dvar 11)
abbrev PF:List (Nat×Ob):=[(1024,wQ),(1025,js),(1026,oL),(1027,oK),(1028,.box [.opq 2 1029 0 cV (.lit 0) (.dvar 7),.opq 2 1030 0 bo (.lit 0) (.dvar 9),HY] 30),(1029,.opq 2 0 1023 cV (.dvar 6) (.dvar 7) [] 67),(1030,Bi),(1031,Bl)]
def adS:Tl:=⟨[(2,gL),(8,.ptr 1028 0 0 3)],PF,1032⟩
def Gc:Nat→Tl:=fun w=>match w with
 |1=>cmT1
 |2=>adS
 |_=>cmA
abbrev sM:AV:=.ptr 1025 0 0 3
abbrev H4:Ob:=.opq 2 0 1023 bo (.dvar 6) (.dvar 7) [] 3
def aaU:Tl:=⟨[(1,cD),(2,sM)],[(1024,kG),(1025,.box [.opq 2 1026 0 cV (.lit 0) (.dvar 5),.opq 2 1027 0 bo (.lit 0) (.dvar 7),.opq 2 1028 0 bo (.lit 0) (.dvar 9)] 30),(1026,.opq 2 0 1023 cV (.dvar 4) (.dvar 5) [] 67),(1027,H4),(1028,Bi)],1029⟩
theorem Vz{J:List Dat→Prop}:PX P ba b0 R0 0 0 69 F0 J (cl rv) cmA aaU Gc (cm0.tr F0 10):=
 PX.tree (pins:=[]) base0 (by decide) follows (cons:=[conPlaces,conAsm]) fG (af:=[hcLi]) ea (cores:=[]) (fun _ _ _ h=>by cases h) (inv:=[]) (fun _ _=>aC) (by kernel_rfl)
abbrev vj:Ob:=.opq 2 0 1023 sF (.dvar 6) (.dvar 7) [] 51
abbrev sH:AV:=.opq 2 1028 0 sF (.lit 0) (.dvar 7)
abbrev H9:List (Nat×Ob):=[(1024,wQ),(1025,js),(1026,oL),(1027,oK),(1028,vj)]
abbrev A7:AV:=.sym .i64 (.dvar 8)
def aaT:Tl:=⟨[(2,gL),(4,sH),(5,A7)],H9,1029⟩
theorem Vy{J:List Dat→Prop}(hinv:∀s,J s→@Holds (VL F0 s) Vx):PX P ba b0 R0 0 0 69 F0 J (cl (cr rv)) aaU aaT Gc (cm1.tr F0 9):=
 PX.tree (pins:=[]) base0 (by decide) follows (cons:=[conPlaces,conAsm]) fG (af:=[hcLi]) ea (cores:=[]) (fun _ _ _ h=>by cases h) (inv:=Vx) hinv (by kernel_rfl)
def aaS:Tl:=⟨[(2,gL),(4,sH)],H9,1029⟩
theorem Vv{J:List Dat→Prop}:PX P ba b0 R0 0 0 69 F0 J (cl (cr (cr rv))) aaT aaS Gc (cm2.tr F0 8):=
 PX.tree (pins:=[]) base0 (by decide) follows (cons:=[conPlaces,conAsm]) fG (af:=[hcLi]) ea (cores:=[]) (fun _ _ _ h=>by cases h) (inv:=[]) (fun _ _=>aC) (by kernel_rfl)
abbrev H7:Ob:=.opq 2 0 1023 cV (.dvar 9) (.dvar 10) [] 67
abbrev H0:AV:=.opq 2 1029 0 cV (.lit 0) (.dvar 10)
def aaR:Tl:=⟨[(2,gL),(4,sH),(5,A7),(6,H0)],[(1024,wQ),(1025,js),(1026,oL),(1027,oK),(1028,vj),(1029,H7)],1030⟩
theorem Vu{J:List Dat→Prop}:PX P ba b0 R0 0 0 69 F0 J (cl (cr (cr (cr rv)))) aaS aaR Gc (cm3.tr F0 11):=
 PX.tree (pins:=[]) base0 (by decide) follows (cons:=[conPlaces,conAsm]) fG (af:=[hcLi]) ea (cores:=[]) (fun _ _ _ h=>by cases h) (inv:=[]) (fun _ _=>aC) (by kernel_rfl)
abbrev Bj:Ob:=.opq 2 0 1023 cV (.dvar 8) (.dvar 9) [] 67
abbrev HU:AV:=.opq 2 1029 0 cV (.lit 0) (.dvar 9)
def aaQ:Tl:=⟨[(2,gL),(4,sH),(6,HU)],[(1024,wQ),(1025,js),(1026,oL),(1027,oK),(1028,vj),(1029,Bj)],1030⟩
theorem Vs{J:List Dat→Prop}:PX P ba b0 R0 0 0 69 F0 J (cl (cr (cr (cr (cr rv))))) aaR aaQ Gc (cm4.tr F0 10):=
 PX.tree (pins:=[]) base0 (by decide) follows (cons:=[conPlaces,conAsm]) fG (af:=[hcLi]) ea (cores:=[]) (fun _ _ _ h=>by cases h) (inv:=[]) (fun _ _=>aC) (by kernel_rfl)
def aaP:Tl:=⟨[(2,gL),(4,sH),(5,A7),(6,H0),(7,.opq 2 1030 0 bo (.lit 0) (.dvar 12))],[(1024,wQ),(1025,js),(1026,oL),(1027,oK),(1028,vj),(1029,H7),(1030,.opq 2 0 1023 bo (.dvar 11) (.dvar 12) [] 3)],1031⟩
theorem Vr{J:List Dat→Prop}:PX P ba b0 R0 0 0 69 F0 J (cl (cr (cr (cr (cr (cr rv)))))) aaQ aaP Gc (cm5.tr F0 13):=
 PX.tree (pins:=[]) base0 (by decide) follows (cons:=[conPlaces,conAsm]) fG (af:=[hcLi]) ea (cores:=[]) (fun _ _ _ h=>by cases h) (inv:=[]) (fun _ _=>aC) (by kernel_rfl)
def aaO:Tl:=⟨[(2,gL),(4,sH),(6,HU),(7,.opq 2 1030 0 bo (.lit 0) (.dvar 11))],[(1024,wQ),(1025,js),(1026,oL),(1027,oK),(1028,vj),(1029,Bj),(1030,Bl)],1031⟩
theorem Vo{J:List Dat→Prop}:PX P ba b0 R0 0 0 69 F0 J (cl (cr (cr (cr (cr (cr (cr rv))))))) aaP aaO Gc (cm6.tr F0 12):=
 PX.tree (pins:=[]) base0 (by decide) follows (cons:=[conPlaces,conAsm]) fG (af:=[hcLi]) ea (cores:=[]) (fun _ _ _ h=>by cases h) (inv:=[]) (fun _ _=>aC) (by kernel_rfl)
abbrev H6:Ob:=.opq 2 0 1023 bo (.dvar 12) (.dvar 13) [] 3
abbrev HZ:AV:=.opq 2 1032 0 bo (.lit 0) (.dvar 13)
def aaN:Tl:=⟨[(2,gL),(4,sH),(7,.opq 2 1029 0 bo (.lit 0) (.dvar 9)),(8,.ptr 1030 0 0 3)],[(1024,wQ),(1025,js),(1026,oL),(1027,oK),(1028,vj),(1029,Bi),(1030,.box [.opq 2 1031 0 cV (.lit 0) (.dvar 11),HZ,.opq 2 1033 0 bo (.lit 0) (.dvar 15)] 30),(1031,.opq 2 0 1023 cV (.dvar 10) (.dvar 11) [] 67),(1032,H6),(1033,.opq 2 0 1023 bo (.dvar 14) (.dvar 15) [] 3)],1034⟩
theorem Vn{J:List Dat→Prop}:PX P ba b0 R0 0 0 69 F0 J (cl (cr (cr (cr (cr (cr (cr (cr rv)))))))) aaO aaN Gc (cm7.tr F0 16):=
 PX.tree (pins:=[]) base0 (by decide) follows (cons:=[conPlaces,conAsm]) fG (af:=[hcLi]) ea (cores:=[]) (fun _ _ _ h=>by cases h) (inv:=[]) (fun _ _=>aC) (by kernel_rfl)
def Vl:Tl:=⟨[(2,gL),(7,.opq 2 1028 0 bo (.lit 0) (.dvar 7)),(8,.ptr 1029 0 0 3),(40,.opq 2 1033 0 sF (.lit 0) (.dvar 15)),(41,.sym .i64 (.pr 7 (.dvar 14) (.lit 0))),(42,.sym .i64 (.dvar 16))],[(1024,wQ),(1025,js),(1026,oL),(1027,oK),(1028,H4),(1029,.box [.opq 2 1030 0 cV (.lit 0) (.dvar 9),HY,HZ] 30),(1030,Bj),(1031,Bl),(1032,H6),(1033,.opq 2 0 1023 sF (.dvar 14) (.dvar 15) [] 51)],1034⟩
theorem Vm{J:List Dat→Prop}:PX P ba b0 R0 0 0 69 F0 J (cl (cl (cr (cr (cr (cr (cr (cr (cr (cr rv)))))))))) aaN Vl Gc (cm8.tr F0 17):=
 PX.tree (pins:=[]) base0 (by decide) follows (cons:=[conPlaces,conAsm]) fG (af:=[hcLi]) ea (cores:=[]) (fun _ _ _ h=>by cases h) (inv:=[]) (fun _ _=>aC) (by kernel_rfl)
theorem ON{J:List Dat→Prop}(hco:∀s,J s→∀q∈Aa,¬@Holds (VL F0 s) q)(hinv:∀s,J s→@Holds (VL F0 s) DX):PX P ba b0 R0 0 0 69 F0 J (cl (cl (cr (cl (cr (cr (cr (cr (cr (cr (cr (cr rv)))))))))))) Vl Vl Gc (cm10.tr F0 17):=
 PX.tree (pins:=[]) base0 (by decide) follows (cons:=[conPlaces,conAsm]) fG (af:=[hcLi]) ea (cores:=Aa) hco (inv:=DX) hinv (by kernel_rfl)
def KZ:Tl:=⟨[(2,gL),(8,.ptr 1028 0 0 3)],PF,1032⟩
theorem OL{J:List Dat→Prop}:PX P ba b0 R0 0 0 69 F0 J (cr (cr (cr (cr (cr (cr (cr (cr (cr rv))))))))) KZ KZ Gc (cm12.tr F0 7):=
 PX.tree (pins:=[]) base0 (by decide) follows (cons:=[conPlaces,conAsm]) fG (af:=[hcLi]) ea (cores:=[]) (fun _ _ _ h=>by cases h) (inv:=[]) (fun _ _=>aC) (by kernel_rfl)
theorem Vj:cM R0 0 [] (ax cmA.l) (ag b0 cmA.o cmA.nx) cmA.l cmA.o cmA.nx=some aaM:=by kernel_rfl
def cmZ:Tl:=⟨[(2,gL),(3,.sym .i64 (.ap 92 (.pr 12 (.dvar 0) (.pr 12 (.dvar 1) (.pr 12 (.dvar 2) (.pr 12 (.dvar 3) (.pr 14 (.lit 0) (.lit 0)))))) (.lit 0) (.lit 0)))],[(1024,.box [.opq 2 1025 0 cV (.lit 0) (.ap 87 (.pr 12 (.dvar 0) (.pr 12 (.dvar 1) (.pr 12 (.dvar 2) (.pr 12 (.dvar 3) (.pr 14 (.lit 0) (.lit 0)))))) (.lit 0) (.lit 0)),.opq 2 1026 0 bo (.lit 0) (.ap 89 (.pr 12 (.dvar 0) (.pr 12 (.dvar 1) (.pr 12 (.dvar 2) (.pr 12 (.dvar 3) (.pr 14 (.lit 0) (.lit 0)))))) (.lit 0) (.lit 0)),.opq 2 1027 0 bo (.lit 0) (.ap 91 (.pr 12 (.dvar 0) (.pr 12 (.dvar 1) (.pr 12 (.dvar 2) (.pr 12 (.dvar 3) (.pr 14 (.lit 0) (.lit 0)))))) (.lit 0) (.lit 0))] 30),(1025,.opq 2 0 1023 cV (.ap 86 (.pr 12 (.dvar 0) (.pr 12 (.dvar 1) (.pr 12 (.dvar 2) (.pr 12 (.dvar 3) (.pr 14 (.lit 0) (.lit 0)))))) (.lit 0) (.lit 0)) (.ap 87 (.pr 12 (.dvar 0) (.pr 12 (.dvar 1) (.pr 12 (.dvar 2) (.pr 12 (.dvar 3) (.pr 14 (.lit 0) (.lit 0)))))) (.lit 0) (.lit 0)) [] 67),(1026,.opq 2 0 1023 bo (.ap 88 (.pr 12 (.dvar 0) (.pr 12 (.dvar 1) (.pr 12 (.dvar 2) (.pr 12 (.dvar 3) (.pr 14 (.lit 0) (.lit 0)))))) (.lit 0) (.lit 0)) (.ap 89 (.pr 12 (.dvar 0) (.pr 12 (.dvar 1) (.pr 12 (.dvar 2) (.pr 12 (.dvar 3) (.pr 14 (.lit 0) (.lit 0)))))) (.lit 0) (.lit 0)) [] 3),(1027,.opq 2 0 1023 bo (.ap 90 (.pr 12 (.dvar 0) (.pr 12 (.dvar 1) (.pr 12 (.dvar 2) (.pr 12 (.dvar 3) (.pr 14 (.lit 0) (.lit 0)))))) (.lit 0) (.lit 0)) (.ap 91 (.pr 12 (.dvar 0) (.pr 12 (.dvar 1) (.pr 12 (.dvar 2) (.pr 12 (.dvar 3) (.pr 14 (.lit 0) (.lit 0)))))) (.lit 0) (.lit 0)) [] 3)],1028⟩
theorem Vk:cM R0 0 [⟨1024,1024,0,0,0⟩,⟨1025,1025,0,0,0⟩,⟨1026,1026,0,0,0⟩,⟨1027,1027,0,0,0⟩] (ax cmT1.l) (ag b0 cmT1.o cmT1.nx) cmZ.l cmZ.o cmZ.nx=some aaL:=by kernel_rfl
theorem aaK:rv=(.seq (cl rv) (.seq (cl (cr rv)) (.seq (cl (cr (cr rv))) (.seq (cl (cr (cr (cr rv)))) (.seq (cl (cr (cr (cr (cr rv))))) (.seq (cl (cr (cr (cr (cr (cr rv)))))) (.seq (cl (cr (cr (cr (cr (cr (cr rv))))))) (.seq (cl (cr (cr (cr (cr (cr (cr (cr rv)))))))) (.seq (.seq (cl (cl (cr (cr (cr (cr (cr (cr (cr (cr rv)))))))))) (.block 0 (.loop (cl (cl (cr (cl (cr (cr (cr (cr (cr (cr (cr (cr rv))))))))))))))) (cr (cr (cr (cr (cr (cr (cr (cr (cr rv)))))))))))))))))):=by kernel_rfl
def j5(s:List Dat):Prop:=(ah s 8).toI=(F0 56 (ah s 6) (.int 0) (.int 0)).toI∧ah s 11=F0 57 (ah s 6) (.int 0) (.int 0)
def j6(s:List Dat):Prop:=(F0 56 (ah s 6) (.int 0) (.int 0)).toI=0∧ah s 10=F0 57 (ah s 6) (.int 0) (.int 0)
def j7(s:List Dat):Prop:=(F0 56 (ah s 6) (.int 0) (.int 0)).toI=0∧ah s 8=F0 57 (ah s 6) (.int 0) (.int 0)∧(ah s 12).toL.length=0∧(ah s 14).toL.length=0
def j8(s:List Dat):Prop:=(F0 56 (ah s 14) (.int 0) (.int 0)).toI=0∧ah s 6=F0 57 (ah s 14) (.int 0) (.int 0)∧(ah s 10).toL.length=0∧(ah s 12).toL.length=0∧ah s 16=.int 0
theorem aaX(F:Go.Tw.Fn)(s:List Dat):(ah (cm5.tr F 13 s).2 8).toI=(F 56 (ah (cm5.tr F 13 s).2 6) (.int 0) (.int 0)).toI∧ah (cm5.tr F 13 s).2 11=F 57 (ah (cm5.tr F 13 s).2 6) (.int 0) (.int 0):=⟨rfl,rfl⟩
theorem QL(s:List Dat):j5 (cm5.tr F0 13 s).2:=aaX F0 s
theorem Vp(F:Go.Tw.Fn)(s:List Dat)(h:(cm6.tr F 12 s).1=0):(ah s 8).toI=0∧ah (cm6.tr F 12 s).2 6=ah s 6∧ah (cm6.tr F 12 s).2 10=ah s 11:=by
 cases hb:@Bx.eval (VL F s) (eq (D 8) (I 0))with
 |false=>have:(cm6.tr F 12 s).1=1:=(by unfold cm6 ST.tr ST.flg;simp only[ST.val,hb,cond_false];rfl);rw[this]at h;cases h
 |true=>refine⟨uH hb,?_,?_⟩;{rw[kS (by omega)];unfold cm6;simp only[ST.val,hb,cond_true];rfl};rw[kS (by omega)];unfold cm6;simp only[ST.val,hb,cond_true];rfl
theorem QK(s:List Dat)(hs:j5 s)(h:(cm6.tr F0 12 s).1=0):j6 (cm6.tr F0 12 s).2:=by obtain⟨h1,h2,h3⟩:=Vp F0 s h;unfold j6;rw[h2,h3,←hs.1];exact⟨h1,hs.2⟩
theorem aaW(F:Go.Tw.Fn)(s:List Dat):ah (cm7.tr F 16 s).2 6=ah s 6∧ah (cm7.tr F 16 s).2 8=ah s 10∧(ah (cm7.tr F 16 s).2 12).toL.length=0∧(ah (cm7.tr F 16 s).2 14).toL.length=0:=⟨rfl,rfl,rfl,rfl⟩
theorem QJ(s:List Dat)(hs:j6 s):j7 (cm7.tr F0 16 s).2:=by obtain⟨h1,h2,h3⟩:=aaW F0 s;unfold j7;rw[h1,h2];exact⟨hs.1,hs.2,h3⟩
theorem aaV(F:Go.Tw.Fn)(s:List Dat):ah (cm8.tr F 17 s).2 14=ah s 6∧ah (cm8.tr F 17 s).2 6=ah s 8∧ah (cm8.tr F 17 s).2 10=ah s 12∧ah (cm8.tr F 17 s).2 12=ah s 14∧ah (cm8.tr F 17 s).2 16=.int 0:=⟨rfl,rfl,rfl,rfl,rfl⟩
theorem QI(s:List Dat)(hs:j7 s):j8 (cm8.tr F0 17 s).2:=by obtain⟨h1,h2,h3,h4,h5⟩:=aaV F0 s;unfold j8;rw[h1,h2,h3,h4,h5];exact⟨hs.1,hs.2.1,hs.2.2.1,hs.2.2.2,rfl⟩
theorem YP(F:Go.Tw.Fn)(d:Dat)(h:(F 56 d (.int 0) (.int 0)).toI=0)(hl:(d.toL.length:Int)<5000):ah (oA F [d]).2 0=F 46 d (.int 0) (.int 0):=by have b1:@Bx.eval (VL F [d]) (eq (.ap 56 (D 0) (I 0) (I 0)) (I 0))=true:=tN h;have b2:@Bx.eval (VL F [d]) (lt (ae (D 0)) (I 5000))=true:=ie hl;unfold oA;rw[kS (by omega)];unfold pl0;simp only[ST.val,b1,b2,cond_true];rfl
theorem Ly{d:Dat}(h:(F0 56 d (.int 0) (.int 0)).toI=0):F0 57 d (.int 0) (.int 0)=AE d (tJ d):=by have hl:=fW h;rw[LU,YP F0 d h (by omega),je rfl];rfl
theorem D7{d:Dat}(h:(F0 56 d (.int 0) (.int 0)).toI=0):(F0 57 d (.int 0) (.int 0)).toL.length=d.toL.length+1:=by rw[Ly h];exact plA_len _ _ _
theorem K0:cm10.rngX 14 16 17 [10,12] [14,6] 1 2=true:=by kernel_rfl
theorem K2:cm10.deadsOk Aa DX=true:=by kernel_rfl
theorem yb(s:List Dat)(h:∃s0 k,j8 s0∧RngX 14 16 [10,12] [14,6] 1 5000 s0 k s):∀q∈Aa,¬@Holds (VL F0 s) q:=fun q hq hh=>by obtain⟨s0,k,⟨a1,a2,a3,a4,a5⟩,r1,r2,r3,r4,r5⟩:=h;have e14:=r5 14 (by simp);have e6:=r5 6 (by simp);have iV:=r4 10 (by simp);have WM:=r4 12 (by simp);have hl:=D7 a1;rw[←a2,←e6,←e14]at hl;simp only[Aa,cP,dQ,or_false]at hq;rcases hq with rfl|rfl|rfl;{have g:=fQ (aF hh).1;rw[dL,dI,dD]at g;omega};{obtain⟨g0,hh⟩:=aF hh;have g0:=jz g0;have g1:=fQ (aF hh).1;rw[dL,dD,dD]at g0 g1;omega};have g:=fQ (aF hh).1;rw[dL,dI,dD]at g;omega
theorem tV(s:List Dat)(h:∃s0 k,j8 s0∧RngX 14 16 [10,12] [14,6] 1 5000 s0 k s):@Holds (VL F0 s) DX:=by obtain⟨s0,k,a,r⟩:=h;refine af (jw ?_) aC;rw[dI,dD,r.1];show ¬(k:Int)<0;omega
theorem z9(s:List Dat)(hs:j8 s):ah s 16=.int 0∧(ah s 14).toL.length≤5000:=⟨hs.2.2.2.2,by have:=fW hs.1;omega⟩
theorem DW(s:List Dat)(hs:jI s):@Holds (VL F0 s) Vx:=af (ie (by rw[dL,dI,dD];unfold jI at hs;omega)) aC
theorem aaI:PX P ba b0 R0 0 0 69 F0 jI rv cmA KZ Gc (di F0):=by
 rw[aaK];exact PX.seq (J2:=jI) (by decide) Vz (fun s hs _=>hs) (PX.seq (J2:=fun _=>True) (by decide) (Vy DW) (fun _ _ _=>trivial) (PX.seq (J2:=fun _=>True) (by decide) Vv (fun _ _ _=>trivial) (PX.seq (J2:=fun _=>True) (by decide) Vu (fun _ _ _=>trivial) (PX.seq (J2:=fun _=>True) (by decide) Vs (fun _ _ _=>trivial) (PX.seq (J2:=j5) (by decide) Vr (fun s _ _=>QL s)
  (PX.seq (J2:=j6) (by decide) Vo (fun s hs h=>QK s hs h) (PX.seq (J2:=j7) (by decide) Vn (fun s hs _=>QJ s hs) (PX.seq (J2:=fun _=>True) (by decide) (PX.seq (J2:=j8) (by decide) Vm (fun s hs _=>QI s hs) (PX.block (PX.rng (by decide) K0 K2 yb tV (by omega) z9 (ON yb tV)) rfl)) (fun _ _ _=>trivial) OL))))))))
theorem aaJ:yu jI [1] (di F0):=
 aK (J2:=jI) (aG aM aW (by kernel_rfl) (by kernel_rfl)) (fun s hs _=>hs) (aK (J2:=fun _=>True) (aG aM DW (by kernel_rfl) (by kernel_rfl)) (fun _ _ _=>trivial) (aK (J2:=fun _=>True) (aG aM aW (by kernel_rfl) (by kernel_rfl)) (fun _ _ _=>trivial) (aK (J2:=fun _=>True) (aG aM aW (by kernel_rfl) (by kernel_rfl)) (fun _ _ _=>trivial)
  (aK (J2:=fun _=>True) (aG aM aW (by kernel_rfl) (by kernel_rfl)) (fun _ _ _=>trivial) (aK (J2:=j5) (aG aM aW (by kernel_rfl) (by kernel_rfl)) (fun s _ _=>QL s) (aK (J2:=j6) (aG aM aW (by kernel_rfl) (by kernel_rfl)) (fun s hs h=>QK s hs h) (aK (J2:=j7) (aG aM aW (by kernel_rfl) (by kernel_rfl)) (fun s hs _=>QJ s hs)
  (aK (J2:=fun _=>True) (aK (J2:=j8) (aG aM aW (by kernel_rfl) (by kernel_rfl)) (fun s hs _=>QI s hs) (df (ko K0 K2 yb tV (by omega) z9 (by kernel_rfl)) (by simp))) (fun _ _ _=>trivial) (aG aM aW (by kernel_rfl) (by kernel_rfl))))))))))
theorem abi:∀f,f<86→rP f=F0 f:=fun f hf=>(AB hf).symm
theorem nW:di rP=di F0:=by have h:=abi;unfold di;rw[ST.tr_congr (F:=rP) (G:=F0) h (sp:=cm0) (nv:=17) (by kernel_rfl),ST.tr_congr (F:=rP) (G:=F0) h (sp:=cm1) (nv:=17) (by kernel_rfl),ST.tr_congr (F:=rP) (G:=F0) h (sp:=cm2) (nv:=17) (by kernel_rfl),ST.tr_congr (F:=rP) (G:=F0) h (sp:=cm3) (nv:=17) (by kernel_rfl),ST.tr_congr (F:=rP) (G:=F0) h (sp:=cm4) (nv:=17) (by kernel_rfl),ST.tr_congr (F:=rP) (G:=F0) h (sp:=cm5) (nv:=17) (by kernel_rfl),ST.tr_congr (F:=rP) (G:=F0) h (sp:=cm6) (nv:=17) (by kernel_rfl),ST.tr_congr (F:=rP) (G:=F0) h (sp:=cm7) (nv:=17) (by kernel_rfl),ST.tr_congr (F:=rP) (G:=F0) h (sp:=cm8) (nv:=17) (by kernel_rfl),ST.tr_congr (F:=rP) (G:=F0) h (sp:=cm10) (nv:=17) (by kernel_rfl),ST.tr_congr (F:=rP) (G:=F0) h (sp:=cm12) (nv:=17) (by kernel_rfl)]
theorem F0_86d{d a b:Dat}:F0 86 d a b=ah (di F0 d.one).2 0:=by rw[←nW];rfl
theorem F0_87d{d a b:Dat}:F0 87 d a b=ah (di F0 d.one).2 1:=by rw[←nW];rfl
theorem F0_88d{d a b:Dat}:F0 88 d a b=ah (di F0 d.one).2 2:=by rw[←nW];rfl
theorem F0_89d{d a b:Dat}:F0 89 d a b=ah (di F0 d.one).2 3:=by rw[←nW];rfl
theorem F0_90d{d a b:Dat}:F0 90 d a b=ah (di F0 d.one).2 4:=by rw[←nW];rfl
theorem F0_91d{d a b:Dat}:F0 91 d a b=ah (di F0 d.one).2 5:=by rw[←nW];rfl
theorem F0_92d{d a b:Dat}:F0 92 d a b=.int (ah (di F0 d.one).2 6).toI:=by rw[←nW];rfl
def hcCm:HCon:={f:=6,args:=[F4],pre:=YL,nr:=0,np:=0,ns:=0,locs:=[],ins:=[],v:=.tup [.agg [LV 1025 [.int .u32] (A1 87 jg),LV 1026 [cX] (A1 89 jg),LV 1027 [cX] (A1 91 jg)],.sym .i64 (A1 92 jg)],outs:=cmZ.o,nx:=1028}
theorem Ks:∃l σ'',bJ P Tryz.f6 {tm:=ax cmZ.l,ds:=[],md:=none,rd:=false} (ag b0 hcCm.outs hcCm.nx) Tryz.f6.results.toList=some (l,σ'')∧given l=hcCm.v:=A6 (by kernel_rfl)
theorem N5:hcCm.Sound F0 P ba b0 R0:=by
 refine fS (fn:=Tryz.f6) (code:=rv) Tryz.func6 (by rfl) (by kernel_rfl) (by kernel_rfl) (by kernel_rfl) fun v hF hpre=> ?_;obtain⟨l,σ'',hr1,hr2⟩:=Ks;refine⟨.ret,cmZ.l,l,σ'',.inl rfl,?_,hr1,hr2⟩;let s:List Dat:=(List.range 4).map fun i=>@Sx.dat v (D i);have hd:∀i,i<4→ah s i=@Sx.dat v (D i):=fun i hi=>by
  match i,hi with
  |0,_=>rfl
  |1,_=>rfl
  |2,_=>rfl
  |3,_=>rfl
 have hj:jI s:=by have g:=jz (aF hpre).1;rw[dL,dI]at g;show(ah s 3).toL.length≤200;rw[hd 3 (by omega)];omega
 have hpk:(@Sx.dat v jg).one=s:=rfl;have hz:∀n a b,v.fn n (@Sx.dat v jg) a b=F0 n (@Sx.dat v jg) a b:=fun n a b=>by rw[hF]
 have h:=PX.ret aaI hj (iP aaJ hj);have q0:@Sx.dat v (A1 86 jg)=ah (di F0 s).2 0:=(hz 86 (.int 0) (.int 0)).trans (F0_86d.trans (by rw[hpk]));have q1:@Sx.dat v (A1 87 jg)=ah (di F0 s).2 1:=(hz 87 (.int 0) (.int 0)).trans (F0_87d.trans (by rw[hpk]));have q2:@Sx.dat v (A1 88 jg)=ah (di F0 s).2 2:=(hz 88 (.int 0) (.int 0)).trans (F0_88d.trans (by rw[hpk]));have q3:@Sx.dat v (A1 89 jg)=ah (di F0 s).2 3:=(hz 89 (.int 0) (.int 0)).trans (F0_89d.trans (by rw[hpk]));have q4:@Sx.dat v (A1 90 jg)=ah (di F0 s).2 4:=(hz 90 (.int 0) (.int 0)).trans (F0_90d.trans (by rw[hpk]));have q5:@Sx.dat v (A1 91 jg)=ah (di F0 s).2 5:=(hz 91 (.int 0) (.int 0)).trans (F0_91d.trans (by rw[hpk]));have q6:@Sx.dat v (A1 92 jg)=.int (ah (di F0 s).2 6).toI:=(hz 92 (.int 0) (.int 0)).trans (F0_92d.trans (by rw[hpk]));generalize di F0 s=S at h q0 q1 q2 q3 q4 q5 q6;have hini:EqsOk v (VL F0 s) aaM:=aa (gH (by rw[←hd 0 (by omega)];rfl)) (aa (gH (by rw[←hd 1 (by omega)];rfl)) (aa (gH (by rw[←hd 2 (by omega)];rfl)) (aa (hd 3 (by omega)).symm al)));refine HT.pre (aP _) (aI (v:=v) (v':=VL F0 s) base0 Vj hini) (HT.retell (aP _) h (aI (v':=v) base0 Vk ?_));unfold aaL;exact aa (gH (by have:=congrArg Dat.toI q6.symm;exact this)) (aa q1.symm (aa q3.symm (aa q5.symm (aa q0.symm (aa q1.symm (aa q2.symm (aa q3.symm (aa q4.symm (aa q5.symm al)))))))))
end
end Go.Proofs.YtlagbijmfchkeaaGreat
