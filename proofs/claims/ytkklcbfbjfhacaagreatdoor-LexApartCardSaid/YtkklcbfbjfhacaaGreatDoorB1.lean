/-
  A part of the proof that the abstract evaluator is sound for the model's machine. Conditions: those of each theorem, as it states them.
-/
import Derived.Test.YtkklcbfbjfhacaaGreatDoorA6
import Derived.Test.YtkklcbfbjfhacaaGreatDoorA7
import Derived.Test.YtkklcbfbjfhacaaGreatDoorA3
import Derived.Test.YtkklcbfbjfhacaaGreatDoorA4
set_option linter.all false
namespace Go.Tw
open Go.ChangeShapes Go.RowKit
inductive ST where
 |leaf (l:List Sx)
 |ask (b:Bx) (t e:ST)
 |none
inductive DT where
 |leaf
 |ask (b:Bx) (t e:DT)
 |dead (i:Nat)
def ST.val(v:Val):ST→Nat→Dat
 | .leaf l,i=>match l[i]? with
  |some e=>@Sx.dat v e
  |Option.none=>.int 0
 | .ask b t e,i=>bif @Bx.eval v b then t.val v i else e.val v i
 | .none,_=>.int 0
noncomputable def ST.at(dec:Bx→Option Bool):ST→Option (List Sx)
 | .leaf l=>some l
 | .ask b t e=>match dec b with
  |some x=>bif x then t.at dec else e.at dec
  |Option.none=>Option.none
 | .none=>Option.none
noncomputable def jC(R:Nat)(tm:T AV):List (Nat×AV)→List RE
 |[]=>[]
 |(t,x)::l=>match x,tm.get t with
  | .opq _ id' _ _ _ _,some (.opq _ id ver _ _ _)=>bif Nat.ble R id' then{idn:=id',ido:=id,ver:=ver}::jC R tm l else jC R tm l
  | .opq _ id' _ _ _ _,some (.slc id ver _ len _ esz)=>bif Nat.ble R id'&&Nat.blt 0 len then{idn:=id',ido:=id,ver:=ver,n:=len*esz,t:=t}::jC R tm l else jC R tm l
  |_,_=>jC R tm l
noncomputable def pC(R nr:Nat)(e e':AExit)(env:Env)(σ:St):Bool:=su e e'&&σ.wr.all (fun i=>Nat.ble (R+nr) i)&&(match env.ds with
 |[]=>true
 |_=>false)&&(match env.md with
 |none=>true
 |_=>false)
noncomputable def kg(R nr nb:Nat)(x:XR)(e:AExit)(tm':List (Nat×AV))(objs':List (Nat×Ob))(nx':Nat):Option bA:=match x with
 | .ok e' env σ=>bif pC R nr e e' env σ then dQ R nb (jC R env.tm tm') env.tm σ.bare tm' objs' nx' else none
 |_=>none
noncomputable def wG(cmp:Sx→Sx→Bool):bA→List Sx→List Sx→Bool
 |[],_,tg=>match tg with
  |[]=>true
  |_=>false
 |(a,t)::E,l,tg=>match l,tg with
  |x::l,t'::tg=>cmp a x&&t.same t'&&wG cmp E l tg
  |_,_=>false
noncomputable def nR(cores:List aY)(i:Nat)(p:aY):Bool:=match cores[i]? with
 |some c=>c.all fun q=>match dR p q.1 with
  |some x=>jT x q.2
  |none=>false
 |none=>false
noncomputable def DT.chk(cmp:Sx→Sx→Bool)(fin:aY→Option bA)(sp:ST)(tg:List Sx)(cores:List aY):DT→aY→Bool
 | .leaf,p=>match sp.at (dR p),fin p with
  |some l,some E=>wG cmp E l tg
  |_,_=>false
 | .ask b t f,p=>t.chk cmp fin sp tg cores ((b,true)::p)&&f.chk cmp fin sp tg cores ((b,false)::p)
 | .dead i,p=>nR cores i p
section
variable{v v2:Val}
theorem ST.at_val{dec:Bx→Option Bool}(hdec:∀b x,dec b=some x→@Bx.eval v b=x):∀{sp:ST} {l:List Sx},sp.at dec=some l→∀i,sp.val v i=(match l[i]? with
 |some e=>@Sx.dat v e
 |Option.none=>.int 0)
 | .leaf l,l',h,i=>by simp only[ST.at,aj]at h;subst h;rfl
 | .ask b t e,l',h,i=>by
  simp only[ST.at]at h;split at h
  ·rename_i x hx;have:=hdec _ _ hx;simp only[ST.val,this];cases x with
   |true=>exact ST.at_val hdec h i
   |false=>exact ST.at_val hdec h i
  cases h
 | .none,l',h,i=>by cases h
theorem qF{cmp:Sx→Sx→Bool}(hcmp:∀a b,cmp a b=true→@Sx.dat v a=@Sx.dat v b):∀{E:bA} {l tg:List Sx},wG cmp E l tg=true→(∀(i:Nat) (t:Sx),tg[i]? =some t→@Sx.dat v2 t=(match l[i]? with
 |some e=>@Sx.dat v e
 |Option.none=>.int 0))→EqsOk v v2 E
 |[],l,tg,_,_=>fun _ h=>by cases h
 |(a,t)::E,l,tg,h,k=>by
  cases l with
  |nil=>simp [wG]at h
  |cons x l=>
   cases tg with
   |nil=>simp [wG]at h
   |cons t' tg=>simp only[wG,ah]at h;obtain⟨⟨h1,h2⟩,h3⟩:=h;have:=Sx.same_eq h2;subst this;refine List.forall_mem_cons.2 ⟨?_,qF hcmp h3 fun i u hu=>k (i+1) u (by simpa using hu)⟩;have:=k 0 t rfl;exact(hcmp _ _ h1).trans this.symm
theorem wP{cores:List aY}{i:Nat}{p:aY}(h:nR cores i p=true)(hp:@Holds v p):∃c∈cores,@Holds v c:=by unfold nR at h;split at h;{rename_i c hc;refine⟨c,dK hc,fun q hq=> ?_⟩;have:=List.all_eq_true.1 h q hq;split at this;{rename_i x hx;rw[@eO v _ hp _ _ hx];exact fy this};cases this};cases h
end
theorem HT.leaf{P:Program}{gl:Nat→Option Nat}{b:bm}{R nr nb nt:Nat}{v v2:Val}(hb:BaseOk gl b R)(hrb:nr≤bW nb){p:aY}(hp:@Holds v p){hk:FuncId→List AV→St→CR}(hs:bq (bC gl b p hk))(hh:@iP v P R (bC gl b p hk))
 (hm:P.follows .mixedOrders=true){n:Nat}{c:Code}{tm:T AV}{σ:St}{e:AExit}{tm':List (Nat×AV)}{objs':List (Nat×Ob)}{nx':Nat}{E:bA}
 (h:kg R nr nb (exec P (bC gl b p hk) n nt c {tm:=tm,ds:=[],md:=none,rd:=false} σ) e tm' objs' nx'=some E)(hE:EqsOk v v2 E):HT P gl b R nr nb nt v c tm σ e v2 (aR tm') (ao b objs' nx'):=by
 unfold kg at h;split at h
 ·rename_i e' env σ' hx;rw[ag]at h;split at h
  ·rename_i hg;simp only[pC,ah]at hg;obtain⟨⟨⟨h1,h0⟩,h2⟩,h3⟩:=hg;obtain⟨rfl,hn⟩:=kL h1;have hd:env.ds=[]:=by
    split at h2;{assumption};cases h2
   have hmd:env.md=none:=(by split at h3;{assumption};cases h3);exact(ly hp hs hh hm hx hn hd hmd (fun i hi=>ak (List.all_eq_true.1 h0 i hi))).ht hrb (aN hb h hE)
  cases h
 cases h
theorem DT.ok{P:Program}{gl:Nat→Option Nat}{b:bm}{R nr nb nt:Nat}{v v2:Val}(hb:BaseOk gl b R)(hrb:nr≤bW nb){F:Nat→Dat→Dat→Dat→Dat}(hF:v.fn=F){cons:List Con}(hc:∀c∈cons,c.Sound F P gl b R)
 (hm:P.follows .mixedOrders=true){n:Nat}{c:Code}{l:List (Nat×AV)}{o:List (Nat×Ob)}{nx:Nat}{e:AExit}{l':List (Nat×AV)}{o':List (Nat×Ob)}{nx':Nat}
 {cmp:Sx→Sx→Bool}(hcmp:∀a b,cmp a b=true→@Sx.dat v a=@Sx.dat v b){sp:ST}{tg:List Sx}{cores:List aY}(hsp:∀(i:Nat) (t:Sx),tg[i]? =some t→@Sx.dat v2 t=sp.val v i)(hcores:∀c∈cores,¬@Holds v c):
 ∀{t:DT} {p:aY},t.chk cmp (fun p=>kg R nr nb (exec P (bC gl b p (fF R (dR p) cons)) n nt c {tm:=aR l,ds:=[],md:=none,rd:=false} (ao b o nx)) e l' o' nx') sp tg cores p=true→@Holds v p→
  HT P gl b R nr nb nt v c (aR l) (ao b o nx) e v2 (aR l') (ao b o' nx')
 | .leaf,p,h,hp=>by simp only[DT.chk]at h;split at h;{rename_i pl E h1 h2;exact HT.leaf hb hrb hp (gF cons) (kP hb hp hF hc) hm h2 (qF hcmp h fun i t ht=>(hsp i t ht).trans (ST.at_val (fun b x hx=>@eO v _ hp _ _ hx) h1 i))};cases h
 | .ask q t f,p,h,hp=>by
  simp only[DT.chk,ah]at h;cases hq:@Bx.eval v q with
  |true=>exact DT.ok hb hrb hF hc hm hcmp hsp hcores h.1 (@Holds.cons v _ _ _ hq hp)
  |false=>exact DT.ok hb hrb hF hc hm hcmp hsp hcores h.2 (@Holds.cons v _ _ _ hq hp)
 | .dead i,p,h,hp=>by obtain⟨c,h1,h2⟩:=wP h hp;exact absurd h2 (hcores c h1)
theorem HT.pre{P:Program}{gl:Nat→Option Nat}{b:bm}{R nr nb nt:Nat}{v0 v v2:Val}(hrb:nr≤bW nb){c:Code}{tm0 tm tm2:T AV}{σ0 σ σ2:St}{e:AExit}(k:Retell gl b R nr nb v0 tm0 σ0 v tm σ)(h:HT P gl b R nr nb nt v c tm σ e v2 tm2 σ2):
 HT P gl b R nr nb nt v0 c tm0 σ0 e v2 tm2 σ2:=by
 intro a cs w φ ha;obtain⟨φ1,r1,r2⟩:=k _ _ _ _ ha;refine(h a cs w φ1 r1).mono fun _ _ _ _ ⟨q1,q2,φ2,q3,q4⟩=>⟨q1,q2,φ2,q3,r2.trans hrb q4⟩
section
variable{v:Val}{fa fb:Nat}
end
def Sx.okB(nv nf:Nat):Sx→Bool
 | .lit _=>true
 | .var _=>false
 | .bin _ _ a b=>a.okB nv nf&&b.okB nv nf
 | .wrap _ a=>a.okB nv nf
 | .dvar i=>Nat.blt i nv
 | .slit _=>true
 | .pr _ a b=>a.okB nv nf&&b.okB nv nf
 | .ap f a b c=>Nat.blt f nf&&(a.okB nv nf&&(b.okB nv nf&&c.okB nv nf))
 | .cell x i _=>x.okB nv nf&&i.okB nv nf
 | .setc x i _ c=>x.okB nv nf&&(i.okB nv nf&&c.okB nv nf)
 | .dlit _=>true
def Bx.okB(nv nf:Nat):Bx→Bool
 | .cmp _ a b=>a.okB nv nf&&b.okB nv nf
 | .not b=>b.okB nv nf
 | .seq a b=>a.okB nv nf&&b.okB nv nf
def ST.okB(nv nf:Nat):ST→Bool
 | .leaf l=>l.all (Sx.okB nv nf)
 | .ask b t e=>b.okB nv nf&&(t.okB nv nf&&e.okB nv nf)
 | .none=>true
section
variable{v v2:Val}{nv nf:Nat}
theorem Sx.okB_dat(hd:∀i,i<nv→v.dat i=v2.dat i)(hf:∀f,f<nf→v.fn f=v2.fn f):∀{e:Sx},e.okB nv nf=true→@Sx.dat v e=@Sx.dat v2 e:=by
 intro e
 induction e with
 |lit n=>intro _;rfl
 |var i=>intro h;cases h
 |bin op k a b ih1 ih2=>intro h;simp only[Sx.okB,ah]at h;simp only[Sx.dat,ih1 h.1,ih2 h.2]
 |wrap k a ih=>intro h;simp only[Sx.okB]at h;simp only[Sx.dat,ih h]
 |dvar i=>intro h;exact hd i (aH h)
 |slit s=>intro _;rfl
 |pr f a b ih1 ih2=>intro h;simp only[Sx.okB,ah]at h;simp only[Sx.dat,ih1 h.1,ih2 h.2]
 |ap f a b c ih1 ih2 ih3=>intro h;simp only[Sx.okB,ah]at h;simp only[Sx.dat,ih1 h.2.1,ih2 h.2.2.1,ih3 h.2.2.2];rw[hf f (aH h.1)]
 |cell x i o ih1 ih2=>intro h;simp only[Sx.okB,ah]at h;simp only[Sx.dat,ih1 h.1,ih2 h.2]
 |setc x i o c ih1 ih2 ih3=>intro h;simp only[Sx.okB,ah]at h;simp only[Sx.dat,ih1 h.1,ih2 h.2.1,ih3 h.2.2]
 |dlit d=>intro _;rfl
theorem Bx.okB_eval(hd:∀i,i<nv→v.dat i=v2.dat i)(hf:∀f,f<nf→v.fn f=v2.fn f):∀{b:Bx},b.okB nv nf=true→@Bx.eval v b=@Bx.eval v2 b:=by
 intro b
 induction b with
 |cmp op a c=>intro h;simp only[Bx.okB,ah]at h;simp only[Bx.eval,Sx.eval,Sx.okB_dat hd hf h.1,Sx.okB_dat hd hf h.2]
 |not b ih=>intro h;simp only[Bx.okB]at h;simp only[Bx.eval,ih h]
 |seq a c=>intro h;simp only[Bx.okB,ah]at h;simp only[Bx.eval,Sx.okB_dat hd hf h.1,Sx.okB_dat hd hf h.2]
theorem ST.okB_val(hd:∀i,i<nv→v.dat i=v2.dat i)(hf:∀f,f<nf→v.fn f=v2.fn f)(i:Nat):∀{t:ST},t.okB nv nf=true→t.val v i=t.val v2 i
 | .leaf l,h=>by
  simp only[ST.val];cases hi:l[i]? with
  |none=>rfl
  |some e=>exact Sx.okB_dat hd hf (List.all_eq_true.1 h e (dK hi))
 | .ask b t e,h=>by simp only[ST.okB,ah]at h;simp only[ST.val,Bx.okB_eval hd hf h.1,ST.okB_val hd hf i h.2.1,ST.okB_val hd hf i h.2.2]
 | .none,_=>rfl
end
theorem yp{v:Val}{e:Sx}(h:intS? e=true):@Sx.dat v e=.int (@Sx.dat v e).toI:=by cases e<;>simp only[intS?,bF]at h;{rfl};have:=ab h;subst this;rfl
end Go.Tw
namespace Go.Tw
def DT.deadsIn(q:Nat→Prop):DT→Prop
 | .leaf=>True
 | .ask _ t e=>t.deadsIn q∧e.deadsIn q
 | .dead i=>q i
theorem wQ{v:Val}{cores:List aY}{i:Nat}{p:aY}(h:nR cores i p=true)(hp:@Holds v p):∃c,cores[i]? =some c∧@Holds v c:=by unfold nR at h;split at h;{rename_i c hc;refine⟨c,hc,fun q hq=> ?_⟩;have:=List.all_eq_true.1 h q hq;split at this;{rename_i x hx;rw[@eO v _ hp _ _ hx];exact fy this};cases this};cases h
theorem DT.ok2{P:Program}{gl:Nat→Option Nat}{b:bm}{R nr nb nt:Nat}{v v2:Val}(hb:BaseOk gl b R)(hrb:nr≤bW nb){F:Nat→Dat→Dat→Dat→Dat}(hF:v.fn=F){cons:List Con}(hc:∀c∈cons,c.Sound F P gl b R)
 (hm:P.follows .mixedOrders=true){n:Nat}{c:Code}{l:List (Nat×AV)}{o:List (Nat×Ob)}{nx:Nat}{e:AExit}{l':List (Nat×AV)}{o':List (Nat×Ob)}{nx':Nat}
 {cmp:Sx→Sx→Bool}(hcmp:∀a b,cmp a b=true→@Sx.dat v a=@Sx.dat v b){sp:ST}{tg:List Sx}{cores:List aY}(hsp:∀(i:Nat) (t:Sx),tg[i]? =some t→@Sx.dat v2 t=sp.val v i):
 ∀{t:DT} {p:aY},t.deadsIn (fun i=>∀c,cores[i]? =some c→¬@Holds v c)→t.chk cmp (fun p=>kg R nr nb (exec P (bC gl b p (fF R (dR p) cons)) n nt c {tm:=aR l,ds:=[],md:=none,rd:=false} (ao b o nx)) e l' o' nx') sp tg cores p=true→@Holds v p→
  HT P gl b R nr nb nt v c (aR l) (ao b o nx) e v2 (aR l') (ao b o' nx')
 | .leaf,p,_,h,hp=>by simp only[DT.chk]at h;split at h;{rename_i pl E h1 h2;exact HT.leaf hb hrb hp (gF cons) (kP hb hp hF hc) hm h2 (qF hcmp h fun i t ht=>(hsp i t ht).trans (ST.at_val (fun b x hx=>@eO v _ hp _ _ hx) h1 i))};cases h
 | .ask q t f,p,hd,h,hp=>by
  simp only[DT.chk,ah]at h;cases hq:@Bx.eval v q with
  |true=>exact DT.ok2 hb hrb hF hc hm hcmp hsp hd.1 h.1 (@Holds.cons v _ _ _ hq hp)
  |false=>exact DT.ok2 hb hrb hF hc hm hcmp hsp hd.2 h.2 (@Holds.cons v _ _ _ hq hp)
 | .dead i,p,hd,h,hp=>by obtain⟨c,h1,h2⟩:=wQ h hp;exact absurd h2 (hd c h1)
end Go.Tw
set_option linter.unusedVariables false
namespace Go.Tw
noncomputable section
abbrev Fn:Type:=Nat→Dat→Dat→Dat→Dat
abbrev VL(F:Fn)(l:List Dat):Val:=Val.mk (fun _=>0) (fun i=>match l[i]? with
 |some d=>d
 |none=>.int 0) F
def ST.nxt(sp:ST)(F:Fn)(m:Nat)(s:List Dat):List Dat:=(List.range m).map fun i=>sp.val (VL F s) (i+1)
def ST.flg(sp:ST)(F:Fn)(s:List Dat):Int:=(sp.val (VL F s) 0).toI
def ST.it(sp:ST)(F:Fn)(m:Nat):Nat→List Dat→List Dat
 |0,s=>s
 |k+1,s=>sp.nxt F m (sp.it F m k s)
def mE:Sx→Sx
 | .pr f x y=>bif Nat.beq f 30 then mE x else .pr f x y
 |x=>x
theorem jW(v:Val):∀e:Sx,(@Sx.dat v (mE e)).toI=(@Sx.dat v e).toI
 | .pr f x y=>by simp only[mE,ag];split;{rename_i h;have:=ab h;subst this;exact(jW v x).trans rfl};rfl
 | .lit _=>rfl
 | .var _=>rfl
 | .bin .. =>rfl
 | .wrap .. =>rfl
 | .dvar _=>rfl
 | .slit _=>rfl
 | .ap .. =>rfl
 | .cell .. =>rfl
 | .setc .. =>rfl
 | .dlit _=>rfl
def A6(a t:Sx):Bool:=bif a.same t then true else match t with
 | .pr f x y=>(Nat.beq f 30&&(intS? a&&(mE a).same (mE x)))||(Nat.beq f 21&&(boolS? x&&(a.same x&&y.same (.lit 0))))
 |_=>false
theorem wW{v:Val}{x:Sx}(h:boolS? x=true):@Sx.dat v x=.int (dF ((@Sx.dat v x).toI != 0)):=by
 have key:∀b:Bool,Dat.int (dF b)=Dat.int (dF ((dF b) != 0)):=fun b=>by cases b<;>rfl
 cases x with
 |lit n=>
  cases n with
  |ofNat n=>have:=ak h;rcases Nat.le_one_iff_eq_zero_or_eq_one.1 this with rfl|rfl<;>rfl
  |negSucc n=>cases h
 |pr f a b=>
  simp only[boolS?,ah]at h;have h1:=ak h.1;have h2:=ak h.2
  match f,h1,h2 with
  |20,_,_=>exact key _
  |21,_,_=>exact key _
  |22,_,_=>exact key _
  |23,_,_=>exact key _
  |24,_,_=>exact key _
  |25,_,_=>exact key _
  |26,_,_=>exact key _
  |27,_,_=>exact key _
  |28,_,_=>exact key _
  |29,_,_=>exact key _
  |f+30,_,h2=>omega
 |_=>cases h
theorem zY{v:Val}{a t:Sx}(h:A6 a t=true):@Sx.dat v a=@Sx.dat v t:=by
 unfold A6 at h;rw[ag]at h;split at h;{rename_i hs;rw[Sx.same_eq hs]};cases t with
 |pr f x y=>simp only[cS,ah]at h;rcases h with⟨h1,h2,h3⟩|⟨h1,h2,h3,h4⟩;{have:=ab h1;subst this;rw[yp h2];show _=Dat.int (@Sx.dat v x).toI;rw[←jW v a,←jW v x,Sx.same_eq h3]};have:=ab h1;subst this;have:=Sx.same_eq h3;subst this;have:=Sx.same_eq h4;subst this;exact wW h2
 |_=>cases h
def iO:List Sx→Nat→Sx
 |[],_=>.lit 0
 |x::l,i=>bif Nat.beq i 0 then x else iO l (Nat.pred i)
theorem kr:∀(l:List Sx) (i:Nat),iO l i=(l[i]?).getD (.lit 0)
 |[],_=>rfl
 |x::l,0=>rfl
 |x::l,i+1=>by show iO l i=_;rw[kr l i];rfl
def tO(xs:List Sx)(E:bA):Bool:=E.all fun q=>A6 q.1 (q.2.sub (iO xs))
theorem pd{F:Fn}{s:List Dat}{xs:List Sx}{E:bA}(h:tO xs E=true):EqsOk (VL F s) (VL F (xs.map (@Sx.dat (VL F s)))) E:=fun q hq=>by
 have h1:=zY (v:=VL F s) (List.all_eq_true.1 h q hq);rw[h1,Sx.sub_dat];have e:(VL F s).at (iO xs)=VL F (xs.map (@Sx.dat (VL F s))):=by
  have e2:(fun i=>@Sx.dat (VL F s) (iO xs i))=fun i=>match(xs.map (@Sx.dat (VL F s)))[i]? with
   |some d=>d
   |none=>.int 0:=by
   funext i;rw[kr,List.getElem?_map];cases xs[i]? <;>rfl
  show Val.mk (fun _=>0) (fun i=>@Sx.dat (VL F s) (iO xs i)) F=_;rw[e2]
 rw[e]
def Bq:List RE→Nat→Bool
 |[],_=>false
 |r::l,i=>Nat.beq r.idn i||Bq l i
def z8(R:Nat)(r:List RE)(e:RE):List RE:=bif Nat.blt e.idn R||Bq r e.idn then r else r++[e]
def Ap(R t:Nat)(r:List RE)(x y:AV):List RE:=match x,y with
 | .ptr i _ _ _,.ptr a _ _ _=>z8 R r {idn:=i,ido:=a,ver:=0}
 | .opq k i _ _ _ _,.opq k2 a v _ _ _=>bif Nat.beq k k2 then z8 R r {idn:=i,ido:=a,ver:=bif Nat.beq k 2 then v else 0}else r
 | .opq k i _ _ _ _,.slc a v _ len _ esz=>bif Nat.beq k 2&&Nat.blt 0 len then z8 R r {idn:=i,ido:=a,ver:=v,n:=len*esz,t:=t}else r
 | .opq k i _ _ _ _,.map a=>bif Nat.beq k 4 then z8 R r {idn:=i,ido:=a,ver:=0}else r
 |_,_=>r
def px(R t:Nat):List RE→List AV→List AV→List RE
 |r,x::l,y::m=>px R t (Ap R t r x y) l m
 |r,_,_=>r
def Ao(R:Nat)(tm:T AV):List RE→List (Nat×AV)→List RE
 |r,[]=>r
 |r,(t,x)::l=>Ao R tm (match tm.get t with
  |some y=>(match x,y with
   | .agg a,.agg b=>px R t r a b
   | .tup a,.tup b=>px R t r a b
   | .fn _ a b,.fn _ c d=>px R t (px R t r a c) b d
   |x,y=>Ap R t r x y)
  |none=>r) l
def yS(R:Nat)(h:T Ob):List RE→List (Nat×Ob)→List RE
 |r,[]=>r
 |r,(i,o)::l=>yS R h (match o,iK r i with
  | .box c _,some e=>(match h.get e.ido with
   |some (.box c2 _)=>px R 0 r c c2
   |_=>r)
  |_,_=>r) l
def Bi(R:Nat)(tm:T AV)(h:T Ob)(l':List (Nat×AV))(o':List (Nat×Ob))(pins:List RE):List RE:=yS R h (yS R h (Ao R tm pins l') o') o'
def fN(R nr nb:Nat)(pins:List RE)(x:XR)(e:AExit)(tm':List (Nat×AV))(objs':List (Nat×Ob))(nx':Nat):Option bA:=match x with
 | .ok e' env σ=>bif pC R nr e e' env σ then dD R nb (Bi R env.tm σ.heap tm' objs' pins) (zX σ.bare env.tm (Bi R env.tm σ.heap tm' objs' pins) tm' objs') env.tm σ.bare tm' objs' nx' else none
 |_=>none
def mn(cores:List aY)(p:aY):Bool:=cores.any fun c=>c.all fun q=>match dR p q.1 with
 |some x=>jT x q.2
 |none=>false
theorem iC{v:Val}{cores:List aY}{p:aY}(h:mn cores p=true)(hp:@Holds v p):∃c∈cores,@Holds v c:=by obtain⟨c,hc,h⟩:=List.any_eq_true.1 h;refine⟨c,hc,fun q hq=> ?_⟩;have:=List.all_eq_true.1 h q hq;split at this;{rename_i x hx;rw[@eO v _ hp _ _ hx];exact fy this};cases this
def ST.chkW(fin:aY→Option bA)(w:Nat)(m:Nat)(cores:List aY):ST→aY→Bool
 | .leaf l,p=>match l with
  | .lit n::xs=>bif jO n (Int.ofNat w)then Nat.beq xs.length m&&(match fin p with
   |some E=>tO xs E
   |Option.none=>false)else true
  |_=>false
 | .ask b t e,p=>ST.chkW fin w m cores t ((b,true)::p)&&ST.chkW fin w m cores e ((b,false)::p)
 | .none,p=>mn cores p
section
variable{P:Program}{gl:Nat→Option Nat}{b:bm}{R nr nb nt:Nat}
theorem HT.leafX{v v2:Val}(hb:BaseOk gl b R)(hrb:nr≤bW nb){p:aY}(hp:@Holds v p){hk:FuncId→List AV→St→CR}(hs:bq (bC gl b p hk))(hh:@iP v P R (bC gl b p hk))
 (hm:P.follows .mixedOrders=true){n:Nat}{c:Code}{tm:T AV}{σ:St}{pins:List RE}{e:AExit}{tm':List (Nat×AV)}{objs':List (Nat×Ob)}{nx':Nat}{E:bA}
 (h:fN R nr nb pins (exec P (bC gl b p hk) n nt c {tm:=tm,ds:=[],md:=none,rd:=false} σ) e tm' objs' nx'=some E)(hE:EqsOk v v2 E):HT P gl b R nr nb nt v c tm σ e v2 (aR tm') (ao b objs' nx'):=by
 unfold fN at h;split at h
 ·rename_i e' env σ' hx;rw[ag]at h;split at h
  ·rename_i hg;simp only[pC,ah]at hg;obtain⟨⟨⟨h1,h0⟩,h2⟩,h3⟩:=hg;obtain⟨rfl,hn⟩:=kL h1;have hd:env.ds=[]:=by
    split at h2;{assumption};cases h2
   have hmd:env.md=none:=(by split at h3;{assumption};cases h3);exact(ly hp hs hh hm hx hn hd hmd (fun i hi=>ak (List.all_eq_true.1 h0 i hi))).ht hrb (aP hb h hE)
  cases h
 cases h
theorem ST.chkW_ok(hb:BaseOk gl b R)(hrb:nr≤bW nb){F:Fn}{s:List Dat}{cons:List Con}(hc:∀c∈cons,c.Sound F P gl b R){hcons:List HCon}(hhc:∀c∈hcons,c.Sound F P gl b R)
 (hm:P.follows .mixedOrders=true){n:Nat}{c:Code}{l:List (Nat×AV)}{o:List (Nat×Ob)}{nx:Nat}{pins:List RE}{e:AExit}{l':List (Nat×AV)}{o':List (Nat×Ob)}{nx' w m:Nat}{cores:List aY}(hco:∀q∈cores,¬@Holds (VL F s) q):
 ∀{sp:ST} {p:aY},sp.chkW (fun p=>fN R nr nb pins (exec P (bC gl b p (l9 (fF R (dR p) cons) (eL R (dR p) hcons))) n nt c {tm:=aR l,ds:=[],md:=Option.none,rd:=false} (ao b o nx)) e l' o' nx') w m cores p=true→
  @Holds (VL F s) p→sp.flg F s=w→HT P gl b R nr nb nt (VL F s) c (aR l) (ao b o nx) e (VL F (sp.nxt F m s)) (aR l') (ao b o' nx')
 | .leaf ls,p,h,hp,hw=>by
  simp only[ST.chkW]at h;split at h
  ·rename_i f xs;have hf:f=(w:Int):=hw;have hi:jO f (Int.ofNat w)=true:=(by subst hf;show Nat.beq w w=true;exact Nat.beq_refl w);rw[hi,cond_true,ah]at h;obtain⟨h1,h2⟩:=h;split at h2
   ·rename_i E hE;have hlen:=ab h1;have e2:(ST.leaf (.lit f::xs)).nxt F m s=xs.map (@Sx.dat (VL F s)):=by
     apply List.ext_getElem?;intro i;unfold ST.nxt;rw[List.getElem?_map,List.getElem?_map];by_cases hi:i<m;{rw[List.getElem?_range hi];have hx:i<xs.length:=(by omega);simp only[Option.map_some,ST.val,List.getElem?_cons_succ,bn hx]};have hx:xs.length≤i:=(by omega);rw[bH (by simpa using hi),bH hx];rfl
    rw[e2];exact HT.leafX hb hrb hp (rJ (gF cons) (kH fun c h=>(hhc c h).1)) (Ae (kP hb hp rfl hc) (pf hb hp rfl hhc)) hm hE (pd h2)
   cases h2
  cases h
 | .ask q t f,p,h,hp,hw=>by
  simp only[ST.chkW,ah]at h;cases hq:@Bx.eval (VL F s) q with
  |true=>have e1:∀i,(ST.ask q t f).val (VL F s) i=t.val (VL F s) i:=fun i=>(by simp only[ST.val,hq,cond_true]);have e2:(ST.ask q t f).nxt F m s=t.nxt F m s:=(by unfold ST.nxt;simp only[e1]);rw[e2];exact ST.chkW_ok hb hrb hc hhc hm hco h.1 (@Holds.cons (VL F s) _ _ _ hq hp) (by rw[←hw];unfold ST.flg;rw[e1])
  |false=>have e1:∀i,(ST.ask q t f).val (VL F s) i=f.val (VL F s) i:=fun i=>(by simp only[ST.val,hq,cond_false]);have e2:(ST.ask q t f).nxt F m s=f.nxt F m s:=(by unfold ST.nxt;simp only[e1]);rw[e2];exact ST.chkW_ok hb hrb hc hhc hm hco h.2 (@Holds.cons (VL F s) _ _ _ hq hp) (by rw[←hw];unfold ST.flg;rw[e1])
 | .none,p,h,hp,_=>by obtain⟨c,h1,h2⟩:=iC h hp;exact absurd h2 (hco c h1)
end
structure Tl where
 l:List (Nat×AV)
 o:List (Nat×Ob)
 nx:Nat
def yM(P:Program)(gl:Nat→Option Nat)(b:bm)(R nr nb nt:Nat)(cons:List Con)(hcons:List HCon)(pins:List RE)(c:Code)(A:Tl)(sp:ST)(m:Nat)(cores:List aY)(inv:aY)(w:Nat)(e:AExit)(B:Tl):Bool:=
 sp.chkW (fun p=>fN R nr nb pins (exec P (bC gl b p (l9 (fF R (dR p) cons) (eL R (dR p) hcons))) 1000 nt c {tm:=aR A.l,ds:=[],md:=none,rd:=false} (ao b A.o A.nx)) e B.l B.o B.nx) w m cores inv
def ST.flags(n:Nat):ST→Bool
 | .leaf l=>match l with
  | .lit (.ofNat k)::_=>Nat.blt k n
  |_=>false
 | .ask _ t e=>ST.flags n t&&ST.flags n e
 | .none=>true
theorem ST.flags_ok{F:Fn}{n:Nat}{s:List Dat}(hn:0<n):∀{sp:ST},sp.flags n=true→∃k,k<n∧sp.flg F s=(k:Nat)
 | .leaf l,h=>by simp only[ST.flags]at h;split at h;{rename_i k xs;exact⟨k,aH h,rfl⟩};cases h
 | .ask q t f,h=>by
  simp only[ST.flags,ah]at h;cases hq:@Bx.eval (VL F s) q with
  |true=>obtain⟨k,h1,h2⟩:=ST.flags_ok (F:=F) (s:=s) hn h.1;exact⟨k,h1,by rw[←h2];unfold ST.flg;simp only[ST.val,hq,cond_true]⟩
  |false=>obtain⟨k,h1,h2⟩:=ST.flags_ok (F:=F) (s:=s) hn h.2;exact⟨k,h1,by rw[←h2];unfold ST.flg;simp only[ST.val,hq,cond_false]⟩
 | .none,_=>⟨0,hn,rfl⟩
def ST.tr(sp:ST)(F:Fn)(m:Nat)(s:List Dat):Nat×List Dat:=((sp.flg F s).toNat,sp.nxt F m s)
def ST.stop(sp:ST)(F:Fn)(m:Nat)(fu:Nat)(s:List Dat):Nat:=match(List.range fu).find? fun k=>decide (sp.flg F (sp.it F m k s)≠0)with
 |some k=>k
 |Option.none=>fu
def ST.lp(sp:ST)(F:Fn)(m:Nat)(fu:List Dat→Nat)(s:List Dat):Nat×List Dat:=
 (if sp.flg F (sp.it F m (sp.stop F m (fu s) s) s)=1 then 1 else 0,sp.nxt F m (sp.it F m (sp.stop F m (fu s) s) s))
def aD(f g:List Dat→Nat×List Dat)(s:List Dat):Nat×List Dat:=if(f s).1=0 then g (f s).2 else f s
section
variable(P:Program)(gl:Nat→Option Nat)(b:bm)(R nr nb nt:Nat)(F:Fn)
abbrev Ar(s:List Dat)(c:Code)(A:Tl)(e:AExit)(s':List Dat)(B:Tl):Prop:=HT P gl b R nr nb nt (VL F s) c (aR A.l) (ao b A.o A.nx) e (VL F s') (aR B.l) (ao b B.o B.nx)
def Pcs(J:List Dat→Prop)(c:Code)(A B Rt:Tl)(f:List Dat→Nat×List Dat):Prop:=
 ∀s,J s→((f s).1=0∧Ar P gl b R nr nb nt F s c A .normal (f s).2 B)∨((f s).1=1∧Ar P gl b R nr nb nt F s c A .ret (f s).2 Rt)
end
section
variable{P:Program}{gl:Nat→Option Nat}{b:bm}{R nr nb nt:Nat}{F:Fn}{J J2:List Dat→Prop}{A B C Rt:Tl}{f g:List Dat→Nat×List Dat}{c c1 c2:Code}
theorem Pcs.seq(hrb:nr≤bW nb)(h1:Pcs P gl b R nr nb nt F J c1 A B Rt f)(hJ:∀s,J s→(f s).1=0→J2 (f s).2)(h2:Pcs P gl b R nr nb nt F J2 c2 B C Rt g):Pcs P gl b R nr nb nt F J (.seq c1 c2) A C Rt (aD f g):=fun s hs=>by unfold aD;rcases h1 s hs with⟨k1,k2⟩|⟨k1,k2⟩;{rw[if_pos k1];rcases h2 _ (hJ s hs k1)with⟨q1,q2⟩|⟨q1,q2⟩;{exact .inl ⟨q1,HT.seq hrb k2 q2⟩};exact .inr ⟨q1,HT.seq hrb k2 q2⟩};rw[if_neg (by omega)];exact .inr ⟨k1,HT.seq_out k2 (by simp)⟩
theorem Pcs.weak{J':List Dat→Prop}(h:Pcs P gl b R nr nb nt F J c A B Rt f)(hJ:∀s,J' s→J s):Pcs P gl b R nr nb nt F J' c A B Rt f:=fun s hs=>h s (hJ s hs)
theorem Pcs.tree(hb:BaseOk gl b R)(hrb:nr≤bW nb){cons:List Con}(hc:∀c∈cons,c.Sound F P gl b R){hcons:List HCon}(hhc:∀c∈hcons,c.Sound F P gl b R)(hm:P.follows .mixedOrders=true)
 {pins:List RE}{sp:ST}{m:Nat}{cores:List aY}{inv:aY}(hco:∀s,J s→∀q∈cores,¬@Holds (VL F s) q)(hinv:∀s,J s→@Holds (VL F s) inv)(hfl:sp.flags 2=true)
 (h0:yM P gl b R nr nb nt cons hcons pins c A sp m cores inv 0 .normal B=true)(h1:yM P gl b R nr nb nt cons hcons pins c A sp m cores inv 1 .ret Rt=true):Pcs P gl b R nr nb nt F J c A B Rt (sp.tr F m):=fun s hs=>by
 obtain⟨k,hk,hk2⟩:=ST.flags_ok (F:=F) (s:=s) (by decide) hfl
 match k,hk with
 |0,_=>exact .inl ⟨by unfold ST.tr;rw[hk2];rfl,ST.chkW_ok hb hrb hc hhc hm (hco s hs) h0 (hinv s hs) hk2⟩
 |1,_=>exact .inr ⟨by unfold ST.tr;rw[hk2];rfl,ST.chkW_ok hb hrb hc hhc hm (hco s hs) h1 (hinv s hs) hk2⟩
theorem ST.stop_ok{sp:ST}{m fu:Nat}{s:List Dat}(h:∃k,k≤fu∧sp.flg F (sp.it F m k s)≠0):(∀k,k<sp.stop F m fu s→sp.flg F (sp.it F m k s)=0)∧sp.flg F (sp.it F m (sp.stop F m fu s) s)≠0∧sp.stop F m fu s≤fu:=by
 unfold ST.stop;split;{rename_i k hk;obtain⟨h1,h2,h3⟩:=List.find?_range_eq_some.1 hk;refine⟨fun j hj=> ?_,of_decide_eq_true h1,Nat.le_of_lt (List.mem_range.1 h2)⟩;have:=h3 j hj;simpa using this};rename_i hk;have hall:∀j,j<fu→sp.flg F (sp.it F m j s)=0:=fun j hj=>by have:=List.find?_eq_none.1 hk j (List.mem_range.2 hj);simpa using this
 obtain⟨k,hk1,hk2⟩:=h;rcases Nat.eq_or_lt_of_le hk1 with rfl|hlt;{exact⟨hall,hk2,aw _⟩};exact absurd (hall k hlt) hk2
theorem Pcs.loop(hb:BaseOk gl b R)(hrb:nr≤bW nb){cons:List Con}(hc:∀c∈cons,c.Sound F P gl b R){hcons:List HCon}(hhc:∀c∈hcons,c.Sound F P gl b R)(hm:P.follows .mixedOrders=true)
 {K:Nat→List Dat→Prop}{id:Nat}{pins:List RE}{sp:ST}{m:Nat}{fu:List Dat→Nat}{cores:List aY}{inv:aY}(hco:∀k s,K k s→∀q∈cores,¬@Holds (VL F s) q)(hinv:∀k s,K k s→@Holds (VL F s) inv)(hfl:sp.flags 3=true)
 (hJ:∀k s,K k s→sp.flg F s=0→K (k+1) (sp.nxt F m s))(hterm:∀s,K 0 s→∃k,k≤fu s∧sp.flg F (sp.it F m k s)≠0)
 (h0:yM P gl b R nr nb nt cons hcons pins c A sp m cores inv 0 .normal A=true)(h1:yM P gl b R nr nb nt cons hcons pins c A sp m cores inv 1 .ret Rt=true)(h2:yM P gl b R nr nb nt cons hcons pins c A sp m cores inv 2 (.exit id) B=true):
 Pcs P gl b R nr nb nt F (K 0) (.block id (.loop c)) A B Rt (sp.lp F m fu):=fun s hs=>by
 obtain⟨a1,a2,a3⟩:=ST.stop_ok (hterm s hs);have hJk:∀k,k≤sp.stop F m (fu s) s→K k (sp.it F m k s):=fun k=>by
  induction k with
  |zero=>intro _;exact hs
  |succ k ih=>intro hk;exact hJ _ _ (ih (by omega)) (a1 k (by omega))
 have hround:∀k,k<sp.stop F m (fu s) s→Ar P gl b R nr nb nt F (sp.it F m k s) c A .normal (sp.it F m (k+1) s) A:=fun k hk=>
  ST.chkW_ok hb hrb hc hhc hm (hco _ _ (hJk k (by omega))) h0 (hinv _ _ (hJk k (by omega))) (a1 k hk)
 have hlast:=hJk _ (aw _);obtain⟨k,hk,hk2⟩:=ST.flags_ok (F:=F) (s:=sp.it F m (sp.stop F m (fu s) s) s) (by decide) hfl
 match k,hk with
 |0,_=>exact absurd hk2 a2
 |1,_=>refine .inr ⟨by unfold ST.lp;rw[hk2];rfl,HT.block_out (HT.loop hrb (sp.stop F m (fu s) s) (fun k=>VL F (sp.it F m k s)) hround (ST.chkW_ok hb hrb hc hhc hm (hco _ _ hlast) h1 (hinv _ _ hlast) hk2) (by simp)) (by simp)⟩
 |2,_=>refine .inl ⟨by unfold ST.lp;rw[hk2];rfl,HT.block (HT.loop hrb (sp.stop F m (fu s) s) (fun k=>VL F (sp.it F m k s)) hround (ST.chkW_ok hb hrb hc hhc hm (hco _ _ hlast) h2 (hinv _ _ hlast) hk2) (by simp))⟩
def BP(P:Program)(gl:Nat→Option Nat)(b:bm)(R nr nb nt:Nat)(F:Fn)(J:List Dat→Prop)(c:Code)(A Rt:Tl)(f:List Dat→Nat×List Dat):Prop:=∀s,J s→(f s).1=1∧Ar P gl b R nr nb nt F s c A .ret (f s).2 Rt
theorem Pcs.ret(h:Pcs P gl b R nr nb nt F J c A B Rt f)(h1:∀s,J s→(f s).1=1):BP P gl b R nr nb nt F J c A Rt f:=fun s hs=>by rcases h s hs with⟨k1,_⟩|⟨k1,k2⟩;{rw[h1 s hs]at k1;cases k1};exact⟨k1,k2⟩
end
end
end Go.Tw
set_option linter.unusedVariables false
namespace Go.Tw
noncomputable section
def aJ(s:List Dat)(i:Nat):Dat:=match s[i]? with
 |some d=>d
 |none=>.int 0
where litN:Sx→Option Nat
 | .pr f a b=>bif Nat.beq f 13 then some 0 else bif Nat.beq f 12 then some 1 else bif Nat.beq f 9 then(match litN a,litN b with
  |some p,some q=>some (p+q)
  |_,_=>none)else none
 |_=>none
theorem AK{sp:ST}{F:Fn}{m i:Nat}{s:List Dat}(h:i<m):aJ (sp.nxt F m s) i=sp.val (VL F s) (i+1):=by unfold aJ ST.nxt;rw[List.getElem?_map,List.getElem?_range h];rfl
section
variable{P:Program}{gl:Nat→Option Nat}{b:bm}{R nr nb nt:Nat}{F:Fn}{A B Rt:Tl}{c:Code}
end
theorem ST.val_congr{F G:Fn}{nv nf:Nat}(h:∀f,f<nf→F f=G f){sp:ST}(ho:sp.okB nv nf=true)(s:List Dat)(i:Nat):sp.val (VL F s) i=sp.val (VL G s) i:=
 ST.okB_val (v:=VL F s) (v2:=VL G s) (nv:=nv) (nf:=nf) (fun _ _=>rfl) (fun f hf=>h f hf) i ho
theorem ST.tr_congr{F G:Fn}{nv nf m:Nat}(h:∀f,f<nf→F f=G f){sp:ST}(ho:sp.okB nv nf=true):sp.tr F m=sp.tr G m:=by funext s;unfold ST.tr ST.flg ST.nxt;simp only[ST.val_congr h ho]
end
end Go.Tw
set_option linter.unusedVariables false
namespace Go.Tw
noncomputable section
def cl:Code→Code
 | .seq a _=>a
 | .block _ a=>a
 | .loop a=>a
 | .scope a=>a
 | .cond _ a _=>a
 |c=>c
def cr:Code→Code
 | .seq _ b=>b
 | .cond _ _ b=>b
 |c=>c
def dZ:Nat→AExit
 |0=>.normal
 |1=>.ret
 |k+2=>.exit k
theorem ph{w:Nat}(h:w≠0):dZ w≠.normal:=by
 match w,h with
 |1,_=>simp [dZ]
 |k+2,_=>simp [dZ]
theorem ss{w id:Nat}(h:w≠id+2):dZ w≠.exit id:=by
 match w,h with
 |0,_=>simp [dZ]
 |1,_=>simp [dZ]
 |k+2,h=>simp only[dZ];intro h';cases h';exact h rfl
def gS(B:Tl)(T:Nat→Tl):Nat→Tl
 |0=>B
 |w+1=>T (w+1)
theorem mN{B C:Tl}{T:Nat→Tl}{w:Nat}(h:w≠0):gS B T w=gS C T w:=by
 match w,h with
 |w+1,_=>rfl
theorem xn{B:Tl}{T:Nat→Tl}{w:Nat}(h:w≠0):gS B T w=T w:=by
 match w,h with
 |w+1,_=>rfl
def ST.chkX(fin:Nat→aY→Option bA)(m:Nat)(cores:List aY):ST→aY→Bool
 | .leaf l,p=>match l with
  | .lit (.ofNat w)::xs=>Nat.beq xs.length m&&(match fin w p with
   |some E=>tO xs E
   |Option.none=>false)
  |_=>false
 | .ask b t e,p=>ST.chkX fin m cores t ((b,true)::p)&&ST.chkX fin m cores e ((b,false)::p)
 | .none,p=>mn cores p
abbrev fA:Type:=List Dat→Nat×List Dat
section
variable(P:Program)(gl:Nat→Option Nat)(b:bm)(R nr nb nt:Nat)(F:Fn)
def PX(J:List Dat→Prop)(c:Code)(A B:Tl)(T:Nat→Tl)(f:fA):Prop:=
 ∀s,J s→Ar P gl b R nr nb nt F s c A (dZ (f s).1) (f s).2 (gS B T (f s).1)
def chkX(cons:List Con)(hcons:List HCon)(pins:List RE)(c:Code)(A B:Tl)(T:Nat→Tl)(sp:ST)(m:Nat)(cores:List aY)(inv:aY):Bool:=
 sp.chkX (fun w p=>fN R nr nb pins (exec P (bC gl b p (l9 (fF R (dR p) cons) (eL R (dR p) hcons))) 1000 nt c {tm:=aR A.l,ds:=[],md:=none,rd:=false} (ao b A.o A.nx)) (dZ w) (gS B T w).l (gS B T w).o (gS B T w).nx) m cores inv
end
section
variable{P:Program}{gl:Nat→Option Nat}{b:bm}{R nr nb nt:Nat}{F:Fn}
theorem ST.chkX_ok(hb:BaseOk gl b R)(hrb:nr≤bW nb){s:List Dat}{cons:List Con}(hc:∀c∈cons,c.Sound F P gl b R){hcons:List HCon}(hhc:∀c∈hcons,c.Sound F P gl b R)
 (hm:P.follows .mixedOrders=true){n:Nat}{c:Code}{l:List (Nat×AV)}{o:List (Nat×Ob)}{nx:Nat}{pins:List RE}{B:Tl}{T:Nat→Tl}{m:Nat}{cores:List aY}(hco:∀q∈cores,¬@Holds (VL F s) q):
 ∀{sp:ST} {p:aY},sp.chkX (fun w p=>fN R nr nb pins (exec P (bC gl b p (l9 (fF R (dR p) cons) (eL R (dR p) hcons))) n nt c {tm:=aR l,ds:=[],md:=Option.none,rd:=false} (ao b o nx)) (dZ w) (gS B T w).l (gS B T w).o (gS B T w).nx) m cores p=true→
  @Holds (VL F s) p→HT P gl b R nr nb nt (VL F s) c (aR l) (ao b o nx) (dZ (sp.tr F m s).1) (VL F (sp.tr F m s).2) (aR (gS B T (sp.tr F m s).1).l) (ao b (gS B T (sp.tr F m s).1).o (gS B T (sp.tr F m s).1).nx)
 | .leaf ls,p,h,hp=>by
  simp only[ST.chkX]at h;split at h
  ·rename_i w xs;rw[ah]at h;obtain⟨h1,h2⟩:=h;have hw:((ST.leaf (.lit (.ofNat w)::xs)).tr F m s).1=w:=rfl;split at h2
   ·rename_i E hE;have hlen:=ab h1;have e2:((ST.leaf (.lit (.ofNat w)::xs)).tr F m s).2=xs.map (@Sx.dat (VL F s)):=by
     apply List.ext_getElem?;intro i;unfold ST.tr ST.nxt;rw[List.getElem?_map,List.getElem?_map];by_cases hi:i<m;{rw[List.getElem?_range hi];have hx:i<xs.length:=(by omega);simp only[Option.map_some,ST.val,List.getElem?_cons_succ,bn hx]};have hx:xs.length≤i:=(by omega);rw[bH (by simpa using hi),bH hx];rfl
    rw[hw,e2];exact HT.leafX hb hrb hp (rJ (gF cons) (kH fun c h=>(hhc c h).1)) (Ae (kP hb hp rfl hc) (pf hb hp rfl hhc)) hm hE (pd h2)
   cases h2
  cases h
 | .ask q t f,p,h,hp=>by
  simp only[ST.chkX,ah]at h;cases hq:@Bx.eval (VL F s) q with
  |true=>have e1:∀i,(ST.ask q t f).val (VL F s) i=t.val (VL F s) i:=fun i=>(by simp only[ST.val,hq,cond_true]);have e2:(ST.ask q t f).tr F m s=t.tr F m s:=(by unfold ST.tr ST.flg ST.nxt;simp only[e1]);rw[e2];exact ST.chkX_ok hb hrb hc hhc hm hco h.1 (@Holds.cons (VL F s) _ _ _ hq hp)
  |false=>have e1:∀i,(ST.ask q t f).val (VL F s) i=f.val (VL F s) i:=fun i=>(by simp only[ST.val,hq,cond_false]);have e2:(ST.ask q t f).tr F m s=f.tr F m s:=(by unfold ST.tr ST.flg ST.nxt;simp only[e1]);rw[e2];exact ST.chkX_ok hb hrb hc hhc hm hco h.2 (@Holds.cons (VL F s) _ _ _ hq hp)
 | .none,p,h,hp=>by obtain⟨c,h1,h2⟩:=iC h hp;exact absurd h2 (hco c h1)
variable{J J2:List Dat→Prop}{A B C:Tl}{T:Nat→Tl}{f g:fA}{c c1 c2:Code}
theorem PX.tree(hb:BaseOk gl b R)(hrb:nr≤bW nb)(hm:P.follows .mixedOrders=true){cons:List Con}(hc:∀c∈cons,c.Sound F P gl b R){hcons:List HCon}(hhc:∀c∈hcons,c.Sound F P gl b R)
 {pins:List RE}{sp:ST}{m:Nat}{cores:List aY}{inv:aY}(hco:∀s,J s→∀q∈cores,¬@Holds (VL F s) q)(hinv:∀s,J s→@Holds (VL F s) inv)
 (h:chkX P gl b R nr nb nt cons hcons pins c A B T sp m cores inv=true):PX P gl b R nr nb nt F J c A B T (sp.tr F m):=fun s hs=>
 ST.chkX_ok hb hrb hc hhc hm (hco s hs) h (hinv s hs)
theorem PX.weak{J':List Dat→Prop}(h:PX P gl b R nr nb nt F J c A B T f)(hJ:∀s,J' s→J s):PX P gl b R nr nb nt F J' c A B T f:=fun s hs=>h s (hJ s hs)
theorem PX.seq(hrb:nr≤bW nb)(h1:PX P gl b R nr nb nt F J c1 A B T f)(hJ:∀s,J s→(f s).1=0→J2 (f s).2)(h2:PX P gl b R nr nb nt F J2 c2 B C T g):PX P gl b R nr nb nt F J (.seq c1 c2) A C T (aD f g):=fun s hs=>by have k1:=h1 s hs;unfold aD;by_cases h0:(f s).1=0;{rw[if_pos h0];rw[h0]at k1;exact HT.seq hrb k1 (h2 _ (hJ s hs h0))};rw[if_neg h0,←mN (B:=B) h0];exact HT.seq_out k1 (ph h0)
def ie(id:Nat)(f:fA):fA:=fun s=>if(f s).1=id+2 then(0,(f s).2)else f s
theorem PX.block{id:Nat}(h:PX P gl b R nr nb nt F J c A B T f)(hT:T (id+2)=B):PX P gl b R nr nb nt F J (.block id c) A B T (ie id f):=fun s hs=>by have k:=h s hs;unfold ie;by_cases h0:(f s).1=id+2;{rw[if_pos h0];rw[h0]at k;rw[xn (by omega),hT]at k;exact HT.block k};rw[if_neg h0];exact HT.block_out k (ss h0)
def qu(f:fA):Nat→List Dat→List Dat
 |0,s=>s
 |k+1,s=>(f (qu f k s)).2
def fX(f:fA)(fu:Nat)(s:List Dat):Nat:=match(List.range fu).find? fun k=>decide ((f (qu f k s)).1≠0)with
 |some k=>k
 |none=>fu
def fD(f:fA)(fu:List Dat→Nat):fA:=fun s=>f (qu f (fX f (fu s) s) s)
theorem iT{f:fA}{fu:Nat}{s:List Dat}(h:∃k,k≤fu∧(f (qu f k s)).1≠0):(∀k,k<fX f fu s→(f (qu f k s)).1=0)∧(f (qu f (fX f fu s) s)).1≠0∧fX f fu s≤fu:=by
 unfold fX;split;{rename_i k hk;obtain⟨h1,h2,h3⟩:=List.find?_range_eq_some.1 hk;refine⟨fun j hj=> ?_,of_decide_eq_true h1,Nat.le_of_lt (List.mem_range.1 h2)⟩;have:=h3 j hj;simpa using this};rename_i hk;have hall:∀j,j<fu→(f (qu f j s)).1=0:=fun j hj=>by have:=List.find?_eq_none.1 hk j (List.mem_range.2 hj);simpa using this
 obtain⟨k,hk1,hk2⟩:=h;rcases Nat.eq_or_lt_of_le hk1 with rfl|hlt;{exact⟨hall,hk2,aw _⟩};exact absurd (hall k hlt) hk2
theorem PX.loop(hrb:nr≤bW nb){K:Nat→List Dat→Prop}{fu:List Dat→Nat}(h:∀k,PX P gl b R nr nb nt F (K k) c A A T f)(hJ:∀k s,K k s→(f s).1=0→K (k+1) (f s).2)
 (hterm:∀s,K 0 s→∃k,k≤fu s∧(f (qu f k s)).1≠0):PX P gl b R nr nb nt F (K 0) (.loop c) A B T (fD f fu):=fun s hs=>by
 obtain⟨a1,a2,a3⟩:=iT (hterm s hs);have hJk:∀k,k≤fX f (fu s) s→K k (qu f k s):=fun k=>by
  induction k with
  |zero=>intro _;exact hs
  |succ k ih=>intro hk;exact hJ _ _ (ih (by omega)) (a1 k (by omega))
 have hround:∀k,k<fX f (fu s) s→Ar P gl b R nr nb nt F (qu f k s) c A .normal (qu f (k+1) s) A:=fun k hk=>by have:=h k _ (hJk k (by omega));rw[a1 k hk]at this;exact this
 have hlast:=h _ _ (hJk _ (aw _));unfold fD;rw[mN (C:=A) a2];exact HT.loop hrb (fX f (fu s) s) (fun k=>VL F (qu f k s)) hround hlast (ph a2)
def BS(q:Bx)(F:Fn)(f g:fA):fA:=fun s=>bif @Bx.eval (VL F s) q then f s else g s
theorem HT.cond{v v2:Val}{t:Nat}{q:Bx}{x y:Code}{tm tm2:_root_.Go.Tw.T AV}{σ σ2:St}{e:AExit}(ht:tm.get t=some (.symb q))(h:HT P gl b R nr nb nt v (if @Bx.eval v q then x else y) tm σ e v2 tm2 σ2):HT P gl b R nr nb nt v (.cond (.tmp t) x y) tm σ e v2 tm2 σ2:=by
 intro a cs w φ ha;obtain⟨x',h1,h2⟩:=ha.val _ _ ht;have hb:a.eval (.tmp t)=.bool (@Bx.eval v q):=by cases h2;simp [Act.eval,h1]
 refine jB hb ?_;exact h a cs w φ ha
theorem PX.cond{t:Nat}{q:Bx}(ht:(aR A.l).get t=some (.symb q))(h1:PX P gl b R nr nb nt F (fun s=>J s∧@Bx.eval (VL F s) q=true) c1 A B T f)(h2:PX P gl b R nr nb nt F (fun s=>J s∧@Bx.eval (VL F s) q=false) c2 A B T g):
 PX P gl b R nr nb nt F J (.cond (.tmp t) c1 c2) A B T (BS q F f g):=fun s hs=>by
 refine HT.cond (v:=VL F s) ht ?_;unfold BS;cases hq:@Bx.eval (VL F s) q with
 |true=>simp only[if_true,cond_true];exact h1 s ⟨hs,hq⟩
 |false=>simp only[bF,if_false,cond_false];exact h2 s ⟨hs,hq⟩
theorem PX.skip{B:Tl}(h:PX P gl b R nr nb nt F J c A B T f){B':Tl}(h0:∀s,J s→(f s).1≠0):PX P gl b R nr nb nt F J c A B' T f:=fun s hs=>by have:=h s hs;rw[mN (C:=B') (h0 s hs)]at this;exact this
theorem PX.ret(h:PX P gl b R nr nb nt F J c A B T f){s:List Dat}(hs:J s)(h1:(f s).1=1):Ar P gl b R nr nb nt F s c A .ret (f s).2 (T 1):=by have:=h s hs;rw[h1]at this;exact this
theorem PX.on(h:PX P gl b R nr nb nt F J c A B T f){s:List Dat}(hs:J s)(h1:(f s).1=0):Ar P gl b R nr nb nt F s c A .normal (f s).2 B:=by have:=h s hs;rw[h1]at this;exact this
end
def B0(l:List Nat)(f:fA):Prop:=∀s,(f s).1∈l
def ST.fls(l:List Nat):ST→Bool
 | .leaf x=>match x with
  | .lit (.ofNat k)::_=>l.any (Nat.beq k)
  |_=>false
 | .ask _ t e=>ST.fls l t&&ST.fls l e
 | .none=>l.any (Nat.beq 0)
theorem qT{l:List Nat}{k:Nat}(h:l.any (Nat.beq k)=true):k∈l:=by obtain⟨x,hx,he⟩:=List.any_eq_true.1 h;have:=ab he;subst this;exact hx
theorem mj{F:Fn}{m:Nat}{l:List Nat}:∀{sp:ST},sp.fls l=true→B0 l (sp.tr F m)
 | .leaf x,h,s=>by simp only[ST.fls]at h;split at h;{exact qT h};cases h
 | .ask q t e,h,s=>by
  simp only[ST.fls,ah]at h;cases hq:@Bx.eval (VL F s) q with
  |true=>have e1:((ST.ask q t e).tr F m s).1=(t.tr F m s).1:=(by unfold ST.tr ST.flg;simp only[ST.val,hq,cond_true]);rw[e1];exact mj h.1 s
  |false=>have e1:((ST.ask q t e).tr F m s).1=(e.tr F m s).1:=(by unfold ST.tr ST.flg;simp only[ST.val,hq,cond_false]);rw[e1];exact mj h.2 s
 | .none,h,s=>qT h
end
end Go.Tw
set_option linter.unusedVariables false
namespace Go.Tw
noncomputable section
def ST.flsX(l:List Nat):ST→Bool
 | .leaf x=>match x with
  | .lit (.ofNat k)::_=>l.any (Nat.beq k)
  |_=>false
 | .ask _ t e=>ST.flsX l t&&ST.flsX l e
 | .none=>true
def ST.deadsOk(cores:List aY):ST→aY→Bool
 | .leaf _,_=>true
 | .ask b t e,p=>ST.deadsOk cores t ((b,true)::p)&&ST.deadsOk cores e ((b,false)::p)
 | .none,p=>mn cores p
theorem qD{F:Fn}{s:List Dat}{m:Nat}{cores:List aY}{l:List Nat}(hco:∀q∈cores,¬@Holds (VL F s) q):∀{sp:ST} {p:aY},sp.deadsOk cores p=true→sp.flsX l=true→@Holds (VL F s) p→(sp.tr F m s).1∈l
 | .leaf x,p,_,h,_=>by simp only[ST.flsX]at h;split at h;{exact qT h};cases h
 | .ask q t e,p,h1,h2,hp=>by
  simp only[ST.deadsOk,ah]at h1;simp only[ST.flsX,ah]at h2;cases hq:@Bx.eval (VL F s) q with
  |true=>have e1:((ST.ask q t e).tr F m s).1=(t.tr F m s).1:=(by unfold ST.tr ST.flg;simp only[ST.val,hq,cond_true]);rw[e1];exact qD hco h1.1 h2.1 (@Holds.cons (VL F s) _ _ _ hq hp)
  |false=>have e1:((ST.ask q t e).tr F m s).1=(e.tr F m s).1:=(by unfold ST.tr ST.flg;simp only[ST.val,hq,cond_false]);rw[e1];exact qD hco h1.2 h2.2 (@Holds.cons (VL F s) _ _ _ hq hp)
 | .none,p,h1,_,hp=>by obtain⟨c,k1,k2⟩:=iC h1 hp;exact absurd k2 (hco c k1)
def ST.leafs(w:Nat)(q:aY→List Sx→Bool):ST→aY→Bool
 | .leaf l,p=>match l with
  | .lit (.ofNat n)::xs=> !(Nat.beq n w)||q p xs
  |_=>false
 | .ask b t e,p=>ST.leafs w q t ((b,true)::p)&&ST.leafs w q e ((b,false)::p)
 | .none,_=>true
theorem jj{F:Fn}{s:List Dat}{cores:List aY}(hco:∀q∈cores,¬@Holds (VL F s) q){w:Nat}{q:aY→List Sx→Bool}:∀{sp:ST} {p:aY},sp.deadsOk cores p=true→sp.leafs w q p=true→@Holds (VL F s) p→sp.flg F s=(w:Nat)→
 ∃p' xs,q p' xs=true∧@Holds (VL F s) p'∧∀i,sp.val (VL F s) (i+1)=(ST.leaf (.lit (w:Int)::xs)).val (VL F s) (i+1)
 | .leaf l,p,_,h,hp,hf=>by simp only[ST.leafs]at h;split at h;{rename_i n xs _;have hn:(n:Int)=(w:Int):=hf;have:n=w:=(by omega);subst this;exact⟨p,xs,by simpa using h,hp,fun i=>rfl⟩};cases h
 | .ask b t e,p,h1,h2,hp,hf=>by
  simp only[ST.deadsOk,ah]at h1;simp only[ST.leafs,ah]at h2;cases hq:@Bx.eval (VL F s) b with
  |true=>obtain⟨p',xs,k1,k2,k3⟩:=jj hco h1.1 h2.1 (@Holds.cons (VL F s) _ _ _ hq hp) (by rw[←hf];unfold ST.flg;simp only[ST.val,hq,cond_true]);exact⟨p',xs,k1,k2,fun i=>by rw[←k3 i];simp only[ST.val,hq,cond_true]⟩
  |false=>obtain⟨p',xs,k1,k2,k3⟩:=jj hco h1.2 h2.2 (@Holds.cons (VL F s) _ _ _ hq hp) (by rw[←hf];unfold ST.flg;simp only[ST.val,hq,cond_false]);exact⟨p',xs,k1,k2,fun i=>by rw[←k3 i];simp only[ST.val,hq,cond_false]⟩
 | .none,p,h1,_,hp,_=>by obtain⟨c,k1,k2⟩:=iC h1 hp;exact absurd k2 (hco c k1)
def RngX(l c:Nat)(ys st:List Nat)(g B:Nat)(s0:List Dat)(k:Nat)(s:List Dat):Prop:=
 aJ s c=.int (k:Int)∧k≤(aJ s l).toL.length∧(aJ s l).toL.length≤B∧(∀y∈ys,(aJ s y).toL.length≤(aJ s0 y).toL.length+g*k)∧∀i∈st,aJ s i=aJ s0 i
theorem RngX.start{l c:Nat}{ys st:List Nat}{g B:Nat}{s:List Dat}(h:aJ s c=.int 0)(hB:(aJ s l).toL.length≤B):RngX l c ys st g B s 0 s:=
 ⟨h,bQ _,hB,fun y _=>by omega,fun _ _=>rfl⟩
theorem zy{f:fA}{fu:List Dat→Nat}{K:Nat→List Dat→Prop}(hJ:∀k s,K k s→(f s).1=0→K (k+1) (f s).2){s:List Dat}(hs:K 0 s)(hterm:∃k,k≤fu s∧(f (qu f k s)).1≠0):
 ∃n s',K n s'∧(f s').1≠0∧fD f fu s=f s':=by
 obtain⟨a1,a2,a3⟩:=iT hterm;have hJk:∀k,k≤fX f (fu s) s→K k (qu f k s):=fun k=>by
  induction k with
  |zero=>intro _;exact hs
  |succ k ih=>intro hk;exact hJ _ _ (ih (by omega)) (a1 k (by omega))
 exact⟨_,_,hJk _ (aw _),a2,rfl⟩
def ST.natF:ST→Bool
 | .leaf x=>match x with
  | .lit (.ofNat _)::_=>true
  |_=>false
 | .ask _ t e=>ST.natF t&&ST.natF e
 | .none=>true
theorem pX{F:Fn}{s:List Dat}:∀{sp:ST},sp.natF=true→∃k:Nat,sp.flg F s=(k:Int)
 | .leaf x,h=>by simp only[ST.natF]at h;split at h;{rename_i k _;exact⟨k,rfl⟩};cases h
 | .ask q t e,h=>by
  simp only[ST.natF,ah]at h;cases hq:@Bx.eval (VL F s) q with
  |true=>obtain⟨k,hk⟩:=pX (F:=F) (s:=s) h.1;exact⟨k,by rw[←hk];unfold ST.flg;simp only[ST.val,hq,cond_true]⟩
  |false=>obtain⟨k,hk⟩:=pX (F:=F) (s:=s) h.2;exact⟨k,by rw[←hk];unfold ST.flg;simp only[ST.val,hq,cond_false]⟩
 | .none,_=>⟨0,rfl⟩
section
variable{sp:ST}{F:Fn}{l c m:Nat}{ys st:List Nat}{g fx B:Nat}
variable{P:Program}{gl:Nat→Option Nat}{b:bm}{R nr nb nt:Nat}{J0:List Dat→Prop}{A B':Tl}{T:Nat→Tl}{cd:Code}
end
end
end Go.Tw
set_option linter.unusedVariables false
namespace Go.Tw
noncomputable section
def vu(J:List Dat→Prop)(l:List Nat)(f:fA):Prop:=∀s,J s→(f s).1∈l
section
variable{J J2:List Dat→Prop}{l:List Nat}{f g:fA}{F:Fn}
theorem cJ{sp:ST}{m:Nat}{cores:List aY}{inv:aY}(hco:∀s,J s→∀q∈cores,¬@Holds (VL F s) q)(hinv:∀s,J s→@Holds (VL F s) inv)(h1:sp.deadsOk cores inv=true)(h2:sp.flsX l=true):vu J l (sp.tr F m):=fun s hs=>
 qD (hco s hs) h1 h2 (hinv s hs)
theorem dA(h1:vu J (0::l) f)(hJ:∀s,J s→(f s).1=0→J2 (f s).2)(h2:vu J2 l g):vu J l (aD f g):=fun s hs=>by unfold aD;by_cases h0:(f s).1=0;{rw[if_pos h0];exact h2 _ (hJ s hs h0)};rw[if_neg h0];rcases List.mem_cons.1 (h1 s hs)with h|h;{exact absurd h h0};exact h
theorem wF{id:Nat}(h:vu J ((id+2)::l) f)(h0:0∈l):vu J l (ie id f):=fun s hs=>by unfold ie;by_cases hx:(f s).1=id+2;{rw[if_pos hx];exact h0};rw[if_neg hx];rcases List.mem_cons.1 (h s hs)with h|h;{exact absurd h hx};exact h
theorem sc{l':List Nat}{J':List Dat→Prop}(h:vu J l f)(hJ:∀s,J' s→J s)(hl:∀x∈l,x∈l'):vu J' l' f:=fun s hs=>hl _ (h s (hJ s hs))
theorem ml(h:vu J [1] f){s:List Dat}(hs:J s):(f s).1=1:=by simpa using h s hs
end
end
end Go.Tw
set_option linter.unusedVariables false
namespace Go.Tw
noncomputable section
theorem HT.scope{P:Program}{gl:Nat→Option Nat}{b:bm}{R nr nb nt:Nat}{v v2:Val}{x:Code}{tm tm2:T AV}{σ σ2:St}{e:AExit}(h:HT P gl b R nr nb nt v x tm σ e v2 tm2 σ2)(hg:∀l,e≠.goto l):HT P gl b R nr nb nt v (.scope x) tm σ e v2 tm2 σ2:=by
 intro a cs w φ ha bf k hb hkd;obtain⟨e1,a1,cs1,w1,q,harr⟩:=h a cs w φ ha bf (.inScope x::k) hb hkd;refine⟨e1,a1,cs1,w1,q,.of_steps (aF iU) ?_⟩;have hng:∀l,e1≠.goto l:=by intro l hl;subst hl;obtain⟨_,q2,_⟩:=q;cases e<;>simp_all [ExitP]
 cases e1 with
 |normal=>exact StepsIn.trans harr (aF gI)
 |exit id=>have hx:exitTo id (.inScope x::k)=exitTo id k:=(by simp [exitTo]);exact⟨fun k' hk'=>harr.1 k' (by rw[hx];exact hk'),fun hr hk'=>harr.2 hr (by rw[hx];exact hk')⟩
 |goto l=>exact absurd rfl (hng l)
 |ret=>exact harr
 |panic ch=>exact harr
 |outgrown=>exact harr
theorem sq{w l:Nat}:dZ w≠.goto l:=by
 match w with
 |0=>simp [dZ]
 |1=>simp [dZ]
 |k+2=>simp [dZ]
theorem PX.scope{P:Program}{gl:Nat→Option Nat}{b:bm}{R nr nb nt:Nat}{F:Fn}{J:List Dat→Prop}{A B:Tl}{T:Nat→Tl}{f:fA}{c:Code}(h:PX P gl b R nr nb nt F J c A B T f):PX P gl b R nr nb nt F J (.scope c) A B T f:=fun s hs=>
 HT.scope (h s hs) fun _=>sq
end
end Go.Tw
set_option linter.unusedVariables false
namespace Go.Tw
noncomputable section
structure LX where
 d:Nat
 nt:Nat
 ps:List Tmp
 asg:Code
 bd:Code
 lx:List (Nat×AV)
def LX.ob(L:LX)(x:Nat×Option Code):List (Nat×Ob):=[(L.d+1,.loop x.1 x.2 (aR L.lx) L.nt L.ps L.asg L.bd),(L.d,.dfr)]
def Bz(ρ:List RE)(i:Nat):Bool:=match iK ρ i with
 |some r=>Nat.beq r.ido i&&(Nat.beq r.ver 0&&Nat.beq r.n 0)
 |none=>false
theorem Bb{ρ:List RE}{i:Nat}(h:Bz ρ i=true):∃t,iK ρ i=some ⟨i,i,0,0,t⟩:=by unfold Bz at h;split at h;{rename_i r hr;simp only[ah]at h;have h0:=(aV hr).2;have h1:=ab h.1;have h2:=ab h.2.1;have h3:=ab h.2.2;obtain⟨a,b,c,d,e⟩:=r;dsimp only at h0 h1 h2 h3;subst h0;subst h1;subst h2;subst h3;exact⟨_,hr⟩};cases h
section
variable{P:Program}{gl:Nat→Option Nat}{b:bm}{R nr nb nt:Nat}
variable{F:Fn}{J:List Dat→Prop}{c:Code}
def qV(gl:Nat→Option Nat)(b:bm)(R nr nb:Nat)(v:Val)(tm:T AV)(ds:List ADef)(σ:St)(v':Val)(tm':T AV)(σ':St):Prop:=
 ∀(nt:Nat) (a:Act) (w:World) (φ:PM),HoldD v gl b R nt tm ds σ a w φ→∃φ',HoldD v' gl b R nt tm' ds σ' a w φ'∧Trans R nr nb φ w φ' w
theorem Retell.d{v v':Val}{tm tm':T AV}{σ σ':St}{d nb2:Nat}(h:Retell gl b R nr nb2 v tm σ v' tm' σ')(hd:R≤d)(hd2:d<R+bW nb2)(hnb:bW nb≤bW nb2∧gH nb≤gH nb2):qV gl b R nr nb v tm [.mark d] σ v' tm' σ':=by
 intro nt a w φ ha;obtain⟨φ',h1,h2⟩:=h nt {a with defers:=[]} w φ ⟨ha.size,ha.val,rfl,ha.inv,ha.free,ha.roA,ha.rd,ha.wr⟩;refine⟨φ',⟨h1.size,h1.val,?_,h1.inv,h1.free,h1.roA,h1.rd,h1.wr⟩,h2.fewer hnb⟩;have hds:=ha.dfs;generalize a.defers=dl at hds⊢;cases hds with
 |cons hdd hdt=>cases hdt;obtain⟨e0,ar0,he0,rfl⟩:=hdd;exact @DfsR.cons v' _ _ _ _ _ ⟨e0,ar0,h2.pin _ _ hd hd2 he0,rfl⟩ (@DfsR.nil v' _)
theorem HTD.retell(hrb:nr≤bW nb){v v1 v2:Val}{c:Code}{tm tm1 tm2:T AV}{ds ds1:List ADef}{σ σ1 σ2:St}{e:AExit}(h:HTD P gl b R nr nb nt v c tm ds σ e v1 tm1 ds1 σ1)(k:qV gl b R nr nb v1 tm1 ds1 σ1 v2 tm2 σ2):
 HTD P gl b R nr nb nt v c tm ds σ e v2 tm2 ds1 σ2:=fun a cs w φ ha=>
 (h a cs w φ ha).mono fun _ _ _ _ ⟨q1,q2,φ1,q3,q4⟩=>by obtain⟨φ2,r1,r2⟩:=k _ _ _ _ q3;exact⟨q1,q2,φ2,r1,q4.trans hrb r2⟩
theorem mS{v v':Val}(hb:BaseOk gl b R){tm:T AV}{σ:St}{ρ:List RE}{tm':List (Nat×AV)}{objs':List (Nat×Ob)}{nx' d nb2:Nat}{E:bA}(h:dQ R nb2 ρ tm σ tm' objs' nx'=some E)(hE:EqsOk v v' E)
 (hd:Nat.ble R d=true)(hd2:Nat.blt d (R+bW nb2)=true)(hd3:Nat.blt d nx'=true)(hρ:Bz ρ d=true)(hg:σ.heap.get d=some .dfr)(hnb:bW nb≤bW nb2∧gH nb≤gH nb2):
 qV gl b R nr nb v tm [.mark d] σ v' (aR tm') (ao b ((d,.dfr)::objs') nx'):=
 Retell.d (nb2:=nb2) (ta hb h hE (X:=[(d,.dfr)]) fun i o hio=>by simp only[da,fg,or_false,fT]at hio;obtain⟨rfl,rfl⟩:=hio;refine⟨⟨ak hd,aH hd3⟩,Bb hρ,?_⟩;rw[hg];trivial) (ak hd) (aH hd2) hnb
def Ac(R nr nb:Nat)(ρ:List RE)(d:Nat)(x:XR)(e:AExit)(tm':List (Nat×AV))(objs':List (Nat×Ob))(nx':Nat)(E:bA):Bool:=match x with
 | .ok e' env σ=>su e e'&&(σ.wr.all (fun i=>Nat.ble (R+nr) i)&&((match env.ds with
  |[.mark k]=>Nat.beq k d
  |_=>false)&&((match env.md with
  |none=>true
  |_=>false)&&(Bz ρ d&&(Nat.ble R d&&(Nat.blt d (R+bW nb)&&(Nat.blt d nx'&&((match σ.heap.get d with
  |some .dfr=>true
  |_=>false)&&(match dQ R nb ρ env.tm σ.bare tm' objs' nx' with
  |some E'=>uq E' E
  |none=>false)))))))))
 | .no=>false
theorem HTD.tail{v v2:Val}(hb:BaseOk gl b R)(hrb:nr≤bW nb){p:aY}(hp:@Holds v p){hk:FuncId→List AV→St→CR}(hs:bq (bC gl b p hk))(hh:@iP v P R (bC gl b p hk))(hm:P.follows .mixedOrders=true)
 {n d nb2:Nat}{c:Code}{tm:T AV}{σ:St}{e:AExit}{ρ:List RE}{tm':List (Nat×AV)}{objs':List (Nat×Ob)}{nx':Nat}{E:bA}(hnb:bW nb≤bW nb2∧gH nb≤gH nb2)
 (h:Ac R nr nb2 ρ d (exec P (bC gl b p hk) n nt c {tm:=tm,ds:=[.mark d],md:=none,rd:=false} σ) e tm' objs' nx' E=true)(hE:EqsOk v v2 E):
 HTD P gl b R nr nb nt v c tm [.mark d] σ e v2 (aR tm') [.mark d] (ao b ((d,.dfr)::objs') nx'):=by
 unfold Ac at h;split at h
 ·rename_i e' env σ' hx;simp only[ah]at h;obtain⟨h1,h2,h3,h4,h5,h6,h7,h8,h9,h10⟩:=h;obtain⟨rfl,hn⟩:=kL h1;have hds:env.ds=[.mark d]:=by
   split at h3;{rename_i k hk';have:=ab h3;subst this;exact hk'};cases h3
  have hmd:env.md=none:=(by split at h4;{assumption};cases h4);have hg:σ'.heap.get d=some .dfr:=(by split at h9;{assumption};cases h9);have hr:=ui (v:=v) hp hs hh hm hx hn hmd (fun i hi=>ak (List.all_eq_true.1 h2 i hi)) (nb:=nb);rw[hds]at hr;split at h10;{rename_i E' hE';have:=vj h10;subst this;exact HTD.retell hrb hr (mS hb hE' hE h6 h7 h8 h5 hg hnb)};cases h10
 cases h
theorem HTD.end{v v1 v2:Val}(hb:BaseOk gl b R)(hrb:nr≤bW nb){d nb2:Nat}{c:Code}{tm tm1:T AV}{ds:List ADef}{σ σ1:St}{e:AExit}{ρ:List RE}{tm':List (Nat×AV)}{objs':List (Nat×Ob)}{nx':Nat}{E:bA}(hnb:bW nb≤bW nb2∧gH nb≤gH nb2)
 (h:HTD P gl b R nr nb nt v c tm ds σ e v1 tm1 [.mark d] σ1)(hm:dQ R nb2 ρ tm1 σ1 tm' objs' nx'=some E)(hE:EqsOk v1 v2 E)(hd:(Nat.ble R d&&(Nat.blt d (R+bW nb2)&&(Nat.blt d nx'&&Bz ρ d)))=true)(hg:σ1.heap.get d=some .dfr):
 HTD P gl b R nr nb nt v c tm ds σ e v2 (aR tm') [.mark d] (ao b ((d,.dfr)::objs') nx'):=by
 simp only[ah]at hd;exact HTD.retell hrb h (mS hb hm hE hd.1 hd.2.1 hd.2.2.1 hd.2.2.2 hg hnb)
end
end
end Go.Tw
namespace Go.Tw
open Go.ChangeShapes Go.RowKit
noncomputable section
theorem Bg{F:Fn}{m:Nat}{s:List Dat}{q:Bx}{a b:ST}(h:@Bx.eval (VL F s) q=true):(ST.ask q a b).tr F m s=a.tr F m s:=by unfold ST.tr ST.flg ST.nxt;simp only[ST.val,h,cond_true]
theorem BI{F:Fn}{m:Nat}{s:List Dat}{q:Bx}{a b:ST}(h:@Bx.eval (VL F s) q=false):(ST.ask q a b).tr F m s=b.tr F m s:=by unfold ST.tr ST.flg ST.nxt;simp only[ST.val,h,cond_false]
theorem kD{f:fA}{k:Nat}{s:List Dat}:qu f (k+1) s=qu f k (f s).2:=by
 induction k with
 |zero=>rfl
 |succ k ih=>show(f (qu f (k+1) s)).2=(f (qu f k (f s).2)).2;rw[ih]
def vt(J:List Dat→Prop)(μ:List Dat→Nat)(f:fA):Prop:=∀s,J s→(f s).1=0→J (f s).2∧μ (f s).2<μ s
theorem ku{J:List Dat→Prop}{μ:List Dat→Nat}{f:fA}(h:vt J μ f):∀n s,μ s≤n→J s→∃k,k≤μ s∧(f (qu f k s)).1≠0:=by
 intro n
 induction n with
 |zero=>intro s hn hs;refine⟨0,bQ _,fun h0=> ?_⟩;have:=(h s hs h0).2;omega
 |succ n ih=>intro s hn hs;by_cases h0:(f s).1=0;{obtain⟨h1,h2⟩:=h s hs h0;obtain⟨k,k1,k2⟩:=ih (f s).2 (by omega) h1;exact⟨k+1,by omega,by rw[kD];exact k2⟩};exact⟨0,bQ _,h0⟩
theorem cy{f:fA}{fu:List Dat→Nat}{s:List Dat}(h:(f s).1≠0):fD f fu s=f s:=by
 have e:fX f (fu s) s=0:=by have:=(iT (f:=f) (fu:=fu s) (s:=s) ⟨0,bQ _,h⟩).1;rcases Nat.eq_zero_or_pos (fX f (fu s) s)with h'|h';{exact h'};exact absurd (this 0 h') h
 unfold fD;rw[e];rfl
theorem iw{J:List Dat→Prop}{μ:List Dat→Nat}{f:fA}(hm:vt J μ f){s:List Dat}(hs:J s)(h0:(f s).1=0):fD f μ s=fD f μ (f s).2:=by
 have h1:=(hm s hs h0).1;obtain⟨a1,a2,_⟩:=iT (ku hm _ s (aw _) hs);obtain⟨b1,b2,_⟩:=iT (ku hm _ _ (aw _) h1);have e:fX f (μ s) s=fX f (μ (f s).2) (f s).2+1:=by
  generalize fX f (μ s) s=n at*;generalize fX f (μ (f s).2) (f s).2=m at*
  match n with
  |0=>exact absurd h0 a2
  |n+1=>rw[kD]at a2;rcases Nat.lt_trichotomy n m with h|h|h;{exact absurd (b1 n h) a2};{omega};exact absurd (by have:=a1 (m+1) (by omega);rw[kD]at this;exact this) b2
 unfold fD;rw[e,kD]
theorem PX.loopM{P:Program}{gl:Nat→Option Nat}{b:bm}{R nr nb nt:Nat}{F:Fn}{J:List Dat→Prop}{μ:List Dat→Nat}{c:Code}{A B:Tl}{T:Nat→Tl}{f:fA}(hrb:nr≤bW nb)(h:PX P gl b R nr nb nt F J c A A T f)(hm:vt J μ f):
 PX P gl b R nr nb nt F J (.loop c) A B T (fD f μ):=
 PX.loop (K:=fun _=>J) hrb (fun _=>h) (fun _ s hs h0=>(hm s hs h0).1) (fun s hs=>ku hm _ s (aw _) hs)
theorem hC{J:List Dat→Prop}{μ:List Dat→Nat}{f:fA}(hm:vt J μ f){s:List Dat}(hs:J s):∃s',J s'∧(f s').1≠0∧fD f μ s=f s':=by obtain⟨n,s',h1,h2,h3⟩:=zy (K:=fun _=>J) (fun _ s hs h0=>(hm s hs h0).1) hs (ku hm _ s (aw _) hs);exact⟨s',h1,h2,h3⟩
theorem wE{J:List Dat→Prop}{μ:List Dat→Nat}{f:fA}{l:List Nat}(hm:vt J μ f)(h:vu J (0::l) f):vu J l (fD f μ):=fun s hs=>by obtain⟨s',h1,h2,h3⟩:=hC hm hs;rw[h3];rcases List.mem_cons.1 (h s' h1)with h4|h4;{exact absurd h4 h2};exact h4
theorem hP{F:Nat→Dat→Dat→Dat→Dat}{P:Program}{gl:Nat→Option Nat}{b:bm}{R:Nat}{c:Con}(hb:c.bin=[])(ho:c.objs=[])(hl:c.lin=none)(hr:c.bout=[])
 (h:∀v:Val,v.fn=F→@Holds v c.pre→∀(W:World) (φ:PM) (args':Array Value),Hold v gl b R 0 .leaf (c.start b R) {tmps:= #[],defers:=[]} W φ→@VRL v φ c.args args'.toList→
   Calls P c.f args' W fun e W'=>∃x,e=.returned x∧@VR v φ c.res x∧Below W.heap.size W W'):c.Sound F P gl b R:=by
 intro v hF hp W φ args' hh ha;refine(h v hF hp W φ args' hh ha).mono fun e W' he=> ?_;obtain⟨x,rfl,hx,b1,b2,b3,b4,b5⟩:=he;have hwf:=hh.inv.wf;refine⟨φ,x,rfl,hx,⟨b4,fun k hk _=>b5 k hk,fun i u e hi he=>.inl ⟨i,u,e,hi,he,rfl,.inl rfl⟩,.of_eq rfl,fun _ _ _ _ h=>h,fun i e h1 h2 he=>b5 _ (hwf.lt _ _ _ he),b1,b3,b2⟩,⟨hwf.inj,fun i u e he=>Nat.lt_of_lt_of_le (hwf.lt i u e he) b4,hwf.top⟩,fun k o h=> ?_,fun k l q h=> ?_,fun L h=> ?_⟩;{rw[ho]at h;simp at h};{rw[hr]at h;simp at h};rw[hl]at h;cases h
end
end Go.Tw
namespace Go.Tw
open Go.ChangeShapes Go.RowKit
theorem cg{F:Nat→Dat→Dat→Dat→Dat}{P:Program}{gl:Nat→Option Nat}{b:bm}{R:Nat}{c:Con}{fn:Func}{code:Code}(hf:P.funcs[c.f]? =some fn)(hbody:fn.body=some code)(hlen:Nat.ble c.args.length fn.ntmps=true)
 (h1:c.bin=[])(h2:c.lin=none)(h3:c.objs=[])
 (h:∀v:Val,v.fn=F→@Holds v c.pre→∃e tm' o' nx' l σ'',(e=.ret∨e=.normal)∧
   HTo v P gl b R c.nr c.bin.length fn.ntmps code (gE c.args 0 .leaf) (c.start b R) e (aR tm') (ao b o' nx')∧
   bI P fn {tm:=aR tm',ds:=[],md:=none,rd:=false} (ao b o' nx') fn.results.toList=some (l,σ'')∧given l=c.res):c.Sound F P gl b R:=by
 intro v hF hp w φ args' hh ha;obtain⟨e,tm',o',nx',l,σ'',he,hto,hres,hgl⟩:=h v hF hp;refine fe hf hbody fun cs=> ?_;have hen:=@fQ v φ c.args args' ha fn.ntmps (ak hlen) none false;refine(hto _ cs w φ ⟨hen.ev.size,hen.ev.val,rfl,hh.inv,hh.free,hh.roA,hh.rd,hh.wr⟩).mono fun e1 a1 cs1 w1 q=> ?_;obtain⟨q1,q2,φ1,q3,q4⟩:=q;refine⟨q1,?_⟩;have hev:@EnvR v φ1 fn.ntmps {tm:=aR tm',ds:=[],md:=none,rd:=false} a1:=⟨q3.size,q3.val⟩;obtain⟨x,r1,r2,_⟩:=@gd v P R (gM gl b) (fun _=>True) φ1 _ w1 fn fn.ntmps _ a1 σ'' l hev q3.inv hres (fun i _ _=>trivial);rw[hgl]at r2;have hgo:LeavesInM Fence.wide 0 P fn a1.tmps (fun e w'=>∃φ' x,e=.returned x∧@VR v φ' c.res x∧Trans R c.nr c.bin.length φ w φ' w'∧WF R φ' w'∧(∀k o,c.objs[k]? =some o→@Rep v R φ' w' (R+c.bin.length+c.nl+k) (some o))∧
  (∀k l q,c.bout[k]? =some l→c.bin[k]? =some q→@Rep v R φ' w' (R+k) (some (.box l q.2)))∧∀L,c.lin=some L→@Rep v R φ' w' (R+c.bin.length) (some (.opq 2 0 gid (.slc L.l) L.ox L.oy [] L.t))) a1.defers .returning w1:=by
  rw[q3.dfs];exact⟨x,r1,φ1,x,rfl,r2,q4,q3.wf,fun k o hk=>by simp [h3]at hk,fun k l q _ hk=>by simp [h1]at hk,fun L hL=>by rw[h2]at hL;cases hL⟩
 rcases he with rfl|rfl;{cases e1<;>simp only[ExitP]at q2;exact hgo};cases e1<;>simp only[ExitP]at q2;exact hgo
end Go.Tw
namespace Go.Tw
open Go.ChangeShapes Go.RowKit
noncomputable section
def mC(l:fM):bm:=(gy l .leaf).set gid (.opq 0 0 0 .bool (.lit 0) (.lit 0) [] 0)
def s6(l:fM)(g:Nat):Option Nat:=match bT l g with
 |some c=>some c.length
 |none=>none
def jA(R:Nat):fM→Bool
 |[]=>true
 |(_,c)::l=>(match wu R [] c c with
  |some []=>true
  |_=>false)&&jA R l
theorem s5{R:Nat}:∀{l:fM},jA R l=true→∀{i:Nat} {c:List AV},bT l i=some c→wu R [] c c=some []:=by
 intro l
 induction l with
 |nil=>intro _ i c h;cases h
 |cons p l ih=>intro hs i c h;obtain⟨g,c'⟩:=p;simp only[jA,ah]at hs;simp only[bT,ag]at h;split at h;{cases h;have h1:=hs.1;split at h1;{assumption};cases h1};exact ih hs.2 h
theorem kh{l:fM}{i:Nat}(hi:i≠gid):(mC l).get i=(match bT l i with
 |some c=>some (.ro c)
 |none=>none):=by rw[mC,T.get_set_ne _ _ hi,fk];cases bT l i<;>rfl
theorem vp{l:fM}{R:Nat}(hlt:lL R l=true)(hgr:gid<R)(hs:jA R l=true):BaseOk (s6 l) (mC l) R where
 gid_lt:=hgr
 gid_at:=⟨0,0,.bool,.lit 0,.lit 0,0,T.get_set_same _ _ _⟩
 none:=fun i hi=>by
  rw[kh (by omega)];cases h:bT l i with
  |none=>rfl
  |some c=>have:=fW hlt h;omega
 only:=fun i o h hn=>by
  rw[kh hn]at h;cases h2:bT l i with
  |none=>rw[h2]at h;cases h
  |some c=>rw[h2]at h;cases h;exact⟨c,rfl,s5 hs h2⟩
 gl:=fun g n h=>by
  unfold s6 at h;cases h2:bT l g with
  |none=>rw[h2]at h;cases h
  |some c=>exact fW hlt h2
def dW(l:fM)(W:World):PM:=fun i u=>if i=gid then(match bT l u with
 |some _=>none
 |none=>match W.heap[u]? with
  |some (.cells c _ _)=>some ⟨u,0,0,0,0,c.toList⟩
  |_=>none)else iR l i u
theorem de{l:fM}{W:World}{i u:Nat}{e:Ext}(h:dW l W i u=some e):(i=gid∧bT l u=none∧∃c t fr,W.heap[u]? =some (.cells c t fr)∧e=⟨u,0,0,0,0,c.toList⟩)∨(i≠gid∧iR l i u=some e):=by unfold dW at h;split at h;{rename_i hi;split at h;{cases h};rename_i hn;split at h;{rename_i c t fr hc;simp only[aj]at h;exact .inl ⟨hi,hn,c,t,fr,hc,h.symm⟩};cases h};rename_i hi;exact .inr ⟨hi,h⟩
theorem mB{l:fM}(hg:bT l gid=none){W:World}:(iR l).le (dW l W):=fun i u e h=>by obtain⟨_,c,hc,_⟩:=df h;unfold dW;rw[if_neg (fun hi=>by subst hi;rw[hg]at hc;cases hc)];exact h
theorem zN{l:fM}{R:Nat}(hlt:lL R l=true)(hgr:gid<R)(hg:bT l gid=none)(hs:jA R l=true){W:World}(hl:∀v:Val,∀p∈l,@iN v W p)(v:Val):
 Hold v (s6 l) (mC l) R 0 .leaf (ao (mC l) [] R) {tmps:= #[],defers:=[]} W (dW l W):=by
 have hlow:∀{i u:Nat} {e:Ext},(dW l W).low R i u=some e→dW l W i u=some e:=fun{i u e} h=>by unfold PM.low at h;split at h;{exact h};cases h
 have hlow2:∀{i u:Nat} {e:Ext},iR l i u=some e→((dW l W).low R) i u=some e:=fun{i u e} h=>by have h2:=mB hg (W:=W) i u e h;obtain⟨_,c,hc,_⟩:=df h;unfold PM.low;rw[if_pos (fW hlt hc)];exact h2
 have hb:∀v':Val,∀(φ:PM),φ=dW l W∨φ=(dW l W).low R→∀i,@Rep v' R φ W i ((mC l).get i):=fun v' φ hφ i=>by
  have hs1:∀{i u:Nat} {e:Ext},φ i u=some e→dW l W i u=some e:=fun{i u e} h=>(by rcases hφ with rfl|rfl;{exact h};exact hlow h);have hle:(iR l).le φ:=fun i u e h=>(by rcases hφ with rfl|rfl;{exact mB hg i u e h};exact hlow2 h);by_cases hi:i=gid;{subst hi;rw[mC,T.get_set_same];show ∀n e,φ gid n=some e→_;intro n e he;rcases de (hs1 he)with⟨_,_,c,t,fr,hc,rfl⟩|⟨h,_⟩;{exact⟨rfl,t,fr,by simpa using hc⟩};exact absurd rfl h};rw[kh hi];have:=@za v' R W l (hl v') i;cases h2:bT l i with
  |none=>trivial
  |some c=>rw[h2]at this;obtain⟨e,cs,t,fr,k1,k2,k3,k4,k5⟩:=this;exact⟨e,cs,t,fr,hle _ _ _ k1,k2,k3,k4,@VRL.mono v' _ _ hle _ _ k5⟩
 have hwf:WF R (dW l W) W:=⟨fun i w e j u f hi hj hbl=>by
  rcases de hi with⟨rfl,n1,c,t,fr,hc,rfl⟩|⟨hi',h1⟩;{rcases de hj with⟨rfl,_⟩|⟨hj',h2⟩;{exact .inl rfl};obtain⟨_,c',hc',rfl⟩:=df h2;have hbl:w=j:=hbl;rw[←hbl,n1]at hc';cases hc'};·obtain⟨_,c',hc',rfl⟩:=df h1;rcases de hj with⟨rfl,n1,c,t,fr,hc,rfl⟩|⟨hj',h2⟩;{have hbl:i=u:=hbl;rw[hbl,n1]at hc';cases hc'};obtain⟨_,c2,hc2,rfl⟩:=df h2;exact .inl hbl,
  fun i w e hi=>by rcases de hi with⟨rfl,n1,c,t,fr,hc,rfl⟩|⟨hi',h1⟩;{exact(Array.getElem?_eq_some_iff.1 hc).1};obtain⟨_,c',hc',rfl⟩:=df h1;obtain⟨cs,t,fr,k1,_⟩:=@rh v W l (hl v) _ _ hc';exact(Array.getElem?_eq_some_iff.1 k1).1,
  fun i w e hi=>by rcases de hi with⟨rfl,n1,c,t,fr,hc,rfl⟩|⟨hi',h1⟩;{exact aw _};obtain⟨_,c',hc',rfl⟩:=df h1;exact aw _⟩
 have hnone:∀i,R≤i→(mC l).get i=none:=(vp hlt hgr hs).none;exact{
  size:=rfl
  val:=fun t x h=>by simp [T.get_leaf]at h
  dfs:=rfl
  inv:={wf:=hwf,low:=aw _,rep:=fun i _ _=>hb v _ (.inl rfl) i,gl:=fun g n h=>by
         have h:s6 l g=some n:=h;unfold s6 at h;cases h2:bT l g with
         |none=>rw[h2]at h;cases h
         |some c=>rw[h2]at h;cases h;exact⟨⟨g,0,0,c.length,c.length,[]⟩,mB hg _ _ _ (by simp [iR,h2]),rfl,rfl,rfl,aw _⟩
        dom:=fun i hi=>hnone i hi,pin:=fun _ _ h=>(by cases h),dec:=fun _ _ h=>(by cases h),
        wrR:=fun i h=>(by cases h),ro:=fun i _=>hb v _ (.inr rfl) i,oh:=@gL v}
  free:=fun i hi u=>by
   have hi:R≤i:=hi;cases h:dW l W i u with
   |none=>rfl
   |some e=>rcases de h with⟨rfl,_⟩|⟨_,h1⟩;{omega};obtain⟨_,c',hc',_⟩:=df h1;have:=fW hlt hc';omega
  roA:=fun v' i _=>hb v' _ (.inr rfl) i
  rd:=rfl
  wr:=rfl}
end
end Go.Tw
namespace Go.Tw
open Go.ChangeShapes Go.RowKit
noncomputable section
theorem yL{F:Nat→Dat→Dat→Dat→Dat}{P:Program}{l:fM}{R f:Nat}{m:Memo}(hsound:∀v:Val,@Memo.Sound v P R (bY l) m)(hlt:lL R l=true)(hg:bT l gid=none)
 (hmf:m.f=f)(hma:m.args=[])(hmv:m.v=.bool true):({f:=f,args:=[],pre:=[],res:=.bool true,objs:=[]}:Con).Sound F P (s6 l) (mC l) R:=by
 refine hP rfl rfl rfl rfl fun v hF hp W φ args' hh ha=> ?_;have hargs:args'= #[]:=by
  obtain⟨l⟩:=args';cases l with
  |nil=>rfl
  |cons x l=>cases ha
 subst hargs;have hbase:∀ψ:PM,(∀i,i<R→@Rep v R ψ W i ((mC l).get i))→∀i,i<R→@Rep v R ψ W i (match bT l i with
  |some c=>some (.ro c)
  |none=>none):=fun ψ h i hi=>by
  by_cases e:i=gid;{subst e;rw[hg];trivial};have:=h i hi;rw[kh e]at this;exact this
 have hi:@Inv v R (bY l) (fun _=>True) φ (eg R l) W:=
  {wf:=hh.inv.wf,low:=aw _,rep:=fun i _ hi=>by
    show @Rep v R φ W i ((gy l .leaf).get i);rw[fk];exact hbase φ (fun i hi=>hh.rep (i:=i) hi) i hi
   gl:=hh.inv.gl
   dom:=fun i hi=>by
    show(gy l .leaf).get i=none;rw[fk];cases h:bT l i with
    |none=>rfl
    |some c=>have:=fW hlt h;have hi:R≤i:=hi;omega
   pin:=fun e n h=>by cases h
   dec:=fun b v h=>by cases h
   wrR:=fun i h=>by cases h
   ro:=hbase _ (fun i hi=>hh.roA v i hi)
   oh:=OhOk.none}
 have hret:∃x τ,m.ret R (eg R l)=.ret x τ∧x=m.v.mv R 0:=by have e:(eg R l).next - R=0:=Nat.sub_self R;have hb:Nat.ble R (eg R l).next=true:=Nat.ble_eq_true_of_le (aw R);have h1:m.ret R (eg R l)=.ret (m.v.mv R ((eg R l).next - R)) {eg R l with heap:=iq R ((eg R l).next - R) m.objs (eg R l).heap,next:=m.n+((eg R l).next - R)}:=(by unfold Memo.ret;rw[hb];rfl);exact⟨_,_,h1,by rw[e]⟩
 obtain⟨x,τ,hret,hve⟩:=hret;have hfree:Free φ (eg R l) τ:=fun i h1 _ u=>hh.free i h1 u;have hc:=(hsound v).2 (eg R l) (fun _=>True) φ W #[] hi (by rw[hma];exact .nil) x τ hret hfree;rw[hmf]at hc;refine hc.mono fun e W' he=> ?_;obtain⟨φ',v',rfl,hvr,hpost⟩:=he;have hv':v'=.bool true:=by rw[hve,hmv]at hvr;have hvr:@VR v φ' (.bool true) v':=hvr;cases hvr;rfl
 subst hv';exact⟨_,rfl,@VR.bool v _ _,hpost.frm.os,hpost.frm.tape,hpost.frm.out,hpost.frm.size,fun k hk=>hpost.frm.keep k hk fun i hiw u e he=>by exfalso;have h1:=(hpost.wrR i hiw).resolve_left (by simp [eg]);have h2:=hh.free i h1 u;rw[h2]at he;cases he⟩
end
end Go.Tw
