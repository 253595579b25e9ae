/-
  A part of the proof that the abstract evaluator is sound for the model's machine. Conditions: those of each theorem, as it states them.
-/
import Derived.Test.YtbfonficacphkaaGreatDoorA6
import Derived.Test.YtbfonficacphkaaGreatDoorA7
import Derived.Test.YtbfonficacphkaaGreatDoorA3
import Derived.Test.YtbfonficacphkaaGreatDoorA4
set_option linter.all false
namespace Go.Tw
open Go.ChangeShapes Go.RowKit
inductive ST where
 |leaf (l:List Sx)
 |ask (b:Bx) (t e:ST)
 |none
inductive DT where
 |leaf
 |ask (b:Bx) (t e:DT)
 |dead (i:Nat)
def ST.val(v:Val):ST→Nat→Dat
 | .leaf l,i=>match l[i]? with
  |some e=>@Sx.dat v e
  |Option.none=>.int 0
 | .ask b t e,i=>bif @Bx.eval v b then t.val v i else e.val v i
 | .none,_=>.int 0
noncomputable def ST.at(dec:Bx→Option Bool):ST→Option (List Sx)
 | .leaf l=>some l
 | .ask b t e=>match dec b with
  |some x=>bif x then t.at dec else e.at dec
  |Option.none=>Option.none
 | .none=>Option.none
noncomputable def lP(R:Nat)(tm:T AV):List (Nat×AV)→List RE
 |[]=>[]
 |(t,x)::l=>match x,tm.get t with
  | .opq _ id' _ _ _ _,some (.opq _ id ver _ _ _)=>bif Nat.ble R id' then{idn:=id',ido:=id,ver:=ver}::lP R tm l else lP R tm l
  | .opq _ id' _ _ _ _,some (.slc id ver _ len _ esz)=>bif Nat.ble R id'&&Nat.blt 0 len then{idn:=id',ido:=id,ver:=ver,n:=len*esz,t:=t}::lP R tm l else lP R tm l
  |_,_=>lP R tm l
noncomputable def wh(R nr:Nat)(e e':AExit)(env:Env)(σ:St):Bool:=An e e'&&σ.wr.all (fun i=>Nat.ble (R+nr) i)&&(match env.ds with
 |[]=>true
 |_=>false)&&(match env.md with
 |none=>true
 |_=>false)
noncomputable def mX(R nr nb:Nat)(x:XR)(e:AExit)(tm':List (Nat×AV))(objs':List (Nat×Ob))(nx':Nat):Option bS:=match x with
 | .ok e' env σ=>bif wh R nr e e' env σ then eA R nb (lP R env.tm tm') env.tm σ.bare tm' objs' nx' else none
 |_=>none
noncomputable def F9(cmp:Sx→Sx→Bool):bS→List Sx→List Sx→Bool
 |[],_,tg=>match tg with
  |[]=>true
  |_=>false
 |(a,t)::E,l,tg=>match l,tg with
  |x::l,t'::tg=>cmp a x&&t.same t'&&F9 cmp E l tg
  |_,_=>false
noncomputable def tO(cores:List bo)(i:Nat)(p:bo):Bool:=match cores[i]? with
 |some c=>c.all fun q=>match eW p q.1 with
  |some x=>mo x q.2
  |none=>false
 |none=>false
noncomputable def DT.chk(cmp:Sx→Sx→Bool)(fin:bo→Option bS)(sp:ST)(tg:List Sx)(cores:List bo):DT→bo→Bool
 | .leaf,p=>match sp.at (eW p),fin p with
  |some l,some E=>F9 cmp E l tg
  |_,_=>false
 | .ask b t f,p=>t.chk cmp fin sp tg cores ((b,true)::p)&&f.chk cmp fin sp tg cores ((b,false)::p)
 | .dead i,p=>tO cores i p
section
variable{v v2:Val}
theorem ST.at_val{dec:Bx→Option Bool}(hdec:∀b x,dec b=some x→@Bx.eval v b=x):∀{sp:ST} {l:List Sx},sp.at dec=some l→∀i,sp.val v i=(match l[i]? with
 |some e=>@Sx.dat v e
 |Option.none=>.int 0)
 | .leaf l,l',h,i=>by simp only[ST.at,aw]at h;subst h;rfl
 | .ask b t e,l',h,i=>by
  simp only[ST.at]at h;split at h
  ·rename_i x hx;have:=hdec _ _ hx;simp only[ST.val,this];cases x with
   |true=>exact ST.at_val hdec h i
   |false=>exact ST.at_val hdec h i
  cases h
 | .none,l',h,i=>by cases h
theorem ye{cmp:Sx→Sx→Bool}(hcmp:∀a b,cmp a b=true→@Sx.dat v a=@Sx.dat v b):∀{E:bS} {l tg:List Sx},F9 cmp E l tg=true→(∀(i:Nat) (t:Sx),tg[i]? =some t→@Sx.dat v2 t=(match l[i]? with
 |some e=>@Sx.dat v e
 |Option.none=>.int 0))→EqsOk v v2 E
 |[],l,tg,_,_=>fun _ h=>by cases h
 |(a,t)::E,l,tg,h,k=>by
  cases l with
  |nil=>simp [F9]at h
  |cons x l=>
   cases tg with
   |nil=>simp [F9]at h
   |cons t' tg=>simp only[F9,al]at h;obtain⟨⟨h1,h2⟩,h3⟩:=h;have:=Sx.same_eq h2;subst this;refine List.forall_mem_cons.2 ⟨?_,ye hcmp h3 fun i u hu=>k (i+1) u (by simpa using hu)⟩;have:=k 0 t rfl;exact(hcmp _ _ h1).trans this.symm
theorem Gh{cores:List bo}{i:Nat}{p:bo}(h:tO cores i p=true)(hp:@Holds v p):∃c∈cores,@Holds v c:=by unfold tO at h;split at h;{rename_i c hc;refine⟨c,eQ hc,fun q hq=> ?_⟩;have:=List.all_eq_true.1 h q hq;split at this;{rename_i x hx;rw[@fX v _ hp _ _ hx];exact gN this};cases this};cases h
end
theorem HT.leaf{P:Program}{gl:Nat→Option Nat}{b:bK}{R nr nb nt:Nat}{v v2:Val}(hb:BaseOk gl b R)(hrb:nr≤cK nb){p:bo}(hp:@Holds v p){hk:FuncId→List AV→St→CR}(hs:bN (bX gl b p hk))(hh:@kI v P R (bX gl b p hk))
 (hm:P.follows .mixedOrders=true){n:Nat}{c:Code}{tm:T AV}{σ:St}{e:AExit}{tm':List (Nat×AV)}{objs':List (Nat×Ob)}{nx':Nat}{E:bS}
 (h:mX R nr nb (exec P (bX gl b p hk) n nt c {tm:=tm,ds:=[],md:=none,rd:=false} σ) e tm' objs' nx'=some E)(hE:EqsOk v v2 E):HT P gl b R nr nb nt v c tm σ e v2 (ba tm') (aA b objs' nx'):=by
 unfold mX at h;split at h
 ·rename_i e' env σ' hx;rw[ai]at h;split at h
  ·rename_i hg;simp only[wh,al]at hg;obtain⟨⟨⟨h1,h0⟩,h2⟩,h3⟩:=hg;obtain⟨rfl,hn⟩:=od h1;have hd:env.ds=[]:=by
    split at h2;{assumption};cases h2
   have hmd:env.md=none:=(by split at h3;{assumption};cases h3);exact(pL hp hs hh hm hx hn hd hmd (fun i hi=>aB (List.all_eq_true.1 h0 i hi))).ht hrb (aT hb h hE)
  cases h
 cases h
theorem DT.ok{P:Program}{gl:Nat→Option Nat}{b:bK}{R nr nb nt:Nat}{v v2:Val}(hb:BaseOk gl b R)(hrb:nr≤cK nb){F:Nat→Dat→Dat→Dat→Dat}(hF:v.fn=F){cons:List Con}(hc:∀c∈cons,c.Sound F P gl b R)
 (hm:P.follows .mixedOrders=true){n:Nat}{c:Code}{l:List (Nat×AV)}{o:List (Nat×Ob)}{nx:Nat}{e:AExit}{l':List (Nat×AV)}{o':List (Nat×Ob)}{nx':Nat}
 {cmp:Sx→Sx→Bool}(hcmp:∀a b,cmp a b=true→@Sx.dat v a=@Sx.dat v b){sp:ST}{tg:List Sx}{cores:List bo}(hsp:∀(i:Nat) (t:Sx),tg[i]? =some t→@Sx.dat v2 t=sp.val v i)(hcores:∀c∈cores,¬@Holds v c):
 ∀{t:DT} {p:bo},t.chk cmp (fun p=>mX R nr nb (exec P (bX gl b p (gV R (eW p) cons)) n nt c {tm:=ba l,ds:=[],md:=none,rd:=false} (aA b o nx)) e l' o' nx') sp tg cores p=true→@Holds v p→
  HT P gl b R nr nb nt v c (ba l) (aA b o nx) e v2 (ba l') (aA b o' nx')
 | .leaf,p,h,hp=>by simp only[DT.chk]at h;split at h;{rename_i pl E h1 h2;exact HT.leaf hb hrb hp (jc cons) (ot hb hp hF hc) hm h2 (ye hcmp h fun i t ht=>(hsp i t ht).trans (ST.at_val (fun b x hx=>@fX v _ hp _ _ hx) h1 i))};cases h
 | .ask q t f,p,h,hp=>by
  simp only[DT.chk,al]at h;cases hq:@Bx.eval v q with
  |true=>exact DT.ok hb hrb hF hc hm hcmp hsp hcores h.1 (@Holds.cons v _ _ _ hq hp)
  |false=>exact DT.ok hb hrb hF hc hm hcmp hsp hcores h.2 (@Holds.cons v _ _ _ hq hp)
 | .dead i,p,h,hp=>by obtain⟨c,h1,h2⟩:=Gh h hp;exact absurd h2 (hcores c h1)
theorem HT.pre{P:Program}{gl:Nat→Option Nat}{b:bK}{R nr nb nt:Nat}{v0 v v2:Val}(hrb:nr≤cK nb){c:Code}{tm0 tm tm2:T AV}{σ0 σ σ2:St}{e:AExit}(k:Retell gl b R nr nb v0 tm0 σ0 v tm σ)(h:HT P gl b R nr nb nt v c tm σ e v2 tm2 σ2):
 HT P gl b R nr nb nt v0 c tm0 σ0 e v2 tm2 σ2:=by
 intro a cs w φ ha;obtain⟨φ1,r1,r2⟩:=k _ _ _ _ ha;refine(h a cs w φ1 r1).mono fun _ _ _ _ ⟨q1,q2,φ2,q3,q4⟩=>⟨q1,q2,φ2,q3,r2.trans hrb q4⟩
section
variable{v:Val}{fa fb:Nat}
end
def Sx.okB(nv nf:Nat):Sx→Bool
 | .lit _=>true
 | .var _=>false
 | .bin _ _ a b=>a.okB nv nf&&b.okB nv nf
 | .wrap _ a=>a.okB nv nf
 | .dvar i=>Nat.blt i nv
 | .slit _=>true
 | .pr _ a b=>a.okB nv nf&&b.okB nv nf
 | .ap f a b c=>Nat.blt f nf&&(a.okB nv nf&&(b.okB nv nf&&c.okB nv nf))
 | .cell x i _=>x.okB nv nf&&i.okB nv nf
 | .setc x i _ c=>x.okB nv nf&&(i.okB nv nf&&c.okB nv nf)
 | .dlit _=>true
def Bx.okB(nv nf:Nat):Bx→Bool
 | .cmp _ a b=>a.okB nv nf&&b.okB nv nf
 | .not b=>b.okB nv nf
 | .seq a b=>a.okB nv nf&&b.okB nv nf
def ST.okB(nv nf:Nat):ST→Bool
 | .leaf l=>l.all (Sx.okB nv nf)
 | .ask b t e=>b.okB nv nf&&(t.okB nv nf&&e.okB nv nf)
 | .none=>true
section
variable{v v2:Val}{nv nf:Nat}
theorem Sx.okB_dat(hd:∀i,i<nv→v.dat i=v2.dat i)(hf:∀f,f<nf→v.fn f=v2.fn f):∀{e:Sx},e.okB nv nf=true→@Sx.dat v e=@Sx.dat v2 e:=by
 intro e
 induction e with
 |lit n=>intro _;rfl
 |var i=>intro h;cases h
 |bin op k a b ih1 ih2=>intro h;simp only[Sx.okB,al]at h;simp only[Sx.dat,ih1 h.1,ih2 h.2]
 |wrap k a ih=>intro h;simp only[Sx.okB]at h;simp only[Sx.dat,ih h]
 |dvar i=>intro h;exact hd i (aR h)
 |slit s=>intro _;rfl
 |pr f a b ih1 ih2=>intro h;simp only[Sx.okB,al]at h;simp only[Sx.dat,ih1 h.1,ih2 h.2]
 |ap f a b c ih1 ih2 ih3=>intro h;simp only[Sx.okB,al]at h;simp only[Sx.dat,ih1 h.2.1,ih2 h.2.2.1,ih3 h.2.2.2];rw[hf f (aR h.1)]
 |cell x i o ih1 ih2=>intro h;simp only[Sx.okB,al]at h;simp only[Sx.dat,ih1 h.1,ih2 h.2]
 |setc x i o c ih1 ih2 ih3=>intro h;simp only[Sx.okB,al]at h;simp only[Sx.dat,ih1 h.1,ih2 h.2.1,ih3 h.2.2]
 |dlit d=>intro _;rfl
theorem Bx.okB_eval(hd:∀i,i<nv→v.dat i=v2.dat i)(hf:∀f,f<nf→v.fn f=v2.fn f):∀{b:Bx},b.okB nv nf=true→@Bx.eval v b=@Bx.eval v2 b:=by
 intro b
 induction b with
 |cmp op a c=>intro h;simp only[Bx.okB,al]at h;simp only[Bx.eval,Sx.eval,Sx.okB_dat hd hf h.1,Sx.okB_dat hd hf h.2]
 |not b ih=>intro h;simp only[Bx.okB]at h;simp only[Bx.eval,ih h]
 |seq a c=>intro h;simp only[Bx.okB,al]at h;simp only[Bx.eval,Sx.okB_dat hd hf h.1,Sx.okB_dat hd hf h.2]
theorem ST.okB_val(hd:∀i,i<nv→v.dat i=v2.dat i)(hf:∀f,f<nf→v.fn f=v2.fn f)(i:Nat):∀{t:ST},t.okB nv nf=true→t.val v i=t.val v2 i
 | .leaf l,h=>by
  simp only[ST.val];cases hi:l[i]? with
  |none=>rfl
  |some e=>exact Sx.okB_dat hd hf (List.all_eq_true.1 h e (eQ hi))
 | .ask b t e,h=>by simp only[ST.okB,al]at h;simp only[ST.val,Bx.okB_eval hd hf h.1,ST.okB_val hd hf i h.2.1,ST.okB_val hd hf i h.2.2]
 | .none,_=>rfl
end
theorem J3{v:Val}{e:Sx}(h:intS? e=true):@Sx.dat v e=.int (@Sx.dat v e).toI:=by cases e<;>simp only[intS?,bY]at h;{rfl};have:=ae h;subst this;rfl
end Go.Tw
namespace Go.Tw
def DT.deadsIn(q:Nat→Prop):DT→Prop
 | .leaf=>True
 | .ask _ t e=>t.deadsIn q∧e.deadsIn q
 | .dead i=>q i
theorem Gi{v:Val}{cores:List bo}{i:Nat}{p:bo}(h:tO cores i p=true)(hp:@Holds v p):∃c,cores[i]? =some c∧@Holds v c:=by unfold tO at h;split at h;{rename_i c hc;refine⟨c,hc,fun q hq=> ?_⟩;have:=List.all_eq_true.1 h q hq;split at this;{rename_i x hx;rw[@fX v _ hp _ _ hx];exact gN this};cases this};cases h
theorem DT.ok2{P:Program}{gl:Nat→Option Nat}{b:bK}{R nr nb nt:Nat}{v v2:Val}(hb:BaseOk gl b R)(hrb:nr≤cK nb){F:Nat→Dat→Dat→Dat→Dat}(hF:v.fn=F){cons:List Con}(hc:∀c∈cons,c.Sound F P gl b R)
 (hm:P.follows .mixedOrders=true){n:Nat}{c:Code}{l:List (Nat×AV)}{o:List (Nat×Ob)}{nx:Nat}{e:AExit}{l':List (Nat×AV)}{o':List (Nat×Ob)}{nx':Nat}
 {cmp:Sx→Sx→Bool}(hcmp:∀a b,cmp a b=true→@Sx.dat v a=@Sx.dat v b){sp:ST}{tg:List Sx}{cores:List bo}(hsp:∀(i:Nat) (t:Sx),tg[i]? =some t→@Sx.dat v2 t=sp.val v i):
 ∀{t:DT} {p:bo},t.deadsIn (fun i=>∀c,cores[i]? =some c→¬@Holds v c)→t.chk cmp (fun p=>mX R nr nb (exec P (bX gl b p (gV R (eW p) cons)) n nt c {tm:=ba l,ds:=[],md:=none,rd:=false} (aA b o nx)) e l' o' nx') sp tg cores p=true→@Holds v p→
  HT P gl b R nr nb nt v c (ba l) (aA b o nx) e v2 (ba l') (aA b o' nx')
 | .leaf,p,_,h,hp=>by simp only[DT.chk]at h;split at h;{rename_i pl E h1 h2;exact HT.leaf hb hrb hp (jc cons) (ot hb hp hF hc) hm h2 (ye hcmp h fun i t ht=>(hsp i t ht).trans (ST.at_val (fun b x hx=>@fX v _ hp _ _ hx) h1 i))};cases h
 | .ask q t f,p,hd,h,hp=>by
  simp only[DT.chk,al]at h;cases hq:@Bx.eval v q with
  |true=>exact DT.ok2 hb hrb hF hc hm hcmp hsp hd.1 h.1 (@Holds.cons v _ _ _ hq hp)
  |false=>exact DT.ok2 hb hrb hF hc hm hcmp hsp hd.2 h.2 (@Holds.cons v _ _ _ hq hp)
 | .dead i,p,hd,h,hp=>by obtain⟨c,h1,h2⟩:=Gi h hp;exact absurd h2 (hd c h1)
end Go.Tw
set_option linter.unusedVariables false
namespace Go.Tw
noncomputable section
abbrev Fn:Type:=Nat→Dat→Dat→Dat→Dat
abbrev VL(F:Fn)(l:List Dat):Val:=Val.mk (fun _=>0) (fun i=>match l[i]? with
 |some d=>d
 |none=>.int 0) F
def ST.nxt(sp:ST)(F:Fn)(m:Nat)(s:List Dat):List Dat:=(List.range m).map fun i=>sp.val (VL F s) (i+1)
def ST.flg(sp:ST)(F:Fn)(s:List Dat):Int:=(sp.val (VL F s) 0).toI
def ST.it(sp:ST)(F:Fn)(m:Nat):Nat→List Dat→List Dat
 |0,s=>s
 |k+1,s=>sp.nxt F m (sp.it F m k s)
def rN:Sx→Sx
 | .pr f x y=>bif Nat.beq f 30 then rN x else .pr f x y
 |x=>x
theorem mz(v:Val):∀e:Sx,(@Sx.dat v (rN e)).toI=(@Sx.dat v e).toI
 | .pr f x y=>by simp only[rN,ai];split;{rename_i h;have:=ae h;subst this;exact(mz v x).trans rfl};rfl
 | .lit _=>rfl
 | .var _=>rfl
 | .bin .. =>rfl
 | .wrap .. =>rfl
 | .dvar _=>rfl
 | .slit _=>rfl
 | .ap .. =>rfl
 | .cell .. =>rfl
 | .setc .. =>rfl
 | .dlit _=>rfl
def Td(a t:Sx):Bool:=bif a.same t then true else match t with
 | .pr f x y=>(Nat.beq f 30&&(intS? a&&(rN a).same (rN x)))||(Nat.beq f 21&&(boolS? x&&(a.same x&&y.same (.lit 0))))
 |_=>false
theorem Gv{v:Val}{x:Sx}(h:boolS? x=true):@Sx.dat v x=.int (dW ((@Sx.dat v x).toI != 0)):=by
 have key:∀b:Bool,Dat.int (dW b)=Dat.int (dW ((dW b) != 0)):=fun b=>by cases b<;>rfl
 cases x with
 |lit n=>
  cases n with
  |ofNat n=>have:=aB h;rcases Nat.le_one_iff_eq_zero_or_eq_one.1 this with rfl|rfl<;>rfl
  |negSucc n=>cases h
 |pr f a b=>
  simp only[boolS?,al]at h;have h1:=aB h.1;have h2:=aB h.2
  match f,h1,h2 with
  |20,_,_=>exact key _
  |21,_,_=>exact key _
  |22,_,_=>exact key _
  |23,_,_=>exact key _
  |24,_,_=>exact key _
  |25,_,_=>exact key _
  |26,_,_=>exact key _
  |27,_,_=>exact key _
  |28,_,_=>exact key _
  |29,_,_=>exact key _
  |f+30,_,h2=>omega
 |_=>cases h
theorem NC{v:Val}{a t:Sx}(h:Td a t=true):@Sx.dat v a=@Sx.dat v t:=by
 unfold Td at h;rw[ai]at h;split at h;{rename_i hs;rw[Sx.same_eq hs]};cases t with
 |pr f x y=>simp only[dH,al]at h;rcases h with⟨h1,h2,h3⟩|⟨h1,h2,h3,h4⟩;{have:=ae h1;subst this;rw[J3 h2];show _=Dat.int (@Sx.dat v x).toI;rw[←mz v a,←mz v x,Sx.same_eq h3]};have:=ae h1;subst this;have:=Sx.same_eq h3;subst this;have:=Sx.same_eq h4;subst this;exact Gv h2
 |_=>cases h
def kG:List Sx→Nat→Sx
 |[],_=>.lit 0
 |x::l,i=>bif Nat.beq i 0 then x else kG l (Nat.pred i)
theorem nK:∀(l:List Sx) (i:Nat),kG l i=(l[i]?).getD (.lit 0)
 |[],_=>rfl
 |x::l,0=>rfl
 |x::l,i+1=>by show kG l i=_;rw[nK l i];rfl
def Cv(xs:List Sx)(E:bS):Bool:=E.all fun q=>Td q.1 (q.2.sub (kG xs))
theorem vD{F:Fn}{s:List Dat}{xs:List Sx}{E:bS}(h:Cv xs E=true):EqsOk (VL F s) (VL F (xs.map (@Sx.dat (VL F s)))) E:=fun q hq=>by
 have h1:=NC (v:=VL F s) (List.all_eq_true.1 h q hq);rw[h1,Sx.sub_dat];have e:(VL F s).at (kG xs)=VL F (xs.map (@Sx.dat (VL F s))):=by
  have e2:(fun i=>@Sx.dat (VL F s) (kG xs i))=fun i=>match(xs.map (@Sx.dat (VL F s)))[i]? with
   |some d=>d
   |none=>.int 0:=by
   funext i;rw[nK,List.getElem?_map];cases xs[i]? <;>rfl
  show Val.mk (fun _=>0) (fun i=>@Sx.dat (VL F s) (kG xs i)) F=_;rw[e2]
 rw[e]
def U9:List RE→Nat→Bool
 |[],_=>false
 |r::l,i=>Nat.beq r.idn i||U9 l i
def NI(R:Nat)(r:List RE)(e:RE):List RE:=bif Nat.blt e.idn R||U9 r e.idn then r else r++[e]
def Ou(R t:Nat)(r:List RE)(x y:AV):List RE:=match x,y with
 | .ptr i _ _ _,.ptr a _ _ _=>NI R r {idn:=i,ido:=a,ver:=0}
 | .opq k i _ _ _ _,.opq k2 a v _ _ _=>bif Nat.beq k k2 then NI R r {idn:=i,ido:=a,ver:=bif Nat.beq k 2 then v else 0}else r
 | .opq k i _ _ _ _,.slc a v _ len _ esz=>bif Nat.beq k 2&&Nat.blt 0 len then NI R r {idn:=i,ido:=a,ver:=v,n:=len*esz,t:=t}else r
 | .opq k i _ _ _ _,.map a=>bif Nat.beq k 4 then NI R r {idn:=i,ido:=a,ver:=0}else r
 |_,_=>r
def vU(R t:Nat):List RE→List AV→List AV→List RE
 |r,x::l,y::m=>vU R t (Ou R t r x y) l m
 |r,_,_=>r
def Ot(R:Nat)(tm:T AV):List RE→List (Nat×AV)→List RE
 |r,[]=>r
 |r,(t,x)::l=>Ot R tm (match tm.get t with
  |some y=>(match x,y with
   | .agg a,.agg b=>vU R t r a b
   | .tup a,.tup b=>vU R t r a b
   | .fn _ a b,.fn _ c d=>vU R t (vU R t r a c) b d
   |x,y=>Ou R t r x y)
  |none=>r) l
def KQ(R:Nat)(h:T Ob):List RE→List (Nat×Ob)→List RE
 |r,[]=>r
 |r,(i,o)::l=>KQ R h (match o,ku r i with
  | .box c _,some e=>(match h.get e.ido with
   |some (.box c2 _)=>vU R 0 r c c2
   |_=>r)
  |_,_=>r) l
def Ub(R:Nat)(tm:T AV)(h:T Ob)(l':List (Nat×AV))(o':List (Nat×Ob))(pins:List RE):List RE:=KQ R h (KQ R h (Ot R tm pins l') o') o'
def ia(R nr nb:Nat)(pins:List RE)(x:XR)(e:AExit)(tm':List (Nat×AV))(objs':List (Nat×Ob))(nx':Nat):Option bS:=match x with
 | .ok e' env σ=>bif wh R nr e e' env σ then dS R nb (Ub R env.tm σ.heap tm' objs' pins) (zX σ.bare env.tm (Ub R env.tm σ.heap tm' objs' pins) tm' objs') env.tm σ.bare tm' objs' nx' else none
 |_=>none
def ru(cores:List bo)(p:bo):Bool:=cores.any fun c=>c.all fun q=>match eW p q.1 with
 |some x=>mo x q.2
 |none=>false
theorem kf{v:Val}{cores:List bo}{p:bo}(h:ru cores p=true)(hp:@Holds v p):∃c∈cores,@Holds v c:=by obtain⟨c,hc,h⟩:=List.any_eq_true.1 h;refine⟨c,hc,fun q hq=> ?_⟩;have:=List.all_eq_true.1 h q hq;split at this;{rename_i x hx;rw[@fX v _ hp _ _ hx];exact gN this};cases this
def ST.chkW(fin:bo→Option bS)(w:Nat)(m:Nat)(cores:List bo):ST→bo→Bool
 | .leaf l,p=>match l with
  | .lit n::xs=>bif mb n (Int.ofNat w)then Nat.beq xs.length m&&(match fin p with
   |some E=>Cv xs E
   |Option.none=>false)else true
  |_=>false
 | .ask b t e,p=>ST.chkW fin w m cores t ((b,true)::p)&&ST.chkW fin w m cores e ((b,false)::p)
 | .none,p=>ru cores p
section
variable{P:Program}{gl:Nat→Option Nat}{b:bK}{R nr nb nt:Nat}
theorem HT.leafX{v v2:Val}(hb:BaseOk gl b R)(hrb:nr≤cK nb){p:bo}(hp:@Holds v p){hk:FuncId→List AV→St→CR}(hs:bN (bX gl b p hk))(hh:@kI v P R (bX gl b p hk))
 (hm:P.follows .mixedOrders=true){n:Nat}{c:Code}{tm:T AV}{σ:St}{pins:List RE}{e:AExit}{tm':List (Nat×AV)}{objs':List (Nat×Ob)}{nx':Nat}{E:bS}
 (h:ia R nr nb pins (exec P (bX gl b p hk) n nt c {tm:=tm,ds:=[],md:=none,rd:=false} σ) e tm' objs' nx'=some E)(hE:EqsOk v v2 E):HT P gl b R nr nb nt v c tm σ e v2 (ba tm') (aA b objs' nx'):=by
 unfold ia at h;split at h
 ·rename_i e' env σ' hx;rw[ai]at h;split at h
  ·rename_i hg;simp only[wh,al]at hg;obtain⟨⟨⟨h1,h0⟩,h2⟩,h3⟩:=hg;obtain⟨rfl,hn⟩:=od h1;have hd:env.ds=[]:=by
    split at h2;{assumption};cases h2
   have hmd:env.md=none:=(by split at h3;{assumption};cases h3);exact(pL hp hs hh hm hx hn hd hmd (fun i hi=>aB (List.all_eq_true.1 h0 i hi))).ht hrb (aV hb h hE)
  cases h
 cases h
theorem ST.chkW_ok(hb:BaseOk gl b R)(hrb:nr≤cK nb){F:Fn}{s:List Dat}{cons:List Con}(hc:∀c∈cons,c.Sound F P gl b R){ak:List HCon}(hhc:∀c∈ak,c.Sound F P gl b R)
 (hm:P.follows .mixedOrders=true){n:Nat}{c:Code}{l:List (Nat×AV)}{o:List (Nat×Ob)}{nx:Nat}{pins:List RE}{e:AExit}{l':List (Nat×AV)}{o':List (Nat×Ob)}{nx' w m:Nat}{cores:List bo}(hco:∀q∈cores,¬@Holds (VL F s) q):
 ∀{sp:ST} {p:bo},sp.chkW (fun p=>ia R nr nb pins (exec P (bX gl b p (qG (gV R (eW p) cons) (fU R (eW p) ak))) n nt c {tm:=ba l,ds:=[],md:=Option.none,rd:=false} (aA b o nx)) e l' o' nx') w m cores p=true→
  @Holds (VL F s) p→sp.flg F s=w→HT P gl b R nr nb nt (VL F s) c (ba l) (aA b o nx) e (VL F (sp.nxt F m s)) (ba l') (aA b o' nx')
 | .leaf ls,p,h,hp,hw=>by
  simp only[ST.chkW]at h;split at h
  ·rename_i f xs;have hf:f=(w:Int):=hw;have hi:mb f (Int.ofNat w)=true:=(by subst hf;show Nat.beq w w=true;exact Nat.beq_refl w);rw[hi,cond_true,al]at h;obtain⟨h1,h2⟩:=h;split at h2
   ·rename_i E hE;have hlen:=ae h1;have e2:(ST.leaf (.lit f::xs)).nxt F m s=xs.map (@Sx.dat (VL F s)):=by
     apply List.ext_getElem?;intro i;unfold ST.nxt;rw[List.getElem?_map,List.getElem?_map];by_cases hi:i<m;{rw[List.getElem?_range hi];have hx:i<xs.length:=(by omega);simp only[Option.map_some,ST.val,List.getElem?_cons_succ,bC hx]};have hx:xs.length≤i:=(by omega);rw[bZ (by simpa using hi),bZ hx];rfl
    rw[e2];exact HT.leafX hb hrb hp (zB (jc cons) (nY fun c h=>(hhc c h).1)) (N8 (ot hb hp rfl hc) (vI hb hp rfl hhc)) hm hE (vD h2)
   cases h2
  cases h
 | .ask q t f,p,h,hp,hw=>by
  simp only[ST.chkW,al]at h;cases hq:@Bx.eval (VL F s) q with
  |true=>have e1:∀i,(ST.ask q t f).val (VL F s) i=t.val (VL F s) i:=fun i=>(by simp only[ST.val,hq,cond_true]);have e2:(ST.ask q t f).nxt F m s=t.nxt F m s:=(by unfold ST.nxt;simp only[e1]);rw[e2];exact ST.chkW_ok hb hrb hc hhc hm hco h.1 (@Holds.cons (VL F s) _ _ _ hq hp) (by rw[←hw];unfold ST.flg;rw[e1])
  |false=>have e1:∀i,(ST.ask q t f).val (VL F s) i=f.val (VL F s) i:=fun i=>(by simp only[ST.val,hq,cond_false]);have e2:(ST.ask q t f).nxt F m s=f.nxt F m s:=(by unfold ST.nxt;simp only[e1]);rw[e2];exact ST.chkW_ok hb hrb hc hhc hm hco h.2 (@Holds.cons (VL F s) _ _ _ hq hp) (by rw[←hw];unfold ST.flg;rw[e1])
 | .none,p,h,hp,_=>by obtain⟨c,h1,h2⟩:=kf h hp;exact absurd h2 (hco c h1)
end
structure Tl where
 l:List (Nat×AV)
 o:List (Nat×Ob)
 nx:Nat
def KJ(P:Program)(gl:Nat→Option Nat)(b:bK)(R nr nb nt:Nat)(cons:List Con)(ak:List HCon)(pins:List RE)(c:Code)(A:Tl)(sp:ST)(m:Nat)(cores:List bo)(inv:bo)(w:Nat)(e:AExit)(B:Tl):Bool:=
 sp.chkW (fun p=>ia R nr nb pins (exec P (bX gl b p (qG (gV R (eW p) cons) (fU R (eW p) ak))) 1000 nt c {tm:=ba A.l,ds:=[],md:=none,rd:=false} (aA b A.o A.nx)) e B.l B.o B.nx) w m cores inv
def ST.flags(n:Nat):ST→Bool
 | .leaf l=>match l with
  | .lit (.ofNat k)::_=>Nat.blt k n
  |_=>false
 | .ask _ t e=>ST.flags n t&&ST.flags n e
 | .none=>true
theorem ST.flags_ok{F:Fn}{n:Nat}{s:List Dat}(hn:0<n):∀{sp:ST},sp.flags n=true→∃k,k<n∧sp.flg F s=(k:Nat)
 | .leaf l,h=>by simp only[ST.flags]at h;split at h;{rename_i k xs;exact⟨k,aR h,rfl⟩};cases h
 | .ask q t f,h=>by
  simp only[ST.flags,al]at h;cases hq:@Bx.eval (VL F s) q with
  |true=>obtain⟨k,h1,h2⟩:=ST.flags_ok (F:=F) (s:=s) hn h.1;exact⟨k,h1,by rw[←h2];unfold ST.flg;simp only[ST.val,hq,cond_true]⟩
  |false=>obtain⟨k,h1,h2⟩:=ST.flags_ok (F:=F) (s:=s) hn h.2;exact⟨k,h1,by rw[←h2];unfold ST.flg;simp only[ST.val,hq,cond_false]⟩
 | .none,_=>⟨0,hn,rfl⟩
def ST.tr(sp:ST)(F:Fn)(m:Nat)(s:List Dat):Nat×List Dat:=((sp.flg F s).toNat,sp.nxt F m s)
def ST.stop(sp:ST)(F:Fn)(m:Nat)(fu:Nat)(s:List Dat):Nat:=match(List.range fu).find? fun k=>decide (sp.flg F (sp.it F m k s)≠0)with
 |some k=>k
 |Option.none=>fu
def ST.lp(sp:ST)(F:Fn)(m:Nat)(fu:List Dat→Nat)(s:List Dat):Nat×List Dat:=
 (if sp.flg F (sp.it F m (sp.stop F m (fu s) s) s)=1 then 1 else 0,sp.nxt F m (sp.it F m (sp.stop F m (fu s) s) s))
def aG(f g:List Dat→Nat×List Dat)(s:List Dat):Nat×List Dat:=if(f s).1=0 then g (f s).2 else f s
section
variable(P:Program)(gl:Nat→Option Nat)(b:bK)(R nr nb nt:Nat)(F:Fn)
abbrev Oz(s:List Dat)(c:Code)(A:Tl)(e:AExit)(s':List Dat)(B:Tl):Prop:=HT P gl b R nr nb nt (VL F s) c (ba A.l) (aA b A.o A.nx) e (VL F s') (ba B.l) (aA b B.o B.nx)
def Pcs(J:List Dat→Prop)(c:Code)(A B Rt:Tl)(f:List Dat→Nat×List Dat):Prop:=
 ∀s,J s→((f s).1=0∧Oz P gl b R nr nb nt F s c A .normal (f s).2 B)∨((f s).1=1∧Oz P gl b R nr nb nt F s c A .ret (f s).2 Rt)
end
section
variable{P:Program}{gl:Nat→Option Nat}{b:bK}{R nr nb nt:Nat}{F:Fn}{J J2:List Dat→Prop}{A B C Rt:Tl}{f g:List Dat→Nat×List Dat}{c c1 c2:Code}
theorem Pcs.seq(hrb:nr≤cK nb)(h1:Pcs P gl b R nr nb nt F J c1 A B Rt f)(hJ:∀s,J s→(f s).1=0→J2 (f s).2)(h2:Pcs P gl b R nr nb nt F J2 c2 B C Rt g):Pcs P gl b R nr nb nt F J (.seq c1 c2) A C Rt (aG f g):=fun s hs=>by unfold aG;rcases h1 s hs with⟨k1,k2⟩|⟨k1,k2⟩;{rw[if_pos k1];rcases h2 _ (hJ s hs k1)with⟨q1,q2⟩|⟨q1,q2⟩;{exact .inl ⟨q1,HT.seq hrb k2 q2⟩};exact .inr ⟨q1,HT.seq hrb k2 q2⟩};rw[if_neg (by omega)];exact .inr ⟨k1,HT.seq_out k2 (by simp)⟩
theorem Pcs.weak{J':List Dat→Prop}(h:Pcs P gl b R nr nb nt F J c A B Rt f)(hJ:∀s,J' s→J s):Pcs P gl b R nr nb nt F J' c A B Rt f:=fun s hs=>h s (hJ s hs)
theorem Pcs.tree(hb:BaseOk gl b R)(hrb:nr≤cK nb){cons:List Con}(hc:∀c∈cons,c.Sound F P gl b R){ak:List HCon}(hhc:∀c∈ak,c.Sound F P gl b R)(hm:P.follows .mixedOrders=true)
 {pins:List RE}{sp:ST}{m:Nat}{cores:List bo}{inv:bo}(hco:∀s,J s→∀q∈cores,¬@Holds (VL F s) q)(hinv:∀s,J s→@Holds (VL F s) inv)(hfl:sp.flags 2=true)
 (h0:KJ P gl b R nr nb nt cons ak pins c A sp m cores inv 0 .normal B=true)(h1:KJ P gl b R nr nb nt cons ak pins c A sp m cores inv 1 .ret Rt=true):Pcs P gl b R nr nb nt F J c A B Rt (sp.tr F m):=fun s hs=>by
 obtain⟨k,hk,hk2⟩:=ST.flags_ok (F:=F) (s:=s) (by decide) hfl
 match k,hk with
 |0,_=>exact .inl ⟨by unfold ST.tr;rw[hk2];rfl,ST.chkW_ok hb hrb hc hhc hm (hco s hs) h0 (hinv s hs) hk2⟩
 |1,_=>exact .inr ⟨by unfold ST.tr;rw[hk2];rfl,ST.chkW_ok hb hrb hc hhc hm (hco s hs) h1 (hinv s hs) hk2⟩
theorem ST.stop_ok{sp:ST}{m fu:Nat}{s:List Dat}(h:∃k,k≤fu∧sp.flg F (sp.it F m k s)≠0):(∀k,k<sp.stop F m fu s→sp.flg F (sp.it F m k s)=0)∧sp.flg F (sp.it F m (sp.stop F m fu s) s)≠0∧sp.stop F m fu s≤fu:=by
 unfold ST.stop;split;{rename_i k hk;obtain⟨h1,h2,h3⟩:=List.find?_range_eq_some.1 hk;refine⟨fun j hj=> ?_,of_decide_eq_true h1,Nat.le_of_lt (List.mem_range.1 h2)⟩;have:=h3 j hj;simpa using this};rename_i hk;have hall:∀j,j<fu→sp.flg F (sp.it F m j s)=0:=fun j hj=>by have:=List.find?_eq_none.1 hk j (List.mem_range.2 hj);simpa using this
 obtain⟨k,hk1,hk2⟩:=h;rcases Nat.eq_or_lt_of_le hk1 with rfl|hlt;{exact⟨hall,hk2,aE _⟩};exact absurd (hall k hlt) hk2
theorem Pcs.loop(hb:BaseOk gl b R)(hrb:nr≤cK nb){cons:List Con}(hc:∀c∈cons,c.Sound F P gl b R){ak:List HCon}(hhc:∀c∈ak,c.Sound F P gl b R)(hm:P.follows .mixedOrders=true)
 {K:Nat→List Dat→Prop}{id:Nat}{pins:List RE}{sp:ST}{m:Nat}{fu:List Dat→Nat}{cores:List bo}{inv:bo}(hco:∀k s,K k s→∀q∈cores,¬@Holds (VL F s) q)(hinv:∀k s,K k s→@Holds (VL F s) inv)(hfl:sp.flags 3=true)
 (hJ:∀k s,K k s→sp.flg F s=0→K (k+1) (sp.nxt F m s))(hterm:∀s,K 0 s→∃k,k≤fu s∧sp.flg F (sp.it F m k s)≠0)
 (h0:KJ P gl b R nr nb nt cons ak pins c A sp m cores inv 0 .normal A=true)(h1:KJ P gl b R nr nb nt cons ak pins c A sp m cores inv 1 .ret Rt=true)(h2:KJ P gl b R nr nb nt cons ak pins c A sp m cores inv 2 (.exit id) B=true):
 Pcs P gl b R nr nb nt F (K 0) (.block id (.loop c)) A B Rt (sp.lp F m fu):=fun s hs=>by
 obtain⟨a1,a2,a3⟩:=ST.stop_ok (hterm s hs);have hJk:∀k,k≤sp.stop F m (fu s) s→K k (sp.it F m k s):=fun k=>by
  induction k with
  |zero=>intro _;exact hs
  |succ k ih=>intro hk;exact hJ _ _ (ih (by omega)) (a1 k (by omega))
 have hround:∀k,k<sp.stop F m (fu s) s→Oz P gl b R nr nb nt F (sp.it F m k s) c A .normal (sp.it F m (k+1) s) A:=fun k hk=>
  ST.chkW_ok hb hrb hc hhc hm (hco _ _ (hJk k (by omega))) h0 (hinv _ _ (hJk k (by omega))) (a1 k hk)
 have hlast:=hJk _ (aE _);obtain⟨k,hk,hk2⟩:=ST.flags_ok (F:=F) (s:=sp.it F m (sp.stop F m (fu s) s) s) (by decide) hfl
 match k,hk with
 |0,_=>exact absurd hk2 a2
 |1,_=>refine .inr ⟨by unfold ST.lp;rw[hk2];rfl,HT.block_out (HT.loop hrb (sp.stop F m (fu s) s) (fun k=>VL F (sp.it F m k s)) hround (ST.chkW_ok hb hrb hc hhc hm (hco _ _ hlast) h1 (hinv _ _ hlast) hk2) (by simp)) (by simp)⟩
 |2,_=>refine .inl ⟨by unfold ST.lp;rw[hk2];rfl,HT.block (HT.loop hrb (sp.stop F m (fu s) s) (fun k=>VL F (sp.it F m k s)) hround (ST.chkW_ok hb hrb hc hhc hm (hco _ _ hlast) h2 (hinv _ _ hlast) hk2) (by simp))⟩
def XO(P:Program)(gl:Nat→Option Nat)(b:bK)(R nr nb nt:Nat)(F:Fn)(J:List Dat→Prop)(c:Code)(A Rt:Tl)(f:List Dat→Nat×List Dat):Prop:=∀s,J s→(f s).1=1∧Oz P gl b R nr nb nt F s c A .ret (f s).2 Rt
theorem Pcs.ret(h:Pcs P gl b R nr nb nt F J c A B Rt f)(h1:∀s,J s→(f s).1=1):XO P gl b R nr nb nt F J c A Rt f:=fun s hs=>by rcases h s hs with⟨k1,_⟩|⟨k1,k2⟩;{rw[h1 s hs]at k1;cases k1};exact⟨k1,k2⟩
end
end
end Go.Tw
set_option linter.unusedVariables false
namespace Go.Tw
noncomputable section
def aP(s:List Dat)(i:Nat):Dat:=match s[i]? with
 |some d=>d
 |none=>.int 0
where litN:Sx→Option Nat
 | .pr f a b=>bif Nat.beq f 13 then some 0 else bif Nat.beq f 12 then some 1 else bif Nat.beq f 9 then(match litN a,litN b with
  |some p,some q=>some (p+q)
  |_,_=>none)else none
 |_=>none
theorem RD{sp:ST}{F:Fn}{m i:Nat}{s:List Dat}(h:i<m):aP (sp.nxt F m s) i=sp.val (VL F s) (i+1):=by unfold aP ST.nxt;rw[List.getElem?_map,List.getElem?_range h];rfl
section
variable{P:Program}{gl:Nat→Option Nat}{b:bK}{R nr nb nt:Nat}{F:Fn}{A B Rt:Tl}{c:Code}
end
theorem ST.val_congr{F G:Fn}{nv nf:Nat}(h:∀f,f<nf→F f=G f){sp:ST}(ho:sp.okB nv nf=true)(s:List Dat)(i:Nat):sp.val (VL F s) i=sp.val (VL G s) i:=
 ST.okB_val (v:=VL F s) (v2:=VL G s) (nv:=nv) (nf:=nf) (fun _ _=>rfl) (fun f hf=>h f hf) i ho
theorem ST.tr_congr{F G:Fn}{nv nf m:Nat}(h:∀f,f<nf→F f=G f){sp:ST}(ho:sp.okB nv nf=true):sp.tr F m=sp.tr G m:=by funext s;unfold ST.tr ST.flg ST.nxt;simp only[ST.val_congr h ho]
end
end Go.Tw
set_option linter.unusedVariables false
namespace Go.Tw
noncomputable section
def cl:Code→Code
 | .seq a _=>a
 | .block _ a=>a
 | .loop a=>a
 | .scope a=>a
 | .cond _ a _=>a
 |c=>c
def cr:Code→Code
 | .seq _ b=>b
 | .cond _ _ b=>b
 |c=>c
def fj:Nat→AExit
 |0=>.normal
 |1=>.ret
 |k+2=>.exit k
theorem vL{w:Nat}(h:w≠0):fj w≠.normal:=by
 match w,h with
 |1,_=>simp [fj]
 |k+2,_=>simp [fj]
theorem Am{w id:Nat}(h:w≠id+2):fj w≠.exit id:=by
 match w,h with
 |0,_=>simp [fj]
 |1,_=>simp [fj]
 |k+2,h=>simp only[fj];intro h';cases h';exact h rfl
def jA(B:Tl)(T:Nat→Tl):Nat→Tl
 |0=>B
 |w+1=>T (w+1)
theorem sb{B C:Tl}{T:Nat→Tl}{w:Nat}(h:w≠0):jA B T w=jA C T w:=by
 match w,h with
 |w+1,_=>rfl
theorem Hl{B:Tl}{T:Nat→Tl}{w:Nat}(h:w≠0):jA B T w=T w:=by
 match w,h with
 |w+1,_=>rfl
def ST.chkX(fin:Nat→bo→Option bS)(m:Nat)(cores:List bo):ST→bo→Bool
 | .leaf l,p=>match l with
  | .lit (.ofNat w)::xs=>Nat.beq xs.length m&&(match fin w p with
   |some E=>Cv xs E
   |Option.none=>false)
  |_=>false
 | .ask b t e,p=>ST.chkX fin m cores t ((b,true)::p)&&ST.chkX fin m cores e ((b,false)::p)
 | .none,p=>ru cores p
abbrev gw:Type:=List Dat→Nat×List Dat
section
variable(P:Program)(gl:Nat→Option Nat)(b:bK)(R nr nb nt:Nat)(F:Fn)
def PX(J:List Dat→Prop)(c:Code)(A B:Tl)(T:Nat→Tl)(f:gw):Prop:=
 ∀s,J s→Oz P gl b R nr nb nt F s c A (fj (f s).1) (f s).2 (jA B T (f s).1)
def chkX(cons:List Con)(ak:List HCon)(pins:List RE)(c:Code)(A B:Tl)(T:Nat→Tl)(sp:ST)(m:Nat)(cores:List bo)(inv:bo):Bool:=
 sp.chkX (fun w p=>ia R nr nb pins (exec P (bX gl b p (qG (gV R (eW p) cons) (fU R (eW p) ak))) 1000 nt c {tm:=ba A.l,ds:=[],md:=none,rd:=false} (aA b A.o A.nx)) (fj w) (jA B T w).l (jA B T w).o (jA B T w).nx) m cores inv
end
section
variable{P:Program}{gl:Nat→Option Nat}{b:bK}{R nr nb nt:Nat}{F:Fn}
theorem ST.chkX_ok(hb:BaseOk gl b R)(hrb:nr≤cK nb){s:List Dat}{cons:List Con}(hc:∀c∈cons,c.Sound F P gl b R){ak:List HCon}(hhc:∀c∈ak,c.Sound F P gl b R)
 (hm:P.follows .mixedOrders=true){n:Nat}{c:Code}{l:List (Nat×AV)}{o:List (Nat×Ob)}{nx:Nat}{pins:List RE}{B:Tl}{T:Nat→Tl}{m:Nat}{cores:List bo}(hco:∀q∈cores,¬@Holds (VL F s) q):
 ∀{sp:ST} {p:bo},sp.chkX (fun w p=>ia R nr nb pins (exec P (bX gl b p (qG (gV R (eW p) cons) (fU R (eW p) ak))) n nt c {tm:=ba l,ds:=[],md:=Option.none,rd:=false} (aA b o nx)) (fj w) (jA B T w).l (jA B T w).o (jA B T w).nx) m cores p=true→
  @Holds (VL F s) p→HT P gl b R nr nb nt (VL F s) c (ba l) (aA b o nx) (fj (sp.tr F m s).1) (VL F (sp.tr F m s).2) (ba (jA B T (sp.tr F m s).1).l) (aA b (jA B T (sp.tr F m s).1).o (jA B T (sp.tr F m s).1).nx)
 | .leaf ls,p,h,hp=>by
  simp only[ST.chkX]at h;split at h
  ·rename_i w xs;rw[al]at h;obtain⟨h1,h2⟩:=h;have hw:((ST.leaf (.lit (.ofNat w)::xs)).tr F m s).1=w:=rfl;split at h2
   ·rename_i E hE;have hlen:=ae h1;have e2:((ST.leaf (.lit (.ofNat w)::xs)).tr F m s).2=xs.map (@Sx.dat (VL F s)):=by
     apply List.ext_getElem?;intro i;unfold ST.tr ST.nxt;rw[List.getElem?_map,List.getElem?_map];by_cases hi:i<m;{rw[List.getElem?_range hi];have hx:i<xs.length:=(by omega);simp only[Option.map_some,ST.val,List.getElem?_cons_succ,bC hx]};have hx:xs.length≤i:=(by omega);rw[bZ (by simpa using hi),bZ hx];rfl
    rw[hw,e2];exact HT.leafX hb hrb hp (zB (jc cons) (nY fun c h=>(hhc c h).1)) (N8 (ot hb hp rfl hc) (vI hb hp rfl hhc)) hm hE (vD h2)
   cases h2
  cases h
 | .ask q t f,p,h,hp=>by
  simp only[ST.chkX,al]at h;cases hq:@Bx.eval (VL F s) q with
  |true=>have e1:∀i,(ST.ask q t f).val (VL F s) i=t.val (VL F s) i:=fun i=>(by simp only[ST.val,hq,cond_true]);have e2:(ST.ask q t f).tr F m s=t.tr F m s:=(by unfold ST.tr ST.flg ST.nxt;simp only[e1]);rw[e2];exact ST.chkX_ok hb hrb hc hhc hm hco h.1 (@Holds.cons (VL F s) _ _ _ hq hp)
  |false=>have e1:∀i,(ST.ask q t f).val (VL F s) i=f.val (VL F s) i:=fun i=>(by simp only[ST.val,hq,cond_false]);have e2:(ST.ask q t f).tr F m s=f.tr F m s:=(by unfold ST.tr ST.flg ST.nxt;simp only[e1]);rw[e2];exact ST.chkX_ok hb hrb hc hhc hm hco h.2 (@Holds.cons (VL F s) _ _ _ hq hp)
 | .none,p,h,hp=>by obtain⟨c,h1,h2⟩:=kf h hp;exact absurd h2 (hco c h1)
variable{J J2:List Dat→Prop}{A B C:Tl}{T:Nat→Tl}{f g:gw}{c c1 c2:Code}
theorem PX.tree(hb:BaseOk gl b R)(hrb:nr≤cK nb)(hm:P.follows .mixedOrders=true){cons:List Con}(hc:∀c∈cons,c.Sound F P gl b R){ak:List HCon}(hhc:∀c∈ak,c.Sound F P gl b R)
 {pins:List RE}{sp:ST}{m:Nat}{cores:List bo}{inv:bo}(hco:∀s,J s→∀q∈cores,¬@Holds (VL F s) q)(hinv:∀s,J s→@Holds (VL F s) inv)
 (h:chkX P gl b R nr nb nt cons ak pins c A B T sp m cores inv=true):PX P gl b R nr nb nt F J c A B T (sp.tr F m):=fun s hs=>
 ST.chkX_ok hb hrb hc hhc hm (hco s hs) h (hinv s hs)
theorem PX.weak{J':List Dat→Prop}(h:PX P gl b R nr nb nt F J c A B T f)(hJ:∀s,J' s→J s):PX P gl b R nr nb nt F J' c A B T f:=fun s hs=>h s (hJ s hs)
theorem PX.seq(hrb:nr≤cK nb)(h1:PX P gl b R nr nb nt F J c1 A B T f)(hJ:∀s,J s→(f s).1=0→J2 (f s).2)(h2:PX P gl b R nr nb nt F J2 c2 B C T g):PX P gl b R nr nb nt F J (.seq c1 c2) A C T (aG f g):=fun s hs=>by have k1:=h1 s hs;unfold aG;by_cases h0:(f s).1=0;{rw[if_pos h0];rw[h0]at k1;exact HT.seq hrb k1 (h2 _ (hJ s hs h0))};rw[if_neg h0,←sb (B:=B) h0];exact HT.seq_out k1 (vL h0)
def jg(id:Nat)(f:gw):gw:=fun s=>if(f s).1=id+2 then(0,(f s).2)else f s
theorem PX.block{id:Nat}(h:PX P gl b R nr nb nt F J c A B T f)(hT:T (id+2)=B):PX P gl b R nr nb nt F J (.block id c) A B T (jg id f):=fun s hs=>by have k:=h s hs;unfold jg;by_cases h0:(f s).1=id+2;{rw[if_pos h0];rw[h0]at k;rw[Hl (by omega),hT]at k;exact HT.block k};rw[if_neg h0];exact HT.block_out k (Am h0)
def xU(f:gw):Nat→List Dat→List Dat
 |0,s=>s
 |k+1,s=>(f (xU f k s)).2
def ir(f:gw)(fu:Nat)(s:List Dat):Nat:=match(List.range fu).find? fun k=>decide ((f (xU f k s)).1≠0)with
 |some k=>k
 |none=>fu
def gd(f:gw)(fu:List Dat→Nat):gw:=fun s=>f (xU f (ir f (fu s) s) s)
theorem kP{f:gw}{fu:Nat}{s:List Dat}(h:∃k,k≤fu∧(f (xU f k s)).1≠0):(∀k,k<ir f fu s→(f (xU f k s)).1=0)∧(f (xU f (ir f fu s) s)).1≠0∧ir f fu s≤fu:=by
 unfold ir;split;{rename_i k hk;obtain⟨h1,h2,h3⟩:=List.find?_range_eq_some.1 hk;refine⟨fun j hj=> ?_,of_decide_eq_true h1,Nat.le_of_lt (List.mem_range.1 h2)⟩;have:=h3 j hj;simpa using this};rename_i hk;have hall:∀j,j<fu→(f (xU f j s)).1=0:=fun j hj=>by have:=List.find?_eq_none.1 hk j (List.mem_range.2 hj);simpa using this
 obtain⟨k,hk1,hk2⟩:=h;rcases Nat.eq_or_lt_of_le hk1 with rfl|hlt;{exact⟨hall,hk2,aE _⟩};exact absurd (hall k hlt) hk2
theorem PX.loop(hrb:nr≤cK nb){K:Nat→List Dat→Prop}{fu:List Dat→Nat}(h:∀k,PX P gl b R nr nb nt F (K k) c A A T f)(hJ:∀k s,K k s→(f s).1=0→K (k+1) (f s).2)
 (hterm:∀s,K 0 s→∃k,k≤fu s∧(f (xU f k s)).1≠0):PX P gl b R nr nb nt F (K 0) (.loop c) A B T (gd f fu):=fun s hs=>by
 obtain⟨a1,a2,a3⟩:=kP (hterm s hs);have hJk:∀k,k≤ir f (fu s) s→K k (xU f k s):=fun k=>by
  induction k with
  |zero=>intro _;exact hs
  |succ k ih=>intro hk;exact hJ _ _ (ih (by omega)) (a1 k (by omega))
 have hround:∀k,k<ir f (fu s) s→Oz P gl b R nr nb nt F (xU f k s) c A .normal (xU f (k+1) s) A:=fun k hk=>by have:=h k _ (hJk k (by omega));rw[a1 k hk]at this;exact this
 have hlast:=h _ _ (hJk _ (aE _));unfold gd;rw[sb (C:=A) a2];exact HT.loop hrb (ir f (fu s) s) (fun k=>VL F (xU f k s)) hround hlast (vL a2)
def Yn(q:Bx)(F:Fn)(f g:gw):gw:=fun s=>bif @Bx.eval (VL F s) q then f s else g s
theorem HT.cond{v v2:Val}{t:Nat}{q:Bx}{x y:Code}{tm tm2:_root_.Go.Tw.T AV}{σ σ2:St}{e:AExit}(ht:tm.get t=some (.symb q))(h:HT P gl b R nr nb nt v (if @Bx.eval v q then x else y) tm σ e v2 tm2 σ2):HT P gl b R nr nb nt v (.cond (.tmp t) x y) tm σ e v2 tm2 σ2:=by
 intro a cs w φ ha;obtain⟨x',h1,h2⟩:=ha.val _ _ ht;have hb:a.eval (.tmp t)=.bool (@Bx.eval v q):=by cases h2;simp [Act.eval,h1]
 refine lO hb ?_;exact h a cs w φ ha
theorem PX.cond{t:Nat}{q:Bx}(ht:(ba A.l).get t=some (.symb q))(h1:PX P gl b R nr nb nt F (fun s=>J s∧@Bx.eval (VL F s) q=true) c1 A B T f)(h2:PX P gl b R nr nb nt F (fun s=>J s∧@Bx.eval (VL F s) q=false) c2 A B T g):
 PX P gl b R nr nb nt F J (.cond (.tmp t) c1 c2) A B T (Yn q F f g):=fun s hs=>by
 refine HT.cond (v:=VL F s) ht ?_;unfold Yn;cases hq:@Bx.eval (VL F s) q with
 |true=>simp only[if_true,cond_true];exact h1 s ⟨hs,hq⟩
 |false=>simp only[bY,if_false,cond_false];exact h2 s ⟨hs,hq⟩
theorem PX.skip{B:Tl}(h:PX P gl b R nr nb nt F J c A B T f){B':Tl}(h0:∀s,J s→(f s).1≠0):PX P gl b R nr nb nt F J c A B' T f:=fun s hs=>by have:=h s hs;rw[sb (C:=B') (h0 s hs)]at this;exact this
theorem PX.ret(h:PX P gl b R nr nb nt F J c A B T f){s:List Dat}(hs:J s)(h1:(f s).1=1):Oz P gl b R nr nb nt F s c A .ret (f s).2 (T 1):=by have:=h s hs;rw[h1]at this;exact this
theorem PX.on(h:PX P gl b R nr nb nt F J c A B T f){s:List Dat}(hs:J s)(h1:(f s).1=0):Oz P gl b R nr nb nt F s c A .normal (f s).2 B:=by have:=h s hs;rw[h1]at this;exact this
end
def YZ(l:List Nat)(f:gw):Prop:=∀s,(f s).1∈l
def ST.fls(l:List Nat):ST→Bool
 | .leaf x=>match x with
  | .lit (.ofNat k)::_=>l.any (Nat.beq k)
  |_=>false
 | .ask _ t e=>ST.fls l t&&ST.fls l e
 | .none=>l.any (Nat.beq 0)
theorem yx{l:List Nat}{k:Nat}(h:l.any (Nat.beq k)=true):k∈l:=by obtain⟨x,hx,he⟩:=List.any_eq_true.1 h;have:=ae he;subst this;exact hx
theorem rn{F:Fn}{m:Nat}{l:List Nat}:∀{sp:ST},sp.fls l=true→YZ l (sp.tr F m)
 | .leaf x,h,s=>by simp only[ST.fls]at h;split at h;{exact yx h};cases h
 | .ask q t e,h,s=>by
  simp only[ST.fls,al]at h;cases hq:@Bx.eval (VL F s) q with
  |true=>have e1:((ST.ask q t e).tr F m s).1=(t.tr F m s).1:=(by unfold ST.tr ST.flg;simp only[ST.val,hq,cond_true]);rw[e1];exact rn h.1 s
  |false=>have e1:((ST.ask q t e).tr F m s).1=(e.tr F m s).1:=(by unfold ST.tr ST.flg;simp only[ST.val,hq,cond_false]);rw[e1];exact rn h.2 s
 | .none,h,s=>yx h
end
end Go.Tw
set_option linter.unusedVariables false
namespace Go.Tw
noncomputable section
def ST.flsX(l:List Nat):ST→Bool
 | .leaf x=>match x with
  | .lit (.ofNat k)::_=>l.any (Nat.beq k)
  |_=>false
 | .ask _ t e=>ST.flsX l t&&ST.flsX l e
 | .none=>true
def ST.deadsOk(cores:List bo):ST→bo→Bool
 | .leaf _,_=>true
 | .ask b t e,p=>ST.deadsOk cores t ((b,true)::p)&&ST.deadsOk cores e ((b,false)::p)
 | .none,p=>ru cores p
theorem yd{F:Fn}{s:List Dat}{m:Nat}{cores:List bo}{l:List Nat}(hco:∀q∈cores,¬@Holds (VL F s) q):∀{sp:ST} {p:bo},sp.deadsOk cores p=true→sp.flsX l=true→@Holds (VL F s) p→(sp.tr F m s).1∈l
 | .leaf x,p,_,h,_=>by simp only[ST.flsX]at h;split at h;{exact yx h};cases h
 | .ask q t e,p,h1,h2,hp=>by
  simp only[ST.deadsOk,al]at h1;simp only[ST.flsX,al]at h2;cases hq:@Bx.eval (VL F s) q with
  |true=>have e1:((ST.ask q t e).tr F m s).1=(t.tr F m s).1:=(by unfold ST.tr ST.flg;simp only[ST.val,hq,cond_true]);rw[e1];exact yd hco h1.1 h2.1 (@Holds.cons (VL F s) _ _ _ hq hp)
  |false=>have e1:((ST.ask q t e).tr F m s).1=(e.tr F m s).1:=(by unfold ST.tr ST.flg;simp only[ST.val,hq,cond_false]);rw[e1];exact yd hco h1.2 h2.2 (@Holds.cons (VL F s) _ _ _ hq hp)
 | .none,p,h1,_,hp=>by obtain⟨c,k1,k2⟩:=kf h1 hp;exact absurd k2 (hco c k1)
def ST.leafs(w:Nat)(q:bo→List Sx→Bool):ST→bo→Bool
 | .leaf l,p=>match l with
  | .lit (.ofNat n)::xs=> !(Nat.beq n w)||q p xs
  |_=>false
 | .ask b t e,p=>ST.leafs w q t ((b,true)::p)&&ST.leafs w q e ((b,false)::p)
 | .none,_=>true
theorem lB{F:Fn}{s:List Dat}{cores:List bo}(hco:∀q∈cores,¬@Holds (VL F s) q){w:Nat}{q:bo→List Sx→Bool}:∀{sp:ST} {p:bo},sp.deadsOk cores p=true→sp.leafs w q p=true→@Holds (VL F s) p→sp.flg F s=(w:Nat)→
 ∃p' xs,q p' xs=true∧@Holds (VL F s) p'∧∀i,sp.val (VL F s) (i+1)=(ST.leaf (.lit (w:Int)::xs)).val (VL F s) (i+1)
 | .leaf l,p,_,h,hp,hf=>by simp only[ST.leafs]at h;split at h;{rename_i n xs _;have hn:(n:Int)=(w:Int):=hf;have:n=w:=(by omega);subst this;exact⟨p,xs,by simpa using h,hp,fun i=>rfl⟩};cases h
 | .ask b t e,p,h1,h2,hp,hf=>by
  simp only[ST.deadsOk,al]at h1;simp only[ST.leafs,al]at h2;cases hq:@Bx.eval (VL F s) b with
  |true=>obtain⟨p',xs,k1,k2,k3⟩:=lB hco h1.1 h2.1 (@Holds.cons (VL F s) _ _ _ hq hp) (by rw[←hf];unfold ST.flg;simp only[ST.val,hq,cond_true]);exact⟨p',xs,k1,k2,fun i=>by rw[←k3 i];simp only[ST.val,hq,cond_true]⟩
  |false=>obtain⟨p',xs,k1,k2,k3⟩:=lB hco h1.2 h2.2 (@Holds.cons (VL F s) _ _ _ hq hp) (by rw[←hf];unfold ST.flg;simp only[ST.val,hq,cond_false]);exact⟨p',xs,k1,k2,fun i=>by rw[←k3 i];simp only[ST.val,hq,cond_false]⟩
 | .none,p,h1,_,hp,_=>by obtain⟨c,k1,k2⟩:=kf h1 hp;exact absurd k2 (hco c k1)
def RngX(l c:Nat)(ys st:List Nat)(g B:Nat)(s0:List Dat)(k:Nat)(s:List Dat):Prop:=
 aP s c=.int (k:Int)∧k≤(aP s l).toL.length∧(aP s l).toL.length≤B∧(∀y∈ys,(aP s y).toL.length≤(aP s0 y).toL.length+g*k)∧∀i∈st,aP s i=aP s0 i
theorem RngX.start{l c:Nat}{ys st:List Nat}{g B:Nat}{s:List Dat}(h:aP s c=.int 0)(hB:(aP s l).toL.length≤B):RngX l c ys st g B s 0 s:=
 ⟨h,bP _,hB,fun y _=>by omega,fun _ _=>rfl⟩
theorem MQ{f:gw}{fu:List Dat→Nat}{K:Nat→List Dat→Prop}(hJ:∀k s,K k s→(f s).1=0→K (k+1) (f s).2){s:List Dat}(hs:K 0 s)(hterm:∃k,k≤fu s∧(f (xU f k s)).1≠0):
 ∃n s',K n s'∧(f s').1≠0∧gd f fu s=f s':=by
 obtain⟨a1,a2,a3⟩:=kP hterm;have hJk:∀k,k≤ir f (fu s) s→K k (xU f k s):=fun k=>by
  induction k with
  |zero=>intro _;exact hs
  |succ k ih=>intro hk;exact hJ _ _ (ih (by omega)) (a1 k (by omega))
 exact⟨_,_,hJk _ (aE _),a2,rfl⟩
def ST.natF:ST→Bool
 | .leaf x=>match x with
  | .lit (.ofNat _)::_=>true
  |_=>false
 | .ask _ t e=>ST.natF t&&ST.natF e
 | .none=>true
theorem xr{F:Fn}{s:List Dat}:∀{sp:ST},sp.natF=true→∃k:Nat,sp.flg F s=(k:Int)
 | .leaf x,h=>by simp only[ST.natF]at h;split at h;{rename_i k _;exact⟨k,rfl⟩};cases h
 | .ask q t e,h=>by
  simp only[ST.natF,al]at h;cases hq:@Bx.eval (VL F s) q with
  |true=>obtain⟨k,hk⟩:=xr (F:=F) (s:=s) h.1;exact⟨k,by rw[←hk];unfold ST.flg;simp only[ST.val,hq,cond_true]⟩
  |false=>obtain⟨k,hk⟩:=xr (F:=F) (s:=s) h.2;exact⟨k,by rw[←hk];unfold ST.flg;simp only[ST.val,hq,cond_false]⟩
 | .none,_=>⟨0,rfl⟩
section
variable{sp:ST}{F:Fn}{l c m:Nat}{ys st:List Nat}{g fx B:Nat}
variable{P:Program}{gl:Nat→Option Nat}{b:bK}{R nr nb nt:Nat}{J0:List Dat→Prop}{A B':Tl}{T:Nat→Tl}{cd:Code}
end
end
end Go.Tw
set_option linter.unusedVariables false
namespace Go.Tw
noncomputable section
def Ew(J:List Dat→Prop)(l:List Nat)(f:gw):Prop:=∀s,J s→(f s).1∈l
section
variable{J J2:List Dat→Prop}{l:List Nat}{f g:gw}{F:Fn}
theorem dw{sp:ST}{m:Nat}{cores:List bo}{inv:bo}(hco:∀s,J s→∀q∈cores,¬@Holds (VL F s) q)(hinv:∀s,J s→@Holds (VL F s) inv)(h1:sp.deadsOk cores inv=true)(h2:sp.flsX l=true):Ew J l (sp.tr F m):=fun s hs=>
 yd (hco s hs) h1 h2 (hinv s hs)
theorem eF(h1:Ew J (0::l) f)(hJ:∀s,J s→(f s).1=0→J2 (f s).2)(h2:Ew J2 l g):Ew J l (aG f g):=fun s hs=>by unfold aG;by_cases h0:(f s).1=0;{rw[if_pos h0];exact h2 _ (hJ s hs h0)};rw[if_neg h0];rcases List.mem_cons.1 (h1 s hs)with h|h;{exact absurd h h0};exact h
theorem F8{id:Nat}(h:Ew J ((id+2)::l) f)(h0:0∈l):Ew J l (jg id f):=fun s hs=>by unfold jg;by_cases hx:(f s).1=id+2;{rw[if_pos hx];exact h0};rw[if_neg hx];rcases List.mem_cons.1 (h s hs)with h|h;{exact absurd h hx};exact h
theorem Ah{l':List Nat}{J':List Dat→Prop}(h:Ew J l f)(hJ:∀s,J' s→J s)(hl:∀x∈l,x∈l'):Ew J' l' f:=fun s hs=>hl _ (h s (hJ s hs))
theorem rq(h:Ew J [1] f){s:List Dat}(hs:J s):(f s).1=1:=by simpa using h s hs
end
end
end Go.Tw
set_option linter.unusedVariables false
namespace Go.Tw
noncomputable section
theorem HT.scope{P:Program}{gl:Nat→Option Nat}{b:bK}{R nr nb nt:Nat}{v v2:Val}{x:Code}{tm tm2:T AV}{σ σ2:St}{e:AExit}(h:HT P gl b R nr nb nt v x tm σ e v2 tm2 σ2)(hg:∀l,e≠.goto l):HT P gl b R nr nb nt v (.scope x) tm σ e v2 tm2 σ2:=by
 intro a cs w φ ha bf k hb hkd;obtain⟨e1,a1,cs1,w1,q,harr⟩:=h a cs w φ ha bf (.inScope x::k) hb hkd;refine⟨e1,a1,cs1,w1,q,.of_steps (aO kQ) ?_⟩;have hng:∀l,e1≠.goto l:=by intro l hl;subst hl;obtain⟨_,q2,_⟩:=q;cases e<;>simp_all [ExitP]
 cases e1 with
 |normal=>exact StepsIn.trans harr (aO ji)
 |exit id=>have hx:exitTo id (.inScope x::k)=exitTo id k:=(by simp [exitTo]);exact⟨fun k' hk'=>harr.1 k' (by rw[hx];exact hk'),fun hr hk'=>harr.2 hr (by rw[hx];exact hk')⟩
 |goto l=>exact absurd rfl (hng l)
 |ret=>exact harr
 |panic ch=>exact harr
 |outgrown=>exact harr
theorem Al{w l:Nat}:fj w≠.goto l:=by
 match w with
 |0=>simp [fj]
 |1=>simp [fj]
 |k+2=>simp [fj]
theorem PX.scope{P:Program}{gl:Nat→Option Nat}{b:bK}{R nr nb nt:Nat}{F:Fn}{J:List Dat→Prop}{A B:Tl}{T:Nat→Tl}{f:gw}{c:Code}(h:PX P gl b R nr nb nt F J c A B T f):PX P gl b R nr nb nt F J (.scope c) A B T f:=fun s hs=>
 HT.scope (h s hs) fun _=>Al
end
end Go.Tw
set_option linter.unusedVariables false
namespace Go.Tw
noncomputable section
structure LX where
 d:Nat
 nt:Nat
 ps:List Tmp
 asg:Code
 bd:Code
 lx:List (Nat×AV)
def LX.ob(L:LX)(x:Nat×Option Code):List (Nat×Ob):=[(L.d+1,.loop x.1 x.2 (ba L.lx) L.nt L.ps L.asg L.bd),(L.d,.dfr)]
def Vq(ρ:List RE)(i:Nat):Bool:=match ku ρ i with
 |some r=>Nat.beq r.ido i&&(Nat.beq r.ver 0&&Nat.beq r.n 0)
 |none=>false
theorem Tk{ρ:List RE}{i:Nat}(h:Vq ρ i=true):∃t,ku ρ i=some ⟨i,i,0,0,t⟩:=by unfold Vq at h;split at h;{rename_i r hr;simp only[al]at h;have h0:=(bn hr).2;have h1:=ae h.1;have h2:=ae h.2.1;have h3:=ae h.2.2;obtain⟨a,b,c,d,e⟩:=r;dsimp only at h0 h1 h2 h3;subst h0;subst h1;subst h2;subst h3;exact⟨_,hr⟩};cases h
section
variable{P:Program}{gl:Nat→Option Nat}{b:bK}{R nr nb nt:Nat}
variable{F:Fn}{J:List Dat→Prop}{c:Code}
def yA(gl:Nat→Option Nat)(b:bK)(R nr nb:Nat)(v:Val)(tm:T AV)(ds:List ADef)(σ:St)(v':Val)(tm':T AV)(σ':St):Prop:=
 ∀(nt:Nat) (a:Act) (w:World) (φ:PM),HoldD v gl b R nt tm ds σ a w φ→∃φ',HoldD v' gl b R nt tm' ds σ' a w φ'∧Trans R nr nb φ w φ' w
theorem Retell.d{v v':Val}{tm tm':T AV}{σ σ':St}{d nb2:Nat}(h:Retell gl b R nr nb2 v tm σ v' tm' σ')(hd:R≤d)(hd2:d<R+cK nb2)(hnb:cK nb≤cK nb2∧jh nb≤jh nb2):yA gl b R nr nb v tm [.mark d] σ v' tm' σ':=by
 intro nt a w φ ha;obtain⟨φ',h1,h2⟩:=h nt {a with defers:=[]} w φ ⟨ha.size,ha.val,rfl,ha.inv,ha.free,ha.roA,ha.rd,ha.wr⟩;refine⟨φ',⟨h1.size,h1.val,?_,h1.inv,h1.free,h1.roA,h1.rd,h1.wr⟩,h2.fewer hnb⟩;have hds:=ha.dfs;generalize a.defers=dl at hds⊢;cases hds with
 |cons hdd hdt=>cases hdt;obtain⟨e0,ar0,he0,rfl⟩:=hdd;exact @DfsR.cons v' _ _ _ _ _ ⟨e0,ar0,h2.pin _ _ hd hd2 he0,rfl⟩ (@DfsR.nil v' _)
theorem HTD.retell(hrb:nr≤cK nb){v v1 v2:Val}{c:Code}{tm tm1 tm2:T AV}{ds ds1:List ADef}{σ σ1 σ2:St}{e:AExit}(h:HTD P gl b R nr nb nt v c tm ds σ e v1 tm1 ds1 σ1)(k:yA gl b R nr nb v1 tm1 ds1 σ1 v2 tm2 σ2):
 HTD P gl b R nr nb nt v c tm ds σ e v2 tm2 ds1 σ2:=fun a cs w φ ha=>
 (h a cs w φ ha).mono fun _ _ _ _ ⟨q1,q2,φ1,q3,q4⟩=>by obtain⟨φ2,r1,r2⟩:=k _ _ _ _ q3;exact⟨q1,q2,φ2,r1,q4.trans hrb r2⟩
theorem ss{v v':Val}(hb:BaseOk gl b R){tm:T AV}{σ:St}{ρ:List RE}{tm':List (Nat×AV)}{objs':List (Nat×Ob)}{nx' d nb2:Nat}{E:bS}(h:eA R nb2 ρ tm σ tm' objs' nx'=some E)(hE:EqsOk v v' E)
 (hd:Nat.ble R d=true)(hd2:Nat.blt d (R+cK nb2)=true)(hd3:Nat.blt d nx'=true)(hρ:Vq ρ d=true)(hg:σ.heap.get d=some .dfr)(hnb:cK nb≤cK nb2∧jh nb≤jh nb2):
 yA gl b R nr nb v tm [.mark d] σ v' (ba tm') (aA b ((d,.dfr)::objs') nx'):=
 Retell.d (nb2:=nb2) (Bu hb h hE (X:=[(d,.dfr)]) fun i o hio=>by simp only[dB,fE,or_false,il]at hio;obtain⟨rfl,rfl⟩:=hio;refine⟨⟨aB hd,aR hd3⟩,Tk hρ,?_⟩;rw[hg];trivial) (aB hd) (aR hd2) hnb
def NN(R nr nb:Nat)(ρ:List RE)(d:Nat)(x:XR)(e:AExit)(tm':List (Nat×AV))(objs':List (Nat×Ob))(nx':Nat)(E:bS):Bool:=match x with
 | .ok e' env σ=>An e e'&&(σ.wr.all (fun i=>Nat.ble (R+nr) i)&&((match env.ds with
  |[.mark k]=>Nat.beq k d
  |_=>false)&&((match env.md with
  |none=>true
  |_=>false)&&(Vq ρ d&&(Nat.ble R d&&(Nat.blt d (R+cK nb)&&(Nat.blt d nx'&&((match σ.heap.get d with
  |some .dfr=>true
  |_=>false)&&(match eA R nb ρ env.tm σ.bare tm' objs' nx' with
  |some E'=>CW E' E
  |none=>false)))))))))
 | .no=>false
theorem HTD.tail{v v2:Val}(hb:BaseOk gl b R)(hrb:nr≤cK nb){p:bo}(hp:@Holds v p){hk:FuncId→List AV→St→CR}(hs:bN (bX gl b p hk))(hh:@kI v P R (bX gl b p hk))(hm:P.follows .mixedOrders=true)
 {n d nb2:Nat}{c:Code}{tm:T AV}{σ:St}{e:AExit}{ρ:List RE}{tm':List (Nat×AV)}{objs':List (Nat×Ob)}{nx':Nat}{E:bS}(hnb:cK nb≤cK nb2∧jh nb≤jh nb2)
 (h:NN R nr nb2 ρ d (exec P (bX gl b p hk) n nt c {tm:=tm,ds:=[.mark d],md:=none,rd:=false} σ) e tm' objs' nx' E=true)(hE:EqsOk v v2 E):
 HTD P gl b R nr nb nt v c tm [.mark d] σ e v2 (ba tm') [.mark d] (aA b ((d,.dfr)::objs') nx'):=by
 unfold NN at h;split at h
 ·rename_i e' env σ' hx;simp only[al]at h;obtain⟨h1,h2,h3,h4,h5,h6,h7,h8,h9,h10⟩:=h;obtain⟨rfl,hn⟩:=od h1;have hds:env.ds=[.mark d]:=by
   split at h3;{rename_i k hk';have:=ae h3;subst this;exact hk'};cases h3
  have hmd:env.md=none:=(by split at h4;{assumption};cases h4);have hg:σ'.heap.get d=some .dfr:=(by split at h9;{assumption};cases h9);have hr:=CP (v:=v) hp hs hh hm hx hn hmd (fun i hi=>aB (List.all_eq_true.1 h2 i hi)) (nb:=nb);rw[hds]at hr;split at h10;{rename_i E' hE';have:=Ei h10;subst this;exact HTD.retell hrb hr (ss hb hE' hE h6 h7 h8 h5 hg hnb)};cases h10
 cases h
theorem HTD.end{v v1 v2:Val}(hb:BaseOk gl b R)(hrb:nr≤cK nb){d nb2:Nat}{c:Code}{tm tm1:T AV}{ds:List ADef}{σ σ1:St}{e:AExit}{ρ:List RE}{tm':List (Nat×AV)}{objs':List (Nat×Ob)}{nx':Nat}{E:bS}(hnb:cK nb≤cK nb2∧jh nb≤jh nb2)
 (h:HTD P gl b R nr nb nt v c tm ds σ e v1 tm1 [.mark d] σ1)(hm:eA R nb2 ρ tm1 σ1 tm' objs' nx'=some E)(hE:EqsOk v1 v2 E)(hd:(Nat.ble R d&&(Nat.blt d (R+cK nb2)&&(Nat.blt d nx'&&Vq ρ d)))=true)(hg:σ1.heap.get d=some .dfr):
 HTD P gl b R nr nb nt v c tm ds σ e v2 (ba tm') [.mark d] (aA b ((d,.dfr)::objs') nx'):=by
 simp only[al]at hd;exact HTD.retell hrb h (ss hb hm hE hd.1 hd.2.1 hd.2.2.1 hd.2.2.2 hg hnb)
end
end
end Go.Tw
namespace Go.Tw
open Go.ChangeShapes Go.RowKit
noncomputable section
theorem TB{F:Fn}{m:Nat}{s:List Dat}{q:Bx}{a b:ST}(h:@Bx.eval (VL F s) q=true):(ST.ask q a b).tr F m s=a.tr F m s:=by unfold ST.tr ST.flg ST.nxt;simp only[ST.val,h,cond_true]
theorem V2{F:Fn}{m:Nat}{s:List Dat}{q:Bx}{a b:ST}(h:@Bx.eval (VL F s) q=false):(ST.ask q a b).tr F m s=b.tr F m s:=by unfold ST.tr ST.flg ST.nxt;simp only[ST.val,h,cond_false]
theorem nT{f:gw}{k:Nat}{s:List Dat}:xU f (k+1) s=xU f k (f s).2:=by
 induction k with
 |zero=>rfl
 |succ k ih=>show(f (xU f (k+1) s)).2=(f (xU f k (f s).2)).2;rw[ih]
def A7(J:List Dat→Prop)(μ:List Dat→Nat)(f:gw):Prop:=∀s,J s→(f s).1=0→J (f s).2∧μ (f s).2<μ s
theorem nM{J:List Dat→Prop}{μ:List Dat→Nat}{f:gw}(h:A7 J μ f):∀n s,μ s≤n→J s→∃k,k≤μ s∧(f (xU f k s)).1≠0:=by
 intro n
 induction n with
 |zero=>intro s hn hs;refine⟨0,bP _,fun h0=> ?_⟩;have:=(h s hs h0).2;omega
 |succ n ih=>intro s hn hs;by_cases h0:(f s).1=0;{obtain⟨h1,h2⟩:=h s hs h0;obtain⟨k,k1,k2⟩:=ih (f s).2 (by omega) h1;exact⟨k+1,by omega,by rw[nT];exact k2⟩};exact⟨0,bP _,h0⟩
theorem cA{f:gw}{fu:List Dat→Nat}{s:List Dat}(h:(f s).1≠0):gd f fu s=f s:=by
 have e:ir f (fu s) s=0:=by have:=(kP (f:=f) (fu:=fu s) (s:=s) ⟨0,bP _,h⟩).1;rcases Nat.eq_zero_or_pos (ir f (fu s) s)with h'|h';{exact h'};exact absurd (this 0 h') h
 unfold gd;rw[e];rfl
theorem iC{J:List Dat→Prop}{μ:List Dat→Nat}{f:gw}(hm:A7 J μ f){s:List Dat}(hs:J s)(h0:(f s).1=0):gd f μ s=gd f μ (f s).2:=by
 have h1:=(hm s hs h0).1;obtain⟨a1,a2,_⟩:=kP (nM hm _ s (aE _) hs);obtain⟨b1,b2,_⟩:=kP (nM hm _ _ (aE _) h1);have e:ir f (μ s) s=ir f (μ (f s).2) (f s).2+1:=by
  generalize ir f (μ s) s=n at*;generalize ir f (μ (f s).2) (f s).2=m at*
  match n with
  |0=>exact absurd h0 a2
  |n+1=>rw[nT]at a2;rcases Nat.lt_trichotomy n m with h|h|h;{exact absurd (b1 n h) a2};{omega};exact absurd (by have:=a1 (m+1) (by omega);rw[nT]at this;exact this) b2
 unfold gd;rw[e,nT]
theorem PX.loopM{P:Program}{gl:Nat→Option Nat}{b:bK}{R nr nb nt:Nat}{F:Fn}{J:List Dat→Prop}{μ:List Dat→Nat}{c:Code}{A B:Tl}{T:Nat→Tl}{f:gw}(hrb:nr≤cK nb)(h:PX P gl b R nr nb nt F J c A A T f)(hm:A7 J μ f):
 PX P gl b R nr nb nt F J (.loop c) A B T (gd f μ):=
 PX.loop (K:=fun _=>J) hrb (fun _=>h) (fun _ s hs h0=>(hm s hs h0).1) (fun s hs=>nM hm _ s (aE _) hs)
theorem lu{J:List Dat→Prop}{μ:List Dat→Nat}{f:gw}(hm:A7 J μ f){s:List Dat}(hs:J s):∃s',J s'∧(f s').1≠0∧gd f μ s=f s':=by obtain⟨n,s',h1,h2,h3⟩:=MQ (K:=fun _=>J) (fun _ s hs h0=>(hm s hs h0).1) hs (nM hm _ s (aE _) hs);exact⟨s',h1,h2,h3⟩
theorem F7{J:List Dat→Prop}{μ:List Dat→Nat}{f:gw}{l:List Nat}(hm:A7 J μ f)(h:Ew J (0::l) f):Ew J l (gd f μ):=fun s hs=>by obtain⟨s',h1,h2,h3⟩:=lu hm hs;rw[h3];rcases List.mem_cons.1 (h s' h1)with h4|h4;{exact absurd h4 h2};exact h4
theorem jN{F:Nat→Dat→Dat→Dat→Dat}{P:Program}{gl:Nat→Option Nat}{b:bK}{R:Nat}{c:Con}(hb:c.bin=[])(ho:c.objs=[])(hl:c.lin=none)(hr:c.bout=[])
 (h:∀v:Val,v.fn=F→@Holds v c.pre→∀(W:World) (φ:PM) (args':Array Value),Hold v gl b R 0 .leaf (c.start b R) {tmps:= #[],defers:=[]} W φ→@VRL v φ c.args args'.toList→
   Calls P c.f args' W fun e W'=>∃x,e=.returned x∧@VR v φ c.res x∧Below W.heap.size W W'):c.Sound F P gl b R:=by
 intro v hF hp W φ args' hh ha;refine(h v hF hp W φ args' hh ha).mono fun e W' he=> ?_;obtain⟨x,rfl,hx,b1,b2,b3,b4,b5⟩:=he;have hwf:=hh.inv.wf;refine⟨φ,x,rfl,hx,⟨b4,fun k hk _=>b5 k hk,fun i u e hi he=>.inl ⟨i,u,e,hi,he,rfl,.inl rfl⟩,.of_eq rfl,fun _ _ _ _ h=>h,fun i e h1 h2 he=>b5 _ (hwf.lt _ _ _ he),b1,b3,b2⟩,⟨hwf.inj,fun i u e he=>Nat.lt_of_lt_of_le (hwf.lt i u e he) b4,hwf.top⟩,fun k o h=> ?_,fun k l q h=> ?_,fun L h=> ?_⟩;{rw[ho]at h;simp at h};{rw[hr]at h;simp at h};rw[hl]at h;cases h
end
end Go.Tw
namespace Go.Tw
open Go.ChangeShapes Go.RowKit
theorem cE{F:Nat→Dat→Dat→Dat→Dat}{P:Program}{gl:Nat→Option Nat}{b:bK}{R:Nat}{c:Con}{fn:Func}{code:Code}(hf:P.funcs[c.f]? =some fn)(hbody:fn.body=some code)(hlen:Nat.ble c.args.length fn.ntmps=true)
 (h1:c.bin=[])(h2:c.lin=none)(h3:c.objs=[])
 (h:∀v:Val,v.fn=F→@Holds v c.pre→∃e tm' o' nx' l σ'',(e=.ret∨e=.normal)∧
   HTo v P gl b R c.nr c.bin.length fn.ntmps code (jb c.args 0 .leaf) (c.start b R) e (ba tm') (aA b o' nx')∧
   cn P fn {tm:=ba tm',ds:=[],md:=none,rd:=false} (aA b o' nx') fn.results.toList=some (l,σ'')∧given l=c.res):c.Sound F P gl b R:=by
 intro v hF hp w φ args' hh ha;obtain⟨e,tm',o',nx',l,σ'',he,hto,hres,hgl⟩:=h v hF hp;refine gA hf hbody fun cs=> ?_;have hen:=@ie v φ c.args args' ha fn.ntmps (aB hlen) none false;refine(hto _ cs w φ ⟨hen.ev.size,hen.ev.val,rfl,hh.inv,hh.free,hh.roA,hh.rd,hh.wr⟩).mono fun e1 a1 cs1 w1 q=> ?_;obtain⟨q1,q2,φ1,q3,q4⟩:=q;refine⟨q1,?_⟩;have hev:@EnvR v φ1 fn.ntmps {tm:=ba tm',ds:=[],md:=none,rd:=false} a1:=⟨q3.size,q3.val⟩;obtain⟨x,r1,r2,_⟩:=@iy v P R (js gl b) (fun _=>True) φ1 _ w1 fn fn.ntmps _ a1 σ'' l hev q3.inv hres (fun i _ _=>trivial);rw[hgl]at r2;have hgo:LeavesInM Fence.wide 0 P fn a1.tmps (fun e w'=>∃φ' x,e=.returned x∧@VR v φ' c.res x∧Trans R c.nr c.bin.length φ w φ' w'∧WF R φ' w'∧(∀k o,c.objs[k]? =some o→@Rep v R φ' w' (R+c.bin.length+c.nl+k) (some o))∧
  (∀k l q,c.bout[k]? =some l→c.bin[k]? =some q→@Rep v R φ' w' (R+k) (some (.box l q.2)))∧∀L,c.lin=some L→@Rep v R φ' w' (R+c.bin.length) (some (.opq 2 0 gid (.slc L.l) L.ox L.oy [] L.t))) a1.defers .returning w1:=by
  rw[q3.dfs];exact⟨x,r1,φ1,x,rfl,r2,q4,q3.wf,fun k o hk=>by simp [h3]at hk,fun k l q _ hk=>by simp [h1]at hk,fun L hL=>by rw[h2]at hL;cases hL⟩
 rcases he with rfl|rfl;{cases e1<;>simp only[ExitP]at q2;exact hgo};cases e1<;>simp only[ExitP]at q2;exact hgo
end Go.Tw
namespace Go.Tw
open Go.ChangeShapes Go.RowKit
noncomputable section
def rL(l:gT):bK:=(iT l .leaf).set gid (.opq 0 0 0 .bool (.lit 0) (.lit 0) [] 0)
def Bf(l:gT)(g:Nat):Option Nat:=match cV l g with
 |some c=>some c.length
 |none=>none
def lM(R:Nat):gT→Bool
 |[]=>true
 |(_,c)::l=>(match FN R [] c c with
  |some []=>true
  |_=>false)&&lM R l
theorem Be{R:Nat}:∀{l:gT},lM R l=true→∀{i:Nat} {c:List AV},cV l i=some c→FN R [] c c=some []:=by
 intro l
 induction l with
 |nil=>intro _ i c h;cases h
 |cons p l ih=>intro hs i c h;obtain⟨g,c'⟩:=p;simp only[lM,al]at hs;simp only[cV,ai]at h;split at h;{cases h;have h1:=hs.1;split at h1;{assumption};cases h1};exact ih hs.2 h
theorem mY{l:gT}{i:Nat}(hi:i≠gid):(rL l).get i=(match cV l i with
 |some c=>some (.ro c)
 |none=>none):=by rw[rL,T.get_set_ne _ _ hi,gF];cases cV l i<;>rfl
theorem Ep{l:gT}{R:Nat}(hlt:pY R l=true)(hgr:gid<R)(hs:lM R l=true):BaseOk (Bf l) (rL l) R where
 gid_lt:=hgr
 gid_at:=⟨0,0,.bool,.lit 0,.lit 0,0,T.get_set_same _ _ _⟩
 none:=fun i hi=>by
  rw[mY (by omega)];cases h:cV l i with
  |none=>rfl
  |some c=>have:=gG hlt h;omega
 only:=fun i o h hn=>by
  rw[mY hn]at h;cases h2:cV l i with
  |none=>rw[h2]at h;cases h
  |some c=>rw[h2]at h;cases h;exact⟨c,rfl,Be hs h2⟩
 gl:=fun g n h=>by
  unfold Bf at h;cases h2:cV l g with
  |none=>rw[h2]at h;cases h
  |some c=>exact gG hlt h2
def dC(l:gT)(W:World):PM:=fun i u=>if i=gid then(match W.heap[u]? with
 |some (.cells c _ _)=>some ⟨u,0,0,0,0,c.toList⟩
 |_=>none)else kM l i u
theorem gE{l:gT}{W:World}{i u:Nat}{e:Ext}(h:dC l W i u=some e):(i=gid∧∃c t fr,W.heap[u]? =some (.cells c t fr)∧e=⟨u,0,0,0,0,c.toList⟩)∨(i≠gid∧kM l i u=some e):=by unfold dC at h;split at h;{rename_i hi;split at h;{rename_i c t fr hc;simp only[aw]at h;exact .inl ⟨hi,c,t,fr,hc,h.symm⟩};cases h};rename_i hi;exact .inr ⟨hi,h⟩
theorem rK{l:gT}(hg:cV l gid=none){W:World}:(kM l).le (dC l W):=fun i u e h=>by obtain⟨_,c,hc,_⟩:=gj h;unfold dC;rw[if_neg (fun hi=>by subst hi;rw[hg]at hc;cases hc)];exact h
theorem IQ{l:gT}{W:World}{b:Nat}{s:List Value}(h:N6 W b s):Pict (dC l W) gid b s:=by obtain⟨t,fr,h⟩:=h;refine⟨gid,b,⟨b,0,0,0,0,s⟩,.inl rfl,?_,rfl,rfl⟩;simp [dC,h]
theorem Nk{l:gT}{R:Nat}(hlt:pY R l=true)(hgr:gid<R)(hg:cV l gid=none)(hs:lM R l=true){W:World}(hl:∀v:Val,∀p∈l,@kD v W p)(v:Val):
 Hold v (Bf l) (rL l) R 0 .leaf (aA (rL l) [] R) {tmps:= #[],defers:=[]} W (dC l W):=by
 have hlow:∀{i u:Nat} {e:Ext},(dC l W).low R i u=some e→dC l W i u=some e:=fun{i u e} h=>by unfold PM.low at h;split at h;{exact h};cases h
 have hlow2:∀{i u:Nat} {e:Ext},kM l i u=some e→((dC l W).low R) i u=some e:=fun{i u e} h=>by have h2:=rK hg (W:=W) i u e h;obtain⟨_,c,hc,_⟩:=gj h;unfold PM.low;rw[if_pos (gG hlt hc)];exact h2
 have hb:∀v':Val,∀(φ:PM),φ=dC l W∨φ=(dC l W).low R→∀i,@Rep v' R φ W i ((rL l).get i):=fun v' φ hφ i=>by
  have hs1:∀{i u:Nat} {e:Ext},φ i u=some e→dC l W i u=some e:=fun{i u e} h=>(by rcases hφ with rfl|rfl;{exact h};exact hlow h);have hle:(kM l).le φ:=fun i u e h=>(by rcases hφ with rfl|rfl;{exact rK hg i u e h};exact hlow2 h);by_cases hi:i=gid;{subst hi;rw[rL,T.get_set_same];show ∀n e,φ gid n=some e→_;intro n e he;rcases gE (hs1 he)with⟨_,c,t,fr,hc,rfl⟩|⟨h,_⟩;{exact⟨rfl,t,fr,by simpa using hc⟩};exact absurd rfl h};rw[mY hi];have:=@Lt v' R W l (hl v') i;cases h2:cV l i with
  |none=>trivial
  |some c=>rw[h2]at this;obtain⟨e,cs,t,fr,k1,k2,k3,k4,k5⟩:=this;exact⟨e,cs,t,fr,hle _ _ _ k1,k2,k3,k4,@VRL.mono v' _ _ hle _ _ k5⟩
 have hlt2:∀{i u:Nat} {e:Ext},dC l W i u=some e→i<R:=fun{i u e} h=>by rcases gE h with⟨rfl,_⟩|⟨_,h1⟩;{exact hgr};obtain⟨_,c',hc',_⟩:=gj h1;exact gG hlt hc'
 have hwf:WF R (dC l W) W:=⟨fun i w e j u f hi hj hbl=>.inr ⟨hlt2 hi,hlt2 hj⟩,
  fun i w e hi=>by rcases gE hi with⟨rfl,c,t,fr,hc,rfl⟩|⟨hi',h1⟩;{exact(Array.getElem?_eq_some_iff.1 hc).1};obtain⟨_,c',hc',rfl⟩:=gj h1;obtain⟨cs,t,fr,k1,_⟩:=@yL v W l (hl v) _ _ hc';exact(Array.getElem?_eq_some_iff.1 k1).1,
  fun i w e hi=>by rcases gE hi with⟨rfl,c,t,fr,hc,rfl⟩|⟨hi',h1⟩;{exact aE _};obtain⟨_,c',hc',rfl⟩:=gj h1;exact aE _⟩
 have hnone:∀i,R≤i→(rL l).get i=none:=(Ep hlt hgr hs).none;exact{
  size:=rfl
  val:=fun t x h=>by simp [T.get_leaf]at h
  dfs:=rfl
  inv:={wf:=hwf,low:=aE _,rep:=fun i _ _=>hb v _ (.inl rfl) i,gl:=fun g n h=>by
         have h:Bf l g=some n:=h;unfold Bf at h;cases h2:cV l g with
         |none=>rw[h2]at h;cases h
         |some c=>rw[h2]at h;cases h;exact⟨⟨g,0,0,c.length,c.length,[]⟩,rK hg _ _ _ (by simp [kM,h2]),rfl,rfl,rfl,aE _⟩
        dom:=fun i hi=>hnone i hi,pin:=fun _ _ h=>(by cases h),dec:=fun _ _ h=>(by cases h),
        wrR:=fun i h=>(by cases h),ro:=fun i _=>hb v _ (.inr rfl) i,oh:=@jr v}
  free:=fun i hi u=>by
   have hi:R≤i:=hi;cases h:dC l W i u with
   |none=>rfl
   |some e=>rcases gE h with⟨rfl,_⟩|⟨_,h1⟩;{omega};obtain⟨_,c',hc',_⟩:=gj h1;have:=gG hlt hc';omega
  roA:=fun v' i _=>hb v' _ (.inr rfl) i
  rd:=rfl
  wr:=rfl}
end
end Go.Tw
namespace Go.Tw
open Go.ChangeShapes Go.RowKit
noncomputable section
theorem KF{F:Nat→Dat→Dat→Dat→Dat}{P:Program}{l:gT}{R f:Nat}{m:Memo}(hsound:∀v:Val,@Memo.Sound v P R (fH l) m)(hlt:pY R l=true)(hg:cV l gid=none)
 (hmf:m.f=f)(hma:m.args=[])(hmv:m.v=.bool true):({f:=f,args:=[],pre:=[],res:=.bool true,objs:=[]}:Con).Sound F P (Bf l) (rL l) R:=by
 refine jN rfl rfl rfl rfl fun v hF hp W φ args' hh ha=> ?_;have hargs:args'= #[]:=by
  obtain⟨l⟩:=args';cases l with
  |nil=>rfl
  |cons x l=>cases ha
 subst hargs;have hbase:∀ψ:PM,(∀i,i<R→@Rep v R ψ W i ((rL l).get i))→∀i,i<R→@Rep v R ψ W i (match cV l i with
  |some c=>some (.ro c)
  |none=>none):=fun ψ h i hi=>by
  by_cases e:i=gid;{subst e;rw[hg];trivial};have:=h i hi;rw[mY e]at this;exact this
 have hi:@Inv v R (fH l) (fun _=>True) φ (gD R l) W:=
  {wf:=hh.inv.wf,low:=aE _,rep:=fun i _ hi=>by
    show @Rep v R φ W i ((iT l .leaf).get i);rw[gF];exact hbase φ (fun i hi=>hh.rep (i:=i) hi) i hi
   gl:=hh.inv.gl
   dom:=fun i hi=>by
    show(iT l .leaf).get i=none;rw[gF];cases h:cV l i with
    |none=>rfl
    |some c=>have:=gG hlt h;have hi:R≤i:=hi;omega
   pin:=fun e n h=>by cases h
   dec:=fun b v h=>by cases h
   wrR:=fun i h=>by cases h
   ro:=hbase _ (fun i hi=>hh.roA v i hi)
   oh:=OhOk.none}
 have hret:∃x τ,m.ret R (gD R l)=.ret x τ∧x=m.v.mv R 0:=by have e:(gD R l).next - R=0:=Nat.sub_self R;have hb:Nat.ble R (gD R l).next=true:=Nat.ble_eq_true_of_le (aE R);have h1:m.ret R (gD R l)=.ret (m.v.mv R ((gD R l).next - R)) {gD R l with heap:=jZ R ((gD R l).next - R) m.objs (gD R l).heap,next:=m.n+((gD R l).next - R)}:=(by unfold Memo.ret;rw[hb];rfl);exact⟨_,_,h1,by rw[e]⟩
 obtain⟨x,τ,hret,hve⟩:=hret;have hfree:Free φ (gD R l) τ:=fun i h1 _ u=>hh.free i h1 u;have hc:=(hsound v).2 (gD R l) (fun _=>True) φ W #[] hi (by rw[hma];exact .nil) x τ hret hfree;rw[hmf]at hc;refine hc.mono fun e W' he=> ?_;obtain⟨φ',v',rfl,hvr,hpost⟩:=he;have hv':v'=.bool true:=by rw[hve,hmv]at hvr;have hvr:@VR v φ' (.bool true) v':=hvr;cases hvr;rfl
 subst hv';exact⟨_,rfl,@VR.bool v _ _,hpost.frm.os,hpost.frm.tape,hpost.frm.out,hpost.frm.size,fun k hk=>hpost.frm.keep k hk fun i hiw u e he=>by exfalso;have h1:=(hpost.wrR i hiw).resolve_left (by simp [gD]);have h2:=hh.free i h1 u;rw[h2]at he;cases he⟩
end
end Go.Tw
