/-
  A part of the law's proof over the abstract evaluator. Conditions: those of each theorem, as it states them.
-/
import Derived.Test.YtlagbijmfchkeaaGreatA7
import Derived.Test.YtlagbijmfchkeaaGreatA6
import Derived.Test.YtlagbijmfchkeaaGreatProg
set_option linter.all false
namespace Go.Tw
def iA(d:Dat)(k:Nat):Int:=(d.cell (k:Int) 0).toI
def BP(d:Dat)(k:Nat):Int:=(d.cell (k:Int) 1).toI
def opD(d:Dat)(k:Nat):Int:=(d.cell (k:Int) 2).toI
def fD(f:Dat)(k:Nat):Bool:=(f.cell (k:Int) 0).toI != 0
def eJ(d f:Dat)(k:Nat):Nat:=if iA d k=1 then 0 else if fD f k then 2 else 1
def ji(d f:Dat):Nat→Nat
 |0=>0
 |k+1=>ji d f k+eJ d f k
def plA(d f:Dat):Nat→List (List Dat)
 |0=>[]
 |k+1=>plA d f k++[[.int (ji d f k:Int)]]
def JT(d f:Dat):Nat→List (List Dat)
 |0=>[]
 |k+1=>if iA d k=1 then oB (JT d f k) (BP d k) (ji d f k:Int)else JT d f k
theorem Lh(d f:Dat)(k:Nat):ji d f k≤2*k:=by
 induction k with
 |zero=>exact aw 0
 |succ k ih=>simp only[ji,eJ];split;{omega};split<;>omega
theorem plA_len(d f:Dat)(k:Nat):(plA d f k).length=k:=by
 induction k with
 |zero=>rfl
 |succ k ih=>simp [plA,ih]
def vW(k:Nat):UInt8:=
 bif Nat.ble k 2 then 85 else bif Nat.ble k 3 then 74 else bif Nat.ble k 4 then 73 else bif Nat.ble k 10 then 66 else bif Nat.ble k 17 then 73 else bif Nat.ble k 21 then 83 else bif Nat.ble k 27 then 73 else
 bif Nat.ble k 30 then 88 else bif Nat.ble k 31 then 73 else bif Nat.ble k 34 then 89 else bif Nat.ble k 62 then 82 else 69
def qY(n:Int):List UInt8:=if 1≤n∧n<64 then[vW n.toNat]else[]
def vU(d pl lb:Dat)(k:Nat):Int:=aZ .mul .i64 4 (aZ .sub .i64 (getM lb.toL (BP d k)) (pl.cell (k:Int) 0).toI)
def iQ(d pl lb f:Dat)(k:Nat):Bool:=decide (iA d k=2)&&((qY (opD d k)==[66])&&(decide ((f.cell (k:Int) 0).toI=0)&&(decide (vU d pl lb k< -4096)|| !decide (vU d pl lb k<4095))))
def fg(d pl lb f:Dat):Nat→Dat
 |0=>f
 |k+1=>if iQ d pl lb (fg d pl lb f k) k then(fg d pl lb f k).setc (k:Int) 0 (.int 1)else fg d pl lb f k
def AH(d pl lb f:Dat):Nat→Bool
 |0=>false
 |k+1=>AH d pl lb f k||iQ d pl lb (fg d pl lb f k) k
theorem tH(d pl lb f:Dat)(k:Nat):(fg d pl lb f k).toL.length=f.toL.length:=by
 induction k with
 |zero=>rfl
 |succ k ih=>simp only[fg];split;{show(List.modify _ _ _).length=_;rw[List.length_modify];exact ih};exact ih
def AE(d f:Dat):Dat:=.lst (plA d f (d.toL.length+1))
def L2(d f:Dat):Dat:=.lst (JT d f d.toL.length)
end Go.Tw
namespace Go.Tw
theorem gB(f:Dat)(k:Nat)(o:Nat):f.cell (k:Int) o=match f.toL[k]? with
 |some r=>(match r[o]? with
  |some c=>c
  |none=>.int 0)
 |none=>.int 0:=by
 show(match(match f.toL[(k:Int).toNat]? with
  |some r=>r
  |none=>[])[o]? with
  |some c=>c
  |none=>.int 0)=_
 rw[Int.toNat_natCast];cases f.toL[k]? with
 |none=>rfl
 |some r=>rfl
theorem sq(f:Dat)(k:Nat)(o:Nat)(c:Dat):(f.setc (k:Int) o c).toL=f.toL.modify k fun r=>r.set o c:=by show List.modify _ _ _=_;rw[Int.toNat_natCast]
theorem rb{f:Dat}{k i o:Nat}{c:Dat}(h:i≠k):(f.setc (k:Int) o c).cell (i:Int) o=f.cell (i:Int) o:=by rw[gB,gB,sq,List.getElem?_modify];simp only[Ne.symm h,if_false];cases f.toL[i]? <;>rfl
theorem Ac{f:Dat}{k:Nat}{c:Dat}(h:k<f.toL.length)(hr:∀r∈f.toL,r≠[]):(f.setc (k:Int) 0 c).cell (k:Int) 0=c:=by
 rw[gB,sq,List.getElem?_modify,bh h];simp only[if_true];have:=hr _ (List.getElem_mem h);generalize f.toL[k]=r at this;cases r with
 |nil=>exact absurd rfl this
 |cons a r=>rfl
theorem Hm{f:Dat}{k o:Nat}{c:Dat}(hr:∀r∈f.toL,r≠[]):∀r∈(f.setc (k:Int) o c).toL,r≠[]:=by
 rw[sq];intro r hm he;subst he;obtain⟨i,hi,hx⟩:=List.getElem_of_mem hm;have h2:(f.toL.modify k fun r=>r.set o c)[i]? =some []:=by rw[bh hi,hx]
 rw[List.getElem?_modify]at h2;have hi':i<f.toL.length:=by simpa using hi
 rw[bh hi']at h2;simp only[Option.map_eq_map,Option.map_some,aE]at h2;have hne:=hr _ (List.getElem_mem hi');split at h2;{have:=congrArg List.length h2;simp at this;exact hne this};exact hne h2
def qB(f:Dat)(n:Nat):Nat:=(List.range n).countP fun i=>fD f i
theorem OE(f:Dat)(n:Nat):qB f n≤n:=by have:=List.countP_le_length (p:=fun i=>fD f i) (l:=List.range n);simpa[qB]using this
theorem KY{f:Dat}{k n:Nat}(h:k<f.toL.length)(hr:∀r∈f.toL,r≠[])(h0:fD f k=false):qB (f.setc (k:Int) 0 (.int 1)) n=qB f n+if k<n then 1 else 0:=by
 induction n with
 |zero=>rfl
 |succ n ih=>
  have e:∀g:Dat,qB g (n+1)=qB g n+if fD g n=true then 1 else 0:=fun g=>by simp only[qB,List.range_succ,List.countP_append,List.countP_singleton]
  rw[e,e,ih];by_cases hk:n=k
  ·subst hk;have h1:fD (f.setc (n:Int) 0 (.int 1)) n=true:=by
    unfold fD;rw[Ac h hr];rfl
   rw[h1,h0];simp
  have h1:fD (f.setc (k:Int) 0 (.int 1)) n=fD f n:=(by unfold fD;rw[rb hk]);rw[h1];by_cases hkn:k<n;{simp only[hkn,if_true,show k<n+1 by omega];omega};simp only[hkn,if_false,show ¬k<n+1 by omega];omega
theorem FB{d pl lb f:Dat}{k:Nat}(h:iQ d pl lb f k=true):fD f k=false:=by simp only[iQ,ak]at h;have:=of_decide_eq_true h.2.2.1;unfold fD;rw[this];rfl
theorem tI{d pl lb f:Dat}(hr:∀r∈f.toL,r≠[]):∀k,k≤f.toL.length→(∀r∈(fg d pl lb f k).toL,r≠[])∧(AH d pl lb f k=false→fg d pl lb f k=f)∧
 qB f f.toL.length+(if AH d pl lb f k=true then 1 else 0)≤qB (fg d pl lb f k) f.toL.length:=by
 intro k
 induction k with
 |zero=>intro _;exact⟨hr,fun _=>rfl,aw _⟩
 |succ k ih=>
  intro hk;obtain⟨h1,h2,h3⟩:=ih (by omega);cases hc:iQ d pl lb (fg d pl lb f k) k with
  |false=>simp only[fg,AH,hc,Bool.or_false];exact⟨h1,h2,h3⟩
  |true=>simp only[fg,AH,hc,Bool.or_true,if_true];refine⟨Hm h1,fun h=>(by cases h),?_⟩;rw[KY (by rw[tH];omega) h1 (FB hc),if_pos (by omega)];have:qB f f.toL.length≤qB (fg d pl lb f k) f.toL.length:=(by omega);omega
def Hp(d f:Dat):Dat:=fg d (AE d f) (L2 d f) f d.toL.length
def oH(d f:Dat):Bool:=AH d (AE d f) (L2 d f) f d.toL.length
def Ur(d:Dat):Dat:=.lst (List.replicate d.toL.length [.int 0])
def jh(d:Dat):Nat→Dat
 |0=>Ur d
 |j+1=>Hp d (jh d j)
def tJ(d:Dat):Dat:=jh d (d.toL.length+1)
theorem mX(d:Dat)(j:Nat):(jh d j).toL.length=d.toL.length:=by
 induction j with
 |zero=>show(List.replicate _ _).length=_;simp
 |succ j ih=>rw[jh,Hp,tH,ih]
theorem zD(d:Dat)(j:Nat):∀r∈(jh d j).toL,r≠[]:=by
 induction j with
 |zero=>intro r hr he;subst he;have hr:([]:List Dat)∈List.replicate d.toL.length [Dat.int 0]:=hr;have:=List.eq_of_mem_replicate hr;cases this
 |succ j ih=>exact(tI ih _ (by rw[mX];exact aw _)).1
theorem zC(d:Dat){j:Nat}(h:oH d (jh d j)=false):jh d (j+1)=jh d j:=
 (tI (zD d j) _ (by rw[mX];exact aw _)).2.1 h
theorem Fj(d:Dat){j:Nat}(h:oH d (jh d j)=false):∀m,j≤m→jh d m=jh d j:=by
 intro m hm
 induction m with
 |zero=>have:j=0:=(by omega);subst this;rfl
 |succ m ih=>rcases Nat.eq_or_lt_of_le hm with rfl|hm;{rfl};have:=ih (by omega);rw[jh,this];exact zC d h
theorem NR(d:Dat):∀j,(∀i,i<j→oH d (jh d i)=true)→j≤qB (jh d j) d.toL.length:=by
 intro j
 induction j with
 |zero=>intro _;exact aP _
 |succ j ih=>intro h;have h1:=ih fun i hi=>h i (by omega);have h2:=(tI (d:=d) (pl:=AE d (jh d j)) (lb:=L2 d (jh d j)) (zD d j) d.toL.length (by rw[mX];exact aw _)).2.2;have h3:AH d (AE d (jh d j)) (L2 d (jh d j)) (jh d j) d.toL.length=true:=h j (by omega);rw[h3,mX]at h2;show j+1≤qB (Hp d (jh d j)) _;simp only[if_true]at h2;exact Nat.le_trans (Nat.add_le_add_right h1 1) h2
theorem Kf(d:Dat):∃n,(∀i,i<n→oH d (jh d i)=true)∧oH d (jh d n)=false∧tJ d=jh d n:=by
 have hex:∃n,n≤d.toL.length∧oH d (jh d n)=false:=by
  apply Classical.byContradiction;intro hno;have:=NR d (d.toL.length+1) fun i hi=>by
   cases h:oH d (jh d i)with
   |true=>rfl
   |false=>exact absurd ⟨i,by omega,h⟩ hno
  have:=OE (jh d (d.toL.length+1)) d.toL.length;omega
 obtain⟨m,hm,hm2⟩:=hex;have key:∀m,oH d (jh d m)=false→∃n,n≤m∧(∀i,i<n→oH d (jh d i)=true)∧oH d (jh d n)=false:=by
  intro m
  induction m using Nat.strongRecOn with
  |ind m ih=>
   intro h;by_cases hx:∃i,i<m∧oH d (jh d i)=false;{obtain⟨i,hi,hi2⟩:=hx;obtain⟨n,h1,h2,h3⟩:=ih i hi hi2;exact⟨n,by omega,h2,h3⟩};refine⟨m,aw _,fun i hi=> ?_,h⟩;cases h':oH d (jh d i)with
   |true=>rfl
   |false=>exact absurd ⟨i,hi,h'⟩ hx
 obtain⟨n,h1,h2,h3⟩:=key m hm2;exact⟨n,h2,h3,Fj d h3 _ (by omega)⟩
end Go.Tw
namespace Go.Proofs.YtlagbijmfchkeaaGreat.Em
open Go.Tw
noncomputable section
abbrev P:Program:=Tryz.prog
theorem follows:P.follows .mixedOrders=true:=by kernel_rfl
def ba:Nat→Option Nat:=fun _=>none
def b0:bF:=T.leaf.set gid (.opq 0 0 0 .bool (.lit 0) (.lit 0) [] 0)
def R0:Nat:=1024
theorem base0:BaseOk ba b0 R0 where
 gid_lt:=by decide
 gid_at:=⟨0,0,.bool,.lit 0,.lit 0,0,T.get_set_same _ _ _⟩
 none:=fun i hi=>by
  have:i≠gid:=by have:R0≤i:=hi;have h:gid<R0:=by decide
                 omega
  rw[b0,T.get_set_ne _ _ this];rfl
 only:=fun i o h hn=>by rw[b0,T.get_set_ne _ _ hn]at h;simp [T.get_leaf]at h
 gl:=fun g n h=>by cases h
def run(p:aD)(cons:List Con)(nt:Nat)(c:Code)(l:List (Nat×AV))(o:List (Nat×Ob))(nx:Nat):XR:=
 exec P (bL ba b0 p (dZ R0 (dj p) cons)) 1000 nt c {tm:=ax l,ds:=[],md:=none,rd:=false} (ag b0 o nx)
abbrev HR(nr nb nt:Nat):=HT P ba b0 R0 nr nb nt
theorem rn{F:Nat→Dat→Dat→Dat→Dat}{v v':Val}(hF:v.fn=F){p:aD}(hp:@Holds v p){cons:List Con}(hc:∀c∈cons,c.Sound F P ba b0 R0){nr nb nt:Nat}(hrb:nr≤bQ nb){c:Code}{l:List (Nat×AV)}{o:List (Nat×Ob)}{nx:Nat}{e:AExit}{ρ:List RE}
 {l':List (Nat×AV)}{o':List (Nat×Ob)}{nx':Nat}{E:bq}(h:aT R0 nr nb (run p cons nt c l o nx) e ρ l' o' nx' E=true)(hE:EqsOk v v' E):HR nr nb nt v c (ax l) (ag b0 o nx) e v' (ax l') (ag b0 o' nx'):=
 HT.run base0 hrb hp (cO cons) (fF base0 hp hF hc) follows h hE
theorem bO{F:Nat→Dat→Dat→Dat→Dat}:∀c∈([]:List Con),c.Sound F P ba b0 R0:=fun _ h=>by cases h
theorem B7{v:Val}:@Holds v []:=fun _ h=>by cases h
theorem bp{n:Int}(h1: -9223372036854775808≤n)(h2:n≤9223372036854775807):aU .i64 n=n:=by rw[wrap_i64];split<;>omega
def D(i:Nat):Sx:=.dvar i
abbrev VL(F:Nat→Dat→Dat→Dat→Dat)(l:List Dat):Val:=Val.mk (fun _=>0) (fun i=>match l[i]? with
 |some d=>d
 |none=>.int 0) F
def Code.l:Code→Code
 | .seq a _=>a
 | .block _ a=>a
 | .loop a=>a
 | .scope a=>a
 |c=>c
def Code.r:Code→Code
 | .seq _ b=>b
 |c=>c
abbrev lr:Sh:=.int .i64
def LI(x:Sx):AV:=.opq 0 gid 0 (.slc [lr]) x (.lit 0)
def sk:Code→Nat→Nat
 | .seq a b,n=>sk a n+sk b n
 |_,_=>1
end
end Go.Proofs.YtlagbijmfchkeaaGreat.Em
namespace Go.Tw
open Go.ChangeShapes Go.RowKit
inductive ST where
 |leaf (l:List Sx)
 |ask (b:Bx) (t e:ST)
 |none
inductive DT where
 |leaf
 |ask (b:Bx) (t e:DT)
 |dead (i:Nat)
def ST.val(v:Val):ST→Nat→Dat
 | .leaf l,i=>match l[i]? with
  |some e=>@Sx.dat v e
  |Option.none=>.int 0
 | .ask b t e,i=>bif @Bx.eval v b then t.val v i else e.val v i
 | .none,_=>.int 0
noncomputable def ST.at(dec:Bx→Option Bool):ST→Option (List Sx)
 | .leaf l=>some l
 | .ask b t e=>match dec b with
  |some x=>bif x then t.at dec else e.at dec
  |Option.none=>Option.none
 | .none=>Option.none
noncomputable def mO(R:Nat)(tm:T AV):List (Nat×AV)→List RE
 |[]=>[]
 |(t,x)::l=>match x,tm.get t with
  | .opq _ id' _ _ _ _,some (.opq _ id ver _ _ _)=>bif Nat.ble R id' then{idn:=id',ido:=id,ver:=ver}::mO R tm l else mO R tm l
  | .opq _ id' _ _ _ _,some (.slc id ver _ len _ esz)=>bif Nat.ble R id'&&Nat.blt 0 len then{idn:=id',ido:=id,ver:=ver,n:=len*esz,t:=t}::mO R tm l else mO R tm l
  |_,_=>mO R tm l
noncomputable def rW(R nr:Nat)(e e':AExit)(env:Env)(σ:St):Bool:=zR e e'&&σ.wr.all (fun i=>Nat.ble (R+nr) i)&&(match env.ds with
 |[]=>true
 |_=>false)&&(match env.md with
 |none=>true
 |_=>false)
noncomputable def jk(R nr nb:Nat)(x:XR)(e:AExit)(tm':List (Nat×AV))(objs':List (Nat×Ob))(nx':Nat):Option bq:=match x with
 | .ok e' env σ=>bif rW R nr e e' env σ then cM R nb (mO R env.tm tm') env.tm σ.bare tm' objs' nx' else none
 |_=>none
noncomputable def Fq(cmp:Sx→Sx→Bool):bq→List Sx→List Sx→Bool
 |[],_,tg=>match tg with
  |[]=>true
  |_=>false
 |(a,t)::E,l,tg=>match l,tg with
  |x::l,t'::tg=>cmp a x&&t.same t'&&Fq cmp E l tg
  |_,_=>false
noncomputable def qz(cores:List aD)(i:Nat)(p:aD):Bool:=match cores[i]? with
 |some c=>c.all fun q=>match dj p q.1 with
  |some x=>nQ x q.2
  |none=>false
 |none=>false
noncomputable def DT.chk(cmp:Sx→Sx→Bool)(fin:aD→Option bq)(sp:ST)(tg:List Sx)(cores:List aD):DT→aD→Bool
 | .leaf,p=>match sp.at (dj p),fin p with
  |some l,some E=>Fq cmp E l tg
  |_,_=>false
 | .ask b t f,p=>t.chk cmp fin sp tg cores ((b,true)::p)&&f.chk cmp fin sp tg cores ((b,false)::p)
 | .dead i,p=>qz cores i p
section
variable{v v2:Val}
theorem ST.at_val{dec:Bx→Option Bool}(hdec:∀b x,dec b=some x→@Bx.eval v b=x):∀{sp:ST} {l:List Sx},sp.at dec=some l→∀i,sp.val v i=(match l[i]? with
 |some e=>@Sx.dat v e
 |Option.none=>.int 0)
 | .leaf l,l',h,i=>by simp only[ST.at,aE]at h;subst h;rfl
 | .ask b t e,l',h,i=>by
  simp only[ST.at]at h;split at h
  ·rename_i x hx;have:=hdec _ _ hx;simp only[ST.val,this];cases x with
   |true=>exact ST.at_val hdec h i
   |false=>exact ST.at_val hdec h i
  cases h
 | .none,l',h,i=>by cases h
theorem xZ{cmp:Sx→Sx→Bool}(hcmp:∀a b,cmp a b=true→@Sx.dat v a=@Sx.dat v b):∀{E:bq} {l tg:List Sx},Fq cmp E l tg=true→(∀(i:Nat) (t:Sx),tg[i]? =some t→@Sx.dat v2 t=(match l[i]? with
 |some e=>@Sx.dat v e
 |Option.none=>.int 0))→EqsOk v v2 E
 |[],l,tg,_,_=>fun _ h=>by cases h
 |(a,t)::E,l,tg,h,k=>by
  cases l with
  |nil=>simp [Fq]at h
  |cons x l=>
   cases tg with
   |nil=>simp [Fq]at h
   |cons t' tg=>simp only[Fq,ak]at h;obtain⟨⟨h1,h2⟩,h3⟩:=h;have:=Sx.same_eq h2;subst this;refine List.forall_mem_cons.2 ⟨?_,xZ hcmp h3 fun i u hu=>k (i+1) u (by simpa using hu)⟩;have:=k 0 t rfl;exact(hcmp _ _ h1).trans this.symm
theorem Fz{cores:List aD}{i:Nat}{p:aD}(h:qz cores i p=true)(hp:@Holds v p):∃c∈cores,@Holds v c:=by unfold qz at h;split at h;{rename_i c hc;refine⟨c,fH hc,fun q hq=> ?_⟩;have:=List.all_eq_true.1 h q hq;split at this;{rename_i x hx;rw[@gU v _ hp _ _ hx];exact iv this};cases this};cases h
end
theorem HT.leaf{P:Program}{gl:Nat→Option Nat}{b:bF}{R nr nb nt:Nat}{v v2:Val}(hb:BaseOk gl b R)(hrb:nr≤bQ nb){p:aD}(hp:@Holds v p){hk:FuncId→List AV→St→CR}(hs:bH (bL gl b p hk))(hh:@kC v P R (bL gl b p hk))
 (hm:P.follows .mixedOrders=true){n:Nat}{c:Code}{tm:T AV}{σ:St}{e:AExit}{tm':List (Nat×AV)}{objs':List (Nat×Ob)}{nx':Nat}{E:bq}
 (h:jk R nr nb (exec P (bL gl b p hk) n nt c {tm:=tm,ds:=[],md:=none,rd:=false} σ) e tm' objs' nx'=some E)(hE:EqsOk v v2 E):HT P gl b R nr nb nt v c tm σ e v2 (ax tm') (ag b objs' nx'):=by
 unfold jk at h;split at h
 ·rename_i e' env σ' hx;rw[au]at h;split at h
  ·rename_i hg;simp only[rW,ak]at hg;obtain⟨⟨⟨h1,h0⟩,h2⟩,h3⟩:=hg;obtain⟨rfl,hn⟩:=mr h1;have hd:env.ds=[]:=by
    split at h2;{assumption};cases h2
   have hmd:env.md=none:=(by split at h3;{assumption};cases h3);exact(na hp hs hh hm hx hn hd hmd (fun i hi=>aA (List.all_eq_true.1 h0 i hi))).ht hrb (aI hb h hE)
  cases h
 cases h
theorem DT.ok{P:Program}{gl:Nat→Option Nat}{b:bF}{R nr nb nt:Nat}{v v2:Val}(hb:BaseOk gl b R)(hrb:nr≤bQ nb){F:Nat→Dat→Dat→Dat→Dat}(hF:v.fn=F){cons:List Con}(hc:∀c∈cons,c.Sound F P gl b R)
 (hm:P.follows .mixedOrders=true){n:Nat}{c:Code}{l:List (Nat×AV)}{o:List (Nat×Ob)}{nx:Nat}{e:AExit}{l':List (Nat×AV)}{o':List (Nat×Ob)}{nx':Nat}
 {cmp:Sx→Sx→Bool}(hcmp:∀a b,cmp a b=true→@Sx.dat v a=@Sx.dat v b){sp:ST}{tg:List Sx}{cores:List aD}(hsp:∀(i:Nat) (t:Sx),tg[i]? =some t→@Sx.dat v2 t=sp.val v i)(hcores:∀c∈cores,¬@Holds v c):
 ∀{t:DT} {p:aD},t.chk cmp (fun p=>jk R nr nb (exec P (bL gl b p (dZ R (dj p) cons)) n nt c {tm:=ax l,ds:=[],md:=none,rd:=false} (ag b o nx)) e l' o' nx') sp tg cores p=true→@Holds v p→
  HT P gl b R nr nb nt v c (ax l) (ag b o nx) e v2 (ax l') (ag b o' nx')
 | .leaf,p,h,hp=>by simp only[DT.chk]at h;split at h;{rename_i pl E h1 h2;exact HT.leaf hb hrb hp (cO cons) (fF hb hp hF hc) hm h2 (xZ hcmp h fun i t ht=>(hsp i t ht).trans (ST.at_val (fun b x hx=>@gU v _ hp _ _ hx) h1 i))};cases h
 | .ask q t f,p,h,hp=>by
  simp only[DT.chk,ak]at h;cases hq:@Bx.eval v q with
  |true=>exact DT.ok hb hrb hF hc hm hcmp hsp hcores h.1 (@Holds.cons v _ _ _ hq hp)
  |false=>exact DT.ok hb hrb hF hc hm hcmp hsp hcores h.2 (@Holds.cons v _ _ _ hq hp)
 | .dead i,p,h,hp=>by obtain⟨c,h1,h2⟩:=Fz h hp;exact absurd h2 (hcores c h1)
theorem HT.pre{P:Program}{gl:Nat→Option Nat}{b:bF}{R nr nb nt:Nat}{v0 v v2:Val}(hrb:nr≤bQ nb){c:Code}{tm0 tm tm2:T AV}{σ0 σ σ2:St}{e:AExit}(k:Retell gl b R nr nb v0 tm0 σ0 v tm σ)(h:HT P gl b R nr nb nt v c tm σ e v2 tm2 σ2):
 HT P gl b R nr nb nt v0 c tm0 σ0 e v2 tm2 σ2:=by
 intro a cs w φ ha;obtain⟨φ1,r1,r2⟩:=k _ _ _ _ ha;refine(h a cs w φ1 r1).mono fun _ _ _ _ ⟨q1,q2,φ2,q3,q4⟩=>⟨q1,q2,φ2,q3,r2.trans hrb q4⟩
def px(fa fb:Nat):Sx→List Sx
 | .pr f a b=>bif Nat.beq f 9 then px fa fb a++px fa fb b else bif Nat.beq f 13 then[]else[.pr f a b]
 | .ap f a b c=>bif Nat.beq f fb then px fa fb c++[.ap fa a b (.lit 0)]else[.ap f a b c]
 | .lit n=>[.lit n]
 | .var i=>[.var i]
 | .bin op k a b=>[.bin op k a b]
 | .wrap k a=>[.wrap k a]
 | .dvar i=>[.dvar i]
 | .slit s=>[.slit s]
 | .cell x i o=>[.cell x i o]
 | .setc x i o c=>[.setc x i o c]
 | .dlit d=>[.dlit d]
def NT(fa fb:Nat):Sx→Bool
 | .pr f _ _=>Nat.beq f 9||Nat.beq f 13
 | .ap f _ _ _=>Nat.beq f fa||Nat.beq f fb
 |_=>false
def pW:List Sx→List Sx→Bool
 |[],l=>match l with
  |[]=>true
  |_=>false
 |a::l,m=>match m with
  |b::m=>a.same b&&pW l m
  |[]=>false
def Vh(fa fb:Nat)(a b:Sx):Bool:=bif a.same b then true else NT fa fb a&&(NT fa fb b&&pW (px fa fb a) (px fa fb b))
section
variable{v:Val}{fa fb:Nat}
theorem uV:∀{l m:List Sx},pW l m=true→l=m
 |[],m,h=>by cases m<;>simp_all [pW]
 |a::l,m,h=>by
  cases m with
  |nil=>simp [pW]at h
  |cons b m=>simp only[pW,ak]at h;rw[Sx.same_eq h.1,uV h.2]
theorem zL(hb:∀a b c,v.fn fb a b c=.lst (c.toL++(v.fn fa a b (.int 0)).toL)):∀e:Sx,(@Sx.dat v e).toL=(px fa fb e).flatMap fun x=>(@Sx.dat v x).toL:=by
 intro e
 induction e with
 |pr f a b ih1 ih2=>simp only[px,au];split;{rename_i h;have:=ad h;subst this;rw[List.flatMap_append,←ih1,←ih2];rfl};split;{rename_i h;have:=ad h;subst this;rfl};simp
 |ap f a b c _ _ ih3=>simp only[px,au];split;{rename_i h;have:=ad h;subst this;rw[List.flatMap_append,←ih3];simp only[Sx.dat,hb,List.flatMap_cons,List.flatMap_nil,List.append_nil,Dat.toL]};simp
 |_=>simp [px]
theorem DD(ha:∀a b c,v.fn fa a b c=.lst (v.fn fa a b c).toL)(hb:∀a b c,v.fn fb a b c=.lst (c.toL++(v.fn fa a b (.int 0)).toL)){e:Sx}(h:NT fa fb e=true):@Sx.dat v e=.lst (@Sx.dat v e).toL:=by cases e<;>simp only[NT,cw,dw]at h;{rcases h with h|h<;>(have:=ad h;subst this;rfl)};rcases h with h|h<;>(have:=ad h;subst this);{exact ha _ _ _};simp only[Sx.dat,hb,Dat.toL]
theorem OF(ha:∀a b c,v.fn fa a b c=.lst (v.fn fa a b c).toL)(hb:∀a b c,v.fn fb a b c=.lst (c.toL++(v.fn fa a b (.int 0)).toL))(a b:Sx)(h:Vh fa fb a b=true):@Sx.dat v a=@Sx.dat v b:=by unfold Vh at h;rw[au]at h;split at h;{rename_i hs;rw[Sx.same_eq hs]};simp only[ak]at h;rw[DD ha hb h.1,DD ha hb h.2.1,zL hb a,zL hb b,uV h.2.2]
end
def mf(fa fb n:Nat):Sx→Option Nat
 | .pr f a b=>bif Nat.beq f 9 then(match mf fa fb n a,mf fa fb n b with
  |some x,some y=>some (x+y)
  |_,_=>none)else bif Nat.beq f 12 then some 1 else bif Nat.beq f 13 then some 0 else none
 | .ap f _ _ c=>bif Nat.beq f fa then some n else bif Nat.beq f fb then(match mf fa fb n c with
  |some x=>some (x+n)
  |none=>none)else none
 |_=>none
theorem Fa{v:Val}{fa fb n:Nat}(hb:∀a b c,v.fn fb a b c=.lst (c.toL++(v.fn fa a b (.int 0)).toL))(hn:∀a b c,(v.fn fa a b c).toL.length≤n):∀{e:Sx} {m:Nat},mf fa fb n e=some m→(@Sx.dat v e).toL.length≤m:=by
 intro e
 induction e with
 |pr f a b ih1 ih2=>intro m h;simp only[mf,au]at h;split at h;{rename_i hf;have:=ad hf;subst this;split at h;{rename_i x y hx hy;cases h;have h1:=ih1 hx;have h2:=ih2 hy;show((@Sx.dat v a).toL++(@Sx.dat v b).toL).length≤_;rw[cZ];omega};cases h};split at h;{rename_i hf;have:=ad hf;subst this;cases h;exact aw _};split at h;{rename_i hf;have:=ad hf;subst this;cases h;exact aw _};cases h
 |ap f a b c _ _ ih3=>intro m h;simp only[mf,au]at h;split at h;{rename_i hf;have:=ad hf;subst this;cases h;exact hn _ _ _};split at h;{rename_i hf;have:=ad hf;subst this;split at h;{rename_i x hx;cases h;have h1:=ih3 hx;have h2:=hn (@Sx.dat v a) (@Sx.dat v b) (.int 0);have e1:@Sx.dat v (.ap f a b c)=.lst ((@Sx.dat v c).toL++(v.fn fa (@Sx.dat v a) (@Sx.dat v b) (.int 0)).toL):=hb _ _ _;rw[e1];simp only[Dat.toL,cZ]at h1 h2⊢;omega};cases h};cases h
 |_=>intro m h;simp [mf]at h
def Sx.okB(nv nf:Nat):Sx→Bool
 | .lit _=>true
 | .var _=>false
 | .bin _ _ a b=>a.okB nv nf&&b.okB nv nf
 | .wrap _ a=>a.okB nv nf
 | .dvar i=>Nat.blt i nv
 | .slit _=>true
 | .pr _ a b=>a.okB nv nf&&b.okB nv nf
 | .ap f a b c=>Nat.blt f nf&&(a.okB nv nf&&(b.okB nv nf&&c.okB nv nf))
 | .cell x i _=>x.okB nv nf&&i.okB nv nf
 | .setc x i _ c=>x.okB nv nf&&(i.okB nv nf&&c.okB nv nf)
 | .dlit _=>true
def Bx.okB(nv nf:Nat):Bx→Bool
 | .cmp _ a b=>a.okB nv nf&&b.okB nv nf
 | .not b=>b.okB nv nf
 | .seq a b=>a.okB nv nf&&b.okB nv nf
def ST.okB(nv nf:Nat):ST→Bool
 | .leaf l=>l.all (Sx.okB nv nf)
 | .ask b t e=>b.okB nv nf&&(t.okB nv nf&&e.okB nv nf)
 | .none=>true
section
variable{v v2:Val}{nv nf:Nat}
theorem Sx.okB_dat(hd:∀i,i<nv→v.dat i=v2.dat i)(hf:∀f,f<nf→v.fn f=v2.fn f):∀{e:Sx},e.okB nv nf=true→@Sx.dat v e=@Sx.dat v2 e:=by
 intro e
 induction e with
 |lit n=>intro _;rfl
 |var i=>intro h;cases h
 |bin op k a b ih1 ih2=>intro h;simp only[Sx.okB,ak]at h;simp only[Sx.dat,ih1 h.1,ih2 h.2]
 |wrap k a ih=>intro h;simp only[Sx.okB]at h;simp only[Sx.dat,ih h]
 |dvar i=>intro h;exact hd i (aL h)
 |slit s=>intro _;rfl
 |pr f a b ih1 ih2=>intro h;simp only[Sx.okB,ak]at h;simp only[Sx.dat,ih1 h.1,ih2 h.2]
 |ap f a b c ih1 ih2 ih3=>intro h;simp only[Sx.okB,ak]at h;simp only[Sx.dat,ih1 h.2.1,ih2 h.2.2.1,ih3 h.2.2.2];rw[hf f (aL h.1)]
 |cell x i o ih1 ih2=>intro h;simp only[Sx.okB,ak]at h;simp only[Sx.dat,ih1 h.1,ih2 h.2]
 |setc x i o c ih1 ih2 ih3=>intro h;simp only[Sx.okB,ak]at h;simp only[Sx.dat,ih1 h.1,ih2 h.2.1,ih3 h.2.2]
 |dlit d=>intro _;rfl
theorem Bx.okB_eval(hd:∀i,i<nv→v.dat i=v2.dat i)(hf:∀f,f<nf→v.fn f=v2.fn f):∀{b:Bx},b.okB nv nf=true→@Bx.eval v b=@Bx.eval v2 b:=by
 intro b
 induction b with
 |cmp op a c=>intro h;simp only[Bx.okB,ak]at h;simp only[Bx.eval,Sx.eval,Sx.okB_dat hd hf h.1,Sx.okB_dat hd hf h.2]
 |not b ih=>intro h;simp only[Bx.okB]at h;simp only[Bx.eval,ih h]
 |seq a c=>intro h;simp only[Bx.okB,ak]at h;simp only[Bx.eval,Sx.okB_dat hd hf h.1,Sx.okB_dat hd hf h.2]
theorem ST.okB_val(hd:∀i,i<nv→v.dat i=v2.dat i)(hf:∀f,f<nf→v.fn f=v2.fn f)(i:Nat):∀{t:ST},t.okB nv nf=true→t.val v i=t.val v2 i
 | .leaf l,h=>by
  simp only[ST.val];cases hi:l[i]? with
  |none=>rfl
  |some e=>exact Sx.okB_dat hd hf (List.all_eq_true.1 h e (fH hi))
 | .ask b t e,h=>by simp only[ST.okB,ak]at h;simp only[ST.val,Bx.okB_eval hd hf h.1,ST.okB_val hd hf i h.2.1,ST.okB_val hd hf i h.2.2]
 | .none,_=>rfl
end
def ST.intAt(i:Nat):ST→Bool
 | .leaf l=>match l[i]? with
  |some e=>intS? e
  |Option.none=>true
 | .ask _ t e=>t.intAt i&&e.intAt i
 | .none=>true
theorem zI{v:Val}{e:Sx}(h:intS? e=true):@Sx.dat v e=.int (@Sx.dat v e).toI:=by cases e<;>simp only[intS?,cw]at h;{rfl};have:=ad h;subst this;rfl
theorem ST.intAt_ok{v:Val}{i:Nat}:∀{t:ST},t.intAt i=true→t.val v i=.int (t.val v i).toI
 | .leaf l,h=>by
  simp only[ST.intAt]at h;simp only[ST.val];cases hi:l[i]? with
  |none=>rfl
  |some e=>rw[hi]at h;exact zI h
 | .ask b t e,h=>by
  simp only[ST.intAt,ak]at h;simp only[ST.val];cases @Bx.eval v b with
  |true=>exact ST.intAt_ok h.1
  |false=>exact ST.intAt_ok h.2
 | .none,_=>rfl
end Go.Tw
namespace Go.Proofs.YtlagbijmfchkeaaGreat.Em
open Go.Tw
noncomputable section
def I(n:Int):Sx:=.lit n
def N(e:Sx):Sx:=.pr 30 e (.lit 0)
def J(a b:Sx):Sx:=.pr 9 a b
def O:Sx:=.pr 13 (.lit 0) (.lit 0)
abbrev sG:Sx:=.pr 14 (.lit 0) (.lit 0)
def W(a b c d e f g:Sx):Sx:=.pr 12 a (.pr 12 b (.pr 12 c (.pr 12 d (.pr 12 e (.pr 12 f (.pr 12 g sG))))))
def lt(a b:Sx):Bx:=.cmp .lss a b
def eq(a b:Sx):Bx:=.cmp .eql a b
def er(n:Int):ST:=.leaf [I 0,I n,O,I 0]
def y0:Bx:=lt (D 6) (I 0)
def y1:Bx:=lt (D 6) (I 65)
def y2:Bx:=lt (D 7) (I 0)
def y3:Bx:=lt (D 7) (I 4097)
def y4:Bx:=eq (D 1) (I 0)
def y5:Bx:=eq (D 2) (I 0)
def y6:Bx:=eq (D 3) (I 0)
def y7:Bx:=eq (D 4) (I 0)
def y8:Bx:=eq (ae (D 5)) (I 0)
def y9:Bx:=lt (D 8) (I 0)
def iV:Bx:=lt (D 8) (I 4096)
def iH:Sx:=W (I 0) (I 0) (I 6) (I 0) (I 18) (I 0) (I 12)
def WM:Sx:=.ap 4 (I 0) (D 8) (I 0)
def iG:Sx:=W (I 0) (I 0) (I 1) (I 5) (I 0) (I 0) (.ap 6 WM (I 0) (I 0))
def iF:Sx:=W (I 0) (I 0) (I 4) (I 0) (I 5) (I 0) (.ap 7 WM (I 0) (I 0))
def iE:Sx:=W (I 0) (I 0) (I 22) (I 18) (I 18) (I 0) (I (-1))
def WL:Sx:=J iH (J iG (J iF (J iE O)))
def sp0:ST:=(.ask y0 (er 2) (.ask y1 (.ask y2 (er 2) (.ask y3 (.ask y4 (.ask y5 (.ask y6 (.ask y7 (.ask y8 (.ask y9 (er 2) (.ask iV (.leaf [(I 1),(I 0),WL,(I 1)]) (er 2))) (er 2)) (er 2)) (er 2)) (er 2)) (er 2)) (er 2))) (er 2)))
def gQ:Bx:=lt (D 1) (I 0)
def gP:Bx:=lt (D 1) (D 6)
def y19:Sx:=.ap 3 (I 5) (D 4) WL
def y20:Sx:=.bin .mul .i64 (I 8) (D 1)
def kO:Sx:=J (W (I 0) (I 0) (I 21) (I 0) (I 8) (I 5) y20) O
def sp1:ST:=(.ask y0 (er 2) (.ask y1 (.ask y2 (er 2) (.ask y3 (.ask y5 (.ask y6 (.ask y8 (.ask gQ (er 5) (.ask gP (.ask y9 (er 2) (.ask iV (.leaf [(I 1),(I 0),(J y19 kO),(I 1)]) (er 2))) (er 5))) (er 2)) (er 2)) (er 2)) (er 2))) (er 2)))
def nT:Bx:=lt (D 2) (I 0)
def nS:Bx:=lt (D 2) (D 6)
def y24:Sx:=.bin .mul .i64 (I 8) (D 2)
def sp2:ST:=(.ask y0 (er 2) (.ask y1 (.ask y2 (er 2) (.ask y3 (.ask y6 (.ask y7 (.ask y8 (.ask gQ (er 5) (.ask gP (.ask nT (er 5) (.ask nS (.ask y9 (er 2) (.ask iV (.leaf [(I 1),(I 0),(J iH (J iG (J iF (J iE (J (W (I 0) (I 0) (I 14) (I 5) (I 8) (I 0) y24) kO))))),(I 1)]) (er 2))) (er 5))) (er 5))) (er 2)) (er 2)) (er 2)) (er 2))) (er 2)))
def yx:Bx:=lt (D 3) (I 0)
def yw:Bx:=lt (D 3) (D 6)
def ow:Sx:=W (I 0) (I 0) (I 14) (I 6) (I 8) (I 0) y24
def yv:Sx:=W (I 0) (I 0) (I 14) (I 7) (I 8) (I 0) (.bin .mul .i64 (I 8) (D 3))
def sp3:ST:=(.ask y0 (er 2) (.ask y1 (.ask y2 (er 2) (.ask y3 (.ask y7 (.ask y8 (.ask gQ (er 5) (.ask gP (.ask nT (er 5) (.ask nS (.ask yx (er 5) (.ask yw (.ask y9 (er 2) (.ask iV (.leaf [(I 1),(I 0),(J iH (J iG (J iF (J iE (J ow (J yv (J (W (I 0) (I 0) (I 35) (I 5) (I 6) (I 7) (I 0)) kO))))))),(I 1)]) (er 2))) (er 5))) (er 5))) (er 5))) (er 2)) (er 2)) (er 2))) (er 2)))
def sp4:ST:=(.ask y0 (er 2) (.ask y1 (.ask y2 (er 2) (.ask y3 (.ask y7 (.ask y8 (.ask gQ (er 5) (.ask gP (.ask nT (er 5) (.ask nS (.ask yx (er 5) (.ask yw (.ask y9 (er 2) (.ask iV (.leaf [(I 1),(I 0),(J iH (J iG (J iF (J iE (J ow (J yv (J (W (I 0) (I 0) (I 36) (I 5) (I 6) (I 7) (I 0)) kO))))))),(I 1)]) (er 2))) (er 5))) (er 5))) (er 5))) (er 2)) (er 2)) (er 2))) (er 2)))
def sp5:ST:=(.ask y0 (er 2) (.ask y1 (.ask y2 (er 2) (.ask y3 (.ask y7 (.ask y8 (.ask gQ (er 5) (.ask gP (.ask nT (er 5) (.ask nS (.ask yx (er 5) (.ask yw (.ask y9 (er 2) (.ask iV (.leaf [(I 1),(I 0),(J iH (J iG (J iF (J iE (J ow (J yv (J (W (I 0) (I 0) (I 50) (I 5) (I 6) (I 7) (I 0)) kO))))))),(I 1)]) (er 2))) (er 5))) (er 5))) (er 5))) (er 2)) (er 2)) (er 2))) (er 2)))
def y29:Sx:=W (I 0) (I 0) (I 6) (I 0) (I 7) (I 0) (I 12)
def y30:Sx:=.ap 4 (I 3) (D 8) (I 0)
def y31:Sx:=W (I 0) (I 0) (I 1) (I 5) (I 0) (I 0) (.ap 6 y30 (I 0) (I 0))
def y32:Sx:=W (I 0) (I 0) (I 4) (I 0) (I 5) (I 0) (.ap 7 y30 (I 0) (I 0))
def sp6:ST:=(.ask y0 (er 2) (.ask y1 (.ask y2 (er 2) (.ask y3 (.ask y7 (.ask y8 (.ask gQ (er 5) (.ask gP (.ask nT (er 5) (.ask nS (.ask yx (er 5) (.ask yw (.ask y9 (er 2) (.ask iV (.leaf [(I 1),(I 0),(J iH (J iG (J iF (J iE (J ow (J yv (J y29 (J y31 (J y32 (J (W (I 0) (I 0) (I 54) (I 5) (I 6) (I 7) (I 0)) kO)))))))))),(I 1)]) (er 2))) (er 5))) (er 5))) (er 5))) (er 2)) (er 2)) (er 2))) (er 2)))
def sp7:ST:=(.ask y0 (er 2) (.ask y1 (.ask y2 (er 2) (.ask y3 (.ask y7 (.ask y8 (.ask gQ (er 5) (.ask gP (.ask nT (er 5) (.ask nS (.ask yx (er 5) (.ask yw (.ask y9 (er 2) (.ask iV (.leaf [(I 1),(I 0),(J iH (J iG (J iF (J iE (J ow (J yv (J y29 (J y31 (J y32 (J (W (I 0) (I 0) (I 55) (I 5) (I 6) (I 7) (I 0)) kO)))))))))),(I 1)]) (er 2))) (er 5))) (er 5))) (er 5))) (er 2)) (er 2)) (er 2))) (er 2)))
def sp8:ST:=(.ask y0 (er 2) (.ask y1 (.ask y2 (er 2) (.ask y3 (.ask y7 (.ask y8 (.ask gQ (er 5) (.ask gP (.ask nT (er 5) (.ask nS (.ask yx (er 5) (.ask yw (.ask y9 (er 2) (.ask iV (.leaf [(I 1),(I 0),(J iH (J iG (J iF (J iE (J ow (J yv (J y29 (J y31 (J y32 (J (W (I 0) (I 0) (I 56) (I 5) (I 6) (I 7) (I 0)) kO)))))))))),(I 1)]) (er 2))) (er 5))) (er 5))) (er 5))) (er 2)) (er 2)) (er 2))) (er 2)))
def sp9:ST:=(.ask y0 (er 2) (.ask y1 (.ask y2 (er 2) (.ask y3 (.ask y7 (.ask y8 (.ask gQ (er 5) (.ask gP (.ask nT (er 5) (.ask nS (.ask yx (er 5) (.ask yw (.ask y9 (er 2) (.ask iV (.leaf [(I 1),(I 0),(J iH (J iG (J iF (J iE (J ow (J yv (J y29 (J y31 (J y32 (J (W (I 0) (I 0) (I 57) (I 5) (I 6) (I 7) (I 0)) kO)))))))))),(I 1)]) (er 2))) (er 5))) (er 5))) (er 5))) (er 2)) (er 2)) (er 2))) (er 2)))
def YE:ST:=(.ask y0 (er 2) (.ask y1 (.ask y2 (er 2) (.ask y3 (.ask y7 (.ask y8 (.ask gQ (er 5) (.ask gP (.ask nT (er 5) (.ask nS (.ask yx (er 5) (.ask yw (.ask y9 (er 2) (.ask iV (.leaf [(I 1),(I 0),(J iH (J iG (J iF (J iE (J ow (J yv (J (W (I 0) (I 0) (I 44) (I 5) (I 6) (I 7) (I 0)) kO))))))),(I 1)]) (er 2))) (er 5))) (er 5))) (er 5))) (er 2)) (er 2)) (er 2))) (er 2)))
def YD:ST:=(.ask y0 (er 2) (.ask y1 (.ask y2 (er 2) (.ask y3 (.ask y7 (.ask y8 (.ask gQ (er 5) (.ask gP (.ask nT (er 5) (.ask nS (.ask yx (er 5) (.ask yw (.ask y9 (er 2) (.ask iV (.leaf [(I 1),(I 0),(J iH (J iG (J iF (J iE (J ow (J yv (J (W (I 0) (I 0) (I 43) (I 5) (I 6) (I 7) (I 0)) kO))))))),(I 1)]) (er 2))) (er 5))) (er 5))) (er 5))) (er 2)) (er 2)) (er 2))) (er 2)))
def y33:Sx:=W (I 0) (I 0) (I 40) (I 5) (I 6) (I 7) (I 0)
def YC:ST:=(.ask y0 (er 2) (.ask y1 (.ask y2 (er 2) (.ask y3 (.ask y7 (.ask y8 (.ask gQ (er 5) (.ask gP (.ask nT (er 5) (.ask nS (.ask yx (er 5) (.ask yw (.ask y9 (er 2) (.ask iV (.leaf [(I 1),(I 0),(J iH (J iG (J iF (J iE (J ow (J yv (J y33 kO))))))),(I 1)]) (er 2))) (er 5))) (er 5))) (er 5))) (er 2)) (er 2)) (er 2))) (er 2)))
def YB:ST:=(.ask y0 (er 2) (.ask y1 (.ask y2 (er 2) (.ask y3 (.ask y7 (.ask y8 (.ask gQ (er 5) (.ask gP (.ask nT (er 5) (.ask nS (.ask yx (er 5) (.ask yw (.ask y9 (er 2) (.ask iV (.leaf [(I 1),(I 0),(J iH (J iG (J iF (J iE (J ow (J yv (J (W (I 0) (I 0) (I 37) (I 5) (I 6) (I 7) (I 0)) kO))))))),(I 1)]) (er 2))) (er 5))) (er 5))) (er 5))) (er 2)) (er 2)) (er 2))) (er 2)))
def YA:ST:=(.ask y0 (er 2) (.ask y1 (.ask y2 (er 2) (.ask y3 (.ask y7 (.ask y8 (.ask gQ (er 5) (.ask gP (.ask nT (er 5) (.ask nS (.ask yx (er 5) (.ask yw (.ask y9 (er 2) (.ask iV (.leaf [(I 1),(I 0),(J iH (J iG (J iF (J iE (J ow (J yv (J (W (I 0) (I 0) (I 41) (I 5) (I 6) (I 7) (I 0)) kO))))))),(I 1)]) (er 2))) (er 5))) (er 5))) (er 5))) (er 2)) (er 2)) (er 2))) (er 2)))
def Yz:ST:=(.ask y0 (er 2) (.ask y1 (.ask y2 (er 2) (.ask y3 (.ask y7 (.ask y8 (.ask gQ (er 5) (.ask gP (.ask nT (er 5) (.ask nS (.ask yx (er 5) (.ask yw (.ask y9 (er 2) (.ask iV (.leaf [(I 1),(I 0),(J iH (J iG (J iF (J iE (J ow (J yv (J (W (I 0) (I 0) (I 42) (I 5) (I 6) (I 7) (I 0)) kO))))))),(I 1)]) (er 2))) (er 5))) (er 5))) (er 5))) (er 2)) (er 2)) (er 2))) (er 2)))
def Yy:ST:=(.ask y0 (er 2) (.ask y1 (.ask y2 (er 2) (.ask y3 (.ask y7 (.ask y8 (.ask gQ (er 5) (.ask gP (.ask nT (er 5) (.ask nS (.ask yx (er 5) (.ask yw (.ask y9 (er 2) (.ask iV (.leaf [(I 1),(I 0),(J iH (J iG (J iF (J iE (J ow (J yv (J (W (I 0) (I 0) (I 38) (I 5) (I 6) (I 7) (I 0)) kO))))))),(I 1)]) (er 2))) (er 5))) (er 5))) (er 5))) (er 2)) (er 2)) (er 2))) (er 2)))
def Yx:ST:=(.ask y0 (er 2) (.ask y1 (.ask y2 (er 2) (.ask y3 (.ask y7 (.ask y8 (.ask gQ (er 5) (.ask gP (.ask nT (er 5) (.ask nS (.ask yx (er 5) (.ask yw (.ask y9 (er 2) (.ask iV (.leaf [(I 1),(I 0),(J iH (J iG (J iF (J iE (J ow (J yv (J (W (I 0) (I 0) (I 39) (I 5) (I 6) (I 7) (I 0)) kO))))))),(I 1)]) (er 2))) (er 5))) (er 5))) (er 5))) (er 2)) (er 2)) (er 2))) (er 2)))
def Yw:ST:=(.ask y0 (er 2) (.ask y1 (.ask y2 (er 2) (.ask y3 (.ask y7 (.ask y8 (.ask gQ (er 5) (.ask gP (.ask nT (er 5) (.ask nS (.ask yx (er 5) (.ask yw (.ask y9 (er 2) (.ask iV (.leaf [(I 1),(I 0),(J iH (J iG (J iF (J iE (J ow (J yv (J y33 (J (W (I 0) (I 0) (I 24) (I 5) (I 5) (I 0) (I 1)) kO)))))))),(I 1)]) (er 2))) (er 5))) (er 5))) (er 5))) (er 2)) (er 2)) (er 2))) (er 2)))
def Yv:ST:=(.ask y0 (er 2) (.ask y1 (.ask y2 (er 2) (.ask y3 (.ask y7 (.ask y8 (.ask gQ (er 5) (.ask gP (.ask nT (er 5) (.ask nS (.ask yx (er 5) (.ask yw (.ask y9 (er 2) (.ask iV (.leaf [(I 1),(I 0),(J iH (J iG (J iF (J iE (J ow (J yv (J y33 (J (W (I 0) (I 0) (I 39) (I 5) (I 0) (I 5) (I 0)) kO)))))))),(I 1)]) (er 2))) (er 5))) (er 5))) (er 5))) (er 2)) (er 2)) (er 2))) (er 2)))
def y34:Bx:=lt (D 4) (I 1)
def y35:Sx:=W (I 0) (I 0) (I 28) (I 5) (I 6) (I 0) (I 48)
def Yu:ST:=(.ask y0 (er 2) (.ask y1 (.ask y2 (er 2) (.ask y3 (.ask y6 (.ask y8 (.ask gQ (er 5) (.ask gP (.ask nT (er 5) (.ask nS (.ask y34 (er 5) (.ask (lt (D 4) (I 7)) (.ask y9 (er 2) (.ask iV (.ask (eq (D 4) (I 1)) (.leaf [(I 1),(I 0),(J iH (J iG (J iF (J iE (J ow (J (W (I 0) (I 0) (I 28) (I 5) (I 6) (I 0) (I 56)) (J (W (I 0) (I 0) (I 30) (I 5) (I 5) (I 0) (I 56)) kO))))))),(I 1)]) (.ask (eq (D 4) (I 2)) (.leaf [(I 1),(I 0),(J iH (J iG (J iF (J iE (J ow (J (W (I 0) (I 0) (I 27) (I 5) (I 6) (I 0) (I 255)) kO)))))),(I 1)]) (.ask (eq (D 4) (I 3)) (.leaf [(I 1),(I 0),(J iH (J iG (J iF (J iE (J ow (J y35 (J (W (I 0) (I 0) (I 30) (I 5) (I 5) (I 0) (I 48)) kO))))))),(I 1)]) (.ask (eq (D 4) (I 4)) (.leaf [(I 1),(I 0),(J iH (J iG (J iF (J iE (J ow (J y35 (J (W (I 0) (I 0) (I 29) (I 5) (I 5) (I 0) (I 48)) kO))))))),(I 1)]) (.ask (eq (D 4) (I 5)) (.leaf [(I 1),(I 0),(J iH (J iG (J iF (J iE (J ow (J (W (I 0) (I 0) (I 31) (I 5) (I 6) (I 0) (I 0)) kO)))))),(I 1)]) (.leaf [(I 1),(I 0),(J iH (J iG (J iF (J iE (J ow (J (W (I 0) (I 0) (I 28) (I 5) (I 6) (I 0) (I 32)) (J (W (I 0) (I 0) (I 29) (I 5) (I 5) (I 0) (I 32)) kO))))))),(I 1)])))))) (er 2))) (er 5))) (er 5))) (er 5))) (er 2)) (er 2)) (er 2))) (er 2)))
def Gl:Sx:=W (I 0) (I 0) (I 22) (I 5) (I 0) (I 0) (I 16)
def Gk:Sx:=W (I 0) (I 0) (I 9) (I 0) (I 6) (I 5) (I 12)
def y38:Sx:=W (I 0) (I 0) (I 22) (I 5) (I 19) (I 0) (I (-1))
def Gj:Sx:=W (I 0) (I 0) (I 10) (I 0) (I 5) (I 6) (I 12)
def y40:Sx:=.ap 4 (I 4) (D 8) (I 0)
def Gi:Sx:=W (I 0) (I 0) (I 1) (I 5) (I 0) (I 0) (.ap 6 y40 (I 0) (I 0))
def Gh:Sx:=W (I 0) (I 0) (I 4) (I 0) (I 5) (I 0) (.ap 7 y40 (I 0) (I 0))
def Hf:ST:=(.ask y0 (er 2) (.ask y1 (.ask y2 (er 2) (.ask y3 (.ask y6 (.ask y8 (.ask gQ (er 5) (.ask gP (.ask nT (er 5) (.ask nS (.ask y9 (er 2) (.ask iV (.leaf [(I 1),(I 0),(J iH (J iG (J iF (J iE (J ow (J Gl (J Gk (J y38 (J Gj (J Gi (J Gh (J (W (I 0) (I 0) (I 11) (I 5) (I 6) (I 0) (I 0)) kO)))))))))))),(I 1)]) (er 2))) (er 5))) (er 5))) (er 2)) (er 2)) (er 2))) (er 2)))
def He:ST:=(.ask y0 (er 2) (.ask y1 (.ask y2 (er 2) (.ask y3 (.ask y6 (.ask y8 (.ask gQ (er 5) (.ask gP (.ask nT (er 5) (.ask nS (.ask y9 (er 2) (.ask iV (.leaf [(I 1),(I 0),(J iH (J iG (J iF (J iE (J ow (J Gl (J Gk (J y38 (J Gj (J Gi (J Gh (J (W (I 0) (I 0) (I 15) (I 5) (I 6) (I 0) (I 0)) kO)))))))))))),(I 1)]) (er 2))) (er 5))) (er 5))) (er 2)) (er 2)) (er 2))) (er 2)))
def y43:Sx:=W (I 0) (I 0) (I 22) (I 5) (I 19) (I 0) (I (-2))
def Hd:ST:=(.ask y0 (er 2) (.ask y1 (.ask y2 (er 2) (.ask y3 (.ask y6 (.ask y8 (.ask gQ (er 5) (.ask gP (.ask nT (er 5) (.ask nS (.ask y9 (er 2) (.ask iV (.leaf [(I 1),(I 0),(J iH (J iG (J iF (J iE (J ow (J Gl (J Gk (J y43 (J Gj (J Gi (J Gh (J (W (I 0) (I 0) (I 12) (I 5) (I 6) (I 0) (I 0)) kO)))))))))))),(I 1)]) (er 2))) (er 5))) (er 5))) (er 2)) (er 2)) (er 2))) (er 2)))
def Hc:ST:=(.ask y0 (er 2) (.ask y1 (.ask y2 (er 2) (.ask y3 (.ask y6 (.ask y8 (.ask gQ (er 5) (.ask gP (.ask nT (er 5) (.ask nS (.ask y9 (er 2) (.ask iV (.leaf [(I 1),(I 0),(J iH (J iG (J iF (J iE (J ow (J Gl (J Gk (J y43 (J Gj (J Gi (J Gh (J (W (I 0) (I 0) (I 16) (I 5) (I 6) (I 0) (I 0)) kO)))))))))))),(I 1)]) (er 2))) (er 5))) (er 5))) (er 2)) (er 2)) (er 2))) (er 2)))
def y44:Sx:=W (I 0) (I 0) (I 22) (I 5) (I 19) (I 0) (I (-4))
def Hb:ST:=(.ask y0 (er 2) (.ask y1 (.ask y2 (er 2) (.ask y3 (.ask y6 (.ask y8 (.ask gQ (er 5) (.ask gP (.ask nT (er 5) (.ask nS (.ask y9 (er 2) (.ask iV (.leaf [(I 1),(I 0),(J iH (J iG (J iF (J iE (J ow (J Gl (J Gk (J y44 (J Gj (J Gi (J Gh (J (W (I 0) (I 0) (I 13) (I 5) (I 6) (I 0) (I 0)) kO)))))))))))),(I 1)]) (er 2))) (er 5))) (er 5))) (er 2)) (er 2)) (er 2))) (er 2)))
def Ha:ST:=(.ask y0 (er 2) (.ask y1 (.ask y2 (er 2) (.ask y3 (.ask y6 (.ask y8 (.ask gQ (er 5) (.ask gP (.ask nT (er 5) (.ask nS (.ask y9 (er 2) (.ask iV (.leaf [(I 1),(I 0),(J iH (J iG (J iF (J iE (J ow (J Gl (J Gk (J y44 (J Gj (J Gi (J Gh (J (W (I 0) (I 0) (I 17) (I 5) (I 6) (I 0) (I 0)) kO)))))))))))),(I 1)]) (er 2))) (er 5))) (er 5))) (er 2)) (er 2)) (er 2))) (er 2)))
def y45:Sx:=W (I 0) (I 0) (I 22) (I 5) (I 19) (I 0) (I (-8))
def G9:ST:=(.ask y0 (er 2) (.ask y1 (.ask y2 (er 2) (.ask y3 (.ask y6 (.ask y8 (.ask gQ (er 5) (.ask gP (.ask nT (er 5) (.ask nS (.ask y9 (er 2) (.ask iV (.leaf [(I 1),(I 0),(J iH (J iG (J iF (J iE (J ow (J Gl (J Gk (J y45 (J Gj (J Gi (J Gh (J (W (I 0) (I 0) (I 14) (I 5) (I 6) (I 0) (I 0)) kO)))))))))))),(I 1)]) (er 2))) (er 5))) (er 5))) (er 2)) (er 2)) (er 2))) (er 2)))
abbrev PG:ST:=.ask y1 (.ask y2 (er 2) (.ask y3 (.ask y6 (.ask y8 (.ask gQ (er 5) (.ask gP (.ask nT (er 5) (.ask nS (er 5) (er 5))) (er 5))) (er 2)) (er 2)) (er 2))) (er 2)
def y46:ST:=.ask y0 (er 2) PG
def G8:ST:=(.ask y34 y46 (.ask (lt (D 4) (I 8)) .none y46))
def Wt:Sx:=W (I 0) (I 0) (I 14) (I 6) (I 8) (I 0) y20
def y48:Sx:=W (I 0) (I 0) (I 14) (I 7) (I 8) (I 0) y24
def G7:ST:=(.ask y0 (er 2) (.ask y1 (.ask y2 (er 2) (.ask y3 (.ask y6 (.ask y8 (.ask gQ (er 5) (.ask gP (.ask nT (er 5) (.ask nS (.ask y9 (er 2) (.ask iV (.leaf [(I 1),(I 0),(J iH (J iG (J iF (J iE (J Wt (J y48 (J Gl (J Gk (J y38 (J Gj (J Gi (J Gh (J (W (I 0) (I 0) (I 18) (I 0) (I 6) (I 7) (I 0)) O))))))))))))),(I 1)]) (er 2))) (er 5))) (er 5))) (er 2)) (er 2)) (er 2))) (er 2)))
def G6:ST:=(.ask y0 (er 2) (.ask y1 (.ask y2 (er 2) (.ask y3 (.ask y6 (.ask y8 (.ask gQ (er 5) (.ask gP (.ask nT (er 5) (.ask nS (.ask y9 (er 2) (.ask iV (.leaf [(I 1),(I 0),(J iH (J iG (J iF (J iE (J Wt (J y48 (J Gl (J Gk (J y43 (J Gj (J Gi (J Gh (J (W (I 0) (I 0) (I 19) (I 0) (I 6) (I 7) (I 0)) O))))))))))))),(I 1)]) (er 2))) (er 5))) (er 5))) (er 2)) (er 2)) (er 2))) (er 2)))
abbrev wW:ST:=.ask y0 (er 2) PG
def G5:ST:=wW
def G4:ST:=(.ask y0 (er 2) (.ask y1 (.ask y2 (er 2) (.ask y3 (.ask y6 (.ask y8 (.ask gQ (er 5) (.ask gP (.ask nT (er 5) (.ask nS (.ask y9 (er 2) (.ask iV (.leaf [(I 1),(I 0),(J iH (J iG (J iF (J iE (J Wt (J y48 (J Gl (J Gk (J y44 (J Gj (J Gi (J Gh (J (W (I 0) (I 0) (I 20) (I 0) (I 6) (I 7) (I 0)) O))))))))))))),(I 1)]) (er 2))) (er 5))) (er 5))) (er 2)) (er 2)) (er 2))) (er 2)))
def G0:ST:=wW
def GZ:ST:=wW
def GY:ST:=wW
def GX:ST:=(.ask y0 (er 2) (.ask y1 (.ask y2 (er 2) (.ask y3 (.ask y6 (.ask y8 (.ask gQ (er 5) (.ask gP (.ask nT (er 5) (.ask nS (.ask y9 (er 2) (.ask iV (.leaf [(I 1),(I 0),(J iH (J iG (J iF (J iE (J Wt (J y48 (J Gl (J Gk (J y45 (J Gj (J Gi (J Gh (J (W (I 0) (I 0) (I 21) (I 0) (I 6) (I 7) (I 0)) O))))))))))))),(I 1)]) (er 2))) (er 5))) (er 5))) (er 2)) (er 2)) (er 2))) (er 2)))
def GW:ST:=(.ask y34 y46 (.ask (lt (D 4) (I 9)) .none y46))
def Ws:Bx:=lt (D 4) (I 0)
def y50:Sx:=.bin .add .i64 (.bin .mul .i64 (I 8) (D 6)) (D 4)
def y51:Sx:=.ap 3 (I 6) y50 WL
def y52:Sx:=W (I 0) (I 0) (I 35) (I 5) (I 8) (I 6) (I 0)
def y53:Sx:=J y51 (J y52 O)
def Yt:ST:=(.ask y0 (er 2) (.ask y1 (.ask y2 (er 2) (.ask y3 (.ask y5 (.ask y6 (.ask y8 (.ask gQ (er 5) (.ask gP (.ask Ws (er 5) (.ask (lt (D 7) (D 4)) (er 5) (.ask y9 (er 2) (.ask iV (.leaf [(I 1),(I 0),(J y53 kO),(I 1)]) (er 2))))) (er 5))) (er 2)) (er 2)) (er 2)) (er 2))) (er 2)))
def y54:Sx:=.bin .add .i64 (I 16) (D 4)
def y55:Sx:=.ap 3 (I 5) y54 WL
def Ys:ST:=(.ask y0 (er 2) (.ask y1 (.ask y2 (er 2) (.ask y3 (.ask y5 (.ask y6 (.ask y8 (.ask gQ (er 5) (.ask gP (.ask Ws (er 5) (.ask (lt (D 4) (I 8193)) (.ask y9 (er 2) (.ask iV (.leaf [(I 1),(I 0),(J y55 kO),(I 1)]) (er 2))) (er 5))) (er 5))) (er 2)) (er 2)) (er 2)) (er 2))) (er 2)))
def y56:Bx:=lt (D 4) (I 4096)
def y57:Sx:=.bin .add .i64 (D 4) (I 1)
def Yr:ST:=(.ask y0 (er 2) (.ask y1 (.ask y2 (er 2) (.ask y3 (.ask y4 (.ask y5 (.ask y6 (.ask y8 (.ask Ws (er 5) (.ask y56 (.ask y9 (er 2) (.ask iV (.leaf [(I 1),(I 0),(J iH (J iG (J iF (J iE (J (W (I 2) y57 (I 3) (I 0) (I 0) (I 0) (I 0)) O))))),(I 1)]) (er 2))) (er 5))) (er 2)) (er 2)) (er 2)) (er 2)) (er 2))) (er 2)))
def Yq:ST:=(.ask y0 (er 2) (.ask y1 (.ask y2 (er 2) (.ask y3 (.ask y5 (.ask y6 (.ask y8 (.ask gQ (er 5) (.ask gP (.ask Ws (er 5) (.ask y56 (.ask y9 (er 2) (.ask iV (.leaf [(I 1),(I 0),(J iH (J iG (J iF (J iE (J Wt (J (W (I 2) y57 (I 5) (I 0) (I 6) (I 0) (I 0)) O)))))),(I 1)]) (er 2))) (er 5))) (er 5))) (er 2)) (er 2)) (er 2)) (er 2))) (er 2)))
def Yp:ST:=(.ask y0 (er 2) (.ask y1 (.ask y2 (er 2) (.ask y3 (.ask y5 (.ask y6 (.ask y8 (.ask gQ (er 5) (.ask gP (.ask Ws (er 5) (.ask y56 (.ask y9 (er 2) (.ask iV (.leaf [(I 1),(I 0),(J iH (J iG (J iF (J iE (J Wt (J (W (I 2) y57 (I 6) (I 0) (I 6) (I 0) (I 0)) O)))))),(I 1)]) (er 2))) (er 5))) (er 5))) (er 2)) (er 2)) (er 2)) (er 2))) (er 2)))
def y58:Sx:=.ap 4 (I 2) (D 8) (I 0)
def Yo:ST:=(.ask y0 (er 2) (.ask y1 (.ask y2 (er 2) (.ask y3 (.ask y5 (.ask y6 (.ask y7 (.ask y8 (.ask gQ (er 5) (.ask gP (.ask y9 (er 2) (.ask iV (.leaf [(I 1),(I 0),(J iH (J iG (J iF (J iE (J (W (I 0) (I 0) (I 1) (I 5) (I 0) (I 0) (.ap 6 y58 (I 0) (I 0))) (J (W (I 0) (I 0) (I 4) (I 0) (I 5) (I 0) (.ap 7 y58 (I 0) (I 0))) O)))))),(I 1)]) (er 2))) (er 5))) (er 2)) (er 2)) (er 2)) (er 2)) (er 2))) (er 2)))
def y59:Sx:=.ap 4 (I 5) (D 8) (I 0)
def Yn:ST:=(.ask y0 (er 2) (.ask y1 (.ask y2 (er 2) (.ask y3 (.ask y5 (.ask y6 (.ask y7 (.ask y8 (.ask gQ (er 5) (.ask gP (.ask y9 (er 2) (.ask iV (.leaf [(I 1),(I 0),(J iH (J iG (J iF (J iE (J (W (I 0) (I 0) (I 1) (I 5) (I 0) (I 0) (.ap 6 y59 (I 0) (I 0))) (J (W (I 0) (I 0) (I 4) (I 0) (I 5) (I 0) (.ap 7 y59 (I 0) (I 0))) O)))))),(I 1)]) (er 2))) (er 5))) (er 2)) (er 2)) (er 2)) (er 2)) (er 2))) (er 2)))
def y60:Sx:=.ap 4 (I 6) (D 8) (I 0)
def Ym:ST:=(.ask y0 (er 2) (.ask y1 (.ask y2 (er 2) (.ask y3 (.ask y5 (.ask y6 (.ask y7 (.ask y8 (.ask gQ (er 5) (.ask gP (.ask y9 (er 2) (.ask iV (.leaf [(I 1),(I 0),(J iH (J iG (J iF (J iE (J (W (I 0) (I 0) (I 1) (I 5) (I 0) (I 0) (.ap 6 y60 (I 0) (I 0))) (J (W (I 0) (I 0) (I 4) (I 0) (I 5) (I 0) (.ap 7 y60 (I 0) (I 0))) O)))))),(I 1)]) (er 2))) (er 5))) (er 2)) (er 2)) (er 2)) (er 2)) (er 2))) (er 2)))
def y61:Sx:=.ap 4 (I 7) (D 8) (I 0)
def Yl:ST:=(.ask y0 (er 2) (.ask y1 (.ask y2 (er 2) (.ask y3 (.ask y5 (.ask y6 (.ask y7 (.ask y8 (.ask gQ (er 5) (.ask gP (.ask y9 (er 2) (.ask iV (.leaf [(I 1),(I 0),(J iH (J iG (J iF (J iE (J (W (I 0) (I 0) (I 1) (I 5) (I 0) (I 0) (.ap 6 y61 (I 0) (I 0))) (J (W (I 0) (I 0) (I 4) (I 0) (I 5) (I 0) (.ap 7 y61 (I 0) (I 0))) O)))))),(I 1)]) (er 2))) (er 5))) (er 2)) (er 2)) (er 2)) (er 2)) (er 2))) (er 2)))
def Yk:ST:=(.ask (lt (D 0) (I 0)) (er 16) (.ask (lt (D 0) (I 33)) .none (er 16)))
def y62:Sx:=.ap 4 (I 1) (D 8) (I 0)
def L6:ST:=.ask Ws (er 5) (.ask (lt (D 4) (I 64)) (.ask y9 (er 2) (.ask iV (.leaf [(I 1),(I 0),(J iH (J iG (J iF (J iE (J (W (I 0) (I 0) (I 1) (I 5) (I 0) (I 0) (.ap 6 y62 (I 0) (I 0))) (J (W (I 0) (I 0) (I 4) (I 0) (I 5) (I 0) (.ap 7 y62 (I 0) (I 0))) O)))))),(I 1)]) (er 2))) (er 5))
def GV:ST:=(.ask y0 (er 2) (.ask y1 (.ask y2 (er 2) (.ask y3 (.ask y5 (.ask y6 (.ask gQ (er 5) (.ask gP L6 (er 5))) (er 2)) (er 2)) (er 2))) (er 2)))
def y64:Sx:=.cell (D 5) (I 0) 0
def Pn:Bx:=lt y64 (I 0)
def Pm:Bx:=lt y64 (D 6)
def GU:ST:=(.ask y0 (er 2) (.ask y1 (.ask y2 (er 2) (.ask y3 (.ask y5 (.ask y6 (.ask gQ (er 5) (.ask gP (.ask Pn (er 5) (.ask Pm L6 (er 5))) (er 5))) (er 2)) (er 2)) (er 2))) (er 2)))
def y67:Sx:=.cell (D 5) (I 1) 0
def Q8:Bx:=lt y67 (I 0)
def Q7:Bx:=lt y67 (D 6)
def GS:ST:=(.ask y0 (er 2) (.ask y1 (.ask y2 (er 2) (.ask y3 (.ask y5 (.ask y6 (.ask gQ (er 5) (.ask gP (.ask Pn (er 5) (.ask Pm (.ask Q8 (er 5) (.ask Q7 L6 (er 5))) (er 5))) (er 5))) (er 2)) (er 2)) (er 2))) (er 2)))
def y70:Sx:=.cell (D 5) (I 2) 0
def Wr:Bx:=lt y70 (I 0)
def Wq:Bx:=lt y70 (D 6)
def GR:ST:=(.ask y0 (er 2) (.ask y1 (.ask y2 (er 2) (.ask y3 (.ask y5 (.ask y6 (.ask gQ (er 5) (.ask gP (.ask Pn (er 5) (.ask Pm (.ask Q8 (er 5) (.ask Q7 (.ask Wr (er 5) (.ask Wq L6 (er 5))) (er 5))) (er 5))) (er 5))) (er 2)) (er 2)) (er 2))) (er 2)))
def y73:Sx:=.cell (D 5) (I 3) 0
def WK:Bx:=lt y73 (I 0)
def WJ:Bx:=lt y73 (D 6)
def GQ:ST:=(.ask y0 (er 2) (.ask y1 (.ask y2 (er 2) (.ask y3 (.ask y5 (.ask y6 (.ask gQ (er 5) (.ask gP (.ask Pn (er 5) (.ask Pm (.ask Q8 (er 5) (.ask Q7 (.ask Wr (er 5) (.ask Wq (.ask WK (er 5) (.ask WJ L6 (er 5))) (er 5))) (er 5))) (er 5))) (er 5))) (er 2)) (er 2)) (er 2))) (er 2)))
def y76:Sx:=.cell (D 5) (I 4) 0
def y77:Bx:=lt y76 (I 0)
def y78:Bx:=lt y76 (D 6)
def GP:ST:=(.ask y0 (er 2) (.ask y1 (.ask y2 (er 2) (.ask y3 (.ask y5 (.ask y6 (.ask gQ (er 5) (.ask gP (.ask Pn (er 5) (.ask Pm (.ask Q8 (er 5) (.ask Q7 (.ask Wr (er 5) (.ask Wq (.ask WK (er 5) (.ask WJ (.ask y77 (er 5) (.ask y78 L6 (er 5))) (er 5))) (er 5))) (er 5))) (er 5))) (er 5))) (er 2)) (er 2)) (er 2))) (er 2)))
def y79:Sx:=.cell (D 5) (I 5) 0
def y80:Bx:=lt y79 (I 0)
def y81:Bx:=lt y79 (D 6)
def GO:ST:=(.ask y0 (er 2) (.ask y1 (.ask y2 (er 2) (.ask y3 (.ask y5 (.ask y6 (.ask gQ (er 5) (.ask gP (.ask Pn (er 5) (.ask Pm (.ask Q8 (er 5) (.ask Q7 (.ask Wr (er 5) (.ask Wq (.ask WK (er 5) (.ask WJ (.ask y77 (er 5) (.ask y78 (.ask y80 (er 5) (.ask y81 L6 (er 5))) (er 5))) (er 5))) (er 5))) (er 5))) (er 5))) (er 5))) (er 2)) (er 2)) (er 2))) (er 2)))
def y82:Sx:=.cell (D 5) (I 6) 0
def y83:Bx:=lt y82 (I 0)
def y84:Bx:=lt y82 (D 6)
def GN:ST:=(.ask y0 (er 2) (.ask y1 (.ask y2 (er 2) (.ask y3 (.ask y5 (.ask y6 (.ask gQ (er 5) (.ask gP (.ask Pn (er 5) (.ask Pm (.ask Q8 (er 5) (.ask Q7 (.ask Wr (er 5) (.ask Wq (.ask WK (er 5) (.ask WJ (.ask y77 (er 5) (.ask y78 (.ask y80 (er 5) (.ask y81 (.ask y83 (er 5) (.ask y84 L6 (er 5))) (er 5))) (er 5))) (er 5))) (er 5))) (er 5))) (er 5))) (er 5))) (er 2)) (er 2)) (er 2))) (er 2)))
def y85:Sx:=.cell (D 5) (I 7) 0
def GM:ST:=(.ask y0 (er 2) (.ask y1 (.ask y2 (er 2) (.ask y3 (.ask y5 (.ask y6 (.ask gQ (er 5) (.ask gP (.ask Pn (er 5) (.ask Pm (.ask Q8 (er 5) (.ask Q7 (.ask Wr (er 5) (.ask Wq (.ask WK (er 5) (.ask WJ (.ask y77 (er 5) (.ask y78 (.ask y80 (er 5) (.ask y81 (.ask y83 (er 5) (.ask y84 (.ask (lt y85 (I 0)) (er 5) (.ask (lt y85 (D 6)) L6 (er 5))) (er 5))) (er 5))) (er 5))) (er 5))) (er 5))) (er 5))) (er 5))) (er 5))) (er 2)) (er 2)) (er 2))) (er 2)))
def GL:ST:=(.ask y0 (er 2) (.ask y1 (.ask y2 (er 2) (.ask y3 (.ask y5 (.ask y6 (er 3) (er 2)) (er 2)) (er 2))) (er 2)))
def gK:Bx:=lt WM (I 0)
abbrev lu:Sx:=I 2147483648
def gJ:Bx:=lt WM lu
def q0:aD:=[(gK,false),(gJ,true)]
def y88:Bx:=lt (ae WL) (I 100000000)
def y89:Sx:=.ap 2 (I 5) (D 4) (I 0)
abbrev nH:Sx:=I 1000000001
def q1:aD:=[(gK,false),(gJ,true),(y88,true),((lt (ae y19) nH),true),((lt (ae y89) nH),true),((lt (ae (J y89 kO)) nH),true)]
def q2:aD:=[(gK,false),(gJ,true)]
def q3:aD:=[(gK,false),(gJ,true)]
def q4:aD:=[(gK,false),(gJ,true)]
def q5:aD:=[(gK,false),(gJ,true)]
def y90:Bx:=lt y30 (I 0)
def y91:Bx:=lt y30 lu
def q6:aD:=[(gK,false),(gJ,true),(y90,false),(y91,true)]
def q7:aD:=[(gK,false),(gJ,true),(y90,false),(y91,true)]
def q8:aD:=[(gK,false),(gJ,true),(y90,false),(y91,true)]
def q9:aD:=[(gK,false),(gJ,true),(y90,false),(y91,true)]
def q10:aD:=[(gK,false),(gJ,true)]
def q11:aD:=[(gK,false),(gJ,true)]
def q12:aD:=[(gK,false),(gJ,true)]
def q13:aD:=[(gK,false),(gJ,true)]
def q14:aD:=[(gK,false),(gJ,true)]
def q15:aD:=[(gK,false),(gJ,true)]
def q16:aD:=[(gK,false),(gJ,true)]
def q17:aD:=[(gK,false),(gJ,true)]
def q18:aD:=[(gK,false),(gJ,true)]
def q19:aD:=[(gK,false),(gJ,true)]
def q20:aD:=[(gK,false),(gJ,true)]
def Gg:Bx:=lt y40 (I 0)
def Gf:Bx:=lt y40 lu
def q21_1:aD:=[(gK,false),(gJ,true),(Gg,false),(Gf,true)]
def q21_2:aD:=[(gK,false),(gJ,true),(Gg,false),(Gf,true)]
def q21_3:aD:=[(gK,false),(gJ,true),(Gg,false),(Gf,true)]
def q21_4:aD:=[(gK,false),(gJ,true),(Gg,false),(Gf,true)]
def q21_5:aD:=[(gK,false),(gJ,true),(Gg,false),(Gf,true)]
def q21_6:aD:=[(gK,false),(gJ,true),(Gg,false),(Gf,true)]
def q21_7:aD:=[(gK,false),(gJ,true),(Gg,false),(Gf,true)]
def YJ:aD:=[]
def q22_1:aD:=[(gK,false),(gJ,true),(Gg,false),(Gf,true)]
def q22_2:aD:=[(gK,false),(gJ,true),(Gg,false),(Gf,true)]
def q22_3:aD:=[]
def q22_4:aD:=[(gK,false),(gJ,true),(Gg,false),(Gf,true)]
def q22_5:aD:=[]
def q22_6:aD:=[]
def q22_7:aD:=[]
def q22_8:aD:=[(gK,false),(gJ,true),(Gg,false),(Gf,true)]
def y94:Sx:=.ap 2 (I 6) y50 (I 0)
def q23:aD:=[(gK,false),(gJ,true),(y88,true),((lt (ae y51) nH),true),((lt (ae y53) nH),true),((lt (ae y94) nH),true),((lt (ae (J y94 (J y52 kO))) nH),true)]
def y95:Sx:=.ap 2 (I 5) y54 (I 0)
def q24:aD:=[(gK,false),(gJ,true),(y88,true),((lt (ae y55) nH),true),((lt (ae y95) nH),true),((lt (ae (J y95 kO)) nH),true)]
def q25:aD:=[(gK,false),(gJ,true)]
def q26:aD:=[(gK,false),(gJ,true)]
def q27:aD:=[(gK,false),(gJ,true)]
def q29:aD:=[(gK,false),(gJ,true),((lt y58 (I 0)),false),((lt y58 lu),true)]
def q30:aD:=[(gK,false),(gJ,true),((lt y59 (I 0)),false),((lt y59 lu),true)]
def q31:aD:=[(gK,false),(gJ,true),((lt y60 (I 0)),false),((lt y60 lu),true)]
def q32:aD:=[(gK,false),(gJ,true),((lt y61 (I 0)),false),((lt y61 lu),true)]
def q33:aD:=[]
def L5:Bx:=lt y62 (I 0)
def L4:Bx:=lt y62 lu
def q28_0:aD:=[(gK,false),(gJ,true),(L5,false),(L4,true)]
def q28_1:aD:=[(gK,false),(gJ,true),(L5,false),(L4,true)]
def q28_2:aD:=[(gK,false),(gJ,true),(L5,false),(L4,true)]
def q28_3:aD:=[(gK,false),(gJ,true),(L5,false),(L4,true)]
def q28_4:aD:=[(gK,false),(gJ,true),(L5,false),(L4,true)]
def q28_5:aD:=[(gK,false),(gJ,true),(L5,false),(L4,true)]
def q28_6:aD:=[(gK,false),(gJ,true),(L5,false),(L4,true)]
def q28_7:aD:=[(gK,false),(gJ,true),(L5,false),(L4,true)]
def q28_8:aD:=[(gK,false),(gJ,true),(L5,false),(L4,true)]
def rj(e:Sx):List (Int×ST)→ST→ST
 |[],o=>o
 |(n,s)::l,o=>.ask (eq e (I n)) s (rj e l o)
def L21:List (Int×ST):=[(1,Hf),(2,He),(3,Hd),(4,Hc),(5,Hb),(6,Ha),(7,G9)]
def L22:List (Int×ST):=[(1,G7),(2,G6),(3,G5),(4,G4),(5,G0),(6,GZ),(7,GY),(8,GX)]
def L28:List (Int×ST):=[(0,GV),(1,GU),(2,GS),(3,GR),(4,GQ),(5,GP),(6,GO),(7,GN),(8,GM)]
def sp21:ST:=rj (D 4) L21 G8
def sp22:ST:=rj (D 4) L22 GW
def sp28:ST:=rj (ae (D 5)) L28 GL
def LOp:List (Int×ST):=[(0,sp0),(1,sp1),(2,sp2),(3,sp3),(4,sp4),(5,sp5),(6,sp6),(7,sp7),(8,sp8),(9,sp9),(10,YE),(11,YD),(12,YC),(13,YB),(14,YA),(15,Yz),(16,Yy),(17,Yx),(18,Yw),(19,Yv),(20,Yu),(21,sp21),(22,sp22),(23,Yt),(24,Ys),
 (25,Yr),(26,Yq),(27,Yp),(28,sp28),(29,Yo),(30,Yn),(31,Ym),(32,Yl)]
def spT:ST:=rj (D 0) LOp Yk
def Ub:List (Int×ST)→Int→Option ST
 |[],_=>none
 |(n,s)::l,k=>bif iB n k then some s else Ub l k
theorem az{v:Val}{e:Sx}{o s:ST}{k:Int}(hk:@Sx.eval v e=k)(i:Nat):∀{l:List (Int×ST)},Ub l k=some s→(rj e l o).val v i=s.val v i
 |[],h=>by cases h
 |(n,s')::l,h=>by simp only[Ub,au]at h;have he:@Bx.eval v (eq e (I n))=decide (k=n):=(by show(@Sx.eval v e==n)=_;rw[hk];rfl);split at h;{rename_i hb;have:=im hb;subst this;cases h;simp [rj,ST.val,he]};rename_i hb;have hne:k≠n:=fun h'=>hb (by subst h';cases k<;>simp [iB]);simp only[rj,ST.val,he,hne,decide_false,cond_false];exact az hk i h
theorem eT{v:Val}{e:Sx}{o:ST}(i:Nat):∀{l:List (Int×ST)},(∀q∈l,@Sx.eval v e≠q.1)→(rj e l o).val v i=o.val v i
 |[],_=>rfl
 |(n,s')::l,h=>by have he:@Bx.eval v (eq e (I n))=false:=(by show(@Sx.eval v e==n)=_;simpa using h (n,s') (by simp));simp only[rj,ST.val,he,cond_false];exact eT i fun q hq=>h q (by simp [hq])
theorem RD:spT.okB 9 8=true:=by kernel_rfl
theorem MQ:spT.intAt 1=true:=by kernel_rfl
end
end Go.Proofs.YtlagbijmfchkeaaGreat.Em
namespace Go.Proofs.YtlagbijmfchkeaaGreat.Em
open Go.Tw
noncomputable section
def QN(d:Dat)(k:Nat):Int:=(d.cell k 0).toI
def Pt(a c:Dat):Bool:=decide (a.toL.length=c.toL.length)&&(List.range a.toL.length).all fun k=>QN a k==QN c k
end
theorem al{v v':Val}:EqsOk v v' []:=fun _ h=>by cases h
theorem aa{v v':Val}{a c:Sx}{l:bq}(h:@Sx.dat v a=@Sx.dat v' c)(t:EqsOk v v' l):EqsOk v v' ((a,c)::l):=List.forall_mem_cons.2 ⟨h,t⟩
theorem aC{v:Val}:@Holds v []:=fun _ h=>by cases h
theorem af{v:Val}{c:Bx}{x:Bool}{l:aD}(h:@Bx.eval v c=x)(t:@Holds v l):@Holds v ((c,x)::l):=List.forall_mem_cons.2 ⟨h,t⟩
theorem jN{v:Val}{p l:aD}(h:@Holds v p)(t:@Holds v l):@Holds v (p++l):=fun c hc=>(List.mem_append.1 hc).elim (h c) (t c)
theorem rY(x:Int):x.tdiv 4096=if 0≤x then x / 4096 else -((-x) / 4096):=by split;{rename_i h;exact Int.tdiv_eq_ediv_of_nonneg h};rename_i h;have:=Int.neg_tdiv (a:= -x) (b:=4096);rw[Int.neg_neg]at this;rw[this,Int.tdiv_eq_ediv_of_nonneg (by omega)]
theorem yz(x:Int):x.tmod 4096=if 0≤x then x%4096 else -((-x)%4096):=by split;{rename_i h;exact Int.tmod_eq_emod_of_nonneg h};rename_i h;have:=Int.neg_tmod (-x) 4096;rw[Int.neg_neg]at this;rw[this,Int.tmod_eq_emod_of_nonneg (by omega)]
def bT(e:Int):Int:=if e%4096<2048 then e%4096 else e%4096 - 4096
def bW(e:Int):Int:=aU .i64 ((aU .i64 (e - bT e)).tdiv 4096)
theorem N2(e:Int)(h:¬(-2147483648≤e∧e<2147483648)):(bW e).natAbs<e.natAbs:=by unfold bW bT;rw[wrap_i64,rY,wrap_i64];split<;>split<;>split<;>split<;>omega
theorem kn(e:Int)(B:Int)(hB:2147483648≤B)(h: -B≤e∧e<B)(hs:B≤9223372036854775808): -(B / 4096+1)≤bW e∧bW e≤B / 4096+1:=by unfold bW bT;rw[wrap_i64,rY,wrap_i64];split<;>split<;>split<;>split<;>omega
theorem zJ(e:Int): -2251799813685248≤bW e∧bW e≤2251799813685248:=by unfold bW bT;rw[wrap_i64,rY,wrap_i64];split<;>split<;>split<;>split<;>omega
def ac0(l:List Int):List Dat:=l.map Dat.int
def jU(o a b c d:Int):List Dat:=ac0 [0,0,o,a,b,c,d]
def layI(r e:Int):List (List Dat):=
 if -2048≤e∧e<2048 then[jU 22 r 0 0 e]else
 if _h: -2147483648≤e∧e<2147483648 then jU 1 r 0 0 (if bW e=524288 then -524288 else bW e)::(if bT e=0 then[]else[jU 31 r r 0 (bT e)])
 else layI r (bW e)++(jU 28 r r 0 12::(if bT e=0 then[]else[jU 22 r r 0 (bT e)]))
termination_by e.natAbs
decreasing_by exact N2 e _h
theorem kg{r e:Int}(h: -2048≤e∧e<2048):layI r e=[jU 22 r 0 0 e]:=by rw[layI,if_pos h]
theorem pg{r e:Int}(h:¬(-2048≤e∧e<2048))(h2: -2147483648≤e∧e<2147483648):layI r e=jU 1 r 0 0 (if bW e=524288 then -524288 else bW e)::(if bT e=0 then[]else[jU 31 r r 0 (bT e)]):=by rw[layI,if_neg h,dif_pos h2]
theorem jG{r e:Int}(h2:¬(-2147483648≤e∧e<2147483648)):layI r e=layI r (bW e)++(jU 28 r r 0 12::(if bT e=0 then[]else[jU 22 r r 0 (bT e)])):=by rw[layI,if_neg (by omega),dif_neg h2]
theorem vP(r e:Int)(h2: -2147483648≤e∧e<2147483648):(layI r e).length≤2:=by by_cases h: -2048≤e∧e<2048;{rw[kg h];simp};rw[pg h h2,List.length_cons];split<;>simp
theorem qw{r e:Int}{n:Nat}(hn:2≤n)(h:(layI r (bW e)).length≤n):(layI r e).length≤n+2:=by by_cases h2: -2147483648≤e∧e<2147483648;{have:=vP r e h2;omega};rw[jG h2,cZ,List.length_cons];split<;>simp<;>omega
theorem Ff(r e:Int)(h: -4398046511104≤e∧e<4398046511104):(layI r e).length≤4:=
 qw (by omega) (vP r _ (by have:=kn e 4398046511104 (by omega) h (by omega);omega))
theorem Fe(r e:Int)(h: -4503599627370496≤e∧e<4503599627370496):(layI r e).length≤6:=
 qw (by omega) (Ff r _ (by have:=kn e 4503599627370496 (by omega) h (by omega);omega))
theorem mg(r e:Int):(layI r e).length≤8:=
 qw (by omega) (Fe r _ (by have:=zJ e;omega))
def mG(k b:Int):Int:=if 0≤k∧k<8∧0≤b∧b<4096 then 1073741824+16*(8*b+k)else 0
def pP(k b:Int):Int:=if 0≤k∧k<8∧0≤b∧b<4096 then 0 else 2
def nF(a:Int):Prop:=1073741824≤a∧a%16=0∧(a - 1073741824) / 16<32768
instance(a:Int):Decidable (nF a):=inferInstanceAs (Decidable (_∧_∧_))
def rU(a:Int):Int:=if nF a then(a - bT a) / 4096 else 0
def rT(a:Int):Int:=if nF a then bT a else 0
noncomputable section
def Fb:Nat→Dat→Dat→Dat→Dat
 |1,a,c,_=>.int (dO (Pt a c))
 |2,r,e,_=>.lst (layI r.toI e.toI)
 |3,r,e,x=>.lst (x.toL++layI r.toI e.toI)
 |4,k,b,_=>.int (mG k.toI b.toI)
 |5,k,b,_=>.int (pP k.toI b.toI)
 |6,a,_,_=>.int (rU a.toI)
 |7,a,_,_=>.int (rT a.toI)
 |_,_,_,_=>.int 0
abbrev VB(row:List Dat):Val:=Val.mk (fun _=>0) (fun i=>match row[i]? with
 |some d=>d
 |none=>.int 0) Fb
def uR(a:Dat)(i:Nat):Dat:=spT.val (VB a.one) i
def QM(d:Dat)(k j:Nat):Int:=(d.cell k j).toI
def YF(a c:Dat):Bool:=decide (a.toL.length=c.toL.length)&&(List.range a.toL.length).all fun k=>(List.range 7).all fun j=>QM a k j==QM c k j
def F0:Nat→Dat→Dat→Dat→Dat
 |1,a,c,_=>.int (dO (Pt a c))
 |2,r,e,_=>.lst (layI r.toI e.toI)
 |3,r,e,x=>.lst (x.toL++layI r.toI e.toI)
 |4,k,b,_=>.int (mG k.toI b.toI)
 |5,k,b,_=>.int (pP k.toI b.toI)
 |6,a,_,_=>.int (rU a.toI)
 |7,a,_,_=>.int (rT a.toI)
 |8,a,_,_=>uR a 1
 |9,a,_,_=>uR a 2
 |10,a,_,_=>uR a 0
 |11,a,c,_=>.int (dO (YF a c))
 |_,_,_,_=>.int 0
theorem LD{f:Nat}(h:f<8):F0 f=Fb f:=by
 match f,h with
 |0,_=>rfl
 |1,_=>rfl
 |2,_=>rfl
 |3,_=>rfl
 |4,_=>rfl
 |5,_=>rfl
 |6,_=>rfl
 |7,_=>rfl
abbrev VA(l:List Dat):Val:=Val.mk (fun _=>0) (fun i=>match l[i]? with
 |some d=>d
 |none=>.int 0) F0
end
end Go.Proofs.YtlagbijmfchkeaaGreat.Em
namespace Go.Tw
def nmT:List (List UInt8):=[[],[108,117,105],[97,117,105,112,99],[106,97,108],[106,97,108,114],[98,101,113],[98,110,101],[98,108,116],[98,103,101],[98,108,116,117],[98,103,101,117],[108,98],[108,104],[108,119],[108,100],[108,98,117],[108,104,117],[108,119,117],[115,98],[115,104],[115,119],[115,100],[97,100,100,105],[115,108,116,105],[115,108,116,105,117],[120,111,114,105],[111,114,105],[97,110,100,105],[115,108,108,105],[115,114,108,105],[115,114,97,105],[97,100,100,105,119],[115,108,108,105,119],[115,114,108,105,119],[115,114,97,105,119],[97,100,100],[115,117,98],[115,108,108],[115,108,116],[115,108,116,117],[120,111,114],[115,114,108],[115,114,97],[111,114],[97,110,100],[97,100,100,119],[115,117,98,119],[115,108,108,119],[115,114,108,119],[115,114,97,119],[109,117,108],[109,117,108,104],[109,117,108,104,115,117],[109,117,108,104,117],[100,105,118],[100,105,118,117],[114,101,109],[114,101,109,117],[109,117,108,119],[100,105,118,119],[100,105,118,117,119],[114,101,109,119],[114,101,109,117,119],[101,99,97,108,108]]
def abT:List (Nat×Nat×Nat):=[(0,0,0),(55,0,0),(23,0,0),(111,0,0),(103,0,0),(99,0,0),(99,1,0),(99,4,0),(99,5,0),(99,6,0),(99,7,0),(3,0,0),(3,1,0),(3,2,0),(3,3,0),(3,4,0),(3,5,0),(3,6,0),(35,0,0),(35,1,0),(35,2,0),(35,3,0),(19,0,0),(19,2,0),(19,3,0),(19,4,0),(19,6,0),(19,7,0),(19,1,0),(19,5,0),(19,5,16),(27,0,0),(27,1,0),(27,5,0),(27,5,32),(51,0,0),(51,0,32),(51,1,0),(51,2,0),(51,3,0),(51,4,0),(51,5,0),(51,5,32),(51,6,0),(51,7,0),(59,0,0),(59,0,32),(59,1,0),(59,5,0),(59,5,32),(51,0,1),(51,1,1),(51,2,1),(51,3,1),(51,4,1),(51,5,1),(51,6,1),(51,7,1),(59,0,1),(59,4,1),(59,5,1),(59,6,1),(59,7,1),(115,0,0)]
def nmD(n:Int):List UInt8:=if 1≤n∧n<64 then nmT.getD n.toNat []else[]
def WE(n:Int):Nat×Nat×Nat:=if 1≤n∧n<64 then abT.getD n.toNat (0,0,0)else(0,0,0)
def Fb:Nat→Dat→Dat→Dat→Dat
 |40,d,f,_=>AE d f
 |41,d,f,_=>L2 d f
 |43,d,f,_=>fg d (AE d f) (L2 d f) f d.toL.length
 |44,d,f,_=>.int (dO (AH d (AE d f) (L2 d f) f d.toL.length))
 |45,d,_,_=>tJ d
 |46,d,_,_=>AE d (tJ d)
 |47,d,_,_=>L2 d (tJ d)
 |42,o,_,_=>.str (qY o.toI)
 |48,o,_,_=>.str (nmD o.toI)
 |49,o,_,_=>.int ((WE o.toI).1:Int)
 |50,o,_,_=>.int ((WE o.toI).2.1:Int)
 |51,o,_,_=>.int ((WE o.toI).2.2:Int)
 |n,a,b,c=>Go.Proofs.YtlagbijmfchkeaaGreat.Em.F0 n a b c
theorem Fo{o a b:Dat}(h:o.toI<1∨¬o.toI<64):Fb 42 o a b=.str []:=by show Dat.str (qY o.toI)=_;unfold qY;rw[if_neg (by omega)]
theorem KB{o a b:Dat}{i:Nat}(hi:i<63)(h:o.toI=(i:Int)+1):Fb 42 o a b=.str [vW (i+1)]:=by show Dat.str (qY o.toI)=_;unfold qY;rw[if_pos (by omega),h];rfl
end Go.Tw
namespace Go.Tw
def DT.deadsIn(q:Nat→Prop):DT→Prop
 | .leaf=>True
 | .ask _ t e=>t.deadsIn q∧e.deadsIn q
 | .dead i=>q i
theorem FA{v:Val}{cores:List aD}{i:Nat}{p:aD}(h:qz cores i p=true)(hp:@Holds v p):∃c,cores[i]? =some c∧@Holds v c:=by unfold qz at h;split at h;{rename_i c hc;refine⟨c,hc,fun q hq=> ?_⟩;have:=List.all_eq_true.1 h q hq;split at this;{rename_i x hx;rw[@gU v _ hp _ _ hx];exact iv this};cases this};cases h
theorem DT.ok2{P:Program}{gl:Nat→Option Nat}{b:bF}{R nr nb nt:Nat}{v v2:Val}(hb:BaseOk gl b R)(hrb:nr≤bQ nb){F:Nat→Dat→Dat→Dat→Dat}(hF:v.fn=F){cons:List Con}(hc:∀c∈cons,c.Sound F P gl b R)
 (hm:P.follows .mixedOrders=true){n:Nat}{c:Code}{l:List (Nat×AV)}{o:List (Nat×Ob)}{nx:Nat}{e:AExit}{l':List (Nat×AV)}{o':List (Nat×Ob)}{nx':Nat}
 {cmp:Sx→Sx→Bool}(hcmp:∀a b,cmp a b=true→@Sx.dat v a=@Sx.dat v b){sp:ST}{tg:List Sx}{cores:List aD}(hsp:∀(i:Nat) (t:Sx),tg[i]? =some t→@Sx.dat v2 t=sp.val v i):
 ∀{t:DT} {p:aD},t.deadsIn (fun i=>∀c,cores[i]? =some c→¬@Holds v c)→t.chk cmp (fun p=>jk R nr nb (exec P (bL gl b p (dZ R (dj p) cons)) n nt c {tm:=ax l,ds:=[],md:=none,rd:=false} (ag b o nx)) e l' o' nx') sp tg cores p=true→@Holds v p→
  HT P gl b R nr nb nt v c (ax l) (ag b o nx) e v2 (ax l') (ag b o' nx')
 | .leaf,p,_,h,hp=>by simp only[DT.chk]at h;split at h;{rename_i pl E h1 h2;exact HT.leaf hb hrb hp (cO cons) (fF hb hp hF hc) hm h2 (xZ hcmp h fun i t ht=>(hsp i t ht).trans (ST.at_val (fun b x hx=>@gU v _ hp _ _ hx) h1 i))};cases h
 | .ask q t f,p,hd,h,hp=>by
  simp only[DT.chk,ak]at h;cases hq:@Bx.eval v q with
  |true=>exact DT.ok2 hb hrb hF hc hm hcmp hsp hd.1 h.1 (@Holds.cons v _ _ _ hq hp)
  |false=>exact DT.ok2 hb hrb hF hc hm hcmp hsp hd.2 h.2 (@Holds.cons v _ _ _ hq hp)
 | .dead i,p,hd,h,hp=>by obtain⟨c,h1,h2⟩:=FA h hp;exact absurd h2 (hd c h1)
def ST.eqAt(i j:Nat):ST→Bool
 | .leaf l=>match l[i]?,l[j]? with
  |some a,some b=>a.same b
  |_,_=>false
 | .ask _ t e=>t.eqAt i j&&e.eqAt i j
 | .none=>true
theorem ST.eqAt_ok{v:Val}{i j:Nat}:∀{t:ST},t.eqAt i j=true→t.val v i=t.val v j
 | .leaf l,h=>by
  simp only[ST.eqAt]at h;simp only[ST.val];cases hi:l[i]? with
  |none=>rw[hi]at h;simp at h
  |some a=>cases hj:l[j]? with
   |none=>rw[hi,hj]at h;simp at h
   |some b=>rw[hi,hj]at h;rw[Sx.same_eq h]
 | .ask b t e,h=>by simp only[ST.eqAt,ak]at h;simp only[ST.val,ST.eqAt_ok h.1,ST.eqAt_ok h.2]
 | .none,_=>rfl
end Go.Tw
set_option linter.unusedVariables false
namespace Go.Tw
noncomputable section
abbrev Fn:Type:=Nat→Dat→Dat→Dat→Dat
abbrev VL(F:Fn)(l:List Dat):Val:=Val.mk (fun _=>0) (fun i=>match l[i]? with
 |some d=>d
 |none=>.int 0) F
def ST.nxt(sp:ST)(F:Fn)(m:Nat)(s:List Dat):List Dat:=(List.range m).map fun i=>sp.val (VL F s) (i+1)
def ST.flg(sp:ST)(F:Fn)(s:List Dat):Int:=(sp.val (VL F s) 0).toI
def ST.it(sp:ST)(F:Fn)(m:Nat):Nat→List Dat→List Dat
 |0,s=>s
 |k+1,s=>sp.nxt F m (sp.it F m k s)
def gF:Sx→Sx
 | .pr f x y=>bif Nat.beq f 30 then gF x else .pr f x y
 |x=>x
theorem hS(v:Val):∀e:Sx,(@Sx.dat v (gF e)).toI=(@Sx.dat v e).toI
 | .pr f x y=>by simp only[gF,au];split;{rename_i h;have:=ad h;subst this;exact(hS v x).trans rfl};rfl
 | .lit _=>rfl
 | .var _=>rfl
 | .bin .. =>rfl
 | .wrap .. =>rfl
 | .dvar _=>rfl
 | .slit _=>rfl
 | .ap .. =>rfl
 | .cell .. =>rfl
 | .setc .. =>rfl
 | .dlit _=>rfl
def Vi(a t:Sx):Bool:=bif a.same t then true else match t with
 | .pr f x y=>(Nat.beq f 30&&(intS? a&&(gF a).same (gF x)))||(Nat.beq f 21&&(boolS? x&&(a.same x&&y.same (.lit 0))))
 |_=>false
theorem FV{v:Val}{x:Sx}(h:boolS? x=true):@Sx.dat v x=.int (dO ((@Sx.dat v x).toI != 0)):=by
 have key:∀b:Bool,Dat.int (dO b)=Dat.int (dO ((dO b) != 0)):=fun b=>by cases b<;>rfl
 cases x with
 |lit n=>
  cases n with
  |ofNat n=>have:=aA h;rcases Nat.le_one_iff_eq_zero_or_eq_one.1 this with rfl|rfl<;>rfl
  |negSucc n=>cases h
 |pr f a b=>
  simp only[boolS?,ak]at h;have h1:=aA h.1;have h2:=aA h.2
  match f,h1,h2 with
  |20,_,_=>exact key _
  |21,_,_=>exact key _
  |22,_,_=>exact key _
  |23,_,_=>exact key _
  |24,_,_=>exact key _
  |25,_,_=>exact key _
  |26,_,_=>exact key _
  |27,_,_=>exact key _
  |28,_,_=>exact key _
  |29,_,_=>exact key _
  |f+30,_,h2=>omega
 |_=>cases h
theorem OG{v:Val}{a t:Sx}(h:Vi a t=true):@Sx.dat v a=@Sx.dat v t:=by
 unfold Vi at h;rw[au]at h;split at h;{rename_i hs;rw[Sx.same_eq hs]};cases t with
 |pr f x y=>simp only[dw,ak]at h;rcases h with⟨h1,h2,h3⟩|⟨h1,h2,h3,h4⟩;{have:=ad h1;subst this;rw[zI h2];show _=Dat.int (@Sx.dat v x).toI;rw[←hS v a,←hS v x,Sx.same_eq h3]};have:=ad h1;subst this;have:=Sx.same_eq h3;subst this;have:=Sx.same_eq h4;subst this;exact FV h2
 |_=>cases h
def cu:List Sx→Nat→Sx
 |[],_=>.lit 0
 |x::l,i=>bif Nat.beq i 0 then x else cu l (Nat.pred i)
theorem bV:∀(l:List Sx) (i:Nat),cu l i=(l[i]?).getD (.lit 0)
 |[],_=>rfl
 |x::l,0=>rfl
 |x::l,i+1=>by show cu l i=_;rw[bV l i];rfl
def BM(xs:List Sx)(E:bq):Bool:=E.all fun q=>Vi q.1 (q.2.sub (cu xs))
theorem qv{F:Fn}{s:List Dat}{xs:List Sx}{E:bq}(h:BM xs E=true):EqsOk (VL F s) (VL F (xs.map (@Sx.dat (VL F s)))) E:=fun q hq=>by
 have h1:=OG (v:=VL F s) (List.all_eq_true.1 h q hq);rw[h1,Sx.sub_dat];have e:(VL F s).at (cu xs)=VL F (xs.map (@Sx.dat (VL F s))):=by
  have e2:(fun i=>@Sx.dat (VL F s) (cu xs i))=fun i=>match(xs.map (@Sx.dat (VL F s)))[i]? with
   |some d=>d
   |none=>.int 0:=by
   funext i;rw[bV,List.getElem?_map];cases xs[i]? <;>rfl
  show Val.mk (fun _=>0) (fun i=>@Sx.dat (VL F s) (cu xs i)) F=_;rw[e2]
 rw[e]
def Z1:List RE→Nat→Bool
 |[],_=>false
 |r::l,i=>Nat.beq r.idn i||Z1 l i
def Pe(R:Nat)(r:List RE)(e:RE):List RE:=bif Nat.blt e.idn R||Z1 r e.idn then r else r++[e]
def QS(R t:Nat)(r:List RE)(x y:AV):List RE:=match x,y with
 | .ptr i _ _ _,.ptr a _ _ _=>Pe R r {idn:=i,ido:=a,ver:=0}
 | .opq k i _ _ _ _,.opq k2 a v _ _ _=>bif Nat.beq k k2 then Pe R r {idn:=i,ido:=a,ver:=bif Nat.beq k 2 then v else 0}else r
 | .opq k i _ _ _ _,.slc a v _ len _ esz=>bif Nat.beq k 2&&Nat.blt 0 len then Pe R r {idn:=i,ido:=a,ver:=v,n:=len*esz,t:=t}else r
 | .opq k i _ _ _ _,.map a=>bif Nat.beq k 4 then Pe R r {idn:=i,ido:=a,ver:=0}else r
 |_,_=>r
def wx(R t:Nat):List RE→List AV→List AV→List RE
 |r,x::l,y::m=>wx R t (QS R t r x y) l m
 |r,_,_=>r
def QR(R:Nat)(tm:T AV):List RE→List (Nat×AV)→List RE
 |r,[]=>r
 |r,(t,x)::l=>QR R tm (match tm.get t with
  |some y=>(match x,y with
   | .agg a,.agg b=>wx R t r a b
   | .tup a,.tup b=>wx R t r a b
   | .fn _ a b,.fn _ c d=>wx R t (wx R t r a c) b d
   |x,y=>QS R t r x y)
  |none=>r) l
def Lf(R:Nat)(h:T Ob):List RE→List (Nat×Ob)→List RE
 |r,[]=>r
 |r,(i,o)::l=>Lf R h (match o,kR r i with
  | .box c _,some e=>(match h.get e.ido with
   |some (.box c2 _)=>wx R 0 r c c2
   |_=>r)
  |_,_=>r) l
def YH(R:Nat)(tm:T AV)(h:T Ob)(l':List (Nat×AV))(o':List (Nat×Ob))(pins:List RE):List RE:=Lf R h (Lf R h (QR R tm pins l') o') o'
def eQ(R nr nb:Nat)(pins:List RE)(x:XR)(e:AExit)(tm':List (Nat×AV))(objs':List (Nat×Ob))(nx':Nat):Option bq:=match x with
 | .ok e' env σ=>bif rW R nr e e' env σ then cM R nb (YH R env.tm σ.heap tm' objs' pins) env.tm σ.bare tm' objs' nx' else none
 |_=>none
def rJ(cores:List aD)(p:aD):Bool:=cores.any fun c=>c.all fun q=>match dj p q.1 with
 |some x=>nQ x q.2
 |none=>false
theorem fT{v:Val}{cores:List aD}{p:aD}(h:rJ cores p=true)(hp:@Holds v p):∃c∈cores,@Holds v c:=by obtain⟨c,hc,h⟩:=List.any_eq_true.1 h;refine⟨c,hc,fun q hq=> ?_⟩;have:=List.all_eq_true.1 h q hq;split at this;{rename_i x hx;rw[@gU v _ hp _ _ hx];exact iv this};cases this
def ST.chkW(fin:aD→Option bq)(w:Nat)(m:Nat)(cores:List aD):ST→aD→Bool
 | .leaf l,p=>match l with
  | .lit n::xs=>bif iB n (Int.ofNat w)then Nat.beq xs.length m&&(match fin p with
   |some E=>BM xs E
   |Option.none=>false)else true
  |_=>false
 | .ask b t e,p=>ST.chkW fin w m cores t ((b,true)::p)&&ST.chkW fin w m cores e ((b,false)::p)
 | .none,p=>rJ cores p
section
variable{P:Program}{gl:Nat→Option Nat}{b:bF}{R nr nb nt:Nat}
theorem HT.leafX{v v2:Val}(hb:BaseOk gl b R)(hrb:nr≤bQ nb){p:aD}(hp:@Holds v p){hk:FuncId→List AV→St→CR}(hs:bH (bL gl b p hk))(hh:@kC v P R (bL gl b p hk))
 (hm:P.follows .mixedOrders=true){n:Nat}{c:Code}{tm:T AV}{σ:St}{pins:List RE}{e:AExit}{tm':List (Nat×AV)}{objs':List (Nat×Ob)}{nx':Nat}{E:bq}
 (h:eQ R nr nb pins (exec P (bL gl b p hk) n nt c {tm:=tm,ds:=[],md:=none,rd:=false} σ) e tm' objs' nx'=some E)(hE:EqsOk v v2 E):HT P gl b R nr nb nt v c tm σ e v2 (ax tm') (ag b objs' nx'):=by
 unfold eQ at h;split at h
 ·rename_i e' env σ' hx;rw[au]at h;split at h
  ·rename_i hg;simp only[rW,ak]at hg;obtain⟨⟨⟨h1,h0⟩,h2⟩,h3⟩:=hg;obtain⟨rfl,hn⟩:=mr h1;have hd:env.ds=[]:=by
    split at h2;{assumption};cases h2
   have hmd:env.md=none:=(by split at h3;{assumption};cases h3);exact(na hp hs hh hm hx hn hd hmd (fun i hi=>aA (List.all_eq_true.1 h0 i hi))).ht hrb (aI hb h hE)
  cases h
 cases h
theorem ST.chkW_ok(hb:BaseOk gl b R)(hrb:nr≤bQ nb){F:Fn}{s:List Dat}{cons:List Con}(hc:∀c∈cons,c.Sound F P gl b R){af:List HCon}(hhc:∀c∈af,c.Sound F P gl b R)
 (hm:P.follows .mixedOrders=true){n:Nat}{c:Code}{l:List (Nat×AV)}{o:List (Nat×Ob)}{nx:Nat}{pins:List RE}{e:AExit}{l':List (Nat×AV)}{o':List (Nat×Ob)}{nx' w m:Nat}{cores:List aD}(hco:∀q∈cores,¬@Holds (VL F s) q):
 ∀{sp:ST} {p:aD},sp.chkW (fun p=>eQ R nr nb pins (exec P (bL gl b p (n6 (dZ R (dj p) cons) (dX R (dj p) af))) n nt c {tm:=ax l,ds:=[],md:=Option.none,rd:=false} (ag b o nx)) e l' o' nx') w m cores p=true→
  @Holds (VL F s) p→sp.flg F s=w→HT P gl b R nr nb nt (VL F s) c (ax l) (ag b o nx) e (VL F (sp.nxt F m s)) (ax l') (ag b o' nx')
 | .leaf ls,p,h,hp,hw=>by
  simp only[ST.chkW]at h;split at h
  ·rename_i f xs;have hf:f=(w:Int):=hw;have hi:iB f (Int.ofNat w)=true:=(by subst hf;show Nat.beq w w=true;exact Nat.beq_refl w);rw[hi,cond_true,ak]at h;obtain⟨h1,h2⟩:=h;split at h2
   ·rename_i E hE;have hlen:=ad h1;have e2:(ST.leaf (.lit f::xs)).nxt F m s=xs.map (@Sx.dat (VL F s)):=by
     apply List.ext_getElem?;intro i;unfold ST.nxt;rw[List.getElem?_map,List.getElem?_map];by_cases hi:i<m;{rw[List.getElem?_range hi];have hx:i<xs.length:=(by omega);simp only[Option.map_some,ST.val,List.getElem?_cons_succ,bh hx]};have hx:xs.length≤i:=(by omega);rw[cb (by simpa using hi),cb hx];rfl
    rw[e2];exact HT.leafX hb hrb hp (lz (cO cons) (fC fun c h=>(hhc c h).1)) (zb (fF hb hp rfl hc) (jM hb hp rfl hhc)) hm hE (qv h2)
   cases h2
  cases h
 | .ask q t f,p,h,hp,hw=>by
  simp only[ST.chkW,ak]at h;cases hq:@Bx.eval (VL F s) q with
  |true=>have e1:∀i,(ST.ask q t f).val (VL F s) i=t.val (VL F s) i:=fun i=>(by simp only[ST.val,hq,cond_true]);have e2:(ST.ask q t f).nxt F m s=t.nxt F m s:=(by unfold ST.nxt;simp only[e1]);rw[e2];exact ST.chkW_ok hb hrb hc hhc hm hco h.1 (@Holds.cons (VL F s) _ _ _ hq hp) (by rw[←hw];unfold ST.flg;rw[e1])
  |false=>have e1:∀i,(ST.ask q t f).val (VL F s) i=f.val (VL F s) i:=fun i=>(by simp only[ST.val,hq,cond_false]);have e2:(ST.ask q t f).nxt F m s=f.nxt F m s:=(by unfold ST.nxt;simp only[e1]);rw[e2];exact ST.chkW_ok hb hrb hc hhc hm hco h.2 (@Holds.cons (VL F s) _ _ _ hq hp) (by rw[←hw];unfold ST.flg;rw[e1])
 | .none,p,h,hp,_=>by obtain⟨c,h1,h2⟩:=fT h hp;exact absurd h2 (hco c h1)
end
structure Tl where
 l:List (Nat×AV)
 o:List (Nat×Ob)
 nx:Nat
def yd(P:Program)(gl:Nat→Option Nat)(b:bF)(R nr nb nt:Nat)(cons:List Con)(af:List HCon)(pins:List RE)(c:Code)(A:Tl)(sp:ST)(m:Nat)(cores:List aD)(inv:aD)(w:Nat)(e:AExit)(B:Tl):Bool:=
 sp.chkW (fun p=>eQ R nr nb pins (exec P (bL gl b p (n6 (dZ R (dj p) cons) (dX R (dj p) af))) 1000 nt c {tm:=ax A.l,ds:=[],md:=none,rd:=false} (ag b A.o A.nx)) e B.l B.o B.nx) w m cores inv
def ST.flags(n:Nat):ST→Bool
 | .leaf l=>match l with
  | .lit (.ofNat k)::_=>Nat.blt k n
  |_=>false
 | .ask _ t e=>ST.flags n t&&ST.flags n e
 | .none=>true
theorem ST.flags_ok{F:Fn}{n:Nat}{s:List Dat}(hn:0<n):∀{sp:ST},sp.flags n=true→∃k,k<n∧sp.flg F s=(k:Nat)
 | .leaf l,h=>by simp only[ST.flags]at h;split at h;{rename_i k xs;exact⟨k,aL h,rfl⟩};cases h
 | .ask q t f,h=>by
  simp only[ST.flags,ak]at h;cases hq:@Bx.eval (VL F s) q with
  |true=>obtain⟨k,h1,h2⟩:=ST.flags_ok (F:=F) (s:=s) hn h.1;exact⟨k,h1,by rw[←h2];unfold ST.flg;simp only[ST.val,hq,cond_true]⟩
  |false=>obtain⟨k,h1,h2⟩:=ST.flags_ok (F:=F) (s:=s) hn h.2;exact⟨k,h1,by rw[←h2];unfold ST.flg;simp only[ST.val,hq,cond_false]⟩
 | .none,_=>⟨0,hn,rfl⟩
def ST.tr(sp:ST)(F:Fn)(m:Nat)(s:List Dat):Nat×List Dat:=((sp.flg F s).toNat,sp.nxt F m s)
def ST.stop(sp:ST)(F:Fn)(m:Nat)(fu:Nat)(s:List Dat):Nat:=match(List.range fu).find? fun k=>decide (sp.flg F (sp.it F m k s)≠0)with
 |some k=>k
 |Option.none=>fu
def ST.lp(sp:ST)(F:Fn)(m:Nat)(fu:List Dat→Nat)(s:List Dat):Nat×List Dat:=
 (if sp.flg F (sp.it F m (sp.stop F m (fu s) s) s)=1 then 1 else 0,sp.nxt F m (sp.it F m (sp.stop F m (fu s) s) s))
def aB(f g:List Dat→Nat×List Dat)(s:List Dat):Nat×List Dat:=if(f s).1=0 then g (f s).2 else f s
section
variable(P:Program)(gl:Nat→Option Nat)(b:bF)(R nr nb nt:Nat)(F:Fn)
abbrev F3(s:List Dat)(c:Code)(A:Tl)(e:AExit)(s':List Dat)(B:Tl):Prop:=HT P gl b R nr nb nt (VL F s) c (ax A.l) (ag b A.o A.nx) e (VL F s') (ax B.l) (ag b B.o B.nx)
def Pcs(J:List Dat→Prop)(c:Code)(A B Rt:Tl)(f:List Dat→Nat×List Dat):Prop:=
 ∀s,J s→((f s).1=0∧F3 P gl b R nr nb nt F s c A .normal (f s).2 B)∨((f s).1=1∧F3 P gl b R nr nb nt F s c A .ret (f s).2 Rt)
end
section
variable{P:Program}{gl:Nat→Option Nat}{b:bF}{R nr nb nt:Nat}{F:Fn}{J J2:List Dat→Prop}{A B C Rt:Tl}{f g:List Dat→Nat×List Dat}{c c1 c2:Code}
theorem Pcs.seq(hrb:nr≤bQ nb)(h1:Pcs P gl b R nr nb nt F J c1 A B Rt f)(hJ:∀s,J s→(f s).1=0→J2 (f s).2)(h2:Pcs P gl b R nr nb nt F J2 c2 B C Rt g):Pcs P gl b R nr nb nt F J (.seq c1 c2) A C Rt (aB f g):=fun s hs=>by unfold aB;rcases h1 s hs with⟨k1,k2⟩|⟨k1,k2⟩;{rw[if_pos k1];rcases h2 _ (hJ s hs k1)with⟨q1,q2⟩|⟨q1,q2⟩;{exact .inl ⟨q1,HT.seq hrb k2 q2⟩};exact .inr ⟨q1,HT.seq hrb k2 q2⟩};rw[if_neg (by omega)];exact .inr ⟨k1,HT.seq_out k2 (by simp)⟩
theorem Pcs.weak{J':List Dat→Prop}(h:Pcs P gl b R nr nb nt F J c A B Rt f)(hJ:∀s,J' s→J s):Pcs P gl b R nr nb nt F J' c A B Rt f:=fun s hs=>h s (hJ s hs)
theorem Pcs.tree(hb:BaseOk gl b R)(hrb:nr≤bQ nb){cons:List Con}(hc:∀c∈cons,c.Sound F P gl b R){af:List HCon}(hhc:∀c∈af,c.Sound F P gl b R)(hm:P.follows .mixedOrders=true)
 {pins:List RE}{sp:ST}{m:Nat}{cores:List aD}{inv:aD}(hco:∀s,J s→∀q∈cores,¬@Holds (VL F s) q)(hinv:∀s,J s→@Holds (VL F s) inv)(hfl:sp.flags 2=true)
 (h0:yd P gl b R nr nb nt cons af pins c A sp m cores inv 0 .normal B=true)(h1:yd P gl b R nr nb nt cons af pins c A sp m cores inv 1 .ret Rt=true):Pcs P gl b R nr nb nt F J c A B Rt (sp.tr F m):=fun s hs=>by
 obtain⟨k,hk,hk2⟩:=ST.flags_ok (F:=F) (s:=s) (by decide) hfl
 match k,hk with
 |0,_=>exact .inl ⟨by unfold ST.tr;rw[hk2];rfl,ST.chkW_ok hb hrb hc hhc hm (hco s hs) h0 (hinv s hs) hk2⟩
 |1,_=>exact .inr ⟨by unfold ST.tr;rw[hk2];rfl,ST.chkW_ok hb hrb hc hhc hm (hco s hs) h1 (hinv s hs) hk2⟩
theorem ST.stop_ok{sp:ST}{m fu:Nat}{s:List Dat}(h:∃k,k≤fu∧sp.flg F (sp.it F m k s)≠0):(∀k,k<sp.stop F m fu s→sp.flg F (sp.it F m k s)=0)∧sp.flg F (sp.it F m (sp.stop F m fu s) s)≠0∧sp.stop F m fu s≤fu:=by
 unfold ST.stop;split;{rename_i k hk;obtain⟨h1,h2,h3⟩:=List.find?_range_eq_some.1 hk;refine⟨fun j hj=> ?_,of_decide_eq_true h1,Nat.le_of_lt (List.mem_range.1 h2)⟩;have:=h3 j hj;simpa using this};rename_i hk;have hall:∀j,j<fu→sp.flg F (sp.it F m j s)=0:=fun j hj=>by have:=List.find?_eq_none.1 hk j (List.mem_range.2 hj);simpa using this
 obtain⟨k,hk1,hk2⟩:=h;rcases Nat.eq_or_lt_of_le hk1 with rfl|hlt;{exact⟨hall,hk2,aw _⟩};exact absurd (hall k hlt) hk2
theorem Pcs.loop(hb:BaseOk gl b R)(hrb:nr≤bQ nb){cons:List Con}(hc:∀c∈cons,c.Sound F P gl b R){af:List HCon}(hhc:∀c∈af,c.Sound F P gl b R)(hm:P.follows .mixedOrders=true)
 {K:Nat→List Dat→Prop}{id:Nat}{pins:List RE}{sp:ST}{m:Nat}{fu:List Dat→Nat}{cores:List aD}{inv:aD}(hco:∀k s,K k s→∀q∈cores,¬@Holds (VL F s) q)(hinv:∀k s,K k s→@Holds (VL F s) inv)(hfl:sp.flags 3=true)
 (hJ:∀k s,K k s→sp.flg F s=0→K (k+1) (sp.nxt F m s))(hterm:∀s,K 0 s→∃k,k≤fu s∧sp.flg F (sp.it F m k s)≠0)
 (h0:yd P gl b R nr nb nt cons af pins c A sp m cores inv 0 .normal A=true)(h1:yd P gl b R nr nb nt cons af pins c A sp m cores inv 1 .ret Rt=true)(h2:yd P gl b R nr nb nt cons af pins c A sp m cores inv 2 (.exit id) B=true):
 Pcs P gl b R nr nb nt F (K 0) (.block id (.loop c)) A B Rt (sp.lp F m fu):=fun s hs=>by
 obtain⟨a1,a2,a3⟩:=ST.stop_ok (hterm s hs);have hJk:∀k,k≤sp.stop F m (fu s) s→K k (sp.it F m k s):=fun k=>by
  induction k with
  |zero=>intro _;exact hs
  |succ k ih=>intro hk;exact hJ _ _ (ih (by omega)) (a1 k (by omega))
 have hround:∀k,k<sp.stop F m (fu s) s→F3 P gl b R nr nb nt F (sp.it F m k s) c A .normal (sp.it F m (k+1) s) A:=fun k hk=>
  ST.chkW_ok hb hrb hc hhc hm (hco _ _ (hJk k (by omega))) h0 (hinv _ _ (hJk k (by omega))) (a1 k hk)
 have hlast:=hJk _ (aw _);obtain⟨k,hk,hk2⟩:=ST.flags_ok (F:=F) (s:=sp.it F m (sp.stop F m (fu s) s) s) (by decide) hfl
 match k,hk with
 |0,_=>exact absurd hk2 a2
 |1,_=>refine .inr ⟨by unfold ST.lp;rw[hk2];rfl,HT.block_out (HT.loop hrb (sp.stop F m (fu s) s) (fun k=>VL F (sp.it F m k s)) hround (ST.chkW_ok hb hrb hc hhc hm (hco _ _ hlast) h1 (hinv _ _ hlast) hk2) (by simp)) (by simp)⟩
 |2,_=>refine .inl ⟨by unfold ST.lp;rw[hk2];rfl,HT.block (HT.loop hrb (sp.stop F m (fu s) s) (fun k=>VL F (sp.it F m k s)) hround (ST.chkW_ok hb hrb hc hhc hm (hco _ _ hlast) h2 (hinv _ _ hlast) hk2) (by simp))⟩
def Pf(P:Program)(gl:Nat→Option Nat)(b:bF)(R nr nb nt:Nat)(F:Fn)(J:List Dat→Prop)(c:Code)(A Rt:Tl)(f:List Dat→Nat×List Dat):Prop:=∀s,J s→(f s).1=1∧F3 P gl b R nr nb nt F s c A .ret (f s).2 Rt
theorem Pcs.ret(h:Pcs P gl b R nr nb nt F J c A B Rt f)(h1:∀s,J s→(f s).1=1):Pf P gl b R nr nb nt F J c A Rt f:=fun s hs=>by rcases h s hs with⟨k1,_⟩|⟨k1,k2⟩;{rw[h1 s hs]at k1;cases k1};exact⟨k1,k2⟩
theorem Pcs.seqR(hrb:nr≤bQ nb)(h1:Pcs P gl b R nr nb nt F J c1 A B Rt f)(hJ:∀s,J s→(f s).1=0→J2 (f s).2)(h2:Pf P gl b R nr nb nt F J2 c2 B Rt g):Pf P gl b R nr nb nt F J (.seq c1 c2) A Rt (aB f g):=fun s hs=>by unfold aB;rcases h1 s hs with⟨k1,k2⟩|⟨k1,k2⟩;{rw[if_pos k1];obtain⟨q1,q2⟩:=h2 _ (hJ s hs k1);exact⟨q1,HT.seq hrb k2 q2⟩};rw[if_neg (by omega)];exact⟨k1,HT.seq_out k2 (by simp)⟩
end
end
end Go.Tw
set_option linter.unusedVariables false
namespace Go.Tw
noncomputable section
def ah(s:List Dat)(i:Nat):Dat:=match s[i]? with
 |some d=>d
 |none=>.int 0
def ZY(c:Nat)(x:Sx):Bool:=(gF x).same (.bin .add .i64 (.dvar c) (.lit 1))
def growX(y:Nat):Sx→Option Nat
 | .dvar i=>bif Nat.beq i y then some 0 else none
 | .pr f a b=>bif Nat.beq f 9 then(match growX y a,litN b with
  |some p,some q=>some (p+q)
  |_,_=>none)else none
 |_=>none
where litN:Sx→Option Nat
 | .pr f a b=>bif Nat.beq f 13 then some 0 else bif Nat.beq f 12 then some 1 else bif Nat.beq f 9 then(match litN a,litN b with
  |some p,some q=>some (p+q)
  |_,_=>none)else none
 |_=>none
def ST.allW(w:Nat)(q:List Sx→Bool):ST→Bool
 | .leaf l=>match l with
  | .lit (.ofNat n)::xs=> !(Nat.beq n w)||q xs
  |_=>false
 | .ask _ t e=>ST.allW w q t&&ST.allW w q e
 | .none=>false
def ST.rng(c m:Nat)(ys:List Nat)(g:Nat):ST→Bool
 | .ask b t e=>b.same (.cmp .lss (.dvar c) (ae (.dvar 0)))&&((match e with
  | .leaf (.lit (.ofNat n)::_)=>Nat.beq n 2
  |_=>false)&&ST.allW 0 (fun xs=>Nat.ble m xs.length&&(Nat.blt c m&&(Nat.blt 0 m&&(ZY c (cu xs c)&&((cu xs 0).same (.dvar 0)&&ys.all fun y=>Nat.blt y m&&(match growX y (cu xs y)with
   |some n=>Nat.ble n g
   |Option.none=>false)))))) t)
 |_=>false
theorem rH{v:Val}:∀{x:Sx} {n:Nat},growX.litN x=some n→(@Sx.dat v x).toL.length≤n
 | .pr f a b,n,h=>by simp only[growX.litN,au]at h;split at h;{rename_i hf;have:=ad hf;subst this;exact aP _};split at h;{rename_i hf;have:=ad hf;subst this;cases h;exact aw 1};split at h;{rename_i hf;have:=ad hf;subst this;split at h;{rename_i p q hp hq;cases h;have h1:=rH (v:=v) hp;have h2:=rH (v:=v) hq;show((@Sx.dat v a).toL++(@Sx.dat v b).toL).length≤_;rw[cZ];omega};cases h};cases h
theorem tp{v:Val}{y:Nat}:∀{x:Sx} {n:Nat},growX y x=some n→(@Sx.dat v x).toL.length≤(v.dat y).toL.length+n
 | .dvar i,n,h=>by simp only[growX,au]at h;split at h;{rename_i hf;have:=ad hf;subst this;exact Nat.le_add_right _ _};cases h
 | .pr f a b,n,h=>by simp only[growX,au]at h;split at h;{rename_i hf;have:=ad hf;subst this;split at h;{rename_i p q hp hq;cases h;have h1:=tp (v:=v) hp;have h2:=rH (v:=v) hq;show((@Sx.dat v a).toL++(@Sx.dat v b).toL).length≤_;rw[cZ];omega};cases h};cases h
theorem sX{sp:ST}{F:Fn}{m i:Nat}{s:List Dat}(h:i<m):ah (sp.nxt F m s) i=sp.val (VL F s) (i+1):=by unfold ah ST.nxt;rw[List.getElem?_map,List.getElem?_range h];rfl
theorem ST.allW_ok{F:Fn}{w:Nat}{s:List Dat}{q:List Sx→Bool}:∀{sp:ST},sp.allW w q=true→sp.flg F s=(w:Nat)→∃xs,q xs=true∧∀i,i<xs.length→sp.val (VL F s) (i+1)=@Sx.dat (VL F s) (cu xs i)
 | .leaf l,h,hf=>by
  simp only[ST.allW]at h;split at h
  ·rename_i n xs;have hn:(n:Int)=(w:Int):=hf;have:n=w:=(by omega);subst this;refine⟨xs,by simpa using h,fun i hi=> ?_⟩;show(match xs[i]? with
    |some e=>@Sx.dat (VL F s) e
    |Option.none=>.int 0)=_
   rw[bV,bh hi];rfl
  cases h
 | .ask b t e,h,hf=>by
  simp only[ST.allW,ak]at h;cases hq:@Bx.eval (VL F s) b with
  |true=>obtain⟨xs,h1,h2⟩:=ST.allW_ok (F:=F) (s:=s) h.1 (by rw[←hf];unfold ST.flg;simp only[ST.val,hq,cond_true]);exact⟨xs,h1,fun i hi=>by rw[←h2 i hi];simp only[ST.val,hq,cond_true]⟩
  |false=>obtain⟨xs,h1,h2⟩:=ST.allW_ok (F:=F) (s:=s) h.2 (by rw[←hf];unfold ST.flg;simp only[ST.val,hq,cond_false]);exact⟨xs,h1,fun i hi=>by rw[←h2 i hi];simp only[ST.val,hq,cond_false]⟩
def jT(c:Nat)(ys:List Nat)(g B:Nat)(k:Nat)(s:List Dat):Prop:=
 ah s c=.int (k:Int)∧k≤(ah s 0).toL.length∧(ah s 0).toL.length≤B∧∀y∈ys,(ah s y).toL.length≤g*k
theorem sy{sp:ST}{F:Fn}{c m:Nat}{ys:List Nat}{g B k:Nat}{s:List Dat}(h:sp.rng c m ys g=true)(hB:B≤1000000000)(hj:jT c ys g B k s)(hf:sp.flg F s=0):
 k<(ah s 0).toL.length∧jT c ys g B (k+1) (sp.nxt F m s)∧ah (sp.nxt F m s) 0=ah s 0:=by
 obtain⟨j1,j2,j3,j4⟩:=hj;cases sp with
 |leaf l=>cases h
 |none=>cases h
 |ask b t e=>
  simp only[ST.rng,ak]at h;obtain⟨h1,h2,h3⟩:=h;have hb:=Bx.same_eq h1;subst hb;have hev:@Bx.eval (VL F s) (.cmp .lss (.dvar c) (ae (.dvar 0)))=decide (k<(ah s 0).toL.length):=(by show decide ((ah s c).toI<((ah s 0).toL.length:Int))=_;rw[j1];exact decide_eq_decide.2 ⟨fun h=>by have h:(k:Int)<_:=h;omega,fun h=>by show(k:Int)<_;omega⟩);cases hd:decide (k<(ah s 0).toL.length)with
  |false=>rw[hd]at hev;unfold ST.flg at hf;simp only[ST.val,hev,cond_false]at hf;split at h2;{rename_i n _;have:=ad h2;subst this;cases hf};cases h2
  |true=>
   rw[hd]at hev;have hk:=of_decide_eq_true hd;obtain⟨xs,q1,q2⟩:=ST.allW_ok (F:=F) (w:=0) (s:=s) h3 (by rw[show((0:Nat):Int)=0 from rfl,←hf];unfold ST.flg;simp only[ST.val,hev,cond_true]);simp only[ak]at q1;obtain⟨p1,p2,p3,p4,p5,p6⟩:=q1;have hml:=aA p1;have hcm:=aL p2;have h0m:=aL p3;have hval:∀i,i<m→ah ((ST.ask (.cmp .lss (.dvar c) (ae (.dvar 0))) t e).nxt F m s) i=@Sx.dat (VL F s) (cu xs i):=fun i hi=>(by rw[sX hi,←q2 i (by omega)];simp only[ST.val,hev,cond_true]);have hzero:ah ((ST.ask (.cmp .lss (.dvar c) (ae (.dvar 0))) t e).nxt F m s) 0=ah s 0:=(by rw[hval 0 h0m,Sx.same_eq p5];rfl);refine⟨hk,⟨?_,by rw[hzero];exact hk,by rw[hzero];exact j3,fun y hy=> ?_⟩,hzero⟩
   ·rw[hval c hcm];have hs:=Sx.same_eq p4;have hn:(@Sx.dat (VL F s) (cu xs c)).toI=aU .i64 ((k:Int)+1):=by
     rw[←hS,hs];show aZ .add .i64 (ah s c).toI 1=_;rw[j1];rfl
    have hi:∃z:Int,@Sx.dat (VL F s) (cu xs c)=.int z:=by
     have hx:∀x:Sx,(gF x).same (.bin .add .i64 (.dvar c) (.lit 1))=true→∃z:Int,@Sx.dat (VL F s) x=.int z:=fun x hx=>by
      cases x with
      |pr f a b=>simp only[gF,au]at hx;split at hx;{rename_i hf2;have:=ad hf2;subst this;exact⟨_,rfl⟩};cases hx
      |bin op kk a b=>exact⟨_,rfl⟩
      |_=>simp only[gF,Sx.same,cw]at hx
     exact hx _ p4
    obtain⟨z,hz⟩:=hi;rw[hz]at hn⊢;have hn:z=aU .i64 ((k:Int)+1):=hn;rw[hn,wrap_i64];have e:¬((k:Int)+1< -9223372036854775808∨9223372036854775807<(k:Int)+1):=(by omega);split<;>congr 1<;>omega
   have hyq:=List.all_eq_true.1 p6 y hy;simp only[ak]at hyq;obtain⟨y1,y2⟩:=hyq;split at y2;{rename_i n hn;have hg:=tp (v:=VL F s) hn;have hng:=aA y2;rw[hval y (aL y1)];have:=j4 y hy;have e2:((VL F s).dat y)=ah s y:=rfl;rw[e2]at hg;rw[Nat.mul_succ];omega};cases y2
theorem A4{sp:ST}{F:Fn}{c m:Nat}{ys:List Nat}{g B:Nat}{s:List Dat}(h:sp.rng c m ys g=true)(hB:B≤1000000000)(hj:jT c ys g B 0 s):
 ∀k,(∀j,j<k→sp.flg F (sp.it F m j s)=0)→jT c ys g B k (sp.it F m k s)∧ah (sp.it F m k s) 0=ah s 0
 |0,_=>⟨hj,rfl⟩
 |k+1,hk=>by obtain⟨h1,h2⟩:=A4 h hB hj k fun j hj=>hk j (by omega);obtain⟨_,h3,h4⟩:=sy h hB h1 (hk k (by omega));exact⟨h3,h4.trans h2⟩
theorem yN{sp:ST}{F:Fn}{c m:Nat}{ys:List Nat}{g B:Nat}{s:List Dat}(h:sp.rng c m ys g=true)(hB:B≤1000000000)(hj:jT c ys g B 0 s):∃k,k≤(ah s 0).toL.length∧sp.flg F (sp.it F m k s)≠0:=by apply Classical.byContradiction;intro hno;have hall:∀k,k≤(ah s 0).toL.length→sp.flg F (sp.it F m k s)=0:=fun k hk=>Classical.byContradiction fun h=>hno ⟨k,hk,h⟩;obtain⟨h1,h2⟩:=A4 h hB hj (ah s 0).toL.length fun j hj=>hall j (by omega);obtain⟨h3,_⟩:=sy h hB h1 (hall _ (aw _));rw[h2]at h3;omega
def NZ(c:Nat)(ys:List Nat)(g B:Nat)(q:Bx×Bool):Bool:=match q.1 with
 | .cmp .lss (.dvar i) (.lit (.ofNat n))=>Nat.beq i c&&(Nat.beq n 0&& !q.2)
 | .cmp .lss (.pr f (.dvar i) _) (.lit (.ofNat n))=>Nat.beq f 7&&(q.2&&((Nat.beq i 0&&Nat.blt B n)||(ys.any (Nat.beq i)&&Nat.blt (g*B) n)))
 |_=>false
theorem NY{F:Fn}{c:Nat}{ys:List Nat}{g B k:Nat}{s:List Dat}(hj:jT c ys g B k s){inv:aD}(h:inv.all (NZ c ys g B)=true):@Holds (VL F s) inv:=fun q hq=>by obtain⟨j1,j2,j3,j4⟩:=hj;have h:=List.all_eq_true.1 h q hq;obtain⟨b,x⟩:=q;unfold NZ at h;dsimp only at h⊢;split at h;{rename_i i n;simp only[ak]at h;obtain⟨h1,h2,h3⟩:=h;have:=ad h1;subst this;have:=ad h2;subst this;have hx:x=false:=(by simpa using h3);subst hx;show decide ((ah s i).toI<0)=false;rw[j1];exact decide_eq_false (by show ¬(k:Int)<0;omega)};{rename_i f i y n;simp only[ak,dw]at h;obtain⟨h1,h2,h3⟩:=h;have:=ad h1;subst this;subst h2;show decide (((ah s i).toL.length:Int)<(n:Int))=true;refine decide_eq_true ?_;rcases h3 with⟨a1,a2⟩|⟨a1,a2⟩;{have:=ad a1;subst this;have:=aL a2;omega};obtain⟨y',hy,hy2⟩:=List.any_eq_true.1 a1;have:=ad hy2;subst this;have h4:=j4 _ hy;have h5:=aL a2;have h6:g*k≤g*B:=Nat.mul_le_mul_left g (by omega);omega};cases h
section
variable{P:Program}{gl:Nat→Option Nat}{b:bF}{R nr nb nt:Nat}{F:Fn}{A B Rt:Tl}{c:Code}
theorem Pcs.rng(hb:BaseOk gl b R)(hrb:nr≤bQ nb){cons:List Con}(hc:∀c∈cons,c.Sound F P gl b R){af:List HCon}(hhc:∀c∈af,c.Sound F P gl b R)(hm:P.follows .mixedOrders=true)
 {X:Nat→List Dat→Prop}{ct:Nat}{ys:List Nat}{g L:Nat}{id:Nat}{pins:List RE}{sp:ST}{m:Nat}{cores:List aD}{inv inv2:aD}(hr:sp.rng ct m ys g=true)(hL:L≤1000000000)(hi:inv.all (NZ ct ys g L)=true)
 (hX:∀k s,jT ct ys g L k s→X k s→sp.flg F s=0→X (k+1) (sp.nxt F m s))(hX2:∀k s,X k s→@Holds (VL F s) inv2)(hco:∀k s,jT ct ys g L k s→X k s→∀q∈cores,¬@Holds (VL F s) q)(hfl:sp.flags 3=true)
 (h0:yd P gl b R nr nb nt cons af pins c A sp m cores (inv++inv2) 0 .normal A=true)(h1:yd P gl b R nr nb nt cons af pins c A sp m cores (inv++inv2) 1 .ret Rt=true)(h2:yd P gl b R nr nb nt cons af pins c A sp m cores (inv++inv2) 2 (.exit id) B=true):
 Pcs P gl b R nr nb nt F (fun s=>jT ct ys g L 0 s∧X 0 s) (.block id (.loop c)) A B Rt (sp.lp F m fun s=>(ah s 0).toL.length):=
 Pcs.loop (K:=fun k s=>jT ct ys g L k s∧X k s) hb hrb hc hhc hm (fun k s h=>hco k s h.1 h.2)
  (fun k s h q hq=>by rcases List.mem_append.1 hq with hq|hq;{exact NY h.1 hi q hq};exact hX2 k s h.2 q hq)
  hfl (fun k s h hf=>⟨(sy hr hL h.1 hf).2.1,hX k s h.1 h.2 hf⟩) (fun s h=>yN hr hL h.1) h0 h1 h2
end
theorem Ho{sp:ST}{F:Fn}{c m:Nat}{ys:List Nat}{g B:Nat}{s:List Dat}(h:sp.rng c m ys g=true)(hB:B≤1000000000)(hj:jT c ys g B 0 s)(hfl:sp.flags 3=true):
 ∃k t,t=sp.it F m k s∧(∀j,j<k→sp.flg F (sp.it F m j s)=0)∧jT c ys g B k t∧ah t 0=ah s 0∧((sp.flg F t=1∧sp.lp F m (fun s=>(ah s 0).toL.length) s=(1,sp.nxt F m t))∨(sp.flg F t=2∧sp.lp F m (fun s=>(ah s 0).toL.length) s=(0,sp.nxt F m t))):=by
 obtain⟨a1,a2,a3⟩:=ST.stop_ok (yN (F:=F) h hB hj);obtain⟨b1,b2⟩:=A4 (F:=F) h hB hj _ a1;refine⟨_,_,rfl,a1,b1,b2,?_⟩;obtain⟨k,hk,hk2⟩:=ST.flags_ok (F:=F) (s:=sp.it F m (sp.stop F m ((ah s 0).toL.length) s) s) (by decide) hfl
 match k,hk with
 |0,_=>exact absurd hk2 a2
 |1,_=>exact .inl ⟨hk2,by unfold ST.lp;rw[hk2];rfl⟩
 |2,_=>exact .inr ⟨hk2,by unfold ST.lp;rw[hk2];rfl⟩
theorem MY{sp:ST}{F:Fn}{c m:Nat}{ys:List Nat}{g B:Nat}{s:List Dat}(h:sp.rng c m ys g=true)(hB:B≤1000000000)(hj:jT c ys g B 0 s)(hfl:sp.flags 3=true){q:List Sx→Bool}(hq:sp.allW 2 (fun xs=>Nat.beq xs.length m&&q xs)=true)
 (h0:(sp.lp F m (fun s=>(ah s 0).toL.length) s).1=0):∃k t xs,jT c ys g B k t∧ah t 0=ah s 0∧q xs=true∧∀i,i<m→ah (sp.lp F m (fun s=>(ah s 0).toL.length) s).2 i=@Sx.dat (VL F t) (cu xs i):=by
 obtain⟨k,t,_,_,h1,h2,h3⟩:=Ho (F:=F) h hB hj hfl;rcases h3 with⟨_,h4⟩|⟨h3,h4⟩;{rw[h4]at h0;cases h0};obtain⟨xs,q1,q2⟩:=ST.allW_ok (F:=F) (s:=t) hq h3;simp only[ak]at q1;have hl:=ad q1.1;refine⟨k,t,xs,h1,h2,q1.2,fun i hi=> ?_⟩;rw[h4];show ah (sp.nxt F m t) i=_;rw[sX hi,q2 i (by omega)]
theorem ST.val_congr{F G:Fn}{nv nf:Nat}(h:∀f,f<nf→F f=G f){sp:ST}(ho:sp.okB nv nf=true)(s:List Dat)(i:Nat):sp.val (VL F s) i=sp.val (VL G s) i:=
 ST.okB_val (v:=VL F s) (v2:=VL G s) (nv:=nv) (nf:=nf) (fun _ _=>rfl) (fun f hf=>h f hf) i ho
theorem ST.tr_congr{F G:Fn}{nv nf m:Nat}(h:∀f,f<nf→F f=G f){sp:ST}(ho:sp.okB nv nf=true):sp.tr F m=sp.tr G m:=by funext s;unfold ST.tr ST.flg ST.nxt;simp only[ST.val_congr h ho]
theorem ST.lp_congr{F G:Fn}{nv nf m:Nat}(h:∀f,f<nf→F f=G f){sp:ST}(ho:sp.okB nv nf=true){fu:List Dat→Nat}:sp.lp F m fu=sp.lp G m fu:=by
 have e1:sp.nxt F m=sp.nxt G m:=by funext s;unfold ST.nxt;simp only[ST.val_congr h ho]
 have e2:sp.flg F=sp.flg G:=by funext s;unfold ST.flg;rw[ST.val_congr h ho]
 have e3:∀k s,sp.it F m k s=sp.it G m k s:=fun k=>by
  induction k with
  |zero=>intro s;rfl
  |succ k ih=>intro s;simp only[ST.it,ih,e1]
 funext s;unfold ST.lp ST.stop;simp only[e1,e2,e3]
end
end Go.Tw
set_option linter.unusedVariables false
namespace Go.Tw
noncomputable section
def cl:Code→Code
 | .seq a _=>a
 | .block _ a=>a
 | .loop a=>a
 | .scope a=>a
 | .cond _ a _=>a
 |c=>c
def cr:Code→Code
 | .seq _ b=>b
 | .cond _ _ b=>b
 |c=>c
def du:Nat→AExit
 |0=>.normal
 |1=>.ret
 |k+2=>.exit k
theorem vY{w:Nat}(h:w≠0):du w≠.normal:=by
 match w,h with
 |1,_=>simp [du]
 |k+2,_=>simp [du]
theorem zQ{w id:Nat}(h:w≠id+2):du w≠.exit id:=by
 match w,h with
 |0,_=>simp [du]
 |1,_=>simp [du]
 |k+2,h=>simp only[du];intro h';cases h';exact h rfl
def dH(B:Tl)(T:Nat→Tl):Nat→Tl
 |0=>B
 |w+1=>T (w+1)
theorem su{B C:Tl}{T:Nat→Tl}{w:Nat}(h:w≠0):dH B T w=dH C T w:=by
 match w,h with
 |w+1,_=>rfl
theorem Hh{B:Tl}{T:Nat→Tl}{w:Nat}(h:w≠0):dH B T w=T w:=by
 match w,h with
 |w+1,_=>rfl
def ST.chkX(fin:Nat→aD→Option bq)(m:Nat)(cores:List aD):ST→aD→Bool
 | .leaf l,p=>match l with
  | .lit (.ofNat w)::xs=>Nat.beq xs.length m&&(match fin w p with
   |some E=>BM xs E
   |Option.none=>false)
  |_=>false
 | .ask b t e,p=>ST.chkX fin m cores t ((b,true)::p)&&ST.chkX fin m cores e ((b,false)::p)
 | .none,p=>rJ cores p
abbrev nE:Type:=List Dat→Nat×List Dat
section
variable(P:Program)(gl:Nat→Option Nat)(b:bF)(R nr nb nt:Nat)(F:Fn)
def PX(J:List Dat→Prop)(c:Code)(A B:Tl)(T:Nat→Tl)(f:nE):Prop:=
 ∀s,J s→F3 P gl b R nr nb nt F s c A (du (f s).1) (f s).2 (dH B T (f s).1)
def chkX(cons:List Con)(af:List HCon)(pins:List RE)(c:Code)(A B:Tl)(T:Nat→Tl)(sp:ST)(m:Nat)(cores:List aD)(inv:aD):Bool:=
 sp.chkX (fun w p=>eQ R nr nb pins (exec P (bL gl b p (n6 (dZ R (dj p) cons) (dX R (dj p) af))) 1000 nt c {tm:=ax A.l,ds:=[],md:=none,rd:=false} (ag b A.o A.nx)) (du w) (dH B T w).l (dH B T w).o (dH B T w).nx) m cores inv
end
section
variable{P:Program}{gl:Nat→Option Nat}{b:bF}{R nr nb nt:Nat}{F:Fn}
theorem ST.chkX_ok(hb:BaseOk gl b R)(hrb:nr≤bQ nb){s:List Dat}{cons:List Con}(hc:∀c∈cons,c.Sound F P gl b R){af:List HCon}(hhc:∀c∈af,c.Sound F P gl b R)
 (hm:P.follows .mixedOrders=true){n:Nat}{c:Code}{l:List (Nat×AV)}{o:List (Nat×Ob)}{nx:Nat}{pins:List RE}{B:Tl}{T:Nat→Tl}{m:Nat}{cores:List aD}(hco:∀q∈cores,¬@Holds (VL F s) q):
 ∀{sp:ST} {p:aD},sp.chkX (fun w p=>eQ R nr nb pins (exec P (bL gl b p (n6 (dZ R (dj p) cons) (dX R (dj p) af))) n nt c {tm:=ax l,ds:=[],md:=Option.none,rd:=false} (ag b o nx)) (du w) (dH B T w).l (dH B T w).o (dH B T w).nx) m cores p=true→
  @Holds (VL F s) p→HT P gl b R nr nb nt (VL F s) c (ax l) (ag b o nx) (du (sp.tr F m s).1) (VL F (sp.tr F m s).2) (ax (dH B T (sp.tr F m s).1).l) (ag b (dH B T (sp.tr F m s).1).o (dH B T (sp.tr F m s).1).nx)
 | .leaf ls,p,h,hp=>by
  simp only[ST.chkX]at h;split at h
  ·rename_i w xs;rw[ak]at h;obtain⟨h1,h2⟩:=h;have hw:((ST.leaf (.lit (.ofNat w)::xs)).tr F m s).1=w:=rfl;split at h2
   ·rename_i E hE;have hlen:=ad h1;have e2:((ST.leaf (.lit (.ofNat w)::xs)).tr F m s).2=xs.map (@Sx.dat (VL F s)):=by
     apply List.ext_getElem?;intro i;unfold ST.tr ST.nxt;rw[List.getElem?_map,List.getElem?_map];by_cases hi:i<m;{rw[List.getElem?_range hi];have hx:i<xs.length:=(by omega);simp only[Option.map_some,ST.val,List.getElem?_cons_succ,bh hx]};have hx:xs.length≤i:=(by omega);rw[cb (by simpa using hi),cb hx];rfl
    rw[hw,e2];exact HT.leafX hb hrb hp (lz (cO cons) (fC fun c h=>(hhc c h).1)) (zb (fF hb hp rfl hc) (jM hb hp rfl hhc)) hm hE (qv h2)
   cases h2
  cases h
 | .ask q t f,p,h,hp=>by
  simp only[ST.chkX,ak]at h;cases hq:@Bx.eval (VL F s) q with
  |true=>have e1:∀i,(ST.ask q t f).val (VL F s) i=t.val (VL F s) i:=fun i=>(by simp only[ST.val,hq,cond_true]);have e2:(ST.ask q t f).tr F m s=t.tr F m s:=(by unfold ST.tr ST.flg ST.nxt;simp only[e1]);rw[e2];exact ST.chkX_ok hb hrb hc hhc hm hco h.1 (@Holds.cons (VL F s) _ _ _ hq hp)
  |false=>have e1:∀i,(ST.ask q t f).val (VL F s) i=f.val (VL F s) i:=fun i=>(by simp only[ST.val,hq,cond_false]);have e2:(ST.ask q t f).tr F m s=f.tr F m s:=(by unfold ST.tr ST.flg ST.nxt;simp only[e1]);rw[e2];exact ST.chkX_ok hb hrb hc hhc hm hco h.2 (@Holds.cons (VL F s) _ _ _ hq hp)
 | .none,p,h,hp=>by obtain⟨c,h1,h2⟩:=fT h hp;exact absurd h2 (hco c h1)
variable{J J2:List Dat→Prop}{A B C:Tl}{T:Nat→Tl}{f g:nE}{c c1 c2:Code}
theorem PX.tree(hb:BaseOk gl b R)(hrb:nr≤bQ nb)(hm:P.follows .mixedOrders=true){cons:List Con}(hc:∀c∈cons,c.Sound F P gl b R){af:List HCon}(hhc:∀c∈af,c.Sound F P gl b R)
 {pins:List RE}{sp:ST}{m:Nat}{cores:List aD}{inv:aD}(hco:∀s,J s→∀q∈cores,¬@Holds (VL F s) q)(hinv:∀s,J s→@Holds (VL F s) inv)
 (h:chkX P gl b R nr nb nt cons af pins c A B T sp m cores inv=true):PX P gl b R nr nb nt F J c A B T (sp.tr F m):=fun s hs=>
 ST.chkX_ok hb hrb hc hhc hm (hco s hs) h (hinv s hs)
theorem PX.weak{J':List Dat→Prop}(h:PX P gl b R nr nb nt F J c A B T f)(hJ:∀s,J' s→J s):PX P gl b R nr nb nt F J' c A B T f:=fun s hs=>h s (hJ s hs)
theorem PX.seq(hrb:nr≤bQ nb)(h1:PX P gl b R nr nb nt F J c1 A B T f)(hJ:∀s,J s→(f s).1=0→J2 (f s).2)(h2:PX P gl b R nr nb nt F J2 c2 B C T g):PX P gl b R nr nb nt F J (.seq c1 c2) A C T (aB f g):=fun s hs=>by have k1:=h1 s hs;unfold aB;by_cases h0:(f s).1=0;{rw[if_pos h0];rw[h0]at k1;exact HT.seq hrb k1 (h2 _ (hJ s hs h0))};rw[if_neg h0,←su (B:=B) h0];exact HT.seq_out k1 (vY h0)
def gE(id:Nat)(f:nE):nE:=fun s=>if(f s).1=id+2 then(0,(f s).2)else f s
theorem PX.block{id:Nat}(h:PX P gl b R nr nb nt F J c A B T f)(hT:T (id+2)=B):PX P gl b R nr nb nt F J (.block id c) A B T (gE id f):=fun s hs=>by have k:=h s hs;unfold gE;by_cases h0:(f s).1=id+2;{rw[if_pos h0];rw[h0]at k;rw[Hh (by omega),hT]at k;exact HT.block k};rw[if_neg h0];exact HT.block_out k (zQ h0)
def pt(f:nE):Nat→List Dat→List Dat
 |0,s=>s
 |k+1,s=>(f (pt f k s)).2
def kX(f:nE)(fu:Nat)(s:List Dat):Nat:=match(List.range fu).find? fun k=>decide ((f (pt f k s)).1≠0)with
 |some k=>k
 |none=>fu
def gO(f:nE)(fu:List Dat→Nat):nE:=fun s=>f (pt f (kX f (fu s) s) s)
theorem rZ{f:nE}{fu:Nat}{s:List Dat}(h:∃k,k≤fu∧(f (pt f k s)).1≠0):(∀k,k<kX f fu s→(f (pt f k s)).1=0)∧(f (pt f (kX f fu s) s)).1≠0∧kX f fu s≤fu:=by
 unfold kX;split;{rename_i k hk;obtain⟨h1,h2,h3⟩:=List.find?_range_eq_some.1 hk;refine⟨fun j hj=> ?_,of_decide_eq_true h1,Nat.le_of_lt (List.mem_range.1 h2)⟩;have:=h3 j hj;simpa using this};rename_i hk;have hall:∀j,j<fu→(f (pt f j s)).1=0:=fun j hj=>by have:=List.find?_eq_none.1 hk j (List.mem_range.2 hj);simpa using this
 obtain⟨k,hk1,hk2⟩:=h;rcases Nat.eq_or_lt_of_le hk1 with rfl|hlt;{exact⟨hall,hk2,aw _⟩};exact absurd (hall k hlt) hk2
theorem PX.loop(hrb:nr≤bQ nb){K:Nat→List Dat→Prop}{fu:List Dat→Nat}(h:∀k,PX P gl b R nr nb nt F (K k) c A A T f)(hJ:∀k s,K k s→(f s).1=0→K (k+1) (f s).2)
 (hterm:∀s,K 0 s→∃k,k≤fu s∧(f (pt f k s)).1≠0):PX P gl b R nr nb nt F (K 0) (.loop c) A B T (gO f fu):=fun s hs=>by
 obtain⟨a1,a2,a3⟩:=rZ (hterm s hs);have hJk:∀k,k≤kX f (fu s) s→K k (pt f k s):=fun k=>by
  induction k with
  |zero=>intro _;exact hs
  |succ k ih=>intro hk;exact hJ _ _ (ih (by omega)) (a1 k (by omega))
 have hround:∀k,k<kX f (fu s) s→F3 P gl b R nr nb nt F (pt f k s) c A .normal (pt f (k+1) s) A:=fun k hk=>by have:=h k _ (hJk k (by omega));rw[a1 k hk]at this;exact this
 have hlast:=h _ _ (hJk _ (aw _));unfold gO;rw[su (C:=A) a2];exact HT.loop hrb (kX f (fu s) s) (fun k=>VL F (pt f k s)) hround hlast (vY a2)
def brS(q:Bx)(F:Fn)(f g:nE):nE:=fun s=>bif @Bx.eval (VL F s) q then f s else g s
theorem HT.cond{v v2:Val}{t:Nat}{q:Bx}{x y:Code}{tm tm2:_root_.Go.Tw.T AV}{σ σ2:St}{e:AExit}(ht:tm.get t=some (.symb q))(h:HT P gl b R nr nb nt v (if @Bx.eval v q then x else y) tm σ e v2 tm2 σ2):HT P gl b R nr nb nt v (.cond (.tmp t) x y) tm σ e v2 tm2 σ2:=by
 intro a cs w φ ha;obtain⟨x',h1,h2⟩:=ha.val _ _ ht;have hb:a.eval (.tmp t)=.bool (@Bx.eval v q):=by cases h2;simp [Act.eval,h1]
 refine mM hb ?_;exact h a cs w φ ha
theorem PX.cond{t:Nat}{q:Bx}(ht:(ax A.l).get t=some (.symb q))(h1:PX P gl b R nr nb nt F (fun s=>J s∧@Bx.eval (VL F s) q=true) c1 A B T f)(h2:PX P gl b R nr nb nt F (fun s=>J s∧@Bx.eval (VL F s) q=false) c2 A B T g):
 PX P gl b R nr nb nt F J (.cond (.tmp t) c1 c2) A B T (brS q F f g):=fun s hs=>by
 refine HT.cond (v:=VL F s) ht ?_;unfold brS;cases hq:@Bx.eval (VL F s) q with
 |true=>simp only[if_true,cond_true];exact h1 s ⟨hs,hq⟩
 |false=>simp only[cw,if_false,cond_false];exact h2 s ⟨hs,hq⟩
theorem PX.skip{B:Tl}(h:PX P gl b R nr nb nt F J c A B T f){B':Tl}(h0:∀s,J s→(f s).1≠0):PX P gl b R nr nb nt F J c A B' T f:=fun s hs=>by have:=h s hs;rw[su (C:=B') (h0 s hs)]at this;exact this
theorem PX.ret(h:PX P gl b R nr nb nt F J c A B T f){s:List Dat}(hs:J s)(h1:(f s).1=1):F3 P gl b R nr nb nt F s c A .ret (f s).2 (T 1):=by have:=h s hs;rw[h1]at this;exact this
theorem PX.on(h:PX P gl b R nr nb nt F J c A B T f){s:List Dat}(hs:J s)(h1:(f s).1=0):F3 P gl b R nr nb nt F s c A .normal (f s).2 B:=by have:=h s hs;rw[h1]at this;exact this
end
theorem Pb{l:List Nat}{k:Nat}(h:l.any (Nat.beq k)=true):k∈l:=by obtain⟨x,hx,he⟩:=List.any_eq_true.1 h;have:=ad he;subst this;exact hx
end
end Go.Tw
set_option linter.unusedVariables false
namespace Go.Tw
noncomputable section
def inL(i:Nat):List Nat→Bool
 |[]=>false
 |x::l=>Nat.beq x i||inL i l
theorem mZ{i:Nat}:∀{l:List Nat},inL i l=true→i∈l
 |[],h=>by cases h
 |x::l,h=>by simp only[inL,dw]at h;rcases h with h|h;{have:=ad h;subst this;simp};exact List.mem_cons_of_mem _ (mZ h)
def ST.flsX(l:List Nat):ST→Bool
 | .leaf x=>match x with
  | .lit (.ofNat k)::_=>l.any (Nat.beq k)
  |_=>false
 | .ask _ t e=>ST.flsX l t&&ST.flsX l e
 | .none=>true
def ST.deadsOk(cores:List aD):ST→aD→Bool
 | .leaf _,_=>true
 | .ask b t e,p=>ST.deadsOk cores t ((b,true)::p)&&ST.deadsOk cores e ((b,false)::p)
 | .none,p=>rJ cores p
theorem gm{F:Fn}{s:List Dat}{m:Nat}{cores:List aD}{l:List Nat}(hco:∀q∈cores,¬@Holds (VL F s) q):∀{sp:ST} {p:aD},sp.deadsOk cores p=true→sp.flsX l=true→@Holds (VL F s) p→(sp.tr F m s).1∈l
 | .leaf x,p,_,h,_=>by simp only[ST.flsX]at h;split at h;{exact Pb h};cases h
 | .ask q t e,p,h1,h2,hp=>by
  simp only[ST.deadsOk,ak]at h1;simp only[ST.flsX,ak]at h2;cases hq:@Bx.eval (VL F s) q with
  |true=>have e1:((ST.ask q t e).tr F m s).1=(t.tr F m s).1:=(by unfold ST.tr ST.flg;simp only[ST.val,hq,cond_true]);rw[e1];exact gm hco h1.1 h2.1 (@Holds.cons (VL F s) _ _ _ hq hp)
  |false=>have e1:((ST.ask q t e).tr F m s).1=(e.tr F m s).1:=(by unfold ST.tr ST.flg;simp only[ST.val,hq,cond_false]);rw[e1];exact gm hco h1.2 h2.2 (@Holds.cons (VL F s) _ _ _ hq hp)
 | .none,p,h1,_,hp=>by obtain⟨c,k1,k2⟩:=fT h1 hp;exact absurd k2 (hco c k1)
def ST.leafs(w:Nat)(q:aD→List Sx→Bool):ST→aD→Bool
 | .leaf l,p=>match l with
  | .lit (.ofNat n)::xs=> !(Nat.beq n w)||q p xs
  |_=>false
 | .ask b t e,p=>ST.leafs w q t ((b,true)::p)&&ST.leafs w q e ((b,false)::p)
 | .none,_=>true
theorem cF{F:Fn}{s:List Dat}{cores:List aD}(hco:∀q∈cores,¬@Holds (VL F s) q){w:Nat}{q:aD→List Sx→Bool}:∀{sp:ST} {p:aD},sp.deadsOk cores p=true→sp.leafs w q p=true→@Holds (VL F s) p→sp.flg F s=(w:Nat)→
 ∃p' xs,q p' xs=true∧@Holds (VL F s) p'∧∀i,sp.val (VL F s) (i+1)=(ST.leaf (.lit (w:Int)::xs)).val (VL F s) (i+1)
 | .leaf l,p,_,h,hp,hf=>by simp only[ST.leafs]at h;split at h;{rename_i n xs _;have hn:(n:Int)=(w:Int):=hf;have:n=w:=(by omega);subst this;exact⟨p,xs,by simpa using h,hp,fun i=>rfl⟩};cases h
 | .ask b t e,p,h1,h2,hp,hf=>by
  simp only[ST.deadsOk,ak]at h1;simp only[ST.leafs,ak]at h2;cases hq:@Bx.eval (VL F s) b with
  |true=>obtain⟨p',xs,k1,k2,k3⟩:=cF hco h1.1 h2.1 (@Holds.cons (VL F s) _ _ _ hq hp) (by rw[←hf];unfold ST.flg;simp only[ST.val,hq,cond_true]);exact⟨p',xs,k1,k2,fun i=>by rw[←k3 i];simp only[ST.val,hq,cond_true]⟩
  |false=>obtain⟨p',xs,k1,k2,k3⟩:=cF hco h1.2 h2.2 (@Holds.cons (VL F s) _ _ _ hq hp) (by rw[←hf];unfold ST.flg;simp only[ST.val,hq,cond_false]);exact⟨p',xs,k1,k2,fun i=>by rw[←k3 i];simp only[ST.val,hq,cond_false]⟩
 | .none,p,h1,_,hp,_=>by obtain⟨c,k1,k2⟩:=fT h1 hp;exact absurd k2 (hco c k1)
def ST.allN(w:Nat)(q:List Sx→Bool):ST→Bool
 | .leaf l=>match l with
  | .lit (.ofNat n)::xs=> !(Nat.beq n w)||q xs
  |_=>false
 | .ask _ t e=>ST.allN w q t&&ST.allN w q e
 | .none=>true
theorem yn{F:Fn}{s:List Dat}{cores:List aD}(hco:∀q∈cores,¬@Holds (VL F s) q){w:Nat}{q:List Sx→Bool}:∀{sp:ST} {p:aD},sp.deadsOk cores p=true→sp.allN w q=true→@Holds (VL F s) p→sp.flg F s=(w:Nat)→
 ∃xs,q xs=true∧∀i,i<xs.length→sp.val (VL F s) (i+1)=@Sx.dat (VL F s) (cu xs i)
 | .leaf l,p,_,h,hp,hf=>by
  simp only[ST.allN]at h;split at h
  ·rename_i n xs _;have hn:(n:Int)=(w:Int):=hf;have:n=w:=(by omega);subst this;refine⟨xs,by simpa using h,fun i hi=> ?_⟩;show(match xs[i]? with
    |some e=>@Sx.dat (VL F s) e
    |Option.none=>.int 0)=_
   rw[bV,bh hi];rfl
  cases h
 | .ask b t e,p,h1,h2,hp,hf=>by
  simp only[ST.deadsOk,ak]at h1;simp only[ST.allN,ak]at h2;cases hq:@Bx.eval (VL F s) b with
  |true=>obtain⟨xs,k1,k3⟩:=yn hco h1.1 h2.1 (@Holds.cons (VL F s) _ _ _ hq hp) (by rw[←hf];unfold ST.flg;simp only[ST.val,hq,cond_true]);exact⟨xs,k1,fun i hi=>by rw[←k3 i hi];simp only[ST.val,hq,cond_true]⟩
  |false=>obtain⟨xs,k1,k3⟩:=yn hco h1.2 h2.2 (@Holds.cons (VL F s) _ _ _ hq hp) (by rw[←hf];unfold ST.flg;simp only[ST.val,hq,cond_false]);exact⟨xs,k1,fun i hi=>by rw[←k3 i hi];simp only[ST.val,hq,cond_false]⟩
 | .none,p,h1,_,hp,_=>by obtain⟨c,k1,k2⟩:=fT h1 hp;exact absurd k2 (hco c k1)
def ST.rngX(l c m:Nat)(ys st:List Nat)(g fx:Nat):ST→Bool
 | .ask b t e=>b.same (.cmp .lss (.dvar c) (ae (.dvar l)))&&((match e with
  | .leaf (.lit (.ofNat n)::_)=>Nat.beq n fx&&Nat.blt 0 n
  |_=>false)&&(inL l st&&ST.allN 0 (fun xs=>Nat.ble m xs.length&&(Nat.blt c m&&(ZY c (cu xs c)&&(st.all (fun i=>Nat.blt i m&&(cu xs i).same (.dvar i))&&ys.all fun y=>Nat.blt y m&&(match growX y (cu xs y)with
   |some n=>Nat.ble n g
   |Option.none=>false))))) t))
 |_=>false
def RngX(l c:Nat)(ys st:List Nat)(g B:Nat)(s0:List Dat)(k:Nat)(s:List Dat):Prop:=
 ah s c=.int (k:Int)∧k≤(ah s l).toL.length∧(ah s l).toL.length≤B∧(∀y∈ys,(ah s y).toL.length≤(ah s0 y).toL.length+g*k)∧∀i∈st,ah s i=ah s0 i
theorem RngX.start{l c:Nat}{ys st:List Nat}{g B:Nat}{s:List Dat}(h:ah s c=.int 0)(hB:(ah s l).toL.length≤B):RngX l c ys st g B s 0 s:=
 ⟨h,aP _,hB,fun y _=>by omega,fun _ _=>rfl⟩
theorem lh{sp:ST}{F:Fn}{l c m:Nat}{ys st:List Nat}{g fx B k:Nat}{s0 s:List Dat}(h:sp.rngX l c m ys st g fx=true)(hj:RngX l c ys st g B s0 k s)(hk:k=(ah s l).toL.length):sp.flg F s=(fx:Nat)∧0<fx:=by
 obtain⟨j1,j2,j3,j4,j5⟩:=hj;cases sp with
 |leaf l=>cases h
 |none=>cases h
 |ask b t e=>simp only[ST.rngX,ak]at h;obtain⟨h1,h2,h3⟩:=h;have hb:=Bx.same_eq h1;subst hb;have hev:@Bx.eval (VL F s) (.cmp .lss (.dvar c) (ae (.dvar l)))=false:=(by refine decide_eq_false ?_;show ¬((ah s c).toI<((ah s l).toL.length:Int));rw[j1];show ¬((k:Int)<_);omega);split at h2;{rename_i n _;simp only[ak]at h2;have:=ad h2.1;subst this;exact⟨by unfold ST.flg;simp only[ST.val,hev,cond_false];rfl,aL h2.2⟩};cases h2
theorem fL{sp:ST}{F:Fn}{l c m:Nat}{ys st:List Nat}{g fx B k:Nat}{s0 s:List Dat}(h:sp.rngX l c m ys st g fx=true)(hB:B≤9223372036854775807)(hj:RngX l c ys st g B s0 k s){cores:List aD}{inv:aD}(hd:sp.deadsOk cores inv=true)(hco:∀q∈cores,¬@Holds (VL F s) q)(hinv:@Holds (VL F s) inv)(hf:sp.flg F s=0):
 k<(ah s l).toL.length∧RngX l c ys st g B s0 (k+1) (sp.nxt F m s):=by
 have hjj:=hj;obtain⟨j1,j2,j3,j4,j5⟩:=hj;have hk:k<(ah s l).toL.length:=by rcases bl k (ah s l).toL.length with hk|hk;{exact hk};obtain⟨f1,f2⟩:=lh (F:=F) h hjj (by omega);rw[hf]at f1;omega
 cases sp with
 |leaf l=>cases h
 |none=>cases h
 |ask b t e=>
  simp only[ST.rngX,ak]at h;obtain⟨h1,h2,h0,h3⟩:=h;have hb:=Bx.same_eq h1;subst hb;have hev:@Bx.eval (VL F s) (.cmp .lss (.dvar c) (ae (.dvar l)))=true:=(by refine decide_eq_true ?_;show(ah s c).toI<((ah s l).toL.length:Int);rw[j1];show(k:Int)<_;omega);simp only[ST.deadsOk,ak]at hd;obtain⟨xs,q1,q2⟩:=yn (w:=0) hco hd.1 h3 (@Holds.cons (VL F s) _ _ _ hev hinv) (by rw[show((0:Nat):Int)=0 from rfl,←hf];unfold ST.flg;simp only[ST.val,hev,cond_true]);simp only[ak]at q1;obtain⟨p1,p2,p4,p5,p6⟩:=q1;have hml:=aA p1;have hcm:=aL p2;have hval:∀i,i<m→ah ((ST.ask (.cmp .lss (.dvar c) (ae (.dvar l))) t e).nxt F m s) i=@Sx.dat (VL F s) (cu xs i):=fun i hi=>(by rw[sX hi,←q2 i (by omega)];simp only[ST.val,hev,cond_true]);have hst:∀i∈st,ah ((ST.ask (.cmp .lss (.dvar c) (ae (.dvar l))) t e).nxt F m s) i=ah s i:=fun i hi=>(by have:=List.all_eq_true.1 p5 i hi;simp only[ak]at this;rw[hval i (aL this.1),Sx.same_eq this.2];rfl);have hl:=hst l (mZ h0);refine⟨hk,?_,by rw[hl];exact hk,by rw[hl];exact j3,fun y hy=> ?_,fun i hi=>by rw[hst i hi];exact j5 i hi⟩
  ·rw[hval c hcm];have hs:=Sx.same_eq p4;have hn:(@Sx.dat (VL F s) (cu xs c)).toI=aU .i64 ((k:Int)+1):=by
    rw[←hS,hs];show aZ .add .i64 (ah s c).toI 1=_;rw[j1];rfl
   have hi:∃z:Int,@Sx.dat (VL F s) (cu xs c)=.int z:=by
    have hx:∀x:Sx,(gF x).same (.bin .add .i64 (.dvar c) (.lit 1))=true→∃z:Int,@Sx.dat (VL F s) x=.int z:=fun x hx=>by
     cases x with
     |pr f a b=>simp only[gF,au]at hx;split at hx;{rename_i hf2;have:=ad hf2;subst this;exact⟨_,rfl⟩};cases hx
     |bin op kk a b=>exact⟨_,rfl⟩
     |_=>simp only[gF,Sx.same,cw]at hx
    exact hx _ p4
   obtain⟨z,hz⟩:=hi;rw[hz]at hn⊢;have hn:z=aU .i64 ((k:Int)+1):=hn;rw[hn,wrap_i64];have e:¬((k:Int)+1< -9223372036854775808∨9223372036854775807<(k:Int)+1):=(by omega);split<;>congr 1<;>omega
  have hyq:=List.all_eq_true.1 p6 y hy;simp only[ak]at hyq;obtain⟨y1,y2⟩:=hyq;split at y2;{rename_i n hn;have h1:=tp (v:=VL F s) hn;have h2:=aA y2;have h3:=j4 y hy;rw[hval y (aL y1)];have e:(VL F s).dat y=ah s y:=rfl;rw[e]at h1;rw[Nat.mul_succ];omega};cases y2
theorem Dx{f:nE}{fu:List Dat→Nat}{K:Nat→List Dat→Prop}(hJ:∀k s,K k s→(f s).1=0→K (k+1) (f s).2){s:List Dat}(hs:K 0 s)(hterm:∃k,k≤fu s∧(f (pt f k s)).1≠0):
 ∃n s',K n s'∧(f s').1≠0∧gO f fu s=f s':=by
 obtain⟨a1,a2,a3⟩:=rZ hterm;have hJk:∀k,k≤kX f (fu s) s→K k (pt f k s):=fun k=>by
  induction k with
  |zero=>intro _;exact hs
  |succ k ih=>intro hk;exact hJ _ _ (ih (by omega)) (a1 k (by omega))
 exact⟨_,_,hJk _ (aw _),a2,rfl⟩
theorem rA{F:Fn}{s:List Dat}{sp:ST}{m w:Nat}(h:sp.flg F s=(w:Nat)):(sp.tr F m s).1=w:=by show(sp.flg F s).toNat=w;rw[h];omega
def ST.natF:ST→Bool
 | .leaf x=>match x with
  | .lit (.ofNat _)::_=>true
  |_=>false
 | .ask _ t e=>ST.natF t&&ST.natF e
 | .none=>true
theorem iM{F:Fn}{s:List Dat}:∀{sp:ST},sp.natF=true→∃k:Nat,sp.flg F s=(k:Int)
 | .leaf x,h=>by simp only[ST.natF]at h;split at h;{rename_i k _;exact⟨k,rfl⟩};cases h
 | .ask q t e,h=>by
  simp only[ST.natF,ak]at h;cases hq:@Bx.eval (VL F s) q with
  |true=>obtain⟨k,hk⟩:=iM (F:=F) (s:=s) h.1;exact⟨k,by rw[←hk];unfold ST.flg;simp only[ST.val,hq,cond_true]⟩
  |false=>obtain⟨k,hk⟩:=iM (F:=F) (s:=s) h.2;exact⟨k,by rw[←hk];unfold ST.flg;simp only[ST.val,hq,cond_false]⟩
 | .none,_=>⟨0,rfl⟩
theorem uq{w:Nat}{q:List Sx→Bool}:∀{sp:ST},sp.allN w q=true→sp.natF=true
 | .leaf l,h=>by simp only[ST.allN]at h;simp only[ST.natF];split at h;{rfl};cases h
 | .ask b t e,h=>by simp only[ST.allN,ak]at h;simp only[ST.natF,uq h.1,uq h.2,Bool.and_self]
 | .none,_=>rfl
theorem fq{sp:ST}{l c m:Nat}{ys st:List Nat}{g fx:Nat}(h:sp.rngX l c m ys st g fx=true):sp.natF=true:=by
 cases sp with
 |leaf l=>cases h
 |none=>cases h
 |ask b t e=>simp only[ST.rngX,ak]at h;obtain⟨h1,h2,h0,h3⟩:=h;simp only[ST.natF,uq h3,Bool.true_and];split at h2;{rfl};cases h2
theorem dR{F:Fn}{s:List Dat}{sp:ST}{m l c:Nat}{ys st:List Nat}{g fx mm:Nat}{cores:List aD}{inv:aD}(_hd:sp.deadsOk cores inv=true)(_hco:∀q∈cores,¬@Holds (VL F s) q)(_hinv:@Holds (VL F s) inv)
 (h:sp.rngX l c mm ys st g fx=true):(sp.tr F m s).1=0↔sp.flg F s=0:=by
 obtain⟨k,hk⟩:=iM (F:=F) (s:=s) (fq h);show(sp.flg F s).toNat=0↔_;rw[hk];omega
section
variable{sp:ST}{F:Fn}{l c m:Nat}{ys st:List Nat}{g fx B:Nat}
theorem oD(hr:sp.rngX l c m ys st g fx=true){cores:List aD}{inv:aD}(hd:sp.deadsOk cores inv=true)(hB:B≤9223372036854775807){s:List Dat}{Inv:Nat→List Dat→Prop}
 (hco:∀k s',RngX l c ys st g B s k s'→∀q∈cores,¬@Holds (VL F s') q)(hinv:∀k s',RngX l c ys st g B s k s'→@Holds (VL F s') inv)(h0:ah s c=.int 0)(hlen:(ah s l).toL.length≤B)(hI:Inv 0 s)
 (hstep:∀k s',RngX l c ys st g B s k s'→k<(ah s' l).toL.length→Inv k s'→(sp.tr F m s').1=0→Inv (k+1) (sp.tr F m s').2):
 ∃n s',RngX l c ys st g B s n s'∧Inv n s'∧(sp.tr F m s').1≠0∧gO (sp.tr F m) (fun s=>(ah s l).toL.length) s=sp.tr F m s':=by
 have hl:l∈st:=by
  cases sp with
  |ask b t e=>simp only[ST.rngX,ak]at hr;exact mZ hr.2.2.1
  |_=>cases hr
 have hJ:∀k s',RngX l c ys st g B s k s'∧Inv k s'→(sp.tr F m s').1=0→RngX l c ys st g B s (k+1) (sp.tr F m s').2∧Inv (k+1) (sp.tr F m s').2:=fun k s' hk hf=>by obtain⟨q1,q2⟩:=fL hr hB hk.1 hd (hco k s' hk.1) (hinv k s' hk.1) ((dR hd (hco k s' hk.1) (hinv k s' hk.1) hr).1 hf);exact⟨q2,hstep k s' hk.1 q1 hk.2 hf⟩
 have hs:RngX l c ys st g B s 0 s∧Inv 0 s:=⟨RngX.start h0 hlen,hI⟩;have hterm:∃k,k≤(ah s l).toL.length∧((sp.tr F m) (pt (sp.tr F m) k s)).1≠0:=by
  apply Classical.byContradiction;intro hno;have hall:∀k,k≤(ah s l).toL.length→(sp.tr F m (pt (sp.tr F m) k s)).1=0:=fun k hk=>Classical.byContradiction fun h=>hno ⟨k,hk,h⟩;have hit:∀k,k≤(ah s l).toL.length→RngX l c ys st g B s k (pt (sp.tr F m) k s):=fun k=>by
   induction k with
   |zero=>intro _;exact hs.1
   |succ k ih=>intro hk;have hi:=ih (by omega);exact(fL hr hB hi hd (hco _ _ hi) (hinv _ _ hi) ((dR hd (hco _ _ hi) (hinv _ _ hi) hr).1 (hall k (by omega)))).2
  have h1:=hit _ (aw _);obtain⟨f1,f2⟩:=lh (F:=F) hr h1 (by rw[h1.2.2.2.2 l hl]);have:=hall _ (aw _);rw[rA f1]at this;omega
 obtain⟨n,s',h1,h2,h3⟩:=Dx (fu:=fun s=>(ah s l).toL.length) (K:=fun k s'=>RngX l c ys st g B s k s'∧Inv k s') hJ hs hterm;exact⟨n,s',h1.1,h1.2,h2,h3⟩
variable{P:Program}{gl:Nat→Option Nat}{b:bF}{R nr nb nt:Nat}{J0:List Dat→Prop}{A B':Tl}{T:Nat→Tl}{cd:Code}
theorem PX.rng(hrb:nr≤bQ nb)(hr:sp.rngX l c m ys st g fx=true){cores:List aD}{inv:aD}(hd:sp.deadsOk cores inv=true)(hco:∀s,(∃s0 k,J0 s0∧RngX l c ys st g B s0 k s)→∀q∈cores,¬@Holds (VL F s) q)
 (hinv:∀s,(∃s0 k,J0 s0∧RngX l c ys st g B s0 k s)→@Holds (VL F s) inv)(hB:B≤9223372036854775807)(hJ:∀s,J0 s→ah s c=.int 0∧(ah s l).toL.length≤B)
 (h:PX P gl b R nr nb nt F (fun s=>∃s0 k,J0 s0∧RngX l c ys st g B s0 k s) cd A A T (sp.tr F m)):PX P gl b R nr nb nt F J0 (.loop cd) A B' T (gO (sp.tr F m) fun s=>(ah s l).toL.length):=by
 have hl:l∈st:=by
  cases sp with
  |ask b t e=>simp only[ST.rngX,ak]at hr;exact mZ hr.2.2.1
  |_=>cases hr
 refine PX.weak (PX.loop hrb (K:=fun k s=>∃s0,J0 s0∧RngX l c ys st g B s0 k s) (fun k=>PX.weak h fun s ⟨s0,h1,h2⟩=>⟨s0,k,h1,h2⟩) (fun k s ⟨s0,h1,h2⟩ hf=>⟨s0,h1,(fL hr hB h2 hd (hco _ ⟨s0,k,h1,h2⟩) (hinv _ ⟨s0,k,h1,h2⟩) ((dR hd (hco _ ⟨s0,k,h1,h2⟩) (hinv _ ⟨s0,k,h1,h2⟩) hr).1 hf)).2⟩) fun s hs=> ?_) fun s hs=>⟨s,hs,RngX.start (hJ s hs).1 (hJ s hs).2⟩;obtain⟨s0,h1,h2⟩:=hs;apply Classical.byContradiction;intro hno;have hall:∀k,k≤(ah s l).toL.length→(sp.tr F m (pt (sp.tr F m) k s)).1=0:=fun k hk=>Classical.byContradiction fun h=>hno ⟨k,hk,h⟩;have hit:∀k,k≤(ah s l).toL.length→RngX l c ys st g B s0 k (pt (sp.tr F m) k s):=fun k=>by
  induction k with
  |zero=>intro _;exact h2
  |succ k ih=>intro hk;have hi:=ih (by omega);exact(fL hr hB hi hd (hco _ ⟨s0,_,h1,hi⟩) (hinv _ ⟨s0,_,h1,hi⟩) ((dR hd (hco _ ⟨s0,_,h1,hi⟩) (hinv _ ⟨s0,_,h1,hi⟩) hr).1 (hall k (by omega)))).2
 have h3:=hit _ (aw _);obtain⟨f1,f2⟩:=lh (F:=F) hr h3 (by rw[h3.2.2.2.2 l hl,h2.2.2.2.2 l hl]);have:=hall _ (aw _);rw[rA f1]at this;omega
end
end
end Go.Tw
namespace Go.Tw
open Go.ChangeShapes Go.RowKit
theorem dY{F:Nat→Dat→Dat→Dat→Dat}{P:Program}{gl:Nat→Option Nat}{b:bF}{R:Nat}{c:Con}{fn:Func}{code:Code}(hf:P.funcs[c.f]? =some fn)(hbody:fn.body=some code)(hlen:Nat.ble c.args.length fn.ntmps=true)
 (h1:c.bin=[])(h2:c.lin=none)(h3:c.objs=[])
 (h:∀v:Val,v.fn=F→@Holds v c.pre→∃e tm' o' nx' l σ'',(e=.ret∨e=.normal)∧
   HTo v P gl b R c.nr c.bin.length fn.ntmps code (eD c.args 0 .leaf) (c.start b R) e (ax tm') (ag b o' nx')∧
   bJ P fn {tm:=ax tm',ds:=[],md:=none,rd:=false} (ag b o' nx') fn.results.toList=some (l,σ'')∧given l=c.res):c.Sound F P gl b R:=by
 intro v hF hp w φ args' hh ha;obtain⟨e,tm',o',nx',l,σ'',he,hto,hres,hgl⟩:=h v hF hp;refine cU hf hbody fun cs=> ?_;have hen:=@en v φ c.args args' ha fn.ntmps (aA hlen) none false;refine(hto _ cs w φ ⟨hen.ev.size,hen.ev.val,rfl,hh.inv,hh.free,hh.roA,hh.rd,hh.wr⟩).mono fun e1 a1 cs1 w1 q=> ?_;obtain⟨q1,q2,φ1,q3,q4⟩:=q;refine⟨q1,?_⟩;have hev:@EnvR v φ1 fn.ntmps {tm:=ax tm',ds:=[],md:=none,rd:=false} a1:=⟨q3.size,q3.val⟩;obtain⟨x,r1,r2,_⟩:=@eL v P R (gV gl b) (fun _=>True) φ1 _ w1 fn fn.ntmps _ a1 σ'' l hev q3.inv hres (fun i _ _=>trivial);rw[hgl]at r2;have hgo:LeavesInM Fence.wide 0 P fn a1.tmps (fun e w'=>∃φ' x,e=.returned x∧@VR v φ' c.res x∧Trans R c.nr c.bin.length φ w φ' w'∧WF R φ' w'∧(∀k o,c.objs[k]? =some o→@Rep v R φ' w' (R+c.bin.length+c.nl+k) (some o))∧
  (∀k l q,c.bout[k]? =some l→c.bin[k]? =some q→@Rep v R φ' w' (R+k) (some (.box l q.2)))∧∀L,c.lin=some L→@Rep v R φ' w' (R+c.bin.length) (some (.opq 2 0 gid (.slc L.l) L.ox L.oy [] L.t))) a1.defers .returning w1:=by
  rw[q3.dfs];exact⟨x,r1,φ1,x,rfl,r2,q4,q3.wf,fun k o hk=>by simp [h3]at hk,fun k l q _ hk=>by simp [h1]at hk,fun L hL=>by rw[h2]at hL;cases hL⟩
 rcases he with rfl|rfl;{cases e1<;>simp only[ExitP]at q2;exact hgo};cases e1<;>simp only[ExitP]at q2;exact hgo
end Go.Tw
