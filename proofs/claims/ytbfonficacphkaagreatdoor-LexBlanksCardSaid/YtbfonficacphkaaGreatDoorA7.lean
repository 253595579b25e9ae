/-
  A part of the proof that the abstract evaluator is sound for the model's machine. Conditions: those of each theorem, as it states them.
-/
import Derived.Test.YtbfonficacphkaaGreatDoorA6
import Derived.Test.YtbfonficacphkaaGreatDoorA4
import Derived.Test.YtbfonficacphkaaGreatDoorA3
set_option linter.all false
namespace Go.Tw
open Go.ChangeShapes Go.RowKit
section
variable{v v':Val}{R:Nat}{ρ:List RE}{φ:PM}{w:World}
def Carry(R:Nat)(ρ:List RE)(v v':Val)(x:Option Ob)(o:Ob):Prop:=match x,o with
 |some .dfr,.dfr=>True
 |some (.loop st pend tm nt ps as bd),.loop st' pend' tm' nt' ps' as' bd'=>st=st'∧pend=pend'∧nt=nt'∧ps=ps'∧as=as'∧bd=bd'∧∃l e,tm'=ba l∧UK R ρ tm l=some e∧EqsOk v v' e
 |_,_=>False
theorem KK{i:Nat}{x:Option Ob}{o:Ob}{n:Nat}(hc:Carry R ρ v v' x o)(hm:aM R ρ φ i 0=φ i 0)(hr:i<n→@Rep v R φ w i x)(hlt:i<n)
 (hv:∀e,EqsOk v v' e→∀y z x',lq R ρ y z=some e→@VR v φ y x'→@VR v' (aM R ρ φ) z x'):@Rep v' R (aM R ρ φ) w i (some o):=by
 have hr:=hr hlt;unfold Carry at hc;split at hc;{obtain⟨h1,e,h2,h3⟩:=hr;exact⟨h1,e,hm.trans h2,h3⟩};{obtain⟨rfl,rfl,rfl,rfl,rfl,rfl,l,e,rfl,h2,h3⟩:=hc;obtain⟨q1,ex,lp,q2,q3,q4,q5,q6,q7,q8,q9,q10⟩:=hr;refine⟨q1,ex,lp,hm.trans q2,q3,q4,q5,q6,q7,q8,q9,fun t x hx=> ?_⟩;obtain⟨y,e',g1,g2,g3⟩:=xB h2 t x (oi hx);obtain⟨x',k1,k2⟩:=q10 t y g1;exact⟨x',k1,hv e' (fun p hp=>h3 p (g3 p hp)) y x x' g2 k2⟩};exact hc.elim
theorem Bu{nr nb:Nat}{gl:Nat→Option Nat}{b:bK}(hb:BaseOk gl b R){tm:T AV}{σ:St}{tm':List (Nat×AV)}{objs':List (Nat×Ob)}{nx':Nat}{e:bS}(h:eA R nb ρ tm σ tm' objs' nx'=some e)(he:EqsOk v v' e)
 {X:List (Nat×Ob)}(hX:∀i o,(i,o)∈X→(R≤i∧i<nx')∧(∃t,ku ρ i=some ⟨i,i,0,0,t⟩)∧Carry R ρ v v' (σ.heap.get i) o):
 Retell gl b R nr nb v tm σ v' (ba tm') (aA b (X++objs') nx'):=by
 intro nt a w φ hh;unfold eA at h;rw[ai]at h;split at h
 ·rename_i hc;simp only[al]at hc;obtain⟨hre,hRn,hpin,hst⟩:=hc;have hRn:=aB hRn;split at h
  ·rename_i p q hp hq;cases h;obtain⟨hep,heq⟩:=he.app;have hlow:(aM R ρ φ).low R=φ.low R:=by
    funext i u;unfold PM.low;split;{rename_i hi;exact bL i hi u};rfl
   have hle:(φ.low R).le (aM R ρ φ):=fun i u f hf=>(by unfold PM.low at hf;split at hf;{rename_i hi;rw[bL i hi];exact hf};cases hf);have hwf:=nk hh.wf hre;have hre':=hre;simp only[jj,al,oD]at hre';have hbase:∀i,i<R→@Rep v' R (aM R ρ φ) w i (b.get i):=fun i hi=>@Rep.frame v' R _ _ w w i _ hle (fun u=>by rw[bL i hi,PM.low_lt _ hi]) (fun _ _ _=>rfl) (hh.roA v' i hi);refine⟨aM R ρ φ,⟨hh.size,fun t x hx=> ?_,hh.dfs,⟨hwf,hRn,fun i _ hn=> ?_,fun g n hg=> ?_,fun i hn=> ?_,fun _ _ h=>by simp [js]at h,fun _ _ h=>by simp [js]at h,fun _ h=>(by cases h),fun i hi=> ?_,@jr v'⟩,fun i hn u=> ?_,fun v'' i hi=> ?_,rfl,rfl⟩,.of_sub hlow (sU hpin) fun i u f hi hf=> ?_⟩;·obtain⟨y,e',h1,h2,h3⟩:=xB hp t x (oi hx);obtain⟨x',q1,q2⟩:=hh.val t y h1;exact⟨x',q1,lj h2 (fun z hz=>hep z (h3 z hz)) q2⟩
   ·rcases ef b (X++objs') i with h1|⟨o,h1,h2⟩;{show @Rep v' R _ w i ((br b (X++objs')).get i);rw[h1];by_cases hi:i<R;{exact hbase i hi};rw[hb.none i (by omega)];trivial};show @Rep v' R _ w i ((br b (X++objs')).get i);rw[h2];rcases List.mem_append.1 h1 with h1|h1
    ·obtain⟨⟨g1,g2⟩,⟨t0,g3⟩,g4⟩:=hX i o h1;have hm0:aM R ρ φ i 0=φ i 0:=by
      have hnR:¬i<R:=(by omega);have:(Ext.upto 0:Ext→Ext)=id:=funext Ext.upto_zero;simp [aM,hnR,g3,this]
     refine KK g4 hm0 (fun hlt=>hh.rep hlt) (aR (hre'.2 _ (bn g3).1).2) fun e' he' x y x' hxy hx'=>lj hxy he' hx'
    obtain⟨g1,g2,e',g3,g4⟩:=jK hq i o h1;exact xC hh.lite hre g3 (fun z hz=>heq z (g4 z hz)) g1
   {obtain⟨f,h1,h2⟩:=hh.glo hg;exact⟨f,by rw[bL g (hb.gl g n hg)];exact h1,h2⟩};{show(br b (X++objs')).get i=none;have hn:nx'≤i:=hn;rcases ef b (X++objs') i with h1|⟨o,h1,h2⟩;{rw[h1];exact hb.none i (by omega)};rcases List.mem_append.1 h1 with h1|h1;{obtain⟨⟨g1,g2⟩,_⟩:=hX i o h1;omega};obtain⟨g1,g2,_⟩:=jK hq i o h1;omega};{rw[hlow];exact hh.roA v' i hi};{have hn:nx'≤i:=hn;have hnR:¬i<R:=(by omega);simp only[aM,hnR,if_false];split;{split;{rename_i r hr;have:=aR (hre'.2 r (bn hr).1).1.2;have:=(bn hr).2;omega};rfl};rfl};{rw[hlow];exact hh.roA v'' i hi};obtain⟨_,r,f',h1,h2,rfl⟩:=ff hi hf;exact⟨r.ido,r.ver,f',aB (hre'.2 r (bn h1).1).1.1.1,h2,(Ext.upto_blk _ _).symm,rR hst h1⟩
  cases h
 cases h
end
structure HoldD(v:Val)(gl:Nat→Option Nat)(b:bK)(R nt:Nat)(tm:T AV)(ds:List ADef)(σ:St)(a:Act)(w:World)(φ:PM):Prop where
 size:a.tmps.size=nt
 val:∀t x,tm.get t=some x→∃x',a.tmps[t]? =some x'∧@VR v φ x x'
 dfs:@DfsR v φ ds a.defers
 inv:@Inv v R (js gl b) (fun _=>True) φ σ w
 free:∀i,σ.next≤i→∀u,φ i u=none
 roA:∀v':Val,∀i,i<R→@Rep v' R (φ.low R) w i (b.get i)
 rd:σ.rd=[]
 wr:σ.wr=[]
def HTD(P:Program)(gl:Nat→Option Nat)(b:bK)(R nr nb nt:Nat)(v:Val)(c:Code)(tm:T AV)(ds:List ADef)(σ:St)(e:AExit)(v':Val)(tm':T AV)(ds':List ADef)(σ':St):Prop:=
 ∀(a:Act) (cs:List Frame) (w:World) (φ:PM),HoldD v gl b R nt tm ds σ a w φ→
  Runs P none false c (fun e' a' cs' w'=>cs'=cs∧ExitP e e'∧∃φ',HoldD v' gl b R nt tm' ds' σ' a' w' φ'∧Trans R nr nb φ w φ' w') a cs w
section
variable{P:Program}{gl:Nat→Option Nat}{b:bK}{R nr nb nt:Nat}{v v' v1 v2:Val}
theorem HoldD.hold{tm:T AV}{σ:St}{a:Act}{w:World}{φ:PM}(h:HoldD v gl b R nt tm [] σ a w φ):Hold v gl b R nt tm σ a w φ:=
 ⟨h.size,h.val,by have:=h.dfs;generalize a.defers=l at this;cases this;rfl,h.inv,h.free,h.roA,h.rd,h.wr⟩
theorem Hold.d{tm:T AV}{σ:St}{a:Act}{w:World}{φ:PM}(h:Hold v gl b R nt tm σ a w φ):HoldD v gl b R nt tm [] σ a w φ:=
 ⟨h.size,h.val,h.dfs▸.nil,h.inv,h.free,h.roA,h.rd,h.wr⟩
theorem HT.d{c:Code}{tm tm':T AV}{σ σ':St}{e:AExit}(h:HT P gl b R nr nb nt v c tm σ e v' tm' σ'):HTD P gl b R nr nb nt v c tm [] σ e v' tm' [] σ':=
 fun a cs w φ ha=>(h a cs w φ ha.hold).mono fun _ _ _ _ ⟨q1,q2,φ',q3,q4⟩=>⟨q1,q2,φ',q3.d,q4⟩
theorem HTD.seq(hrb:nr≤cK nb){x y:Code}{tm tm1 tm2:T AV}{ds ds1 ds2:List ADef}{σ σ1 σ2:St}{e:AExit}(h:HTD P gl b R nr nb nt v x tm ds σ .normal v1 tm1 ds1 σ1)(k:HTD P gl b R nr nb nt v1 y tm1 ds1 σ1 e v2 tm2 ds2 σ2):
 HTD P gl b R nr nb nt v (.seq x y) tm ds σ e v2 tm2 ds2 σ2:=by
 intro a cs w φ ha;refine dY ((h a cs w φ ha).mono fun e1 a1 cs1 w1 q=> ?_);obtain⟨rfl,q2,φ1,q3,q4⟩:=q;have:e1=.normal:=by cases e1<;>simp_all [ExitP]
 subst this;exact(k a1 _ w1 φ1 q3).mono fun e2 a2 cs2 w2 ⟨r1,r2,φ2,r3,r4⟩=>⟨r1,r2,φ2,r3,q4.trans hrb r4⟩
theorem HTD.seq_out{x y:Code}{tm tm2:T AV}{ds ds2:List ADef}{σ σ2:St}{e:AExit}(h:HTD P gl b R nr nb nt v x tm ds σ e v2 tm2 ds2 σ2)(hn:e≠.normal):HTD P gl b R nr nb nt v (.seq x y) tm ds σ e v2 tm2 ds2 σ2:=by
 intro a cs w φ ha;refine dY ((h a cs w φ ha).mono fun e1 a1 cs1 w1 q=> ?_);have hnn:e1≠.normal:=by obtain⟨_,q2,_⟩:=q;intro h';subst h';cases e<;>simp_all [ExitP]
 cases e1 with
 |normal=>exact absurd rfl hnn
 |_=>exact q
theorem HTD.block{id:Nat}{x:Code}{tm tm2:T AV}{ds ds2:List ADef}{σ σ2:St}(h:HTD P gl b R nr nb nt v x tm ds σ (.exit id) v2 tm2 ds2 σ2):HTD P gl b R nr nb nt v (.block id x) tm ds σ .normal v2 tm2 ds2 σ2:=by intro a cs w φ ha;refine cM ((h a cs w φ ha).mono fun e1 a1 cs1 w1 q=> ?_);obtain⟨q1,q2,q3⟩:=q;cases e1<;>simp only[ExitP]at q2;subst q2;simp only[dv,if_true];exact⟨q1,trivial,q3⟩
theorem HTD.block_out{id:Nat}{x:Code}{tm tm2:T AV}{ds ds2:List ADef}{σ σ2:St}{e:AExit}(h:HTD P gl b R nr nb nt v x tm ds σ e v2 tm2 ds2 σ2)(hn:e≠.exit id):HTD P gl b R nr nb nt v (.block id x) tm ds σ e v2 tm2 ds2 σ2:=by
 intro a cs w φ ha;refine cM ((h a cs w φ ha).mono fun e1 a1 cs1 w1 q=> ?_);obtain⟨q1,q2,q3⟩:=q;cases e1 with
 |exit j=>cases e<;>simp only[ExitP]at q2;subst q2;rename_i i;have:i≠id:=fun h'=>hn (by rw[h']);simp only[dv,this,if_false];exact⟨q1,rfl,q3⟩
 |_=>exact⟨q1,q2,q3⟩
theorem CP{p:bo}(hp:@Holds v p){hk:FuncId→List AV→St→CR}(hs:bN (bX gl b p hk))(hh:@kI v P R (bX gl b p hk))(hm:P.follows .mixedOrders=true){n:Nat}{c:Code}{tm:T AV}{ds:List ADef}{σ:St}{e:AExit}{env1:Env}{σ1:St}
 (h:exec P (bX gl b p hk) n nt c {tm:=tm,ds:=ds,md:=none,rd:=false} σ=.ok e env1 σ1)(hn:∀c,e≠.panic c)(hmd:env1.md=none)(hro:∀i∈σ1.wr,R+nr≤i):HTD P gl b R nr nb nt v c tm ds σ e v env1.tm env1.ds σ1.bare:=by
 intro a cs w φ ha;have hi:@Inv v R (bX gl b p hk) (fun _=>True) φ σ w:=
  {wf:=ha.inv.wf,low:=ha.inv.low,rep:=ha.inv.rep,gl:=ha.inv.gl,dom:=ha.inv.dom,pin:=fun _ _ h=>by simp [bX]at h,dec:=fun _ _ hd=>@fX v _ hp _ _ hd,wrR:=ha.inv.wrR,ro:=ha.inv.ro,oh:=@jr v}
 have hf:@FrmR v φ nt {tm:=tm,ds:=ds,md:=none,rd:=false} a:=⟨⟨ha.size,ha.val⟩,ha.dfs⟩;refine((@tK v P R (bX gl b p hk) hs hh hm n).1 nt c _ _ e env1 σ1 (fun _=>True) φ a cs w none false cs h hi hf ⟨rfl,rfl⟩ rfl (fun i _ _=>trivial) (fun i h1 _ u=>ha.free i h1 u)).mono fun e' a' cs' w' q=> ?_;obtain⟨φ',g1,g2,g3,g4,g5⟩:=q;have hcs:cs'=cs:=by rw[hmd]at g3;exact g3.2
 have hst:StepA σ σ1:=by have:=aL (P:=P) hs n nt c {tm:=tm,ds:=ds,md:=none,rd:=false} σ;rw[h]at this;exact this σ1 rfl
 have htr:Trans R nr nb φ w φ' w':=Trans.of_post ha.inv.wf g5 ha.inv.low ha.inv.wrR hro;have hi':=g5.inv hi hst;have hlw:=(@Post.lows v R _ φ φ' σ σ1 w w' g5 ha.inv.low ha.inv.wrR).2;refine⟨hcs,ExitP.of g1 hn,φ',⟨g2.ev.size,g2.ev.val,g2.dfs,?_,fun i h1 u=> ?_,zb ha.inv.wf htr hlw ha.roA,rfl,rfl⟩,htr⟩;{exact{wf:=hi'.wf,low:=hi'.low,rep:=fun i _ hn=>hi'.rep i (.inl trivial) hn,gl:=hi'.gl,dom:=hi'.dom,pin:=fun _ _ h=>by simp [js]at h,dec:=fun _ _ h=>by simp [js]at h,wrR:=fun _ h=>(by cases h),ro:=hi'.ro,oh:=@jr v}};by_cases hlt:i<σ.next;{have:=hst.next;have:σ1.next≤i:=h1;omega};rw[g5.grow i (.inr h1) (fun hx=>by have:σ1.next≤i:=h1;omega) u];exact ha.free i (by omega) u
theorem Trans.fewer{nb2:Nat}(h:cK nb≤cK nb2∧jh nb≤jh nb2){φ φ':PM}{w w':World}(t:Trans R nr nb2 φ w φ' w'):Trans R nr nb φ w φ' w':=
 ⟨t.size,t.keep,fun i u e hi he=>(t.own i u e hi he).imp (fun⟨j,s,f,h1,h2,h3,h4⟩=>⟨j,s,f,h1,h2,h3,h4.imp id fun⟨k1,k2⟩=>⟨Nat.le_trans (Nat.add_le_add_left h.2 R) k1,Nat.le_trans (Nat.add_le_add_left h.2 R) k2⟩⟩) id,⟨t.low.le,fun i hi u e he=>(t.low.new i hi u e he).imp id fun⟨h1,h2⟩=>⟨h1,h2.imp (fun⟨j,s,f,k1,k2,k3⟩=>⟨j,s,f,Nat.le_trans (Nat.add_le_add_left h.2 R) k1,k2,k3⟩) id⟩⟩,fun i e h1 h2 h3=>t.pin i e h1 (Nat.lt_of_lt_of_le h2 (Nat.add_le_add_left h.1 R)) h3,t.ro,t.os,t.out,t.tape⟩
end
section
variable[v:Val]{P:Program}{gl:Nat→Option Nat}{b:bK}{R nr nb nt:Nat}
end
section
variable{P:Program}{gl:Nat→Option Nat}{b:bK}{R nr nb nt:Nat}{v v' v1 v2:Val}
end
end Go.Tw
namespace Go.Tw
open Go.ChangeShapes Go.RowKit
noncomputable section
structure LocP where
 o:Option Nat
 p:List Nat
def AV.kids:AV→List AV
 | .agg l=>l
 | .tup l=>l
 | .iface _ v=>[v]
 | .fn _ a b=>a++b
 |_=>[]
def AV.place:AV→Option Nat
 | .ptr id _ _ _=>some id
 | .opq k id _ _ _ _=>bif Nat.beq k 2||Nat.beq k 4 then some id else none
 | .map id=>some id
 |_=>none
def UJ:List AV→Nat→Option AV
 |[],_=>none
 |x::l,n=>bif Nat.beq n 0 then some x else UJ l (Nat.pred n)
def lg:List Nat→Nat→Nat
 |[],_=>0
 |x::l,n=>bif Nat.beq n 0 then x else lg l (Nat.pred n)
def partOf:List Nat→AV→Option Nat
 |[],v=>v.place
 |i::p,v=>match UJ v.kids i with
  |some u=>partOf p u
  |none=>none
def Ob.parts:Ob→List AV
 | .box c _=>c
 | .ro c=>c
 |_=>[]
def RP(R:Nat)(args:List AV)(h:T Ob)(b:List Nat)(l:LocP):Option Nat:=
 match l.o with
 |none=>partOf l.p (.agg args)
 |some j=>match h.get (lg b (j - R))with
  |some o=>partOf l.p (.agg o.parts)
  |none=>none
def Eo(R:Nat)(args:List AV)(h:T Ob):List LocP→List Nat→Option (List Nat)
 |[],b=>some b
 |l::ls,b=>match RP R args h b l with
  |some j=>Eo R args h ls (b++[j])
  |none=>none
def eR(h:T Ob)(id:Nat):Nat:=match h.get id with
 |some (.opq k ver _ _ _ _ _ _)=>bif Nat.beq k 2 then ver else 0
 |_=>0
def nj(h:T Ob):List Nat→Nat→List RE
 |[],_=>[]
 |id::l,i=>{idn:=i,ido:=id,ver:=eR h id,n:=0,t:=0}::nj h l (Nat.succ i)
def wm(h:T Ob):List Nat→T Ob
 |[]=>.leaf
 |id::l=>match h.get id with
  |some o=>(wm h l).set id o
  |none=>wm h l
structure HCon where
 f:FuncId
 args:List AV
 pre:bo:=[]
 nr:Nat
 np:Nat
 ns:Nat
 locs:List LocP
 ins:List (Nat×Ob)
 v:AV
 outs:List (Nat×Ob)
 nx:Nat
 fz:Bool:=false
def HCon.k(R:Nat)(c:HCon):Nat:=R+c.np+c.ns
def HCon.nb(c:HCon):Nat:=c.np+1048576*c.ns
def ya(R k d:Nat)(l:List Nat)(i:Nat):Nat:=bif Nat.blt i R then i else bif Nat.blt i k then lg l (i - R)else i - k+d
def J7(R np k:Nat)(vs:List Nat)(i:Nat):Nat:=bif Nat.blt i R then 0 else bif Nat.blt i (R+np)then lg vs (i - R)else bif Nat.blt i k then Nat.succ (lg vs (i - R))else 0
mutual
def AV.out(g vo:Nat→Nat)(θ:Nat→Sx):AV→AV
 | .sym k e=>.sym k (e.sub θ)
 | .symb b=>.symb (b.sub θ)
 | .vstr e=>.vstr (e.sub θ)
 | .opq k id _ sh x y=>.opq k (g id) (vo id) sh (x.sub θ) (y.sub θ)
 | .agg l=>.agg (xn g vo θ l)
 | .tup l=>.tup (xn g vo θ l)
 | .ptr id _ off hi=>.ptr (g id) (vo id) off hi
 | .slc a b c e f g=>.slc a b c e f g
 | .map a=>.map a
 | .yld a=>.yld a
 | .fn f a b=>.fn f (xn g vo θ a) (xn g vo θ b)
 | .iface t u=>.iface t (u.out g vo θ)
 | .bool b=>.bool b
 | .int k n=>.int k n
 | .sslc e=>.sslc e
 | .sstr e=>.sstr e
 | .str s=>.str s
 | .nilp=>.nilp
 | .nils=>.nils
 | .nilm=>.nilm
 | .anyp=>.anyp
 | .unk=>.unk
 | .nilfn=>.nilfn
 | .nili=>.nili
def xn(g vo:Nat→Nat)(θ:Nat→Sx):List AV→List AV
 |[]=>[]
 |v::l=>v.out g vo θ::xn g vo θ l
end
mutual
def AV.okOut(R:Nat)(fz:Bool)(vz:Nat→Bool):AV→Bool
 | .sym .. =>true
 | .symb _=>true
 | .vstr _=>true
 | .opq k id ver _ _ _=>(Nat.beq k 0&&(Nat.beq id gid&&fz))||(Nat.beq k 2&&(Nat.beq ver 0&& !Nat.beq id gid))||(Nat.beq k 4&&(vz id&& !Nat.beq id gid))
 | .agg l=>lf R fz vz l
 | .tup l=>lf R fz vz l
 | .ptr id ver _ _=>Nat.beq ver 0&& !Nat.beq id gid
 | .slc .. =>false
 | .map _=>false
 | .yld _=>false
 | .fn _ a b=>lf R fz vz a&&lf R fz vz b
 | .iface _ u=>u.okOut R fz vz
 | .bool _=>true
 | .int .. =>true
 | .sslc _=>false
 | .sstr _=>false
 | .str _=>true
 | .nilp=>true
 | .nils=>true
 | .nilm=>true
 | .anyp=>true
 | .unk=>true
 | .nilfn=>true
 | .nili=>true
def lf(R:Nat)(fz:Bool)(vz:Nat→Bool):List AV→Bool
 |[]=>true
 |v::l=>v.okOut R fz vz&&lf R fz vz l
end
def Ob.out(g vo:Nat→Nat)(θ:Nat→Sx)(i:Nat):Ob→Ob
 | .box c t=>.box (xn g vo θ c) t
 | .opq k ver cid sh x y c t=>.opq k (bif Nat.beq k 2 then vo i else ver) (bif Nat.beq k 2 then g cid else cid) sh (x.sub θ) (y.sub θ) c t
 |o=>o
def Ob.okOut(R:Nat)(fz:Bool)(vz:Nat→Bool)(i:Nat):Ob→Bool
 | .box c _=>vz i&&lf R fz vz c
 | .opq k ver cid (.slc l) _ _ [] _=>(Nat.beq k 2&&(Nat.beq ver 0&&(Nat.beq cid gid&&(fz||dp l))))||(Nat.beq k 4&&(Nat.beq ver 0&&(tq l&&vz i)))
 |_=>false
def Ob.isLst:Ob→Bool
 | .opq k _ _ _ _ _ _ _=>Nat.beq k 2
 |_=>false
def DV(i:Nat):List (Nat×Ob)→Bool
 |[]=>false
 |(j,o)::l=>(Nat.beq i j&&o.isLst)||DV i l
def Ka(i:Nat):List (Nat×Ob)→Bool
 |[]=>false
 |(x,_)::l=>Nat.beq x i||Ka i l
def HCon.vz(R:Nat)(c:HCon)(i:Nat):Bool:=Nat.ble (c.k R) i||(Nat.blt i (R+c.np)&& !DV i c.ins)
def xm(R:Nat)(c:HCon):List (Nat×Ob)→Bool
 |[]=>true
 |(i,o)::l=>Nat.ble (R+c.nr) i&&(Nat.blt i c.nx&&(o.okOut R c.fz (c.vz R) i&&((Nat.ble (R+c.np) i&&Nat.blt i (c.k R))==(o.isLst&&Nat.blt i (c.k R))&&xm R c l)))
def yy(outs:List (Nat×Ob)):Nat→Nat→Bool
 |0,_=>true
 |n+1,i=>Ka i outs&&yy outs n (Nat.succ i)
def HCon.ok(R:Nat)(c:HCon):Bool:=Nat.ble c.nr c.np&&(Nat.blt c.np 1048576&&(Nat.ble (c.k R) c.nx&&(c.v.okOut R c.fz (c.vz R)&&(xm R c c.outs&&(yy c.outs (c.np - c.nr+c.ns) (R+c.nr)&&Nat.blt gid R)))))
def oE(ins:List (Nat×Ob)):List Nat→Nat→Nat→Bool
 |_,_,0=>true
 |vs,i,n+1=>match vs with
  |[]=>false
  |v::vs=>(DV i ins||Nat.beq v 0)&&oE ins vs (Nat.succ i) n
def Ju(h:T Ob):List Nat→Bool
 |[]=>true
 |i::l=>(match h.get i with
  |some (.opq k _ _ _ _ _ _ _)=>Nat.beq k 2
  |_=>false)&&Ju h l
def xc:Ob→Bool
 | .box .. =>true
 | .map .. =>true
 | .opq k _ _ _ _ y _ _=>Nat.beq k 4||(Nat.beq k 2&&(match y with
  | .lit (.ofNat n)=>Nat.beq n 1
  |_=>false))
 |_=>false
def oY(h:T Ob):List Nat→Nat→Bool
 |_,0=>true
 |[],_+1=>false
 |i::l,n+1=>(match h.get i with
  |some o=>xc o
  |none=>false)&&oY h l n
def xa(g vo:Nat→Nat)(θ:Nat→Sx):List (Nat×Ob)→T Ob→T Ob
 |[],h=>h
 |(i,o)::l,h=>xa g vo θ l (h.set (g i) (o.out g vo θ i))
def tu(i:Nat):List Nat→Bool
 |[]=>false
 |x::l=>Nat.beq x i||tu i l
def vX:List Nat→List Nat→List Nat
 |[],r=>r
 |i::l,r=>vX l (bif tu i r then r else i::r)
def iS(h:T Ob):List Nat→List Nat
 |[]=>[]
 |i::l=>eR h i::iS h l
def GH(fz:Bool)(hq:Nat)(g:Nat→Nat)(i:Nat):Nat:=bif fz&&Nat.beq i gid then hq else g i
def HCon.hq(R:Nat)(c:HCon)(d:Nat):Nat:=c.nx - c.k R+d
def uo(fz:Bool)(hq:Nat)(h:T Ob):T Ob:=bif fz then h.set hq (.opq 0 0 0 (.slc []) (.lit 0) (.lit 0) [] 0)else h
def HCon.ret(R:Nat)(c:HCon)(l vs:List Nat)(θ:Nat→Sx)(σ:St):CR:=
 .ret (c.v.out (GH c.fz (c.hq R σ.next) (ya R (c.k R) σ.next l)) (J7 R c.np (c.k R) vs) θ) {heap:=uo c.fz (c.hq R σ.next) (xa (GH c.fz (c.hq R σ.next) (ya R (c.k R) σ.next l)) (J7 R c.np (c.k R) vs) θ c.outs σ.heap),next:=(bif c.fz then 1 else 0)+c.hq R σ.next,rd:=vX l σ.rd,wr:=vX (l.drop c.nr) σ.wr}
def HCon.try(R:Nat)(dec:Bx→Option Bool)(c:HCon)(args:List AV)(σ:St):CR:=
 match Eo R args σ.heap c.locs []with
 |none=>.no
 |some l=>
  bif Nat.beq l.length (c.np+c.ns)&&(jj R (c.k R) σ.next (nj σ.heap l R)&&(Nat.ble R σ.next&&(oE c.ins (iS σ.heap l) R c.np&&(Ju σ.heap (l.drop c.np)&&oY σ.heap l c.np))))then
   match FN R (nj σ.heap l R) args c.args,FK R (c.k R) (nj σ.heap l R) .leaf (wm σ.heap l) c.ins with
   |some e1,some e2=>match lV (e1++e2)with
    |some nl=>bif xu (nameAt nl) nl&&ve dec (nameAt nl) c.pre then c.ret R l (iS σ.heap l) (nameAt nl) σ else .no
    |none=>.no
   |_,_=>.no
  else .no
def fU(R:Nat)(dec:Bx→Option Bool):List HCon→FuncId→List AV→St→CR
 |[],_,_,_=>.no
 |c::l,f,args,σ=>bif Nat.beq c.f f then(match c.try R dec args σ with
  | .no=>fU R dec l f args σ
  |r=>r)else fU R dec l f args σ
def qG(h1 h2:FuncId→List AV→St→CR)(f:FuncId)(args:List AV)(σ:St):CR:=match h1 f args σ with
 | .no=>h2 f args σ
 |r=>r
end
end Go.Tw
namespace Go.Tw
open Go.ChangeShapes Go.RowKit
section
variable{v:Val}{θ g':Nat→Sx}{φ' φ₂:PM}{R:Nat}{fz:Bool}{g vo:Nat→Nat}{vz:Nat→Bool}
structure OutOk(R:Nat)(φ' φ₂:PM)(fz:Bool)(g vo:Nat→Nat)(vz:Nat→Bool):Prop where
 at0:∀i e,i≠gid→φ' i 0=some e→φ₂ (g i) (vo i)=some e
 z:∀i,vz i=true→vo i=0
 pic:fz=true→∀n e,φ' gid n=some e→φ₂ gid n=some e∨φ₂ (g gid) n=some e
theorem xq{a b:Nat}(h:(!Nat.beq a b)=true):a≠b:=fun e=>by subst e;simp at h
theorem IS(hm:OutOk R φ' φ₂ fz g vo vz)(hf:fz=true){b:Nat}{s:List Value}(h:Pict φ' gid b s):Pict φ₂ (g gid) b s:=by obtain⟨j,n,e,h1,h2,h3⟩:=h;have:j=gid:=h1.elim id id;subst this;rcases hm.pic hf n e h2 with h|h;{exact⟨gid,n,e,.inl rfl,h,h3⟩};exact⟨g gid,n,e,.inr rfl,h,h3⟩
theorem D5(hm:OutOk R φ' φ₂ fz g vo vz)(hf:fz=true){sh:Sh}{x:Dat}{z:Value}(h:VW φ' gid sh x z):VW φ₂ (g gid) sh x z:=by obtain⟨l,a,n,c,h1,h2,h3⟩:=h;exact⟨l,a,n,c,h1,h2,h3.mono fun _ _=>IS hm hf⟩
mutual
theorem B6(hm:OutOk R φ' φ₂ fz g vo vz):∀{y:AV} {x:Value},y.okOut R fz vz=true→@VR (v.at θ) φ' y x→@VR v φ₂ (y.out g vo θ) x
 | .sym k e,x,_,h=>by cases h;have:@Sx.eval (v.at θ) e=@Sx.eval v (e.sub θ):=congrArg Dat.toI (Sx.sub_dat v θ e).symm;rw[this];exact @VR.sym v _ _ _
 | .symb b,x,_,h=>by cases h;rw[←Bx.sub_eval];exact @VR.symb v _ _
 | .vstr e,x,_,h=>by
  cases h with
  |vstr s hs=>exact @VR.vstr v _ _ s ((Sx.sub_dat v θ e).trans hs)
 | .opq k id ver sh X Y,x,ho,h=>by
  cases h with
  |opq _ hk=>refine @VR.opq v _ _ _ _ _ _ _ _ ?_;rw[Sx.sub_dat,Sx.sub_dat];simp only[AV.okOut,dH,al]at ho;rcases ho with(⟨h1,h2,h3⟩|⟨h1,h2,h3⟩)|⟨h1,h2,h3⟩;{have h1:=ae h1;have h2:=ae h2;subst h1;subst h2;exact D5 hm h3 hk};{have h1:=ae h1;have h2:=ae h2;subst h1;subst h2;have hk:Yu φ' id 0 _ _ _:=hk;rcases hk with q|⟨q1,l,e,c,n,q2,q3,q4⟩;{exact .inl q};exact .inr ⟨q1,l,e,c,n,q2,hm.at0 id e (xq h3) q3,q4⟩};have h1:=ae h1;subst h1;have hk:Ys φ' id _:=hk;obtain⟨e,q1,q2⟩:=hk;exact⟨e,by rw[←hm.z id h2];exact hm.at0 id e (xq h3) q1,q2⟩
 | .agg l,x,ho,h=>by
  simp only[AV.okOut]at ho;cases h with
  |agg l' q=>exact @VR.agg v _ _ _ (j3 hm ho q)
 | .tup l,x,ho,h=>by
  simp only[AV.okOut]at ho;cases h with
  |tup l' q=>exact @VR.tup v _ _ _ (j3 hm ho q)
 | .ptr id ver off hi,x,ho,h=>by
  simp only[AV.okOut,al]at ho;have h1:=ae ho.1;subst h1;cases h with
  |ptr e o he hd hh hq=>exact @VR.ptr v _ _ _ _ _ e o (hm.at0 _ _ (xq ho.2) he) hd hh hq
 | .fn f a b,x,ho,h=>by
  simp only[AV.okOut,al]at ho;cases h with
  |fn _ a' b' ha hb=>exact @VR.fn v _ f _ _ a' b' (j3 hm ho.1 ha) (j3 hm ho.2 hb)
 | .iface t u,x,ho,h=>by
  simp only[AV.okOut]at ho;cases h with
  |iface _ hu=>exact @VR.iface v _ t _ _ (B6 hm ho hu)
 | .bool b,x,_,h=>by cases h;exact @VR.bool v _ _
 | .int k n,x,_,h=>by cases h;exact @VR.int v _ _ _
 | .str s,x,_,h=>by cases h;exact @VR.str v _ _
 | .nilp,x,_,h=>by cases h;exact @VR.nilp v _
 | .nils,x,_,h=>by cases h;exact @VR.nils v _
 | .nilm,x,_,h=>by cases h;exact @VR.nilm v _
 | .nilfn,x,_,h=>by cases h;exact @VR.nilfn v _
 | .nili,x,_,h=>by cases h;exact @VR.nili v _
 | .anyp,x,_,h=>by cases h with|anyp p=>exact @VR.anyp v _ p
 | .unk,x,_,h=>by cases h with|unk _ hv=>exact @VR.unk v _ _ hv
 | .slc ..,x,ho,h=>by simp [AV.okOut]at ho
 | .map _,x,ho,h=>by simp [AV.okOut]at ho
 | .yld _,x,ho,h=>by simp [AV.okOut]at ho
 | .sslc _,x,ho,h=>by simp [AV.okOut]at ho
 | .sstr _,x,ho,h=>by simp [AV.okOut]at ho
theorem j3(hm:OutOk R φ' φ₂ fz g vo vz):∀{y:List AV} {x:List Value},lf R fz vz y=true→@VRL (v.at θ) φ' y x→@VRL v φ₂ (xn g vo θ y) x
 |[],x,_,h=>by cases h;exact @VRL.nil v _
 |y::l,x,ho,h=>by
  simp only[lf,al]at ho;cases h with
  |cons hv ht=>exact @VRL.cons v _ _ _ _ _ (B6 hm ho.1 hv) (j3 hm ho.2 ht)
end
theorem eg:∀{l:List AV},(xn g vo θ l).length=l.length
 |[]=>rfl
 |v::l=>by simp [xn,eg (l:=l)]
theorem MS(hm:OutOk R φ' φ₂ fz g vo vz){v1 v2:Val}{s:Sh}{d:Dat}{z:Value}(hf:fz=true∨eP s=true)(h:@VR v1 φ' (dU gid s d) z):@VR v2 φ₂ (dU (g gid) s d) z:=by
 cases s with
 |int k=>cases h;exact @VR.int v2 _ _ _
 |bool=>cases h;exact @VR.bool v2 _ _
 |str=>cases h;exact @VR.str v2 _ _
 |slc l=>
  rcases hf with hf|hf
  ·cases h with
   |opq _ hk=>refine @VR.opq v2 _ _ _ _ _ _ _ _ ?_;have hk:VW φ' gid _ _ _:=hk;exact D5 hm hf hk
  simp [eP]at hf
theorem vw{c c':Nat}:∀{l:List Sh} {r:List Dat} {x:Nat} {a:AV},(bE c l r)[x]? =some a→∃s d,s∈l∧a=dU c s d∧(bE c' l r)[x]? =some (dU c' s d)
 |[],_,x,a,h=>by simp [bE]at h
 |_::_,[],x,a,h=>by simp [bE]at h
 |s::l,d::r,x,a,h=>by
  cases x with
  |zero=>simp only[bE,List.getElem?_cons_zero,aw]at h;exact⟨s,d,by simp,h.symm,by simp [bE]⟩
  |succ x=>simp only[bE,List.getElem?_cons_succ]at h;obtain⟨s',d',h1,h2,h3⟩:=vw (c':=c') h;exact⟨s',d',List.mem_cons_of_mem _ h1,h2,by simpa[bE]using h3⟩
theorem mK(c c':Nat):∀(l:List Sh) (r:List Dat),(bE c l r).length=(bE c' l r).length
 |[],_=>by simp [bE]
 |_::_,[]=>by simp [bE]
 |s::l,d::r=>by simp [bE,mK c c' l r]
theorem qk(c c':Nat)(l:List Sh):∀(rows:List (List Dat)),(ah c l rows).length=(ah c' l rows).length
 |[]=>rfl
 |r::rows=>by have:=qk c c' l rows;simp only[ah,List.map_cons,List.flatten_cons,cg]at this⊢;rw[mK c c' l r,this]
theorem tb{c c':Nat}{l:List Sh}:∀{rows:List (List Dat)} {x:Nat} {a:AV},(ah c l rows)[x]? =some a→∃s d,s∈l∧a=dU c s d∧(ah c' l rows)[x]? =some (dU c' s d)
 |[],x,a,h=>by simp [ah]at h
 |r::rows,x,a,h=>by have hl:=mK c c' l r;simp only[ah,List.map_cons,List.flatten_cons]at h⊢;rcases aS x (bE c l r).length with hx|hx;{rw[List.getElem?_append_left hx]at h;rw[List.getElem?_append_left (by omega)];exact vw h};rw[List.getElem?_append_right hx]at h;rw[List.getElem?_append_right (by omega),←hl];exact tb (rows:=rows) h
theorem RC(hm:OutOk R φ' φ₂ fz g vo vz){w:World}{i:Nat}{o:Ob}(hgR:R≤g i)(ho:o.okOut R fz vz i=true)(hig:i≠gid)(hnew:∀u,vo i<u→φ₂ (g i) u=none)
 (hnone:φ' i 0=none→φ₂ (g i) (vo i)=none)(h:@Rep (v.at θ) R φ' w i (some o)):@Rep v R φ₂ w (g i) (some (o.out g vo θ i)):=by
 cases o with
 |box c t=>simp only[Ob.okOut,al]at ho;obtain⟨_,e,cs,fl,fh,he,hb,h1,h2,h3,h4,h5,h6⟩:=h;have hz:=hm.z i ho.1;exact⟨hgR,e,cs,fl,fh,by rw[←hz];exact hm.at0 i e hig he,hb,h1,h2,by rw[eg];exact h3,by rw[eg];exact h4,j3 hm ho.2 h5,by rw[eg];exact h6⟩
 |opq k ver cid sh x y c t=>
  cases sh with
  |slc l=>
   cases c with
   |cons a c=>simp [Ob.okOut]at ho
   |nil=>
    simp only[Ob.okOut,dH,al]at ho;rcases ho with⟨h1,h2,h3,hfl⟩|⟨h1,h2,h3,h4⟩
    ·have h1:=ae h1;have h2:=ae h2;have h3:=ae h3;subst h1;subst h2;subst h3;show @Rep v R φ₂ w (g i) (some (.opq 2 (vo i) (g gid) (.slc l) (x.sub θ) (y.sub θ) [] t));obtain⟨l',rows,q1,q2,q3,q4⟩:=h;simp only[Sh.slc.injEq]at q1;subst q1;refine⟨l,rows,rfl,by rw[Sx.sub_dat];exact q2,q3,?_⟩;rw[Sx.sub_dat];have hll:=qk gid (g gid) l rows;rcases q4 with⟨a1,a2,a3,a4,a5⟩|⟨a1,⟨e,a2,a3⟩,a4⟩;{refine .inl ⟨a1,a2,rfl,hgR,fun u hu=> ?_⟩;rcases Nat.eq_or_lt_of_le hu with hu|hu;{rw[←hu];exact hnone (a5 0 (aE 0))};exact hnew u hu};refine .inr ⟨a1,⟨e,hm.at0 i e hig a2,by simp only[List.append_nil]at a3⊢;rw[←hll];exact a3⟩,?_⟩;obtain⟨_,b1,b2,b3,b4,b5,b6,b7⟩:=a4;refine⟨hgR,aE _,Nat.lt_succ_self _,aE _,fun u hu=>hnew u hu,fun u hu=> ?_,fun u1 u2 e1 e2 c1 c2 d1 d2 hbk=> ?_,fun u f c1 c2 c3 c4=> ?_⟩
     ·have hu:u=vo i:=by
       rcases hu with hu|hu;{exact hu};omega
      subst hu;obtain⟨e',cs,fl,fh,d1,d2,d3,d4,d5,d6,d7⟩:=b5 0 (.inl rfl);have d4:(ah (g gid) l rows++[]).length≤e'.hi:=(by simp only[bJ,if_true,List.append_nil]at d4⊢;rw[←hll];exact d4);refine⟨e',cs,fl,fh,hm.at0 i e' hig d1,d2,d3,?_,?_,d6,fun x0 a f1 f2 f3=> ?_⟩;{show bJ (vo i) _ (vo i) e'≤e'.hi;simpa[bJ]using d4};{show bJ (vo i) _ (vo i) e'≤_;simp [bJ]};have f2:x0<(ah (g gid) l rows++[]).length:=(by simpa[bJ]using f2);obtain⟨s,d,hs,rfl,hat⟩:=tb (c:=g gid) (c':=gid) (by simpa using f3);obtain⟨a',g1,g2⟩:=d7 x0 _ f1 (by simp only[bJ,if_true,List.append_nil]at f2⊢;rw[hll];exact f2) (by simpa using hat);refine⟨a',g1,MS hm ?_ g2⟩;rcases hfl with h|h;{exact .inl h};exact .inr (List.all_eq_true.1 h s hs)
     ·have e1':u1=vo i:=by
       rcases c1 with c1|c1;{exact c1};omega
      have e2':u2=vo i:=(by rcases c2 with c2|c2;{exact c2};omega);subst e1';subst e2';rw[d1]at d2;cases d2;exact⟨rfl,rfl⟩
     omega
    have h1:=ae h1;have h2:=ae h2;have h3:=jL h3;subst h1;subst h2;subst h3;show @Rep v R φ₂ w (g i) (some (.opq 4 0 cid (.slc r8) (x.sub θ) (y.sub θ) [] t));obtain⟨l',rows,es,q1,q2,q3,q4,_,e,es',clock,q5,q6,q7⟩:=h;simp only[Sh.slc.injEq]at q1;subst q1;exact⟨r8,rows,es,rfl,by rw[Sx.sub_dat];exact q2,q3,q4,hgR,e,es',clock,by rw[←hm.z i h4];exact hm.at0 i e hig q5,q6,yh q4 (fun r hr=>(q3 r hr).1) q7⟩
  |_=>simp [Ob.okOut]at ho
 |_=>simp [Ob.okOut]at ho
end
end Go.Tw
namespace Go.Tw
open Go.ChangeShapes Go.RowKit
def HCon.Sound(F:Nat→Dat→Dat→Dat→Dat)(P:Program)(gl:Nat→Option Nat)(b:bK)(R:Nat)(c:HCon):Prop:=
 c.ok R=true∧∀v:Val,v.fn=F→@Holds v c.pre→∀(w:World) (φ:PM) (args':Array Value),Hold v gl b R 0 .leaf (aA b c.ins (c.k R)) {tmps:= #[],defers:=[]} w φ→@VRL v φ c.args args'.toList→
  Calls P c.f args' w fun e w'=>∃φ' x,e=.returned x∧@VR v φ' c.v x∧Trans R c.nr c.nb φ w φ' w'∧WF R φ' w'∧(∀i o,(i,o)∈c.outs→@Rep v R φ' w' i (some o))∧(∀i,c.nx≤i→∀u,φ' i u=none)∧∀i,i<R→@Rep v R (φ'.low R) w' i (b.get i)
theorem J9{i:Nat}:∀{l:List (Nat×Ob)},Ka i l=true↔∃o,(i,o)∈l:=by
 intro l
 induction l with
 |nil=>simp [Ka]
 |cons x l ih=>
  obtain⟨j,o⟩:=x;simp only[Ka,dH,ih,dB,il];constructor
  ·rintro (h|⟨o',h⟩)
   {exact⟨o,.inl ⟨(ae h).symm,rfl⟩⟩};exact⟨o',.inr h⟩
  rintro ⟨o',⟨h,_⟩|h⟩
  {exact .inl (by rw[h];exact Nat.beq_refl j)};exact .inr ⟨o',h⟩
theorem Kb{i:Nat}:∀{l:List Nat},tu i l=true↔i∈l:=by
 intro l
 induction l with
 |nil=>simp [tu]
 |cons x l ih=>
  simp only[tu,dH,ih,dB];constructor
  ·rintro (h|h)
   {exact .inl (ae h).symm};exact .inr h
  rintro (h|h)
  {exact .inl (by rw[h];exact Nat.beq_refl x)};exact .inr h
theorem fD{i:Nat}:∀{l r:List Nat},i∈vX l r↔i∈r∨i∈l:=by
 intro l
 induction l with
 |nil=>intro r;simp [vX]
 |cons x l ih=>
  intro r;simp only[vX,ih,ai];split
  ·rename_i h;have h:=Kb.1 h;constructor
   ·rintro (h'|h')
    {exact .inl h'};exact .inr (List.mem_cons_of_mem _ h')
   rintro (h'|h')
   {exact .inl h'};rcases List.mem_cons.1 h' with rfl|h';{exact .inl h};exact .inr h'
  simp only[dB];constructor
  ·rintro ((e|h')|h')
   {exact .inr (.inl e)};{exact .inl h'};exact .inr (.inr h')
  rintro (h'|e|h')
  {exact .inl (.inr h')};{exact .inl (.inl e)};exact .inr h'
theorem zF:∀{l:List Nat} {i:Nat} (h:i<l.length),lg l i=l[i]
 |x::l,0,_=>by simp [lg]
 |x::l,i+1,h=>by simp only[lg,Nat.pred_succ];have:Nat.beq (i+1) 0=false:=rfl;rw[this];exact zF (by simpa using h)
theorem uI{h:T Ob}:∀{l:List Nat} {i:Nat} (hi:i<l.length),lg (iS h l) i=eR h l[i]
 |x::l,0,_=>by simp [iS,lg]
 |x::l,i+1,hi=>by simp only[iS,lg,Nat.pred_succ];have:Nat.beq (i+1) 0=false:=rfl;rw[this];exact uI (by simpa using hi)
theorem HA{h:T Ob}:∀{l:List Nat} {s i:Nat} {r:RE},ku (nj h l s) i=some r→∃j,∃hj:j<l.length,i=s+j∧r.ido=l[j]∧r.ver=eR h l[j]∧r.n=0:=by
 intro l
 induction l with
 |nil=>intro s i r h;simp [nj,ku]at h
 |cons x l ih=>intro s i r hr;simp only[nj,ku,ai]at hr;split at hr;{rename_i hb;cases hr;exact⟨0,by simp,by have:=ae hb;simpa using this.symm,rfl,rfl,rfl⟩};obtain⟨j,hj,h1,h2,h3,h4⟩:=ih hr;exact⟨j+1,by simpa using hj,by simp only[Nat.succ_eq_add_one]at h1;omega,by simpa using h2,by simpa using h3,h4⟩
theorem ni{h:T Ob}:∀{l:List Nat} {s j:Nat} (hj:j<l.length),∃r,ku (nj h l s) (s+j)=some r∧r.ido=l[j]∧r.ver=eR h l[j]∧r.n=0:=by
 intro l
 induction l with
 |nil=>intro s j hj;simp at hj
 |cons x l ih=>
  intro s j hj;cases j with
  |zero=>exact⟨{idn:=s,ido:=x,ver:=eR h x,n:=0,t:=0},by simp [nj,ku],rfl,rfl,rfl⟩
  |succ j=>obtain⟨r,h1,h2,h3,h4⟩:=ih (s:=Nat.succ s) (j:=j) (by simpa using hj);refine⟨r,?_,by simpa using h2,by simpa using h3,h4⟩;simp only[nj,ku,ai];rw[if_neg (fun hb=>by have:=ae hb;omega),show s+(j+1)=Nat.succ s+j by omega];exact h1
theorem G1{h:T Ob}:∀(l:List Nat) (i:Nat),(wm h l).get i=if i∈l then h.get i else none:=by
 intro l
 induction l with
 |nil=>intro i;simp [wm,T.get_leaf]
 |cons x l ih=>intro i;simp only[wm];split;{rename_i o ho;rw[T.get_set];by_cases e:i=x;{subst e;simp [ho]};rw[if_neg e,ih];simp [e]};rename_i ho;rw[ih];by_cases e:i=x;{subst e;simp [ho]};simp [e]
theorem sT{g vo:Nat→Nat}{θ:Nat→Sx}:∀(l:List (Nat×Ob)) (h:T Ob) (i:Nat),(∃k o,(k,o)∈l∧i=g k∧(xa g vo θ l h).get i=some (o.out g vo θ k))∨
 ((∀k o,(k,o)∈l→i≠g k)∧(xa g vo θ l h).get i=h.get i):=by
 intro l
 induction l with
 |nil=>intro h i;exact .inr ⟨fun _ _ h=>(by cases h),rfl⟩
 |cons x l ih=>intro h i;obtain⟨k,o⟩:=x;simp only[xa];rcases ih (h.set (g k) (o.out g vo θ k)) i with⟨k',o',h1,h2,h3⟩|⟨h1,h2⟩;{exact .inl ⟨k',o',List.mem_cons_of_mem _ h1,h2,h3⟩};rw[T.get_set]at h2;split at h2;{rename_i e;exact .inl ⟨k,o,by simp,e,h2⟩};rename_i e;refine .inr ⟨fun k' o' hm=> ?_,h2⟩;rcases List.mem_cons.1 hm with e'|hm;{cases e';exact e};exact h1 k' o' hm
theorem vW{outs:List (Nat×Ob)}:∀{n i:Nat},yy outs n i=true→∀j,i≤j→j<i+n→∃o,(j,o)∈outs:=by
 intro n
 induction n with
 |zero=>intro i _ j a b;omega
 |succ n ih=>intro i h j a b;simp only[yy,al]at h;rcases Nat.eq_or_lt_of_le a with rfl|a;{exact J9.1 h.1};exact ih h.2 j (by simp only[Nat.succ_eq_add_one];omega) (by simp only[Nat.succ_eq_add_one];omega)
theorem j0{R:Nat}{c:HCon}:∀{l:List (Nat×Ob)},xm R c l=true→∀i o,(i,o)∈l→R+c.nr≤i∧i<c.nx∧o.okOut R c.fz (c.vz R) i=true∧((R+c.np≤i∧i<c.k R)↔(o.isLst=true∧i<c.k R)):=by
 intro l
 induction l with
 |nil=>intro _ i o h;cases h
 |cons x l ih=>obtain⟨j,o'⟩:=x;intro h i o hm;simp only[xm,al]at h;rcases List.mem_cons.1 hm with e|hm;{simp only[il]at e;obtain⟨rfl,rfl⟩:=e;refine⟨aB h.1,aR h.2.1,h.2.2.1,?_⟩;have h4:=eq_of_beq h.2.2.2.1;refine⟨fun hx=> ?_,fun hx=> ?_⟩;{rw[show Nat.ble (R+c.np) i=true from Nat.ble_eq_true_of_le hx.1,show Nat.blt i (c.k R)=true from Nat.ble_eq_true_of_le hx.2]at h4;have h4:=h4.symm;simp only[Bool.and_true]at h4;exact⟨h4,hx.2⟩};rw[hx.1,show Nat.blt i (c.k R)=true from Nat.ble_eq_true_of_le hx.2]at h4;simp only[Bool.and_true]at h4;exact⟨aB h4,hx.2⟩};exact ih h.2.2.2.2 i o hm
theorem EM{ins:List (Nat×Ob)}:∀{n:Nat} {vs:List Nat} {i:Nat},oE ins vs i n=true→∀j,j<n→DV (i+j) ins=true∨lg vs j=0:=by
 intro n
 induction n with
 |zero=>intro vs i _ j h;omega
 |succ n ih=>
  intro vs i h j hj;cases vs with
  |nil=>simp [oE]at h
  |cons x vs=>
   simp only[oE,al,dH]at h;cases j with
   |zero=>exact h.1.imp id fun h=>by simpa[lg]using ae h
   |succ j=>have:=ih h.2 j (by omega);rw[show i+(j+1)=Nat.succ i+j by omega];refine this.imp id fun h=> ?_;simp only[lg,Nat.pred_succ];have:Nat.beq (j+1) 0=false:=rfl;rw[this];exact h
end Go.Tw
namespace Go.Tw
open Go.ChangeShapes Go.RowKit
section
variable{v:Val}{F:Nat→Dat→Dat→Dat→Dat}{P:Program}{gl:Nat→Option Nat}{b:bK}{R:Nat}{p:bo}{D:Nat→Prop}{φ:PM}{σ:St}{w:World}
theorem Jv(hb:BaseOk gl b R){hk:FuncId→List AV→St→CR}(hi:@Inv v R (bX gl b p hk) D φ σ w)(v2:Val)(i:Nat)(hlt:i<R):@Rep v2 R (φ.low R) w i (b.get i):=by
 have hr:@Rep v R (φ.low R) w i (b.get i):=JZ hi i hlt;by_cases hg:i=gid;{subst hg;obtain⟨ver,cid,sh,x,y,t,hgb⟩:=hb.gid_at;rw[hgb]at hr⊢;exact hr};cases hbi:b.get i with
 |none=>trivial
 |some o=>obtain⟨c,rfl,hcl⟩:=hb.only i o hbi hg;rw[hbi]at hr;obtain⟨e,cs,t,fr,he,hbk,h1,h2,h3⟩:=hr;have h4:@VRL v2 (aM R [] (φ.low R)) c _:=lr hcl (fun q hq=>by cases hq) h3;refine⟨e,cs,t,fr,he,hbk,h1,h2,@VRL.mono v2 _ _ (fun j u f hf=> ?_) _ _ h4⟩;unfold aM at hf;split at hf;{exact hf};split at hf;{simp [ku]at hf};cases hf
theorem HCon.try_ret{dec:Bx→Option Bool}{c:HCon}{args:List AV}(h:c.try R dec args σ≠.no):∃l e1 e2 nl,l.length=c.np+c.ns∧jj R (c.k R) σ.next (nj σ.heap l R)=true∧R≤σ.next∧
 oE c.ins (iS σ.heap l) R c.np=true∧Ju σ.heap (l.drop c.np)=true∧oY σ.heap l c.np=true∧FN R (nj σ.heap l R) args c.args=some e1∧FK R (c.k R) (nj σ.heap l R) .leaf (wm σ.heap l) c.ins=some e2∧
 lV (e1++e2)=some nl∧ve dec (nameAt nl) c.pre=true∧c.try R dec args σ=c.ret R l (iS σ.heap l) (nameAt nl) σ:=by
 unfold HCon.try at h⊢;split at h;{exact absurd rfl h};rename_i l hl;rw[ai]at h⊢;split at h;{rename_i hc;rw[if_pos hc];simp only[al]at hc;obtain⟨h1,h2,h3,h4,h5,h6⟩:=hc;split at h;{rename_i e1 e2 he1 he2;split at h;{rename_i nl hnl;rw[ai]at h⊢;split at h;{rename_i hd;rw[if_pos hd];simp only[al]at hd;exact⟨l,e1,e2,nl,ae h1,h2,aB h3,h4,h5,h6,he1,he2,hnl,hd.2,rfl⟩};exact absurd rfl h};exact absurd rfl h};exact absurd rfl h};exact absurd rfl h
theorem MP{h:T Ob}:∀{l:List Nat},Ju h l=true→∀i∈l,∃ver cid sh x y c t,h.get i=some (.opq 2 ver cid sh x y c t):=by
 intro l
 induction l with
 |nil=>intro _ i hi;cases hi
 |cons x l ih=>intro hl i hi;simp only[Ju,al]at hl;rcases List.mem_cons.1 hi with rfl|hi;{have h1:=hl.1;split at h1;{rename_i k ver cid sh x y c t ho;have:=ae h1;subst this;exact⟨ver,cid,sh,x,y,c,t,ho⟩};cases h1};exact ih hl.2 i hi
theorem Fp{h:T Ob}:∀{n:Nat} {l:List Nat},oY h l n=true→∀j (hj:j<l.length),j<n→∃o,h.get l[j]=some o∧xc o=true:=by
 intro n
 induction n with
 |zero=>intro l _ j _ h;omega
 |succ n ih=>
  intro l hl j hj hjn;cases l with
  |nil=>simp [oY]at hl
  |cons x l=>
   simp only[oY,al]at hl;cases j with
   |zero=>have h1:=hl.1;split at h1;{rename_i o ho;exact⟨o,ho,h1⟩};cases h1
   |succ j=>exact ih hl.2 j (by simpa using hj) (by omega)
structure Nums(R np ns d:Nat)(l:List Nat)(g:Nat→Nat):Prop where
 low:∀i,i<R→g i=i
 mid:∀j (h:j<l.length),g (R+j)=l[j]
 top:∀i,R+np+ns≤i→g i=i - (R+np+ns)+d
theorem DL{R np ns d k:Nat}{l:List Nat}(hl:l.length=np+ns)(hk:k=R+np+ns):Nums R np ns d l (ya R k d l):=by
 subst hk;have hbt:∀a b:Nat,a<b→Nat.blt a b=true:=fun a b h=>Nat.ble_eq_true_of_le h;have hbf:∀a b:Nat,b≤a→Nat.blt a b=false:=fun a b h=>by
  cases hx:Nat.blt a b with
  |true=>have:=aR hx;omega
  |false=>rfl
 refine⟨fun i hi=> ?_,fun j hj=> ?_,fun i hi=> ?_⟩;{simp [ya,hbt _ _ hi]};{simp only[ya,hbf (R+j) R (by omega),hbt (R+j) (R+np+ns) (by omega),cond_false,cond_true,Nat.add_sub_cancel_left];exact zF hj};simp [ya,hbf i R (by omega),hbf i (R+np+ns) hi]
structure Vers(R np ns:Nat)(vs:List Nat)(vo:Nat→Nat):Prop where
 low:∀i,i<R→vo i=0
 pin:∀j,j<np→vo (R+j)=lg vs j
 lst:∀j,np≤j→j<np+ns→vo (R+j)=lg vs j+1
 top:∀i,R+np+ns≤i→vo i=0
theorem Lp{R np ns k:Nat}{vs:List Nat}(hk:k=R+np+ns):Vers R np ns vs (J7 R np k vs):=by
 subst hk;have hbt:∀a b:Nat,a<b→Nat.blt a b=true:=fun a b h=>Nat.ble_eq_true_of_le h;have hbf:∀a b:Nat,b≤a→Nat.blt a b=false:=fun a b h=>by
  cases hx:Nat.blt a b with
  |true=>have:=aR hx;omega
  |false=>rfl
 refine⟨fun i hi=> ?_,fun j hj=> ?_,fun j h1 h2=> ?_,fun i hi=> ?_⟩;{simp [J7,hbt _ _ hi]};{simp [J7,hbf (R+j) R (by omega),hbt (R+j) (R+np) (by omega)]};{simp [J7,hbf (R+j) R (by omega),hbf (R+j) (R+np) (by omega),hbt (R+j) (R+np+ns) (by omega)]};simp [J7,hbf i R (by omega),hbf i (R+np) (by omega),hbf i (R+np+ns) hi]
theorem Nn(hb:BaseOk gl b R)(hp:@Holds v p)(hF:v.fn=F){c:HCon}(hcs:c.Sound F P gl b R){hk:FuncId→List AV→St→CR}{args:List AV}{args':Array Value}(hi:@Inv v R (bX gl b p hk) D φ σ w)(ha:@VRL v φ args args'.toList)
 {x:AV}{σ':St}(hret:c.try R (eW p) args σ=.ret x σ')(hkn:Known D σ σ')(hfr:Free φ σ σ'):
 Calls P c.f args' w fun e w'=>∃φ' v',e=.returned v'∧@VR v φ' x v'∧@Post v R D φ σ w σ' φ' w':=by
 obtain⟨l,e1,e2,nl,hlen,hre,hRn,hvs,hls,hps,hm1,hm2,hnl,hpre,hte⟩:=HCon.try_ret (σ:=σ) (R:=R) (dec:=eW p) (c:=c) (args:=args) (by rw[hret];simp);rw[hte]at hret;unfold HCon.ret at hret;generalize hθ:nameAt nl=θ at*;have hkk:c.k R=R+c.np+c.ns:=rfl;have hN:Nums R c.np c.ns σ.next l (ya R (c.k R) σ.next l):=DL hlen hkk;have hV:Vers R c.np c.ns (iS σ.heap l) (J7 R c.np (c.k R) (iS σ.heap l)):=Lp hkk;generalize ya R (c.k R) σ.next l=g0 at*;generalize hgd:GH c.fz (c.hq R σ.next) g0=g at*;generalize J7 R c.np (c.k R) (iS σ.heap l)=vo at*;cases hret;obtain⟨hok,hsound⟩:=hcs;simp only[HCon.ok,al]at hok;obtain⟨ok1,ok2,ok3,ok4,ok5,ok6⟩:=hok;have ok1:=aB ok1;have ok2:=aR ok2;have ok3:=aB ok3;have hgR:=hb.gid_lt;have hgn:∀i,i≠gid→g i=g0 i:=fun i h=>by
  have:Nat.beq i gid=false:=by
   cases hx:Nat.beq i gid with
   |true=>exact absurd (ae hx) h
   |false=>rfl
  rw[←hgd];simp [GH,this]
 have hNlow:∀i,i<R→i≠gid→g i=i:=fun i h1 h2=>(hgn i h2).trans (hN.low i h1);have hNmid:∀j (h:j<l.length),g (R+j)=l[j]:=fun j h=>(hgn _ (by omega)).trans (hN.mid j h);have hNtop:∀i,R+c.np+c.ns≤i→g i=i - (R+c.np+c.ns)+σ.next:=fun i h=>(hgn i (by omega)).trans (hN.top i h);have hgz:c.fz=true→g gid=c.hq R σ.next:=fun h=>by rw[←hgd];simp [GH,h]
 have hnbp:cK c.nb=c.np:=by show(c.np+1048576*c.ns)%1048576=c.np;omega
 have hnbs:jh c.nb=c.np+c.ns:=by show(c.np+1048576*c.ns)%1048576+(c.np+1048576*c.ns) / 1048576=_;omega
 have heq:EqsOk v (v.at θ) (e1++e2):=s5 hθ hnl;obtain⟨heq1,heq2⟩:=heq.app
 -- the numbers that are told
 have hre':=hre;simp only[jj,al,oD]at hre';have hlR:∀j (h:j<l.length),R≤l[j]∧l[j]<σ.next:=fun j h=>by obtain⟨r,h1,h2,_,_⟩:=ni (h:=σ.heap) (s:=R) h;have:=hre'.2 r (bn h1).1;exact⟨by rw[←h2];exact aB this.1.1.1,by rw[←h2];exact aR this.2⟩
 have hlinj:∀i j (hi':i<l.length) (hj:j<l.length),l[i]=l[j]→i=j:=fun i j hi' hj he=>by obtain⟨r,h1,h2,_,_⟩:=ni (h:=σ.heap) (s:=R) hi';obtain⟨r',h1',h2',_,_⟩:=ni (h:=σ.heap) (s:=R) hj;have:=vp hre'.1 (bn h1).1 (bn h1').1 (by rw[h2,h2',he]);have a1:=(bn h1).2;have a2:=(bn h1').2;rw[this]at a1;omega
 have hlD:∀j (h:j<l.length),D l[j]:=fun j h=>hkn l[j] (.inl (fD.2 (.inr (List.getElem_mem h)))) (hlR j h).2;let φ1:PM:=aM R (nj σ.heap l R) φ;have hφ1:∀i u e,R≤i→φ1 i u=some e→u=0∧∃j,∃hj:j<l.length,i=R+j∧φ l[j] (eR σ.heap l[j])=some e:=fun i u e hRi he=>by obtain⟨h1,r,f,h2,h3,rfl⟩:=ff hRi he;obtain⟨j,hj,q1,q2,q3,q4⟩:=HA h2;refine⟨h1,j,hj,q1,?_⟩;rw[←q3,←q2,q4];simpa[Ext.upto_zero]using h3
 have hφ1at:∀j (hj:j<l.length),φ1 (R+j) 0=φ l[j] (eR σ.heap l[j]):=fun j hj=>by
  obtain⟨r,h1,h2,h3,h4⟩:=ni (h:=σ.heap) (s:=R) hj;show aM R _ φ (R+j) 0=_;unfold aM;rw[if_neg (by omega),if_pos rfl,h1];dsimp only;rw[←h3,←h2,h4];cases φ r.ido r.ver with
  |none=>rfl
  |some e=>simp [Ext.upto_zero]
 have hlow1:φ1.low R=φ.low R:=by funext i u;unfold PM.low;split;{rename_i hlt;exact bL i hlt u};rfl
 -- the state that the contract begins in
 let σH:St:={heap:=wm σ.heap l,next:=σ.next,rd:=[],wr:=[]};have hlite:HoldL v R .leaf σH {tmps:= #[],defers:=[]} w φ:=⟨fun{i} hlt=>by show @Rep v R φ w i ((wm σ.heap l).get i);rw[G1];split;{rename_i hm;obtain⟨j,hj,rfl⟩:=List.getElem_of_mem hm;exact iX hi (hlD j hj) (hlR j hj).2};trivial,fun t y hy=>(by rw[T.get_leaf]at hy;cases hy),dP hi⟩;have hle1:(φ.low R).le φ1:=fun i u f hf=>by unfold PM.low at hf;split at hf;{rename_i hlt;show aM R _ φ i u=_;rw[bL i hlt];exact hf};cases hf
 have hwf1:WF R φ1 w:=nk (dP hi) hre;have hbase:∀(v2:Val) i,i<R→@Rep v2 R (φ1.low R) w i (b.get i):=fun v2 i hlt=>by rw[hlow1];exact Jv hb hi v2 i hlt
 have hinv:@Inv (v.at θ) R (js gl b) (fun _=>True) φ1 (aA b c.ins (c.k R)) w:=@Inv.mk (v.at θ) R (js gl b) (fun _=>True) φ1 (aA b c.ins (c.k R)) w hwf1 (by show R≤c.k R;omega)
  (fun i _ hlt=>by show @Rep (v.at θ) R φ1 w i ((br b c.ins).get i);rcases ef b c.ins i with h1|⟨o,h1,h2⟩;{rw[h1];by_cases hiR:i<R;{have:=hbase (v.at θ) i hiR;exact @Rep.frame (v.at θ) R _ _ w w i _ (fun j u f hf=>by rw[hlow1]at hf;exact hle1 j u f hf) (fun u=>(PM.low_lt _ hiR u).symm) (fun _ _ _=>rfl) this};rw[hb.none i (by omega)];trivial};rw[h2];obtain⟨g1,g2,e',g3,g4⟩:=jK hm2 i o h1;exact xC (σ:=σH) hlite hre g3 (fun z hz=>heq2 z (g4 z hz)) g1)
  (fun gg n hg=>by obtain⟨f,h1,h2⟩:=J1 hi gg n hg;exact⟨f,by show aM R _ φ gg 0=_;rw[bL gg (hb.gl gg n hg)];exact h1,h2⟩)
  (fun i hn=>by have hn:c.k R≤i:=hn;show(br b c.ins).get i=none;rcases ef b c.ins i with h1|⟨o,h1,h2⟩;{rw[h1];exact hb.none i (by omega)};obtain⟨g1,g2,_⟩:=jK hm2 i o h1;omega)
  (fun _ _ h=>by simp [js]at h)
  (fun _ _ h=>by simp [js]at h)
  (fun _ h=>by cases h)
  (fun i hlt=>hbase (v.at θ) i hlt)
  (@jr (v.at θ))
 have hhold:Hold (v.at θ) gl b R 0 .leaf (aA b c.ins (c.k R)) {tmps:= #[],defers:=[]} w φ1:={
  size:=rfl
  val:=fun t y hy=>(by rw[T.get_leaf]at hy;cases hy)
  dfs:=rfl
  inv:=hinv
  free:=fun i hn u=>by
   have hn:c.k R≤i:=hn;cases hx:φ1 i u with
   |none=>rfl
   |some e=>obtain⟨_,j,hj,h1,_⟩:=hφ1 i u e (by omega) hx;omega
  roA:=fun v2 i hlt=>hbase v2 i hlt
  rd:=rfl
  wr:=rfl}
 have hargs:@VRL (v.at θ) φ1 c.args args'.toList:=lr hm1 heq1 ha;refine(hsound (v.at θ) hF (qf hp hpre) w φ1 args' hhold hargs).mono fun e w' hq=> ?_;obtain⟨φ',z,rfl,hz,htr,hwf',hrep',hfree',hbase'⟩:=hq
 -- where all lies
 have hverk:∀j (hj:j<l.length),lg (iS σ.heap l) j=eR σ.heap l[j]:=fun j hj=>uI hj;have hlist:∀j (hj:j<l.length),c.np≤j→∀u,eR σ.heap l[j]<u→φ l[j] u=none:=fun j hj hnp u hu=>by have hm:l[j]∈l.drop c.np:=(by rw[List.mem_drop_iff_getElem];exact⟨j - c.np,by omega,by simp [show c.np+(j - c.np)=j by omega]⟩);obtain⟨ver,cid,sh,X,Y,cc,t,ho⟩:=MP hls _ hm;have hver:eR σ.heap l[j]=ver:=(by simp [eR,ho]);have hr:=iX hi (hlD j hj) (hlR j hj).2;rw[ho]at hr;obtain⟨_,_,_,_,_,q⟩:=hr;rcases q with⟨_,_,_,_,q⟩|⟨_,_,q⟩;{exact q u (by omega)};exact q.2.2.2.2.1 u (by omega)
 have hpinat:∀j (hj:j<l.length),j<c.np→∃e,φ1 (R+j) 0=some e:=fun j hj hn=>by
  obtain⟨o,ho,hpo⟩:=Fp hps j hj hn;have hr:=iX hi (hlD j hj) (hlR j hj).2;rw[ho]at hr;rw[hφ1at j hj];cases o with
  |box cc t=>have hv:eR σ.heap l[j]=0:=(by simp [eR,ho]);obtain⟨_,e,_,_,_,he,_⟩:=hr;exact⟨e,by rw[hv];exact he⟩
  |map es ck=>have hv:eR σ.heap l[j]=0:=(by simp [eR,ho]);obtain⟨_,e,_,he,_⟩:=hr;exact⟨e,by rw[hv];exact he⟩
  |opq k ver cid sh X Y cc t=>simp only[xc,dH,al]at hpo;rcases hpo with h1|⟨h1,h2⟩;{have h1:=ae h1;subst h1;have hv:eR σ.heap l[j]=0:=(by simp only[eR,ho];rfl);obtain⟨_,_,_,_,_,_,_,_,e,_,_,he,_⟩:=hr;exact⟨e,by rw[hv];exact he⟩};have h1:=ae h1;subst h1;have hv:eR σ.heap l[j]=ver:=(by simp [eR,ho]);split at h2;{rename_i n;have h2:=ae h2;subst h2;obtain⟨_,_,_,_,_,q⟩:=hr;rcases q with⟨q,_⟩|⟨_,⟨e,he,_⟩,_⟩;{have q:Dat.int 1=Dat.int 0:=q;simp at q};exact⟨e,by rw[hv];exact he⟩};cases h2
  |_=>simp [xc]at hpo
 have hwrl:∀m,R+c.nr≤m→m<R+c.np+c.ns→g m∈l.drop c.nr:=fun m h1 h2=>by have hj:m - R<l.length:=(by omega);have:=hNmid (m - R) hj;rw[show R+(m - R)=m by omega]at this;rw[this,List.mem_drop_iff_getElem];exact⟨m - R - c.nr,by omega,by simp [show c.nr+(m - R - c.nr)=m - R by omega]⟩
 have hgR':∀m,R≤m→R≤g m:=fun m hm=>by rcases aS m (R+c.np+c.ns)with h|h;{have:=hNmid (m - R) (by omega);rw[show R+(m - R)=m by omega]at this;rw[this];exact(hlR _ (by omega)).1};rw[hNtop m h];omega
 have hglt:∀m,R≤m→m<R+c.np+c.ns→g m<σ.next:=fun m hm h=>by have:=hNmid (m - R) (by omega);rw[show R+(m - R)=m by omega]at this;rw[this];exact(hlR _ (by omega)).2
 have hgi:∀m m',R≤m→R≤m'→g m=g m'→m=m':=fun m m' h h' he=>by rcases aS m (R+c.np+c.ns)with h1|h1;{rcases aS m' (R+c.np+c.ns)with h2|h2;{have a1:=hNmid (m - R) (by omega);have a2:=hNmid (m' - R) (by omega);rw[show R+(m - R)=m by omega]at a1;rw[show R+(m' - R)=m' by omega]at a2;have:=hlinj (m - R) (m' - R) (by omega) (by omega) (by rw[←a1,←a2,he]);omega};have:=hglt m h h1;rw[he,hNtop m' h2]at this;omega};rcases aS m' (R+c.np+c.ns)with h2|h2;{have:=hglt m' h' h2;rw[←he,hNtop m h1]at this;omega};rw[hNtop m h1,hNtop m' h2]at he;omega
 have hnx:c.k R≤c.nx:=ok3;have hfresh:∀m,R+c.np≤m→m<c.nx→∀u,vo m≤u→φ (g m) u=none:=fun m h1 h2 u hu=>by rcases aS m (R+c.np+c.ns)with h|h;{have a1:=hNmid (m - R) (by omega);have a2:=hV.lst (m - R) (by omega) (by omega);rw[show R+(m - R)=m by omega]at a1 a2;rw[a1];refine hlist (m - R) (by omega) (by omega) u ?_;rw[hverk (m - R) (by omega)]at a2;omega};rw[hNtop m h];exact hfr _ (by omega) (by show m - (R+c.np+c.ns)+σ.next<(bif c.fz then 1 else 0)+(c.nx - c.k R+σ.next);omega) u
 have hqe:c.hq R σ.next=c.nx - (R+c.np+c.ns)+σ.next:=rfl;have hqg:∀m,R≤m→m<c.nx→g m≠c.hq R σ.next:=fun m h1 h2 h3=>by rcases aS m (R+c.np+c.ns)with h|h;{have:=hglt m h1 h;omega};rw[hNtop m h]at h3;omega
 let φ₂:PM:=fun j u=>open Classical in if hx:∃m,R+c.np≤m∧m<c.nx∧g m=j∧u=vo m then φ' (Classical.choose hx) 0 else
  if c.fz=true∧j=c.hq R σ.next then(match φ gid u with
   |some _=>none
   |none=>φ' gid u)else φ j u
 have hF1:∀m,R+c.np≤m→m<c.nx→φ₂ (g m) (vo m)=φ' m 0:=fun m h1 h2=>by have hx:∃m',R+c.np≤m'∧m'<c.nx∧g m'=g m∧vo m=vo m':=⟨m,h1,h2,rfl,rfl⟩;simp only[φ₂];rw[dif_pos hx];have hs:=Classical.choose_spec hx;rw[hgi _ m (by omega) (by omega) hs.2.2.1]
 have hF3:c.fz=true→∀u,φ₂ (c.hq R σ.next) u=(match φ gid u with
  |some _=>none
  |none=>φ' gid u):=fun hz u=>by
  simp only[φ₂];rw[dif_neg (fun⟨m,b1,b2,b3,_⟩=>hqg m (by omega) b2 b3),if_pos ⟨hz,trivial⟩]
 have hF2:∀j u,(¬∃m,R+c.np≤m∧m<c.nx∧g m=j∧u=vo m)→¬(c.fz=true∧j=c.hq R σ.next)→φ₂ j u=φ j u:=fun j u hx hy=>by simp only[φ₂];rw[dif_neg hx,if_neg hy]
 have hcase:∀j u e,φ₂ j u=some e→(∃m,R+c.np≤m∧m<c.nx∧g m=j∧u=vo m∧φ' m 0=some e)∨(c.fz=true∧j=c.hq R σ.next∧φ gid u=none∧φ' gid u=some e)∨φ j u=some e:=fun j u e he=>by by_cases hx:∃m,R+c.np≤m∧m<c.nx∧g m=j∧u=vo m;{obtain⟨m,h1,h2,rfl,rfl⟩:=hx;exact .inl ⟨m,h1,h2,rfl,rfl,by rw[←hF1 m h1 h2];exact he⟩};by_cases hy:c.fz=true∧j=c.hq R σ.next;{obtain⟨hy,rfl⟩:=hy;rw[hF3 hy]at he;refine .inr (.inl ⟨hy,rfl,?_⟩);split at he;{cases he};rename_i h0;exact⟨h0,he⟩};exact .inr (.inr (by rw[←hF2 j u hx hy];exact he))
 have hqfree:c.fz=true→∀u,φ (c.hq R σ.next) u=none:=fun hz u=>hfr _ (by omega) (by show c.hq R σ.next<(bif c.fz then 1 else 0)+c.hq R σ.next;rw[hz];simp) u;have hle2:φ.le φ₂:=fun j u e he=>by by_cases hx:∃m,R+c.np≤m∧m<c.nx∧g m=j∧u=vo m;{obtain⟨m,h1,h2,rfl,rfl⟩:=hx;rw[hfresh m h1 h2 _ (aE _)]at he;cases he};by_cases hy:c.fz=true∧j=c.hq R σ.next;{obtain⟨hy,rfl⟩:=hy;rw[hqfree hy]at he;cases he};rw[hF2 j u hx hy];exact he
 have hgid1:∀u,φ1 gid u=φ gid u:=fun u=>bL gid hgR u;have hlowne:∀i,i<R→i≠gid→∀u,φ' i u=φ i u:=fun i hlt hne u=>by
  have h1:φ1 i u=φ i u:=bL i hlt u;cases hx:φ' i u with
  |none=>
   cases hy:φ i u with
   |none=>rfl
   |some e=>rw[htr.low.le i hlt u e (h1.trans hy)]at hx;cases hx
  |some e=>rcases htr.low.new i hlt u e hx with h2|⟨h2,_⟩;{rw[←h1,h2]};exact absurd h2 hne
 have hqnew:∀u e,φ gid u=none→φ' gid u=some e→w.heap.size≤e.blk:=fun u e h0 h1=>by rcases htr.low.new gid hgR u e h1 with h2|⟨_,⟨j,t,f,h2,h3,_⟩|h2⟩;{rw[hgid1,h0]at h2;cases h2};{obtain⟨_,j',hj',h4,_⟩:=hφ1 j t f (by omega) h3;rw[hnbs]at h2;omega};exact h2
 have hnolow:∀i,i<R→∀u,φ₂ i u=φ i u:=fun i hlt u=>hF2 i u (fun⟨m,h1,_,h3,_⟩=>by have:=hgR' m (by omega);omega) (fun⟨_,h⟩=>by omega);have hOut:OutOk R φ' φ₂ c.fz g vo (c.vz R):={
  at0:=fun i e hig he=>by rcases aS i R with h|h;{rw[hNlow i h hig,hV.low i h,hnolow i h,←hlowne i h hig];exact he};rcases aS i (R+c.np)with h1|h1;{have hj:i - R<l.length:=(by omega);obtain⟨e1,he1⟩:=hpinat (i - R) hj (by omega);rw[show R+(i - R)=i by omega]at he1;have hp1:=htr.pin i e1 h (by rw[hnbp];omega) he1;rw[hp1]at he;cases he;have a1:=hNmid (i - R) hj;have a2:=hV.pin (i - R) (by omega);have a3:=hφ1at (i - R) hj;rw[show R+(i - R)=i by omega]at a1 a2 a3;rw[hF2 _ _ (fun⟨m,b1,b2,b3,_⟩=>by have:=hgi m i (by omega) h b3;omega) (fun⟨_,h'⟩=>by have:=hglt i h (by omega);omega),a1,a2,hverk _ hj,←a3];exact he1};rcases aS i c.nx with h2|h2;{rw[hF1 i h1 h2];exact he};rw[hfree' i h2 0]at he;cases he
  z:=fun i hz=>by simp only[HCon.vz,dH,al,Bool.not_eq_true']at hz;rcases hz with hz|⟨h1,h2⟩;{exact hV.top i (aB hz)};have h1:=aR h1;rcases aS i R with h|h;{exact hV.low i h};have a2:=hV.pin (i - R) (by omega);have a3:=EM hvs (i - R) (by omega);rw[show R+(i - R)=i by omega]at a2 a3;rw[a2];rcases a3 with a3|a3;{rw[a3]at h2;cases h2};exact a3
  pic:=fun hz n e he=>by
   rw[hgz hz,hF3 hz,hnolow gid hgR];cases h0:φ gid n with
   |none=>exact .inr he
   |some e0=>have:=htr.low.le gid hgR n e0 ((hgid1 n).trans h0);rw[he]at this;exact .inl this.symm}
 have horg:∀m,R+c.np≤m→m<c.nx→∀e,φ' m 0=some e→(∃u f,φ (g m) u=some f∧f.blk=e.blk)∨w.heap.size≤e.blk:=fun m h1 h2 e he=>by rcases htr.own m 0 e (by omega) he with⟨q,t,f,b1,b2,b3,b4⟩|h;{obtain⟨_,j,hj,rfl,b5⟩:=hφ1 q t f b1 b2;rcases b4 with b4|b4;{refine .inl ⟨eR σ.heap l[j],f,?_,b3⟩;rw[←b4,hNmid j hj];exact b5};rw[hnbs]at b4;omega};exact .inr h
 have hrokeep:∀bb,bb<w.heap.size→(∀j (hj:j<l.length),c.nr≤j→∀u e,φ l[j] u=some e→e.blk≠bb)→w'.heap[bb]? =w.heap[bb]? :=fun bb hbb hx=>by by_cases hq:∃q u f,R≤q∧φ1 q u=some f∧f.blk=bb;{obtain⟨q,u,f,q1,q2,rfl⟩:=hq;obtain⟨rfl,j,hj,rfl,q3⟩:=hφ1 q u f q1 q2;rcases aS j c.nr with h|h;{exact htr.ro (R+j) f q1 (by omega) q2};exact absurd rfl (hx j hj h _ f q3)};exact htr.keep bb hbb fun q u f q1 q2 q3=>hq ⟨q,u,f,q1,q2,q3⟩
 have hdropj:∀i,i∈l.drop c.nr→∃j,∃hj:j<l.length,c.nr≤j∧i=l[j]:=fun i hi'=>by rw[List.mem_drop_iff_getElem]at hi';obtain⟨j,h1,h2⟩:=hi';exact⟨c.nr+j,by omega,by omega,h2.symm⟩
 refine⟨φ₂,z,rfl,B6 hOut ok4 hz,?_⟩;exact{
  le:=hle2
  grow:=fun i hw hn u=>hF2 i u (fun⟨m,h1,h2,h3,_⟩=>by subst h3;rcases aS m (R+c.np+c.ns)with h|h;{rcases hw with hw|hw;{exact hw (fD.2 (.inr (hwrl m (by omega) h)))};have:=hglt m (by omega) h;have hw:(bif c.fz then 1 else 0)+c.hq R σ.next≤g m:=hw;omega};refine hn ⟨by rw[hNtop m h];omega,?_⟩;show g m<(bif c.fz then 1 else 0)+c.hq R σ.next;rw[hNtop m h];omega) (fun⟨h1,h2⟩=>hn ⟨by omega,by show i<(bif c.fz then 1 else 0)+c.hq R σ.next;rw[h1,h2];simp⟩)
  wrR:=fun i hi'=>by rcases fD.1 hi' with h|h;{exact .inl h};obtain⟨j,hj,_,rfl⟩:=hdropj i h;exact .inr (hlR j hj).1
  wf:={
   inj:=fun i u e j t f he hf hbk=>by rcases hcase i u e he with⟨m,a1,a2,rfl,rfl,a3⟩|⟨a1,rfl,a2,a3⟩|he';{rcases hcase j t f hf with⟨m',b1,b2,rfl,rfl,b3⟩|⟨b1,rfl,b2,b3⟩|hf';{rcases hwf'.inj _ _ _ _ _ _ a3 b3 hbk with q|q;{exact .inl (by rw[q])};omega};{rcases hwf'.inj _ _ _ _ _ _ a3 b3 hbk with q|q<;>omega};rcases horg m a1 a2 e a3 with⟨u',f',q1,q2⟩|q;{rcases(dP hi).inj _ _ _ _ _ _ q1 hf' (q2.trans hbk)with q|q;{exact .inl q};have:=hgR' m (by omega);omega};have:=(dP hi).lt _ _ _ hf';omega};{rcases hcase j t f hf with⟨m',b1,b2,rfl,rfl,b3⟩|⟨b1,rfl,b2,b3⟩|hf';{rcases hwf'.inj _ _ _ _ _ _ a3 b3 hbk with q|q<;>omega};{exact .inl rfl};have:=(dP hi).lt _ _ _ hf';have:=hqnew u e a2 a3;omega};rcases hcase j t f hf with⟨m',b1,b2,rfl,rfl,b3⟩|⟨b1,rfl,b2,b3⟩|hf';{rcases horg m' b1 b2 f b3 with⟨u',f',q1,q2⟩|q;{rcases(dP hi).inj _ _ _ _ _ _ he' q1 (hbk.trans q2.symm)with q|q;{exact .inl q};have:=hgR' m' (by omega);omega};have:=(dP hi).lt _ _ _ he';omega};{have:=(dP hi).lt _ _ _ he';have:=hqnew t f b2 b3;omega};exact(dP hi).inj _ _ _ _ _ _ he' hf' hbk
   lt:=fun i u e he=>by rcases hcase i u e he with⟨m,a1,a2,rfl,rfl,a3⟩|⟨a1,rfl,a2,a3⟩|he';{exact hwf'.lt _ _ _ a3};{exact hwf'.lt _ _ _ a3};have:=(dP hi).lt _ _ _ he';have:=htr.size;omega
   top:=fun i u e he=>by rcases hcase i u e he with⟨m,a1,a2,rfl,rfl,a3⟩|⟨a1,rfl,a2,a3⟩|he';{exact hwf'.top _ _ _ a3};{exact hwf'.top _ _ _ a3};exact(dP hi).top _ _ _ he'}
  blk:=fun i u e he=>by rcases hcase i u e he with⟨m,a1,a2,rfl,rfl,a3⟩|⟨a1,rfl,a2,a3⟩|he';{exact horg m a1 a2 e a3};{exact .inr (hqnew u e a2 a3)};exact .inl ⟨u,e,he',rfl⟩
  rep:=fun i hii=>by
   show @Rep v R φ₂ w' i ((uo c.fz (c.hq R σ.next) (xa g vo θ c.outs σ.heap)).get i);by_cases hyq:c.fz=true∧i=c.hq R σ.next
   ·obtain⟨hz1,rfl⟩:=hyq;have:(uo c.fz (c.hq R σ.next) (xa g vo θ c.outs σ.heap)).get (c.hq R σ.next)=some (.opq 0 0 0 (.slc []) (.lit 0) (.lit 0) [] 0):=by
     simp only[uo,hz1,cond_true,T.get_set,if_true]
    rw[this];obtain⟨ver,cid,sh,X,Y,t,hgat⟩:=hb.gid_at;have hgr:=hbase' gid hgR;rw[hgat]at hgr;intro n e he;rw[hF3 hz1]at he;split at he;{cases he};exact hgr n e (by rw[PM.low_lt _ hgR];exact he)
   have hpz:(uo c.fz (c.hq R σ.next) (xa g vo θ c.outs σ.heap)).get i=(xa g vo θ c.outs σ.heap).get i:=by
    unfold uo;cases hz1:c.fz with
    |false=>rfl
    |true=>rw[cond_true,T.get_set,if_neg (fun h=>hyq ⟨hz1,h⟩)]
   rw[hpz];rcases sT (g:=g) (vo:=vo) (θ:=θ) c.outs σ.heap i with⟨m,o,q1,q2,q3⟩|⟨q1,q2⟩
   ·rw[q3,q2];obtain⟨o1,o2,o3,o4⟩:=j0 ok5 m o q1;have hr:=hrep' m o q1;have hnone:φ' m 0=none→φ₂ (g m) (vo m)=none:=fun hno=>by
     rcases aS m (R+c.np)with h|h;{obtain⟨e1,he1⟩:=hpinat (m - R) (by omega) (by omega);rw[show R+(m - R)=m by omega]at he1;rw[htr.pin m e1 (by omega) (by rw[hnbp];omega) he1]at hno;cases hno};rw[hF1 m h o2];exact hno
    by_cases hlst:o.isLst=true
    ·have hm:R+c.np≤m:=by
      rcases aS m (c.k R)with h|h;{exact(o4.2 ⟨hlst,h⟩).1};omega
     refine RC hOut (hgR' m (by omega)) o3 (by omega) (fun u hu=> ?_) hnone hr;rw[hF2 _ _ (fun⟨m',b1,b2,b3,b4⟩=>by have:=hgi m' m (by omega) (by omega) b3;subst this;omega) (fun⟨_,h'⟩=>hqg m (by omega) o2 h')];exact hfresh m hm o2 u (by omega)
    cases o with
    |box cc t=>simp only[Ob.okOut,al]at o3;obtain⟨_,e,cs,fl,fh,he,hbk,h1,h2,h3,h4,h5,h6⟩:=hr;have hz0:=hOut.z m o3.1;exact⟨hgR' m (by omega),e,cs,fl,fh,by rw[←hz0];exact hOut.at0 m e (by omega) he,hbk,h1,h2,by rw[eg];exact h3,by rw[eg];exact h4,j3 hOut o3.2 h5,by rw[eg];exact h6⟩
    |opq k ver cid sh X Y cc t=>
     have hk2:Nat.beq k 2=false:=by
      cases hb2:Nat.beq k 2 with
      |true=>exact absurd hb2 (by simpa[Ob.isLst]using hlst)
      |false=>rfl
     cases sh with
     |slc sl=>
      cases cc with
      |cons a cc=>simp [Ob.okOut]at o3
      |nil=>simp only[Ob.okOut,hk2,Bool.false_and,Bool.false_or,al]at o3;obtain⟨h1,h2,h3,h4⟩:=o3;have h1:=ae h1;have h2:=ae h2;have h3:=jL h3;subst h1;subst h2;subst h3;show @Rep v R φ₂ w' (g m) (some (.opq 4 0 cid (.slc r8) (X.sub θ) (Y.sub θ) [] t));obtain⟨l',rows,es,q1,q2,q3,q4,_,e,es',clock,q5,q6,q7⟩:=hr;simp only[Sh.slc.injEq]at q1;subst q1;exact⟨r8,rows,es,rfl,by rw[Sx.sub_dat];exact q2,q3,q4,hgR' m (by omega),e,es',clock,by rw[←hOut.z m h4];exact hOut.at0 m e (by omega) q5,q6,yh q4 (fun r hr=>(q3 r hr).1) q7⟩
     |_=>simp [Ob.okOut]at o3
    |_=>simp [Ob.okOut]at o3
   rw[q2];rcases hii with⟨hd,hn⟩|⟨hn1,_⟩
   ·have hsame:∀u,φ₂ i u=φ i u:=fun u=>hF2 i u (fun⟨m,b1,b2,b3,b4⟩=>by
     rcases aS m (R+c.np+c.ns)with h|h;{obtain⟨o,ho⟩:=vW ok6.1 m (by omega) (by omega);exact q1 m o ho b3.symm};rw[hNtop m h]at b3;omega) hyq
    refine Rep.frame hle2 hsame (fun u e he=> ?_) (iX hi hd hn);refine hrokeep e.blk ((dP hi).lt _ _ _ he) fun j hj hnr t f hf hbk=> ?_;rcases(dP hi).inj _ _ _ _ _ _ hf he hbk with q|q;{obtain⟨o,ho⟩:=vW ok6.1 (R+j) (by omega) (by omega);exact q1 (R+j) o ho (by rw[hNmid j hj,q])};have:=(hlR j hj).1;omega
   rw[hi.dom i hn1];trivial
  frm:=⟨htr.size,fun bb hbb hx=>hrokeep bb hbb fun j hj hnr u e he=>hx l[j] (fD.2 (.inr (by rw[List.mem_drop_iff_getElem];exact⟨j - c.nr,by omega,by simp [show c.nr+(j - c.nr)=j by omega]⟩))) u e he,htr.os,htr.out,htr.tape⟩}
end
end Go.Tw
namespace Go.Tw
open Go.ChangeShapes Go.RowKit
theorem HCon.try_step{R:Nat}{dec:Bx→Option Bool}{c:HCon}(hok:c.ok R=true)(args:List AV)(σ:St):(c.try R dec args σ).steps σ:=by
 intro σ' hs;by_cases hn:c.try R dec args σ=.no;{rw[hn]at hs;cases hs};obtain⟨l,e1,e2,nl,hlen,hre,hRn,hvs,hls,hps,hm1,hm2,hnl,hpre,hte⟩:=HCon.try_ret hn;rw[hte]at hs;unfold HCon.ret at hs;simp only[CR.st,aw]at hs;subst hs;simp only[HCon.ok,al]at hok;obtain⟨ok1,ok2,ok3,ok4,ok5,ok6⟩:=hok;have ok1:=aB ok1;have ok3:=aB ok3;have hkk:c.k R=R+c.np+c.ns:=rfl;have hN:Nums R c.np c.ns σ.next l (ya R (c.k R) σ.next l):=DL hlen hkk;simp only[jj,al,oD]at hre;have hlR:∀j (h:j<l.length),R≤l[j]∧l[j]<σ.next:=fun j h=>by obtain⟨r,h1,h2,_,_⟩:=ni (h:=σ.heap) (s:=R) h;have:=hre.2 r (bn h1).1;exact⟨by rw[←h2];exact aB this.1.1.1,by rw[←h2];exact aR this.2⟩
 have hm:∀m o,(m,o)∈c.outs→(m<c.k R∧ya R (c.k R) σ.next l m∈l.drop c.nr∧ya R (c.k R) σ.next l m<σ.next)∨(c.k R≤m∧m<c.nx∧ya R (c.k R) σ.next l m=m - c.k R+σ.next):=fun m o hmo=>by obtain⟨o1,o2,_,_⟩:=j0 ok5 m o hmo;rcases aS m (c.k R)with h|h;{have hj:m - R<l.length:=(by omega);have:=hN.mid (m - R) hj;rw[show R+(m - R)=m by omega]at this;refine .inl ⟨h,?_,?_⟩;{rw[this,List.mem_drop_iff_getElem];exact⟨m - R - c.nr,by omega,by simp [show c.nr+(m - R - c.nr)=m - R by omega]⟩};rw[this];exact(hlR _ hj).2};exact .inr ⟨h,o2,hN.top m h⟩
 have hge:∀m,m≠gid→GH c.fz (c.hq R σ.next) (ya R (c.k R) σ.next l) m=ya R (c.k R) σ.next l m:=fun m h=>by
  have:Nat.beq m gid=false:=by
   cases hx:Nat.beq m gid with
   |true=>exact absurd (ae hx) h
   |false=>rfl
  simp [GH,this]
 have hqe:c.hq R σ.next=c.nx - c.k R+σ.next:=rfl;have hm':∀m o,(m,o)∈c.outs→(m<c.k R∧GH c.fz (c.hq R σ.next) (ya R (c.k R) σ.next l) m∈l.drop c.nr∧GH c.fz (c.hq R σ.next) (ya R (c.k R) σ.next l) m<σ.next)∨(c.k R≤m∧m<c.nx∧GH c.fz (c.hq R σ.next) (ya R (c.k R) σ.next l) m=m - c.k R+σ.next):=fun m o hmo=>by have hne:m≠gid:=(by have:=(j0 ok5 m o hmo).1;have:=aR ok6.2;omega);rw[hge m hne];exact hm m o hmo
 have hpz:∀i,¬(c.fz=true∧i=c.hq R σ.next)→∀h:T Ob,(uo c.fz (c.hq R σ.next) h).get i=h.get i:=fun i hn h=>by
  unfold uo;cases hz:c.fz with
  |false=>rfl
  |true=>rw[cond_true,T.get_set,if_neg (fun h=>hn ⟨hz,h⟩)]
 exact{
  next:=by show σ.next≤(bif c.fz then 1 else 0)+c.hq R σ.next;omega
  rd:=fun i h=>fD.2 (.inl h)
  wr:=fun i h=>fD.2 (.inl h)
  keep:=fun i hi hw=>by show(uo c.fz (c.hq R σ.next) _).get i=_;rw[hpz i (fun⟨_,h⟩=>by omega)];rcases sT (g:=GH c.fz (c.hq R σ.next) (ya R (c.k R) σ.next l)) (vo:=J7 R c.np (c.k R) (iS σ.heap l)) (θ:=nameAt nl) c.outs σ.heap i with⟨m,o,h1,h2,h3⟩|⟨_,h⟩;{exfalso;rcases hm' m o h1 with⟨_,q,_⟩|⟨_,_,q⟩;{exact hw (fD.2 (.inr (h2▸q)))};omega};exact h
  dom:=fun hd i hi=>by have hi:(bif c.fz then 1 else 0)+c.hq R σ.next≤i:=hi;show(uo c.fz (c.hq R σ.next) _).get i=_;rw[hpz i (fun⟨h1,h⟩=>by rw[h1]at hi;simp at hi;omega)];rcases sT (g:=GH c.fz (c.hq R σ.next) (ya R (c.k R) σ.next l)) (vo:=J7 R c.np (c.k R) (iS σ.heap l)) (θ:=nameAt nl) c.outs σ.heap i with⟨m,o,h1,h2,h3⟩|⟨_,h⟩;{exfalso;rcases hm' m o h1 with⟨_,_,q⟩|⟨_,_,q⟩<;>omega};exact h.trans (hd i (by omega))
  wlt:=fun _ i h=>by rcases fD.1 h with h|h;{exact .inl h};rw[List.mem_drop_iff_getElem]at h;obtain⟨j,h1,rfl⟩:=h;have:=(hlR (c.nr+j) (by omega)).2;exact .inr (by show _<(bif c.fz then 1 else 0)+c.hq R σ.next;omega)}
theorem mN{R:Nat}{dec:Bx→Option Bool}{f:FuncId}{args:List AV}{σ:St}:∀{l:List HCon},fU R dec l f args σ=.no∨∃c∈l,c.f=f∧fU R dec l f args σ=c.try R dec args σ:=by
 intro l
 induction l with
 |nil=>exact .inl rfl
 |cons c l ih=>
  simp only[fU,ai];split
  ·rename_i hb;cases hr:c.try R dec args σ with
   |no=>rcases ih with h|⟨c',h1,h2,h3⟩;{exact .inl h};exact .inr ⟨c',List.mem_cons_of_mem _ h1,h2,h3⟩
   |ret x τ=>exact .inr ⟨c,by simp,ae hb,hr.symm⟩
   |pan x τ=>exact .inr ⟨c,by simp,ae hb,hr.symm⟩
  rcases ih with h|⟨c',h1,h2,h3⟩;{exact .inl h};exact .inr ⟨c',List.mem_cons_of_mem _ h1,h2,h3⟩
section
variable{v:Val}{F:Nat→Dat→Dat→Dat→Dat}{P:Program}{gl:Nat→Option Nat}{b:bK}{R:Nat}{p:bo}
theorem nY{l:List HCon}(hok:∀c∈l,c.ok R=true){dec:Bx→Option Bool}:bN (bX gl b p (fU R dec l)):=by intro f args σ;show(fU R dec l f args σ).steps σ;rcases mN (R:=R) (dec:=dec) (f:=f) (args:=args) (σ:=σ) (l:=l)with h|⟨c,h1,h2,h3⟩;{rw[h];intro σ' hs;cases hs};rw[h3];exact HCon.try_step (hok c h1) args σ
theorem HCon.try_nopan{dec:Bx→Option Bool}{c:HCon}{args:List AV}{σ:St}{x:List (AV×Bool)}{τ:St}(h:c.try R dec args σ=.pan x τ):False:=by obtain⟨l,e1,e2,nl,_,_,_,_,_,_,_,_,_,_,hte⟩:=HCon.try_ret (σ:=σ) (R:=R) (dec:=dec) (c:=c) (args:=args) (by rw[h];simp);rw[hte]at h;unfold HCon.ret at h;cases h
theorem vI(hb:BaseOk gl b R)(hp:@Holds v p)(hF:v.fn=F){l:List HCon}(hcs:∀c∈l,c.Sound F P gl b R):@kI v P R (bX gl b p (fU R (eW p) l)):=by intro f args σ D φ w args' hi ha;refine⟨fun x σ' hret hkn hfr=> ?_,fun ch σ' hret=> ?_⟩;{have hret:fU R (eW p) l f args σ=.ret x σ':=hret;rcases mN (R:=R) (dec:=eW p) (f:=f) (args:=args) (σ:=σ) (l:=l)with h|⟨c,h1,h2,h3⟩;{rw[h]at hret;cases hret};rw[←h2];exact Nn hb hp hF (hcs c h1) hi ha (h3.symm.trans hret) hkn hfr};have hret:fU R (eW p) l f args σ=.pan ch σ':=hret;rcases mN (R:=R) (dec:=eW p) (f:=f) (args:=args) (σ:=σ) (l:=l)with h|⟨c,h1,h2,h3⟩;{rw[h]at hret;cases hret};exact(HCon.try_nopan (h3.symm.trans hret)).elim
theorem Inv.ofHk{h1 h2:FuncId→List AV→St→CR}{D:Nat→Prop}{φ:PM}{σ:St}{w:World}(hi:@Inv v R (bX gl b p h1) D φ σ w):@Inv v R (bX gl b p h2) D φ σ w:=
 @Inv.mk v R (bX gl b p h2) D φ σ w hi.wf hi.low hi.rep hi.gl hi.dom hi.pin hi.dec hi.wrR hi.ro hi.oh
theorem zB{h1 h2:FuncId→List AV→St→CR}(k1:bN (bX gl b p h1))(k2:bN (bX gl b p h2)):bN (bX gl b p (qG h1 h2)):=by intro f args σ;show(qG h1 h2 f args σ).steps σ;unfold qG;split;{exact k2 f args σ};exact k1 f args σ
theorem N8{h1 h2:FuncId→List AV→St→CR}(k1:@kI v P R (bX gl b p h1))(k2:@kI v P R (bX gl b p h2)):@kI v P R (bX gl b p (qG h1 h2)):=by intro f args σ D φ w args' hi ha;have q1:=k1 f args σ D φ w args' hi.ofHk ha;have q2:=k2 f args σ D φ w args' hi.ofHk ha;refine⟨fun x σ' hret hkn hfr=> ?_,fun ch σ' hret hkn hfr=> ?_⟩;{have hret:qG h1 h2 f args σ=.ret x σ':=hret;unfold qG at hret;split at hret;{exact q2.1 x σ' hret hkn hfr};exact q1.1 x σ' hret hkn hfr};have hret:qG h1 h2 f args σ=.pan ch σ':=hret;unfold qG at hret;split at hret;{exact q2.2 ch σ' hret hkn hfr};exact q1.2 ch σ' hret hkn hfr
theorem Fl{l:List (Nat×Ob)}:nodupB (l.map (·.1))=true→∀i o,(i,o)∈l→(br b l).get i=some o:=by
 induction l with
 |nil=>intro _ i o h;cases h
 |cons x l ih=>obtain⟨j,o'⟩:=x;intro hn i o hm;simp only[List.map_cons,nodupB,al,Bool.not_eq_true']at hn;simp only[br];rw[T.get_set];rcases List.mem_cons.1 hm with e|hm;{cases e;rw[if_pos rfl]};have hne:i≠j:=fun e=>(by have h1:=hn.1;rw[List.any_eq_false]at h1;refine h1 i (List.mem_map.2 ⟨(i,o),hm,rfl⟩) ?_;rw[e];exact Nat.beq_refl j);rw[if_neg hne,ih hn.2 i o hm]
theorem dG{c:HCon}{fn:Func}{code:Code}(hf:P.funcs[c.f]? =some fn)(hbody:fn.body=some code)(hlen:Nat.ble c.args.length fn.ntmps=true)
 (hok:c.ok R=true)(hnd:nodupB (c.outs.map (·.1))=true)
 (h:∀v:Val,v.fn=F→@Holds v c.pre→∃e tm' l σ'',(e=.ret∨e=.normal)∧
   HTo v P gl b R c.nr c.nb fn.ntmps code (jb c.args 0 .leaf) (aA b c.ins (c.k R)) e (ba tm') (aA b c.outs c.nx)∧
   cn P fn {tm:=ba tm',ds:=[],md:=none,rd:=false} (aA b c.outs c.nx) fn.results.toList=some (l,σ'')∧given l=c.v):c.Sound F P gl b R:=by
 refine⟨hok,?_⟩;simp only[HCon.ok,al]at hok;obtain⟨_,_,_,_,ok5,_⟩:=hok;intro v hF hp w φ args' hh ha;obtain⟨e,tm',l,σ'',he,hto,hres,hgl⟩:=h v hF hp;refine gA hf hbody fun cs=> ?_;have hen:=@ie v φ c.args args' ha fn.ntmps (aB hlen) none false;refine(hto _ cs w φ ⟨hen.ev.size,hen.ev.val,rfl,hh.inv,hh.free,hh.roA,hh.rd,hh.wr⟩).mono fun e1 a1 cs1 w1 q=> ?_;obtain⟨q1,q2,φ1,q3,q4⟩:=q;refine⟨q1,?_⟩;have hev:@EnvR v φ1 fn.ntmps {tm:=ba tm',ds:=[],md:=none,rd:=false} a1:=⟨q3.size,q3.val⟩;obtain⟨x,r1,r2,_⟩:=@iy v P R (js gl b) (fun _=>True) φ1 _ w1 fn fn.ntmps _ a1 σ'' l hev q3.inv hres (fun i _ _=>trivial);rw[hgl]at r2;have hgo:LeavesInM Fence.wide 0 P fn a1.tmps (fun e w'=>∃φ' x,e=.returned x∧@VR v φ' c.v x∧Trans R c.nr c.nb φ w φ' w'∧WF R φ' w'∧(∀i o,(i,o)∈c.outs→@Rep v R φ' w' i (some o))∧(∀i,c.nx≤i→∀u,φ' i u=none)∧∀i,i<R→@Rep v R (φ'.low R) w' i (b.get i)) a1.defers .returning w1:=by rw[q3.dfs];exact⟨x,r1,φ1,x,rfl,r2,q4,q3.wf,fun i o hio=>nV q3 (Fl hnd i o hio) (j0 ok5 i o hio).2.1,fun i hi u=>q3.free i hi u,fun i hi=>q3.roA v i hi⟩
 rcases he with rfl|rfl;{cases e1<;>simp only[ExitP]at q2;exact hgo};cases e1<;>simp only[ExitP]at q2;exact hgo
end
end Go.Tw
namespace Go.Tw
open Go.ChangeShapes Go.RowKit
noncomputable def Vb(σ:St)(Z:List Nat)(a x:AV):Option bS:=match x with
 | .opq k id _ (.slc l') x' _=>bif Nat.beq k 0&&Nat.beq id gid then(match a with
  | .opq k2 id2 ver2 (.slc l) x2 y2=>bif Nat.beq k2 0 then fR (tu id2 Z&&(Ok σ id2&&Sh.sameL l l')) [(x2,x')]
   else(match eV σ (.opq k2 id2 ver2 (.slc l) x2 y2)with
    |some o=>fR (tu o.id Z&&(Sh.sameL o.l l'&&(dp o.l||(Nat.beq o.cid gid||(tu o.cid Z&&Ok σ o.cid))))) [(o.x,x')]
    |none=>none)
  |_=>none)else none
 |_=>none
mutual
noncomputable def ga(R:Nat)(ρ:List RE)(σ:St)(Z:List Nat):AV→AV→Option bS
 | .agg l,z=>match z with
  | .agg l'=>FL R ρ σ Z l l'
  |_=>none
 | .tup l,z=>match z with
  | .tup l'=>FL R ρ σ Z l l'
  |_=>none
 |a,z=>match Vb σ Z a z with
  |some e=>some e
  |none=>lq R ρ a z
noncomputable def FL(R:Nat)(ρ:List RE)(σ:St)(Z:List Nat):List AV→List AV→Option bS
 |[],z=>match z with
  |[]=>some []
  |_=>none
 |y::l,z=>match z with
  |[]=>none
  |x::m=>match ga R ρ σ Z y x,FL R ρ σ Z l m with
   |some p,some q=>some (p++q)
   |_,_=>none
end
noncomputable def zU(R:Nat)(ρ:List RE)(σ:St)(Z:List Nat):List AV→List AV→Option bS
 |[],z=>match z with
  |[]=>some []
  |_=>none
 |y::l,z=>match z with
  |[]=>none
  |x::m=>match(match Vb σ Z y x with
   |some e=>some e
   |none=>FM R ρ [y] [x]),zU R ρ σ Z l m with
   |some p,some q=>some (p++q)
   |_,_=>none
noncomputable def Jq(R:Nat)(ρ:List RE)(tm:T AV)(σ:St)(Z:List Nat)(id':Nat)(o':Ob):Option bS:=match o' with
 | .box c' t'=>match ku ρ id' with
  |some r=>match σ.heap.get r.ido with
   |some (.box c t)=>bif (Nat.beq r.n 0&&Nat.beq r.ver 0)&&Nat.beq t t' then zU R ρ σ Z c c' else none
   |_=>none
  |none=>none
 |o'=>UL R ρ tm σ.heap id' o'
noncomputable def zR(R nx:Nat)(ρ:List RE)(tm:T AV)(σ:St)(Z:List Nat):List (Nat×Ob)→Option bS
 |[]=>some []
 |(i,o)::l=>bif Nat.ble R i&&Nat.blt i nx then(match Jq R ρ tm σ Z i o,zR R nx ρ tm σ Z l with
  |some p,some q=>some (p++q)
  |_,_=>none)else none
noncomputable def Jp(R:Nat)(ρ:List RE)(tm:T AV)(σ:St)(Z:List Nat):List (Nat×AV)→Option bS
 |[]=>some []
 |(t,x)::l=>match tm.get t with
  |some y=>match ga R ρ σ Z y x,Jp R ρ tm σ Z l with
   |some p,some q=>some (p++q)
   |_,_=>none
  |none=>none
noncomputable def Sy(R s:Nat)(ρ:List RE)(Z:List Nat):Bool:=Z.all fun z=>Nat.ble (R+s) z&& !(ρ.any fun r=>Nat.beq r.ido z)
noncomputable def dS(R nb:Nat)(ρ:List RE)(Z:List Nat)(tm:T AV)(σ:St)(tm':List (Nat×AV))(objs':List (Nat×Ob))(nx':Nat):Option bS:=match Z with
 |[]=>eA R nb ρ tm σ tm' objs' nx'
 |_::_=>bif (jj R nx' σ.next ρ&&Sy R (jh nb) ρ Z)&&(Nat.ble R nx'&&(vg R ρ (cK nb)&&Lv R (jh nb) ρ))then(match Jp R ρ tm σ Z tm',zR R nx' ρ tm σ Z objs' with
  |some p,some q=>some (p++q)
  |_,_=>none)else none
noncomputable def Tm(id:Nat)(z:List Nat):List Nat:=bif tu id z then z else id::z
noncomputable def zC(σ:St)(z:List Nat)(a x:AV):List Nat:=match x,a with
 | .opq k id _ _ _ _,.opq k2 id2 v2 s2 x2 y2=>bif Nat.beq k 0&&(Nat.beq id gid&& !Nat.beq id2 gid)then(bif Nat.beq k2 0 then Tm id2 z else(match eV σ (.opq k2 id2 v2 s2 x2 y2)with
  |some o=>Tm o.id (bif dp o.l||Nat.beq o.cid gid then z else Tm o.cid z)
  |none=>z))else z
 |_,_=>z
noncomputable def zL(σ:St):List Nat→List AV→List AV→List Nat
 |z,x::l,y::m=>zL σ (zC σ z y x) l m
 |z,_,_=>z
noncomputable def zT(σ:St)(tm:T AV):List Nat→List (Nat×AV)→List Nat
 |z,[]=>z
 |z,(t,x)::l=>zT σ tm (match tm.get t with
  |some y=>(match x,y with
   | .agg a,.agg b=>zL σ z a b
   | .tup a,.tup b=>zL σ z a b
   |x,y=>zC σ z y x)
  |none=>z) l
noncomputable def zO(σ:St)(ρ:List RE):List Nat→List (Nat×Ob)→List Nat
 |z,[]=>z
 |z,(i,o)::l=>zO σ ρ (match o,ku ρ i with
  | .box c _,some e=>(match σ.heap.get e.ido with
   |some (.box c2 _)=>zL σ z c c2
   |_=>z)
  |_,_=>z) l
noncomputable def zX(σ:St)(tm:T AV)(ρ:List RE)(tm':List (Nat×AV))(objs':List (Nat×Ob)):List Nat:=zO σ ρ (zT σ tm [] tm') objs'
section
variable{v v':Val}{R:Nat}{ρ:List RE}{φ:PM}{w:World}{Z:List Nat}{σ:St}
open Classical in
noncomputable def Va(φ:PM)(w:World)(Z:List Nat)(u:Nat):Option Ext:=if ∃z∈Z,∃t e,φ z t=some e∧e.blk=u then(match w.heap[u]? with
 |some (.cells c _ _)=>some ⟨u,0,0,0,0,c.toList⟩
 |_=>none)else none
noncomputable def cq(R:Nat)(ρ:List RE)(Z:List Nat)(φ:PM)(w:World):PM:=fun i u=>if i=gid then(match φ gid u with
 |some e=>some e
 |none=>Va φ w Z u)else aM R ρ φ i u
theorem tw{u:Nat}{e:Ext}(h:Va φ w Z u=some e):(∃z∈Z,∃t f,φ z t=some f∧f.blk=u)∧∃c t fr,w.heap[u]? =some (.cells c t fr)∧e=⟨u,0,0,0,0,c.toList⟩:=by unfold Va at h;split at h;{rename_i hx;split at h;{rename_i c t fr hc;simp only[aw]at h;exact⟨hx,c,t,fr,hc,h.symm⟩};cases h};cases h
theorem lR(hg:gid<R):(aM R ρ φ).le (cq R ρ Z φ w):=fun i u e h=>by unfold cq;by_cases hi:i=gid;{subst hi;rw[bL gid hg]at h;simp [h]};rw[if_neg hi];exact h
theorem gk{i:Nat}(hi:i≠gid)(u:Nat):cq R ρ Z φ w i u=aM R ρ φ i u:=by simp [cq,hi]
theorem mF{u:Nat}{e:Ext}(h:cq R ρ Z φ w gid u=some e):φ gid u=some e∨(φ gid u=none∧Va φ w Z u=some e):=by simp only[cq,if_true]at h;split at h;{rename_i e' he;rw[←h];exact .inl he};rename_i he;exact .inr ⟨he,h⟩
theorem Eb(hwf:WF R φ w)(hg:gid<R)(hgr:∀n e,φ gid n=some e→e=⟨n,0,0,0,0,e.snap⟩)(hZ:∀z∈Z,R≤z){z t:Nat}(hz:z∈Z){e:Ext}(he:φ z t=some e){c:Array Value}{ty:TypeId}{fr:Nat×Nat}(hb:w.heap[e.blk]? =some (.cells c ty fr)):
 Pict (cq R ρ Z φ w) gid e.blk c.toList:=by
 refine⟨gid,e.blk,⟨e.blk,0,0,0,0,c.toList⟩,.inl rfl,?_,rfl,rfl⟩;have hn:φ gid e.blk=none:=by
  cases hx:φ gid e.blk with
  |none=>rfl
  |some f=>have h1:=hgr _ _ hx;have h2:f.blk=e.blk:=(by rw[h1]);rcases hwf.inj _ _ _ _ _ _ hx he h2 with h|h;{have:=hZ z hz;omega};have:=hZ z hz;omega
 simp only[cq,if_true,hn,Va];rw[if_pos ⟨z,hz,t,e,he,rfl⟩,hb]
theorem pM{i:Nat}:∀{l:List Nat},tu i l=true→i∈l:=by
 intro l
 induction l with
 |nil=>intro h;cases h
 |cons x l ih=>intro h;simp only[tu,dH]at h;rcases h with h|h;{have:=ae h;subst this;simp};exact List.mem_cons_of_mem _ (ih h)
theorem CS(hwf:WF R φ w)(hg:gid<R)(hgr:∀n e,φ gid n=some e→e=⟨n,0,0,0,0,e.snap⟩)(hZ:∀z∈Z,R≤z){c:Nat}(hc:c=gid∨(c∈Z∧∀n e,φ c n=some e→e=⟨n,0,0,0,0,e.snap⟩∧∃t fr,w.heap[e.blk]? =some (.cells e.snap.toArray t fr)))
 {b:Nat}{s:List Value}(h:Pict φ c b s):Pict (cq R ρ Z φ w) gid b s:=by
 have old:Pict φ gid b s→Pict (cq R ρ Z φ w) gid b s:=fun⟨j,n,e,hj,he,h1,h2⟩=>by have:j=gid:=hj.elim id id;subst this;exact⟨gid,n,e,.inl rfl,by simp [cq,he],h1,h2⟩
 obtain⟨j,n,e,hj,he,h1,h2⟩:=h;rcases hj with rfl|rfl;{exact old ⟨gid,n,e,.inl rfl,he,h1,h2⟩};rcases hc with rfl|⟨hm,hk⟩;{exact old ⟨gid,n,e,.inl rfl,he,h1,h2⟩};obtain⟨_,t,fr,hb⟩:=hk n e he;have:=Eb (ρ:=ρ) hwf hg hgr hZ hm he hb;rw[h1]at this;rw[←h2];simpa using this
theorem RQ{pc:Nat→List Value→Prop}{c:Nat}{s:Sh}{d:Dat}{z:Value}(hf:eP s=true∨∀b s,Pict φ c b s→pc b s)(hc:iM s d)(h:@VR v φ (dU c s d) z):GC pc s d z:=by
 cases s with
 |slc l=>
  rcases hf with hf|hf;{simp [eP]at hf};have h:@VR v φ (.opq 0 c 0 (.slc l) (.dlit d) (.lit 0)) z:=h;cases h with
  |opq _ hk=>obtain⟨l',a,n,c',hl,rfl,hg⟩:=hk;simp only[Sh.slc.injEq]at hl;subst hl;exact hg.mono hf
 |int k=>exact rm rfl hc h
 |bool=>exact rm rfl hc h
 |str=>exact rm rfl hc h
structure GvOk(v:Val)(R:Nat)(Z:List Nat)(σ:St)(w:World)(φ:PM):Prop where
 inv:@Inv0 v R (fun _=>True) φ σ w
 glt:gid<R
 pic:∀n e,φ gid n=some e→e=⟨n,0,0,0,0,e.snap⟩
 low:∀z∈Z,R≤z
theorem Ee(h:GvOk v R Z σ w φ){c:Nat}(hf:Ok σ c=true):∀n e,φ c n=some e→e=⟨n,0,0,0,0,e.snap⟩∧∃t fr,w.heap[e.blk]? =some (.cells e.snap.toArray t fr):=by unfold Ok at hf;split at hf;{rename_i k ver cid sh x y cc t ho;have:=ae hf;subst this;have hlt:=@Inv0.lt v _ _ _ _ _ h.inv _ _ ho;have hr:=h.inv.rep c trivial hlt;rw[ho]at hr;exact hr};cases hf
theorem Kc(h:GvOk v R Z σ w φ){a x:AV}{e:bS}{z:Value}(hg:Vb σ Z a x=some e)(he:EqsOk v v' e)(hv:@VR v φ a z):@VR v' (cq R ρ Z φ w) x z:=by
 have hwf:=@Inv0.wf v _ _ _ _ _ h.inv;unfold Vb at hg;split at hg
 ·rename_i k id ver l' x' y';rw[ai]at hg;split at hg
  ·rename_i hb;simp only[al]at hb;have:=ae hb.1;subst this;have:=ae hb.2;subst this;split at hg
   ·rename_i k2 id2 ver2 l x2 y2;rw[ai]at hg;split at hg
    ·rename_i hk;have:=ae hk;subst this;obtain⟨h1,rfl⟩:=aU hg;simp only[al]at h1;obtain⟨c1,c2,c3⟩:=h1;have:=Sh.sameL_eq c3;subst this;cases hv with
     |opq _ hk=>obtain⟨l2,aa,n,c,hl,rfl,hgc⟩:=hk;simp only[Sh.slc.injEq]at hl;subst hl;refine @VR.opq v' _ _ _ _ _ _ _ _ ⟨l,aa,n,c,rfl,rfl,?_⟩;rw[←he (x2,x') (by simp)];exact hgc.mono fun bb s hp=>CS hwf h.glt h.pic h.low (.inr ⟨pM c1,Ee h c2⟩) hp
    split at hg
    ·rename_i o hoo;obtain⟨h1,rfl⟩:=aU hg;simp only[al,dH]at h1;obtain⟨c1,c2,c3⟩:=h1;have c1:=pM c1;have:=Sh.sameL_eq c2;subst this;obtain⟨rows,hx,hr,hor⟩:=@fP v R _ φ σ w h.inv _ _ _ hoo hv trivial;have hxe:=he (o.x,x') (by simp);simp only at hxe;rw[hx]at hxe;rcases hor with⟨bb,rfl,_,rfl,_⟩|⟨ex,c,rfl,_,hφ,hdn,hhi,hc,hbs,har⟩;{refine @VR.opq v' _ _ _ _ _ _ _ _ ⟨o.l,bb,0,0,rfl,rfl,?_⟩;rw[←hxe];exact .none o.l bb 0};obtain⟨ex2,cs,fl,fh,q1,q2,q3,q4,q5,q6⟩:=@ez v R φ w _ _ _ _ _ _ har;rw[hφ]at q1;cases q1;have hlen:=au o.cid o.l rows (aH hr);refine @VR.opq v' _ _ _ _ _ _ _ _ ⟨o.l,_,rows.length,c,rfl,rfl,?_⟩;rw[←hxe];have aj:∀(i j:Nat) (hi':i<rows.length) (hj:j<o.l.length),∃s d zz,o.l[j]? =some s∧(rows[i])[j]? =some d∧cs[ex.up+i*o.l.length+j]? =some zz∧iM s d∧@VR v φ (dU o.cid s d) zz:=by
      intro i j hi' hj;have hrow:rows[i]? =some rows[i]:=bC hi';have hsj:o.l[j]? =some o.l[j]:=bC hj;obtain⟨dd,hdd⟩:∃d,(rows[i])[j]? =some d:=⟨_,bC (by rw[(hr _ (List.getElem_mem hi')).1];exact hj)⟩;have k1:=cu o.cid o.l rows (aH hr) i j _ hrow hj;rw[dj o.cid o.l _ _ _ _ hsj hdd]at k1;have hpos:i*o.l.length+j<rows.length*o.l.length:=(by have:=ig o.l.length (show i+1≤rows.length from hi');rw[Nat.add_mul]at this;omega);obtain⟨zz,z1,z2⟩:=q6 _ _ (by omega) (by omega) k1;exact⟨_,dd,zz,hsj,hdd,by rw[←z1];congr 1;omega,(hr _ (List.getElem_mem hi')).2 _ _ _ hsj hdd,z2⟩
     refine .slc ex.blk cs.toList ex.up c (fun i j=>(cs[ex.up+i*o.l.length+j]?).getD undef) (Eb hwf h.glt h.pic h.low c1 hφ q2) hc (fun i row hrow=>(hr row (eQ hrow)).1) (fun i j hi' hj=> ?_) (fun i row j s d hrow hs hdd=> ?_);{obtain⟨s,d,zz,_,_,h3,_⟩:=aj i j hi' hj;rw[Array.getElem?_toList,h3];rfl};have hi':i<rows.length:=(by rcases aS i rows.length with h|h;{exact h};rw[bZ h]at hrow;cases hrow);have hj:j<o.l.length:=(by rcases aS j o.l.length with h|h;{exact h};rw[bZ h]at hs;cases hs);obtain⟨s',d',zz,h1,h2,h3,h4,h5⟩:=aj i j hi' hj;rw[hs]at h1;cases h1;rw[bC hi']at hrow;cases hrow;rw[hdd]at h2;cases h2;simp only[h3,Option.getD_some];refine RQ ?_ h4 h5;rcases c3 with c3|c3|⟨c3,c4⟩;{exact .inl (List.all_eq_true.1 c3 s (eQ hs))};{have:=ae c3;rw[this];exact .inr fun bb s hp=>CS hwf h.glt h.pic h.low (.inl rfl) hp};exact .inr fun bb s hp=>CS hwf h.glt h.pic h.low (.inr ⟨pM c3,Ee h c4⟩) hp
    cases hg
   cases hg
  cases hg
 cases hg
theorem bl(h:GvOk v R Z σ w φ){a x:AV}{e:bS}{z:Value}(hm:(match Vb σ Z a x with
 |some e=>some e
 |none=>lq R ρ a x)=some e)(he:EqsOk v v' e)(hv:@VR v φ a z):@VR v' (cq R ρ Z φ w) x z:=by
 split at hm;{rename_i e' hg;cases hm;exact Kc h hg he hv};exact @VR.mono v' _ _ (lR h.glt) _ _ (lj hm he hv)
mutual
theorem DS(h:GvOk v R Z σ w φ):∀{a x:AV} {e:bS} {z:Value},ga R ρ σ Z a x=some e→EqsOk v v' e→@VR v φ a z→@VR v' (cq R ρ Z φ w) x z
 | .agg l,x,e,z,hm,he,hv=>by
  cases x<;>simp only[ga,reduceCtorEq]at hm;cases hv with
  |agg l' g=>exact @VR.agg v' _ _ _ (xD h hm he g)
 | .tup l,x,e,z,hm,he,hv=>by
  cases x<;>simp only[ga,reduceCtorEq]at hm;cases hv with
  |tup l' g=>exact @VR.tup v' _ _ _ (xD h hm he g)
 | .bool _,x,e,z,hm,he,hv=>bl h (by simpa[ga]using hm) he hv
 | .int ..,x,e,z,hm,he,hv=>bl h (by simpa[ga]using hm) he hv
 | .sym ..,x,e,z,hm,he,hv=>bl h (by simpa[ga]using hm) he hv
 | .symb _,x,e,z,hm,he,hv=>bl h (by simpa[ga]using hm) he hv
 | .sslc _,x,e,z,hm,he,hv=>bl h (by simpa[ga]using hm) he hv
 | .sstr _,x,e,z,hm,he,hv=>bl h (by simpa[ga]using hm) he hv
 | .vstr _,x,e,z,hm,he,hv=>bl h (by simpa[ga]using hm) he hv
 | .str _,x,e,z,hm,he,hv=>bl h (by simpa[ga]using hm) he hv
 | .nilp,x,e,z,hm,he,hv=>bl h (by simpa[ga]using hm) he hv
 | .ptr ..,x,e,z,hm,he,hv=>bl h (by simpa[ga]using hm) he hv
 | .nils,x,e,z,hm,he,hv=>bl h (by simpa[ga]using hm) he hv
 | .slc ..,x,e,z,hm,he,hv=>bl h (by simpa[ga]using hm) he hv
 | .nilm,x,e,z,hm,he,hv=>bl h (by simpa[ga]using hm) he hv
 | .map _,x,e,z,hm,he,hv=>bl h (by simpa[ga]using hm) he hv
 | .yld _,x,e,z,hm,he,hv=>bl h (by simpa[ga]using hm) he hv
 | .anyp,x,e,z,hm,he,hv=>bl h (by simpa[ga]using hm) he hv
 | .unk,x,e,z,hm,he,hv=>bl h (by simpa[ga]using hm) he hv
 | .fn ..,x,e,z,hm,he,hv=>bl h (by simpa[ga]using hm) he hv
 | .nilfn,x,e,z,hm,he,hv=>bl h (by simpa[ga]using hm) he hv
 | .iface ..,x,e,z,hm,he,hv=>bl h (by simpa[ga]using hm) he hv
 | .nili,x,e,z,hm,he,hv=>bl h (by simpa[ga]using hm) he hv
 | .opq ..,x,e,z,hm,he,hv=>bl h (by simpa[ga]using hm) he hv
theorem xD(h:GvOk v R Z σ w φ):∀{a x:List AV} {e:bS} {z:List Value},FL R ρ σ Z a x=some e→EqsOk v v' e→@VRL v φ a z→@VRL v' (cq R ρ Z φ w) x z
 |[],x,e,z,hm,he,hv=>by cases x<;>simp only[FL,reduceCtorEq]at hm;cases hv;exact @VRL.nil v' _
 |y::l,x,e,z,hm,he,hv=>by
  cases x<;>simp only[FL,reduceCtorEq]at hm;split at hm
  ·rename_i p q hp hq;cases hm;cases hv with
   |cons g1 g2=>exact @VRL.cons v' _ _ _ _ _ (DS h hp he.app.1 g1) (xD h hq he.app.2 g2)
  cases hm
end
theorem zS(h:GvOk v R Z σ w φ):∀{a x:List AV} {e:bS} {z:List Value},zU R ρ σ Z a x=some e→EqsOk v v' e→@VRL v φ a z→@VRL v' (cq R ρ Z φ w) x z
 |[],x,e,z,hm,he,hv=>by cases x<;>simp only[zU,reduceCtorEq]at hm;cases hv;exact @VRL.nil v' _
 |y::l,x,e,z,hm,he,hv=>by
  cases x<;>simp only[zU,reduceCtorEq]at hm;rename_i x m;split at hm
  ·rename_i p q hp hq;cases hm;cases hv with
   |cons g1 g2=>
    refine @VRL.cons v' _ _ _ _ _ ?_ (zS h hq he.app.2 g2);split at hp;{rename_i e' hg;cases hp;exact Kc h hg he.app.1 g1};have:=xE (φ:=φ) hp he.app.1 (@VRL.cons v _ _ _ _ _ g1 (@VRL.nil v _));cases this with
    |cons g3 _=>exact @VR.mono v' _ _ (lR h.glt) _ _ g3
  cases hm
theorem Uc(hg:gid<R){i:Nat}(hi:R≤i){o:Ob}(h:@Rep v' R (aM R ρ φ) w i (some o)):@Rep v' R (cq R ρ Z φ w) w i (some o):=
 @Rep.frame v' R _ _ w w i _ (lR hg) (fun u=>gk (by omega) u) (fun _ _ _=>rfl) h
theorem MM(h:GvOk v R Z σ w φ){tm:T AV}{a:Act}(hh:HoldL v R tm σ a w φ){nx':Nat}(hr:jj R nx' σ.next ρ=true){id':Nat}{o':Ob}{e:bS}(hm:Jq R ρ tm σ Z id' o'=some e)(he:EqsOk v v' e)
 (hid:R≤id'):@Rep v' R (cq R ρ Z φ w) w id' (some o'):=by
 cases o' with
 |box c' t'=>simp only[Jq]at hm;have hnR:¬id'<R:=(by omega);have hng:id'≠gid:=(by have:=h.glt;omega);simp only[jj,al,oD]at hr;split at hm;{rename_i r hrr;split at hm;{rename_i c t hob;rw[ai]at hm;split at hm;{rename_i hb;simp only[al]at hb;have hv0:=ae hb.1.2;have hn0:=ae hb.1.1;have:=ae hb.2;subst this;have hlt:r.ido<σ.next:=aR (hr.2 r (bn hrr).1).2;have hrep:=hh.rep hlt;rw[hob]at hrep;obtain⟨hR,ex,cs,fl,fh,q1,q2,q3,q4,q5,q6,q7,q8⟩:=hrep;have hvr:=zS (ρ:=ρ) h hm he q7;have hl1:=@VRL.length v' _ _ _ hvr;have hl2:=@VRL.length v _ _ _ q7;have hll:c'.length=c.length:=(by omega);refine⟨hid,ex,cs,fl,fh,?_,q2,q3,q4,by rw[hll];exact q5,by rw[hll];exact q6,hvr,by rw[hll];exact q8⟩;rw[gk hng];simp [aM,hnR,hrr,hv0,q1,hn0,Ext.upto_zero]};cases hm};cases hm};cases hm
 |_=>exact Uc h.glt hid (xC hh hr (by simpa[Jq]using hm) he hid)
theorem vt{nx:Nat}{tm:T AV}:∀{l:List (Nat×Ob)} {e:bS},zR R nx ρ tm σ Z l=some e→∀i o,(i,o)∈l→R≤i∧i<nx∧∃e',Jq R ρ tm σ Z i o=some e'∧∀p∈e',p∈e:=by
 intro l
 induction l with
 |nil=>intro e _ i o hm;cases hm
 |cons q l ih=>intro e h i o hm;obtain⟨j,oj⟩:=q;simp only[zR,ai,al]at h;split at h;{rename_i hb;split at h;{rename_i p q hp hq;cases h;rcases List.mem_cons.1 hm with hm|hm;{cases hm;exact⟨aB hb.1,aR hb.2,p,hp,fun x hx=>List.mem_append_left _ hx⟩};obtain⟨h1,h2,e',h3,h4⟩:=ih hq i o hm;exact⟨h1,h2,e',h3,fun x hx=>List.mem_append_right _ (h4 x hx)⟩};cases h};cases h
theorem Jo{tm:T AV}:∀{l:List (Nat×AV)} {e:bS},Jp R ρ tm σ Z l=some e→∀t x,(t,x)∈l→∃y e',tm.get t=some y∧ga R ρ σ Z y x=some e'∧∀p∈e',p∈e:=by
 intro l
 induction l with
 |nil=>intro e _ i o hm;cases hm
 |cons q l ih=>intro e h t x hm;obtain⟨j,xj⟩:=q;simp only[Jp]at h;split at h;{rename_i y hy;split at h;{rename_i p q hp hq;cases h;rcases List.mem_cons.1 hm with hm|hm;{cases hm;exact⟨y,p,hy,hp,fun x hx=>List.mem_append_left _ hx⟩};obtain⟨y',e',h3,h4,h5⟩:=ih hq t x hm;exact⟨y',e',h3,h4,fun x hx=>List.mem_append_right _ (h5 x hx)⟩};cases h};cases h
theorem Fj(h:GvOk v R Z σ w φ){nx:Nat}(hr:jj R nx σ.next ρ=true){s:Nat}(hz:Sy R s ρ Z=true):WF R (cq R ρ Z φ w) w:=by
 have hwf:=@Inv0.wf v _ _ _ _ _ h.inv;have hwf1:=nk hwf hr;have hzz:∀z∈Z,∀r∈ρ,r.ido≠z:=fun z hz' r hr' heq=>by have:=List.all_eq_true.1 hz z hz';simp only[al,Bool.not_eq_true',List.any_eq_false]at this;exact this.2 r hr' (by rw[heq];exact Nat.beq_refl _)
 simp only[jj,al,oD]at hr;have hall:=hr.2;have key:∀i u e,cq R ρ Z φ w i u=some e→(i=gid∧(∃z∈Z,∃t f,φ z t=some f∧f.blk=u)∧(∃c t fr,w.heap[u]? =some (.cells c t fr))∧e.blk=u∧e.hi=0∧e.up=0)∨aM R ρ φ i u=some e:=fun i u e he=>by by_cases hi:i=gid;{subst hi;rcases mF he with h1|⟨_,h1⟩;{exact .inr (by rw[bL gid h.glt];exact h1)};obtain⟨h2,c,t,fr,h3,rfl⟩:=tw h1;exact .inl ⟨rfl,h2,⟨c,t,fr,h3⟩,rfl,rfl,rfl⟩};rw[gk hi]at he;exact .inr he
 have apart:∀u j t f,(∃z∈Z,∃t f,φ z t=some f∧f.blk=u)→aM R ρ φ j t=some f→f.blk=u→j<R:=fun u j t f ⟨z,hz1,t1,f1,h1,h2⟩ hf hb=>by rcases aS j R with hj|hj;{exact hj};exfalso;obtain⟨_,r,f2,h3,h4,rfl⟩:=ff hj hf;rw[Ext.upto_blk]at hb;rcases hwf.inj _ _ _ _ _ _ h1 h4 (h2.trans hb.symm)with q|q;{exact hzz z hz1 r (bn h3).1 q.symm};have:=h.low z hz1;omega
 refine⟨fun i u e j t f hi hj hb=> ?_,fun i u e hi=> ?_,fun i u e hi=> ?_⟩;{rcases key _ _ _ hi with⟨rfl,a1,a2,a3,_⟩|h1;{rcases key _ _ _ hj with⟨rfl,b1,b2,b3,_⟩|h2;{exact .inl rfl};exact .inr ⟨h.glt,apart u j t f a1 h2 (by rw[←hb,a3])⟩};rcases key _ _ _ hj with⟨rfl,b1,b2,b3,_⟩|h2;{exact .inr ⟨apart t i u e b1 h1 (by rw[hb,b3]),h.glt⟩};exact hwf1.inj _ _ _ _ _ _ h1 h2 hb};{rcases key _ _ _ hi with⟨rfl,a1,⟨c,t,fr,a2⟩,a3,_⟩|h1;{rw[a3];rcases aS u w.heap.size with h|h;{exact h};rw[Array.getElem?_eq_none h]at a2;cases a2};exact hwf1.lt _ _ _ h1};rcases key _ _ _ hi with⟨rfl,a1,a2,a3,a4,a5⟩|h1;{omega};exact hwf1.top _ _ _ h1
theorem aV{nr nb:Nat}{gl:Nat→Option Nat}{b:bK}(hb:BaseOk gl b R){tm:T AV}{tm':List (Nat×AV)}{objs':List (Nat×Ob)}{nx':Nat}{e:bS}(hm:dS R nb ρ Z tm σ tm' objs' nx'=some e)(he:EqsOk v v' e):
 Retell gl b R nr nb v tm σ v' (ba tm') (aA b objs' nx'):=by
 cases Z with
 |nil=>exact aT hb hm he
 |cons z0 Z0=>
 generalize hZ:z0::Z0=Z at*;have hm:(bif (jj R nx' σ.next ρ&&Sy R (jh nb) ρ Z)&&(Nat.ble R nx'&&(vg R ρ (cK nb)&&Lv R (jh nb) ρ))then(match Jp R ρ tm σ Z tm',zR R nx' ρ tm σ Z objs' with
  |some p,some q=>some (p++q)
  |_,_=>none)else none)=some e:=by rw[←hm,←hZ];rfl
 intro nt a w φ hh;rw[ai]at hm;split at hm
 ·rename_i hc;simp only[al]at hc;obtain⟨⟨hre,hgv⟩,hRn,hpin,hst⟩:=hc;have hRn:=aB hRn;split at hm
  ·rename_i p q hp hq;cases hm;obtain⟨hep,heq⟩:=he.app;obtain⟨gver,gcid,gsh,gX,gY,gt,hgat⟩:=hb.gid_at;have hgR:=hb.gid_lt;have hzR:∀z∈Z,R+jh nb≤z:=fun z hz=>by
    have:=List.all_eq_true.1 hgv z hz;simp only[al]at this;exact aB this.1
   have hgrep:=hh.roA v gid hgR;rw[hgat]at hgrep;have hgk:∀n e,φ gid n=some e→e=⟨n,0,0,0,0,e.snap⟩∧∃t fr,w.heap[e.blk]? =some (.cells e.snap.toArray t fr):=fun n e he=>hgrep n e (by rw[PM.low_lt _ hgR];exact he);have G:GvOk v R Z σ w φ:=⟨@Inv.inv0 v _ _ _ _ _ _ hh.inv,hgR,fun n e he=>(hgk n e he).1,fun z hz=>by have:=hzR z hz;omega⟩;have hle:(φ.low R).le (cq R ρ Z φ w):=fun i u f hf=>(by refine lR hgR i u f ?_;unfold PM.low at hf;split at hf;{rename_i hi;rw[bL i hi];exact hf};cases hf);have hlownew:∀i,i<R→i≠gid→∀u,cq R ρ Z φ w i u=φ i u:=fun i hi hne u=>(by rw[gk hne,bL i hi]);have hgz:∀n e,cq R ρ Z φ w gid n=some e→e=⟨n,0,0,0,0,e.snap⟩∧∃t fr,w.heap[e.blk]? =some (.cells e.snap.toArray t fr):=fun n e he=>(by rcases mF he with h1|⟨_,h1⟩;{exact hgk n e h1};obtain⟨_,c,t,fr,h3,rfl⟩:=tw h1;exact⟨rfl,t,fr,h3⟩);have hwf:=Fj G hre hgv;have hre':=hre;simp only[jj,al,oD]at hre';have hbase:∀(v2:Val) i,i<R→@Rep v2 R (cq R ρ Z φ w) w i (b.get i):=fun v2 i hi=>(by by_cases hne:i=gid;{subst hne;rw[hgat];exact hgz};exact @Rep.frame v2 R _ _ w w i _ hle (fun u=>by rw[hlownew i hi hne,PM.low_lt _ hi]) (fun _ _ _=>rfl) (hh.roA v2 i hi));have hroA:∀(v2:Val) i,i<R→@Rep v2 R ((cq R ρ Z φ w).low R) w i (b.get i):=fun v2 i hi=>(by by_cases hne:i=gid;{subst hne;rw[hgat];intro n e he;exact hgz n e (by rwa[PM.low_lt _ hi]at he)};refine @Rep.frame v2 R _ _ w w i _ (fun j u f hf=> ?_) (fun u=>by rw[PM.low_lt _ hi,PM.low_lt _ hi,hlownew i hi hne]) (fun _ _ _=>rfl) (hh.roA v2 i hi);have hj:j<R:=(by unfold PM.low at hf;split at hf;{assumption};cases hf);rw[PM.low_lt _ hj];exact hle j u f hf);refine⟨cq R ρ Z φ w,⟨hh.size,fun t x hx=> ?_,hh.dfs,⟨hwf,hRn,fun i _ hn=> ?_,fun g n hg=> ?_,fun i hn=> ?_,fun _ _ h=>by simp [js]at h,fun _ _ h=>by simp [js]at h,fun _ h=>(by cases h),fun i hi=>hroA v' i hi,@jr v'⟩,fun i hn u=> ?_,fun v'' i hi=>hroA v'' i hi,rfl,rfl⟩,?_⟩;{obtain⟨y,e',h1,h2,h3⟩:=Jo hp t x (oi hx);obtain⟨x',q1,q2⟩:=hh.val t y h1;exact⟨x',q1,DS G h2 (fun z hz=>hep z (h3 z hz)) q2⟩};{rcases ef b objs' i with h1|⟨o,h1,h2⟩;{show @Rep v' R _ w i ((br b objs').get i);rw[h1];by_cases hi:i<R;{exact hbase v' i hi};rw[hb.none i (by omega)];trivial};show @Rep v' R _ w i ((br b objs').get i);rw[h2];obtain⟨g1,g2,e',g3,g4⟩:=vt hq i o h1;exact MM G hh.lite hre g3 (fun z hz=>heq z (g4 z hz)) g1};{obtain⟨f,h1,h2⟩:=hh.glo hg;exact⟨f,hle _ _ _ (by rw[PM.low_lt _ (hb.gl g n hg)];exact h1),h2⟩};{show(br b objs').get i=none;have hn:nx'≤i:=hn;rcases ef b objs' i with h1|⟨o,h1,h2⟩;{rw[h1];exact hb.none i (by omega)};obtain⟨g1,g2,_⟩:=vt hq i o h1;omega};{have hn:nx'≤i:=hn;rw[gk (by omega)];have hnR:¬i<R:=(by omega);simp only[aM,hnR,if_false];split;{split;{rename_i r hr;have:=aR (hre'.2 r (bn hr).1).1.2;have:=(bn hr).2;omega};rfl};rfl};exact{
    size:=aE _
    keep:=fun _ _ _=>rfl
    own:=fun i u f hi hf=>by rw[gk (by omega)]at hf;obtain⟨_,r,f',h1,h2,rfl⟩:=ff hi hf;exact .inl ⟨r.ido,r.ver,f',aB (hre'.2 r (bn h1).1).1.1.1,h2,(Ext.upto_blk _ _).symm,rR hst h1⟩
    low:=⟨fun i hi u e he=>hle i u e (by rw[PM.low_lt _ hi];exact he),fun i hi u e he=>by by_cases hne:i=gid;{subst hne;rcases mF he with h1|⟨_,h1⟩;{exact .inl h1};obtain⟨⟨z,hz,t,f,h2,h3⟩,c,t2,fr,h4,rfl⟩:=tw h1;exact .inr ⟨rfl,.inl ⟨z,t,f,hzR z hz,h2,h3⟩⟩};rw[hlownew i hi hne]at he;exact .inl he⟩
    pin:=fun i e h1 h2 h3=>by rw[gk (by omega)];exact sU hpin i e h1 h2 h3
    ro:=fun _ _ _ _ _=>rfl
    os:=rfl
    out:=rfl
    tape:=rfl}
  cases hm
 cases hm
end
end Go.Tw
namespace Go.Tw
open Go.ChangeShapes Go.RowKit
end Go.Tw
