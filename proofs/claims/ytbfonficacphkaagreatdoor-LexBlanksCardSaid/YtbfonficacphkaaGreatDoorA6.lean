/-
  A part of the proof that the abstract evaluator is sound for the model's machine. Conditions: those of each theorem, as it states them.
-/
import Derived.Test.YtbfonficacphkaaGreatDoorA4
import Derived.Test.YtbfonficacphkaaGreatDoorA5
import Derived.Carry
import Derived.ChangeArms
set_option linter.all false
namespace Go.Tw
open Go.ChangeShapes Go.RowKit
abbrev bK:=T Ob
noncomputable def js(gl:Nat→Option Nat)(b:bK):Cfg:={gl:=gl,hk:=fun _ _ _=>.no,pin:=fun _=>none,dec:=fun _=>none,base:=fun i=>b.get i,oh:=VQ}
noncomputable def bX(gl:Nat→Option Nat)(b:bK)(p:bo)(hk:FuncId→List AV→St→CR):Cfg:={gl:=gl,hk:=hk,pin:=fun _=>none,dec:=eW p,base:=fun i=>b.get i,oh:=VQ}
structure Hold(v:Val)(gl:Nat→Option Nat)(b:bK)(R nt:Nat)(tm:T AV)(σ:St)(a:Act)(w:World)(φ:PM):Prop where
 size:a.tmps.size=nt
 val:∀t x,tm.get t=some x→∃x',a.tmps[t]? =some x'∧@VR v φ x x'
 dfs:a.defers=[]
 inv:@Inv v R (js gl b) (fun _=>True) φ σ w
 free:∀i,σ.next≤i→∀u,φ i u=none
 roA:∀v':Val,∀i,i<R→@Rep v' R (φ.low R) w i (b.get i)
 rd:σ.rd=[]
 wr:σ.wr=[]
theorem Hold.wf{v:Val}{gl:Nat→Option Nat}{b:bK}{R nt:Nat}{tm:T AV}{σ:St}{a:Act}{w:World}{φ:PM}(h:Hold v gl b R nt tm σ a w φ):WF R φ w:=h.inv.wf
theorem Hold.rep{v:Val}{gl:Nat→Option Nat}{b:bK}{R nt:Nat}{tm:T AV}{σ:St}{a:Act}{w:World}{φ:PM}(h:Hold v gl b R nt tm σ a w φ){i:Nat}(hi:i<σ.next):@Rep v R φ w i (σ.heap.get i):=h.inv.rep i trivial hi
theorem Hold.glo{v:Val}{gl:Nat→Option Nat}{b:bK}{R nt:Nat}{tm:T AV}{σ:St}{a:Act}{w:World}{φ:PM}(h:Hold v gl b R nt tm σ a w φ){g n:Nat}(hg:gl g=some n):
 ∃e,φ g 0=some e∧e.blk=g∧e.up=0∧e.dn=0∧n≤e.hi:=h.inv.gl g n hg
theorem Hold.low{v:Val}{gl:Nat→Option Nat}{b:bK}{R nt:Nat}{tm:T AV}{σ:St}{a:Act}{w:World}{φ:PM}(h:Hold v gl b R nt tm σ a w φ):R≤σ.next:=h.inv.low
abbrev cK(nb:Nat):Nat:=nb%1048576
abbrev jh(nb:Nat):Nat:=nb%1048576+nb / 1048576
def Kin(R nb i j:Nat):Prop:=j=i∨(R+jh nb≤i∧R+jh nb≤j)
theorem Kin.trans{R nb i j k:Nat}(h:Kin R nb i j)(h':Kin R nb j k):Kin R nb i k:=by unfold Kin at*;omega
structure LowX(R nb:Nat)(φ:PM)(w:World)(φ':PM):Prop where
 le:∀i,i<R→∀u e,φ i u=some e→φ' i u=some e
 new:∀i,i<R→∀u e,φ' i u=some e→φ i u=some e∨(i=gid∧((∃j t f,R+jh nb≤j∧φ j t=some f∧f.blk=e.blk)∨w.heap.size≤e.blk))
theorem LowX.of_eq{R nb:Nat}{φ φ':PM}{w:World}(h:φ'.low R=φ.low R):LowX R nb φ w φ':=by
 have key:∀i,i<R→∀u,φ' i u=φ i u:=fun i hi u=>by have:=congrFun (congrFun h i) u;rwa[PM.low_lt _ hi,PM.low_lt _ hi]at this
 exact⟨fun i hi u e he=>(key i hi u).trans he,fun i hi u e he=>.inl ((key i hi u).symm.trans he)⟩
structure Trans(R nr nb:Nat)(φ:PM)(w:World)(φ':PM)(w':World):Prop where
 size:w.heap.size≤w'.heap.size
 keep:∀b,b<w.heap.size→(∀i u e,R≤i→φ i u=some e→e.blk≠b)→w'.heap[b]? =w.heap[b]?
 own:∀i u e,R≤i→φ' i u=some e→(∃j t f,R≤j∧φ j t=some f∧f.blk=e.blk∧Kin R nb i j)∨w.heap.size≤e.blk
 low:LowX R nb φ w φ'
 pin:∀i e,R≤i→i<R+cK nb→φ i 0=some e→φ' i 0=some e
 ro:∀i e,R≤i→i<R+nr→φ i 0=some e→w'.heap[e.blk]? =w.heap[e.blk]?
 os:w'.os=w.os
 out:w'.output=w.output
 tape:w'.tape=w.tape
theorem Trans.refl(R nr nb:Nat)(φ:PM)(w:World):Trans R nr nb φ w φ w:=⟨aE _,fun _ _ _=>rfl,fun i u e hi he=>.inl ⟨i,u,e,hi,he,rfl,.inl rfl⟩,.of_eq rfl,fun _ _ _ _ h=>h,fun _ _ _ _ _=>rfl,rfl,rfl,rfl⟩
theorem Trans.trans{R nr nb:Nat}(hrb:nr≤cK nb){φ φ1 φ2:PM}{w w1 w2:World}(h:Trans R nr nb φ w φ1 w1)(k:Trans R nr nb φ1 w1 φ2 w2):Trans R nr nb φ w φ2 w2 where
 size:=Nat.le_trans h.size k.size
 keep:=fun b hb hn=>by rw[k.keep b (Nat.lt_of_lt_of_le hb h.size) ?_];{exact h.keep b hb hn};intro i u e hi he heq;rcases h.own i u e hi he with⟨j,t,f,hj,hf,hb',_⟩|hb';{exact hn j t f hj hf (hb'.trans heq)};omega
 own:=fun i u e hi he=>by rcases k.own i u e hi he with⟨j,t,f,hj,hf,hb,hk⟩|hb;{rcases h.own j t f hj hf with⟨j',t',f',hj',hf',hb',hk'⟩|hb';{exact .inl ⟨j',t',f',hj',hf',hb'.trans hb,hk.trans hk'⟩};exact .inr (by omega)};exact .inr (Nat.le_trans h.size hb)
 low:=⟨fun i hi u e he=>k.low.le i hi u e (h.low.le i hi u e he),fun i hi u e he=>by rcases k.low.new i hi u e he with h1|⟨rfl,⟨j,t,f,h1,h2,h3⟩|h1⟩;{rcases h.low.new i hi u e h1 with h2|⟨h2,h3⟩;{exact .inl h2};exact .inr ⟨h2,h3⟩};{rcases h.own j t f (by omega) h2 with⟨j',t',f',hj',hf',hb',hk'⟩|hb';{refine .inr ⟨rfl,.inl ⟨j',t',f',?_,hf',hb'.trans h3⟩⟩;rcases hk' with rfl|hk';{exact h1};exact hk'.2};exact .inr ⟨rfl,.inr (by omega)⟩};exact .inr ⟨rfl,.inr (Nat.le_trans h.size h1)⟩⟩
 pin:=fun i e h1 h2 h3=>k.pin i e h1 h2 (h.pin i e h1 h2 h3)
 ro:=fun i e h1 h2 h3=>(k.ro i e h1 h2 (h.pin i e h1 (by omega) h3)).trans (h.ro i e h1 h2 h3)
 os:=k.os.trans h.os
 out:=k.out.trans h.out
 tape:=k.tape.trans h.tape
theorem Trans.of_sub{R nr nb:Nat}{φ φ':PM}{w:World}(hl:φ'.low R=φ.low R)(hp:∀i e,R≤i→i<R+cK nb→φ i 0=some e→φ' i 0=some e)(h:∀i u e,R≤i→φ' i u=some e→∃j t f,R≤j∧φ j t=some f∧f.blk=e.blk∧Kin R nb i j):Trans R nr nb φ w φ' w:=
 ⟨aE _,fun _ _ _=>rfl,fun i u e hi he=>.inl (h i u e hi he),.of_eq hl,hp,fun _ _ _ _ _=>rfl,rfl,rfl,rfl⟩
theorem Trans.of_post{v:Val}{R nr nb:Nat}{D:Nat→Prop}{φ φ':PM}{σ σ':St}{w w':World}(hwf:WF R φ w)(h:@Post v R D φ σ w σ' φ' w')(hl:R≤σ.next)(hw:∀i∈σ.wr,R≤i)(hro:∀i∈σ'.wr,R+nr≤i):Trans R nr nb φ w φ' w':=by obtain⟨h1,h2⟩:=@Post.lows v R D φ φ' σ σ' w w' h hl hw;refine⟨h.frm.size,fun b hb hn=>h.frm.keep b hb fun i hi u e he=>hn i u e (h1 i hi) he,fun i u e hi he=> ?_,.of_eq h2,fun i e _ _ he=>h.le _ _ _ he,fun i e hi1 hi2 he=> ?_,h.frm.os,h.frm.out,h.frm.tape⟩;{rcases h.blk i u e he with⟨t,f,hf,hb⟩|hb;{exact .inl ⟨i,t,f,hi,hf,hb,.inl rfl⟩};exact .inr hb};refine h.frm.keep e.blk (hwf.lt _ _ _ he) fun j hj u f hf hb=> ?_;have:=hro j hj;rcases hwf.inj _ _ _ _ _ _ hf he hb with h|h;{omega};omega
theorem zb{R nr nb:Nat}{b:bK}{φ φ':PM}{w w':World}(hwf:WF R φ w)(htr:Trans R nr nb φ w φ' w')(hlow:φ'.low R=φ.low R)(h:∀v':Val,∀i,i<R→@Rep v' R (φ.low R) w i (b.get i)):∀v':Val,∀i,i<R→@Rep v' R (φ'.low R) w' i (b.get i):=by intro v' i hi;rw[hlow];refine @Rep.frame v' R _ _ w w' i _ (PM.le_refl _) (fun _=>rfl) (fun u f hf=> ?_) (h v' i hi);rw[PM.low_lt _ hi]at hf;refine htr.keep f.blk (hwf.lt i u f hf) fun j t g hj hg heq=> ?_;rcases hwf.inj _ _ _ _ _ _ hg hf heq with h1|h1;{omega};omega
def HTo(v:Val)(P:Program)(gl:Nat→Option Nat)(b:bK)(R nr nb nt:Nat)(c:Code)(tm:T AV)(σ:St)(e:AExit)(tm':T AV)(σ':St):Prop:=
 ∀(a:Act) (cs:List Frame) (w:World) (φ:PM),Hold v gl b R nt tm σ a w φ→
  Runs P none false c (fun e' a' cs' w'=>cs'=cs∧ExitP e e'∧∃φ',Hold v gl b R nt tm' σ' a' w' φ'∧Trans R nr nb φ w φ' w') a cs w
def Retell(gl:Nat→Option Nat)(b:bK)(R nr nb:Nat)(v:Val)(tm:T AV)(σ:St)(v':Val)(tm':T AV)(σ':St):Prop:=
 ∀(nt:Nat) (a:Act) (w:World) (φ:PM),Hold v gl b R nt tm σ a w φ→∃φ',Hold v' gl b R nt tm' σ' a w φ'∧Trans R nr nb φ w φ' w
section
variable{v:Val}{P:Program}{gl:Nat→Option Nat}{b:bK}{R nr nb nt:Nat}
theorem HTo.weak(hrb:nr≤cK nb){c:Code}{tm tm1 tm2:T AV}{σ σ1 σ2:St}{e:AExit}(h:HTo v P gl b R nr nb nt c tm σ e tm1 σ1)(k:Retell gl b R nr nb v tm1 σ1 v tm2 σ2):HTo v P gl b R nr nb nt c tm σ e tm2 σ2:=
 fun a cs w φ ha=>(h a cs w φ ha).mono fun _ _ _ _ ⟨q1,q2,φ1,q3,q4⟩=>by obtain⟨φ2,r1,r2⟩:=k _ _ _ _ q3;exact⟨q1,q2,φ2,r1,q4.trans hrb r2⟩
theorem HTo.pre(hrb:nr≤cK nb){v':Val}{c:Code}{tm0 tm tm' tm2:T AV}{σ0 σ σ' σ2:St}{e:AExit}(h:HTo v P gl b R nr nb nt c tm σ e tm' σ')(k:Retell gl b R nr nb v' tm0 σ0 v tm σ)(k':Retell gl b R nr nb v tm' σ' v' tm2 σ2):HTo v' P gl b R nr nb nt c tm0 σ0 e tm2 σ2:=by intro a cs w φ ha;obtain⟨φ1,r1,r2⟩:=k _ _ _ _ ha;refine(h a cs w φ1 r1).mono fun _ _ _ _ ⟨q1,q2,φ2,q3,q4⟩=> ?_;obtain⟨φ3,s1,s2⟩:=k' _ _ _ _ q3;exact⟨q1,q2,φ3,s1,(r2.trans hrb q4).trans hrb s2⟩
theorem HTo.seq(hrb:nr≤cK nb){x y:Code}{tm tm1 tm':T AV}{σ σ1 σ':St}{e:AExit}(h:HTo v P gl b R nr nb nt x tm σ .normal tm1 σ1)(k:HTo v P gl b R nr nb nt y tm1 σ1 e tm' σ'):HTo v P gl b R nr nb nt (.seq x y) tm σ e tm' σ':=by
 intro a cs w φ ha;refine dY ((h a cs w φ ha).mono fun e1 a1 cs1 w1 q=> ?_);obtain⟨rfl,q2,φ1,q3,q4⟩:=q;have:e1=.normal:=by cases e1<;>simp_all [ExitP]
 subst this;exact(k a1 _ w1 φ1 q3).mono fun e2 a2 cs2 w2 ⟨r1,r2,φ2,r3,r4⟩=>⟨r1,r2,φ2,r3,q4.trans hrb r4⟩
theorem HTo.seq_out{x y:Code}{tm tm':T AV}{σ σ':St}{e:AExit}(h:HTo v P gl b R nr nb nt x tm σ e tm' σ')(hn:e≠.normal):HTo v P gl b R nr nb nt (.seq x y) tm σ e tm' σ':=by
 intro a cs w φ ha;refine dY ((h a cs w φ ha).mono fun e1 a1 cs1 w1 q=> ?_);have hnn:e1≠.normal:=by obtain⟨_,q2,_⟩:=q;intro h';subst h';cases e<;>simp_all [ExitP]
 cases e1 with
 |normal=>exact absurd rfl hnn
 |_=>exact q
theorem HTo.block{id:Nat}{x:Code}{tm tm':T AV}{σ σ':St}(h:HTo v P gl b R nr nb nt x tm σ (.exit id) tm' σ'):HTo v P gl b R nr nb nt (.block id x) tm σ .normal tm' σ':=by intro a cs w φ ha;refine cM ((h a cs w φ ha).mono fun e1 a1 cs1 w1 q=> ?_);obtain⟨q1,q2,q3⟩:=q;cases e1<;>simp only[ExitP]at q2;subst q2;simp only[dv,if_true];exact⟨q1,trivial,q3⟩
theorem HTo.block_out{id:Nat}{x:Code}{tm tm':T AV}{σ σ':St}{e:AExit}(h:HTo v P gl b R nr nb nt x tm σ e tm' σ')(hn:e≠.exit id):HTo v P gl b R nr nb nt (.block id x) tm σ e tm' σ':=by
 intro a cs w φ ha;refine cM ((h a cs w φ ha).mono fun e1 a1 cs1 w1 q=> ?_);obtain⟨q1,q2,q3⟩:=q;cases e1 with
 |exit j=>cases e<;>simp only[ExitP]at q2;subst q2;rename_i i;have:i≠id:=fun h'=>hn (by rw[h']);simp only[dv,this,if_false];exact⟨q1,rfl,q3⟩
 |_=>exact⟨q1,q2,q3⟩
theorem HTo.cond{x:Operand}{t:Bool}{y z:Code}{tm tm':T AV}{σ σ':St}{e:AExit}(hx:∀(a:Act) (w:World) (φ:PM),Hold v gl b R nt tm σ a w φ→a.eval x=.bool t)(h:HTo v P gl b R nr nb nt (if t then y else z) tm σ e tm' σ'):
 HTo v P gl b R nr nb nt (.cond x y z) tm σ e tm' σ':=fun a cs w φ ha=>lO (hx a w φ ha) (h a cs w φ ha)
theorem pL{p:bo}(hp:@Holds v p){hk:FuncId→List AV→St→CR}(hs:bN (bX gl b p hk))(hh:@kI v P R (bX gl b p hk))(hm:P.follows .mixedOrders=true){n:Nat}{c:Code}{tm:T AV}{σ:St}{e:AExit}{env1:Env}{σ1:St}
 (h:exec P (bX gl b p hk) n nt c {tm:=tm,ds:=[],md:=none,rd:=false} σ=.ok e env1 σ1)(hn:∀c,e≠.panic c)(hd:env1.ds=[])(hmd:env1.md=none)(hro:∀i∈σ1.wr,R+nr≤i):HTo v P gl b R nr nb nt c tm σ e env1.tm σ1.bare:=by
 intro a cs w φ ha;have hi:@Inv v R (bX gl b p hk) (fun _=>True) φ σ w:=
  {wf:=ha.inv.wf,low:=ha.inv.low,rep:=ha.inv.rep,gl:=ha.inv.gl,dom:=ha.inv.dom,pin:=fun _ _ h=>by simp [bX]at h,dec:=fun _ _ hd=>@fX v _ hp _ _ hd,wrR:=ha.inv.wrR,ro:=ha.inv.ro,oh:=@jr v}
 have hf:@FrmR v φ nt {tm:=tm,ds:=[],md:=none,rd:=false} a:=⟨⟨ha.size,ha.val⟩,ha.dfs▸.nil⟩;refine((@tK v P R (bX gl b p hk) hs hh hm n).1 nt c _ _ e env1 σ1 (fun _=>True) φ a cs w none false cs h hi hf ⟨rfl,rfl⟩ rfl (fun i _ _=>trivial) (fun i h1 _ u=>ha.free i h1 u)).mono fun e' a' cs' w' q=> ?_;obtain⟨φ',g1,g2,g3,g4,g5⟩:=q;have hcs:cs'=cs:=by rw[hmd]at g3;exact g3.2
 have hst:StepA σ σ1:=by have:=aL (P:=P) hs n nt c {tm:=tm,ds:=[],md:=none,rd:=false} σ;rw[h]at this;exact this σ1 rfl
 have htr:Trans R nr nb φ w φ' w':=Trans.of_post ha.wf g5 ha.inv.low ha.inv.wrR hro;have hlw:=(@Post.lows v R _ φ φ' σ σ1 w w' g5 ha.inv.low ha.inv.wrR).2;have hi':=g5.inv hi hst;refine⟨hcs,ExitP.of g1 hn,φ',⟨g2.ev.size,g2.ev.val,?_,?_,fun i h1 u=> ?_,zb ha.inv.wf htr hlw ha.roA,rfl,rfl⟩,htr⟩;{have:=g2.dfs;rw[hd]at this;generalize a'.defers=l at this;cases this;rfl};{exact{wf:=hi'.wf,low:=hi'.low,rep:=fun i _ hn=>hi'.rep i (.inl trivial) hn,gl:=hi'.gl,dom:=hi'.dom,pin:=fun _ _ h=>by simp [js]at h,dec:=fun _ _ h=>by simp [js]at h,wrR:=fun _ h=>(by cases h),ro:=hi'.ro,oh:=@jr v}};by_cases hlt:i<σ.next;{have:=hst.next;have:σ1.next≤i:=h1;omega};rw[g5.grow i (.inr h1) (fun hx=>by have:σ1.next≤i:=h1;omega) u];exact ha.free i (by omega) u
end
end Go.Tw
namespace Go.Tw
structure RE where
 idn:Nat
 ido:Nat
 ver:Nat
 n:Nat:=0
 t:Nat:=0
def ku:List RE→Nat→Option RE
 |[],_=>none
 |r::l,i=>bif Nat.beq r.idn i then some r else ku l i
abbrev bS:=List (Sx×Sx)
def fR(b:Bool)(e:bS):Option bS:=bif b then some e else none
mutual
def lq(R:Nat)(ρ:List RE):AV→AV→Option bS
 | .sym k e,x=>match x with
  | .sym k' e'=>fR (Nat.beq (bQ k) (bQ k')) [(.pr 30 e (.lit 0),.pr 30 e' (.lit 0))]
  | .int k' n'=>fR (Nat.beq (bQ k) (bQ k')) [(.pr 30 e (.lit 0),.lit n')]
  |_=>none
 | .int k n,x=>match x with
  | .sym k' e'=>fR (Nat.beq (bQ k) (bQ k')) [(.lit n,.pr 30 e' (.lit 0))]
  | .int k' n'=>fR (Nat.beq (bQ k) (bQ k')&&mb n n') []
  |_=>none
 | .bool c,x=>match x with
  | .symb c'=>some [(.lit (dW c),Oo c')]
  | .bool c'=>fR (mo c c') []
  |_=>none
 | .symb c,x=>match x with
  | .symb c'=>some [(Oo c,Oo c')]
  |_=>none
 | .vstr e,x=>match x with
  | .vstr e'=>some [(e,e')]
  |_=>none
 | .str s,x=>match x with
  | .vstr e'=>some [(.slit s,e')]
  | .str s'=>fR (GF s s') []
  |_=>none
 | .nils,x=>match x with
  | .nils=>some []
  | .opq k _ _ sh x' y'=>bif Nat.beq k 2 then some [(.lit 0,y')]else bif Nat.beq k 0 then(match sh with
   | .slc _=>some [(.pr 13 (.lit 0) (.lit 0),x')]
   |_=>none)else none
  |_=>none
 | .slc id ver off len cap esz,x=>match x with
  | .opq k id' ver' sh' _ y'=>bif Nat.beq len 0 then(match cap with
   |some 0=>fR (Nat.beq k 2) [(.lit 0,y')]
   |_=>none)else(match ku ρ id',sh' with
   |some r,.slc l=>fR (Nat.beq k 2&&(Nat.ble R id'&&(Nat.beq r.ido id&&(Nat.beq r.ver ver&&(Nat.beq ver' 0&&(Nat.beq off 0&&(Nat.beq esz l.length&&(Nat.blt 0 r.n&&Nat.beq r.n (len*esz))))))))) [(.lit 1,y')]
   |_,_=>none)
  |_=>none
 | .opq k id ver sh x y,z=>match z with
  | .opq k' id' ver' sh' x' y'=>bif Nat.beq k 0 then fR (Nat.beq k' 0&&(Nat.beq id id'&&Nat.blt gid R&&Nat.beq id gid&&sh.same sh')) [(x,x')]
   else bif Nat.beq k 1 then fR (Nat.beq k' 1&&(Nat.beq id id'&&Nat.blt gid R&&Nat.beq id gid&&Nat.beq ver ver'&&sh.same sh')) [(x,x'),(y,y')]
   else bif Nat.beq k 2 then(match ku ρ id' with
    |some r=>fR (Nat.beq k' 2&&(Nat.ble R id'&&Nat.beq r.ido id&&Nat.beq r.ver ver&&Nat.beq ver' 0&&sh.same sh')&&Nat.beq r.n 0) [(y,y')]
    |none=>none)
   else bif Nat.beq k 4 then(match ku ρ id' with
    |some r=>fR (Nat.beq k' 4&&(Nat.ble R id'&&(Nat.beq r.ido id&&(Nat.beq r.ver 0&&Nat.beq r.n 0)))) []
    |none=>none)
   else bif Nat.beq k 5 then fR (Nat.beq k' 5&&(Nat.beq ver' 0||(Nat.beq ver ver'&&sh.same sh'))) [(x,x')]
   else bif Nat.beq k 8 then fR (Nat.beq k' 8&&sh.same sh') []
   else none
  |_=>none
 | .ptr id ver off hi,z=>match z with
  | .ptr id' ver' off' hi'=>match ku ρ id' with
   |some r=>fR (Nat.ble R id'&&Nat.beq r.ido id&&Nat.beq r.ver 0&&Nat.beq ver 0&&Nat.beq ver' 0&&Nat.beq off off'&&Nat.beq hi hi'&&Nat.beq r.n 0) []
   |none=>fR (Nat.blt id' R&&Nat.beq id id'&&Nat.beq ver ver'&&Nat.beq off off'&&Nat.beq hi hi') []
  |_=>none
 | .fn f a c,z=>match z with
  | .fn f' a' c'=>bif VT f f' then(match FN R ρ a a',FN R ρ c c' with
   |some p,some q=>some (p++q)
   |_,_=>none)else none
  |_=>none
 | .agg l,z=>match z with
  | .agg l'=>FN R ρ l l'
  |_=>none
 | .tup l,z=>match z with
  | .tup l'=>FN R ρ l l'
  |_=>none
 | .iface t u,z=>match z with
  | .iface t' u'=>bif Nat.beq t t' then lq R ρ u u' else none
  | .opq k' _ ver' sh' x' _=>bif Nat.beq k' 5 then(bif Nat.beq ver' 0 then fR u.flat [(.lit 1,x')]else(match u,sh' with
   | .int k n,.int k2=>fR (Nat.beq ver' t&&(Nat.beq (bQ k) (bQ k2)&& !mb n 0)) [(.lit n,x')]
   |_,_=>none))else none
  |_=>none
 | .nilp,z=>match z with
  | .nilp=>some []
  |_=>none
 | .nilm,z=>match z with
  | .nilm=>some []
  |_=>none
 | .nilfn,z=>match z with
  | .nilfn=>some []
  |_=>none
 | .nili,z=>match z with
  | .nili=>some []
  | .opq k' _ _ _ x' _=>bif Nat.beq k' 5 then some [(.lit 0,x')]else none
  |_=>none
 | .anyp,z=>match z with
  | .anyp=>some []
  |_=>none
 | .map a,z=>match z with
  | .opq k id' _ _ _ _=>match ku ρ id' with
   |some r=>fR (Nat.beq k 4&&(Nat.ble R id'&&(Nat.beq r.ido a&&(Nat.beq r.ver 0&&Nat.beq r.n 0)))) []
   |none=>none
  |_=>none
 | .yld a,z=>match z with
  | .yld id'=>match ku ρ id' with
   |some r=>fR (Nat.ble R id'&&(Nat.beq r.ido a&&(Nat.beq r.ver 0&&Nat.beq r.n 0))) []
   |none=>none
  |_=>none
 |_,_=>none
def FN(R:Nat)(ρ:List RE):List AV→List AV→Option bS
 |[],z=>match z with
  |[]=>some []
  |_=>none
 |y::l,z=>match z with
  |[]=>none
  |x::m=>match lq R ρ y x,FN R ρ l m with
   |some p,some q=>some (p++q)
   |_,_=>none
end
def Te:Option Nat→Option Nat→Bool
 |none,none=>true
 |some a,some b=>Nat.beq a b
 |_,_=>false
theorem ND{a b:Option Nat}(h:Te a b=true):a=b:=by cases a<;>cases b<;>simp only[Te,bY]at h;{rfl};rw[ae h]
def FM(R:Nat)(ρ:List RE):List AV→List AV→Option bS
 |[],z=>match z with
  |[]=>some []
  |_=>none
 |y::l,z=>match z with
  |[]=>none
  |x::m=>match(match x with
   | .unk=>fR y.flat []
   | .sslc e'=>(match y with
    | .slc _ _ _ len _ _=>some [(.pr 30 (.lit len) (.lit 0),.pr 30 e' (.lit 0))]
    |_=>none)
   | .slc id' ver' off' len' cap' esz'=>(match y with
    | .slc id ver off len cap esz=>(match ku ρ id' with
     |some r=>fR (Nat.ble R id'&&(Nat.beq r.ido id&&(Nat.beq r.ver 0&&(Nat.beq ver 0&&(Nat.beq ver' 0&&(Nat.beq off off'&&(Nat.beq len len'&&(Te cap cap'&&(Nat.beq esz esz'&&Nat.beq r.n 0))))))))) []
     |none=>none)
    |_=>none)
   |x=>lq R ρ y x),FM R ρ l m with
   |some p,some q=>some (p++q)
   |_,_=>none
def EqsOk(v v':Val)(e:bS):Prop:=∀p∈e,@Sx.dat v p.1=@Sx.dat v' p.2
theorem EqsOk.app{v v':Val}{a c:bS}(h:EqsOk v v' (a++c)):EqsOk v v' a∧EqsOk v v' c:=
 ⟨fun p hp=>h p (List.mem_append_left _ hp),fun p hp=>h p (List.mem_append_right _ hp)⟩
def Ext.upto(n:Nat)(e:Ext):Ext:=if n=0 then e else{e with hi:=min n e.hi}
theorem Ext.upto_blk(n:Nat)(e:Ext):(e.upto n).blk=e.blk:=by unfold Ext.upto;split<;>rfl
theorem Ext.upto_zero(e:Ext):e.upto 0=e:=rfl
def aM(R:Nat)(ρ:List RE)(φ:PM):PM:=fun i u=>if i<R then φ i u else if u=0 then(match ku ρ i with
 |some r=>(φ r.ido r.ver).map (Ext.upto r.n)
 |none=>none)else none
theorem aU{c:Bool}{a e:bS}(h:fR c a=some e):c=true∧e=a:=by cases c<;>simp [fR]at h;exact⟨rfl,h.symm⟩
theorem nH{R:Nat}{ρ:List RE}{φ:PM}(hg:gid<R){bb:Nat}{s:List Value}(h:Pict φ gid bb s):Pict (aM R ρ φ) gid bb s:=by obtain⟨j,n,e,hj,he,h⟩:=h;have hj:j=gid:=hj.elim id id;subst hj;exact⟨gid,n,e,.inl rfl,by simp [aM,hg,he],h⟩
section
variable{v v':Val}{R:Nat}{ρ:List RE}{φ:PM}
theorem GR{a c:Sx}(h:@Sx.dat v (.pr 30 a (.lit 0))=@Sx.dat v' (.pr 30 c (.lit 0))):@Sx.eval v a=@Sx.eval v' c:=by have h:Dat.int (@Sx.dat v a).toI=Dat.int (@Sx.dat v' c).toI:=h;exact Dat.int.inj h
theorem Er{a c:Bool}(h:dW a=dW c):a=c:=by cases a<;>cases c<;>simp [dW]at h<;>rfl
mutual
theorem lj:∀{y x:AV} {e:bS} {z:Value},lq R ρ y x=some e→EqsOk v v' e→@VR v φ y z→@VR v' (aM R ρ φ) x z
 | .sym k e0,x,e,z,h,he,hv=>by
  cases x<;>simp only[lq,reduceCtorEq]at h
  ·obtain⟨h1,rfl⟩:=aU h;have:=bF (ae h1);subst this;cases hv;rename_i n';have h0:=he _ (List.mem_singleton.2 rfl);have:@Sx.eval v e0=n':=by
    have h0:Dat.int (@Sx.dat v e0).toI=Dat.int n':=h0;exact Dat.int.inj h0
   rw[this];exact @VR.int v' _ _ _
  obtain⟨h1,rfl⟩:=aU h;have:=bF (ae h1);subst this;cases hv;have e1:=GR (he _ (List.mem_singleton.2 rfl));rw[e1];exact @VR.sym v' _ _ _
 | .int k n,x,e,z,h,he,hv=>by cases x<;>simp only[lq,reduceCtorEq]at h;{obtain⟨h1,rfl⟩:=aU h;simp only[al]at h1;have:=bF (ae h1.1);subst this;have:=xW h1.2;subst this;cases hv;exact @VR.int v' _ _ _};obtain⟨h1,rfl⟩:=aU h;have:=bF (ae h1);subst this;cases hv;rename_i e';have h0:=he _ (List.mem_singleton.2 rfl);have:n=@Sx.eval v' e':=(by have h0:Dat.int n=Dat.int (@Sx.dat v' e').toI:=h0;exact Dat.int.inj h0);rw[this];exact @VR.sym v' _ _ _
 | .bool c,x,e,z,h,he,hv=>by cases x<;>simp only[lq,reduceCtorEq]at h;{obtain⟨h1,rfl⟩:=aU h;have:=gN h1;subst this;cases hv;exact @VR.bool v' _ _};cases h;cases hv;rename_i c';have h0:=he _ (List.mem_singleton.2 rfl);simp only[@rD v',Sx.dat,Dat.int.injEq]at h0;rw[Er h0];exact @VR.symb v' _ _
 | .symb c,x,e,z,h,he,hv=>by cases x<;>simp only[lq,reduceCtorEq]at h;cases h;cases hv;have h0:=he _ (List.mem_singleton.2 rfl);simp only[@rD v',@rD v,Dat.int.injEq]at h0;rw[Er h0];exact @VR.symb v' _ _
 | .vstr e0,x,e,z,h,he,hv=>by
  cases x<;>simp only[lq,reduceCtorEq]at h;cases h;cases hv with
  |vstr s hs=>exact @VR.vstr v' _ _ s ((he _ (List.mem_singleton.2 rfl)).symm.trans hs)
 | .str s,x,e,z,h,he,hv=>by cases x<;>simp only[lq,reduceCtorEq]at h;{cases h;cases hv;exact @VR.vstr v' _ _ s (he _ (List.mem_singleton.2 rfl)).symm};obtain⟨h1,rfl⟩:=aU h;have:=Ba h1;subst this;cases hv;exact @VR.str v' _ _
 | .nils,x,e,z,h,he,hv=>by cases hv;cases x<;>simp only[lq,reduceCtorEq]at h;{exact @VR.nils v' _};rename_i k id ver sh x' y';rw[ai]at h;split at h;{rename_i hk;have:=ae hk;subst this;cases h;exact @VR.opq v' _ _ _ _ _ _ _ _ (.inl ⟨(he _ (List.mem_singleton.2 rfl)).symm,none,rfl⟩)};rw[ai]at h;split at h;{rename_i hk;have:=ae hk;subst this;split at h;{rename_i l;cases h;refine @VR.opq v' _ _ _ _ _ _ _ _ ⟨l,none,0,0,rfl,rfl,?_⟩;rw[←he _ (List.mem_singleton.2 rfl)];exact .none l none 0};cases h};cases h
 | .slc id ver off len cap esz,x,e,z,h,he,hv=>by
  cases x<;>simp only[lq,reduceCtorEq]at h;rename_i k id' ver' sh' x' y';rw[ai]at h;split at h
  ·rename_i hl0;have:=ae hl0;subst this;split at h
   ·obtain⟨h1,rfl⟩:=aU h;have:=ae h1;subst this;cases hv with
    |slc ex o c g1 g2 g3 g4 g5 g6=>have:=(g5 0 rfl).1;subst this;exact @VR.opq v' _ _ _ _ _ _ _ _ (.inl ⟨(he _ (List.mem_singleton.2 rfl)).symm,_,rfl⟩)
   cases h
  split at h
  ·rename_i r l hr;obtain⟨h1,rfl⟩:=aU h;simp only[al]at h1;obtain⟨b1,b2,b3,b4,b5,b6,b7,b8,b9⟩:=h1;have:=ae b1;subst this;have b2:=aB b2;have:=ae b3;subst this;have:=ae b4;subst this;have:=ae b5;subst this;have:=ae b6;subst this;have:=ae b7;subst this;have b8:=aR b8;have b9:=ae b9;cases hv with
   |slc ex o c g1 g2 g3 g4 g5 g6=>have hnR:¬id'<R:=(by omega);have hlen:0<len:=(by rcases Nat.eq_zero_or_pos len with h|h;{rw[h]at b9;omega};exact h);obtain⟨g7,g8⟩:=g6.resolve_left (by omega);have ho:o=ex.up:=(by omega);subst ho;have hup:Ext.upto r.n ex={ex with hi:=len*l.length}:=(by have:¬r.n=0:=(by omega);simp only[Ext.upto,this,if_false];rw[b9,Nat.min_eq_left (by omega)]);exact @VR.opq v' _ _ _ _ _ _ _ _ (.inr ⟨(he _ (List.mem_singleton.2 rfl)).symm,l,{ex with hi:=len*l.length},c,len,rfl,by simp [aM,hnR,hr,g1,hup],by show ex.dn=0;omega,rfl,g4,g8,rfl⟩)
  cases h
 | .opq k id ver sh x0 y0,x,e,z,h,he,hv=>by
  cases x<;>simp only[lq,reduceCtorEq]at h;rename_i k' id' ver' sh' x' y';cases hv with
  |opq _ hk=>simp only[ai]at h;split at h;{rename_i hb;have:=ae hb;subst this;obtain⟨h1,rfl⟩:=aU h;simp only[al]at h1;obtain⟨b1,⟨⟨b2,b3⟩,b4⟩,b5⟩:=h1;have:=ae b1;subst this;have:=ae b2;subst this;have:=ae b4;subst this;have:=Sh.same_eq b5;subst this;obtain⟨l,a,n,c,hl,rfl,hg⟩:=hk;rw[he _ (List.mem_singleton.2 rfl)]at hg;exact @VR.opq v' _ _ _ _ _ _ _ _ ⟨l,a,n,c,hl,rfl,hg.mono fun _ _ hp=>nH (aR b3) hp⟩};split at h;{rename_i hb;have:=ae hb;subst this;obtain⟨h1,rfl⟩:=aU h;simp only[al]at h1;obtain⟨b1,⟨⟨⟨b2,b3⟩,b4⟩,b5⟩,b6⟩:=h1;have:=ae b1;subst this;have:=ae b2;subst this;have:=ae b4;subst this;have:=ae b5;subst this;have:=Sh.same_eq b6;subst this;have e1:=he (x0,x') (by simp);have e2:=he (y0,y') (by simp);simp only at e1 e2;obtain⟨l,row,bb,s,o,vf,k1,k2,k3,k4,k5,k6,k7,k8,k9⟩:=hk;rw[e2]at k2 k3;rw[e1]at k3;exact @VR.opq v' _ _ _ _ _ _ _ _ ⟨l,row,bb,s,o,vf,k1,k2,k3,k4,k5,nH (aR b3) k6,k7,fun j s d a c=>(k8 j s d a c).mono fun _ _ hp=>nH (aR b3) hp,k9⟩};split at h;{rename_i hb;have:=ae hb;subst this;split at h;{rename_i r hr;obtain⟨h1,rfl⟩:=aU h;simp only[al]at h1;obtain⟨⟨b1,⟨⟨⟨b2,b3⟩,b4⟩,b5⟩,b6⟩,b7⟩:=h1;have b7:=ae b7;have:=ae b1;subst this;have b2:=aB b2;have:=ae b3;subst this;have:=ae b4;subst this;have:=ae b5;subst this;have:=Sh.same_eq b6;subst this;have e1:=he _ (List.mem_singleton.2 rfl);simp only at e1;refine @VR.opq v' _ _ _ _ _ _ _ _ ?_;rcases hk with⟨y0',a,rfl⟩|⟨y1,l,ex,c,n,g1,g2,g3⟩;{exact .inl ⟨by rw[←e1];exact y0',a,rfl⟩};refine .inr ⟨by rw[←e1];exact y1,l,ex,c,n,g1,?_,g3⟩;have:¬id'<R:=(by omega);simp [aM,this,hr,g2,b7,Ext.upto_zero]};cases h};split at h;{rename_i hb;have:=ae hb;subst this;split at h;{rename_i r hr;obtain⟨h1,rfl⟩:=aU h;simp only[al]at h1;obtain⟨b1,b2,b3,b4,b5⟩:=h1;have:=ae b1;subst this;have b2:=aB b2;have:=ae b3;subst this;have b4:=ae b4;have b5:=ae b5;obtain⟨e0,g1,rfl⟩:=hk;refine @VR.opq v' _ _ _ _ _ _ _ _ ⟨e0,?_,rfl⟩;have:¬id'<R:=(by omega);simp [aM,this,hr,b4,g1,b5,Ext.upto_zero]};cases h};split at h;{rename_i hb;have:=ae hb;subst this;obtain⟨h1,rfl⟩:=aU h;simp only[al,dH]at h1;obtain⟨b1,b2⟩:=h1;have:=ae b1;subst this;have e1:=he _ (List.mem_singleton.2 rfl);simp only at e1;refine @VR.opq v' _ _ _ _ _ _ _ _ ?_;rcases hk with⟨q1,q2⟩|⟨q1,t,w,q2,q0,q3⟩;{exact .inl ⟨by rw[←e1];exact q1,q2⟩};refine .inr ⟨by rw[←e1];exact q1,t,w,q2,q0,fun hne=> ?_⟩;rcases b2 with b2|⟨b2,b3⟩;{exact absurd (ae b2) hne};have:=ae b2;subst this;have:=Sh.same_eq b3;subst this;rw[←e1];exact q3 hne};split at h;{rename_i hb;have:=ae hb;subst this;obtain⟨h1,rfl⟩:=aU h;simp only[al]at h1;have:=ae h1.1;subst this;have:=Sh.same_eq h1.2;subst this;exact @VR.opq v' _ _ _ _ _ _ _ _ hk};cases h
 | .ptr id ver off hi,x,e,z,h,he,hv=>by
  cases x<;>simp only[lq,reduceCtorEq]at h;rename_i id' ver' off' hi';split at h
  ·rename_i r hr;obtain⟨h1,rfl⟩:=aU h;simp only[al]at h1;obtain⟨⟨⟨⟨⟨⟨⟨b1,b2⟩,b3⟩,b4⟩,b5⟩,b6⟩,b7⟩,b8⟩:=h1;have b8:=ae b8;have b1:=aB b1;have:=ae b2;subst this;have b3:=ae b3;have:=ae b4;subst this;have:=ae b5;subst this;have:=ae b6;subst this;have:=ae b7;subst this;cases hv with
   |ptr ex o g1 g2 g3 g4=>refine @VR.ptr v' _ _ _ _ _ ex o ?_ g2 g3 g4;have:¬id'<R:=(by omega);simp [aM,this,hr,b3,g1,b8,Ext.upto_zero]
  obtain⟨h1,rfl⟩:=aU h;simp only[al]at h1;obtain⟨⟨⟨⟨b1,b2⟩,b3⟩,b4⟩,b5⟩:=h1;have b1:=aR b1;have:=ae b2;subst this;have:=ae b3;subst this;have:=ae b4;subst this;have:=ae b5;subst this;cases hv with
  |ptr ex o g1 g2 g3 g4=>exact @VR.ptr v' _ _ _ _ _ ex o (by simp [aM,b1,g1]) g2 g3 g4
 | .fn f a c,x,e,z,h,he,hv=>by
  cases x<;>simp only[lq,reduceCtorEq]at h;rw[ai]at h;split at h
  ·rename_i hf;have:=Ki hf;subst this;split at h
   ·rename_i p q hp hq;cases h;cases hv with
    |fn _ a' b' g1 g2=>exact @VR.fn v' _ _ _ _ _ _ (lr hp he.app.1 g1) (lr hq he.app.2 g2)
   cases h
  cases h
 | .agg l,x,e,z,h,he,hv=>by
  cases x<;>simp only[lq,reduceCtorEq]at h;cases hv with
  |agg l' g=>exact @VR.agg v' _ _ _ (lr h he g)
 | .tup l,x,e,z,h,he,hv=>by
  cases x<;>simp only[lq,reduceCtorEq]at h;cases hv with
  |tup l' g=>exact @VR.tup v' _ _ _ (lr h he g)
 | .iface t u,x,e,z,h,he,hv=>by
  cases x<;>simp only[lq,reduceCtorEq]at h
  ·rw[ai]at h;split at h
   ·rename_i ht;have:=ae ht;subst this;cases hv with
    |iface _ g=>exact @VR.iface v' _ _ _ _ (lj h he g)
   cases h
  rename_i k' id' ver' sh' x' y';simp only[ai]at h;split at h
  ·rename_i hk5;have:=ae hk5;subst this;split at h
   ·rename_i hv0;have:=ae hv0;subst this;obtain⟨hfl,rfl⟩:=aU h;have e1:=he _ (List.mem_singleton.2 rfl);simp only at e1;cases hv with
    |iface _ g=>exact @VR.opq v' _ _ _ _ _ _ _ _ (.inr ⟨by rw[←e1];exact(by decide:(1:Int)≠0),t,_,rfl,@VR.oneCell v _ _ _ g hfl,fun h=>absurd rfl h⟩)
   split at h
   ·rename_i k n k2;obtain⟨h1,rfl⟩:=aU h;simp only[al,Bool.not_eq_true']at h1;obtain⟨b1,b2,b3⟩:=h1;have:=ae b1;subst this;have:=bF (ae b2);subst this;have e1:=he _ (List.mem_singleton.2 rfl);simp only at e1;have hn:n≠0:=fun h=>(by subst h;simp [mb]at b3);have hx:(@Sx.dat v' x').toI=n:=(by rw[←e1];rfl);cases hv with
    |iface _ g=>cases g;exact @VR.opq v' _ _ _ _ _ _ _ _ (.inr ⟨by rw[hx];exact hn,_,_,rfl,rfl,fun _=>⟨rfl,k,rfl,by rw[hx]⟩⟩)
   cases h
  cases h
 | .nilp,x,e,z,h,he,hv=>by cases x<;>simp only[lq,reduceCtorEq]at h;cases hv;exact @VR.nilp v' _
 | .nilm,x,e,z,h,he,hv=>by cases x<;>simp only[lq,reduceCtorEq]at h;cases hv;exact @VR.nilm v' _
 | .nilfn,x,e,z,h,he,hv=>by cases x<;>simp only[lq,reduceCtorEq]at h;cases hv;exact @VR.nilfn v' _
 | .nili,x,e,z,h,he,hv=>by cases x<;>simp only[lq,reduceCtorEq]at h;{cases hv;exact @VR.nili v' _};rename_i k' id' ver' sh' x' y';rw[ai]at h;split at h;{rename_i hk5;have:=ae hk5;subst this;cases h;have e1:=he _ (List.mem_singleton.2 rfl);simp only at e1;cases hv;exact @VR.opq v' _ _ _ _ _ _ _ _ (.inl ⟨by rw[←e1];rfl,rfl⟩)};cases h
 | .sslc _,x,e,z,h,he,hv=>by simp [lq]at h
 | .sstr _,x,e,z,h,he,hv=>by simp [lq]at h
 | .map a,x,e,z,h,he,hv=>by
  cases x<;>simp only[lq,reduceCtorEq]at h;rename_i k' id' ver' sh' x' y';split at h
  ·rename_i r hr;obtain⟨h1,rfl⟩:=aU h;simp only[al]at h1;obtain⟨b1,b2,b3,b4,b5⟩:=h1;have:=ae b1;subst this;have b2:=aB b2;have:=ae b3;subst this;have b4:=ae b4;have b5:=ae b5;cases hv with
   |map e0 g1=>refine @VR.opq v' _ _ _ _ _ _ _ _ ⟨e0,?_,rfl⟩;have:¬id'<R:=(by omega);simp [aM,this,hr,b4,g1,b5,Ext.upto_zero]
  cases h
 | .yld a,x,e,z,h,he,hv=>by
  cases x<;>simp only[lq,reduceCtorEq]at h;rename_i id';split at h
  ·rename_i r hr;obtain⟨h1,rfl⟩:=aU h;simp only[al]at h1;obtain⟨b2,b3,b4,b5⟩:=h1;have b2:=aB b2;have:=ae b3;subst this;have b4:=ae b4;have b5:=ae b5;cases hv with
   |yld e0 g1=>refine @VR.yld v' _ _ e0 ?_;have:¬id'<R:=(by omega);simp [aM,this,hr,b4,g1,b5,Ext.upto_zero]
  cases h
 | .anyp,x,e,z,h,he,hv=>by
  cases x<;>simp only[lq,reduceCtorEq]at h;cases hv with
  |anyp p=>exact @VR.anyp v' _ p
 | .unk,x,e,z,h,he,hv=>by simp [lq]at h
theorem lr:∀{y x:List AV} {e:bS} {z:List Value},FN R ρ y x=some e→EqsOk v v' e→@VRL v φ y z→@VRL v' (aM R ρ φ) x z
 |[],x,e,z,h,he,hv=>by cases x<;>simp only[FN,reduceCtorEq]at h;cases hv;exact @VRL.nil v' _
 |y::l,x,e,z,h,he,hv=>by
  cases x<;>simp only[FN,reduceCtorEq]at h;split at h
  ·rename_i p q hp hq;cases h;cases hv with
   |cons g1 g2=>exact @VRL.cons v' _ _ _ _ _ (lj hp he.app.1 g1) (lr hq he.app.2 g2)
  cases h
end
theorem xE:∀{y x:List AV} {e:bS} {z:List Value},FM R ρ y x=some e→EqsOk v v' e→@VRL v φ y z→@VRL v' (aM R ρ φ) x z
 |[],x,e,z,h,he,hv=>by cases x<;>simp only[FM,reduceCtorEq]at h;cases hv;exact @VRL.nil v' _
 |y::l,x,e,z,h,he,hv=>by
  cases x<;>simp only[FM,reduceCtorEq]at h;rename_i x m;split at h
  ·rename_i p q hp hq;cases h;cases hv with
   |cons g1 g2=>
    refine @VRL.cons v' _ _ _ _ _ ?_ (xE hq he.app.2 g2);split at hp;{obtain⟨h1,rfl⟩:=aU hp;exact @VR.unk v' _ _ (@VR.oneCell v _ _ _ g1 h1)};·split at hp;{rename_i e' id ver off len cap esz;cases hp;have h3:=GR (he.app.1 _ (List.mem_singleton.2 rfl));cases g1;exact @VR.sslc v' _ _ _ _ _ h3};cases hp
    ·split at hp
     ·split at hp
      ·rename_i r hr;obtain⟨h1,rfl⟩:=aU hp;simp only[al]at h1;obtain⟨b1,b2,b3,b4,b5,b6,b7,b8,b9,b10⟩:=h1;have b1:=aB b1;have:=ae b2;subst this;have b3:=ae b3;have:=ae b4;subst this;have:=ae b5;subst this;have:=ae b6;subst this;have:=ae b7;subst this;have:=ND b8;subst this;have:=ae b9;subst this;have b10:=ae b10;cases g1 with
       |slc ex o c q1 q2 q3 q4 q5 q6=>refine @VR.slc v' _ _ _ _ _ _ _ ex o c ?_ q2 q3 q4 q5 q6;rename_i id' _ _ _ _ _;simp only[aM];rw[if_neg (by omega),hr];simp [b3,q1,b10,Ext.upto_zero]
      cases hp
     cases hp
    exact lj hp he.app.1 g1
  cases h
end
noncomputable def RO(R:Nat)(ρ:List RE)(tm:T AV)(h:T Ob)(id':Nat)(o':Ob):Option bS:=match o' with
 | .opq k' ver' cid' (.slc l') x' y' [] t'=>bif Nat.beq k' 2&&Nat.beq ver' 0 then(match ku ρ id' with
  |some r=>match h.get r.ido with
   |some (.opq k ver cid (.slc l) x y [] t)=>fR (Nat.beq r.n 0&&Nat.beq k 2&&(Nat.beq ver r.ver&&(Sh.sameL l l'&&(Nat.beq t t'&&(dp l||(Nat.beq cid gid&&(Nat.beq cid' gid&&Nat.blt gid R))))))) [(x,x'),(y,y')]
   |some (.arr c base lim since nv t)=>match tm.get r.t with
    |some (.slc id ver off len _ esz)=>bif Nat.beq id r.ido&&(Nat.beq ver r.ver&&(Nat.beq off 0&&(Nat.beq esz l'.length&&(Nat.blt 0 r.n&&(Nat.beq r.n c.length&&(Nat.beq (len*esz) c.length&&(dp l'&&(Nat.beq t t'&&((Nat.beq ver base&&Nat.beq lim c.length)||(Nat.beq (ver+1) nv&&(Nat.ble since ver&& !Nat.beq ver base)))))))))))
     then(match eG gid l' len c with
      |some e=>some [(e,x'),(.lit 1,y')]
      |none=>none)else none
    |_=>none
   |some (.box c t)=>match tm.get r.t with
    |some (.slc id ver off len _ esz)=>bif Nat.beq id r.ido&&(Nat.beq ver r.ver&&(Nat.beq off 0&&(Nat.beq esz l'.length&&(Nat.blt 0 r.n&&(Nat.beq r.n c.length&&(Nat.beq (len*esz) c.length&&(dp l'&&(Nat.beq t t'&&Nat.beq ver 0))))))))
     then(match eG gid l' len c with
      |some e=>some [(e,x'),(.lit 1,y')]
      |none=>none)else none
    |_=>none
   |_=>none
  |none=>some [(.pr 13 (.lit 0) (.lit 0),x'),(.lit 0,y')])else none
 | .box c' t'=>match ku ρ id' with
  |some r=>match h.get r.ido with
   |some (.box c t)=>bif (Nat.beq r.n 0&&Nat.beq r.ver 0)&&Nat.beq t t' then FM R ρ c c' else none
   |_=>none
  |none=>none
 |_=>none
noncomputable def RN(R:Nat)(ρ:List RE)(h:T Ob)(id':Nat)(o':Ob):Option bS:=match o' with
 | .opq k' ver' _ (.slc l') x' _ [] _=>bif Nat.beq k' 4&&(Nat.beq ver' 0&&(tq l'&&Nat.ble R id'))then(match ku ρ id' with
  |some r=>match h.get r.ido with
   |some (.opq k ver _ (.slc l) x _ [] _)=>fR (Nat.beq k 4&&(Nat.beq ver 0&&(tq l&&(Nat.beq r.ver 0&&Nat.beq r.n 0)))) [(x,x')]
   |some (.map es _)=>match es with
    |[]=>fR (Nat.beq r.ver 0&&Nat.beq r.n 0) [(.pr 13 (.lit 0) (.lit 0),x')]
    |_=>none
   |_=>none
  |none=>none)else none
 |_=>none
noncomputable def UL(R:Nat)(ρ:List RE)(tm:T AV)(h:T Ob)(id':Nat)(o':Ob):Option bS:=match RN R ρ h id' o' with
 |some e=>some e
 |none=>RO R ρ tm h id' o'
noncomputable def FK(R nx:Nat)(ρ:List RE)(tm:T AV)(h:T Ob):List (Nat×Ob)→Option bS
 |[]=>some []
 |(i,o)::l=>bif Nat.ble R i&&Nat.blt i nx then(match UL R ρ tm h i o,FK R nx ρ tm h l with
  |some p,some q=>some (p++q)
  |_,_=>none)else none
noncomputable def UK(R:Nat)(ρ:List RE)(tm:T AV):List (Nat×AV)→Option bS
 |[]=>some []
 |(t,x)::l=>match tm.get t with
  |some y=>match lq R ρ y x,UK R ρ tm l with
   |some p,some q=>some (p++q)
   |_,_=>none
  |none=>none
def nodupB:List Nat→Bool
 |[]=>true
 |x::l=> !l.any (fun y=>Nat.beq x y)&&nodupB l
def jj(R nx nxo:Nat)(ρ:List RE):Bool:=nodupB (ρ.map (·.ido))&&ρ.all fun r=>Nat.ble R r.ido&&Nat.ble R r.idn&&Nat.blt r.idn nx&&Nat.blt r.ido nxo
noncomputable def br(b:bK):List (Nat×Ob)→T Ob
 |[]=>b
 |(i,o)::l=>(br b l).set i o
noncomputable def aA(b:bK)(l:List (Nat×Ob))(nx:Nat):St:={heap:=br b l,next:=nx,rd:=[],wr:=[]}
def vg(R:Nat)(ρ:List RE):Nat→Bool
 |0=>true
 |k+1=>(match ku ρ (R+k)with
  |some r=>Nat.beq r.ido (R+k)&&(Nat.beq r.ver 0&&Nat.beq r.n 0)
  |none=>false)&&vg R ρ k
def Lv(R s:Nat)(ρ:List RE):Bool:=ρ.all fun r=>Nat.beq r.ido r.idn||(Nat.ble (R+s) r.idn&&Nat.ble (R+s) r.ido)
noncomputable def eA(R nb:Nat)(ρ:List RE)(tm:T AV)(σ:St)(tm':List (Nat×AV))(objs':List (Nat×Ob))(nx':Nat):Option bS:=
 bif jj R nx' σ.next ρ&&(Nat.ble R nx'&&(vg R ρ (cK nb)&&Lv R (jh nb) ρ))then(match UK R ρ tm tm',FK R nx' ρ tm σ.heap objs' with
  |some p,some q=>some (p++q)
  |_,_=>none)else none
structure BaseOk(gl:Nat→Option Nat)(b:bK)(R:Nat):Prop where
 gid_lt:gid<R
 gid_at:∃ver cid sh x y t,b.get gid=some (.opq 0 ver cid sh x y [] t)
 none:∀i,R≤i→b.get i=none
 only:∀i o,b.get i=some o→i≠gid→∃c,o=.ro c∧FN R [] c c=some []
 gl:∀g n,gl g=some n→g<R
theorem bn:∀{ρ:List RE} {i:Nat} {r:RE},ku ρ i=some r→r∈ρ∧r.idn=i:=by
 intro ρ
 induction ρ with
 |nil=>intro i r h;simp [ku]at h
 |cons x l ih=>intro i r h;simp only[ku,ai]at h;split at h;{rename_i hb;cases h;exact⟨by simp,ae hb⟩};obtain⟨h1,h2⟩:=ih h;exact⟨List.mem_cons_of_mem _ h1,h2⟩
theorem vp:∀{ρ:List RE},nodupB (ρ.map (·.ido))=true→∀{r s:RE},r∈ρ→s∈ρ→r.ido=s.ido→r=s:=by
 intro ρ
 induction ρ with
 |nil=>intro _ r s h;cases h
 |cons x l ih=>intro h r s hr hs he;simp only[List.map_cons,nodupB,al,Bool.not_eq_true',List.any_eq_false]at h;rcases List.mem_cons.1 hr with rfl|hr';{rcases List.mem_cons.1 hs with rfl|hs';{rfl};exact absurd (by rw[he];exact Nat.beq_refl _) (h.1 _ (List.mem_map_of_mem hs'))};rcases List.mem_cons.1 hs with rfl|hs';{exact absurd (by rw[he];exact Nat.beq_refl _) (h.1 _ (List.mem_map_of_mem hr'))};exact ih h.2 hr' hs' he
theorem ef(b:bK):∀(l:List (Nat×Ob)) (i:Nat),(br b l).get i=b.get i∨∃o,(i,o)∈l∧(br b l).get i=some o:=by
 intro l
 induction l with
 |nil=>intro i;exact .inl rfl
 |cons p l ih=>intro i;obtain⟨j,o⟩:=p;simp only[br];rw[T.get_set];split;{rename_i h;subst h;exact .inr ⟨o,by simp,rfl⟩};rcases ih i with h|⟨o',h1,h2⟩;{exact .inl h};exact .inr ⟨o',List.mem_cons_of_mem _ h1,h2⟩
theorem zV{v v':Val}{φ ψ:PM}{c:Nat}{s:Sh}{d:Dat}{z:Value}(hc:eP s=true)(h:@VR v φ (dU c s d) z):@VR v' ψ (dU c s d) z:=by
 cases s with
 |int k=>have h:@VR v φ (.int k d.toI) z:=h;cases h;exact @VR.int v' _ _ _
 |bool=>have h:@VR v φ (.bool (d.toI != 0)) z:=h;cases h;exact @VR.bool v' _ _
 |str=>have h:@VR v φ (.str d.toS) z:=h;cases h;exact @VR.str v' _ _
 |slc l=>simp [eP]at hc
theorem tC{v v':Val}{φ ψ:PM}{cid cid' k:Nat}{l:List Sh}{rows:List (List Dat)}{z:Value}(hfl:dp l=true)(hr:dm l rows)(hk:k<(ah cid l rows).length)(hz:@VR v φ (ah cid l rows)[k] z):∃av,(ah cid' l rows)[k]? =some av∧@VR v' ψ av z:=by
 have hlen:=au cid l rows (aH hr);have hlen':=au cid' l rows (aH hr);have x2:k<rows.length*l.length:=by omega
 have hl0:0<l.length:=by rcases Nat.eq_zero_or_pos l.length with h|h;{rw[h]at x2;omega};exact h
 have hi':k / l.length<rows.length:=(Nat.div_lt_iff_lt_mul hl0).2 x2;have hjj:k%l.length<l.length:=Nat.mod_lt _ hl0;have hkk:k=k / l.length*l.length+k%l.length:=by rw[Nat.mul_comm];exact(Nat.div_add_mod k l.length).symm
 have hrow:rows[k / l.length]? =some rows[k / l.length]:=bC hi';have hsj:l[k%l.length]? =some l[k%l.length]:=bC hjj;obtain⟨dd,hdd⟩:∃d,(rows[k / l.length])[k%l.length]? =some d:=⟨_,bC (by rw[(hr _ (List.getElem_mem hi')).1];exact hjj)⟩;have k1:=cu cid l rows (aH hr) (k / l.length) (k%l.length) _ hrow hjj;have k2:=cu cid' l rows (aH hr) (k / l.length) (k%l.length) _ hrow hjj;rw[←hkk,dj _ l _ _ _ _ hsj hdd]at k1 k2;rw[bC hk]at k1;simp only[aw]at k1;rw[k1]at hz;refine⟨_,k2,?_⟩;have hfs:eP l[k%l.length]=true:=List.all_eq_true.1 hfl _ (List.getElem_mem hjj);have:=@zV v v' φ ψ cid _ _ _ hfs hz;generalize l[k%l.length]=s at*;cases s with
 |int k=>exact this
 |bool=>exact this
 |str=>exact this
 |slc l=>simp [eP]at hfs
section
variable{v v':Val}{R:Nat}{ρ:List RE}{φ:PM}{w:World}
theorem bL(i:Nat)(hi:i<R)(u:Nat):aM R ρ φ i u=φ i u:=by simp [aM,hi]
theorem ff{i u:Nat}{e:Ext}(hi:R≤i)(h:aM R ρ φ i u=some e):u=0∧∃r f,ku ρ i=some r∧φ r.ido r.ver=some f∧e=f.upto r.n:=by
 have:¬i<R:=by omega
 simp only[aM,this,if_false]at h;split at h
 ·rename_i hu;split at h
  ·rename_i r hr;cases hf:φ r.ido r.ver with
   |none=>rw[hf]at h;cases h
   |some f=>rw[hf]at h;simp only[Option.map_some,aw]at h;exact⟨hu,r,f,hr,hf,h.symm⟩
  cases h
 cases h
theorem nk(hwf:WF R φ w){nx nxo:Nat}(hr:jj R nx nxo ρ=true):WF R (aM R ρ φ) w:=by
 simp only[jj,al,oD]at hr;obtain⟨hnd,hall⟩:=hr;have old:∀i u e,aM R ρ φ i u=some e→(i<R∧φ i u=some e)∨(R≤i∧∃r f,ku ρ i=some r∧φ r.ido r.ver=some f∧R≤r.ido∧e=f.upto r.n):=by intro i u e h;by_cases hi:i<R;{rw[bL i hi]at h;exact .inl ⟨hi,h⟩};obtain⟨_,r,f,h1,h2,h3⟩:=ff (by omega) h;exact .inr ⟨by omega,r,f,h1,h2,aB (hall r (bn h1).1).1.1.1,h3⟩
 refine⟨fun i u e j t f hi hj hb=> ?_,fun i u e hi=> ?_,fun i u e hi=> ?_⟩;{rcases old _ _ _ hi with⟨h1,h2⟩|⟨h1,r,e',h2,h3,h4,rfl⟩;{rcases old _ _ _ hj with⟨g1,g2⟩|⟨g1,s,f',g2,g3,g4,rfl⟩;{exact .inr ⟨h1,g1⟩};rw[Ext.upto_blk]at hb;rcases hwf.inj _ _ _ _ _ _ h2 g3 hb with k|k;{omega};omega};rw[Ext.upto_blk]at hb;rcases old _ _ _ hj with⟨g1,g2⟩|⟨g1,s,f',g2,g3,g4,rfl⟩;{rcases hwf.inj _ _ _ _ _ _ h3 g2 hb with k|k;{omega};omega};rw[Ext.upto_blk]at hb;rcases hwf.inj _ _ _ _ _ _ h3 g3 hb with k|k;{have:=vp hnd (bn h2).1 (bn g2).1 k;subst this;exact .inl ((bn h2).2.symm.trans (bn g2).2)};omega};{rcases old _ _ _ hi with⟨h1,h2⟩|⟨h1,r,f,h2,h3,h4,rfl⟩;{exact hwf.lt _ _ _ h2};rw[Ext.upto_blk];exact hwf.lt _ _ _ h3};rcases old _ _ _ hi with⟨h1,h2⟩|⟨h1,r,f,h2,h3,h4,rfl⟩;{exact hwf.top _ _ _ h2};have:=hwf.top _ _ _ h3;unfold Ext.upto;split;{exact this};have:=Nat.min_le_right r.n f.hi;show min r.n f.hi+f.up≤f.bsz+f.dn;omega
theorem sU:∀{nb:Nat},vg R ρ nb=true→∀i e,R≤i→i<R+nb→φ i 0=some e→aM R ρ φ i 0=some e:=by
 intro nb
 induction nb with
 |zero=>intro _ i e h1 h2;omega
 |succ k ih=>intro h i e h1 h2 he;simp only[vg,al]at h;by_cases hi:i=R+k;{subst hi;obtain⟨h,_⟩:=h;split at h;{rename_i r hr;simp only[al]at h;have hnR:¬R+k<R:=(by omega);simp [aM,hnR,hr,ae h.1,ae h.2.1,ae h.2.2,he,Ext.upto_zero]};cases h};exact ih h.2 i e h1 (by omega) he
theorem MT{c c':Nat}{s:Sh}{d:Dat}{z:Value}(hc:eP s=true∨(c=gid∧c'=gid∧gid<R))(h:@VR v φ (dU c s d) z):@VR v' (aM R ρ φ) (dU c' s d) z:=by
 cases s with
 |int k=>have h:@VR v φ (.int k d.toI) z:=h;cases h;exact @VR.int v' _ _ _
 |bool=>have h:@VR v φ (.bool (d.toI != 0)) z:=h;cases h;exact @VR.bool v' _ _
 |str=>have h:@VR v φ (.str d.toS) z:=h;cases h;exact @VR.str v' _ _
 |slc l=>
  rcases hc with hc|⟨rfl,rfl,hg⟩;{simp [eP]at hc};have h:@VR v φ (.opq 0 gid 0 (.slc l) (.dlit d) (.lit 0)) z:=h;cases h with
  |opq _ hk=>obtain⟨l',a,n,c,hl,rfl,hgc⟩:=hk;exact @VR.opq v' _ _ _ _ _ _ _ _ ⟨l',a,n,c,hl,rfl,hgc.mono fun _ _ hp=>nH hg hp⟩
omit w in
theorem yh{φ' ψ':PM}{cid:Nat}:∀{es:List (AV×AV×Nat)} {rows:List (List Dat)} {l:List MapEntry},ui cid es rows→(∀r∈rows,r.length=2)→@ER v φ' es l→@ER v' ψ' es l
 |[],rows,l,_,_,h=>by cases h;exact @ER.nil v' _
 |(k,u,n)::es,rows,l,he,hr,h=>by
  cases rows with
  |nil=>simp [ui]at he
  |cons r rows=>
   simp only[ui,List.map_cons,List.cons.injEq]at he;obtain⟨h1,h2⟩:=he;rw[iG cid r (hr r (by simp))]at h1;cases h1;cases h with
   |cons hk hv ht=>cases hk;cases hv;exact @ER.cons v' _ _ _ _ _ _ _ _ (@VR.int v' _ _ _) (@VR.int v' _ _ _) (yh h2 (fun q hq=>hr q (by simp [hq])) ht)
omit w in
theorem Nx{cid cid':Nat}{es:List (AV×AV×Nat)}{rows:List (List Dat)}(h:ui cid es rows)(hr:∀r∈rows,r.length=2):ui cid' es rows:=by unfold ui at*;rw[h];refine List.map_congr_left fun r hm=> ?_;rw[iG _ r (hr r hm),iG _ r (hr r hm)]
structure HoldL(v:Val)(R:Nat)(tm:T AV)(σ:St)(a:Act)(w:World)(φ:PM):Prop where
 rep:∀{i},i<σ.next→@Rep v R φ w i (σ.heap.get i)
 val:∀t x,tm.get t=some x→∃x',a.tmps[t]? =some x'∧@VR v φ x x'
 wf:WF R φ w
theorem Hold.lite{gl:Nat→Option Nat}{b:bK}{nt:Nat}{tm:T AV}{σ:St}{a:Act}(h:Hold v gl b R nt tm σ a w φ):HoldL v R tm σ a w φ:=⟨fun hi=>h.rep hi,h.val,h.wf⟩
theorem MN{tm:T AV}{σ:St}{a:Act}(hh:HoldL v R tm σ a w φ){nx':Nat}(hr:jj R nx' σ.next ρ=true){id':Nat}{o':Ob}{e:bS}(h:RN R ρ σ.heap id' o'=some e)(he:EqsOk v v' e)
 (hid:R≤id'):@Rep v' R (aM R ρ φ) w id' (some o'):=by
 have hnR:¬id'<R:=by omega
 simp only[jj,al,oD]at hr;obtain⟨hnd,hall⟩:=hr;unfold RN at h;split at h
 ·rename_i k' ver' cid' l' x' y' t';rw[ai]at h;split at h
  ·rename_i hb;simp only[al]at hb;obtain⟨c1,c2,c3,_⟩:=hb;have:=ae c1;subst this;have:=ae c2;subst this;have:=jL c3;subst this;have fin:∀(r:RE) (rows:List (List Dat)) (es:List (AV×AV×Nat)) (clock:Nat) (cid:Nat),ku ρ id'=some r→r.ver=0→r.n=0→@Sx.dat v' x'=.lst rows→(∀r∈rows,r.length=2)→ui cid es rows→@Rep v R φ w r.ido (some (.map es clock))→
    @Rep v' R (aM R ρ φ) w id' (some (.opq 4 0 cid' (.slc r8) x' y' [] t')):=fun r rows es clock cid hr hv0 hn0 hx h2 hent hrep=>by
    obtain⟨hR,ex,es',q1,q2,q3⟩:=hrep;refine⟨r8,rows,es,rfl,hx,fun r hm=>⟨h2 r hm,fun j s d a b=> ?_⟩,Nx hent h2,hid,ex,es',clock,?_,q2,yh hent h2 q3⟩
    ·match j,a with
     |0,a=>simp [r8]at a;subst a;trivial
     |1,a=>simp [r8]at a;subst a;trivial
     |j+2,a=>simp [r8]at a
    simp [aM,hnR,hr,hv0,hn0,q1,Ext.upto_zero]
   split at h;{rename_i r hrr;have hlt:r.ido<σ.next:=aR (hall r (bn hrr).1).2;have hrep:=hh.rep hlt;split at h;{rename_i k ver cid l x y t hob;obtain⟨h1,rfl⟩:=aU h;simp only[al]at h1;obtain⟨b1,b2,b3,b4,b5⟩:=h1;have:=ae b1;subst this;have:=ae b2;subst this;have:=jL b3;subst this;rw[hob]at hrep;obtain⟨l2,rows,es,hl,hx,hro,hes,hR,ex,es',clock,q1,q2,q3⟩:=hrep;simp only[Sh.slc.injEq]at hl;subst hl;have e1:=he (x,x') (by simp);simp only at e1;exact fin r rows es clock cid hrr (ae b4) (ae b5) (e1▸hx) (fun r hm=>(hro r hm).1) hes ⟨hR,ex,es',q1,q2,q3⟩};{rename_i es clock hob;split at h;{obtain⟨h1,rfl⟩:=aU h;simp only[al]at h1;rw[hob]at hrep;have e1:=he (.pr 13 (.lit 0) (.lit 0),x') (by simp);simp only at e1;exact fin r [] [] clock 0 hrr (ae h1.1) (ae h1.2) e1.symm (fun r hm=>by cases hm) rfl hrep};cases h};cases h};cases h
  cases h
 cases h
theorem MO{tm:T AV}{σ:St}{a:Act}(hh:HoldL v R tm σ a w φ){nx':Nat}(hr:jj R nx' σ.next ρ=true){id':Nat}{o':Ob}{e:bS}(h:RO R ρ tm σ.heap id' o'=some e)(he:EqsOk v v' e)
 (hid:R≤id'):@Rep v' R (aM R ρ φ) w id' (some o'):=by
 have hnR:¬id'<R:=by omega
 simp only[jj,al,oD]at hr;obtain⟨hnd,hall⟩:=hr;unfold RO at h;split at h
 ·rename_i k' ver' cid' l' x' y' t';rw[ai]at h;split at h
  ·rename_i hb;simp only[al]at hb;have:=ae hb.1;subst this;have:=ae hb.2;subst this;split at h
   ·rename_i r hr;split at h
    ·rename_i k ver cid l x y t hob;obtain⟨h1,rfl⟩:=aU h;simp only[al,dH]at h1;obtain⟨⟨b0,b1⟩,b2,b3,b4,b5⟩:=h1;have b0:=ae b0;have:=ae b1;subst this;have:=ae b2;subst this;have:=Sh.sameL_eq b3;subst this;have:=ae b4;subst this;have e1:=he (x,x') (by simp);have e2:=he (y,y') (by simp);simp only at e1 e2;have hlt:r.ido<σ.next:=aR (hall r (bn hr).1).2;have hrep:=hh.rep hlt;rw[hob]at hrep;obtain⟨l2,rows,hl,hx,hro,hor⟩:=hrep;simp only[Sh.slc.injEq]at hl;subst hl;have hno:∀u,0<u→aM R ρ φ id' u=none:=fun u hu=>by
      have:¬u=0:=(by omega);simp [aM,hnR,this]
     have hmap:aM R ρ φ id' 0=φ r.ido r.ver:=(by simp only[aM,hnR,hr,b0,if_false,if_true];cases φ r.ido r.ver<;>rfl);refine⟨l,rows,rfl,e1▸hx,hro,?_⟩;rcases hor with⟨h1,h2,h3,h4,h5⟩|⟨h1,⟨ex,g1,g2⟩,har⟩;{refine .inl ⟨e2▸h1,h2,rfl,hid,fun u _=> ?_⟩;by_cases hu:u=0;{subst hu;rw[hmap];exact h5 _ (aE _)};exact hno u (by omega)};rw[List.append_nil]at g2 har;have hlen:∀c,(ah c l rows).length=rows.length*l.length:=fun c=>au c l rows (aH hro);refine .inr ⟨e2▸h1,⟨ex,hmap.trans g1,?_⟩,?_⟩;{rw[List.append_nil,g2,hlen,hlen]};rw[List.append_nil];obtain⟨ex2,cs,fl,fh,q1,q2,q3,q4,q5,q6⟩:=@ez v R φ w _ _ _ _ _ _ har;rw[g1]at q1;cases q1;refine @ArrRep.single v' R _ w id' 0 _ _ ex cs fl fh hid (hmap.trans g1) (fun u hu=>hno u hu) q2 q3 (by rw[hlen,←hlen cid];exact q4) q5 fun k av x1 x2 x3=> ?_;rw[hlen]at x2;have hl0:0<l.length:=(by rcases Nat.eq_zero_or_pos l.length with h|h;{rw[h]at x2;omega};exact h);have hi':k / l.length<rows.length:=(Nat.div_lt_iff_lt_mul hl0).2 x2;have hj:k%l.length<l.length:=Nat.mod_lt _ hl0;have hkk:k=k / l.length*l.length+k%l.length:=(by rw[Nat.mul_comm];exact(Nat.div_add_mod k l.length).symm);have hrow:rows[k / l.length]? =some rows[k / l.length]:=bC hi';have hsj:l[k%l.length]? =some l[k%l.length]:=bC hj;obtain⟨dd,hdd⟩:∃d,(rows[k / l.length])[k%l.length]? =some d:=⟨_,bC (by rw[(hro _ (List.getElem_mem hi')).1];exact hj)⟩;have k1:=cu cid' l rows (aH hro) (k / l.length) (k%l.length) _ hrow hj;rw[←hkk,dj cid' l _ _ _ _ hsj hdd,x3]at k1;cases k1;have k2:=cu cid l rows (aH hro) (k / l.length) (k%l.length) _ hrow hj;rw[←hkk,dj cid l _ _ _ _ hsj hdd]at k2;obtain⟨z,z1,z2⟩:=q6 k _ x1 (by rw[hlen];exact x2) k2;refine⟨z,z1,MT ?_ z2⟩;rcases b5 with b5|⟨b5,b6,b7⟩;{left;have:=List.all_eq_true.1 b5 l[k%l.length] (List.getElem_mem hj);exact this};exact .inr ⟨ae b5,ae b6,aR b7⟩
    ·rename_i c base lim since nv t hob;split at h
     ·rename_i id ver off len cap esz htm;simp only[ai,al,dH,Bool.not_eq_true']at h;split at h
      ·rename_i hb;obtain⟨b1,b2,b3,b4,b5,b6,b7,b8,b9,b10⟩:=hb;split at h
       ·rename_i ex hex;cases h;have:=ae b1;subst this;have:=ae b2;subst this;have:=ae b3;subst this;have:=ae b4;subst this;have b5:=aR b5;have b6:=ae b6;have b7:=ae b7;have:=ae b9;subst this;have hx:=he (ex,x') (by simp);have hy:=he (.lit 1,y') (by simp);simp only at hx hy;have hfull:(r.ver=base∧lim=c.length)∨(r.ver+1=nv∧since≤r.ver∧r.ver≠base):=by
         rcases b10 with⟨c1,c2⟩|⟨c1,c2,c3⟩;{exact .inl ⟨ae c1,ae c2⟩};exact .inr ⟨ae c1,aB c2,fun h=>by simp [h]at c3⟩
        have hlt:r.ido<σ.next:=aR (hall r (bn hr).1).2;have hrep:=hh.rep hlt;rw[hob]at hrep;obtain⟨hR',_,h2,h3,h4,h5,h6,h7⟩:=hrep;have hal:dQ base since nv r.ver:=(by rcases hfull with⟨h,_⟩|⟨ha,hb,_⟩;{exact .inl h};exact .inr ⟨hb,by omega⟩);obtain⟨eb,cs,fl,fh,hee,hbb,k1,k2,k3,k4,k5⟩:=h5 r.ver hal;have hlim:bJ base lim r.ver eb=c.length:=(by rcases hfull with⟨ha,hb⟩|⟨ha,hb,hc⟩;{simp [bJ,ha,hb]};simp only[bJ,if_neg hc];exact h7 _ _ ha hb hc hee);rw[hlim]at k2 k5;obtain⟨z,hz0,hz⟩:=hh.val r.t _ htm;have hdn:eb.dn=0:=by
         cases hz with
         |slc e2 o cc g1 g2 g3 g4 g5 g6=>rw[hee]at g1;cases g1;omega
        have htop:=hh.wf.top _ _ _ hee;have hno:∀u,0<u→aM R ρ φ id' u=none:=fun u hu=>(by have:¬u=0:=(by omega);simp [aM,hnR,this]);have hup:Ext.upto r.n eb={eb with hi:=c.length}:=(by have:¬r.n=0:=(by omega);simp only[Ext.upto,this,if_false];rw[b6,Nat.min_eq_left k2]);have hmap:aM R ρ φ id' 0=some {eb with hi:=c.length}:=(by simp [aM,hnR,hr,hee,hup]);have hvrl:@VRL v φ c ((cs.toList.drop eb.up).take c.length):=(by refine @VRL.of_get v φ c _ (by simp;omega) fun k av z a1 a2=> ?_;have hk:k<c.length:=(by rcases aS k c.length with h|h;{exact h};rw[bZ h]at a1;cases a1);obtain⟨z',y1,y2⟩:=k5 k av (by omega) hk a1;rw[ij hk,fc,Array.getElem?_toList,show eb.up+k=k+eb.up - eb.dn by omega,y1]at a2;cases a2;exact y2);obtain⟨rows,r1,r2,r3,r4⟩:=@iJ v φ _ _ _ _ _ _ hex hvrl;have hll:=au gid l' rows (aH r3);have hll':=au cid' l' rows (aH r3);refine⟨l',rows,rfl,hx.symm.trans r1,r3,.inr ⟨hy.symm,⟨_,hmap,?_⟩,?_⟩⟩;{rw[List.append_nil,hll',r2];exact b7.symm};rw[List.append_nil];refine @ArrRep.single v' R _ w id' 0 _ _ {eb with hi:=c.length} cs fl fh hid hmap (fun u hu=>hno u hu) hbb k1 (by rw[hll',r2,b7];exact aE _) k4 fun k av x1 x2 x3=> ?_;have hk:k<(ah gid l' rows).length:=(by rw[hll];rw[hll']at x2;exact x2);obtain⟨z,y1,y2⟩:=@VRL.get v φ _ _ r4 k _ (bC hk);refine⟨z,?_,?_⟩;{have hk:k<c.length:=(by rw[hll',r2,b7]at x2;exact x2);rw[ij hk,fc,Array.getElem?_toList]at y1;show cs[k+eb.up - eb.dn]? =some z;rw[show k+eb.up - eb.dn=eb.up+k by omega];exact y1};obtain⟨av2,q1,q2⟩:=@tC v v' φ (aM R ρ φ) gid cid' k l' rows z b8 r3 hk y2;rw[x3]at q1;cases q1;exact q2
       cases h
      cases h
     cases h
    ·rename_i c t hob;split at h
     ·rename_i id ver off len cap esz htm;simp only[ai,al]at h;split at h
      ·rename_i hb;obtain⟨b1,b2,b3,b4,b5,b6,b7,b8,b9,b10⟩:=hb;split at h
       ·rename_i ex hex;cases h;have:=ae b1;subst this;have:=ae b3;subst this;have:=ae b4;subst this;have b5:=aR b5;have b6:=ae b6;have b7:=ae b7;have:=ae b9;subst this;have:=ae b10;subst this;have hrv:=(ae b2).symm;have hx:=he (ex,x') (by simp);have hy:=he (.lit 1,y') (by simp);simp only at hx hy;have hlt:r.ido<σ.next:=aR (hall r (bn hr).1).2;have hrep:=hh.rep hlt;rw[hob]at hrep;obtain⟨hR',eb,cs,fl,fh,hee,hbb,q3,q4,q5,q6,q7,q8⟩:=hrep;have hls:=@VRL.length v _ _ _ q7;have hsz:cs.size=c.length:=(by rw[←Array.length_toList,←hls]);have hno:∀u,0<u→aM R ρ φ id' u=none:=fun u hu=>by
         have:¬u=0:=(by omega);simp [aM,hnR,this]
        have hup:Ext.upto r.n eb=eb:=(by have:¬r.n=0:=(by omega);simp only[Ext.upto,this,if_false];rw[b6,q5,Nat.min_self,←q5]);have hmap:aM R ρ φ id' 0=some eb:=(by simp [aM,hnR,hr,hrv,hee,hup]);obtain⟨rows,r1,r2,r3,r4⟩:=@iJ v φ _ _ _ _ _ _ hex q7;have hll:=au gid l' rows (aH r3);have hll':=au cid' l' rows (aH r3);refine⟨l',rows,rfl,hx.symm.trans r1,r3,.inr ⟨hy.symm,⟨_,hmap,?_⟩,?_⟩⟩;{rw[List.append_nil,hll',r2,q5];exact b7.symm};rw[List.append_nil];refine @ArrRep.single v' R _ w id' 0 _ _ eb cs fl fh hid hmap (fun u hu=>hno u hu) hbb (by rw[q6];exact hsz) (by rw[hll',r2,b7,q5];exact aE _) (by rw[q6];exact q8) fun k av x1 x2 x3=> ?_;have hk:k<(ah gid l' rows).length:=(by rw[hll];rw[hll']at x2;exact x2);obtain⟨z,y1,y2⟩:=@VRL.get v φ _ _ r4 k _ (bC hk);refine⟨z,?_,?_⟩;{rw[Array.getElem?_toList]at y1;rw[show k+eb.up - eb.dn=k by omega];exact y1};obtain⟨av2,q1,q2⟩:=@tC v v' φ (aM R ρ φ) gid cid' k l' rows z b8 r3 hk y2;rw[x3]at q1;cases q1;exact q2
       cases h
      cases h
     cases h
    cases h
   rename_i hr;cases h;have e1:=he (.pr 13 (.lit 0) (.lit 0),x') (by simp);have e2:=he (.lit 0,y') (by simp);simp only at e1 e2;refine⟨l',[],rfl,e1.symm,fun r hr=>(by cases hr),.inl ⟨e2.symm,rfl,rfl,hid,fun u _=> ?_⟩⟩;simp [aM,hnR,hr]
  cases h
 {rename_i c' t';split at h;{rename_i r hr;split at h;{rename_i c t hob;rw[ai]at h;split at h;{rename_i hb;simp only[al]at hb;have hv0:=ae hb.1.2;have hn0:=ae hb.1.1;have:=ae hb.2;subst this;have hlt:r.ido<σ.next:=aR (hall r (bn hr).1).2;have hrep:=hh.rep hlt;rw[hob]at hrep;obtain⟨hR,ex,cs,fl,fh,q1,q2,q3,q4,q5,q6,q7,q8⟩:=hrep;have hvr:=xE h he q7;have hl1:=@VRL.length v' _ _ _ hvr;have hl2:=@VRL.length v _ _ _ q7;have hll:c'.length=c.length:=(by omega);refine⟨hid,ex,cs,fl,fh,?_,q2,q3,q4,by rw[hll];exact q5,by rw[hll];exact q6,hvr,by rw[hll];exact q8⟩;simp [aM,hnR,hr,hv0,q1,hn0,Ext.upto_zero]};cases h};cases h};cases h};cases h
theorem xC{tm:T AV}{σ:St}{a:Act}(hh:HoldL v R tm σ a w φ){nx':Nat}(hr:jj R nx' σ.next ρ=true){id':Nat}{o':Ob}{e:bS}(h:UL R ρ tm σ.heap id' o'=some e)(he:EqsOk v v' e)
 (hid:R≤id'):@Rep v' R (aM R ρ φ) w id' (some o'):=by
 unfold UL at h;split at h;{rename_i e' hm;cases h;exact MN hh hr hm he hid};exact MO hh hr h he hid
theorem jK{nx:Nat}{tm:T AV}{h:T Ob}:∀{l:List (Nat×Ob)} {e:bS},FK R nx ρ tm h l=some e→∀i o,(i,o)∈l→R≤i∧i<nx∧∃e',UL R ρ tm h i o=some e'∧∀p∈e',p∈e:=by
 intro l
 induction l with
 |nil=>intro e _ i o hm;cases hm
 |cons q l ih=>intro e h i o hm;obtain⟨j,oj⟩:=q;simp only[FK,ai,al]at h;split at h;{rename_i hb;split at h;{rename_i p q hp hq;cases h;rcases List.mem_cons.1 hm with hm|hm;{cases hm;exact⟨aB hb.1,aR hb.2,p,hp,fun x hx=>List.mem_append_left _ hx⟩};obtain⟨h1,h2,e',h3,h4⟩:=ih hq i o hm;exact⟨h1,h2,e',h3,fun x hx=>List.mem_append_right _ (h4 x hx)⟩};cases h};cases h
theorem xB{tm:T AV}:∀{l:List (Nat×AV)} {e:bS},UK R ρ tm l=some e→∀t x,(t,x)∈l→∃y e',tm.get t=some y∧lq R ρ y x=some e'∧∀p∈e',p∈e:=by
 intro l
 induction l with
 |nil=>intro e _ i o hm;cases hm
 |cons q l ih=>intro e h t x hm;obtain⟨j,xj⟩:=q;simp only[UK]at h;split at h;{rename_i y hy;split at h;{rename_i p q hp hq;cases h;rcases List.mem_cons.1 hm with hm|hm;{cases hm;exact⟨y,p,hy,hp,fun x hx=>List.mem_append_left _ hx⟩};obtain⟨y',e',h3,h4,h5⟩:=ih hq t x hm;exact⟨y',e',h3,h4,fun x hx=>List.mem_append_right _ (h5 x hx)⟩};cases h};cases h
theorem rR{nb:Nat}(h:Lv R (jh nb) ρ=true){i:Nat}{r:RE}(hr:ku ρ i=some r):Kin R nb i r.ido:=by have:=List.all_eq_true.1 h r (bn hr).1;have hi:=(bn hr).2;subst hi;simp only[dH,al]at this;rcases this with h|⟨h1,h2⟩;{exact .inl (ae h)};exact .inr ⟨aB h1,aB h2⟩
theorem aT{nr nb:Nat}{gl:Nat→Option Nat}{b:bK}(hb:BaseOk gl b R){tm:T AV}{σ:St}{tm':List (Nat×AV)}{objs':List (Nat×Ob)}{nx':Nat}{e:bS}(h:eA R nb ρ tm σ tm' objs' nx'=some e)(he:EqsOk v v' e):
 Retell gl b R nr nb v tm σ v' (ba tm') (aA b objs' nx'):=by
 intro nt a w φ hh;unfold eA at h;rw[ai]at h;split at h
 ·rename_i hc;simp only[al]at hc;obtain⟨hre,hRn,hpin,hst⟩:=hc;have hRn:=aB hRn;split at h
  ·rename_i p q hp hq;cases h;obtain⟨hep,heq⟩:=he.app;have hlow:(aM R ρ φ).low R=φ.low R:=by
    funext i u;unfold PM.low;split;{rename_i hi;exact bL i hi u};rfl
   have hle:(φ.low R).le (aM R ρ φ):=fun i u f hf=>(by unfold PM.low at hf;split at hf;{rename_i hi;rw[bL i hi];exact hf};cases hf);have hwf:=nk hh.wf hre;have hre':=hre;simp only[jj,al,oD]at hre';have hbase:∀i,i<R→@Rep v' R (aM R ρ φ) w i (b.get i):=fun i hi=>@Rep.frame v' R _ _ w w i _ hle (fun u=>by rw[bL i hi,PM.low_lt _ hi]) (fun _ _ _=>rfl) (hh.roA v' i hi);refine⟨aM R ρ φ,⟨hh.size,fun t x hx=> ?_,hh.dfs,⟨hwf,hRn,fun i _ hn=> ?_,fun g n hg=> ?_,fun i hn=> ?_,fun _ _ h=>by simp [js]at h,fun _ _ h=>by simp [js]at h,fun _ h=>(by cases h),fun i hi=> ?_,@jr v'⟩,fun i hn u=> ?_,fun v'' i hi=> ?_,rfl,rfl⟩,.of_sub hlow (sU hpin) fun i u f hi hf=> ?_⟩;{obtain⟨y,e',h1,h2,h3⟩:=xB hp t x (oi hx);obtain⟨x',q1,q2⟩:=hh.val t y h1;exact⟨x',q1,lj h2 (fun z hz=>hep z (h3 z hz)) q2⟩};{rcases ef b objs' i with h1|⟨o,h1,h2⟩;{show @Rep v' R _ w i ((br b objs').get i);rw[h1];by_cases hi:i<R;{exact hbase i hi};rw[hb.none i (by omega)];trivial};show @Rep v' R _ w i ((br b objs').get i);rw[h2];obtain⟨g1,g2,e',g3,g4⟩:=jK hq i o h1;exact xC hh.lite hre g3 (fun z hz=>heq z (g4 z hz)) g1};{obtain⟨f,h1,h2⟩:=hh.glo hg;exact⟨f,by rw[bL g (hb.gl g n hg)];exact h1,h2⟩};{show(br b objs').get i=none;have hn:nx'≤i:=hn;rcases ef b objs' i with h1|⟨o,h1,h2⟩;{rw[h1];exact hb.none i (by omega)};obtain⟨g1,g2,_⟩:=jK hq i o h1;omega};{rw[hlow];exact hh.roA v' i hi};{have hn:nx'≤i:=hn;have hnR:¬i<R:=(by omega);simp only[aM,hnR,if_false];split;{split;{rename_i r hr;have:=aR (hre'.2 r (bn hr).1).1.2;have:=(bn hr).2;omega};rfl};rfl};{rw[hlow];exact hh.roA v'' i hi};obtain⟨_,r,f',h1,h2,rfl⟩:=ff hi hf;exact⟨r.ido,r.ver,f',aB (hre'.2 r (bn h1).1).1.1.1,h2,(Ext.upto_blk _ _).symm,rR hst h1⟩
  cases h
 cases h
end
def CW:bS→bS→Bool
 |[],[]=>true
 |(a,c)::l,(a',c')::m=>a.same a'&&c.same c'&&CW l m
 |_,_=>false
theorem Ei:∀{a c:bS},CW a c=true→a=c:=by
 intro a
 induction a with
 |nil=>intro c h;cases c<;>simp [CW]at h;rfl
 |cons p l ih=>
  intro c h;cases c with
  |nil=>simp [CW]at h
  |cons q m=>obtain⟨a1,a2⟩:=p;obtain⟨c1,c2⟩:=q;simp only[CW,al]at h;rw[Sx.same_eq h.1.1,Sx.same_eq h.1.2,ih h.2]
noncomputable def Hy(R nr nb:Nat)(x:XR)(e:AExit)(ρ:List RE)(tm':List (Nat×AV))(objs':List (Nat×Ob))(nx':Nat)(E:bS):Bool:=match x with
 | .ok e' env σ=>An e e'&&σ.wr.all (fun i=>Nat.ble (R+nr) i)&&(match env.ds with
  |[]=>true
  |_=>false)&&(match env.md with
  |none=>true
  |_=>false)&&(match eA R nb ρ env.tm σ.bare tm' objs' nx' with
  |some E'=>CW E' E
  |none=>false)
 |_=>false
theorem J6{v:Val}{P:Program}{gl:Nat→Option Nat}{b:bK}{R nr nb nt:Nat}(hb:BaseOk gl b R){p:bo}(hp:@Holds v p){hk:FuncId→List AV→St→CR}(hs:bN (bX gl b p hk))(hh:@kI v P R (bX gl b p hk))
 (hm:P.follows .mixedOrders=true){n:Nat}{c:Code}{tm:T AV}{σ:St}{e:AExit}{ρ:List RE}{tm':List (Nat×AV)}{objs':List (Nat×Ob)}{nx':Nat}{E:bS}
 (h:Hy R nr nb (exec P (bX gl b p hk) n nt c {tm:=tm,ds:=[],md:=none,rd:=false} σ) e ρ tm' objs' nx' E=true):
 ∃tm1 σ1,HTo v P gl b R nr nb nt c tm σ e tm1 σ1∧∀v',EqsOk v v' E→Retell gl b R nr nb v tm1 σ1 v' (ba tm') (aA b objs' nx'):=by
 unfold Hy at h;split at h
 ·rename_i e' env σ' hx;simp only[al]at h;obtain⟨⟨⟨⟨h1,h0⟩,h2⟩,h3⟩,h4⟩:=h;obtain⟨rfl,hn⟩:=od h1;have hd:env.ds=[]:=by
   split at h2;{assumption};cases h2
  have hmd:env.md=none:=(by split at h3;{assumption};cases h3);split at h4;{rename_i E' hE;have:=Ei h4;subst this;exact⟨env.tm,σ'.bare,pL hp hs hh hm hx hn hd hmd (fun i hi=>aB (List.all_eq_true.1 h0 i hi)),fun v' he=>aT hb hE he⟩};cases h4
 cases h
end Go.Tw
namespace Go.Tw
open Go.ChangeShapes Go.RowKit
structure Lin where
 l:List Sh
 t:TypeId
 x:Sx
 y:Sx
 ox:Sx
 oy:Sx
structure Con where
 f:FuncId
 args:List AV
 pre:bo
 res:AV
 objs:List Ob
 nr:Nat:=0
 bin:List (List AV×TypeId):=[]
 bout:List (List AV):=[]
 lin:Option Lin:=none
def Con.nl(c:Con):Nat:=match c.lin with
 |some _=>1
 |none=>0
structure LK where
 lid:Nat
 idc:Nat
 nv:Nat
def Sx.sub(θ:Nat→Sx):Sx→Sx
 | .lit n=>.lit n
 | .var i=>.var i
 | .bin op k a b=>.bin op k (a.sub θ) (b.sub θ)
 | .wrap k a=>.wrap k (a.sub θ)
 | .dvar i=>θ i
 | .slit s=>.slit s
 | .pr f a b=>.pr f (a.sub θ) (b.sub θ)
 | .ap f a b c=>.ap f (a.sub θ) (b.sub θ) (c.sub θ)
 | .cell x i o=>.cell (x.sub θ) (i.sub θ) o
 | .setc x i o c=>.setc (x.sub θ) (i.sub θ) o (c.sub θ)
 | .dlit d=>.dlit d
def Bx.sub(θ:Nat→Sx):Bx→Bx
 | .cmp op a b=>.cmp op (a.sub θ) (b.sub θ)
 | .not b=>.not (b.sub θ)
 | .seq a b=>.seq (a.sub θ) (b.sub θ)
abbrev Val.at(v:Val)(θ:Nat→Sx):Val:=Val.mk v.num (fun i=>@Sx.dat v (θ i)) v.fn
theorem Sx.sub_dat(v:Val)(θ:Nat→Sx):∀e:Sx,@Sx.dat v (e.sub θ)=@Sx.dat (v.at θ) e:=by
 intro e
 induction e with
 |lit n=>rfl
 |var i=>rfl
 |bin op k a b ih1 ih2=>simp only[Sx.sub,Sx.dat,ih1,ih2]
 |wrap k a ih=>simp only[Sx.sub,Sx.dat,ih]
 |dvar i=>rfl
 |slit s=>rfl
 |pr f a b ih1 ih2=>simp only[Sx.sub,Sx.dat,ih1,ih2]
 |ap f a b c ih1 ih2 ih3=>simp only[Sx.sub,Sx.dat,ih1,ih2,ih3];rfl
 |cell x i o ih1 ih2=>simp only[Sx.sub,Sx.dat,ih1,ih2]
 |setc x i o c ih1 ih2 ih3=>simp only[Sx.sub,Sx.dat,ih1,ih2,ih3]
 |dlit d=>rfl
theorem Bx.sub_eval(v:Val)(θ:Nat→Sx):∀b:Bx,@Bx.eval v (b.sub θ)=@Bx.eval (v.at θ) b:=by
 intro b
 induction b with
 |cmp op a b=>simp only[Bx.sub,Bx.eval,Sx.eval,Sx.sub_dat]
 |not b ih=>simp only[Bx.sub,Bx.eval,ih]
 |seq a b=>simp only[Bx.sub,Bx.eval,Sx.sub_dat]
mutual
def AV.inst(θ:Nat→Sx)(d:Nat)(lk:Option LK):AV→AV
 | .sym k e=>.sym k (e.sub θ)
 | .symb b=>.symb (b.sub θ)
 | .vstr e=>.vstr (e.sub θ)
 | .opq k id ver sh x y=>bif Nat.beq k 5 then .opq k id ver sh (x.sub θ) (y.sub θ)else(match lk with
  |some q=>bif Nat.beq id q.lid then .opq k q.idc q.nv sh (x.sub θ) (y.sub θ)else .opq k (id+d) ver sh (x.sub θ) (y.sub θ)
  |none=>.opq k (id+d) ver sh (x.sub θ) (y.sub θ))
 | .agg l=>.agg (qt θ d lk l)
 | .tup l=>.tup (qt θ d lk l)
 | .ptr a b c e=>.ptr a b c e
 | .slc a b c e f g=>.slc a b c e f g
 | .map a=>.map a
 | .yld a=>.yld a
 | .fn a b c=>.fn a b c
 | .iface a b=>.iface a b
 | .bool b=>.bool b
 | .int k n=>.int k n
 | .sslc e=>.sslc e
 | .sstr e=>.sstr e
 | .str s=>.str s
 | .nilp=>.nilp
 | .nils=>.nils
 | .nilm=>.nilm
 | .anyp=>.anyp
 | .unk=>.unk
 | .nilfn=>.nilfn
 | .nili=>.nili
def qt(θ:Nat→Sx)(d:Nat)(lk:Option LK):List AV→List AV
 |[]=>[]
 |v::l=>v.inst θ d lk::qt θ d lk l
end
mutual
def AV.okRes(R nx:Nat):AV→Bool
 | .sym .. =>true
 | .symb _=>true
 | .vstr _=>true
 | .opq k id ver _ _ _=>Nat.beq k 5||(Nat.beq k 2&&(Nat.ble R id&&Nat.blt id nx&&Nat.beq ver 0))
 | .agg l=>mJ R nx l
 | .tup l=>mJ R nx l
 | .bool _=>true
 | .int .. =>true
 | .str _=>true
 | .nilp=>true
 | .nils=>true
 | .nilm=>true
 | .nilfn=>true
 | .nili=>true
 |_=>false
def mJ(R nx:Nat):List AV→Bool
 |[]=>true
 |v::l=>v.okRes R nx&&mJ R nx l
end
def Ob.inst(θ:Nat→Sx):Ob→Ob
 | .opq k ver cid sh x y c t=>.opq k ver cid sh (x.sub θ) (y.sub θ) c t
 |o=>o
def Ob.okRes:Ob→Bool
 | .opq k ver cid (.slc l) _ _ [] _=>Nat.beq k 2&&(Nat.beq cid gid&&(dp l&&Nat.beq ver 0))
 |_=>false
def Tn(R nx d:Nat)(lk:Option LK)(φ ψ:PM):Prop:=∀i e,R≤i→i<nx→φ i 0=some e→(match lk with
 |some q=>if i=q.lid then ψ q.idc q.nv=some e else ψ (i+d) 0=some e
 |none=>ψ (i+d) 0=some e)
section
variable{v:Val}{θ:Nat→Sx}{R nx d:Nat}{lk:Option LK}{φ ψ:PM}
mutual
theorem D7(hm:Tn R nx d lk φ ψ):∀{y:AV} {x:Value},y.okRes R nx=true→@VR (v.at θ) φ y x→@VR v ψ (y.inst θ d lk) x
 | .sym k e,x,_,h=>by cases h;have:@Sx.eval (v.at θ) e=@Sx.eval v (e.sub θ):=congrArg Dat.toI (Sx.sub_dat v θ e).symm;rw[this];exact @VR.sym v _ _ _
 | .symb b,x,_,h=>by cases h;rw[←Bx.sub_eval];exact @VR.symb v _ _
 | .vstr e,x,_,h=>by
  cases h with
  |vstr s hs=>exact @VR.vstr v _ _ s ((Sx.sub_dat v θ e).trans hs)
 | .opq k id ver sh x0 y0,x,ho,h=>by
  simp only[AV.okRes,al,dH]at ho;rcases ho with ho|ho
  ·have:=ae ho;subst this;cases h with
   |opq _ hk=>have hk:XP ver sh (@Sx.dat (v.at θ) x0) x:=hk;rw[←Sx.sub_dat]at hk;exact @VR.opq v _ _ _ _ _ _ _ _ hk
  have:=ae ho.1;subst this;have h1:=aB ho.2.1.1;have h2:=aR ho.2.1.2;have:=ae ho.2.2;subst this;cases h with
  |opq _ hk=>
   have key:∀i u,(∀e,φ id 0=some e→ψ i u=some e)→@VR v ψ (.opq 2 i u sh (x0.sub θ) (y0.sub θ)) x:=fun i u hi=>(by refine @VR.opq v _ _ _ _ _ _ _ _ ?_;rw[Sx.sub_dat,Sx.sub_dat];rcases hk with hk|⟨y1,l,ex,c,n,g1,g2,g3⟩;{exact .inl hk};exact .inr ⟨y1,l,ex,c,n,g1,hi _ g2,g3⟩);have hmi:=fun e he=>hm id e h1 h2 he;cases lk with
   |none=>exact key _ _ hmi
   |some q=>show @VR v ψ (bif Nat.beq id q.lid then .opq 2 q.idc q.nv sh (x0.sub θ) (y0.sub θ)else .opq 2 (id+d) 0 sh (x0.sub θ) (y0.sub θ)) x;simp only[ai];by_cases hq:id=q.lid;{subst hq;rw[if_pos (Nat.beq_refl _)];exact key _ _ fun e he=>by have:=hmi e he;simpa using this};rw[if_neg (fun h=>hq (ae h))];exact key _ _ fun e he=>by have:=hmi e he;simpa[hq]using this
 | .agg l,x,ho,h=>by
  simp only[AV.okRes]at ho;cases h with
  |agg l' g=>exact @VR.agg v _ _ _ (nU hm ho g)
 | .tup l,x,ho,h=>by
  simp only[AV.okRes]at ho;cases h with
  |tup l' g=>exact @VR.tup v _ _ _ (nU hm ho g)
 | .bool b,x,_,h=>by cases h;exact @VR.bool v _ _
 | .int k n,x,_,h=>by cases h;exact @VR.int v _ _ _
 | .str s,x,_,h=>by cases h;exact @VR.str v _ _
 | .nilp,x,_,h=>by cases h;exact @VR.nilp v _
 | .nils,x,_,h=>by cases h;exact @VR.nils v _
 | .nilm,x,_,h=>by cases h;exact @VR.nilm v _
 | .nilfn,x,_,h=>by cases h;exact @VR.nilfn v _
 | .nili,x,_,h=>by cases h;exact @VR.nili v _
 | .ptr ..,x,ho,h=>by simp [AV.okRes]at ho
 | .slc ..,x,ho,h=>by simp [AV.okRes]at ho
 | .map _,x,ho,h=>by simp [AV.okRes]at ho
 | .yld _,x,ho,h=>by simp [AV.okRes]at ho
 | .fn ..,x,ho,h=>by simp [AV.okRes]at ho
 | .iface ..,x,ho,h=>by simp [AV.okRes]at ho
 | .sslc _,x,ho,h=>by simp [AV.okRes]at ho
 | .sstr _,x,ho,h=>by simp [AV.okRes]at ho
 | .anyp,x,ho,h=>by simp [AV.okRes]at ho
 | .unk,x,ho,h=>by simp [AV.okRes]at ho
theorem nU(hm:Tn R nx d lk φ ψ):∀{y:List AV} {x:List Value},mJ R nx y=true→@VRL (v.at θ) φ y x→@VRL v ψ (qt θ d lk y) x
 |[],x,_,h=>by cases h;exact @VRL.nil v _
 |a::l,x,ho,h=>by
  simp only[mJ,al]at ho;cases h with
  |cons g1 g2=>exact @VRL.cons v _ _ _ _ _ (D7 hm ho.1 g1) (nU hm ho.2 g2)
end
end
end Go.Tw
namespace Go.Tw
open Go.ChangeShapes Go.RowKit
def A0(φ:PM)(bx:List Nat)(lst:Option Ext)(u:Nat):Prop:=(∃id∈bx,∃t e,φ id t=some e∧e.blk=u)∨∃e,lst=some e∧e.blk=u
open Classical in
noncomputable def bB(φ:PM)(R:Nat)(w:World)(bx:List Nat)(lst:Option Ext):PM:=fun i u=>if i=gid then(if A0 φ bx lst u then none else match w.heap[u]? with
 |some (.cells c _ _)=>some ⟨u,0,0,0,0,c.toList⟩
 |_=>none)else if i<R then φ i u else if u=0 then(if i=R+bx.length then lst else match bx[i - R]? with
  |some id=>φ id 0
  |none=>none)else none
noncomputable section
def xI(σ:St)(l':List Sh)(x':Sx):AV→Option (bS×List Nat)
 | .opq k id ver (.slc l) x y=>bif Nat.beq k 0 then(bif Nat.beq id gid&&Sh.sameL l l' then some ([(x,x')],[])else none)
  else(match eV σ (.opq k id ver (.slc l) x y)with
   |some o=>bif Sh.sameL o.l l'&&dp l' then some ([(o.x,x')],[o.id])else none
   |none=>none)
 | .nils=>some ([(.pr 13 (.lit 0) (.lit 0),x')],[])
 |_=>none
structure LA where
 lid:Nat
 act:AV
 l:List Sh
 y:Sx
def WU(R:Nat)(ρ:List RE)(lk:Option LA)(σ:St)(a p:AV):Option (bS×List Nat):=match p with
 | .opq k id ver (.slc l') x' y'=>bif Nat.beq k 0&&Nat.beq id gid then xI σ l' x' a else(match lk with
  |some q=>bif Nat.beq k 2&&(Nat.beq id q.lid&&(Nat.beq ver 0&&(a.same q.act&&(Sh.sameL l' q.l&&y'.same q.y))))then some ([],[])else none
  |none=>none)
 |p=>(lq R ρ a p).map fun e=>(e,[])
mutual
def qh(R:Nat)(ρ:List RE)(lk:Option LA)(σ:St):AV→AV→Option (bS×List Nat)
 | .agg l,p=>match p with
  | .agg l'=>MB R ρ lk σ l l'
  |_=>none
 |a,p=>WU R ρ lk σ a p
def MB(R:Nat)(ρ:List RE)(lk:Option LA)(σ:St):List AV→List AV→Option (bS×List Nat)
 |[],z=>match z with
  |[]=>some ([],[])
  |_=>none
 |y::l,z=>match z with
  |[]=>none
  |x::m=>match qh R ρ lk σ y x,MB R ρ lk σ l m with
   |some (p,a),some (q,c)=>some (p++q,a++c)
   |_,_=>none
end
def intS? :Sx→Bool
 | .lit _=>true
 | .pr f _ _=>Nat.beq f 30
 |_=>false
def boolS? :Sx→Bool
 | .lit (.ofNat n)=>Nat.ble n 1
 | .pr f _ _=>Nat.ble 20 f&&Nat.ble f 29
 |_=>false
def nameAt:List (Nat×Sx)→Nat→Sx
 |[],_=>.lit 0
 |(i,e)::l,j=>bif Nat.beq i j then e else nameAt l j
def zJ:Sx→Sx→List (Nat×Sx)
 |a,.dvar i=>[(i,a)]
 | .bin _ _ a c,.bin _ _ p q=>zJ a p++zJ c q
 | .wrap _ a,.wrap _ p=>zJ a p
 | .pr _ a c,.pr _ p q=>zJ a p++zJ c q
 | .lit n,.pr _ (.dvar i) _=>[(i,.lit n)]
 | .cell a c _,.cell p q _=>zJ a p++zJ c q
 |_,_=>[]
def Cd:bS→List (Nat×Sx)
 |[]=>[]
 |(a,p)::l=>zJ a p++Cd l
def SR(θ:Nat→Sx)(a p:Sx):Bool:=match p with
 | .pr f p' c=>bif Nat.beq f 30 then(match a with
  | .pr g a' d=>(Nat.beq g 30&&(p'.sub θ).same a')||((Sx.pr f p' c).sub θ).same (.pr g a' d)
  | .lit n=>(p'.sub θ).same (.lit n)
  |a=>((Sx.pr f p' c).sub θ).same a)else((Sx.pr f p' c).sub θ).same a
 |p=>(p.sub θ).same a
def lV(e:bS):Option (List (Nat×Sx)):=bif e.all (fun q=>SR (nameAt (Cd e)) q.1 q.2)then some (Cd e)else none
def xu(θ:Nat→Sx)(l:List (Nat×Sx)):Bool:=l.all fun p=>(θ p.1).same p.2
def ve(dec:Bx→Option Bool)(θ:Nat→Sx)(p:bo):Bool:=p.all fun q=>match dec (q.1.sub θ)with
 |some x=>mo x q.2
 |none=>false
def lJ(θ:Nat→Sx):List Ob→Nat→T Ob→T Ob
 |[],_,h=>h
 |o::l,i,h=>lJ θ l (i+1) (h.set i (o.inst θ))
mutual
def Oq(R:Nat):AV→AV→List RE
 | .ptr id ver _ _,p=>match p with
  | .ptr id' _ _ _=>bif Nat.ble R id'&&Nat.beq ver 0 then[{idn:=id',ido:=id,ver:=0}]else[]
  |_=>[]
 | .fn _ a c,p=>match p with
  | .fn _ a' c'=>pV R a a'++pV R c c'
  |_=>[]
 | .agg l,p=>match p with
  | .agg l'=>pV R l l'
  |_=>[]
 | .tup l,p=>match p with
  | .tup l'=>pV R l l'
  |_=>[]
 | .iface _ u,p=>match p with
  | .iface _ u'=>Oq R u u'
  |_=>[]
 |_,_=>[]
def pV(R:Nat):List AV→List AV→List RE
 |[],_=>[]
 |y::l,z=>match z with
  |[]=>[]
  |x::m=>Oq R y x++pV R l m
end
def KO(l:List RE)(R:Nat):Nat→Option (List Nat)
 |0=>some []
 |k+1=>match KO l R k,ku l (R+k)with
  |some ids,some r=>some (ids++[r.ido])
  |_,_=>none
def oM(R:Nat):List Nat→Nat→List RE
 |[],_=>[]
 |i::l,k=>{idn:=R+k,ido:=i,ver:=0}::oM R l (k+1)
def ki(R:Nat)(ρ:List RE)(σ:St):List Nat→List (List AV×TypeId)→Option (bS×List Nat)
 |[],[]=>some ([],[])
 |i::l,(c',t')::m=>match σ.heap.get i with
  |some (.box c t)=>bif Nat.beq t t'&&Nat.ble R i then(match MB R ρ none σ c c',ki R ρ σ l m with
   |some (p,a),some (q,d)=>some (p++q,a++d)
   |_,_=>none)else none
  |_=>none
 |_,_=>none
mutual
def dy(lid:Nat):AV→AV→Option AV
 | .agg l,p=>match p with
  | .agg l'=>lv lid l l'
  |_=>none
 | .tup l,p=>match p with
  | .tup l'=>lv lid l l'
  |_=>none
 |a,p=>match p with
  | .opq _ id _ _ _ _=>bif Nat.beq id lid then some a else none
  |_=>none
def lv(lid:Nat):List AV→List AV→Option AV
 |[],_=>none
 |y::l,z=>match z with
  |[]=>none
  |x::m=>match dy lid y x with
   |some a=>some a
   |none=>lv lid l m
end
structure LR where
 id:Nat
 ver:Nat
 e:Sx
 y:Sx
 nv:Nat
 hi:Option Nat
def pd(σ:St)(L:Lin)(a:AV):Option LR:=bif dp L.l then(match a with
 | .slc id ver off len _ esz=>match σ.heap.get id with
  |some (.arr c base lim since nv t)=>bif Nat.beq t L.t&&(Nat.beq off 0&&(Nat.beq esz L.l.length&&((Nat.blt 0 esz&&Nat.blt 0 len)&&(Nat.beq (len*esz) c.length&&((Nat.beq ver base&&Nat.beq lim c.length)||(Nat.beq (ver+1) nv&&(Nat.ble since ver&& !Nat.beq ver base)))))))
   then(match eG gid L.l len c with
    |some e=>some ⟨id,ver,e,.lit 1,nv,some c.length⟩
    |none=>none)else none
  |_=>none
 |a=>match eV σ a with
  |some o=>bif Sh.sameL o.l L.l&&Nat.beq o.t L.t then some ⟨o.id,o.ver,o.x,o.y,o.ver+1,none⟩else none
  |none=>none)else none
def Con.ok(R:Nat)(c:Con):Bool:=c.res.okRes (R+c.bin.length) (R+c.bin.length+c.nl+c.objs.length)&&(c.objs.all Ob.okRes&&(Nat.beq c.bout.length c.bin.length&&((Nat.ble c.nr c.bin.length&&Nat.blt c.bin.length 1048576)&&((c.bout.drop c.nr).all (mJ (R+c.bin.length) (R+c.bin.length+c.nl+c.objs.length))&&(Nat.beq c.nl 0||Nat.beq c.objs.length 0)))))
def gK(θ:Nat→Sx)(d:Nat)(lk:Option LK):List Nat→List (List AV)→List (List AV×TypeId)→T Ob→T Ob
 |i::l,c::m,b::n,h=>gK θ d lk l m n (h.set i (.box (qt θ d lk c) b.2))
 |_,_,_,h=>h
def uH:List Nat→List Nat→List Nat
 |[],wr=>wr
 |i::l,wr=>uH l (Gy i wr)
def Con.lkOf(R:Nat)(c:Con)(q:Option LR):Option LK:=match q with
 |some q=>some ⟨R+c.bin.length,q.id,q.nv⟩
 |none=>none
def LR.ids:Option LR→List Nat
 |some q=>[q.id]
 |none=>[]
def oX(θ:Nat→Sx)(q:Option LR)(L:Option Lin)(h:T Ob):T Ob:=match q,L with
 |some q,some L=>h.set q.id (.opq 2 q.nv gid (.slc L.l) (L.ox.sub θ) (L.oy.sub θ) [] L.t)
 |_,_=>h
def Con.ret(R:Nat)(c:Con)(θ:Nat→Sx)(ids rd:List Nat)(q:Option LR)(σ:St):CR:=
 .ret (c.res.inst θ (σ.next - (R+c.bin.length+c.nl)) (c.lkOf R q)) {cw (ids.take c.nr++rd) σ with
  heap:=lJ θ c.objs σ.next (oX θ q c.lin (gK θ (σ.next - (R+c.bin.length+c.nl)) (c.lkOf R q) (ids.drop c.nr) (c.bout.drop c.nr) (c.bin.drop c.nr) σ.heap)),next:=σ.next+c.objs.length,wr:=uH (ids.drop c.nr++LR.ids q) σ.wr}
def tc(R:Nat)(c:Con)(args:List AV)(σ:St):Option (Option LR×Option LA×bS):=match c.lin with
 |none=>some (none,none,[])
 |some L=>match lv (R+c.bin.length) args c.args with
  |some a=>match pd σ L a with
   |some q=>some (some q,some ⟨R+c.bin.length,a,L.l,L.y⟩,[(q.e,L.x),(q.y,L.y)])
   |none=>none
  |none=>none
def Con.try(R:Nat)(dec:Bx→Option Bool)(c:Con)(args:List AV)(σ:St):CR:=match KO (pV R args c.args) R c.bin.length,tc R c args σ with
 |some ids,some (q,lk,e0)=>bif nodupB ids&&Nat.ble (R+c.bin.length+c.nl) σ.next then(match MB R (oM R ids 0) lk σ args c.args,ki R (oM R ids 0) σ ids c.bin with
  |some (e,rd),some (e2,rd2)=>match lV (e0++(e++e2))with
   |some l=>bif xu (nameAt l) l&&(ve dec (nameAt l) c.pre&&(c.ok R&&(LR.ids q).all fun i=>Nat.ble R i&& !(rd++rd2).any (fun j=>Nat.beq i j)))then c.ret R (nameAt l) ids (rd++rd2) q σ else .no
   |none=>.no
  |_,_=>.no)else .no
 |_,_=>.no
def gV(R:Nat)(dec:Bx→Option Bool):List Con→FuncId→List AV→St→CR
 |[],_,_,_=>.no
 |c::l,f,args,σ=>bif Nat.beq c.f f then(match c.try R dec args σ with
  | .no=>gV R dec l f args σ
  |r=>r)else gV R dec l f args σ
theorem mW(θ:Nat→Sx):∀(l:List Ob) (i:Nat) (h:T Ob) (j:Nat),(lJ θ l i h).get j=if i≤j∧j<i+l.length then(l[j - i]?).map (Ob.inst θ)else h.get j:=by
 intro l
 induction l with
 |nil=>intro i h j;simp [lJ];omega
 |cons o l ih=>intro i h j;simp only[lJ];rw[ih,T.get_set];by_cases h1:j=i;{subst h1;rw[if_neg (by omega),if_pos rfl,if_pos (by simp),Nat.sub_self];rfl};rw[if_neg h1];by_cases h2:i+1≤j∧j<i+1+l.length;{rw[if_pos h2,if_pos (by simp;omega)];rw[show j - i=(j - (i+1))+1 by omega,List.getElem?_cons_succ]};rw[if_neg h2,if_neg (by simp;omega)]
theorem jY(θ:Nat→Sx)(d:Nat)(lk:Option LK):∀(l:List Nat) (m:List (List AV)) (n:List (List AV×TypeId)) (h:T Ob) (j:Nat),j∉l→(gK θ d lk l m n h).get j=h.get j:=by
 intro l
 induction l with
 |nil=>intro m n h j _;cases m<;>cases n<;>rfl
 |cons i l ih=>
  intro m n h j hj;cases m with
  |nil=>rfl
  |cons c m=>
   cases n with
   |nil=>rfl
   |cons b n=>simp only[gK];rw[ih _ _ _ _ (fun h=>hj (List.mem_cons_of_mem _ h)),T.get_set_ne _ _ (fun h=>hj (by rw[h];simp))]
theorem zw(θ:Nat→Sx)(d:Nat)(lk:Option LK):∀(l:List Nat) (m:List (List AV)) (n:List (List AV×TypeId)) (h:T Ob) (k i:Nat) (c:List AV) (b:List AV×TypeId),nodupB l=true→l[k]? =some i→m[k]? =some c→n[k]? =some b→
 (gK θ d lk l m n h).get i=some (.box (qt θ d lk c) b.2):=by
 intro l
 induction l with
 |nil=>intro m n h k i c b _ h1;simp at h1
 |cons x l ih=>
  intro m n h k i c b hnd h1 h2 h3;simp only[nodupB,al,Bool.not_eq_true',List.any_eq_false]at hnd;cases m with
  |nil=>simp at h2
  |cons c' m=>
   cases n with
   |nil=>simp at h3
   |cons b' n=>
    simp only[gK];cases k with
    |zero=>simp only[List.getElem?_cons_zero,aw]at h1 h2 h3;subst h1;subst h2;subst h3;rw[jY _ _ _ _ _ _ _ _ (fun hm=>hnd.1 _ hm (Nat.beq_refl _)),T.get_set_same]
    |succ k=>simp only[List.getElem?_cons_succ]at h1 h2 h3;exact ih _ _ _ _ _ _ _ hnd.2 h1 h2 h3
theorem jz:∀(l wr:List Nat) (i:Nat),i∈uH l wr↔i∈l∨i∈wr:=by
 intro l
 induction l with
 |nil=>intro wr i;simp [uH]
 |cons x l ih=>
  intro wr i;simp only[uH,ih,aC,dB];constructor
  ·rintro (h|h|h)
   {exact .inl (.inr h)};{exact .inl (.inl h)};exact .inr h
  rintro ((h|h)|h)
  {exact .inr (.inl h)};{exact .inl h};exact .inr (.inr h)
theorem sS(θ:Nat→Sx)(q:Option LR)(L:Option Lin)(h:T Ob)(j:Nat)(hj:j∉LR.ids q):(oX θ q L h).get j=h.get j:=by unfold oX;split;{rename_i q L;exact T.get_set_ne _ _ (fun h=>hj (by simp [LR.ids,h]))};rfl
theorem AD{R:Nat}{c:Con}{θ:Nat→Sx}{ids rd:List Nat}{q:Option LR}{σ σ':St}{x:AV}(h:c.ret R θ ids rd q σ=.ret x σ')(hl:∀i∈ids++LR.ids q,∃o,σ.heap.get i=some o):StepA σ σ':=by
 simp only[Con.ret,CR.ret.injEq]at h;obtain⟨_,rfl⟩:=h;have h1:=gn (ids.take c.nr++rd) σ;obtain⟨h2,h3,h4⟩:=aY (ids.take c.nr++rd) σ;have hin:∀i∈ids.drop c.nr++LR.ids q,i∈ids++LR.ids q:=fun i hi=>by rcases List.mem_append.1 hi with h|h;{exact List.mem_append_left _ (List.mem_of_mem_drop h)};exact List.mem_append_right _ h
 have aj:∀i,i∉ids.drop c.nr++LR.ids q→∀d lk,(oX θ q c.lin (gK θ d lk (ids.drop c.nr) (c.bout.drop c.nr) (c.bin.drop c.nr) σ.heap)).get i=σ.heap.get i:=fun i hi d lk=>by rw[sS _ _ _ _ _ (fun h=>hi (List.mem_append_right _ h)),jY _ _ _ _ _ _ _ _ (fun h=>hi (List.mem_append_left _ h))]
 refine⟨Nat.le_add_right _ _,h1.rd,fun i hi=>(jz _ _ _).2 (.inr hi),fun i hi hn=> ?_,fun hd i hi=> ?_,fun hd i hi=> ?_⟩;{show(lJ θ c.objs σ.next _).get i=_;rw[mW,if_neg (by omega),aj];exact fun h=>hn ((jz _ _ _).2 (.inl h))};{show(lJ θ c.objs σ.next _).get i=_;have hi:σ.next+c.objs.length≤i:=hi;rw[mW,if_neg (by omega),aj];{exact hd i (by omega)};intro h;obtain⟨o,ho⟩:=hl i (hin i h);rw[hd i (by omega)]at ho;cases ho};rcases(jz _ _ _).1 hi with h|h;{right;obtain⟨o,ho⟩:=hl i (hin i h);rcases aS i σ.next with h'|h';{exact Nat.lt_of_lt_of_le h' (Nat.le_add_right _ _)};rw[hd i h']at ho;cases ho};exact .inl h
theorem mL{σ:St}{L:Lin}{a:AV}{q:LR}(h:pd σ L a=some q):dp L.l=true∧
 ((∃cap c base lim since esz len,a=.slc q.id q.ver 0 len cap esz∧σ.heap.get q.id=some (.arr c base lim since q.nv L.t)∧esz=L.l.length∧(0<esz∧0<len)∧len*esz=c.length∧((q.ver=base∧lim=c.length)∨(q.ver+1=q.nv∧since≤q.ver∧q.ver≠base))∧
    eG gid L.l len c=some q.e∧q.y=.lit 1∧q.hi=some c.length)∨
  (∃o,eV σ a=some o∧o.l=L.l∧o.t=L.t∧q=⟨o.id,o.ver,o.x,o.y,o.ver+1,none⟩)):=by
 unfold pd at h;rw[ai]at h;split at h;{rename_i hfl;refine⟨hfl,?_⟩;split at h;{rename_i id ver off len cap esz;split at h;{rename_i c base lim since nv t ho;simp only[ai,al,dH,Bool.not_eq_true']at h;split at h;{rename_i hb;obtain⟨b1,b2,b3,b4,b5,b6⟩:=hb;split at h;{rename_i e he;cases h;have:=ae b1;subst this;have:=ae b2;subst this;refine .inl ⟨cap,c,base,lim,since,esz,len,rfl,ho,ae b3,⟨aR b4.1,aR b4.2⟩,ae b5,?_,he,rfl,rfl⟩;rcases b6 with⟨b6,b7⟩|⟨b6,b7,b8⟩;{exact .inl ⟨ae b6,ae b7⟩};exact .inr ⟨ae b6,aB b7,fun h=>by simp only at h;subst h;simp at b8⟩};cases h};cases h};cases h};split at h;{rename_i o hoo;simp only[ai,al]at h;split at h;{rename_i hb;cases h;exact .inr ⟨o,hoo,Sh.sameL_eq hb.1,ae hb.2,rfl⟩};cases h};cases h};cases h
theorem pb{R:Nat}{c:Con}{args:List AV}{σ:St}{q:Option LR}{lk:Option LA}{e0:bS}(h:tc R c args σ=some (q,lk,e0)):
 (c.lin=none∧q=none∧lk=none∧e0=[])∨∃L a q',c.lin=some L∧q=some q'∧lk=some ⟨R+c.bin.length,a,L.l,L.y⟩∧e0=[(q'.e,L.x),(q'.y,L.y)]∧pd σ L a=some q'∧lv (R+c.bin.length) args c.args=some a:=by
 unfold tc at h;split at h;{rename_i hl;cases h;exact .inl ⟨hl,rfl,rfl,rfl⟩};rename_i L hl;split at h;{rename_i a ha;split at h;{rename_i q' hq;cases h;exact .inr ⟨L,a,q',hl,rfl,rfl,rfl,hq,ha⟩};cases h};cases h
theorem td{σ:St}{L:Lin}{a:AV}{q:LR}(h:pd σ L a=some q):∃o,σ.heap.get q.id=some o∧(∀c t,o≠.box c t):=by rcases(mL h).2 with⟨_,c,base,lim,since,_,_,_,ho,_⟩|⟨o,hoo,_,_,rfl⟩;{exact⟨_,ho,fun _ _ h=>by cases h⟩};unfold eV at hoo;split at hoo;{split at hoo;{rename_i ho;rw[ai]at hoo;split at hoo;{cases hoo;exact⟨_,ho,fun _ _ h=>by cases h⟩};cases hoo};cases hoo};cases hoo
theorem qy{R:Nat}{ρ:List RE}{σ:St}:∀{ids:List Nat} {m:List (List AV×TypeId)} {e:bS} {rd:List Nat},ki R ρ σ ids m=some (e,rd)→ids.length=m.length∧
 ∀(k i:Nat),ids[k]? =some i→R≤i∧∃(c:List AV) (b:List AV×TypeId) (e':bS) (rd':List Nat),m[k]? =some b∧σ.heap.get i=some (.box c b.2)∧MB R ρ none σ c b.1=some (e',rd')∧(∀p∈e',p∈e)∧(∀p∈rd',p∈rd):=by
 intro ids
 induction ids with
 |nil=>
  intro m e rd h;cases m with
  |nil=>exact⟨rfl,fun k i h=>by simp at h⟩
  |cons=>simp [ki]at h
 |cons i l ih=>
  intro m e rd h;cases m with
  |nil=>simp [ki]at h
  |cons b m=>
   obtain⟨c',t'⟩:=b;simp only[ki]at h;split at h
   ·rename_i c t hob;rw[ai]at h;split at h
    ·rename_i hb;simp only[al]at hb;have:=ae hb.1;subst this;split at h
     ·rename_i p a q d hp hq;cases h;obtain⟨h1,h2⟩:=ih hq;refine⟨by simp [h1],fun k j hk=> ?_⟩;cases k with
      |zero=>simp only[List.getElem?_cons_zero,aw]at hk;subst hk;exact⟨aB hb.2,c,_,p,a,rfl,hob,hp,fun x hx=>List.mem_append_left _ hx,fun x hx=>List.mem_append_left _ hx⟩
      |succ k=>obtain⟨g1,c2,b2,e2,r2,g2,g3,g4,g5,g6⟩:=h2 k j (by simpa using hk);exact⟨g1,c2,b2,e2,r2,by simpa using g2,g3,g4,fun x hx=>List.mem_append_right _ (g5 x hx),fun x hx=>List.mem_append_right _ (g6 x hx)⟩
     cases h
    cases h
   cases h
theorem try_ret{R:Nat}{dec:Bx→Option Bool}{c:Con}{args:List AV}{σ:St}(h:c.try R dec args σ≠.no):∃ids q lk e0 e rd e2 rd2 l,tc R c args σ=some (q,lk,e0)∧nodupB ids=true∧R+c.bin.length+c.nl≤σ.next∧MB R (oM R ids 0) lk σ args c.args=some (e,rd)∧
 ki R (oM R ids 0) σ ids c.bin=some (e2,rd2)∧lV (e0++(e++e2))=some l∧xu (nameAt l) l=true∧ve dec (nameAt l) c.pre=true∧c.ok R=true∧(∀i∈LR.ids q,R≤i∧i∉rd++rd2)∧c.try R dec args σ=c.ret R (nameAt l) ids (rd++rd2) q σ:=by
 unfold Con.try at h⊢;split at h;{rename_i ids q lk e0 hids hlt;rw[ai]at h;split at h;{rename_i hb0;simp only[al]at hb0;split at h;{rename_i e rd e2 rd2 he he2;split at h;{rename_i l hl;rw[ai]at h;split at h;{rename_i hb;simp only[al]at hb;refine⟨ids,q,lk,e0,e,rd,e2,rd2,l,hlt,hb0.1,aB hb0.2,he,he2,hl,hb.1,hb.2.1,hb.2.2.1,fun i hi=> ?_,by simp only[hids,hlt,he,he2,hl,hb0.1,hb0.2,hb.1,hb.2.1,hb.2.2.1,hb.2.2.2,Bool.and_self,cond_true]⟩;have:=List.all_eq_true.1 hb.2.2.2 i hi;simp only[al,Bool.not_eq_true',List.any_eq_false]at this;exact⟨aB this.1,fun hm=>this.2 i hm (Nat.beq_refl _)⟩};exact absurd rfl h};exact absurd rfl h};exact absurd rfl h};exact absurd rfl h};exact absurd rfl h
theorem pP{R:Nat}{dec:Bx→Option Bool}:∀{l:List Con} {f:FuncId} {args:List AV} {σ:St},gV R dec l f args σ=.no∨∃c∈l,c.f=f∧c.try R dec args σ≠.no∧gV R dec l f args σ=c.try R dec args σ:=by
 intro l
 induction l with
 |nil=>intro f args σ;exact .inl rfl
 |cons c l ih=>intro f args σ;simp only[gV];rw[ai];split;{rename_i hb;split;{rcases ih (f:=f) (args:=args) (σ:=σ)with h|⟨c',h1,h2⟩;{exact .inl h};exact .inr ⟨c',List.mem_cons_of_mem _ h1,h2⟩};rename_i hne;exact .inr ⟨c,by simp,ae hb,hne,rfl⟩};rcases ih (f:=f) (args:=args) (σ:=σ)with h|⟨c',h1,h2⟩;{exact .inl h};exact .inr ⟨c',List.mem_cons_of_mem _ h1,h2⟩
theorem jc{R:Nat}{dec:Bx→Option Bool}(l:List Con){gl:Nat→Option Nat}{b:bK}{p:bo}:bN (bX gl b p (gV R dec l)):=by intro f args σ;show(gV R dec l f args σ).steps σ;rcases pP (R:=R) (dec:=dec) (l:=l) (f:=f) (args:=args) (σ:=σ)with h|⟨c,_,_,h1,h2⟩;{rw[h];simp [CR.steps,CR.st]};rw[h2];obtain⟨ids,q,lk,e0,e,rd,e2,rd2,l',g0,_,_,_,g4,_,_,_,_,_,h3⟩:=try_ret h1;rw[h3];intro τ hτ;simp only[Con.ret,CR.st,aw]at hτ;subst hτ;refine AD (R:=R) (c:=c) (θ:=nameAt l') (ids:=ids) (rd:=rd++rd2) (q:=q) rfl fun i hi=> ?_;rcases List.mem_append.1 hi with hi|hi;{obtain⟨k,hk,rfl⟩:=List.getElem_of_mem hi;obtain⟨_,c,b,_,_,_,h,_⟩:=(qy g4).2 k _ (bC hk);exact⟨_,h⟩};rcases pb g0 with⟨_,rfl,_⟩|⟨L,a,q',_,rfl,_,_,hq,_⟩;{cases hi};simp only[LR.ids,oC]at hi;subst hi;obtain⟨o,ho,_⟩:=td hq;exact⟨o,ho⟩
end
noncomputable def AU:List (List AV×TypeId)→Nat→List (Nat×Ob)
 |[],_=>[]
 |b::l,i=>(i,.box b.1 b.2)::AU l (i+1)
noncomputable def Jy(L:Option Lin)(i:Nat):List (Nat×Ob):=match L with
 |some L=>[(i,.opq 2 0 gid (.slc L.l) L.x L.y [] L.t)]
 |none=>[]
noncomputable def Con.start(b:bK)(R:Nat)(c:Con):St:=aA b (AU c.bin R++Jy c.lin (R+c.bin.length)) (R+c.bin.length+c.nl)
def Con.Sound(F:Nat→Dat→Dat→Dat→Dat)(P:Program)(gl:Nat→Option Nat)(b:bK)(R:Nat)(c:Con):Prop:=
 ∀v:Val,v.fn=F→@Holds v c.pre→∀(w:World) (φ:PM) (args':Array Value),Hold v gl b R 0 .leaf (c.start b R) {tmps:= #[],defers:=[]} w φ→@VRL v φ c.args args'.toList→
  Calls P c.f args' w fun e w'=>∃φ' x,e=.returned x∧@VR v φ' c.res x∧Trans R c.nr c.bin.length φ w φ' w'∧WF R φ' w'∧(∀k o,c.objs[k]? =some o→@Rep v R φ' w' (R+c.bin.length+c.nl+k) (some o))∧
   (∀k l q,c.bout[k]? =some l→c.bin[k]? =some q→@Rep v R φ' w' (R+k) (some (.box l q.2)))∧∀L,c.lin=some L→@Rep v R φ' w' (R+c.bin.length) (some (.opq 2 0 gid (.slc L.l) L.ox L.oy [] L.t))
theorem Nu{v:Val}{θ:Nat→Sx}{a p:Sx}(h:SR θ a p=true):@Sx.dat v a=@Sx.dat (v.at θ) p:=by
 have key:∀{p a:Sx},(p.sub θ).same a=true→@Sx.dat v a=@Sx.dat (v.at θ) p:=fun h=>by rw[←Sx.same_eq h,Sx.sub_dat]
 unfold SR at h;split at h;{rename_i f p' c;rw[ai]at h;split at h;{rename_i hf;have:=ae hf;subst this;split at h;{rename_i g a' d;rcases dH _ _▸h with h|h;{simp only[al]at h;have:=ae h.1;subst this;show Dat.int (@Sx.dat v a').toI=Dat.int (@Sx.dat (v.at θ) p').toI;rw[key h.2]};exact key h};{rename_i n;show Dat.int n=Dat.int (@Sx.dat (v.at θ) p').toI;rw[←key h];rfl};exact key h};exact key h};exact key h
theorem s5{v:Val}{θ:Nat→Sx}{e:bS}{l:List (Nat×Sx)}(hθ:nameAt l=θ)(h:lV e=some l):EqsOk v (v.at θ) e:=by unfold lV at h;rw[ai]at h;split at h;{rename_i ha;cases h;rw[hθ]at ha;intro p hp;exact Nu (List.all_eq_true.1 ha p hp)};cases h
section
variable{v:Val}{R:Nat}{φ:PM}{w:World}{σ:St}{D:Nat→Prop}
theorem l5{gl:Nat→Option Nat}{b:bK}(hb:BaseOk gl b R){p:bo}{hk:FuncId→List AV→St→CR}(hi:@Inv v R (bX gl b p hk) D φ σ w){bx:List Nat}{lst:Option Ext}(hbx:∀i∈bx,R≤i)(hls:∀e,lst=some e→∃i u f,R≤i∧φ i u=some f∧f.blk=e.blk):(φ.low R).le (bB φ R w bx lst):=by
 intro i u e he;unfold PM.low at he;split at he
 ·rename_i hlt;by_cases hg:i=gid
  ·subst hg;obtain⟨ver,cid,sh,x,y,t,hgb⟩:=hb.gid_at;have hr:=hi.ro gid hlt;have hr:@Rep v R (φ.low R) w gid (b.get gid):=hr;rw[hgb]at hr;obtain⟨h0,bt,fr,hblk⟩:=hr u e (by rw[PM.low_lt _ hlt];exact he);have hnb:¬A0 φ bx lst u:=by
    have heb:e.blk=u:=by rw[h0]
    rintro (⟨id,hid,t,f,hf,hfb⟩|⟨g,hg,hgb⟩)
    {rcases hi.wf.inj _ _ _ _ _ _ hf he (hfb.trans heb.symm)with h|h;{have:=hbx id hid;omega};have:=hbx id hid;omega};obtain⟨id,t,f,hid,hf,hfb⟩:=hls g hg;rcases hi.wf.inj _ _ _ _ _ _ hf he ((hfb.trans hgb).trans heb.symm)with h|h;{omega};omega
   rw[h0]at hblk⊢;have hblk:w.heap[u]? =some (.cells e.snap.toArray bt fr):=hblk;simp [bB,hblk,hnb]
  simp [bB,hg,hlt,he]
 cases he
theorem AL{b:Nat}{c:Array Value}{t:TypeId}{fr:Nat×Nat}{bx:List Nat}{lst:Option Ext}(hn:¬A0 φ bx lst b)(h:w.heap[b]? =some (.cells c t fr)):Pict (bB φ R w bx lst) gid b c.toList:=
 ⟨gid,b,⟨b,0,0,0,0,c.toList⟩,.inl rfl,by simp [bB,h,hn],rfl,rfl⟩
theorem rm{pc:Nat→List Value→Prop}{c:Nat}{s:Sh}{d:Dat}{z:Value}(hf:eP s=true)(hc:iM s d)(h:@VR v φ (dU c s d) z):GC pc s d z:=by
 cases s with
 |int k=>have h:@VR v φ (.int k d.toI) z:=h;cases h;exact .int k d
 |bool=>have h:@VR v φ (.bool (d.toI != 0)) z:=h;cases h;exact .bool d
 |str=>obtain⟨s,rfl⟩:=hc;have h:@VR v φ (.str s) z:=h;cases h;exact .str s
 |slc l=>simp [eP]at hf
theorem Cs{gl:Nat→Option Nat}{b:bK}(hb:BaseOk gl b R){p:bo}{hk:FuncId→List AV→St→CR}(hi:@Inv v R (bX gl b p hk) D φ σ w){bx:List Nat}(hbx:∀i∈bx,R≤i∧∃c t,σ.heap.get i=some (.box c t)){lst:Option Ext}{lic:List Nat}(hls:∀e,lst=some e→∃i u f,R≤i∧i∈lic∧φ i u=some f∧f.blk=e.blk){v':Val}{l':List Sh}{x' y':Sx}{ver:Nat}{a:AV}{z:Value}{e:bS}{rd:List Nat}
 (h:xI σ l' x' a=some (e,rd))(he:EqsOk v v' e)(hv:@VR v φ a z)(hd:∀i∈rd,i∉lic∧(i<σ.next→D i)):@VR v' (bB φ R w bx lst) (.opq 0 gid ver (.slc l') x' y') z:=by
 have hle:=l5 hb hi (bx:=bx) (lst:=lst) (fun i hi=>(hbx i hi).1) fun e he=>let⟨i,u,f,h1,_,h2⟩:=hls e he;⟨i,u,f,h1,h2⟩;unfold xI at h;split at h
 ·rename_i k id ver' l x y;rw[ai]at h;split at h
  ·rename_i hk;have:=ae hk;subst this;simp only[ai,al]at h;split at h
   ·rename_i hb';have:=ae hb'.1;subst this;have:=Sh.sameL_eq hb'.2;subst this;cases h;cases hv with
    |opq _ hk=>obtain⟨l2,a,n,c,hl,rfl,hg⟩:=hk;simp only[Sh.slc.injEq]at hl;subst hl;refine @VR.opq v' _ _ _ _ _ _ _ _ ⟨l,a,n,c,rfl,rfl,?_⟩;rw[←he (x,x') (by simp)];refine hg.mono fun bb s hp=>Pict.mono hle ?_;obtain⟨j,n,e,hj,h1,h2⟩:=hp;have:j=gid:=hj.elim id id;subst this;exact⟨gid,n,e,.inl rfl,by rw[PM.low_lt _ hb.gid_lt];exact h1,h2⟩
   cases h
  split at h
  ·rename_i o hoo;simp only[ai,al]at h;split at h
   ·rename_i hb';have:=Sh.sameL_eq hb'.1;subst this;cases h;obtain⟨z0,_,ho,hl0⟩:=@fQ σ _ _ hoo;have hi0:=@Inv.inv0 v _ _ _ _ _ _ hi;have hdd:D o.id:=(hd o.id (by simp)).2 (@Inv0.lt v _ _ _ _ _ hi0 _ _ ho);obtain⟨rows,hx,hr,hor⟩:=@fP v R D φ σ w hi0 _ _ _ hoo hv hdd;have hxe:=he (o.x,x') (by simp);simp only at hxe;rw[hx]at hxe;rcases hor with⟨bb,rfl,_,rfl,_⟩|⟨ex,c,rfl,_,hφ,hdn,hhi,hc,hbs,har⟩;{refine @VR.opq v' _ _ _ _ _ _ _ _ ⟨o.l,bb,0,0,rfl,rfl,?_⟩;rw[←hxe];exact .none o.l bb 0};obtain⟨ex2,cs,fl,fh,q1,q2,q3,q4,q5,q6⟩:=@ez v R φ w _ _ _ _ _ _ har;rw[hφ]at q1;cases q1;have hlen:=au o.cid o.l rows (aH hr);refine @VR.opq v' _ _ _ _ _ _ _ _ ⟨o.l,_,rows.length,c,rfl,rfl,?_⟩;rw[←hxe];have hnb:¬A0 φ bx lst ex.blk:=by
     rintro (⟨id,hid,t,f,hf,hfb⟩|⟨g,hg,hgb⟩)
     {obtain⟨hR,bc,bt,hbo⟩:=hbx id hid;rcases(@Inv0.wf v _ _ _ _ _ hi0).inj _ _ _ _ _ _ hf hφ hfb with h|h;{rw[h,ho]at hbo;cases hbo};omega};obtain⟨id,t,f,hR,hil,hf,hfb⟩:=hls g hg;rcases(@Inv0.wf v _ _ _ _ _ hi0).inj _ _ _ _ _ _ hf hφ (hfb.trans hgb)with h|h;{rw[h]at hil;exact(hd o.id (by simp)).1 hil};omega
    have aj:∀(i j:Nat) (hi':i<rows.length) (hj:j<o.l.length),∃s d zz,o.l[j]? =some s∧(rows[i])[j]? =some d∧cs[ex.up+i*o.l.length+j]? =some zz∧iM s d∧@VR v φ (dU o.cid s d) zz:=(by intro i j hi' hj;have hrow:rows[i]? =some rows[i]:=bC hi';have hsj:o.l[j]? =some o.l[j]:=bC hj;obtain⟨dd,hdd⟩:∃d,(rows[i])[j]? =some d:=⟨_,bC (by rw[(hr _ (List.getElem_mem hi')).1];exact hj)⟩;have k1:=cu o.cid o.l rows (aH hr) i j _ hrow hj;rw[dj o.cid o.l _ _ _ _ hsj hdd]at k1;have hpos:i*o.l.length+j<rows.length*o.l.length:=(by have:=ig o.l.length (show i+1≤rows.length from hi');rw[Nat.add_mul]at this;omega);obtain⟨zz,z1,z2⟩:=q6 _ _ (by omega) (by omega) k1;exact⟨_,dd,zz,hsj,hdd,by rw[←z1];congr 1;omega,(hr _ (List.getElem_mem hi')).2 _ _ _ hsj hdd,z2⟩);refine .slc ex.blk cs.toList ex.up c (fun i j=>(cs[ex.up+i*o.l.length+j]?).getD undef) (AL hnb q2) hc (fun i row hrow=>(hr row (eQ hrow)).1) (fun i j hi' hj=> ?_) (fun i row j s d hrow hs hdd=> ?_);{obtain⟨s,d,zz,_,_,h3,_⟩:=aj i j hi' hj;rw[Array.getElem?_toList,h3];rfl};have hi':i<rows.length:=(by rcases aS i rows.length with h|h;{exact h};rw[bZ h]at hrow;cases hrow);have hj:j<o.l.length:=(by rcases aS j o.l.length with h|h;{exact h};rw[bZ h]at hs;cases hs);obtain⟨s',d',zz,h1,h2,h3,h4,h5⟩:=aj i j hi' hj;rw[hs]at h1;cases h1;rw[bC hi']at hrow;cases hrow;rw[hdd]at h2;cases h2;have hfs:eP s=true:=List.all_eq_true.1 hb'.2 s (eQ hs);simp only[h3,Option.getD_some];exact rm hfs h4 h5
   cases h
  cases h
 {cases h;cases hv;refine @VR.opq v' _ _ _ _ _ _ _ _ ⟨l',none,0,0,rfl,rfl,?_⟩;rw[←he (.pr 13 (.lit 0) (.lit 0),x') (by simp)];exact .none l' none 0};cases h
theorem HC:∀{ids:List Nat} {k i:Nat} {r:RE},ku (oM R ids k) i=some r→∃j,ids[j]? =some r.ido∧i=R+(k+j)∧r.ver=0∧r.n=0:=by
 intro ids
 induction ids with
 |nil=>intro k i r h;simp [oM,ku]at h
 |cons x l ih=>intro k i r h;simp only[oM,ku,ai]at h;split at h;{rename_i hb;cases h;exact⟨0,rfl,(ae hb).symm,rfl,rfl⟩};obtain⟨j,h1,h2,h3⟩:=ih h;exact⟨j+1,by simpa using h1,by omega,h3⟩
theorem HD{gl:Nat→Option Nat}{b:bK}(hb:BaseOk gl b R){p:bo}{hk:FuncId→List AV→St→CR}(hi:@Inv v R (bX gl b p hk) D φ σ w){bx:List Nat}(hbx:∀i∈bx,R≤i∧∃c t,σ.heap.get i=some (.box c t)){lst:Option Ext}(hls:∀e,lst=some e→∃i u f,R≤i∧φ i u=some f∧f.blk=e.blk):
 (aM R (oM R bx 0) φ).le (bB φ R w bx lst):=by
 intro i u f hf;by_cases hlt:i<R;{rw[bL i hlt]at hf;exact l5 hb hi (fun i hi=>(hbx i hi).1) hls i u f (by rw[PM.low_lt _ hlt];exact hf)};obtain⟨rfl,r,f',h1,h2,rfl⟩:=ff (by omega) hf;obtain⟨j,g1,g2,g3,g4⟩:=HC h1;rw[g4,Ext.upto_zero];have hg:i≠gid:=by have:=hb.gid_lt;omega
 rw[g3]at h2;have:i - R=j:=by omega
 have hj:j<bx.length:=by rcases aS j bx.length with h|h;{exact h};rw[bZ h]at g1;cases g1
 have hne:¬i=R+bx.length:=by omega
 simp [bB,hg,hlt,hne,this,g1,h2]
theorem bI{gl:Nat→Option Nat}{b:bK}(hb:BaseOk gl b R){p:bo}{hk:FuncId→List AV→St→CR}(hi:@Inv v R (bX gl b p hk) D φ σ w){bx:List Nat}(hbx:∀i∈bx,R≤i∧∃c t,σ.heap.get i=some (.box c t)){lst:Option Ext}{lic:List Nat}(hls:∀e,lst=some e→∃i u f,R≤i∧i∈lic∧φ i u=some f∧f.blk=e.blk){v':Val}{lk:Option LA}(hlk:∀q,lk=some q→∀x' z,@VR v φ q.act z→@VR v' (bB φ R w bx lst) (.opq 2 q.lid 0 (.slc q.l) x' q.y) z){a q:AV}{z:Value}{e:bS}{rd:List Nat}
 (h:WU R (oM R bx 0) lk σ a q=some (e,rd))(he:EqsOk v v' e)(hv:@VR v φ a z)(hd:∀i∈rd,i∉lic∧(i<σ.next→D i)):@VR v' (bB φ R w bx lst) q z:=by
 unfold WU at h;split at h;{rename_i k id ver l' x' y';rw[ai]at h;split at h;{rename_i hk;simp only[al]at hk;have:=ae hk.1;subst this;have:=ae hk.2;subst this;exact Cs hb hi hbx hls h he hv hd};split at h;{rename_i q0;simp only[ai,al]at h;split at h;{rename_i hb2;obtain⟨c1,c2,c3,c4,c5,c6⟩:=hb2;have:=ae c1;subst this;have:=ae c2;subst this;have:=ae c3;subst this;have:=AV.same_eq c4;subst this;have:=Sh.sameL_eq c5;subst this;have:=Sx.same_eq c6;subst this;exact hlk q0 rfl _ _ hv};cases h};cases h};cases hm:lq R (oM R bx 0) a q with
 |none=>rw[hm]at h;cases h
 |some e'=>rw[hm]at h;simp only[Option.map_some,aw,il]at h;obtain⟨rfl,rfl⟩:=h;have:=lj (v:=v) (v':=v') (φ:=φ) hm he hv;exact @VR.mono v' _ _ (HD hb hi hbx fun e he=>let⟨i,u,f,h1,_,h2⟩:=hls e he;⟨i,u,f,h1,h2⟩) _ _ this
mutual
theorem Ry{gl:Nat→Option Nat}{b:bK}(hb:BaseOk gl b R){p:bo}{hk:FuncId→List AV→St→CR}(hi:@Inv v R (bX gl b p hk) D φ σ w){bx:List Nat}(hbx:∀i∈bx,R≤i∧∃c t,σ.heap.get i=some (.box c t)){lst:Option Ext}{lic:List Nat}(hls:∀e,lst=some e→∃i u f,R≤i∧i∈lic∧φ i u=some f∧f.blk=e.blk){v':Val}{lk:Option LA}(hlk:∀q,lk=some q→∀x' z,@VR v φ q.act z→@VR v' (bB φ R w bx lst) (.opq 2 q.lid 0 (.slc q.l) x' q.y) z):∀{a q:AV} {z:Value} {e:bS} {rd:List Nat},
 qh R (oM R bx 0) lk σ a q=some (e,rd)→EqsOk v v' e→@VR v φ a z→(∀i∈rd,i∉lic∧(i<σ.next→D i))→@VR v' (bB φ R w bx lst) q z
 | .agg l,q,z,e,rd,h,he,hv,hd=>by
  cases q<;>simp only[qh,reduceCtorEq]at h;cases hv with
  |agg l' g=>exact @VR.agg v' _ _ _ (xh hb hi hbx hls hlk h he g hd)
 | .sym ..,q,z,e,rd,h,he,hv,hd=>bI hb hi hbx hls hlk (by simpa[qh]using h) he hv hd
 | .symb ..,q,z,e,rd,h,he,hv,hd=>bI hb hi hbx hls hlk (by simpa[qh]using h) he hv hd
 | .vstr ..,q,z,e,rd,h,he,hv,hd=>bI hb hi hbx hls hlk (by simpa[qh]using h) he hv hd
 | .opq ..,q,z,e,rd,h,he,hv,hd=>bI hb hi hbx hls hlk (by simpa[qh]using h) he hv hd
 | .tup ..,q,z,e,rd,h,he,hv,hd=>bI hb hi hbx hls hlk (by simpa[qh]using h) he hv hd
 | .bool ..,q,z,e,rd,h,he,hv,hd=>bI hb hi hbx hls hlk (by simpa[qh]using h) he hv hd
 | .int ..,q,z,e,rd,h,he,hv,hd=>bI hb hi hbx hls hlk (by simpa[qh]using h) he hv hd
 | .str ..,q,z,e,rd,h,he,hv,hd=>bI hb hi hbx hls hlk (by simpa[qh]using h) he hv hd
 | .nilp,q,z,e,rd,h,he,hv,hd=>bI hb hi hbx hls hlk (by simpa[qh]using h) he hv hd
 | .nils,q,z,e,rd,h,he,hv,hd=>bI hb hi hbx hls hlk (by simpa[qh]using h) he hv hd
 | .nilm,q,z,e,rd,h,he,hv,hd=>bI hb hi hbx hls hlk (by simpa[qh]using h) he hv hd
 | .nilfn,q,z,e,rd,h,he,hv,hd=>bI hb hi hbx hls hlk (by simpa[qh]using h) he hv hd
 | .nili,q,z,e,rd,h,he,hv,hd=>bI hb hi hbx hls hlk (by simpa[qh]using h) he hv hd
 | .ptr ..,q,z,e,rd,h,he,hv,hd=>bI hb hi hbx hls hlk (by simpa[qh]using h) he hv hd
 | .slc ..,q,z,e,rd,h,he,hv,hd=>bI hb hi hbx hls hlk (by simpa[qh]using h) he hv hd
 | .map ..,q,z,e,rd,h,he,hv,hd=>bI hb hi hbx hls hlk (by simpa[qh]using h) he hv hd
 | .yld ..,q,z,e,rd,h,he,hv,hd=>bI hb hi hbx hls hlk (by simpa[qh]using h) he hv hd
 | .fn ..,q,z,e,rd,h,he,hv,hd=>bI hb hi hbx hls hlk (by simpa[qh]using h) he hv hd
 | .iface ..,q,z,e,rd,h,he,hv,hd=>bI hb hi hbx hls hlk (by simpa[qh]using h) he hv hd
 | .sslc ..,q,z,e,rd,h,he,hv,hd=>bI hb hi hbx hls hlk (by simpa[qh]using h) he hv hd
 | .sstr ..,q,z,e,rd,h,he,hv,hd=>bI hb hi hbx hls hlk (by simpa[qh]using h) he hv hd
 | .anyp,q,z,e,rd,h,he,hv,hd=>bI hb hi hbx hls hlk (by simpa[qh]using h) he hv hd
 | .unk,q,z,e,rd,h,he,hv,hd=>bI hb hi hbx hls hlk (by simpa[qh]using h) he hv hd
theorem xh{gl:Nat→Option Nat}{b:bK}(hb:BaseOk gl b R){p:bo}{hk:FuncId→List AV→St→CR}(hi:@Inv v R (bX gl b p hk) D φ σ w){bx:List Nat}(hbx:∀i∈bx,R≤i∧∃c t,σ.heap.get i=some (.box c t)){lst:Option Ext}{lic:List Nat}(hls:∀e,lst=some e→∃i u f,R≤i∧i∈lic∧φ i u=some f∧f.blk=e.blk){v':Val}{lk:Option LA}(hlk:∀q,lk=some q→∀x' z,@VR v φ q.act z→@VR v' (bB φ R w bx lst) (.opq 2 q.lid 0 (.slc q.l) x' q.y) z):∀{a q:List AV} {z:List Value} {e:bS} {rd:List Nat},
 MB R (oM R bx 0) lk σ a q=some (e,rd)→EqsOk v v' e→@VRL v φ a z→(∀i∈rd,i∉lic∧(i<σ.next→D i))→@VRL v' (bB φ R w bx lst) q z
 |[],q,z,e,rd,h,he,hv,hd=>by cases q<;>simp only[MB,reduceCtorEq]at h;cases hv;exact @VRL.nil v' _
 |a::l,q,z,e,rd,h,he,hv,hd=>by
  cases q<;>simp only[MB,reduceCtorEq]at h;split at h
  ·rename_i p1 r1 p2 r2 h1 h2;cases h;cases hv with
   |cons g1 g2=>exact @VRL.cons v' _ _ _ _ _ (Ry hb hi hbx hls hlk h1 he.app.1 g1 fun i hi'=>hd i (List.mem_append_left _ hi')) (xh hb hi hbx hls hlk h2 he.app.2 g2 fun i hi'=>hd i (List.mem_append_right _ hi'))
  cases h
end
end
end Go.Tw
namespace Go.Tw
open Go.ChangeShapes Go.RowKit
theorem JZ{v:Val}{R:Nat}{C:Cfg}{D:Nat→Prop}{φ:PM}{σ:St}{w:World}(hi:@Inv v R C D φ σ w)(i:Nat)(h:i<R):@Rep v R (φ.low R) w i (C.base i):=hi.ro i h
theorem J1{v:Val}{R:Nat}{C:Cfg}{D:Nat→Prop}{φ:PM}{σ:St}{w:World}(hi:@Inv v R C D φ σ w)(g n:Nat)(h:C.gl g=some n):∃e,φ g 0=some e∧e.blk=g∧e.up=0∧e.dn=0∧n≤e.hi:=hi.gl g n h
theorem CN{v:Val}{R:Nat}{C:Cfg}{D:Nat→Prop}{φ:PM}{σ:St}{w:World}(hi:@Inv v R C D φ σ w){i:Nat}{o:Ob}(h:σ.heap.get i=some o):i<σ.next:=by rcases aS i σ.next with h'|h';{exact h'};rw[hi.dom i h']at h;cases h
theorem Cb:∀{l:List Nat},nodupB l=true→∀n,nodupB (l.drop n)=true:=by
 intro l
 induction l with
 |nil=>intro h n;simp [nodupB]
 |cons a l ih=>
  intro h n;cases n with
  |zero=>exact h
  |succ n=>simp only[nodupB,al]at h;exact ih h.2 n
theorem dP{v:Val}{R:Nat}{C:Cfg}{D:Nat→Prop}{φ:PM}{σ:St}{w:World}(hi:@Inv v R C D φ σ w):WF R φ w:=hi.wf
theorem Ni{v:Val}{R:Nat}{C:Cfg}{D:Nat→Prop}{φ:PM}{σ:St}{w:World}(hi:@Inv v R C D φ σ w):R≤σ.next:=hi.low
theorem iX{v:Val}{R:Nat}{C:Cfg}{D:Nat→Prop}{φ:PM}{σ:St}{w:World}(hi:@Inv v R C D φ σ w){i:Nat}(h:D i)(hn:i<σ.next):@Rep v R φ w i (σ.heap.get i):=hi.rep i h hn
section
variable{v:Val}{P:Program}{R:Nat}{φ:PM}{w:World}{σ:St}{D:Nat→Prop}{gl:Nat→Option Nat}{b:bK}
theorem Fw:∀{l:List Nat},nodupB l=true→∀{i j x:Nat},l[i]? =some x→l[j]? =some x→i=j:=by
 intro l
 induction l with
 |nil=>intro _ i j x h;simp at h
 |cons a l ih=>
  intro h i j x h1 h2;simp only[nodupB,al,Bool.not_eq_true',List.any_eq_false]at h;cases i with
  |zero=>
   cases j with
   |zero=>rfl
   |succ j=>simp only[List.getElem?_cons_zero,aw]at h1;subst h1;exact absurd (Nat.beq_refl _) (h.1 _ (eQ (by simpa using h2)))
  |succ i=>
   cases j with
   |zero=>simp only[List.getElem?_cons_zero,aw]at h2;subst h2;exact absurd (Nat.beq_refl _) (h.1 _ (eQ (by simpa using h1)))
   |succ j=>exact congrArg (· +1) (ih h.2 (by simpa using h1) (by simpa using h2))
theorem cI(hb:BaseOk gl b R){bx:List Nat}{lst:Option Ext}{i u:Nat}{e:Ext}(h:bB φ R w bx lst i u=some e):
 (i=gid∧¬A0 φ bx lst u∧∃c t fr,w.heap[u]? =some (.cells c t fr)∧e=⟨u,0,0,0,0,c.toList⟩)∨(i<R∧i≠gid∧φ i u=some e)∨(R≤i∧u=0∧∃id,bx[i - R]? =some id∧φ id 0=some e)∨(i=R+bx.length∧u=0∧lst=some e):=by
 unfold bB at h;split at h;{rename_i hg;split at h;{cases h};rename_i hn;split at h;{rename_i c t fr hw;simp only[aw]at h;exact .inl ⟨hg,hn,c,t,fr,hw,h.symm⟩};cases h};rename_i hg;split at h;{rename_i hlt;exact .inr (.inl ⟨hlt,hg,h⟩)};rename_i hlt;split at h;{rename_i hu;split at h;{rename_i hi;exact .inr (.inr (.inr ⟨hi,hu,h⟩))};split at h;{rename_i id hid;exact .inr (.inr (.inl ⟨by omega,hu,id,hid,h⟩))};cases h};cases h
def LstOk(R:Nat)(φ:PM)(bx:List Nat)(lst:Option Ext):Prop:=∀e,lst=some e→(∃i u f,R≤i∧i∉bx∧φ i u=some f∧f.blk=e.blk)∧e.hi+e.up≤e.bsz+e.dn
theorem Gs(hb:BaseOk gl b R)(hwf:WF R φ w){bx:List Nat}{lst:Option Ext}(hnd:nodupB bx=true)(hR:∀i∈bx,R≤i)(hls:LstOk R φ bx lst):WF R (bB φ R w bx lst) w:=by
 have hg:=hb.gid_lt;have hlen:∀{k id:Nat},bx[k]? =some id→k<bx.length:=fun{k id} h=>by rcases aS k bx.length with h'|h';{exact h'};rw[bZ h']at h;cases h
 refine⟨fun i u e j t f hi hj hbk=> ?_,fun i u e h=> ?_,fun i u e h=> ?_⟩;{rcases cI hb hi with⟨rfl,h2,c,ty,fr,h3,rfl⟩|⟨h1,h2,h3⟩|⟨h1,rfl,id,h2,h3⟩|⟨rfl,rfl,h3⟩;{rcases cI hb hj with⟨rfl,_⟩|⟨g1,_⟩|⟨g1,rfl,id,g2,g3⟩|⟨rfl,rfl,g3⟩;{exact .inl rfl};{exact .inr ⟨hg,g1⟩};{exact absurd (.inl ⟨id,eQ g2,0,f,g3,hbk.symm⟩) h2};exact absurd (.inr ⟨f,g3,hbk.symm⟩) h2};{rcases cI hb hj with⟨rfl,_⟩|⟨g1,_⟩|⟨g1,rfl,id,g2,g3⟩|⟨rfl,rfl,g3⟩;{exact .inr ⟨h1,hg⟩};{exact .inr ⟨h1,g1⟩};{have:=hR id (eQ g2);rcases hwf.inj _ _ _ _ _ _ h3 g3 hbk with h|h<;>omega};obtain⟨⟨id,x,g,k1,k2,k3,k4⟩,_⟩:=hls f g3;rcases hwf.inj _ _ _ _ _ _ h3 k3 (hbk.trans k4.symm)with h|h<;>omega};{rcases cI hb hj with⟨rfl,g2,c,ty,fr,g3,rfl⟩|⟨g1,g2,g3⟩|⟨g1,rfl,id',g2,g3⟩|⟨rfl,rfl,g3⟩;{exact absurd (.inl ⟨id,eQ h2,0,e,h3,hbk⟩) g2};{have:=hR id (eQ h2);rcases hwf.inj _ _ _ _ _ _ h3 g3 hbk with h|h<;>omega};{have:=hR id (eQ h2);rcases hwf.inj _ _ _ _ _ _ h3 g3 hbk with h|h;{subst h;have:=Fw hnd h2 g2;exact .inl (by omega)};omega};obtain⟨⟨id',x,g,k1,k2,k3,k4⟩,_⟩:=hls f g3;have:=hR id (eQ h2);rcases hwf.inj _ _ _ _ _ _ h3 k3 (hbk.trans k4.symm)with h|h;{rw[←h]at k2;exact absurd (eQ h2) k2};omega};obtain⟨⟨id',x,g,k1,k2,k3,k4⟩,_⟩:=hls e h3;rcases cI hb hj with⟨rfl,g2,c,ty,fr,g3,rfl⟩|⟨g1,g2,g3⟩|⟨g1,rfl,id,g2,g3⟩|⟨rfl,rfl,g3⟩;{exact absurd (.inr ⟨e,h3,hbk⟩) g2};{rcases hwf.inj _ _ _ _ _ _ k3 g3 (k4.trans hbk)with h|h<;>omega};{have:=hR id (eQ g2);rcases hwf.inj _ _ _ _ _ _ k3 g3 (k4.trans hbk)with h|h;{rw[h]at k2;exact absurd (eQ g2) k2};omega};exact .inl rfl};{rcases cI hb h with⟨_,_,c,ty,fr,h3,rfl⟩|⟨_,_,h3⟩|⟨_,_,id,_,h3⟩|⟨_,_,h3⟩;{exact cR h3};{exact hwf.lt _ _ _ h3};{exact hwf.lt _ _ _ h3};obtain⟨⟨id',x,g,k1,k2,k3,k4⟩,_⟩:=hls e h3;rw[←k4];exact hwf.lt _ _ _ k3};rcases cI hb h with⟨_,_,c,ty,fr,h3,rfl⟩|⟨_,_,h3⟩|⟨_,_,id,_,h3⟩|⟨_,_,h3⟩;{exact aE _};{exact hwf.top _ _ _ h3};{exact hwf.top _ _ _ h3};exact(hls e h3).2
theorem LstOk.le{bx:List Nat}{lst:Option Ext}(h:LstOk R φ bx lst):∀e,lst=some e→∃i u f,R≤i∧φ i u=some f∧f.blk=e.blk:=fun e he=>let⟨⟨i,u,f,h1,_,h2⟩,_⟩:=h e he;⟨i,u,f,h1,h2⟩
theorem pR(hb:BaseOk gl b R){p:bo}{hk:FuncId→List AV→St→CR}(hi:@Inv v R (bX gl b p hk) D φ σ w){bx:List Nat}{lst:Option Ext}(hR:∀i∈bx,R≤i)(hls:LstOk R φ bx lst)(v2:Val)(i:Nat)(hlt:i<R):@Rep v2 R ((bB φ R w bx lst).low R) w i (b.get i):=by
 by_cases hg:i=gid;{subst hg;obtain⟨ver,cid,sh,x,y,t,hgb⟩:=hb.gid_at;rw[hgb];intro n e he;rw[PM.low_lt _ hlt]at he;rcases cI hb he with⟨_,_,c,ty,fr,h3,rfl⟩|⟨_,h,_⟩|⟨h,_⟩|⟨h,_⟩;{exact⟨rfl,ty,fr,by simpa using h3⟩};{exact absurd rfl h};{omega};omega};have hr:@Rep v R (φ.low R) w i (b.get i):=JZ hi i hlt;cases hbi:b.get i with
 |none=>trivial
 |some o=>obtain⟨c,rfl,hcl⟩:=hb.only i o hbi hg;rw[hbi]at hr;obtain⟨e,cs,t,fr,he,hbk,h1,h2,h3⟩:=hr;have hle:=l5 hb hi (w:=w) hR hls.le;have hlel:(φ.low R).le ((bB φ R w bx lst).low R):=fun j u f hf=>(by have:=hle j u f hf;unfold PM.low at hf⊢;split at hf;{rename_i hj;rw[if_pos hj];exact this};cases hf);have h4:@VRL v2 (aM R [] (φ.low R)) c _:=lr hcl (fun q hq=>by cases hq) h3;refine⟨e,cs,t,fr,hlel _ _ _ he,hbk,h1,h2,@VRL.mono v2 _ _ (fun j u f hf=>hlel j u f ?_) _ _ h4⟩;unfold aM at hf;split at hf;{exact hf};split at hf;{simp [ku]at hf};cases hf
theorem lH(b:bK):∀(l:List (List AV×TypeId)) (k i:Nat),(br b (AU l k)).get i=if k≤i∧i<k+l.length then(l[i - k]?).map (fun q=>Ob.box q.1 q.2)else b.get i:=by
 intro l
 induction l with
 |nil=>intro k i;simp [AU,br];omega
 |cons q l ih=>intro k i;simp only[AU,br];rw[T.get_set,ih];by_cases h1:i=k;{subst h1;rw[if_pos rfl,if_pos (by simp),Nat.sub_self];rfl};rw[if_neg h1];by_cases h2:k+1≤i∧i<k+1+l.length;{rw[if_pos h2,if_pos (by simp;omega),show i - k=(i - (k+1))+1 by omega,List.getElem?_cons_succ]};rw[if_neg h2,if_neg (by simp;omega)]
theorem di(b:bK):∀(l m:List (Nat×Ob)),br b (l++m)=br (br b m) l:=by
 intro l
 induction l with
 |nil=>intro m;rfl
 |cons p l ih=>intro m;simp only[List.cons_append,br,ih]
theorem z6(b:bK)(L:Option Lin)(k i:Nat):(br b (Jy L k)).get i=(match L with
 |some L=>if i=k then some (.opq 2 0 gid (.slc L.l) L.x L.y [] L.t)else b.get i
 |none=>b.get i):=by
 cases L with
 |none=>rfl
 |some L=>simp only[Jy,br];rw[T.get_set]
theorem Gr(hb:BaseOk gl b R){p:bo}{hk:FuncId→List AV→St→CR}(hi:@Inv v R (bX gl b p hk) D φ σ w)(v2:Val){bx:List Nat}{lst:Option Ext}{c:Con}(hnd:nodupB bx=true)(hlen:bx.length=c.bin.length)
 (hR:∀i∈bx,R≤i)(hls:LstOk R φ bx lst)(hl0:c.lin=none→lst=none)(hbox:∀(k i:Nat),bx[k]? =some i→∃q,c.bin[k]? =some q∧@Rep v2 R (bB φ R w bx lst) w (R+k) (some (.box q.1 q.2)))
 (hlin:∀L,c.lin=some L→@Rep v2 R (bB φ R w bx lst) w (R+c.bin.length) (some (.opq 2 0 gid (.slc L.l) L.x L.y [] L.t))):
 Hold v2 gl b R 0 .leaf (c.start b R) {tmps:= #[],defers:=[]} w (bB φ R w bx lst)where
 size:=rfl
 val:=fun t x h=>by simp [T.get_leaf]at h
 dfs:=rfl
 inv:={wf:=Gs hb (dP hi) hnd hR hls,low:=by show R≤R+c.bin.length+c.nl;omega,rep:=fun i _ hn=>by
        show @Rep v2 R _ w i ((br b (AU c.bin R++Jy c.lin (R+c.bin.length))).get i);rw[di,lH];have hn:i<R+c.bin.length+c.nl:=hn;have hbase:i<R→@Rep v2 R (bB φ R w bx lst) w i (b.get i):=fun hlt=>@Rep.frame v2 R _ _ w w i _ (PM.low_le _ _) (fun u=>(PM.low_lt _ hlt u).symm) (fun _ _ _=>rfl) (pR hb hi hR hls v2 i hlt);by_cases hlt:R≤i∧i<R+c.bin.length;{rw[if_pos hlt];have hk:i - R<bx.length:=(by omega);obtain⟨q,h1,h2⟩:=hbox (i - R) _ (bC hk);rw[h1];rw[show R+(i - R)=i by omega]at h2;exact h2};rw[if_neg hlt,z6];cases hL:c.lin with
        |none=>have:c.nl=0:=(by simp [Con.nl,hL]);exact hbase (by omega)
        |some L=>have:c.nl=1:=(by simp [Con.nl,hL]);dsimp only;split;{rename_i he;subst he;exact hlin L hL};exact hbase (by omega)
       gl:=fun g n hg=>by obtain⟨e,h1,h2⟩:=J1 hi g n hg;exact⟨e,l5 hb hi hR hls.le _ _ _ (by rw[PM.low_lt _ (hb.gl g n hg)];exact h1),h2⟩
       dom:=fun i hn=>by
        show(br b (AU c.bin R++Jy c.lin (R+c.bin.length))).get i=none;have hn:R+c.bin.length+c.nl≤i:=hn;rw[di,lH,if_neg (by omega),z6];cases hL:c.lin with
        |none=>exact hb.none i (by omega)
        |some L=>have:c.nl=1:=(by simp [Con.nl,hL]);dsimp only;rw[if_neg (by omega)];exact hb.none i (by omega)
       pin:=fun _ _ h=>by simp [js]at h
       dec:=fun _ _ h=>by simp [js]at h
       wrR:=fun _ h=>(by cases h)
       ro:=fun i hlt=>pR hb hi hR hls v2 i hlt
       oh:=@jr v2}
 free:=fun i hn u=>by
  have hn:R+c.bin.length+c.nl≤i:=hn;cases h:bB φ R w bx lst i u with
  |none=>rfl
  |some e=>
   have:=hb.gid_lt;rcases cI hb h with⟨rfl,_⟩|⟨h1,_⟩|⟨_,_,id,h2,_⟩|⟨h1,_,h2⟩;{omega};{omega};{rw[bZ (by omega)]at h2;cases h2};cases hL:c.lin with
   |none=>rw[hl0 hL]at h2;cases h2
   |some L=>have:c.nl=1:=(by simp [Con.nl,hL]);omega
 roA:=fun v3 i hlt=>pR hb hi hR hls v3 i hlt
 rd:=rfl
 wr:=rfl
end
theorem qf{v:Val}{p:bo}(hp:@Holds v p){θ:Nat→Sx}:∀{q:bo},ve (eW p) θ q=true→@Holds (v.at θ) q:=by
 intro q
 induction q with
 |nil=>intro _;exact @Holds.nil (v.at θ)
 |cons c q ih=>intro h;obtain⟨bx,x⟩:=c;simp only[ve,List.all_cons,al]at h;obtain⟨h1,h2⟩:=h;split at h1;{rename_i y hy;have:=gN h1;subst this;refine @Holds.cons (v.at θ) _ _ _ ?_ (ih h2);rw[←Bx.sub_eval];exact @fX v _ hp _ _ hy};cases h1
theorem yc{v v':Val}{φ ψ:PM}{cid k:Nat}{l:List Sh}{rows:List (List Dat)}{av:AV}{z:Value}(hfl:dp l=true)(hr:dm l rows)(h:(ah cid l rows)[k]? =some av)(hz:@VR v φ av z):@VR v' ψ av z:=by
 have hlen:=au cid l rows (aH hr);have x2:k<rows.length*l.length:=by rcases aS k (ah cid l rows).length with h'|h';{omega};rw[bZ h']at h;cases h
 have hl0:0<l.length:=by rcases Nat.eq_zero_or_pos l.length with h|h;{rw[h]at x2;omega};exact h
 have hi':k / l.length<rows.length:=(Nat.div_lt_iff_lt_mul hl0).2 x2;have hjj:k%l.length<l.length:=Nat.mod_lt _ hl0;have hkk:k=k / l.length*l.length+k%l.length:=by rw[Nat.mul_comm];exact(Nat.div_add_mod k l.length).symm
 have hrow:rows[k / l.length]? =some rows[k / l.length]:=bC hi';have hsj:l[k%l.length]? =some l[k%l.length]:=bC hjj;obtain⟨dd,hdd⟩:∃d,(rows[k / l.length])[k%l.length]? =some d:=⟨_,bC (by rw[(hr _ (List.getElem_mem hi')).1];exact hjj)⟩;have k1:=cu cid l rows (aH hr) (k / l.length) (k%l.length) _ hrow hjj;rw[←hkk,dj cid l _ _ _ _ hsj hdd,h]at k1;cases k1;exact zV (List.all_eq_true.1 hfl _ (List.getElem_mem hjj)) hz
theorem Ay{v:Val}{θ:Nat→Sx}{R:Nat}{φ ψ:PM}{w:World}{i j nv cid:Nat}{l:List Sh}{x y:Sx}{t:TypeId}(hfl:dp l=true)(hj:R≤j)(hm:ψ j nv=φ i 0)(hno:∀u,nv<u→ψ j u=none)
 (h:@Rep (v.at θ) R φ w i (some (.opq 2 0 cid (.slc l) x y [] t))):@Rep v R ψ w j (some (.opq 2 nv cid (.slc l) (x.sub θ) (y.sub θ) [] t)):=by
 obtain⟨l2,rows,hl,hx,hr,hor⟩:=h;simp only[Sh.slc.injEq]at hl;subst hl;refine⟨l,rows,rfl,(Sx.sub_dat v θ x).trans hx,hr,?_⟩;rcases hor with⟨h1,h2,h3,h4,h5⟩|⟨h1,⟨ex,g1,g2⟩,har⟩;{refine .inl ⟨(Sx.sub_dat v θ y).trans h1,h2,rfl,hj,fun u hu=> ?_⟩;by_cases h:u=nv;{subst h;rw[hm];exact h5 0 (aE _)};exact hno u (by omega)};refine .inr ⟨(Sx.sub_dat v θ y).trans h1,⟨ex,hm.trans g1,g2⟩,?_⟩;rw[List.append_nil]at har⊢;obtain⟨ex2,cs,fl,fh,q1,q2,q3,q4,q5,q6⟩:=@ez (v.at θ) R φ w _ _ _ _ _ _ har;rw[g1]at q1;cases q1;refine @ArrRep.single v R _ w j nv _ _ ex cs fl fh hj (hm.trans g1) hno q2 q3 q4 q5 fun k av x1 x2 x3=> ?_;obtain⟨z,z1,z2⟩:=q6 k av x1 x2 x3;exact⟨z,z1,yc hfl hr x3 z2⟩
theorem Tb{v:Val}{θ:Nat→Sx}{R:Nat}{φ ψ:PM}{w:World}{i j:Nat}{o:Ob}(ho:o.okRes=true)(hj:R≤j)(hm:ψ j 0=φ i 0)(hno:∀u,0<u→ψ j u=none)(h:@Rep (v.at θ) R φ w i (some o)):@Rep v R ψ w j (some (o.inst θ)):=by unfold Ob.okRes at ho;split at ho;{rename_i k ver cid l x y t;simp only[al]at ho;have:=ae ho.1;subst this;have:=ae ho.2.2.2;subst this;exact Ay ho.2.2.1 hj hm hno h};cases ho
theorem RR{v v':Val}{R:Nat}{C:Cfg}{D:Nat→Prop}{φ:PM}{σ:St}{w:World}(hi:@Inv v R C D φ σ w){L:Lin}{a:AV}{q:LR}(hq:pd σ L a=some q)(hd:D q.id)(hz0:∃z,@VR v φ a z)(hx:@Sx.dat v q.e=@Sx.dat v' L.x)(hy:@Sx.dat v q.y=@Sx.dat v' L.y):
 ∃lst:Option Ext,(∀e,lst=some e→(∃u f,φ q.id u=some f∧f.blk=e.blk)∧e.hi+e.up≤e.bsz+e.dn)∧(∀u,q.nv≤u→φ q.id u=none)∧
  ∀(ψ:PM) (j:Nat),R≤j→ψ j 0=lst→(∀u,0<u→ψ j u=none)→(∀x' z,@VR v φ a z→@VR v' ψ (.opq 2 j 0 (.slc L.l) x' L.y) z)∧@Rep v' R ψ w j (some (.opq 2 0 gid (.slc L.l) L.x L.y [] L.t)):=by
 obtain⟨hfl,h⟩:=mL hq;rcases h with⟨cap,c,base,lim,since,esz,len,rfl,ho,rfl,⟨hl0,hn0⟩,hlen,hfull,hcv,hy1,_⟩|⟨o,hoo,hol,hot,rfl⟩
 ·have hrep:=iX hi hd (CN hi ho);rw[ho]at hrep;obtain⟨hR',h1,h2,h3,h4,h5,h6,h7⟩:=hrep;have hal:dQ base since q.nv q.ver:=by
   rcases hfull with⟨h,_⟩|⟨ha,hb,_⟩;{exact .inl h};exact .inr ⟨hb,by omega⟩
  obtain⟨e,cs,fl,fh,he,hb,k1,k2,k3,k4,k5⟩:=h5 q.ver hal;have hlim:bJ base lim q.ver e=c.length:=(by rcases hfull with⟨ha,hb⟩|⟨ha,hb,hc⟩;{simp [bJ,ha,hb]};simp only[bJ,if_neg hc];exact h7 _ _ ha hb hc he);rw[hlim]at k2 k5;refine⟨some {e with hi:=c.length},fun e' he'=> ?_,h4,fun ψ j hj hψ hno=>⟨fun x' z hz=> ?_,?_⟩⟩;·cases he';have:=(dP hi).top _ _ _ he;exact⟨⟨q.ver,e,he,rfl⟩,by show c.length+e.up≤e.bsz+e.dn;omega⟩
  ·cases hz with
   |slc ex o cc g1 g2 g3 g4 g5 g6=>rw[he]at g1;cases g1;have hdn:e.dn=0:=(by omega);obtain⟨g7,g8⟩:=g6.resolve_left (by omega);have ho:o=e.up:=(by omega);subst ho;refine @VR.opq v' _ _ _ _ _ _ _ _ (.inr ⟨?_,L.l,_,cc,len,rfl,hψ,hdn,hlen,g4,g8,rfl⟩);rw[←hy,hy1];rfl
  have hdn:e.dn=0∨e.dn≠0:=(by omega);have htop:=(dP hi).top _ _ _ he;by_cases hdn:e.dn=0
  ·have hvrl:@VRL v φ c ((cs.toList.drop e.up).take c.length):=by
    refine @VRL.of_get v φ c _ (by simp;omega) fun k av z a1 a2=> ?_;have hk:k<c.length:=(by rcases aS k c.length with h|h;{exact h};rw[bZ h]at a1;cases a1);obtain⟨z',y1,y2⟩:=k5 k av (by omega) hk a1;rw[ij hk,fc,Array.getElem?_toList,show e.up+k=k+e.up - e.dn by omega,y1]at a2;cases a2;exact y2
   obtain⟨rows,r1,r2,r3,r4⟩:=@iJ v φ _ _ _ _ _ _ hcv hvrl;have hll:=au gid L.l rows (aH r3);refine⟨L.l,rows,rfl,by rw[←hx];exact r1,r3,.inr ⟨by rw[←hy,hy1];rfl,⟨_,hψ,?_⟩,?_⟩⟩;{rw[List.append_nil,hll,r2];exact hlen.symm};rw[List.append_nil];refine @ArrRep.single v' R _ w j 0 _ _ {e with hi:=c.length} cs fl fh hj hψ (fun u hu=>hno u hu) hb k1 (by rw[hll,r2,hlen];exact aE _) k4 fun k av x1 x2 x3=> ?_;obtain⟨z,y1,y2⟩:=@VRL.get v φ _ _ r4 _ _ x3;refine⟨z,?_,yc hfl r3 x3 y2⟩;have hk:k<c.length:=(by rw[hll,r2,hlen]at x2;exact x2);rw[ij hk,fc,Array.getElem?_toList]at y1;show cs[k+e.up - e.dn]? =some z;rw[show k+e.up - e.dn=e.up+k by omega];exact y1
  exfalso;obtain⟨z,hz⟩:=hz0;cases hz with
  |slc ex o cc g1 g2 g3 g4 g5 g6=>rw[he]at g1;cases g1;exact hdn (by omega)
 have hi0:=@Inv.inv0 v _ _ _ _ _ _ hi;obtain⟨z0,hz0⟩:=hz0;have hd:D o.id:=hd;have hx:@Sx.dat v o.x=@Sx.dat v' L.x:=hx;have hy:@Sx.dat v o.y=@Sx.dat v' L.y:=hy;obtain⟨rows,r1,r2,r3⟩:=@fP v R D φ σ w hi0 _ _ _ hoo hz0 hd;rcases r3 with⟨bb,_,y0,rfl,_,hno0⟩|⟨ex,cc,_,y1,hφ,hdn,hhi,hc,hbs,har⟩;{refine⟨none,fun e he=>(by cases he),fun u hu=>hno0 u (by have:o.ver+1≤u:=hu;omega),fun ψ j hj hψ hno=>⟨fun x' z hz=> ?_,?_⟩⟩;{obtain⟨rows2,_,_,k3⟩:=@fP v R D φ σ w hi0 _ _ _ hoo hz hd;rcases k3 with⟨b2,rfl,_⟩|⟨_,_,_,y1,_⟩;{exact @VR.opq v' _ _ _ _ _ _ _ _ (.inl ⟨hy.symm.trans y0,b2,rfl⟩)};rw[y0]at y1;cases y1};refine⟨L.l,[],rfl,hx.symm.trans r1,fun r hr=>(by cases hr),.inl ⟨hy.symm.trans y0,rfl,rfl,hj,fun u _=> ?_⟩⟩;by_cases hu:u=0;{subst hu;exact hψ};exact hno u (by omega)};have hnv:∀u,o.ver+1≤u→φ o.id u=none:=har.2.2.2.2.1;obtain⟨ex2,cs,fl,fh,q1,q2,q3,q4,q5,q6⟩:=@ez v R φ w _ _ _ _ _ _ har;rw[hφ]at q1;cases q1;have hll:=au o.cid o.l rows (aH r2);have htop:=(dP hi).top _ _ _ hφ;refine⟨some ex,fun e he=> ?_,hnv,fun ψ j hj hψ hno=>⟨fun x' z hz=> ?_,?_⟩⟩;{cases he;exact⟨⟨o.ver,ex,hφ,rfl⟩,htop⟩};{obtain⟨rows2,k1,_,k3⟩:=@fP v R D φ σ w hi0 _ _ _ hoo hz hd;rw[r1]at k1;simp only[Dat.lst.injEq]at k1;subst k1;rcases k3 with⟨_,_,y0,_⟩|⟨e3,c3,rfl,_,p1,p2,p3,p4,p5,_⟩;{rw[y1]at y0;cases y0};rw[hφ]at p1;cases p1;refine @VR.opq v' _ _ _ _ _ _ _ _ (.inr ⟨hy.symm.trans y1,L.l,ex,c3,rows.length,rfl,hψ,hdn,?_,p4,?_,rfl⟩);{rw[←hol];exact hhi.symm};rw[←hol];exact p5};have hfl':dp o.l=true:=by rw[hol];exact hfl
 rw[←hol,←hot];have hl2:=au gid o.l rows (aH r2);refine⟨o.l,rows,rfl,hx.symm.trans r1,r2,.inr ⟨hy.symm.trans y1,⟨ex,hψ,?_⟩,?_⟩⟩;{rw[List.append_nil,hl2];exact hhi};rw[List.append_nil];refine @ArrRep.single v' R _ w j 0 _ _ ex cs fl fh hj hψ (fun u hu=>hno u hu) q2 q3 (by rw[hl2,hhi];exact aE _) q5 fun k av x1 x2 x3=> ?_;rw[hl2]at x2;have hk:k<(ah o.cid o.l rows).length:=by rw[hll];exact x2
 obtain⟨z,z1,z2⟩:=q6 k _ x1 hk (bC hk);have hg:=@tC v v φ φ o.cid gid k o.l rows z hfl' r2 hk z2;obtain⟨av2,hav2,hz2⟩:=hg;rw[x3]at hav2;cases hav2;exact⟨z,z1,yc hfl' r2 x3 hz2⟩
theorem aX{v:Val}{φ:PM}{x a:AV}{z:Value}{bb:Bool}(h:(bif bb then some x else none)=some a)(hv:@VR v φ x z):∃z',@VR v φ a z':=by rw[ai]at h;split at h;{cases h;exact⟨z,hv⟩};cases h
mutual
theorem FQ{v:Val}{φ:PM}{lid:Nat}:∀{x p a:AV} {z:Value},dy lid x p=some a→@VR v φ x z→∃z',@VR v φ a z'
 | .agg l,p,a,z,h,hv=>by
  cases p<;>simp only[dy,reduceCtorEq]at h;cases hv with
  |agg l' g=>exact j5 h g
 | .tup l,p,a,z,h,hv=>by
  cases p<;>simp only[dy,reduceCtorEq]at h;cases hv with
  |tup l' g=>exact j5 h g
 | .sym ..,p,a,z,h,hv=>by cases p<;>simp only[dy,reduceCtorEq]at h;exact aX h hv
 | .symb ..,p,a,z,h,hv=>by cases p<;>simp only[dy,reduceCtorEq]at h;exact aX h hv
 | .vstr ..,p,a,z,h,hv=>by cases p<;>simp only[dy,reduceCtorEq]at h;exact aX h hv
 | .opq ..,p,a,z,h,hv=>by cases p<;>simp only[dy,reduceCtorEq]at h;exact aX h hv
 | .bool ..,p,a,z,h,hv=>by cases p<;>simp only[dy,reduceCtorEq]at h;exact aX h hv
 | .int ..,p,a,z,h,hv=>by cases p<;>simp only[dy,reduceCtorEq]at h;exact aX h hv
 | .str ..,p,a,z,h,hv=>by cases p<;>simp only[dy,reduceCtorEq]at h;exact aX h hv
 | .nilp,p,a,z,h,hv=>by cases p<;>simp only[dy,reduceCtorEq]at h;exact aX h hv
 | .nils,p,a,z,h,hv=>by cases p<;>simp only[dy,reduceCtorEq]at h;exact aX h hv
 | .nilm,p,a,z,h,hv=>by cases p<;>simp only[dy,reduceCtorEq]at h;exact aX h hv
 | .nilfn,p,a,z,h,hv=>by cases p<;>simp only[dy,reduceCtorEq]at h;exact aX h hv
 | .nili,p,a,z,h,hv=>by cases p<;>simp only[dy,reduceCtorEq]at h;exact aX h hv
 | .ptr ..,p,a,z,h,hv=>by cases p<;>simp only[dy,reduceCtorEq]at h;exact aX h hv
 | .slc ..,p,a,z,h,hv=>by cases p<;>simp only[dy,reduceCtorEq]at h;exact aX h hv
 | .map ..,p,a,z,h,hv=>by cases p<;>simp only[dy,reduceCtorEq]at h;exact aX h hv
 | .yld ..,p,a,z,h,hv=>by cases p<;>simp only[dy,reduceCtorEq]at h;exact aX h hv
 | .fn ..,p,a,z,h,hv=>by cases p<;>simp only[dy,reduceCtorEq]at h;exact aX h hv
 | .iface ..,p,a,z,h,hv=>by cases p<;>simp only[dy,reduceCtorEq]at h;exact aX h hv
 | .sslc ..,p,a,z,h,hv=>by cases p<;>simp only[dy,reduceCtorEq]at h;exact aX h hv
 | .sstr ..,p,a,z,h,hv=>by cases p<;>simp only[dy,reduceCtorEq]at h;exact aX h hv
 | .anyp,p,a,z,h,hv=>by cases p<;>simp only[dy,reduceCtorEq]at h;exact aX h hv
 | .unk,p,a,z,h,hv=>by cases p<;>simp only[dy,reduceCtorEq]at h;exact aX h hv
theorem j5{v:Val}{φ:PM}{lid:Nat}:∀{x p:List AV} {a:AV} {z:List Value},lv lid x p=some a→@VRL v φ x z→∃z',@VR v φ a z'
 |[],p,a,z,h,hv=>by cases p<;>simp [lv]at h
 |y::l,p,a,z,h,hv=>by
  cases p<;>simp only[lv,reduceCtorEq]at h;cases hv with
  |cons g1 g2=>split at h;{rename_i a' ha;cases h;exact FQ ha g1};exact j5 h g2
end
theorem MU{v v':Val}{R:Nat}{C:Cfg}{D:Nat→Prop}{φ:PM}{σ:St}{w:World}(hi:@Inv v R C D φ σ w){c:Con}{args:List AV}{zs:List Value}{q:Option LR}{lk:Option LA}{e0:bS}(h:tc R c args σ=some (q,lk,e0))(he:EqsOk v v' e0)(ha:@VRL v φ args zs)(hd:∀i∈LR.ids q,i<σ.next→D i):
 ∃lst:Option Ext,(∀e,lst=some e→(∃i∈LR.ids q,∃u f,φ i u=some f∧f.blk=e.blk)∧e.hi+e.up≤e.bsz+e.dn)∧(∀q',q=some q'→q'.id<σ.next∧D q'.id∧(∀u,q'.nv≤u→φ q'.id u=none)∧(∀c t,σ.heap.get q'.id≠some (.box c t))∧∃L,c.lin=some L∧dp L.l=true)∧(c.lin=none→lst=none∧q=none)∧
  (∀(ψ:PM),ψ (R+c.bin.length) 0=lst→(∀u,0<u→ψ (R+c.bin.length) u=none)→
    (∀qa,lk=some qa→∀x' z,@VR v φ qa.act z→@VR v' ψ (.opq 2 qa.lid 0 (.slc qa.l) x' qa.y) z)∧(∀L,c.lin=some L→@Rep v' R ψ w (R+c.bin.length) (some (.opq 2 0 gid (.slc L.l) L.x L.y [] L.t)))):=by
 rcases pb h with⟨h1,rfl,rfl,rfl⟩|⟨L,a,q',h1,rfl,rfl,rfl,hq,hat⟩;{exact⟨none,fun e he=>(by cases he),fun q' hq'=>(by cases hq'),fun _=>⟨rfl,rfl⟩,fun ψ _ _=>⟨fun qa hqa=>(by cases hqa),fun L hL=>(by rw[h1]at hL;cases hL)⟩⟩};obtain⟨o,ho,hnb⟩:=td hq;have hlt:=CN hi ho;have hdd:=hd q'.id (by simp [LR.ids]) hlt;obtain⟨lst,k1,k2,k3⟩:=RR hi hq hdd (j5 hat ha) (he (q'.e,L.x) (by simp)) (he (q'.y,L.y) (by simp));refine⟨lst,fun e he=> ?_,fun q2 hq2=> ?_,fun hn=>(by rw[h1]at hn;cases hn),fun ψ hψ hno=> ?_⟩;{obtain⟨⟨u,f,g1,g2⟩,g3⟩:=k1 e he;exact⟨⟨q'.id,by simp [LR.ids],u,f,g1,g2⟩,g3⟩};{cases hq2;refine⟨hlt,hdd,k2,fun c t hc=> ?_,L,h1,(mL hq).1⟩;rw[ho]at hc;simp only[aw]at hc;exact hnb c t hc};obtain⟨g1,g2⟩:=k3 ψ (R+c.bin.length) (Nat.le_add_right _ _) hψ hno;refine⟨fun qa hqa=> ?_,fun L' hL'=> ?_⟩;{cases hqa;exact g1};rw[h1]at hL';cases hL';exact g2
theorem UI{v:Val}{R:Nat}{φ:PM}{w:World}{i:Nat}{o:Ob}(ho:o.okRes=true)(h:@Rep v R φ w i (some o)):∀u,0<u→φ i u=none:=by intro u hu;unfold Ob.okRes at ho;split at ho;{rename_i k ver cid l x y t;simp only[al]at ho;have:=ae ho.1;subst this;have:=ae ho.2.1;subst this;have:=ae ho.2.2.2;subst this;obtain⟨l2,rows,hl,hx,hr,hor⟩:=h;rcases hor with⟨_,_,_,_,h5⟩|⟨_,_,har⟩;{exact h5 u (bP _)};exact har.2.2.2.2.1 u hu};cases ho
theorem Fm{θ:Nat→Sx}{q:LR}{L:Lin}{h:T Ob}:(oX θ (some q) (some L) h).get q.id=some (.opq 2 q.nv gid (.slc L.l) (L.ox.sub θ) (L.oy.sub θ) [] L.t):=T.get_set_same _ _ _
def LR.at(q:Option LR)(i u:Nat):Prop:=∃q',q=some q'∧i=q'.id∧u=q'.nv
theorem LR.at_ids{q:Option LR}{i u:Nat}(h:LR.at q i u):i∈LR.ids q:=by obtain⟨q',rfl,rfl,_⟩:=h;simp [LR.ids]
open Classical in
theorem ot{v:Val}{F:Nat→Dat→Dat→Dat→Dat}{P:Program}{gl:Nat→Option Nat}{b:bK}{R:Nat}{p:bo}{cons:List Con}(hb:BaseOk gl b R)(hp:@Holds v p)(hF:v.fn=F)(hcs:∀c∈cons,c.Sound F P gl b R):
 @kI v P R (bX gl b p (gV R (eW p) cons)):=by
 intro f args σ D φ w args' hi ha;refine⟨fun x σ' hret hkn hfr=> ?_,fun ch σ' hret=> ?_⟩
 ·have hret:gV R (eW p) cons f args σ=.ret x σ':=hret;rcases pP (R:=R) (dec:=eW p) (l:=cons) (f:=f) (args:=args) (σ:=σ)with h|⟨c,hc,rfl,h1,h2⟩;{rw[h]at hret;cases hret};obtain⟨ids,q,lk,e0,e,rd,e2,rd2,l,g0,hnd,hnx,k1,k1',k2,k3,k4,k5,hlq,k6⟩:=try_ret h1;rw[h2,k6]at hret;obtain⟨hbl,hbk⟩:=qy k1';have hboxed:∀i∈ids,R≤i∧∃c t,σ.heap.get i=some (.box c t):=fun i hi'=>by
   obtain⟨k,hk,rfl⟩:=List.getElem_of_mem hi';obtain⟨g1,c2,b2,_,_,_,g3,_⟩:=hbk k _ (bC hk);exact⟨g1,c2,_,g3⟩
  simp only[Con.ret,CR.ret.injEq]at hret;obtain⟨rfl,rfl⟩:=hret;generalize hθ:nameAt l=θ at*;have heq:EqsOk v (v.at θ) (e0++(e++e2)):=s5 hθ k2;have hrdk:∀i∈ids.take c.nr++(rd++rd2),i<σ.next→D i:=fun i hi' hn=>hkn i (.inl (ly _ σ i hi')) hn;have hwrk:∀i∈ids.drop c.nr++LR.ids q,i<σ.next→D i:=fun i hi' hn=>hkn i (.inr ((jz _ _ _).2 (.inl hi'))) hn;obtain⟨lst,hl1,hl2,hl3,hl4⟩:=MU (v':=v.at θ) hi g0 heq.app.1 ha fun i hi' hn=>hwrk i (List.mem_append_right _ hi') hn;have hgR:=hb.gid_lt;have hnb:ids.length=c.bin.length:=hbl;have hcl0:bB φ R w ids lst (R+c.bin.length) 0=lst:=(by have hg:R+c.bin.length≠gid:=(by omega);have hn:¬R+c.bin.length<R:=(by omega);simp [bB,hg,hn,hnb]);have hclu:∀u,0<u→bB φ R w ids lst (R+c.bin.length) u=none:=fun u hu=>(by have hg:R+c.bin.length≠gid:=(by omega);have hn:¬R+c.bin.length<R:=(by omega);have hu:¬u=0:=(by omega);simp [bB,hg,hn,hu]);obtain⟨hlk,hlin⟩:=hl4 (bB φ R w ids lst) hcl0 hclu;have hlsR:∀e,lst=some e→∃i u f,R≤i∧i∈LR.ids q∧φ i u=some f∧f.blk=e.blk:=fun e he=>(by obtain⟨⟨i,h1,u,f,h2,h3⟩,_⟩:=hl1 e he;exact⟨i,u,f,(hlq i h1).1,h1,h2,h3⟩);have hnbx:∀i∈LR.ids q,i∉ids:=fun i hi' hm=>by
   obtain⟨_,c2,t2,h⟩:=hboxed i hm;cases q with
   |none=>cases hi'
   |some q'=>simp only[LR.ids,oC]at hi';subst hi';exact(hl2 q' rfl).2.2.2.1 c2 t2 h
  have hLst:LstOk R φ ids lst:=fun e he=>(by obtain⟨⟨i,h1,u,f,h2,h3⟩,h4⟩:=hl1 e he;exact⟨⟨i,u,f,(hlq i h1).1,hnbx i h1,h2,h3⟩,h4⟩);have hrd':∀i∈rd++rd2,i∉LR.ids q∧(i<σ.next→D i):=fun i hi'=>⟨fun hm=>(hlq i hm).2 hi',fun hn=>hrdk i (List.mem_append_right _ hi') hn⟩;have hargs:@VRL (v.at θ) (bB φ R w ids lst) c.args args'.toList:=xh hb hi hboxed hlsR hlk k1 heq.app.2.app.1 ha fun i hi'=>hrd' i (by simp [hi']);simp only[Con.ok,al]at k5;obtain⟨k5,k5a,k5b,⟨k5c,k5M⟩,k5d,k5e⟩:=k5;have k5M:=aR k5M;have hpinN:cK c.bin.length=c.bin.length:=Nat.mod_eq_of_lt k5M;have k5a:=List.all_eq_true.1 k5a;have k5b:=ae k5b;have k5c:=aB k5c;have k5d:=List.all_eq_true.1 k5d;have k5e:c.nl=0∨c.objs.length=0:=(by simp only[dH]at k5e;exact k5e.imp ae ae);have hnl:c.objs.length≠0→lst=none∧q=none:=fun h=>hl3 (by
   have h0:=k5e.resolve_right h;cases hL:c.lin with
   |none=>rfl
   |some L=>simp [Con.nl,hL]at h0)
  have hwf:=dP hi;have hlt:∀i∈ids,i<σ.next:=fun i hi'=>(by obtain⟨_,c2,t2,h⟩:=hboxed i hi';exact CN hi h);have hidsD:∀i∈ids,D i:=fun i hi'=>(by rw[←List.take_append_drop c.nr ids]at hi';rcases List.mem_append.1 hi' with h|h;{exact hrdk i (by simp [h]) (hlt i (List.mem_of_mem_take h))};exact hwrk i (by simp [h]) (hlt i (List.mem_of_mem_drop h)));have hbrep:∀(k i:Nat),ids[k]? =some i→∃q,c.bin[k]? =some q∧@Rep (v.at θ) R (bB φ R w ids lst) w (R+k) (some (.box q.1 q.2)):=fun k i hk=>(by obtain⟨g1,c2,b2,e',rd',g2,g3,g4,g5,g6⟩:=hbk k i hk;have hm:=eQ hk;have hr:=iX hi (hidsD i hm) (hlt i hm);rw[g3]at hr;obtain⟨hR,ex,cs,fl,fh,q1,q2,q3,q4,q5,q6,q7,q8⟩:=hr;have hvr:@VRL (v.at θ) (bB φ R w ids lst) b2.1 cs.toList:=xh hb hi hboxed hlsR (lk:=none) (fun _ h=>(by cases h)) g4 (fun z hz=>heq.app.2.app.2 z (g5 z hz)) q7 fun j hj=>hrd' j (by simp [g6 j hj]);have hl1:=@VRL.length (v.at θ) _ _ _ hvr;have hl2:=@VRL.length v _ _ _ q7;have hll:b2.1.length=c2.length:=(by omega);refine⟨b2,g2,by omega,ex,cs,fl,fh,?_,q2,q3,q4,by rw[hll];exact q5,by rw[hll];exact q6,hvr,by rw[hll];exact q8⟩;have hg:R+k≠gid:=(by omega);have hn:¬R+k<R:=(by omega);have hkl:k<ids.length:=(by rcases aS k ids.length with h|h;{exact h};rw[bZ h]at hk;cases hk);have hne:¬R+k=R+ids.length:=(by omega);simp only[bB,if_neg hg,if_neg hn,if_true,if_neg hne,Nat.add_sub_cancel_left,hk];exact q1);refine(hcs c hc (v.at θ) hF (qf hp k4) w (bB φ R w ids lst) args' (Gr hb hi _ hnd hbl (fun i hi'=>(hboxed i hi').1) hLst (fun h=>(hl3 h).1) hbrep hlin) hargs).mono fun e' w' qq=> ?_;obtain⟨φ1,y,rfl,hy,htr,hwf1,hob,hbo,hlo⟩:=qq;let N:=R+c.bin.length+c.nl;have hN:N=R+c.bin.length+c.nl:=rfl;let d:=σ.next - N;have hd:d=σ.next - N:=rfl;have hid:R+c.bin.length+c.nl≤σ.next:=hnx;let ψ:PM:=fun i u=>if σ.next≤i∧i<σ.next+c.objs.length then φ1 (i - d) u else if LR.at q i u then φ1 (R+c.bin.length) 0 else φ i u
  have hqlt:∀i∈LR.ids q,i<σ.next∧D i:=fun i hi'=>by
   cases q with
   |none=>cases hi'
   |some q'=>simp only[LR.ids,oC]at hi';subst hi';exact⟨(hl2 q' rfl).1,(hl2 q' rfl).2.1⟩
  have hatn:∀i u,LR.at q i u→∀t,u≤t→φ i t=none:=fun i u h t ht=>(by obtain⟨q',rfl,rfl,rfl⟩:=h;exact(hl2 q' rfl).2.2.1 t ht);have hold:∀i u,i<σ.next→i∉LR.ids q→ψ i u=φ i u:=fun i u hi hq=>(by have h1:¬(σ.next≤i∧i<σ.next+c.objs.length):=(by omega);have h2:¬LR.at q i u:=fun h=>hq (LR.at_ids h);simp [ψ,h1,h2]);have hnew:∀i,N≤i→i<N+c.objs.length→∀u,ψ (i+d) u=φ1 i u:=fun i h1 h2 u=>(by have h3:σ.next≤i+d∧i+d<σ.next+c.objs.length:=(by omega);have h4:i+d - d=i:=(by omega);simp [ψ,h3,h4]);have hboxφ:∀(k i:Nat),ids[k]? =some i→bB φ R w ids lst (R+k) 0=φ i 0:=fun k i hk=>(by have hg:R+k≠gid:=(by omega);have hn:¬R+k<R:=(by omega);have hkl:k<ids.length:=(by rcases aS k ids.length with h|h;{exact h};rw[bZ h]at hk;cases hk);have hne:¬R+k=R+ids.length:=(by omega);simp only[bB,if_neg hg,if_neg hn,if_true,if_neg hne,Nat.add_sub_cancel_left,hk]);have hown:∀j u f,R≤j→bB φ R w ids lst j u=some f→(∃k i,ids[k]? =some i∧j=R+k∧u=0∧φ i 0=some f)∨(j=R+c.bin.length∧lst=some f):=fun j u f hj hf=>(by rcases cI hb hf with⟨rfl,_⟩|⟨h1,_⟩|⟨h1,h2,id,h3,h4⟩|⟨h1,_,h2⟩;{omega};{omega};{exact .inl ⟨j - R,id,h3,by omega,h2,h4⟩};exact .inr ⟨by omega,h2⟩);have hkeep:∀bb,bb<w.heap.size→(∀i∈ids,∀f,φ i 0=some f→f.blk≠bb)→(∀i∈LR.ids q,∀u f,φ i u=some f→f.blk≠bb)→w'.heap[bb]? =w.heap[bb]? :=fun bb hbb hne hne2=>htr.keep bb hbb fun j u f hRj hf=>(by rcases hown j u f hRj hf with⟨k,i,h1,_,_,h4⟩|⟨_,h4⟩;{exact hne i (eQ h1) f h4};obtain⟨⟨i,g1,u',f',g2,g3⟩,_⟩:=hl1 f h4;rw[←g3];exact hne2 i g1 u' f' g2);have hkl:∀(k i:Nat),ids[k]? =some i→k<ids.length:=fun k i hk=>(by rcases aS k ids.length with h|h;{exact h};rw[bZ h]at hk;cases hk);have hpin:∀(k i:Nat) (f:Ext),ids[k]? =some i→φ i 0=some f→φ1 (R+k) 0=some f:=fun k i f hk hf=>(by have:=hkl k i hk;exact htr.pin (R+k) f (by omega) (by rw[hpinN];omega) ((hboxφ k i hk).trans hf));have hro:∀(k i:Nat) (f:Ext),ids[k]? =some i→k<c.nr→φ i 0=some f→w'.heap[f.blk]? =w.heap[f.blk]? :=fun k i f hk hkn hf=>
   htr.ro (R+k) f (by omega) (by omega) ((hboxφ k i hk).trans hf)
  have hboxsome:∀i∈ids,∃f,φ i 0=some f:=fun i hi'=>(by obtain⟨_,c2,t2,h⟩:=hboxed i hi';have hr:=iX hi (hidsD i hi') (hlt i hi');rw[h]at hr;obtain⟨_,ex,_,_,_,q1,_⟩:=hr;exact⟨ex,q1⟩);have hblk:∀i u f,R+c.bin.length≤i→φ1 i u=some f→(∃j∈LR.ids q,∃t g,lst=some f∨φ j t=some g∧g.blk=f.blk)∧lst≠none∨w.heap.size≤f.blk:=fun i u f hRi hf=>(by rcases htr.own i u f (by omega) hf with⟨j,t,g,h1,h2,h3,_⟩|h;{rcases hown j t g h1 h2 with⟨k,id,g1,g2,g3,g4⟩|⟨_,g4⟩;{exfalso;have hp:=hpin k id g g1 g4;have:=hkl k id g1;rcases hwf1.inj _ _ _ _ _ _ hp hf h3 with h|h<;>omega};obtain⟨⟨id,q1,u',f',q2,q3⟩,_⟩:=hl1 g g4;exact .inl ⟨⟨id,q1,u',f',.inr ⟨q2,q3.trans h3⟩⟩,by rw[g4];exact fun h=>by cases h⟩};exact .inr h);have hfresh:∀i u f,N≤i→i<N+c.objs.length→φ1 i u=some f→w.heap.size≤f.blk:=fun i u f hRi hRi2 hf=>(by rcases hblk i u f (by omega) hf with⟨_,h⟩|h;{exact absurd (hnl (by omega)).1 h};exact h);have hlist:∀f,φ1 (R+c.bin.length) 0=some f→(∃j∈LR.ids q,∃t g,φ j t=some g∧g.blk=f.blk)∨w.heap.size≤f.blk:=fun f hf=>(by rcases hblk _ _ f (aE _) hf with⟨⟨j,h1,t,g,h2⟩,_⟩|h;{rcases h2 with h2|h2;{obtain⟨⟨id,q1,u',f',q2,q3⟩,_⟩:=hl1 f h2;exact .inl ⟨id,q1,u',f',q2,q3⟩};exact .inl ⟨j,h1,t,g,h2⟩};exact .inr h);have hψ:∀i u f,ψ i u=some f→(φ i u=some f)∨(σ.next≤i∧i<σ.next+c.objs.length∧φ1 (i - d) u=some f∧N≤i - d∧i - d<N+c.objs.length)∨(LR.at q i u∧φ1 (R+c.bin.length) 0=some f):=fun i u f hf=>(by by_cases h:σ.next≤i∧i<σ.next+c.objs.length;{simp only[ψ,h,and_self,if_true]at hf;exact .inr (.inl ⟨h.1,h.2,hf,by omega,by omega⟩)};simp only[ψ,h,if_false]at hf;by_cases h2:LR.at q i u;{simp only[h2,if_true]at hf;exact .inr (.inr ⟨h2,hf⟩)};simp only[h2,if_false]at hf;exact .inl hf);have hle:φ.le ψ:=fun i u f hf=>(by by_cases h:σ.next≤i∧i<σ.next+c.objs.length;{have:=hfr i h.1 h.2 u;rw[this]at hf;cases hf};by_cases h2:LR.at q i u;{rw[hatn i u h2 u (aE _)]at hf;cases hf};simp [ψ,h,h2,hf]);have hlkok:Tn (R+c.bin.length) (R+c.bin.length+c.nl+c.objs.length) d (c.lkOf R q) φ1 ψ:=fun i e h1 h2 he=>by
   cases q with
   |none=>have hnl0:c.nl=0:=(by rcases pb g0 with⟨h,_⟩|⟨_,_,_,_,h,_⟩;{simp [Con.nl,h]};cases h);exact(hnew i (by omega) (by omega) 0).trans he
   |some q'=>obtain⟨L,hL,_⟩:=(hl2 q' rfl).2.2.2.2;have hnl1:c.nl=1:=(by simp [Con.nl,hL]);dsimp only[Con.lkOf];split;{rename_i hq';have h1:¬(σ.next≤q'.id∧q'.id<σ.next+c.objs.length):=(by have:=(hl2 q' rfl).1;omega);have h2:LR.at (some q') q'.id q'.nv:=⟨q',rfl,rfl,rfl⟩;simp only[ψ,h1,h2,if_true,if_false];rw[←hq'];exact he};exact(hnew i (by omega) (by omega) 0).trans he
  have hinst:∀{l:List AV} {l':List Value},mJ (R+c.bin.length) (R+c.bin.length+c.nl+c.objs.length) l=true→@VRL (v.at θ) φ1 l l'→@VRL v ψ (qt θ d (c.lkOf R q) l) l':=fun h1 h2=>
   nU hlkok h1 h2
  refine⟨ψ,y,rfl,D7 hlkok k5 hy,?_⟩;have hlg:=aY (ids.take c.nr++(rd++rd2)) σ;have hwr:∀i,i∈uH (ids.drop c.nr++LR.ids q) σ.wr↔(i∈ids.drop c.nr∨i∈LR.ids q)∨i∈σ.wr:=fun i=>(by rw[jz,Tt]);exact{
   le:=hle
   grow:=fun i hx hn u=>by have hn:¬(σ.next≤i∧i<σ.next+c.objs.length):=hn;have h2:¬LR.at q i u:=fun h=>(by rcases hx with h'|h';{exact h' ((hwr i).2 (.inl (.inr (LR.at_ids h))))};have h':σ.next+c.objs.length≤i:=h';have:=(hqlt i (LR.at_ids h)).1;omega);simp [ψ,hn,h2]
   wrR:=fun i hi'=>by rcases(hwr i).1 hi' with(h|h)|h;{exact .inr (hboxed i (List.mem_of_mem_drop h)).1};{exact .inr (hlq i h).1};exact .inl h
   wf:=by
    have one:∀i u f j t g,LR.at q i u→φ1 (R+c.bin.length) 0=some f→φ j t=some g→f.blk=g.blk→i=j:=fun i u f j t g h1 h2 h3 h4=>by
     rcases hlist f h2 with⟨j',k1,t',g',k2,k3⟩|h
     ·have hj':j'=i:=by
       obtain⟨q',rfl,rfl,_⟩:=h1;simpa[LR.ids]using k1
      subst hj';rcases hwf.inj _ _ _ _ _ _ k2 h3 (k3.trans h4)with h|h;{exact h};have:=(hlq _ k1).1;omega
     have:=hwf.lt _ _ _ h3;omega
    refine⟨fun i u f j t g hf hg hbk=> ?_,fun i u f hf=> ?_,fun i u f hf=> ?_⟩;{rcases hψ _ _ _ hf with h1|⟨a1,a2,a3,a4,a5⟩|⟨a1,a2⟩;{rcases hψ _ _ _ hg with h2|⟨b1,b2,b3,b4,b5⟩|⟨b1,b2⟩;{exact hwf.inj _ _ _ _ _ _ h1 h2 hbk};{have:=hwf.lt _ _ _ h1;have:=hfresh _ _ _ b4 b5 b3;omega};exact .inl (one _ _ _ _ _ _ b1 b2 h1 hbk.symm).symm};{rcases hψ _ _ _ hg with h2|⟨b1,b2,b3,b4,b5⟩|⟨b1,b2⟩;{have:=hwf.lt _ _ _ h2;have:=hfresh _ _ _ a4 a5 a3;omega};{rcases hwf1.inj _ _ _ _ _ _ a3 b3 hbk with h|h;{exact .inl (by omega)};omega};obtain⟨q',rfl,_⟩:=b1;exact absurd (hnl (by omega)).2 (fun h=>by cases h)};rcases hψ _ _ _ hg with h2|⟨b1,b2,b3,b4,b5⟩|⟨b1,b2⟩;{exact .inl (one _ _ _ _ _ _ a1 a2 h2 hbk)};{obtain⟨q',rfl,_⟩:=a1;exact absurd (hnl (by omega)).2 (fun h=>by cases h)};obtain⟨q',rfl,rfl,_⟩:=a1;obtain⟨q2,h,rfl,_⟩:=b1;simp only[aw]at h;subst h;exact .inl rfl};{rcases hψ _ _ _ hf with h1|⟨a1,a2,a3,a4⟩|⟨a1,a2⟩;{exact Nat.lt_of_lt_of_le (hwf.lt _ _ _ h1) htr.size};{exact hwf1.lt _ _ _ a3};exact hwf1.lt _ _ _ a2};rcases hψ _ _ _ hf with h1|⟨a1,a2,a3,a4⟩|⟨a1,a2⟩;{exact hwf.top _ _ _ h1};{exact hwf1.top _ _ _ a3};exact hwf1.top _ _ _ a2
   blk:=fun i u f hf=>by
    rcases hψ _ _ _ hf with h1|⟨a1,a2,a3,a4,a5⟩|⟨a1,a2⟩;{exact .inl ⟨u,f,h1,rfl⟩};{exact .inr (hfresh _ _ _ a4 a5 a3)};rcases hlist f a2 with⟨j,k1,t,g,k2,k3⟩|h
    ·have hj:j=i:=by
      obtain⟨q',rfl,rfl,_⟩:=a1;simpa[LR.ids]using k1
     subst hj;exact .inl ⟨t,g,k2,k3⟩
    exact .inr h
   rep:=fun i hi'=>by
    show @Rep v R ψ w' i ((lJ θ c.objs σ.next (oX θ q c.lin (gK θ d (c.lkOf R q) (ids.drop c.nr) (c.bout.drop c.nr) (c.bin.drop c.nr) σ.heap))).get i);rw[mW];rcases hi' with⟨hdd,hn⟩|⟨h1,h2⟩
    ·rw[if_neg (by omega)];by_cases hql:i∈LR.ids q
     ·cases hqq:q with
      |none=>rw[hqq]at hql;cases hql
      |some q'=>subst hqq;simp only[LR.ids,oC]at hql;subst hql;obtain⟨L,hL,hfl⟩:=(hl2 q' rfl).2.2.2.2;rw[hL,Fm];refine Ay hfl (hlq _ (by simp [LR.ids])).1 ?_ (fun u hu=> ?_) (hlo L hL);{have h1:¬(σ.next≤q'.id∧q'.id<σ.next+c.objs.length):=(by omega);have h2:LR.at (some q') q'.id q'.nv:=⟨q',rfl,rfl,rfl⟩;simp only[ψ,h1,h2,if_true,if_false]};have h1:¬(σ.next≤q'.id∧q'.id<σ.next+c.objs.length):=(by omega);have h2:¬LR.at (some q') q'.id u:=fun⟨q2,h,_,h3⟩=>(by simp only[aw]at h;subst h;omega);simp only[ψ,h1,h2,if_false];exact(hl2 q' rfl).2.2.1 u (by omega)
     rw[sS _ _ _ _ _ hql];by_cases hmem:i∈ids.drop c.nr;{obtain⟨k,hk,hki⟩:=List.getElem_of_mem hmem;have hk':(ids.drop c.nr)[k]? =some i:=(by rw[bC hk,hki]);have hk'':ids[c.nr+k]? =some i:=(by rw[fc]at hk';exact hk');have hkl:=hkl _ _ hk'';have hbk1:c.bout[c.nr+k]? =some c.bout[c.nr+k]:=bC (by omega);have hbk2:c.bin[c.nr+k]? =some c.bin[c.nr+k]:=bC (by omega);have hnd2:nodupB (ids.drop c.nr)=true:=Cb hnd c.nr;rw[zw θ d _ _ _ _ _ k i _ _ hnd2 hk' (by rw[fc];exact hbk1) (by rw[fc];exact hbk2)];have hr:=hbo (c.nr+k) _ _ hbk1 hbk2;obtain⟨hR,ex,cs,fl,fh,q1,q2,q3,q4,q5,q6,q7,q8⟩:=hr;obtain⟨f,hf⟩:=hboxsome i (List.mem_of_mem_drop hmem);have:=hpin _ _ f hk'' hf;rw[this]at q1;simp only[aw]at q1;subst q1;have hok:=k5d _ (eQ (show(c.bout.drop c.nr)[k]? =_ by rw[fc];exact hbk1));have hvr:=hinst hok q7;have hl1:=@VRL.length v _ _ _ hvr;have hl2:=@VRL.length (v.at θ) _ _ _ q7;have hll:(qt θ d (c.lkOf R q) c.bout[c.nr+k]).length=c.bout[c.nr+k].length:=(by omega);exact⟨(hboxed i (List.mem_of_mem_drop hmem)).1,f,cs,fl,fh,(hold i 0 hn hql).trans hf,q2,q3,q4,by rw[hll];exact q5,by rw[hll];exact q6,hvr,by rw[hll];exact q8⟩};rw[jY _ _ _ _ _ _ _ _ hmem];refine @Rep.frame v R φ ψ w w' i _ hle (fun u=>hold i u hn hql) (fun u f hf=> ?_) (iX hi hdd hn);by_cases hin:∃j∈ids,∃g,φ j 0=some g∧g.blk=f.blk;{obtain⟨j,hj,g,hg,hgb⟩:=hin;obtain⟨k,hk,rfl⟩:=List.getElem_of_mem hj;have hk':ids[k]? =some ids[k]:=bC hk;by_cases hkn:k<c.nr;{rw[←hgb];exact hro k _ g hk' hkn hg};exfalso;have hjd:ids[k]∈ids.drop c.nr:=eQ (show(ids.drop c.nr)[k - c.nr]? =some ids[k] by rw[fc,show c.nr+(k - c.nr)=k by omega];exact hk');rcases hwf.inj _ _ _ _ _ _ hg hf hgb with h|h;{rw[h]at hjd;exact hmem hjd};have:=(hboxed _ hj).1;omega};refine hkeep _ (hwf.lt _ _ _ hf) (fun j hj g hg hgb=>hin ⟨j,hj,g,hg,hgb⟩) fun j hj t g hg hgb=> ?_;rcases hwf.inj _ _ _ _ _ _ hg hf hgb with h|h;{rw[h]at hj;exact hql hj};have:=(hlq _ hj).1;omega
    have h2:i<σ.next+c.objs.length:=h2;rw[if_pos ⟨h1,h2⟩];have hk:i - σ.next<c.objs.length:=(by omega);rw[bC hk];have hrep:=hob (i - σ.next) _ (bC hk);have hlow:=Ni hi;have hok:=k5a _ (List.getElem_mem hk);have hpm:∀u,ψ i u=φ1 (R+c.bin.length+c.nl+(i - σ.next)) u:=fun u=>(by have:=hnew (N+(i - σ.next)) (by omega) (by omega) u;rw[show N+(i - σ.next)+d=i by omega]at this;exact this);exact Tb hok (by omega) (hpm 0) (fun u hu=>(hpm u).trans (UI hok hrep u hu)) hrep
   frm:=⟨htr.size,fun bb hbb hne=>by by_cases hin:∃j∈ids,∃g,φ j 0=some g∧g.blk=bb;{obtain⟨j,hj,g,hg,hgb⟩:=hin;obtain⟨k,hk,rfl⟩:=List.getElem_of_mem hj;have hk':ids[k]? =some ids[k]:=bC hk;by_cases hkn:k<c.nr;{rw[←hgb];exact hro k _ g hk' hkn hg};exfalso;have hjd:ids[k]∈ids.drop c.nr:=eQ (show(ids.drop c.nr)[k - c.nr]? =some ids[k] by rw[fc,show c.nr+(k - c.nr)=k by omega];exact hk');exact hne _ ((hwr _).2 (.inl (.inl hjd))) 0 g hg hgb};exact hkeep bb hbb (fun j hj g hg hgb=>hin ⟨j,hj,g,hg,hgb⟩) fun j hj t g hg hgb=>hne _ ((hwr _).2 (.inl (.inr hj))) t g hg hgb,htr.os,htr.out,htr.tape⟩}
 exfalso;have hret:gV R (eW p) cons f args σ=.pan ch σ':=hret;rcases pP (R:=R) (dec:=eW p) (l:=cons) (f:=f) (args:=args) (σ:=σ)with h|⟨c,hc,_,h1,h2⟩;{rw[h]at hret;cases hret};obtain⟨ids,q,lk,e0,e,rd,e2,rd2,l,_,_,_,_,_,_,_,_,_,_,k6⟩:=try_ret h1;rw[h2,k6]at hret;simp [Con.ret]at hret
end Go.Tw
namespace Go.Tw
open Go.ChangeShapes Go.RowKit
noncomputable def Fv:List Ob→Nat→List (Nat×Ob)
 |[],_=>[]
 |o::l,i=>(i,o)::Fv l (i+1)
noncomputable def pW:List (List AV×TypeId)→List (List AV)→List (List AV×TypeId)
 |q::l,c::m=>(c,q.2)::pW l m
 |_,_=>[]
noncomputable def Jw(L:Option Lin)(i:Nat):List (Nat×Ob):=match L with
 |some L=>[(i,.opq 2 0 gid (.slc L.l) L.ox L.oy [] L.t)]
 |none=>[]
noncomputable def Con.out(R:Nat)(c:Con):List (Nat×Ob):=AU (pW c.bin c.bout) R++(Jw c.lin (R+c.bin.length)++Fv c.objs (R+c.bin.length+c.nl))
theorem vu(b:bK)(L:Option Lin)(k i:Nat):(br b (Jw L k)).get i=(match L with
 |some L=>if i=k then some (.opq 2 0 gid (.slc L.l) L.ox L.oy [] L.t)else b.get i
 |none=>b.get i):=by
 cases L with
 |none=>rfl
 |some L=>simp only[Jw,br];rw[T.get_set]
theorem Jh(b:bK):∀(l:List Ob) (k i:Nat),(br b (Fv l k)).get i=if k≤i∧i<k+l.length then l[i - k]? else b.get i:=by
 intro l
 induction l with
 |nil=>intro k i;simp [Fv,br];omega
 |cons q l ih=>intro k i;simp only[Fv,br];rw[T.get_set,ih];by_cases h1:i=k;{subst h1;rw[if_pos rfl,if_pos (by simp),Nat.sub_self];rfl};rw[if_neg h1];by_cases h2:k+1≤i∧i<k+1+l.length;{rw[if_pos h2,if_pos (by simp;omega),show i - k=(i - (k+1))+1 by omega,List.getElem?_cons_succ]};rw[if_neg h2,if_neg (by simp;omega)]
theorem De:∀{l:List (List AV×TypeId)} {m:List (List AV)} {k:Nat} {q:List AV×TypeId} {c:List AV},l[k]? =some q→m[k]? =some c→(pW l m)[k]? =some (c,q.2):=by
 intro l
 induction l with
 |nil=>intro m k q c h;simp at h
 |cons a l ih=>
  intro m k q c h1 h2;cases m with
  |nil=>simp at h2
  |cons d m=>
   cases k with
   |zero=>simp only[List.getElem?_cons_zero,aw]at h1 h2;subst h1;subst h2;rfl
   |succ k=>simp only[List.getElem?_cons_succ]at h1 h2;simp only[pW,List.getElem?_cons_succ];exact ih h1 h2
theorem ju:∀{l:List (List AV×TypeId)} {m:List (List AV)},m.length=l.length→(pW l m).length=l.length:=by
 intro l
 induction l with
 |nil=>intro m _;cases m<;>rfl
 |cons a l ih=>
  intro m h;cases m with
  |nil=>simp at h
  |cons d m=>simp only[pW,List.length_cons];rw[ih (by simpa using h)]
theorem nV{v:Val}{gl:Nat→Option Nat}{b:bK}{R nt:Nat}{tm:T AV}{σ:St}{a:Act}{w:World}{φ:PM}(h:Hold v gl b R nt tm σ a w φ){i:Nat}{o:Ob}(ho:σ.heap.get i=some o)(hi:i<σ.next):@Rep v R φ w i (some o):=ho▸h.rep hi
theorem vQ{F:Nat→Dat→Dat→Dat→Dat}{P:Program}{gl:Nat→Option Nat}{b:bK}{R:Nat}{c:Con}{fn:Func}{code:Code}(hf:P.funcs[c.f]? =some fn)(hbody:fn.body=some code)(hlen:Nat.ble c.args.length fn.ntmps=true)
 (hbo:Nat.beq c.bout.length c.bin.length=true)
 (h:∀v:Val,v.fn=F→@Holds v c.pre→∃e tm' l σ'',(e=.ret∨e=.normal)∧
   HTo v P gl b R c.nr c.bin.length fn.ntmps code (jb c.args 0 .leaf) (c.start b R) e (ba tm') (aA b (c.out R) (R+c.bin.length+c.nl+c.objs.length))∧
   cn P fn {tm:=ba tm',ds:=[],md:=none,rd:=false} (aA b (c.out R) (R+c.bin.length+c.nl+c.objs.length)) fn.results.toList=some (l,σ'')∧given l=c.res):c.Sound F P gl b R:=by
 intro v hF hp w φ args' hh ha;obtain⟨e,tm',l,σ'',he,hto,hres,hgl⟩:=h v hF hp;have hbo:=ae hbo;refine gA hf hbody fun cs=> ?_;have hen:=@ie v φ c.args args' ha fn.ntmps (aB hlen) none false;refine(hto _ cs w φ ⟨hen.ev.size,hen.ev.val,rfl,hh.inv,hh.free,hh.roA,hh.rd,hh.wr⟩).mono fun e1 a1 cs1 w1 q=> ?_;obtain⟨q1,q2,φ1,q3,q4⟩:=q;refine⟨q1,?_⟩;have hev:@EnvR v φ1 fn.ntmps {tm:=ba tm',ds:=[],md:=none,rd:=false} a1:=⟨q3.size,q3.val⟩;obtain⟨x,r1,r2,_⟩:=@iy v P R (js gl b) (fun _=>True) φ1 _ w1 fn fn.ntmps _ a1 σ'' l hev q3.inv hres (fun i _ _=>trivial);rw[hgl]at r2;have hobj:∀k o,c.objs[k]? =some o→@Rep v R φ1 w1 (R+c.bin.length+c.nl+k) (some o):=fun k o hk=>by
  have hkl:k<c.objs.length:=(by rcases aS k c.objs.length with h|h;{exact h};rw[bZ h]at hk;cases hk);refine nV q3 ?_ (by show R+c.bin.length+c.nl+k<R+c.bin.length+c.nl+c.objs.length;omega);show(br b (c.out R)).get _=_;unfold Con.out;rw[di,lH,if_neg (by rw[ju hbo];omega),di,vu];have hgo:(br b (Fv c.objs (R+c.bin.length+c.nl))).get (R+c.bin.length+c.nl+k)=some o:=(by rw[Jh,if_pos (by omega),show R+c.bin.length+c.nl+k - (R+c.bin.length+c.nl)=k by omega];exact hk);cases hL:c.lin with
  |none=>exact hgo
  |some L=>have:c.nl=1:=(by simp [Con.nl,hL]);dsimp only;rw[if_neg (by omega)];exact hgo
 have hbox:∀k l q,c.bout[k]? =some l→c.bin[k]? =some q→@Rep v R φ1 w1 (R+k) (some (.box l q.2)):=fun k l q h1 h2=>by have hkl:k<c.bin.length:=(by rcases aS k c.bin.length with h|h;{exact h};rw[bZ h]at h2;cases h2);refine nV q3 ?_ (by show R+k<R+c.bin.length+c.nl+c.objs.length;omega);show(br b (c.out R)).get _=_;unfold Con.out;rw[di,lH,if_pos (by rw[ju hbo];omega),show R+k - R=k by omega,De h2 h1];rfl
 have hlin:∀L,c.lin=some L→@Rep v R φ1 w1 (R+c.bin.length) (some (.opq 2 0 gid (.slc L.l) L.ox L.oy [] L.t)):=fun L hL=>by have hn:c.nl=1:=(by simp [Con.nl,hL]);refine nV q3 ?_ (by show R+c.bin.length<R+c.bin.length+c.nl+c.objs.length;omega);show(br b (c.out R)).get _=_;unfold Con.out;rw[di,lH,if_neg (by rw[ju hbo];omega),di,vu,hL];dsimp only;rw[if_pos rfl]
 have hgo:LeavesInM Fence.wide 0 P fn a1.tmps (fun e w'=>∃φ' x,e=.returned x∧@VR v φ' c.res x∧Trans R c.nr c.bin.length φ w φ' w'∧WF R φ' w'∧(∀k o,c.objs[k]? =some o→@Rep v R φ' w' (R+c.bin.length+c.nl+k) (some o))∧
  (∀k l q,c.bout[k]? =some l→c.bin[k]? =some q→@Rep v R φ' w' (R+k) (some (.box l q.2)))∧∀L,c.lin=some L→@Rep v R φ' w' (R+c.bin.length) (some (.opq 2 0 gid (.slc L.l) L.ox L.oy [] L.t))) a1.defers .returning w1:=by
  rw[q3.dfs];exact⟨x,r1,φ1,x,rfl,r2,q4,q3.wf,hobj,hbox,hlin⟩
 rcases he with rfl|rfl;{cases e1<;>simp only[ExitP]at q2;exact hgo};cases e1<;>simp only[ExitP]at q2;exact hgo
end Go.Tw
namespace Go.Tw
noncomputable section
end
def N6(w:World)(b:Nat)(s:List Value):Prop:=∃t fr,w.heap[b]? =some (.cells s.toArray t fr)
theorem Jn{α β:Type}{f:α→Option β}:∀{l:List α} {r:List β},l.mapM f=some r→r.length=l.length∧∀(i:Nat) (x:α),l[i]? =some x→∃y,r[i]? =some y∧f x=some y:=by
 intro l
 induction l with
 |nil=>intro r h;simp at h;subst h;exact⟨rfl,fun i x h=>by simp at h⟩
 |cons a l ih=>
  intro r h;rw[List.mapM_cons]at h;cases ha:f a with
  |none=>simp [ha]at h
  |some y=>
   cases hl:l.mapM f with
   |none=>simp [ha,hl]at h
   |some s=>
    simp [ha,hl]at h;subst h;obtain⟨h1,h2⟩:=ih hl;refine⟨by simp [h1],fun i x hi=> ?_⟩;cases i with
    |zero=>simp at hi;subst hi;exact⟨y,rfl,ha⟩
    |succ i=>simp at hi;obtain⟨z,h3,h4⟩:=h2 i x hi;exact⟨z,by simpa using h3,h4⟩
def RowR(pc:Nat→List Value→Prop)(l:List Sh)(row:List Dat)(cs:List Value):Prop:=
 row.length=l.length∧cs.length=l.length∧∀(j:Nat) (s:Sh) (d:Dat) (v:Value),l[j]? =some s→row[j]? =some d→cs[j]? =some v→GC pc s d v
theorem RowR.one{pc:Nat→List Value→Prop}{s:Sh}{d:Dat}{v:Value}(h:GC pc s d v):RowR pc [s] [d] [v]:=by
 refine⟨rfl,rfl,fun j s' d' v' h1 h2 h3=> ?_⟩;cases j with
 |zero=>simp at h1 h2 h3;subst h1;subst h2;subst h3;exact h
 |succ j=>simp at h1
theorem RowR.append{pc:Nat→List Value→Prop}{l m:List Sh}{r q:List Dat}{a b:List Value}(h:RowR pc l r a)(k:RowR pc m q b):RowR pc (l++m) (r++q) (a++b):=by obtain⟨h1,h2,h3⟩:=h;obtain⟨k1,k2,k3⟩:=k;refine⟨by simp [h1,k1],by simp [h2,k2],fun j s d v e1 e2 e3=> ?_⟩;by_cases hj:j<l.length;{rw[List.getElem?_append_left hj]at e1;rw[List.getElem?_append_left (by omega)]at e2 e3;exact h3 j s d v e1 e2 e3};rw[List.getElem?_append_right (by omega)]at e1 e2 e3;rw[h1]at e2;rw[h2]at e3;exact k3 _ s d v e1 e2 e3
theorem LI{H:Type}{enc:TypeId×Value→H}{P:Program}{w:World}{held:Bool}{fuel:Nat}{sh:TypeId→Option (List Sh)}
 (ih:∀t l cs d ps,sh t=some l→DataW.trod enc P w 0 (fun _=>true) held fuel t cs=some (d,ps)→cs.length=P.cellsOf t→∃row,RowR (N6 w) l row cs)
 (hsz:∀t l,sh t=some l→P.cellsOf t=l.length)(cs:List Value):∀(fs:List Field) (o:Nat) (l:List Sh),Hh sh fs o=some l→cs.length=o+l.length→
 (∀f∈fs,∃x,DataW.trod enc P w 0 (fun _=>true) held fuel f.type ((cs.drop f.offset).take (P.cellsOf f.type))=some x)→∃row,RowR (N6 w) l row (cs.drop o):=by
 intro fs
 induction fs with
 |nil=>intro o l h hl _;simp only[Hh,aw]at h;subst h;simp only[List.length_nil,Nat.add_zero]at hl;exact⟨[],rfl,by simp;omega,fun j s d v h=>by simp at h⟩
 |cons f fs ihf=>intro o l h hl hm;simp only[Hh]at h;split at h;{rename_i a ha;rw[ai]at h;split at h;{rename_i hb;have hb:=ae hb;split at h;{rename_i r hr;cases h;obtain⟨x,h1⟩:=hm f (by simp);have hsa:=hsz _ _ ha;rw[hb,hsa]at h1;simp only[cg]at hl;obtain⟨row1,q1⟩:=ih _ _ _ x.1 x.2 ha h1 (by simp [hsa];omega);obtain⟨row2,q2⟩:=ihf (o+a.length) r hr (by omega) fun g hg=>hm g (by simp [hg]);refine⟨row1++row2,?_⟩;have:=q1.append q2;rwa[←List.drop_drop,List.take_append_drop]at this};cases h};cases h};cases h
theorem trod_row{H:Type}{enc:TypeId×Value→H}{P:Program}{w:World}{held:Bool}:∀(n fuel:Nat) (t:TypeId) (l:List Sh) (cs:List Value) (d:DataW H) (ps:List MemPlace),shOf P n t=some l→
 DataW.trod enc P w 0 (fun _=>true) held fuel t cs=some (d,ps)→∃row,RowR (N6 w) l row cs:=by
 intro n
 induction n with
 |zero=>intro fuel t l cs d ps h;simp [shOf]at h
 |succ n ih=>
  intro fuel t l cs d ps h hd;cases fuel with
  |zero=>simp [DataW.trod]at hd
  |succ fuel=>
   simp only[shOf]at h;split at h;{rename_i k hu;simp only[aw]at h;subst h;obtain⟨m,rfl,_⟩:=DataW.trod_int hu hd;exact⟨[.int m],.one (.int k (.int m))⟩};{rename_i hu;simp only[aw]at h;subst h;obtain⟨b,rfl,_⟩:=DataW.trod_bool hu hd;refine⟨[.int (dW b)],.one ?_⟩;have:GC (N6 w) .bool (.int (dW b)) (.bool ((Dat.int (dW b)).toI != 0)):=.bool _;cases b<;>exact this};·rename_i hu;simp only[aw]at h;subst h;obtain⟨s,rfl,_⟩:=DataW.trod_string hu hd;refine⟨[.str s.data.toList],.one ?_⟩;obtain⟨⟨s⟩⟩:=s;exact .str s
   ·rename_i e hu;split at h
    ·rename_i le hle;simp only[ai,al]at h;split at h
     ·rename_i hb;have hce:=ae hb.1;have hl0:=aR hb.2;simp only[aw]at h;subst h;rcases DataW.trod_slice hu hd with⟨rfl,_⟩|⟨a,len,cap,elems,rest,m,_,rfl,_,_,hlc,_,hlen,aj,_⟩;·exact⟨[.lst []],.one (.none le none 0)⟩
      skip
      skip
      skip
      by_cases hz:len=0;{subst hz;exact⟨[.lst []],.one (.none le (some a) cap)⟩};have key:∀i,i<len→∃cs row,w.cells? 0 (a.add (i*le.length)) le.length=some cs∧RowR (N6 w) le row cs:=by
       intro i hi;have hy:=aj i hi;rw[hce,bC (by omega)]at hy;cases hc:w.cells? 0 (a.add (i*le.length)) le.length with
       |none=>rw[hc]at hy;cases hy
       |some cs=>rw[hc]at hy;obtain⟨row,hr⟩:=ih _ e le cs _ _ hle hy;exact⟨cs,row,rfl,hr⟩
      have hcell:∀i,i<len→∃cs,w.cells? 0 (a.add (i*le.length)) le.length=some cs:=fun i hi=>let⟨cs,_,h,_⟩:=key i hi;⟨cs,h⟩;have hcells:∀i cs,w.cells? 0 (a.add (i*le.length)) le.length=some cs→∀j,j<le.length→∃v,cs[j]? =some v∧w.cell? ((a.add (i*le.length)).add j)=some v:=by intro i cs hc j hj;unfold World.cells? at hc;rw[if_pos (bP _)]at hc;obtain⟨_,h2⟩:=Jn hc;exact h2 j j (by simp [hj])
      -- the block
      obtain⟨c0,hc0⟩:=hcell 0 (by omega);obtain⟨v0,_,hv0⟩:=hcells 0 c0 hc0 0 hl0;have ha0:(a.add (0*le.length)).add 0=a:=(by simp [Addr.add]);rw[ha0]at hv0;unfold World.cell? at hv0;split at hv0
      ·rename_i blk bt fr hblk;split at hv0;{cases hv0};rename_i hsp;obtain⟨ab,ao,asp⟩:=a;have hsp:asp=none:=(by cases asp<;>simp_all);subst hsp;let rows:List (List Dat):=(List.range len).map fun i=>if h:i<len then(key i h).choose_spec.choose else[]
       have hrl:rows.length=len:=(by simp [rows]);have hrow:∀i (h:i<len),rows[i]? =some (key i h).choose_spec.choose:=fun i h=>(by simp [rows,h]);have hcellat:∀i (h:i<len) j,j<le.length→∃v,(key i h).choose[j]? =some v∧blk.toList[ao+i*le.length+j]? =some v:=(by intro i h j hj;obtain⟨hc,_⟩:=(key i h).choose_spec.choose_spec;obtain⟨v,h1,h2⟩:=hcells i _ hc j hj;refine⟨v,h1,?_⟩;rw[cT,cT]at h2;simp only[World.cell?,hblk,Option.isSome_none,bY,if_false]at h2;rw[Array.getElem?_toList];exact h2);have hg:GC (N6 w) (.slc le) (.lst rows) (.slice (some ⟨ab,ao,none⟩) rows.length cap):=by
        refine .slc ab blk.toList ao cap (fun i j=>(blk.toList[ao+i*le.length+j]?).getD undef) ⟨bt,fr,by simpa using hblk⟩ (by omega) (fun i row hr=> ?_) (fun i j hi hj=> ?_) (fun i row j s x hr hs hx=> ?_)
        ·have hi:i<len:=by
          rcases aS i len with h|h;{exact h};rw[bZ (by omega)]at hr;cases hr
         rw[hrow i hi]at hr;simp only[aw]at hr;subst hr;exact(key i hi).choose_spec.choose_spec.2.1
        {obtain⟨v,_,h2⟩:=hcellat i (by omega) j hj;rw[h2];rfl};have hi:i<len:=(by rcases aS i len with h|h;{exact h};rw[bZ (by omega)]at hr;cases hr);rw[hrow i hi]at hr;simp only[aw]at hr;subst hr;have hj:j<le.length:=(by rcases aS j le.length with h|h;{exact h};rw[bZ h]at hs;cases hs);obtain⟨v,h1,h2⟩:=hcellat i hi j hj;rw[h2];exact(key i hi).choose_spec.choose_spec.2.2.2 j s x v hs hx h1
       rw[hrl]at hg;exact⟨[.lst rows],.one hg⟩
      cases hv0
     cases h
    cases h
   ·rename_i fs hu;split at h
    ·rename_i l' hl';rw[ai]at h;split at h
     ·rename_i hb;have hb:=ae hb;simp only[aw]at h;subst h;obtain⟨xs,m,_,_,hcl,hxl,hxs⟩:=DataW.trod_struct hu hd;have:=LI (enc:=enc) (held:=held) (fuel:=m) (w:=w) (P:=P) (sh:=fun t=>match shOf P n t with
       |some l=>bif Nat.beq (P.cellsOf t) l.length then some l else none
       |none=>none) (fun t l cs d ps h1 h2 _=>by
        split at h1;{rename_i l3 hl3;rw[ai]at h1;split at h1;{simp only[aw]at h1;subst h1;exact ih m t _ cs d ps hl3 h2};cases h1};·cases h1) (fun t l h1=>by
        split at h1;{rw[ai]at h1;split at h1;{rename_i hbb;simp only[aw]at h1;subst h1;exact ae hbb};cases h1};·cases h1) cs fs.toList 0 l' hl' (by omega) (fun f hf=>by
        obtain⟨i,hi,rfl⟩:=List.getElem_of_mem hf;have:=hxs i fs.toList[i] (by rw[←Array.getElem?_toList,bC hi]);rw[bC (by rw[hxl];simpa using hi)]at this;exact⟨_,this⟩)
      simpa using this
     cases h
    cases h
   cases h
end Go.Tw
namespace Go.Tw
open Go.ChangeShapes Go.RowKit
def HT(P:Program)(gl:Nat→Option Nat)(b:bK)(R nr nb nt:Nat)(v:Val)(c:Code)(tm:T AV)(σ:St)(e:AExit)(v':Val)(tm':T AV)(σ':St):Prop:=
 ∀(a:Act) (cs:List Frame) (w:World) (φ:PM),Hold v gl b R nt tm σ a w φ→
  Runs P none false c (fun e' a' cs' w'=>cs'=cs∧ExitP e e'∧∃φ',Hold v' gl b R nt tm' σ' a' w' φ'∧Trans R nr nb φ w φ' w') a cs w
section
variable{P:Program}{gl:Nat→Option Nat}{b:bK}{R nr nb nt:Nat}{v v1 v2:Val}
theorem HTo.ht(hrb:nr≤cK nb){c:Code}{tm tm1 tm2:T AV}{σ σ1 σ2:St}{e:AExit}(h:HTo v P gl b R nr nb nt c tm σ e tm1 σ1)(k:Retell gl b R nr nb v tm1 σ1 v2 tm2 σ2):HT P gl b R nr nb nt v c tm σ e v2 tm2 σ2:=
 fun a cs w φ ha=>(h a cs w φ ha).mono fun _ _ _ _ ⟨q1,q2,φ1,q3,q4⟩=>by obtain⟨φ2,r1,r2⟩:=k _ _ _ _ q3;exact⟨q1,q2,φ2,r1,q4.trans hrb r2⟩
theorem HT.hto{c:Code}{tm tm1:T AV}{σ σ1:St}{e:AExit}(h:HT P gl b R nr nb nt v c tm σ e v tm1 σ1):HTo v P gl b R nr nb nt c tm σ e tm1 σ1:=h
theorem HT.retell(hrb:nr≤cK nb){c:Code}{tm tm1 tm2:T AV}{σ σ1 σ2:St}{e:AExit}(h:HT P gl b R nr nb nt v c tm σ e v1 tm1 σ1)(k:Retell gl b R nr nb v1 tm1 σ1 v2 tm2 σ2):HT P gl b R nr nb nt v c tm σ e v2 tm2 σ2:=
 fun a cs w φ ha=>(h a cs w φ ha).mono fun _ _ _ _ ⟨q1,q2,φ1,q3,q4⟩=>by obtain⟨φ2,r1,r2⟩:=k _ _ _ _ q3;exact⟨q1,q2,φ2,r1,q4.trans hrb r2⟩
theorem HT.seq(hrb:nr≤cK nb){x y:Code}{tm tm1 tm2:T AV}{σ σ1 σ2:St}{e:AExit}(h:HT P gl b R nr nb nt v x tm σ .normal v1 tm1 σ1)(k:HT P gl b R nr nb nt v1 y tm1 σ1 e v2 tm2 σ2):HT P gl b R nr nb nt v (.seq x y) tm σ e v2 tm2 σ2:=by
 intro a cs w φ ha;refine dY ((h a cs w φ ha).mono fun e1 a1 cs1 w1 q=> ?_);obtain⟨rfl,q2,φ1,q3,q4⟩:=q;have:e1=.normal:=by cases e1<;>simp_all [ExitP]
 subst this;exact(k a1 _ w1 φ1 q3).mono fun e2 a2 cs2 w2 ⟨r1,r2,φ2,r3,r4⟩=>⟨r1,r2,φ2,r3,q4.trans hrb r4⟩
theorem HT.seq_out{x y:Code}{tm tm2:T AV}{σ σ2:St}{e:AExit}(h:HT P gl b R nr nb nt v x tm σ e v2 tm2 σ2)(hn:e≠.normal):HT P gl b R nr nb nt v (.seq x y) tm σ e v2 tm2 σ2:=by
 intro a cs w φ ha;refine dY ((h a cs w φ ha).mono fun e1 a1 cs1 w1 q=> ?_);have hnn:e1≠.normal:=by obtain⟨_,q2,_⟩:=q;intro h';subst h';cases e<;>simp_all [ExitP]
 cases e1 with
 |normal=>exact absurd rfl hnn
 |_=>exact q
theorem HT.block{id:Nat}{x:Code}{tm tm2:T AV}{σ σ2:St}(h:HT P gl b R nr nb nt v x tm σ (.exit id) v2 tm2 σ2):HT P gl b R nr nb nt v (.block id x) tm σ .normal v2 tm2 σ2:=by intro a cs w φ ha;refine cM ((h a cs w φ ha).mono fun e1 a1 cs1 w1 q=> ?_);obtain⟨q1,q2,q3⟩:=q;cases e1<;>simp only[ExitP]at q2;subst q2;simp only[dv,if_true];exact⟨q1,trivial,q3⟩
theorem HT.block_out{id:Nat}{x:Code}{tm tm2:T AV}{σ σ2:St}{e:AExit}(h:HT P gl b R nr nb nt v x tm σ e v2 tm2 σ2)(hn:e≠.exit id):HT P gl b R nr nb nt v (.block id x) tm σ e v2 tm2 σ2:=by
 intro a cs w φ ha;refine cM ((h a cs w φ ha).mono fun e1 a1 cs1 w1 q=> ?_);obtain⟨q1,q2,q3⟩:=q;cases e1 with
 |exit j=>cases e<;>simp only[ExitP]at q2;subst q2;rename_i i;have:i≠id:=fun h'=>hn (by rw[h']);simp only[dv,this,if_false];exact⟨q1,rfl,q3⟩
 |_=>exact⟨q1,q2,q3⟩
theorem HT.loop(hrb:nr≤cK nb){c:Code}{tm to:T AV}{σ so:St}{e:AExit}{vo:Val}:∀(n:Nat) (V:Nat→Val),(∀k,k<n→HT P gl b R nr nb nt (V k) c tm σ .normal (V (k+1)) tm σ)→HT P gl b R nr nb nt (V n) c tm σ e vo to so→e≠.normal→
 HT P gl b R nr nb nt (V 0) (.loop c) tm σ e vo to so:=by
 have key:∀(n:Nat) (V:Nat→Val),(∀k,k<n→HT P gl b R nr nb nt (V k) c tm σ .normal (V (k+1)) tm σ)→HT P gl b R nr nb nt (V n) c tm σ e vo to so→e≠.normal→
  ∀(a:Act) (cs:List Frame) (w:World) (φ:PM),Hold (V 0) gl b R nt tm σ a w φ→∀(bf:Frame) (k:List Item),bf.roundOf=none→bf.kind=kindOf false→
  ∃e' a' cs' w',(cs'=cs∧ExitP e e'∧∃φ',Hold vo gl b R nt to so a' w' φ'∧Trans R nr nb φ w φ' w')∧
   ArrivesIn (Machine.fenced P Fence.wide) P (lone (bf.atR a (.code c:: .inLoop c::k)) cs w) bf k cs' e' a' w':=by
  intro n
  induction n with
  |zero=>intro V _ hx hne a cs w φ ha bf k hb hkd;obtain⟨e1,a1,cs1,w1,q,harr⟩:=hx a cs w φ ha bf (.inLoop c::k) hb hkd;have hnn:e1≠.normal:=(by intro h';subst h';obtain⟨_,q2,_⟩:=q;cases e<;>simp_all [ExitP]);exact⟨e1,a1,cs1,w1,q,.pass (x:=.inLoop c) rfl (fun _ _=>.inl hnn) harr⟩
  |succ n ih=>intro V hs hx hne a cs w φ ha bf k hb hkd;obtain⟨e1,a1,cs1,w1,q,harr⟩:=hs 0 (by omega) a cs w φ ha bf (.inLoop c::k) hb hkd;obtain⟨rfl,q2,φ1,q3,q4⟩:=q;have:e1=.normal:=(by cases e1<;>simp_all [ExitP]);subst this;obtain⟨e2,a2,cs2,w2,r,harr2⟩:=ih (fun k=>V (k+1)) (fun k hk=>hs (k+1) (by omega)) hx hne a1 _ w1 φ1 q3 bf k hb hkd;obtain⟨s1,s2,φ3,s3,s4⟩:=r;exact⟨e2,a2,cs2,w2,⟨s1,s2,φ3,s3,q4.trans hrb s4⟩,.of_steps (StepsIn.trans harr (aO stepR_inLoop)) harr2⟩
 intro n V hs hx hne a cs w φ ha bf k hb hkd;obtain⟨e1,a1,cs1,w1,q,harr⟩:=key n V hs hx hne a cs w φ ha bf k hb hkd;exact⟨e1,a1,cs1,w1,q,.of_steps (aO stepR_loop) harr⟩
theorem HT.run(hb:BaseOk gl b R)(hrb:nr≤cK nb){p:bo}(hp:@Holds v p){hk:FuncId→List AV→St→CR}(hs:bN (bX gl b p hk))(hh:@kI v P R (bX gl b p hk))
 (hm:P.follows .mixedOrders=true){n:Nat}{c:Code}{tm:T AV}{σ:St}{e:AExit}{ρ:List RE}{tm':List (Nat×AV)}{objs':List (Nat×Ob)}{nx':Nat}{E:bS}
 (h:Hy R nr nb (exec P (bX gl b p hk) n nt c {tm:=tm,ds:=[],md:=none,rd:=false} σ) e ρ tm' objs' nx' E=true)(hE:EqsOk v v2 E):HT P gl b R nr nb nt v c tm σ e v2 (ba tm') (aA b objs' nx'):=by
 obtain⟨tm1,σ1,h1,h2⟩:=J6 hb hp hs hh hm h;exact h1.ht hrb (h2 v2 hE)
end
end Go.Tw
namespace Go.Tw
open Go.ChangeShapes Go.RowKit
noncomputable section
section
variable{v:Val}{P:Program}{gl:Nat→Option Nat}{b:bK}{R nr nb nt:Nat}
end
end
end Go.Tw
