/-
  A part of the proof that the abstract evaluator is sound for the model's machine. Conditions: those of each theorem, as it states them.
-/
import Derived.Test.YtbfonficacphkaaGreatDoorA1
import Derived.Laws.StructEq
import Derived.ChangeKeysEq
import Derived.Laws.BytesString
set_option linter.all false
namespace Go.Tw
section
variable[Val]
variable{P:Program}{φ:PM}{w:World}
omit [Val]in
theorem af{t:TypeId}{d:TypeDesc}(h:P.underlying t=some d)(w:World):(underlying t).run P w=.ok d w:=run_underlying h w
omit [Val]in
theorem aN{t:TypeId}{n:Nat}(h:c7 P t=some n)(w:World):(sizeOf t).run P w=.ok n w:=by unfold c7 at h;split at h;{rename_i i hi;cases h;simp [sizeOf,typeInfo,hi]};cases h
omit [Val]in
theorem Hx{t:TypeId}{n:Nat}(h:tW P t=some n):∃i,(∀w,(typeInfo t).run P w=.ok i w)∧i.bytes=n:=by unfold tW at h;split at h;{rename_i i hi;cases h;exact⟨i,fun w=>by simp [typeInfo,hi],rfl⟩};cases h
omit [Val]in
theorem fK{t:TypeId}{i:TypeInfo}(h:P.info? t=some i)(w:World):(typeInfo t).run P w=.ok i w:=by simp [typeInfo,h]
theorem gI{t:TypeId}{z:AV}(h:zeroOf P t=some z):∃v,(∀w,(zeroValue t).run P w=.ok v w)∧∀φ,VR φ z v:=by unfold zeroOf at h;split at h;{rename_i i hi;split at h;{rename_i v hv;exact⟨v,fun w=>by simp [zeroValue,typeInfo,hi,hv],fun φ=>Es _ _ _ h⟩};cases h};cases h
omit [Val]in
theorem fL{t:TypeId}{b:Bool}(h:Gx P t=some b)(w:World):(isAgg t).run P w=.ok b w:=by
 unfold Gx at h;split at h;{rename_i hu;cases h;simp [isAgg,af hu]};·rename_i hu;cases h;simp [isAgg,af hu]
 ·rename_i d hn1 hn2 hu;cases h;simp only[isAgg,aQ,af hu,aZ];cases d<;>first
   |rfl
   |exact(hn1 _ rfl).elim
   |exact(hn2 _ _ rfl).elim
 cases h
omit [Val]in
theorem kh{l r:List AV}{off n:Nat}(h:cut l off n=some r):r=(l.drop off).take n∧r.length=n:=by have:=Bd _ _ _ h;rw[Ar]at this;exact this
omit [Val]in
theorem bq(k:IntKind)(n:Int):cG k n=k.wrap n:=by
 cases n with
 |ofNat m=>simp only[cG,ai];split;{rename_i h;have h:=aB h;cases k<;>simp only[FI]at h<;>simp [IntKind.wrap,IntKind.bits,IntKind.signed]<;>omega};rfl
 |negSucc m=>simp only[cG,ai,al];split;{rename_i h;have h2:=aB h.2;have h1:=h.1;obtain⟨n,hn⟩:∃n:Int,n=Int.negSucc m:=⟨_,rfl⟩;have hn':n= -(m:Int) - 1:=(by omega);rw[←hn];clear hn h;cases k<;>simp only[FI]at h2<;>simp [IntKind.signed]at h1<;>simp [IntKind.wrap,IntKind.bits,IntKind.signed]<;>omega};rfl
theorem jJ{t:TypeId}{cs:List AV}{cs':Array Value}{off:Nat}{v:AV}(h:qg P t cs off=some v)(hc:VRL φ cs cs'.toList):
 ∃v',(∀w,(part t cs' off).run P w=.ok v' w)∧VR φ v v':=by
 unfold qg at h;split at h;{rename_i n ha hs;split at h;{rename_i l hl;cases h;obtain⟨rfl,_⟩:=kh hl;refine⟨.agg (cs'.extract off (off+n)),fun w=>by simp [part,fL ha,aN hs],.agg _ ?_⟩;have:=(hc.drop off).take n;simpa[Array.toList_extract,List.take_drop]using this};cases h};{rename_i ha;obtain⟨v',h1,h2⟩:=hc.get h;refine⟨v',fun w=> ?_,h2⟩;have h1:cs'[off]? =some v':=(by simpa using h1);simp [part,fL ha,h1]};cases h
variable{dec:Bx→Option Bool}
theorem Nv{d:Nat}{xs ys:List AV}{xs' ys':Array Value}(hx:VRL φ xs xs'.toList)(hy:VRL φ ys ys'.toList)
 (ih:∀(t:TypeId) (x y:AV) (x' y':Value) (b:Bool),uh P dec d t x y=some b→VR φ x x'→VR φ y y'→∀w,(Op.equalIn d t x' y').run P w=.ok b w):
 ∀(fs:List Field) (b:Bool),Gd P (uh P dec d) xs ys fs=some b→∀w,(Op.eqFields d xs' ys' fs).run P w=.ok b w:=by
 intro fs
 induction fs with
 |nil=>intro b h w;simp only[Gd,aw]at h;subst h;rfl
 |cons f fs ihf=>intro b h w;simp only[Gd]at h;simp only[Op.eqFields,Sem.run_ite];split at h;{rename_i hn;rw[if_pos hn];split at h;{rename_i a c ha hc;obtain⟨a',ra,va⟩:=jJ (φ:=φ) ha hx;obtain⟨c',rc,vc⟩:=jJ (φ:=φ) hc hy;simp only[aQ,ra,rc,aZ];split at h;{rename_i he;simp only[ih _ _ _ _ _ _ he va vc,aZ];simpa using ihf b h w};{rename_i he;cases h;simp [ih _ _ _ _ _ _ he va vc]};cases h};cases h};rename_i hn;rw[if_neg hn];exact ihf b h w
omit [Val]in
theorem rb(a b:List UInt8):((⟨⟨a⟩⟩:ByteArray)==⟨⟨b⟩⟩)=(a==b):=by rw[beq_toListBytes,ByteArray.toList_eq,ByteArray.toList_eq]
theorem eo{x:AV}{x':Value}{k:IntKind}{e:Sx}(h:my x=some (k,e))(hx:VR φ x x'):x'=.int k e.eval:=by unfold my at h;split at h;{cases h;cases hx;rfl};{cases h;cases hx;rfl};cases h
theorem Em(hdec:∀b v,dec b=some v→b.eval=v){x:AV}{x':Value}{b:Bool}(h:NG dec x=some b)(hx:VR φ x x'):x'=.bool b:=by unfold NG at h;split at h;{cases h;cases hx;rfl};{cases hx;rw[hdec _ _ h]};cases h
theorem qY{x:AV}{x':Value}{e:Sx}(h:EL x=some e)(hx:VR φ x x'):∃s,x'=.string ⟨⟨s⟩⟩∧e.dat=.str s:=by
 unfold EL at h;split at h
 ·cases h;cases hx with
  |vstr s hs=>exact⟨s,rfl,hs⟩
 {cases h;cases hx;exact⟨_,rfl,rfl⟩};cases h
theorem SU(hdec:∀b v,dec b=some v→b.eval=v){d:Nat}{t:TypeId}{u:TypeDesc}(hu:P.underlying t=some u){x y:AV}{x' y':Value}{b:Bool}
 (h:XE dec u x y=some b)(hx:VR φ x x')(hy:VR φ y y')(w:World):(Op.equalIn (d+1) t x' y').run P w=.ok b w:=by
 unfold XE at h;split at h;{split at h;{rename_i k a k' b' h1 h2;have e1:=eo h1 hx;have e2:=eo h2 hy;subst e1;subst e2;split at h;{rename_i hk;subst hk;simp only[ai]at h;split at h;{rename_i hs;cases h;rw[Sx.same_eq hs];simp [Op.equalIn,af hu]};have:=hdec _ _ h;simp only[Bx.eval,cX]at this;simp [Op.equalIn,af hu,this]};cases h};cases h};·split at h;{rename_i a b' h1 h2;have e1:=Em hdec h1 hx;have e2:=Em hdec h2 hy;subst e1;subst e2;cases h;simp [Op.equalIn,af hu]};cases h
 ·split at h
  ·rename_i a b' h1 h2;obtain⟨s1,e1,g1⟩:=qY h1 hx;obtain⟨s2,e2,g2⟩:=qY h2 hy;subst e1;subst e2;have hb:(s1==s2)=b:=by
    simp only[ai]at h;split at h;{rename_i hs;cases h;rw[Sx.same_eq hs,g2]at g1;simp only[Dat.str.injEq]at g1;simp [g1]};have:=hdec _ _ h;simp only[Bx.eval,g1,g2,Dat.toS]at this;exact this
   simp [Op.equalIn,af hu,rb,hb]
  cases h
 cases h
omit [Val]in
theorem rM{e:TypeId}{s:Nat}(h:c7 P e=some s):∃i,P.info? e=some i∧P.cellsOf e=s:=by unfold c7 at h;split at h;{rename_i i hi;simp only[aw]at h;refine⟨i,hi,?_⟩;simp [Program.cellsOf,hi,h]};cases h
theorem Nw{d:Nat}{e:TypeId}{s:Nat}{xs ys:List AV}{xs' ys':Array Value}(hx:VRL φ xs xs'.toList)(hy:VRL φ ys ys'.toList)
 (ih:∀(t:TypeId) (x y:AV) (x' y':Value) (b:Bool),uh P dec d t x y=some b→VR φ x x'→VR φ y y'→∀w,(Op.equalIn d t x' y').run P w=.ok b w):
 ∀(k i:Nat) (b:Bool),Kq P (uh P dec d) e s xs ys k i=some b→∀w,(Op.eqItems d e s xs' ys' (List.range' i k)).run P w=.ok b w:=by
 intro k
 induction k with
 |zero=>intro i b h w;simp only[Kq,aw]at h;subst h;rfl
 |succ k ihk=>intro i b h w;simp only[Kq]at h;split at h;{rename_i a c ha hc;obtain⟨a',ra,va⟩:=jJ (φ:=φ) ha hx;obtain⟨c',rc,vc⟩:=jJ (φ:=φ) hc hy;simp only[List.range'_succ,Op.eqItems,aQ,ra,rc,aZ];split at h;{rename_i he;simp only[ih _ _ _ _ _ _ he va vc,aZ];simpa using ihk (i+1) b h w};{rename_i he;cases h;simp [ih _ _ _ _ _ _ he va vc]};cases h};cases h
set_option maxHeartbeats 2000000 in
theorem Kr(hdec:∀b v,dec b=some v→b.eval=v):∀(d:Nat) (t:TypeId) (x y:AV) (x' y':Value) (b:Bool),uh P dec d t x y=some b→VR φ x x'→VR φ y y'→
 ∀w,(Op.equalIn d t x' y').run P w=.ok b w:=by
 intro d
 induction d with
 |zero=>intro t x y x' y' b h;simp [uh]at h
 |succ d ih=>
  intro t x y x' y' b h hx hy w;simp only[uh]at h;split at h;{cases h};rename_i u hu;simp only[ai]at h;split at h;{exact SU hdec hu h hx hy w};rename_i hns;split at h
  case h_13 fs xs ys=>
   split at h;{cases h};rename_i hst;cases hx with
   |agg xs' hxs=>
    cases hy with
    |agg ys' hys=>rw[run_equalIn_struct w d t xs' ys' (by simp [Program.fieldsOf,hu]) (by simpa using hst)];simp only[Program.fieldsOf,hu];exact Nv hxs hys ih _ _ h w
  case h_12 ms tx vx ty vy=>
   cases hx with
   |iface _ hvx=>
    cases hy with
    |iface _ hvy=>split at h;{rename_i hne;cases h;simp [Op.equalIn,af hu,hne]};rename_i heq;have heq:tx=ty:=(by simpa using heq);subst heq;split at h;{rename_i i hi;split at h;{rename_i hc;simp only[Op.equalIn,aQ,af hu,aZ];simp [fK hi,hc,ih _ _ _ _ _ _ h hvx hvy]};cases h};cases h
  case h_2 k a k' b'=>
   cases hx;cases hy;split at h;{rename_i hk;cases h;subst hk;simp [Op.equalIn,af hu]};cases h
  case h_3 a b'=>
   cases hx;cases hy;cases h;simp [Op.equalIn,af hu,rb]
  case h_5 e i v o _ i' v' o' _=>
   cases hx with
   |ptr e1 p he hd hh ho=>
    cases hy with
    |ptr e2 q he' hd' hh' ho'=>
     split at h
     ·rename_i m hs;split at h
      ·rename_i hb;rw[al]at hb;have e1:=ae hb.1;have e2:=ae hb.2;subst e1;subst e2;rw[he]at he';cases he';simp only[aw]at h;have:(p=q)↔(o=o'):=(by omega);rw[←h];have hb':(({block:=e1.blk,off:=p,spot:=none}:Addr)=={block:=e1.blk,off:=q,spot:=none})=Nat.beq o o':=by
        rw[Bool.eq_iff_iff];simp [this]
       simp only[Op.equalIn,aQ,af hu,aZ,aN hs];simp [sameAddr,hb']
      cases h
     cases h
  case h_6 n e xs ys=>
   cases hx with
   |agg xs' hxs=>
    cases hy with
    |agg ys' hys=>split at h;{rename_i s hs;obtain⟨i,hi,hc⟩:=rM hs;rw[run_equalIn_array w d xs' ys' hu hi,hc,List.range_eq_range'];exact Nw hxs hys ih _ _ _ h w};cases h
  all_goals (first|(cases h;done)|(cases h;cases hx;cases hy;simp [Op.equalIn,af hu]))
omit [Val]in
theorem vN{d:Nat}{t:TypeId}{x y:AV}{b:Bool}(h:uh P dec d t x y=some b)(hs:(ft x||ft y)=false):
 x≠.unk∧y≠.unk∧x≠.anyp∧y≠.anyp∧(∀e,x≠.sslc e)∧(∀e,y≠.sslc e)∧(∀e,x≠.sstr e)∧(∀e,y≠.sstr e)∧(∀k i v s e f,x≠.opq k i v s e f)∧(∀k i v s e f,y≠.opq k i v s e f):=by
 cases d with
 |zero=>simp [uh]at h
 |succ d=>simp only[uh]at h;split at h;{cases h};simp only[hs,cond_false]at h;refine⟨?_,?_,?_,?_,fun e=> ?_,fun e=> ?_,fun e=> ?_,fun e=> ?_,fun k i v s e f=> ?_,fun k i v s e f=> ?_⟩<;>(rintro rfl;split at h<;>simp_all)
omit [Val]in
theorem Db:∀(a b:List UInt8),je a b=Op.bytesLess a b:=by
 intro a
 induction a with
 |nil=>intro b;cases b<;>simp [je,Op.bytesLess]
 |cons x a ih=>intro b;cases b<;>simp [je,Op.bytesLess,ih]
theorem GY{op:BinOp}{t:TypeId}{x y v:AV}{x' y':Value}(h:GZ op x y=some v)(hx:VR φ x x')(hy:VR φ y y'):
 ∃v',(∀w,(binOp op t x' y').run P w=.ok v' w)∧VR φ v v':=by
 unfold GZ at h;split at h;{rename_i k a k' b h1 h2;have e1:=eo h1 hx;have e2:=eo h2 hy;subst e1;subst e2;unfold G0 at h;split at h;{split at h;{rename_i n;cases h;refine⟨_,fun w=> ?_,.sym _ _⟩;have hb:¬((n:Int)<0):=(by omega);simp [binOp,Op.shift,Sx.eval_bin,Sx.eval_lit,bu,bq,hb]};cases h};{split at h;{rename_i n;cases h;refine⟨_,fun w=> ?_,.sym _ _⟩;have hb:¬((n:Int)<0):=(by omega);simp [binOp,Op.shift,Sx.eval_bin,Sx.eval_lit,bu,hb]};cases h};rename_i g1 g2;split at h;{cases h};rename_i hk;have hk:k=k':=(by simpa using hk);subst hk;split at h;{split at h;{rename_i n;split at h;{cases h};rename_i hn;cases h;refine⟨_,fun w=> ?_,.sym _ _⟩;simp [binOp,Op.intDiv,Sx.eval_bin,Sx.eval_lit,bu,hn,bq]};cases h};{split at h;{rename_i n;split at h;{cases h};rename_i hn;cases h;refine⟨_,fun w=> ?_,.sym _ _⟩;simp [binOp,Op.intDiv,Sx.eval_bin,Sx.eval_lit,bu,hn]};cases h};{cases h;refine⟨_,fun w=> ?_,.sym _ _⟩;simp [binOp,Op.intArith,Sx.eval_bin,bu,bq]};{cases h;refine⟨_,fun w=> ?_,.sym _ _⟩;simp [binOp,Op.intArith,Sx.eval_bin,bu,bq]};{cases h;refine⟨_,fun w=> ?_,.sym _ _⟩;simp [binOp,Op.intArith,Sx.eval_bin,bu,bq]};{cases h;refine⟨_,fun w=> ?_,.sym _ _⟩;simp [binOp,Op.intBits,Sx.eval_bin,bu,gf,bq]};{cases h;refine⟨_,fun w=> ?_,.sym _ _⟩;simp [binOp,Op.intBits,Sx.eval_bin,bu,gf,bq]};{cases h;refine⟨_,fun w=> ?_,.sym _ _⟩;simp [binOp,Op.intBits,Sx.eval_bin,bu,gf,bq]};{cases h;refine⟨_,fun w=> ?_,.sym _ _⟩;simp [binOp,Op.intBits,Sx.eval_bin,bu,gf,bq]};{simp only[aw,ai]at h;split at h;{rename_i hs;subst h;rw[Sx.same_eq hs];exact⟨_,fun w=>by simp [binOp,Op.intCmp],.bool _⟩};subst h;refine⟨_,fun w=> ?_,.symb _⟩;simp [binOp,Op.intCmp,Bx.eval,cX]};{simp only[aw,ai]at h;split at h;{rename_i hs;subst h;rw[Sx.same_eq hs];exact⟨_,fun w=>by simp [binOp,Op.intCmp],.bool _⟩};subst h;refine⟨_,fun w=> ?_,.symb _⟩;simp [binOp,Op.intCmp,Bx.eval,cX]};{cases h;refine⟨_,fun w=> ?_,.symb _⟩;simp [binOp,Op.intCmp,Bx.eval,cX]};{cases h;refine⟨_,fun w=> ?_,.symb _⟩;simp [binOp,Op.intCmp,Bx.eval,cX]};{cases h;refine⟨_,fun w=> ?_,.symb _⟩;simp [binOp,Op.intCmp,Bx.eval,cX]};{cases h;refine⟨_,fun w=> ?_,.symb _⟩;simp [binOp,Op.intCmp,Bx.eval,cX]};cases h};split at h;{rename_i a b h1 h2;obtain⟨s1,e1,g1⟩:=qY h1 hx;obtain⟨s2,e2,g2⟩:=qY h2 hy;subst e1;subst e2;unfold NK at h;split at h;{simp only[aw,ai]at h;split at h;{rename_i hs;subst h;rw[Sx.same_eq hs,g2]at g1;simp only[Dat.str.injEq]at g1;exact⟨_,fun w=>by simp [binOp,Op.stringOp,g1],.bool _⟩};subst h;refine⟨_,fun w=> ?_,.symb _⟩;simp [binOp,Op.stringOp,ByteArray.toList_eq,Bx.eval,g1,g2,Dat.toS]};{simp only[aw,ai]at h;split at h;{rename_i hs;subst h;rw[Sx.same_eq hs,g2]at g1;simp only[Dat.str.injEq]at g1;exact⟨_,fun w=>by simp [binOp,Op.stringOp,g1],.bool _⟩};subst h;refine⟨_,fun w=> ?_,.symb _⟩;simp [binOp,Op.stringOp,ByteArray.toList_eq,Bx.eval,g1,g2,Dat.toS]};cases h};cases h
set_option maxHeartbeats 4000000 in
theorem rE(hdec:∀b v,dec b=some v→b.eval=v){op:BinOp}{t:TypeId}{x y v:AV}{x' y':Value}(h:Df P dec op t x y=some v)(hx:VR φ x x')(hy:VR φ y y'):
 ∃v',(∀w,(binOp op t x' y').run P w=.ok v' w)∧VR φ v v':=by
 unfold Df at h;simp only[ai]at h;split at h;{exact GY h hx hy};rename_i hsy;replace hsy:(ft x||ft y)=false:=Bool.not_eq_true _▸hsy;split at h
 ·rename_i k a k' b;cases hx;cases hy;split at h;{simp only[decide_eq_true_eq]at h;split at h;{cases h};rename_i hb;cases h;refine⟨_,fun w=> ?_,.int _ _⟩;simp [binOp,Op.shift,hb,bq]};{simp only[decide_eq_true_eq]at h;split at h;{cases h};rename_i hb;cases h;refine⟨_,fun w=> ?_,.int _ _⟩;simp [binOp,Op.shift,hb]};rename_i h1 h2;split at h;{cases h};rename_i hk;have hk:k=k':=(by simpa using hk);subst hk;cases op<;>simp only[]at h<;>first
   |exact absurd rfl h1
   |exact absurd rfl h2
   |(cases h;refine⟨_,fun w=> ?_,.int _ _⟩;simp [binOp,Op.intArith,bq];done)
   |(cases h;refine⟨_,fun w=> ?_,.int _ _⟩;simp [binOp,Op.intBits,gf,bq];done)
   |(cases h;refine⟨_,fun w=> ?_,.bool _⟩;simp [binOp,Op.intCmp];done)
   |(by_cases hb:b=0<;>simp only[hb,if_true,if_false,reduceCtorEq]at h;cases h;refine⟨_,fun w=> ?_,.int _ _⟩;simp [binOp,Op.intDiv,hb,bq])
 ·rename_i a b;cases hx;cases hy;split at h
  ·split at h
   ·rename_i hl;have hl:=aB hl;cases h;refine⟨.string ⟨⟨a++b⟩⟩,fun w=> ?_,.str _⟩;have h1:¬(((a.length+b.length:Nat):Int)>IntKind.i64.max):=(by simp [IntKind.max,IntKind.bits,IntKind.signed];omega);have h2:(⟨⟨a⟩⟩:ByteArray)++⟨⟨b⟩⟩=⟨⟨a++b⟩⟩:=by
     apply ByteArray.ext;simp
    have h3:(⟨⟨a⟩⟩:ByteArray).size=a.length:=rfl;have h4:(⟨⟨b⟩⟩:ByteArray).size=b.length:=rfl;simp only[binOp,Op.stringOp,h3,h4,if_neg h1,h2];rfl
   cases h
  all_goals first
   |(cases h;done)
   |(cases h;refine⟨_,fun w=> ?_,.bool _⟩;simp [binOp,Op.stringOp,ByteArray.toList_eq,Db];done)
 rename_i hn1 hn2;split at h
 ·split at h
  ·rename_i b he;cases h;refine⟨.bool b,fun w=> ?_,.bool _⟩;have:=Kr hdec _ _ _ _ _ _ _ he hx hy w;obtain⟨u1,u2,u3,u4,u5,u6,u7,u8,u9,u10⟩:=vN he hsy;cases hx<;>cases hy<;>first
    |exact absurd rfl u1
    |exact absurd rfl u2
    |exact absurd rfl u3
    |exact absurd rfl u4
    |exact absurd rfl (u5 _)
    |exact absurd rfl (u6 _)
    |exact absurd rfl (u7 _)
    |exact absurd rfl (u8 _)
    |exact absurd rfl (u9 _ _ _ _ _ _)
    |exact absurd rfl (u10 _ _ _ _ _ _)
    |(simp [ft]at hsy;done)
    |exact absurd rfl (hn1 _ _ _ _ · rfl)
    |(simp [binOp,Op.equal,Op.maxDepth,this];done)
    |(exfalso;exact hn1 _ _ _ _ rfl rfl)
    |(exfalso;exact hn2 _ _ rfl rfl)
  cases h
 ·split at h
  ·rename_i b he;cases h;refine⟨.bool (!b),fun w=> ?_,.bool _⟩;have:=Kr hdec _ _ _ _ _ _ _ he hx hy w;obtain⟨u1,u2,u3,u4,u5,u6,u7,u8,u9,u10⟩:=vN he hsy;cases hx<;>cases hy<;>first
    |exact absurd rfl u1
    |exact absurd rfl u2
    |exact absurd rfl u3
    |exact absurd rfl u4
    |exact absurd rfl (u5 _)
    |exact absurd rfl (u6 _)
    |exact absurd rfl (u7 _)
    |exact absurd rfl (u8 _)
    |exact absurd rfl (u9 _ _ _ _ _ _)
    |exact absurd rfl (u10 _ _ _ _ _ _)
    |(simp [ft]at hsy;done)
    |(simp [binOp,Op.equal,Op.maxDepth,this];done)
    |(exfalso;exact hn1 _ _ _ _ rfl rfl)
    |(exfalso;exact hn2 _ _ rfl rfl)
  cases h
 cases h
theorem Kp{op:BinOp}{t:TypeId}{x y:Operand}{a b:AV}{a' b':Value}(hop:op=.eql∨op=.neq)(h:Vh P t x y a b=true)(ha:VR φ a a')(hb:VR φ b b')(w:World):
 (eqGuard op t x y a' b').run P w=.ok () w:=by
 unfold Vh at h;split at h;{cases ha;cases hb;by_cases hc:(Region.isConst x||Region.isConst y)=true;{rcases hop with rfl|rfl<;>cases x<;>cases y<;>simp_all [eqGuard,Region.isConst]};rw[Bool.not_eq_true]at hc;rw[hc,Bool.false_or]at h;split at h;{rename_i ms hu;have hd:∀d,(Op.eqGuardIn (d+1) t .nilIface .nilIface).run P w=.ok false w:=fun d=>(by simp [Op.eqGuardIn,af hu,h]);have he:(Op.eqGuardIn Op.maxDepth t .nilIface .nilIface).run P w=.ok false w:=hd 9999;clear hd;rcases hop with rfl|rfl<;>cases x<;>cases y<;>simp_all [eqGuard,Region.isConst]};cases h};{cases h};{cases h};{cases h};{cases h};{cases ha;cases hb;rcases hop with rfl|rfl<;>simp_all [eqGuard]};rename_i hn1 hq1 hn3 hq2 hn4 hn2;rcases hop with rfl|rfl<;>cases ha<;>cases hb<;>first
  |(simp [eqGuard];done)
  |exact absurd rfl (hq1 _ _ _ _ _ _)
  |exact absurd rfl (hq2 _ _ _ _ _ _)
  |exact absurd rfl hn1
  |exact absurd rfl hn3
  |(exfalso;exact hn2 _ _ rfl rfl)
  |(exfalso;exact hn4 rfl rfl)
theorem lF{op:BinOp}{t:TypeId}{x y:Operand}{a b:AV}{a' b':Value}(h:fW P op t x y a b=true)(ha:VR φ a a')(hb:VR φ b b')(w:World):
 (eqGuard op t x y a' b').run P w=.ok () w:=by
 unfold fW at h;split at h;{exact Kp (.inl rfl) h ha hb w};{exact Kp (.inr rfl) h ha hb w};cases op<;>simp_all [eqGuard]
theorem OV{op:UnOp}{x v:AV}{x':Value}(h:VK op x=some v)(hx:VR φ x x'):
 ∃v',(∀w,(Op.unary op x').run P w=.ok v' w)∧VR φ v v':=by
 unfold VK at h;split at h;{cases hx;cases h;exact⟨_,fun w=>by simp [Op.unary,Op.intArith,bq],.int _ _⟩};{cases hx;cases h;exact⟨_,fun w=>by simp [Op.unary,Op.intBits,gf,bq],.int _ _⟩};{cases hx;cases h;exact⟨_,fun w=>by simp [Op.unary],.bool _⟩};{cases hx;cases h;exact⟨_,fun w=>by simp [Op.unary,Op.intArith,Sx.eval_bin,Sx.eval_lit,bu,bq],.sym _ _⟩};{cases hx;cases h;exact⟨_,fun w=>by simp [Op.unary,Op.intBits,Sx.eval_bin,Sx.eval_lit,bu,gf,bq],.sym _ _⟩};{cases hx;cases h;exact⟨_,fun w=>by simp [Op.unary,Bx.eval],.symb _⟩};cases h
end
end Go.Tw
namespace Go.Tw
section
variable[Val]
variable{P:Program}{R:Nat}{C:Cfg}{D:Nat→Prop}{φ:PM}{σ:St}{w:World}
structure EnvR(φ:PM)(nt:Nat)(env:Env)(a:Act):Prop where
 size:a.tmps.size=nt
 val:∀t v,env.tm.get t=some v→∃v',a.tmps[t]? =some v'∧VR φ v v'
theorem EnvR.mono{φ ψ:PM}{nt:Nat}{env:Env}{a:Act}(h:EnvR φ nt env a)(k:φ.le ψ):EnvR ψ nt env a:=
 ⟨h.size,fun t v hv=>let⟨v',h1,h2⟩:=h.val t v hv;⟨v',h1,h2.mono k⟩⟩
theorem HB(hp:∀e n,C.pin e=some n→e.eval=n)(hd:∀b v,C.dec b=some v→b.eval=v){v:AV}{v':Value}(h:VR φ v v'):VR φ (C.res v) v':=by unfold Cfg.res;split;{split;{rename_i hq;cases h;rw[hp _ _ hq];exact .int _ _};exact h};{split;{rename_i hq;cases h;rw[hd _ _ hq];exact .bool _};exact h};exact h
theorem fV{nt:Nat}{env:Env}{a:Act}(he:EnvR φ nt env a)(hi:Inv R C D φ σ w){x:Operand}{v:AV}(h:aD C env x=some v):VR φ v (a.eval x):=by
 cases x with
 |tmp t=>simp only[aD]at h;split at h;{rename_i u hu;cases h;obtain⟨v',h1,h2⟩:=he.val t u hu;simpa[Act.eval,h1]using HB hi.pin hi.dec h2};cases h
 |const c=>exact Es _ _ _ h
 |global g=>simp only[aD]at h;split at h;{rename_i n hn;cases h;obtain⟨e,h1,h2,h3,h4,h5⟩:=hi.gl g n hn;have:=VR.ptr (φ:=φ) (id:=g) (ver:=0) (off:=0) (hi:=n) e 0 h1 (by omega) h5 (by omega);rw[h2]at this;exact this};cases h
 |func f=>simp only[aD,aw]at h;subst h;exact .fn _ _ _ .nil .nil
theorem og{nt:Nat}{env:Env}{a:Act}(he:EnvR φ nt env a)(hi:Inv R C D φ σ w):∀{l:List Operand} {r:List AV},kz C env l=some r→VRL φ r (l.map a.eval):=by
 intro l
 induction l with
 |nil=>intro r h;simp only[kz,aw]at h;subst h;exact .nil
 |cons x l ih=>intro r h;simp only[kz]at h;split at h;{rename_i v hv;split at h;{rename_i r' hr;cases h;exact .cons (fV he hi hv) (ih hr)};cases h};cases h
def yG(φ:PM):Option AV→Option Value→Prop
 |none,none=>True
 |some v,some v'=>VR φ v v'
 |_,_=>False
theorem mO{nt:Nat}{env:Env}{a:Act}(he:EnvR φ nt env a)(hi:Inv R C D φ σ w){x:Option Operand}{r:Option AV}(h:hI C env x=some r):yG φ r (x.map a.eval):=by
 cases x with
 |none=>simp only[hI,aw]at h;subst h;trivial
 |some x=>simp only[hI]at h;split at h;{rename_i v hv;cases h;exact fV he hi hv};cases h
inductive PR (φ:PM):List (Nat×AV)→List (Nat×Value)→Prop
 |nil:PR φ [] []
 |cons {i:Nat} {v:AV} {v':Value} {l:List (Nat×AV)} {l':List (Nat×Value)} (h:VR φ v v') (t:PR φ l l'):PR φ ((i,v)::l) ((i,v')::l')
theorem oe{nt:Nat}{env:Env}{a:Act}(he:EnvR φ nt env a)(hi:Inv R C D φ σ w):∀{l:List (Nat×Operand)} {r:List (Nat×AV)},fw C env l=some r→
 PR φ r (l.map fun p=>(p.1,a.eval p.2)):=by
 intro l
 induction l with
 |nil=>intro r h;simp only[fw,aw]at h;subst h;exact .nil
 |cons x l ih=>intro r h;obtain⟨i,x⟩:=x;simp only[fw]at h;split at h;{rename_i v hv;split at h;{rename_i r' hr;cases h;exact .cons (fV he hi hv) (ih hr)};cases h};cases h
omit [Val]in
theorem F5(vs:List Value):∀(k off:Nat) (cs:Array Value),off+k+vs.length≤cs.size→
 ((vs.zipIdx k).foldl (fun cs (c,j)=>cs.setIfInBounds (off+j) c) cs)=(cs.toList.take (off+k)++vs++cs.toList.drop (off+k+vs.length)).toArray:=by
 induction vs with
 |nil=>intro k off cs _;simp
 |cons v vs ih=>intro k off cs h;simp only[List.zipIdx_cons,List.foldl_cons];rw[ih (k+1) off (cs.setIfInBounds (off+k) v) (by simp at h⊢;omega)];congr 1;have hk:off+k<cs.toList.length:=(by simp at h⊢;omega);simp only[Array.toList_setIfInBounds,List.length_cons];rw[show off+(k+1)=off+k+1 by omega,List.take_set,List.drop_set_of_lt (by omega)];rw[List.take_succ_eq_append_getElem hk,List.set_append_right _ _ (by simp;omega)];have e1:(cs.toList.take (off+k)).length=off+k:=(by simp at hk⊢;omega);rw[e1,Nat.sub_self,show off+k+1+vs.length=off+k+(vs.length+1) by omega];simp
theorem VRL.splice{l vs:List AV}{l' vs':List Value}(h:VRL φ l l')(k:VRL φ vs vs')(off:Nat):
 VRL φ (splice l off vs) (l'.take off++vs'++l'.drop (off+vs'.length)):=by
 rw[ib,k.length];exact((h.take off).append k).append (h.drop _)
omit [Val]in
theorem cH{α:Type}{l vs:List α}{off:Nat}(h:off+vs.length≤l.length):(splice l off vs).length=l.length:=by simp [ib];omega
theorem tF{place:Nat→Option (Nat×Nat)}:∀{ps:List (Nat×AV)} {ps':List (Nat×Value)} {cs r:List AV} {cs':Array Value},PR φ ps ps'→VRL φ cs cs'.toList→
 tG place cs ps=some r→∃r',Instr.fill place cs' ps'=some r'∧VRL φ r r'.toList∧r.length=cs.length:=by
 intro ps
 induction ps with
 |nil=>intro ps' cs r cs' hp hc h;cases hp;simp only[tG,aw]at h;subst h;exact⟨cs',rfl,hc,rfl⟩
 |cons p ps ih=>
  intro ps' cs r cs' hp hc h;cases hp with
  |cons hv ht=>
   rename_i i v v' l';simp only[tG]at h;split at h;{cases h};rename_i off size hpl;simp only[ai,al]at h;split at h
   ·rename_i hb;have h1:=ae hb.1;have h2:=aB hb.2;have hvc:=hv.cells;have hl1:=hvc.length;have hl2:=hc.length;have e1:v'.cells.size=size:=(by simpa[h1]using hl1);have e2:cs'.size=cs.length:=(by simpa using hl2);have hnot:¬(v'.cells.size≠size||decide (off+v'.cells.size>cs'.size))=true:=(by simp;omega);simp only[Instr.fill,hpl,if_neg hnot];have hset:=F5 v'.cells.toList 0 off cs' (by simp;omega);have hz:v'.cells.zipIdx.foldl (fun cs (x:Value×Nat)=>cs.setIfInBounds (off+x.2) x.1) cs'=(v'.cells.toList.zipIdx 0).foldl (fun cs (x:Value×Nat)=>cs.setIfInBounds (off+x.2) x.1) cs':=by
     rw[←Array.foldl_toList];simp
    obtain⟨r',g1,g2,g3⟩:=ih (cs':=v'.cells.zipIdx.foldl (fun cs (x:Value×Nat)=>cs.setIfInBounds (off+x.2) x.1) cs') ht (by rw[hz,hset];have:=hc.splice hvc off;simpa using this) h;exact⟨r',g1,g2,g3.trans (cH (by rw[h1];exact h2))⟩
   cases h
omit [Val]in
theorem BY:∀{fs:List Field} {ps:List (Nat×Nat)},nG P fs=some ps→∀w,(fs.mapM fun f=>do pure (f.offset,←sizeOf f.type):Sem (List (Nat×Nat))).run P w=.ok ps w:=by
 intro fs
 induction fs with
 |nil=>intro ps h w;simp only[nG,aw]at h;subst h;rfl
 |cons f fs ih=>intro ps h w;simp only[nG]at h;split at h;{rename_i n r hn hr;cases h;simp only[List.mapM_cons,aQ,aN hn,aZ,ih hr,Sem.run_pure]};cases h
theorem Gu{t:TypeId}{ps:List (Nat×AV)}{ps':Array (Nat×Value)}{v:AV}(hp:PR φ ps ps'.toList)(h:yp P t ps=some v):
 ∃v',(∀w,(Instr.build t ps').run P w=.ok v' w)∧VR φ v v':=by
 unfold yp at h;split at h;{rename_i z hz;obtain⟨z',rz,vz⟩:=gI hz;split at h;{rename_i fs hu;split at h;{rename_i pl hpl;split at h;{rename_i l hl;cases h;obtain⟨r',h1,h2,_⟩:=tF hp (vz φ).cells hl;refine⟨.agg r',fun w=> ?_,.agg _ h2⟩;have hm:=BY hpl w;simp only[Instr.build,aQ,rz,af hu,aZ];rw[Array.mapM_eq_mapM_toList];simp only[Sem.run_map,hm,aZ];simp [h1]};cases h};cases h};{rename_i n e hu;split at h;{rename_i s hs;split at h;{rename_i l hl;cases h;obtain⟨r',h1,h2,_⟩:=tF hp (vz φ).cells hl;refine⟨.agg r',fun w=> ?_,.agg _ h2⟩;simp only[Instr.build,aQ,rz,af hu,aZ,aN hs];simp [h1]};cases h};cases h};cases h};cases h
theorem Aj{x v:AV}{x':Value}{i:Nat}(h:oa x i=some v)(hx:VR φ x x'):∃v',(∀w,(Instr.extract x' i).run P w=.ok v' w)∧VR φ v v':=by
 unfold oa at h;split at h
 ·cases hx with
  |tup l' hl=>obtain⟨v',h1,h2⟩:=hl.get h;have h1:l'[i]? =some v':=(by simpa using h1);exact⟨v',fun w=>by simp [Instr.extract,h1],h2⟩
 cases h
theorem Ga{t:TypeId}{x v:AV}{x':Value}{f:Nat}(h:yf P t x f=some v)(hx:VR φ x x'):∃v',(∀w,(Instr.field t x' f).run P w=.ok v' w)∧VR φ v v':=by
 unfold yf at h;split at h
 ·rename_i fs cs hu;cases hx with
  |agg cs' hc=>split at h;{rename_i fd hf;obtain⟨v',h1,h2⟩:=jJ (φ:=φ) h hc;exact⟨v',fun w=>by simp [Instr.field,af hu,hf,asAgg,h1],h2⟩};cases h
 cases h
omit [Val]in
theorem CO{i:Int}{n k:Nat}(h:idx i n=some k):i=(k:Int)∧k<n:=by unfold idx at h;split at h;{simp only[ai]at h;split at h;{rename_i hb;cases h;exact⟨rfl,aR hb⟩};cases h};cases h
omit [Val]in
theorem Dm{i:Int}{n k:Nat}(h:upto i n=some k):i=(k:Int)∧k≤n:=by unfold upto at h;split at h;{simp only[ai]at h;split at h;{rename_i hb;cases h;exact⟨rfl,aB hb⟩};cases h};cases h
omit [Val]in
theorem cY{dec:Bx→Option Bool}{b:Bx}(h:ml dec b=true):dec b=some true:=by unfold ml at h;split at h;{assumption};cases h
omit [Val]in
theorem Gt{s:List UInt8}{k:Nat}{b:UInt8}(hb:s[k]? =some b):(⟨⟨s⟩⟩:ByteArray)[k]? =some b:=by
 have hlt:k<s.length:=by rcases aS k s.length with h|h;{exact h};simp [bZ h]at hb
 rw[bC hlt]at hb;simp only[aw]at hb;have hsz:k<(⟨⟨s⟩⟩:ByteArray).size:=hlt;rw[getElem?_pos (⟨⟨s⟩⟩:ByteArray) k hsz];exact congrArg some hb
theorem jB{e:Sx}{s:List UInt8}(hs:e.dat=.str s):(bR e).eval=s.length:=by simp [Sx.eval,bR,Sx.dat,IM,hs,Dat.toS,Dat.toI]
theorem AO{dec:Bx→Option Bool}(hdec:∀b v,dec b=some v→b.eval=v){e i:Sx}{v:AV}(h:El dec e i=some v){s:List UInt8}(hs:e.dat=.str s)
 {t:TypeId}(hu:P.underlying t=some .string){k:IntKind}:∃v',(∀w,(Instr.index t (.string ⟨⟨s⟩⟩) (.int k i.eval)).run P w=.ok v' w)∧VR φ v v':=by
 simp only[El,ai,al]at h;split at h
 ·rename_i hb;cases h;have h1:=hdec _ _ (cY hb.1);have h2:=hdec _ _ (cY hb.2);simp only[Bx.eval,cX,decide_eq_true_eq,jB hs]at h1 h2;have h1:0≤i.eval:=h1;obtain⟨n,hn⟩:∃n:Nat,i.eval=n:=⟨i.eval.toNat,by omega⟩;have hlt:n<s.length:=(by omega);have hg:s[n]? =some s[n]:=bC hlt;refine⟨.int .u8 (s[n].toNat:Int),fun w=> ?_,?_⟩;{rw[hn];simp [Instr.index,asIntOf,af hu,Gt hg]};have he:(Sx.pr 1 e i).eval=(s[n].toNat:Int):=by
   have hi:i.dat.toI=(n:Int):=hn;show(match e.dat.toS[i.dat.toI.toNat]? with
    |some c=>(c.toNat:Int)
    |none=>0)=_
   rw[hi,hs,Int.toNat_natCast];show(match s[n]? with
    |some c=>(c.toNat:Int)
    |none=>0)=_
   rw[hg]
  rw[←he];exact .sym _ _
 cases h
theorem FX{dec:Bx→Option Bool}(hdec:∀b v,dec b=some v→b.eval=v){t:TypeId}{x i v:AV}{x' i':Value}(h:xX P dec t x i=some v)(hx:VR φ x x')(hi:VR φ i i'):∃v',(∀w,(Instr.index t x' i').run P w=.ok v' w)∧VR φ v v':=by
 unfold xX at h;split at h
 ·rename_i k i;cases hi;split at h
  ·rename_i n e cs hu;cases hx with
   |agg cs' hc=>split at h;{rename_i s k hs hk;obtain⟨rfl,hlt⟩:=CO hk;obtain⟨v',h1,h2⟩:=jJ (φ:=φ) h hc;refine⟨v',fun w=> ?_,h2⟩;have hc:(0:Int)≤(k:Int)∧(k:Int)<(n:Int):=(by omega);simp only[Instr.index,aQ,asIntOf,Sem.run_pure,aZ,af hu];rw[if_pos hc];simp [aN hs,h1]};cases h
  ·rename_i l hu;cases hx;split at h
   ·rename_i k;split at h
    ·rename_i b hb;cases h;refine⟨_,fun w=> ?_,.int _ _⟩;have hb':(⟨⟨l⟩⟩:ByteArray)[k]? =some b:=by
      have hlt:k<l.length:=(by rcases aS k l.length with h|h;{exact h};simp [bZ h]at hb);rw[bC hlt]at hb;simp only[aw]at hb;have hsz:k<(⟨⟨l⟩⟩:ByteArray).size:=hlt;rw[getElem?_pos (⟨⟨l⟩⟩:ByteArray) k hsz];exact congrArg some hb
     simp [Instr.index,asIntOf,af hu,hb']
    cases h
   cases h
  ·rename_i e hu;cases hx with
   |vstr s hs=>exact AO hdec h hs hu
  cases h
 ·rename_i k i;cases hi;split at h
  ·rename_i e hu;cases hx with
   |vstr s hs=>exact AO hdec h hs hu
  cases h
 cases h
theorem uw{t:TypeId}{x i v:AV}{x' i':Value}(h:ka P t x i=some v)(hx:VR φ x x')(hi:VR φ i i'):
 ∃v',(∀w,(Instr.indexAt t x' i').run P w=.ok v' w)∧VR φ v v':=by
 unfold ka at h;split at h
 ·rename_i k i;cases hi;split at h
  ·rename_i n e id ver off top hu;cases hx with
   |ptr ex o he hd hh ho=>split at h;{rename_i s k hs hk;simp only[ai]at h;split at h;{rename_i hb;have hb:=aB hb;cases h;obtain⟨rfl,hlt⟩:=CO hk;refine⟨.pointer (some ⟨ex.blk,o+k*s,none⟩),fun w=> ?_,.ptr ex (o+k*s) he (by omega) (by omega) (by omega)⟩;have hc:(0:Int)≤(k:Int)∧(k:Int)<(n:Int):=(by omega);simp only[Instr.indexAt,Instr.sureAddr,aQ,asIntOf,Sem.run_pure,aZ,af hu];rw[if_pos hc];simp [aN hs,cT]};cases h};cases h
  ·rename_i e id ver off len cap esz hu;cases hx with
   |slc ex o c he hd hh hl hc ho=>split at h;{rename_i s k hs hk;simp only[ai]at h;split at h;{rename_i hb;have hb:=ae hb;subst hb;cases h;obtain⟨rfl,hlt⟩:=CO hk;have hc0:c≠0:=(by omega);obtain⟨ho1,ho2⟩:=ho.resolve_left hc0;have hm:(k+1)*s≤len*s:=ig s (by omega);refine⟨.pointer (some ⟨ex.blk,o+k*s,none⟩),fun w=> ?_,.ptr ex (o+k*s) he (by omega) (by omega) (by omega)⟩;have hc:(0:Int)≤(k:Int)∧(k:Int)<(len:Int):=(by omega);simp only[Instr.indexAt,aQ,asIntOf,Sem.run_pure,aZ,af hu];rw[if_pos hc];simp [aN hs,cT]};cases h};cases h
  cases h
 cases h
theorem ux{t:TypeId}{x v:AV}{x':Value}{f:Nat}(h:kc P t x f=some v)(hx:VR φ x x'):
 ∃v',(∀w,(Instr.fieldAt t x' f).run P w=.ok v' w)∧VR φ v v':=by
 unfold kc at h;split at h
 ·rename_i id ver off top;cases hx with
  |ptr ex o he hd hh ho=>split at h;{rename_i fs hu;split at h;{rename_i fd hf;split at h;{rename_i n hn;simp only[ai]at h;split at h;{cases h};rename_i hn0;split at h;{rename_i hb;have hb:=aB hb;cases h;refine⟨.pointer (some ⟨ex.blk,o+fd.offset,none⟩),fun w=> ?_,.ptr ex _ he (by omega) hh (by omega)⟩;have hn1:n≠0:=(by simpa using hn0);simp [Instr.fieldAt,Instr.sureAddr,af hu,hf,fieldPlace,aN hn,hn1,cT]};cases h};cases h};cases h};cases h
 cases h
end
end Go.Tw
namespace Go.Tw
section
variable[Val]
variable{P:Program}{R:Nat}{C:Cfg}{D:Nat→Prop}{φ:PM}{σ:St}{w:World}
omit [Val]in
theorem jS{α:Type}{l vs:List α}{off:Nat}(h:off+vs.length≤l.length)(x:Nat):
 (splice l off vs)[x]? =if x<off then l[x]? else if x<off+vs.length then vs[x - off]? else l[x]? :=by
 rw[ib];have h1:(l.take off).length=off:=by simp;omega
 split;{rename_i hx;rw[List.append_assoc,List.getElem?_append_left (by omega),ij hx]};rename_i hx;rw[List.append_assoc,List.getElem?_append_right (by omega),h1];split;{rename_i hy;rw[List.getElem?_append_left (by omega)]};rename_i hy;rw[List.getElem?_append_right (by omega),fc];congr 1;omega
omit [Val]in
theorem kL{α:Type}(l:List α){L a n:Nat}(h:a+n≤L):((l.take L).drop a).take n=(l.drop a).take n:=by rw[List.drop_take,List.take_take];congr 1;omega
theorem yH{id ver:Nat}{o:Ob}{c:List AV}{e:Ext}(hr:Rep R φ w id (some o))(hv:o.view ver=some c)(he:φ id ver=some e):
 ∃cs t fr,w.heap[e.blk]? =some (.cells cs t fr)∧∀off n l q,e.dn≤off→off+n≤e.hi→cut c off n=some l→q+e.dn=off+e.up→
  (n=0∨q+n≤cs.size)∧VRL φ l ((cs.toList.drop q).take n):=by
 cases o with
 |box b bt=>simp only[Ob.view,ai]at hv;split at hv;{rename_i hb;have:=ae hb;subst this;simp only[aw]at hv;subst hv;obtain⟨hR,e',cs,fl,fh,he',hb,h1,h2,h3,h4,h5,_⟩:=hr;rw[he]at he';simp only[aw]at he';subst he';refine⟨cs,bt,_,hb,fun off n l q a1 a2 a3 a4=> ?_⟩;obtain⟨rfl,_⟩:=kh a3;have:q=off:=(by omega);subst this;have hl:=h5.length;exact⟨.inr (by simp at hl;omega),(h5.drop q).take n⟩};cases hv
 |ro b=>simp only[Ob.view,ai]at hv;split at hv;{rename_i hb;have:=ae hb;subst this;simp only[aw]at hv;subst hv;obtain⟨e',cs,t,fr,he',hb,h1,h2,h3⟩:=hr;rw[he]at he';simp only[aw]at he';subst he';refine⟨cs,t,fr,hb,fun off n l q a1 a2 a3 a4=> ?_⟩;obtain⟨rfl,hn⟩:=kh a3;have hq:q=e.up+off:=(by omega);subst hq;by_cases hn0:n=0;{subst hn0;exact⟨.inl rfl,by simp;exact .nil⟩};have hlen:off+n≤b.length:=(by simp at hn;omega);refine⟨.inr (by omega),?_⟩;have:=(h3.drop off).take n;rw[kL _ hlen,List.drop_drop]at this;exact this};cases hv
 |arr b base lim since nv et=>have ha:dQ base since nv ver∧(∃L,L=bJ base lim ver e∧∀off n l,off+n≤e.hi→cut c off n=some l→n≠0→off+n≤L∧l=(b.drop off).take n∧l.length=n):=(by simp only[Ob.view,ai,al]at hv;split at hv;{rename_i hb;have:=ae hb;subst this;simp only[aw]at hv;subst hv;refine⟨.inl rfl,_,rfl,fun off n l h1 h2 h3=> ?_⟩;obtain⟨rfl,hn⟩:=kh h2;have:off+n≤lim:=(by simp at hn;omega);exact⟨by simpa[bJ]using this,kL _ this,hn⟩};rename_i hb;have hb:ver≠base:=fun h=>hb (by simp [h]);split at hv;{rename_i hc;simp only[aw]at hv;subst hv;refine⟨.inr ⟨aB hc.1,aR hc.2⟩,_,rfl,fun off n l h1 h2 h3=> ?_⟩;obtain⟨rfl,hn⟩:=kh h2;exact⟨by simpa[bJ,hb]using h1,rfl,hn⟩};cases hv);obtain⟨hal,L,hL,hcut⟩:=ha;obtain⟨hR,g1,g2,g3,g4,g5,g6,_⟩:=hr;obtain⟨e',cs,fl,fh,he',hb,k1,k2,k3,k4,k5⟩:=g5 ver hal;rw[he]at he';simp only[aw]at he';subst he';refine⟨cs,et,_,hb,fun off n l q a1 a2 a3 a4=> ?_⟩;by_cases hn0:n=0;{subst hn0;obtain⟨rfl,_⟩:=kh a3;exact⟨.inl rfl,by simp;exact .nil⟩};obtain⟨h1,h2,h3⟩:=hcut off n l a2 a3 hn0;rw[←hL]at k2 k3 k5;have key:∀i v,i<n→l[i]? =some v→∃v',cs[q+i]? =some v'∧VR φ v v':=(by intro i v hi hv;rw[h2,ij hi,fc]at hv;obtain⟨v',y1,y2⟩:=k5 (off+i) v (by omega) (by omega) hv;refine⟨v',?_,y2⟩;rw[show q+i=off+i+e.up - e.dn by omega];exact y1);have hsz:q+n≤cs.size:=(by have hlast:n - 1<l.length:=(by omega);obtain⟨v',y1,_⟩:=key (n - 1) l[n - 1] (by omega) (bC hlast);have:q+(n - 1)<cs.size:=(by rcases aS (q+(n - 1)) cs.size with h|h;{exact h};simp [Array.getElem?_eq_none h]at y1);omega);refine⟨.inr hsz,VRL.of_get (by simp;omega) fun i v v' hv hv'=> ?_⟩;have hi:i<n:=(by rcases aS i l.length with h|h;{omega};simp [bZ h]at hv);obtain⟨u,y1,y2⟩:=key i v hi hv;rw[ij hi,fc]at hv';have:cs[q+i]? =some v':=(by simpa using hv');rw[y1]at this;simp only[aw]at this;subst this;exact y2
 |map es k=>simp [Ob.view]at hv
 |iter s p=>simp [Ob.view]at hv
 |miter=>simp [Ob.view]at hv
 |dead=>simp [Ob.view]at hv
 |dfr=>simp [Ob.view]at hv
 |loop=>simp [Ob.view]at hv
 |opq=>simp [Ob.view]at hv
theorem Inv.lt(hi:Inv R C D φ σ w){id:Nat}{o:Ob}(h:σ.heap.get id=some o):id<σ.next:=by rcases aS id σ.next with h'|h';{exact h'};rw[hi.dom id h']at h;cases h
theorem Inv.at(hi:Inv R C D φ σ w){id:Nat}{o:Ob}(h:σ.heap.get id=some o)(hd:D id):Rep R φ w id (some o):=h▸hi.rep id hd (hi.lt h)
theorem Inv.same{τ:St}(hi:Inv R C D φ σ w)(h1:τ.heap=σ.heap)(h2:τ.next=σ.next)(h3:τ.wr=σ.wr):Inv R C D φ τ w:=
 ⟨hi.wf,by rw[h2];exact hi.low,fun i hd' hn'=>by rw[h1];rw[h2]at hn';exact hi.rep i hd' hn',hi.gl,fun i hn'=>by rw[h1];rw[h2]at hn';exact hi.dom i hn',hi.pin,hi.dec,by rw[h3];exact hi.wrR,hi.ro,hi.oh⟩
theorem Post.from{τ σ':St}{φ':PM}{w':World}(hp:Post R D φ τ w σ' φ' w')(h2:τ.next=σ.next)(hw:τ.wr=σ.wr):Post R D φ σ w σ' φ' w' where
 le:=hp.le
 grow:=fun i h1 h3=>hp.grow i h1 (by rw[h2];exact h3)
 wrR:=fun i h=>by rw[←hw];exact hp.wrR i h
 wf:=hp.wf
 blk:=hp.blk
 rep:=fun i h=>hp.rep i (by rw[h2];exact h)
 frm:=hp.frm
theorem jC(hi:Inv R C D φ σ w){id ver off hi' n q:Nat}{l:List AV}{e:Ext}(h:mg σ id ver off hi' n=some l)(hd:D id)(he:φ id ver=some e)
 (h1:e.dn≤off)(h2:hi'≤e.hi)(h3:q+e.dn=off+e.up):
 ∃arr:Array Value,(∀w₂:World,w₂.heap=w.heap→(loadCells ⟨e.blk,q,none⟩ n).run P w₂=.ok arr w₂)∧VRL φ l arr.toList∧l.length=n∧(n=1→∃v,arr= #[v]∧w.cell? ⟨e.blk,q,none⟩=some v):=by
 obtain⟨ha,o,c,ho,hv,hc⟩:=gJ h;obtain⟨cs,t,fr,hb,hall⟩:=yH (hi.at ho hd) hv he;obtain⟨hn,hl⟩:=hall off n l q h1 (by omega) hc h3;have hlen:=(kh hc).2;by_cases hn0:n=0;{subst hn0;refine⟨#[],fun _ _=>by simp [loadCells,loadCellsFrom],?_,hlen,by omega⟩;have:l=[]:=List.length_eq_zero_iff.1 hlen;subst this;exact .nil};have hn:=hn.resolve_left hn0;refine⟨_,fun w₂ h₂=>cz (by rw[h₂];exact hb) hn,by simpa using hl,hlen,fun h1=> ?_⟩;subst h1;have hq:q<cs.size:=by omega
 refine⟨cs[q],?_,by rw[jO hb,Array.getElem?_eq_getElem hq]⟩;have hq':q<cs.toList.length:=by simpa using hq
 rw[List.drop_eq_getElem_cons hq'];simp
theorem nN(hi:Inv R C D φ σ w){t:TypeId}{a v:AV}{a':Value}{σ':St}(h:iF P t a σ=some (v,σ'))(ha:VR φ a a')(hk:Known D σ σ'):
 ∃v',(Instr.loadAt t a').run P w=.ok v' w∧VR φ v v'∧Post R D φ σ w σ' φ w:=by
 unfold iF at h;split at h
 ·rename_i id ver off top;cases ha with
  |ptr e q he hd hh ho=>
   split at h;·rename_i hagg;split at h;{rename_i n hn;split at h;{rename_i l hl;cases h;obtain⟨_,o,c,hoo,_⟩:=gJ hl;have hdd:D id:=hk id (.inl (aC.2 (.inl rfl))) (hi.lt hoo);obtain⟨arr,r1,r2,_⟩:=jC (P:=P) hi hl hdd he hd hh ho;exact⟨.agg arr,by simp [Instr.loadAt,Instr.sureAddr,loadVar,fL hagg,aN hn,r1 w rfl],.agg _ r2,.same hi rfl rfl rfl⟩};cases h};cases h
   ·rename_i hagg;split at h
    ·rename_i v0 hl;cases h;obtain⟨_,o,c,hoo,_⟩:=gJ hl;have hdd:D id:=hk id (.inl (aC.2 (.inl rfl))) (hi.lt hoo);obtain⟨arr,r1,r2,_,r3⟩:=jC (P:=P) hi hl hdd he hd hh ho;obtain⟨v',rfl,hc⟩:=r3 rfl;cases r2 with
     |cons hv _=>exact⟨v',by simp [Instr.loadAt,Instr.sureAddr,loadVar,fL hagg,hc],hv,.same hi rfl rfl rfl⟩
    cases h
   cases h
 cases h
theorem vV{id ver off q L nv et fl fh:Nat}{c c1:List AV}{vs:List AV}{vs':List Value}{e:Ext}{cs:Array Value}
 (hR:R≤id)(hv:VRL φ vs vs')(hone:∀v∈vs',v.oneCell'=true)(he:φ id ver=some e)(h1:e.dn≤off)(h3:q+e.dn=off+e.up)
 (hbk:w.heap[e.blk]? =some (.cells cs et (fl,fh)))(k1:cs.size=e.bsz)(k2:L≤e.hi)(k4:fl=fh∨e.bsz≤fl)
 (k5:∀x a,e.dn≤x→x<L→c[x]? =some a→∃a',cs[x+e.up - e.dn]? =some a'∧VR φ a a')(hc1:c1.length=L)(hcc:∀x,x<L→c1[x]? =c[x]?)
 (hn:0<vs.length)(hoff:off+vs.length≤L)(hver:ver<nv)(hnv:∀v,nv≤v→φ id v=none):
 ∃ob,(storeCells ⟨e.blk,q,none⟩ vs').run P w=.ok () (wset w e.blk ob)∧Rep R φ (wset w e.blk ob) id (some (.arr (splice c1 off vs) ver L nv nv et)):=by
 have hlen:=hv.length;have hcov:∀x,e.dn≤x→x<L→x+e.up - e.dn<cs.size:=by intro x x1 x2;have hx:c1[x]? =some c1[x]:=bC (by omega);rw[hcc x x2]at hx;obtain⟨a',y1,_⟩:=k5 x _ x1 x2 hx;rcases aS (x+e.up - e.dn) cs.size with h|h;{exact h};simp [Array.getElem?_eq_none h]at y1
 have hqs:q+vs'.length≤cs.size:=by have:=hcov (off+vs.length - 1) (by omega) (by omega);omega
 have hst:=fe (P:=P) (k:=q) vs' 0 cs w hbk (by simpa using hqs) hone (by intro y y1 y2 ⟨y3,y4⟩;simp only[Nat.add_zero]at y1 y2;omega);have hsp:(cs.toList.take (q+0)++vs'++cs.toList.drop (q+0+vs'.length))=splice cs.toList q vs':=by simp [ib]
 rw[hsp]at hst;have hqs':q+vs'.length≤cs.toList.length:=by simpa using hqs
 have hoff':off+vs.length≤c1.length:=by omega
 refine⟨_,hst,hR,?_,hver,aE _,hnv,?_,?_,?_⟩;{rw[cH hoff',hc1];exact aE _};{intro v hal;have hv':v=ver:=hal.resolve_right (by omega);subst hv';refine⟨e,_,fl,fh,he,ca _ _ _ (cR hbk),?_,?_,?_,k4,?_⟩;{have:=cH hqs';simp only[List.size_toArray];rw[this];simpa using k1};{simpa[bJ]using k2};{rw[cH hoff',hc1];simp [bJ]};intro x a x1 x2 hx;have x2:x<L:=(by simpa[bJ]using x2);rw[jS hoff']at hx;have hy:(splice cs.toList q vs').toArray[x+e.up - e.dn]? =(splice cs.toList q vs')[x+e.up - e.dn]? :=(by simp);rw[hy,jS hqs'];by_cases c1':x<off;{rw[if_pos c1',hcc x x2]at hx;rw[if_pos (by omega)];obtain⟨a',y1,y2⟩:=k5 x a x1 x2 hx;exact⟨a',by simpa using y1,y2⟩};rw[if_neg c1']at hx;rw[if_neg (by omega)];by_cases c2':x<off+vs.length;{rw[if_pos c2']at hx;rw[if_pos (by omega)];obtain⟨a',y1,y2⟩:=hv.get hx;exact⟨a',by rw[show x+e.up - e.dn - q=x - off by omega];exact y1,y2⟩};rw[if_neg c2',hcc x x2]at hx;rw[if_neg (by omega)];obtain⟨a',y1,y2⟩:=k5 x a x1 x2 hx;exact⟨a',by simpa using y1,y2⟩};{intro v₁ v₂ e₁ e₂ a1 a2 b1 b2 _;have h1:v₁=ver:=a1.resolve_right (by omega);have h2:v₂=ver:=a2.resolve_right (by omega);subst h1;subst h2;rw[b1]at b2;cases b2;exact⟨rfl,rfl⟩};intro v e' a1 a2 _ _;omega
theorem EK(hi:Inv R C D φ σ w){id ver off q:Nat}{o o':Ob}{vs:List AV}{vs':List Value}{e:Ext}(ho:σ.heap.get id=some o)(hd:D id)
 (h:o.write ver off vs=some o')(hf:vs.all AV.flat=true)(hv:VRL φ vs vs')(he:φ id ver=some e)(h1:e.dn≤off)(h3:q+e.dn=off+e.up):
 R≤id∧∃ob,(storeCells ⟨e.blk,q,none⟩ vs').run P w=.ok () (wset w e.blk ob)∧Rep R φ (wset w e.blk ob) id (some o'):=by
 have hr:=hi.at ho hd;have hlen:=hv.length;have hone:∀v∈vs',v.oneCell'=true:=by intro v hm;obtain⟨i,hi',rfl⟩:=List.getElem_of_mem hm;have hlt:i<vs.length:=(by omega);obtain⟨v',y1,y2⟩:=hv.get (bC hlt);rw[bC hi']at y1;simp only[aw]at y1;rw[y1];exact y2.oneCell (List.all_eq_true.1 hf _ (List.getElem_mem hlt))
 cases o with
 |box c bt=>simp only[Ob.write,ai,al]at h;split at h;{rename_i hb;have hv0:=ae hb.1;subst hv0;have hle:=aB hb.2;cases h;obtain⟨hR,e',cs,fl,fh,he',hbk,g1,g2,g3,g4,g5,g6⟩:=hr;rw[he]at he';cases he';have hq:q=off:=(by omega);subst hq;have hcl:=g5.length;have hst:=fe (P:=P) (k:=q) vs' 0 cs w hbk (by simp at hcl;omega) hone (by intro y _ _ ⟨y1,y2⟩;omega);refine⟨hR,_,hst,hR,e,_,fl,fh,he,ca _ _ _ (cR hbk),g1,g2,?_,?_,?_,?_⟩;{rw[cH hle];exact g3};{rw[cH hle];exact g4};{have:=g5.splice hv q;simpa using this};rw[cH hle];exact g6};cases h
 |arr c base lim since nv et=>obtain⟨hR,g1,g2,g3,g4,g5,g6,g7⟩:=hr;simp only[Ob.write,ai,al]at h;split at h;{rename_i hfn;have hn:=aR hfn;split at h;{rename_i hbb;have hbb:=ae hbb;subst hbb;split at h;{rename_i hb;have hb1:=aB hb.1;have hb2:=aB hb.2;cases h;obtain⟨e',cs,fl,fh,he',hbk,k1,k2,k3,k4,k5⟩:=g5 ver (.inl rfl);rw[he]at he';cases he';have hL:bJ ver lim ver e=lim:=(by simp [bJ]);rw[hL]at k2 k3 k5;exact⟨hR,vV hR hv hone he h1 h3 hbk k1 k2 k4 k5 (by simp;omega) (fun x hx=>ij hx) hn hb1 g2 g4⟩};cases h};rename_i hbb;have hbb:ver≠base:=fun h=>hbb (by simp [h]);split at h;{rename_i hb;have hb1:=ae hb.1;have hb2:=aB hb.2;split at h;{rename_i hb3;have hb3:=aB hb3;cases h;obtain⟨e',cs,fl,fh,he',hbk,k1,k2,k3,k4,k5⟩:=g5 ver (.inr ⟨hb2,by omega⟩);rw[he]at he';cases he';have hL:bJ base lim ver e=c.length:=(by simp only[bJ,if_neg hbb];exact g7 ver e hb1 hb2 hbb he);rw[hL]at k2 k3 k5;exact⟨hR,vV hR hv hone he h1 h3 hbk k1 k2 k4 k5 rfl (fun _ _=>rfl) hn hb3 (by omega) g4⟩};cases h};cases h};cases h
 |ro c=>simp [Ob.write]at h
 |map es k=>simp [Ob.write]at h
 |iter s p=>simp [Ob.write]at h
 |miter=>simp [Ob.write]at h
 |dead=>simp [Ob.write]at h
 |dfr=>simp [Ob.write]at h
 |loop=>simp [Ob.write]at h
 |opq=>simp [Ob.write]at h
theorem gi(hi:Inv R C D φ σ w){id ver off hi' q:Nat}{vs:List AV}{vs':List Value}{e:Ext}{σ':St}(h:eM σ id ver off hi' vs=some σ')(hk:Known D σ σ')
 (hv:VRL φ vs vs')(he:φ id ver=some e)(h1:e.dn≤off)(h3:q+e.dn=off+e.up):
 ∃w',(storeCells ⟨e.blk,q,none⟩ vs').run P w=.ok () w'∧Post R D φ σ w σ' φ w':=by
 obtain⟨ha,hf,o,o',ho,hw,rfl⟩:=lK h;have hlt:=hi.lt ho;have hd:D id:=hk id (.inr (aC.2 (.inl rfl))) hlt;obtain⟨hR,ob,r1,r2⟩:=EK (P:=P) hi ho hd hw hf hv he h1 h3;exact⟨_,r1,.change hi hR hlt he r2⟩
theorem ET(hi:Inv R C D φ σ w){t:TypeId}{a v:AV}{a' v':Value}{σ':St}(h:oH P t a v σ=some σ')(ha:VR φ a a')(hv:VR φ v v')(hk:Known D σ σ'):
 ∃w',(Instr.storeAt t a' v').run P w=.ok () w'∧Post R D φ σ w σ' φ w':=by
 unfold oH at h;split at h
 ·rename_i id ver off top;cases ha with
  |ptr e q he hd hh ho=>split at h;{rename_i n hn;simp only[ai]at h;split at h;{rename_i hb;have hb:=ae hb;have hvc:=hv.cells;have hl:=hvc.length;have hsz:v'.cells.size=n:=(by simpa[hb]using hl);obtain⟨w',r1,r2⟩:=gi (P:=P) hi h hk hvc he hd ho;exact⟨w',by simp [Instr.storeAt,Instr.sureAddr,storeVar,aN hn,hsz,r1],r2⟩};cases h};cases h
 cases h
end
end Go.Tw
namespace Go.Tw
section
variable[Val]
variable{P:Program}{R:Nat}{C:Cfg}{D:Nat→Prop}{φ:PM}{σ:St}{w:World}
omit [Val]in
theorem Free.at{o:Ob}(hf:Free φ σ (σ.mk' o))(v:Nat):φ σ.next v=none:=hf σ.next (aE _) (by simp [St.mk']) v
theorem lU(hi:Inv R C D φ σ w){c:List AV}{cs:Array Value}(t:TypeId)(hf:∀v,φ σ.next v=none)(hc:∀ψ,φ.le ψ→VRL ψ c cs.toList):
 Post R D φ σ w (σ.mk' (.box c t)) (φ.ins σ.next 0 ⟨w.heap.size,0,0,c.length,c.length,[]⟩) (w.alloc (.cells cs t)):=
 .new hi hf rfl (aE _) ⟨hi.low,⟨w.heap.size,0,0,c.length,c.length,[]⟩,cs,0,0,PM.ins_same _ _ _ _,cf _ _,rfl,rfl,rfl,rfl,hc _ (φ.le_ins _ (hf 0)),
  .inl rfl⟩
theorem rj(hi:Inv R C D φ σ w){c:List AV}{cs:Array Value}(t:TypeId){fl fh:Nat}(hf:∀v,φ σ.next v=none)(hc:∀ψ,φ.le ψ→VRL ψ c (cs.toList.take c.length))
 (hl:c.length≤cs.size)(hfr:fl=fh∨cs.size≤fl):
 Post R D φ σ w (gQ t c σ) (φ.ins σ.next 0 ⟨w.heap.size,0,0,c.length,cs.size,[]⟩) (w.alloc (.cells cs t (fl,fh))):=by
 have hle:=φ.le_ins ⟨w.heap.size,0,0,c.length,cs.size,[]⟩ (hf 0);refine .new hi hf rfl (by simpa using hl) ⟨hi.low,aE _,Nat.one_pos,aE _,?_,?_,?_,?_⟩;{intro v hv;rw[PM.ins_ver _ _ (by omega)];exact hf v};{intro v hv;have hv0:v=0:=hv.resolve_right (by omega);subst hv0;refine⟨_,cs,fl,fh,PM.ins_same _ _ _ _,cf _ _,rfl,by simp [bJ],by simp [bJ],?_,?_⟩;{exact hfr};intro x a x1 x2 hx;have x2:x<c.length:=(by simpa[bJ]using x2);obtain⟨a',y1,y2⟩:=(hc _ hle).get hx;rw[ij x2]at y1;exact⟨a',by simpa using y1,y2⟩};{intro v₁ v₂ e₁ e₂ a1 a2 b1 b2 _;have h1:v₁=0:=a1.resolve_right (by omega);have h2:v₂=0:=a2.resolve_right (by omega);subst h1;subst h2;rw[b1]at b2;cases b2;exact⟨rfl,rfl⟩};intro v e a1 a2 _ _;omega
theorem VRL.const{z:AV}{z':Value}(h:∀φ,VR φ z z'):∀ψ,VRL ψ z.cells z'.cells.toList:=fun ψ=>(h ψ).cells
theorem KV(hi:Inv R C D φ σ w){t:TypeId}{z:AV}(h:zeroOf P t=some z)(hf:∀v,φ σ.next v=none):
 ∃φ' w' v',(Instr.alloc t true (.tuple #[])).run P w=.ok v' w'∧VR φ' (.ptr σ.next 0 0 z.cells.length) v'∧Post R D φ σ w (σ.mk' (.box z.cells t)) φ' w':=by
 obtain⟨z',rz,vz⟩:=gI h;refine⟨_,_,.pointer (some ⟨w.heap.size,0,none⟩),?_,?_,lU hi t hf fun ψ _=>VRL.const vz ψ⟩;{simp [Instr.alloc,rz,newVar,newRow]};exact .ptr ⟨w.heap.size,0,0,z.cells.length,z.cells.length,[]⟩ 0 (PM.ins_same _ _ _ _) (aE _) (aE _) rfl
theorem Tg(hi:Inv R C D φ σ w){t:TypeId}{v:AV}{v':Value}(hv:VR φ v v')(hf:∀v,φ σ.next v=none):
 ∃φ' w' p,(Instr.box t v').run P w=.ok p w'∧VR φ' (.ptr σ.next 0 0 v.cells.length) p∧Post R D φ σ w (σ.mk' (.box v.cells t)) φ' w':=by
 refine⟨_,_,.pointer (some ⟨w.heap.size,0,none⟩),?_,?_,lU hi t hf fun ψ hψ=>(hv.mono hψ).cells⟩;{simp [Instr.box,newVar,newRow]};exact .ptr ⟨w.heap.size,0,0,v.cells.length,v.cells.length,[]⟩ 0 (PM.ins_same _ _ _ _) (aE _) (aE _) rfl
omit [Val]in
theorem fo(n:Nat)(z:List AV):(repl n z).length=n*z.length:=by
 induction n with
 |zero=>simp [repl]
 |succ n ih=>simp [repl,ih,Nat.succ_mul];omega
omit [Val]in
theorem A8(z:Array Value)(n:Nat)(hz:z.size≠0∨n=0):((Array.range (n*z.size)).map (fun i=>z[i%z.size]!)).toList=(List.replicate n z.toList).flatten:=by
 induction n with
 |zero=>simp
 |succ n ih=>have hz0:z.size≠0:=hz.resolve_right (by omega);have ih:=ih (.inl hz0);rw[List.replicate_succ',List.flatten_concat,←ih];simp only[Array.toList_map,Array.toList_range,Nat.succ_mul];rw[List.range_add,List.map_append];congr 1;rw[List.map_map];apply List.ext_getElem?;intro i;simp only[List.getElem?_map];by_cases hi:i<z.size;{rw[List.getElem?_range hi];simp [Nat.mod_eq_of_lt hi,hi]};rw[bZ (by simp;omega),bZ (by simp;omega)];rfl
theorem cC{z:AV}{z':Value}{size c:Nat}(vz:∀φ,VR φ z z')(hz:z.cells.length=size)(ψ:PM)(x:Array Value)(hx:c*size≠0→x=z'.cells):
 VRL ψ (repl c z.cells) ((Array.range (c*size)).map (fun i=>x[i%x.size]!)).toList:=by
 have hl:=(VRL.const vz ψ).length;have hsz:z'.cells.size=size:=by simpa[hz]using hl
 by_cases h0:c*size=0
 ·rw[h0];have:repl c z.cells=[]:=by
   apply List.length_eq_zero_iff.1;rw[fo,hz,h0]
  rw[this];simp;exact .nil
 rw[hx h0,←hsz,A8 _ _ (.inl (by intro h;rw[hsz]at h;simp [h]at h0))];exact(VRL.const vz ψ).repl c
omit [Val]in
theorem iq{n:Nat}(h:n≤9223372036854775807):IntKind.i64.wrap (Int.ofNat n)=Int.ofNat n:=by rw[←bq];show(bif Nat.ble n (FI .i64)then Int.ofNat n else IntKind.i64.wrap (Int.ofNat n))=Int.ofNat n;rw[show Nat.ble n (FI .i64)=true from Nat.ble_eq_true_of_le h];rfl
theorem ur(hi:Inv R C D φ σ w){t:TypeId}{l c v:AV}{l' c':Value}{σ':St}(h:gm P t l c σ=some (v,σ'))(hl:VR φ l l')(hc:VR φ c c')
 (hf:Free φ σ σ'):∃φ' w' v',(Instr.makeSlice t l' c').run P w=.ok v' w'∧VR φ' v v'∧Post R D φ σ w σ' φ' w':=by
 unfold gm at h;split at h
 ·rename_i e k1 l k2 c hu;cases hl;cases hc;split at h
  ·rename_i size bw z hs hb hz;simp only[ai,al]at h;split at h
   ·rename_i hcd;cases h;have h1:=aB hcd.1.1.1;have h2:=aB hcd.1.1.2;have h3:=aB hcd.1.2;have h4:=ae hcd.2;obtain⟨z',rz,vz⟩:=gI hz;obtain⟨ti,rt,hbw⟩:=Hx hb;have hwl:IntKind.i64.wrap (Int.ofNat l)=Int.ofNat l:=iq (by omega);have hwc:IntKind.i64.wrap (Int.ofNat c)=Int.ofNat c:=iq (by omega);have hmul:(ti.bytes:Int)*(Int.ofNat c)≤70368744177664:=by
     rw[hbw];show((bw*c:Nat):Int)≤((70368744177664:Nat):Int);exact Int.ofNat_le.2 h3
    have hnot:¬(((decide ((Int.ofNat c)<0)||decide ((ti.bytes:Int)*(Int.ofNat c)>2^48))||decide ((Int.ofNat l)<0)||decide ((Int.ofNat l)>(Int.ofNat c)))=true):=(by simp only[dH,decide_eq_true_eq,not_or];have e1:Int.ofNat c=(c:Int):=rfl;have e2:Int.ofNat l=(l:Int):=rfl;rw[e1]at hmul;rw[e1,e2];refine⟨⟨⟨by omega,?_⟩,by omega⟩,by omega⟩;have:(2:Int)^48=281474976710656:=(by decide);omega);have hcells:∀x:Array Value,(c*size≠0→x=z'.cells)→∀ψ,φ.le ψ→VRL ψ (repl c z.cells) ((Array.range (c*size)).map (fun i=>x[i%x.size]!)).toList:=
     fun x hx ψ _=>cC vz h4 ψ x hx
    have hlen:(repl c z.cells).length=c*size:=(by rw[fo,h4]);have hls:l*size≤c*size:=ig _ h1;by_cases h0:c*size=0;{refine⟨_,_,.slice (some ⟨w.heap.size,0,none⟩) l c,?_,?_,lU hi e hf.at (hcells #[] (fun h=>absurd h0 h))⟩;{simp only[Instr.makeSlice,aQ,af hu,aZ,asInt,asIntOf,Sem.run_pure,rt,hwl,hwc];rw[if_neg hnot];simp [aN hs,h0,newRow]};refine .slc ⟨w.heap.size,0,0,_,_,[]⟩ 0 c (PM.ins_same _ _ _ _) (aE _) (by simp only[hlen];omega) h1 (by simp [hlen]) (.inr ⟨rfl,by simp only[hlen];omega⟩)};refine⟨_,_,.slice (some ⟨w.heap.size,0,none⟩) l c,?_,?_,lU hi e hf.at (hcells z'.cells (fun _=>rfl))⟩;{simp only[Instr.makeSlice,aQ,af hu,aZ,asInt,asIntOf,Sem.run_pure,rt,hwl,hwc];rw[if_neg hnot];simp [aN hs,h0,newRow,rz]};refine .slc ⟨w.heap.size,0,0,_,_,[]⟩ 0 c (PM.ins_same _ _ _ _) (aE _) (by simp only[hlen];omega) h1 (by simp [hlen]) (.inr ⟨rfl,by simp only[hlen];omega⟩)
   cases h
  cases h
 cases h
theorem tY(hi:Inv R C D φ σ w){t:TypeId}{n:Nat}{ps:List (Nat×AV)}{ps':Array (Nat×Value)}{v:AV}{σ':St}(h:fC P t n ps σ=some (v,σ'))
 (hp:PR φ ps ps'.toList)(hf:Free φ σ σ'):∃φ' w' v',(Instr.buildSlice t n ps').run P w=.ok v' w'∧VR φ' v v'∧Post R D φ σ w σ' φ' w':=by
 unfold fC at h;split at h
 ·rename_i e hu;split at h
  ·rename_i s z hs hz;simp only[ai,al]at h;split at h
   ·rename_i hb;have h1:=aB hb.1;have h2:=ae hb.2;split at h
    ·rename_i l hl;cases h;obtain⟨z',rz,vz⟩:=gI hz;have hnot:¬(n*s>2^24):=(by omega);have key:∀x:Array Value,(n*s≠0→x=z'.cells)→∃r',Instr.fill (fun i=>some (i*s,s)) ((Array.range (n*s)).map (fun i=>x[i%x.size]!)) ps'.toList=some r'∧VRL φ l r'.toList∧l.length=n*s:=by
      intro x hx;obtain⟨r',g1,g2,g3⟩:=tF hp (cC vz h2 φ x hx) hl;exact⟨r',g1,g2,by rw[g3,fo,h2]⟩
     by_cases h0:n*s=0;{obtain⟨r',g1,g2,g3⟩:=key #[] (fun h=>absurd h0 h);refine⟨_,_,.slice (some ⟨w.heap.size,0,none⟩) n n,?_,?_,lU hi e hf.at (fun ψ hψ=>g2.mono hψ)⟩;{simp only[Instr.buildSlice,aQ,af hu,aZ,aN hs];rw[if_neg hnot];simp only[aQ,Sem.run_pure,aZ,h0,if_true];rw[h0]at g1;simp only[g1];simp [newRow]};refine .slc ⟨w.heap.size,0,0,_,_,[]⟩ 0 n (PM.ins_same _ _ _ _) (aE _) (by simp only[g3];omega) (aE _) (by simp [g3]) (.inr ⟨rfl,by simp only[g3];omega⟩)};obtain⟨r',g1,g2,g3⟩:=key z'.cells (fun _=>rfl);refine⟨_,_,.slice (some ⟨w.heap.size,0,none⟩) n n,?_,?_,lU hi e hf.at (fun ψ hψ=>g2.mono hψ)⟩;{simp only[Instr.buildSlice,aQ,af hu,aZ,aN hs];rw[if_neg hnot];simp only[aQ,Sem.run_pure,aZ,h0,if_false,rz];simp only[g1];simp [newRow]};refine .slc ⟨w.heap.size,0,0,_,_,[]⟩ 0 n (PM.ins_same _ _ _ _) (aE _) (by simp only[g3];omega) (aE _) (by simp [g3]) (.inr ⟨rfl,by simp only[g3];omega⟩)
    cases h
   cases h
  cases h
 cases h
theorem Co(hi:Inv R C D φ σ w)(t:TypeId)(hf:∀v,φ σ.next v=none):
 ∃φ' w' v',(Instr.makeMap t none).run P w=.ok v' w'∧VR φ' (.map σ.next) v'∧Post R D φ σ w (σ.mk' (.map [] 0)) φ' w':=by
 refine⟨φ.ins σ.next 0 ⟨w.heap.size,0,0,0,0,[]⟩,w.alloc (.map #[] 0),.map (some w.heap.size),?_,?_,?_⟩;{simp [Instr.makeMap]};{exact .map ⟨w.heap.size,0,0,0,0,[]⟩ (PM.ins_same _ _ _ _)};exact .new hi hf rfl (aE _) ⟨hi.low,_,#[],PM.ins_same _ _ _ _,cf _ _,.nil⟩
theorem zQ(hi:Inv R C D φ σ w){t k e:TypeId}{ik:IntKind}{n:Int}(hu:P.underlying t=some (.map k e))(hf:∀v,φ σ.next v=none):
 ∃φ' w' v',(Instr.makeMap t (some (.int ik n))).run P w=.ok v' w'∧VR φ' (.map σ.next) v'∧Post R D φ σ w (σ.mk' (.map [] 0)) φ' w':=by
 refine⟨φ.ins σ.next 0 ⟨w.heap.size,0,0,0,0,[]⟩,w.alloc (.map #[] 0),.map (some w.heap.size),?_,?_,?_⟩;{simp [Instr.makeMap,af hu,asInt,asIntOf]};{exact .map ⟨w.heap.size,0,0,0,0,[]⟩ (PM.ins_same _ _ _ _)};exact .new hi hf rfl (aE _) ⟨hi.low,_,#[],PM.ins_same _ _ _ _,cf _ _,.nil⟩
omit [Val]in
theorem bA{b:Nat}{o:Obj}(h:w.heap[b]? =some o)(hn:∀c t f,o≠.cells c t f):(getObj b).run P w=.ok o w:=by cases o<;>first|(simp only[getObj,Sem.run,h];done)|exact absurd rfl (hn _ _ _)
omit [Val]in
theorem cN{b:Nat}{o o':Obj}(h:w.heap[b]? =some o)(hn:∀c t f,o≠.cells c t f):(setObj b o').run P w=.ok () (wset w b o'):=by simp only[setObj,Sem.run,h];cases o<;>first|rfl|exact absurd rfl (hn _ _ _)
theorem Fk(hi:Inv R C D φ σ w){t:TypeId}{x v:AV}{x':Value}{σ':St}(h:oN P t x σ=some (v,σ'))(hx:VR φ x x')(hk:Known D σ σ')(hf:Free φ σ σ'):
 ∃φ' w' v',(Instr.range t x').run P w=.ok v' w'∧VR φ' v v'∧Post R D φ σ w σ' φ' w':=by
 unfold oN at h;split at h;{rename_i s hu;cases h;cases hx;refine⟨φ.ins σ.next 0 ⟨w.heap.size,0,0,0,0,[]⟩,w.alloc (.stringIter ⟨⟨s⟩⟩ 0),.pointer (some ⟨w.heap.size,0,none⟩),?_,?_,?_⟩;{simp [Instr.range,af hu]};{exact .ptr ⟨w.heap.size,0,0,0,0,[]⟩ 0 (PM.ins_same _ _ _ _) (aE _) (aE _) rfl};exact .new hi hf.at rfl (aE _) ⟨hi.low,_,PM.ins_same _ _ _ _,cf _ _,rfl,rfl⟩};·rename_i hu;cases h;cases hx;refine⟨φ.ins σ.next 0 ⟨w.heap.size,0,0,0,0,[]⟩,w.alloc (.mapIter none 0 #[] 0),.pointer (some ⟨w.heap.size,0,none⟩),?_,?_,?_⟩;{simp [Instr.range,af hu]};{exact .ptr ⟨w.heap.size,0,0,0,0,[]⟩ 0 (PM.ins_same _ _ _ _) (aE _) (aE _) rfl};exact .new hi hf.at rfl (aE _) ⟨hi.low,_,none,PM.ins_same _ _ _ _,cf _ _,rfl,rfl,trivial⟩
 ·rename_i id hu;split at h
  ·rename_i es clock ho;cases h;have hlt:=hi.lt ho;have hd:D id:=hk id (.inl (aC.2 (.inl rfl))) hlt;obtain⟨hR,e,es',he,hb,her⟩:=hi.at ho hd;cases hx with
   |map e' he'=>
    rw[he]at he';cases he';have hi2:Inv R C D φ (σ.lgR id) w:=hi.same rfl rfl rfl;have hf2:∀v,φ (σ.lgR id).next v=none:=fun v=>hf σ.next (aE _) (Nat.lt_succ_self _) v;refine⟨φ.ins σ.next 0 ⟨w.heap.size,0,0,0,0,[]⟩,w.alloc (.mapIter (some e.blk) clock #[] clock),.pointer (some ⟨w.heap.size,0,none⟩),?_,?_,?_⟩;{simp [Instr.range,af hu,bA hb]};{exact .ptr ⟨w.heap.size,0,0,0,0,[]⟩ 0 (PM.ins_same _ _ _ _) (aE _) (aE _) rfl};have hp:Post R D φ (σ.lgR id) w ((σ.lgR id).mk' (.miter (some id) clock [] clock)) (φ.ins σ.next 0 ⟨w.heap.size,0,0,0,0,[]⟩) (w.alloc (.mapIter (some e.blk) clock #[] clock)):=
     .new hi2 hf2 rfl (aE _) ⟨hi.low,_,some e.blk,PM.ins_same _ _ _ _,cf _ _,rfl,rfl,e,φ.le_ins _ (hf2 0) _ _ _ he,rfl⟩
    exact hp.from rfl rfl
  cases h
 cases h
theorem ER.filter{l:List (AV×AV×Nat)}{l':List MapEntry}(q:Nat→Bool)(h:ER φ l l'):ER φ (l.filter fun e=>q e.2.2) (l'.filter fun e=>q e.born):=by
 induction h with
 |nil=>exact .nil
 |cons hk hv _ ih=>rename_i n _ _ _ _ _;simp only[List.filter_cons];split;{exact .cons hk hv ih};exact ih
theorem ER.append{l m:List (AV×AV×Nat)}{l' m':List MapEntry}(h:ER φ l l')(k:ER φ m m'):ER φ (l++m) (l'++m'):=by
 induction h with
 |nil=>exact k
 |cons hk hv _ ih=>exact .cons hk hv ih
theorem ER.all{l:List (AV×AV×Nat)}{l':List MapEntry}(q:Nat→Bool)(h:ER φ l l'):l.all (fun e=>q e.2.2)=l'.all (fun e=>q e.born):=by
 induction h with
 |nil=>rfl
 |cons _ _ _ ih=>simp only[List.all_cons,ih]
theorem ER.isEmpty{l:List (AV×AV×Nat)}{l':List MapEntry}(h:ER φ l l'):l.isEmpty=l'.isEmpty:=by cases h<;>rfl
theorem ER.getC{l:List (AV×AV×Nat)}{l':List MapEntry}(h:ER φ l l'){i:Nat}{e':MapEntry}(hi:l'[i]? =some e'):
 ∃e,l[i]? =some e∧VR φ e.1 e'.key∧VR φ e.2.1 e'.val∧e.2.2=e'.born:=by
 induction h generalizing i with
 |nil=>simp at hi
 |cons hk hv _ ih=>
  cases i with
  |zero=>simp at hi;subst hi;exact⟨_,rfl,hk,hv,rfl⟩
  |succ i=>simp at hi;obtain⟨e,h1,h2⟩:=ih hi;exact⟨e,by simpa using h1,h2⟩
theorem ER.find{l:List (AV×AV×Nat)}{l':List MapEntry}(h:ER φ l l'){b:Nat}{e:AV×AV×Nat}(hf:l.find? (fun e=>Nat.beq e.2.2 b)=some e):
 ∃e',l'.find? (fun e=>e.born==b)=some e'∧VR φ e.1 e'.key∧VR φ e.2.1 e'.val:=by
 induction h with
 |nil=>simp at hf
 |cons hk hv _ ih=>
  rename_i n _ _ _ _ _;simp only[List.find?_cons]at hf⊢;cases hb:Nat.beq n b with
  |true=>rw[hb]at hf;cases hf;have:(n==b)=true:=(by rw[ae hb];simp);rw[this];exact⟨_,rfl,hk,hv⟩
  |false=>rw[hb]at hf;have:(n==b)=false:=(by simp [KS hb]);rw[this];exact ih hf
omit [Val]in
theorem AJ(n:Nat)(hn:0<n)(w:World):∃(j:Nat) (w1:World),j<n∧(w1=w∨w1=w.drew)∧(choose (Question.mapNext n)).run P w=.ok j w1:=by by_cases hf:n≤1;{exact⟨0,w,by omega,Or.inl rfl,by simp [choose,Sem.run,Question.forced,hf]⟩};exact⟨_,w.drew,Nat.mod_lt _ (by omega),Or.inr rfl,by simp only[choose,Sem.run,Question.forced,decide_eq_true_eq,hf,if_false,Question.cut];rfl⟩
def eH(es:Array MapEntry)(since:Nat)(seen:Array Nat):Array (Option MapEntry):=
 let left:=es.filter fun e=> !seen.contains e.born
 let old:=left.filter (·.born<since)
 let new:=left.filter (·.born≥since)
 (if old.isEmpty then #[none]else #[])++(old++new).map some
theorem FG{es:List (AV×AV×Nat)}{es':Array MapEntry}(h:ER φ es es'.toList){since last:Nat}{seen:List Nat}{l:List (Option (AV×AV×Nat))}(hm:ta es since seen last=some l):
 (!seen.toArray.isEmpty&& !es'.isEmpty&&es'.all (·.born≥last))=false∧l.length=(eH es' since seen.toArray).size∧0<l.length∧
 ∀(j:Nat) (c':Option MapEntry),(eH es' since seen.toArray)[j]? =some c'→∃c,l[j]? =some c∧
  (match c,c' with
   |none,none=>True
   |some e,some e'=>VR φ e.1 e'.key∧VR φ e.2.1 e'.val∧e.2.2=e'.born
   |_,_=>False):=by
 unfold ta at hm;rw[ai]at hm;split at hm;{cases hm};rename_i hu;cases hm;have h1:(!seen.toArray.isEmpty&& !es'.isEmpty&&es'.all (·.born≥last))=false:=by
  rw[Bool.not_eq_true]at hu;rw[←hu];congr 1;{congr 1;{cases seen<;>rfl};rw[h.isEmpty];congr 1;rw[←Array.isEmpty_toList]};rw[←Array.all_toList];refine Eq.trans ?_ (h.all (fun b=>Nat.ble last b)).symm;congr 1;funext e;by_cases hb:last≤e.born;{rw[Nat.ble_eq_true_of_le hb];simpa using hb};have:Nat.ble last e.born=false:=by
   cases hx:Nat.ble last e.born with
   |true=>exact absurd (aB hx) hb
   |false=>rfl
  rw[this];simpa using hb
 have hl:=h.filter (fun b=> !seen.contains b);have ho:=hl.filter (fun b=>Nat.blt b since);have hn:=hl.filter (fun b=> !Nat.blt b since);have e1:(eH es' since seen.toArray).toList=(if((es'.toList.filter fun e=> !seen.contains e.born).filter fun e=>Nat.blt e.born since).isEmpty then[none]else[])++
  (((es'.toList.filter fun e=> !seen.contains e.born).filter fun e=>Nat.blt e.born since)++((es'.toList.filter fun e=> !seen.contains e.born).filter fun e=> !Nat.blt e.born since)).map some:=by
  have q1:(fun e:MapEntry=>decide (e.born<since))=fun e=>Nat.blt e.born since:=by
   funext e;by_cases hb:e.born<since;{have:Nat.blt e.born since=true:=Nat.ble_eq_true_of_le hb;rw[this];simpa using hb};have:Nat.blt e.born since=false:=by
    cases hx:Nat.blt e.born since with
    |true=>exact absurd (aR hx) hb
    |false=>rfl
   rw[this];simpa using hb
  have q2:(fun e:MapEntry=>decide (e.born≥since))=fun e=> !Nat.blt e.born since:=by
   funext e;by_cases hb:e.born<since;{have:Nat.blt e.born since=true:=Nat.ble_eq_true_of_le hb;rw[this];simp;omega};have:Nat.blt e.born since=false:=by
    cases hx:Nat.blt e.born since with
    |true=>exact absurd (aR hx) hb
    |false=>rfl
   rw[this];simp;omega
  unfold eH;simp only[q1,q2];rw[Array.toList_append,Array.toList_map,Array.toList_append];congr 1;{rw[←Array.isEmpty_toList];simp only[Array.toList_filter,List.contains_toArray];split<;>rfl};simp only[Array.toList_filter,List.contains_toArray]
 generalize ((es'.toList.filter fun e=> !seen.contains e.born).filter fun e=>Nat.blt e.born since)=O' at ho e1;generalize ((es'.toList.filter fun e=> !seen.contains e.born).filter fun e=> !Nat.blt e.born since)=N' at hn e1;have hgo:∀(O N:List (AV×AV×Nat)),ER φ O O'→ER φ N N'→
  ((bif O.isEmpty then[none]else[])++(O++N).map some).length=(eH es' since seen.toArray).size∧0<((bif O.isEmpty then[none]else[])++(O++N).map some).length∧
  ∀(j:Nat) (c':Option MapEntry),(eH es' since seen.toArray)[j]? =some c'→∃c,((bif O.isEmpty then[none]else[])++(O++N).map some)[j]? =some c∧
   (match c,c' with
    |none,none=>True
    |some e,some e'=>VR φ e.1 e'.key∧VR φ e.2.1 e'.val∧e.2.2=e'.born
    |_,_=>False):=by
  intro O N hO hN;have hlen:∀{a:List (AV×AV×Nat)} {b:List MapEntry},ER φ a b→a.length=b.length:=by
   intro a b h
   induction h with
   |nil=>rfl
   |cons _ _ _ ih=>simp [ih]
  have hsz:(eH es' since seen.toArray).size=(eH es' since seen.toArray).toList.length:=rfl;rw[hsz,e1];refine⟨?_,?_,fun j c' hj=> ?_⟩;{rw[hO.isEmpty];cases O'.isEmpty<;>simp [hlen hO,hlen hN]};{cases hO;{simp};simp};rw[←Array.getElem?_toList,e1]at hj;cases hOO:O'.isEmpty with
  |true=>
   rw[hOO]at hj;rw[hO.isEmpty,hOO];simp only[if_true,cond_true]at hj⊢;cases j with
   |zero=>simp at hj;subst hj;exact⟨none,rfl,trivial⟩
   |succ j=>simp only[List.singleton_append,List.getElem?_cons_succ,List.getElem?_map,Option.map_eq_some_iff]at hj⊢;obtain⟨e',h2,rfl⟩:=hj;obtain⟨e,g1,g2⟩:=(hO.append hN).getC h2;exact⟨some e,⟨e,g1,rfl⟩,g2⟩
  |false=>rw[hOO]at hj;rw[hO.isEmpty,hOO];simp only[bY,if_false,cond_false,List.nil_append,List.getElem?_map,Option.map_eq_some_iff]at hj⊢;obtain⟨e',h2,rfl⟩:=hj;obtain⟨e,g1,g2⟩:=(hO.append hN).getC h2;exact⟨some e,⟨e,g1,rfl⟩,g2⟩
 exact⟨h1,hgo _ _ ho hn⟩
omit [Val]in
theorem FH{es:List (AV×AV×Nat)}{since last:Nat}{seen:List Nat}{l:List (Option (AV×AV×Nat))}(h:ta es since seen last=some l):l≠[]:=by unfold ta at h;rw[ai]at h;split at h;{cases h};cases h;generalize List.filter (fun e:AV×AV×Nat=>Nat.blt e.2.2 since) (List.filter (fun e=> !seen.contains e.2.2) es)=O;cases O<;>simp
theorem FC(hi:Inv R C D φ σ w){x:AV}{x':Value}{t:TypeId}{l:List (AV×St)}(h:o9 x σ=some l)(hx:VR φ x x')(hk:∀p∈l,Known D σ p.2):
 ∃p∈l,∃w' v',(Instr.next x' false t).run P w=.ok v' w'∧VR φ p.1 v'∧Post R D φ σ w p.2 φ w':=by
 unfold o9 at h;split at h
 ·rename_i id;split at h
  ·rename_i since seen last ho;cases h;have hlt:=hi.lt ho;have hd:D id:=hk _ (List.mem_singleton.2 rfl) id (.inl (aC.2 (.inl rfl))) hlt;obtain⟨hR,e,m',he,hb,hup,hdn,hm⟩:=hi.at ho hd;cases m' with
   |some m'=>exact hm.elim
   |none=>
    cases hx with
    |ptr e' o he' hd' hh' ho'=>rw[he]at he';cases he';have:o=0:=(by omega);subst this;refine⟨_,List.mem_singleton.2 rfl,w,.tuple #[.bool false],?_,.tup _ (.cons (.bool _) .nil),.same hi rfl rfl rfl⟩;simp [Instr.next,bA hb]
  ·rename_i m since seen last ho;split at h
   ·rename_i es clock hmo;split at h
    ·rename_i cs hcs;cases h;have hlt:=hi.lt ho;have hltm:=hi.lt hmo
     -- both are known
     have hne:cs≠[]:=FH hcs;obtain⟨c0,hc0⟩:=List.exists_mem_of_ne_nil _ hne;have hk0:=hk _ (List.mem_map_of_mem hc0);have hd:D id:=by
      cases c0 with
      |none=>exact hk0 id (.inl (aC.2 (.inr (aC.2 (.inl rfl))))) hlt
      |some c=>exact hk0 id (.inr (aC.2 (.inl rfl))) hlt
     have hdm:D m:=by
      cases c0 with
      |none=>exact hk0 m (.inl (aC.2 (.inl rfl))) hltm
      |some c=>exact hk0 m (.inl (aC.2 (.inl rfl))) hltm
     obtain⟨hR,e,m',he,hb,hup,hdn,hm⟩:=hi.at ho hd;obtain⟨hRm,em,es',hem,hbm,her⟩:=hi.at hmo hdm;cases m' with
     |none=>exact hm.elim
     |some m'=>
      obtain⟨f,hf,hfb⟩:=hm;rw[hem]at hf;cases hf;subst hfb;obtain⟨g1,g2,g3,g4⟩:=FG her hcs;obtain⟨j,w1,hj,hw1,hch⟩:=AJ (P:=P) (eH es' since seen.toArray).size (by omega) w;obtain⟨c,hc1,hc2⟩:=g4 j _ (Array.getElem?_eq_getElem hj);cases hx with
      |ptr e' o he' hd' hh' ho'=>
       rw[he]at he';cases he';have:o=0:=(by omega);subst this;have hb1:w1.heap[e.blk]? =some (.mapIter (some em.blk) since seen.toArray last):=(by rcases hw1 with rfl|rfl<;>exact hb);have hi1:Inv R C D φ σ w1:=(by rcases hw1 with rfl|rfl;{exact hi};exact hi.drew);have hpost:∀{σ':St} {w':World},Post R D φ σ w1 σ' φ w'→Post R D φ σ w σ' φ w':=(by intro σ' w' hp;rcases hw1 with rfl|rfl;{exact hp};exact hp.drew);have hmem:c∈cs:=eQ hc1;have hbody:∀(r:Result Value),(match(eH es' since seen.toArray)[j]? with
        |some (some e1)=>(do
         setObj e.blk (.mapIter (some em.blk) since (seen.toArray.push e1.born) clock)
         pure (Value.tuple #[.bool true,e1.key,e1.val]):Sem Value)
        |some none=>pure (Value.tuple #[.bool false])
        |none=>stuck "Next: no such candidate").run P w1=r→(Instr.next (.pointer (some ⟨e.blk,0,none⟩)) false t).run P w=r:=by
        intro r hr;simp only[Instr.next,aQ,bA hb (by simp),bA hbm (by simp),aZ];rw[g1];simp only[bY,if_false];rw[aQ];change ((choose (Question.mapNext (eH es' since seen.toArray).size)).run P w).andThen (fun a w'=>Sem.run P (match(eH es' since seen.toArray)[a]? with
         |some (some e1)=>(do
          setObj e.blk (.mapIter (some em.blk) since (seen.toArray.push e1.born) clock)
          pure (Value.tuple #[.bool true,e1.key,e1.val]):Sem Value)
         |some none=>pure (Value.tuple #[.bool false])
         |none=>stuck "Next: no such candidate") w')=r
        rw[hch];exact hr
       cases hcc:(eH es' since seen.toArray)[j]with
       |none=>
        rw[hcc]at hc2;cases c with
        |some c=>exact hc2.elim
        |none=>refine⟨_,List.mem_map_of_mem hmem,w1,.tuple #[.bool false],hbody _ ?_,.tup _ (.cons (.bool _) .nil),hpost (.same hi1 rfl rfl rfl)⟩;rw[Array.getElem?_eq_getElem hj,hcc];simp
       |some e1=>
        rw[hcc]at hc2;cases c with
        |none=>exact hc2.elim
        |some c=>
         obtain⟨k1,k2,k3⟩:=hc2;obtain⟨ck,cv,cb⟩:=c;dsimp only at k1 k2 k3;subst k3;have hi2:Inv R C D φ (σ.lgR m) w1:=hi1.same rfl rfl rfl;refine⟨_,List.mem_map_of_mem hmem,wset w1 e.blk (.mapIter (some em.blk) since (seen.toArray.push e1.born) clock),.tuple #[.bool true,e1.key,e1.val],hbody _ ?_,
          .tup _ (.cons (.bool _) (.cons k1 (.cons k2 .nil))),hpost (Post.from (τ:=σ.lgR m) ?_ rfl rfl)⟩
         {rw[Array.getElem?_eq_getElem hj,hcc];simp [cN hb1 (by simp)]};refine .change hi2 hR hlt he ⟨hR,e,some em.blk,he,?_,hup,hdn,em,hem,rfl⟩;rw[ca _ _ _ (cR hb1)];simp
    cases h
   cases h
  cases h
 cases h
theorem Gf(hi:Inv R C D φ σ w){x v:AV}{x':Value}{σ':St}(h:pN x σ=some (v,σ'))(hx:VR φ x x')(hk:Known D σ σ'):
 ∃v',(Instr.entry x').run P w=.ok v' w∧VR φ v v'∧Post R D φ σ w σ' φ w:=by
 unfold pN at h;split at h
 ·rename_i id;split at h
  ·rename_i m since seen last ho;split at h
   ·rename_i b es clock hb hmo;rw[ai]at h;split at h
    ·rename_i hcl;have hcl:=ae hcl;subst hcl;split at h
     ·rename_i e0 hf0;cases h;have hd:D id:=hk id (.inl (aC.2 (.inr (aC.2 (.inl rfl))))) (hi.lt ho);have hdm:D m:=hk m (.inl (aC.2 (.inl rfl))) (hi.lt hmo);obtain⟨hR,e,m',he,hbl,hup,hdn,hm⟩:=hi.at ho hd;obtain⟨hRm,em,es',hem,hbm,her⟩:=hi.at hmo hdm;cases m' with
      |none=>exact hm.elim
      |some m'=>
       obtain⟨f,hf,hfb⟩:=hm;rw[hem]at hf;cases hf;subst hfb;obtain⟨e',g1,g2,g3⟩:=her.find hf0;cases hx with
       |ptr e'' o he' hd' hh' ho'=>rw[he]at he';cases he';have:o=0:=(by omega);subst this;refine⟨.tuple #[e'.key,e'.val],?_,.tup _ (.cons g2 (.cons g3 .nil)),.same hi rfl rfl rfl⟩;have hbk:seen.toArray.back? =some b:=(by simpa using hb);have hfd:es'.find? (fun e=>e.born==b)=some e':=(by rw[←Array.find?_toList];exact g1);simp [Instr.entry,bA hbl,bA hbm,hbk,hfd]
     cases h
    cases h
   cases h
  cases h
 cases h
theorem Gq(hi:Inv R C D φ σ w){ts:Array TypeId}{t ty:TypeId}{x:AV}{x':Value}{σ':St}(h:pQ P t x σ=some σ')(hx:VR φ x x')(ht:ts[0]? =some t)(hk:Known D σ σ'):
 ∃w',(Builtin.clear_ ts ty #[x']).run P w=.ok (.tuple #[]) w'∧Post R D φ σ w σ' φ w':=by
 unfold pQ at h;split at h;{rename_i u hu;cases h;cases hx;exact⟨w,by simp [Builtin.clear_,ht,af hu],.same hi rfl rfl rfl⟩};·rename_i u hu;cases h;cases hx;exact⟨w,by simp [Builtin.clear_,ht,af hu],.same hi rfl rfl rfl⟩
 ·rename_i u id hu;split at h
  ·rename_i es clock ho;cases h;have hlt:=hi.lt ho;have hd:D id:=hk id (.inr (aC.2 (.inl rfl))) hlt;obtain⟨hR,e,es',he,hb,her⟩:=hi.at ho hd;cases hx with
   |map e' he'=>rw[he]at he';cases he';refine⟨wset w e.blk (.map #[] clock),?_,.change hi hR hlt he ⟨hR,e,#[],he,ca _ _ _ (cR hb),.nil⟩⟩;simp [Builtin.clear_,ht,af hu,bA hb,cN hb]
  cases h
 ·rename_i e id ver off len cap esz hu;rw[ai]at h;cases hx with
  |slc ex q c he hd hh hl hc hoo=>
   split at h;{rename_i h0;have h0:=ae h0;subst h0;cases h;exact⟨w,by simp [Builtin.clear_,ht,af hu],.same hi rfl rfl rfl⟩};rename_i h0;have h0:len≠0:=fun e0=>h0 (by subst e0;rfl);split at h
   ·rename_i z hz;rw[ai]at h;split at h
    ·rename_i hsz;have hsz:=ae hsz;obtain⟨z',rz,vz⟩:=gI hz;have hq:=(hoo.resolve_left (by omega)).1;have hzl:z'.cells.size=esz:=by
      have:=(VRL.const vz (fun _ _=>none)).length;simpa[hsz]using this
     have hcells:VRL φ (repl len z.cells) (Builtin.zeroCells z'.cells len).toList:=(by have:=cC (c:=len) (size:=esz) vz hsz φ z'.cells (fun _=>rfl);simpa[Builtin.zeroCells,hzl]using this);obtain⟨w',r1,r2⟩:=gi (P:=P) hi h hk hcells he hd hq;refine⟨w',?_,r2⟩;cases len with
     |zero=>exact absurd rfl h0
     |succ n=>simp [Builtin.clear_,ht,af hu,rz,r1]
    cases h
   cases h
 cases h
theorem Jk(hi:Inv R C D φ σ w){x v:AV}{x':Value}{b:Bool}{t:TypeId}{σ':St}(h:vr x b σ=some (v,σ'))(hx:VR φ x x')(hk:Known D σ σ'):
 ∃w' v',(Instr.next x' b t).run P w=.ok v' w'∧VR φ v v'∧Post R D φ σ w σ' φ w':=by
 unfold vr at h;split at h
 ·rename_i id;split at h
  ·rename_i s pos ho;have hlt:=hi.lt ho;have hd:D id:=by
    simp only[ai]at h;split at h;{cases h;exact hk id (.inr (aC.2 (.inl rfl))) hlt};cases h;exact hk id (.inl (aC.2 (.inl rfl))) hlt
   obtain⟨hR,e,he,hb,hup,hdn⟩:=hi.at ho hd;cases hx with
   |ptr e' o he' hd' hh' ho'=>
    rw[he]at he';cases he';have:o=0:=(by omega);subst this;simp only[ai]at h;split at h
    ·rename_i hp;have hp:=aR hp;cases h;have hp':pos<(⟨⟨s⟩⟩:ByteArray).size:=hp;refine⟨wset w e.blk (.stringIter ⟨⟨s⟩⟩ (pos+(Utf8.decode ⟨⟨s⟩⟩ pos).2)),.tuple #[.bool true,goInt pos,.int .i32 (Utf8.decode ⟨⟨s⟩⟩ pos).1],?_,
      .tup _ (.cons (.bool _) (.cons (.int _ _) (.cons (.int _ _) .nil))),?_⟩
     rotate_left
     {exact .change (ob:=.stringIter ⟨⟨s⟩⟩ (pos+(Utf8.decode ⟨⟨s⟩⟩ pos).2)) hi hR hlt he ⟨hR,e,he,ca _ _ _ (cR hb),hup,hdn⟩};simp only[Instr.next,aQ,bA hb (by simp),aZ];rw[if_pos hp'];simp [cN hb (by simp)]
    rename_i hp;have hp:¬pos<(⟨⟨s⟩⟩:ByteArray).size:=fun h=>hp (by exact Nat.ble_eq_true_of_le h);cases h;refine⟨w,.tuple #[.bool false],?_,.tup _ (.cons (.bool _) .nil),.same hi rfl rfl rfl⟩;simp only[Instr.next,aQ,bA hb (by simp),aZ];rw[if_neg hp];simp
  cases h
 cases h
end
end Go.Tw
namespace Go.Tw
section
variable[Val]
variable{P:Program}{R:Nat}{C:Cfg}{D:Nat→Prop}{φ:PM}{σ:St}{w:World}
omit [Val]in
theorem jo{t:TypeId}{d:TypeDesc}(h:plainKey P t=some d):P.underlying t=some d∧((∃k,d=.int k)∨d=.string∨d=.bool):=by
 unfold plainKey at h;split at h<;>first
  |(cases h;done)
  |(cases h;rename_i hu;exact⟨hu,by simp⟩)
omit [Val]in
theorem hC{t:TypeId}{k:AV}(h:dV P t k=true):∃d,P.underlying t=some d∧((∃k,d=.int k)∨d=.string∨d=.bool)∧
 ((∃j n ik,d=.int ik∧k=.int j n)∨(∃s,d=.string∧k=.str s)∨(∃b,d=.bool∧k=.bool b)):=by
 unfold dV at h;split at h;{rename_i hk;obtain⟨a,b⟩:=jo hk;exact⟨_,a,b,.inl ⟨_,_,_,rfl,rfl⟩⟩};{rename_i hk;obtain⟨a,b⟩:=jo hk;exact⟨_,a,b,.inr (.inl ⟨_,rfl,rfl⟩)⟩};{rename_i hk;obtain⟨a,b⟩:=jo hk;exact⟨_,a,b,.inr (.inr ⟨_,rfl,rfl⟩)⟩};cases h
theorem yn{t:TypeId}{k:AV}{k':Value}(h:dV P t k=true)(hk:VR φ k k')(b:Bool)(w:World)(n:Nat):(Instr.checkKey b (n+1) t k').run P w=.ok () w:=by obtain⟨d,hu,_,hc⟩:=hC h;rcases hc with⟨j,n,ik,rfl,rfl⟩|⟨s,rfl,rfl⟩|⟨b,rfl,rfl⟩<;>cases hk<;>simp only[Instr.checkKey,aQ,af hu,aZ]<;>rfl
theorem dz{t:TypeId}{k:AV}{k':Value}(h:dV P t k=true)(hk:VR φ k k')(b:Bool)(w:World):(Instr.checkKey b 10000 t k').run P w=.ok () w:=
 yn h hk b w 9999
theorem mB{d:TypeDesc}{x y:AV}{x' y':Value}{b:Bool}(h:sameKey x y=some b)(hx:VR φ x x')(hy:VR φ y y')
 (hd:(∃j n ik,d=.int ik∧x=.int j n)∨(∃s,d=.string∧x=.str s)∨(∃b,d=.bool∧x=.bool b)):Instr.sameNow d x' y'=some b:=by
 rcases hd with⟨j,n,ik,rfl,rfl⟩|⟨s,rfl,rfl⟩|⟨c,rfl,rfl⟩;{cases hx;cases hy<;>simp only[sameKey,reduceCtorEq]at h;simpa[Instr.sameNow]using h};{cases hx;cases hy<;>simp only[sameKey,reduceCtorEq]at h;simpa[Instr.sameNow,rb]using h};cases hx;cases hy<;>simp only[sameKey,reduceCtorEq]at h;simpa[Instr.sameNow]using h
theorem lE{d:TypeDesc}{k:AV}{k':Value}(hk:VR φ k k')
 (hd:(∃j n ik,d=.int ik∧k=.int j n)∨(∃s,d=.string∧k=.str s)∨(∃b,d=.bool∧k=.bool b)):
 ∀{es:List (AV×AV×Nat)} {es':List MapEntry} {i:Nat} {r:Option (Nat×AV)},ER φ es es'→eL k es i=some r→
  (r=none→Instr.findNow d k' es' i=some none)∧(∀j v,r=some (j,v)→∃v',Instr.findNow d k' es' i=some (some (j,v'))∧VR φ v v'∧i≤j∧
    ∃q n,es[j - i]? =some (q,v,n)∧sameKey k q=some true):=by
 intro es
 induction es with
 |nil=>intro es' i r he h;cases he;simp only[eL,aw]at h;subst h;exact⟨fun _=>rfl,fun j v h=>(by cases h)⟩
 |cons p es ih=>
  intro es' i r he h;cases he with
  |cons hk' hv ht=>rename_i q v n q' v' l';simp only[eL]at h;split at h;{rename_i hs;cases h;refine⟨fun h=>(by cases h),fun j u h=> ?_⟩;cases h;refine⟨v',?_,hv,aE _,q,n,by simp,hs⟩;simp only[Instr.findNow,mB hs hk hk' hd]};{rename_i hs;obtain⟨h1,h2⟩:=ih ht h;refine⟨fun hr=> ?_,fun j u hr=> ?_⟩;{simp only[Instr.findNow,mB hs hk hk' hd];exact h1 hr};obtain⟨u',g1,g2,g3,q0,n0,g4,g5⟩:=h2 j u hr;refine⟨u',?_,g2,by omega,q0,n0,?_,g5⟩;{simp only[Instr.findNow,mB hs hk hk' hd];exact g1};rw[show j - i=j - (i+1)+1 by omega];simpa using g4};cases h
theorem iD(hi:Inv R C D φ σ w){t:TypeId}{x k v:AV}{x' k':Value}{ok:Bool}{σ':St}(h:dT P t x k ok σ=some (v,σ'))(hx:VR φ x x')(hk:VR φ k k')
 (hkn:Known D σ σ'):∃v',(Instr.lookup t x' k' ok).run P w=.ok v' w∧VR φ v v'∧Post R D φ σ w σ' φ w:=by
 unfold dT at h;split at h
 ·rename_i kt et hu;simp only[ai]at h;split at h
  ·rename_i hfit;obtain⟨d,hku,_,hd⟩:=hC hfit;split at h;{cases h};rename_i es τ he;have key:∀(es':Array MapEntry),ER φ es es'.toList→((∃j u',Instr.findNow d k' es'.toList 0=some (some (j,u'))∧VR φ v (if ok then .tuple #[u',.bool true]else u'))∨
    (Instr.findNow d k' es'.toList 0=some none∧∃z',(∀w,(zeroValue et).run P w=.ok z' w)∧VR φ v (if ok then .tuple #[z',.bool false]else z')))∧σ'=τ:=by
    intro es' her;split at h;{cases h};{rename_i j u hf;obtain⟨_,h2⟩:=lE hk hd her hf;obtain⟨u',g1,g2,_⟩:=h2 j u rfl;cases h;refine⟨.inl ⟨j,u',g1,?_⟩,rfl⟩;cases ok;{exact g2};exact .tup _ (.cons g2 (.cons (.bool _) .nil))};rename_i hf;obtain⟨h1,_⟩:=lE hk hd her hf;have g1:=h1 rfl;split at h;{rename_i z hz;obtain⟨z',rz,vz⟩:=gI hz;cases h;refine⟨.inr ⟨g1,z',rz,?_⟩,rfl⟩;cases ok;{exact vz φ};exact .tup _ (.cons (vz φ) (.cons (.bool _) .nil))};cases h
   split at he;·cases hx;cases he;obtain⟨hr,rfl⟩:=key #[] .nil;rcases hr with⟨j,u',g1,r2⟩|⟨g1,z',rz,r2⟩;{refine⟨_,?_,r2,.same hi rfl rfl rfl⟩;have g1:Instr.findNow d k' [] 0=some (some (j,u')):=(by simpa using g1);simp [Instr.lookup,af hu,dz hfit hk,Instr.findKey,af hku,g1]};refine⟨_,?_,r2,.same hi rfl rfl rfl⟩;have g1:Instr.findNow d k' [] 0=some none:=(by simpa using g1);simp [Instr.lookup,af hu,dz hfit hk,Instr.findKey,af hku,g1,rz]
   ·rename_i id;cases hx with
    |map e hee=>
     split at he
     ·rename_i es0 clock ho;cases he;have hlt:=hi.lt ho;have hd':D id:=by
       have hmem:id∈σ'.rd:=(by split at h;{cases h};{cases h;exact aC.2 (.inl rfl)};split at h;{cases h;exact aC.2 (.inl rfl)};cases h);exact hkn id (.inl hmem) hlt
      obtain⟨hR,e',es',he',hb,her⟩:=hi.at ho hd';rw[hee]at he';cases he';obtain⟨hr,rfl⟩:=key es' her;rcases hr with⟨j,u',g1,r2⟩|⟨g1,z',rz,r2⟩;{exact⟨_,by simp [Instr.lookup,af hu,bA hb,dz hfit hk,Instr.findKey,af hku,g1],r2,.same hi rfl rfl rfl⟩};exact⟨_,by simp [Instr.lookup,af hu,bA hb,dz hfit hk,Instr.findKey,af hku,g1,rz],r2,.same hi rfl rfl rfl⟩
     cases he
   cases he
  cases h
 cases h
theorem ER.length{es:List (AV×AV×Nat)}{es':List MapEntry}(h:ER φ es es'):es'.length=es.length:=by
 induction h with
 |nil=>rfl
 |cons _ _ _ ih=>simp [ih]
theorem ER.get{es:List (AV×AV×Nat)}{es':List MapEntry}(h:ER φ es es'){i:Nat}{q v:AV}{n:Nat}(hi:es[i]? =some (q,v,n)):
 ∃e,es'[i]? =some e∧VR φ q e.key∧VR φ v e.val∧e.born=n:=by
 induction h generalizing i with
 |nil=>simp at hi
 |cons h1 h2 _ ih=>
  cases i with
  |zero=>simp at hi;obtain⟨rfl,rfl,rfl⟩:=hi;exact⟨_,rfl,h1,h2,rfl⟩
  |succ i=>simpa using ih (by simpa using hi)
theorem ER.mod{es:List (AV×AV×Nat)}{es':List MapEntry}(h:ER φ es es'){k v:AV}{k' v':Value}(hk:VR φ k k')(hv:VR φ v v'):
 ∀i,ER φ (zK i (fun e=>(k,v,e.2.2)) es) (es'.modify i fun e=>{e with key:=k',val:=v'}):=by
 induction h with
 |nil=>intro i;cases i<;>exact .nil
 |cons h1 h2 ht ih=>
  intro i;cases i with
  |zero=>exact .cons hk hv ht
  |succ i=>simpa[zK]using ER.cons h1 h2 (ih i)
theorem yZ{x y:AV}{x' y':Value}(h:sameKey x y=some true)(hx:VR φ x x')(hy:VR φ y y'):Instr.sameBits 10000 y' x'=true:=by cases hx<;>cases hy<;>simp only[sameKey,reduceCtorEq,aw,beq_iff_eq]at h;{subst h;simp [Instr.sameBits]};{split at h;{rename_i hk;simp only[aw,beq_iff_eq]at h;subst h;subst hk;simp [Instr.sameBits]};cases h};subst h;simp [Instr.sameBits,rb]
theorem jR(hi:Inv R C D φ σ w){t:TypeId}{x k v:AV}{x' k' v':Value}{σ':St}(h:eX P t x k v σ=some σ')(hx:VR φ x x')(hk:VR φ k k')(hv:VR φ v v')
 (hkn:Known D σ σ'):∃w',(Instr.mapUpdate t x' k' v').run P w=.ok () w'∧Post R D φ σ w σ' φ w':=by
 unfold eX at h;split at h
 ·rename_i kt et id hu;cases hx with
  |map e he=>
   simp only[ai]at h;split at h
   ·rename_i hfit;obtain⟨d,hku,_,hd⟩:=hC hfit;split at h
    ·rename_i es clock ho;have hlt:=hi.lt ho;have hdd:D id:=by
      have hmem:id∈σ'.wr:=(by split at h;{cases h};{cases h;exact aC.2 (.inl rfl)};cases h;exact aC.2 (.inl rfl));exact hkn id (.inr hmem) hlt
     obtain⟨hR,e',es',he',hb,her⟩:=hi.at ho hdd;rw[he]at he';cases he';split at h;{cases h};{rename_i i u hf;obtain⟨_,h2⟩:=lE hk hd her hf;obtain⟨u',g1,g2,_,q,n,g4,g5⟩:=h2 i u rfl;simp only[Nat.sub_zero]at g4;obtain⟨me,m1,m2,m3,m4⟩:=her.get g4;cases h;have hm1:es'[i]? =some me:=(by simpa using m1);refine⟨wset w e.blk (.map (es'.modify i fun e=>{e with key:=k',val:=v'}) clock),?_,?_⟩;{simp [Instr.mapUpdate,af hu,bA hb,dz hfit hk,Instr.findKey,af hku,g1,hm1,Instr.keyThatStays,yZ g5 hk m2,cN hb]};refine .change hi hR hlt he ⟨hR,e,_,he,ca _ _ _ (cR hb),?_⟩;have:=her.mod hk hv i;simpa using this};rename_i hf;obtain⟨h1,_⟩:=lE hk hd her hf;have g1:=h1 rfl;cases h;refine⟨wset w e.blk (.map (es'.push {key:=k',val:=v',born:=clock}) (clock+1)),?_,?_⟩;{simp [Instr.mapUpdate,af hu,bA hb,dz hfit hk,Instr.findKey,af hku,g1,cN hb]};refine .change hi hR hlt he ⟨hR,e,_,he,ca _ _ _ (cR hb),?_⟩;have:=her.append (.cons hk hv .nil:ER φ [(k,v,clock)] [{key:=k',val:=v',born:=clock}]);simpa using this
    cases h
   cases h
 cases h
theorem MV(hi:Inv R C D φ σ w){t ty:TypeId}{x v:AV}{x':Value}{ts:Array TypeId}{σ':St}(h:Jz P t x σ=some (v,σ'))(hx:VR φ x x')(hkn:Known D σ σ')(ht:ts[0]? =some t):
 ∃v',(Builtin.len_ ts ty #[x']).run P w=.ok v' w∧VR φ v v'∧Post R D φ σ w σ' φ w:=by
 unfold Jz at h;split at h
 case h_1 s hu=>
  cases h;cases hx;exact⟨goInt s.length,by simp [Builtin.len_,ht,af hu];rfl,.int _ _,.same hi rfl rfl rfl⟩
 case h_2 ex hu=>
  cases h;cases hx with
  |sstr s hs=>refine⟨goInt s.size,by simp [Builtin.len_,ht,af hu],?_,.same hi rfl rfl rfl⟩;show VR φ _ (.int .i64 _);rw[hs];exact .sym _ _
 case h_3 ex hu=>
  cases h;cases hx with
  |vstr s hs=>refine⟨goInt s.length,by simp [Builtin.len_,ht,af hu];rfl,?_,.same hi rfl rfl rfl⟩;show VR φ _ (.int .i64 _);rw[←jB hs];exact .sym _ _
 case h_4 e ex hu=>
  cases h;cases hx with
  |sslc a n c hs=>refine⟨goInt n,by simp [Builtin.len_,ht,af hu],?_,.same hi rfl rfl rfl⟩;show VR φ _ (.int .i64 _);rw[hs];exact .sym _ _
 case h_5 n e hu=>
  cases h;exact⟨goInt n,by simp [Builtin.len_,ht,af hu],.int _ _,.same hi rfl rfl rfl⟩
 case h_6 a hu=>
  split at h;{rename_i n e hu2;cases h;exact⟨goInt n,by simp [Builtin.len_,ht,af hu,af hu2],.int _ _,.same hi rfl rfl rfl⟩};cases h
 case h_7 n _ _ hu=>
  cases h;cases hx;exact⟨goInt n,by simp [Builtin.len_,ht,af hu],.int _ _,.same hi rfl rfl rfl⟩
 case h_8 hu=>
  cases h;cases hx;exact⟨goInt 0,by simp [Builtin.len_,ht,af hu],.int _ _,.same hi rfl rfl rfl⟩
 case h_9 hu=>
  cases h;cases hx;exact⟨goInt 0,by simp [Builtin.len_,ht,af hu],.int _ _,.same hi rfl rfl rfl⟩
 case h_10 k e id hu=>
  split at h
  ·rename_i es clock ho;cases h;cases hx with
   |map ex he=>have hd:D id:=hkn id (.inl (aC.2 (.inl rfl))) (hi.lt ho);obtain⟨hR,e',es',he',hb,her⟩:=hi.at ho hd;rw[he]at he';cases he';refine⟨goInt es'.size,by simp [Builtin.len_,ht,af hu,bA hb],?_,.same hi rfl rfl rfl⟩;have:=her.length;have hs:es'.size=es.length:=(by simpa using this);rw[hs];exact .int _ _
  cases h
 case h_11=>cases h
theorem NF{t ty:TypeId}{x v:AV}{x':Value}{ts:Array TypeId}(h:Tf P t x=some v)(hx:VR φ x x')(ht:ts[0]? =some t)(w:World):
 ∃v',(Builtin.cap_ ts ty #[x']).run P w=.ok v' w∧VR φ v v':=by
 unfold Tf at h;split at h;{rename_i hu;cases h;exact⟨goInt _,by simp [Builtin.cap_,ht,af hu],.int _ _⟩};·rename_i hu;split at h;{rename_i hu2;cases h;exact⟨goInt _,by simp [Builtin.cap_,ht,af hu,af hu2],.int _ _⟩};cases h
 ·rename_i hu;cases hx with
  |slc e o c he hd hh hl hc ho=>cases h;have:=(hc _ rfl).1;subst this;exact⟨goInt _,by simp [Builtin.cap_,ht,af hu],.int _ _⟩
 {rename_i hu;cases hx;cases h;exact⟨goInt _,by simp [Builtin.cap_,ht,af hu],.int _ _⟩};cases h
end
end Go.Tw
namespace Go.Tw
section
variable[Val]
variable{P:Program}{R:Nat}{C:Cfg}{D:Nat→Prop}{φ:PM}{σ:St}{w:World}
omit [Val]in
theorem rX{ik:IntKind}{i:Int}{y k:Nat}(h:upto i y=some k)(code:BoundsCode)(w:World):(Instr.sliceBound (.int ik i) y code).run P w=.ok k w:=by
 obtain⟨rfl,hk⟩:=Dm h;have hc:(0:Int)≤(k:Int)∧(k:Int)≤(y:Int):=by omega
 simp only[Instr.sliceBound,asIntOf,aQ,Sem.run_pure,aZ];rw[if_pos hc];simp
theorem Dd{v:AV}{v':Value}{y k:Nat}(h:GI v y=some k)(hv:VR φ v v'):k≤y∧∀(z:Nat),k≤z→∀code w,(Instr.sliceBound v' z code).run P w=.ok k w:=by unfold GI at h;split at h;{cases hv;obtain⟨rfl,hk⟩:=Dm h;refine⟨hk,fun z hz code w=>rX ?_ code w⟩;show(bif Nat.ble k z then some k else none)=some k;rw[Nat.ble_eq_true_of_le hz];rfl};cases h
theorem fk{len l h c:Nat}{cap m:Option Nat}{lo hi mx:Option AV}{lo' hi' mx':Option Value}{b:Bool}(hb:cS len cap lo hi mx=some (l,h,m))
 (h1:yG φ lo lo')(h2:yG φ hi hi')(h3:yG φ mx mx')(hc:∀k,cap=some k→k=c)(hl:len≤c):
 ∃M,(∀w,(Instr.sliceBounds b len c lo' hi' mx').run P w=.ok (l,h,M) w)∧l≤h∧h≤M∧M≤c∧(∀k,m=some k→M=k∧(cap=none→k≤len))∧
  (m=none→M=c∧cap=none∧h≤len):=by
 unfold cS at hb;split at hb;{cases hb};rename_i m0 hm0;split at hb;{cases hb};rename_i h0 hh0;split at hb;{cases hb};rename_i l0 hl0;simp only[aw,il]at hb;obtain⟨rfl,rfl,rfl⟩:=hb;have hM:∃M,(∀w,((match mx' with
  |some v=>Instr.sliceBound v c (if b then .slice3Acap else .slice3Alen)
  |none=>pure c):Sem Nat).run P w=.ok M w)∧M≤c∧(∀k,m0=some k→M=k∧(cap=none→k≤len))∧(m0=none→M=c∧cap=none)∧(mx=none→m0=cap):=by
  unfold tZ at hm0;split at hm0
  ·simp only[aw]at hm0;subst hm0;cases mx' with
   |some _=>exact h3.elim
   |none=>exact⟨c,fun _=>rfl,aE _,fun k hk=>⟨(hc k hk).symm,fun h0=>by rw[hk]at h0;cases h0⟩,fun h0=>⟨rfl,h0⟩,fun _=>rfl⟩
  rename_i v;split at hm0
  ·rename_i k hk;simp only[aw]at hm0;subst hm0;cases mx' with
   |none=>exact h3.elim
   |some v'=>
    obtain⟨hk1,hk2⟩:=Dd (P:=P) hk h3;have hkc:k≤c:=by
     cases cap with
     |none=>exact Nat.le_trans hk1 hl
     |some c0=>rw[←hc c0 rfl];exact hk1
    refine⟨k,fun w=>hk2 c hkc _ w,hkc,fun k' hk'=> ?_,fun h0=>(by cases h0),fun h0=>(by cases h0)⟩;simp only[aw]at hk';subst hk';exact⟨rfl,fun h0=>by subst h0;exact hk1⟩
  cases hm0
 obtain⟨M,r1,hMc,hm1,hm2,hm3⟩:=hM;have htop:∀k,k≤pX m0 len→k≤M∧(m0=none→k≤len):=by
  intro k hk;cases hm:m0 with
  |none=>rw[hm]at hk;exact⟨by rw[(hm2 hm).1];exact Nat.le_trans hk hl,fun _=>hk⟩
  |some k0=>rw[hm]at hk;exact⟨by rw[(hm1 k0 hm).1];exact hk,fun h=>(by cases h)⟩
 have hH:(∀w,((match hi',mx' with
  |some v,some _=>Instr.sliceBound v M .slice3B
  |some v,none=>Instr.sliceBound v M (if b then .sliceAcap else .sliceAlen)
  |none,none=>pure len
  |none,some _=>stuck "Slice: max without high"):Sem Nat).run P w=.ok h0 w)∧h0≤M∧(m0=none→h0≤len):=by
  unfold ub at hh0;split at hh0
  ·rename_i v;cases hi' with
   |none=>exact h2.elim
   |some v'=>
    obtain⟨hk1,hk2⟩:=Dd (P:=P) hh0 h2;obtain⟨g1,g2⟩:=htop _ hk1;cases mx' with
    |none=>exact⟨fun w=>hk2 M g1 _ w,g1,g2⟩
    |some _=>exact⟨fun w=>hk2 M g1 _ w,g1,g2⟩
  cases hi' with
  |some _=>exact h2.elim
  |none=>
   split at hh0
   ·simp only[aw]at hh0;subst hh0;cases mx' with
    |some _=>exact h3.elim
    |none=>
     refine⟨fun _=>rfl,?_,fun _=>aE _⟩;have hmc:=hm3 rfl;cases hm:m0 with
     |none=>rw[(hm2 hm).1];exact hl
     |some k0=>rw[(hm1 k0 hm).1,hc k0 (hmc▸hm)];exact hl
   cases hh0
 obtain⟨r2,hHM,hHl⟩:=hH;have hL:(∀w,((match lo' with
  |some v=>Instr.sliceBound v h0 (if mx'.isSome then .slice3C else .sliceB)
  |none=>pure 0):Sem Nat).run P w=.ok l0 w)∧l0≤h0:=by
  unfold ua at hl0;split at hl0
  ·simp only[aw]at hl0;subst hl0;cases lo' with
   |some _=>exact h1.elim
   |none=>exact⟨fun _=>rfl,bP _⟩
  cases lo' with
  |none=>exact h1.elim
  |some v'=>obtain⟨hk1,hk2⟩:=Dd (P:=P) hl0 h1;exact⟨fun w=>hk2 h0 hk1 _ w,hk1⟩
 obtain⟨r3,hle⟩:=hL;refine⟨M,fun w=> ?_,hle,hHM,hMc,hm1,fun h0=>⟨(hm2 h0).1,(hm2 h0).2,hHl h0⟩⟩;have q1:=r1 w;have q2:=r2 w;have q3:=r3 w;clear r1 r2 r3;cases mx'<;>cases hi'<;>cases lo'<;>dsimp only at q1 q2 q3<;>(try simp only[Sem.run_pure,Result.ok.injEq,and_true]at q1)<;>
  (try simp only[Sem.run_pure,run_stuck,reduceCtorEq,Result.ok.injEq,and_true]at q2)<;>(try simp only[Sem.run_pure,Result.ok.injEq,and_true,Option.isSome_none,Option.isSome_some,bY,if_false,if_true]at q3)<;>
  (try subst q1)<;>(try subst q2)<;>(try subst q3)<;>simp [Instr.sliceBounds, *]
omit [Val]in
theorem kO(s:List UInt8)(l h:Nat):(⟨⟨s⟩⟩:ByteArray).extract l h=⟨⟨(s.drop l).take (h - l)⟩⟩:=by apply ByteArray.ext;simp [List.extract_eq_take_drop]
theorem l7{d e:Sx}{v:Option AV}{v':Option Value}(h:AR d v=some e)(hv:yG φ v v'):
 (v=none∧v'=none∧e=d)∨(v≠none∧∃k,v'=some (.int k e.eval)):=by
 unfold AR at h;split at h
 ·cases h;cases v' with
  |none=>exact .inl ⟨rfl,rfl,rfl⟩
  |some _=>exact hv.elim
 split at h
 ·rename_i x k e' he;cases h;cases v' with
  |none=>exact hv.elim
  |some y=>exact .inr ⟨by simp,k,by rw[eo he hv]⟩
 cases h
omit [Val]in
theorem fG{n m:Nat}(h:n≤m):upto (n:Int) m=some n:=by show(bif Nat.ble n m then some n else none)=some n;rw[Nat.ble_eq_true_of_le h];rfl
theorem Jb{dec:Bx→Option Bool}(hdec:∀b v,dec b=some v→b.eval=v){e:Sx}{v:AV}{lo hi:Option AV}{lo' hi':Option Value}(h:Jc dec e lo hi=some v)
 {s:List UInt8}(hs:e.dat=.str s){t:TypeId}(hu:P.underlying t=some .string)(h1:yG φ lo lo')(h2:yG φ hi hi'):
 ∃v',(Instr.sliceAt t (.string ⟨⟨s⟩⟩) lo' hi' none).run P w=.ok v' w∧VR φ v v':=by
 unfold Jc at h;split at h
 ·rename_i l hh hl hhh;simp only[ai,al]at h;split at h
  ·rename_i hb;cases h;have hl0:kr lo=true→l.eval=0:=fun hn=>by
    cases lo with
    |none=>simp only[AR,aw]at hl;subst hl;rfl
    |some _=>cases hn
   have hh0:kr hi=true→hh.eval=s.length:=fun hn=>by
    cases hi with
    |none=>simp only[AR,aw]at hhh;subst hhh;exact jB hs
    |some _=>cases hn
   have c1:∀a b:Sx,ml dec (.cmp .geq a b)=true→b.eval≤a.eval:=fun a b h=>(by have:=hdec _ _ (cY h);simpa[Bx.eval,cX]using this);have c2:∀a b:Sx,ml dec (.cmp .leq a b)=true→a.eval≤b.eval:=fun a b h=>(by have:=hdec _ _ (cY h);simpa[Bx.eval,cX]using this);simp only[dH,al]at hb;have g1:0≤l.eval:=(by rcases hb.1.1 with h|h;{rw[hl0 h];exact Int.le_refl _};exact c1 _ _ h);have g2:l.eval≤hh.eval:=(by rcases hb.1.2 with h|h;{rw[hl0 h.1,hh0 h.2];omega};exact c2 _ _ h);have g3:hh.eval≤s.length:=(by rcases hb.2 with h|h;{rw[hh0 h];exact Int.le_refl _};have:=c2 _ _ h;rwa[jB hs]at this);obtain⟨n,hn⟩:∃n:Nat,l.eval=n:=⟨l.eval.toNat,by omega⟩;obtain⟨m,hm⟩:∃m:Nat,hh.eval=m:=⟨hh.eval.toNat,by omega⟩;have hnm:n≤m:=(by omega);have hms:m≤s.length:=(by omega);have hbnd:∃lo2 hi2,cS s.length (some s.length) lo2 hi2 none=some (n,m,some s.length)∧yG φ lo2 lo'∧yG φ hi2 hi':=by
    rcases l7 hhh h2 with⟨_,rfl,rfl⟩|⟨_,k2,rfl⟩
    ·rw[jB hs]at hm;have hm:s.length=m:=(by omega);rcases l7 hl h1 with⟨_,rfl,rfl⟩|⟨_,k1,rfl⟩
     ·have hn:n=0:=by
       have:(Sx.lit 0).eval=0:=rfl;omega
      subst hn;exact⟨none,none,by simp [cS,tZ,ub,ua,hm],trivial,trivial⟩
     refine⟨some (.int k1 (n:Int)),none,?_,?_,trivial⟩;{simp [cS,tZ,ub,ua,GI,hm];rw[fG hnm]};rw[hn];exact .int _ _
    rcases l7 hl h1 with⟨_,rfl,rfl⟩|⟨_,k1,rfl⟩
    ·have hn:n=0:=by
      have:(Sx.lit 0).eval=0:=rfl;omega
     subst hn;refine⟨none,some (.int k2 (m:Int)),?_,trivial,?_⟩;{simp [cS,tZ,ub,ua,GI,pX,fG hms]};rw[hm];exact .int _ _
    refine⟨some (.int k1 (n:Int)),some (.int k2 (m:Int)),?_,?_,?_⟩;{simp [cS,tZ,ub,ua,GI,pX,fG hms,fG hnm]};{rw[hn];exact .int _ _};rw[hm];exact .int _ _
   obtain⟨lo2,hi2,hbd,v1,v2⟩:=hbnd;obtain⟨M,r1,r2,r3,r4,r5,r6⟩:=fk (P:=P) (φ:=φ) (b:=false) hbd v1 v2 (lo':=lo') (hi':=hi') (mx':=none) trivial (fun k hk=>by simpa using hk.symm) (aE _);refine⟨.string ⟨⟨(s.drop n).take (m - n)⟩⟩,?_,.vstr _ ?_⟩;{have hsz:(⟨⟨s⟩⟩:ByteArray).size=s.length:=rfl;simp only[Instr.sliceAt,Instr.slice,aQ,af hu,aZ,hsz];simp [r1,kO]};have e1:hh.dat.toI=(m:Int):=hm;have e2:l.dat.toI=(n:Int):=hn;have t1:(GW (kr hi) e hh).dat=.str (s.take m):=by
    cases hx:kr hi with
    |true=>have:m=s.length:=(by have:=hh0 hx;omega);rw[this,List.take_length];exact hs
    |false=>show Dat.str (e.dat.toS.take hh.dat.toI.toNat)=_;rw[hs,e1,Int.toNat_natCast];rfl
   rw[←List.drop_take];cases hx:kr lo with
   |true=>have:n=0:=(by have:=hl0 hx;omega);rw[this,List.drop_zero];exact t1
   |false=>show Dat.str ((GW (kr hi) e hh).dat.toS.drop l.dat.toI.toNat)=_;rw[t1,e2,Int.toNat_natCast];rfl
  cases h
 cases h
theorem E7(hwf:WF R φ w){dec:Bx→Option Bool}(hdec:∀b v,dec b=some v→b.eval=v){t:TypeId}{x v:AV}{lo hi mx:Option AV}{x':Value}{lo' hi' mx':Option Value}(h:wz P dec t x lo hi mx=some v)(hx:VR φ x x')
 (h1:yG φ lo lo')(h2:yG φ hi hi')(h3:yG φ mx mx'):∃v',(Instr.sliceAt t x' lo' hi' mx').run P w=.ok v' w∧VR φ v v':=by
 unfold wz at h;split at h
 ·rename_i e hu;cases hx with
  |vstr s hs=>
   split at h;{cases h};have h3':mx'=none:=by
    cases mx' with
    |none=>rfl
    |some _=>exact h3.elim
   subst h3';exact Jb hdec h hs hu h1 h2
 ·rename_i s hu;cases hx;split at h;{cases h};split at h
  ·rename_i l hh m hb;cases h;have h3':mx'=none:=by
    cases mx' with
    |none=>rfl
    |some _=>exact h3.elim
   subst h3';obtain⟨M,r1,r2,r3,r4,r5,r6⟩:=fk (P:=P) (φ:=φ) (b:=false) hb h1 h2 (lo':=lo') (hi':=hi') (mx':=none) trivial (fun k hk=>by simpa using hk.symm) (aE _);refine⟨.string ⟨⟨(s.drop l).take (hh - l)⟩⟩,?_,.str _⟩;have hsz:(⟨⟨s⟩⟩:ByteArray).size=s.length:=rfl;simp only[Instr.sliceAt,Instr.slice,aQ,af hu,aZ,hsz];simp [r1,kO]
  cases h
 ·rename_i e hu;cases hx;split at h;{rename_i s l hh m hs hb;cases h;obtain⟨M,r1,r2,r3,r4,r5,r6⟩:=fk (P:=P) (φ:=φ) (b:=true) hb h1 h2 h3 (c:=0) (fun k hk=>by simpa using hk.symm) (aE _);have:M=0:=(by omega);subst this;have:hh=0:=(by omega);subst this;have:l=0:=(by omega);subst this;refine⟨.slice none 0 0,?_,.nils⟩;simp only[Instr.sliceAt,Instr.slice,aQ,af hu,aZ,r1,aN hs];simp};cases h
 ·rename_i e id ver off len cap esz hu;cases hx with
  |slc ex o c he hd hh hl hc ho=>
   split at h
   ·rename_i s l hi0 m hs hb;simp only[ai]at h;split at h
    ·rename_i hbe;have hbe:=ae hbe;subst hbe;obtain⟨M,r1,r2,r3,r4,r5,r6⟩:=fk (P:=P) (φ:=φ) (b:=true) hb h1 h2 h3 (c:=c) (fun k hk=>(hc k hk).1) hl;have hrun:(Instr.sliceAt t (.slice (some ⟨ex.blk,o,none⟩) len c) lo' hi' mx').run P w=
      .ok (.slice (some (if M=l then⟨ex.blk,o,none⟩else⟨ex.blk,o+l*s,none⟩)) (hi0 - l) (M - l)) w:=by
      simp only[Instr.sliceAt,Instr.slice,aQ,af hu,aZ,r1,aN hs,Sem.run_pure];split;{rename_i hM;simp};rename_i hM;simp [cT]
     refine⟨_,hrun,?_⟩;cases m with
     |some m=>
      obtain⟨rfl,hcl⟩:=r5 m rfl;cases h;have hMhi:off+M*s≤ex.hi:=by
       cases cap with
       |none=>have:=ig s (hcl rfl);omega
       |some k=>have hk:=hc k rfl;have:=ig s (show M≤k by omega);omega
      by_cases hM:M=l;{subst hM;have:hi0=M:=(by omega);subst this;simp only[if_true,Nat.sub_self];rw[if_pos (Nat.beq_refl hi0)];exact .slc ex o 0 he hd (by omega) (aE _) (fun k hk=>by cases hk;exact⟨rfl,by omega⟩) (.inl rfl)};rw[if_neg hM];rw[if_neg (fun h=>hM (ae h))];have hc0:c≠0:=(by omega);obtain⟨ho1,ho2⟩:=ho.resolve_left hc0;have e1:l*s+(hi0 - l)*s=hi0*s:=(by rw[←Nat.add_mul];congr 1;omega);have e2:l*s+(M - l)*s=M*s:=(by rw[←Nat.add_mul];congr 1;omega);have e3:=ig s r3;have e4:=ig s r4;refine .slc ex (o+l*s) (M - l) he (by omega) (by omega) (by omega) (fun k hk=> ?_) (.inr ⟨by omega,by omega⟩);cases hk;exact⟨rfl,by omega⟩
     |none=>obtain⟨rfl,hcn,hhl⟩:=r6 rfl;cases h;have e1:l*s+(hi0 - l)*s=hi0*s:=(by rw[←Nat.add_mul];congr 1;omega);have e3:=ig s hhl;by_cases hM:M=l;{subst hM;have:hi0=M:=(by omega);subst this;simp only[if_true,Nat.sub_self];exact .slc ex o 0 he (by omega) (by omega) (aE _) (fun k hk=>by cases hk) (.inl rfl)};rw[if_neg hM];have hc0:M≠0:=(by omega);obtain⟨ho1,ho2⟩:=ho.resolve_left hc0;have e2:l*s+(M - l)*s=M*s:=(by rw[←Nat.add_mul];congr 1;omega);exact .slc ex (o+l*s) (M - l) he (by omega) (by omega) (by omega) (fun k hk=>by cases hk) (.inr ⟨by omega,by omega⟩)
    cases h
   cases h
 ·rename_i n e id ver off top hu;cases hx with
  |ptr ex o he hd hh ho=>
   split at h
   ·rename_i s l hi0 m hs hb;simp only[ai]at h;split at h
    ·rename_i hbe;have hbe:=aB hbe;cases h;obtain⟨M,r1,r2,r3,r4,r5,r6⟩:=fk (P:=P) (φ:=φ) (b:=false) hb h1 h2 h3 (c:=n) (fun k hk=>by simpa using hk.symm) (aE _);obtain⟨rfl,_⟩:=r5 m rfl;have hrun:(Instr.sliceAt t (.pointer (some ⟨ex.blk,o,none⟩)) lo' hi' mx').run P w=
      .ok (.slice (some (if M=l then⟨ex.blk,o,none⟩else⟨ex.blk,o+l*s,none⟩)) (hi0 - l) (M - l)) w:=by
      simp only[Instr.sliceAt,Instr.sureAddr,aQ,af hu,aZ,r1,aN hs,Sem.run_pure,cT]
     refine⟨_,hrun,?_⟩;have htop:=hwf.top _ _ _ he;have e3:=ig s r3;have e4:=ig s r4;by_cases hM:M=l;{subst hM;have:hi0=M:=(by omega);subst this;simp only[if_true,Nat.sub_self];rw[if_pos (Nat.beq_refl hi0)];exact .slc ex o 0 he hd (by omega) (aE _) (fun k hk=>by cases hk;exact⟨rfl,by omega⟩) (.inl rfl)};rw[if_neg hM];rw[if_neg (fun h=>hM (ae h))];have e1:l*s+(hi0 - l)*s=hi0*s:=(by rw[←Nat.add_mul];congr 1;omega);have e2:l*s+(M - l)*s=M*s:=(by rw[←Nat.add_mul];congr 1;omega);refine .slc ex (o+l*s) (M - l) he (by omega) (by omega) (by omega) (fun k hk=> ?_) (.inr ⟨by omega,by omega⟩);cases hk;exact⟨rfl,by omega⟩
    cases h
   cases h
 cases h
end
end Go.Tw
namespace Go.Tw
section
variable[Val]
variable{P:Program}{R:Nat}{C:Cfg}{D:Nat→Prop}{φ:PM}{σ:St}{w:World}
theorem lX(hi:Inv R C D φ σ w){size n:Nat}{x:AV}{x':Value}{l:List AV}{σ':St}(h:kb size n x σ=some (l,σ'))(hx:VR φ x x')(hk:Known D σ σ'):
 ∃arr:Array Value,(∀w₂:World,w₂.heap=w.heap→(Builtin.firstCells size n x').run P w₂=.ok arr w₂)∧VRL φ l arr.toList∧l.length=n*size∧σ'.heap=σ.heap∧σ'.next=σ.next∧σ'.wr=σ.wr:=by
 unfold kb at h;split at h;·simp only[ai]at h;split at h;{rename_i hn;have hn:=ae hn;subst hn;cases h;cases hx;exact⟨#[],fun _ _=>rfl,.nil,by simp,rfl,rfl,rfl⟩};cases h
 ·rename_i id ver off len cap esz;simp only[ai,al]at h;split at h
  ·rename_i hb;have hb1:=ae hb.1;subst hb1;have hb2:=aB hb.2;cases hx with
   |slc e o c he hd hh hl hc ho=>split at h;{rename_i hn;have hn:=ae hn;subst hn;cases h;exact⟨#[],fun _ _=>by simp [Builtin.firstCells,loadCells,loadCellsFrom],.nil,by simp,rfl,rfl,rfl⟩};rename_i hn;have hn0:n≠0:=fun h0=>hn (by simp [h0]);split at h;{rename_i l0 hl0;cases h;obtain⟨_,ob,_,hob,_⟩:=gJ hl0;have hdd:D id:=hk id (.inl (aC.2 (.inl rfl))) (hi.lt hob);have hm:=ig esz hb2;obtain⟨ho1,_⟩:=ho.resolve_left (by omega);obtain⟨arr,r1,r2,r3,_⟩:=jC (P:=P) hi hl0 hdd he hd (by omega) ho1;exact⟨arr,fun w₂ h₂=>by simpa[Builtin.firstCells]using r1 w₂ h₂,r2,r3,rfl,rfl,rfl⟩};cases h
  cases h
 {rename_i s;simp only[ai,al]at h;split at h;{rename_i hb;have hb1:=ae hb.1;subst hb1;have hb2:=aB hb.2;cases h;cases hx;refine⟨((s.take n).map fun b=>Value.int .u8 b.toNat).toArray,fun _ _=> ?_,by simpa using VRL.map_u8 (s.take n),by simp;omega,rfl,rfl,rfl⟩;simp only[Builtin.firstCells,kO,List.drop_zero,Nat.sub_zero,Sem.run_pure];simp};cases h};cases h
theorem pK{x:AV}{x':Value}{n:Nat}(h:lA x=some n)(hx:VR φ x x')(w:World):(Builtin.lenOf x').run P w=.ok n w:=by
 unfold lA at h;split at h<;>first
  |(cases h;done)
  |(cases h;cases hx;rfl)
omit [Val]in
theorem nextslicecap_le(need old:Nat)(h:old<need):Builtin.nextslicecap need old≤2*need+1024:=by
 unfold Builtin.nextslicecap;split;{omega};split;{omega};simp only[Builtin.growBy];repeat' split
 all_goals omega
omit [Val]in
theorem ri{need sCap bw:Nat}(hn:sCap<need)(h:(2*need+1024)*bw≤70368744177664):¬(Builtin.nextslicecap need sCap*bw>2^48):=by
 have h1:=nextslicecap_le need sCap hn;have h2:=ig bw h1;have:(2:Nat)^48=281474976710656:=by decide
 omega
def GD(P:Program)(e:TypeId)(i:TypeInfo)(u:TypeId)(n:Nat)(x:Value)(arr:Array Value)(w:World):Prop:=
 (∃d,P.underlying u=some d∧(∀k,d≠.int k)∧(Builtin.lenOf x).run P w=.ok n w∧(Builtin.firstCells i.size n x).run P w=.ok arr w∧(Builtin.firstCells i.size n x).run P w.drew=.ok arr w.drew)∨
 (∃k k' z,P.underlying u=some (.int k)∧x=.int k' (Int.ofNat n)∧n≤1099511627776∧n*i.bytes≤70368744177664∧(∀w,(zeroValue e).run P w=.ok z w)∧
   arr=if n*i.size=0 then #[]else Builtin.zeroCells z.cells n)
omit [Val]in
theorem run_append_fits{t u ty e:TypeId}{i:TypeInfo}{base:Option Addr}{bR sCap n:Nat}{x:Value}{arr:Array Value}{w':World}
 (ht:P.underlying t=some (.slice e))(hi:P.info? e=some i)(ha:GD P e i u n x arr w)(hle:bR+n≤sCap)
 (hst:((match base with|some a=>storeCells (a.add (bR*i.size)) arr.toList|none=>pure ()):Sem Unit).run P w=.ok () w'):
 (Builtin.append_ #[t,u] ty #[.slice base bR sCap,x]).run P w=.ok (.slice base (bR+n) sCap) w':=by
 have hsz:∀w,(sizeOf e).run P w=.ok i.size w:=fun w=>by simp [sizeOf,typeInfo,hi]
 have hti:∀w,(typeInfo e).run P w=.ok i w:=fun w=>by simp [typeInfo,hi]
 have a0:(#[Value.slice base bR sCap,x]:Array Value)[0]? =some (.slice base bR sCap):=rfl;have a1:(#[Value.slice base bR sCap,x]:Array Value)[1]? =some x:=rfl;have t0:(#[t,u]:Array TypeId)[0]? =some t:=rfl;have t1:(#[t,u]:Array TypeId)[1]? =some u:=rfl;unfold Builtin.append_;rw[a0,a1,t0,t1];simp -zeta only[aQ,af ht,hsz,aZ]
 extract_lets jq jp
 rcases ha with⟨d,hu,hd,hl,hf,_⟩|⟨k,k',z,hu,rfl,hn1,hn2,hz,rfl⟩
 ·rw[aQ,af hu];simp -zeta only[aZ,aQ,Sem.run_pure];simp -zeta only[jp]
  extract_lets jn
  rw[if_neg (by simp),aQ,hl];simp -zeta only[aZ];simp -zeta only[jn]
  extract_lets app need
  rw[if_pos hle];have hap:Sem.run P app w=.ok arr w:=hf;rw[aQ,hap];simp -zeta only[aZ];cases base with
  |none=>have hw:w=w':=(by simpa using hst);subst hw;rfl
  |some a=>have hst':(storeCells (a.add (bR*i.size)) arr.toList).run P w=.ok () w':=hst;have hb:∀(f:Unit→Sem Value),(storeCells (a.add (bR*i.size)) arr.toList>>=f).run P w=(f ()).run P w':=fun f=>(by rw[aQ,hst'];rfl);exact hb _
 rw[aQ,af hu];simp -zeta only[aZ,aQ,Sem.run_pure];simp -zeta only[jp]
 extract_lets jn
 rw[if_pos trivial,aQ];simp -zeta only[asInt,asIntOf,aQ,Sem.run_pure,aZ]
 extract_lets l jm jl
 have hwl:l=Int.ofNat n:=iq (by omega);rw[if_neg (by rw[hwl];exact Int.not_lt.2 (Int.natCast_nonneg n))];simp -zeta only[jl];rw[aQ,hti];simp -zeta only[aZ];have hmul:(Int.ofNat n)*(i.bytes:Int)≤70368744177664:=by show((n*i.bytes:Nat):Int)≤((70368744177664:Nat):Int);exact Int.ofNat_le.2 hn2
 have h48:¬(l*(i.bytes:Int)>2^48):=by have:(2:Int)^48=281474976710656:=(by decide);rw[hwl];omega
 rw[if_neg h48];simp -zeta only[jm];rw[aQ,Sem.run_pure];simp -zeta only[aZ];have hln:l.toNat=n:=by rw[hwl];rfl
 rw[hln];simp -zeta only[jn]
 extract_lets app need
 rw[if_pos hle];have hap:Sem.run P app w=.ok (if n*i.size=0 then #[]else Builtin.zeroCells z.cells n) w:=by show Sem.run P (if(!true)=true then _ else _) w=_;rw[if_neg (by simp)];split;{rfl};simp [hz]
 rw[aQ,hap];simp -zeta only[aZ];cases base with
 |none=>have hw:w=w':=(by simpa using hst);subst hw;rfl
 |some a=>have hst':(storeCells (a.add (bR*i.size)) (if n*i.size=0 then #[]else Builtin.zeroCells z.cells n).toList).run P w=.ok () w':=hst;have hb:∀(f:Unit→Sem Value),(storeCells (a.add (bR*i.size)) (if n*i.size=0 then #[]else Builtin.zeroCells z.cells n:Array Value).toList>>=f).run P w=(f ()).run P w':=fun f=>(by rw[aQ,hst'];rfl);exact hb _
omit [Val]in
theorem eu{t u ty e:TypeId}{i:TypeInfo}{base:Option Addr}{bR sCap n:Nat}{x z:Value}{arr old:Array Value}
 (ht:P.underlying t=some (.slice e))(hi:P.info? e=some i)(ha:GD P e i u n x arr w)(hz:∀w,(zeroValue e).run P w=.ok z w)(hg:¬bR+n≤sCap)
 (hold:(Builtin.firstCells i.size bR (.slice base bR sCap)).run P w.drew=.ok old w.drew)
 (hs1:bR+n≤9223372036854775807)(hs2:¬(Builtin.nextslicecap (bR+n) sCap*i.bytes>2^48)):
 ∃c,bR+n≤c∧(Builtin.append_ #[t,u] ty #[.slice base bR sCap,x]).run P w=
  .ok (.slice (some ⟨w.heap.size,0,none⟩) (bR+n) c) (w.drew.alloc (.cells (old++arr++Builtin.zeroCells z.cells (c - (bR+n))) e)):=by
 refine⟨(Question.appendCap (bR+n) sCap e).cut (w.tape w.drawn (.appendCap (bR+n) sCap e)),by simp [Question.cut],?_⟩;have hsz:∀w,(sizeOf e).run P w=.ok i.size w:=fun w=>by simp [sizeOf,typeInfo,hi]
 have hti:∀w,(typeInfo e).run P w=.ok i w:=fun w=>by simp [typeInfo,hi]
 have a0:(#[Value.slice base bR sCap,x]:Array Value)[0]? =some (.slice base bR sCap):=rfl;have a1:(#[Value.slice base bR sCap,x]:Array Value)[1]? =some x:=rfl;have t0:(#[t,u]:Array TypeId)[0]? =some t:=rfl;have t1:(#[t,u]:Array TypeId)[1]? =some u:=rfl;have hmax:¬((((bR+n:Nat):Int)>IntKind.i64.max)):=by have:IntKind.i64.max=9223372036854775807:=(by decide);rw[this];omega
 have hchoose:(choose (.appendCap (bR+n) sCap e)).run P w=.ok ((Question.appendCap (bR+n) sCap e).cut (w.tape w.drawn (.appendCap (bR+n) sCap e))) w.drew:=by simp [Question.forced]
 generalize (Question.appendCap (bR+n) sCap e).cut (w.tape w.drawn (.appendCap (bR+n) sCap e))=c at hchoose⊢;unfold Builtin.append_;rw[a0,a1,t0,t1];simp -zeta only[aQ,af ht,hsz,aZ]
 extract_lets jq jp
 rcases ha with⟨d,hu,hd,hl,_,hf⟩|⟨k,k',z',hu,rfl,hn1,hn2,hz',rfl⟩
 ·rw[aQ,af hu];simp -zeta only[aZ,aQ,Sem.run_pure];simp -zeta only[jp]
  extract_lets jn
  rw[if_neg (by simp),aQ,hl];simp -zeta only[aZ];simp -zeta only[jn]
  extract_lets app need j1 jy jx
  have hneed:need=bR+n:=rfl;rw[if_neg hg,aQ,hti];simp -zeta only[aZ];rw[if_neg (fun h=>hmax h.1)];simp -zeta only[jx];rw[aQ,hti];simp -zeta only[aZ];rw[if_neg hs2];simp -zeta only[jy];rw[aQ,hneed,hchoose];have hap:Sem.run P app w.drew=.ok arr w.drew:=hf;simp [hti,hold,hap,hz,newRow]
 rw[aQ,af hu];simp -zeta only[aZ,aQ,Sem.run_pure];simp -zeta only[jp]
 extract_lets jn
 rw[if_pos trivial,aQ];simp -zeta only[asInt,asIntOf,aQ,Sem.run_pure,aZ]
 extract_lets l jm jl
 have hwl:l=Int.ofNat n:=iq (by omega);rw[if_neg (by rw[hwl];exact Int.not_lt.2 (Int.natCast_nonneg n))];simp -zeta only[jl];rw[aQ,hti];simp -zeta only[aZ];have hmul:(Int.ofNat n)*(i.bytes:Int)≤70368744177664:=by show((n*i.bytes:Nat):Int)≤((70368744177664:Nat):Int);exact Int.ofNat_le.2 hn2
 have h48:¬(l*(i.bytes:Int)>2^48):=by have:(2:Int)^48=281474976710656:=(by decide);rw[hwl];omega
 rw[if_neg h48];simp -zeta only[jm];rw[aQ,Sem.run_pure];simp -zeta only[aZ];have hln:l.toNat=n:=by rw[hwl];rfl
 rw[hln];simp -zeta only[jn]
 extract_lets app need j1 jy jx
 have hneed:need=bR+n:=rfl;rw[if_neg hg,aQ,hti];simp -zeta only[aZ];rw[if_neg (fun h=>hmax h.1)];simp -zeta only[jx];rw[aQ,hti];simp -zeta only[aZ];rw[if_neg hs2];simp -zeta only[jy];rw[aQ,hneed,hchoose];have hap:Sem.run P app w.drew=.ok (if n*i.size=0 then #[]else Builtin.zeroCells z'.cells n) w.drew:=by show Sem.run P (if(!true)=true then _ else _) w.drew=_;rw[if_neg (by simp)];split;{rfl};simp [hz']
 simp [hti,hold,hap,hz,newRow]
end
end Go.Tw
namespace Go.Tw
section
variable[Val]
variable{P:Program}{R:Nat}{C:Cfg}{D:Nat→Prop}{φ:PM}{σ:St}{w:World}
omit [Val]in
theorem fF(z:Array Value)(n:Nat):(Builtin.zeroCells z n).size=n*z.size:=by simp [Builtin.zeroCells]
omit [Val]in
theorem WF.ver(h:WF R φ w){id ver nv:Nat}{e e':Ext}(he:φ id ver=some e)(hR:R≤id)(hb:e'.blk=e.blk)(ht:e'.hi+e'.up≤e'.bsz+e'.dn):WF R (φ.ins id nv e') w where
 inj:=fun i u f j s g hf hg hbk=>by unfold PM.ins at hf hg;split at hf<;>split at hg;{rename_i h1 h2;exact .inl (h1.1.trans h2.1.symm)};{rename_i h1 h2;cases hf;rcases h.inj _ _ _ _ _ _ he hg (hb.symm.trans hbk)with h3|h3;{exact .inl (h1.1.trans h3)};exact absurd h3.1 (Nat.not_lt.2 hR)};{rename_i h1 h2;cases hg;rcases h.inj _ _ _ _ _ _ hf he (hbk.trans hb)with h3|h3;{exact .inl (h3.trans h2.1.symm)};exact absurd h3.2 (Nat.not_lt.2 hR)};exact h.inj _ _ _ _ _ _ hf hg hbk
 lt:=fun i u f hf=>by unfold PM.ins at hf;split at hf;{cases hf;rw[hb];exact h.lt _ _ _ he};exact h.lt _ _ _ hf
 top:=fun i u f hf=>by unfold PM.ins at hf;split at hf;{cases hf;exact ht};exact h.top _ _ _ hf
def KW(φ:PM)(id base lim since base' lim' since' nv E:Nat):Prop:=
 ∀v,dQ base' since' (nv+1) v→v=nv∨(dQ base since nv v∧v≠nv∧∀e,φ id v=some e→bJ base' lim' v e≤E∧bJ base' lim' v e≤bJ base lim v e)
theorem yr{id ver base lim since base' lim' since' nv et off E q m:Nat}{c new:List AV}{arr:Array Value}{e:Ext}{cs:Array Value}{fl fh:Nat}
 (hr:Rep R φ w id (some (.arr c base lim since nv et)))(hal:dQ base since nv ver)(he:φ id ver=some e)(hbk:w.heap[e.blk]? =some (.cells cs et (fl,fh)))
 (hE:E≤bJ base lim ver e)(_hdn:e.dn≤off)(_hoE:off≤E)(hq:q+e.dn=E+e.up)(hn:VRL φ new arr.toList)(hm:new.length=m)
 (hone:∀v∈arr.toList,v.oneCell'=true)(hroom:q+m≤e.bsz)(hst:KW φ id base lim since base' lim' since' nv E)
 (hb':base'<nv+1)(hs':since'≤nv+1)(hl':lim'≤E)(hbn:base'≠nv):
 (storeCells ⟨e.blk,q,none⟩ arr.toList).run P w=.ok () (wset w e.blk (.cells (splice cs.toList q arr.toList).toArray et (fl,fh)))∧
 Rep R (φ.ins id nv {e with hi:=E+m}) (wset w e.blk (.cells (splice cs.toList q arr.toList).toArray et (fl,fh))) id (some (.arr (c.take E++new) base' lim' since' (nv+1) et)):=by
 obtain⟨hR,g1,g2,g3,g4,g5,g6,g7⟩:=hr;obtain⟨e',cs',fl',fh',he',hbk',k1,k2,k3,k4,k5⟩:=g5 ver hal;rw[he]at he';cases he';rw[hbk]at hbk';simp only[aw,Obj.cells.injEq,il,true_and]at hbk';obtain⟨rfl,rfl,rfl⟩:=hbk';have hlen:=hn.length;have hal':arr.toList.length=m:=by omega
 have hEc:E≤c.length:=Nat.le_trans hE k3;have hst1:=fe (P:=P) (k:=q) arr.toList 0 cs w hbk (by rw[hal',k1];simpa using hroom) hone (by intro y y1 y2 ⟨y3,y4⟩;rw[hal']at y2;omega);have hsp:(cs.toList.take (q+0)++arr.toList++cs.toList.drop (q+0+arr.toList.length))=splice cs.toList q arr.toList:=by simp [ib]
 rw[hsp]at hst1;have hqs:q+arr.toList.length≤cs.toList.length:=by rw[hal'];simp;omega
 have hclen:(c.take E++new).length=E+m:=by simp;omega
 have aj:∀x,x<E→(c.take E++new)[x]? =c[x]? :=by intro x hx;rw[List.getElem?_append_left (by simp;omega),ij hx]
 have hget2:∀x,E≤x→(c.take E++new)[x]? =new[x - E]? :=by intro x hx;rw[List.getElem?_append_right (by simp;omega)];congr 1;simp;omega
 have hcs:∀y,y<q→(splice cs.toList q arr.toList).toArray[y]? =cs[y]? :=by intro y hy;have:(splice cs.toList q arr.toList).toArray[y]? =(splice cs.toList q arr.toList)[y]? :=(by simp);rw[this,jS hqs,if_pos hy];simp
 have hcs2:∀y,q≤y→y<q+m→(splice cs.toList q arr.toList).toArray[y]? =arr.toList[y - q]? :=by intro y hy hy2;have:(splice cs.toList q arr.toList).toArray[y]? =(splice cs.toList q arr.toList)[y]? :=(by simp);rw[this,jS hqs,if_neg (by omega),if_pos (by omega)]
 have hsize:(splice cs.toList q arr.toList).toArray.size=cs.size:=by have:=cH hqs;simp only[List.size_toArray,this];simp
 have hle:φ.le (φ.ins id nv {e with hi:=E+m}):=φ.le_ins _ (g4 nv (aE _));have hother:∀v,v≠nv→φ.ins id nv {e with hi:=E+m} id v=φ id v:=fun v hv=>φ.ins_ver _ hv id;refine⟨hst1,hR,by rw[hclen];omega,hb',hs',fun v hv=>by rw[hother v (by omega)];exact g4 v (by omega),?_,?_,?_⟩;{intro v hv;rcases hst v hv with rfl|⟨hav,hne,hlim⟩;{refine⟨_,_,fl,fh,PM.ins_same _ _ _ _,ca _ _ _ (cR hbk),?_,?_,?_,k4,?_⟩;{rw[hsize];exact k1};{simp [bJ,Ne.symm hbn]};{rw[hclen];simp [bJ,Ne.symm hbn]};intro x a x1 x2 hx;have x2:x<E+m:=(by simpa[bJ,Ne.symm hbn]using x2);by_cases hxE:x<E;{rw[aj x hxE]at hx;obtain⟨a',y1,y2⟩:=k5 x a x1 (by omega) hx;have x1':e.dn≤x:=x1;refine⟨a',?_,y2.mono hle⟩;show(splice cs.toList q arr.toList).toArray[x+e.up - e.dn]? =some a';rw[hcs _ (by omega)];exact y1};rw[hget2 x (by omega)]at hx;obtain⟨a',y1,y2⟩:=hn.get hx;refine⟨a',?_,y2.mono hle⟩;have x1':e.dn≤x:=x1;show(splice cs.toList q arr.toList).toArray[x+e.up - e.dn]? =some a';rw[hcs2 _ (by omega) (by omega),show x+e.up - e.dn - q=x - E by omega];exact y1};obtain⟨f,fs,ffl,ffh,hf,hfb,m1,m2,m3,m4,m5⟩:=g5 v hav;obtain⟨hl1,hl2⟩:=hlim f hf;by_cases hb:f.blk=e.blk;{obtain⟨hu,hd⟩:=g6 v ver f e hav hal hf he hb;have hfb':=hfb;rw[hb,hbk]at hfb';simp only[aw,Obj.cells.injEq,il,true_and]at hfb';obtain⟨rfl,rfl,rfl⟩:=hfb';refine⟨f,_,fl,fh,(hother v hne).trans hf,by rw[hb];exact ca _ _ _ (cR hbk),?_,?_,?_,m4,?_⟩;{rw[hsize];exact m1};{omega};{rw[hclen];omega};intro x a x1 x2 hx;rw[aj x (by omega)]at hx;obtain⟨a',y1,y2⟩:=m5 x a x1 (by omega) hx;exact⟨a',by rw[hcs _ (by omega)];exact y1,y2.mono hle⟩};refine⟨f,fs,ffl,ffh,(hother v hne).trans hf,by rw[rI _ _ _ hb];exact hfb,m1,?_,?_,m4,?_⟩;{omega};{rw[hclen];omega};intro x a x1 x2 hx;rw[aj x (by omega)]at hx;obtain⟨a',y1,y2⟩:=m5 x a x1 (by omega) hx;exact⟨a',y1,y2.mono hle⟩};{intro v₁ v₂ e₁ e₂ a1 a2 b1 b2 hbb;rcases hst v₁ a1 with rfl|⟨h1,n1,_⟩;{rcases hst v₂ a2 with rfl|⟨h2,n2,_⟩;{rw[b1]at b2;cases b2;exact⟨rfl,rfl⟩};rw[PM.ins_same]at b1;cases b1;rw[hother v₂ n2]at b2;obtain⟨h3,h4⟩:=g6 ver v₂ e e₂ hal h2 he b2 hbb;exact⟨h3,h4⟩};rcases hst v₂ a2 with rfl|⟨h2,n2,_⟩;{rw[PM.ins_same]at b2;cases b2;rw[hother v₁ n1]at b1;exact g6 v₁ ver e₁ e h1 hal b1 he hbb};rw[hother v₁ n1]at b1;rw[hother v₂ n2]at b2;exact g6 v₁ v₂ e₁ e₂ h1 h2 b1 b2 hbb};intro v f h1 h2 h3 h4;have:v=nv:=by omega
 subst this;rw[PM.ins_same]at h4;cases h4;exact hclen.symm
theorem yu{id ver base lim since base' lim' since' nv et off E m:Nat}{c new:List AV}{arr old rest:Array Value}{e:Ext}
 (hwf:WF R φ w)(hr:Rep R φ w id (some (.arr c base lim since nv et)))(hal:dQ base since nv ver)(he:φ id ver=some e)
 (hE:E≤bJ base lim ver e)(hoE:off≤E)(hn:VRL φ new arr.toList)(hm:new.length=m)
 (hold:VRL φ ((c.drop off).take (E - off)) old.toList)(hst:KW φ id base lim since base' lim' since' nv E)
 (hb':base'<nv+1)(hs':since'≤nv+1)(hl':lim'≤E)(hbn:base'≠nv):
 Rep R (φ.ins id nv ⟨w.heap.size,0,off,E+m,(old++arr++rest).size,[]⟩) (w.alloc (.cells (old++arr++rest) et)) id (some (.arr (c.take E++new) base' lim' since' (nv+1) et)):=by
 obtain⟨hR,g1,g2,g3,g4,g5,g6,g7⟩:=hr;obtain⟨e',cs,fl,fh,he',hbk,k1,k2,k3,k4,k5⟩:=g5 ver hal;rw[he]at he';cases he';have hlen:=hn.length;have hlo:=hold.length;have hEc:E≤c.length:=Nat.le_trans hE k3;have hlo':old.toList.length=E - off:=by rw[hlo];simp;omega
 have hclen:(c.take E++new).length=E+m:=by simp;omega
 have aj:∀x,x<E→(c.take E++new)[x]? =c[x]? :=by intro x hx;rw[List.getElem?_append_left (by simp;omega),ij hx]
 have hget2:∀x,E≤x→(c.take E++new)[x]? =new[x - E]? :=by intro x hx;rw[List.getElem?_append_right (by simp;omega)];congr 1;simp;omega
 have hle:φ.le (φ.ins id nv ⟨w.heap.size,0,off,E+m,(old++arr++rest).size,[]⟩):=φ.le_ins _ (g4 nv (aE _));have hother:∀v,v≠nv→φ.ins id nv ⟨w.heap.size,0,off,E+m,(old++arr++rest).size,[]⟩ id v=φ id v:=fun v hv=>φ.ins_ver _ hv id;refine⟨hR,by rw[hclen];omega,hb',hs',fun v hv=>by rw[hother v (by omega)];exact g4 v (by omega),?_,?_,?_⟩
 ·intro v hv;rcases hst v hv with rfl|⟨hav,hne,hlim⟩
  ·refine⟨_,old++arr++rest,0,0,PM.ins_same _ _ _ _,cf _ _,rfl,?_,?_,?_,?_⟩;{simp [bJ,Ne.symm hbn]};{rw[hclen];simp [bJ,Ne.symm hbn]};{exact .inl rfl};intro x a x1 x2 hx;have x1:off≤x:=x1;have x2:x<E+m:=(by simpa[bJ,Ne.symm hbn]using x2);have hpos:(old++arr++rest)[x+0 - off]? =(old.toList++arr.toList++rest.toList)[x - off]? :=by
    rw[←Array.getElem?_toList];simp
   show ∃a',(old++arr++rest)[x+0 - off]? =some a'∧_;rw[hpos];by_cases hxE:x<E
   ·rw[aj x hxE]at hx;have hx':((c.drop off).take (E - off))[x - off]? =some a:=by
     rw[ij (by omega),fc,show off+(x - off)=x by omega];exact hx
    obtain⟨a',y1,y2⟩:=hold.get hx';refine⟨a',?_,y2.mono hle⟩;rw[List.append_assoc,List.getElem?_append_left (by omega)];exact y1
   rw[hget2 x (by omega)]at hx;obtain⟨a',y1,y2⟩:=hn.get hx;refine⟨a',?_,y2.mono hle⟩;rw[List.append_assoc,List.getElem?_append_right (by omega),hlo',List.getElem?_append_left (by omega),show x - off - (E - off)=x - E by omega];exact y1
  obtain⟨f,fs,ffl,ffh,hf,hfb,m1,m2,m3,m4,m5⟩:=g5 v hav;obtain⟨hl1,hl2⟩:=hlim f hf;refine⟨f,fs,ffl,ffh,(hother v hne).trans hf,by rw[alloc_old _ _ (hwf.lt _ _ _ hf)];exact hfb,m1,?_,?_,m4,?_⟩;{omega};{rw[hclen];omega};intro x a x1 x2 hx;rw[aj x (by omega)]at hx;obtain⟨a',y1,y2⟩:=m5 x a x1 (by omega) hx;exact⟨a',y1,y2.mono hle⟩
 {intro v₁ v₂ e₁ e₂ a1 a2 b1 b2 hbb;rcases hst v₁ a1 with rfl|⟨h1,n1,_⟩;{rcases hst v₂ a2 with rfl|⟨h2,n2,_⟩;{rw[b1]at b2;cases b2;exact⟨rfl,rfl⟩};rw[PM.ins_same]at b1;cases b1;rw[hother v₂ n2]at b2;exact absurd (hwf.lt _ _ _ b2) (by rw[←hbb];exact Nat.lt_irrefl _)};rcases hst v₂ a2 with rfl|⟨h2,n2,_⟩;{rw[PM.ins_same]at b2;cases b2;rw[hother v₁ n1]at b1;exact absurd (hwf.lt _ _ _ b1) (by rw[hbb];exact Nat.lt_irrefl _)};rw[hother v₁ n1]at b1;rw[hother v₂ n2]at b2;exact g6 v₁ v₂ e₁ e₂ h1 h2 b1 b2 hbb};intro v f h1 h2 h3 h4;have:v=nv:=by omega
 subst this;rw[PM.ins_same]at h4;cases h4;exact hclen.symm
theorem uf(hi:Inv R C D φ σ w){size n bR sCap:Nat}{new old:List AV}{x' z':Value}{base:Option Addr}{t u ty e:TypeId}{ti:TypeInfo}{arr oldr:Array Value}
 (ht:P.underlying t=some (.slice e))(hti:P.info? e=some ti)(_hsz:ti.size=size)
 (rz:∀w,(zeroValue e).run P w=.ok z' w)(hzs:z'.cells.size=size)
 (ha:GD P e ti u n x' arr w)(hnew:VRL φ new arr.toList)(hlen:new.length=n*size)(hold:VRL φ old oldr.toList)(holen:old.length=bR*size)
 (hor:(Builtin.firstCells ti.size bR (.slice base bR sCap)).run P w.drew=.ok oldr w.drew)(hg:¬bR+n≤sCap)(hb:(2*(bR+n)+1024)*ti.bytes≤70368744177664)
 (hb2:bR+n≤1099511627776)(hf:∀v,φ σ.next v=none):
 ∃φ' w' v',(Builtin.append_ #[t,u] ty #[.slice base bR sCap,x']).run P w=.ok v' w'∧VR φ' (.slc σ.next 0 0 (bR+n) none size) v'∧Post R D φ σ w (gQ e (old++new) σ) φ' w':=by
 obtain⟨c,hc,hr⟩:=eu (ty:=ty) ht hti ha rz hg hor (by omega) (ri (by omega) hb);have h1:=hnew.length;have h2:=hold.length;have hls:(old++new).length=(bR+n)*size:=by rw[cg,hlen,holen,Nat.add_mul]
 have hcs:(oldr++arr++Builtin.zeroCells z'.cells (c - (bR+n))).size=c*size:=by have e1:oldr.size=bR*size:=(by simpa[holen]using h2);have e2:arr.size=n*size:=(by simpa[hlen]using h1);rw[Array.size_append,Array.size_append,fF,hzs,e1,e2,←Nat.add_mul,←Nat.add_mul];congr 1;omega
 have hle:(bR+n)*size≤c*size:=ig _ hc;have hpost:=rj hi.drew (c:=old++new) (cs:=oldr++arr++Builtin.zeroCells z'.cells (c - (bR+n))) (fl:=0) (fh:=0) e hf (fun ψ hψ=>by have:=(hold.append hnew).mono hψ;have h3:(oldr++arr++Builtin.zeroCells z'.cells (c - (bR+n))).toList.take (old++new).length=oldr.toList++arr.toList:=(by rw[Array.toList_append,Array.toList_append,List.take_append_of_le_length (by simp only[cg];omega),List.take_of_length_le (by simp only[cg];omega)]);rw[h3];exact this) (by rw[hls,hcs];exact hle) (.inl rfl);refine⟨_,_,_,hr,?_,hpost.drew⟩;refine .slc _ 0 c (PM.ins_same _ _ _ _) (aE _) (by simp only[hls];omega) hc (fun k hk=>(by cases hk)) (.inr ⟨rfl,by simp only[hcs];omega⟩)
theorem gv(hi:Inv R C D φ σ w){size n:Nat}{new:List AV}{x' z':Value}{t u ty e:TypeId}{ti:TypeInfo}{arr:Array Value}
 {id ver off len base lim since base' lim' since' nv et o cc:Nat}{c:List AV}{ex:Ext}
 (ht:P.underlying t=some (.slice e))(hti:P.info? e=some ti)(hsz:ti.size=size)
 (rz:∀w,(zeroValue e).run P w=.ok z' w)(hzs:z'.cells.size=size)
 (ha:GD P e ti u n x' arr w)(hnew:VRL φ new arr.toList)(hlen:new.length=n*size)(hflat:new.all AV.flat=true)(hn0:n≠0)
 (ho:σ.heap.get id=some (.arr c base lim since nv et))(hd:D id)(he:φ id ver=some ex)(hdn:ex.dn≤off)(hl:len≤cc)
 (hoo:cc=0∨(o+ex.dn=off+ex.up∧o+cc*size≤ex.bsz))(hb:(2*(len+n)+1024)*ti.bytes≤70368744177664)(hb2:len+n≤1099511627776)
 (hal:dQ base since nv ver)(hE:off+len*size≤bJ base lim ver ex)(hfz:et=e)
 (hst:KW φ id base lim since base' lim' since' nv (off+len*size))(hb':base'<nv+1)(hs':since'≤nv+1)(hl':lim'≤off+len*size)(hbn:base'≠nv):
 ∃φ' w' v',(Builtin.append_ #[t,u] ty #[.slice (some ⟨ex.blk,o,none⟩) len cc,x']).run P w=.ok v' w'∧VR φ' (.slc id nv off (len+n) none size) v'∧
  Post R D φ σ w (σ.put id (.arr (c.take (off+len*size)++new) base' lim' since' (nv+1) et)) φ' w':=by
 have hrep:=hi.at ho hd;have hrep':=hrep;obtain⟨hR,g1,g2,g3,g4,g5,g6,g7⟩:=hrep';subst hfz;obtain⟨e',cs,fl,fh,he',hbk,k1,k2,k3,k4,k5⟩:=g5 ver hal;rw[he]at he';cases he';have h1:=hnew.length;have harr:arr.size=n*size:=by simpa[hlen]using h1
 have hlt:=hi.lt ho;have hmul:(len+n)*size=len*size+n*size:=Nat.add_mul _ _ _;have hEc:off+len*size≤c.length:=Nat.le_trans hE k3;by_cases hfit:len+n≤cc
 ·have hcc0:cc≠0:=(by omega);obtain⟨ho1,ho2⟩:=hoo.resolve_left hcc0;have hm2:=ig size hfit;have hone:∀v∈arr.toList,v.oneCell'=true:=by
   intro v hm;obtain⟨j,hj,rfl⟩:=List.getElem_of_mem hm;have hjl:j<new.length:=(by omega);obtain⟨v',y1,y2⟩:=hnew.get (bC hjl);rw[bC hj]at y1;simp only[aw]at y1;rw[y1];exact y2.oneCell (List.all_eq_true.1 hflat _ (List.getElem_mem hjl))
  obtain⟨r1,r2⟩:=yr (P:=P) (q:=o+len*size) (m:=n*size) hrep hal he hbk hE hdn (by omega) (by omega) hnew hlen hone (by omega) hst hb' hs' hl' hbn;refine⟨φ.ins id nv {ex with hi:=off+len*size+n*size},_,.slice (some ⟨ex.blk,o,none⟩) (len+n) cc,run_append_fits ht hti ha hfit (by show(storeCells ((⟨ex.blk,o,none⟩:Addr).add (len*ti.size)) arr.toList).run P w=_;rw[cT,hsz];exact r1),?_,?_⟩;{exact .slc {ex with hi:=off+len*size+n*size} o cc (PM.ins_same _ _ _ _) hdn (by simp only;omega) hfit (fun k hk=>(by cases hk)) (.inr ⟨ho1,ho2⟩)};have hle:=φ.le_ins {ex with hi:=off+len*size+n*size} (g4 nv (aE _));refine .put hi hR hlt hle ((hi.wf.ver (e':={ex with hi:=off+len*size+n*size}) he hR rfl (by show off+len*size+n*size+ex.up≤ex.bsz+ex.dn;omega)).wset _ _) (fun i h v=>φ.ins_id _ h v) (fun v f hf=> ?_) (.wset he _) r2;unfold PM.ins at hf;split at hf;{cases hf;exact .inl ⟨ver,ex,he,rfl⟩};exact .inl ⟨v,f,hf,rfl⟩
 have hold:∃oldr:Array Value,(Builtin.firstCells ti.size len (.slice (some ⟨ex.blk,o,none⟩) len cc)).run P w.drew=.ok oldr w.drew∧VRL φ ((c.drop off).take (off+len*size - off)) oldr.toList:=by have hsub:off+len*size - off=len*size:=(by omega);rw[hsub,hsz];by_cases hz:len*size=0;{refine⟨#[],by simp [Builtin.firstCells,hz,loadCells,loadCellsFrom],?_⟩;rw[hz];simp;exact .nil};have hcc0:cc≠0:=(by intro h0;have:len=0:=(by omega);subst this;simp at hz);obtain⟨ho1,ho2⟩:=hoo.resolve_left hcc0;have hbk':w.drew.heap[ex.blk]? =some (.cells cs et (fl,fh)):=hbk;have hm2:=ig size hl;refine⟨((cs.toList.drop o).take (len*size)).toArray,by simpa[Builtin.firstCells]using cz (P:=P) hbk' (by omega),?_⟩;refine VRL.of_get (by simp;omega) fun i v v' hv hv'=> ?_;have hi':i<len*size:=(by rcases aS i (len*size)with h|h;{exact h};rw[bZ (by simp;omega)]at hv;cases hv);rw[ij hi',fc]at hv;obtain⟨v'',y1,y2⟩:=k5 (off+i) v (by omega) (by omega) hv;have hv2:cs[o+i]? =some v':=(by have:((cs.toList.drop o).take (len*size))[i]? =some v':=(by simpa using hv');rw[ij hi',fc]at this;simpa using this);rw[show off+i+ex.up - ex.dn=o+i by omega,hv2]at y1;cases y1;exact y2
 obtain⟨oldr,hor,hol⟩:=hold;obtain⟨c',hc',hr⟩:=eu (ty:=ty) ht hti ha rz hfit hor (by omega) (ri (by omega) hb);have hrep2:Rep R φ w.drew id (some (.arr c base lim since nv et)):=hrep.frame φ.le_refl (fun _=>rfl) (fun _ _ _=>rfl);have hrg:=yu (rest:=Builtin.zeroCells z'.cells (c' - (len+n))) (m:=n*size) (hi.drew (C:=C)).wf hrep2 hal he hE (by omega) hnew hlen hol hst hb' hs' hl' hbn;have hols:=hol.length;have hosz:oldr.size=len*size:=by have:oldr.toList.length=_:=hols;simp at this;omega
 have hcs:(oldr++arr++Builtin.zeroCells z'.cells (c' - (len+n))).size=c'*size:=by rw[Array.size_append,Array.size_append,fF,hzs,hosz,harr,←Nat.add_mul,←Nat.add_mul];congr 1;omega
 have hm3:=ig size hc';have htop:off+len*size+n*size+0≤(oldr++arr++Builtin.zeroCells z'.cells (c' - (len+n))).size+off:=by rw[hcs];omega
 refine⟨φ.ins id nv ⟨w.drew.heap.size,0,off,off+len*size+n*size,(oldr++arr++Builtin.zeroCells z'.cells (c' - (len+n))).size,[]⟩,_,_,hr,?_,?_⟩;rotate_left;{refine Post.drew (.put hi.drew hR hlt (φ.le_ins _ (g4 nv (aE _))) ((hi.drew (C:=C)).wf.alloc _ rfl htop) (fun i h v=>φ.ins_id _ h v) (fun v f hf=> ?_) ?_ hrg);{unfold PM.ins at hf;split at hf;{cases hf;exact .inr (aE _)};exact .inl ⟨v,f,hf,rfl⟩};exact⟨by rw[World.size_alloc];omega,fun b hb _=>alloc_old _ _ hb,rfl,rfl,rfl⟩};exact .slc _ 0 c' (PM.ins_same _ _ _ _) (aE _) (by show off+(len+n)*size≤off+len*size+n*size;omega) hc' (fun k hk=>(by cases hk)) (.inr ⟨by show 0+off=off+0;omega,by simp only[hcs];omega⟩)
theorem lI(hi:Inv R C D φ σ w){size bw n:Nat}{s v:AV}{new:List AV}{σ':St}{s' x' z':Value}{t u ty e:TypeId}{ti:TypeInfo}{arr:Array Value}
 (h:dx e size bw s n new σ=some (v,σ'))(hs:VR φ s s')(ht:P.underlying t=some (.slice e))(hti:P.info? e=some ti)(hsz:ti.size=size)(hbw:ti.bytes=bw)
 (rz:∀w,(zeroValue e).run P w=.ok z' w)(hzs:z'.cells.size=size)
 (ha:GD P e ti u n x' arr w)(hnew:VRL φ new arr.toList)(hlen:new.length=n*size)(hk:Known D σ σ')(hf:Free φ σ σ'):
 ∃φ' w' v',(Builtin.append_ #[t,u] ty #[s',x']).run P w=.ok v' w'∧VR φ' v v'∧Post R D φ σ w σ' φ' w':=by
 have harr:=hnew.length;have harr':arr.size=n*size:=by simpa[hlen]using harr
 unfold dx at h;split at h;·cases hs;simp only[ai,al]at h;split at h;{rename_i hn;have hn:=ae hn;subst hn;cases h;exact⟨φ,w,.slice none 0 0,run_append_fits ht hti ha (aE _) rfl,.nils,.same hi rfl rfl rfl⟩};rename_i hn;have hn0:n≠0:=fun h0=>hn (by simp [h0]);split at h;{rename_i hb;have hb1:=aB hb.1;have hb2:=aB hb.2;cases h;have:=uf (bR:=0) (sCap:=0) (base:=none) (old:=[]) (oldr:= #[]) (ty:=ty) hi ht hti hsz rz hzs ha hnew hlen .nil (by simp) rfl (by omega) (by rw[hbw];simpa using hb1) (by omega) (hf.at);simpa using this};cases h
 ·rename_i id ver off len cap esz;cases hs with
  |slc ex o c he hd hh hl hc ho=>
   simp only[ai,al]at h;split at h
   ·rename_i hbe;have hbe:=ae hbe;subst hbe;split at h;{rename_i hn;have hn:=ae hn;subst hn;cases h;refine⟨φ,w,.slice (some ⟨ex.blk,o,none⟩) (len+0) c,run_append_fits ht hti ha hl ?_,.slc ex o c he hd hh hl hc ho,.same hi rfl rfl rfl⟩;have:arr= #[]:=(by apply Array.eq_empty_of_size_eq_zero;omega);subst this;rfl};rename_i hn;have hn0:n≠0:=fun h0=>hn (by simp [h0]);split at h
    ·rename_i hb;have hb1:=aB hb.1;have hb2:=aB hb.2;rw[←hbw]at hb1;split at h
     ·rename_i c0;have hcc:=(hc _ rfl);obtain⟨rfl,hchi⟩:=hcc;split at h;{rename_i hfit;have hfit:=aB hfit;split at h;{rename_i τ hw;cases h;obtain⟨ho1,ho2⟩:=ho.resolve_left (by omega);obtain⟨w',r1,r2⟩:=gi (P:=P) (q:=o+len*esz) hi hw hk hnew he (by omega) (by omega);have hmm:=ig esz hfit;refine⟨φ,w',.slice (some ⟨ex.blk,o,none⟩) (len+n) c0,run_append_fits ht hti ha hfit (by show(storeCells ((⟨ex.blk,o,none⟩:Addr).add (len*ti.size)) arr.toList).run P w=_;rw[cT,hsz];exact r1),.slc ex o c0 he hd (by omega) hfit hc ho,r2⟩};cases h};rename_i hfit;have hfit:¬len+n≤c0:=fun h=>hfit (Nat.ble_eq_true_of_le h);split at h
      ·rename_i old τ hfst;cases h;have hτ:Known D σ τ:=fun i hi' hn'=>hk i hi' hn';obtain⟨oldr,q1,q2,q3,q4,q5,q6⟩:=lX (P:=P) hi hfst (.slc (cap:=some c0) ex o c0 he hd hh hl hc ho) hτ;have hiτ:Inv R C D φ τ w:=⟨hi.wf,by rw[q5];exact hi.low,fun i hd' hn'=>by rw[q4];rw[q5]at hn';exact hi.rep i hd' hn',hi.gl,fun i hn'=>by rw[q4];rw[q5]at hn';exact hi.dom i hn',hi.pin,hi.dec,by rw[q6];exact hi.wrR,hi.ro,hi.oh⟩;have hfτ:∀v,φ τ.next v=none:=fun v=>(by rw[q5];exact hf σ.next (aE _) (by simp only[gQ,St.mk'];rw[q5];omega) v);obtain⟨φ',w',v',p1,p2,p3⟩:=uf (ty:=ty) hiτ ht hti hsz rz hzs ha hnew hlen q2 q3 (by rw[hsz];exact q1 _ rfl) hfit hb1 hb2 hfτ;refine⟨φ',w',v',p1,p2,?_⟩;have hsame:=Post.same (σ':=τ) hi q4 q5 q6;have hpost:Post R (cU D σ) φ τ w (gQ e (old++new) τ) φ' w':={
        le:=p3.le,grow:=p3.grow,wrR:=p3.wrR,wf:=p3.wf,blk:=p3.blk
        rep:=fun i hii=>p3.rep i (by rcases hii with⟨hd',hn'⟩|h2;{exact .inl ⟨hd'.resolve_right (by rw[q5]at hn';omega),hn'⟩};exact .inr h2)
        frm:=p3.frm}
       exact hsame.trans hpost (iZ hfst) (.mk' _ _)
      cases h
     split at h
     ·rename_i c1 base lim since nv et hob;split at h
      ·rename_i hflat;have het:=ae hflat.2;subst het;replace hflat:=hflat.1;have hlt:=hi.lt hob;have hdd:D id:=by
        have hmem:id∈σ'.wr:=by
         repeat' split at h
         all_goals first|(cases h;done)|(cases h;exact aC.2 (.inl rfl))
        exact hk id (.inr hmem) hlt
       obtain⟨hR,g1,g2,g3,g4,g5,g6,g7⟩:=hi.at hob hdd;split at h
       ·rename_i hbv;have hbv:=ae hbv;subst hbv;split at h
        ·rename_i hbb;have e1:=ae hbb.1.1;have e2:=ae hbb.1.2;have e3:=ae hbb.2;have e4:et=et:=rfl;cases h;have hL:bJ ver lim ver ex=lim:=(by simp [bJ]);have:=gv (ty:=ty) (base':=ver) (lim':=lim) (since':=since) hi ht hti hsz rz hzs ha hnew hlen hflat hn0 hob hdd he hd hl ho hb1 hb2 (.inl rfl) (by rw[hL];omega) e4
          (by intro v hv;rcases hv with rfl|⟨h1,h2⟩;{exact .inr ⟨.inl rfl,by omega,fun f _=>by simp only[bJ,if_true];omega⟩};exact .inl (by omega)) (by omega) (by omega) (by omega) (by omega)
         rwa[e2,List.take_length]at this
        split at h
        ·rename_i hbb;have e1:=aB hbb.1;have e2:et=et:=rfl;have e3:=aB hbb.2;cases h;have hL:bJ ver lim ver ex=lim:=(by simp [bJ]);exact gv (ty:=ty) (base':=ver) (lim':=off+len*esz) (since':=nv) hi ht hti hsz rz hzs ha hnew hlen hflat hn0 hob hdd he hd hl ho hb1 hb2 (.inl rfl) (by rw[hL];omega) e2
          (by intro v hv;rcases hv with rfl|⟨h1,h2⟩;{exact .inr ⟨.inl rfl,by omega,fun f _=>by simp only[bJ,if_true];omega⟩};exact .inl (by omega)) (by omega) (by omega) (aE _) (by omega)
        cases h
       rename_i hbv;have hbv:ver≠base:=fun h0=>hbv (by simp [h0]);split at h
       ·rename_i hbb;have e1:=ae hbb.1;have e2:=aB hbb.2;have e3:et=et:=rfl;have hL:bJ base lim ver ex=c1.length:=(by simp only[bJ,if_neg hbv];exact g7 ver ex e1 e2 hbv he);split at h
        ·rename_i e4;have e4:=ae e4;cases h;have:=gv (ty:=ty) (base':=base) (lim':=lim) (since':=since) hi ht hti hsz rz hzs ha hnew hlen hflat hn0 hob hdd he hd hl ho hb1 hb2 (.inr ⟨e2,by omega⟩) (by rw[hL];omega) e3
          (by intro v hv;by_cases hvn:v=nv;{exact .inl hvn};refine .inr ⟨?_,hvn,fun f hf'=>⟨?_,aE _⟩⟩;{rcases hv with rfl|⟨h1,h2⟩;{exact .inl rfl};exact .inr ⟨h1,by omega⟩};have hva:dQ base since nv v:=(by rcases hv with rfl|⟨h1,h2⟩;{exact .inl rfl};exact .inr ⟨h1,by omega⟩);obtain⟨f',_,_,_,hf2,_,_,_,m3,_,_⟩:=g5 v hva;rw[hf']at hf2;cases hf2;omega) (by omega) (by omega) (by omega) (by omega)
         rwa[e4,List.take_length]at this
        split at h
        ·rename_i e4;have e4:=aB e4;cases h;exact gv (ty:=ty) (base':=ver) (lim':=off+len*esz) (since':=nv) hi ht hti hsz rz hzs ha hnew hlen hflat hn0 hob hdd he hd hl ho hb1 hb2 (.inr ⟨e2,by omega⟩) (by rw[hL];omega) e3
          (by intro v hv;rcases hv with rfl|⟨h1,h2⟩;{refine .inr ⟨.inr ⟨e2,by omega⟩,by omega,fun f hf'=> ?_⟩;rw[he]at hf';cases hf';rw[hL];simp only[bJ,if_true];omega};exact .inl (by omega)) (by omega) (by omega) (aE _) (by omega)
        cases h
       cases h
      cases h
     cases h
    cases h
   cases h
 cases h
end
end Go.Tw
namespace Go.Tw
section
variable[Val]
variable{P:Program}{R:Nat}{C:Cfg}{D:Nat→Prop}{φ:PM}{σ:St}{w:World}
theorem VRL.one{a:AV}{l:Array Value}(h:VRL φ [a] l.toList):∃a',l= #[a']∧VR φ a a':=by
 generalize hl:l.toList=l0 at h;cases h with
 |cons h1 h2=>cases h2;exact⟨_,by apply Array.ext';simpa using hl,h1⟩
theorem VRL.two{a b:AV}{l:Array Value}(h:VRL φ [a,b] l.toList):∃a' b',l= #[a',b']∧VR φ a a'∧VR φ b b':=by
 generalize hl:l.toList=l0 at h;cases h with
 |cons h1 h2=>cases h2 with
  |cons h3 h4=>cases h4;exact⟨_,_,by apply Array.ext';simpa using hl,h1,h3⟩
theorem lW{e:TypeId}{size bw:Nat}{z:AV}(h1:c7 P e=some size)(h2:tW P e=some bw)(h3:zeroOf P e=some z)(hz:z.cells.length=size):
 ∃ti z',P.info? e=some ti∧ti.size=size∧ti.bytes=bw∧(∀w,(zeroValue e).run P w=.ok z' w)∧(∀φ,VR φ z z')∧z'.cells.size=size:=by
 unfold c7 at h1;split at h1;{rename_i i hi;simp only[aw]at h1;unfold tW at h2;rw[hi]at h2;simp only[aw]at h2;obtain⟨z',rz,vz⟩:=gI h3;have hl:=(VRL.const vz (fun _ _=>none)).length;exact⟨i,z',hi,h1,h2,rz,vz,by simpa[hz]using hl⟩};cases h1
theorem Dj(hi:Inv R C D φ σ w){ts:List TypeId}{args:List AV}{ts':Array TypeId}{args':Array Value}{ty:TypeId}{v:AV}{σ':St}(h:oA P ts args σ=some (v,σ'))
 (hts:ts'.toList=ts)(hargs:VRL φ args args'.toList)(hk:Known D σ σ')(hf:Free φ σ σ'):
 ∃φ' w' v',(Builtin.append_ ts' ty args').run P w=.ok v' w'∧VR φ' v v'∧Post R D φ σ w σ' φ' w':=by
 unfold oA at h;split at h
 ·rename_i st u s x;have hts2:ts'= #[st,u]:=(by apply Array.ext';simpa using hts);subst hts2;obtain⟨s',x',hargs2,hs,hx⟩:=hargs.two;subst hargs2;split at h
  ·rename_i e hu;split at h
   ·rename_i size bw z h1 h2 h3;simp only[ai]at h;split at h
    ·rename_i hz;have hz:=ae hz;obtain⟨ti,z',hti,hsz,hbw,rz,vz,hzs⟩:=lW h1 h2 h3 hz;split at h
     ·rename_i hzero;split at h
      ·rename_i k n;simp only[al]at h;split at h
       ·rename_i hb;have hb1:=aB hb.1;have hb2:=aB hb.2;have hui:∃ik,P.underlying u=some (.int ik):=by
         unfold im at hzero;split at hzero;{rename_i ik hu2;exact⟨ik,hu2⟩};{cases hzero};cases hzero
        obtain⟨ik,hu2⟩:=hui;cases hx;have harr:VRL φ (repl n z.cells) ((if n*ti.size=0 then #[]else Builtin.zeroCells z'.cells n:Array Value)).toList:=by
         split
         ·rename_i h0;have:repl n z.cells=[]:=by
           apply List.length_eq_zero_iff.1;rw[fo,hz,←hsz,h0]
          rw[this];exact .nil
         rename_i h0;have:=cC vz hz φ z'.cells (c:=n) (fun _=>rfl);rw[←hzs]at this;exact this
        exact lI (u:=u) hi h hs hu hti hsz hbw rz hzs (.inr ⟨ik,k,z',hu2,rfl,hb1,by rw[hbw];exact hb2,rz,rfl⟩) harr (by rw[fo,hz]) hk hf
       cases h
      cases h
     ·rename_i hzero;have hud:∃d,P.underlying u=some d∧∀k,d≠.int k:=by
       unfold im at hzero;split at hzero;{cases hzero};{rename_i d hne hu2;exact⟨_,hu2,fun k hk=>hne k hk⟩};cases hzero
      obtain⟨d,hu2,hd⟩:=hud;split at h
      ·rename_i n hn;split at h
       ·rename_i new τ hfst;have hst:=jw h;have hkτ:Known D σ τ:=hk.mono hst;obtain⟨arr,q1,q2,q3,q4,q5,q6⟩:=lX (P:=P) hi hfst hx hkτ;have hfree:Free φ τ σ':=fun i h1 h2=>hf i (by rw[←q5];exact h1) h2;obtain⟨φ',w',v',p1,p2,p3⟩:=lI (u:=u) (ty:=ty) (x':=x') (hi.same q4 q5 q6) h hs hu hti hsz hbw rz hzs
         (.inl ⟨d,hu2,hd,pK hn hx w,by rw[hsz];exact q1 w rfl,by rw[hsz];exact q1 _ rfl⟩) q2 q3 (fun i hi' hn'=>hk i hi' (by rw[←q5];exact hn')) hfree
        exact⟨φ',w',v',p1,p2,p3.from q5 q6⟩
       cases h
      cases h
     cases h
    cases h
   cases h
  cases h
 cases h
end
end Go.Tw
