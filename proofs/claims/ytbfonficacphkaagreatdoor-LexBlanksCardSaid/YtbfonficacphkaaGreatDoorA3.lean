/-
  A part of the proof that the abstract evaluator is sound for the model's machine. Conditions: those of each theorem, as it states them.
-/
import Derived.Test.YtbfonficacphkaaGreatDoorA2
import GoSem.Dispatch
import Derived.Laws.LoneSync
import Derived.Lib.UnsafeStr
import Derived.RangeFuncLeaves
import Derived.RecoverIn
import Derived.Test.YtbfonficacphkaaGreatDoorA1
import Derived.OrdersIn
import Derived.ProofKit
set_option linter.all false
namespace Go.Tw
section
variable[Val]
variable{P:Program}{R:Nat}{C:Cfg}{D:Nat→Prop}{φ:PM}{σ:St}{w:World}
theorem KD(hi:Inv R C D φ σ w){ts:List TypeId}{args:List AV}{ts':Array TypeId}{args':Array Value}{ty:TypeId}{v:AV}{σ':St}(h:Ax P ts args σ=some (v,σ'))
 (hts:ts'.toList=ts)(hargs:VRL φ args args'.toList)(hk:Known D σ σ'):
 ∃w' v',(Builtin.copy_ ts' ty args').run P w=.ok v' w'∧VR φ v v'∧Post R D φ σ w σ' φ w':=by
 unfold Ax at h;split at h
 ·rename_i dt tl d x;obtain⟨d',x',hargs2,hd,hx⟩:=hargs.two;subst hargs2;have ht0:ts'[0]? =some dt:=(by rw[←Array.getElem?_toList,hts];rfl);split at h
  ·rename_i e dl xl hu hdl hxl;split at h
   ·rename_i size hs;dsimp only at h;have hlx:=pK (P:=P) hxl hx;split at h
    ·rename_i new τ hfst;have hkτ:Known D σ τ:=by
      have hst:StepA τ σ':=by
       simp only[ai]at h;repeat' split at h
       all_goals first
        |(cases h;done)
        |(rename_i hw;cases h;exact dX hw)
        |(cases h;exact .refl _)
      exact hk.mono hst
     obtain⟨arr,q1,q2,q3,q4,q5,q6⟩:=lX (P:=P) hi hfst hx hkτ;have hl:=q2.length;split at h;·cases hd;cases h;have hdl0:dl=0:=(by simpa[lA]using hdl.symm);subst hdl0;refine⟨w,goInt 0,?_,.int _ _,.same hi q4 q5 q6⟩;have q1':=q1 w rfl;have hm0:Nat.min xl 0=0:=Nat.min_zero xl;simp only[hm0]at q1';simp [Builtin.copy_,ht0,af hu,hlx,aN hs,q1']
     ·rename_i id ver off len cap esz;cases hd with
      |slc ex o c he hdn hh hl' hc ho=>
       have hdl0:dl=len:=(by simpa[lA]using hdl.symm);subst hdl0;simp only[ai]at h;split at h
       ·rename_i hbe;have hbe:=ae hbe;subst hbe;split at h
        ·rename_i hn0;have hn0:=ae hn0;cases h;have harr:arr= #[]:=by
          apply Array.eq_empty_of_size_eq_zero;have:arr.toList.length=_:=hl;rw[q3,hn0]at this;simpa using this
         subst harr;refine⟨w,goInt 0,?_,.int _ _,.same hi q4 q5 q6⟩;have q1':=q1 w rfl;rw[hn0]at q1';simp [Builtin.copy_,ht0,af hu,hlx,aN hs,hn0,q1',storeCells]
        rename_i hn0;have hn0:Nat.min xl dl≠0:=fun h0=>hn0 (by rw[h0];rfl);split at h;{rename_i τ' hw;cases h;have hmin:Nat.min xl dl≤dl:=Nat.min_le_right _ _;obtain⟨ho1,_⟩:=ho.resolve_left (by omega);obtain⟨w',r1,r2⟩:=gi (P:=P) (hi.same q4 q5 q6) hw (fun i hi' hn'=>hk i hi' (by rw[←q5];exact hn')) q2 he hdn ho1;refine⟨w',goInt (Nat.min xl dl),?_,.int _ _,r2.from q5 q6⟩;simp [Builtin.copy_,ht0,af hu,hlx,aN hs,q1 w rfl,r1]};cases h
       cases h
     cases h
    cases h
   cases h
  cases h
 cases h
theorem DQ{cs:List AV}{bs:List UInt8}{cs':List Value}(hv:VRL φ cs cs')
 (h:cs.mapM (fun|AV.int .u8 n=>some (UInt8.ofNat n.toNat)|_=>none)=some bs):
 ∃ns:List Int,cs'=ns.map (Value.int .u8)∧bs=ns.map (fun n=>UInt8.ofNat n.toNat):=by
 induction cs generalizing bs cs' with
 |nil=>cases hv;simp at h;subst h;exact⟨[],rfl,rfl⟩
 |cons c cs ih=>
  cases hv with
  |cons h1 h2=>
   rw[List.mapM_cons]at h;cases h1<;>try (simp at h;done)
   rename_i k n;cases k<;>try (simp at h;done)
   simp only[Option.bind_eq_bind,Option.bind_some]at h;cases hm:cs.mapM (fun|AV.int .u8 n=>some (UInt8.ofNat n.toNat)|_=>none)with
   |none=>rw[hm]at h;simp at h
   |some r=>rw[hm]at h;simp only[Option.bind_some,Option.pure_def,aw]at h;obtain⟨ns,e1,e2⟩:=ih h2 hm;exact⟨n::ns,by rw[e1];rfl,by rw[←h,e2];rfl⟩
omit [Val]in
theorem foldl_push(ns:List Int):∀(b:ByteArray),ns.foldl (fun r n=>r.push (UInt8.ofNat n.toNat)) b=⟨⟨b.data.toList++ns.map (fun n=>UInt8.ofNat n.toNat)⟩⟩:=by
 induction ns with
 |nil=>intro b;apply ByteArray.ext;simp
 |cons n ns ih=>intro b;rw[List.foldl_cons,ih];apply ByteArray.ext;simp [ByteArray.push]
omit [Val]in
theorem nZ(w:World)(cs:Array Value)(t:TypeId)(k:Nat):
 (w.alloc (.cells cs t)).freeze {block:=w.heap.size,off:=k} 1=w.alloc (.cells cs t (k,k+1)):=by
 unfold World.freeze;rw[if_neg (by decide)];show({w.alloc (.cells cs t)with heap:=_}:World)={w with heap:=w.heap.push (.cells cs t (k,k+1))};have:(w.alloc (.cells cs t)).heap=w.heap.push (.cells cs t):=rfl;simp only[this];congr 1;apply Array.ext (by simp);intro i h1 h2;simp at h1;rw[Array.getElem_modify];by_cases e:w.heap.size=i;{subst e;simp};rw[if_neg e,Array.getElem_push_lt (by omega),Array.getElem_push_lt (by omega)]
omit [Val]in
theorem tB{w:World}{b:Nat}{cs:Array Value}{t:TypeId}{fl fh:Nat}(h:w.heap[b]? =some (.cells cs t (fl,fh)))(k n:Nat)(hn:n≠0):
 ∃gl gh,w.freeze {block:=b,off:=k} n=wset w b (.cells cs t (gl,gh))∧((fl=fh∧gl=k∧gh=k+n)∨(fl≠fh∧gl=min fl k∧gh=max fh (k+n))):=by
 refine⟨(if fl==fh then(k,k+n)else(min fl k,max fh (k+n))).1,(if fl==fh then(k,k+n)else(min fl k,max fh (k+n))).2,?_,?_⟩;rotate_left;{by_cases h:fl=fh;{subst h;exact .inl ⟨rfl,by simp,by simp⟩};exact .inr ⟨h,by simp [h],by simp [h]⟩};have hb:=cR h;have hx:w.heap[b]=.cells cs t (fl,fh):=by rw[Array.getElem?_eq_getElem hb]at h;simpa using h
 unfold World.freeze;rw[if_neg hn];simp only[wset];congr 1;apply Array.ext (by simp);intro i h1 h2;simp at h1;rw[Array.getElem_modify,Array.getElem_setIfInBounds];by_cases e:b=i;{subst e;simp [hx]};{simp [e]};exact h1
theorem KE(hi:Inv R C D φ σ w){src dst:TypeId}{x v:AV}{x':Value}{σ':St}(h:vP P src dst x σ=some (v,σ'))(hx:VR φ x x')(hk:Known D σ σ')(hf:Free φ σ σ'):
 ∃φ' w' v',(convert src dst x').run P w=.ok v' w'∧VR φ' v v'∧Post R D φ σ w σ' φ' w':=by
 unfold vP at h;split at h;{rename_i k _ n hs hd;cases h;cases hx;exact⟨φ,w,.int k (k.wrap n),by simp [convert,af hs,af hd,Conv.intToInt],by rw[bq];exact .int _ _,.same hi rfl rfl rfl⟩};{rename_i k _ e hs hd;cases h;cases hx;refine⟨φ,w,.int k (k.wrap e.eval),by simp [convert,af hs,af hd,Conv.intToInt],?_,.same hi rfl rfl rfl⟩;rw[←bq];exact .sym k (.wrap k e)};{rename_i n hs hd;cases h;cases hx;exact⟨φ,w,.string (Utf8.encode n),by simp [convert,af hs,af hd,Conv.intToString],.str _,.same hi rfl rfl rfl⟩};·rename_i s hs hd;cases h;cases hx;exact⟨φ,w,.string ⟨⟨s⟩⟩,by simp [convert,af hs,af hd],.str _,.same hi rfl rfl rfl⟩
 ·rename_i e hs hd;cases h;cases hx with
  |vstr s hs'=>exact⟨φ,w,.string ⟨⟨s⟩⟩,by simp [convert,af hs,af hd],.vstr s hs',.same hi rfl rfl rfl⟩
 ·rename_i se e id ver off len cap esz hs hd;split at h
  ·rename_i c t hu ho;simp only[ai,al]at h;split at h
   ·rename_i hb;have e1:=ae hb.1;have e2:=ae hb.2;subst e1;subst e2;cases h;cases hx with
    |slc ex o c' he hdn hh hl hc hoo=>
     have hdd:D id:=hk id (.inr (aC.2 (.inl rfl))) (hi.lt ho);obtain⟨hR,e',cs,fl,fh,he',hbk,g1,g2,g3,g4,g5,g6⟩:=hi.at ho hdd;rw[he]at he';cases he';have hsz:cs.size=c.length:=(by have:=g5.length;simpa using this);obtain⟨gl,gh,hfz,hgl⟩:=tB hbk cs.size 1 (by decide);refine⟨φ,wset w ex.blk (.cells cs t (gl,gh)),.slice (some ⟨ex.blk,o,none⟩) len c',?_,.slc ex o c' he hdn hh hl hc hoo,?_⟩;rotate_left
     ·exact .change (ob:=.cells cs t (gl,gh)) hi hR (hi.lt ho) he
       ⟨hR,ex,cs,_,_,he,ca _ _ _ (cR hbk),g1,g2,g3,g4,g5,by omega⟩
     have hsh:w.shape? ex.blk=some (t,cs.size):=(by simp only[World.shape?,hbk]);have hse:se=e:=(by rw[hs]at hd;simpa using hd);subst hse;simp only[convert,aQ,af hs,af hu,aZ,beq_self_eq_true,markStringish,run_shape,hsh,run_freeze,hfz,Sem.run_pure]
   cases h
  cases h
 ·rename_i e hs hd;cases h;cases hx;exact⟨φ,w,.pointer none,by simp [convert,af hs,af hd,Conv.unsafePointer],.nilp,.same hi rfl rfl rfl⟩
 ·rename_i t id ver off hi' hs hd;split at h
  ·rename_i c bt n ho hz;simp only[ai,al]at h;split at h
   ·rename_i hb;have e1:=ae hb.1;have e2:=aR hb.2;subst e1;cases h;cases hx with
    |ptr ex o he hdn hh hoo=>have hdd:D id:=hk id (.inl (aC.2 (.inl rfl))) (hi.lt ho);obtain⟨hR,e',cs,fl,fh,he',hbk,g1,g2,g3,g4,g5,g6⟩:=hi.at ho hdd;rw[he]at he';cases he';have hsz:cs.size=c.length:=(by have:=g5.length;simpa using this);have hsh:w.shape? ex.blk=some (bt,cs.size):=(by simp only[World.shape?,hbk]);have hge:¬(cs.size≤o):=(by omega);refine⟨φ,w,.pointer (some ⟨ex.blk,o,none⟩),?_,.ptr ex o he hdn hh hoo,.same hi rfl rfl rfl⟩;simp [convert,af hs,af hd,Conv.unsafePointer,Conv.seenAt,viewAt,cellsIn,hsh,aN hz,hge]
   cases h
  cases h
 ·rename_i e hs hd;cases h;cases hx;exact⟨φ,w,.pointer none,by simp [convert,af hs,af hd,Conv.unsafePointer],.nilp,.same hi rfl rfl rfl⟩
 ·rename_i u id ver off hi' hs hd;split at h
  ·rename_i c bt nz ho hz;simp only[ai,al]at h;split at h
   ·rename_i hb;have e1:=ae hb.1;have e2:=hb.2;subst e1;cases h;cases hx with
    |ptr ex o he hdn hh hoo=>have hdd:D id:=hk id (.inl (aC.2 (.inl rfl))) (hi.lt ho);obtain⟨hR,e',cs,fl,fh,he',hbk,g1,g2,g3,g4,g5,g6⟩:=hi.at ho hdd;rw[he]at he';cases he';have hsz:cs.size=c.length:=(by have:=g5.length;simpa using this);have hsh:w.shape? ex.blk=some (bt,cs.size):=(by simp only[World.shape?,hbk]);have hoff:o=off:=(by omega);subst hoff;rw[←hsz]at e2;refine⟨φ,w,.pointer (some ⟨ex.blk,o,none⟩),?_,.ptr ex o he hdn hh hoo,.same hi rfl rfl rfl⟩;simp only[convert,aQ,af hs,af hd,aZ,Conv.unsafePointer,Conv.seenAt,viewAt,run_shape,hsh,Option.isSome_some,if_true,Sem.run_pure,aN hz,variablesAt,run_program];simp [e2]
   cases h
  cases h
 ·rename_i e s hs hd;split at h
  ·rename_i hu he;cases h;cases hx;have hcap:s.length≤(Question.appendCap s.length 0 e).cut (w.tape w.drawn (.appendCap s.length 0 e)):=(by simp [Question.cut]);have hch:(choose (.appendCap s.length 0 e)).run P w=.ok ((Question.appendCap s.length 0 e).cut (w.tape w.drawn (.appendCap s.length 0 e))) w.drew:=by
    simp [Question.forced]
   generalize (Question.appendCap s.length 0 e).cut (w.tape w.drawn (.appendCap s.length 0 e))=c at hcap hch;have hsz:(⟨⟨s⟩⟩:ByteArray).size=s.length:=rfl;obtain⟨cs,hcs⟩:∃cs:Array Value,cs=(⟨⟨s⟩⟩:ByteArray).data.map (fun b=>Value.int .u8 b.toNat)++Array.replicate (c - s.length) (.int .u8 0):=⟨_,rfl⟩;have hcsz:cs.size=c:=(by rw[hcs];simp;omega);have hpost:=rj hi.drew (c:=s.map fun b=>AV.int .u8 b.toNat) (cs:=cs) (fl:=cs.size) (fh:=cs.size+1) e hf.at (fun ψ _=>by have h3:cs.toList.take (s.map fun b=>AV.int .u8 b.toNat).length=s.map fun b=>Value.int .u8 b.toNat:=(by rw[hcs];simp);rw[h3];exact VRL.map_u8 s) (by rw[hcsz];simpa using hcap) (.inr (aE _));have hlen:(s.map fun b=>AV.int .u8 b.toNat).length=s.length:=(by simp);have heq:gQ e (s.map fun b=>AV.int .u8 b.toNat) σ=σ.mk' (.arr (s.map fun b=>.int .u8 b.toNat) 0 s.length 1 1 e):=(by simp [gQ]);rw[heq]at hpost;refine⟨_,_,.slice (some ⟨w.heap.size,0,none⟩) s.length c,?_,?_,hpost.drew⟩
   ·simp only[convert,aQ,af hs,af hd,af hu,aZ,Conv.stringToBytes,hsz,hch];rw[←hcs];simp only[newRow,aQ,run_newObj,aZ,Sem.run_pure,markStringish,run_shape];have hsh:(w.drew.alloc (.cells cs e)).shape? w.drew.heap.size=some (e,cs.size):=by
     simp only[World.shape?,cf]
    have hal:({w.drew with heap:=w.drew.heap.push (.cells cs e)}:World)=w.drew.alloc (.cells cs e):=rfl;have hfz:=nZ w.drew cs e cs.size;simp only[hal,hsh,run_freeze,aZ];rw[hfz];rfl
   refine .slc _ 0 c (PM.ins_same _ _ _ _) (aE _) (by simp only[hlen];omega) hcap (fun k hk=>(by cases hk)) (.inr ⟨rfl,by simp only[hcsz];omega⟩)
  cases h
 ·rename_i e hs hd;split at h;{rename_i hu;cases h;cases hx;exact⟨φ,w,.string ByteArray.empty,by simp [convert,af hs,af hd,af hu,Conv.bytesToString],.str _,.same hi rfl rfl rfl⟩};cases h
 ·rename_i e id ver off len cap esz hs hd;split at h
  ·rename_i hu;simp only[ai]at h;split at h
   ·rename_i hbe;have hbe:=ae hbe;subst hbe;split at h
    ·rename_i cs hcs;split at h
     ·rename_i bs hbs;cases h;cases hx with
      |slc ex o c he hdn hh hl hc ho=>
       obtain⟨_,ob,_,hob,_⟩:=gJ hcs;have hdd:D id:=hk id (.inl (aC.2 (.inl rfl))) (hi.lt hob);by_cases hl0:len=0
       ·subst hl0;have hcs0:cs=[]:=by
         obtain⟨_,ob,c1,_,_,hcut⟩:=gJ hcs;exact List.length_eq_zero_iff.1 (kh hcut).2
        subst hcs0;simp at hbs;subst hbs;refine⟨φ,w,.string ByteArray.empty,?_,.str _,.same hi rfl rfl rfl⟩;have:=run_bytesToString (P:=P) w ⟨ex.blk,o,none⟩ 0 c [] (by simp [loadCells,loadCellsFrom]);simp only[convert,aQ,af hs,af hd,af hu,aZ];simpa using this
       obtain⟨ho1,_⟩:=ho.resolve_left (by omega);obtain⟨arr,r1,r2,r3,_⟩:=jC (P:=P) hi hcs hdd he hdn (by omega) ho1;obtain⟨ns,e1,e2⟩:=DQ r2 hbs;have harr:arr=(ns.map (Value.int .u8)).toArray:=(by apply Array.ext';simpa using e1);refine⟨φ,w,.string ⟨⟨bs⟩⟩,?_,.str _,.same hi rfl rfl rfl⟩;have:=run_bytesToString (P:=P) w ⟨ex.blk,o,none⟩ len c ns (by rw[←harr];exact r1 w rfl);rw[foldl_push]at this;simp only[convert,aQ,af hs,af hd,af hu,aZ];rw[e2];simpa using this
     cases h
    cases h
   cases h
  cases h
 cases h
end
end Go.Tw
namespace Go.Tw
section
variable[Val]
variable{P:Program}{R:Nat}{C:Cfg}{D:Nat→Prop}{φ:PM}{σ:St}{w:World}
omit [Val]in
theorem Cu(p:String→Bool)(g:String→String)(ms:List String)(h:ms≠[]):
 ∃m,(Instr.least (ms.partition p).2 <|>Instr.least ((ms.partition p).1.map g))=some m:=by
 rw[List.partition_eq_filter_filter];cases he:ms.filter (not∘p)with
 |cons y ys=>exact⟨_,rfl⟩
 |nil=>
  cases hu:ms.filter p with
  |cons y ys=>exact⟨_,rfl⟩
  |nil=>exfalso;apply h;apply List.eq_nil_iff_forall_not_mem.2;intro x hx;have h1:=List.filter_eq_nil_iff.1 hu x hx;have h2:=List.filter_eq_nil_iff.1 he x hx;simp at h1 h2;rw[h1]at h2;cases h2
omit [Val]in
theorem Ci{want:List (String×TypeId)}{got:List Method}{want':Array (String×TypeId)}{got':Array Method}(h1:want'.toList=want)(h2:got'.toList=got):
 (iI want got=true→Instr.missingMethod want' got'=none)∧(iI want got=false→∃m,Instr.missingMethod want' got'=some m):=by
 subst h1;subst h2;have key:∀l:List (String×TypeId),(l.filter fun(name,sig)=> !got'.any fun m=>m.name==name&&m.sig==sig)=[]↔iI l got'.toList=true:=by intro l;simp only[iI,List.filter_eq_nil_iff,oD,←Array.any_toList];constructor;{intro h x hx;have:=h x hx;simpa using this};intro h x hx;have:=h x hx;simpa using this
 constructor;{intro h;have:=(key want'.toList).2 h;simp only[Instr.missingMethod,this];rfl};intro h;have hne:(want'.toList.filter fun(name,sig)=> !got'.any fun m=>m.name==name&&m.sig==sig)≠[]:=by intro h0;rw[(key _).1 h0]at h;cases h
 exact Cu _ _ _ (by simpa using hne)
theorem Dh{x v:AV}{x':Value}{xt t:TypeId}{ok:Bool}(h:rG P x t ok=some v)(hx:VR φ x x'):
 ∃v',(∀w,(Instr.typeAssert x' xt t ok).run P w=.ok v' w)∧VR φ v v':=by
 unfold rG at h;have hfail:∀z,zeroOf P t=some z→∃z',(∀w,(zeroValue t).run P w=.ok z' w)∧VR φ (.tup [z,.bool false]) (.tuple #[z',.bool false]):=by intro z hz;obtain⟨z',rz,vz⟩:=gI hz;exact⟨z',rz,.tup _ (.cons (vz φ) (.cons (.bool _) .nil))⟩
 split at h;·rename_i ms hu;cases hx;simp only[ai]at h;split at h;{rename_i hok;subst hok;split at h;{rename_i z hz;cases h;obtain⟨z',rz,vz⟩:=hfail z hz;exact⟨_,fun w=>by simp [Instr.typeAssert,af hu,rz],vz⟩};cases h};cases h
 ·rename_i want ti u hu;cases hx with
  |iface _ hv=>split at h;{rename_i i hi;obtain⟨m1,m2⟩:=Ci (want':=want) (got':=i.methods) rfl rfl;simp only[ai]at h;split at h;{rename_i hm;have hmiss:=m1 hm;cases h;cases ok;{exact⟨_,fun w=>by simp [Instr.typeAssert,af hu,fK hi,hmiss],.iface _ hv⟩};exact⟨_,fun w=>by simp [Instr.typeAssert,af hu,fK hi,hmiss],.tup _ (.cons (.iface _ hv) (.cons (.bool _) .nil))⟩};rename_i hm;obtain⟨mm,hmiss⟩:=m2 (by simpa using hm);split at h;{rename_i hok;subst hok;split at h;{rename_i z hz;cases h;obtain⟨z',rz,vz⟩:=hfail z hz;exact⟨_,fun w=>by simp [Instr.typeAssert,af hu,fK hi,hmiss,rz],vz⟩};cases h};cases h};cases h
 ·rename_i d hn1 hu;cases hx;simp only[ai]at h;split at h
  ·rename_i hok;subst hok;split at h
   ·rename_i z hz;cases h;obtain⟨z',rz,vz⟩:=hfail z hz;refine⟨_,fun w=> ?_,vz⟩;simp only[Instr.typeAssert,aQ,af hu,aZ];cases d<;>first
     |(simp [rz];done)
     |exact absurd rfl (hn1 _)
     |(exfalso;exact hn1 _ rfl)
   cases h
  cases h
 ·rename_i d ti u hn1 hu;cases hx with
  |iface _ hv=>
   simp only[ai]at h;split at h
   ·rename_i hb;have hb:=ae hb;subst hb;cases h;cases ok
    ·refine⟨_,fun w=> ?_,hv⟩;simp only[Instr.typeAssert,aQ,af hu,aZ];cases d<;>first
      |(simp;done)
      |(exfalso;exact hn1 _ rfl)
    refine⟨_,fun w=> ?_,.tup _ (.cons hv (.cons (.bool _) .nil))⟩;simp only[Instr.typeAssert,aQ,af hu,aZ];cases d<;>first
     |(simp;done)
     |(exfalso;exact hn1 _ rfl)
   rename_i hb;have hb:ti≠t:=fun h0=>hb (by simp [h0]);split at h
   ·rename_i hok;subst hok;split at h
    ·rename_i z hz;cases h;obtain⟨z',rz,vz⟩:=hfail z hz;refine⟨_,fun w=> ?_,vz⟩;simp only[Instr.typeAssert,aQ,af hu,aZ];cases d<;>first
      |(simp [rz,hb];done)
      |(exfalso;exact hn1 _ rfl)
    cases h
   cases h
 cases h
def DfR(φ:PM):ADef→Deferred→Prop
 | .call f l,d=>∃cap ar:Array Value,d={target:=.fn (.func f) cap,args:=ar}∧VRL φ l (ar.toList++cap.toList)
 | .mark id,d=>∃e ar,φ id 0=some e∧d={target:=.collected e.blk,args:=ar}
theorem DfR.mono{φ ψ:PM}(h:φ.le ψ){d:ADef}{d':Deferred}(k:DfR φ d d'):DfR ψ d d':=by
 cases d with
 |call f l=>obtain⟨cap,ar,h1,h2⟩:=k;exact⟨cap,ar,h1,h2.mono h⟩
 |mark id=>obtain⟨e,ar,h1,h2⟩:=k;exact⟨e,ar,h _ _ _ h1,h2⟩
def Oy(P:Program)(φ:PM)(s:Sem Next)(w w':World)(args':Array Value):Cle→Prop
 | .fn f=>s.run P w=.ok (.enter f args') w'
 | .yld id=>w'=w∧∃e,φ id 0=some e∧s.run P w=(Instr.yield e.blk args').run P w
def OpOk(P:Program)(R:Nat)(D:Nat→Prop)(φ:PM)(σ:St)(w:World)(s:Sem Next):OR→Prop
 | .val v σ'=>∃φ' w' n v',s.run P w=.ok n w'∧(n=.value v'∨(n=.skip∧v'=undef))∧VR φ' v v'∧Post R D φ σ w σ' φ' w'
 | .pan v σ'=>∃φ' w' v',s.run P w=.halt (.panic v') w'∧VR φ' v v'∧Post R D φ σ w σ' φ' w'
 | .call f args σ'=>∃φ' w' args',Oy P φ' s w w' args' f∧VRL φ' args args'.toList∧Post R D φ σ w σ' φ' w'
 | .dfr d σ'=>∃φ' w' d',s.run P w=.ok (.defer d') w'∧DfR φ' d d'∧Post R D φ σ w σ' φ' w'
 | .rcv σ'=>s.run P w=.ok .recover w∧Post R D φ σ w σ' φ w
 | .no=>True
theorem OpOk.ofV{s:Sem Value}{v:AV}{σ':St}(h:∃φ' w' v',s.run P w=.ok v' w'∧VR φ' v v'∧Post R D φ σ w σ' φ' w'):
 OpOk P R D φ σ w (do pure (.value (←s))) (.val v σ'):=by
 obtain⟨φ',w',v',h1,h2,h3⟩:=h;exact⟨φ',w',.value v',v',by simp [h1],.inl rfl,h2,h3⟩
theorem OpOk.ofP(hi:Inv R C D φ σ w){s:Sem Value}{r:Option AV}(h:∀v,r=some v→∃v',s.run P w=.ok v' w∧VR φ v v'):
 OpOk P R D φ σ w (do pure (.value (←s))) (OR.of r σ):=by
 cases r with
 |none=>trivial
 |some v=>obtain⟨v',h1,h2⟩:=h v rfl;exact .ofV ⟨φ,w,v',h1,h2,.same hi rfl rfl rfl⟩
theorem OpOk.ofS{s:Sem Value}{r:Option (AV×St)}(h:∀v σ',r=some (v,σ')→∃φ' w' v',s.run P w=.ok v' w'∧VR φ' v v'∧Post R D φ σ w σ' φ' w'):
 OpOk P R D φ σ w (do pure (.value (←s))) (OR.ofS r):=by
 cases r with
 |none=>trivial
 |some p=>obtain⟨v,τ⟩:=p;exact .ofV (h v τ rfl)
theorem OpOk.ofU{s:Sem Unit}{r:Option St}(h:∀σ',r=some σ'→∃w',s.run P w=.ok () w'∧Post R D φ σ w σ' φ w'):
 OpOk P R D φ σ w (do s;pure .skip) (OR.ofU r):=by
 cases r with
 |none=>trivial
 |some τ=>obtain⟨w',h1,h2⟩:=h τ rfl;exact⟨φ,w',.skip,undef,by simp [h1],.inr ⟨rfl,rfl⟩,.tup _ .nil,h2⟩
omit [Val]in
theorem lD{fn:Func}(h:fn.name= "internal/bytealg.CountString")(ho:fn.origin= ""):Extern.findNext fn=none:=by unfold Extern.findNext;rw[h,ho];rfl
omit [Val]in
theorem tD{fn:Func}(h:fn.name= "internal/bytealg.CountString")(ho:fn.origin= ""):Extern.find fn=some Extern.BytealgCount.count:=by unfold Extern.find;rw[h,ho];rfl
omit [Val]in
theorem lC{fn:Func}(h:fn.name= "internal/bytealg.IndexByteString")(ho:fn.origin= ""):Extern.findNext fn=none:=by unfold Extern.findNext;rw[h,ho];rfl
omit [Val]in
theorem find_index{fn:Func}(h:fn.name= "internal/bytealg.IndexByteString")(ho:fn.origin= ""):Extern.find fn=some Extern.BytealgIndexByte.indexByte:=by unfold Extern.find;rw[h,ho];rfl
omit [Val]in
theorem Bs{f:FuncId}{fn:Func}{e:Array Value→Sem Value}{args:Array Value}(hf:P.funcs[f]? =some fn)(hn:fn.name≠ "runtime.NumGoroutine")(hb:fn.body=none)
 (h1:Extern.findNext fn=none)(h2:Extern.find fn=some e):(callFunc f args).run P w=(do pure (.value (←e args)):Sem Next).run P w:=by
 have hn':(fn.name== "runtime.NumGoroutine")=false:=by simpa using hn
 simp only[callFunc,aQ,run_program,aZ,hf,hn',hb,h1,h2];simp
theorem OpOk.ext{f:FuncId}{fn:Func}{e:Array Value→Sem Value}{args:Array Value}(hf:P.funcs[f]? =some fn)(hn:fn.name≠ "runtime.NumGoroutine")(hb:fn.body=none)
 (h1:Extern.findNext fn=none)(h2:Extern.find fn=some e){v:AV}{σ':St}(h:∃φ' w' v',(e args).run P w=.ok v' w'∧VR φ' v v'∧Post R D φ σ w σ' φ' w'):
 OpOk P R D φ σ w (callFunc f args) (.val v σ'):=by
 obtain⟨φ',w',v',g1,g2,g3⟩:=h;refine⟨φ',w',.value v',v',?_,.inl rfl,g2,g3⟩;rw[Bs hf hn hb h1 h2,aQ,g1];rfl
omit [Val]in
theorem gL{fn:Func}{n:String}(h:fn.name=n)(ho:fn.origin= ""):Extern.findNext fn=Extern.findNext {fn with name:=n,origin:= ""}∧
 Extern.find fn=Extern.find {fn with name:=n,origin:= ""}:=by
 subst h;rw[←ho];exact⟨rfl,rfl⟩
omit [Val]in
theorem rO{a:Addr}{v:Value}{w w':World}(hs:a.spot=none)(h:(storeCells a [v] 0).run P w=.ok () w'){u:Value}(hc:w.cell? a=some u):
 w.frozen? a=false∧(∀m,(store a v m).run P w=.ok () w'):=by
 have ha:a.add 0=a:=by obtain⟨b,o,s⟩:=a;simp only at hs;subst hs;exact cT b o 0
 simp only[storeCells,ha,aQ]at h;cases hf:w.frozen? a with
 |true=>exfalso;cases v<;>simp [store,Sem.run,hc,hf,Result.andThen]at h
 |false=>refine⟨rfl,fun m=> ?_⟩;cases v<;>simp [store,Sem.run,hc,hf,Result.andThen]at h⊢<;>exact h
theorem Dg(hi:Inv R C D φ σ w){n:Nat}{k:IntKind}{args:List AV}{args':Array Value}{v:AV}{σ':St}(h:gB n k args σ=.val v σ')(ha:VRL φ args args'.toList)
 (hk:Known D σ σ'):∃w' v',(match n with
   |0=>Extern.Atomic.loadT (.int k) args'
   |1=>Extern.Atomic.storeT args'
   |3=>Extern.Atomic.casT (.int k) args'
   |4=>Extern.Atomic.swapT (.int k) args'
   |_=>Extern.Atomic.update (Op.intArith .add) k true args').run P w=.ok v' w'∧VR φ v v'∧Post R D φ σ w σ' φ w':=by
 unfold gB at h;split at h
 ·rename_i id ver off hi' rest;split at h
  ·rename_i k' old hr;split at h;{cases h};rename_i hkk;have hkk:k=k':=(by simpa using hkk);subst hkk;obtain⟨_,ob,_,hob,_⟩:=gJ hr;obtain⟨args',rfl⟩:∃l:List Value,args'=l.toArray:=⟨args'.toList,by simp⟩;cases ha with
   |cons hp hrest=>
    cases hp with
    |ptr ex q he hd hh hoo=>
     have hlt:=hi.lt hob
     -- what is read
     have hread:D id→w.cell? ⟨ex.blk,q,none⟩=some (.int k old):=by
      intro hdd;obtain⟨arr,_,r2,_,r4⟩:=jC (P:=P) hi hr hdd he hd hh hoo;obtain⟨v',rfl,hc⟩:=r4 rfl;cases r2 with
      |cons hv _=>cases hv;exact hc
     have hwrite:∀(x:AV) (x':Value) (τ:St),eM σ id ver off hi' [x]=some τ→VR φ x x'→D id→Known D σ τ→
      ∃w',w.frozen? ⟨ex.blk,q,none⟩=false∧(∀m,(store ⟨ex.blk,q,none⟩ x' m).run P w=.ok () w')∧Post R D φ σ w τ φ w':=by
      intro x x' τ hw hx hdd hkn;obtain⟨w',g1,g2⟩:=gi (P:=P) hi hw hkn (.cons hx .nil) he hd hoo;obtain⟨c1,c2⟩:=rO rfl g1 (hread hdd);exact⟨w',c1,c2,g2⟩
     have hdW:∀(x:AV) (τ:St),eM σ id ver off hi' [x]=some τ→Known D σ τ→D id:=(by intro x τ hw hkn;obtain⟨_,_,o,o',ho,_,hτ⟩:=lK hw;exact hkn id (.inr (by rw[hτ];exact aC.2 (.inl rfl))) hlt);have hrd:∀{m:Mode},D id→(Extern.Atomic.read (.int k) ⟨ex.blk,q,none⟩).run P w=.ok (.int k old) w:=(by intro m hdd;simp [Extern.Atomic.read,hread hdd]);split at h;·cases hrest;simp only[OR.val.injEq]at h;obtain⟨rfl,rfl⟩:=h;have hdd:D id:=hk id (.inl (aC.2 (.inl rfl))) hlt;refine⟨w,.int k old,?_,.int _ _,.same hi rfl rfl rfl⟩;change Sem.run P (do Extern.Atomic.read (.int k) (←asAddr (.pointer (some ⟨ex.blk,q,none⟩)))) w=_;simp [asAddr,hrd (m:=.atomic) hdd]
     ·cases hrest with
      |@cons ax x' _ _ hx aW=>
       cases aW;split at h
       ·rename_i τ hw;simp only[OR.val.injEq]at h;obtain⟨rfl,rfl⟩:=h;obtain⟨w',_,c2,c3⟩:=hwrite _ _ _ hw hx (hdW _ _ hw hk) hk;refine⟨w',.tuple #[],?_,.tup _ .nil,c3⟩;change Sem.run P (do
         store (←asAddr (.pointer (some ⟨ex.blk,q,none⟩))) x' .atomic
         pure Extern.Atomic.none_) w=_
        simp only[aQ,asAddr,Sem.run_pure,aZ,c2,Extern.Atomic.none_]
       cases h
     ·rename_i ky y;cases hrest with
      |@cons ax x' _ _ hx aW=>
       cases aW;cases hx;split at h
       ·rename_i τ hw;simp only[OR.val.injEq]at h;obtain⟨rfl,rfl⟩:=h;have hdd:=hdW _ _ hw hk;obtain⟨w',_,c2,c3⟩:=hwrite _ (.int k (k.wrap (old+y))) _ hw (by rw[←bq];exact .int _ _) hdd hk;refine⟨w',.int k (k.wrap (old+y)),?_,by rw[←bq];exact .int _ _,c3⟩;change Sem.run P (do
         let a ←asAddr (.pointer (some ⟨ex.blk,q,none⟩));let o ←Extern.Atomic.read (.int k) a;let n ←Op.intArith .add k (←asInt o) (←asInt (.int ky y))
         store a n .atomic
         pure (if true then n else o)) w=_
        simp only[aQ,asAddr,Sem.run_pure,aZ,hrd (m:=.atomic) hdd,Op.intArith,asInt,asIntOf,c2,if_true]
       cases h
     ·rename_i kx x vv;cases hrest with
      |@cons ax x' _ _ hx hrest2=>
       cases hrest2 with
       |@cons ay y' _ _ hy aW=>
        cases aW;cases hx;split at h
        ·rename_i τ hw;obtain⟨_,_,o,o',ho,_,hτ⟩:=lK hw;split at h
         ·rename_i hox;simp only[OR.val.injEq]at h;obtain⟨rfl,rfl⟩:=h;have hdd:=hdW _ _ hw hk;obtain⟨w',c1,c2,c3⟩:=hwrite _ _ _ hw hy hdd hk;refine⟨w',.bool true,?_,.bool _,c3⟩;have hsh:=World.shape?_isSome_of_cell? (hread hdd);change (Sem.run P (do
           let a' ←asAddr (.pointer (some ⟨ex.blk,q,none⟩))
           if ←Extern.Atomic.touchesFrozen a' then unsupported (.unsafePointer "a write to bytes that a string shares")
           let eq ←match Extern.Atomic.T.int k,←Extern.Atomic.read (.int k) a',Value.int kx x with
            |_,.int _ x,.int _ y=>pure (x==y)
            | .ptr,.pointer x,.pointer y=>samePointer x y
            | .int _,.pointer (some _),.int _ 0| .int _,.int _ 0,.pointer (some _)=>pure false
            | .int _,.pointer (some _),_| .int _,_,.pointer (some _)=>unsupported .addressObserved
            |_,_,_=>stuck "atomic.CompareAndSwap: old is no T"
           if eq then store a' y' .atomic
           pure (Value.bool eq)) w)=_
          simp only[Extern.Atomic.touchesFrozen,viewAt,run_shape,hsh,c1,aQ,asAddr,Sem.run_pure,aZ,hrd (m:=.atomic) hdd,hox,if_true,run_frozen,bY,if_false,beq_self_eq_true,c2]
         rename_i hox;simp only[OR.val.injEq]at h;obtain⟨rfl,rfl⟩:=h;have hdd:D id:=hk id (.inl (aC.2 (.inl rfl))) hlt;have hkτ:Known D σ τ:=(by intro i hii hn;rw[hτ]at hii;rcases hii with h1|h1;{exact hk i (.inl (aC.2 (.inr h1))) hn};rcases aC.1 h1 with rfl|h2;{exact hdd};exact hk i (.inr h2) hn);obtain⟨w',c1,c2,c3⟩:=hwrite _ _ _ hw hy hdd hkτ;refine⟨w,.bool false,?_,.bool _,.same hi rfl rfl rfl⟩;have hsh:=World.shape?_isSome_of_cell? (hread hdd);change (Sem.run P (do
          let a' ←asAddr (.pointer (some ⟨ex.blk,q,none⟩))
          if ←Extern.Atomic.touchesFrozen a' then unsupported (.unsafePointer "a write to bytes that a string shares")
          let eq ←match Extern.Atomic.T.int k,←Extern.Atomic.read (.int k) a',Value.int kx x with
           |_,.int _ x,.int _ y=>pure (x==y)
           | .ptr,.pointer x,.pointer y=>samePointer x y
           | .int _,.pointer (some _),.int _ 0| .int _,.int _ 0,.pointer (some _)=>pure false
           | .int _,.pointer (some _),_| .int _,_,.pointer (some _)=>unsupported .addressObserved
           |_,_,_=>stuck "atomic.CompareAndSwap: old is no T"
          if eq then store a' y' .atomic
          pure (Value.bool eq)) w)=_
         simp [Extern.Atomic.touchesFrozen,viewAt,hsh,c1,asAddr,hrd (m:=.atomic) hdd,hox]
        cases h
     ·cases hrest with
      |@cons ax x' _ _ hx aW=>
       cases aW;split at h
       ·rename_i τ hw;simp only[OR.val.injEq]at h;obtain⟨rfl,rfl⟩:=h;have hdd:=hdW _ _ hw hk;obtain⟨w',_,c2,c3⟩:=hwrite _ _ _ hw hx hdd hk;refine⟨w',.int k old,?_,.int _ _,c3⟩;change Sem.run P (do
         let a ←asAddr (.pointer (some ⟨ex.blk,q,none⟩));let o ←Extern.Atomic.read (.int k) a
         store a x' .atomic
         pure o) w=_
        simp only[aQ,asAddr,Sem.run_pure,aZ,hrd (m:=.atomic) hdd,c2]
       cases h
     cases h
  cases h
 cases h
omit [Val]in
theorem Aw:∀(n t:Nat) (acc:Array Value),(Extern.BytealgMakeNoZero.digits n t acc).size=acc.size+n:=by
 intro n
 induction n with
 |zero=>intro t acc;rfl
 |succ n ih=>intro t acc;simp only[Extern.BytealgMakeNoZero.digits,ih,Array.size_push];omega
omit [Val]in
theorem CZ:∀(n t:Nat) (acc:Array Value),(∀v∈acc.toList,v.oneCell'=true)→∀v∈(Extern.BytealgMakeNoZero.digits n t acc).toList,v.oneCell'=true:=by
 intro n
 induction n with
 |zero=>intro t acc h;exact h
 |succ n ih=>intro t acc h;refine ih _ _ ?_;intro v hv;simp only[Array.toList_push,Tt,oC]at hv;rcases hv with hv|rfl;{exact h v hv};rfl
theorem uu(hi:Inv R C D φ σ w){ps rs:Array TypeId}{rt elem:TypeId}{n:Nat}(hrt:rs[0]? =some rt)(hu:P.underlying rt=some (.slice elem))(hn:n≤1099511627776)
 (hf:∀v,φ σ.next v=none):
 ∃φ' w' v',(Extern.BytealgMakeNoZero.makeNoZero ps rs #[.int .i64 (Int.ofNat n)]).run P w=.ok v' w'∧VR φ' (.slc σ.next 0 0 n none 1) v'∧
  Post R D φ σ w (σ.mk' (.arr (List.replicate n .unk) 0 n 1 1 elem)) φ' w':=by
 have hcap:n≤(Question.appendCap n 0 elem).cut (w.tape w.drawn (.appendCap n 0 elem)):=by simp [Question.cut]
 have hch:(choose (.appendCap n 0 elem)).run P w=.ok ((Question.appendCap n 0 elem).cut (w.tape w.drawn (.appendCap n 0 elem))) w.drew:=by
  simp [Question.forced]
 generalize (Question.appendCap n 0 elem).cut (w.tape w.drawn (.appendCap n 0 elem))=c at hcap hch
 obtain⟨bs,hbs⟩:∃b,(choose (.extern "internal/bytealg.MakeNoZero.bytes" 0)).run P w.drew=.ok b w.drew.drew:=⟨_,by simp [Question.forced];exact⟨rfl,rfl⟩⟩
 obtain⟨cs,hcs⟩:∃cs,cs=Extern.BytealgMakeNoZero.digits c bs #[]:=⟨_,rfl⟩
 have hcsz:cs.size=c:=by rw[hcs,Aw];simp
 have hone:∀v∈cs.toList,v.oneCell'=true:=by rw[hcs];exact CZ _ _ _ (by simp)
 have hpost:=rj hi.drew.drew (c:=List.replicate n AV.unk) (cs:=cs) (fl:=0) (fh:=0) elem hf (fun ψ _=>by
  refine VRL.of_get (by simp;omega) fun i v v' h1 h2=> ?_
  have hi':i<n:=by
   rcases aS i n with h|h
   ·exact h
   ·rw[bZ (by simpa using h)]at h1;cases h1
  rw[List.getElem?_replicate_of_lt hi']at h1
  cases h1
  have hm:v'∈cs.toList:=List.mem_of_mem_take (eQ h2)
  exact .unk v' (hone v' hm)) (by simp;omega) (.inl rfl)
 have heq:gQ elem (List.replicate n AV.unk) σ=σ.mk' (.arr (List.replicate n .unk) 0 n 1 1 elem):=by simp [gQ]
 rw[heq]at hpost
 refine⟨_,_,.slice (some ⟨w.heap.size,0,none⟩) n c,?_,?_,hpost.drew.drew⟩
 ·have hnot:¬((decide ((Int.ofNat n)<0)||decide ((Int.ofNat n)>2^48))=true):=by
   simp only[dH,decide_eq_true_eq,not_or]
   have e2:Int.ofNat n=(n:Int):=rfl
   have:(2:Int)^48=281474976710656:=by decide
   rw[e2]
   omega
  have hroom:∀w:World,(askRoom c).run P w=.ok () w:=by
   intro w
   unfold askRoom
   split<;>rfl
  change Sem.run P (do
   let some t:=rs[0]? |stuck "bytealg.MakeNoZero: no result type"
   let .slice elem ←underlying t|stuck "bytealg.MakeNoZero: slice type expected"
   if(Int.ofNat n)<0||(Int.ofNat n)>2^48 then runtimePanic (.error "makeslice: len out of range")
   let cap ←choose (.appendCap (Int.ofNat n).toNat 0 elem)
   askRoom cap
   let bytes ←choose (.extern "internal/bytealg.MakeNoZero.bytes" 0)
   let a ←newRow elem (Extern.BytealgMakeNoZero.digits cap bytes #[])
   pure (Value.slice (some a) (Int.ofNat n).toNat cap)) w=_
  have htn:(Int.ofNat n).toNat=n:=rfl
  simp only[hrt,aQ,af hu,aZ,htn]
  rw[if_neg hnot]
  simp only[aQ,Sem.run_pure,aZ,hch,hroom,hbs,←hcs,newRow,run_newObj]
  rfl
 ·refine .slc _ 0 c (PM.ins_same _ _ _ _) (aE _) (by simp) hcap (fun k hk=>(by cases hk)) (.inr ⟨rfl,by simp only[hcsz];omega⟩)
omit [Val]in
theorem uJ(nm:String)(x y c:Nat)(hc:¬(1<c)):(Extern.MathBitsCarry.three nm #[.int .u64 (Int.ofNat x),.int .u64 (Int.ofNat y),.int .u64 (Int.ofNat c)]).run P w=.ok (x,y,c) w:=by
 change Sem.run P (do
  let c':=(←asInt (.int .u64 (Int.ofNat c))).toNat
  if c'>1 then unsupported (.noEntry ("extern/math/bits."++nm++ ": a carry that is neither 0 nor 1"))
  pure ((←asInt (.int .u64 (Int.ofNat x))).toNat,(←asInt (.int .u64 (Int.ofNat y))).toNat,c')) w=_
 have hc2:(c:Int)≤1:=by omega
 simp [asInt,asIntOf,hc2]
theorem CU(hi:Inv R C D φ σ w){f:FuncId}{fn:Func}{args:List AV}{args':Array Value}(hf:P.funcs[f]? =some fn)(hb:fn.body=none)(ho:fn.origin= "")
 (ha:VRL φ args args'.toList)(hk:∀σ',(bM fn.name (gH P fn) args σ).st=some σ'→Known D σ σ')
 (hfr:∀σ',(bM fn.name (gH P fn) args σ).st=some σ'→Free φ σ σ'):OpOk P R D φ σ w (callFunc f args') (bM fn.name (gH P fn) args σ):=by
 by_cases n1:fn.name= "internal/bytealg.CountString"
 ·have heq:∀x,x=bM fn.name (gH P fn) args σ→x=(match(generalizing:=false) args with
   |[.str s,.int .u8 c]=>.val (.int .i64 (pO s c.toNat.toUInt8)) σ
   |[.vstr e,.int .u8 c]=>.val (.sym .i64 (.pr 5 e (.lit c))) σ
   |_=>.no):=by intro x hx;rw[hx];unfold bM;rw[if_pos n1];try rfl
  rw[heq _ rfl];split;·rename_i s c;obtain⟨s',c',e1,v1,v2⟩:=ha.two;subst e1;cases v1;cases v2;exact .ext hf (by rw[n1];decide) hb (lD n1 ho) (tD n1 ho) ⟨φ,w,_,rfl,.int _ _,.same hi rfl rfl rfl⟩
  ·rename_i e c;obtain⟨s',c',e1,v1,v2⟩:=ha.two;subst e1;cases v2;cases v1 with
   |vstr s hs=>refine .ext hf (by rw[n1];decide) hb (lD n1 ho) (tD n1 ho) ⟨φ,w,.int .i64 (pO s c.toNat.toUInt8),rfl,?_,.same hi rfl rfl rfl⟩;have he:(Sx.pr 5 e (.lit c)).eval=pO s c.toNat.toUInt8:=(by show pO e.dat.toS _=_;rw[hs];rfl);rw[←he];exact .sym _ _
  trivial
 by_cases n2:fn.name= "internal/bytealg.IndexByteString"
 ·have heq:∀x,x=bM fn.name (gH P fn) args σ→x=(match(generalizing:=false) args with
   |[.str s,.int .u8 c]=>match aq s c.toNat.toUInt8 with
    |some i=>.val (yC i) σ
    |none=>.val (.int .i64 (-1)) σ
   |_=>.no):=by intro x hx;rw[hx];unfold bM;rw[if_neg n1,if_pos n2];try rfl
  rw[heq _ rfl];split;{rename_i s c;obtain⟨s',c',e1,v1,v2⟩:=ha.two;subst e1;cases v1;cases v2;split;{rename_i i hfi;refine .ext hf (by rw[n2];decide) hb (lC n2 ho) (find_index n2 ho) ⟨φ,w,goInt i,?_,.int _ _,.same hi rfl rfl rfl⟩;show Sem.run P (match aq s c.toNat.toUInt8 with|some i=>pure (goInt i)|none=>pure (goInt (-1))) w=_;rw[hfi];rfl};rename_i hfi;refine .ext hf (by rw[n2];decide) hb (lC n2 ho) (find_index n2 ho) ⟨φ,w,goInt (-1),?_,.int _ _,.same hi rfl rfl rfl⟩;show Sem.run P (match aq s c.toNat.toUInt8 with|some i=>pure (goInt i)|none=>pure (goInt (-1))) w=_;rw[hfi];rfl};trivial
 by_cases n3:fn.name= "internal/abi.NoEscape"
 ·have heq:∀x,x=bM fn.name (gH P fn) args σ→x=(match(generalizing:=false) args with
   |[x]=>.val x σ
   |_=>.no):=by intro x hx;rw[hx];unfold bM;rw[if_neg n1,if_neg n2,if_pos n3];try rfl
  rw[heq _ rfl];obtain⟨f1,f2⟩:=gL n3 ho;split;{obtain⟨x',e1,v1⟩:=ha.one;subst e1;exact .ext hf (by rw[n3];decide) hb f1 f2 ⟨φ,w,x',rfl,v1,.same hi rfl rfl rfl⟩};trivial
 by_cases n4:fn.name= "internal/bytealg.MakeNoZero"
 ·have heq:∀x,x=bM fn.name (gH P fn) args σ→x=(match(generalizing:=false) args with
   |[.int .i64 (.ofNat n)]=>match gH P fn with
    |some e=>bif Nat.ble n 1099511627776 then .val (.slc σ.next 0 0 n none 1) (σ.mk' (.arr (List.replicate n .unk) 0 n 1 1 e))else .no
    |none=>.no
   |_=>.no):=by intro x hx;rw[hx];unfold bM;rw[if_neg n1,if_neg n2,if_neg n3,if_pos n4];try rfl
  rw[heq _ rfl]at hfr⊢;obtain⟨f1,f2⟩:=gL n4 ho;split
  ·rename_i n;cases hn2:gH P fn with
   |none=>trivial
   |some el=>rw[hn2]at hfr;simp only[ai]at hfr⊢;split;{rename_i hn;have hfree:Free φ σ (σ.mk' (.arr (List.replicate n .unk) 0 n 1 1 el)):=hfr _ (by rw[if_pos hn];rfl);have hn1:=aB hn;obtain⟨x',e1,v1⟩:=ha.one;subst e1;cases v1;unfold gH at hn2;split at hn2;{rename_i rt hrt;split at hn2;{rename_i elem hu;cases hn2;exact .ext hf (by rw[n4];decide) hb f1 f2 (uu hi hrt hu hn1 hfree.at)};cases hn2};cases hn2};trivial
  trivial
 by_cases n5:fn.name= "internal/race.Disable"∨fn.name= "internal/race.Enable"
 ·have heq:∀x,x=bM fn.name (gH P fn) args σ→x=.val unit σ:=by intro x hx;rw[hx];unfold bM;rw[if_neg n1,if_neg n2,if_neg n3,if_neg n4,if_pos n5];try rfl
  rw[heq _ rfl];rcases n5 with hname|hname;{obtain⟨f1,f2⟩:=gL hname ho;exact .ext hf (by rw[hname];decide) hb f1 f2 ⟨φ,w,.tuple #[],rfl,.tup _ .nil,.same hi rfl rfl rfl⟩};obtain⟨f1,f2⟩:=gL hname ho;exact .ext hf (by rw[hname];decide) hb f1 f2 ⟨φ,w,.tuple #[],rfl,.tup _ .nil,.same hi rfl rfl rfl⟩
 by_cases n6:fn.name= "internal/race.Acquire"∨fn.name= "internal/race.Release"∨fn.name= "internal/race.ReleaseMerge"∨fn.name= "internal/race.Read"∨fn.name= "internal/race.Write"
 ·have heq:∀x,x=bM fn.name (gH P fn) args σ→x=(match(generalizing:=false) args with
   | .ptr .. ::_=>.val unit σ
   |_=>.no):=by intro x hx;rw[hx];unfold bM;rw[if_neg n1,if_neg n2,if_neg n3,if_neg n4,if_neg n5,if_pos n6];try rfl
  rw[heq _ rfl];split
  ·obtain⟨l,rfl⟩:∃l:List Value,args'=l.toArray:=⟨args'.toList,by simp⟩;have ha':∃a rest,l=.pointer (some a)::rest:=by
    cases ha with
    |cons hp hrest=>cases hp;exact⟨_,_,rfl⟩
   obtain⟨a,rest,rfl⟩:=ha';have hm:∀m:Addr→Mark,(Extern.Race.marked m (Value.pointer (some a)::rest).toArray).run P w=.ok (.tuple #[]) w:=(by intro m;simp [Extern.Race.marked,Extern.Race.at_,Extern.Race.none_]);rcases n6 with hname|hname|hname|hname|hname<;>
    (obtain⟨f1,f2⟩:=gL hname ho
     exact .ext hf (by rw[hname];decide) hb f1 f2 ⟨φ,w,.tuple #[],hm _,.tup _ .nil,.same hi rfl rfl rfl⟩)
  trivial
 by_cases n7:fn.name= "math/bits.Add64"
 ·have heq:∀x,x=bM fn.name (gH P fn) args σ→x=(match(generalizing:=false) args with
   |[.int .u64 (.ofNat x),.int .u64 (.ofNat y),.int .u64 (.ofNat c)]=>bif Nat.ble c 1 then .val (.tup [.int .u64 (Int.ofNat ((x+y+c)%18446744073709551616)),.int .u64 (Int.ofNat ((x+y+c) / 18446744073709551616))]) σ else .no
   |_=>.no):=by intro x hx;rw[hx];unfold bM;rw[if_neg n1,if_neg n2,if_neg n3,if_neg n4,if_neg n5,if_neg n6,if_pos n7];try rfl
  rw[heq _ rfl];obtain⟨f1,f2⟩:=gL n7 ho;split
  ·rename_i x y c;rw[ai];split
   ·rename_i hc;have hc:=aB hc;obtain⟨l,rfl⟩:∃l:List Value,args'=l.toArray:=⟨args'.toList,by simp⟩;have hl:l=[.int .u64 (Int.ofNat x),.int .u64 (Int.ofNat y),.int .u64 (Int.ofNat c)]:=by
     cases ha with
     |cons h1 h2=>cases h2 with
      |cons h3 h4=>cases h4 with
       |cons h5 h6=>cases h6;cases h1;cases h3;cases h5;rfl
    subst hl;have hc1:¬(1<c):=(by omega);exact .ext hf (by rw[n7];decide) hb f1 f2 ⟨φ,w,.tuple #[.int .u64 (Int.ofNat ((x+y+c)%18446744073709551616)),.int .u64 (Int.ofNat ((x+y+c) / 18446744073709551616))],
     by show(Extern.MathBitsCarry.three "Add64" #[.int .u64 (Int.ofNat x),.int .u64 (Int.ofNat y),.int .u64 (Int.ofNat c)]>>=fun p=>pure (Extern.MathBitsCarry.pair ((p.1+p.2.1+p.2.2)%Extern.MathBitsCarry.m64) ((p.1+p.2.1+p.2.2) / Extern.MathBitsCarry.m64))).run P w=_;rw[aQ,uJ _ _ _ _ hc1];rfl,.tup _ (.cons (.int _ _) (.cons (.int _ _) .nil)),.same hi rfl rfl rfl⟩
   trivial
  trivial
 by_cases n8:fn.name= "math/bits.Sub64"
 ·have heq:∀x,x=bM fn.name (gH P fn) args σ→x=(match(generalizing:=false) args with
   |[.int .u64 (.ofNat x),.int .u64 (.ofNat y),.int .u64 (.ofNat c)]=>bif Nat.ble c 1 then .val (.tup [.int .u64 (Int.ofNat ((x+18446744073709551616 - y - c)%18446744073709551616)),.int .u64 (bif Nat.blt x (y+c)then 1 else 0)]) σ else .no
   |_=>.no):=by intro x hx;rw[hx];unfold bM;rw[if_neg n1,if_neg n2,if_neg n3,if_neg n4,if_neg n5,if_neg n6,if_neg n7,if_pos n8];try rfl
  rw[heq _ rfl];obtain⟨f1,f2⟩:=gL n8 ho;split
  ·rename_i x y c;rw[ai];split
   ·rename_i hc;have hc:=aB hc;obtain⟨l,rfl⟩:∃l:List Value,args'=l.toArray:=⟨args'.toList,by simp⟩;have hl:l=[.int .u64 (Int.ofNat x),.int .u64 (Int.ofNat y),.int .u64 (Int.ofNat c)]:=by
     cases ha with
     |cons h1 h2=>cases h2 with
      |cons h3 h4=>cases h4 with
       |cons h5 h6=>cases h6;cases h1;cases h3;cases h5;rfl
    subst hl;have hc1:¬(1<c):=(by omega);have hb2:(bif Nat.blt x (y+c)then(1:Int)else 0)=Int.ofNat (if x<y+c then 1 else 0):=by
     by_cases h:x<y+c;{have:Nat.blt x (y+c)=true:=Nat.ble_eq_true_of_le h;rw[this,if_pos h];rfl};have:Nat.blt x (y+c)=false:=by
      cases hx:Nat.blt x (y+c)with
      |true=>exact absurd (aR hx) h
      |false=>rfl
     rw[this,if_neg h];rfl
    rw[hb2];exact .ext hf (by rw[n8];decide) hb f1 f2 ⟨φ,w,.tuple #[.int .u64 (Int.ofNat ((x+18446744073709551616 - y - c)%18446744073709551616)),.int .u64 (Int.ofNat (if x<y+c then 1 else 0))],
     by show(Extern.MathBitsCarry.three "Sub64" #[.int .u64 (Int.ofNat x),.int .u64 (Int.ofNat y),.int .u64 (Int.ofNat c)]>>=fun p=>pure (Extern.MathBitsCarry.pair ((p.1+Extern.MathBitsCarry.m64 - p.2.1 - p.2.2)%Extern.MathBitsCarry.m64) (if p.1<p.2.1+p.2.2 then 1 else 0))).run P w=_;rw[aQ,uJ _ _ _ _ hc1];rfl,.tup _ (.cons (.int _ _) (.cons (.int _ _) .nil)),.same hi rfl rfl rfl⟩
   trivial
  trivial
 have heq:∀x,x=bM fn.name (gH P fn) args σ→x=(match(generalizing:=false) atomics.find? (·.1==fn.name)with
  |some (_,what,k)=>gB what k args σ
  |none=>.no):=by intro x hx;rw[hx];unfold bM;rw[if_neg n1,if_neg n2,if_neg n3,if_neg n4,if_neg n5,if_neg n6,if_neg n7,if_neg n8];try rfl
 rw[heq _ rfl]at hk⊢;cases hfind:atomics.find? (·.1==fn.name)with
 |none=>trivial
 |some p=>
  obtain⟨nm,what,k⟩:=p;rw[hfind]at hk;dsimp only at hk⊢;have hmem:=List.mem_of_find?_eq_some hfind;have hnm:fn.name=nm:=(by have h0:=List.find?_some hfind;have h1:nm=fn.name:=(by simpa using h0);exact h1.symm);cases hat:gB what k args σ with
  |val v σ'=>
   have hkn:Known D σ σ':=hk σ' (by rw[hat];rfl);obtain⟨w',v',g1,g2,g3⟩:=Dg (P:=P) hi hat ha hkn;obtain⟨f1,f2⟩:=gL hnm ho;simp only[atomics,dB,il,fE,or_false]at hmem;rcases hmem with⟨rfl,rfl,rfl⟩|⟨rfl,rfl,rfl⟩|⟨rfl,rfl,rfl⟩|⟨rfl,rfl,rfl⟩|⟨rfl,rfl,rfl⟩|⟨rfl,rfl,rfl⟩|⟨rfl,rfl,rfl⟩|⟨rfl,rfl,rfl⟩|⟨rfl,rfl,rfl⟩|⟨rfl,rfl,rfl⟩|⟨rfl,rfl,rfl⟩|⟨rfl,rfl,rfl⟩|
    ⟨rfl,rfl,rfl⟩|⟨rfl,rfl,rfl⟩|⟨rfl,rfl,rfl⟩|⟨rfl,rfl,rfl⟩|⟨rfl,rfl,rfl⟩|⟨rfl,rfl,rfl⟩|⟨rfl,rfl,rfl⟩|⟨rfl,rfl,rfl⟩<;>
    exact .ext hf (by rw[hnm];decide) hb f1 f2 ⟨φ,w',v',g1,g2,g3⟩
  |no=>trivial
  |_=>
   exfalso;unfold gB at hat;repeat' split at hat
   all_goals cases hat
theorem pS(hi:Inv R C D φ σ w){f:FuncId}{args:List AV}{args':Array Value}(ha:VRL φ args args'.toList)(hk:∀σ',(cZ P f args σ).st=some σ'→Known D σ σ')
 (hfr:∀σ',(cZ P f args σ).st=some σ'→Free φ σ σ'):OpOk P R D φ σ w (callFunc f args') (cZ P f args σ):=by
 unfold cZ at hk hfr⊢;cases hf:P.funcs[f]? with
 |none=>trivial
 |some fn=>
  rw[hf]at hk hfr;dsimp only at hk hfr⊢;cases hb:fn.body with
  |some c=>dsimp only;split;{trivial};rename_i hn;refine⟨φ,w,args',?_,ha,.same hi rfl rfl rfl⟩;show(callFunc f args').run P w=_;simp [callFunc,hf,hn,hb]
  |none=>rw[hb]at hk hfr;dsimp only at hk hfr⊢;split;{rename_i ho;rw[if_pos ho]at hk hfr;exact CU hi hf hb ho ha hk hfr};trivial
end
end Go.Tw
namespace Go.Tw
section
variable[Val]
variable{P:Program}{R:Nat}{C:Cfg}{D:Nat→Prop}{φ:PM}{σ:St}{w:World}
theorem Ck(hi:Inv R C D φ σ w){t:TypeId}{v r:AV}{v':Value}{name:String}{f:FuncId}{σ':St}(h:nL P t v name σ=some (f,r,σ'))(hv:VR φ v v')(hk:Known D σ σ')(n:Nat):
 ∃r',(method (n+1) t v' name).run P w=.ok (f,r') w∧VR φ r r'∧Post R D φ σ w σ' φ w∧σ'.heap=σ.heap∧σ'.next=σ.next∧σ'.wr=σ.wr:=by
 unfold nL at h;split at h
 ·rename_i i hi';split at h
  ·rename_i m hm;split at h;·rename_i f' hp hfn;have hp':m.path= #[]:=(by apply Array.ext';simpa using hp);split at h;{rename_i e hu;simp only[aw,il]at h;obtain⟨rfl,rfl,rfl⟩:=h;refine⟨v',?_,hv,.same hi rfl rfl rfl,rfl,rfl,rfl⟩;simp [method,fK hi',hm,hp',follow,hfn,receiverAt,af hu,Place.get]};cases h
   ·rename_i f' hp hfn;have hp':m.path= #[]:=(by apply Array.ext';simpa using hp);split at h
    ·rename_i e hu;split at h
     ·rename_i x τ hl;simp only[aw,il]at h;obtain⟨rfl,rfl,rfl⟩:=h;obtain⟨x',r1,r2,r3⟩:=nN (P:=P) hi hl hv hk;have hs:τ.heap=σ.heap∧τ.next=σ.next∧τ.wr=σ.wr:=by
       unfold iF at hl;repeat' split at hl
       all_goals (first|(cases hl;done)|(simp only[aw,il]at hl;obtain⟨_,rfl⟩:=hl;exact⟨rfl,rfl,rfl⟩))
      have hptr:∃a,v'=.pointer (some a):=(by unfold iF at hl;split at hl;{cases hv;exact⟨_,rfl⟩};cases hl);obtain⟨a,rfl⟩:=hptr;refine⟨x',?_,r2,r3,hs⟩;have r1':(loadVar e a).run P w=.ok x' w:=(by simpa[Instr.loadAt,Instr.sureAddr]using r1);have hwr:∀s m,Builtin.ssaWrapNilChk_ #[t] t #[.pointer (some a),.string s,.string m]=pure (.pointer (some a)):=fun _ _=>rfl;simp [method,fK hi',hm,hp',follow,hfn,receiverAt,af hu,Place.get,strVal,hwr,asAddr,r1']
     cases h
    ·rename_i d hn hu;simp only[aw,il]at h;obtain⟨rfl,rfl,rfl⟩:=h;refine⟨v',?_,hv,.same hi rfl rfl rfl,rfl,rfl,rfl⟩;cases d<;>first
      |(simp [method,fK hi',hm,hp',follow,hfn,receiverAt,af hu,Place.get];done)
      |(exfalso;exact hn _ rfl)
    cases h
   cases h
  cases h
 cases h
theorem OpOk.from{τ:St}{s:Sem Next}{r:OR}(h:OpOk P R D φ τ w s r)(h2:τ.next=σ.next)(hw:τ.wr=σ.wr):OpOk P R D φ σ w s r:=by
 cases r with
 |val v σ'=>obtain⟨φ',w',n,v',h1,h3,h4,h5⟩:=h;exact⟨φ',w',n,v',h1,h3,h4,h5.from h2 hw⟩
 |pan v σ'=>obtain⟨φ',w',v',h1,h3,h4⟩:=h;exact⟨φ',w',v',h1,h3,h4.from h2 hw⟩
 |call f l σ'=>obtain⟨φ',w',l',h1,h3,h4⟩:=h;exact⟨φ',w',l',h1,h3,h4.from h2 hw⟩
 |dfr d σ'=>obtain⟨φ',w',d',h1,h3,h4⟩:=h;exact⟨φ',w',d',h1,h3,h4.from h2 hw⟩
 |rcv σ'=>exact⟨h.1,h.2.from h2 hw⟩
 |no=>trivial
theorem OpOk.congr{s s':Sem Next}{r:OR}(h:OpOk P R D φ σ w s r)(he:s'.run P w=s.run P w):OpOk P R D φ σ w s' r:=by
 cases r with
 |val v σ'=>simp only[OpOk]at h⊢;rw[he];exact h
 |pan v σ'=>simp only[OpOk]at h⊢;rw[he];exact h
 |dfr d σ'=>simp only[OpOk]at h⊢;rw[he];exact h
 |rcv σ'=>simp only[OpOk]at h⊢;rw[he];exact h
 |no=>trivial
 |call f l σ'=>
  obtain⟨φ',w',l',h1,h3,h4⟩:=h;refine⟨φ',w',l',?_,h3,h4⟩;cases f with
  |fn f=>exact he.trans h1
  |yld id=>obtain⟨e1,e,g1,g2⟩:=h1;exact⟨e1,e,g1,he.trans g2⟩
omit [Val]in
theorem Known.frm{σ τ σ':St}(h:Known D σ σ')(h2:τ.next=σ.next):Known D τ σ':=fun i hi hn=>h i hi (by rw[←h2];exact hn)
omit [Val]in
theorem Free.frm{σ τ σ':St}(h:Free φ σ σ')(h2:τ.next=σ.next):Free φ τ σ':=fun i h1 h3=>h i (by rw[←h2];exact h1) h3
theorem l6(hi:Inv R C D φ σ w){recv:AV}{recv':Value}{name:String}{args:List AV}{args':Array Value}(hr:VR φ recv recv')(ha:VRL φ args args'.toList)
 (hk:∀σ',(gu P recv name args σ).st=some σ'→Known D σ σ')(hfr:∀σ',(gu P recv name args σ).st=some σ'→Free φ σ σ'):
 OpOk P R D φ σ w (callMethod recv' name args') (gu P recv name args σ):=by
 unfold gu at hk hfr⊢;split
 ·rename_i t v;cases hr with
  |iface _ hv=>
   rename_i v';split
   ·rename_i f r τ hm;dsimp only at hk hfr;rw[hm]at hk hfr;dsimp only at hk hfr;have hfs:=dh (P:=P) (f:=f) (args:=r::args) (StepA.refl τ);cases hst:(cZ P f (r::args) τ).st with
    |none=>cases hcf:cZ P f (r::args) τ<;>rw[hcf]at hst<;>first|trivial|cases hst
    |some σ'=>
     have hkn:=hk σ' hst;have hkτ:Known D σ τ:=hkn.mono (hfs σ' hst);obtain⟨r',q1,q2,q3,q4,q5,q6⟩:=Ck (P:=P) hi hm hv hkτ (P.types.size+99);have:=pS (P:=P) (hi.same q4 q5 q6) (f:=f) (args:=r::args) (args':= #[r']++args') (by simpa using VRL.cons q2 ha)
      (fun σ' h=>(hk σ' h).frm q5) (fun σ' h=>(hfr σ' h).frm q5)
     refine(this.from (σ:=σ) q5 q6).congr ?_;have q1':(method (P.types.size+Made.depth) t v' name).run P w=.ok (f,r') w:=q1;simp only[callMethod,aQ,run_program,aZ,q1']
   trivial
 trivial
theorem VRL.arr{l:List AV}{l':List Value}(h:VRL φ l l'):VRL φ l l'.toArray.toList:=by simpa using h
omit [Val]in
theorem QC{fv:Value}{f:Fn}{a' b' args':Array Value}(w:World)(hfv:fv=.func f a' b'):
 (do let d ←Deferred.ofValue fv args';invoke d.target d.args:Sem Next).run P w=(invoke (.fn f b') (a'++args')).run P w:=by
 subst hfv;rfl
theorem vS(hi:Inv R C D φ σ w){f:AV}{f':Value}{args:List AV}{args':Array Value}(hf:VR φ f f')(ha:VRL φ args args'.toList)
 (hk:∀σ',(jt P f args σ).st=some σ'→Known D σ σ')(hfr:∀σ',(jt P f args σ).st=some σ'→Free φ σ σ'):
 OpOk P R D φ σ w (do let d ←Deferred.ofValue f' args';invoke d.target d.args) (jt P f args σ):=by
 unfold jt at hk hfr⊢;split
 ·rename_i fi first captured
  cases hf with
  |fn _ a' b' h1 h2=>have:=pS (P:=P) hi (f:=fi) (args:=first++args++captured) (args':=a'++args'++b') (by simpa using(h1.append ha).append h2) hk hfr;exact this
 ·rename_i id;cases hf with
  |yld e he=>refine⟨φ,w,args',⟨rfl,e,he,?_⟩,ha,.same hi rfl rfl rfl⟩;rw[QC w rfl];simp [invoke]
 ·rename_i name first captured
  cases hf with
  |fn _ a' b' h1 h2=>
   split
   ·rename_i recv rest hfr';have hall:=h1.append ha;rw[hfr']at hall;obtain⟨l,hl⟩:∃l,l=a'.toList++args'.toList:=⟨_,rfl⟩;rw[←hl]at hall;cases hall with
    |cons hv ht=>rename_i v' l';have harr:a'++args'=(v'::l').toArray:=(by apply Array.ext';simpa using hl.symm);dsimp only at hk hfr;rw[hfr']at hk hfr;dsimp only at hk hfr;refine(l6 (P:=P) hi (name:=name) (args':=l'.toArray) hv ht.arr hk hfr).congr ?_;simp only[Deferred.ofValue,aQ,Sem.run_pure,aZ,invoke];rw[harr];simp
   trivial
 ·rename_i t name first captured
  cases hf with
  |fn _ a' b' h1 h2=>
   split
   ·rename_i recv rest hfr';have hall:=h1.append ha;rw[hfr']at hall;obtain⟨l,hl⟩:∃l,l=a'.toList++args'.toList:=⟨_,rfl⟩;rw[←hl]at hall;cases hall with
    |cons hv ht=>
     rename_i v' l';have harr:a'++args'=(v'::l').toArray:=(by apply Array.ext';simpa using hl.symm);dsimp only at hk hfr;rw[hfr']at hk hfr;dsimp only at hk hfr;split;·rename_i ms hu;rw[hu]at hk hfr;dsimp only at hk hfr;refine(l6 (P:=P) hi (name:=name) (args':=l'.toArray) hv ht.arr hk hfr).congr ?_;simp only[Deferred.ofValue,aQ,Sem.run_pure,aZ,invoke];rw[harr];simp [af hu]
     ·rename_i d hn hu;rw[hu]at hk hfr;have hk':∀σ',(gu P (.iface t recv) name rest σ).st=some σ'→Known D σ σ':=fun σ' hs=>hk σ' (by
       cases d<;>first|exact hs|(exfalso;exact hn _ rfl))
      have hfr'':∀σ',(gu P (.iface t recv) name rest σ).st=some σ'→Free φ σ σ':=fun σ' hs=>hfr σ' (by cases d<;>first|exact hs|(exfalso;exact hn _ rfl));refine(l6 (P:=P) hi (name:=name) (args':=l'.toArray) (.iface t hv) ht.arr hk' hfr'').congr ?_;simp only[Deferred.ofValue,aQ,Sem.run_pure,aZ,invoke];rw[harr];cases d<;>first
       |(simp [af hu];done)
       |(exfalso;exact hn _ rfl)
     trivial
   trivial
 ·rename_i t path fi pointer first captured
  cases hf with
  |fn _ a' b' h1 h2=>
   split
   ·rename_i recv rest hfr';have hall:=h1.append ha;rw[hfr']at hall;obtain⟨l,hl⟩:∃l,l=a'.toList++args'.toList:=⟨_,rfl⟩;rw[←hl]at hall;cases hall with
    |cons hv ht=>
     rename_i v' l';have harr:a'++args'=(v'::l').toArray:=(by apply Array.ext';simpa using hl.symm);dsimp only at hk hfr;rw[hfr']at hk hfr;dsimp only at hk hfr;have hgo:∀(r':Value) (τ:St) (r:AV),(receiverVia t v' path pointer).run P w=.ok r' w→VR φ r r'→τ.heap=σ.heap→τ.next=σ.next→τ.wr=σ.wr→
      (∀σ',(cZ P fi (r::rest) τ).st=some σ'→Known D σ σ')→(∀σ',(cZ P fi (r::rest) τ).st=some σ'→Free φ σ σ')→
      OpOk P R D φ σ w (do let d ←Deferred.ofValue (.func (.via t path fi pointer) a' b') args';invoke d.target d.args) (cZ P fi (r::rest) τ):=by
      intro r' τ r hr hvr e1 e2 e3 k1 k2;have:=(pS (P:=P) (hi.same e1 e2 e3) (f:=fi) (args:=r::rest) (args':= #[r']++l'.toArray) (by simpa using VRL.cons hvr ht)
       (fun σ' h=>(k1 σ' h).frm e2) (fun σ' h=>(k2 σ' h).frm e2)).from (σ:=σ) e2 e3
      refine this.congr ?_;simp only[Deferred.ofValue,aQ,Sem.run_pure,aZ,invoke];rw[harr];simp [hr]
     split;·rename_i e hp hu;have hp':path= #[]:=(by apply Array.ext';simpa using hp);subst hp';rw[hu]at hk hfr;exact hgo v' σ recv (by simp [receiverVia,follow,receiverAt,af hu,Place.get]) hv rfl rfl rfl hk hfr
     ·rename_i e hp hu;have hp':path= #[]:=(by apply Array.ext';simpa using hp);subst hp';rw[hu]at hk hfr;dsimp only at hk hfr;split
      ·rename_i x τ hl2;rw[hl2]at hk hfr;dsimp only at hk hfr;have hs:τ.heap=σ.heap∧τ.next=σ.next∧τ.wr=σ.wr:=by
        unfold iF at hl2;repeat' split at hl2
        all_goals (first|(cases hl2;done)|(cases hl2;exact⟨rfl,rfl,rfl⟩))
       cases hst:(cZ P fi (x::rest) τ).st with
       |none=>cases hcf:cZ P fi (x::rest) τ<;>rw[hcf]at hst<;>first|trivial|cases hst
       |some σ'=>have hkτ:Known D σ τ:=(hk σ' hst).mono (dh (P:=P) (StepA.refl τ) σ' hst);obtain⟨x',r1,r2,r3⟩:=nN (P:=P) hi hl2 hv hkτ;have hptr:∃a,v'=.pointer (some a):=(by unfold iF at hl2;split at hl2;{cases hv;exact⟨_,rfl⟩};cases hl2);obtain⟨a,rfl⟩:=hptr;have r1':(loadVar e a).run P w=.ok x' w:=(by simpa[Instr.loadAt,Instr.sureAddr]using r1);exact hgo x' τ x (by simp [receiverVia,follow,receiverAt,af hu,Place.get,asAddr,r1']) r2 hs.1 hs.2.1 hs.2.2 hk hfr
      trivial
     ·rename_i d hn1 hp hu;have hp':path= #[]:=(by apply Array.ext';simpa using hp);subst hp';rw[hu]at hk hfr;refine hgo v' σ recv ?_ hv rfl rfl rfl (fun σ' hs=>hk σ' ?_) (fun σ' hs=>hfr σ' ?_)
      ·cases d<;>first
        |(simp [receiverVia,follow,receiverAt,af hu,Place.get];done)
        |(exfalso;exact hn1 _ rfl)
      {cases d<;>first|exact hs|(exfalso;exact hn1 _ rfl)};cases d<;>first|exact hs|(exfalso;exact hn1 _ rfl)
     trivial
   trivial
 trivial
end
end Go.Tw
namespace Go.Tw
section
variable[Val]
variable{P:Program}{R:Nat}{C:Cfg}{D:Nat→Prop}{φ:PM}{σ:St}{w:World}
omit [Val]in
theorem fS{r:Option (AV×St)}{v:AV}{σ':St}(h:r=some (v,σ')):(OR.ofS r).st=some σ':=by subst h;rfl
omit [Val]in
theorem Ca{r:Option St}{σ':St}(h:r=some σ'):(OR.ofU r).st=some σ':=by subst h;rfl
theorem ER.erase{es:List (AV×AV×Nat)}{es':List MapEntry}(h:ER φ es es'):∀i,ER φ (es.eraseIdx i) (es'.eraseIdx i):=by
 induction h with
 |nil=>intro i;cases i<;>exact .nil
 |cons h1 h2 ht ih=>
  intro i;cases i with
  |zero=>exact ht
  |succ i=>exact .cons h1 h2 (ih i)
omit [Val]in
theorem kS{w:World}:∀(ns:List Int) (a:Addr) (acc:ByteArray),(∀j n,ns[j]? =some n→w.cell? (a.add j)=some (.int .u8 n))→
 (loadBytes a acc ns.length).run P w=.ok (ns.foldl (fun r n=>r.push (UInt8.ofNat n.toNat)) acc) w
 |[],a,acc,_=>by simp [loadBytes]
 |x::l,a,acc,h=>by have h0:w.cell? a=some (.int .u8 x):=(by have:=h 0 x rfl;simpa[Addr.add]using this);have ih:=kS l (a.add 1) (acc.push (UInt8.ofNat x.toNat)) (fun j y hy=>by have:=h (j+1) y (by simpa using hy);have e:(a.add 1).add j=a.add (j+1):=(by unfold Addr.add;by_cases hj:j=0;{subst hj;simp};simp [hj];omega);rw[e];exact this);have hx:x.toNat.toUInt8=UInt8.ofNat x.toNat:=rfl;simp only[List.length_cons,loadBytes,aQ,run_load,h0,Result.andThen,hx];rw[ih];rfl
omit [Val]in
theorem Ct{e:TypeId}(hc:P.cellsOf e=1)(count off n:Nat)(hn:off+n≤count):liesAt P P.depth e count off e n=true:=by have hd:P.depth=(2*(P.types.size+Made.depth)+1)+1:=rfl;rw[hd];simp only[liesAt,dH];left;rw[hd];simp [rowAt,hc,hn,sameLayout,Nat.mod_one]
omit [Val]in
theorem A9{c cs:List AV}{base lim since nv et ver:Nat}(h:(Ob.arr c base lim since nv et).view ver=some cs):dQ base since nv ver:=by simp only[Ob.view,ai,al]at h;split at h;{rename_i hb;exact .inl (ae hb)};split at h;{rename_i hc;exact .inr ⟨aB hc.1,aR hc.2⟩};cases h
theorem Mi{id ver:Nat}{o:Ob}{c:List AV}{t:TypeId}{e:Ext}(hr:Rep R φ w id (some o))(hv:o.view ver=some c)(ht:o.rowTy=some t)(he:φ id ver=some e):
 R≤id∧∃cs fl fh,w.heap[e.blk]? =some (.cells cs t (fl,fh)):=by
 cases o with
 |box b bt=>simp only[Ob.rowTy,aw]at ht;subst ht;obtain⟨hR,e',cs,fl,fh,he',hb,_⟩:=hr;have:ver=0:=(by simp only[Ob.view,ai]at hv;split at hv;{rename_i hb;exact ae hb};cases hv);subst this;rw[he]at he';cases he';exact⟨hR,cs,fl,fh,hb⟩
 |arr b base lim since nv et=>simp only[Ob.rowTy,aw]at ht;subst ht;obtain⟨hR,g1,g2,g3,g4,g5,g6,g7⟩:=hr;obtain⟨e',cs,fl,fh,he',hb,_⟩:=g5 ver (A9 hv);rw[he]at he';cases he';exact⟨hR,cs,fl,fh,hb⟩
 |_=>simp [Ob.rowTy]at ht
theorem qA(hi:Inv R C D φ σ w){ts:Array TypeId}{ty pt e:TypeId}{id ver off hi' n q:Nat}{o:Ob}{cs:List AV}{bs:List UInt8}{k:IntKind}{ex:Ext}
 (ht0:ts[0]? =some pt)(hu:P.underlying pt=some (.pointer e))(hs:c7 P e=some 1)(hr:mg σ id ver off (o.wide hi') n=some cs)(ho:σ.heap.get id=some o)(hty:o.rowTy=some e)
 (hn0:0<n)(hn1:n≤1099511627776)(hbs:cs.mapM (fun|AV.int .u8 n=>some (UInt8.ofNat n.toNat)|_=>none)=some bs)
 (he:φ id ver=some ex)(hd:ex.dn≤off)(hh:hi'≤ex.hi)(hoo:q+ex.dn=off+ex.up)(hkn:Known D σ (σ.put id .dead)):
 ∃φ' w' v',(Builtin.unsafeString_ ts ty #[.pointer (some ⟨ex.blk,q,none⟩),.int k (Int.ofNat n)]).run P w=.ok v' w'∧VR φ' (.str bs) v'∧Post R D φ σ w (σ.put id .dead) φ' w':=by
 have hlt:=hi.lt ho
 have hdd:D id:=hkn id (.inr (aC.2 (.inl rfl))) hlt
 obtain⟨ha,o',c',ho',hv,hcut⟩:=gJ hr
 rw[ho]at ho';cases ho'
 have hrep:=hi.at ho hdd
 have hh:o.wide hi'≤ex.hi:=by
  cases o with
  |box c t=>
   have h0:ver=0:=by
    simp only[Ob.view,ai]at hv
    split at hv
    ·rename_i hb;exact ae hb
    ·cases hv
   subst h0
   obtain⟨_,e',_,_,_,he',_,_,_,k3,_⟩:=hrep
   rw[he]at he';cases he'
   exact Nat.le_of_eq k3.symm
  |_=>exact hh
 obtain⟨rs,t,fr,hb,hall⟩:=yH hrep hv he
 obtain⟨hn,hl⟩:=hall off n cs q hd (by omega) hcut hoo
 have hqn:=hn.resolve_left (by omega)
 obtain⟨hR,rs',fl,fh,hb'⟩:=Mi hrep hv hty he
 rw[hb]at hb';simp only[aw,Obj.cells.injEq]at hb'
 obtain⟨rfl,rfl,rfl⟩:=hb'
 obtain⟨ns,e1,e2⟩:=DQ hl hbs
 have hlen:ns.length=n:=by
  have:=congrArg List.length e1
  simp at this;omega
 obtain⟨i,hin,hce⟩:=rM hs
 obtain⟨gl,gh,hfz,_⟩:=tB hb q n (by omega)
 have hlb:=kS (P:=P) (w:=w) ns ⟨ex.blk,q,none⟩ .empty (fun j m hj=>by
  rw[cT,jO hb]
  have hjl:j<ns.length:=by
   rcases aS j ns.length with h|h
   ·exact h
   ·rw[bZ h]at hj;cases hj
  have h1:((rs.toList.drop q).take n)[j]? =some (.int .u8 m):=by rw[e1];simp [hj]
  rw[ij (by omega),fc]at h1
  simpa using h1)
 rw[hlen,foldl_push]at hlb
 have hlies:=Ct (P:=P) hce (rs.size / P.cellsOf t) q n (by rw[hce];simpa using hqn)
 have hsh:w.shape? ex.blk=some (t,rs.size):=by simp only[World.shape?,hb]
 refine⟨φ,wset w ex.blk (.cells rs t (gl,gh)),.string ⟨⟨bs⟩⟩,?_,.str _,.change hi hR hlt he trivial⟩
 have hmax:IntKind.i64.max=9223372036854775807:=rfl
 change Sem.run P (do
  let n ←asInt (.int k (Int.ofNat n))
  let some pt:=ts[0]? |stuck "unsafe.String: no argument types"
  if n<0 then runtimePanic (.error "unsafe.String: len out of range")
  if n>IntKind.i64.max then unsupported (.unsafePointer "String: a length above the largest int")
  if n=0 then pure (Value.string .empty)
  else if ←variablesAt ⟨ex.blk,q,none⟩ (←elemOf pt) n.toNat then do
   let s ←loadBytes ⟨ex.blk,q,none⟩ .empty n.toNat
   freeze ⟨ex.blk,q,none⟩ n.toNat
   pure (Value.string s)
  else unsupported (.unsafePointer "String: not so many bytes at ptr")) w=_
 have c1:¬((n:Int)<0):=by omega
 have c2:¬((9223372036854775807:Int)<(n:Int)):=by omega
 have c4:n≠0:=by omega
 simp [asInt,asIntOf,ht0,hmax,c1,c2,c4,variablesAt,hsh,elemOf,af hu,hlies,hlb,hfz,e2]
theorem FD{k:IntKind}:∀{l:List AV} {l':List Value} {x:Int} {v:AV},Cj k x l=some v→VRL φ l l'→∃n,v=.int k n∧∀w,(l'.foldlM Builtin.min2 (Value.int k x)).run P w=.ok (.int k n) w:=by
 intro l
 induction l with
 |nil=>intro l' x v h hl;simp only[Cj,aw]at h;subst h;cases hl;exact⟨x,rfl,fun w=>by simp⟩
 |cons y l ih=>
  intro l' x v h hl;cases hl with
  |cons hy ht=>
   cases y with
   |int k' y=>cases hy;simp only[Cj]at h;obtain⟨n,h1,h2⟩:=ih h ht;exact⟨n,h1,fun w=>by simp [List.foldlM_cons,Builtin.min2,h2 w]⟩
   |_=>simp [Cj]at h
theorem MK{ts:Array TypeId}{ty:TypeId}{k:IntKind}{x:Int}{l:List AV}{args':Array Value}{v:AV}(h:Cj k x l=some v)(ha:VRL φ (.int k x::l) args'.toList)(w:World):
 ∃v',(Builtin.min_ ts ty args').run P w=.ok v' w∧VR φ v v':=by
 generalize hl:args'.toList=l0 at ha;cases ha with
 |cons hx ht=>cases hx;obtain⟨n,rfl,h2⟩:=FD (P:=P) h ht;exact⟨_,by simp [Builtin.min_,hl,h2 w],.int _ _⟩
theorem FJ{k:IntKind}:∀{l:List AV} {l':List Value} {x:Int} {v:AV},Cn k x l=some v→VRL φ l l'→∃n,v=.int k n∧∀w,(l'.foldlM Builtin.max2 (Value.int k x)).run P w=.ok (.int k n) w:=by
 intro l
 induction l with
 |nil=>intro l' x v h hl;simp only[Cn,aw]at h;subst h;cases hl;exact⟨x,rfl,fun w=>by simp⟩
 |cons y l ih=>
  intro l' x v h hl;cases hl with
  |cons hy ht=>
   cases y with
   |int k' y=>cases hy;simp only[Cn]at h;obtain⟨n,h1,h2⟩:=ih h ht;exact⟨n,h1,fun w=>by simp [List.foldlM_cons,Builtin.max2,h2 w]⟩
   |_=>simp [Cn]at h
theorem ML{ts:Array TypeId}{ty:TypeId}{k:IntKind}{x:Int}{l:List AV}{args':Array Value}{v:AV}(h:Cn k x l=some v)(ha:VRL φ (.int k x::l) args'.toList)(w:World):
 ∃v',(Builtin.max_ ts ty args').run P w=.ok v' w∧VR φ v v':=by
 generalize hl:args'.toList=l0 at ha;cases ha with
 |cons hx ht=>cases hx;obtain⟨n,rfl,h2⟩:=FJ (P:=P) h ht;exact⟨_,by simp [Builtin.max_,hl,h2 w],.int _ _⟩
theorem sV{dec:Bx→Option Bool}(hdec:∀b v,dec b=some v→b.eval=v){k:IntKind}{mx:Bool}:∀{l:List AV} {l':List Value} {x:Sx} {v:AV},kZ dec mx k x l=some v→VRL φ l l'→
 ∃e,v=.sym k e∧∀w,(l'.foldlM (if mx then Builtin.max2 else Builtin.min2) (Value.int k x.eval)).run P w=.ok (.int k e.eval) w:=by
 intro l
 induction l with
 |nil=>intro l' x v h hl;simp only[kZ,aw]at h;subst h;cases hl;exact⟨x,rfl,fun w=>by simp⟩
 |cons y l ih=>
  intro l' x v h hl;cases hl with
  |cons hy ht=>simp only[kZ]at h;split at h;{rename_i k' e he;have hy:=eo he hy;subst hy;split at h;{rename_i hk;subst hk;split at h;{rename_i hd;obtain⟨n,h1,h2⟩:=ih h ht;have hd:=hdec _ _ hd;refine⟨n,h1,fun w=> ?_⟩;cases mx;{simp only[cond_false,Bx.eval,cX,decide_eq_true_eq]at hd;have h2:=h2 w;simp only[bY,if_false]at h2;simp [List.foldlM_cons,Builtin.min2,hd,h2]};simp only[cond_true,Bx.eval,cX,decide_eq_true_eq]at hd;have h2:=h2 w;simp only[if_true]at h2;have hd:x.eval<e.eval:=hd;simp [List.foldlM_cons,Builtin.max2,hd,h2]};{rename_i hd;obtain⟨n,h1,h2⟩:=ih h ht;have hd:=hdec _ _ hd;refine⟨n,h1,fun w=> ?_⟩;cases mx;{simp only[cond_false,Bx.eval,cX,decide_eq_false_iff_not]at hd;have h2:=h2 w;simp only[bY,if_false]at h2;simp [List.foldlM_cons,Builtin.min2,hd,h2]};simp only[cond_true,Bx.eval,cX,decide_eq_false_iff_not]at hd;have h2:=h2 w;simp only[if_true]at h2;have hd:¬x.eval<e.eval:=hd;simp [List.foldlM_cons,Builtin.max2,hd,h2]};cases h};cases h};cases h
theorem vh{dec:Bx→Option Bool}(hdec:∀b v,dec b=some v→b.eval=v){ts:Array TypeId}{ty:TypeId}{k:IntKind}{x:Sx}{y:AV}{l:List AV}{args':Array Value}{v:AV}(h:kZ dec false k x l=some v)
 (hy:my y=some (k,x))(ha:VRL φ (y::l) args'.toList)(w:World):∃v',(Builtin.min_ ts ty args').run P w=.ok v' w∧VR φ v v':=by
 generalize hl:args'.toList=l0 at ha;cases ha with
 |cons hx ht=>have hx:=eo hy hx;subst hx;obtain⟨n,rfl,h2⟩:=sV (P:=P) hdec h ht;have h2:=h2 w;simp only[bY,if_false]at h2;exact⟨_,by simp [Builtin.min_,hl,h2],.sym _ _⟩
theorem vi{dec:Bx→Option Bool}(hdec:∀b v,dec b=some v→b.eval=v){ts:Array TypeId}{ty:TypeId}{k:IntKind}{x:Sx}{y:AV}{l:List AV}{args':Array Value}{v:AV}(h:kZ dec true k x l=some v)
 (hy:my y=some (k,x))(ha:VRL φ (y::l) args'.toList)(w:World):∃v',(Builtin.max_ ts ty args').run P w=.ok v' w∧VR φ v v':=by
 generalize hl:args'.toList=l0 at ha;cases ha with
 |cons hx ht=>have hx:=eo hy hx;subst hx;obtain⟨n,rfl,h2⟩:=sV (P:=P) hdec h ht;have h2:=h2 w;simp only[if_true]at h2;exact⟨_,by simp [Builtin.max_,hl,h2],.sym _ _⟩
theorem AP(hi:Inv R C D φ σ w){b:Builtin}{ts:Array TypeId}{ty:TypeId}{cs:Array Bool}{args:List AV}{args':Array Value}(ha:VRL φ args args'.toList)
 (hk:∀σ',(gM P C.dec b ts.toList args σ).st=some σ'→Known D σ σ')(hf:∀σ',(gM P C.dec b ts.toList args σ).st=some σ'→Free φ σ σ'):
 OpOk P R D φ σ w (builtin b ts ty cs args') (gM P C.dec b ts.toList args σ):=by
 unfold gM at hk hf⊢;split;{exact .ofS fun v σ' h=>Dj hi h rfl ha (hk σ' (fS h)) (hf σ' (fS h))};{exact .ofS fun v σ' h=>let⟨w',v',h1,h2,h3⟩:=KD hi h rfl ha (hk σ' (fS h));⟨φ,w',v',h1,h2,h3⟩};{split;{rename_i t tl x hts;obtain⟨x',rfl,hx⟩:=ha.one;have ht0:ts[0]? =some t:=(by rw[←Array.getElem?_toList,hts];rfl);refine .ofS fun v σ' h=> ?_;obtain⟨v',h1,h2,h3⟩:=MV (P:=P) (ty:=ty) hi h hx (hk σ' (by simp only[hts];exact fS h)) ht0;exact⟨φ,w,v',h1,h2,h3⟩};trivial};{split;{rename_i t tl x hts;obtain⟨x',rfl,hx⟩:=ha.one;have ht0:ts[0]? =some t:=(by rw[←Array.getElem?_toList,hts];rfl);exact .ofP hi fun v h=>NF (ty:=ty) h hx ht0 w};trivial};{split;{rw[ai];split;{exact .ofP hi fun v h=>vh (ts:=ts) (ty:=ty) hi.dec h rfl ha w};exact .ofP hi fun v h=>MK (ts:=ts) (ty:=ty) h ha w};{exact .ofP hi fun v h=>vh (ts:=ts) (ty:=ty) hi.dec h rfl ha w};trivial};{split;{rw[ai];split;{exact .ofP hi fun v h=>vi (ts:=ts) (ty:=ty) hi.dec h rfl ha w};exact .ofP hi fun v h=>ML (ts:=ts) (ty:=ty) h ha w};{exact .ofP hi fun v h=>vi (ts:=ts) (ty:=ty) hi.dec h rfl ha w};trivial};·exact⟨rfl,.same hi rfl rfl rfl⟩
 ·split
  ·rename_i t tl id k hts;obtain⟨x',y',rfl,hx,hy⟩:=ha.two;have ht0:ts[0]? =some t:=(by rw[←Array.getElem?_toList,hts];rfl);split
   ·rename_i kt et es clock hu ho;simp only[ai];split
    ·rename_i hfit;cases hfi:eL k es 0 with
     |none=>trivial
     |some r=>
      have hkn:Known D σ (σ.put id (.map (match r with|some (i,_)=>es.eraseIdx i|none=>es) clock)):=by
       have:=hk (σ.put id (.map (match r with|some (i,_)=>es.eraseIdx i|none=>es) clock)) (by
        simp only[hts,hu,ho,hfit,cond_true,hfi];cases r with
        |none=>rfl
        |some p=>rfl)
       exact this
      have hlt:=hi.lt ho;have hdd:D id:=hkn id (.inr (aC.2 (.inl rfl))) hlt;obtain⟨hR,e,es',he,hb,her⟩:=hi.at ho hdd;obtain⟨d,hku,_,hd⟩:=hC hfit;cases hx with
      |map e2 he2=>
       rw[he]at he2;cases he2;obtain⟨h1,h2⟩:=lE hy hd her hfi;cases r with
       |none=>have g1:=h1 rfl;refine .ofV ⟨φ,wset w e.blk (.map es' clock),.tuple #[],?_,.tup _ .nil,?_⟩;{simp [Builtin.delete_,ht0,af hu,bA hb,dz hfit hy,Instr.findKey,af hku,g1,cN hb]};exact .change hi hR hlt he ⟨hR,e,_,he,ca _ _ _ (cR hb),her⟩
       |some p=>obtain⟨i,v⟩:=p;obtain⟨v',g1,_⟩:=h2 i v rfl;refine .ofV ⟨φ,wset w e.blk (.map (es'.eraseIdxIfInBounds i) clock),.tuple #[],?_,.tup _ .nil,?_⟩;{simp [Builtin.delete_,ht0,af hu,bA hb,dz hfit hy,Instr.findKey,af hku,g1,cN hb]};refine .change hi hR hlt he ⟨hR,e,_,he,ca _ _ _ (cR hb),?_⟩;have:=her.erase i;simpa using this
    trivial
   trivial
  trivial
 ·split
  ·rename_i t tl x hts;obtain⟨x',rfl,hx⟩:=ha.one;have ht0:ts[0]? =some t:=(by rw[←Array.getElem?_toList,hts];rfl);rw[hts]at hk;dsimp only at hk;cases hc:pQ P t x σ with
   |none=>trivial
   |some σ'=>obtain⟨w',r1,r2⟩:=Gq (P:=P) (ty:=ty) hi hc hx ht0 (hk σ' (by rw[hc];rfl));exact .ofV (σ':=σ') ⟨φ,w',.tuple #[],r1,.tup _ .nil,r2⟩
  trivial
 ·split;·obtain⟨x',rfl,hx⟩:=ha.one;cases hx;exact .ofV ⟨φ,w,_,rfl,.nilp,.same hi rfl rfl rfl⟩
  ·rename_i id ver off len cap esz;obtain⟨x',rfl,hx⟩:=ha.one;simp only[ai,al];split
   ·rename_i hb;have hl0:=aR hb.1;have he0:=aR hb.2;cases hx with
    |slc ex o c he hd hh hl hc hoo=>have hc0:c≠0:=(by omega);obtain⟨ho1,ho2⟩:=hoo.resolve_left hc0;have hle:len*1≤len*esz:=Nat.mul_le_mul_left _ he0;exact .ofV ⟨φ,w,_,Lib.run_unsafeSliceData_row w _ _ _ _ _ hc0,.ptr ex o he hd (by omega) ho1,.same hi rfl rfl rfl⟩
   trivial
  trivial
 ·split
  ·obtain⟨x',y',rfl,hx,hy⟩:=ha.two;cases hx;cases hy;cases hts:ts.toList with
   |nil=>trivial
   |cons pt tl=>
    have ht0:ts[0]? =some pt:=(by rw[←Array.getElem?_toList,hts];rfl);refine .ofV ⟨φ,w,.string .empty,?_,.str [],.same hi rfl rfl rfl⟩;rename_i k;have hmax:IntKind.i64.max=9223372036854775807:=rfl;change Sem.run P (do
     let n ←asInt (.int k 0);let some pt:=ts[0]? |stuck "unsafe.String: no argument types"
     if n<0 then runtimePanic (.error "unsafe.String: len out of range")
     if n>IntKind.i64.max then unsupported (.unsafePointer "String: a length above the largest int")
     if n=0 then pure (Value.string .empty)
     else runtimePanic (.error "unsafe.String: ptr is nil and len is not zero")) w=_
    simp [asInt,asIntOf,ht0,hmax]
  ·rename_i id ver off hi' k n;obtain⟨x',y',rfl,hx,hy⟩:=ha.two;cases hts:ts.toList with
   |nil=>trivial
   |cons pt tl=>
    have ht0:ts[0]? =some pt:=(by rw[←Array.getElem?_toList,hts];rfl);rw[hts]at hk;dsimp only at hk⊢;split
    ·rename_i e o hu ho;split
     ·rename_i cs et hr hs hty;simp only[ai];split
      ·rename_i hb;simp only[al]at hb;have hee:=ae hb.1.1;have hn0:=aR hb.1.2;have hn1:=aB hb.2;subst hee;split
       ·rename_i bs hbs;cases hx with
        |ptr ex q he hd hh hoo=>cases hy;refine .ofV (qA hi ht0 hu hs hr ho hty hn0 hn1 hbs he hd hh hoo (hk _ ?_));have hbb:(Nat.beq e e&&Nat.blt 0 n&&n.ble 1099511627776)=true:=(by rw[hb.1.1,hb.1.2,hb.2];rfl);simp only[hu,hr,ho,hs,hty,hbs];rw[hbb];rfl
       trivial
      trivial
     trivial
    trivial
  trivial
 trivial
theorem xp{ρ:Operand→Value}{o:Oper}{x:Operand}(ho:o.op=.nilCheck x){v:AV}(hv:VR φ v (ρ x))(h:vq v=true):(execOp ρ o).run P w=.ok (.value (ρ x)) w:=by
 unfold execOp;simp only[ho];generalize ρ x=v' at hv;cases hv<;>first
  |rfl
  |(simp [vq]at h;done)
  |skip
 rename_i f a' b' _ _ ha hb;cases f<;>first
  |rfl
  |(simp [vq]at h;done)
set_option maxHeartbeats 2000000 in
theorem RA(hi:Inv R C D φ σ w){nt:Nat}{env:Env}{a:Act}{o:Oper}(he:EnvR φ nt env a)
 (hk:∀σ',(MF P C env σ o).st=some σ'→Known D σ σ')(hf:∀σ',(MF P C env σ o).st=some σ'→Free φ σ σ'):
 OpOk P R D φ σ w (execOp a.eval o) (MF P C env σ o):=by
 have hO:∀{x:Operand} {v:AV},aD C env x=some v→VR φ v (a.eval x):=fun h=>fV he hi h;simp only[B7]at hk hf⊢;unfold Jg at hk hf⊢;unfold execOp;cases ho:o.op<;>simp only[ho]at hk hf⊢
 case move x=>
  cases hx:aD C env x with
  |none=>trivial
  |some v=>exact⟨φ,w,_,_,rfl,.inl rfl,hO hx,.same hi rfl rfl rfl⟩
 case assign x=>
  cases hx:aD C env x with
  |none=>trivial
  |some v=>exact⟨φ,w,_,_,rfl,.inl rfl,hO hx,.same hi rfl rfl rfl⟩
 case pick c x y=>
  split
  ·rename_i hc;have hc':=hO hc;cases hx:aD C env x with
   |none=>trivial
   |some v=>generalize a.eval c=cv at hc';cases hc';exact⟨φ,w,.value (a.eval x),_,by simp [asBool],.inl rfl,hO hx,.same hi rfl rfl rfl⟩
  ·rename_i hc;have hc':=hO hc;cases hx:aD C env y with
   |none=>trivial
   |some v=>generalize a.eval c=cv at hc';cases hc';exact⟨φ,w,.value (a.eval y),_,by simp [asBool],.inl rfl,hO hx,.same hi rfl rfl rfl⟩
  trivial
 case alloc t=>
  split;{rename_i z hz;have hfr:Free φ σ (σ.mk' (.box z.cells t)):=hf _ (by simp only[hz];rfl);exact .ofV (KV hi hz hfr.at)};trivial
 case box t x=>
  split;{rename_i v hv;have hfr:Free φ σ (σ.mk' (.box v.cells t)):=hf _ (by simp only[hv];rfl);exact .ofV (Tg hi (hO hv) hfr.at)};trivial
 case build t ps=>
  split;{rename_i l hl;have hpr:=oe he hi hl;refine .ofP hi fun v h=> ?_;obtain⟨v',h1,h2⟩:=Gu (ps':=ps.map fun(i,x)=>(i,a.eval x)) (by simpa using hpr) h;exact⟨v',h1 w,h2⟩};trivial
 case buildSlice t n ps=>
  split;{rename_i l hl;have hpr:=oe he hi hl;refine .ofS fun v σ' h=> ?_;have hfr:Free φ σ σ':=hf σ' (by simp only[hl];exact fS h);have hpr':PR φ l (ps.map fun(i,x)=>(i,a.eval x)).toList:=(by simpa using hpr);exact tY hi h hpr' hfr};trivial
 case load t x=>
  split;{rename_i v hv;refine .ofS fun u σ' h=> ?_;obtain⟨v',h1,h2,h3⟩:=nN (P:=P) hi h (hO hv) (hk σ' (by simp only[hv];exact fS h));exact⟨φ,w,v',h1,h2,h3⟩};trivial
 case store t x y=>
  split;{rename_i p v hp hv;exact .ofU fun σ' h=>ET (P:=P) hi h (hO hp) (hO hv) (hk σ' (by simp only[hp,hv];exact Ca h))};trivial
 case nilCheck x=>
  cases hv:aD C env x with
  |none=>trivial
  |some v=>simp only[ai];by_cases hok:vq v=true;{rw[if_pos hok];have hrun:=xp (P:=P) (w:=w) ho (hO hv) hok;simp only[execOp,ho]at hrun;exact⟨φ,w,_,_,hrun,.inl rfl,hO hv,.same hi rfl rfl rfl⟩};rw[if_neg hok];trivial
 case binOp op t x y yt=>
  split;{rename_i p q hp hq;simp only[ai];split;{rename_i hg;refine .ofP hi fun v h=> ?_;obtain⟨v',h1,h2⟩:=rE (P:=P) hi.dec h (hO hp) (hO hq);exact⟨v',by simp [lF hg (hO hp) (hO hq),h1],h2⟩};trivial};trivial
 case unOp op t x=>
  split;{rename_i p hp;refine .ofP hi fun v h=> ?_;obtain⟨v',h1,h2⟩:=OV (P:=P) h (hO hp);exact⟨v',h1 w,h2⟩};trivial
 case convert s d x=>
  split;{rename_i p hp;exact .ofS fun v σ' h=>KE hi h (hO hp) (hk σ' (by simp only[hp];exact fS h)) (hf σ' (by simp only[hp];exact fS h))};trivial
 case makeInterface t x=>
  split;·trivial
  ·rename_i v d hn hv hu;refine .ofV ⟨φ,w,.iface t (a.eval x),?_,.iface t (hO hv),.same hi rfl rfl rfl⟩;simp only[Instr.makeInterface,aQ,af hu,aZ];cases d<;>first
    |rfl
    |(exfalso;exact hn _ _ hv hu)
    |(exfalso;exact hn _ rfl)
  trivial
 case makeFunc f p q=>
  split;{rename_i l m hl hm;have h1:=og he hi hl;have h2:=og he hi hm;exact .ofV ⟨φ,w,.func f (p.map a.eval) (q.map a.eval),rfl,.fn _ _ _ (by simpa using h1) (by simpa using h2),.same hi rfl rfl rfl⟩};trivial
 case makeMap t r=>
  cases r with
  |none=>have hfr:Free φ σ (σ.mk' (.map [] 0)):=hf _ rfl;exact .ofV (Co hi t hfr.at)
  |some x=>dsimp only at hf⊢;split;{rename_i k n _ _ hx hu;have hfr:Free φ σ (σ.mk' (.map [] 0)):=hf _ (by simp only[hx,hu];rfl);have hvr:=hO hx;show OpOk P R D φ σ w (do pure (.value (←Instr.makeMap t (some (a.eval x))))) _;generalize a.eval x=xv at hvr;cases hvr;exact .ofV (zQ hi hu hfr.at)};trivial
 case makeSlice t x y=>
  split;{rename_i l c hl hc;exact .ofS fun v σ' h=>ur hi h (hO hl) (hO hc) (hf σ' (by simp only[hl,hc];exact fS h))};trivial
 case slice t x lo hi' mx=>
  split;{rename_i x1 lo1 hi1 mx1 hx hlo hhi hmx;refine .ofP hi fun v h=> ?_;exact E7 hi.wf hi.dec h (hO hx) (mO he hi hlo) (mO he hi hhi) (mO he hi hmx)};trivial
 case fieldAddr t x f=>
  split;{rename_i p hp;refine .ofP hi fun v h=> ?_;obtain⟨v',h1,h2⟩:=ux (P:=P) h (hO hp);exact⟨v',h1 w,h2⟩};trivial
 case field t x f=>
  split;{rename_i p hp;refine .ofP hi fun v h=> ?_;obtain⟨v',h1,h2⟩:=Ga (P:=P) h (hO hp);exact⟨v',h1 w,h2⟩};trivial
 case indexAddr t x i=>
  split;{rename_i p q hp hq;refine .ofP hi fun v h=> ?_;obtain⟨v',h1,h2⟩:=uw (P:=P) h (hO hp) (hO hq);exact⟨v',h1 w,h2⟩};trivial
 case index t x i=>
  split;{rename_i p q hp hq;refine .ofP hi fun v h=> ?_;obtain⟨v',h1,h2⟩:=FX (P:=P) hi.dec h (hO hp) (hO hq);exact⟨v',h1 w,h2⟩};trivial
 case lookup t x k ok=>
  split;{rename_i p q hp hq;refine .ofS fun v σ' h=> ?_;obtain⟨v',h1,h2,h3⟩:=iD (P:=P) hi h (hO hp) (hO hq) (hk σ' (by simp only[hp,hq];exact fS h));exact⟨φ,w,v',h1,h2,h3⟩};trivial
 case mapUpdate t m k x=>
  split;{rename_i p q r hp hq hr;exact .ofU fun σ' h=>jR (P:=P) hi h (hO hp) (hO hq) (hO hr) (hk σ' (by simp only[hp,hq,hr];exact Ca h))};trivial
 case insert t m k x=>
  split;{rename_i p q r hp hq hr;exact .ofU fun σ' h=>jR (P:=P) hi h (hO hp) (hO hq) (hO hr) (hk σ' (by simp only[hp,hq,hr];exact Ca h))};trivial
 case range t x=>
  split;{rename_i p hp;exact .ofS fun v σ' h=>Fk hi h (hO hp) (hk σ' (by simp only[hp];exact fS h)) (hf σ' (by simp only[hp];exact fS h))};trivial
 case next it s=>
  split;{rename_i p hp;refine .ofS fun v σ' h=> ?_;obtain⟨w',v',h1,h2,h3⟩:=Jk (P:=P) (t:=o.type) hi h (hO hp) (hk σ' (by simp only[hp];exact fS h));exact⟨φ,w',v',h1,h2,h3⟩};trivial
 case entry it=>
  split;{rename_i p hp;refine .ofS fun v σ' h=> ?_;obtain⟨v',h1,h2,h3⟩:=Gf (P:=P) hi h (hO hp) (hk σ' (by simp only[hp];exact fS h));exact⟨φ,w,v',h1,h2,h3⟩};trivial
 case typeAssert x xt t ok=>
  split;{rename_i p hp;refine .ofP hi fun v h=> ?_;obtain⟨v',h1,h2⟩:=Dh (P:=P) (xt:=xt) h (hO hp);exact⟨v',h1 w,h2⟩};trivial
 case extract x i=>
  split;{rename_i p hp;refine .ofP hi fun v h=> ?_;obtain⟨v',h1,h2⟩:=Aj (P:=P) h (hO hp);exact⟨v',h1 w,h2⟩};trivial
 case call c=>
  split;{trivial};rename_i args hargs;have hav:=og he hi hargs;have hav':VRL φ args (c.args.map a.eval).toList:=(by simpa using hav);split;{rename_i b hb;refine(AP (ty:=o.type) (cs:=c.args.map fun| .const _=>true|_=>false) hi hav' (fun σ' h=>hk σ' (by simp only[hargs,hb];exact h)) (fun σ' h=>hf σ' (by simp only[hargs,hb];exact h))).congr ?_;simp [resolve,hb,invoke];rfl};{rename_i r name hb;split;{rename_i recv hrecv;refine(l6 hi (hO hrecv) hav' (fun σ' h=>hk σ' (by simp only[hargs,hb,hrecv];exact h)) (fun σ' h=>hf σ' (by simp only[hargs,hb,hrecv];exact h))).congr ?_;have e1:(#[a.eval r]++Array.map a.eval c.args)[0]? =some (a.eval r):=(by simp [Array.getElem?_append]);have e2:(Array.map a.eval c.args).extract 0 c.args.size=Array.map a.eval c.args:=(by apply Array.ext';simp;exact List.take_of_length_le (by simp));simp [resolve,hb,invoke,e1,e2]};trivial};rename_i f hb;split;{rename_i fv hfv;refine(vS hi (hO hfv) hav' (fun σ' h=>hk σ' (by simp only[hargs,hb,hfv];exact h)) (fun σ' h=>hf σ' (by simp only[hargs,hb,hfv];exact h))).congr ?_;simp [resolve,hb]};trivial
 case panic x=>
  split
  ·rename_i v hv;unfold sZ;split
   ·rename_i t u;have hvr:=hO hv;generalize a.eval x=xv at hvr;cases hvr with
    |iface _ h2=>exact⟨φ,w,_,by simp [Instr.panic],.iface _ h2,.same hi rfl rfl rfl⟩
   trivial
  trivial
 case defer c=>
  split
  ·rename_i f args hc hargs;have hav:=og he hi hargs;split
   ·rename_i g first captured hfv
    have hvr:=hO hfv;obtain⟨fv,hfe⟩:∃fv,fv=a.eval f:=⟨_,rfl⟩;rw[←hfe]at hvr;cases hvr with
    |fn _ a' b' h1 h2=>refine⟨φ,w,{target:=.fn (.func g) b',args:=a'++c.args.map a.eval},?_,⟨b',a'++c.args.map a.eval,rfl,?_⟩,.same hi rfl rfl rfl⟩;{simp [resolve,hc,←hfe,Deferred.ofValue]};have h3:VRL φ args (c.args.map a.eval).toList:=(by simpa using hav);have:=(h1.append h3).append h2;simpa using this
   trivial
  trivial
 all_goals trivial
theorem ld(hi:Inv R C D φ σ w){nt:Nat}{env:Env}{a:Act}{o:Oper}(he:EnvR φ nt env a)
 (hk:∀σ',(qi P C env σ o).st=some σ'→Known D σ σ')(hf:∀σ',(qi P C env σ o).st=some σ'→Free φ σ σ'):
 OpOk P R D φ σ w (execOp a.eval o) (qi P C env σ o):=by
 rcases o8 (P:=P) (C:=C) env σ o with h|⟨r,hr,hnd,h⟩<;>rw[h]at hk hf⊢;{exact RA hi he hk hf};exact hi.oh P C.dec hi.dec R D φ σ w hi.inv0 (aD C env) a.eval (fun x v hx=>fV he hi hx) o r hr hnd (hk _ rfl) (hf _ rfl)
end
end Go.Tw
namespace Go.Tw
def gC(ro:Option Nat):Fence:={Fence.wide with round:=ro}
theorem Bt(ro:Option Nat)(n:Nat):(gC ro).room n:=room_wide n
def kindOf(dk:Bool):CallKind:=if dk then .deferred else .normal
def Runs(P:Program)(ro:Option Nat)(dk:Bool)(c:Code)(Q:Exit→Act→List Frame→World→Prop)(a:Act)(cs:List Frame)(w:World):Prop:=
 ∀(b:Frame) (k:List Item),b.roundOf=ro→b.kind=kindOf dk→
  ∃e a' cs' w',Q e a' cs' w'∧ArrivesIn (Machine.fenced P Fence.wide) P (lone (b.atR a (.code c::k)) cs w) b k cs' e a' w'
def bH(P:Program)(ro:Option Nat)(dk:Bool)(ops:Array Oper)(l:List Nat)(Q:Exit→Act→List Frame→World→Prop)(a:Act)(cs:List Frame)(w:World):Prop:=
 ∀(b:Frame) (k:List Item),b.roundOf=ro→b.kind=kindOf dk→
  ∃e a' cs' w',Q e a' cs' w'∧ArrivesIn (Machine.fenced P Fence.wide) P (lone (b.atR a (.inRegion ops l::k)) cs w) b k cs' e a' w'
section rules
variable{P:Program}{ro:Option Nat}{dk:Bool}{Q:Exit→Act→List Frame→World→Prop}{a:Act}{cs:List Frame}{w:World}
theorem aO{m m':Machine}(h:step P m=.next m'):StepsIn (Machine.fenced P Fence.wide) P m m':=.one (fenced_wide P m) h
theorem Runs.mono{c:Code}{Q':Exit→Act→List Frame→World→Prop}(h:Runs P ro dk c Q a cs w)(hq:∀e a cs w,Q e a cs w→Q' e a cs w):Runs P ro dk c Q' a cs w:=
 fun b k hr hk=>let⟨e,a',cs',w',q,r⟩:=h b k hr hk;⟨e,a',cs',w',hq _ _ _ _ q,r⟩
theorem dD{c:Code}(h:c.wpIn (gC ro) 0 P (fun e a' w'=>Q e a' cs w') a w):Runs P ro dk c Q a cs w:=
 fun b k hr _=>let⟨e,a',w',q,r⟩:=h b k cs hr trivial (Bt _ _);⟨e,a',cs,w',q,r⟩
theorem Ff(h:Q .normal a cs w):Runs P ro dk .skip Q a cs w:=dD (wpIn_skip h)
theorem Br{l:Nat}(h:Q .normal a cs w):Runs P ro dk (.label l) Q a cs w:=dD (wpIn_label h)
theorem Fh{id:Nat}(h:Q (.exit id) a cs w):Runs P ro dk (.exit id) Q a cs w:=dD (wpIn_exit h)
theorem Fg{l:Nat}(h:Q (.goto l) a cs w):Runs P ro dk (.goto l) Q a cs w:=dD (wpIn_goto h)
theorem Hw(h:Q .ret a cs w):Runs P ro dk .ret Q a cs w:=dD (wpIn_ret h)
theorem dY{x y:Code}(h:Runs P ro dk x (Exit.thenS (Runs P ro dk y Q) Q) a cs w):Runs P ro dk (.seq x y) Q a cs w:=by
 intro b k hr hk;obtain⟨e,a₁,cs₁,w₁,hq,harr⟩:=h b (.code y::k) hr hk;cases e with
 |normal=>obtain⟨e₂,a₂,cs₂,w₂,hq₂,harr₂⟩:=hq b k hr hk;exact⟨e₂,a₂,cs₂,w₂,hq₂,.of_steps (.head (fenced_wide _ _) stepR_seq harr) harr₂⟩
 |exit id=>exact⟨_,a₁,cs₁,w₁,hq,.of_steps (aO stepR_seq) (.pass (x:=.code y) rfl (fun _ _=>.inl (by simp)) harr)⟩
 |goto l=>exact⟨_,a₁,cs₁,w₁,hq,.of_steps (aO stepR_seq) (.pass (x:=.code y) rfl (fun _ _=>.inl (by simp)) harr)⟩
 |ret=>exact⟨_,a₁,cs₁,w₁,hq,.of_steps (aO stepR_seq) (.pass (x:=.code y) rfl (fun _ _=>.inl (by simp)) harr)⟩
 |panic ch=>exact⟨_,a₁,cs₁,w₁,hq,.of_steps (aO stepR_seq) (.pass (x:=.code y) rfl (fun _ _=>.inl (by simp)) harr)⟩
 |outgrown=>exact⟨_,a₁,cs₁,w₁,hq,.of_steps (aO stepR_seq) (.pass (x:=.code y) rfl (fun _ _=>.inl (by simp)) harr)⟩
theorem lO{c:Operand}{x y:Code}{t:Bool}(hc:a.eval c=.bool t)(h:Runs P ro dk (if t then x else y) Q a cs w):Runs P ro dk (.cond c x y) Q a cs w:=
 fun b k hr hk=>let⟨e,a',cs',w',q,r⟩:=h b k hr hk;⟨e,a',cs',w',q,.of_steps (aO (stepR_cond hc)) r⟩
def dv(id:Nat)(Q:Exit→Act→List Frame→World→Prop):Exit→Act→List Frame→World→Prop
 | .exit id',a,cs,w=>if id'=id then Q .normal a cs w else Q (.exit id') a cs w
 |e,a,cs,w=>Q e a cs w
theorem cM{id:Nat}{c:Code}(h:Runs P ro dk c (dv id Q) a cs w):Runs P ro dk (.block id c) Q a cs w:=by
 intro b k hr hk;obtain⟨e,a₁,cs₁,w₁,hq,harr⟩:=h b (.inBlock id::k) hr hk;have h0:=aO (P:=P) (stepR_block (b:=b) (a:=a) (k:=k) (cs:=cs) (w:=w) (id:=id) (c:=c));cases e with
 |normal=>exact⟨.normal,a₁,cs₁,w₁,hq,h0.trans (StepsIn.trans harr (aO stepR_inBlock))⟩
 |exit id'=>
  by_cases hid:id'=id;{simp only[dv,hid,if_true]at hq;exact⟨.normal,a₁,cs₁,w₁,hq,h0.trans (harr.1 k (by simp [exitTo,hid]))⟩};simp only[dv,hid,if_false]at hq;have this:(id==id')=false:=(by simp;exact fun h=>hid h.symm);have hx:exitTo id' (.inBlock id::k)=exitTo id' k:=(by simp [exitTo,this]);exact⟨.exit id',a₁,cs₁,w₁,hq,fun k' hk=>h0.trans (harr.1 k' (by rw[hx];exact hk)),
   fun hr' hk=>let⟨k₁,h1,h2⟩:=harr.2 hr' (by rw[hx];exact hk);⟨k₁,h1,h0.trans h2⟩⟩
 |goto l=>
  have hx:gotoIn l (.inBlock id::k)=gotoIn l k:=(by simp [gotoIn]);exact⟨_,a₁,cs₁,w₁,hq,fun k' hk=>h0.trans (harr.1 k' (by rw[hx];exact hk)),
   fun hr' hk=>let⟨k₁,h1,h2⟩:=harr.2 hr' (by rw[hx];exact hk);⟨k₁,h1,h0.trans h2⟩⟩
 |ret=>exact⟨_,a₁,cs₁,w₁,hq,.of_steps h0 harr⟩
 |panic ch=>exact⟨_,a₁,cs₁,w₁,hq,.of_steps h0 harr⟩
 |outgrown=>exact⟨_,a₁,cs₁,w₁,hq,.of_steps h0 harr⟩
theorem pZ{id:Nat}{ops:Array Oper}(h:bH P ro dk ops (List.range ops.size) Q a cs w):Runs P ro dk (.region id ops false) Q a cs w:=
 fun b k hr hk=>let⟨e,a',cs',w',q,r⟩:=h b k hr hk;⟨e,a',cs',w',q,.of_steps (aO stepR_region) r⟩
section ops
variable{ops:Array Oper}{i:Nat}{rest:List Nat}{o:Oper}
theorem ME(h:Q .normal a cs w):bH P ro dk ops [] Q a cs w:=
 fun _ _ _ _=>⟨.normal,a,cs,w,h,aO stepR_region_end⟩
theorem xo(ho:ops[i]? =some o)(hw:Region.wanted o (yielded ops a.tmps)=false)(h:bH P ro dk ops rest Q (a.put o.dst undef) cs w):
 bH P ro dk ops (i::rest) Q a cs w:=by
 intro b k hr hk;obtain⟨e,a',cs',w',hq,harr⟩:=h b k hr hk;have hs:=stepR_op_skip (P:=P) (b:=b) (a:=a) (k:=k) (cs:=cs) (w:=w) (ops:=ops) (i:=i) (rest:=rest) (by simp [ho];exact hw);simp only[ho,Option.bind_some]at hs;exact⟨e,a',cs',w',hq,.of_steps (aO hs) harr⟩
theorem n9{b:Frame}{k:List Item}(ho:ops[i]? =some o)(v:Value):(b.atR a (.inRegion ops (i::rest)::k)).finish v=b.atR (a.put o.dst v) (.inRegion ops rest::k):=by rw[Frame.finish_atR,ho];rfl
theorem iv{b:Frame}{k:List Item}(hr:b.roundOf=ro)(ho:ops[i]? =some o)(hw:Region.wanted o (yielded ops a.tmps)=true):
 stepG P true {frame:=b.atR a (.inRegion ops (i::rest)::k),callers:=cs,status:=.running,dying:=none} w=
  stepG.apply P true (b.atR a (.inRegion ops (i::rest)::k)) cs none (o.semAt ro a.eval) w:=by
 rw[←hr];exact stepGR_op ho hw
theorem o6(ho:ops[i]? =some o)(hw:Region.wanted o (yielded ops a.tmps)=true){n:Next}{v:Value}{w':World}(hn:n=.value v∨(n=.skip∧v=undef))
 (hrun:(o.semAt ro a.eval).run P w=.ok n w')(h:bH P ro dk ops rest Q (a.put o.dst v) cs w'):bH P ro dk ops (i::rest) Q a cs w:=by
 intro b k hr hk;obtain⟨e,a',cs',w'',hq,harr⟩:=h b k hr hk;refine⟨e,a',cs',w'',hq,.of_steps (aO (step_lone_go ?_)) harr⟩;rw[iv hr ho hw,←n9 ho];rcases hn with rfl|⟨rfl,rfl⟩<;>simp [stepG.apply,hrun]
theorem Fs(ho:ops[i]? =some o)(hw:Region.wanted o (yielded ops a.tmps)=true){v:Value}{w':World}
 (hrun:(o.semAt ro a.eval).run P w=.halt (.panic v) w')(h:Q (.panic [{v,recovered:=false}]) a cs w'):bH P ro dk ops (i::rest) Q a cs w:=by
 intro b k hr hk;refine⟨_,a,cs,w',h,.inRegion ops (i::rest)::k,aO (step_lone_go ?_)⟩;rw[iv hr ho hw,←Frame.raise_atR];simp [stepG.apply,hrun]
theorem Ft(ho:ops[i]? =some o)(hw:Region.wanted o (yielded ops a.tmps)=true){d:Deferred}{w':World}
 (hrun:(o.semAt ro a.eval).run P w=.ok (.defer d) w')(h:bH P ro dk ops rest Q ({a with defers:=d::a.defers}.put o.dst undef) cs w'):
 bH P ro dk ops (i::rest) Q a cs w:=by
 intro b k hr hk;obtain⟨e,a',cs',w'',hq,harr⟩:=h b k hr hk;refine⟨e,a',cs',w'',hq,.of_steps (aO (step_lone_go ?_)) harr⟩;have:({b.atR a (.inRegion ops (i::rest)::k)with defers:=d::a.defers}:Frame).finish undef=
  b.atR ({a with defers:=d::a.defers}.put o.dst undef) (.inRegion ops rest::k):=by
  have:=Frame.finish_atR b {a with defers:=d::a.defers} ops i rest k undef;rw[ho]at this;exact this
 rw[iv hr ho hw];simp only[stepG.apply,Sem.runT_eq,hrun,GStep.bare_after];exact congrArg (fun fr=>GStep.go {frame:=fr,callers:=cs,status:=.running,dying:=none} w') this
theorem zD(ho:ops[i]? =some o)(hw:Region.wanted o (yielded ops a.tmps)=true){w':World}{v:Value}{cs₁:List Frame}
 (hrun:(o.semAt none a.eval).run P w=.ok .recover w')(hrec:recoverD cs=some (v,cs₁))(h:bH P none true ops rest Q (a.put o.dst v) cs₁ w'):
 bH P none true ops (i::rest) Q a cs w:=by
 intro b k hr hk;have hkd:(b.atR a (.inRegion ops (i::rest)::k)).kind=.deferred:=hk;have htr:=tryRecover_deferred hkd cs;obtain⟨e,a',cs'',w'',hq,harr⟩:=h b k hr hk;refine⟨e,a',cs'',w'',hq,.of_steps (aO (step_lone_go ?_)) harr⟩;rw[iv hr ho hw,←n9 ho];simp only[Frame.atR,hr]at htr⊢;simp [stepG.apply,hrun,htr,hrec]
theorem o7(ho:ops[i]? =some o)(hw:Region.wanted o (yielded ops a.tmps)=true){w':World}
 (hrun:(o.semAt none a.eval).run P w=.ok .recover w')(hrec:dk=true→recoverD cs=none)(h:bH P none dk ops rest Q (a.put o.dst .nilIface) cs w'):
 bH P none dk ops (i::rest) Q a cs w:=by
 intro b k hr hk;have htr:tryRecover (b.atR a (.inRegion ops (i::rest)::k)) cs=none:=by
  cases dk with
  |true=>have hkd:(b.atR a (.inRegion ops (i::rest)::k)).kind=.deferred:=hk;rw[tryRecover_deferred hkd,hrec rfl]
  |false=>have hkd:(b.atR a (.inRegion ops (i::rest)::k)).kind=.normal:=hk;cases cs<;>simp [tryRecover,hkd]
 obtain⟨e,a',cs'',w'',hq,harr⟩:=h b k hr hk;refine⟨e,a',cs'',w'',hq,.of_steps (aO (step_lone_go ?_)) harr⟩;rw[iv hr ho hw,←n9 ho];simp only[Frame.atR,hr]at htr⊢;simp [stepG.apply,hrun,htr]
theorem vm(ho:ops[i]? =some o)(hw:Region.wanted o (yielded ops a.tmps)=true){f:FuncId}{args:Array Value}{w':World}{R:Ending→World→Prop}
 (hrun:(o.semAt ro a.eval).run P w=.ok (.enter f args) w')(hcall:Calls P f args w' R)(h1:∀v w'',R (.returned v) w''→bH P ro dk ops rest Q (a.put o.dst v) cs w'')
 (h2:∀ch w'',R (.panicked ch) w''→Q (.panic ch) a cs w'')(h3:∀w'',¬R .outgrown w''):bH P ro dk ops (i::rest) Q a cs w:=by
 intro b k hr hk;obtain⟨e,w'',fr,hR,hsteps,hfn,hleave⟩:=(callsIn_wide (n:=0)).2 hcall |>.2 (b.atR a (.inRegion ops (i::rest)::k)::cs) (room_wide _);have henter:step P (lone (b.atR a (.inRegion ops (i::rest)::k)) cs w)=
  .next (lone (Frame.enter P f args .normal) (b.atR a (.inRegion ops (i::rest)::k)::cs) w'):=
  step_lone_go (by rw[iv hr ho hw];simp [stepG.apply,hrun,Frame.atR])
 cases e with
 |returned v=>obtain⟨e,a',cs',w₃,hq,harr⟩:=h1 v w'' hR b k hr hk;refine⟨e,a',cs',w₃,hq,.of_steps (.head (fenced_wide _ _) henter (StepsIn.trans hsteps (aO ?_))) harr⟩;rw[←n9 ho];exact step_leave_returned hleave
 |panicked chain=>refine⟨.panic chain,a,cs,w'',h2 _ _ hR,.inRegion ops (i::rest)::k,.head (fenced_wide _ _) henter (StepsIn.trans hsteps (aO ?_))⟩;rw[←Frame.raise_atR];exact step_leave_panicked hleave
 |outgrown=>exact absurd hR (h3 _)
theorem vl(ho:ops[i]? =some o)(hw:Region.wanted o (yielded ops a.tmps)=true){l:Nat}{f:FuncId}{tmps:Array Value}{assign body:Code}{w':World}{R:Ending→World→Prop}
 (hrun:(o.semAt ro a.eval).run P w=.ok (.round l f tmps assign body) w')(hcall:RoundIn Fence.wide 0 P l f tmps assign body w' R)
 (h1:∀v w'',R (.returned v) w''→bH P ro dk ops rest Q (a.put o.dst v) cs w'')
 (h2:∀ch w'',R (.panicked ch) w''→Q (.panic ch) a cs w'')(h3:∀w'',¬R .outgrown w''):bH P ro dk ops (i::rest) Q a cs w:=by
 intro b k hr hk;obtain⟨e,w'',hR,hsteps⟩:=hcall.2 (b.atR a (.inRegion ops (i::rest)::k)) cs (room_wide _);have henter:step P (lone (b.atR a (.inRegion ops (i::rest)::k)) cs w)=
  .next (lone (Frame.round l f tmps assign body .normal) (b.atR a (.inRegion ops (i::rest)::k)::cs) w'):=
  step_lone_go (by rw[iv hr ho hw];simp [stepG.apply,hrun,Frame.atR])
 cases e with
 |returned v=>obtain⟨e,a',cs',w₃,hq,harr⟩:=h1 v w'' hR b k hr hk;refine⟨e,a',cs',w₃,hq,.of_steps (.head (fenced_wide _ _) henter ?_) harr⟩;rw[←n9 ho];exact hsteps
 |panicked chain=>refine⟨.panic chain,a,cs,w'',h2 _ _ hR,.inRegion ops (i::rest)::k,.head (fenced_wide _ _) henter ?_⟩;rw[←Frame.raise_atR];exact hsteps
 |outgrown=>exact absurd hR (h3 _)
end ops
end rules
end Go.Tw
namespace Go.Tw
variable[Val]
section
variable{P:Program}{R:Nat}{C:Cfg}
inductive ChainR (φ:PM):List (AV×Bool)→List PanicEntry→Prop
 |nil:ChainR φ [] []
 |cons {v:AV} {b:Bool} {v':Value} {l:List (AV×Bool)} {l':List PanicEntry} (h:VR φ v v') (t:ChainR φ l l'):
  ChainR φ ((v,b)::l) ({v:=v',recovered:=b,goexit:=false}::l')
theorem ChainR.mono{φ ψ:PM}(h:φ.le ψ){l:List (AV×Bool)}{l':List PanicEntry}(k:ChainR φ l l'):ChainR ψ l l':=by
 induction k with
 |nil=>exact .nil
 |cons hv _ ih=>exact .cons (hv.mono h) ih
theorem ChainR.append{φ:PM}{a b:List (AV×Bool)}{a' b':List PanicEntry}(h:ChainR φ a a')(k:ChainR φ b b'):ChainR φ (a++b) (a'++b'):=by
 induction h with
 |nil=>exact k
 |cons hv _ ih=>exact .cons hv ih
def ModeR(φ:PM):AMode→FrameMode→Prop
 | .returning,.returning=>True
 | .panicking c,.panicking c'=>ChainR φ c c'
 |_,_=>False
theorem ModeR.mono{φ ψ:PM}(h:φ.le ψ){m:AMode}{m':FrameMode}(k:ModeR φ m m'):ModeR ψ m m':=by cases m<;>cases m'<;>simp only[ModeR]at k⊢;exact k.mono h
def CsR(φ:PM)(dk:Bool)(base cs:List Frame):Option AMode→Prop
 |none=>dk=false∧cs=base
 |some m=>dk=true∧∃c₀ rest m',base=c₀::rest∧cs={c₀ with mode:=m'}::rest∧ModeR φ m m'
theorem CsR.mono{φ ψ:PM}(h:φ.le ψ){dk:Bool}{base cs:List Frame}{m:Option AMode}(k:CsR φ dk base cs m):CsR ψ dk base cs m:=by
 cases m with
 |none=>exact k
 |some m=>obtain⟨h1,c₀,rest,m',h2,h3,h4⟩:=k;exact⟨h1,c₀,rest,m',h2,h3,h4.mono h⟩
def Does(P:Program)(φ:PM)(cl:Cle)(args:Array Value)(w:World)(Q:Ending→World→Prop):Prop:=
 match cl with
 | .fn f=>Calls P f args w Q
 | .yld id=>∀e,φ id 0=some e→∃l f tmps assign body,(Instr.yield e.blk args).run P w=.ok (.round l f tmps assign body) w∧RoundIn Fence.wide 0 P l f tmps assign body w Q
omit [Val]in
theorem Does.mono{φ:PM}{cl:Cle}{args:Array Value}{w:World}{Q Q':Ending→World→Prop}(h:Does P φ cl args w Q)(hq:∀e w',Q e w'→Q' e w'):Does P φ cl args w Q':=by
 cases cl with
 |fn f=>exact Calls.mono h hq
 |yld id=>intro e he;obtain⟨l,f,t,a,b,h1,h2⟩:=h e he;exact⟨l,f,t,a,b,h1,h2.mono hq⟩
def fY(P:Program)(R:Nat)(C:Cfg)(call:Cle→List AV→St→CR):Prop:=
 ∀(cl:Cle) (args:List AV) (σ:St) (D:Nat→Prop) (φ:PM) (w:World) (args':Array Value),Inv R C D φ σ w→VRL φ args args'.toList→
  (∀v σ',call cl args σ=.ret v σ'→Known D σ σ'→Free φ σ σ'→
    Does P φ cl args' w fun e w'=>∃φ' v',e=.returned v'∧VR φ' v v'∧Post R D φ σ w σ' φ' w')∧
  (∀c σ',call cl args σ=.pan c σ'→Known D σ σ'→Free φ σ σ'→
    Does P φ cl args' w fun e w'=>∃φ' c',e=.panicked c'∧ChainR φ' c c'∧Post R D φ σ w σ' φ' w')
def en(φ:PM):AExit→Exit→Prop
 | .normal,.normal=>True
 | .exit i,.exit j=>i=j
 | .goto i,.goto j=>i=j
 | .ret,.ret=>True
 | .panic c,.panic c'=>ChainR φ c c'
 |_,_=>False
inductive DfsR (φ:PM):List ADef→List Deferred→Prop
 |nil:DfsR φ [] []
 |cons {d:ADef} {d':Deferred} {l:List ADef} {l':List Deferred} (h:DfR φ d d') (t:DfsR φ l l'):DfsR φ (d::l) (d'::l')
theorem DfsR.mono{φ ψ:PM}(h:φ.le ψ){l:List ADef}{l':List Deferred}(k:DfsR φ l l'):DfsR ψ l l':=by
 induction k with
 |nil=>exact .nil
 |cons hd _ ih=>exact .cons (hd.mono h) ih
structure FrmR(φ:PM)(nt:Nat)(env:Env)(a:Act):Prop where
 ev:EnvR φ nt env a
 dfs:DfsR φ env.ds a.defers
theorem FrmR.mono{φ ψ:PM}{nt:Nat}{env:Env}{a:Act}(h:FrmR φ nt env a)(k:φ.le ψ):FrmR ψ nt env a:=⟨h.ev.mono k,h.dfs.mono k⟩
theorem EnvR.same{φ:PM}{nt:Nat}{env env':Env}{a a':Act}(h:EnvR φ nt env a)(h1:env'.tm=env.tm)(h2:a'.tmps=a.tmps):EnvR φ nt env' a':=
 ⟨by rw[h2];exact h.size,by rw[h1,h2];exact h.val⟩
omit [Val]in
theorem put_defers{a:Act}{d:Option Tmp}{v:Value}:(a.put d v).defers=a.defers:=by cases d<;>rfl
omit [Val]in
theorem fp{nt:Nat}{env env':Env}{d:Option Tmp}{v:AV}(hp:gP nt env d v=some env'):env'.ds=env.ds∧env'.md=env.md∧env'.rd=env.rd:=by
 unfold gP at hp;cases d with
 |none=>cases hp;exact⟨rfl,rfl,rfl⟩
 |some d=>simp only[ai]at hp;split at hp;{cases hp;exact⟨rfl,rfl,rfl⟩};cases hp
theorem EnvR.put{φ:PM}{nt:Nat}{env env':Env}{a:Act}{d:Option Tmp}{v:AV}{v':Value}(h:EnvR φ nt env a)(hp:gP nt env d v=some env')(hv:VR φ v v'):
 EnvR φ nt env' (a.put d v'):=by
 unfold gP at hp;cases d with
 |none=>cases hp;exact h
 |some d=>simp only[ai]at hp;split at hp;{rename_i hb;have hb:=aR hb;cases hp;refine⟨by simp [Act.put,h.size],fun t u hu=> ?_⟩;rw[T.get_set]at hu;by_cases e:t=d;{subst e;rw[if_pos rfl]at hu;cases hu;exact⟨v',by simp [Act.put,h.size,hb],hv⟩};rw[if_neg e]at hu;obtain⟨u',h1,h2⟩:=h.val t u hu;exact⟨u',by simp only[Act.put];rw[Array.getElem?_setIfInBounds_ne (Ne.symm e)];exact h1,h2⟩};cases hp
theorem FrmR.put{φ:PM}{nt:Nat}{env env':Env}{a:Act}{d:Option Tmp}{v:AV}{v':Value}(h:FrmR φ nt env a)(hp:gP nt env d v=some env')(hv:VR φ v v'):
 FrmR φ nt env' (a.put d v'):=⟨h.ev.put hp hv,by rw[(fp hp).1,put_defers];exact h.dfs⟩
theorem jP{φ:PM}{nt:Nat}{ops:Array Oper}{env:Env}{a:Act}{o:Oper}{b:Bool}(hp:∀e n,C.pin e=some n→e.eval=n)(hdc:∀b v,C.dec b=some v→b.eval=v)
 (h:EnvR φ nt env a)
 (hw:jQ C ops env o=some b):Region.wanted o (yielded ops a.tmps)=b:=by
 unfold jQ at hw;unfold Region.wanted;cases hg:o.guard with
 |none=>rw[hg]at hw;simp only[aw]at hw;exact hw
 |some g=>
  obtain⟨j,want⟩:=g;rw[hg]at hw;dsimp only at hw⊢;unfold yielded;cases hj:ops[j]? with
  |none=>rw[hj]at hw;cases hw;rfl
  |some p=>
   rw[hj]at hw;dsimp only at hw;cases hd:p.dst with
   |none=>rw[hd]at hw;cases hw;simp [hd]
   |some d=>
    rw[hd]at hw;dsimp only at hw;cases hv:env.tm.get d with
    |none=>rw[hv]at hw;cases hw
    |some v=>
     rw[hv]at hw;dsimp only at hw;obtain⟨v',h1,h2⟩:=h.val d v hv;have h2:=HB hp hdc h2;simp only[Option.bind_some,hd,h1];generalize C.res v=u at hw h2;cases h2<;>simp only[aw]at hw<;>first
      |(cases hw;done)
      |(subst hw;rfl)
omit [Val]in
theorem fq{env:Env}{σ:St}{o:Oper}{r:OR}(h:qi P C env σ o=r)(h1:∀d τ,r≠.dfr d τ)(h2:r≠.no):∀c,o.op≠.defer c:=by
 intro c hc;rcases o8 (P:=P) (C:=C) env σ o with hb|⟨_,_,hnd,_⟩
 case inr=>exact hnd c hc
 rw[hb,B7]at h;unfold Jg at h;rw[hc]at h;dsimp only at h;repeat' split at h
 all_goals first
  |exact h2 h.symm
  |exact h1 _ _ h.symm
section step
variable{call:Cle→List AV→St→CR}{nt:Nat}{env:Env}{σ:St}{o:Oper}{D:Nat→Prop}{φ:PM}{w:World}{a:Act}
 {ro:Option Nat}{dk:Bool}{ops:Array Oper}{i:Nat}{rest:List Nat}{Q:Exit→Act→List Frame→World→Prop}{cs:List Frame}
theorem G2(hi:Inv R C D φ σ w)(he:EnvR φ nt env a)(ho:ops[i]? =some o)(hw:Region.wanted o (yielded ops a.tmps)=true){v:AV}{σ':St}
 (hr:qi P C env σ o=.val v σ')(hk:Known D σ σ')(hf:Free φ σ σ')(hn:∀φ' v' w',VR φ' v v'→Post R D φ σ w σ' φ' w'→bH P ro dk ops rest Q (a.put o.dst v') cs w'):
 bH P ro dk ops (i::rest) Q a cs w:=by
 have:=ld (P:=P) (o:=o) hi he (fun τ ht=>by rw[hr]at ht;simp only[OR.st,aw]at ht;subst ht;exact hk) (fun τ ht=>by rw[hr]at ht;simp only[OR.st,aw]at ht;subst ht;exact hf);rw[hr]at this;obtain⟨φ',w',n,v',h1,h2,h3,h4⟩:=this;have hnd:=fq hr (by simp) (by simp);rw[←Oper.semAt_eq ro _ _ hnd]at h1;rcases h2 with rfl|⟨rfl,rfl⟩;{exact o6 ho hw (.inl rfl) h1 (hn φ' v' w' h3 h4)};exact o6 ho hw (.inr ⟨rfl,rfl⟩) h1 (hn φ' undef w' h3 h4)
theorem G3(hi:Inv R C D φ σ w)(he:EnvR φ nt env a)(ho:ops[i]? =some o)(hw:Region.wanted o (yielded ops a.tmps)=true){v:AV}{σ':St}
 (hr:qi P C env σ o=.pan v σ')(hk:Known D σ σ')(hf:Free φ σ σ')
 (hn:∀φ' v' w',VR φ' v v'→Post R D φ σ w σ' φ' w'→Q (.panic [{v:=v',recovered:=false}]) a cs w'):
 bH P ro dk ops (i::rest) Q a cs w:=by
 have:=ld (P:=P) (o:=o) hi he (fun τ ht=>by rw[hr]at ht;simp only[OR.st,aw]at ht;subst ht;exact hk) (fun τ ht=>by rw[hr]at ht;simp only[OR.st,aw]at ht;subst ht;exact hf);rw[hr]at this;obtain⟨φ',w',v',h1,h2,h3⟩:=this;have hnd:=fq hr (by simp) (by simp);rw[←Oper.semAt_eq ro _ _ hnd]at h1;exact Fs ho hw h1 (hn φ' v' w' h2 h3)
theorem uM(hc:fY P R C call)(hi:Inv R C D φ σ w)(he:EnvR φ nt env a)(ho:ops[i]? =some o)(hw:Region.wanted o (yielded ops a.tmps)=true){f:Cle}{args:List AV}{τ:St}
 (hr:qi P C env σ o=.call f args τ):
 (∀v σ',call f args τ=.ret v σ'→StepA τ σ'→Known D σ σ'→Free φ σ σ'→
   (∀φ' v' w',VR φ' v v'→Post R D φ σ w σ' φ' w'→bH P ro dk ops rest Q (a.put o.dst v') cs w')→bH P ro dk ops (i::rest) Q a cs w)∧
 (∀c σ',call f args τ=.pan c σ'→StepA τ σ'→Known D σ σ'→Free φ σ σ'→
   (∀φ' c' w',ChainR φ' c c'→Post R D φ σ w σ' φ' w'→Q (.panic c') a cs w')→bH P ro dk ops (i::rest) Q a cs w):=by
 have hsteps:=dM (P:=P) (C:=C) (env:=env) (σ:=σ) (o:=o);have hs1:StepA σ τ:=hsteps τ (by rw[hr];rfl);have hnd:=fq hr (by simp) (by simp);have key:∀σ',StepA τ σ'→Known D σ σ'→Free φ σ σ'→∃φ₁ w₁ args',Oy P φ₁ (execOp a.eval o) w w₁ args' f∧VRL φ₁ args args'.toList∧Post R D φ σ w τ φ₁ w₁:=by intro σ' hst hk hf;have:=ld (P:=P) (o:=o) hi he (fun υ ht=>by rw[hr]at ht;simp only[OR.st,aw]at ht;subst ht;exact hk.mono hst) (fun υ ht=>by rw[hr]at ht;simp only[OR.st,aw]at ht;subst ht;exact hf.mono hst);rw[hr]at this;exact this
 refine⟨fun v σ' hcall hst hk hf hn=> ?_,fun c σ' hcall hst hk hf hn=> ?_⟩
 ·obtain⟨φ₁,w₁,args',h1,h2,h3⟩:=key σ' hst hk hf;have hcall':=(hc f args τ (cU D σ) φ₁ w₁ args' (h3.inv hi hs1) h2).1 v σ' hcall hk.then (hf.then h3 hs1);have hgo:∀v' w',(∃φ' u',Ending.returned v'=.returned u'∧VR φ' v u'∧Post R (cU D σ) φ₁ τ w₁ σ' φ' w')→bH P ro dk ops rest Q (a.put o.dst v') cs w':=by
   rintro v' w' ⟨φ',u',e,hv,hp⟩
   simp only[Ending.returned.injEq]at e;subst e;exact hn φ' _ w' hv (h3.trans hp hs1 hst)
  cases f with
  |fn f=>have h1':(o.semAt ro a.eval).run P w=.ok (.enter f args') w₁:=(by rw[Oper.semAt_eq ro _ _ hnd];exact h1);exact vm ho hw h1' hcall' hgo (fun ch w'' ⟨_,_,e,_⟩=>by cases e) (fun w'' ⟨_,_,e,_⟩=>by cases e)
  |yld id=>obtain⟨e1,e,g1,g2⟩:=h1;subst e1;obtain⟨l,f,tmps,assign,body,q1,q2⟩:=hcall' e g1;have h1':(o.semAt ro a.eval).run P w₁=.ok (.round l f tmps assign body) w₁:=(by rw[Oper.semAt_eq ro _ _ hnd,g2,q1]);exact vl ho hw h1' q2 hgo (fun ch w'' ⟨_,_,e,_⟩=>by cases e) (fun w'' ⟨_,_,e,_⟩=>by cases e)
 obtain⟨φ₁,w₁,args',h1,h2,h3⟩:=key σ' hst hk hf;have hcall':=(hc f args τ (cU D σ) φ₁ w₁ args' (h3.inv hi hs1) h2).2 c σ' hcall hk.then (hf.then h3 hs1);have hgo:∀c₁ w',(∃φ' u',Ending.panicked c₁=.panicked u'∧ChainR φ' c u'∧Post R (cU D σ) φ₁ τ w₁ σ' φ' w')→Q (.panic c₁) a cs w':=by
  rintro v' w' ⟨φ',u',e,hv,hp⟩
  simp only[Ending.panicked.injEq]at e;subst e;exact hn φ' _ w' hv (h3.trans hp hs1 hst)
 cases f with
 |fn f=>have h1':(o.semAt ro a.eval).run P w=.ok (.enter f args') w₁:=(by rw[Oper.semAt_eq ro _ _ hnd];exact h1);exact vm ho hw h1' hcall' (fun v w'' ⟨_,_,e,_⟩=>by cases e) hgo (fun w'' ⟨_,_,e,_⟩=>by cases e)
 |yld id=>obtain⟨e1,e,g1,g2⟩:=h1;subst e1;obtain⟨l,f,tmps,assign,body,q1,q2⟩:=hcall' e g1;have h1':(o.semAt ro a.eval).run P w₁=.ok (.round l f tmps assign body) w₁:=(by rw[Oper.semAt_eq ro _ _ hnd,g2,q1]);exact vl ho hw h1' q2 (fun v w'' ⟨_,_,e,_⟩=>by cases e) hgo (fun w'' ⟨_,_,e,_⟩=>by cases e)
theorem G4(hi:Inv R C D φ σ w)(he:EnvR φ nt env a)(ho:ops[i]? =some o)(hw:Region.wanted o (yielded ops a.tmps)=true){d:ADef}{σ':St}
 (hr:qi P C env σ o=.dfr d σ')(hk:Known D σ σ')(hf:Free φ σ σ')
 (hn:∀φ' d' w',DfR φ' d d'→Post R D φ σ w σ' φ' w'→bH P none dk ops rest Q ({a with defers:=d'::a.defers}.put o.dst undef) cs w'):
 bH P none dk ops (i::rest) Q a cs w:=by
 have:=ld (P:=P) (o:=o) hi he (fun τ ht=>by rw[hr]at ht;simp only[OR.st,aw]at ht;subst ht;exact hk) (fun τ ht=>by rw[hr]at ht;simp only[OR.st,aw]at ht;subst ht;exact hf);rw[hr]at this;obtain⟨φ',w',d',h1,h2,h3⟩:=this;exact Ft ho hw h1 (hn φ' d' w' h2 h3)
theorem yN(hi:Inv R C D φ σ w)(he:EnvR φ nt env a){σ':St}(hr:qi P C env σ o=.rcv σ')(hk:Known D σ σ')(hf:Free φ σ σ'):
 (o.semAt none a.eval).run P w=.ok .recover w∧Post R D φ σ w σ' φ w:=by
 have:=ld (P:=P) (o:=o) hi he (fun τ ht=>by rw[hr]at ht;simp only[OR.st,aw]at ht;subst ht;exact hk) (fun τ ht=>by rw[hr]at ht;simp only[OR.st,aw]at ht;subst ht;exact hf);rw[hr]at this;exact this
end step
omit [Val]in
theorem xY{ro:Option Nat}{o:Oper}{a:Act}{w:World}{next:Act→World→Prop}{Q:Exit→Act→World→Prop}
 (h:o.uponIn (gC ro) 0 P a next Q ((o.semAt ro a.eval).run P w)):o.wpIn (gC ro) 0 P a w next Q:=⟨fun _ _=>trivial,h⟩
theorem J4{nt:Nat}{env:Env}{σ:St}{o:Oper}{D:Nat→Prop}{φ:PM}{w:World}{a:Act}{ro:Option Nat}{next:Act→World→Prop}{Q:Exit→Act→World→Prop}
 (hi:Inv R C D φ σ w)(he:EnvR φ nt env a){v:AV}{σ':St}(hr:qi P C env σ o=.val v σ')(hk:Known D σ σ')(hf:Free φ σ σ')
 (hn:∀φ' v' w',VR φ' v v'→Post R D φ σ w σ' φ' w'→next (a.put o.dst v') w'):o.wpIn (gC ro) 0 P a w next Q:=by
 have:=ld (P:=P) (o:=o) hi he (fun τ ht=>by rw[hr]at ht;simp only[OR.st,aw]at ht;subst ht;exact hk) (fun τ ht=>by rw[hr]at ht;simp only[OR.st,aw]at ht;subst ht;exact hf);rw[hr]at this;obtain⟨φ',w',n,v',h1,h2,h3,h4⟩:=this;have hnd:=fq hr (by simp) (by simp);rw[←Oper.semAt_eq ro _ _ hnd]at h1;refine xY ?_;rw[h1];rcases h2 with rfl|⟨rfl,rfl⟩;{exact hn φ' v' w' h3 h4};exact hn φ' undef w' h3 h4
theorem Nj{call:Cle→List AV→St→CR}{nt:Nat}{env:Env}{σ:St}{o:Oper}{D:Nat→Prop}{φ:PM}{w:World}{a:Act}{ro:Option Nat}{next:Act→World→Prop}
 {Q:Exit→Act→World→Prop}(hc:fY P R C call)(hi:Inv R C D φ σ w)(he:EnvR φ nt env a){f:Cle}{args:List AV}{τ σ':St}{v:AV}
 (hr:qi P C env σ o=.call f args τ)(hcall:call f args τ=.ret v σ')(hst:StepA τ σ')(hk:Known D σ σ')(hf:Free φ σ σ')
 (hn:∀φ' v' w',VR φ' v v'→Post R D φ σ w σ' φ' w'→next (a.put o.dst v') w'):o.wpIn (gC ro) 0 P a w next Q:=by
 have hsteps:=dM (P:=P) (C:=C) (env:=env) (σ:=σ) (o:=o);have hs1:StepA σ τ:=hsteps τ (by rw[hr];rfl);have hnd:=fq hr (by simp) (by simp);have:=ld (P:=P) (o:=o) hi he (fun υ ht=>by rw[hr]at ht;simp only[OR.st,aw]at ht;subst ht;exact hk.mono hst) (fun υ ht=>by rw[hr]at ht;simp only[OR.st,aw]at ht;subst ht;exact hf.mono hst);rw[hr]at this;obtain⟨φ₁,w₁,args',h1,h2,h3⟩:=this;have hcall':=(hc f args τ (cU D σ) φ₁ w₁ args' (h3.inv hi hs1) h2).1 v σ' hcall hk.then (hf.then h3 hs1);have hgo:∀e w',(∃φ' u',e=Ending.returned u'∧VR φ' v u'∧Post R (cU D σ) φ₁ τ w₁ σ' φ' w')→(fun
  | .returned v,w''=>next (a.put o.dst v) w''
  | .panicked chain,w''=>Q (.panic chain) a w''
  | .outgrown,_=>LetsOut Q:Ending→World→Prop) e w':=by
  rintro e w' ⟨φ',u',rfl,hv,hp⟩
  exact hn φ' _ w' hv (h3.trans hp hs1 hst)
 refine xY ?_;rw[Oper.semAt_eq ro _ _ hnd];cases f with
 |fn f=>have h1':(execOp a.eval o).run P w=.ok (.enter f args') w₁:=h1;rw[h1'];refine⟨fun h=>by simp [gC,Fence.wide]at h,?_⟩;have:=(callsIn_wide (n:=0 - 1)).2 (hcall'.mono hgo);exact this
 |yld id=>obtain⟨e1,e,g1,g2⟩:=h1;subst e1;obtain⟨l,f,tmps,assign,body,q1,q2⟩:=hcall' e g1;rw[g2,q1];refine⟨fun h=>by simp [gC,Fence.wide]at h,?_⟩;exact q2.mono hgo
theorem Sw{call:Cle→List AV→St→CR}{nt:Nat}{env:Env}{σ:St}{o:Oper}{D:Nat→Prop}{φ:PM}{w:World}{a:Act}{ro:Option Nat}{next:Act→World→Prop}
 {Q:Exit→Act→World→Prop}(hc:fY P R C call)(hi:Inv R C D φ σ w)(he:EnvR φ nt env a){f:Cle}{args:List AV}{τ σ':St}{c:List (AV×Bool)}
 (hr:qi P C env σ o=.call f args τ)(hcall:call f args τ=.pan c σ')(hst:StepA τ σ')(hk:Known D σ σ')(hf:Free φ σ σ')
 (hn:∀φ' c' w',ChainR φ' c c'→Post R D φ σ w σ' φ' w'→Q (.panic c') a w'):o.wpIn (gC ro) 0 P a w next Q:=by
 have hsteps:=dM (P:=P) (C:=C) (env:=env) (σ:=σ) (o:=o);have hs1:StepA σ τ:=hsteps τ (by rw[hr];rfl);have hnd:=fq hr (by simp) (by simp);have:=ld (P:=P) (o:=o) hi he (fun υ ht=>by rw[hr]at ht;simp only[OR.st,aw]at ht;subst ht;exact hk.mono hst) (fun υ ht=>by rw[hr]at ht;simp only[OR.st,aw]at ht;subst ht;exact hf.mono hst);rw[hr]at this;obtain⟨φ₁,w₁,args',h1,h2,h3⟩:=this;have hcall':=(hc f args τ (cU D σ) φ₁ w₁ args' (h3.inv hi hs1) h2).2 c σ' hcall hk.then (hf.then h3 hs1);have hgo:∀e w',(∃φ' u',e=Ending.panicked u'∧ChainR φ' c u'∧Post R (cU D σ) φ₁ τ w₁ σ' φ' w')→(fun
  | .returned v,w''=>next (a.put o.dst v) w''
  | .panicked chain,w''=>Q (.panic chain) a w''
  | .outgrown,_=>LetsOut Q:Ending→World→Prop) e w':=by
  rintro e w' ⟨φ',u',rfl,hv,hp⟩
  exact hn φ' _ w' hv (h3.trans hp hs1 hst)
 refine xY ?_;rw[Oper.semAt_eq ro _ _ hnd];cases f with
 |fn f=>have h1':(execOp a.eval o).run P w=.ok (.enter f args') w₁:=h1;rw[h1'];refine⟨fun h=>by simp [gC,Fence.wide]at h,?_⟩;have:=(callsIn_wide (n:=0 - 1)).2 (hcall'.mono hgo);exact this
 |yld id=>obtain⟨e1,e,g1,g2⟩:=h1;subst e1;obtain⟨l,f,tmps,assign,body,q1,q2⟩:=hcall' e g1;rw[g2,q1];refine⟨fun h=>by simp [gC,Fence.wide]at h,?_⟩;exact q2.mono hgo
theorem mw(φ:PM):VR φ unit undef:=.tup _ .nil
theorem CsR.recover{φ:PM}{dk:Bool}{base cs:List Frame}{v:AV}{older:List (AV×Bool)}(h:CsR φ dk base cs (some (.panicking ((v,false)::older)))):
 dk=true∧∃v' cs',recoverD cs=some (v',cs')∧VR φ v v'∧CsR φ dk base cs' (some (.panicking ((v,true)::older))):=by
 obtain⟨h1,c₀,rest,m',h2,h3,h4⟩:=h;cases m' with
 |panicking c'=>
  simp only[ModeR]at h4;cases h4 with
  |cons hv ht=>subst h3;refine⟨h1,_,_,rfl,hv,h1,c₀,rest,_,h2,rfl,.cons hv ht⟩
 |_=>exact h4.elim
theorem CsR.norecover{φ:PM}{dk:Bool}{base cs:List Frame}{m:Option AMode}(h:CsR φ dk base cs m)(hm:∀v older,m≠some (.panicking ((v,false)::older))):
 dk=true→recoverD cs=none:=by
 intro hdk;cases m with
 |none=>rw[h.1]at hdk;cases hdk
 |some m=>
  obtain⟨h1,c₀,rest,m',h2,h3,h4⟩:=h;subst h3;cases m with
  |returning=>cases m'<;>simp only[ModeR]at h4;rfl
  |panicking c=>
   cases m'<;>simp only[ModeR]at h4;cases h4 with
   |nil=>rfl
   |@cons v b v' l l' hv ht=>
    cases b with
    |false=>exact absurd rfl (hm _ _)
    |true=>rfl
theorem uS{call:Cle→List AV→St→CR}(hc:fY P R C call)(hcs:cB call){nt:Nat}{ops:Array Oper}{ro:Option Nat}{dk:Bool}{base:List Frame}:
 ∀(l:List Oper) (k:Nat) (env:Env) (σ:St) (a:Act) (cs:List Frame) (w:World) (φ:PM) (D:Nat→Prop) (e:AExit) (env':Env) (σ':St),
  dE P C call nt ops l env σ=.ok e env' σ'→(∀j,l[j]? =ops[k+j]?)→Inv R C D φ σ w→FrmR φ nt env a→CsR φ dk base cs env.md→env.rd=ro.isSome→Known D σ σ'→Free φ σ σ'→
  ∀(Q:Exit→Act→List Frame→World→Prop),(∀φ' e' a' cs' w',en φ' e e'→FrmR φ' nt env' a'→CsR φ' dk base cs' env'.md→env'.rd=ro.isSome→Post R D φ σ w σ' φ' w'→Q e' a' cs' w')→
  bH P ro dk ops (List.range' k l.length) Q a cs w:=by
 intro l
 induction l with
 |nil=>intro k env σ a cs w φ D e env' σ' h _ hi he hm hrd hk hf Q hQ;simp only[dE,XR.ok.injEq]at h;obtain⟨rfl,rfl,rfl⟩:=h;exact ME (hQ φ .normal a cs w trivial he hm hrd (.same hi rfl rfl rfl))
 |cons o rest ih=>
  intro k env σ a cs w φ D e env' σ' h hl hi he hm hrd hk hf Q hQ;have hok:ops[k]? =some o:=(by have:=hl 0;simpa using this.symm);have hrest:∀j,rest[j]? =ops[k+1+j]? :=fun j=>(by have:=hl (j+1);simpa[Nat.add_assoc,Nat.add_comm 1 j]using this);simp only[List.length_cons,List.range'_succ];unfold dE at h;split at h;{cases h};{rename_i hw;have hw:=jP hi.pin hi.dec he.ev hw;split at h;{rename_i env1 hp;obtain⟨p1,p2,p3⟩:=fp hp;exact xo hok hw (ih (k+1) env1 σ _ cs w φ D e env' σ' h hrest hi (he.put hp (mw φ)) (p2▸hm) (p3.trans hrd) hk hf Q hQ)};cases h};rename_i hw;have hw:=jP hi.pin hi.dec he.ev hw;have hsteps:=dM (P:=P) (C:=C) (env:=env) (σ:=σ) (o:=o);have hgo:∀(v:AV) (τ:St),StepA σ τ→(match gP nt env o.dst v with|some env=>dE P C call nt ops rest env τ|none=>.no)=XR.ok e env' σ'→
   StepA τ σ'∧∀φ' v' w',VR φ' v v'→Post R D φ σ w τ φ' w'→bH P ro dk ops (List.range' (k+1) rest.length) Q (a.put o.dst v') cs w':=by
   intro v τ hs1 h;split at h
   ·rename_i env1 hp;obtain⟨p1,p2,p3⟩:=fp hp;have hs2:StepA τ σ':=da hcs rest env1 τ σ' (by rw[h];rfl);refine⟨hs2,fun φ' v' w' hv hpost=> ?_⟩;exact ih (k+1) env1 τ _ cs w' φ' (cU D σ) e env' σ' h hrest (hpost.inv hi hs1) ((he.mono hpost.le).put hp hv) (p2▸hm.mono hpost.le) (p3.trans hrd) hk.then (hf.then hpost hs1) Q
     (fun φ'' e' a' cs' w'' h1 h2 h3 h4 h5=>hQ φ'' e' a' cs' w'' h1 h2 h3 h4 (hpost.trans h5 hs1 hs2))
   cases h
  split at h;·rename_i v τ hr;have hs1:StepA σ τ:=hsteps τ (by rw[hr];rfl);obtain⟨hs2,hgo⟩:=hgo v τ hs1 h;exact G2 hi he.ev hok hw hr (hk.mono hs2) (hf.mono hs2) hgo
  ·rename_i d τ hr;have hs1:StepA σ τ:=hsteps τ (by rw[hr];rfl);simp only[ai]at h;split at h;{cases h};rename_i hrd';have hron:ro=none:=by
    have:env.rd=false:=(by simpa using hrd');rw[hrd]at this;cases ro with
    |none=>rfl
    |some l=>cases this
   subst hron;split at h
   ·rename_i env1 hp;obtain⟨p1,p2,p3⟩:=fp hp;have hs2:StepA τ σ':=da hcs rest env1 τ σ' (by rw[h];rfl);refine G4 hi he.ev hok hw hr (hk.mono hs2) (hf.mono hs2) fun φ' d' w' hd hpost=> ?_;have hfr:FrmR φ' nt {env with ds:=d::env.ds} {a with defers:=d'::a.defers}:=⟨(he.ev.mono hpost.le).same rfl rfl,.cons hd (he.dfs.mono hpost.le)⟩;exact ih (k+1) env1 τ _ cs w' φ' (cU D σ) e env' σ' h hrest (hpost.inv hi hs1) (hfr.put hp (mw φ')) (p2▸hm.mono hpost.le) (p3.trans hrd) hk.then (hf.then hpost hs1) Q
     (fun φ'' e' a' cs' w'' h1 h2 h3 h4 h5=>hQ φ'' e' a' cs' w'' h1 h2 h3 h4 (hpost.trans h5 hs1 hs2))
   cases h
  ·rename_i v τ hr;simp only[XR.ok.injEq]at h;obtain⟨rfl,rfl,rfl⟩:=h;refine G3 hi he.ev hok hw hr hk hf fun φ' v' w' hv hpost=> ?_;exact hQ φ' _ a cs w' (.cons hv .nil) (he.mono hpost.le) (hm.mono hpost.le) hrd hpost
  ·rename_i τ hr;have hs1:StepA σ τ:=hsteps τ (by rw[hr];rfl);simp only[ai]at h;split at h;{cases h};rename_i hrd';have hron:ro=none:=by
    have:env.rd=false:=(by simpa using hrd');rw[hrd]at this;cases ro with
    |none=>rfl
    |some l=>cases this
   subst hron;have hgo2:∀(env1:Env),dE P C call nt ops rest env1 τ=XR.ok e env' σ'→StepA τ σ':=
    fun env1 h=>da hcs rest env1 τ σ' (by rw[h];rfl)
   split at h
   ·rename_i v older hmd;split at h
    ·rename_i env1 hp;obtain⟨p1,p2,p3⟩:=fp hp;have hs2:=hgo2 _ h;obtain⟨r1,hpost⟩:=yN (P:=P) hi he.ev hr (hk.mono hs2) (hf.mono hs2);rw[hmd]at hm;obtain⟨hdk,v',cs',hrec,hv,hm'⟩:=hm.recover;subst hdk;have hfr:FrmR φ nt {env with md:=some (.panicking ((v,true)::older))} a:=⟨he.ev.same rfl rfl,he.dfs⟩;exact zD hok hw r1 hrec (ih (k+1) env1 τ _ cs' w φ (cU D σ) e env' σ' h hrest (hpost.inv hi hs1) (hfr.put hp hv) (p2▸hm') (p3.trans hrd) hk.then (hf.then hpost hs1) Q
      (fun φ'' e' a' cs' w'' h1 h2 h3 h4 h5=>hQ φ'' e' a' cs' w'' h1 h2 h3 h4 (hpost.trans h5 hs1 hs2)))
    cases h
   rename_i hmd;split at h
   ·rename_i env1 hp;obtain⟨p1,p2,p3⟩:=fp hp;have hs2:=hgo2 _ h;obtain⟨r1,hpost⟩:=yN (P:=P) hi he.ev hr (hk.mono hs2) (hf.mono hs2);exact o7 hok hw r1 (hm.norecover fun v older=>hmd v older) (ih (k+1) env1 τ _ cs w φ (cU D σ) e env' σ' h hrest (hpost.inv hi hs1) (he.put hp .nili) (p2▸hm) (p3.trans hrd) hk.then (hf.then hpost hs1) Q
     (fun φ'' e' a' cs' w'' h1 h2 h3 h4 h5=>hQ φ'' e' a' cs' w'' h1 h2 h3 h4 (hpost.trans h5 hs1 hs2)))
   cases h
  {rename_i f args τ hr;have hs1:StepA σ τ:=hsteps τ (by rw[hr];rfl);split at h;{rename_i v υ hcall;have hs2:StepA τ υ:=hcs f args τ υ (by rw[hcall];rfl);obtain⟨hs3,hgo⟩:=hgo v υ (hs1.trans hs2) h;exact(uM hc hi he.ev hok hw hr).1 v υ hcall hs2 (hk.mono hs3) (hf.mono hs3) hgo};{rename_i c υ hcall;simp only[XR.ok.injEq]at h;obtain⟨rfl,rfl,rfl⟩:=h;have hs2:StepA τ υ:=hcs f args τ υ (by rw[hcall];rfl);refine(uM hc hi he.ev hok hw hr).2 c υ hcall hs2 hk hf fun φ' c' w' hv hpost=> ?_;exact hQ φ' _ a cs w' hv (he.mono hpost.le) (hm.mono hpost.le) hrd hpost};cases h};cases h
end
end Go.Tw
namespace Go.Tw
structure Rec where
 o:Oper
 env:Env
 σ:St
 v:AV
 env':Env
 σ':St
 rd:List Nat
 wr:List Nat
 b:Bool
section
variable[Val]
variable{P:Program}{R:Nat}{C:Cfg}
def Rec.ok(P:Program)(C:Cfg)(call:Cle→List AV→St→CR)(nt:Nat)(ops:Array Oper)(r:Rec):Prop:=
 jQ C ops (r.env.only (tmpsOf ops r.o)) r.o=some r.b∧gP nt r.env r.o.dst r.v=some r.env'∧
 (r.b=false→r.v=unit∧r.σ'=r.σ∧r.rd=[]∧r.wr=[])∧
 (r.b=true→∃τ,(qi P C (r.env.only (tmpsOf ops r.o)) r.σ.bare r.o=.val r.v τ∨
   ∃f args τ₀,qi P C (r.env.only (tmpsOf ops r.o)) r.σ.bare r.o=.call f args τ₀∧call f args τ₀=.ret r.v τ∧StepA τ₀ τ)∧
   StepA r.σ.bare τ∧r.σ'=τ.join r.σ∧r.rd=τ.rd∧r.wr=τ.wr)
def Rec.idle(r:Rec):Prop:=r.b=false∧r.env'=r.env∧r.σ'=r.σ∧r.rd=[]∧r.wr=[]
def Rec.pans(P:Program)(C:Cfg)(call:Cle→List AV→St→CR)(ops:Array Oper)(chain:List (AV×Bool))(r:Rec):Prop:=
 r.b=true∧r.env'=r.env∧jQ C ops (r.env.only (tmpsOf ops r.o)) r.o=some true∧
 ∃f args τ₀ τ,qi P C (r.env.only (tmpsOf ops r.o)) r.σ.bare r.o=.call f args τ₀∧call f args τ₀=.pan chain τ∧StepA τ₀ τ∧StepA r.σ.bare τ∧
  r.σ'=τ.join r.σ∧r.rd=τ.rd∧r.wr=τ.wr
def Rec.fine(P:Program)(C:Cfg)(call:Cle→List AV→St→CR)(nt:Nat)(ops:Array Oper)(r:Rec):Prop:=
 r.ok P C call nt ops∨r.idle∨∃chain,r.pans P C call ops chain
noncomputable def Rec.foot(ops:Array Oper)(i:Nat)(r:Rec):Foot:=
 {i:=i,rd:=r.rd,wr:=r.wr,lo:=r.σ.next,hi:=r.σ'.next,o:=r.o,env:=r.env.only (tmpsOf ops r.o),v:=r.v,pre:=r.σ,post:=r.σ'}
def Linked:List Rec→Env→St→Env→St→Prop
 |[],env,σ,env',σ'=>env=env'∧σ=σ'
 |r::rs,env,σ,env',σ'=>r.env=env∧r.σ=σ∧Linked rs r.env' r.σ' env' σ'
omit [Val]in
theorem um{call:Cle→List AV→St→CR}{bef:Array Nat}{ip:Nat}{chain:List (AV×Bool)}{nt:Nat}{ops:Array Oper}:
 ∀(l:List Oper) (i:Nat) (fs:List Foot) (env:Env) (σ:St) (ip':Nat) (chain':List (AV×Bool)) (fs':List Foot) (env':Env) (σ':St),
  dK P C bef ip chain nt ops l i fs env σ=.pan ip' chain' fs' env' σ'→
  ip'=ip∧chain'=chain∧∃recs:List Rec,recs.map (·.o)=l∧Linked recs env σ env' σ'∧
   (∀(j:Nat) (r:Rec),recs[j]? =some r→r.ok P C call nt ops∨(r.idle∧(bef.getD (i+j) 0).testBit ip=true))∧(∀x∈fs,x∈fs')∧
   (∀(j:Nat) (r:Rec),recs[j]? =some r→r.b=true→r.foot ops (i+j)∈fs'):=by
 intro l
 induction l with
 |nil=>intro i fs env σ ip' chain' fs' env' σ' h;simp only[dK,DrawR.pan.injEq]at h;obtain⟨rfl,rfl,rfl,rfl,rfl⟩:=h;exact⟨rfl,rfl,[],rfl,⟨rfl,rfl⟩,by simp,fun _ h=>h,by simp⟩
 |cons o rest ih=>
  intro i fs env σ ip' chain' fs' env' σ' h;unfold dK at h;rw[ai]at h;split at h
  ·rename_i hb;obtain⟨k1,k2,recs,h1,h2,h3,h4,h5⟩:=ih _ _ _ _ _ _ _ _ _ h;refine⟨k1,k2,⟨o,env,σ,unit,env,σ,[],[],false⟩::recs,by simp [h1],⟨rfl,rfl,h2⟩,?_,h4,?_⟩
   ·intro j r hj;cases j with
    |zero=>simp at hj;subst hj;exact .inr ⟨⟨rfl,rfl,rfl,rfl,rfl⟩,hb⟩
    |succ j=>have:=h3 j r (by simpa using hj);rwa[show i+1+j=i+(j+1) by omega]at this
   intro j r hj hb;cases j with
   |zero=>simp at hj;subst hj;cases hb
   |succ j=>have:=h5 j r (by simpa using hj) hb;rwa[show i+1+j=i+(j+1) by omega]at this
  dsimp only at h;split at h;·cases h
  ·rename_i hw;split at h
   ·rename_i env1 hp;obtain⟨k1,k2,recs,h1,h2,h3,h4,h5⟩:=ih _ _ _ _ _ _ _ _ _ h;refine⟨k1,k2,⟨o,env,σ,unit,env1,σ,[],[],false⟩::recs,by simp [h1],⟨rfl,rfl,h2⟩,?_,h4,?_⟩
    ·intro j r hj;cases j with
     |zero=>simp at hj;subst hj;exact .inl ⟨hw,hp,fun _=>⟨rfl,rfl,rfl,rfl⟩,fun h=>(by cases h)⟩
     |succ j=>have:=h3 j r (by simpa using hj);rwa[show i+1+j=i+(j+1) by omega]at this
    intro j r hj hb;cases j with
    |zero=>simp at hj;subst hj;cases hb
    |succ j=>have:=h5 j r (by simpa using hj) hb;rwa[show i+1+j=i+(j+1) by omega]at this
   cases h
  rename_i hw;have hop:=dM (P:=P) (C:=C) (env:=env.only (tmpsOf ops o)) (σ:=σ.bare) (o:=o);split at h
  ·rename_i v τ hr;have hs:StepA σ.bare τ:=hop τ (by rw[hr];rfl);split at h
   ·rename_i env1 hp;obtain⟨k1,k2,recs,h1,h2,h3,h4,h5⟩:=ih _ _ _ _ _ _ _ _ _ h;refine⟨k1,k2,⟨o,env,σ,v,env1,τ.join σ,τ.rd,τ.wr,true⟩::recs,by simp [h1],⟨rfl,rfl,h2⟩,?_,fun x hx=>h4 x (by simp [hx]),?_⟩
    ·intro j r hj;cases j with
     |zero=>simp at hj;subst hj;exact .inl ⟨hw,hp,fun h=>(by cases h),fun _=>⟨τ,.inl hr,hs,rfl,rfl,rfl⟩⟩
     |succ j=>have:=h3 j r (by simpa using hj);rwa[show i+1+j=i+(j+1) by omega]at this
    intro j r hj hb;cases j with
    |zero=>simp at hj;subst hj;exact h4 _ (by simp [St.join,Rec.foot])
    |succ j=>have:=h5 j r (by simpa using hj) hb;rwa[show i+1+j=i+(j+1) by omega]at this
   cases h
  cases h
omit [Val]in
theorem zd{bef:Array Nat}{ip:Nat}{chain:List (AV×Bool)}{nt:Nat}{ops:Array Oper}:
 ∀(l:List Oper) (i:Nat) (fs:List Foot) (env:Env) (σ:St) (fs':List Foot) (env':Env) (σ':St),dK P C bef ip chain nt ops l i fs env σ≠.ok fs' env' σ':=by
 intro l
 induction l with
 |nil=>intro i fs env σ fs' env' σ' h;cases h
 |cons o rest ih=>intro i fs env σ fs' env' σ' h;unfold dK at h;rw[ai]at h;split at h;{exact ih _ _ _ _ _ _ _ h};dsimp only at h;split at h;{cases h};{split at h;{exact ih _ _ _ _ _ _ _ h};cases h};split at h;{split at h;{exact ih _ _ _ _ _ _ _ h};cases h};cases h
def Drawn(P:Program)(C:Cfg)(call:Cle→List AV→St→CR)(bef:Array Nat)(nt:Nat)(ops:Array Oper)(i:Nat)(recs:List Rec)(d:DrawR):Prop:=
 match d with
 | .ok _ _ _=>∀(j:Nat) (r:Rec),recs[j]? =some r→r.ok P C call nt ops
 | .pan ip chain _ _ _=>i≤ip∧(∃r:Rec,recs[ip - i]? =some r∧r.pans P C call ops chain)∧
  ∀(j:Nat) (r:Rec),recs[j]? =some r→i+j≠ip→r.ok P C call nt ops∨(r.idle∧(bef.getD (i+j) 0).testBit ip=true)
 | .no=>False
def DrawR.fs:DrawR→List Foot
 | .ok fs _ _=>fs
 | .pan _ _ fs _ _=>fs
 | .no=>[]
def DrawR.env:DrawR→Env
 | .ok _ env _=>env
 | .pan _ _ _ env _=>env
 | .no=>{tm:=.leaf,ds:=[],md:=none,rd:=false}
omit [Val]in
theorem Drawn.cons{call:Cle→List AV→St→CR}{bef:Array Nat}{nt:Nat}{ops:Array Oper}{i:Nat}{recs:List Rec}{d:DrawR}{r:Rec}(h:Drawn P C call bef nt ops (i+1) recs d)
 (hr:r.ok P C call nt ops):Drawn P C call bef nt ops i (r::recs) d:=by
 cases d with
 |ok fs env σ=>
  intro j s hj;cases j with
  |zero=>simp at hj;subst hj;exact hr
  |succ j=>exact h j s (by simpa using hj)
 |pan ip chain fs env σ=>
  obtain⟨h1,⟨s,h2,h3⟩,h4⟩:=h;refine⟨by omega,⟨s,by rw[show ip - i=(ip - (i+1))+1 by omega];simpa using h2,h3⟩,fun j t hj hne=> ?_⟩;cases j with
  |zero=>simp at hj;subst hj;exact .inl hr
  |succ j=>have:=h4 j t (by simpa using hj) (by omega);rwa[show i+1+j=i+(j+1) by omega]at this
 |no=>exact h.elim
omit [Val]in
theorem wG{bef:Array Nat}{call:Cle→List AV→St→CR}(hcs:cB call){nt:Nat}{ops:Array Oper}:
 ∀(l:List Oper) (i:Nat) (fs:List Foot) (env:Env) (σ σ':St) (d:DrawR),eY P C bef call nt ops l i fs env σ=d→d.st=some σ'→
  ∃recs:List Rec,recs.map (·.o)=l∧Linked recs env σ d.env σ'∧Drawn P C call bef nt ops i recs d∧(∀x∈fs,x∈d.fs)∧
   (∀(j:Nat) (r:Rec),recs[j]? =some r→r.b=true→r.foot ops (i+j)∈d.fs):=by
 intro l
 induction l with
 |nil=>intro i fs env σ σ' d hd h;simp only[eY]at hd;subst hd;simp only[DrawR.st,aw]at h;subst h;exact⟨[],rfl,⟨rfl,rfl⟩,fun j r hj=>by simp at hj,fun _ h=>h,by simp⟩
 |cons o rest ih=>
  intro i fs env σ σ' d hd h;unfold eY at hd;dsimp only at hd;split at hd;·subst hd;cases h
  ·rename_i hw;split at hd
   ·rename_i env1 hp;obtain⟨recs,h1,h2,h3,h4,h5⟩:=ih _ _ _ _ _ _ hd h;refine⟨⟨o,env,σ,unit,env1,σ,[],[],false⟩::recs,by simp [h1],⟨rfl,rfl,h2⟩,h3.cons ⟨hw,hp,fun _=>⟨rfl,rfl,rfl,rfl⟩,fun h=>(by cases h)⟩,h4,?_⟩;intro j r hj hb;cases j with
    |zero=>simp at hj;subst hj;cases hb
    |succ j=>have:=h5 j r (by simpa using hj) hb;rwa[show i+1+j=i+(j+1) by omega]at this
   subst hd;cases h
  rename_i hw;have hop:=dM (P:=P) (C:=C) (env:=env.only (tmpsOf ops o)) (σ:=σ.bare) (o:=o);have hgo:∀(v:AV) (τ:St) (env1:Env),(qi P C (env.only (tmpsOf ops o)) σ.bare o=.val v τ∨
   ∃f args τ₀,qi P C (env.only (tmpsOf ops o)) σ.bare o=.call f args τ₀∧call f args τ₀=.ret v τ∧StepA τ₀ τ)→StepA σ.bare τ→gP nt env o.dst v=some env1→
   eY P C bef call nt ops rest (i+1) ({i:=i,rd:=τ.rd,wr:=τ.wr,lo:=σ.next,hi:=τ.next,o:=o,env:=env.only (tmpsOf ops o),v:=v,pre:=σ,post:=τ.join σ}::fs) env1 (τ.join σ)=d→
   ∃recs:List Rec,recs.map (·.o)=o::rest∧Linked recs env σ d.env σ'∧Drawn P C call bef nt ops i recs d∧(∀x∈fs,x∈d.fs)∧
    (∀(j:Nat) (r:Rec),recs[j]? =some r→r.b=true→r.foot ops (i+j)∈d.fs):=by
   intro v τ env1 hr hs hp hd;obtain⟨recs,h1,h2,h3,h4,h5⟩:=ih _ _ _ _ _ _ hd h;refine⟨⟨o,env,σ,v,env1,τ.join σ,τ.rd,τ.wr,true⟩::recs,by simp [h1],⟨rfl,rfl,h2⟩,h3.cons ⟨hw,hp,fun h=>(by cases h),fun _=>⟨τ,hr,hs,rfl,rfl,rfl⟩⟩,fun x hx=>h4 x (by simp [hx]),?_⟩;intro j r hj hb;cases j with
   |zero=>simp at hj;subst hj;exact h4 _ (by simp [St.join,Rec.foot])
   |succ j=>have:=h5 j r (by simpa using hj) hb;rwa[show i+1+j=i+(j+1) by omega]at this
  split at hd;{rename_i v τ hr;split at hd;{rename_i env1 hp;exact hgo v τ env1 (.inl hr) (hop τ (by rw[hr];rfl)) hp hd};subst hd;cases h};{subst hd;cases h};{subst hd;cases h};·subst hd;cases h
  ·rename_i f args τ₀ hr;split at hd;·rename_i v τ hcall;have hs2:StepA τ₀ τ:=hcs f args τ₀ τ (by rw[hcall];rfl);split at hd;{rename_i env1 hp;exact hgo v τ env1 (.inr ⟨f,args,τ₀,hr,hcall,hs2⟩) ((hop τ₀ (by rw[hr];rfl)).trans hs2) hp hd};subst hd;cases h
   ·rename_i chain τ hcall;have hs2:StepA τ₀ τ:=hcs f args τ₀ τ (by rw[hcall];rfl);have hs:StepA σ.bare τ:=(hop τ₀ (by rw[hr];rfl)).trans hs2;cases d with
    |ok fs' env' σ₁=>exact absurd hd (zd _ _ _ _ _ _ _ _)
    |no=>cases h
    |pan ip chain' fs' env' σ₁=>
     simp only[DrawR.st,aw]at h;subst h;obtain⟨rfl,rfl,recs,h1,h2,h3,h4,h5⟩:=um (call:=call) _ _ _ _ _ _ _ _ _ _ hd;refine⟨⟨o,env,σ,unit,env,τ.join σ,τ.rd,τ.wr,true⟩::recs,by simp [h1],⟨rfl,rfl,h2⟩,?_,fun x hx=>h4 x (by simp [hx]),?_⟩
     ·refine⟨aE _,⟨⟨o,env,σ,unit,env,τ.join σ,τ.rd,τ.wr,true⟩,by simp,rfl,rfl,hw,f,args,τ₀,τ,hr,hcall,hs2,hs,rfl,rfl,rfl⟩,fun j r hj hne=> ?_⟩;cases j with
      |zero=>exact absurd rfl hne
      |succ j=>have:=h3 j r (by simpa using hj);rwa[show ip+1+j=ip+(j+1) by omega]at this
     intro j r hj hb;cases j with
     |zero=>simp at hj;subst hj;exact h4 _ (by simp [St.join,Rec.foot])
     |succ j=>have:=h5 j r (by simpa using hj) hb;rwa[show ip+1+j=ip+(j+1) by omega]at this
   subst hd;cases h
  subst hd;cases h
def dF(recs:List Rec)(σ':St)(k:Nat):St:=match recs[k]? with
 |some r=>r.σ
 |none=>σ'
def kY(recs:List Rec)(env':Env)(k:Nat):Env:=match recs[k]? with
 |some r=>r.env
 |none=>env'
omit [Val]in
theorem Linked.post{recs:List Rec}{env env':Env}{σ σ':St}(h:Linked recs env σ env' σ'){k:Nat}{r:Rec}(hr:recs[k]? =some r):
 dF recs σ' (k+1)=r.σ'∧kY recs env' (k+1)=r.env':=by
 induction recs generalizing env σ k with
 |nil=>simp at hr
 |cons x xs ih=>
  obtain⟨h1,h2,h3⟩:=h;cases k with
  |zero=>
   simp at hr;subst hr;cases xs with
   |nil=>obtain⟨h4,h5⟩:=h3;exact⟨by simp [dF,h5],by simp [kY,h4]⟩
   |cons y ys=>obtain⟨h4,h5,_⟩:=h3;exact⟨by simp [dF,h5],by simp [kY,h4]⟩
  |succ k=>have:=ih h3 (by simpa using hr);simpa[dF,kY]using this
omit [Val]in
theorem Linked.pre{recs:List Rec}{env env':Env}{σ σ':St}(h:Linked recs env σ env' σ'):dF recs σ' 0=σ∧kY recs env' 0=env:=by
 cases recs with
 |nil=>exact⟨h.2.symm,h.1.symm⟩
 |cons x xs=>exact⟨h.2.1,h.1⟩
omit [Val]in
theorem eZ{recs:List Rec}{σ':St}{k:Nat}{r:Rec}(hr:recs[k]? =some r):dF recs σ' k=r.σ:=by simp [dF,hr]
omit [Val]in
theorem xb{recs:List Rec}{env':Env}{k:Nat}{r:Rec}(hr:recs[k]? =some r):kY recs env' k=r.env:=by simp [kY,hr]
def Rec.touch(r:Rec)(id:Nat):Prop:=id∈r.wr∨(r.σ.next≤id∧id<r.σ'.next)
omit [Val]in
theorem Rec.ok.step{call:Cle→List AV→St→CR}{nt:Nat}{ops:Array Oper}{r:Rec}(h:r.ok P C call nt ops):
 StepA r.σ r.σ'∧(∀id,id<r.σ.next→id∉r.wr→r.σ'.heap.get id=r.σ.heap.get id)∧(∀i∈r.rd,i∈r.σ'.rd)∧(∀i∈r.wr,i∈r.σ'.wr):=by
 obtain⟨_,_,h3,h4⟩:=h;cases hb:r.b with
 |false=>obtain⟨_,e1,e2,e3⟩:=h3 hb;rw[e1,e2,e3];exact⟨.refl _,fun _ _ _=>rfl,by simp,by simp⟩
 |true=>obtain⟨τ,_,hs,e1,e2,e3⟩:=h4 hb;rw[e1,e2,e3];exact⟨hs.join,fun id hid hw=>hs.keep id hid hw,fun i hi=>List.mem_append.2 (.inl hi),fun i hi=>List.mem_append.2 (.inl hi)⟩
omit [Val]in
theorem Rec.fine.step{call:Cle→List AV→St→CR}{nt:Nat}{ops:Array Oper}{r:Rec}(h:r.fine P C call nt ops):
 StepA r.σ r.σ'∧(∀id,id<r.σ.next→id∉r.wr→r.σ'.heap.get id=r.σ.heap.get id)∧(∀i∈r.rd,i∈r.σ'.rd)∧(∀i∈r.wr,i∈r.σ'.wr):=by
 rcases h with h|⟨_,_,e1,e2,e3⟩|⟨chain,_,_,_,f,args,τ₀,τ,_,_,_,hs,e1,e2,e3⟩;{exact h.step};{rw[e1,e2,e3];exact⟨.refl _,fun _ _ _=>rfl,by simp,by simp⟩};rw[e1,e2,e3];exact⟨hs.join,fun id hid hw=>hs.keep id hid hw,fun i hi=>List.mem_append.2 (.inl hi),fun i hi=>List.mem_append.2 (.inl hi)⟩
omit [Val]in
theorem Rec.fine.env{call:Cle→List AV→St→CR}{nt:Nat}{ops:Array Oper}{r:Rec}(h:r.fine P C call nt ops){t:Tmp}(ht:r.o.dst≠some t):r.env'.tm.get t=r.env.tm.get t:=by rcases h with h|⟨_,e,_⟩|⟨chain,_,e,_⟩;{have hput:=h.2.1;unfold gP at hput;split at hput;{simp only[aw]at hput;rw[←hput]};rename_i d hd;simp only[ai]at hput;split at hput;{simp only[aw]at hput;rw[←hput];exact T.get_set_ne _ _ fun h=>ht (by rw[hd,h])};cases hput};{rw[e]};rw[e]
omit [Val]in
theorem fN{call:Cle→List AV→St→CR}{nt:Nat}{ops:Array Oper}{recs:List Rec}{env env':Env}{σ σ':St}(hl:Linked recs env σ env' σ')
 (hok:∀r∈recs,r.fine P C call nt ops){i k:Nat}(hik:i≤k)(hk:k≤recs.length):
 StepA (dF recs σ' i) (dF recs σ' k)∧
 (∀id,id<(dF recs σ' i).next→(∀j r,i≤j→j<k→recs[j]? =some r→¬r.touch id)→(dF recs σ' k).heap.get id=(dF recs σ' i).heap.get id)∧
 (∀t,(∀j r,i≤j→j<k→recs[j]? =some r→r.o.dst≠some t)→(kY recs env' k).tm.get t=(kY recs env' i).tm.get t):=by
 induction k with
 |zero=>have:i=0:=(by omega);subst this;exact⟨.refl _,fun _ _ _=>rfl,fun _ _=>rfl⟩
 |succ k ih=>by_cases e:i=k+1;{subst e;exact⟨.refl _,fun _ _ _=>rfl,fun _ _=>rfl⟩};obtain⟨h1,h2,h3⟩:=ih (by omega) (by omega);have hlt:k<recs.length:=(by omega);have hr:recs[k]? =some recs[k]:=bC hlt;have hrk:=hok _ (List.getElem_mem hlt);obtain⟨s1,s2,_,_⟩:=hrk.step;obtain⟨p1,p2⟩:=hl.post hr;rw[eZ hr]at h1 h2;rw[xb hr]at h3;rw[p1,p2];refine⟨h1.trans s1,fun id hid hno=> ?_,fun t hno=> ?_⟩;{rw[s2 id (Nat.lt_of_lt_of_le hid h1.next) (fun hw=>hno k _ (by omega) (by omega) hr (.inl hw))];exact h2 id hid fun j r a b c=>hno j r a (by omega) c};rw[←h3 t fun j r a b c=>hno j r a (by omega) c];exact hrk.env (hno k _ (by omega) (by omega) hr)
end
end Go.Tw
namespace Go.Tw
section
variable[Val]
variable{P:Program}{R:Nat}{C:Cfg}
def Rec.same(P:Program)(C:Cfg)(ops:Array Oper)(r:Rec)(σ:St):Prop:=
 ∃τ,qi P C (r.env.only (tmpsOf ops r.o)) σ.bare r.o=.val r.v τ∧τ.wr=[]∧τ.next=σ.next∧∀x∈τ.rd,x∈r.rd
def Rec.floats(P:Program)(C:Cfg)(ops:Array Oper)(x y:Rec)(id:Nat):Prop:=
 y.wr=[]∧y.σ.next=y.σ'.next∧(∀a∈y.rd,a=id)∧y.same P C ops x.σ∧y.same P C ops x.σ'∧y.same P C ops y.σ
structure Region0(P:Program)(R:Nat)(C:Cfg)(call:Cle→List AV→St→CR)(nt:Nat)(ops:Array Oper)(recs:List Rec)(env env':Env)(σ σ':St)
 (D:Nat→Prop)(φ₀:PM)(w₀:World):Prop where
 link:Linked recs env σ env' σ'
 ok:∀r∈recs,r.fine P C call nt ops
 omap:recs.map (·.o)=ops.toList
 back:∀(i:Nat) (o:Oper) (e:Edge),ops[i]? =some o→e∈o.after→Region.binds .any e=true→e.on<i
 names:∀(i j:Nat) (o p:Oper) (d:Tmp),ops[i]? =some o→ops[j]? =some p→p.dst=some d→d∈tmpsOf ops o→i=j∨Path ops i j∨Path ops j i
 feet:∀(i j:Nat) (r s:Rec) (id:Nat),recs[i]? =some r→recs[j]? =some s→r.touch id→(id∈s.rd∨id∈s.wr)→i=j∨Path ops i j∨Path ops j i∨(id∈s.rd∧r.floats P C ops s id)
 inv:Inv R C D φ₀ σ w₀
 known:Known D σ σ'
theorem Region0.recOf{call:Cle→List AV→St→CR}{nt:Nat}{ops:Array Oper}{recs:List Rec}{env env':Env}{σ σ':St}{D:Nat→Prop}{φ₀:PM}{w₀:World}
 (h:Region0 P R C call nt ops recs env env' σ σ' D φ₀ w₀){i:Nat}{o:Oper}(ho:ops[i]? =some o):∃r,recs[i]? =some r∧r.o=o:=by
 have h1:(recs.map (·.o))[i]? =some o:=by rw[h.omap];simpa using ho
 rw[List.getElem?_map]at h1;cases hr:recs[i]? with
 |none=>rw[hr]at h1;cases h1
 |some r=>rw[hr]at h1;simp at h1;exact⟨r,rfl,h1⟩
theorem Region0.op{call:Cle→List AV→St→CR}{nt:Nat}{ops:Array Oper}{recs:List Rec}{env env':Env}{σ σ':St}{D:Nat→Prop}{φ₀:PM}{w₀:World}
 (h:Region0 P R C call nt ops recs env env' σ σ' D φ₀ w₀){i:Nat}{r:Rec}(hr:recs[i]? =some r):ops[i]? =some r.o:=by
 have h1:(recs.map (·.o))[i]? =some r.o:=by rw[List.getElem?_map,hr];rfl
 rw[h.omap]at h1;simpa using h1
theorem Region0.len{call:Cle→List AV→St→CR}{nt:Nat}{ops:Array Oper}{recs:List Rec}{env env':Env}{σ σ':St}{D:Nat→Prop}{φ₀:PM}{w₀:World}
 (h:Region0 P R C call nt ops recs env env' σ σ' D φ₀ w₀):recs.length=ops.size:=by
 have:=congrArg List.length h.omap;simpa using this
structure Stage(R:Nat)(C:Cfg)(nt:Nat)(ds0:List Deferred)(ops:Array Oper)(recs:List Rec)(env':Env)(σ σ':St)(D:Nat→Prop)(φ₀:PM)(w₀:World)
 (listed:Array Bool)(a:Act)(w:World)(φ:PM):Prop where
 sz:listed.size=ops.size
 cl:Closed ops listed
 wf:WF R φ w
 dfr:a.defers=ds0
 tsz:a.tmps.size=nt
 tmp:∀t k,k≤recs.length→(∀j r,recs[j]? =some r→r.o.dst=some t→(listed.getD j false=true↔j<k))→
  ∀v,(kY recs env' k).tm.get t=some v→∃v',a.tmps[t]? =some v'∧VR φ v v'
 rep:∀id k,k≤recs.length→id<(dF recs σ' k).next→(∀j r,recs[j]? =some r→r.touch id→(listed.getD j false=true↔j<k))→(D id∨σ.next≤id)→
  Rep R φ w id ((dF recs σ' k).heap.get id)
 fresh:∀j r,recs[j]? =some r→listed.getD j false=false→∀id,r.σ.next≤id→id<r.σ'.next→∀v,φ id v=none
 le:φ₀.le φ
 grow:∀i,(i∉σ'.wr∨σ'.next≤i)→¬(σ.next≤i∧i<σ'.next)→∀v,φ i v=φ₀ i v
 blk:∀i v e,φ i v=some e→(∃u f,φ₀ i u=some f∧f.blk=e.blk)∨w₀.heap.size≤e.blk
 frm:Frm φ₀ σ'.wr w₀ w
 wrR:∀j r,recs[j]? =some r→listed.getD j false=true→∀x∈r.wr,R≤x
 ro:∀i,i<R→Rep R (φ.low R) w i (C.base i)
variable{call:Cle→List AV→St→CR}{nt:Nat}{ops:Array Oper}{recs:List Rec}{env env':Env}{σ σ':St}{D:Nat→Prop}{φ₀:PM}{w₀:World}
omit [Val]in
theorem tz{listed:Array Bool}{i:Nat}(hi:i<listed.size)(j:Nat):(listed.setIfInBounds i true).getD j false=if j=i then true else listed.getD j false:=by simp only[Array.getD_eq_getD_getElem?];by_cases e:j=i;{subst e;simp [hi]};rw[Array.getElem?_setIfInBounds_ne (Ne.symm e),if_neg e]
theorem Region0.back'(h:Region0 P R C call nt ops recs env env' σ σ' D φ₀ w₀){x y:Nat}(p:Path ops x y):y<x:=by
 induction p with
 |one ho he hb=>exact h.back _ _ _ ho he hb
 |step ho he hb _ ih=>exact Nat.lt_trans ih (h.back _ _ _ ho he hb)
theorem Region0.touches(h:Region0 P R C call nt ops recs env env' σ σ' D φ₀ w₀){i j:Nat}{r s:Rec}(hr:recs[i]? =some r)(hj:recs[j]? =some s){id:Nat}(ht:r.touch id)(hts:s.touch id)
 (hne:j≠i):Path ops i j∨Path ops j i:=by
 have hlen:∀{k:Nat} {x:Rec},recs[k]? =some x→k<recs.length:=by intro k x hk;rcases aS k recs.length with h'|h';{exact h'};simp [bZ h']at hk
 have hmono:=fun{x k:Nat} (hxk:x≤k) (hk:k≤recs.length)=>fN h.link h.ok hxk hk;rcases hts with hw|hcr;{rcases h.feet i j r s id hr hj ht (.inr hw)with e|hpp|hpp|⟨_,hf⟩;{exact absurd e.symm hne};{exact .inl hpp};{exact .inr hpp};rw[hf.1]at hw;cases hw};rcases ht with hw|hcr2;{rcases h.feet j i s r id hj hr (.inr hcr) (.inr hw)with e|hpp|hpp|⟨_,hf⟩;{exact absurd e hne};{exact .inr hpp};{exact .inl hpp};rw[hf.1]at hw;cases hw};exfalso;rcases Nat.lt_or_gt_of_ne hne with hlt|hgt;{have:=(hmono (show j+1≤i by omega) (Nat.le_of_lt (hlen hr))).1.next;rw[(h.link.post hj).1,eZ hr]at this;omega};have:=(hmono (show i+1≤j by omega) (Nat.le_of_lt (hlen hj))).1.next;rw[(h.link.post hr).1,eZ hj]at this;omega
omit [Val]in
theorem Cw(recs:List Rec)(id i:Nat):∀k,(∀(j:Nat) (s:Rec),i≤j→j<k→recs[j]? =some s→¬s.touch id)∨
 ∃(m:Nat) (s:Rec),i≤m∧m<k∧recs[m]? =some s∧s.touch id∧∀(j:Nat) (t:Rec),m<j→j<k→recs[j]? =some t→¬t.touch id:=by
 intro k
 induction k with
 |zero=>exact .inl fun j s _ h=>absurd h (Nat.not_lt_zero _)
 |succ k ih=>by_cases hk:i≤k∧∃s,recs[k]? =some s∧s.touch id;{obtain⟨h1,s,h2,h3⟩:=hk;exact .inr ⟨k,s,h1,Nat.lt_succ_self k,h2,h3,fun j t a b=>by omega⟩};rcases ih with ih|⟨m,s,h1,h2,h3,h4,h5⟩;{refine .inl fun j s a b c d=> ?_;by_cases e:j=k;{subst e;exact hk ⟨a,s,c,d⟩};exact ih j s a (by omega) c d};refine .inr ⟨m,s,h1,by omega,h3,h4,fun j t a b c d=> ?_⟩;by_cases e:j=k;{subst e;exact hk ⟨by omega,t,c,d⟩};exact h5 j t a (by omega) c d
theorem rQ{ro:Option Nat}{ds0:List Deferred}(hc:fY P R C call)(_hcs:cB call)(h:Region0 P R C call nt ops recs env env' σ σ' D φ₀ w₀){listed:Array Bool}{a:Act}{w:World}{φ:PM}
 (hs:Stage R C nt ds0 ops recs env' σ σ' D φ₀ w₀ listed a w φ){i:Nat}{r:Rec}(hr:recs[i]? =some r)(hrk:r.ok P C call nt ops)(hni:listed.getD i false=false)
 (hpre:∀e∈r.o.after,Region.binds .any e=true→listed.getD e.on false=true){K:Act→World→Prop}{Q:Exit→Act→World→Prop}
 (hK:∀φ' a' w',Stage R C nt ds0 ops recs env' σ σ' D φ₀ w₀ (listed.setIfInBounds i true) a' w' φ'→K a' w'):wpOpIn (gC ro) 0 P ops Q i K a w:=by
 have hop:=h.op hr;have hlen:=h.len;have hilt:i<recs.length:=by rcases aS i recs.length with h'|h';{exact h'};simp [bZ h']at hr
 have hils:i<listed.size:=by rw[hs.sz,←hlen];exact hilt
 obtain⟨hst,hst2,hst3,hst4⟩:=hrk.step;obtain⟨hpostS,hpostE⟩:=h.link.post hr;have hpS:dF recs σ' i=r.σ:=eZ hr;have hpE:kY recs env' i=r.env:=xb hr
 -- what comes before has been done;what comes behind has not
 have hbef:∀j,Path ops i j→listed.getD j false=true:=by
  intro j p;cases p with
  |one ho he hb=>rw[hop]at ho;cases ho;exact hpre _ he hb
  |step ho he hb p=>rw[hop]at ho;cases ho;exact hs.cl.path p (hpre _ he hb)
 have hback:∀{x y:Nat},Path ops x y→y<x:=by
  intro x y p
  induction p with
  |one ho he hb=>exact h.back _ _ _ ho he hb
  |step ho he hb _ ih=>exact Nat.lt_trans ih (h.back _ _ _ ho he hb)
 have hbehind:∀j,Path ops j i→listed.getD j false=false:=by
  intro j p;cases hj:listed.getD j false with
  |false=>rfl
  |true=>have:=hs.cl.path p hj;rw[hni]at this;cases this
 have hord:∀j,j≠i→(Path ops i j∨Path ops j i)→(listed.getD j false=true↔j<i):=by intro j _ hp;rcases hp with hp|hp;{exact⟨fun _=>hback hp,fun _=>hbef j hp⟩};exact⟨fun hx=>(by rw[hbehind j hp]at hx;cases hx),fun hx=>absurd (hback hp) (by omega)⟩
 have hself:(listed.getD i false=true↔i<i):=by rw[hni];exact⟨fun h=>(by cases h),fun h=>absurd h (Nat.lt_irrefl _)⟩
 have hl':∀j,(listed.setIfInBounds i true).getD j false=if j=i then true else listed.getD j false:=tz hils
 have hcl':Closed ops (listed.setIfInBounds i true):=by intro j o hj ho e he hb;rw[hl']at hj⊢;split;{rfl};split at hj;{rename_i e1;subst e1;rw[hop]at ho;cases ho;exact hpre e he hb};exact hs.cl j o hj ho e he hb
 -- the temporaries that the operation names
 have hnames:∀t∈tmpsOf ops r.o,∀j s,recs[j]? =some s→s.o.dst=some t→(listed.getD j false=true↔j<i):=by intro t ht j s hj hd;rcases h.names i j r.o s.o t hop (h.op hj) hd ht with e|hp;{subst e;exact hself};by_cases e:j=i;{subst e;exact hself};exact hord j e hp
 have hE:EnvR φ nt (r.env.only (tmpsOf ops r.o)) a:=⟨hs.tsz,fun t v hv=>by obtain⟨h1,h2⟩:=vn hv;exact hs.tmp t i (Nat.le_of_lt hilt) (hnames t h1) v (by rw[hpE];exact h2)⟩
 -- two operations that write one temporary
 have hwr2:∀t,r.o.dst=some t→∀j s,recs[j]? =some s→s.o.dst=some t→j=i∨(listed.getD j false=true↔j<i):=by intro t ht j s hj hd;exact .inr (hnames t (by simp [tmpsOf,ht]) j s hj hd)
 have hmono:=fun{x k:Nat} (hxk:x≤k) (hk:k≤recs.length)=>fN h.link h.ok hxk hk
 -- behind the operation:the temporaries
 have htmp:∀(φ':PM) (v':Value),φ.le φ'→VR φ' r.v v'→∀t k,k≤recs.length→
  (∀j s,recs[j]? =some s→s.o.dst=some t→((listed.setIfInBounds i true).getD j false=true↔j<k))→
  ∀v,(kY recs env' k).tm.get t=some v→∃u,(a.put r.o.dst v').tmps[t]? =some u∧VR φ' v u:=by
  intro φ' v' hle hv t k hk hcond v aj;by_cases hd:r.o.dst=some t
  ·have hik:i<k:=(hcond i r hr hd).1 (by rw[hl',if_pos rfl]);have hno:∀j s,i+1≤j→j<k→recs[j]? =some s→s.o.dst≠some t:=by
    intro j s h1 h2 hj hds;have h3:=(hcond j s hj hds).2 h2;rw[hl',if_neg (by omega)]at h3;have h4:=(hnames t (by simp [tmpsOf,hd]) j s hj hds).1 h3;omega
   have:=(hmono (show i+1≤k by omega) hk).2.2 t hno;rw[this,hpostE]at aj;have hput:=hrk.2.1;unfold gP at hput;rw[hd]at hput;simp only[ai]at hput;split at hput;{rename_i hb;have hb:=aR hb;simp only[aw]at hput;rw[←hput]at aj;rw[T.get_set_same]at aj;cases aj;exact⟨v',by rw[hd];simp [Act.put,hs.tsz,hb],hv⟩};cases hput
  have hcond':∀j s,recs[j]? =some s→s.o.dst=some t→(listed.getD j false=true↔j<k):=(by intro j s hj hds;have h1:=hcond j s hj hds;have hne:j≠i:=(by intro e;subst e;rw[hr]at hj;cases hj;exact hd hds);rwa[hl',if_neg hne]at h1);obtain⟨u,u1,u2⟩:=hs.tmp t k hk hcond' v aj;refine⟨u,?_,u2.mono hle⟩;cases hdd:r.o.dst with
  |none=>exact u1
  |some d=>have:d≠t:=fun e=>hd (by rw[hdd,e]);simp only[Act.put];rw[Array.getElem?_setIfInBounds_ne this];exact u1
 unfold wpOpIn;rw[hop];dsimp only;rw[jP h.inv.pin h.inv.dec hE hrk.1];have hσ'le:r.σ'.next≤σ'.next:=by have:=(hmono (show i+1≤recs.length by omega) (aE _)).1.next;rw[hpostS]at this;have e:dF recs σ' recs.length=σ':=(by simp [dF]);rwa[e]at this
 have hσle:σ.next≤r.σ.next:=by have:=(hmono (bP i) (Nat.le_of_lt hilt)).1.next;rw[h.link.pre.1,hpS]at this;exact this
 cases hb:r.b with
 |false=>
  simp only[bY,if_false];obtain⟨e1,e2,e3,e4⟩:=hrk.2.2.1 hb;refine⟨fun _ _=>trivial,hK φ _ w {hs with
   sz:=by simpa using hs.sz
   cl:=hcl'
   dfr:=put_defers.trans hs.dfr
   tsz:=by cases r.o.dst<;>simp [Act.put,hs.tsz]
   tmp:=htmp φ undef φ.le_refl (by rw[e1];exact mw φ)
   rep:= ?_
   fresh:= ?_
   wrR:= ?_}⟩
  rotate_right
  ·intro j s hj hls x hx;rw[hl']at hls;split at hls;{rename_i e;subst e;rw[hr]at hj;cases hj;rw[e4]at hx;cases hx};exact hs.wrR j s hj hls x hx
  ·intro id k hk hid hcond hD;refine hs.rep id k hk hid (fun j s hj ht=> ?_) hD;have h1:=hcond j s hj ht;have hne:j≠i:=by
    intro e;subst e;rw[hr]at hj;cases hj;rcases ht with ht|ht;{rw[e4]at ht;cases ht};rw[e2]at ht;omega
   rwa[hl',if_neg hne]at h1
  intro j s hj hnl;rw[hl']at hnl;split at hnl;{cases hnl};exact hs.fresh j s hj hnl
 |true=>
  simp only[if_true];obtain⟨τ,hrun,hsτ,e1,e2,e3⟩:=hrk.2.2.2 hb;have hτn:τ.next=r.σ'.next:=(by rw[e1];rfl);have hτh:τ.heap=r.σ'.heap:=(by rw[e1];rfl);have hDk:∀id,(id∈r.rd∨id∈r.wr)→D id∨σ.next≤id:=by intro id hid;by_cases hn:id<σ.next;{left;refine h.known id ?_ hn;have hm:=(hmono (show i+1≤recs.length by omega) (aE _)).1;rw[hpostS,show dF recs σ' recs.length=σ' by simp [dF]]at hm;exact hid.imp (fun hx=>hm.rd _ (hst3 _ hx)) (fun hx=>hm.wr _ (hst4 _ hx))};exact .inr (Nat.le_of_not_lt hn)
  -- an operation that only reads one object,which others change that may be done before it or behind it
  by_cases hF:∃id,id∈r.rd∧r.wr=[]∧r.σ.next=r.σ'.next∧(∀a∈r.rd,a=id)∧∃(j:Nat) (s:Rec),recs[j]? =some s∧s.touch id∧¬(listed.getD j false=true↔j<i)
  ·obtain⟨id,hidr,hwr0,hnx0,hone,jf,sf,hjf,htf,hnf⟩:=hF;have hnt:∀x,¬r.touch x:=by
    intro x hx;rcases hx with hx|hx;{rw[hwr0]at hx;cases hx};omega
   have hlt':∀{k:Nat} {x:Rec},recs[k]? =some x→k<recs.length:=by intro k x hk;rcases aS k recs.length with h'|h';{exact h'};simp [bZ h']at hk
   -- those that touch it and are not ordered with this one
   have hun:∀(j:Nat) (s:Rec),recs[j]? =some s→s.touch id→¬Path ops j i→¬Path ops i j→r.same P C ops s.σ∧r.same P C ops s.σ':=(by intro j s hj ht n1 n2;rcases h.feet j i s r id hj hr ht (.inl hidr)with e|e|e|⟨_,hf⟩;{subst e;rw[hr]at hj;cases hj;exact absurd ht (hnt id)};{exact absurd e n1};{exact absurd e n2};exact⟨hf.2.2.2.1,hf.2.2.2.2.1⟩);have hfind:∃k,k≤recs.length∧(∀(j:Nat) (s:Rec),recs[j]? =some s→s.touch id→(listed.getD j false=true↔j<k))∧
    (k<recs.length→∃s,recs[k]? =some s∧s.touch id∧listed.getD k false=false):=by
    by_cases hall:∃k,∃s,recs[k]? =some s∧s.touch id∧listed.getD k false=false
    ·have hmin:∃k,(∃s,recs[k]? =some s∧s.touch id∧listed.getD k false=false)∧∀j,j<k→¬∃s,recs[j]? =some s∧s.touch id∧listed.getD j false=false:=by
      obtain⟨k0,hk0⟩:=hall
      induction k0 using Nat.strongRecOn with
      |_ k0 ih=>by_cases hex:∃j,j<k0∧∃s,recs[j]? =some s∧s.touch id∧listed.getD j false=false;{obtain⟨j,hj,hjs⟩:=hex;exact ih j hj hjs};exact⟨k0,hk0,fun j hj hjs=>hex ⟨j,hj,hjs⟩⟩
     obtain⟨k,⟨sk,hk1,hk2,hk3⟩,hk4⟩:=hmin;refine⟨k,Nat.le_of_lt (hlt' hk1),fun j s hj ht=>⟨fun hl=> ?_,fun hl=> ?_⟩,fun _=>⟨sk,hk1,hk2,hk3⟩⟩;{rcases aS j k with h'|h';{exact h'};exfalso;have hne:j≠k:=fun e=>(by subst e;rw[hk3]at hl;cases hl);rcases h.touches hk1 hj hk2 ht hne with p|p;{have:=h.back' p;omega};have:=hs.cl.path p hl;rw[hk3]at this;cases this};cases hlj:listed.getD j false with
     |true=>rfl
     |false=>exact absurd ⟨s,hj,ht,hlj⟩ (hk4 j hl)
    refine⟨recs.length,aE _,fun j s hj ht=>⟨fun _=>hlt' hj,fun _=> ?_⟩,fun hx=>absurd hx (Nat.lt_irrefl _)⟩;cases hlj:listed.getD j false with
    |true=>rfl
    |false=>exact absurd ⟨j,s,hj,ht,hlj⟩ hall
   obtain⟨k,hk1,hk2,hk3⟩:=hfind
   -- a state in which the object lies so,and from which the operation tells the same
   have hstate:∃k',k'≤recs.length∧(∀(j:Nat) (s:Rec),recs[j]? =some s→s.touch id→(listed.getD j false=true↔j<k'))∧r.same P C ops (dF recs σ' k'):=(by rcases aS i k with hik|hik;{rcases Cw recs id i k with hno|⟨m,sm,m1,m2,m3,m4,m5⟩;{exfalso;apply hnf;rw[hk2 jf sf hjf htf];constructor;{intro hlt;rcases aS jf i with h'|h';{exact h'};exact absurd htf (hno jf sf h' hlt hjf)};intro hlt;omega};have hml:listed.getD m false=true:=(hk2 m sm m3 m4).2 m2;have hmi:m≠i:=fun e=>(by subst e;rw[hr]at m3;cases m3;exact hnt id m4);have n1:¬Path ops m i:=fun p=>(by have:=hbehind m p;rw[hml]at this;cases this);have n2:¬Path ops i m:=fun p=>(by have:=hback p;omega);refine⟨m+1,by have:=hlt' m3;omega,fun j s hj ht=> ?_,by rw[(h.link.post m3).1];exact(hun m sm m3 m4 n1 n2).2⟩;rw[hk2 j s hj ht];constructor;{intro hlt;rcases aS m j with h'|h';{exact absurd ht (m5 j s h' hlt hj)};omega};intro hlt;omega};obtain⟨sk,g1,g2,g3⟩:=hk3 (by omega);have hki:k≠i:=fun e=>(by subst e;rw[hr]at g1;cases g1;exact hnt id g2);have n1:¬Path ops k i:=fun p=>(by have:=hback p;omega);have n2:¬Path ops i k:=fun p=>(by have:=hbef k p;rw[g3]at this;cases this);exact⟨k,hk1,hk2,by rw[eZ g1];exact(hun k sk g1 g2 n1 n2).1⟩);obtain⟨k',q1,q2,τs,q3,q4,q5,q6⟩:=hstate;have hbase:=(hmono (bP k') q1).1;rw[h.link.pre.1]at hbase;have hinv:Inv R C (fun x=>x=id) φ (dF recs σ' k').bare w:={
    wf:=hs.wf
    low:=Nat.le_trans h.inv.low hbase.next
    rep:=fun x hx hlt=>by subst hx;exact hs.rep x k' q1 hlt q2 (hDk x (.inl hidr))
    gl:=fun g n hg=>let⟨e,he,hx⟩:=h.inv.gl g n hg;⟨e,hs.le _ _ _ he,hx⟩
    dom:=hbase.dom h.inv.dom
    pin:=h.inv.pin
    dec:=h.inv.dec
    wrR:=fun i hi=>by cases hi
    ro:=hs.ro,oh:=h.inv.oh}
   have hsτs:StepA (dF recs σ' k').bare τs:=dM (P:=P) (C:=C) τs (by rw[q3];rfl);have hgrl:∀{φ':PM} {w':World},Post R (fun x=>x=id) φ (dF recs σ' k').bare w τs φ' w'→∀x v,φ' x v=φ x v:=(by intro φ' w' hp x v;refine hp.grow x (.inl (by rw[q4];simp)) (fun hc=> ?_) v;have h2:x<τs.next:=hc.2;rw[q5]at h2;have h1:(dF recs σ' k').next≤x:=hc.1;omega);refine J4 hinv hE q3 (fun x hx _=> ?_) (fun x h1 h2 v=> ?_) fun φ' v' w' hv hp=>hK φ' _ w' {
    sz:=by simpa using hs.sz
    cl:=hcl'
    wf:=hp.wf
    dfr:=put_defers.trans hs.dfr
    tsz:=by cases r.o.dst<;>simp [Act.put,hs.tsz]
    tmp:=htmp φ' v' hp.le hv
    rep:= ?_
    fresh:= ?_
    le:=hs.le.trans hp.le
    grow:= ?_
    blk:= ?_
    frm:= ?_
    wrR:= ?_
    ro:=(hp.inv hinv hsτs).ro}
   {rcases hx with hx|hx;{exact hone x (q6 x hx)};rw[q4]at hx;cases hx};{have h2:x<τs.next:=h2;rw[q5]at h2;have h1:(dF recs σ' k').next≤x:=h1;omega};all_goals have hgr:=hgrl hp
   {intro x kk hkk hid hcond hD;refine(hs.rep x kk hkk hid (fun j s hj ht=> ?_) hD).frame hp.le (fun v=>hgr x v) fun v e he=> ?_;{have h1:=hcond j s hj ht;have hne:j≠i:=(by intro e;subst e;rw[hr]at hj;cases hj;exact hnt x ht);rwa[hl',if_neg hne]at h1};refine hp.frm.keep _ (hs.wf.lt _ _ _ he) fun y hy=> ?_;rw[q4]at hy;cases hy};{intro j s hj hnl x h1 h2 v;rw[hl']at hnl;split at hnl;{cases hnl};rw[hgr];exact hs.fresh j s hj hnl x h1 h2 v};{intro x hx hn v;rw[hgr];exact hs.grow x hx hn v};·intro x v e he;rw[hgr]at he;exact hs.blk x v e he
   ·exact{
     size:=Nat.le_trans hs.frm.size hp.frm.size
     keep:=fun b hb hne=>by rw[hp.frm.keep b (Nat.lt_of_lt_of_le hb hs.frm.size) (fun x hx=>by rw[q4]at hx;cases hx)];exact hs.frm.keep b hb hne
     os:=hp.frm.os.trans hs.frm.os
     out:=hp.frm.out.trans hs.frm.out
     tape:=hp.frm.tape.trans hs.frm.tape}
   intro j s hj hls x hx;rw[hl']at hls;split at hls;{rename_i e;subst e;rw[hr]at hj;cases hj;rw[hwr0]at hx;cases hx};exact hs.wrR j s hj hls x hx
  -- the objects that the operation touches are known
  have hDi:∀id,(id∈r.rd∨id∈r.wr)→id<r.σ.next→Rep R φ w id (r.σ.heap.get id):=(by intro id hid hlt;have:=hs.rep id i (Nat.le_of_lt hilt) (by rw[hpS];exact hlt) (fun j s hj ht=>by by_cases e:j=i;{subst e;exact hself};rcases h.feet j i s r id hj hr ht hid with e'|hp|hp|⟨hir,hf⟩;{exact absurd e' e};{exact hord j e (.inr hp)};{exact hord j e (.inl hp)};by_cases hc:(listed.getD j false=true↔j<i);{exact hc};exact absurd ⟨id,hir,hf.1,hf.2.1,hf.2.2.1,j,s,hj,ht,hc⟩ hF) (hDk id hid);rwa[hpS]at this);have hinv:Inv R C (fun id=>id∈r.rd∨id∈r.wr) φ r.σ.bare w:={
   wf:=hs.wf
   low:=Nat.le_trans h.inv.low hσle
   rep:=fun id hid hlt=>hDi id hid hlt
   gl:=fun g n hg=>let⟨e,he,hx⟩:=h.inv.gl g n hg;⟨e,hs.le _ _ _ he,hx⟩
   dom:=by have:=(hmono (bP i) (Nat.le_of_lt hilt)).1;rw[h.link.pre.1,hpS]at this;exact this.dom h.inv.dom
   pin:=h.inv.pin
   dec:=h.inv.dec
   wrR:=fun i hi=>by cases hi
   ro:=hs.ro,oh:=h.inv.oh}
  have hkn:Known (fun id=>id∈r.rd∨id∈r.wr) r.σ.bare τ:=fun id hid _=>(by rw[e2,e3];exact hid);have hfr:Free φ r.σ.bare τ:=fun id h1 h2 v=>hs.fresh i r hr hni id h1 (by rw[←hτn];exact h2) v;have hfin:∀φ' v' w',VR φ' r.v v'→Post R (fun id=>id∈r.rd∨id∈r.wr) φ r.σ.bare w τ φ' w'→K (a.put r.o.dst v') w':=by
   intro φ' v' w' hv hp;have hwrR:∀x∈τ.wr,R≤x:=fun x hx=>(hp.wrR x hx).resolve_left (by simp [St.bare]);have hm:=(hmono (show i+1≤recs.length by omega) (aE _)).1;rw[hpostS,show dF recs σ' recs.length=σ' by simp [dF]]at hm;have hwrσ:∀x∈τ.wr,x∈σ'.wr:=fun x hx=>hm.wr _ (hst4 _ (by rw[e3];exact hx))
   -- two operations that touch one object are ordered
   have htouch:∀id,r.touch id→∀j s,recs[j]? =some s→s.touch id→j≠i→(listed.getD j false=true↔j<i):=fun id ht j s hj hts hne=>hord j hne (h.touches hr hj ht hts hne);refine hK φ' _ w' {
    sz:=by simpa using hs.sz
    cl:=hcl'
    wf:=hp.wf
    dfr:=put_defers.trans hs.dfr
    tsz:=by cases r.o.dst<;>simp [Act.put,hs.tsz]
    tmp:=htmp φ' v' hp.le hv
    rep:= ?_
    fresh:= ?_
    le:=hs.le.trans hp.le
    grow:= ?_
    blk:= ?_
    frm:= ?_
    wrR:= ?_
    ro:=(hp.inv hinv hsτ).ro}
   rotate_right
   ·intro j s hj hls x hx;rw[hl']at hls;split at hls;{rename_i e;subst e;rw[hr]at hj;cases hj;exact hwrR x (by rw[←e3];exact hx)};exact hs.wrR j s hj hls x hx
   ·intro id k hk hid hcond hD;by_cases ht:r.touch id
    ·have hik:i<k:=(hcond i r hr ht).1 (by rw[hl',if_pos rfl]);have hno:∀j s,i+1≤j→j<k→recs[j]? =some s→¬s.touch id:=by
      intro j s h1 h2 hj hts;have h3:=(hcond j s hj hts).2 h2;rw[hl',if_neg (by omega)]at h3;have h4:=(htouch id ht j s hj hts (by omega)).1 h3;omega
     -- the object is there behind the operation
     have hidn:id<r.σ'.next:=by
      rcases ht with hw|hcr
      ·rcases aS id r.σ'.next with h'|h';{exact h'};exfalso;have:∀n,i+1+n≤k→(dF recs σ' (i+1+n)).next≤id:=by
        intro n
        induction n with
        |zero=>intro _;rw[hpostS];exact h'
        |succ n ih=>intro hn;have ih:=ih (by omega);rcases aS id (dF recs σ' (i+1+n+1)).next with h2|h2;{exfalso;have hlt:i+1+n<recs.length:=(by omega);have hj:recs[i+1+n]? =some recs[i+1+n]:=bC hlt;rw[eZ hj]at ih;rw[(h.link.post hj).1]at h2;exact hno _ _ (by omega) (by omega) hj (.inr ⟨ih,h2⟩)};exact h2
       have:=this (k - (i+1)) (by omega);rw[show i+1+(k - (i+1))=k by omega]at this;omega
      exact hcr.2
     have hkeep:=(hmono (show i+1≤k by omega) hk).2.1 id (by rw[hpostS];exact hidn) hno;rw[hkeep,hpostS,←hτh];refine hp.rep id ?_;by_cases hlt:id<r.σ.next;{left;refine⟨?_,hlt⟩;rcases ht with hw|hcr;{exact .inr hw};omega};exact .inr ⟨Nat.le_of_not_lt hlt,by rw[hτn];exact hidn⟩
    have hcond':∀j s,recs[j]? =some s→s.touch id→(listed.getD j false=true↔j<k):=(by intro j s hj hts;have h1:=hcond j s hj hts;have hne:j≠i:=(by intro e;subst e;rw[hr]at hj;cases hj;exact ht hts);rwa[hl',if_neg hne]at h1);have hnw:id∉τ.wr:=fun hw=>ht (.inl (by rw[e3];exact hw));refine(hs.rep id k hk hid hcond' hD).frame hp.le (fun v=>hp.grow id (.inl hnw) (fun hx=>ht (.inr ⟨hx.1,by rw[←hτn];exact hx.2⟩)) v) fun v e he=> ?_;refine hp.frm.keep _ (hs.wf.lt _ _ _ he) fun x hx u f hf heq=> ?_;rcases hs.wf.inj _ _ _ _ _ _ hf he heq with hh|hh;{exact hnw (hh▸hx)};exact absurd hh.1 (Nat.not_lt.2 (hwrR x hx))
   ·intro j s hj hnl id h1 h2 v;rw[hl']at hnl;split at hnl;{cases hnl};rename_i hne;have hjlt:j<recs.length:=by
     rcases aS j recs.length with h'|h';{exact h'};simp [bZ h']at hj
    rw[hp.grow id ?_ ?_ v];{exact hs.fresh j s hj hnl id h1 h2 v};{rcases Nat.lt_or_gt_of_ne hne with hlt|hgt;{left;intro hw;have:=(htouch id (.inl (by rw[e3];exact hw)) j s hj (.inr ⟨h1,h2⟩) hne).2 hlt;rw[hnl]at this;cases this};right;have:=(hmono (show i+1≤j by omega) (Nat.le_of_lt hjlt)).1.next;rw[hpostS,eZ hj]at this;rw[hτn];omega};intro hx;have hx2:id<r.σ'.next:=(by rw[←hτn];exact hx.2);have hx1:r.σ.next≤id:=hx.1;rcases Nat.lt_or_gt_of_ne hne with hlt|hgt;{have:=(hmono (show j+1≤i by omega) (Nat.le_of_lt hilt)).1.next;rw[(h.link.post hj).1,hpS]at this;omega};have:=(hmono (show i+1≤j by omega) (Nat.le_of_lt hjlt)).1.next;rw[hpostS,eZ hj]at this;omega
   {intro x hx hn v;rw[hp.grow x ?_ ?_ v];{exact hs.grow x hx hn v};{rcases hx with hx|hx;{exact .inl fun hw=>hx (hwrσ x hw)};right;rw[hτn];omega};intro hc;have hc2:x<r.σ'.next:=(by rw[←hτn];exact hc.2);have hc1:r.σ.next≤x:=hc.1;exact hn ⟨by omega,by omega⟩};{intro x v e he;rcases hp.blk x v e he with⟨u,f,hf,hbk⟩|hbk;{rcases hs.blk x u f hf with⟨u',f',hf',hbk'⟩|hbk';{exact .inl ⟨u',f',hf',hbk'.trans hbk⟩};exact .inr (hbk▸hbk')};exact .inr (Nat.le_trans hs.frm.size hbk)};exact{
    size:=Nat.le_trans hs.frm.size hp.frm.size
    keep:=fun b hb hne=>by rw[hp.frm.keep b (Nat.lt_of_lt_of_le hb hs.frm.size) ?_];{exact hs.frm.keep b hb hne};intro x hx v e he;rcases hs.blk x v e he with⟨u,f,hf,hbf⟩|hbf;{rw[←hbf];exact hne x (hwrσ x hx) u f hf};exact fun heq=>absurd hb (Nat.not_lt.2 (heq▸hbf))
    os:=hp.frm.os.trans hs.frm.os
    out:=hp.frm.out.trans hs.frm.out
    tape:=hp.frm.tape.trans hs.frm.tape}
  rcases hrun with hval|⟨f,args,τ₀,hcall,hret,hss⟩;{exact J4 hinv hE hval hkn hfr hfin};exact Nj hc hinv hE hcall hret hss hkn hfr hfin
end
end Go.Tw
namespace Go.Tw
section
variable[Val]
variable{P:Program}{R:Nat}{C:Cfg}
variable{call:Cle→List AV→St→CR}{nt:Nat}{ops:Array Oper}{recs:List Rec}{env env':Env}{σ σ':St}{D:Nat→Prop}{φ₀:PM}{w₀:World}
def left(n:Nat)(listed:Array Bool):Nat:=((List.range n).filter fun i=> !listed.getD i false).length
omit [Val]in
theorem z7{n:Nat}{listed:Array Bool}{i:Nat}(hi:i<n)(hl:i<listed.size)(hf:listed.getD i false=false):left n (listed.setIfInBounds i true)+1=left n listed:=by
 unfold left;have key:∀m,(i<m→((List.range m).filter fun j=> !(listed.setIfInBounds i true).getD j false).length+1=((List.range m).filter fun j=> !listed.getD j false).length)∧
  (m≤i→((List.range m).filter fun j=> !(listed.setIfInBounds i true).getD j false).length=((List.range m).filter fun j=> !listed.getD j false).length):=by
  intro m
  induction m with
  |zero=>exact⟨fun h=>absurd h (Nat.not_lt_zero _),fun _=>rfl⟩
  |succ m ih=>simp only[List.range_succ,List.filter_append,cg];have hg:=tz hl m;refine⟨fun h=> ?_,fun h=> ?_⟩;{by_cases e:m=i;{subst e;have:=ih.2 (aE _);rw[if_pos rfl]at hg;rw[this];simp only[List.filter_cons,List.filter_nil,hg,hf];simp};have:=ih.1 (by omega);rw[if_neg e]at hg;simp only[List.filter_cons,List.filter_nil,hg];omega};have:=ih.2 (by omega);rw[if_neg (by omega)]at hg;simp only[List.filter_cons,List.filter_nil,hg];omega
 exact(key n).1 hi
omit [Val]in
theorem vB{n:Nat}{listed:Array Bool}(h:left n listed=0){i:Nat}(hi:i<n):listed.getD i false=true:=by unfold left at h;have:=List.length_eq_zero_iff.1 h;have:=List.filter_eq_nil_iff.1 this i (List.mem_range.2 hi);simpa using this
omit [Val]in
theorem Ed{listed:Array Bool}{i:Nat}(h:i<listed.size):listed.getD i true=listed.getD i false:=by simp [Array.getD_eq_getD_getElem?,h]
omit [Val]in
theorem mE{listed:Array Bool}(hsz:listed.size=ops.size){i:Nat}(h:i∈Region.ready .any ops listed):
 ∃o,ops[i]? =some o∧i<ops.size∧listed.getD i false=false∧∀e∈o.after,Region.binds .any e=true→listed.getD e.on false=true:=by
 unfold Region.ready at h;rw[List.mem_filter]at h;obtain⟨h1,h2⟩:=h;have hi:=List.mem_range.1 h1;rw[al]at h2;obtain⟨h3,h4⟩:=h2;rw[Array.getElem?_eq_getElem hi]at h4;refine⟨ops[i],Array.getElem?_eq_getElem hi,hi,?_,?_⟩;{rw[←Ed (by omega)];simpa using h3};intro e he hb;simp only[Option.map_some,Option.getD_some,Array.all_eq_true_iff_forall_mem]at h4;have:=h4 e he;simpa[hb]using this
theorem uT(h:Region0 P R C call nt ops recs env env' σ σ' D φ₀ w₀){listed:Array Bool}(hsz:listed.size=ops.size)(hr:Region.ready .any ops listed=[]):
 ∀i,i<ops.size→listed.getD i false=true:=by
 intro i
 induction i using Nat.strongRecOn with
 |_ i ih=>
  intro hi;cases hl:listed.getD i false with
  |true=>rfl
  |false=>
   exfalso;have hmem:i∈Region.ready .any ops listed:=by
    unfold Region.ready;rw[List.mem_filter];refine⟨List.mem_range.2 hi,?_⟩;rw[al];refine⟨by rw[Ed (by omega),hl];rfl,?_⟩;rw[Array.getElem?_eq_getElem hi];simp only[Option.map_some,Option.getD_some,Array.all_eq_true_iff_forall_mem];intro e he;cases hb:Region.binds .any e with
    |false=>simp
    |true=>have hlt:=h.back i _ e (Array.getElem?_eq_getElem hi) he hb;simp [ih e.on hlt (by omega)]
   rw[hr]at hmem;cases hmem
omit [Val]in
theorem NJ:∀{recs:List Rec} {env:Env} {σ:St},Linked recs env σ env' σ'→(∀r∈recs,r.fine P C call nt ops)→∀{x:Nat},x∈σ'.wr→x∈σ.wr∨∃(j:Nat) (r:Rec),recs[j]? =some r∧x∈r.wr:=by
 intro recs
 induction recs with
 |nil=>intro env σ h _ x hx;obtain⟨_,rfl⟩:=h;exact .inl hx
 |cons r rs ih=>
  intro env σ h hok x hx;obtain⟨_,h2,h3⟩:=h;rcases ih h3 (fun r hr=>hok r (by simp [hr])) hx with hx|⟨j,s,hj,hx⟩
  ·have hr:=hok r (by simp);rcases hr with hr|⟨_,_,e2,_,_⟩|⟨_,_,_,_,_,_,_,τ,_,_,_,_,e1,_,e3⟩
   ·cases hb:r.b with
    |false=>obtain⟨_,e2,_,_⟩:=hr.2.2.1 hb;rw[e2,h2]at hx;exact .inl hx
    |true=>obtain⟨τ,_,_,e1,_,e3⟩:=hr.2.2.2 hb;rw[e1]at hx;rcases List.mem_append.1 hx with hx|hx;{exact .inr ⟨0,r,rfl,by rw[e3];exact hx⟩};rw[h2]at hx;exact .inl hx
   {rw[e2,h2]at hx;exact .inl hx};rw[e1]at hx;rcases List.mem_append.1 hx with hx|hx;{exact .inr ⟨0,r,rfl,by rw[e3];exact hx⟩};rw[h2]at hx;exact .inl hx
  exact .inr ⟨j+1,s,by simpa using hj,hx⟩
omit [Val]in
theorem qn:∀{recs:List Rec} {env:Env} {σ:St},Linked recs env σ env' σ'→(∀r∈recs,r.fine P C call nt ops)→env'.ds=env.ds∧env'.md=env.md∧env'.rd=env.rd:=by
 intro recs
 induction recs with
 |nil=>intro env σ h _;obtain⟨rfl,_⟩:=h;exact⟨rfl,rfl,rfl⟩
 |cons r rs ih=>intro env σ h hok;obtain⟨h1,h2,h3⟩:=h;obtain⟨p1,p2,p3⟩:=ih h3 (fun r hr=>hok r (by simp [hr]));have hq:r.env'.ds=r.env.ds∧r.env'.md=r.env.md∧r.env'.rd=r.env.rd:=(by rcases hok r (by simp)with hr|⟨_,e,_⟩|⟨_,_,e,_⟩;{exact fp hr.2.1};{rw[e];exact⟨rfl,rfl,rfl⟩};rw[e];exact⟨rfl,rfl,rfl⟩);obtain⟨q1,q2,q3⟩:=hq;rw[h1]at q1 q2 q3;exact⟨p1.trans q1,p2.trans q2,p3.trans q3⟩
theorem EY{ro:Option Nat}{ds0:List Deferred}(hc:fY P R C call)(hcs:cB call)(h:Region0 P R C call nt ops recs env env' σ σ' D φ₀ w₀)
 (hallok:∀(j:Nat) (r:Rec),recs[j]? =some r→r.ok P C call nt ops){Q:Exit→Act→World→Prop}
 (hQ:∀φ' a' w',EnvR φ' nt env' a'→a'.defers=ds0→Post R D φ₀ σ w₀ σ' φ' w'→Q .normal a' w'):
 ∀(fuel:Nat) (listed:Array Bool) (a:Act) (w:World) (φ:PM),Stage R C nt ds0 ops recs env' σ σ' D φ₀ w₀ listed a w φ→left ops.size listed=fuel→
  wpAnyIn (gC ro) 0 P .any ops Q fuel listed a w:=by
 have hlen:=h.len;have hend:∀(listed:Array Bool) (a:Act) (w:World) (φ:PM),Stage R C nt ds0 ops recs env' σ σ' D φ₀ w₀ listed a w φ→(∀i,i<ops.size→listed.getD i false=true)→Q .normal a w:=by
  intro listed a w φ hs hall;have hallr:∀j r,recs[j]? =some r→(listed.getD j false=true↔j<recs.length):=(by intro j r hj;have hjlt:j<recs.length:=(by rcases aS j recs.length with h'|h';{exact h'};simp [bZ h']at hj);exact⟨fun _=>hjlt,fun _=>hall j (by omega)⟩);have eS:dF recs σ' recs.length=σ':=(by simp [dF]);have eE:kY recs env' recs.length=env':=(by simp [kY]);refine hQ φ a w ⟨hs.tsz,fun t v hv=>hs.tmp t recs.length (aE _) (fun j r hj _=>hallr j r hj) v (by rw[eE];exact hv)⟩ hs.dfr {
   le:=hs.le
   grow:=hs.grow
   wrR:= ?_
   wf:=hs.wf
   blk:=hs.blk
   rep:= ?_
   frm:=hs.frm}
  {intro x hx;rcases NJ h.link h.ok hx with hx|⟨j,r,hj,hx⟩;{exact .inl hx};exact .inr (hs.wrR j r hj ((hallr j r hj).2 ((hallr j r hj).1 (hall j (by have hjlt:j<recs.length:=(by rcases aS j recs.length with h'|h';{exact h'};simp [bZ h']at hj);omega)))) x hx)};intro id hid;have hmono:=(fN h.link h.ok (bP recs.length) (aE _)).1;rw[h.link.pre.1,eS]at hmono;have:=hs.rep id recs.length (aE _) (by
   rw[eS];rcases hid with⟨_,h2⟩|⟨_,h2⟩;{exact Nat.lt_of_lt_of_le h2 hmono.next};·exact h2) (fun j r hj _=>hallr j r hj) (by
   rcases hid with⟨h1,_⟩|⟨h1,_⟩;{exact .inl h1};exact .inr h1)
  rwa[eS]at this
 intro fuel
 induction fuel with
 |zero=>intro listed a w φ hs hf;have hall:∀i,i<ops.size→listed.getD i false=true:=fun i hi=>vB hf hi;refine⟨?_,hend listed a w φ hs hall⟩;apply List.eq_nil_iff_forall_not_mem.2;intro i hi;obtain⟨o,_,hlt,hl,_⟩:=mE hs.sz hi;rw[hall i hlt]at hl;cases hl
 |succ fuel ih=>intro listed a w φ hs hf;refine⟨fun hr=>hend listed a w φ hs (uT h hs.sz hr),fun i hi=> ?_⟩;obtain⟨o,ho,hlt,hl,hpre⟩:=mE hs.sz hi;obtain⟨r,hr,hro⟩:=h.recOf ho;refine rQ hc hcs h hs hr (hallok i r hr) hl (by rw[hro];exact hpre) fun φ' a' w' hs'=>ih _ a' w' φ' hs' ?_;have:=z7 (n:=ops.size) hlt (by rw[hs.sz];exact hlt) hl;omega
omit [Val]in
theorem Kg{t:Tmp}{v:AV}:∀{l:List Oper} {m:T AV},(Gg l m).get t=some v→m.get t=some v∧∀o∈l,o.dst≠some t:=by
 intro l
 induction l with
 |nil=>intro m h;exact⟨h,by simp⟩
 |cons o l ih=>intro m h;unfold Gg at h;split at h;{rename_i d hd;obtain⟨h1,h2⟩:=ih h;rw[T.get_del]at h1;split at h1;{cases h1};rename_i hne;exact⟨h1,fun o' ho'=>by rcases List.mem_cons.1 ho' with rfl|ho';{rw[hd];simp only[ne_eq,aw];exact fun e=>hne e.symm};exact h2 o' ho'⟩};rename_i hd;obtain⟨h1,h2⟩:=ih h;exact⟨h1,fun o' ho'=>by rcases List.mem_cons.1 ho' with rfl|ho';{rw[hd];simp};exact h2 o' ho'⟩
theorem Region0.maker(h:Region0 P R C call nt ops recs env env' σ σ' D φ₀ w₀){id a:Nat}:∀b,a≤b→b≤recs.length→(dF recs σ' a).next≤id→id<(dF recs σ' b).next→
 ∃(j:Nat) (r:Rec),a≤j∧j<b∧recs[j]? =some r∧r.σ.next≤id∧id<r.σ'.next:=by
 intro b
 induction b with
 |zero=>intro hab _ h1 h2;have:a=0:=(by omega);subst this;omega
 |succ b ih=>intro hab hb h1 h2;by_cases e:a=b+1;{subst e;omega};have hlt:b<recs.length:=(by omega);have hj:recs[b]? =some recs[b]:=bC hlt;rw[(h.link.post hj).1]at h2;rcases aS id (dF recs σ' b).next with h3|h3;{obtain⟨j,r,g1,g2,g3⟩:=ih (by omega) (by omega) h1 h3;exact⟨j,r,g1,by omega,g3⟩};rw[eZ hj]at h3;exact⟨b,_,by omega,by omega,hj,h3,h2⟩
theorem EX{ro:Option Nat}{ds0:List Deferred}(hc:fY P R C call)(hcs:cB call)(h:Region0 P R C call nt ops recs env env' σ σ' D φ₀ w₀){ip:Nat}{chain:List (AV×Bool)}
 (hip:∃r:Rec,recs[ip]? =some r∧r.pans P C call ops chain)(hkind:∀(j:Nat) (r:Rec),recs[j]? =some r→j≠ip→r.ok P C call nt ops∨(r.idle∧Path ops j ip))
 {hp:T Ob}(hgone:∀(j:Nat) (r:Rec) (id:Nat),recs[j]? =some r→j≠ip→r.touch id→¬Path ops ip j→σ.next≤id∧(hp.get id=none∨hp.get id=some .dead))
 (hkill:Killed σ.next σ'.heap hp){Q:Exit→Act→World→Prop}
 (hQ:∀φ' a' c' w',EnvR φ' nt {env' with tm:=Gg ops.toList env'.tm} a'→a'.defers=ds0→ChainR φ' chain c'→Post R D φ₀ σ w₀ {σ' with heap:=hp} φ' w'→Q (.panic c') a' w'):
 ∀(fuel:Nat) (listed:Array Bool) (a:Act) (w:World) (φ:PM),Stage R C nt ds0 ops recs env' σ σ' D φ₀ w₀ listed a w φ→listed.getD ip false=false→left ops.size listed=fuel→
  wpAnyIn (gC ro) 0 P .any ops Q fuel listed a w:=by
 have hlen:=h.len;obtain⟨rp,hrp,hpan⟩:=hip;have hlt:∀{k:Nat} {x:Rec},recs[k]? =some x→k<recs.length:=by intro k x hk;rcases aS k recs.length with h'|h';{exact h'};simp [bZ h']at hk
 have hipl:ip<ops.size:=by rw[←hlen];exact hlt hrp
 have hmono:=fun{x k:Nat} (hxk:x≤k) (hk:k≤recs.length)=>fN h.link h.ok hxk hk;have eS:dF recs σ' recs.length=σ':=by simp [dF]
 have eE:kY recs env' recs.length=env':=by simp [kY]
 -- the panic itself
 have hend:∀(listed:Array Bool) (a:Act) (w:World) (φ:PM),Stage R C nt ds0 ops recs env' σ σ' D φ₀ w₀ listed a w φ→listed.getD ip false=false→
  (∀e∈rp.o.after,Region.binds .any e=true→listed.getD e.on false=true)→∀(K:Act→World→Prop),wpOpIn (gC ro) 0 P ops Q ip K a w:=by
  intro listed a w φ hs hni hpre K;have hop:=h.op hrp;have hilt:=hlt hrp;obtain⟨hb,henv,hwant,f,args,τ₀,τ,hcall,hret,hss,hsτ,e1,e2,e3⟩:=hpan;obtain⟨hpostS,hpostE⟩:=h.link.post hrp;have hpS:dF recs σ' ip=rp.σ:=eZ hrp;have hpE:kY recs env' ip=rp.env:=xb hrp;have hτn:τ.next=rp.σ'.next:=(by rw[e1];rfl);have hτh:τ.heap=rp.σ'.heap:=(by rw[e1];rfl);have hbef:∀j,Path ops ip j→listed.getD j false=true:=by
   intro j p;cases p with
   |one ho he hb=>rw[hop]at ho;cases ho;exact hpre _ he hb
   |step ho he hb p=>rw[hop]at ho;cases ho;exact hs.cl.path p (hpre _ he hb)
  have hbehind:∀j,Path ops j ip→listed.getD j false=false:=by
   intro j p;cases hj:listed.getD j false with
   |false=>rfl
   |true=>have:=hs.cl.path p hj;rw[hni]at this;cases this
  have hord:∀j,j≠ip→(Path ops ip j∨Path ops j ip)→(listed.getD j false=true↔j<ip):=(by intro j _ hp;rcases hp with hp|hp;{exact⟨fun _=>h.back' hp,fun _=>hbef j hp⟩};exact⟨fun hx=>(by rw[hbehind j hp]at hx;cases hx),fun hx=>absurd (h.back' hp) (by omega)⟩);have hself:(listed.getD ip false=true↔ip<ip):=(by rw[hni];exact⟨fun h=>(by cases h),fun h=>absurd h (Nat.lt_irrefl _)⟩);have hnames:∀t∈tmpsOf ops rp.o,∀(j:Nat) (s:Rec),recs[j]? =some s→s.o.dst=some t→(listed.getD j false=true↔j<ip):=(by intro t ht j s hj hd;by_cases e:j=ip;{subst e;exact hself};rcases h.names ip j rp.o s.o t hop (h.op hj) hd ht with e'|hp;{exact absurd e'.symm e};exact hord j e hp);have hE:EnvR φ nt (rp.env.only (tmpsOf ops rp.o)) a:=⟨hs.tsz,fun t v hv=>by obtain⟨h1,h2⟩:=vn hv;exact hs.tmp t ip (Nat.le_of_lt hilt) (hnames t h1) v (by rw[hpE];exact h2)⟩;obtain⟨hst,hst2,hst3,hst4⟩:=(h.ok rp (eQ hrp)).step;have hm1:=(hmono (show ip+1≤recs.length by omega) (aE _)).1;rw[hpostS,eS]at hm1;have hm0:=(hmono (bP ip) (Nat.le_of_lt hilt)).1;rw[h.link.pre.1,hpS]at hm0
  -- a float does not panic
  have hnofl:∀(s:Rec) (id:Nat),¬s.floats P C ops rp id:=(by intro s id hf;obtain⟨_,_,_,_,_,τ',q,_⟩:=hf;rw[hcall]at q;cases q);have hDi:∀id,(id∈rp.rd∨id∈rp.wr)→id<rp.σ.next→Rep R φ w id (rp.σ.heap.get id):=by
   intro id hid hl;have:=hs.rep id ip (Nat.le_of_lt hilt) (by rw[hpS];exact hl) (fun j s hj ht=>by
    by_cases e:j=ip;{subst e;exact hself};rcases h.feet j ip s rp id hj hrp ht hid with e'|hp|hp|⟨_,hf⟩;{exact absurd e' e};{exact hord j e (.inr hp)};{exact hord j e (.inl hp)};·exact absurd hf (hnofl s id)) (by
    by_cases hn:id<σ.next;{left;exact h.known id (hid.imp (fun hx=>hm1.rd _ (hst3 _ hx)) (fun hx=>hm1.wr _ (hst4 _ hx))) hn};exact .inr (Nat.le_of_not_lt hn))
   rwa[hpS]at this
  have hinv:Inv R C (fun id=>id∈rp.rd∨id∈rp.wr) φ rp.σ.bare w:={
   wf:=hs.wf
   low:=Nat.le_trans h.inv.low hm0.next
   rep:=fun id hid hl=>hDi id hid hl
   gl:=fun g n hg=>let⟨e,he,hx⟩:=h.inv.gl g n hg;⟨e,hs.le _ _ _ he,hx⟩
   dom:=hm0.dom h.inv.dom
   pin:=h.inv.pin
   dec:=h.inv.dec
   wrR:=fun i hi=>by cases hi
   ro:=hs.ro,oh:=h.inv.oh}
  unfold wpOpIn;rw[hop];dsimp only;rw[jP h.inv.pin h.inv.dec hE hwant];simp only[if_true];refine Sw hc hinv hE hcall hret hss (fun id hid _=>by rw[e2,e3];exact hid) (fun id h1 h2 v=>hs.fresh ip rp hrp hni id h1 (by rw[←hτn];exact h2) v) fun φ' c' w' hch hpo=> ?_;have hwrR:∀x∈τ.wr,R≤x:=fun x hx=>(hpo.wrR x hx).resolve_left (by simp [St.bare]);have hwrσ:∀x∈τ.wr,x∈σ'.wr:=fun x hx=>hm1.wr _ (hst4 _ (by rw[e3];exact hx));refine hQ φ' a c' w' ⟨hs.tsz,fun t v hv=> ?_⟩ hs.dfr hch {
   le:=hs.le.trans hpo.le
   grow:= ?_
   wrR:= ?_
   wf:=hpo.wf
   blk:= ?_
   rep:= ?_
   frm:= ?_}
  ·obtain⟨g1,g2⟩:=Kg hv;obtain⟨v',k1,k2⟩:=hs.tmp t recs.length (aE _) (fun j r hj hd=>by
    have hj2:=h.op hj;exact absurd hd (g2 r.o (by rw[←Array.getElem?_toList]at hj2;exact eQ hj2))) v (by rw[eE];exact g1)
   exact⟨v',k1,k2.mono hpo.le⟩
  {intro x hx hn v;rw[hpo.grow x ?_ ?_ v];{exact hs.grow x hx hn v};{rcases hx with hx|hx;{exact .inl fun hw=>hx (hwrσ x hw)};right;have hx:σ'.next≤x:=hx;rw[hτn];exact Nat.le_trans hm1.next hx};intro hcc;have hc2:x<rp.σ'.next:=(by rw[←hτn];exact hcc.2);have hc1:rp.σ.next≤x:=hcc.1;exact hn ⟨Nat.le_trans hm0.next hc1,Nat.lt_of_lt_of_le hc2 hm1.next⟩};{intro x hx;rcases NJ h.link h.ok hx with hx|⟨j,r,hj,hx⟩;{exact .inl hx};by_cases e:j=ip;{subst e;rw[hrp]at hj;cases hj;exact .inr (hwrR x (by rw[←e3];exact hx))};by_cases hpa:Path ops ip j;{exact .inr (hs.wrR j r hj (hbef j hpa) x hx)};exact .inr (Nat.le_trans h.inv.low (hgone j r x hj e (.inl hx) hpa).1)};·intro x v e he;rcases hpo.blk x v e he with⟨u,f,hf,hbk⟩|hbk;{rcases hs.blk x u f hf with⟨u',f',hf',hbk'⟩|hbk';{exact .inl ⟨u',f',hf',hbk'.trans hbk⟩};exact .inr (hbk▸hbk')};exact .inr (Nat.le_trans hs.frm.size hbk)
  ·intro id hid;have hid:(D id∧id<σ.next)∨(σ.next≤id∧id<σ'.next):=hid;show Rep R φ' w' id (hp.get id);have hidσ:id<σ'.next:=by
    rcases hid with⟨_,g⟩|⟨_,g⟩;{exact Nat.lt_of_lt_of_le g (Nat.le_trans hm0.next (Nat.le_trans hst.next hm1.next))};exact g
   by_cases hex:∃(j:Nat) (r:Rec),recs[j]? =some r∧j≠ip∧r.touch id∧¬Path ops ip j;{obtain⟨j,r,g1,g2,g3,g4⟩:=hex;rcases(hgone j r id g1 g2 g3 g4).2 with e|e;{rw[e];trivial};rw[e];trivial};rcases hkill id with e|⟨_,_,e⟩;rotate_left;{rw[e];trivial};rw[e];have htl:∀(j:Nat) (s:Rec),recs[j]? =some s→s.touch id→j=ip∨Path ops ip j:=(by intro j s hj ht;by_cases e:j=ip;{exact .inl e};by_cases hpa:Path ops ip j;{exact .inr hpa};exact absurd ⟨j,s,hj,e,ht,hpa⟩ hex);have hnoafter:∀(j:Nat) (s:Rec),ip+1≤j→j<recs.length→recs[j]? =some s→¬s.touch id:=(by intro j s h1 _ hj ht;rcases htl j s hj ht with e|p;{omega};have:=h.back' p;omega);have hidr:id<rp.σ'.next:=(by rcases aS id rp.σ'.next with h'|h';{exact h'};exfalso;obtain⟨j,s,g1,g2,g3,g4⟩:=h.maker (a:=ip+1) recs.length (by omega) (aE _) (by rw[hpostS];exact h') (by rw[eS];exact hidσ);exact hnoafter j s g1 g2 g3 (.inr g4));have hkeep:=(hmono (show ip+1≤recs.length by omega) (aE _)).2.1 id (by rw[hpostS];exact hidr) hnoafter;rw[eS,hpostS]at hkeep;rw[hkeep,←hτh];by_cases ht:rp.touch id;{refine hpo.rep id ?_;by_cases hl:id<rp.σ.next;{left;refine⟨?_,hl⟩;rcases ht with hw|hcr;{exact .inr hw};omega};exact .inr ⟨Nat.le_of_not_lt hl,by rw[hτn];exact hidr⟩};have hl:id<rp.σ.next:=(by rcases aS id rp.σ.next with h'|h';{exact h'};exact absurd (.inr ⟨h',hidr⟩) ht);have hnw:id∉τ.wr:=fun hw=>ht (.inl (by rw[e3];exact hw));have hsame:τ.heap.get id=rp.σ.heap.get id:=(by rw[hτh];exact hst2 id hl (fun hw=>ht (.inl hw)));rw[hsame,←hpS];have hD:D id∨σ.next≤id:=hid.imp (·.1) (·.1);refine(hs.rep id ip (Nat.le_of_lt hilt) (by rw[hpS];exact hl) (fun j s hj hts=> ?_) hD).frame hpo.le (fun v=>hpo.grow id (.inl hnw) (fun hx=>ht (.inr ⟨hx.1,by rw[←hτn];exact hx.2⟩)) v) fun v e he=> ?_;{rcases htl j s hj hts with e|p;{subst e;exact hself};exact hord j (fun e=>by subst e;exact absurd (h.back' p) (Nat.lt_irrefl _)) (.inl p)};refine hpo.frm.keep _ (hs.wf.lt _ _ _ he) fun x hx u f hf heq=> ?_;rcases hs.wf.inj _ _ _ _ _ _ hf he heq with hh|hh;{exact hnw (hh▸hx)};exact absurd hh.1 (Nat.not_lt.2 (hwrR x hx))
  exact{
   size:=Nat.le_trans hs.frm.size hpo.frm.size
   keep:=fun b hb hne=>by rw[hpo.frm.keep b (Nat.lt_of_lt_of_le hb hs.frm.size) ?_];{exact hs.frm.keep b hb hne};intro x hx v e he;rcases hs.blk x v e he with⟨u,f,hf,hbf⟩|hbf;{rw[←hbf];exact hne x (hwrσ x hx) u f hf};exact fun heq=>absurd hb (Nat.not_lt.2 (heq▸hbf))
   os:=hpo.frm.os.trans hs.frm.os
   out:=hpo.frm.out.trans hs.frm.out
   tape:=hpo.frm.tape.trans hs.frm.tape}
 intro fuel
 induction fuel with
 |zero=>intro listed a w φ hs hni hf;have:=vB hf hipl;rw[hni]at this;cases this
 |succ fuel ih=>
  intro listed a w φ hs hni hf;refine⟨fun hr=> ?_,fun i hi=> ?_⟩;{have:=uT h hs.sz hr ip hipl;rw[hni]at this;cases this};obtain⟨o,ho,hl2,hl,hpre⟩:=mE hs.sz hi;obtain⟨r,hr,hro⟩:=h.recOf ho;by_cases e:i=ip;{subst e;rw[hrp]at hr;cases hr;exact hend listed a w φ hs hni (by rw[hro];exact hpre) _};rcases hkind i r hr e with hok|⟨_,hpa⟩;{refine rQ hc hcs h hs hr hok hl (by rw[hro];exact hpre) fun φ' a' w' hs'=>ih _ a' w' φ' hs' ?_ ?_;{rw[tz (by rw[hs.sz];exact hl2),if_neg (fun x=>e x.symm)];exact hni};have:=z7 (n:=ops.size) hl2 (by rw[hs.sz];exact hl2) hl;omega};exfalso;have:listed.getD ip false=true:=by
   cases hpa with
   |one ho' he hb=>rw[ho]at ho';cases ho';exact hpre _ he hb
   |step ho' he hb p=>rw[ho]at ho';cases ho';exact hs.cl.path p (hpre _ he hb)
  rw[hni]at this;cases this
omit [Val]in
theorem qz{a b:List Nat}(h:yw a b=true){x:Nat}(ha:x∈a)(hb:x∈b):False:=by unfold yw at h;have:=List.all_eq_true.1 (List.all_eq_true.1 h x ha) x hb;simp at this
omit [Val]in
theorem vk{lo hi:Nat}{l:List Nat}(h:Jf lo hi l=true){x:Nat}(hx:x∈l)(h1:lo≤x)(h2:x<hi):False:=by unfold Jf at h;have:=List.all_eq_true.1 h x hx;rw[Nat.ble_eq_true_of_le h1]at this;have h3:Nat.blt x hi=true:=Nat.ble_eq_true_of_le h2;rw[h3]at this;cases this
theorem Kv{ro:Option Nat}(hc:fY P R C call)(hcs:cB call)(hm:P.follows .mixedOrders=true){e:AExit}{a:Act}{id:Nat}
 (h:Av P C call nt ops env σ=.ok e env' σ')(hi:Inv R C D φ₀ σ w₀)(he:FrmR φ₀ nt env a)(hk:Known D σ σ')(hf:Free φ₀ σ σ'){Q:Exit→Act→World→Prop}
 (hQ:∀φ' e' a' w',en φ' e e'→FrmR φ' nt env' a'→env'.md=env.md→env'.rd=env.rd→Post R D φ₀ σ w₀ σ' φ' w'→Q e' a' w'):
 (Code.region id ops true).wpIn (gC ro) 0 P Q a w₀:=by
 unfold Av at h;simp only[ai]at h;split at h
 ·rename_i hdo;have hdo':=List.all_eq_true.1 (by simpa only[Ku]using hdo);have hz:∀(i:Nat) (o:Oper),ops[i]? =some o→(o,i)∈ops.toList.zipIdx:=by
   intro i o ho;rw[List.mem_zipIdx_iff_getElem?];simpa using ho
  -- the region as records
  have hmk:∀(d:DrawR) (σ1:St),eY P C (iK ops) call nt ops ops.toList 0 [] env σ=d→d.st=some σ1→yg P C (iK ops) d.fs=true→Known D σ σ1→
   ∃recs:List Rec,Region0 P R C call nt ops recs env d.env σ σ1 D φ₀ w₀∧Drawn P C call (iK ops) nt ops 0 recs d∧(∀(j:Nat) (r:Rec),recs[j]? =some r→r.b=true→r.foot ops j∈d.fs)∧
    (∀(j:Nat) (r:Rec) (id:Nat),recs[j]? =some r→r.touch id→r.b=true):=by
   intro d σ1 hrd hst hfo hk;obtain⟨recs,h1,h2,h3,_,h5⟩:=wG hcs _ _ _ _ _ _ _ hrd hst;have hfine:∀r∈recs,r.fine P C call nt ops:=by
    intro r hr;obtain⟨j,hj⟩:=List.getElem?_of_mem hr;cases d with
    |ok fs e σ=>exact .inl (h3 j r hj)
    |no=>exact h3.elim
    |pan ip chain fs e σ=>obtain⟨_,⟨s,g1,g2⟩,g3⟩:=h3;by_cases e:j=ip;{subst e;rw[Nat.sub_zero,hj]at g1;simp only[aw]at g1;subst g1;exact .inr (.inr ⟨chain,g2⟩)};rcases g3 j r hj (by omega)with g|⟨g,_⟩;{exact .inl g};exact .inr (.inl g)
   have hrb:∀(j:Nat) (r:Rec),recs[j]? =some r→r.b=false→r.rd=[]∧r.wr=[]∧r.σ'=r.σ:=(by intro j r hj hb;rcases hfine r (eQ hj)with g|g|⟨_,g⟩;{obtain⟨_,e2,e3,e4⟩:=g.2.2.1 hb;exact⟨e3,e4,e2⟩};{exact⟨g.2.2.2.1,g.2.2.2.2,g.2.2.1⟩};rw[g.1]at hb;cases hb);have htb:∀(j:Nat) (r:Rec) (id:Nat),recs[j]? =some r→r.touch id→r.b=true:=by
    intro j r id hj ht;cases hb:r.b with
    |true=>rfl
    |false=>obtain⟨_,e4,e2⟩:=hrb j r hj hb;rcases ht with ht|ht;{rw[e4]at ht;cases ht};rw[e2]at ht;omega
   refine⟨recs,{
    link:=h2
    ok:=hfine
    omap:=h1
    back:=by intro i o ed ho hed hb;have:=hdo' (o,i) (hz i o ho);simp only[al]at this;have h4:=List.all_eq_true.1 this.1 ed (by simpa using hed);rw[hb]at h4;exact aR (by simpa using h4)
    names:=by intro i j o p d ho hp hpd hdn;have:=hdo' (o,i) (hz i o ho);simp only[al]at this;have h4:=List.all_eq_true.1 this.2 (p,j) (hz j p hp);simp only[hpd]at h4;have hcn:(tmpsOf ops o).contains d=true:=(by simpa using hdn);rw[hcn]at h4;exact mj (by simpa using h4)
    feet:=by
     intro i j r s x hr hs ht hx;have hsb:s.b=true:=by
      cases hb:s.b with
      |true=>rfl
      |false=>obtain⟨e3,e4,_⟩:=hrb j s hs hb;rw[e3,e4]at hx;rcases hx with hx|hx<;>cases hx
     have f1:=h5 i r hr (htb i r x hr ht);have f2:=h5 j s hs hsb;simp only[Nat.zero_add]at f1 f2;have h6:=List.all_eq_true.1 (by simpa only[yg]using hfo) _ f1;dsimp only[Rec.foot]at h6;have hnot:¬((r.wr.isEmpty&&Nat.beq r.σ.next r.σ'.next)=true):=by
      rw[al]
      rintro ⟨g1,g2⟩
      have g2:=ae g2;rcases ht with ht|ht;{rw[List.isEmpty_iff.1 g1]at ht;cases ht};omega
     rw[ai,if_neg hnot]at h6;have h7:=List.all_eq_true.1 h6 _ f2;dsimp only[Rec.foot]at h7;rw[dH,dH]at h7;rcases h7 with(h7|h7)|h7;{rcases mj h7 with g|g|g;{exact .inl g};{exact .inr (.inl g)};exact .inr (.inr (.inl g))};{exfalso;simp only[al]at h7;obtain⟨⟨⟨g1,g2⟩,g3⟩,g4⟩:=h7;rcases ht with ht|⟨ht1,ht2⟩;{rcases hx with hx|hx;{exact qz g1 ht hx};exact qz g2 ht hx};rcases hx with hx|hx;{exact vk g3 hx ht1 ht2};exact vk g4 hx ht1 ht2};right;right;right;unfold Foot.floats at h7;simp only[al]at h7;obtain⟨⟨⟨⟨⟨⟨g1,g2⟩,g3⟩,g4⟩,g5⟩,g6⟩,g7⟩:=h7;have g1:=List.isEmpty_iff.1 g1;have hxr:x∈s.rd:=hx.resolve_right (by rw[g1];simp);have hone:∀a∈s.rd,a=x:=(by split at g3;{cases g3};rename_i a0 l0 hrd0;have hall:∀y∈s.rd,y=a0:=(by intro y hy;rw[hrd0]at hy;rcases List.mem_cons.1 hy with rfl|hy;{rfl};exact(ae (List.all_eq_true.1 g3 y hy)).symm);intro a ha;rw[hall a ha,hall x hxr]);have hat:∀σ0:St,Foot.at P C (Rec.foot ops j s) σ0=true→s.same P C ops σ0:=(by intro σ0 hh;unfold Foot.at at hh;split at hh;{rename_i v τ hv;simp only[al]at hh;obtain⟨⟨⟨k1,k2⟩,k3⟩,k4⟩:=hh;have k1:=AV.same_eq k1;subst k1;refine⟨τ,hv,List.isEmpty_iff.1 k2,ae k3,fun y hy=> ?_⟩;have:=List.all_eq_true.1 k4 y hy;simpa[Rec.foot]using this};cases hh);exact⟨hxr,g1,ae g2,hone,hat _ g5,hat _ g6,hat _ g7⟩
    inv:=hi
    known:=hk},h3,fun j r hj hb=>by have:=h5 j r hj hb;rwa[Nat.zero_add]at this,htb⟩
  have hfalse:∀j,(Array.replicate ops.size false).getD j false=false:=(by intro j;simp only[Array.getD_eq_getD_getElem?];by_cases hj:j<ops.size;{simp [hj]};simp [hj]);have hleft:left ops.size (Array.replicate ops.size false)=ops.size:=by unfold left;rw[List.filter_eq_self.2 (fun j _=>by rw[hfalse];rfl)];simp
  -- nothing has been done
  have hstart:∀{recs:List Rec} {env1:Env} {σ1:St},Region0 P R C call nt ops recs env env1 σ σ1 D φ₀ w₀→(∀i,σ.next≤i→i<σ1.next→∀v,φ₀ i v=none)→
   Stage R C nt a.defers ops recs env1 σ σ1 D φ₀ w₀ (Array.replicate ops.size false) a w₀.drew φ₀:=by
   intro recs env1 σ1 hreg hfr;have h2:=hreg.link;have h3:=hreg.ok;have hno:∀(p:Nat→Rec→Prop) k,k≤recs.length→(∀j r,recs[j]? =some r→p j r→((Array.replicate ops.size false).getD j false=true↔j<k))→
    ∀j r,0≤j→j<k→recs[j]? =some r→¬p j r:=by
    intro p k _ hcond j r _ hjk hj hp;have:=(hcond j r hj hp).2 hjk;rw[hfalse]at this;cases this
   exact{
    sz:=by simp
    cl:=fun j o hj=>by rw[hfalse]at hj;cases hj
    wf:=hi.drew.wf
    dfr:=rfl
    tsz:=he.ev.size
    tmp:=fun t k hk2 hcond v hv=>by have:=(fN h2 h3 (bP k) hk2).2.2 t (hno (fun j r=>r.o.dst=some t) k hk2 hcond);rw[this,h2.pre.2]at hv;exact he.ev.val t v hv
    rep:=fun x k hk2 hx hcond hD=>by have hnt:=hno (fun j r=>r.touch x) k hk2 hcond;have hx0:x<σ.next:=(by rcases aS x σ.next with h'|h';{exact h'};exfalso;obtain⟨j,r,_,g2,g3,g4⟩:=hreg.maker (a:=0) k (bP _) hk2 (by rw[h2.pre.1];exact h') hx;exact hnt j r (bP _) g2 g3 (.inr g4));have:=(fN h2 h3 (bP k) hk2).2.1 x (by rw[h2.pre.1];exact hx0) hnt;rw[this,h2.pre.1];exact hi.drew.rep x (hD.resolve_right (by omega)) hx0
    fresh:=fun j r hj _ x hx1 hx2 v=>by have hjlt:j<recs.length:=(by rcases aS j recs.length with h'|h';{exact h'};simp [bZ h']at hj);have m1:=(fN h2 h3 (bP j) (Nat.le_of_lt hjlt)).1.next;have m2:=(fN h2 h3 (show j+1≤recs.length by omega) (aE _)).1.next;rw[h2.pre.1,eZ hj]at m1;rw[(h2.post hj).1,show dF recs σ1 recs.length=σ1 by simp [dF]]at m2;exact hfr x (by omega) (by omega) v
    le:=φ₀.le_refl
    grow:=fun _ _ _ _=>rfl
    blk:=fun i v e he=>.inl ⟨v,e,he,rfl⟩
    frm:=⟨aE _,fun _ _ _=>rfl,rfl,rfl,rfl⟩
    wrR:=fun j r hj hl=>by rw[hfalse]at hl;cases hl
    ro:=hi.drew.ro}
  split at h;·rename_i fs env1 σ1 hrd;split at h;{rename_i hfo;simp only[XR.ok.injEq]at h;obtain⟨rfl,rfl,rfl⟩:=h;obtain⟨recs,hreg,hdr,_,_⟩:=hmk _ _ hrd rfl hfo hk;have hreg:Region0 P R C call nt ops recs env env1 σ σ1 D φ₀ w₀:=hreg;obtain⟨kp1,kp2,kp3⟩:=qn hreg.link hreg.ok;refine wpIn_region_any hm ?_;exact EY hc hcs hreg hdr (fun φ' a' w' g1 g2 g3=>hQ φ' .normal a' w' trivial ⟨g1,by rw[kp1,g2];exact he.dfs.mono g3.le⟩ kp2 kp3 g3) ops.size _ a w₀.drew φ₀ (hstart hreg hf) hleft};cases h
  ·rename_i ip chain fs env1 σ1 hrd;split at h
   ·rename_i hfo;rw[al]at hfo;simp only[XR.ok.injEq]at h;obtain⟨rfl,rfl,rfl⟩:=h;obtain⟨recs,hreg,⟨_,⟨rp,g1,g2⟩,g3⟩,hft,htb⟩:=hmk _ _ hrd rfl hfo.1 hk;have hreg:Region0 P R C call nt ops recs env env1 σ σ1 D φ₀ w₀:=hreg;obtain⟨kp1,kp2,kp3⟩:=qn hreg.link hreg.ok;refine wpIn_region_any hm ?_;refine EX hc hcs hreg ⟨rp,by rw[Nat.sub_zero]at g1;exact g1,g2⟩ (fun j r hj hne=> ?_) (fun j r id hj hne ht hpa=> ?_) (iB (iK ops) ip σ.next fs σ1.heap)
     (fun φ' a' c' w' q1 q2 q3 q4=>hQ φ' (.panic c') a' w' q3 ⟨q1,?_⟩ kp2 kp3 q4) ops.size _ a w₀.drew φ₀ (hstart hreg hf) (hfalse ip) hleft
    ·rcases g3 j r hj (by omega)with g|⟨g,gb⟩;{exact .inl g};rw[Nat.zero_add]at gb;exact .inr ⟨g,kj gb⟩
    ·have hfm:=hft j r hj (htb j r id hj ht);have hbit:((iK ops).getD ip 0).testBit j=false:=by
      cases hb:((iK ops).getD ip 0).testBit j with
      |false=>rfl
      |true=>exact absurd (kj hb) hpa
     have hn:σ.next≤id:=(by rcases ht with hw|hcr;{have h4:=List.all_eq_true.1 (show(DrawR.pan ip chain fs env1 σ1).fs.all _=true by simpa only[N7,DrawR.fs]using hfo.2) _ hfm;rw[dH,dH]at h4;rcases h4 with(h4|h4)|h4;{exact absurd (ae h4) hne};{have h4:((iK ops).getD ip 0).testBit j=true:=h4;rw[hbit]at h4;cases h4};exact aB (List.all_eq_true.1 h4 id hw)};have hjlt:j<recs.length:=(by rcases aS j recs.length with h'|h';{exact h'};simp [bZ h']at hj);have m1:=(fN hreg.link hreg.ok (bP j) (Nat.le_of_lt hjlt)).1.next;rw[hreg.link.pre.1,eZ hj]at m1;omega);exact⟨hn,xg hfm hne hbit hn ht⟩
    show DfsR φ' env1.ds a'.defers;rw[kp1,q2];exact he.dfs.mono q4.le
   cases h
  cases h
 cases h
end
end Go.Tw
namespace Go.Tw
section
variable[Val]
variable{P:Program}{R:Nat}{C:Cfg}{D:Nat→Prop}{φ:PM}{σ:St}{w:World}
def lQ(tmps:Array Value):ResultVar→Sem Value
 | .tmp t=>pure (tmps.getD t undef)
 | .cell a t=>do loadVar t (←asAddr (tmps.getD a undef))
omit [Val]in
theorem Bv(fn:Func)(tmps:Array Value):
 results fn tmps=(fn.results.mapM (lQ tmps)>>=fun vs=>pure (if h:vs.size=1 then vs[0]else .tuple vs)):=by
 unfold results;congr 1
theorem zc{fn:Func}{nt:Nat}{env:Env}{a:Act}(he:EnvR φ nt env a):∀(rs:List ResultVar) (σ σ':St) (l:List AV),Inv R C D φ σ w→
 cn P fn env σ rs=some (l,σ')→Known D σ σ'→
 ∃l',(rs.mapM (lQ a.tmps)).run P w=.ok l' w∧VRL φ l l'∧σ'.heap=σ.heap∧σ'.next=σ.next∧σ'.wr=σ.wr:=by
 intro rs
 induction rs with
 |nil=>intro σ σ' l hi h _;simp only[cn,aw,il]at h;obtain⟨rfl,rfl⟩:=h;exact⟨[],by simp,.nil,rfl,rfl,rfl⟩
 |cons r rest ih=>
  intro σ σ' l hi h hk;cases r with
  |tmp t=>simp only[cn]at h;split at h;{rename_i v l1 σ1 hv hr;simp only[aw,il]at h;obtain⟨rfl,rfl⟩:=h;obtain⟨v',g1,g2⟩:=he.val t v hv;obtain⟨l',r1,r2,r3⟩:=ih σ σ1 l1 hi hr hk;exact⟨v'::l',by simp [List.mapM_cons,lQ,g1,r1],.cons g2 r2,r3⟩};cases h
  |cell p t=>
   simp only[cn]at h;split at h
   ·rename_i q hq;split at h
    ·rename_i v σ1 hl;split at h
     ·rename_i l1 σ2 hr;simp only[aw,il]at h;obtain⟨rfl,rfl⟩:=h;obtain⟨q',g1,g2⟩:=he.val p q hq;have s2:StepA σ1 σ2:=eT _ hr;obtain⟨v',m1,m2,m3⟩:=nN hi hl g2 (hk.mono s2);have hsame:σ1.heap=σ.heap∧σ1.next=σ.next∧σ1.wr=σ.wr:=by
       unfold iF at hl;repeat' split at hl
       all_goals (first|(cases hl;done)|(simp only[aw,il]at hl;obtain⟨_,rfl⟩:=hl;exact⟨rfl,rfl,rfl⟩))
      have hi1:Inv R C (cU D σ) φ σ1 w:=m3.inv hi (iE hl);have hi1:Inv R C D φ σ1 w:=⟨hi1.wf,hi1.low,fun i hd hn=>hi1.rep i (.inl hd) hn,hi1.gl,hi1.dom,hi1.pin,hi1.dec,hi1.wrR,hi1.ro,hi1.oh⟩;obtain⟨l',r1,r2,r3,r4,r5⟩:=ih σ1 σ2 l1 hi1 hr (fun i h1 h2=>hk i h1 (by rw[←hsame.2.1];exact h2));refine⟨v'::l',?_,.cons m2 r2,r3.trans hsame.1,r4.trans hsame.2.1,r5.trans hsame.2.2⟩;have hload:(lQ a.tmps (.cell p t)).run P w=.ok v' w:=by
       simp only[lQ,Array.getD_eq_getD_getElem?,g1,Option.getD_some];cases g2 with
       |ptr e o _ _ _ _=>simpa[Instr.loadAt,Instr.sureAddr,asAddr]using m1
       |_=>simp [iF]at hl
      rw[List.mapM_cons];simp only[aQ,hload,r1,aZ,Sem.run_pure]
     cases h
    cases h
   cases h
def given:List AV→AV
 |[v]=>v
 |l=>.tup l
theorem iy{fn:Func}{nt:Nat}{env:Env}{a:Act}{σ':St}{l:List AV}(he:EnvR φ nt env a)(hi:Inv R C D φ σ w)
 (h:cn P fn env σ fn.results.toList=some (l,σ'))(hk:Known D σ σ'):
 ∃v',(results fn a.tmps).run P w=.ok v' w∧VR φ (given l) v'∧Post R D φ σ w σ' φ w:=by
 obtain⟨l',r1,r2,r3,r4,r5⟩:=zc he _ σ σ' l hi h hk;have hrun:(results fn a.tmps).run P w=.ok (if h:l'.toArray.size=1 then l'.toArray[0]else .tuple l'.toArray) w:=by have:(fn.results.mapM (lQ a.tmps)).run P w=.ok l'.toArray w:=(by rw[Array.mapM_eq_mapM_toList];simp [r1]);rw[Bv,aQ,this];rfl
 refine⟨_,hrun,?_,.same hi r3 r4 r5⟩;cases r2 with
 |nil=>exact .tup _ .nil
 |cons hv ht=>
  cases ht with
  |nil=>simpa[given]using hv
  |cons hv2 ht=>have:∀(x y:Value) (r:List Value),(if h:(x::y::r).toArray.size=1 then(x::y::r).toArray[0]else .tuple (x::y::r).toArray)=.tuple (x::y::r).toArray:=(by intro x y r;rw[dif_neg];simp);rw[this];exact .tup _ (.cons hv (.cons hv2 ht))
end
end Go.Tw
namespace Go.Tw
theorem yY:∀{a b:List (AV×Bool)},sg a b=true→a=b:=by
 intro a
 induction a with
 |nil=>intro b h;cases b<;>simp [sg]at h;rfl
 |cons x a ih=>
  intro b h;obtain⟨v,c⟩:=x;cases b with
  |nil=>simp [sg]at h
  |cons y b=>obtain⟨u,d⟩:=y;simp only[sg,al]at h;rw[AV.same_eq h.1.1,gN h.1.2,ih h.2]
theorem Hv:∀{a b:List ADef},sd a b=true→a=b:=by
 intro a
 induction a with
 |nil=>intro b h;cases b<;>simp [sd]at h;rfl
 |cons x a ih=>
  intro b h;cases b with
  |nil=>cases x<;>simp [sd]at h
  |cons y b=>cases x<;>cases y<;>simp only[sd,al,bY]at h;{rw[ae h.1.1,sameL_eq h.1.2,ih h.2]};rw[ae h.1,ih h.2]
theorem Hu{a b:Option AMode}(h:yW a b=true):a=b:=by
 cases a with
 |none=>cases b<;>simp [yW]at h;rfl
 |some a=>
  cases b with
  |none=>cases a<;>simp [yW]at h
  |some b=>cases a<;>cases b<;>simp only[yW,bY]at h;{rfl};rw[yY h]
theorem Hs{a b:AExit}(h:Ht a b=true):a=b:=by cases a<;>cases b<;>simp only[Ht,bY]at h;{rfl};{rw[ae h]};{rw[ae h]};{rfl};rw[yY h]
structure Less(σ:St)(e:AExit)(env:Env)(τ:St)(e':AExit)(env':Env)(τ':St):Prop where
 ex:e'=e
 tm:∀t v,env'.tm.get t=some v→env.tm.get t=some v
 ds:env'.ds=env.ds
 md:env'.md=env.md
 rd:env'.rd=env.rd
 next:τ.next≤τ'.next
 lrd:∀i∈τ.rd,i∈τ'.rd
 lwr:∀i∈τ.wr,i∈τ'.wr
 heap:∀i o,τ'.heap.get i=some o→o=.dead∨τ.heap.get i=some o
 own:∀i∈τ'.wr,i∈τ.wr∨Je σ i=true
theorem Less.refl(σ:St)(e:AExit)(env:Env)(τ:St):Less σ e env τ e env τ:=
 ⟨rfl,fun _ _ h=>h,rfl,rfl,rfl,aE _,fun _ h=>h,fun _ h=>h,fun _ _ h=>.inr h,fun _ h=>.inl h⟩
theorem Less.trans{σ:St}{e1 e2 e3:AExit}{v1 v2 v3:Env}{τ1 τ2 τ3:St}(h:Less σ e1 v1 τ1 e2 v2 τ2)(k:Less σ e2 v2 τ2 e3 v3 τ3):Less σ e1 v1 τ1 e3 v3 τ3:=
 ⟨k.ex.trans h.ex,fun t v x=>h.tm t v (k.tm t v x),k.ds.trans h.ds,k.md.trans h.md,k.rd.trans h.rd,Nat.le_trans h.next k.next,fun i hi=>k.lrd i (h.lrd i hi),fun i hi=>k.lwr i (h.lwr i hi),
   fun i o x=>by rcases k.heap i o x with y|y;{exact .inl y};exact h.heap i o y,
   fun i hi=>by rcases k.own i hi with y|y;{exact h.own i y};exact .inr y⟩
theorem s9(other:T Ob):∀(l:List Nat) (h:T Ob) (j:Nat),(j∈l∨h.get j=none∨h.get j=some .dead∨h.get j=other.get j)→
 ∀o,(dL other l h).get j=some o→o=.dead∨other.get j=some o:=by
 intro l
 induction l with
 |nil=>intro h j hj o ho;have ho:h.get j=some o:=ho;rcases hj with hj|hj|hj|hj;{cases hj};{rw[hj]at ho;cases ho};{rw[hj]at ho;cases ho;exact .inl rfl};rw[←hj];exact .inr ho
 |cons i l ih=>intro h j hj o ho;unfold dL at ho;refine ih _ j ?_ o ho;by_cases e:j=i;{subst e;right;split;{rename_i a b ha hb;rw[ai];split;{rename_i hs;rw[ha,hb,Ob.same_eq hs];exact .inr (.inr rfl)};exact .inr (.inl (T.get_set_same _ _ _))};{exact .inr (.inl (T.get_set_same _ _ _))};rename_i hn;exact .inl hn};have hset:∀x,(h.set i x).get j=h.get j:=fun x=>T.get_set_ne _ _ e;have hk:j∈l∨h.get j=none∨h.get j=some .dead∨h.get j=other.get j:=(by rcases hj with hj|hj;{rcases List.mem_cons.1 hj with hj|hj;{exact absurd hj e};exact .inl hj};exact .inr hj);split;{rw[ai];split;{exact hk};rw[hset];exact hk};{rw[hset];exact hk};exact hk
theorem CM{σ:St}{e1 e2 e:AExit}{v1 v2 v:Env}{τ1 τ2 τ:St}(h:vH σ (.ok e1 v1 τ1) (.ok e2 v2 τ2)=.ok e v τ)(s1:StepA σ τ1)(s2:StepA σ τ2)
 (hd:∀i,σ.next≤i→σ.heap.get i=none):Less σ e1 v1 τ1 e v τ∧Less σ e2 v2 τ2 e v τ:=by
 unfold vH at h;dsimp only at h;rw[ai]at h;split at h
 ·rename_i hb;simp only[al]at hb;obtain⟨⟨⟨⟨⟨b1,b2⟩,b3⟩,b4⟩,b5⟩,b6⟩:=hb;have b1:=Hs b1;have b2:=Hv b2;have b3:=Hu b3;have b4:=gN b4;cases h;have hlwr:∀i,i∈(s8 σ τ1 τ2).wr→(i∈τ1.wr∨i∈τ2.wr):=fun i hi=>List.mem_append.1 hi;refine⟨{
   ex:=rfl
   tm:=fun t u hu=>(T.get_meet _ _ _ _ hu).1
   ds:=rfl
   md:=rfl
   rd:=rfl
   next:=Nat.le_max_left _ _
   lrd:=fun i hi=>List.mem_append.2 (.inl hi)
   lwr:=fun i hi=>List.mem_append.2 (.inl hi)
   heap:=fun i o ho=>by rcases j4 σ τ1 τ2 i with x|⟨_,_,x⟩;{rw[x]at ho;exact .inr ho};rw[x]at ho;cases ho;exact .inl rfl
   own:=fun i hi=>(hlwr i hi).imp id fun x=>List.all_eq_true.1 b6 i x},{
   ex:=b1
   tm:=fun t u hu=>by obtain⟨_,b,hb1,hb2⟩:=T.get_meet _ _ _ _ hu;rw[AV.same_eq hb2];exact hb1
   ds:=b2
   md:=b3
   rd:=b4
   next:=Nat.le_max_right _ _
   lrd:=fun i hi=>List.mem_append.2 (.inr hi)
   lwr:=fun i hi=>List.mem_append.2 (.inr hi)
   heap:=fun i o ho=> ?_
   own:=fun i hi=>(hlwr i hi).symm.imp id fun x=>List.all_eq_true.1 b5 i x}⟩
  rcases j4 σ τ1 τ2 i with x|⟨_,_,x⟩
  ·have h1:τ1.heap.get i=some o:=(by rw[←x];exact ho);have hlt:i<τ1.next:=by
    rcases aS i τ1.next with y|y;{exact y};rw[s1.dom hd i y]at h1;cases h1
   have e:(s8 σ τ1 τ2).heap=qo σ.next (Nat.max τ1.next τ2.next - σ.next) σ.next (dL τ2.heap τ2.wr (dL τ2.heap τ1.wr τ1.heap)):=rfl;by_cases hn:σ.next≤i;{rw[e]at ho;have hmx:τ1.next≤Nat.max τ1.next τ2.next:=Nat.le_max_left _ _;rcases tf (n:=σ.next) (k:=Nat.max τ1.next τ2.next - σ.next) (i:=σ.next) (h:=dL τ2.heap τ2.wr (dL τ2.heap τ1.wr τ1.heap)) (j:=i) hn (by omega) hn with y|y;{rw[y]at ho;cases ho};rw[y]at ho;cases ho;exact .inl rfl};have hlt':i<σ.next:=(by omega);by_cases hw1:i∈τ1.wr;{have h3:=s9 τ2.heap τ1.wr τ1.heap i (.inl hw1);have h4:=pa τ2.heap τ2.wr (dL τ2.heap τ1.wr τ1.heap) i;rcases eD σ.next (Nat.max τ1.next τ2.next - σ.next) σ.next (dL τ2.heap τ2.wr (dL τ2.heap τ1.wr τ1.heap)) i with y|⟨y,_⟩;{rw[e,y]at ho;rcases h4 with z|⟨_,_,z⟩;{rw[z]at ho;exact h3 o ho};rw[z]at ho;cases ho;exact .inl rfl};omega};by_cases hw2:i∈τ2.wr;{have h3:=s9 τ2.heap τ2.wr (dL τ2.heap τ1.wr τ1.heap) i (.inl hw2);rcases eD σ.next (Nat.max τ1.next τ2.next - σ.next) σ.next (dL τ2.heap τ2.wr (dL τ2.heap τ1.wr τ1.heap)) i with y|⟨y,_⟩;{rw[e,y]at ho;exact h3 o ho};omega};right;rw[s2.keep i hlt' hw2,←s1.keep i hlt' hw1];exact h1
  rw[x]at ho;cases ho;exact .inl rfl
 cases h
theorem CL{σ:St}(hd:∀i,σ.next≤i→σ.heap.get i=none):∀{l:List XR} {e:AExit} {v:Env} {τ:St},tn σ l=.ok e v τ→(∀r∈l,r.steps σ)→
 ∀r∈l,∃e1 v1 τ1,r=.ok e1 v1 τ1∧Less σ e1 v1 τ1 e v τ:=by
 intro l
 induction l with
 |nil=>intro e v τ h;cases h
 |cons r l ih=>
  intro e v τ h hs q hq;cases l with
  |nil=>have h:r=.ok e v τ:=h;simp only[oC]at hq;subst hq;exact⟨e,v,τ,h,.refl _ _ _ _⟩
  |cons s l=>
   have h:vH σ r (tn σ (s::l))=.ok e v τ:=h;cases r with
   |no=>cases h
   |ok e1 v1 τ1=>
    cases hj:tn σ (s::l)with
    |no=>rw[hj]at h;cases h
    |ok e2 v2 τ2=>rw[hj]at h;have s1:StepA σ τ1:=hs (.ok e1 v1 τ1) (by simp) τ1 rfl;have s2:StepA σ τ2:=qp (fun r hr=>hs r (List.mem_cons_of_mem _ hr)) τ2 (by rw[hj];rfl);obtain⟨k1,k2⟩:=CM h s1 s2 hd;rcases List.mem_cons.1 hq with rfl|hq;{exact⟨e1,v1,τ1,rfl,k1⟩};obtain⟨e3,v3,τ3,g1,g2⟩:=ih hj (fun r hr=>hs r (List.mem_cons_of_mem _ hr)) q hq;exact⟨e3,v3,τ3,g1,g2.trans k2⟩
section
variable[Val]
variable{P:Program}{R:Nat}{C:Cfg}{D:Nat→Prop}{φ φ':PM}{σ τ τ':St}{w w':World}{e e':AExit}{env env':Env}
theorem MC(hi:Inv R C D φ σ w){i:Nat}(h:Je σ i=true)(hk:i<σ.next→D i):R≤i:=by
 unfold Je at h;rw[ai]at h;split at h;{rename_i hb;exact Nat.le_trans hi.low (aB hb)};rename_i hb;have hlt:i<σ.next:=by rcases aS i σ.next with x|x;{exact x};exact absurd (Nat.ble_eq_true_of_le x) hb
 have hr:=hi.rep i (hk hlt) hlt;split at h;{cases h};{cases h};·cases h
 ·rename_i o n1 n2 n3 ho;rw[ho]at hr;cases o with
  |ro c=>exact absurd rfl (n1 c)
  |dead=>exact absurd rfl n2
  |opq=>exact absurd rfl (n3 _ _ _ _ _ _ _ _)
  |box=>exact hr.1
  |arr=>exact hr.1
  |map=>exact hr.1
  |iter=>exact hr.1
  |miter=>exact hr.1
  |dfr=>exact hr.1
  |loop=>exact hr.1
 cases h
theorem Post.less(hi:Inv R C D φ σ w)(h:Post R D φ σ w τ φ' w')(hl:Less σ e env τ e' env' τ')(hk:Known D σ τ')(s:StepA σ τ):Post R D φ σ w τ' φ' w' where
 le:=h.le
 grow:=fun i h1 h2 v=>h.grow i (by rcases h1 with h1|h1;{exact .inl fun x=>h1 (hl.lwr i x)};exact .inr (Nat.le_trans hl.next h1)) (fun x=>h2 ⟨x.1,Nat.lt_of_lt_of_le x.2 hl.next⟩) v
 wrR:=fun i hi'=>by rcases hl.own i hi' with x|x;{exact h.wrR i x};exact .inr (MC hi x fun y=>hk i (.inr hi') y)
 wf:=h.wf
 blk:=h.blk
 rep:=fun i hi'=>by
  cases ho:τ'.heap.get i with
  |none=>trivial
  |some o=>rcases hl.heap i o ho with x|x;{subst x;trivial};rw[←x];refine h.rep i ?_;rcases hi' with y|⟨y,_⟩;{exact .inl y};refine .inr ⟨y,?_⟩;rcases aS i τ.next with z|z;{exact z};rw[s.dom hi.dom i z]at x;cases x
 frm:=⟨h.frm.size,fun b hb hn=>h.frm.keep b hb fun i hi'=>hn i (hl.lwr i hi'),h.frm.os,h.frm.out,h.frm.tape⟩
end
end Go.Tw
namespace Go.Tw
section
variable[Val]
variable{P:Program}{R:Nat}{C:Cfg}
def XPost(R:Nat)(D:Nat→Prop)(φ:PM)(σ:St)(w:World)(nt:Nat)(ro:Option Nat)(dk:Bool)(base:List Frame)(e:AExit)(env':Env)(σ':St)
 (e':Exit)(a':Act)(cs':List Frame)(w':World):Prop:=
 ∃φ',en φ' e e'∧FrmR φ' nt env' a'∧CsR φ' dk base cs' env'.md∧env'.rd=ro.isSome∧Post R D φ σ w σ' φ' w'
section
variable{D:Nat→Prop}{φ φ1:PM}{σ σ1 σ':St}{w w1:World}{nt:Nat}{ro:Option Nat}{dk:Bool}{base:List Frame}{e:AExit}{env':Env}{e':Exit}{a':Act}{cs':List Frame}{w':World}
theorem XPost.chain(h:Post R D φ σ w σ1 φ1 w1)(s1:StepA σ σ1)(s2:StepA σ1 σ')(k:XPost R (cU D σ) φ1 σ1 w1 nt ro dk base e env' σ' e' a' cs' w'):
 XPost R D φ σ w nt ro dk base e env' σ' e' a' cs' w':=by
 obtain⟨φ',h1,h2,h3,h4,h5⟩:=k;exact⟨φ',h1,h2,h3,h4,h.trans h5 s1 s2⟩
end
def kl(P:Program)(R:Nat)(C:Cfg)(n:Nat):Prop:=
 ∀(nt:Nat) (c:Code) (env:Env) (σ:St) (e:AExit) (env':Env) (σ':St) (D:Nat→Prop) (φ:PM) (a:Act) (cs:List Frame) (w:World) (ro:Option Nat) (dk:Bool) (base:List Frame),
  exec P C n nt c env σ=.ok e env' σ'→Inv R C D φ σ w→FrmR φ nt env a→CsR φ dk base cs env.md→env.rd=ro.isSome→Known D σ σ'→Free φ σ σ'→
  Runs P ro dk c (XPost R D φ σ w nt ro dk base e env' σ') a cs w
def yB(P:Program)(R:Nat)(C:Cfg)(n:Nat):Prop:=
 ∀(nt:Nat) (c:Code) (env:Env) (σ:St) (e:AExit) (env':Env) (σ':St) (D:Nat→Prop) (φ:PM) (a:Act) (cs:List Frame) (w:World) (ro:Option Nat) (dk:Bool) (base:List Frame),
  exec P C n nt (.loop c) env σ=.ok e env' σ'→Inv R C D φ σ w→FrmR φ nt env a→CsR φ dk base cs env.md→env.rd=ro.isSome→Known D σ σ'→Free φ σ σ'→
  ∀(b:Frame) (k:List Item),b.roundOf=ro→b.kind=kindOf dk→∃e' a' cs' w',XPost R D φ σ w nt ro dk base e env' σ' e' a' cs' w'∧
   ArrivesIn (Machine.fenced P Fence.wide) P (lone (b.atR a (.code c:: .inLoop c::k)) cs w) b k cs' e' a' w'
theorem ja{φ:PM}{e':Exit}(h:en φ .normal e'):e'=.normal:=by cases e'<;>simp_all [en]
theorem gR{φ:PM}{e:AExit}{e':Exit}(h:en φ e e')(hn:e≠.normal):e'≠.normal:=by cases e<;>cases e'<;>simp_all [en]
omit [Val]in
theorem CQ{c:Code}{o:Oper}{ops:Array Oper}{it:Operand}{bc:Code}(h:D9 c=some (o,ops,it,bc)):
 ∃id l,c=.seq (.region id ops false) bc∧ops.toList=o::l∧o.op=.next it false∧o.guard=none:=by
 unfold D9 at h;split at h;{rename_i id ops' b;split at h;{rename_i o' l hl;split at h;{rename_i it' ho hg;cases h;exact⟨id,l,rfl,hl,ho,hg⟩};cases h};cases h};cases h
noncomputable def nW(P:Program)(C:Cfg)(n nt:Nat)(env:Env)(o:Oper)(ops:Array Oper)(bc:Code)(p:AV×St):XR:=
 match gP nt env o.dst p.1 with
 |none=>.no
 |some env=>match dE P C (cF P C (exec P C n)) nt ops ops.toList.tail env p.2 with
  | .ok .normal env σ=>exec P C n nt bc env σ
  |r=>r
theorem Nl(hs:bN C){n:Nat}(hx:kl P R C n)(hc:fY P R C (cF P C (exec P C n))){c:Code}{o:Oper}{ops:Array Oper}{it:Operand}{bc:Code}
 (hh:D9 c=some (o,ops,it,bc)){D:Nat→Prop}{φ:PM}{σ:St}{w:World}{nt:Nat}{env:Env}{a:Act}{cs:List Frame}{ro:Option Nat}{dk:Bool}{base:List Frame}
 (hi:Inv R C D φ σ w)(he:FrmR φ nt env a)(hmd:CsR φ dk base cs env.md)(hrd:env.rd=ro.isSome){x:AV}(hev:aD C env it=some x){l:List (AV×St)}
 (hl:o9 x σ=some l)(hk:∀p∈l,Known D σ p.2):
 ∃p∈l,∀eb envb σb,nW P C n nt env o ops bc p=.ok eb envb σb→Known D σ σb→Free φ σ σb→Runs P ro dk c (XPost R D φ σ w nt ro dk base eb envb σb) a cs w:=by
 obtain⟨id,ol,rfl,hol,hop,hg⟩:=CQ hh;obtain⟨p,hp,w',v',hrun,hv,hpost⟩:=FC (P:=P) (t:=o.type) hi hl (fV he.ev hi hev) hk;refine⟨p,hp,fun eb envb σb hX hkb hfb=> ?_⟩;have hcs:cB (cF P C (exec P C n)):=dA hs (aL hs n);have s1:StepA σ p.2:=lh hl p hp;unfold nW at hX;split at hX;{cases hX};rename_i env1 hput;obtain⟨p1,p2,p3⟩:=fp hput;have hsz:ops.size=ol.length+1:=by rw[←Array.length_toList,hol];rfl
 have ho0:ops[0]? =some o:=by rw[←Array.getElem?_toList,hol];rfl
 have htl:ops.toList.tail=ol:=by rw[hol];rfl
 have hrest:∀j,ol[j]? =ops[1+j]? :=fun j=>by rw[←Array.getElem?_toList,hol,Nat.add_comm];rfl
 have hrun':(o.semAt ro a.eval).run P w=.ok (.value v') w':=by rw[Oper.semAt_eq ro _ _ (fun c=>by rw[hop];simp)];unfold execOp;rw[hop];simp [hrun]
 have hwant:Region.wanted o (yielded ops a.tmps)=true:=by unfold Region.wanted;rw[hg]
 refine dY (pZ ?_);rw[hsz,List.range_eq_range',List.range'_succ];refine o6 ho0 hwant (.inl rfl) hrun' ?_;have hi1:=hpost.inv hi s1;have he1:FrmR φ nt env1 (a.put o.dst v'):=he.put hput hv;rw[htl]at hX;cases hr:dE P C (cF P C (exec P C n)) nt ops ol env1 p.2 with
 |no=>rw[hr]at hX;cases hX
 |ok e2 env2 σ2=>
  rw[hr]at hX;have s2:StepA p.2 σ2:=da hcs ol env1 p.2 σ2 (by rw[hr];rfl);have s3:StepA σ2 σb:=by
   cases e2 with
   |normal=>exact aL hs n nt bc env2 σ2 σb (by rw[show exec P C n nt bc env2 σ2=.ok eb envb σb from hX];rfl)
   |_=>cases hX;exact .refl _
  refine uS hc hcs ol 1 env1 p.2 _ cs w' φ (cU D σ) e2 env2 σ2 hr hrest hi1 he1 (p2▸hmd) (p3.trans hrd) ((hkb.mono s3).then) ((hfb.mono s3).then hpost s1) _ fun φ2 e2' a2 cs2 w2 q1 q2 q3 q4 q5=> ?_;have hp2:Post R D φ σ w σ2 φ2 w2:=hpost.trans q5 s1 s2;cases e2 with
  |normal=>have:=ja q1;subst this;have hX:exec P C n nt bc env2 σ2=.ok eb envb σb:=hX;exact Runs.mono (hx nt bc env2 σ2 eb envb σb (cU D σ) φ2 a2 cs2 w2 ro dk base hX (hp2.inv hi (s1.trans s2)) q2 q3 q4 hkb.then (hfb.then hp2 (s1.trans s2))) fun e3 a3 cs3 w3 q=>q.chain hp2 (s1.trans s2) s3
  |_=>
   cases hX;have hnn:e2'≠.normal:=gR q1 (by simp);cases e2' with
   |normal=>exact absurd rfl hnn
   |_=>exact⟨φ2,q1,q2,q3,q4,hp2⟩
theorem FP(hs:bN C){n:Nat}(hx:kl P R C n)(hc:fY P R C (cF P C (exec P C n)))(hl:yB P R C n):yB P R C (n+1):=by
 intro nt c env σ e env' σ' D φ a cs w ro dk base h hi he hm hrd hk hf b k hb hkd;simp only[exec]at h
 -- what comes behind a round
 have hgo:∀(eb:AExit) (envb:Env) (σb:St),StepA σ σb→Runs P ro dk c (XPost R D φ σ w nt ro dk base eb envb σb) a cs w→∀(e2:AExit) (env2:Env) (σ2:St),
  (match(XR.ok eb envb σb)with
    | .ok .normal env σ=>exec P C n nt (.loop c) env σ
    |r=>r)=.ok e2 env2 σ2→Known D σ σ2→Free φ σ σ2→
  ∃e' a' cs' w',XPost R D φ σ w nt ro dk base e2 env2 σ2 e' a' cs' w'∧ArrivesIn (Machine.fenced P Fence.wide) P (lone (b.atR a (.code c:: .inLoop c::k)) cs w) b k cs' e' a' w':=by
  intro eb envb σb s1 hr e2 env2 σ2 h2 hk2 hf2;obtain⟨e1,a1,cs1,w1,q,harr⟩:=hr b (.inLoop c::k) hb hkd;cases eb with
  |normal=>have h2:exec P C n nt (.loop c) envb σb=.ok e2 env2 σ2:=h2;obtain⟨φ1,g1,g2,g3,g4,g5⟩:=q;have:=ja g1;subst this;have s2:StepA σb σ2:=aL hs n nt (.loop c) envb σb σ2 (by rw[h2];rfl);obtain⟨e3,a3,cs3,w3,q3,harr3⟩:=hl nt c envb σb e2 env2 σ2 (cU D σ) φ1 a1 cs1 w1 ro dk base h2 (g5.inv hi s1) g2 g3 g4 hk2.then (hf2.then g5 s1) b k hb hkd;exact⟨e3,a3,cs3,w3,q3.chain g5 s1 s2,.of_steps (StepsIn.trans harr (aO stepR_inLoop)) harr3⟩
  |_=>cases h2;have hnn:e1≠.normal:=(by obtain⟨φ1,g1,_⟩:=q;exact gR g1 (by simp));exact⟨e1,a1,cs1,w1,q,.pass (x:=.inLoop c) rfl (fun _ _=>.inl hnn) harr⟩
 split at h
 ·cases hX:exec P C n nt c env σ with
  |no=>rw[hX]at h;cases h
  |ok eb envb σb=>
   rw[hX]at h;have s1:StepA σ σb:=aL hs n nt c env σ σb (by rw[hX];rfl);have s2:StepA σb σ':=by
    cases eb with
    |normal=>exact aL hs n nt (.loop c) envb σb σ' (by rw[show exec P C n nt (.loop c) envb σb=.ok e env' σ' from h];rfl)
    |_=>cases h;exact .refl _
   exact hgo eb envb σb s1 (hx nt c env σ eb envb σb D φ a cs w ro dk base hX hi he hm hrd (hk.mono s2) (hf.mono s2)) e env' σ' h hk hf
 rename_i o ops it bc hh;split at h;{cases h};rename_i x hev;split at h;{cases h};rename_i l hml;have hcs:cB (cF P C (exec P C n)):=dA hs (aL hs n)
 -- each choice,by way of its round
 let rp:AV×St→XR:=fun p=>match gP nt env o.dst p.1 with
  |none=>.no
  |some env=>match dE P C (cF P C (exec P C n)) nt ops ops.toList.tail env p.2 with
   | .ok .normal env σ=>match exec P C n nt bc env σ with
    | .ok .normal env σ=>exec P C n nt (.loop c) env σ
    |r=>r
   |r=>r
 have h:tn σ (l.map rp)=.ok e env' σ':=h;have hrp:∀p,rp p=(match nW P C n nt env o ops bc p with
  | .ok .normal env σ=>exec P C n nt (.loop c) env σ
  |r=>r):=by
  intro p;unfold nW;cases hpq:gP nt env o.dst p.1 with
  |none=>simp only[rp,hpq]
  |some env1=>
   simp only[rp,hpq];cases dE P C (cF P C (exec P C n)) nt ops ops.toList.tail env1 p.2 with
   |no=>rfl
   |ok e1 v1 τ1=>cases e1<;>rfl
 have hXs:∀p∈l,(nW P C n nt env o ops bc p).steps σ:=by intro p hp;have hs1:=lh hml p hp;unfold nW;split;{exact aJ};rename_i env1 _;have h1:=da (P:=P) (C:=C) hcs (nt:=nt) (ops:=ops) ops.toList.tail env1 p.2;split;{rename_i hr1;exact(aL hs n _ _ _ _).trans (hs1.trans (h1 _ (by rw[hr1];rfl)))};exact h1.trans hs1
 have hsteps:∀r∈l.map rp,r.steps σ:=by intro r hr;obtain⟨p,hp,rfl⟩:=List.mem_map.1 hr;rw[hrp];have:=hXs p hp;split;{rename_i hr1;exact(aL hs n _ _ _ _).trans (this _ (by rw[hr1];rfl))};exact this
 have hless:=CL hi.dom h hsteps;have hXok:∀p∈l,∃eb envb σb e1 v1 τ1,nW P C n nt env o ops bc p=.ok eb envb σb∧StepA σ σb∧StepA p.2 σb∧StepA σb τ1∧
  (match(XR.ok eb envb σb)with
    | .ok .normal env σ=>exec P C n nt (.loop c) env σ
    |r=>r)=.ok e1 v1 τ1∧Less σ e1 v1 τ1 e env' σ':=by
  intro p hp;obtain⟨e1,v1,τ1,g1,g2⟩:=hless (rp p) (List.mem_map_of_mem hp);rw[hrp]at g1;cases hX:nW P C n nt env o ops bc p with
  |no=>rw[hX]at g1;cases g1
  |ok eb envb σb=>
   rw[hX]at g1;refine⟨eb,envb,σb,e1,v1,τ1,rfl,hXs p hp σb (by rw[hX];rfl),?_,?_,g1,g2⟩;{unfold nW at hX;split at hX;{cases hX};rename_i env1 _;have h1:=da (P:=P) (C:=C) hcs (nt:=nt) (ops:=ops) ops.toList.tail env1 p.2;split at hX;{rename_i hr1;exact(h1 _ (by rw[hr1];rfl)).trans (aL hs n _ _ _ _ _ (by rw[hX];rfl))};exact h1 _ (by rw[hX];rfl)};cases eb with
   |normal=>exact aL hs n nt (.loop c) envb σb τ1 (by rw[show exec P C n nt (.loop c) envb σb=.ok e1 v1 τ1 from g1];rfl)
   |_=>cases g1;exact .refl _
 have hkl:∀{τ:St} {e1:AExit} {v1:Env},Less σ e1 v1 τ e env' σ'→Known D σ τ:=fun g i hi' hn=>hk i (hi'.imp (g.lrd i) (g.lwr i)) hn;have hfl:∀{τ:St} {e1:AExit} {v1:Env},Less σ e1 v1 τ e env' σ'→Free φ σ τ:=fun g i h1 h2 v=>hf i h1 (Nat.lt_of_lt_of_le h2 g.next) v;obtain⟨p,hp,hrunp⟩:=Nl hs hx hc hh hi he hm hrd hev hml (fun p hp=>by obtain⟨eb,envb,σb,e1,v1,τ1,_,_,s3,s4,_,g2⟩:=hXok p hp;exact(hkl g2).mono (s3.trans s4));obtain⟨eb,envb,σb,e1,v1,τ1,hX,s2,s3,s4,g1,g2⟩:=hXok p hp;obtain⟨e3,a3,cs3,w3,⟨φ3,q1,q2,q3,q4,q5⟩,harr⟩:=hgo eb envb σb s2 (hrunp eb envb σb hX ((hkl g2).mono s4) ((hfl g2).mono s4)) e1 v1 τ1 g1 (hkl g2) (hfl g2);refine⟨e3,a3,cs3,w3,⟨φ3,by rw[g2.ex];exact q1,⟨⟨q2.ev.size,fun t v hv=>q2.ev.val t v (g2.tm t v hv)⟩,by rw[g2.ds];exact q2.dfs⟩,by rw[g2.md];exact q3,by rw[g2.rd];exact q4,
  q5.less hi g2 hk (s2.trans s4)⟩,harr⟩
omit [Val]in
theorem kQ{b:Frame}{a:Act}{k:List Item}{cs:List Frame}{w:World}{c:Code}:step P (lone (b.atR a (.code (.scope c)::k)) cs w)=.next (lone (b.atR a (.code c:: .inScope c::k)) cs w):=
 step_lone_go (by simp [stepG,stepG.exec,Frame.atR])
omit [Val]in
theorem ji{b:Frame}{a:Act}{k:List Item}{cs:List Frame}{w:World}{c:Code}:step P (lone (b.atR a (.inScope c::k)) cs w)=.next (lone (b.atR a k) cs w):=
 step_lone_go (by simp [stepG,stepG.exec,Frame.atR])
theorem Hm(hs:bN C){n nt:Nat}(hx:kl P R C n){c:Code}{b:Frame}{K:List Item}{m:Machine}{ro:Option Nat}{dk:Bool}{base:List Frame}(hb:b.roundOf=ro)
 (hkd:b.kind=kindOf dk):
 ∀(j:Nat) (D:Nat→Prop) (φ:PM) (σ:St) (w:World) (e0:AExit) (env0:Env) (σ0:St) (e0':Exit) (a0:Act) (cs0:List Frame) (w0:World) (e:AExit) (env':Env) (σ':St),
  jW (exec P C n nt) j c (.ok e0 env0 σ0)=.ok e env' σ'→Inv R C D φ σ w→StepA σ σ0→Known D σ σ'→Free φ σ σ'→XPost R D φ σ w nt ro dk base e0 env0 σ0 e0' a0 cs0 w0→
  ArrivesIn (Machine.fenced P Fence.wide) P m b (.inScope c::K) cs0 e0' a0 w0→
  ∃e' a' cs' w',XPost R D φ σ w nt ro dk base e env' σ' e' a' cs' w'∧ArrivesIn (Machine.fenced P Fence.wide) P m b K cs' e' a' w':=by
 intro j
 induction j with
 |zero=>intro D φ σ w e0 env0 σ0 e0' a0 cs0 w0 e env' σ' h;simp [jW]at h
 |succ j ih=>
  intro D φ σ w e0 env0 σ0 e0' a0 cs0 w0 e env' σ' h hi s0 hk hf hp harr;unfold jW at h;split at h
  ·rename_i l env1 σ1 heq;cases heq;obtain⟨φ1,g1,g2,g3,g4,g5⟩:=hp;have hl:e0'=.goto l:=(by cases e0'<;>simp_all [en]);subst hl;split at h
   ·rename_i rest hfl;cases hr:exec P C n nt rest env0 σ0 with
    |no=>rw[hr]at h;cases j<;>simp [jW]at h
    |ok e1 env2 σ2=>rw[hr]at h;have s1:StepA σ0 σ2:=aL hs n nt rest env0 σ0 σ2 (by rw[hr];rfl);have s2:StepA σ2 σ':=jV (fun c env σ=>aL hs n nt c env σ) j (.ok e1 env2 σ2) (bT (StepA.refl σ2)) σ' (by rw[h];rfl);have hkk:Known (cU D σ) σ0 σ2:=(hk.then).mono s2;have hff:Free φ1 σ0 σ2:=(hf.then g5 s0).mono s2;obtain⟨e2,a2,cs2,w2,q,harr2⟩:=hx nt rest env0 σ0 e1 env2 σ2 (cU D σ) φ1 a0 cs0 w0 ro dk base hr (g5.inv hi s0) g2 g3 g4 hkk hff b (.inScope c::K) hb hkd;have hg:gotoIn l (.inScope c::K)=some (.code rest:: .inScope c::K):=(by simp [gotoIn,hfl]);exact ih D φ σ w e1 env2 σ2 e2 a2 cs2 w2 e env' σ' h hi (s0.trans s1) hk hf (q.chain g5 s0 s1) (.of_steps (harr.1 _ hg) harr2)
   rename_i hfl;cases h;have hx:gotoIn l (.inScope c::K)=gotoIn l K:=(by simp [gotoIn,hfl]);exact⟨.goto l,a0,cs0,w0,⟨φ1,g1,g2,g3,g4,g5⟩,fun k' hk'=>harr.1 k' (by rw[hx];exact hk'),fun hr hk'=>harr.2 hr (by rw[hx];exact hk')⟩
  rename_i hne;cases h;have hng:∀l,e0'≠.goto l:=by
   intro l hl;subst hl;obtain⟨φ1,g1,_⟩:=hp;cases e0 with
   |goto i=>exact hne _ _ _ rfl
   |_=>exact g1
  refine⟨e0',a0,cs0,w0,hp,?_⟩;cases e0' with
  |normal=>exact StepsIn.trans harr (aO ji)
  |exit id=>have hx:exitTo id (.inScope c::K)=exitTo id K:=(by simp [exitTo]);exact⟨fun k' hk'=>harr.1 k' (by rw[hx];exact hk'),fun hr hk'=>harr.2 hr (by rw[hx];exact hk')⟩
  |goto l=>exact absurd rfl (hng l)
  |ret=>exact harr
  |panic ch=>exact harr
  |outgrown=>exact harr
end
end Go.Tw
namespace Go.Tw
section
variable[Val]
variable{P:Program}{R:Nat}{C:Cfg}
omit [Val]in
theorem ue{n:Nat}{k:IntKind}{args l:List AV}{σ τ:St}{cl:Cle}:gB n k args σ≠.call cl l τ:=by
 unfold gB;repeat' split
 all_goals (intro h;cases h)
omit [Val]in
theorem tH{name:String}{sl:Option TypeId}{args l:List AV}{σ τ:St}{cl:Cle}:bM name sl args σ≠.call cl l τ:=by
 unfold bM;simp only[ai];repeat' split
 all_goals first
  |exact ue
  |(intro h;cases h;done)
omit [Val]in
theorem AN{g:FuncId}{l args:List AV}{σ τ:St}{cl:Cle}(h:cZ P g l σ=.call cl args τ):
 cl=.fn g∧args=l∧τ=σ∧∀args' w,(callFunc g args').run P w=.ok (.enter g args') w:=by
 unfold cZ at h;split at h;{rename_i fn hf;split at h;{rename_i c hb;split at h;{cases h};rename_i hn;cases h;exact⟨rfl,rfl,rfl,fun args' w=>by simp [callFunc,hf,hn,hb]⟩};rename_i hb;split at h;{exact absurd h tH};cases h};cases h
omit [Val]in
theorem ze{pend:Option Code}{env env':Env}{σ σ':St}{e:AExit}(h:nq pend env σ=.ok e env' σ'):env'=env∧σ'=σ∧
 ((pend=none∧e=.normal)∨(pend=some .ret∧e=.ret)∨(∃i,pend=some (.exit i)∧e=.exit i)∨(∃i,pend=some (.goto i)∧e=.goto i)):=by
 unfold nq at h;split at h<;>first
  |(cases h;done)
  |(cases h;exact⟨rfl,rfl,by simp⟩)
omit [Val]in
theorem iU{w:World}{b:Nat}{r:Loop}(h:w.heap[b]? =some (.loop r)):(Instr.getLoop b).run P w=.ok r w:=by simp [Instr.getLoop,bA h (by simp)]
omit [Val]in
theorem y9{w:World}{b:Nat}{r:Loop}(h:w.heap[b]? =some (.loop r))(hs:VM r.state≠1):
 (Instr.endLoop b).run P w=.ok r.pending (wset w b (.loop {r with state:=.exhausted})):=by
 have hb:r.state≠LoopState.busy:=by intro hst;rw[hst]at hs;exact absurd rfl hs
 simp [Instr.endLoop,iU h,hb,cN h (by simp)]
theorem HE(hs:bN C){n:Nat}(hc:fY P R C (cF P C (exec P C n))){nt:Nat}{f:Operand}{ps:Array Tmp}{assign body:Code}{env env':Env}{σ σ':St}{e:AExit}
 {D:Nat→Prop}{φ:PM}{a:Act}{cs:List Frame}{w:World}{ro:Option Nat}{dk:Bool}{base:List Frame}
 (h:exec P C (n+1) nt (.rangeFunc f ps assign body) env σ=.ok e env' σ')(hi:Inv R C D φ σ w)(he:FrmR φ nt env a)(hm:CsR φ dk base cs env.md)(hrd:env.rd=ro.isSome)
 (hk:Known D σ σ')(hf:Free φ σ σ'):Runs P ro dk (.rangeFunc f ps assign body) (XPost R D φ σ w nt ro dk base e env' σ') a cs w:=by
 have hcs:cB (cF P C (exec P C n)):=dA hs (aL hs n);simp only[exec,ai]at h;split at h;{cases h};rename_i hrd';have hron:ro=none:=by
  have h1:env.rd=false:=(by simpa using hrd');rw[hrd]at h1;cases ro with
  |none=>rfl
  |some l=>cases h1
 subst hron;split at h
 ·rename_i g first captured hv
  split at h
  ·rename_i cl args τ hcf;obtain⟨rfl,rfl,rfl,hinv⟩:=AN hcf;have hvr:=fV he.ev hi hv;obtain⟨fv,hfe⟩:∃fv,fv=a.eval f:=⟨_,rfl⟩;rw[←hfe]at hvr;cases hvr with
   |fn _ a' b' v1 v2=>
    -- the two objects
    have hs1:StepA σ (σ.mk' .dfr):=.mk' _ _;have hs2:StepA (σ.mk' .dfr) ((σ.mk' .dfr).mk' (.loop 0 none env.tm nt ps.toList assign body)):=.mk' _ _
    -- how the call ends
    have hend:∃σ1,StepA ((σ.mk' .dfr).mk' (.loop 0 none env.tm nt ps.toList assign body)) σ1∧StepA σ1 σ'∧
     ((∃v st pend tm' nt' ps' as' bd',cF P C (exec P C n) (.fn g) (first++[.yld (σ.next+1)]++captured) ((σ.mk' .dfr).mk' (.loop 0 none env.tm nt ps.toList assign body))=.ret v σ1∧
        σ1.heap.get (σ.next+1)=some (.loop st pend tm' nt' ps' as' bd')∧st≠1∧env'={env with ds:=.mark σ.next::env.ds}∧σ'=σ1.put (σ.next+1) .dead∧
        ((pend=none∧e=.normal)∨(pend=some .ret∧e=.ret)∨(∃i,pend=some (.exit i)∧e=.exit i)∨(∃i,pend=some (.goto i)∧e=.goto i)))∨
      (∃c,cF P C (exec P C n) (.fn g) (first++[.yld (σ.next+1)]++captured) ((σ.mk' .dfr).mk' (.loop 0 none env.tm nt ps.toList assign body))=.pan c σ1∧
        env'={env with ds:=.mark σ.next::env.ds}∧σ'=σ1∧e=.panic c)):=by
     split at h;{rename_i v σ1 hcall;have s3:=hcs _ _ _ σ1 (by rw[hcall];rfl);split at h;{rename_i st pend tm' nt' ps' as' bd' hol;split at h;{cases h};rename_i hst;obtain⟨h1,h2,h3⟩:=ze h;subst h1;subst h2;exact⟨σ1,s3,.put _ _ hol,.inl ⟨v,st,pend,tm',nt',ps',as',bd',hcall,hol,KS (Bool.not_eq_true _▸hst),rfl,rfl,h3⟩⟩};cases h};{rename_i c σ1 hcall;cases h;exact⟨_,hcs _ _ _ _ (by rw[hcall];rfl),.refl _,.inr ⟨c,hcall,rfl,rfl,rfl⟩⟩};cases h
    obtain⟨σ1,s3,s4,hend⟩:=hend;have hf1:Free φ σ (σ.mk' .dfr):=hf.mono (hs2.trans (s3.trans s4));have p1:Post R D φ σ w (σ.mk' .dfr) (φ.ins σ.next 0 ⟨w.heap.size,0,0,0,0,[]⟩) (w.alloc (.deferred (some []))):=
     .new hi (Free.at hf1) rfl (aE _) ⟨hi.low,_,PM.ins_same _ _ _ _,cf _ _⟩
    have hi1:=p1.inv hi hs1;have hf2:Free (φ.ins σ.next 0 ⟨w.heap.size,0,0,0,0,[]⟩) (σ.mk' .dfr) ((σ.mk' .dfr).mk' (.loop 0 none env.tm nt ps.toList assign body)):=(hf.mono (s3.trans s4)).then p1 hs1;have hfr1:=he.mono p1.le;refine dD (wpIn_rangeFunc fun fnid _=> ?_);let rec0:Loop:={state:=.ready,pending:=none,fn:=fnid,tmps:=a.tmps,params:=ps,assign:=assign,body:=body,defers:=w.heap.size};have p2:Post R (cU D σ) (φ.ins σ.next 0 ⟨w.heap.size,0,0,0,0,[]⟩) (σ.mk' .dfr) (w.alloc (.deferred (some []))) ((σ.mk' .dfr).mk' (.loop 0 none env.tm nt ps.toList assign body))
     ((φ.ins σ.next 0 ⟨w.heap.size,0,0,0,0,[]⟩).ins (σ.mk' .dfr).next 0 ⟨(w.alloc (.deferred (some []))).heap.size,0,0,0,0,[]⟩) ((w.alloc (.deferred (some []))).alloc (.loop rec0)):=
     .new hi1 (Free.at hf2) rfl (aE _) ⟨hi1.low,_,rec0,PM.ins_same _ _ _ _,cf _ _,rfl,rfl,he.ev.size,rfl,rfl,rfl,fun t v hv=>by obtain⟨v',g1,g2⟩:=hfr1.ev.val t v hv;exact⟨v',g1,g2.mono (PM.le_ins _ _ (Free.at hf2 0))⟩⟩
    have hi2:=p2.inv hi1 hs2;generalize hφ2:(φ.ins σ.next 0 ⟨w.heap.size,0,0,0,0,[]⟩).ins (σ.mk' .dfr).next 0 ⟨(w.alloc (.deferred (some []))).heap.size,0,0,0,0,[]⟩=φ2 at p2 hi2;have hl2:φ2 (σ.next+1) 0=some ⟨w.heap.size+1,0,0,0,0,[]⟩:=(by rw[←hφ2];have:=PM.ins_same (φ.ins σ.next 0 ⟨w.heap.size,0,0,0,0,[]⟩) (σ.mk' .dfr).next 0 ⟨(w.alloc (.deferred (some []))).heap.size,0,0,0,0,[]⟩;simpa[St.mk',World.size_alloc]using this);have hd2:φ2 σ.next 0=some ⟨w.heap.size,0,0,0,0,[]⟩:=(by rw[←hφ2,PM.ins_id _ _ (by simp [St.mk'])];exact PM.ins_same _ _ _ _);have hargs:VRL φ2 (first++[.yld (σ.next+1)]++captured) ((a'++ #[Value.func (.yield (w.heap.size+1)) #[] #[]])++b').toList:=(by have q1:=(v1.mono p1.le).mono p2.le;have q2:=(v2.mono p1.le).mono p2.le;have:=(q1.append (.cons (.yld _ hl2) .nil)).append q2;simpa using this);refine⟨w.heap.size+1,[{target:=.collected w.heap.size,args:= #[]}],(w.alloc (.deferred (some []))).alloc (.loop rec0),
     {target:=.fn (.func g) b',args:=a'++ #[Value.func (.yield (w.heap.size+1)) #[] #[]]},(w.alloc (.deferred (some []))).alloc (.loop rec0),g,
     (a'++ #[Value.func (.yield (w.heap.size+1)) #[] #[]])++b',(w.alloc (.deferred (some []))).alloc (.loop rec0),?_,?_,fun _ _=>trivial,?_,fun h=>by simp [gC,Fence.wide]at h,?_⟩
    {show(Instr.enterLoop fnid a.tmps ps assign body none).run P w=_;have h1:(w.alloc (.deferred (some []))).heap.size=w.heap.size+1:=(by rw[World.size_alloc]);have h2:∀o (w:World),(newObj o).run P w=.ok w.heap.size (w.alloc o):=fun _ _=>rfl;simp only[Instr.enterLoop,aQ,h2,aZ,Sem.run_pure,h1];rfl};{have hmap:Array.map a.eval #[Operand.const (Value.func (Fn.yield (w.heap.size+1)) #[] #[])]= #[Value.func (Fn.yield (w.heap.size+1)) #[] #[]]:=(by simp [Act.eval]);simp only[resolve,←hfe,Deferred.ofValue,hmap];rfl};{show(callFunc g _).run P _=_;exact hinv _ _};refine(callsIn_wide (n:=0)).2 ?_;have hcall0:=hc (.fn g) (first++[.yld (σ.next+1)]++captured) ((σ.mk' .dfr).mk' (.loop 0 none env.tm nt ps.toList assign body)) (cU (cU D σ) (σ.mk' .dfr)) φ2 _ _ hi2 hargs;have hkk:Known (cU (cU D σ) (σ.mk' .dfr)) ((σ.mk' .dfr).mk' (.loop 0 none env.tm nt ps.toList assign body)) σ1:=(Known.then (σ':=σ.mk' .dfr) (hk.mono s4)).then;have hff:Free φ2 ((σ.mk' .dfr).mk' (.loop 0 none env.tm nt ps.toList assign body)) σ1:=((hf.mono s4).then p1 hs1).then p2 hs2;have hfrm:∀φ3,φ2.le φ3→FrmR φ3 nt {env with ds:=.mark σ.next::env.ds} {a with defers:=[{target:=.collected w.heap.size,args:= #[]}]++a.defers}:=(by intro φ3 hle;have hh:=(hfr1.mono p2.le).mono hle;exact⟨hh.ev.same rfl rfl,.cons ⟨_,#[],hle _ _ _ hd2,rfl⟩ hh.dfs⟩);rcases hend with⟨v,st,pend,tm',nt',ps',as',bd',hcall,hol,hst,rfl,rfl,hex⟩|⟨c,hcall,rfl,rfl,rfl⟩
    ·refine Calls.mono (hcall0.1 v σ1 hcall hkk hff) fun ee w3 hq=> ?_;obtain⟨φ3,v',rfl,hv3,p3⟩:=hq;have hi3:=p3.inv hi2 s3;have hlt:=hi3.lt hol;obtain⟨hR,ex,r,hex1,hb,q1,q2,_⟩:=hi3.at hol (.inl (.inl (.inr (by omega))));have hexe:=p3.le _ _ _ hl2;rw[hex1]at hexe;simp only[aw]at hexe;have hblk:ex.blk=w.heap.size+1:=(by rw[hexe]);have hrun:=y9 (P:=P) hb (by rw[q1];exact hst);rw[hblk]at hrun;have p4:Post R (cU (cU (cU D σ) (σ.mk' .dfr)) ((σ.mk' .dfr).mk' (.loop 0 none env.tm nt ps.toList assign body))) φ3 σ1 w3 (σ1.put (σ.next+1) .dead) φ3
      (wset w3 ex.blk (.loop {r with state:=.exhausted})):=.change hi3 hR hlt hex1 trivial
     have ptot:=p1.trans (p2.trans (p3.trans p4 s3 (.put _ _ hol)) hs2 (s3.trans (.put _ _ hol))) hs1 (hs2.trans (s3.trans (.put _ _ hol)));rw[hblk]at ptot;have hx:∀e e',en φ3 e e'→XPost R D φ σ w nt none dk base e {env with ds:=.mark σ.next::env.ds} (σ1.put (σ.next+1) .dead) e'
      {a with defers:=[{target:=.collected w.heap.size,args:= #[]}]++a.defers} cs (wset w3 (w.heap.size+1) (.loop {r with state:=.exhausted})):=
      fun e e' hee=>⟨φ3,hee,hfrm φ3 p3.le,hm.mono ptot.le,hrd,ptot⟩
     have hrun':(Instr.endLoop (w.heap.size+1)).run P w3=.ok pend (wset w3 (w.heap.size+1) (.loop {r with state:=.exhausted})):=(by rw[hrun,q2]);refine⟨pend,_,hrun',?_⟩;rcases hex with⟨rfl,rfl⟩|⟨rfl,rfl⟩|⟨i,rfl,rfl⟩|⟨i,rfl,rfl⟩;{exact hx .normal .normal trivial};{exact wpIn_ret (hx .ret .ret trivial)};{exact wpIn_exit (hx (.exit i) (.exit i) rfl)};exact wpIn_goto (hx (.goto i) (.goto i) rfl)
    refine Calls.mono (hcall0.2 c σ' hcall hkk hff) fun ee w3 hq=> ?_;obtain⟨φ3,c',rfl,hc3,p3⟩:=hq;have ptot:=p1.trans (p2.trans p3 hs2 s3) hs1 (hs2.trans s3);exact⟨φ3,hc3,hfrm φ3 p3.le,hm.mono ptot.le,hrd,ptot⟩
  cases h
 cases h
end
end Go.Tw
namespace Go.Tw
section
variable[Val]
variable{P:Program}{R:Nat}{C:Cfg}
omit [Val]in
theorem Ge:∀{l:List AV} {i:Nat} {e:T AV} {t:Nat} {v:AV},(jb l i e).get t=some v→(i≤t∧l[t - i]? =some v)∨e.get t=some v:=by
 intro l
 induction l with
 |nil=>intro i e t v h;exact .inr h
 |cons x l ih=>intro i e t v h;rcases ih h with⟨h1,h2⟩|h2;{left;refine⟨by omega,?_⟩;have:t - i=(t - (i+1))+1:=(by omega);rw[this,List.getElem?_cons_succ];exact h2};rw[T.get_set]at h2;by_cases ht:t=i;{left;rw[if_pos ht]at h2;refine⟨by omega,?_⟩;rw[ht,Nat.sub_self];exact h2};rw[if_neg ht]at h2;exact .inr h2
theorem ie{φ:PM}{args:List AV}{args':Array Value}(ha:VRL φ args args'.toList){nt:Nat}(hn:args.length≤nt)(m:Option AMode)(b:Bool):
 FrmR φ nt {tm:=jb args 0 .leaf,ds:=[],md:=m,rd:=b} {tmps:=args'++Array.replicate (nt - args'.size) undef,defers:=[]}:=by
 have hsz:args'.size=args.length:=by rw[←ha.length,Array.length_toList]
 refine⟨⟨by simp;omega,fun t v h=> ?_⟩,.nil⟩;rcases Ge h with⟨_,h1⟩|h1;{obtain⟨v',g1,g2⟩:=ha.get h1;refine⟨v',?_,g2⟩;rw[Nat.sub_zero,Array.getElem?_toList]at g1;rw[Array.getElem?_append_left];{exact g1};rcases aS t args'.size with h'|h';{exact h'};rw[Array.getElem?_eq_none h']at g1;cases g1};simp [T.get_leaf]at h1
theorem Inv.bare{D:Nat→Prop}{φ:PM}{σ:St}{w:World}(h:Inv R C D φ σ w):Inv R C D φ σ.bare w:=⟨h.wf,h.low,h.rep,h.gl,h.dom,h.pin,h.dec,fun i hi=>(by cases hi),h.ro,h.oh⟩
theorem Post.outer{D:Nat→Prop}{φ φ':PM}{σ τ:St}{w w':World}(h:Post R D φ σ.bare w τ φ' w')(s:StepA σ.bare τ)(hi:Inv R C D φ σ w)
 (hf:Free φ σ (τ.out σ)):Post R D φ σ w (τ.out σ) φ' w' where
 le:=h.le
 grow:=fun i h1 h2 v=>h.grow i (by rcases h1 with h1|h1;{rcases aS i σ.next with hl|hl;{exact .inl fun hw=>h1 (List.mem_append.2 (.inl (ej.2 ⟨hl,hw⟩)))};right;rcases aS i τ.next with g|g;{exact absurd ⟨hl,g⟩ h2};exact g};exact .inr h1) h2 v
 wrR:=fun i hi'=>by rcases List.mem_append.1 hi' with h1|h1;{exact .inr ((h.wrR i (ej.1 h1).2).resolve_left (by simp [St.bare]))};exact .inl h1
 wf:=h.wf
 blk:=h.blk
 rep:=h.rep
 frm:={
  size:=h.frm.size
  keep:=fun b hb hne=>h.frm.keep b hb fun i hiw v e he=>by rcases aS i σ.next with hl|hl;{exact hne i (List.mem_append.2 (.inl (ej.2 ⟨hl,hiw⟩))) v e he};have hlt:i<τ.next:=(s.wlt hi.dom i hiw).resolve_left (by simp [St.bare]);rw[hf i hl hlt v]at he;cases he
  os:=h.frm.os
  out:=h.frm.out
  tape:=h.frm.tape}
omit [Val]in
theorem Known.bare{D:Nat→Prop}{σ τ:St}(h:Known D σ (τ.out σ)):Known D σ.bare τ:=fun i hi hn=>
 h i (hi.imp (fun h1=>List.mem_append.2 (.inl (ej.2 ⟨hn,h1⟩))) (fun h1=>List.mem_append.2 (.inl (ej.2 ⟨hn,h1⟩)))) hn
omit [Val]in
theorem gA{f:FuncId}{fn:Func}{c:Code}{args:Array Value}{w:World}{Q:Ending→World→Prop}(hf:P.funcs[f]? =some fn)(hb:fn.body=some c)
 (h:∀cs,Runs P none false c (fun e a' cs' w'=>cs'=cs∧bodyPostM Fence.wide 0 P fn Q e a' w') {tmps:=args++Array.replicate (fn.ntmps - args.size) undef,defers:=[]} cs w):
 Calls P f args w Q:=by
 refine(callsIn_wide (n:=0)).1 ⟨trivial,fun cs hr=> ?_⟩;let b:Frame:={(default:Frame)with fn:=f,kind:=.normal,roundOf:=none};have henter:Frame.enter P f args .normal=
  b.atR {tmps:=args++Array.replicate (fn.ntmps - args.size) undef,defers:=[]} [.code c]:=by
  simp [Frame.enter,Frame.atR,hf,hb,b]
 obtain⟨e,a',cs',w',⟨rfl,hq⟩,harr⟩:=h cs b [] rfl rfl;rw[←henter]at harr;cases e with
 |normal=>obtain⟨e',w'',fr',hR,hs,hfn,hl⟩:=leaves_stepsInM a'.defers .returning w' {b.atR a' []with mode:=.returning} cs' rfl rfl rfl hf rfl trivial hr hq;exact⟨e',w'',fr',hR,ComesIn.of_steps (StepsIn.trans harr (aO (stepR_end rfl))) hs,hfn,hl⟩
 |ret=>obtain⟨todo,hs₀⟩:=harr.1 rfl;obtain⟨e',w'',fr',hR,hs,hfn,hl⟩:=leaves_stepsInM a'.defers .returning w' {b.atR a' todo with mode:=.returning} cs' rfl rfl rfl hf rfl trivial hr hq;exact⟨e',w'',fr',hR,ComesIn.of_steps hs₀ hs,hfn,hl⟩
 |panic chain=>obtain⟨todo,hs₀⟩:=harr;obtain⟨e',w'',fr',hR,hs,hfn,hl⟩:=leaves_stepsInM a'.defers (.panicking chain) w' {b.atR a' todo with mode:=.panicking chain} cs' rfl rfl rfl hf rfl trivial hr hq;exact⟨e',w'',fr',hR,ComesIn.of_steps hs₀ hs,hfn,hl⟩
 |exit id=>exact hq.elim
 |goto l=>exact hq.elim
 |outgrown=>exact⟨.outgrown,w',b,hq,harr.resolve_left (by simp [b]),rfl,trivial⟩
omit [Val]in
theorem lG{f:FuncId}{fn:Func}{c:Code}{args:Array Value}{u:FrameMode}{w:World}{Q:Ending→FrameMode→World→Prop}(hf:P.funcs[f]? =some fn)(hb:fn.body=some c)
 (h:∀(c₀:Frame) (cs:List Frame),c₀.mode=u→Runs P none true c (bodyPostS P fn c₀ cs Q) {tmps:=args++Array.replicate (fn.ntmps - args.size) undef,defers:=[]} (c₀::cs) w):
 CallsDIn Fence.wide 0 P f args u w Q:=by
 refine⟨trivial,fun c₀ cs hu hroom=> ?_⟩;let b:Frame:={(default:Frame)with fn:=f,kind:=.deferred,roundOf:=none};have henter:Frame.enter P f args .deferred=
  b.atR {tmps:=args++Array.replicate (fn.ntmps - args.size) undef,defers:=[]} [.code c]:=by
  simp [Frame.enter,Frame.atR,hf,hb,b]
 obtain⟨e,a',cs',w',hq,harr⟩:=h c₀ cs hu b [] rfl rfl;rw[←henter]at harr;cases e with
 |normal=>obtain⟨hd,u',rfl,v,hr,hR⟩:=hq;exact⟨.returned v,u',w',_,hR,StepsIn.trans harr (aO (stepR_end rfl)),rfl,rfl,rfl,hd,fn,hf,hr⟩
 |ret=>obtain⟨hd,u',rfl,v,hr,hR⟩:=hq;obtain⟨todo,hs⟩:=harr.1 rfl;exact⟨.returned v,u',w',_,hR,hs,rfl,rfl,rfl,hd,fn,hf,hr⟩
 |panic chain=>obtain⟨hd,u',rfl,hR⟩:=hq;obtain⟨todo,hs⟩:=harr;exact⟨.panicked chain,u',w',_,hR,hs,rfl,rfl,rfl,hd,fn,hf⟩
 |exit id=>exact hq.elim
 |goto l=>exact hq.elim
 |outgrown=>obtain⟨u',hR⟩:=hq;exact⟨.outgrown,u',w',b,hR,harr.resolve_left (by simp [b]),rfl,rfl,trivial⟩
omit [Val]in
theorem uk{l:Nat}{f:FuncId}{tmps:Array Value}{assign body:Code}{w:World}{Q:Ending→World→Prop}
 (h:∀cs,Runs P (some l) false assign (fun e a₁ cs₁ w₁=>cs₁=cs∧e=.normal∧∃w₂,(Instr.beginRound l).run P w₁=.ok () w₂∧
   Runs P (some l) false body (fun e a' cs' w'=>cs'=cs∧roundPost P l Q e a' w') a₁ cs w₂) {tmps:=tmps,defers:=[]} cs w):
 RoundIn Fence.wide 0 P l f tmps assign body w Q:=by
 refine⟨trivial,fun c cs hr=> ?_⟩;let b:Frame:={(default:Frame)with fn:=f,kind:=.normal,roundOf:=some l};have hb0:Frame.round l f tmps assign body .normal=b.atR {tmps:=tmps,defers:=[]} [.code assign,.beginRound,.code body]:=by simp [Frame.round,Frame.atR,b]
 obtain⟨e,a₁,cs₁,w₁,⟨rfl,rfl,w₂,hbr,hbody⟩,harr⟩:=h (c::cs) b [.beginRound,.code body] rfl rfl;rw[←hb0]at harr;have s1:StepsIn (Machine.fenced P Fence.wide) P (lone (b.atR a₁ [.beginRound,.code body]) (c::cs) w₁) (lone (b.atR a₁ [.code body]) (c::cs) w₂):=aO (stepR_beginRound rfl hbr);obtain⟨e₂,a₂,cs₂,w₃,⟨rfl,hq₂⟩,harr₂⟩:=hbody b [] rfl rfl;cases e₂ with
 |normal=>obtain⟨v,w₄,hend,hR⟩:=hq₂;exact⟨.returned v,w₄,hR,(StepsIn.trans harr s1).trans (StepsIn.trans harr₂ (aO (stepR_round_end rfl rfl hend)))⟩
 |ret=>obtain⟨v,w₄,hend,hR⟩:=hq₂;obtain⟨k₁,hs⟩:=harr₂.2 rfl;exact⟨.returned v,w₄,hR,(StepsIn.trans harr s1).trans (StepsIn.trans hs (aO (stepR_round_ret rfl rfl hend)))⟩
 |exit id=>obtain⟨v,w₄,hend,hR⟩:=hq₂;obtain⟨k₁,hk,hs⟩:=harr₂.2 rfl rfl;exact⟨.returned v,w₄,hR,(StepsIn.trans harr s1).trans (StepsIn.trans hs (aO (stepR_round_exit rfl rfl hk hend)))⟩
 |goto t=>obtain⟨v,w₄,hend,hR⟩:=hq₂;obtain⟨k₁,hk,hs⟩:=harr₂.2 rfl rfl;exact⟨.returned v,w₄,hR,(StepsIn.trans harr s1).trans (StepsIn.trans hs (aO (stepR_round_goto rfl rfl hk hend)))⟩
 |panic chain=>exact hq₂.elim
 |outgrown=>exact hq₂.elim
def VJ(P:Program)(R:Nat)(C:Cfg)(dc:FuncId→List AV→AMode→St→DR):Prop:=
 ∀(f:FuncId) (args:List AV) (m:AMode) (σ:St) (D:Nat→Prop) (φ:PM) (w:World) (args':Array Value) (u:FrameMode),Inv R C D φ σ w→VRL φ args args'.toList→ModeR φ m u→
  (∀m' σ',dc f args m σ=.ret m' σ'→Known D σ σ'→Free φ σ σ'→(∀w,(callFunc f args').run P w=.ok (.enter f args') w)∧
    CallsDIn Fence.wide 0 P f args' u w fun e u' w'=>∃φ' v',e=.returned v'∧ModeR φ' m' u'∧Post R D φ σ w σ' φ' w')∧
  (∀c m' σ',dc f args m σ=.pan c m' σ'→Known D σ σ'→Free φ σ σ'→(∀w,(callFunc f args').run P w=.ok (.enter f args') w)∧
    CallsDIn Fence.wide 0 P f args' u w fun e u' w'=>∃φ' c',e=.panicked c'∧ChainR φ' c c'∧ModeR φ' m' u'∧Post R D φ σ w σ' φ' w')
theorem ChainR.nogoexit{φ:PM}{l:List (AV×Bool)}{l':List PanicEntry}(h:ChainR φ l l'):l'.dropWhile (fun x=> !x.goexit)=[]:=by
 induction h with
 |nil=>rfl
 |cons _ _ ih=>simp [List.dropWhile,ih]
theorem ModeR.settle{φ:PM}{m:AMode}{u:FrameMode}(h:ModeR φ m u):ModeR φ (Dt m) (settle u):=by
 cases m with
 |returning=>cases u<;>simp only[ModeR]at h;trivial
 |panicking c=>
  cases u with
  |panicking c'=>
   simp only[ModeR]at h;cases h with
   |nil=>exact .nil
   |@cons v b v' l l' hv ht=>
    cases b with
    |false=>exact .cons hv ht
    |true=>have:=ht.nogoexit;show ModeR φ .returning (match l'.dropWhile (fun x=> !x.goexit)with|[]=>.returning|rest=>.panicking rest);rw[this];trivial
  |_=>exact h.elim
theorem ModeR.raised{φ:PM}{m:AMode}{u:FrameMode}{c:List (AV×Bool)}{c':List PanicEntry}(h:ModeR φ m u)(hc:ChainR φ c c'):ModeR φ (Dv m c) (raised u c'):=by
 cases m with
 |returning=>cases u<;>simp only[ModeR]at h;exact hc
 |panicking old=>
  cases u with
  |panicking old'=>exact hc.append h
  |_=>exact h.elim
theorem ModeR.notrun{φ:PM}{m:AMode}{u:FrameMode}(h:ModeR φ m u):u≠.run:=by cases m<;>cases u<;>simp_all [ModeR]
omit [Val]in
theorem CallsDIn.mono'{f:FuncId}{args:Array Value}{u:FrameMode}{w:World}{Q Q':Ending→FrameMode→World→Prop}
 (h:CallsDIn Fence.wide 0 P f args u w Q)(hr:∀e u' w',Q e u' w'→Q' e u' w'):CallsDIn Fence.wide (0 - 1) P f args u w Q':=
 CallsDIn.mono h hr
theorem vC{dc:FuncId→List AV→AMode→St→DR}(hdc:VJ P R C dc)(hds:∀f args m σ,(dc f args m σ).steps σ){fn:Func}{env:Env}{a:Act}:
 ∀(ds:List ADef) (ds':List Deferred) (m:AMode) (u:FrameMode) (τ:St) (D:Nat→Prop) (φ:PM) (w:World),Inv R C D φ τ w→EnvR φ fn.ntmps env a→DfsR φ ds ds'→ModeR φ m u→
  (∀v τ',bW P dc fn env ds m τ=.ret v τ'→Known D τ τ'→Free φ τ τ'→∀(Q:Ending→World→Prop),
    (∀φ' v' w',VR φ' v v'→Post R D φ τ w τ' φ' w'→Q (.returned v') w')→LeavesInM Fence.wide 0 P fn a.tmps Q ds' u w)∧
  (∀c τ',bW P dc fn env ds m τ=.pan c τ'→Known D τ τ'→Free φ τ τ'→∀(Q:Ending→World→Prop),
    (∀φ' c' w',ChainR φ' c c'→Post R D φ τ w τ' φ' w'→Q (.panicked c') w')→LeavesInM Fence.wide 0 P fn a.tmps Q ds' u w):=by
 intro ds
 induction ds with
 |nil=>
  intro ds' m u τ D φ w hi he hd hm;cases hd;cases m with
  |returning=>cases u<;>simp only[ModeR]at hm;refine⟨fun v τ' h hk hf Q hQ=> ?_,fun c τ' h hk hf Q hQ=> ?_⟩;{simp only[bW]at h;split at h;{rename_i l τ1 hres;cases h;obtain⟨v',r1,r2,r3⟩:=iy he hi hres hk;exact⟨v',r1,hQ φ v' w r2 r3⟩};cases h};simp only[bW]at h;split at h<;>cases h
  |panicking c0=>cases u<;>simp only[ModeR]at hm;refine⟨fun v τ' h hk hf Q hQ=>by simp [bW]at h,fun c τ' h hk hf Q hQ=> ?_⟩;simp only[bW,CR.pan.injEq]at h;obtain⟨rfl,rfl⟩:=h;exact hQ φ _ w hm (.same hi rfl rfl rfl)
 |cons d ds ih=>
  intro ds' m u τ D φ w hi he hd hm;cases hd with
  |@cons _ d' _ ds' hdd hdt=>
   cases d with
   |mark id=>
    obtain⟨e0,ar,he0,rfl⟩:=hdd;have key:∀(r:CR),bW P dc fn env (.mark id::ds) m τ=r→r≠.no→∀τ',r.st=some τ'→Known D τ τ'→Free φ τ τ'→
     ∃w1,(Instr.takeDeferred e0.blk).run P w=.ok [] w1∧Post R D φ τ w (τ.put id .dead) φ w1∧StepA τ (τ.put id .dead)∧bW P dc fn env ds m (τ.put id .dead)=r:=by
     intro r h hr τ' hst hk hf;simp only[bW]at h;split at h;{rename_i hob;have hs2:StepA (τ.put id .dead) τ':=cj hds ds m (τ.put id .dead) τ' (by rw[h];exact hst);have hs1:StepA τ (τ.put id .dead):=.put _ _ hob;have hlt:=hi.lt hob;have hD:D id:=hk id (.inr (hs2.wr _ (aC.2 (.inl rfl)))) hlt;obtain⟨hR,e,he1,hb⟩:=hi.at hob hD;rw[he0]at he1;cases he1;refine⟨wset w e0.blk (.deferred none),?_,.change hi hR hlt he0 trivial,hs1,h⟩;simp [Instr.takeDeferred,bA hb (by simp),cN hb (by simp)]};exact absurd h.symm hr
    refine⟨fun v τ' h hk hf Q hQ=> ?_,fun c τ' h hk hf Q hQ=> ?_⟩
    ·obtain⟨w1,h1,h2,h3,h4⟩:=key _ h (by simp) τ' rfl hk hf;have hs2:StepA (τ.put id .dead) τ':=cj hds ds m (τ.put id .dead) τ' (by rw[h4];rfl);refine⟨hm.notrun,.inl ⟨e0.blk,w1,rfl,h1,?_⟩⟩;exact(ih ds' m u (τ.put id .dead) (cU D τ) φ w1 (h2.inv hi h3) he hdt hm).1 v τ' h4 hk.then (hf.then h2 h3) Q
      fun φ' v' w' hv hp=>hQ φ' v' w' hv (h2.trans hp h3 hs2)
    obtain⟨w1,h1,h2,h3,h4⟩:=key _ h (by simp) τ' rfl hk hf;have hs2:StepA (τ.put id .dead) τ':=cj hds ds m (τ.put id .dead) τ' (by rw[h4];rfl);refine⟨hm.notrun,.inl ⟨e0.blk,w1,rfl,h1,?_⟩⟩;exact(ih ds' m u (τ.put id .dead) (cU D τ) φ w1 (h2.inv hi h3) he hdt hm).2 c τ' h4 hk.then (hf.then h2 h3) Q
     fun φ' v' w' hv hp=>hQ φ' v' w' hv (h2.trans hp h3 hs2)
   |call f args=>
    obtain⟨cap,ar,rfl,hargs⟩:=hdd;have hargs':VRL φ args (ar++cap).toList:=(by simpa using hargs);have hdcf:=hdc f args m τ D φ w (ar++cap) u hi hargs' hm;have key:∀(r:CR),bW P dc fn env (.call f args::ds) m τ=r→r≠.no→∀τ',r.st=some τ'→Known D τ τ'→Free φ τ τ'→∀(Q:Ending→World→Prop),
     (∀(m1:AMode) (u1:FrameMode) (τ1:St) (φ1:PM) (w1:World),bW P dc fn env ds m1 τ1=r→ModeR φ1 m1 u1→Post R D φ τ w τ1 φ1 w1→StepA τ τ1→StepA τ1 τ'→
       LeavesInM Fence.wide 0 P fn a.tmps Q ds' u1 w1)→LeavesInM Fence.wide 0 P fn a.tmps Q ({target:=.fn (.func f) cap,args:=ar}::ds') u w:=by
     intro r h hr τ' hst hk hf Q hQ;simp only[bW]at h;split at h;{rename_i m1 τ1 hdcr;have hs1:StepA τ τ1:=hds f args m τ τ1 (by rw[hdcr];rfl);have hs2:StepA τ1 τ':=cj hds ds _ τ1 τ' (by rw[h];exact hst);obtain⟨hinv,hcall⟩:=hdcf.1 m1 τ1 hdcr (hk.mono hs2) (hf.mono hs2);refine⟨hm.notrun,.inr ⟨fun h=>by simp [Fence.wide]at h,.func f,cap,f,ar++cap,rfl,hinv w,fun _ _=>trivial,?_⟩⟩;refine CallsDIn.mono' hcall fun e u' w' hq=> ?_;obtain⟨φ1,v',rfl,hm1,hp⟩:=hq;exact hQ _ _ τ1 φ1 w' h hm1.settle hp hs1 hs2};{rename_i c1 m1 τ1 hdcr;have hs1:StepA τ τ1:=hds f args m τ τ1 (by rw[hdcr];rfl);have hs2:StepA τ1 τ':=cj hds ds _ τ1 τ' (by rw[h];exact hst);obtain⟨hinv,hcall⟩:=hdcf.2 c1 m1 τ1 hdcr (hk.mono hs2) (hf.mono hs2);refine⟨hm.notrun,.inr ⟨fun h=>by simp [Fence.wide]at h,.func f,cap,f,ar++cap,rfl,hinv w,fun _ _=>trivial,?_⟩⟩;refine CallsDIn.mono' hcall fun e u' w' hq=> ?_;obtain⟨φ1,c',rfl,hc1,hm1,hp⟩:=hq;exact hQ _ _ τ1 φ1 w' h (hm1.raised hc1) hp hs1 hs2};exact absurd h.symm hr
    refine⟨fun v τ' h hk hf Q hQ=> ?_,fun c τ' h hk hf Q hQ=> ?_⟩
    ·refine key _ h (by simp) τ' rfl hk hf Q fun m1 u1 τ1 φ1 w1 h1 hm1 hp hs1 hs2=> ?_;exact(ih ds' m1 u1 τ1 (cU D τ) φ1 w1 (hp.inv hi hs1) (he.mono hp.le) (hdt.mono hp.le) hm1).1 v τ' h1 hk.then (hf.then hp hs1) Q
      fun φ' v' w' hv hp2=>hQ φ' v' w' hv (hp.trans hp2 hs1 hs2)
    refine key _ h (by simp) τ' rfl hk hf Q fun m1 u1 τ1 φ1 w1 h1 hm1 hp hs1 hs2=> ?_;exact(ih ds' m1 u1 τ1 (cU D τ) φ1 w1 (hp.inv hi hs1) (he.mono hp.le) (hdt.mono hp.le) hm1).2 c τ' h1 hk.then (hf.then hp hs1) Q
     fun φ' v' w' hv hp2=>hQ φ' v' w' hv (hp.trans hp2 hs1 hs2)
end
end Go.Tw
namespace Go.Tw
section
variable[Val]
variable{P:Program}{R:Nat}{C:Cfg}
theorem CsR.last{φ:PM}{c₀:Frame}{cs cs':List Frame}{m:AMode}(h:CsR φ true (c₀::cs) cs' (some m)):∃u',cs'={c₀ with mode:=u'}::cs∧ModeR φ m u':=by obtain⟨_,c₁,rest,m',h2,h3,h4⟩:=h;simp only[List.cons.injEq]at h2;obtain⟨rfl,rfl⟩:=h2;exact⟨m',h3,h4⟩
theorem DfsR.nil_of{φ:PM}{l':List Deferred}(h:DfsR φ [] l'):l'=[]:=by cases h;rfl
theorem KN(hs:bN C){n:Nat}(hx:kl P R C n):VJ P R C (kB P (exec P C n)):=by
 intro f args m σ D φ w args' u hi ha hm;have hlast:∀(r:DR),kB P (exec P C n) f args m σ=r→r≠.no→∃fn c,P.funcs[f]? =some fn∧fn.body=some c∧args.length≤fn.ntmps∧fn.name≠ "runtime.NumGoroutine"∧
  ((∃e env τ τ1 m' l,(e=.ret∨e=.normal)∧exec P C n fn.ntmps c {tm:=jb args 0 .leaf,ds:=[],md:=some m,rd:=false} σ.bare=.ok e env τ∧env.ds=[]∧env.md=some m'∧
     cn P fn env τ fn.results.toList=some (l,τ1)∧r=.ret m' (τ1.out σ))∨
   (∃ch env τ m',exec P C n fn.ntmps c {tm:=jb args 0 .leaf,ds:=[],md:=some m,rd:=false} σ.bare=.ok (.panic ch) env τ∧env.ds=[]∧env.md=some m'∧
     r=.pan ch m' (τ.out σ))):=by
  intro r h hr;unfold kB at h;split at h;{exact absurd h.symm hr};rename_i fn hfn;split at h;{exact absurd h.symm hr};rename_i c hb;simp only[ai]at h;split at h;{rename_i hlen;split at h;{exact absurd h.symm hr};rename_i hname;refine⟨fn,c,hfn,hb,aB hlen,hname,?_⟩;split at h;{rename_i env τ hex;split at h;{rename_i m' l τ1 hds hmd hres;exact .inl ⟨_,env,τ,τ1,m',l,.inl rfl,hex,hds,hmd,hres,h.symm⟩};exact absurd h.symm hr};{rename_i env τ hex;split at h;{rename_i m' l τ1 hds hmd hres;exact .inl ⟨_,env,τ,τ1,m',l,.inr rfl,hex,hds,hmd,hres,h.symm⟩};exact absurd h.symm hr};{rename_i ch env τ hex;split at h;{rename_i m' hds hmd;exact .inr ⟨ch,env,τ,m',hex,hds,hmd,h.symm⟩};exact absurd h.symm hr};exact absurd h.symm hr};exact absurd h.symm hr
 refine⟨fun m' σ' h hk hf=> ?_,fun c m' σ' h hk hf=> ?_⟩;{obtain⟨fn,code,hfn,hb,hlen,hname,hh⟩:=hlast _ h (by simp);refine⟨fun w=>by simp [callFunc,hfn,hname,hb],?_⟩;rcases hh with⟨e,env,τ,τ1,m1,l,hee,hex,hds,hmd,hres,hr⟩|⟨ch,env,τ,m1,hex,hds,hmd,hr⟩;{simp only[DR.ret.injEq]at hr;obtain⟨rfl,rfl⟩:=hr;have s1:StepA σ.bare τ:=aL hs n fn.ntmps code _ σ.bare τ (by rw[hex];rfl);have s2:StepA τ τ1:=eT _ hres;have hk1:Known D σ.bare τ1:=hk.bare;have hf1:Free φ σ.bare τ1:=hf;refine lG hfn hb fun c₀ cs hu=> ?_;have hcs:CsR φ true (c₀::cs) (c₀::cs) (some m):=⟨rfl,c₀,cs,u,rfl,by subst hu;rfl,hm⟩;refine Runs.mono (hx fn.ntmps code _ σ.bare e env τ D φ _ (c₀::cs) w none true (c₀::cs) hex hi.bare (ie ha hlen (some m) false) hcs rfl (hk1.mono s2) (hf1.mono s2)) fun e1 a1 cs1 w1 q=> ?_;obtain⟨φ1,g1,g2,g3,g4,g5⟩:=q;rw[hmd]at g3;obtain⟨u',rfl,hmu⟩:=g3.last;have hd0:a1.defers=[]:=(by have:=g2.dfs;rw[hds]at this;exact this.nil_of);obtain⟨v',r1,r2,r3⟩:=iy g2.ev (g5.inv hi.bare s1) hres hk1.then;have hp:=(g5.trans r3 s1 s2).outer (s1.trans s2) hi hf;rcases hee with rfl|rfl;{cases e1<;>simp only[en]at g1;exact⟨hd0,u',rfl,v',r1,φ1,v',rfl,hmu,hp⟩};cases e1<;>simp only[en]at g1;exact⟨hd0,u',rfl,v',r1,φ1,v',rfl,hmu,hp⟩};cases hr};obtain⟨fn,code,hfn,hb,hlen,hname,hh⟩:=hlast _ h (by simp);refine⟨fun w=>by simp [callFunc,hfn,hname,hb],?_⟩;rcases hh with⟨e,env,τ,τ1,m1,l,hee,hex,hds,hmd,hres,hr⟩|⟨ch,env,τ,m1,hex,hds,hmd,hr⟩;{cases hr};simp only[DR.pan.injEq]at hr;obtain⟨rfl,rfl,rfl⟩:=hr;have s1:StepA σ.bare τ:=aL hs n fn.ntmps code _ σ.bare τ (by rw[hex];rfl);refine lG hfn hb fun c₀ cs hu=> ?_;have hcs:CsR φ true (c₀::cs) (c₀::cs) (some m):=⟨rfl,c₀,cs,u,rfl,by subst hu;rfl,hm⟩;refine Runs.mono (hx fn.ntmps code _ σ.bare _ env τ D φ _ (c₀::cs) w none true (c₀::cs) hex hi.bare (ie ha hlen (some m) false) hcs rfl hk.bare hf) fun e1 a1 cs1 w1 q=> ?_;obtain⟨φ1,g1,g2,g3,g4,g5⟩:=q;rw[hmd]at g3;obtain⟨u',rfl,hmu⟩:=g3.last;have hd0:a1.defers=[]:=by have:=g2.dfs;rw[hds]at this;exact this.nil_of
 cases e1<;>simp only[en]at g1;exact⟨hd0,u',rfl,φ1,_,rfl,g1,hmu,g5.outer s1 hi hf⟩
theorem KR{φ:PM}:∀{ps:List Tmp} {args:List AV} {args':List Value} {tm tm':T AV} {tmps:Array Value},VRL φ args args'→ud ps args tm=some tm'→
 (∀t v,tm.get t=some v→∃v',tmps[t]? =some v'∧VR φ v v')→(∀p∈ps,p<tmps.size)→
 ps.length=args'.length∧((ps.zip args').foldl (fun tmps (x:Tmp×Value)=>tmps.setIfInBounds x.1 x.2) tmps).size=tmps.size∧
  ∀t v,tm'.get t=some v→∃v',((ps.zip args').foldl (fun tmps (x:Tmp×Value)=>tmps.setIfInBounds x.1 x.2) tmps)[t]? =some v'∧VR φ v v':=by
 intro ps
 induction ps with
 |nil=>
  intro args args' tm tm' tmps hv hb aj _;cases hv with
  |nil=>simp only[ud,aw]at hb;subst hb;exact⟨rfl,rfl,aj⟩
  |cons _ _=>simp [ud]at hb
 |cons p ps ih=>
  intro args args' tm tm' tmps hv hb aj hlt;cases hv with
  |nil=>simp [ud]at hb
  |@cons v v' l l' h ht=>simp only[ud]at hb;have hp:=hlt p (by simp);obtain⟨i1,i2,i3⟩:=ih (tmps:=tmps.setIfInBounds p v') ht hb (fun t u hu=>by rw[T.get_set]at hu;by_cases e:t=p;{subst e;rw[if_pos rfl]at hu;cases hu;exact⟨v',by simp [hp],h⟩};rw[if_neg e]at hu;obtain⟨u',h1,h2⟩:=aj t u hu;exact⟨u',by rw[Array.getElem?_setIfInBounds_ne (Ne.symm e)];exact h1,h2⟩) (fun q hq=>by simpa using hlt q (by simp [hq]));refine⟨by simp [i1],?_,?_⟩;{simpa using i2};simpa using i3
omit [Val]in
theorem EZ{s:LoopState}(h:VM s=0):s=.ready:=by cases s<;>simp [VM]at h;rfl
omit [Val]in
theorem si{w:World}{b:Nat}{r:Loop}(h:w.heap[b]? =some (.loop r))(hs:r.state=.ready):
 (Instr.beginRound b).run P w=.ok () (wset w b (.loop {r with state:=.busy})):=by
 simp [Instr.beginRound,iU h,hs,cN h (by simp)]
omit [Val]in
theorem wF{w:World}{b:Nat}{r:Loop}(h:w.heap[b]? =some (.loop r))(j:Option Code):
 (Instr.endRound b j).run P w=.ok (.bool j.isNone) (wset w b (.loop {r with state:=if j.isNone then .ready else .done,pending:=j})):=by
 simp [Instr.endRound,iU h,cN h (by simp)]
omit [Val]in
theorem EG(ps:Array Tmp)(args:Array Value)(tmps:Array Value):
 (ps.zip args).foldl (fun tmps (x:Tmp×Value)=>tmps.setIfInBounds x.1 x.2) tmps=(ps.toList.zip args.toList).foldl (fun tmps (x:Tmp×Value)=>tmps.setIfInBounds x.1 x.2) tmps:=by
 rw[←Array.foldl_toList];simp
omit [Val]in
theorem za{id:Nat}{σ υ σ':St}{env:Env}{jump:Option Code}{v:AV}(h:dZ id σ env υ jump=.ret v σ'):
 ∃st pend tm nt ps as bd,env.ds=[]∧υ.heap.get id=some (.loop st pend tm nt ps as bd)∧v=.bool jump.isNone∧
  σ'=(υ.put id (.loop (bif jump.isNone then 0 else 2) jump tm nt ps as bd)).out σ:=by
 unfold dZ at h;split at h;{rename_i st pend tm nt ps as bd hds ho;cases h;exact⟨st,pend,tm,nt,ps,as,bd,hds,ho,rfl,rfl⟩};cases h
omit [Val]in
theorem sq{id:Nat}{σ υ σ':St}{env:Env}{jump:Option Code}{c:List (AV×Bool)}(h:dZ id σ env υ jump=.pan c σ'):False:=by unfold dZ at h;split at h<;>cases h
theorem Fi(hs:bN C){n:Nat}(hx:kl P R C n){id:Nat}{args:List AV}{σ σ':St}{D:Nat→Prop}{φ:PM}{w:World}{args':Array Value}{v:AV}
 (hi:Inv R C D φ σ w)(ha:VRL φ args args'.toList)(h:mC (exec P C n) id args σ=.ret v σ')(hk:Known D σ σ')(hf:Free φ σ σ'):
 Does P φ (.yld id) args' w fun e w'=>∃φ' v',e=.returned v'∧VR φ' v v'∧Post R D φ σ w σ' φ' w':=by
 unfold mC at h;simp only[ai]at h;split at h
 ·rename_i pend tm nt ps assign body ho;split at h;{cases h};rename_i hps;have hps:∀p∈ps,p<nt:=by
   intro p hp;have h1:ps.all (fun p=>Nat.blt p nt)=true:=(by simpa using hps);exact aR (List.all_eq_true.1 h1 p hp)
  split at h;{cases h};rename_i tm' hb;split at h
  ·rename_i env τ hex;split at h
   ·rename_i pend₂ tm₂ nt₂ ps₂ as₂ bd₂ ho₂
    -- how the body ends
    have hbody:∃e env₃ υ jump,exec P C n nt body env (τ.put id (.loop 1 pend₂ tm₂ nt₂ ps₂ as₂ bd₂))=.ok e env₃ υ∧dZ id σ env₃ υ jump=.ret v σ'∧
     ((e=.normal∧jump=none)∨(e=.ret∧jump=some .ret)∨(∃i,e=.exit i∧jump=some (.exit i))∨(∃i,e=.goto i∧jump=some (.goto i))):=by
     split at h;{rename_i env₃ υ hex₃;exact⟨_,env₃,υ,none,hex₃,h,.inl ⟨rfl,rfl⟩⟩};{rename_i env₃ υ hex₃;exact⟨_,env₃,υ,_,hex₃,h,.inr (.inl ⟨rfl,rfl⟩)⟩};{rename_i i env₃ υ hex₃;exact⟨_,env₃,υ,_,hex₃,h,.inr (.inr (.inl ⟨i,rfl,rfl⟩))⟩};{rename_i i env₃ υ hex₃;exact⟨_,env₃,υ,_,hex₃,h,.inr (.inr (.inr ⟨i,rfl,rfl⟩))⟩};cases h
    obtain⟨e,env₃,υ,jump,hex₃,hre,hjump⟩:=hbody;obtain⟨st₃,pend₃,tm₃,nt₃,ps₃,as₃,bd₃,hds,ho₃,rfl,rfl⟩:=za hre;have hex':exec P C n nt assign {tm:=tm',ds:=[],md:=none,rd:=true} σ.bare=.ok .normal env τ:=hex;have s1:StepA σ.bare τ:=aL hs n nt assign _ σ.bare τ (by rw[hex'];rfl);have s2:StepA τ (τ.put id (.loop 1 pend₂ tm₂ nt₂ ps₂ as₂ bd₂)):=.put _ _ ho₂;have s3:StepA (τ.put id (.loop 1 pend₂ tm₂ nt₂ ps₂ as₂ bd₂)) υ:=aL hs n nt body _ _ υ (by rw[hex₃];rfl);have s4:StepA υ (υ.put id (.loop (bif jump.isNone then 0 else 2) jump tm₃ nt₃ ps₃ as₃ bd₃)):=.put _ _ ho₃;have hlt:=hi.lt ho;have hk1:Known D σ.bare (υ.put id (.loop (bif jump.isNone then 0 else 2) jump tm₃ nt₃ ps₃ as₃ bd₃)):=hk.bare;have hf1:Free φ σ.bare (υ.put id (.loop (bif jump.isNone then 0 else 2) jump tm₃ nt₃ ps₃ as₃ bd₃)):=hf;have hD:D id:=hk1 id (.inr (aC.2 (.inl rfl))) hlt;obtain⟨hR,e0,r,he0,hb0,q1,q2,q3,q4,q5,q6,q7⟩:=hi.at ho hD;intro e1 he1;rw[he0]at he1;simp only[aw]at he1;subst he1;obtain⟨b1,b2,b3⟩:=KR ha hb q7 (fun p hp=>by rw[q3];exact hps p hp);have hsz:args'.size=r.params.size:=(by have:r.params.toList.length=args'.toList.length:=(by rw[q4];exact b1);simpa using this.symm);refine⟨e0.blk,r.fn,(r.params.zip args').foldl (fun tmps (x:Tmp×Value)=>tmps.setIfInBounds x.1 x.2) r.tmps,r.assign,r.body,?_,?_⟩;{simp [Instr.yield,iU hb0,hsz]};rw[EG,q4,q5,q6];refine uk fun cs=> ?_;have hfr:FrmR φ nt {tm:=tm',ds:=[],md:=none,rd:=true}
     {tmps:=(ps.zip args'.toList).foldl (fun tmps (x:Tmp×Value)=>tmps.setIfInBounds x.1 x.2) r.tmps,defers:=[]}:=⟨⟨b2.trans q3,b3⟩,.nil⟩
    refine Runs.mono (hx nt assign _ σ.bare _ env τ D φ _ cs w (some e0.blk) false cs hex' hi.bare hfr ⟨rfl,rfl⟩ rfl (hk1.mono (s2.trans (s3.trans s4))) (hf1.mono (s2.trans (s3.trans s4)))) fun e1 a1 cs1 w1 q=> ?_;obtain⟨φ1,g1,g2,g3,g4,g5⟩:=q;have:=ja g1;subst this;have hmd:env.md=none:=by
     cases hm:env.md with
     |none=>rfl
     |some m=>rw[hm]at g3;have:=g3.1;cases this
    rw[hmd]at g3;have hi1:=g5.inv hi.bare s1;have hlt1:=hi1.lt ho₂;obtain⟨_,e2,r2,he2,hb2,t1,t2,t3,t4,t5,t6,t7⟩:=hi1.at ho₂ (.inl hD);have hee:=g5.le _ _ _ he0;rw[he2]at hee;simp only[aw]at hee;subst hee;have p2:Post R (cU D σ.bare) φ1 τ w1 (τ.put id (.loop 1 pend₂ tm₂ nt₂ ps₂ as₂ bd₂)) φ1 (wset w1 e2.blk (.loop {r2 with state:=.busy})):=
     .change hi1 hR hlt1 he2 ⟨hR,e2,{r2 with state:=.busy},he2,ca _ _ _ (cR hb2),rfl,t2,t3,t4,t5,t6,t7⟩
    have hi2:=p2.inv hi1 s2;refine⟨g3.2,rfl,_,si hb2 (EZ t1),?_⟩;have p12:=g5.trans p2 s1 s2;have hk2:Known (cU (cU D σ.bare) τ) (τ.put id (.loop 1 pend₂ tm₂ nt₂ ps₂ as₂ bd₂)) υ:=(Known.then (σ':=τ) (hk1.mono s4)).then;have hf2:Free φ1 (τ.put id (.loop 1 pend₂ tm₂ nt₂ ps₂ as₂ bd₂)) υ:=(hf1.mono s4).then p12 (s1.trans s2);refine Runs.mono (hx nt body env _ e env₃ υ _ φ1 a1 cs _ (some e2.blk) false cs hex₃ hi2 g2 (by rw[hmd];exact⟨rfl,rfl⟩) g4 hk2 hf2) fun e' a' cs' w' q=> ?_;obtain⟨φ3,k1,k2,k3,k4,k5⟩:=q;have hmd3:env₃.md=none:=by
     cases hm:env₃.md with
     |none=>rfl
     |some m=>rw[hm]at k3;have:=k3.1;cases this
    rw[hmd3]at k3;refine⟨k3.2,?_⟩;have hi3:=k5.inv hi2 s3;have hlt3:=hi3.lt ho₃;obtain⟨_,e3,r3,he3,hb3,u1,u2,u3,u4,u5,u6,u7⟩:=hi3.at ho₃ (.inl (.inl (.inl hD)));have hee:=k5.le _ _ _ he2;rw[he3]at hee;simp only[aw]at hee;subst hee;have p4:Post R (cU (cU (cU D σ.bare) τ) (τ.put id (.loop 1 pend₂ tm₂ nt₂ ps₂ as₂ bd₂))) φ3 υ w' (υ.put id (.loop (bif jump.isNone then 0 else 2) jump tm₃ nt₃ ps₃ as₃ bd₃)) φ3
     (wset w' e3.blk (.loop {r3 with state:=if jump.isNone then .ready else .done,pending:=jump})):=
     .change hi3 hR hlt3 he3 ⟨hR,e3,_,he3,ca _ _ _ (cR hb3),by cases jump<;>rfl,rfl,u3,u4,u5,u6,u7⟩
    have ptot:=g5.trans (p2.trans (k5.trans p4 s3 s4) s2 (s3.trans s4)) s1 (s2.trans (s3.trans s4));have pout:=ptot.outer (s1.trans (s2.trans (s3.trans s4))) hi hf;have hfin:∃v' w'',(Instr.endRound e3.blk jump).run P w'=.ok v' w''∧
     (∃φ' u',Ending.returned v'=.returned u'∧VR φ' (.bool jump.isNone) u'∧Post R D φ σ w ((υ.put id (.loop (bif jump.isNone then 0 else 2) jump tm₃ nt₃ ps₃ as₃ bd₃)).out σ) φ' w''):=
     ⟨_,_,wF hb3 jump,φ3,_,rfl,.bool _,pout⟩
    rcases hjump with⟨rfl,rfl⟩|⟨rfl,rfl⟩|⟨i,rfl,rfl⟩|⟨i,rfl,rfl⟩;{cases e'<;>simp only[en]at k1;exact hfin};{cases e'<;>simp only[en]at k1;exact hfin};{cases e'<;>simp only[en]at k1;subst k1;exact hfin};cases e'<;>simp only[en]at k1;subst k1;exact hfin
   cases h
  cases h
 cases h
omit [Val]in
theorem wJ{ex:Nat→Code→Env→St→XR}{id:Nat}{args:List AV}{σ σ':St}{c:List (AV×Bool)}(h:mC ex id args σ=.pan c σ'):False:=by
 unfold mC at h;simp only[ai]at h;repeat' split at h
 all_goals first
  |(cases h;done)
  |exact sq h
end
end Go.Tw
namespace Go.Tw
section
variable[Val]
variable{P:Program}{R:Nat}{C:Cfg}
def kI(P:Program)(R:Nat)(C:Cfg):Prop:=
 ∀(f:FuncId) (args:List AV) (σ:St) (D:Nat→Prop) (φ:PM) (w:World) (args':Array Value),Inv R C D φ σ w→VRL φ args args'.toList→
  (∀v σ',C.hk f args σ=.ret v σ'→Known D σ σ'→Free φ σ σ'→Calls P f args' w fun e w'=>∃φ' v',e=.returned v'∧VR φ' v v'∧Post R D φ σ w σ' φ' w')∧
  (∀c σ',C.hk f args σ=.pan c σ'→Known D σ σ'→Free φ σ σ'→Calls P f args' w fun e w'=>∃φ' c',e=.panicked c'∧ChainR φ' c c'∧Post R D φ σ w σ' φ' w')
theorem mV(hs:bN C)(hh:kI P R C){n:Nat}(hx:kl P R C n):fY P R C (cF P C (exec P C n)):=by
 intro cl args σ D φ w args' hi ha;cases cl with
 |yld id=>refine⟨fun v σ' h hk hf=> ?_,fun ch σ' h hk hf=> ?_⟩;{exact Fi hs hx hi ha h hk hf};exact(wJ h).elim
 |fn f=>
  have hhk:=hh f args σ D φ w args' hi ha;have hdc:=KN (P:=P) (R:=R) hs hx;have hds:∀f args m σ,(kB P (exec P C n) f args m σ).steps σ:=qx (aL hs n)
  -- by way of the body
  have body:∀(r:CR),cF P C (exec P C n) (.fn f) args σ=r→r≠.no→C.hk f args σ=.no→∃fn c m e env τ,P.funcs[f]? =some fn∧fn.body=some c∧args.length≤fn.ntmps∧
   exec P C n fn.ntmps c {tm:=jb args 0 .leaf,ds:=[],md:=none,rd:=false} σ.bare=.ok e env τ∧
   ((e=.ret∧m=.returning)∨(e=.normal∧m=.returning)∨(∃ch,e=.panic ch∧m=.panicking ch))∧
   (∀v σ',r=.ret v σ'→∃τ1,bW P (kB P (exec P C n)) fn env env.ds m τ=.ret v τ1∧σ'=τ1.out σ)∧
   (∀ch σ',r=.pan ch σ'→∃τ1,bW P (kB P (exec P C n)) fn env env.ds m τ=.pan ch τ1∧σ'=τ1.out σ):=by
   intro r h hr hno;simp only[cF,hno,ai]at h;split at h;{exact absurd h.symm hr};rename_i fn hfn;split at h;{exact absurd h.symm hr};rename_i c hb;split at h
   ·rename_i hlen;have hfin:∀(m:AMode) (env:Env) (τ:St),(match bW P (kB P (exec P C n)) fn env env.ds m τ with
     | .ret v τ=>.ret v (τ.out σ)
     | .pan chain τ=>.pan chain (τ.out σ)
     | .no=>.no)=r→
     (∀v σ',r=.ret v σ'→∃τ1,bW P (kB P (exec P C n)) fn env env.ds m τ=.ret v τ1∧σ'=τ1.out σ)∧
     (∀ch σ',r=.pan ch σ'→∃τ1,bW P (kB P (exec P C n)) fn env env.ds m τ=.pan ch τ1∧σ'=τ1.out σ):=by
     intro m env τ h;refine⟨fun v σ' he=> ?_,fun ch σ' he=> ?_⟩;{rw[he]at h;split at h;{rename_i v1 τ1 hl;cases h;exact⟨τ1,hl,rfl⟩};{cases h};cases h};rw[he]at h;split at h;{cases h};{rename_i v1 τ1 hl;simp only[CR.pan.injEq]at h;obtain⟨rfl,rfl⟩:=h;exact⟨τ1,hl,rfl⟩};cases h
    unfold Nz at h;cases hex:exec P C n fn.ntmps c {tm:=jb args 0 .leaf,ds:=[],md:=none,rd:=false} σ.bare with
    |no=>rw[hex]at h;exact absurd h.symm hr
    |ok e env τ=>
     rw[hex]at h;cases e with
     |ret=>obtain⟨q1,q2⟩:=hfin .returning env τ h;exact⟨fn,c,.returning,_,env,τ,hfn,hb,aB hlen,hex,.inl ⟨rfl,rfl⟩,q1,q2⟩
     |normal=>obtain⟨q1,q2⟩:=hfin .returning env τ h;exact⟨fn,c,.returning,_,env,τ,hfn,hb,aB hlen,hex,.inr (.inl ⟨rfl,rfl⟩),q1,q2⟩
     |panic ch=>obtain⟨q1,q2⟩:=hfin (.panicking ch) env τ h;exact⟨fn,c,.panicking ch,_,env,τ,hfn,hb,aB hlen,hex,.inr (.inr ⟨ch,rfl,rfl⟩),q1,q2⟩
     |exit i=>exact absurd h.symm hr
     |goto i=>exact absurd h.symm hr
   exact absurd h.symm hr
  -- what the body's end leaves
  have go:∀(fn:Func) (c:Code) (m:AMode) (e:AExit) (env:Env) (τ τ1:St) (Q:Ending→World→Prop),P.funcs[f]? =some fn→fn.body=some c→args.length≤fn.ntmps→
   exec P C n fn.ntmps c {tm:=jb args 0 .leaf,ds:=[],md:=none,rd:=false} σ.bare=.ok e env τ→
   ((e=.ret∧m=.returning)∨(e=.normal∧m=.returning)∨(∃ch,e=.panic ch∧m=.panicking ch))→StepA τ τ1→Known D σ (τ1.out σ)→Free φ σ (τ1.out σ)→
   (∀(a':Act) (u:FrameMode) (φ1:PM) (w1:World),Post R D φ σ.bare w τ φ1 w1→Inv R C (cU D σ.bare) φ1 τ w1→FrmR φ1 fn.ntmps env a'→ModeR φ1 m u→Known (cU D σ.bare) τ τ1→Free φ1 τ τ1→
     LeavesInM Fence.wide 0 P fn a'.tmps Q a'.defers u w1)→Calls P f args' w Q:=by
   intro fn c m e env τ τ1 Q hfn hb hlen hex hee s2 hk hf hQ;have s1:StepA σ.bare τ:=aL hs n fn.ntmps c _ σ.bare τ (by rw[hex];rfl);have hk1:Known D σ.bare τ1:=hk.bare;have hf1:Free φ σ.bare τ1:=hf;refine gA hfn hb fun cs=> ?_;refine Runs.mono (hx fn.ntmps c _ σ.bare e env τ D φ _ cs w none false cs hex hi.bare (ie ha hlen none false) ⟨rfl,rfl⟩ rfl (hk1.mono s2) (hf1.mono s2)) fun e1 a1 cs1 w1 q=> ?_;obtain⟨φ1,g1,g2,g3,g4,g5⟩:=q;have hmd:env.md=none:=by
    cases hm:env.md with
    |none=>rfl
    |some m=>rw[hm]at g3;have:=g3.1;cases this
   rw[hmd]at g3;refine⟨g3.2,?_⟩;have hgo:=fun(u:FrameMode) (hm:ModeR φ1 m u)=>hQ a1 u φ1 w1 g5 (g5.inv hi.bare s1) g2 hm hk1.then (hf1.then g5 s1);rcases hee with⟨rfl,rfl⟩|⟨rfl,rfl⟩|⟨ch,rfl,rfl⟩;{cases e1<;>simp only[en]at g1;exact hgo .returning trivial};{cases e1<;>simp only[en]at g1;exact hgo .returning trivial};cases e1<;>simp only[en]at g1;exact hgo (.panicking _) g1
  refine⟨fun v σ' h hk hf=> ?_,fun ch σ' h hk hf=> ?_⟩
  ·show Calls P f args' w _;cases hno:C.hk f args σ with
   |ret v1 τ1=>have:cF P C (exec P C n) (.fn f) args σ=.ret v1 τ1:=(by simp only[cF,hno]);rw[this]at h;cases h;exact hhk.1 _ _ hno hk hf
   |pan c1 τ1=>have:cF P C (exec P C n) (.fn f) args σ=.pan c1 τ1:=(by simp only[cF,hno]);rw[this]at h;cases h
   |no=>
    obtain⟨fn,c,m,e,env,τ,hfn,hb,hlen,hex,hee,hr1,_⟩:=body _ h (by simp) hno;obtain⟨τ1,hl,rfl⟩:=hr1 v σ' rfl;have s1:StepA σ.bare τ:=aL hs n fn.ntmps c _ σ.bare τ (by rw[hex];rfl);have s2:StepA τ τ1:=cj hds _ _ _ τ1 (by rw[hl];rfl);refine go fn c m e env τ τ1 _ hfn hb hlen hex hee s2 hk hf fun a' u φ1 w1 hp hi1 hfr hm hk1 hf1=> ?_;exact(vC hdc hds env.ds a'.defers m u τ (cU D σ.bare) φ1 w1 hi1 hfr.ev hfr.dfs hm).1 v τ1 hl hk1 hf1 _
     fun φ' v' w' hv hp2=>⟨φ',v',rfl,hv,(hp.trans hp2 s1 s2).outer (s1.trans s2) hi hf⟩
  show Calls P f args' w _;cases hno:C.hk f args σ with
  |ret v1 τ1=>have:cF P C (exec P C n) (.fn f) args σ=.ret v1 τ1:=(by simp only[cF,hno]);rw[this]at h;cases h
  |pan c1 τ1=>have:cF P C (exec P C n) (.fn f) args σ=.pan c1 τ1:=(by simp only[cF,hno]);rw[this]at h;simp only[CR.pan.injEq]at h;obtain⟨rfl,rfl⟩:=h;exact hhk.2 _ _ hno hk hf
  |no=>
   obtain⟨fn,c,m,e,env,τ,hfn,hb,hlen,hex,hee,_,hr2⟩:=body _ h (by simp) hno;obtain⟨τ1,hl,rfl⟩:=hr2 ch σ' rfl;have s1:StepA σ.bare τ:=aL hs n fn.ntmps c _ σ.bare τ (by rw[hex];rfl);have s2:StepA τ τ1:=cj hds _ _ _ τ1 (by rw[hl];rfl);refine go fn c m e env τ τ1 _ hfn hb hlen hex hee s2 hk hf fun a' u φ1 w1 hp hi1 hfr hm hk1 hf1=> ?_;exact(vC hdc hds env.ds a'.defers m u τ (cU D σ.bare) φ1 w1 hi1 hfr.ev hfr.dfs hm).2 ch τ1 hl hk1 hf1 _
    fun φ' v' w' hv hp2=>⟨φ',v',rfl,hv,(hp.trans hp2 s1 s2).outer (s1.trans s2) hi hf⟩
theorem Gc(hs:bN C)(hm:P.follows .mixedOrders=true){n:Nat}(hx:kl P R C n)(hl:yB P R C (n+1))
 (hc:fY P R C (cF P C (exec P C n))):kl P R C (n+1):=by
 have hcs:cB (cF P C (exec P C n)):=dA hs (aL hs n);intro nt c env σ e env' σ' D φ a cs w ro dk base h hi he hmd hrd hk hf;cases c with
 |skip=>simp only[exec,XR.ok.injEq]at h;obtain⟨rfl,rfl,rfl⟩:=h;exact Ff ⟨φ,trivial,he,hmd,hrd,.same hi rfl rfl rfl⟩
 |label l=>simp only[exec,XR.ok.injEq]at h;obtain⟨rfl,rfl,rfl⟩:=h;exact Br ⟨φ,trivial,he,hmd,hrd,.same hi rfl rfl rfl⟩
 |ret=>simp only[exec,XR.ok.injEq]at h;obtain⟨rfl,rfl,rfl⟩:=h;exact Hw ⟨φ,trivial,he,hmd,hrd,.same hi rfl rfl rfl⟩
 |exit id=>simp only[exec,XR.ok.injEq]at h;obtain⟨rfl,rfl,rfl⟩:=h;exact Fh ⟨φ,rfl,he,hmd,hrd,.same hi rfl rfl rfl⟩
 |goto l=>simp only[exec,XR.ok.injEq]at h;obtain⟨rfl,rfl,rfl⟩:=h;exact Fg ⟨φ,rfl,he,hmd,hrd,.same hi rfl rfl rfl⟩
 |seq x y=>
  simp only[exec]at h;split at h;{rename_i env1 σ1 h1;have s1:StepA σ σ1:=aL hs n nt x env σ σ1 (by rw[h1];rfl);have s2:StepA σ1 σ':=aL hs n nt y env1 σ1 σ' (by rw[h];rfl);refine dY (Runs.mono (hx nt x env σ _ _ _ D φ a cs w ro dk base h1 hi he hmd hrd (hk.mono s2) (hf.mono s2)) fun e1 a1 cs1 w1 q=> ?_);obtain⟨φ1,g1,g2,g3,g4,g5⟩:=q;have:=ja g1;subst this;exact Runs.mono (hx nt y env1 σ1 e env' σ' (cU D σ) φ1 a1 cs1 w1 ro dk base h (g5.inv hi s1) g2 g3 g4 hk.then (hf.then g5 s1)) fun e2 a2 cs2 w2 q=>q.chain g5 s1 s2};rename_i hne;refine dY (Runs.mono (hx nt x env σ e env' σ' D φ a cs w ro dk base h hi he hmd hrd hk hf) fun e1 a1 cs1 w1 q=> ?_);have hnn:e1≠.normal:=(by obtain⟨φ1,g1,_⟩:=q;refine gR g1 fun h'=> ?_;subst h';exact hne _ _ h);cases e1 with
  |normal=>exact absurd rfl hnn
  |_=>exact q
 |cond x y z=>simp only[exec]at h;split at h;{rename_i hv;have hb:=fV he.ev hi hv;have hb:a.eval x=.bool true:=(by generalize a.eval x=v at hb;cases hb;rfl);exact lO hb (hx nt y env σ e env' σ' D φ a cs w ro dk base h hi he hmd hrd hk hf)};{rename_i hv;have hb:=fV he.ev hi hv;have hb:a.eval x=.bool false:=(by generalize a.eval x=v at hb;cases hb;rfl);exact lO hb (hx nt z env σ e env' σ' D φ a cs w ro dk base h hi he hmd hrd hk hf)};cases h
 |block id x=>
  simp only[exec]at h;split at h;{rename_i j env1 σ1 h1;simp only[ai]at h;split at h;{rename_i hj;cases h;refine cM (Runs.mono (hx nt x env σ _ _ _ D φ a cs w ro dk base h1 hi he hmd hrd hk hf) fun e1 a1 cs1 w1 q=> ?_);obtain⟨φ1,g1,g2⟩:=q;cases e1<;>simp only[en]at g1;subst g1;simp only[dv,ae hj,if_true];exact⟨φ1,trivial,g2⟩};rename_i hj;cases h;refine cM (Runs.mono (hx nt x env σ _ _ _ D φ a cs w ro dk base h1 hi he hmd hrd hk hf) fun e1 a1 cs1 w1 q=> ?_);obtain⟨φ1,g1,g2⟩:=q;cases e1<;>simp only[en]at g1;subst g1;have:j≠id:=KS (Bool.not_eq_true _▸hj);simp only[dv,this,if_false];exact⟨φ1,rfl,g2⟩};rename_i hne;refine cM (Runs.mono (hx nt x env σ e env' σ' D φ a cs w ro dk base h hi he hmd hrd hk hf) fun e1 a1 cs1 w1 q=> ?_);cases e1 with
  |exit j=>exfalso;obtain⟨φ1,g1,_⟩:=q;cases e<;>simp only[en]at g1;exact hne _ _ _ h
  |_=>exact q
 |loop x=>intro b k hb hkd;obtain⟨e1,a1,cs1,w1,q,harr⟩:=hl nt x env σ e env' σ' D φ a cs w ro dk base h hi he hmd hrd hk hf b k hb hkd;exact⟨e1,a1,cs1,w1,q,.of_steps (aO stepR_loop) harr⟩
 |scope x=>
  simp only[exec]at h;intro b k hb hkd;cases hr:exec P C n nt x env σ with
  |no=>rw[hr]at h;cases n<;>simp [jW]at h
  |ok e0 env0 σ0=>rw[hr]at h;have s0:StepA σ σ0:=aL hs n nt x env σ σ0 (by rw[hr];rfl);have s2:StepA σ0 σ':=jV (fun c env σ=>aL hs n nt c env σ) n (.ok e0 env0 σ0) (bT (StepA.refl σ0)) σ' (by rw[h];rfl);obtain⟨e1,a1,cs1,w1,q,harr⟩:=hx nt x env σ e0 env0 σ0 D φ a cs w ro dk base hr hi he hmd hrd (hk.mono s2) (hf.mono s2) b (.inScope x::k) hb hkd;obtain⟨e2,a2,cs2,w2,q2,harr2⟩:=Hm hs hx hb hkd n D φ σ w e0 env0 σ0 e1 a1 cs1 w1 e env' σ' h hi s0 hk hf q harr;exact⟨e2,a2,cs2,w2,q2,.of_steps (aO kQ) harr2⟩
 |region id ops d=>
  cases d with
  |false=>simp only[exec]at h;refine pZ ?_;rw[List.range_eq_range',←Array.length_toList];exact uS hc hcs _ 0 env σ a cs w φ D e env' σ' h (by simp) hi he hmd hrd hk hf _ fun φ' e' a' cs' w' h1 h2 h3 h4 h5=>⟨φ',h1,h2,h3,h4,h5⟩
  |true=>simp only[exec]at h;exact dD (Kv hc hcs hm h hi he hk hf fun φ' e' a' w' h1 h2 h3 h4 h5=>⟨φ',h1,h2,h3▸hmd.mono h5.le,h4.trans hrd,h5⟩)
 |rangeFunc f ps x y=>exact HE hs hc h hi he hmd hrd hk hf
 |refuse m=>simp [exec]at h
theorem tK(hs:bN C)(hh:kI P R C)(hm:P.follows .mixedOrders=true):∀n,kl P R C n∧yB P R C n:=by
 intro n
 induction n with
 |zero=>exact⟨fun nt c env σ e env' σ' D φ a cs w ro dk base h=>by simp [exec]at h,fun nt c env σ e env' σ' D φ a cs w ro dk base h=>by simp [exec]at h⟩
 |succ n ih=>have hl:=FP hs ih.1 (mV hs hh ih.1) ih.2;exact⟨Gc hs hm ih.1 hl (mV hs hh ih.1),hl⟩
theorem KL(hs:bN C)(hh:kI P R C)(hm:P.follows .mixedOrders=true)(n:Nat):fY P R C (cF P C (exec P C n)):=
 mV hs hh (tK hs hh hm n).1
theorem AM(hs:bN C)(hh:kI P R C)(hm:P.follows .mixedOrders=true){n f:Nat}{args:List AV}{σ σ':St}{v:AV}{D:Nat→Prop}{φ:PM}{w:World}{args':Array Value}
 (h:KM P C n f args σ=.ret v σ')(hi:Inv R C D φ σ w)(ha:VRL φ args args'.toList)(hk:Known D σ σ')(hf:Free φ σ σ'):
 Calls P f args' w fun e w'=>∃φ' v',e=.returned v'∧VR φ' v v'∧Post R D φ σ w σ' φ' w':=
 (KL hs hh hm n (.fn f) args σ D φ w args' hi ha).1 v σ' h hk hf
end
end Go.Tw
namespace Go.Tw
open Go.ChangeShapes Go.RowKit
theorem Post.below[Val]{D:Nat→Prop}{σ σ':St}{w w':World}{φ':PM}{R:Nat}(h:Post R D (fun _ _=>none) σ w σ' φ' w'):Below w.heap.size w w':=
 ⟨h.frm.os,h.frm.tape,h.frm.out,h.frm.size,fun k hk=>h.frm.keep k hk fun _ _ _ _ he=>(by cases he)⟩
end Go.Tw
