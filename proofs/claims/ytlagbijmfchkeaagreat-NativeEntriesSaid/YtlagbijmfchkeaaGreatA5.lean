/-
  A part of the proof that the abstract evaluator is sound for the model's machine. Conditions: those of each theorem, as it states them.
-/
import Derived.Test.YtlagbijmfchkeaaGreatA4
set_option linter.all false
namespace Go.Tw
noncomputable section
section
variable[Val]{P:Program}{R:Nat}{D:Nat→Prop}{φ:PM}{σ:St}{w:World}{dec:Bx→Option Bool}
theorem ArrRep.single{id ver t:Nat}{c:List AV}{e:Ext}{cs:Array Value}{fl fh:Nat}(hR:R≤id)(he:φ id ver=some e)(hno:∀v,ver<v→φ id v=none)(hb:w.heap[e.blk]? =some (.cells cs t (fl,fh)))
 (hs:cs.size=e.bsz)(hl:c.length≤e.hi)(hf:fl=fh∨e.bsz≤fl)(hc:∀x a,e.dn≤x→x<c.length→c[x]? =some a→∃a',cs[x+e.up - e.dn]? =some a'∧VR φ a a'):ArrRep R φ w id c ver c.length (ver+1) (ver+1) t:=by
 have hal:∀v,eg ver (ver+1) (ver+1) v→v=ver:=fun v hv=>by rcases hv with h|h;{exact h};omega
 refine⟨hR,aw _,by omega,aw _,fun v hv=>hno v (by omega),fun v hv=> ?_,fun v₁ v₂ e₁ e₂ a1 a2 b1 b2 _=> ?_,fun v e' h1 h2=>by omega⟩;{have:=hal v hv;subst this;have hlm:bK v c.length v e=c.length:=(by simp [bK]);refine⟨e,cs,fl,fh,he,hb,hs,?_,?_,hf,?_⟩<;>rw[hlm];{exact hl};{exact aw _};exact hc};have:=hal v₁ a1;subst this;have:=hal v₂ a2;subst this;rw[b1]at b2;cases b2;exact⟨rfl,rfl⟩
theorem ArrRep.renew{id base lim since nv t:Nat}{c:List AV}(h:ArrRep R φ w id c base lim since (nv+1) t)(hs:since≤nv)(hb:nv≠base):ArrRep R φ w id c nv c.length (nv+1) (nv+1) t∧∃e,φ id nv=some e∧e.hi=c.length:=by
 obtain⟨hR,h1,h2,h3,h4,h5,h6,h7⟩:=h;obtain⟨e,cs,fl,fh,he,hbk,k1,k2,k3,k4,k5⟩:=h5 nv (.inr ⟨hs,by omega⟩);have hhi:=h7 nv e rfl hs hb he;have hlm:bK base lim nv e=e.hi:=by simp [bK,hb]
 rw[hlm]at k5;exact⟨.single hR he (fun v hv=>h4 v (by omega)) hbk k1 (by omega) k4 (fun x a x1 x2 x3=>k5 x a x1 (by omega) x3),e,he,hhi⟩
def Lt(P:Program)(φ:PM)(w:World)(e:TypeId)(ti:TypeInfo)(u:TypeId)(cid:Nat)(l:List Sh)(x2:Sx)(x':Value)(rows:List (List Dat)):Prop:=
 x2.dat=.lst rows∧dv l rows∧∃arr:Array Value,VRL φ (aj cid l rows) arr.toList∧F6 P e ti u rows.length x' arr w
theorem Post.put0{φ':PM}{w':World}{id:Nat}{o:Ob}(hi:Inv0 R D φ σ w)(hR:R≤id)(hlt:id<σ.next)(hle:φ.le φ')(hwf:WF R φ' w')
 (hgrow:∀i,i≠id→∀v,φ' i v=φ i v)(hblk:∀v e,φ' id v=some e→(∃u f,φ id u=some f∧f.blk=e.blk)∨w.heap.size≤e.blk)
 (hfrm:Frm φ [id] w w')(hrep:Rep R φ' w' id (some o)):Post R D φ σ w (σ.put id o) φ' w':=.put hi.inv hR hlt hle hwf hgrow hblk hfrm hrep
theorem Post.recast{φ':PM}{w':World}{id:Nat}{o oc oc':Ob}(hd:D id)(hlt:id<σ.next)(h:Post R D φ {σ with heap:=σ.heap.set id oc} w (St.put {σ with heap:=σ.heap.set id oc} id oc') φ' w')
 (hr:Rep R φ' w' id (some oc')→Rep R φ' w' id (some o)):Post R D φ σ w (σ.put id o) φ' w' where
 le:=h.le
 grow:=h.grow
 wrR:=h.wrR
 wf:=h.wf
 blk:=h.blk
 rep:=fun i hi=>by by_cases e:i=id;{subst e;have:=h.rep i (.inl ⟨hd,hlt⟩);simp only[St.put,T.get_set_same]at this⊢;exact hr this};have:=h.rep i hi;simp only[St.put]at this⊢;rw[T.get_set_ne _ _ e]at this⊢;rw[T.get_set_ne _ _ e]at this;exact this
 frm:=h.frm
theorem Inv0.recast(hi:Inv0 R D φ σ w){id:Nat}{oc:Ob}(hlt:id<σ.next)(hr:Rep R φ w id (some oc)):Inv0 R D φ {σ with heap:=σ.heap.set id oc} w where
 wf:=hi.wf
 wrR:=hi.wrR
 low:=hi.low
 rep:=fun i hd hn=>by by_cases e:i=id;{subst e;simp only[T.get_set_same];exact hr};simp only[T.get_set_ne _ _ e];exact hi.rep i hd hn
 dom:=fun i hn=>by have:i≠id:=(by have:σ.next≤i:=hn;omega);simp only[T.get_set_ne _ _ this];exact hi.dom i hn
theorem Bq(hi:Inv0 R D φ σ w){t u ty e:TypeId}{ti:TypeInfo}{z':Value}{a:AV}{a' x':Value}{o:Own}{x2 y':Sx}{rows2:List (List Dat)}
 (hoo:fK σ a=some o)(ha:VR φ a a')(hd:D o.id)(ht:P.underlying t=some (.slice e))(hti:P.info? e=some ti)(hsz:ti.size=o.l.length)
 (rz:∀w,(zeroValue e).run P w=.ok z' w)(hzs:z'.cells.size=o.l.length)(het:o.t=e)(hsrc:Lt P φ w e ti u o.cid o.l x2 x' rows2)
 (hb1:∀rows,o.x.dat=.lst rows→rows.length≤1000000000)(hb2:rows2.length≤1000000000)(hbw:ti.bytes≤16384)(hy:y'.dat=.int (dO (decide (o.y.dat.toI≠0∨rows2≠[])))):
 ∃φ' w' v',(Builtin.append_ #[t,u] ty #[a',x']).run P w=.ok v' w'∧VR φ' (.opq 2 o.id (o.ver+1) (.slc o.l) (.lit 0) y') v'∧
  Post R D φ σ w (σ.put o.id (.opq 2 (o.ver+1) o.cid (.slc o.l) (.pr 9 o.x x2) y' [] o.t)) φ' w':=by
 obtain⟨z,_,ho,hl0⟩:=gA hoo;obtain⟨rows,hx,hr,hor⟩:=ga hi hoo ha hd;obtain⟨hx2,hr2,arr,hv2,hap⟩:=hsrc;have hlt:=hi.lt ho;have hrows:=hb1 rows hx;have hxx:(Sx.pr 9 o.x x2).dat=.lst (rows++rows2):=by show Dat.lst (o.x.dat.toL++x2.dat.toL)=_;rw[hx,hx2];rfl
 have hrr:dv o.l (rows++rows2):=fun r hm=>by rcases List.mem_append.1 hm with h|h;{exact hr r h};exact hr2 r h
 have hl2:=ay o.cid o.l rows2 (aN hr2);have hl1:=ay o.cid o.l rows (aN hr);have harr:arr.size=rows2.length*o.l.length:=by have:=hv2.length;simp [hl2]at this;exact this
 have hbig:∀n:Nat,n≤2000000000→(2*n+1024)*ti.bytes≤70368744177664:=fun n hn=>by have:(2*n+1024)*ti.bytes≤4000001024*16384:=Nat.mul_le_mul (by omega) hbw;omega
 rcases hor with⟨b,rfl,y0,rfl,hR,hno⟩|⟨ex,c,rfl,y1,he,hdn,hhi,hc,hbs,har⟩
 ·by_cases h2:rows2=[];{subst h2;have hy0:y'.dat=.int 0:=(by rw[hy,y0];rfl);have:arr= #[]:=(by apply Array.eq_empty_of_size_eq_zero;simpa using harr);subst this;refine⟨φ,w,.slice b 0 0,run_append_fits (w':=w) ht hti hap (aw _) (by cases b<;>rfl),.opq _ (.inl ⟨hy0,b,rfl⟩),.put0 hi hR hlt φ.le_refl hi.wf (fun _ _ _=>rfl) (fun v e he=>.inl ⟨v,e,he,rfl⟩) (.refl _ _ _) ?_⟩;exact⟨o.l,[],rfl,hxx,hrr,.inl ⟨hy0,rfl,rfl,hR,fun v hv=>hno v (by omega)⟩⟩};have hn0:rows2.length≠0:=fun h=>h2 (List.length_eq_zero_iff.1 h);have hy1:y'.dat=.int 1:=(by rw[hy];simp [h2,dO]);obtain⟨c',hc',hrun⟩:=ej (ty:=ty) (base:=b) (bR:=0) (sCap:=0) (n:=rows2.length) (old:= #[]) ht hti hap rz (by omega) (by cases b<;>simp [Builtin.firstCells,loadCells,loadCellsFrom]) (by omega) (rF (by omega) (hbig _ (by omega)));have hwd:WF R φ w.drew:=⟨hi.wf.inj,hi.wf.lt,hi.wf.top⟩;have hcs:(#[]++arr++Builtin.zeroCells z'.cells (c' - (0+rows2.length)):Array Value).size=c'*o.l.length:=by
   rw[Array.size_append,Array.size_append,fj,hzs,harr];have e1:rows2.length*o.l.length+(c' - (0+rows2.length))*o.l.length=c'*o.l.length:=(by rw[←Nat.add_mul];congr 1;omega);simpa using e1
  have hle':rows2.length*o.l.length≤c'*o.l.length:=ix _ (by omega);generalize hcsd:(#[]++arr++Builtin.zeroCells z'.cells (c' - (0+rows2.length)):Array Value)=cs at hcs hrun;have aF:∀k,k<rows2.length*o.l.length→cs[k]? =arr[k]? :=fun k hk=>(by rw[←hcsd,Array.empty_append,Array.getElem?_append_left (by omega)]);let ex:Ext:=⟨w.heap.size,0,0,rows2.length*o.l.length,c'*o.l.length,[]⟩;have hle:=φ.le_ins ex (hno (o.ver+1) (by omega));refine⟨φ.ins o.id (o.ver+1) ex,_,_,hrun,.opq _ (.inr ⟨hy1,o.l,ex,c',rows2.length,rfl,PM.ins_same _ _ _ _,rfl,rfl,by omega,by simp [ex],?_⟩),?_⟩;{simp [ex]};have hid:∀i,i≠o.id→∀v,φ.ins o.id (o.ver+1) ex i v=φ i v:=fun i h v=>φ.ins_id ex h v;have htop:ex.hi+ex.up≤ex.bsz+ex.dn:=(by show rows2.length*o.l.length+0≤c'*o.l.length+0;omega);have hi2:Inv0 R D φ σ w.drew:=hi.inv.drew.inv0;refine Post.drew (.put0 hi2 hR hlt hle (hwd.alloc _ rfl htop) hid (fun v f hf=> ?_) ⟨by rw[World.size_alloc];omega,fun b' hb' _=>jS _ _ hb',rfl,rfl,rfl⟩ ?_);{unfold PM.ins at hf;split at hf;{cases hf;exact .inr (aw _)};exact .inl ⟨v,f,hf,rfl⟩};refine⟨o.l,[]++rows2,rfl,hxx,hrr,.inr ⟨hy1,⟨ex,PM.ins_same _ _ _ _,?_⟩,?_⟩⟩;{rw[List.append_nil,List.nil_append,hl2]};rw[List.append_nil,List.nil_append,het];refine .single hR (PM.ins_same _ _ _ _) (fun v hv=>by rw[PM.ins_ver _ _ (by omega)];exact hno v (by omega)) (cm _ _) (by simpa using hcs) (by rw[hl2];exact aw _) (.inl rfl) fun x a _ x2 x3=> ?_;rw[hl2]at x2;obtain⟨a',q1,q2⟩:=hv2.get x3;refine⟨a',?_,q2.mono hle⟩;show cs[x+0 - 0]? =some a';rw[Nat.add_zero,Nat.sub_zero,aF x x2];simpa using q1
 have hR:=har.1;have hno:∀v,o.ver+1≤v→φ o.id v=none:=har.2.2.2.2.1;have hy1:y'.dat=.int 1:=by rw[hy,y1];simp [Dat.toI,dO]
 by_cases h2:rows2=[];{subst h2;have:arr= #[]:=(by apply Array.eq_empty_of_size_eq_zero;simpa using harr);subst this;have hst:(storeCells ((⟨ex.blk,ex.up,none⟩:Addr).add (rows.length*ti.size)) (#[]:Array Value).toList).run P w=.ok () w:=rfl;have hrun:=run_append_fits (ty:=ty) (w':=w) (base:=some ⟨ex.blk,ex.up,none⟩) (bR:=rows.length) (sCap:=c) ht hti hap (by simpa using hc) hst;have hle:=φ.le_ins ex (hno (o.ver+1) (aw _));refine⟨φ.ins o.id (o.ver+1) ex,w,_,hrun,.opq _ (.inr ⟨hy1,o.l,ex,c,rows.length,rfl,PM.ins_same _ _ _ _,hdn,hhi.symm,hc,hbs,rfl⟩),?_⟩;refine .put0 hi hR hlt hle (hi.wf.ver he hR rfl (hi.wf.top _ _ _ he)) (fun i h v=>φ.ins_id ex h v) (fun v f hf=> ?_) (.refl _ _ _) ?_;{unfold PM.ins at hf;split at hf;{cases hf;exact .inl ⟨o.ver,ex,he,rfl⟩};exact .inl ⟨v,f,hf,rfl⟩};obtain⟨e3,cs,fl,fh,he3,hb,k1,k2,k4,k5⟩:=eW har;rw[he]at he3;cases he3;refine⟨o.l,rows++[],rfl,hxx,hrr,.inr ⟨hy1,⟨ex,PM.ins_same _ _ _ _,?_⟩,?_⟩⟩;{rw[List.append_nil,List.append_nil,hl1];exact hhi};rw[List.append_nil,List.append_nil];exact .single hR (PM.ins_same _ _ _ _) (fun v hv=>by rw[PM.ins_ver _ _ (by omega)];exact hno v (by omega)) hb k1 k2 k4 fun x a x1 x2 x3=>let⟨a',q1,q2⟩:=k5 x a x1 x2 x3;⟨a',q1,q2.mono hle⟩};have hn0:rows2.length≠0:=fun h=>h2 (List.length_eq_zero_iff.1 h);have hi2:=hi.recast hlt (oc:=.arr (aj o.cid o.l rows) o.ver (aj o.cid o.l rows).length (o.ver+1) (o.ver+1) o.t) har;have hlim:bK o.ver (aj o.cid o.l rows).length o.ver ex=(aj o.cid o.l rows).length:=by simp [bK]
 obtain⟨φ',w',v',q1,q2,q3⟩:=fY (P:=P) (ty:=ty) (u:=u) (x':=x') (arr:=arr) (new:=aj o.cid o.l rows2) (σ:={σ with heap:=σ.heap.set o.id (.arr (aj o.cid o.l rows) o.ver (aj o.cid o.l rows).length (o.ver+1) (o.ver+1) o.t)})
  (id:=o.id) (ver:=o.ver) (off:=0) (len:=rows.length) (base:=o.ver) (lim:=(aj o.cid o.l rows).length) (since:=o.ver+1) (base':=o.ver) (lim':=0) (since':=o.ver+1) (nv:=o.ver+1) (et:=o.t) (o:=ex.up) (cc:=c) (c:=aj o.cid o.l rows) (ex:=ex)
  hi2.inv ht hti hsz rz hzs hap hv2 hl2 (pe _ _ _) hn0 (T.get_set_same _ _ _) hd he (by omega) hc (.inr ⟨by omega,by omega⟩) (hbig _ (by omega)) (by omega) (.inl rfl) (by rw[hlim,hl1];omega) het
  (by intro v hv;rcases hv with rfl|⟨h1,h2⟩;{exact .inr ⟨.inl rfl,by omega,fun f _=>by simp [bK]⟩};exact .inl (by omega)) (by omega) (by omega) (aP _) (by omega)
 rw[Nat.zero_add,←hl1,List.take_length,←cE]at q3;refine⟨φ',w',v',q1,?_,Post.recast hd hlt q3 fun hrep=> ?_⟩
 ·have hrep:=q3.rep o.id (.inl ⟨hd,hlt⟩);simp only[St.put,T.get_set_same]at hrep;have hrep:ArrRep R φ' w' o.id (aj o.cid o.l (rows++rows2)) o.ver 0 (o.ver+1) (o.ver+1+1) o.t:=hrep;obtain⟨_,e2,he2,hh2⟩:=hrep.renew (aw _) (by omega);cases q2 with
  |slc ex2 o2 c2 g1 g2 g3 g4 g5 g6=>rw[he2]at g1;cases g1;rcases g6 with g6|⟨g6,g7⟩;{omega};have:o2=e2.up:=(by omega);subst this;refine .opq _ (.inr ⟨hy1,o.l,_,c2,rows.length+rows2.length,rfl,he2,by omega,?_,g4,g7,rfl⟩);rw[hh2,ay _ _ _ (aN hrr),cZ]
 have hrep:ArrRep R φ' w' o.id (aj o.cid o.l (rows++rows2)) o.ver 0 (o.ver+1) (o.ver+1+1) o.t:=hrep;obtain⟨r1,e2,he2,hh2⟩:=hrep.renew (aw _) (by omega);refine⟨o.l,rows++rows2,rfl,hxx,hrr,.inr ⟨hy1,⟨e2,he2,?_⟩,?_⟩⟩;{rw[List.append_nil];exact hh2};rw[List.append_nil];exact r1
theorem Post.mk0{o:Ob}(hi:Inv0 R D φ σ w)(hrep:Rep R φ w σ.next (some o)):Post R D φ σ w (σ.mk' o) φ w where
 le:=φ.le_refl
 grow:=fun _ _ _ _=>rfl
 wrR:=fun _ h=>.inl h
 wf:=hi.wf
 blk:=fun i v e he=>.inl ⟨v,e,he,rfl⟩
 rep:=fun i h=>by by_cases e:i=σ.next;{subst e;simpa[St.mk',T.get_set_same]using hrep};have:(σ.mk' o).heap.get i=σ.heap.get i:=T.get_set_ne _ _ e;rw[this];have hl:i<σ.next:=(by rcases h with⟨_,h⟩|⟨h1,h2⟩;{exact h};simp only[St.mk']at h2;omega);have hd:D i:=(by rcases h with⟨h,_⟩|⟨h1,h2⟩;{exact h};omega);exact hi.rep i hd hl
 frm:=.refl _ _ _
theorem Dj(hi:Inv0 R D φ σ w){t u ty e:TypeId}{ti:TypeInfo}{z':Value}{b:Option Addr}{x':Value}{cid:Nat}{l:List Sh}{x2 y':Sx}{rows2:List (List Dat)}
 (hfree:∀v,φ σ.next v=none)(ht:P.underlying t=some (.slice e))(hti:P.info? e=some ti)(_hsz:ti.size=l.length)
 (rz:∀w,(zeroValue e).run P w=.ok z' w)(hzs:z'.cells.size=l.length)(hsrc:Lt P φ w e ti u cid l x2 x' rows2)
 (hb2:rows2.length≤1000000000)(hbw:ti.bytes≤16384)(hy:y'.dat=.int (dO (decide (rows2≠[])))):
 ∃φ' w' v',(Builtin.append_ #[t,u] ty #[.slice b 0 0,x']).run P w=.ok v' w'∧VR φ' (.opq 2 σ.next 0 (.slc l) (.lit 0) y') v'∧
  Post R D φ σ w (σ.mk' (.opq 2 0 cid (.slc l) x2 y' [] e)) φ' w':=by
 obtain⟨hx2,hr2,arr,hv2,hap⟩:=hsrc;have hl2:=ay cid l rows2 (aN hr2);have harr:arr.size=rows2.length*l.length:=by have:=hv2.length;simp [hl2]at this;exact this
 have hbig:∀n:Nat,n≤2000000000→(2*n+1024)*ti.bytes≤70368744177664:=fun n hn=>by have:(2*n+1024)*ti.bytes≤4000001024*16384:=Nat.mul_le_mul (by omega) hbw;omega
 by_cases h2:rows2=[];{subst h2;have hy0:y'.dat=.int 0:=(by rw[hy];rfl);have:arr= #[]:=(by apply Array.eq_empty_of_size_eq_zero;simpa using harr);subst this;refine⟨φ,w,.slice b 0 0,run_append_fits (w':=w) ht hti hap (aw _) (by cases b<;>rfl),.opq _ (.inl ⟨hy0,b,rfl⟩),.mk0 hi ?_⟩;exact⟨l,[],rfl,hx2,hr2,.inl ⟨hy0,rfl,rfl,hi.low,fun v _=>hfree v⟩⟩};have hn0:rows2.length≠0:=fun h=>h2 (List.length_eq_zero_iff.1 h);have hy1:y'.dat=.int 1:=by rw[hy];simp [h2,dO]
 obtain⟨c',hc',hrun⟩:=ej (ty:=ty) (base:=b) (bR:=0) (sCap:=0) (n:=rows2.length) (old:= #[]) ht hti hap rz (by omega) (by cases b<;>simp [Builtin.firstCells,loadCells,loadCellsFrom]) (by omega) (rF (by omega) (hbig _ (by omega)));have hcs:(#[]++arr++Builtin.zeroCells z'.cells (c' - (0+rows2.length)):Array Value).size=c'*l.length:=by rw[Array.size_append,Array.size_append,fj,hzs,harr];have e1:rows2.length*l.length+(c' - (0+rows2.length))*l.length=c'*l.length:=(by rw[←Nat.add_mul];congr 1;omega);simpa using e1
 have hle':rows2.length*l.length≤c'*l.length:=ix _ (by omega);generalize hcsd:(#[]++arr++Builtin.zeroCells z'.cells (c' - (0+rows2.length)):Array Value)=cs at hcs hrun;have aF:∀k,k<rows2.length*l.length→cs[k]? =arr[k]? :=fun k hk=>by rw[←hcsd,Array.empty_append,Array.getElem?_append_left (by omega)]
 let ex:Ext:=⟨w.heap.size,0,0,rows2.length*l.length,c'*l.length,[]⟩;have hle:=φ.le_ins ex (hfree 0);have hi2:Inv0 R D φ σ w.drew:=hi.inv.drew.inv0;have htop:ex.hi+ex.up≤ex.bsz+ex.dn:=by show rows2.length*l.length+0≤c'*l.length+0;omega
 refine⟨φ.ins σ.next 0 ex,_,_,hrun,.opq _ (.inr ⟨hy1,l,ex,c',rows2.length,rfl,PM.ins_same _ _ _ _,rfl,rfl,by omega,by simp [ex],?_⟩),Post.drew (.new hi2.inv hfree rfl htop ?_)⟩;{simp [ex]};refine⟨l,rows2,rfl,hx2,hr2,.inr ⟨hy1,⟨ex,PM.ins_same _ _ _ _,?_⟩,?_⟩⟩;{rw[List.append_nil,hl2]};rw[List.append_nil];refine .single hi.low (PM.ins_same _ _ _ _) (fun v hv=>by rw[PM.ins_ver _ _ (by omega)];exact hfree v) (cm _ _) (by simpa using hcs) (by rw[hl2];exact aw _) (.inl rfl) fun x a _ x2 x3=> ?_;rw[hl2]at x2;obtain⟨a',q1,q2⟩:=hv2.get x3;refine⟨a',?_,q2.mono hle⟩;show cs[x+0 - 0]? =some a';rw[Nat.add_zero,Nat.sub_zero,aF x x2];simpa using q1
end
section
variable(P:Program)(dec:Bx→Option Bool)(σ:St)
structure Src where
 x:Sx
 rd:List Nat
 some:Bool
def wK(x:Sx):Bool:=uu dec (.cmp .leq (ae x) (.lit 1000000000))
def yE(cid:Nat)(l:List Sh)(v:AV):Option Src:=match v with
 | .opq k id2 _ (.slc l2) x2 _=>bif Nat.beq k 0 then
  (bif (Nat.beq id2 cid||Nat.beq id2 gid||dy l)&&(Sh.sameL l l2&&(tu σ id2&&wK dec x2))then Option.some ⟨x2,nP id2,false⟩else none)
  else(match fK σ v with
   |Option.some o=>bif (Nat.beq o.cid cid||dy l)&&(Sh.sameL l o.l&&wK dec o.x)then Option.some ⟨o.x,[o.id],false⟩else none
   |none=>none)
 |v=>match xF v with
  |Option.some n=>match ml l.length n v σ with
   |Option.some (cs,_)=>match eo cid l n cs with
    |Option.some e=>bif Nat.ble n 1000000000 then Option.some ⟨e,(match v with
     | .slc id _ _ _ _ _=>[id]
     |_=>[]),Nat.blt 0 n⟩else none
    |none=>none
   |none=>none
  |none=>none
def aaY(v:AV):Option (Nat×List Sh):=match v with
 | .opq k id2 _ (.slc l2) _ _=>bif Nat.beq k 0 then Option.some (id2,l2)else(match fK σ v with
  |Option.some o=>Option.some (o.cid,o.l)
  |none=>none)
 |_=>none
def YZ(a:Sx)(b:Bool)(x:Sx):Sx:=bif b then .lit 1 else match a with
 | .lit (.ofNat 1)=>.lit 1
 |a=>.pr 28 a (.pr 29 x (.lit 0))
def x8:AV→Bool
 | .nils=>true
 | .slc _ _ _ 0 (Option.some 0) _=>true
 |_=>false
def xH(ts:List TypeId)(args:List AV):Option OhR:=match ts,args with
 |[st,u],[s,x]=>match P.underlying st with
  |Option.some (.slice e)=>match dh P e,ub P e,zeroOf P e,hC P u with
   |Option.some size,Option.some bw,Option.some z,Option.some false=>
    bif Nat.beq z.cells.length size&&Nat.ble bw 16384 then
     (bif x8 s then(match aaY σ x with
       |Option.some (cid,l)=>bif Nat.beq size l.length&&Nat.blt 0 size then(match yE dec σ cid l x with
        |Option.some r=>Option.some ⟨.opq 2 σ.next 0 (.slc l) (.lit 0) (.pr 29 r.x (.lit 0)),r.rd,none,Option.some (.opq 2 0 cid (.slc l) r.x (.pr 29 r.x (.lit 0)) [] e)⟩
        |none=>none)else none
       |none=>none)
     else match fK σ s with
      |Option.some o=>bif Nat.beq size o.l.length&&Nat.beq o.t e&&wK dec o.x then(match yE dec σ o.cid o.l x with
       |Option.some r=>Option.some ⟨.opq 2 o.id (o.ver+1) (.slc o.l) (.lit 0) (YZ o.y r.some r.x),r.rd,Option.some (o.id,.opq 2 (o.ver+1) o.cid (.slc o.l) (.pr 9 o.x r.x) (YZ o.y r.some r.x) [] o.t),none⟩
       |none=>none)else none
      |none=>none)
    else none
   |_,_,_,_=>none
  |_=>none
 |_,_=>none
end
section
variable[Val]{P:Program}{R:Nat}{D:Nat→Prop}{φ:PM}{σ:St}{w:World}{dec:Bx→Option Bool}
theorem pU(hdec:∀b v,dec b=some v→b.eval=v){x:Sx}{rows:List (List Dat)}(h:wK dec x=true)(hx:x.dat=.lst rows):rows.length≤1000000000:=by have:=hdec _ _ (db h);simp only[Bx.eval,dz,decide_eq_true_eq,ek hx]at this;have:(rows.length:Int)≤1000000000:=this;omega
theorem DJ{id:Nat}{l:List Sh}{rows:List (List Dat)}{a:Option Addr}{n c:Nat}(h:GC (Pict φ id) (.slc l) (.lst rows) (.slice a n c))(hi:Inv0 R D φ σ w)(hf:tu σ id=true)(hk:Known D σ (cg (nP id) σ)):
 n=rows.length∧dv l rows∧∃arr:Array Value,VRL φ (aj id l rows) arr.toList∧∀w₂:World,w₂.heap=w.heap→(Builtin.firstCells l.length n (.slice a n c)).run P w₂=.ok arr w₂:=by
 obtain⟨rows',hx,rfl,hc,hor⟩:=h.inv_slc;simp only[Dat.lst.injEq]at hx;subst hx;refine⟨rfl,?_,?_⟩;{intro r hr;obtain⟨i,hi',rfl⟩:=List.getElem_of_mem hr;have hg:=bh hi';rcases hor with h0|⟨b,s,o,vf,_,hp,hl,hs,hgc⟩;{omega};exact⟨hl _ _ hg,fun j s' d h1 h2=>(hgc _ _ _ _ _ hg h1 h2).cellOk⟩};rcases hor with h0|⟨b,s,o,vf,rfl,hp,hl,hs,hgc⟩;{have:=List.length_eq_zero_iff.1 h0;subst this;refine⟨#[],.nil,fun w₂ _=> ?_⟩;cases a<;>simp [Builtin.firstCells,loadCells,loadCellsFrom]};obtain⟨bt,fr,hblk⟩:=tt hi hf hk hp;have hll:∀r∈rows,r.length=l.length:=fun r hr=>by obtain⟨i,hi',rfl⟩:=List.getElem_of_mem hr;exact hl _ _ (bh hi')
 have hlen:=ay id l rows hll;have aF:∀k,k<rows.length*l.length→∃v,s[o+k]? =some v∧∃av,(aj id l rows)[k]? =some av∧VR φ av v:=by intro k hk;have hl0:0<l.length:=(by rcases Nat.eq_zero_or_pos l.length with h|h;{rw[h]at hk;omega};exact h);have hi':k / l.length<rows.length:=(Nat.div_lt_iff_lt_mul hl0).2 hk;have hj:k%l.length<l.length:=Nat.mod_lt _ hl0;have hkk:k=k / l.length*l.length+k%l.length:=(by rw[Nat.mul_comm];exact(Nat.div_add_mod k l.length).symm);have hrow:rows[k / l.length]? =some rows[k / l.length]:=bh hi';have hsj:l[k%l.length]? =some l[k%l.length]:=bh hj;obtain⟨d,hd⟩:∃d,(rows[k / l.length])[k%l.length]? =some d:=⟨_,bh (by rw[hl _ _ hrow];exact hj)⟩;refine⟨vf (k / l.length) (k%l.length),?_,fy id l[k%l.length] d,?_,(hgc _ _ _ _ _ hrow hsj hd).lit⟩;{have:=hs (k / l.length) (k%l.length) hi' hj;rw[Nat.add_assoc,←hkk]at this;exact this};have:=cy id l rows hll (k / l.length) (k%l.length) _ hrow hj;rw[←hkk,dt id l _ _ _ _ hsj hd]at this;exact this
 have hsz:rows.length*l.length=0∨o+rows.length*l.length≤s.length:=by rcases Nat.eq_zero_or_pos (rows.length*l.length)with h|h;{exact .inl h};obtain⟨v,hv,_⟩:=aF (rows.length*l.length - 1) (by omega);rcases bl (o+(rows.length*l.length - 1)) s.length with h'|h';{right;omega};rw[cb h']at hv;cases hv
 rcases hsz with hz|hsz;{refine⟨#[],?_,fun w₂ _=> ?_⟩;{have:aj id l rows=[]:=List.length_eq_zero_iff.1 (by omega);rw[this];exact .nil};simp [Builtin.firstCells,hz,loadCells,loadCellsFrom]};refine⟨((s.drop o).take (rows.length*l.length)).toArray,?_,fun w₂ hw=> ?_⟩
 ·refine VRL.of_get (by simp [hlen];omega) fun k av v h1 h2=> ?_;have hk':k<rows.length*l.length:=by
   rcases bl k (rows.length*l.length)with h|h;{exact h};rw[cb (by omega)]at h1;cases h1
  obtain⟨v',q1,av',q2,q3⟩:=aF k hk';rw[q2]at h1;cases h1;have h2:((s.drop o).take (rows.length*l.length))[k]? =some v:=(by simpa using h2);rw[iy hk',gu,q1]at h2;cases h2;exact q3
 have:=cf (P:=P) (w:=w₂) (b:=b) (k:=o) (n:=rows.length*l.length) (by rw[hw];exact hblk) (by simpa using hsz);simpa[Builtin.firstCells]using this
theorem EI(hi:Inv0 R D φ σ w){a:AV}{a':Value}{o:Own}(h:fK σ a=some o)(ha:VR φ a a')(hd:D o.id):∃rows b c,a'=.slice b rows.length c∧o.x.dat=.lst rows∧dv o.l rows∧
 ∃arr:Array Value,VRL φ (aj o.cid o.l rows) arr.toList∧∀w₂:World,w₂.heap=w.heap→(Builtin.firstCells o.l.length rows.length a').run P w₂=.ok arr w₂:=by
 obtain⟨rows,hx,hr,hor⟩:=ga hi h ha hd;have hlen:=ay o.cid o.l rows (aN hr);rcases hor with⟨b,rfl,_,rfl,_⟩|⟨e,c,rfl,_,he,hdn,hhi,hc,hbs,har⟩;{refine⟨[],b,0,rfl,hx,hr,#[],.nil,fun w₂ _=> ?_⟩;cases b<;>simp [Builtin.firstCells,loadCells,loadCellsFrom]};refine⟨rows,_,c,rfl,hx,hr,?_⟩;obtain⟨e3,cs,fl,fh,he3,hb,k1,k2,k4,k5⟩:=eW har;rw[he]at he3;cases he3;have hm:=ix o.l.length hc;have hsz:e.up+rows.length*o.l.length≤cs.size:=by omega
 refine⟨((cs.toList.drop e.up).take (rows.length*o.l.length)).toArray,?_,fun w₂ hw=> ?_⟩
 ·refine VRL.of_get (by simp [hlen];omega) fun k av v h1 h2=> ?_;have hk':k<rows.length*o.l.length:=by
   rcases bl k (rows.length*o.l.length)with h|h;{exact h};rw[cb (by omega)]at h1;cases h1
  obtain⟨v',q1,q2⟩:=k5 k av (by omega) (by omega) h1;have h2:((cs.toList.drop e.up).take (rows.length*o.l.length))[k]? =some v:=(by simpa using h2);rw[iy hk',gu,Array.getElem?_toList,show e.up+k=k+e.up - e.dn by omega,q1]at h2;cases h2;exact q2
 have:=cf (P:=P) (w:=w₂) (b:=e.blk) (k:=e.up) (n:=rows.length*o.l.length) (by rw[hw];exact hb) hsz;simpa[Builtin.firstCells]using this
theorem sc(hi:Inv0 R D φ σ w)(hdec:∀b v,dec b=some v→b.eval=v){cid:Nat}{l:List Sh}{v:AV}{x':Value}{r:Src}{e u:TypeId}{ti:TypeInfo}(h:yE dec σ cid l v=some r)(hv:VR φ v x')(hk:Known D σ (cg r.rd σ))
 (hu:hC P u=some false)(hsz:ti.size=l.length):∃rows,Lt P φ w e ti u cid l r.x x' rows∧rows.length≤1000000000∧(r.some=true→rows≠[]):=by
 have hud:∃d,P.underlying u=some d∧∀k,d≠.int k:=by unfold hC at hu;split at hu;{cases hu};{rename_i d hne hu2;exact⟨_,hu2,fun k hk=>hne k hk⟩};cases hu
 obtain⟨d,hu2,hd⟩:=hud;unfold yE at h;split at h
 ·rename_i k id2 ver l2 x2 y;rw[au]at h;split at h
  ·rename_i hb;have:=ad hb;subst this;simp only[au,ak,dw]at h;split at h
   ·rename_i hb;obtain⟨b1,b2,b3,b4⟩:=hb;have:=Sh.sameL_eq b2;subst this;cases h;cases hv with
    |opq v hkv=>
     obtain⟨l',a,n,c,hl,rfl,hg⟩:=hkv;simp only[Sh.slc.injEq]at hl;subst hl;obtain⟨rows,hx,_⟩:=hg.inv_slc;have hg':=hg;rw[hx]at hg';obtain⟨rfl,hr,arr,q1,q2⟩:=DJ (P:=P) hg' hi b3 hk;have hlit:aj id2 l rows=aj cid l rows∨id2=gid:=(by rcases b1 with(b1|b1)|b1;{have:=ad b1;subst this;exact .inl rfl};{exact .inr (ad b1)};exact .inl (qT b1 rows));have hvr:VRL φ (aj cid l rows) arr.toList:=by
      rcases hlit with h|rfl;{rw[←h];exact q1};have hg2:GC (Pict φ cid) (.slc l) (.lst rows) (.slice a rows.length c):=hg'.mono fun _ _ hp=>hp.gid cid;refine VRL.of_get (by have h1:=q1.length;rw[ay _ _ _ (aN hr)]at h1⊢;exact h1.symm) fun k av v h1 h2=> ?_;have hlen:=ay cid l rows (aN hr);have hk':k<rows.length*l.length:=(by rcases bl k (rows.length*l.length)with h|h;{exact h};rw[cb (by omega)]at h1;cases h1);have hl0:0<l.length:=(by rcases Nat.eq_zero_or_pos l.length with h|h;{rw[h]at hk';omega};exact h);have hi':k / l.length<rows.length:=(Nat.div_lt_iff_lt_mul hl0).2 hk';have hj:k%l.length<l.length:=Nat.mod_lt _ hl0;have hkk:k=k / l.length*l.length+k%l.length:=(by rw[Nat.mul_comm];exact(Nat.div_add_mod k l.length).symm);have hrow:rows[k / l.length]? =some rows[k / l.length]:=bh hi';have hsj:l[k%l.length]? =some l[k%l.length]:=bh hj;obtain⟨dd,hdd⟩:∃d,(rows[k / l.length])[k%l.length]? =some d:=⟨_,bh (by rw[(hr _ (List.getElem_mem hi')).1];exact hj)⟩;have g1:=cy cid l rows (aN hr) (k / l.length) (k%l.length) _ hrow hj;rw[←hkk,dt cid l _ _ _ _ hsj hdd,h1]at g1;cases g1;have g2:=cy gid l rows (aN hr) (k / l.length) (k%l.length) _ hrow hj;rw[←hkk,dt gid l _ _ _ _ hsj hdd]at g2;obtain⟨v',y1,y2⟩:=q1.get g2;rw[h2]at y1;cases y1;generalize l[k%l.length]=sj at y2;cases sj with
      |int k=>exact y2
      |bool=>exact y2
      |str=>exact y2
      |slc ll=>
       have y2:VR φ (.opq 0 gid 0 (.slc ll) (.dlit dd) (.lit 0)) v:=y2;cases y2 with
       |opq v hkv=>obtain⟨l',a,n,c,hl,rfl,hg⟩:=hkv;exact .opq _ ⟨l',a,n,c,hl,rfl,hg.mono fun _ _ hp=>hp.gid cid⟩
     exact⟨rows,⟨hx,hr,arr,hvr,.inl ⟨d,hu2,hd,rfl,by rw[hsz];exact q2 w rfl,by rw[hsz];exact q2 _ rfl⟩⟩,pU hdec b4 hx,fun h=>by cases h⟩
   cases h
  split at h
  ·rename_i o hoo;simp only[au,ak,dw]at h;split at h
   ·rename_i hb;obtain⟨b1,b2,b3⟩:=hb;have:=Sh.sameL_eq b2;subst this;cases h;obtain⟨z,_,ho,_⟩:=gA hoo;obtain⟨rows,b,c,rfl,hx,hr,arr,q1,q2⟩:=EI (P:=P) hi hoo hv (hk o.id (.inl (mc _ _ _ (by simp))) (hi.lt ho));have hlit:aj o.cid o.l rows=aj cid o.l rows:=by
     rcases b1 with b1|b1;{rw[ad b1]};exact qT b1 rows
    exact⟨rows,⟨hx,hr,arr,hlit▸q1,.inl ⟨d,hu2,hd,rfl,by rw[hsz];exact q2 w rfl,by rw[hsz];exact q2 _ rfl⟩⟩,pU hdec b3 hx,fun h=>by cases h⟩
   cases h
  cases h
 rename_i v hnv;split at h
 ·rename_i n hn;split at h
  ·rename_i cs τ hfst;split at h
   ·rename_i ex hex;rw[au]at h;split at h
    ·rename_i hb;have hb:=aA hb;cases h;have hkτ:Known D σ τ:=fun i hi' hl=>hk i (by
      unfold ml at hfst;rcases hi' with hi'|hi'
      ·left;cases v<;>simp only[au]at hfst<;>(try (repeat' split at hfst))<;>(try (cases hfst;done))<;>
        (cases hfst)<;>
        first
        |exact(fR _ σ).rd i hi'
        |(rcases aQ.1 hi' with rfl|h'
          {exact mc _ _ _ (by simp)};exact(fR _ σ).rd i h')
      right;cases v<;>simp only[au]at hfst<;>(try (repeat' split at hfst))<;>(try (cases hfst;done))<;>
       (cases hfst)<;>
       exact(fR _ σ).wr i hi') hl
     obtain⟨arr,q1,q2,q3,_⟩:=qy (P:=P) hi.inv hfst hv hkτ;obtain⟨rows,g1,g2,g3,g4⟩:=ir hex q2;subst g2;exact⟨rows,⟨g1,g3,arr,g4,.inl ⟨d,hu2,hd,vM hn hv w,by rw[hsz];exact q1 w rfl,by rw[hsz];exact q1 _ rfl⟩⟩,hb,fun h=>by have:=aL h;intro h0;rw[h0]at this;simp at this⟩
    cases h
   cases h
  cases h
 cases h
end
end
end Go.Tw
namespace Go.Tw
section
variable[Val]{P:Program}{R:Nat}{D:Nat→Prop}{φ:PM}{σ:St}{w:World}{dec:Bx→Option Bool}
theorem yy{φ':PM}{w':World}{id nv t:Nat}{l:List Sh}{len:Nat}{c:List AV}{ec x2:Sx}{rows2:List (List Dat)}(hfl:dy l=true)(hcv:eo gid l len c=some ec)(hlen:len*l.length=c.length)
 (hx2:x2.dat=.lst rows2)(hr2:dv l rows2){e2:Ext}(he2:φ' id nv=some e2)(hh2:e2.hi=(c++aj gid l rows2).length)(hdn:e2.dn=0)
 (h:ArrRep R φ' w' id (c++aj gid l rows2) nv (c++aj gid l rows2).length (nv+1) (nv+1) t):Rep R φ' w' id (some (.opq 2 nv gid (.slc l) (.pr 9 ec x2) (.lit 1) [] t)):=by
 obtain⟨hR,h1,h2,h3,h4,h5,h6,h7⟩:=h;obtain⟨e,cs,fl,fh,he,hb,k1,k2,k3,k4,k5⟩:=h5 nv (.inl rfl);rw[he2]at he;cases he;have hlm:bK nv (c++aj gid l rows2).length nv e2=(c++aj gid l rows2).length:=by simp [bK]
 rw[hlm]at k2 k5;have hvrl:VRL φ' c ((cs.toList.drop e2.up).take c.length):=by have aF:∀k,k<c.length→∃a',cs[e2.up+k]? =some a'∧VR φ' (c[k]?.getD .unk) a':=fun k hk=>(by have hav:(c++aj gid l rows2)[k]? =some (c[k]?.getD .unk):=(by rw[List.getElem?_append_left hk,bh hk];rfl);obtain⟨a',y1,y2⟩:=k5 k _ (by omega) (by rw[cZ];omega) hav;exact⟨a',by rw[←y1];congr 1;omega,y2⟩);have hsz:c.length=0∨e2.up+c.length≤cs.size:=(by rcases Nat.eq_zero_or_pos c.length with h|h;{exact .inl h};obtain⟨a',y1,_⟩:=aF (c.length - 1) (by omega);rcases bl (e2.up+(c.length - 1)) cs.size with h'|h';{right;omega};rw[Array.getElem?_eq_none h']at y1;cases y1);refine VRL.of_get (by simp;omega) fun k av z a1 a2=> ?_;have hk:k<c.length:=(by rcases bl k c.length with h|h;{exact h};rw[cb h]at a1;cases a1);obtain⟨a',y1,y2⟩:=aF k hk;rw[iy hk,gu,Array.getElem?_toList,y1]at a2;cases a2;rw[a1]at y2;exact y2
 obtain⟨rows,r1,r2,r3,r4⟩:=ir hcv hvrl;have hl1:=ay gid l rows (aN r3);have hxx:(Sx.pr 9 ec x2).dat=.lst (rows++rows2):=by show Dat.lst (ec.dat.toL++x2.dat.toL)=_;rw[r1,hx2];rfl
 have hrr:dv l (rows++rows2):=fun r hm=>by rcases List.mem_append.1 hm with h|h;{exact r3 r h};exact hr2 r h
 have hcl:(aj gid l rows).length=c.length:=by rw[hl1,r2,hlen]
 refine⟨l,rows++rows2,rfl,hxx,hrr,.inr ⟨rfl,⟨e2,he2,?_⟩,?_⟩⟩;{rw[List.append_nil,cE,cZ,hcl,hh2,cZ]};rw[List.append_nil,cE];refine .single hR he2 (fun v hv=>h4 v (by omega)) hb k1 (by rw[cZ,hcl,←cZ];exact k2) k4 fun k av x1 x2' x3=> ?_;rw[cZ,hcl]at x2';by_cases hk:k<c.length;{rw[List.getElem?_append_left (by omega)]at x3;obtain⟨z,y1,y2⟩:=r4.get x3;rw[iy hk,gu,Array.getElem?_toList]at y1;exact⟨z,by rw[←y1];congr 1;omega,y2⟩};rw[List.getElem?_append_right (by omega),hcl]at x3;exact k5 k av x1 (by rw[cZ];omega) (by rw[List.getElem?_append_right (by omega)];exact x3)
theorem Post.reput{φ':PM}{w':World}{id:Nat}{o oc':Ob}(hd:D id)(hlt:id<σ.next)(h:Post R D φ σ w (σ.put id oc') φ' w')
 (hr:Rep R φ' w' id (some oc')→Rep R φ' w' id (some o)):Post R D φ σ w (σ.put id o) φ' w' where
 le:=h.le
 grow:=h.grow
 wrR:=h.wrR
 wf:=h.wf
 blk:=h.blk
 rep:=fun i hi=>by by_cases e:i=id;{subst e;have:=h.rep i (.inl ⟨hd,hlt⟩);simp only[St.put,T.get_set_same]at this⊢;exact hr this};have:=h.rep i hi;simp only[St.put]at this⊢;rw[T.get_set_ne _ _ e]at this⊢;exact this
 frm:=h.frm
theorem Cx(hi:Inv0 R D φ σ w){t u ty e:TypeId}{ti:TypeInfo}{z':Value}{a' x':Value}{id ver len base lim since nv:Nat}{cap:Option Nat}{l:List Sh}{c:List AV}{ec x2:Sx}{rows2:List (List Dat)}
 (ho:σ.heap.get id=some (.arr c base lim since nv e))(hfull:(ver=base∧lim=c.length)∨(ver+1=nv∧since≤ver∧ver≠base))(hlen:len*l.length=c.length)(hl0:0<len)(hw0:0<l.length)(hcv:eo gid l len c=some ec)(hfl:dy l=true)
 (ha:VR φ (.slc id ver 0 len cap l.length) a')(hd:D id)(ht:P.underlying t=some (.slice e))(hti:P.info? e=some ti)(hsz:ti.size=l.length)
 (rz:∀w,(zeroValue e).run P w=.ok z' w)(hzs:z'.cells.size=l.length)(hsrc:Lt P φ w e ti u gid l x2 x' rows2)
 (hb1:len≤1000000000)(hb2:rows2.length≤1000000000)(hbw:ti.bytes≤16384):
 ∃φ' w' v',(Builtin.append_ #[t,u] ty #[a',x']).run P w=.ok v' w'∧VR φ' (.opq 2 id nv (.slc l) (.lit 0) (.lit 1)) v'∧
  Post R D φ σ w (σ.put id (.opq 2 nv gid (.slc l) (.pr 9 ec x2) (.lit 1) [] e)) φ' w':=by
 obtain⟨hx2,hr2,arr,hv2,hap⟩:=hsrc;have hlt:=hi.lt ho;have hl2:=ay gid l rows2 (aN hr2);have harr:arr.size=rows2.length*l.length:=by have:=hv2.length;simp [hl2]at this;exact this
 have hbig:∀n:Nat,n≤2000000000→(2*n+1024)*ti.bytes≤70368744177664:=fun n hn=>by have:(2*n+1024)*ti.bytes≤4000001024*16384:=Nat.mul_le_mul (by omega) hbw;omega
 have hrep:=hi.rep id hd hlt;rw[ho]at hrep;obtain⟨hR,p1,p2,p3,hno,p5,p6,p7⟩:=hrep;have hal:eg base since nv ver:=by rcases hfull with⟨h,_⟩|⟨h1,h2,_⟩;{exact .inl h};exact .inr ⟨h2,by omega⟩
 have hvn:ver<nv:=by rcases hal with h|h;{omega};omega
 obtain⟨ex0,cs,fl,fh,he0,hb,k1,k2,k3,k4,k5⟩:=p5 ver hal;have hlim:bK base lim ver ex0=c.length:=by rcases hfull with⟨ha,hb⟩|⟨ha,hb,hc⟩;{simp [bK,ha,hb]};simp only[bK,if_neg hc];exact p7 _ _ ha hb hc he0
 cases ha with
 |slc ex o cc g1 g2 g3 g4 g5 g6=>
  rw[he0]at g1;cases g1;have hdn:ex0.dn=0:=(by omega);obtain⟨g7,g8⟩:=g6.resolve_left (by omega);have hoe:o=ex0.up:=(by omega);subst hoe;by_cases h2:rows2=[];{subst h2;have:arr= #[]:=(by apply Array.eq_empty_of_size_eq_zero;simpa using harr);subst this;have hst:(storeCells ((⟨ex0.blk,ex0.up,none⟩:Addr).add (len*ti.size)) (#[]:Array Value).toList).run P w=.ok () w:=rfl;have hrun:=run_append_fits (ty:=ty) (w':=w) (base:=some ⟨ex0.blk,ex0.up,none⟩) (bR:=len) (sCap:=cc) ht hti hap (by simpa using g4) hst;rw[hlim]at k2 k5;have htop:=hi.wf.top _ _ _ he0;let ex:Ext:={ex0 with hi:=c.length};have hle:=φ.le_ins ex (hno nv (aw _));refine⟨φ.ins id nv ex,w,_,hrun,.opq _ (.inr ⟨rfl,l,ex,cc,len,rfl,PM.ins_same _ _ _ _,hdn,hlen,g4,g8,rfl⟩),?_⟩;refine .put0 hi hR hlt hle (hi.wf.ver he0 hR rfl (by show c.length+ex0.up≤ex0.bsz+ex0.dn;omega)) (fun i h v=>φ.ins_id ex h v) (fun v f hf=> ?_) (.refl _ _ _) ?_;{unfold PM.ins at hf;split at hf;{cases hf;exact .inl ⟨ver,ex0,he0,rfl⟩};exact .inl ⟨v,f,hf,rfl⟩};refine yy hfl hcv hlen hx2 hr2 (PM.ins_same _ _ _ _) (by simp [aj,ex]) hdn ?_;have hz:c++aj gid l []=c:=(by simp [aj]);rw[hz];exact .single hR (PM.ins_same _ _ _ _) (fun v hv=>by rw[PM.ins_ver _ _ (by omega)];exact hno v (by omega)) hb k1 (aw _) k4 fun x a x1 x2 x3=>let⟨a',q1,q2⟩:=k5 x a x1 x2 x3;⟨a',q1,q2.mono hle⟩};have hn0:rows2.length≠0:=fun h=>h2 (List.length_eq_zero_iff.1 h);obtain⟨φ',w',v',q1,q2,q3⟩:=fY (P:=P) (ty:=ty) (u:=u) (x':=x') (arr:=arr) (new:=aj gid l rows2)
   (id:=id) (ver:=ver) (off:=0) (len:=len) (base:=base) (lim:=lim) (since:=since) (base':=ver) (lim':=0) (since':=nv) (nv:=nv) (et:=e) (o:=ex0.up) (cc:=cc) (c:=c) (ex:=ex0)
   hi.inv ht hti hsz rz hzs hap hv2 hl2 (pe _ _ _) hn0 ho hd he0 (by omega) g4 (.inr ⟨by omega,g8⟩) (hbig _ (by omega)) (by omega) hal (by rw[hlim];omega) rfl
   (by intro v hv;rcases hv with rfl|⟨h1,h2⟩;{exact .inr ⟨hal,by omega,fun f _=>by simp [bK]⟩};exact .inl (by omega)) (by omega) (by omega) (aP _) (by omega)
  rw[Nat.zero_add,hlen,List.take_length]at q3;have hrep:=q3.rep id (.inl ⟨hd,hlt⟩);simp only[St.put,T.get_set_same]at hrep;have hrep:ArrRep R φ' w' id (c++aj gid l rows2) ver 0 nv (nv+1) e:=hrep;obtain⟨r1,e2,he2,hh2⟩:=hrep.renew (aw _) (by omega);cases q2 with
  |slc ex2 o2 c2 y1 y2 y3 y4 y5 y6=>rw[he2]at y1;cases y1;rcases y6 with y6|⟨y6,y7⟩;{omega};have:o2=e2.up:=(by omega);subst this;refine⟨φ',w',_,q1,.opq _ (.inr ⟨rfl,l,e2,c2,len+rows2.length,rfl,he2,by omega,?_,y4,y7,rfl⟩),Post.reput hd hlt q3 fun _=>yy hfl hcv hlen hx2 hr2 he2 hh2 (by omega) r1⟩;rw[hh2,cZ,hl2,Nat.add_mul,hlen]
end
noncomputable def xG(P:Program)(dec:Bx→Option Bool)(σ:St)(ts:List TypeId)(s x:AV):Option OhR:=match ts,s,x with
 |[st,u],.slc id ver off len _ esz,.opq k xi xv (.slc l) xx xy=>match P.underlying st,σ.heap.get id with
  |some (.slice e),some (.arr c base lim since nv t)=>match dh P e,ub P e,zeroOf P e,hC P u with
   |some size,some bw,some z,some false=>
    bif Nat.beq z.cells.length size&&(Nat.ble bw 16384&&(Nat.beq size l.length&&(Nat.beq esz l.length&&(Nat.beq off 0&&(Nat.blt 0 len&&(Nat.blt 0 l.length&&(Nat.beq (len*l.length) c.length&&(dy l&&(Nat.beq t e&&(Nat.ble len 1000000000&&((Nat.beq ver base&&Nat.beq lim c.length)||(Nat.beq (ver+1) nv&&(Nat.ble since ver&& !Nat.beq ver base)))))))))))))
     then(match yE dec σ gid l (.opq k xi xv (.slc l) xx xy),eo gid l len c with
      |some q,some ec=>some ⟨.opq 2 id nv (.slc l) (.lit 0) (.lit 1),q.rd,some (id,.opq 2 nv gid (.slc l) (.pr 9 ec q.x) (.lit 1) [] e),none⟩
      |_,_=>none)else none
   |_,_,_,_=>none
  |_,_=>none
 |_,_,_=>none
theorem BU[Val]{P:Program}{R:Nat}{D:Nat→Prop}{φ:PM}{σ:St}{w:World}{dec:Bx→Option Bool}(hi:Inv0 R D φ σ w)(hdec:∀b v,dec b=some v→b.eval=v){ts:List TypeId}{s x:AV}{ts':Array TypeId}{args':Array Value}{ty:TypeId}{r:OhR}(h:xG P dec σ ts s x=some r)
 (hts:ts'.toList=ts)(hargs:VRL φ [s,x] args'.toList)(hk:Known D σ (r.to σ)):
 ∃φ' w' v',(Builtin.append_ ts' ty args').run P w=.ok v' w'∧VR φ' r.v v'∧Post R D φ σ w (r.to σ) φ' w':=by
 obtain⟨s',x',hargs2,hs,hx⟩:=hargs.two;subst hargs2;unfold xG at h;split at h
 ·rename_i st u id ver off len cap esz k xi xv l xx xy;have hts2:ts'= #[st,u]:=(by apply Array.ext';simpa using hts);subst hts2;split at h
  ·rename_i e c base lim since nv t hu ho;split at h
   ·rename_i size bw z h1 h2 h3 h4;simp only[au,ak,dw,Bool.not_eq_true']at h;split at h
    ·rename_i hb;obtain⟨b1,b2,b3,b4,b5,b6,b7,b8,b9,b10,b11,b12⟩:=hb;have hz:=ad b1;have hbw:=aA b2;have hsl:=ad b3;have:=ad b4;subst this;have:=ad b5;subst this;have:=ad b10;subst this;obtain⟨ti,z',hti,hsz,hbw',rz,vz,hzs⟩:=mY h1 h2 h3 hz;split at h
     ·rename_i q ec hq hec;cases h;have hto:((⟨.opq 2 id nv (.slc l) (.lit 0) (.lit 1),q.rd,some (id,.opq 2 nv gid (.slc l) (.pr 9 ec q.x) (.lit 1) [] t),none⟩:OhR).to σ)=(cg q.rd σ).put id (.opq 2 nv gid (.slc l) (.pr 9 ec q.x) (.lit 1) [] t):=by
       unfold OhR.to;have:(cg q.rd σ).heap.get id=some (.arr c base lim since nv t):=(by rw[(bk q.rd σ).1];exact ho);simp only[this]
      rw[hto]at hk⊢;have hkq:Known D σ (cg q.rd σ):=fun i h hl=>hk i (h.imp (fun h=>h) (fun h=>aQ.2 (.inr h))) hl;obtain⟨rows2,hsrc,hs1,_⟩:=sc (P:=P) (e:=t) (u:=u) (ti:=ti) hi hdec hq hx hkq h4 (by omega);have hd:D id:=hk id (.inr (aQ.2 (.inl rfl))) (hi.lt ho);have hfull:(ver=base∧lim=c.length)∨(ver+1=nv∧since≤ver∧ver≠base):=(by rcases b12 with⟨c1,c2⟩|⟨c1,c2,c3⟩;{exact .inl ⟨ad c1,ad c2⟩};exact .inr ⟨ad c1,aA c2,fun h=>by simp [h]at c3⟩);have hir:Inv0 R D φ (cg q.rd σ) w:=(by obtain⟨h1,h2,h3⟩:=bk q.rd σ;exact⟨hi.wf,by rw[h3];exact hi.wrR,by rw[h2];exact hi.low,fun i hd hn=>by rw[h1];rw[h2]at hn;exact hi.rep i hd hn,fun i hn=>by rw[h1];rw[h2]at hn;exact hi.dom i hn⟩);obtain⟨φ',w',v',p1,p2,p3⟩:=Cx (P:=P) (ty:=ty) (u:=u) (x':=x') (x2:=q.x) hir (by rw[(bk q.rd σ).1];exact ho) hfull (ad b8) (aL b6) (aL b7) hec b9 hs hd hu hti (by omega) rz (by omega) hsrc (aA b11) hs1 (by omega);exact⟨φ',w',v',p1,p2,p3.from (bk q.rd σ).2.1 (bk q.rd σ).2.2⟩
     cases h
    cases h
   cases h
  cases h
 cases h
end Go.Tw
namespace Go.Tw
section
variable(P:Program)(dec:Bx→Option Bool)(ev:Operand→Option AV)(σ:St)
noncomputable def tQ(x:Sx):Nat→Option Nat
 |0=>none
 |n+1=>bif uu dec (.not (.not (.cmp .eql (ae x) (.lit n))))then some n else tQ x n
noncomputable def JY(t:TypeId)(a:AV):Option OhR:=match a,P.underlying t with
 | .opq k _ _ _ x _,some (.slice _)=>bif Nat.beq k 0 then(match tQ dec x 10 with
  |some n=>OhR.one (.int .i64 n)
  |none=>none)else none
 |_,_=>none
noncomputable def gS(id:Nat)(x:Sx)(l:List Sh):Nat→Nat→List AV
 |0,_=>[]
 |n+1,k=>gn id x (.lit k) l 0++gS id x l n (k+1)
noncomputable def zO(e:TypeId)(size bw:Nat)(s:AV)(n:Nat)(new:List AV)(rd:List Nat)(σ:St):Option OhR:=match dg e size bw s n new (cg rd σ)with
 |some (v,σ')=>bif Nat.beq n 0 then(match s with
  | .nils=>some ⟨v,rd,none,none⟩
  | .slc _ _ _ _ _ _=>some ⟨v,rd,none,none⟩
  |_=>none)else(match s with
  | .nils=>some ⟨v,rd,none,some (.arr new 0 new.length 1 1 e)⟩
  | .slc id _ _ _ none _=>match σ'.heap.get id with
   |some o=>some ⟨v,rd,some (id,o),none⟩
   |none=>none
  |_=>none)
 |none=>none
noncomputable def TI(ts:List TypeId)(s x:AV):Option OhR:=match ts,x with
 |[st,u],.opq k xi _ (.slc l) xx _=>match P.underlying st with
  |some (.slice e)=>match dh P e,ub P e,zeroOf P e,hC P u with
   |some size,some bw,some z,some false=>
    bif Nat.beq k 0&&(Nat.beq z.cells.length size&&(Nat.beq size l.length&&(Nat.blt 0 size&&(dy l&&tu σ xi))))then(match tQ dec xx 10 with
     |some n=>zO e size bw s n (gS gid xx l n 0) (nP xi) σ
     |none=>none)else none
   |_,_,_,_=>none
  |_=>none
 |_,_=>none
noncomputable def TJ(o:Oper):Option OhR:=match o.op with
 | .call c=>match c.callee,c.argTypes.toList,c.args.toList with
  | .builtin .len,t::_,[a]=>match ev a with
   |some v=>JY P dec t v
   |none=>none
  | .builtin .append,ts,[a,b]=>match ev a,ev b with
   |some s,some x=>TI P dec σ ts s x
   |_,_=>none
  |_,_,_=>none
 |_=>none
end
section
variable[Val]{P:Program}{R:Nat}{D:Nat→Prop}{φ:PM}{σ:St}{w:World}{dec:Bx→Option Bool}
theorem v8(hdec:∀b v,dec b=some v→b.eval=v){x:Sx}{rows:List (List Dat)}(hx:x.dat=.lst rows):∀{m n:Nat},tQ dec x m=some n→rows.length=n:=by
 intro m
 induction m with
 |zero=>intro n h;cases h
 |succ m ih=>intro n h;simp only[tQ,au]at h;split at h;{rename_i hb;cases h;have:=hdec _ _ (db hb);simp only[Bx.eval,dz,Bool.not_not,ek hx,Sx.eval_lit,beq_iff_eq]at this;omega};exact ih h
theorem JX(hi:Inv0 R D φ σ w)(hdec:∀b v,dec b=some v→b.eval=v){t ty:TypeId}{a:AV}{a':Value}{ts:Array TypeId}{r:OhR}(h:JY P dec t a=some r)(ha:VR φ a a')(ht:ts[0]? =some t):
 ∃v',(Builtin.len_ ts ty #[a']).run P w=.ok v' w∧VR φ r.v v'∧Post R D φ σ w (r.to σ) φ w:=by
 unfold JY at h;split at h
 ·rename_i k id ver sh x y e hu;rw[au]at h;split at h
  ·rename_i hk;have:=ad hk;subst this;split at h
   ·rename_i n hn;simp only[OhR.one,aE]at h;subst h;cases ha with
    |opq v hv=>obtain⟨l,a,n',c,rfl,rfl,hg⟩:=hv;obtain⟨rows,hx,rfl,_,_⟩:=hg.inv_slc;have hl:=v8 hdec hx hn;subst hl;exact⟨goInt rows.length,by simp [Builtin.len_,ht,ai hu],.int _ _,.same0 hi rfl rfl rfl⟩
   cases h
  cases h
 cases h
omit [Val]in
theorem tX(id:Nat)(x i:Sx):∀(l:List Sh) (off:Nat),(gn id x i l off).length=l.length:=by
 intro l
 induction l with
 |nil=>intro off;rfl
 |cons s l ih=>intro off;simp [gn,ih]
omit [Val]in
theorem tL(id:Nat)(x:Sx)(l:List Sh):∀n k,(gS id x l n k).length=n*l.length:=by
 intro n
 induction n with
 |zero=>intro k;simp [gS]
 |succ n ih=>intro k;rw[gS,cZ,tX,ih,Nat.add_mul];omega
omit [Val]in
theorem uK{e:TypeId}{size bw n:Nat}{id ver off len esz:Nat}{new:List AV}{σ σ':St}{v:AV}(h:dg e size bw (.slc id ver off len none esz) n new σ=some (v,σ'))(hn:Nat.beq n 0=false):∃o o0,σ.heap.get id=some o0∧σ'=σ.put id o:=by unfold dg at h;simp only[au,hn,cw,if_false]at h;split at h;{split at h;{split at h;{rename_i c base lim since nv et ho;split at h;{split at h;{split at h;{simp only[aE,iU]at h;exact⟨_,_,ho,h.2.symm⟩};split at h;{simp only[aE,iU]at h;exact⟨_,_,ho,h.2.symm⟩};cases h};split at h;{split at h;{simp only[aE,iU]at h;exact⟨_,_,ho,h.2.symm⟩};split at h;{simp only[aE,iU]at h;exact⟨_,_,ho,h.2.symm⟩};cases h};cases h};cases h};cases h};cases h};cases h
omit [Val]in
theorem KK{e:TypeId}{size bw n:Nat}{s:AV}{new:List AV}{rd:List Nat}{r:OhR}(h:zO e size bw s n new rd σ=some r):dg e size bw s n new (cg rd σ)=some (r.v,r.to σ):=by unfold zO at h;split at h;{rename_i v σ' ha;rw[au]at h;split at h;{rename_i hn;have hn:=ad hn;subst hn;split at h;{cases h;rw[ha];simp [dg]at ha;simp [OhR.to,ha]};{cases h;rw[ha];simp only[dg,au]at ha;split at ha;{simp only[Nat.beq_refl,if_true,aE,iU]at ha;simp [OhR.to,ha.2]};cases ha};cases h};rename_i hn;have hn:Nat.beq n 0=false:=Bool.eq_false_iff.2 hn;split at h;{cases h;rw[ha];simp only[dg,au,hn,cw,if_false]at ha;split at ha;{simp only[aE,iU]at ha;rw[←ha.2];rfl};cases ha};{split at h;{rename_i o ho;cases h;obtain⟨o1,o0,h1,h2⟩:=uK ha hn;rw[ha];subst h2;simp only[St.put,T.get_set_same,aE]at ho;subst ho;unfold OhR.to;simp [h1]};cases h};cases h};cases h
omit [Val]in
theorem KJ{e:TypeId}{size bw n:Nat}{s:AV}{new:List AV}{rd:List Nat}{r:OhR}(h:zO e size bw s n new rd σ=some r):r.rd=rd:=by unfold zO at h;split at h;{rw[au]at h;split at h;{split at h<;>simp only[aE,reduceCtorEq]at h<;>subst h<;>rfl};split at h;{cases h;rfl};{split at h<;>simp only[aE,reduceCtorEq]at h<;>subst h<;>rfl};cases h};cases h
omit [Val]in
theorem OhR.to_step1(r:OhR)(σ:St):StepA (cg r.rd σ) (r.to σ):=by
 unfold OhR.to;generalize cg r.rd σ=σ1;have h2:StepA σ1 (match r.put with
  |some (id,o)=>match σ1.heap.get id with
   |some _=>σ1.put id o
   |none=>σ1
  |none=>σ1):=by
  split;{split;{exact .put _ _ (by assumption)};exact .refl _};exact .refl _
 dsimp only;split;{exact h2.trans (.mk' _ _)};exact h2
theorem Inv0.read1(hi:Inv0 R D φ σ w)(l:List Nat):Inv0 R D φ (cg l σ) w:=by obtain⟨h1,h2,h3⟩:=bk l σ;exact⟨hi.wf,by rw[h3];exact hi.wrR,by rw[h2];exact hi.low,fun i hd hn=>by rw[h1];rw[h2]at hn;exact hi.rep i hd hn,fun i hn=>by rw[h1];rw[h2]at hn;exact hi.dom i hn⟩
theorem VRL.split2:∀{a b:List AV} {l:List Value},VRL φ (a++b) l→∃a' b',l=a'++b'∧VRL φ a a'∧VRL φ b b'
 |[],b,l,h=>⟨[],l,rfl,.nil,h⟩
 |x::a,b,l,h=>by
  cases h with
  |cons h1 h2=>obtain⟨a',b',rfl,h3,h4⟩:=VRL.split2 h2;exact⟨_::a',b',rfl,.cons h1 h3,h4⟩
theorem Fu{cid:Nat}{x i:Sx}:∀{l:List Sh} {row:List Dat} {off:Nat} {r:List Value},dy l=true→row.length=l.length→(∀(j:Nat) (s:Sh) (d:Dat),l[j]? =some s→row[j]? =some d→kD s d)→
 (∀(j:Nat) (d:Dat),row[j]? =some d→(Sx.cell x i (off+j)).dat=d)→VRL φ (bZ cid l row) r→VRL φ (gn gid x i l off) r:=by
 intro l
 induction l with
 |nil=>
  intro row off r _ hl _ _ h;cases row with
  |nil=>cases h;exact .nil
  |cons a b=>simp at hl
 |cons s l ih=>
  intro row off r hf hl hc hd h;cases row with
  |nil=>simp at hl
  |cons d row=>
   simp only[dy,List.all_cons,ak]at hf;simp only[bZ]at h;cases h with
   |cons h1 h2=>have hd0:=hd 0 d rfl;refine .cons ?_ (ih (off:=off+1) (by simpa[dy]using hf.2) (by simpa using hl) (fun j s d g1 g2=>hc (j+1) s d (by simpa using g1) (by simpa using g2)) (fun j d g=>by rw[show off+1+j=off+(j+1) by omega];exact hd (j+1) d (by simpa using g)) h2);have hd0:(Sx.cell x i off).dat=d:=(by simpa using hd0);rw[vL (c':=gid) hf.1]at h1;rw[←hd0]at h1;exact zr (by rw[hd0];exact hc 0 s d rfl rfl) h1
theorem Cd{cid:Nat}{x:Sx}{l:List Sh}{rows:List (List Dat)}{arr:List Value}(hf:dy l=true)(hx:x.dat=.lst rows)(hr:dv l rows)(h:VRL φ (aj cid l rows) arr):VRL φ (gS gid x l rows.length 0) arr:=by
 have key:∀(rs:List (List Dat)) (k:Nat) (arr:List Value),rows.drop k=rs→VRL φ (aj cid l rs) arr→VRL φ (gS gid x l rs.length k) arr:=by
  intro rs
  induction rs with
  |nil=>intro k arr _ h;rw[zu]at h;exact h
  |cons r rs ih=>
   intro k arr hd h;have hk:rows[k]? =some r:=(by have:=congrArg (fun t=>t[0]?) hd;simpa using this);have hdr:rows.drop (k+1)=rs:=(by have:(rows.drop k).drop 1=rs:=(by rw[hd];rfl);rw[List.drop_drop]at this;exact this);rw[cN]at h;obtain⟨a1,a2,rfl,h1,h2⟩:=VRL.split2 h;rw[List.length_cons,gS];have hrm:r∈rows:=fH hk;refine(Fu hf (hr r hrm).1 (hr r hrm).2 (fun j d hj=> ?_) h1).append (ih (k+1) a2 hdr h2);show Dat.cell x.dat (Dat.toI (Dat.int (k:Int))) (0+j)=d;rw[hx];show(match(Dat.row (.lst rows) (k:Int))[0+j]? with
    |some c=>c
    |none=>.int 0)=d
   have:Dat.row (.lst rows) (k:Int)=r:=(by simp [Dat.row,Dat.toL,hk]);rw[this,Nat.zero_add,hj]
 exact key rows 0 arr rfl h
theorem NJ(hi:Inv0 R D φ σ w)(hdec:∀b v,dec b=some v→b.eval=v){ts:List TypeId}{s x:AV}{ts':Array TypeId}{args':Array Value}{ty:TypeId}{r:OhR}(h:TI P dec σ ts s x=some r)
 (hts:ts'.toList=ts)(hargs:VRL φ [s,x] args'.toList)(hk:Known D σ (r.to σ))(hf:Free φ σ (r.to σ)):
 ∃φ' w' v',(Builtin.append_ ts' ty args').run P w=.ok v' w'∧VR φ' r.v v'∧Post R D φ σ w (r.to σ) φ' w':=by
 obtain⟨s',x',hargs2,hs,hx⟩:=hargs.two;subst hargs2;unfold TI at h;split at h
 ·rename_i st u k xi xv l xx xy;have hts2:ts'= #[st,u]:=(by apply Array.ext';simpa using hts);subst hts2;split at h
  ·rename_i e hu;split at h
   ·rename_i size bw z h1 h2 h3 h4;simp only[au,ak]at h;split at h
    ·rename_i hb;obtain⟨b0,b1,b2,b3,b4,b5⟩:=hb;have:=ad b0;subst this;have hz:=ad b1;have hsl:=ad b2;obtain⟨ti,z',hti,hsz,hbw',rz,vz,hzs⟩:=mY h1 h2 h3 hz;split at h
     ·rename_i n hn;have hud:∃d,P.underlying u=some d∧∀k,d≠.int k:=by
       unfold hC at h4;split at h4;{cases h4};{rename_i d hne hu2;exact⟨_,hu2,fun k hk=>hne k hk⟩};cases h4
      obtain⟨d,hu2,hd⟩:=hud;have hap:=KK h;have hrd:=KJ h;cases hx with
      |opq v hkv=>obtain⟨l',a,n',c,hl,rfl,hg⟩:=hkv;simp only[Sh.slc.injEq]at hl;subst hl;obtain⟨rows,hxx,_⟩:=hg.inv_slc;have hlr:=v8 hdec hxx hn;subst hlr;have hg':=hg;rw[hxx]at hg';have hst:=OhR.to_step1 r σ;have hkq:Known D σ (cg (nP xi) σ):=fun i h hl=>hk i (h.imp (fun h=>hst.rd i (hrd.symm▸h)) (fun h=>hst.wr i (hrd.symm▸h))) hl;obtain⟨rfl,hr,arr,q1,q2⟩:=DJ (P:=P) hg' hi b5 hkq;have hvr:VRL φ (gS gid xx l rows.length 0) arr.toList:=Cd b4 hxx hr q1;have hi2:=hi.read1 (nP xi);obtain⟨φ',w',v',p1,p2,p3⟩:=mF (P:=P) (ty:=ty) (u:=u) hi2.inv hap hs hu hti hsz hbw' rz hzs (.inl ⟨d,hu2,hd,rfl,by rw[hsz,hsl];exact q2 w rfl,by rw[hsz,hsl];exact q2 _ rfl⟩) hvr (by rw[tL,hsl]) (fun i h hl=>hk i h (by rw[(bk _ σ).2.1]at hl;exact hl)) (fun i h1 h2 v=>hf i (by rw[(bk _ σ).2.1]at h1;exact h1) h2 v);exact⟨φ',w',v',p1,p2,p3.from (bk _ σ).2.1 (bk _ σ).2.2⟩
     cases h
    cases h
   cases h
  cases h
 cases h
end
end Go.Tw
namespace Go.Tw
noncomputable def Ci(cid:Nat):List Sh→List AV→Option (List Sx)
 |[],v=>match v with
  |[]=>some []
  |_=>none
 |s::l,v=>match v with
  |a::r=>match cvt cid s a,Ci cid l r with
   |some e,some es=>some (e::es)
   |_,_=>none
  |[]=>none
def setRow(x n:Sx):Nat→List Sx→Sx
 |_,[]=>x
 |j,c::cs=>.setc (setRow x n (j+1) cs) n j c
section
variable(P:Program)(ev:Operand→Option AV)(σ:St)
noncomputable def xI(t:TypeId)(a v:AV):Option OhR:=match a with
 | .opq k id ver (.slc l) (.lit (.ofNat off)) n=>match Dk σ id ver l,dh P t with
  |some o,some s=>match Ci o.cid l v.cells with
   |some cs=>bif Nat.beq k 3&&(Nat.beq off 0&&Nat.beq s l.length)then some ⟨.tup [],[],some (id,.opq 2 ver o.cid (.slc l) (setRow o.x n 0 cs) o.y [] o.t),none⟩else none
   |none=>none
  |_,_=>none
 |_=>none
noncomputable def kSt(o:Oper):Option OhR:=match o.op with
 | .store t a x=>match ev a,ev x with
  |some a,some v=>xI P σ t a v
  |_,_=>none
 |_=>none
end
section
variable[Val]{P:Program}{R:Nat}{D:Nat→Prop}{φ:PM}{σ:St}{w:World}
theorem DV{cid:Nat}:∀{l:List Sh} {r:List AV} {r':List Value} {es:List Sx},Ci cid l r=some es→VRL φ r r'→es.length=l.length∧VRL φ (bZ cid l (es.map Sx.dat)) r'∧
 ∀(j:Nat) (s:Sh) (d:Dat),l[j]? =some s→(es.map Sx.dat)[j]? =some d→kD s d
 |[],r,r',es,h,hv=>by
  cases r with
  |nil=>simp only[Ci,aE]at h;subst h;cases hv;exact⟨rfl,.nil,fun j s d h=>by simp at h⟩
  |cons a r=>simp [Ci]at h
 |s::l,r,r',es,h,hv=>by
  cases r with
  |nil=>simp [Ci]at h
  |cons a r=>
   simp only[Ci]at h;split at h
   ·rename_i e es' he hes;cases h;cases hv with
    |cons h1 h2=>
     obtain⟨g1,g2⟩:=KR he h1;obtain⟨k1,k2,k3⟩:=DV hes h2;refine⟨by simp [k1],.cons g1 k2,fun j s' d a b=> ?_⟩;cases j with
     |zero=>simp at a b;subst a;subst b;exact g2
     |succ j=>exact k3 j s' d (by simpa using a) (by simpa using b)
   cases h
omit [Val]in
theorem xA(cid:Nat)(l:List Sh){rows:List (List Dat)}(hr:∀r∈rows,r.length=l.length)(k:Nat)(hk:k≤rows.length):(aj cid l rows).take (k*l.length)=aj cid l (rows.take k):=by
 have h1:aj cid l rows=aj cid l (rows.take k)++aj cid l (rows.drop k):=by rw[←cE,List.take_append_drop]
 have h2:(aj cid l (rows.take k)).length=k*l.length:=by rw[ay cid l _ (fun r h=>hr r (List.mem_of_mem_take h)),List.length_take,Nat.min_eq_left hk]
 rw[h1,←h2,List.take_left]
omit [Val]in
theorem xB(cid:Nat)(l:List Sh){rows:List (List Dat)}(hr:∀r∈rows,r.length=l.length)(k:Nat)(hk:k≤rows.length):(aj cid l rows).drop (k*l.length)=aj cid l (rows.drop k):=by
 have h1:aj cid l rows=aj cid l (rows.take k)++aj cid l (rows.drop k):=by rw[←cE,List.take_append_drop]
 have h2:(aj cid l (rows.take k)).length=k*l.length:=by rw[ay cid l _ (fun r h=>hr r (List.mem_of_mem_take h)),List.length_take,Nat.min_eq_left hk]
 rw[h1,←h2,List.drop_left]
omit [Val]in
theorem zt(cid:Nat)(l:List Sh){rows:List (List Dat)}(hr:∀r∈rows,r.length=l.length){k:Nat}(hk:k<rows.length){ds:List Dat}(hd:ds.length=l.length):
 aj cid l (rows.set k ds)=splice (aj cid l rows) (k*l.length) (bZ cid l ds):=by
 rw[gY,gi cid l ds hd,xA cid l hr k (by omega),show k*l.length+l.length=(k+1)*l.length by rw[Nat.add_mul];omega,xB cid l hr (k+1) (by omega),
  List.set_eq_take_append_cons_drop,if_pos hk,cE,cN,List.append_assoc]
theorem ss{x n:Sx}{rows:List (List Dat)}(hx:x.dat=.lst rows){r:List Dat}(hr:rows[n.dat.toI.toNat]? =some r):∀{cs:List Sx} {j:Nat},j+cs.length≤r.length→
 (setRow x n j cs).dat=.lst (rows.set n.dat.toI.toNat (r.take j++cs.map Sx.dat++r.drop (j+cs.length)))
 |[],j,h=>by have hk:n.dat.toI.toNat<rows.length:=(by rcases bl n.dat.toI.toNat rows.length with h|h;{exact h};rw[cb h]at hr;cases hr);have:rows.set n.dat.toI.toNat r=rows:=(by have:=bh hk;rw[hr]at this;simp only[aE]at this;rw[this];exact List.set_getElem_self hk);simp [setRow,hx,this]
 |c::cs,j,h=>by
  have hk:n.dat.toI.toNat<rows.length:=(by rcases bl n.dat.toI.toNat rows.length with h|h;{exact h};rw[cb h]at hr;cases hr);have hlen:j+1+cs.length≤r.length:=(by simp only[List.length_cons]at h;omega);have ih:=ss hx hr (cs:=cs) (j:=j+1) hlen;show Dat.setc (setRow x n (j+1) cs).dat n.dat.toI j c.dat=_;rw[ih];change Dat.lst ((rows.set n.dat.toI.toNat (r.take (j+1)++cs.map Sx.dat++r.drop (j+1+cs.length))).modify n.dat.toI.toNat fun r=>r.set j c.dat)=_;congr 1;apply List.ext_getElem?;intro i;rw[List.getElem?_modify];by_cases hi:n.dat.toI.toNat=i
  ·subst hi;rw[List.getElem?_set_self hk,List.getElem?_set_self hk];simp only[if_true,Option.map_eq_map,Option.map_some,aE];have ht:r.take (j+1)=r.take j++[r[j]'(by omega)]:=by
    rw[List.take_add_one,bh (by omega)];rfl
   have hl:(r.take j).length=j:=(by rw[List.length_take];omega);rw[ht,List.append_assoc,List.append_assoc,List.set_append_right _ _ (by omega),hl,Nat.sub_self];simp only[List.singleton_append,List.cons_append,List.nil_append,List.set_cons_zero,List.map_cons,List.length_cons,List.append_assoc];rw[show j+1+cs.length=j+(cs.length+1) by omega]
  rw[List.getElem?_set_ne hi,List.getElem?_set_ne hi];simp [hi]
theorem BW(hi:Inv0 R D φ σ w){t:TypeId}{a v:AV}{a' v':Value}{r:OhR}(h:xI P σ t a v=some r)(ha:VR φ a a')(hv:VR φ v v')(hk:Known D σ (r.to σ)):
 r.v=.tup []∧∃w',(Instr.storeAt t a' v').run P w=.ok () w'∧Post R D φ σ w (r.to σ) φ w':=by
 unfold xI at h;split at h
 ·rename_i k id ver l off n;split at h
  ·rename_i o s hoo hs;split at h
   ·rename_i cs hcs;simp only[au,ak]at h;split at h
    ·rename_i hb;obtain⟨b1,b2,b3⟩:=hb;have:=ad b1;subst this;have:=ad b2;subst this;have:=ad b3;subst this;cases h;refine⟨rfl,?_⟩;obtain⟨rfl,rfl,rfl,ho,hl0⟩:=za hoo;have hto:((⟨.tup [],[],some (o.id,.opq 2 o.ver o.cid (.slc o.l) (setRow o.x n 0 cs) o.y [] o.t),none⟩:OhR).to σ)=σ.put o.id (.opq 2 o.ver o.cid (.slc o.l) (setRow o.x n 0 cs) o.y [] o.t):=by
      unfold OhR.to cg;simp only[ho]
     rw[hto]at hk⊢;have hlt:=hi.lt ho;have hd:D o.id:=hk o.id (.inr (aQ.2 (.inl rfl))) hlt;cases ha with
     |opq _ hv3=>
      obtain⟨l',e,hl',he,hdn,h0,h4,h5,h6,rfl⟩:=hv3;simp only[Sh.slc.injEq]at hl';subst hl';obtain⟨rows,hx,hr,hor⟩:=xc hi ho hd;rcases hor with⟨_,_,_,hno⟩|⟨y1,⟨e2,he2,hh⟩,har⟩;{rw[hno _ (aw _)]at he;cases he};rw[he]at he2;cases he2;have hlen:=ay o.cid o.l rows (aN hr);rw[hlen]at hh;rw[hh]at h4;have hkl:n.dat.toI.toNat<rows.length:=(by have:=Nat.le_of_mul_le_mul_right h4 hl0;omega);have hrow:rows[n.dat.toI.toNat]? =some rows[n.dat.toI.toNat]:=bh hkl;have hrl:=(hr _ (List.getElem_mem hkl)).1;obtain⟨k1,k2,k3⟩:=DV hcs hv.cells;have hdl:(cs.map Sx.dat).length=o.l.length:=(by simp [k1]);have hsd:(setRow o.x n 0 cs).dat=.lst (rows.set n.dat.toI.toNat (cs.map Sx.dat)):=(by rw[ss hx hrow (by omega)];congr 2;rw[List.take_zero,List.nil_append,Nat.zero_add,k1,←hrl,List.drop_length,List.append_nil]);have hls:=zt o.cid o.l (aN hr) hkl hdl;have hvl:=gi o.cid o.l (cs.map Sx.dat) hdl;have hrr:dv o.l (rows.set n.dat.toI.toNat (cs.map Sx.dat)):=fun q hq=>(by rcases List.mem_or_eq_of_mem_set hq with h|rfl;{exact hr q h};exact⟨hdl,k3⟩);let oc:Ob:=.arr (aj o.cid o.l rows) o.ver (aj o.cid o.l rows).length (o.ver+1) (o.ver+1) o.t;have hi2:Inv0 R D φ {σ with heap:=σ.heap.set o.id oc} w:=hi.recast hlt har;have hle:n.dat.toI.toNat*o.l.length+o.l.length≤rows.length*o.l.length:=(by rw[Nat.add_mul]at h4;omega);have hwr:kT {σ with heap:=σ.heap.set o.id oc} o.id o.ver (n.dat.toI.toNat*o.l.length) (aj o.cid o.l rows).length (bZ o.cid o.l (cs.map Sx.dat))=
       some (St.put {σ with heap:=σ.heap.set o.id oc} o.id (.arr (aj o.cid o.l (rows.set n.dat.toI.toNat (cs.map Sx.dat))) o.ver (aj o.cid o.l rows).length (o.ver+1) (o.ver+1) o.t)):=by
       unfold kT;simp only[T.get_set_same,oc,Ob.write,au];rw[if_pos (by rw[qU,hvl,hlen];simp [Nat.ble_eq];exact hle),if_pos (by rw[hvl];simp [Nat.blt,Nat.ble_eq];omega),if_pos (Nat.beq_refl _),if_pos (by rw[hvl,hlen];simp [Nat.ble_eq];exact hle),List.take_length,←hls]
      obtain⟨w',r1,r2⟩:=nU (P:=P) hi2.inv hwr (fun i h hl=>hk i h hl) k2 he (by omega) (q:=e.up+n.dat.toI.toNat*o.l.length) (by omega);refine⟨w',?_,Post.recast hd hlt r2 fun hrep=> ?_⟩
      ·have hsz:v'.cells.size=o.l.length:=by
        have:=k2.length;rw[hvl]at this;simpa using this
       have hq:e.up+(n.dat.toI.toNat*o.l.length+((Sx.lit (Int.ofNat 0)).dat.toI).toNat)=e.up+n.dat.toI.toNat*o.l.length:=(by have:((Sx.lit (Int.ofNat 0)).dat.toI).toNat=0:=rfl;omega);rw[hq];simp [Instr.storeAt,Instr.sureAddr,storeVar,aY hs,hsz,r1]
      have hl2:(aj o.cid o.l (rows.set n.dat.toI.toNat (cs.map Sx.dat))).length=(aj o.cid o.l rows).length:=(by rw[ay _ _ _ (aN hrr),hlen,List.length_set]);refine⟨o.l,_,rfl,hsd,hrr,.inr ⟨y1,⟨e,he,?_⟩,?_⟩⟩;{rw[List.append_nil,hl2,hh,hlen]};rw[List.append_nil,hl2];exact hrep
    cases h
   cases h
  cases h
 cases h
end
end Go.Tw
namespace Go.Tw
noncomputable section
section
variable(P:Program)(ev:Operand→Option AV)(σ:St)
def si:List Sh:=[.int .i64]
def th:List Sh→Bool
 |[.int k]=>Nat.beq (cG k) (cG .i64)
 |_=>false
def zE:AV→Option Sx
 | .int k n=>bif Nat.beq (cG k) (cG .i64)then some (.lit n)else none
 | .sym k e=>bif Nat.beq (cG k) (cG .i64)then some e else none
 |_=>none
structure MapO where
 id:Nat
 cid:Nat
 x:Sx
 y:Sx
 t:TypeId
def mapOf:AV→Option MapO
 | .opq k id ver (.slc l) _ _=>match σ.heap.get id with
  |some (.opq k' ver' cid (.slc l') x y [] t)=>bif Nat.beq k 4&&(Nat.beq k' 4&&(Nat.beq ver 0&&(Nat.beq ver' 0&&(th l&&th l'))))then some ⟨id,cid,x,y,t⟩else none
  |_=>none
 |_=>none
def Ds(t:TypeId):Bool:=match P.underlying t with
 |some (.map kt et)=>(match plainKey P kt,zeroOf P et with
  |some (.int _),some z=>z.same (.int .i64 0)
  |_,_=>false)
 |_=>false
def J5(t:TypeId)(m k:AV)(ok:Bool):Option OhR:=match mapOf σ m,zE k with
 |some o,some n=>bif Ds P t then OhR.rdo (bif ok then .tup [.sym .i64 (.pr 32 o.x n),.symb (.cmp .neq (.pr 31 o.x n) (.lit 0))]else .sym .i64 (.pr 32 o.x n)) [o.id]else none
 |_,_=>none
def J1(t:TypeId)(m k v:AV):Option OhR:=match mapOf σ m,zE k,zE v with
 |some o,some n,some e=>bif Ds P t then some ⟨.tup [],[],some (o.id,.opq 4 0 o.cid (.slc si) (.pr 33 o.x (.pr 12 n (.pr 12 e (.pr 14 (.lit 0) (.lit 0))))) o.y [] o.t),none⟩else none
 |_,_,_=>none
def ZM(o:Oper):Option OhR:=match o.op with
 | .lookup t x k ok=>match ev x,ev k with
  |some m,some k=>J5 P σ t m k ok
  |_,_=>none
 | .mapUpdate t x k v=>match ev x,ev k,ev v with
  |some m,some k,some v=>J1 P σ t m k v
  |_,_,_=>none
 |_=>none
end
section
variable[Val]{P:Program}{R:Nat}{D:Nat→Prop}{φ:PM}{σ:St}{w:World}
omit [Val]in
theorem jK{l:List Sh}(h:th l=true):l=si:=by unfold th at h;split at h;{rename_i k;rw[cj (ad h)];rfl};cases h
theorem tj{a:AV}{a':Value}{n:Sx}(h:zE a=some n)(ha:VR φ a a'):a'=.int .i64 n.eval:=by unfold zE at h;split at h;{rw[au]at h;split at h;{rename_i hk;cases h;cases ha;rw[cj (ad hk)];rfl};cases h};{rw[au]at h;split at h;{rename_i hk;cases h;cases ha;rw[cj (ad hk)]};cases h};cases h
omit [Val]in
theorem zk{m:AV}{o:MapO}(h:mapOf σ m=some o):∃x y,m=.opq 4 o.id 0 (.slc si) x y∧σ.heap.get o.id=some (.opq 4 0 o.cid (.slc si) o.x o.y [] o.t):=by unfold mapOf at h;split at h;{rename_i k id ver l x0 y0;split at h;{rename_i k' ver' cid l' x y t ho;simp only[au,ak]at h;split at h;{rename_i hb;obtain⟨b1,b2,b3,b4,b5,b6⟩:=hb;have:=ad b1;subst this;have:=ad b2;subst this;have:=ad b3;subst this;have:=ad b4;subst this;have:=jK b5;subst this;have:=jK b6;subst this;cases h;exact⟨_,_,rfl,ho⟩};cases h};cases h};cases h
def uv(cid:Nat)(es:List (AV×AV×Nat))(rows:List (List Dat)):Prop:=es.map (fun e=>(e.1,e.2.1))=rows.map (BJ cid si false)
omit [Val]in
theorem ig(cid:Nat)(r:List Dat)(h:r.length=2):BJ cid si false r=(.int .i64 (rl r),.int .i64 (RP r)):=by
 match r,h with
 |[a,b],_=>rfl
omit [Val]in
theorem vX{cid:Nat}{n:Int}:∀{es:List (AV×AV×Nat)} {rows:List (List Dat)} (i:Nat),uv cid es rows→(∀r∈rows,r.length=2)→
 (tn rows n=true∧∃j,i≤j∧kJ (.int .i64 n) es i=some (some (j,.int .i64 (getM rows n))))∨(tn rows n=false∧kJ (.int .i64 n) es i=some none∧getM rows n=0)
 |[],rows,i,h,_=>by
  cases rows with
  |nil=>exact .inr ⟨rfl,rfl,rfl⟩
  |cons r l=>simp [uv]at h
 |(k,v,b)::es,rows,i,h,hr=>by
  cases rows with
  |nil=>simp [uv]at h
  |cons r l=>simp only[uv,List.map_cons,List.cons.injEq]at h;obtain⟨h1,h2⟩:=h;rw[ig cid r (hr r (by simp))]at h1;cases h1;simp only[kJ,sameKey,if_true];by_cases hk:n=rl r;{subst hk;refine .inl ⟨by simp [tn],i,aw _,?_⟩;simp [getM]};have hk1:(n==rl r)=false:=(by simpa using hk);have hk2:(rl r==n)=false:=(by simpa using fun h=>hk h.symm);rw[hk1];rcases vX (n:=n) (i+1) h2 (fun q hq=>hr q (by simp [hq]))with⟨g1,j,g2,g3⟩|⟨g1,g2,g3⟩;{exact .inl ⟨by simp [tn,g1],j,by omega,by simp only[getM,hk2,cond_false];exact g3⟩};exact .inr ⟨by simp [tn,g1,hk2],g2,by simp only[getM,hk2,cond_false];exact g3⟩
omit [Val]in
theorem yF{cid:Nat}{n m:Int}{c:Nat}:∀{es:List (AV×AV×Nat)} {rows:List (List Dat)} (i:Nat),uv cid es rows→(∀r∈rows,r.length=2)→
 (∃j u,i≤j∧kJ (.int .i64 n) es i=some (some (j,u))∧uv cid (zh (j - i) (fun e=>(.int .i64 n,.int .i64 m,e.2.2)) es) (oB rows n m))∨
   (kJ (.int .i64 n) es i=some none∧uv cid (es++[(.int .i64 n,.int .i64 m,c)]) (oB rows n m))
 |[],rows,i,h,_=>by
  cases rows with
  |nil=>exact .inr ⟨rfl,rfl⟩
  |cons r l=>simp [uv]at h
 |(k,v,b)::es,rows,i,h,hr=>by
  cases rows with
  |nil=>simp [uv]at h
  |cons r l=>simp only[uv,List.map_cons,List.cons.injEq]at h;obtain⟨h1,h2⟩:=h;have h10:=h1;rw[ig cid r (hr r (by simp))]at h1;cases h1;simp only[kJ,sameKey,if_true];by_cases hk:n=rl r;{subst hk;refine .inl ⟨i,_,aw _,by simp;rfl,?_⟩;rw[Nat.sub_self];simp only[zh,oB,beq_self_eq_true,cond_true,uv,List.map_cons,List.cons.injEq];exact⟨rfl,h2⟩};have hk1:(n==rl r)=false:=(by simpa using hk);have hk2:(rl r==n)=false:=(by simpa using fun h=>hk h.symm);rw[hk1];simp only[oB,hk2,cond_false];rcases yF (n:=n) (m:=m) (c:=c) (i+1) h2 (fun q hq=>hr q (by simp [hq]))with⟨j,u,g1,g2,g3⟩|⟨g1,g2⟩;{refine .inl ⟨j,u,by omega,g2,?_⟩;obtain⟨d,hd⟩:∃d,j - i=d+1:=⟨j - i - 1,by omega⟩;rw[show j - (i+1)=d by omega]at g3;rw[hd];simp only[zh,uv,List.map_cons,List.cons.injEq];exact⟨h10,g3⟩};refine .inr ⟨g1,?_⟩;simp only[List.cons_append,uv,List.map_cons,List.cons.injEq];exact⟨h10,g2⟩
omit [Val]in
theorem yG{n m:Int}:∀{rows:List (List Dat)},(∀r∈rows,r.length=2)→∀r∈oB rows n m,r.length=2
 |[],_,r,h=>by simp [oB]at h;subst h;rfl
 |q::l,hr,r,h=>by
  simp only[oB]at h;cases hk:rl q==n with
  |true=>simp only[hk,cond_true,cP]at h;rcases h with rfl|h;{rfl};exact hr r (by simp [h])
  |false=>simp only[hk,cond_false,cP]at h;rcases h with rfl|h;{exact hr _ (by simp)};exact yG (fun r h=>hr r (by simp [h])) r h
theorem zj{t:TypeId}(h:Ds P t=true):∃kt et k z,P.underlying t=some (.map kt et)∧plainKey P kt=some (.int k)∧zeroOf P et=some z∧z=.int .i64 0:=by unfold Ds at h;split at h;{rename_i kt et hu;split at h;{rename_i k z hk hz;exact⟨kt,et,k,z,hu,hk,hz,AV.same_eq h⟩};cases h};cases h
theorem Dr(hi:Inv0 R D φ σ w){o:MapO}(ho:σ.heap.get o.id=some (.opq 4 0 o.cid (.slc si) o.x o.y [] o.t))(hd:D o.id):
 ∃rows es clock,o.x.dat=.lst rows∧(∀r∈rows,r.length=2)∧uv o.cid es rows∧Rep R φ w o.id (some (.map es clock)):=by
 obtain⟨l,rows,es,hl,hx,hr,hes,hR,e,es',clock,h1,h2,h3⟩:=hi.at ho hd;simp only[Sh.slc.injEq]at hl;subst hl;exact⟨rows,es,clock,hx,fun r h=>(hr r h).1,hes,hR,e,es',h1,h2,h3⟩
theorem J4(hi:Inv0 R D φ σ w){t:TypeId}{m k:AV}{m' k':Value}{ok:Bool}{r:OhR}(h:J5 P σ t m k ok=some r)(hm:VR φ m m')(hk:VR φ k k')(hkn:Known D σ (r.to σ)):
 ∃v',(Instr.lookup t m' k' ok).run P w=.ok v' w∧VR φ r.v v'∧Post R D φ σ w (r.to σ) φ w:=by
 unfold J5 at h;split at h
 ·rename_i o n ho hn;rw[au]at h;split at h
  ·rename_i hty;simp only[OhR.rdo,aE]at h;subst h;obtain⟨x0,y0,rfl,hob⟩:=zk ho;have hlt:=hi.lt hob;have hd:D o.id:=jJ hkn (by simp) hlt;obtain⟨rows,es,clock,hx,h2,hent,hrep⟩:=Dr hi hob hd;obtain⟨kt,et,kk,z,hu,hpk,hz,rfl⟩:=zj hty;have hk0:=tj hn hk;subst hk0;have hi2:Inv0 R D φ {σ with heap:=σ.heap.set o.id (.map es clock)} w:=hi.recast hlt hrep;have hm2:VR φ (.map o.id) m':=by
    cases hm with
    |opq _ hv=>obtain⟨e,he,rfl⟩:=hv;exact .map e he
   have hfit:gk P kt (.int .i64 n.eval)=true:=(by simp [gk,hpk]);have hkk:Known D {σ with heap:=σ.heap.set o.id (.map es clock)} (St.lgR {σ with heap:=σ.heap.set o.id (.map es clock)} o.id):=fun i hq hl=>hkn i (by rcases hq with hq|hq;{exact .inl hq};exact .inr hq) hl;have hxe:∀f:List (List Dat)→Int→Int,(o.x.dat.toL=rows):=fun _=>(by rw[hx];rfl);have e32:(Sx.pr 32 o.x n).eval=getM rows n.eval:=(by show getM o.x.dat.toL n.dat.toI=_;rw[hx];rfl);have e31:(Bx.cmp .neq (.pr 31 o.x n) (.lit 0)).eval=tn rows n.eval:=(by show(dO (tn o.x.dat.toL n.dat.toI) != 0)=_;rw[hx];show(dO (tn rows n.eval) != 0)=_;cases tn rows n.eval<;>rfl);rcases vX (n:=n.eval) 0 hent h2 with⟨g1,j,_,g3⟩|⟨g1,g2,g3⟩
   ·have hl:gf P t (.map o.id) (.int .i64 n.eval) ok {σ with heap:=σ.heap.set o.id (.map es clock)}=some (bif ok then .tup [.int .i64 (getM rows n.eval),.bool true]else .int .i64 (getM rows n.eval),St.lgR {σ with heap:=σ.heap.set o.id (.map es clock)} o.id):=by
     unfold gf;simp only[hu,hfit,cond_true,T.get_set_same,g3]
    obtain⟨v',r1,r2,_⟩:=oa (P:=P) hi2.inv hl hm2 (.int .i64 n.eval) hkk;refine⟨v',r1,?_,Post.read hi _⟩;cases ok with
    |true=>
     cases r2 with
     |tup l q=>
      obtain⟨l⟩:=l;have q:VRL φ _ l:=q;cases q with
      |cons q1 q2=>cases q2 with
       |cons q3 q4=>cases q1;cases q3;cases q4;refine .tup _ (.cons ?_ (.cons ?_ .nil));{rw[←e32];exact .sym _ _};have:=e31.trans g1;rw[←this];exact .symb _
    |false=>have r2:VR φ (.int .i64 (getM rows n.eval)) v':=r2;cases r2;rw[←e32];exact .sym _ _
   have hl:gf P t (.map o.id) (.int .i64 n.eval) ok {σ with heap:=σ.heap.set o.id (.map es clock)}=some (bif ok then .tup [.int .i64 0,.bool false]else .int .i64 0,St.lgR {σ with heap:=σ.heap.set o.id (.map es clock)} o.id):=(by unfold gf;simp only[hu,hfit,cond_true,T.get_set_same,g2,hz]);obtain⟨v',r1,r2,_⟩:=oa (P:=P) hi2.inv hl hm2 (.int .i64 n.eval) hkk;refine⟨v',r1,?_,Post.read hi _⟩;rw[g3]at e32;cases ok with
   |true=>
    cases r2 with
    |tup l q=>
     obtain⟨l⟩:=l;have q:VRL φ _ l:=q;cases q with
     |cons q1 q2=>cases q2 with
      |cons q3 q4=>cases q1;cases q3;cases q4;refine .tup _ (.cons ?_ (.cons ?_ .nil));{rw[←e32];exact .sym _ _};have:=e31.trans g1;rw[←this];exact .symb _
   |false=>have r2:VR φ (.int .i64 0) v':=r2;cases r2;rw[←e32];exact .sym _ _
  cases h
 cases h
theorem JZ(hi:Inv0 R D φ σ w){t:TypeId}{m k v:AV}{m' k' v':Value}{r:OhR}(h:J1 P σ t m k v=some r)(hm:VR φ m m')(hk:VR φ k k')(hv:VR φ v v')(hkn:Known D σ (r.to σ)):
 r.v=.tup []∧∃w',(Instr.mapUpdate t m' k' v').run P w=.ok () w'∧Post R D φ σ w (r.to σ) φ w':=by
 unfold J1 at h;split at h
 ·rename_i o n e ho hn he;rw[au]at h;split at h
  ·rename_i hty;cases h;refine⟨rfl,?_⟩;obtain⟨x0,y0,rfl,hob⟩:=zk ho;have hlt:=hi.lt hob;have hto:((⟨.tup [],[],some (o.id,.opq 4 0 o.cid (.slc si) (.pr 33 o.x (.pr 12 n (.pr 12 e (.pr 14 (.lit 0) (.lit 0))))) o.y [] o.t),none⟩:OhR).to σ)=σ.put o.id (.opq 4 0 o.cid (.slc si) (.pr 33 o.x (.pr 12 n (.pr 12 e (.pr 14 (.lit 0) (.lit 0))))) o.y [] o.t):=by
    unfold OhR.to cg;simp only[hob]
   rw[hto]at hkn⊢;have hd:D o.id:=hkn o.id (.inr (aQ.2 (.inl rfl))) hlt;obtain⟨rows,es,clock,hx,h2,hent,hrep⟩:=Dr hi hob hd;obtain⟨kt,et,kk,z,hu,hpk,hz,rfl⟩:=zj hty;have hk0:=tj hn hk;subst hk0;have hv0:=tj he hv;subst hv0;have hi2:Inv0 R D φ {σ with heap:=σ.heap.set o.id (.map es clock)} w:=hi.recast hlt hrep;have hm2:VR φ (.map o.id) m':=by
    cases hm with
    |opq _ hv=>obtain⟨e,he,rfl⟩:=hv;exact .map e he
   have hfit:gk P kt (.int .i64 n.eval)=true:=(by simp [gk,hpk]);have hx2:(Sx.pr 33 o.x (.pr 12 n (.pr 12 e (.pr 14 (.lit 0) (.lit 0))))).dat=.lst (oB rows n.eval e.eval):=(by show Dat.lst (oB o.x.dat.toL _ _)=_;rw[hx];rfl);have back:∀(es2:List (AV×AV×Nat)) (c2:Nat) (w':World),uv o.cid es2 (oB rows n.eval e.eval)→Rep R φ w' o.id (some (.map es2 c2))→Rep R φ w' o.id (some (.opq 4 0 o.cid (.slc si) (.pr 33 o.x (.pr 12 n (.pr 12 e (.pr 14 (.lit 0) (.lit 0))))) o.y [] o.t)):=fun es2 c2 w' h1 h3=>by
    obtain⟨hR,ex,es',q1,q2,q3⟩:=h3;refine⟨si,_,es2,rfl,hx2,fun r hr=>⟨yG h2 r hr,fun j s d a b=> ?_⟩,h1,hR,ex,es',c2,q1,q2,q3⟩
    match j,a with
    |0,a=>simp [si]at a;subst a;trivial
    |1,a=>simp [si]at a;subst a;trivial
    |j+2,a=>simp [si]at a
   rcases yF (n:=n.eval) (m:=e.eval) (c:=clock) 0 hent h2 with⟨j,u,_,g2,g3⟩|⟨g1,g2⟩
   ·have hl:eG P t (.map o.id) (.int .i64 n.eval) (.int .i64 e.eval) {σ with heap:=σ.heap.set o.id (.map es clock)}=some (St.put {σ with heap:=σ.heap.set o.id (.map es clock)} o.id (.map (zh j (fun x=>(.int .i64 n.eval,.int .i64 e.eval,x.2.2)) es) clock)):=by
     unfold eG;simp only[hu,hfit,cond_true,T.get_set_same,g2]
    obtain⟨w',r1,r2⟩:=jX (P:=P) hi2.inv hl hm2 (.int .i64 n.eval) (.int .i64 e.eval) (fun i h hl=>hkn i h hl);exact⟨w',r1,Post.recast hd hlt r2 (back _ _ _ (by simpa using g3))⟩
   have hl:eG P t (.map o.id) (.int .i64 n.eval) (.int .i64 e.eval) {σ with heap:=σ.heap.set o.id (.map es clock)}=some (St.put {σ with heap:=σ.heap.set o.id (.map es clock)} o.id (.map (es++[(.int .i64 n.eval,.int .i64 e.eval,clock)]) (clock+1))):=(by unfold eG;simp only[hu,hfit,cond_true,T.get_set_same,g1]);obtain⟨w',r1,r2⟩:=jX (P:=P) hi2.inv hl hm2 (.int .i64 n.eval) (.int .i64 e.eval) (fun i h hl=>hkn i h hl);exact⟨w',r1,Post.recast hd hlt r2 (back _ _ _ g2)⟩
  cases h
 cases h
end
end
end Go.Tw
namespace Go.Tw
noncomputable section
section
variable[Val]{P:Program}{R:Nat}{D:Nat→Prop}{φ:PM}{σ:St}{w:World}{dec:Bx→Option Bool}
theorem Inv0.read(hi:Inv0 R D φ σ w)(l:List Nat):Inv0 R D φ (cg l σ) w:=by obtain⟨h1,h2,h3⟩:=bk l σ;exact⟨hi.wf,by rw[h3];exact hi.wrR,by rw[h2];exact hi.low,fun i hd hn=>by rw[h1];rw[h2]at hn;exact hi.rep i hd hn,fun i hn=>by rw[h1];rw[h2]at hn;exact hi.dom i hn⟩
omit [Val]in
theorem Br(l:List Nat)(a:AV):fK (cg l σ) a=fK σ a:=by unfold fK;rw[(bk l σ).1]
omit [Val]in
theorem OhR.to_put{v:AV}{l:List Nat}{id:Nat}{o o':Ob}(h:σ.heap.get id=some o'):(⟨v,l,some (id,o),none⟩:OhR).to σ=(cg l σ).put id o:=by
 unfold OhR.to;have:(cg l σ).heap.get id=some o':=by rw[(bk l σ).1];exact h
 simp only[this]
theorem Nd{a:Sx}{b:Bool}{x:Sx}{rows2:List (List Dat)}(hx:x.dat=.lst rows2)(ha:a.dat=.int 0∨a.dat=.int 1)(hb:b=true→rows2≠[]):(YZ a b x).dat=.int (dO (decide (a.dat.toI≠0∨rows2≠[]))):=by
 unfold YZ;rw[au];split;{rename_i h;have:=hb h;simp [Sx.dat,this,dO]};split;{simp [Sx.dat,dO,Dat.toI]};rename_i hne;show Dat.int (dO (a.dat.toI != 0||(Sx.pr 29 x (.lit 0)).dat.toI != 0))=_;have:(Sx.pr 29 x (.lit 0)).dat=.int (dO (decide (rows2≠[]))):=by show Dat.int (dO (decide (x.dat.toL.length≠0)))=_;rw[hx];simp [Dat.toL]
 rw[this];rcases ha with h|h<;>rw[h]<;>by_cases h2:rows2=[]<;>simp [h2,dO,Dat.toI]
theorem BV(hi:Inv0 R D φ σ w)(hdec:∀b v,dec b=some v→b.eval=v){ts:List TypeId}{args:List AV}{ts':Array TypeId}{args':Array Value}{ty:TypeId}{r:OhR}(h:xH P dec σ ts args=some r)
 (hts:ts'.toList=ts)(hargs:VRL φ args args'.toList)(hk:Known D σ (r.to σ))(hf:Free φ σ (r.to σ)):
 ∃φ' w' v',(Builtin.append_ ts' ty args').run P w=.ok v' w'∧VR φ' r.v v'∧Post R D φ σ w (r.to σ) φ' w':=by
 unfold xH at h;split at h
 ·rename_i st u s x;have hts2:ts'= #[st,u]:=(by apply Array.ext';simpa using hts);subst hts2;obtain⟨s',x',hargs2,hs,hx⟩:=hargs.two;subst hargs2;split at h
  ·rename_i e hu;split at h
   ·rename_i size bw z h1 h2 h3 h4;simp only[au,ak]at h;split at h
    ·rename_i hb;have hz:=ad hb.1;have hbw:=aA hb.2;obtain⟨ti,z',hti,hsz,hbw',rz,vz,hzs⟩:=mY h1 h2 h3 hz;split at h
     ·rename_i hem;split at h
      ·rename_i cid l hcid;split at h
       ·rename_i hb2;have hsl:=ad hb2.1;split at h
        ·rename_i q hq;cases h;have hto:∀v,((⟨v,q.rd,none,some (.opq 2 0 cid (.slc l) q.x (.pr 29 q.x (.lit 0)) [] e)⟩:OhR).to σ)=(cg q.rd σ).mk' (.opq 2 0 cid (.slc l) q.x (.pr 29 q.x (.lit 0)) [] e):=fun v=>rfl;rw[hto]at hk hf⊢;have hkq:Known D σ (cg q.rd σ):=fun i h hl=>hk i h hl;obtain⟨rows2,hsrc,hs1,hs2⟩:=sc (P:=P) (e:=e) (u:=u) (ti:=ti) hi hdec hq hx hkq h4 (by omega);have hb0:∃b,s'=.slice b 0 0:=by
          unfold x8 at hem;split at hem;·cases hs;exact⟨none,rfl⟩
          ·cases hs with
           |slc ex o c he hd hh hl hc ho=>have:=(hc 0 rfl).1;subst this;exact⟨_,rfl⟩
          cases hem
         obtain⟨b,rfl⟩:=hb0;have hnx:(cg q.rd σ).next=σ.next:=(bk q.rd σ).2.1;have hfree:∀v,φ (cg q.rd σ).next v=none:=fun v=>hf _ (by omega) (by simp [St.mk']) v;have hy:(Sx.pr 29 q.x (.lit 0)).dat=.int (dO (decide (rows2≠[]))):=(by show Dat.int (dO (decide (q.x.dat.toL.length≠0)))=_;rw[hsrc.1];simp [Dat.toL]);obtain⟨φ',w',v',p1,p2,p3⟩:=Dj (P:=P) (ty:=ty) (u:=u) (b:=b) (x':=x') (cid:=cid) (x2:=q.x) (hi.read q.rd) hfree hu hti (by omega) rz (by omega) hsrc hs1 (by omega) hy;rw[hnx]at p2;exact⟨φ',w',v',p1,p2,p3.from hnx (bk q.rd σ).2.2⟩
        cases h
       cases h
      cases h
     split at h
     ·rename_i o hoo;split at h
      ·rename_i hb2;have hsl:=ad hb2.1.1;have het:=ad hb2.1.2;split at h
       ·rename_i q hq;cases h;obtain⟨z0,_,ho,hl0⟩:=gA hoo;rw[OhR.to_put ho]at hk hf⊢;have hkq:Known D σ (cg q.rd σ):=fun i h hl=>hk i (h.imp (fun h=>h) (fun h=>aQ.2 (.inr h))) hl;obtain⟨rows2,hsrc,hs1,hs2⟩:=sc (P:=P) (e:=e) (u:=u) (ti:=ti) hi hdec hq hx hkq h4 (by omega);have hd:D o.id:=hk o.id (.inr (aQ.2 (.inl rfl))) (hi.lt ho);obtain⟨rows,hxd,hr,hor⟩:=ga hi hoo hs hd;have hyy:o.y.dat=.int 0∨o.y.dat=.int 1:=by
         rcases hor with⟨_,_,h,_⟩|⟨_,_,_,h,_⟩;{exact .inl h};exact .inr h
        obtain⟨φ',w',v',p1,p2,p3⟩:=Bq (P:=P) (ty:=ty) (u:=u) (x':=x') (x2:=q.x) (y':=YZ o.y q.some q.x) (hi.read q.rd) (by rw[Br];exact hoo) hs hd hu hti (by omega) rz (by omega) het hsrc
         (fun rows hx=>pU hdec hb2.2 hx) hs1 (by omega) (Nd hsrc.1 hyy hs2)
        exact⟨φ',w',v',p1,p2,p3.from (bk q.rd σ).2.1 (bk q.rd σ).2.2⟩
       cases h
      cases h
     cases h
    cases h
   cases h
  cases h
 cases h
end
def xK(P:Program)(dec:Bx→Option Bool)(σ:St)(t:TypeId)(a:AV)(hi:AV):Option OhR:=match fK σ a,P.underlying t,uw hi with
 |some o,some (.slice e),some (_,q)=>match dh P e with
  |some s=>bif Nat.beq s o.l.length&&(uu dec (.cmp .geq q (.lit 0))&&uu dec (.cmp .leq q (ae o.x)))then some ⟨.opq 2 o.id (o.ver+1) (.slc o.l) (.lit 0) o.y,[],some (o.id,.opq 2 (o.ver+1) o.cid (.slc o.l) (.pr 10 o.x q) o.y [] o.t),none⟩else none
  |none=>none
 |_,_,_=>none
theorem Gv(c:Nat)(l:List Sh)(rows:List (List Dat))(n k:Nat)(a:AV)(h:(aj c l (rows.take n))[k]? =some a):(aj c l rows)[k]? =some a:=by
 have e:aj c l rows=aj c l (rows.take n)++aj c l (rows.drop n):=by rw[←cE,List.take_append_drop]
 have hk:k<(aj c l (rows.take n)).length:=by rcases bl k (aj c l (rows.take n)).length with h'|h';{exact h'};rw[cb h']at h;cases h
 rw[e,List.getElem?_append_left hk];exact h
theorem BZ[Val]{P:Program}{R:Nat}{D:Nat→Prop}{φ:PM}{σ:St}{w:World}{dec:Bx→Option Bool}(hi:Inv0 R D φ σ w)(hdec:∀b v,dec b=some v→b.eval=v){t:TypeId}{a q:AV}{a' q':Value}{r:OhR}(h:xK P dec σ t a q=some r)(ha:VR φ a a')(hq:VR φ q q')
 (hk:Known D σ (r.to σ)):∃φ' w' v',(Instr.sliceAt t a' none (some q') none).run P w=.ok v' w'∧VR φ' r.v v'∧Post R D φ σ w (r.to σ) φ' w':=by
 unfold xK at h;split at h
 ·rename_i o e kk q hoo hu hqs;split at h
  ·rename_i s hs;simp only[au,ak]at h;split at h
   ·rename_i hb;obtain⟨b1,b2,b3⟩:=hb;have:=ad b1;subst this;cases h;obtain⟨z,_,ho,hl0⟩:=gA hoo;have hlt:=hi.lt ho;rw[OhR.to_put ho]at hk⊢;have hd:D o.id:=hk o.id (.inr (aQ.2 (.inl rfl))) hlt;obtain⟨rows,hx,hr,hor⟩:=ga hi hoo ha hd;have hqv:q'=.int kk q.eval:=iJ hqs hq;subst hqv;have g1:=hdec _ _ (db b2);have g2:=hdec _ _ (db b3);simp only[Bx.eval,dz,decide_eq_true_eq,ek hx]at g1 g2;have g1:0≤q.eval:=g1;obtain⟨m,hm⟩:∃m:Nat,q.eval=m:=⟨q.eval.toNat,by omega⟩;have hms:m≤rows.length:=(by omega);have hxx:(Sx.pr 10 o.x q).dat=.lst (rows.take m):=by
     show Dat.lst (o.x.dat.toL.take q.dat.toI.toNat)=_;have e1:q.dat.toI=(m:Int):=hm;rw[hx,e1,Int.toNat_natCast];rfl
    have hrr:dv o.l (rows.take m):=fun r h=>hr r (List.mem_of_mem_take h);have hrun:∀(b:Option Addr) (c:Nat),rows.length≤c→(Instr.sliceAt t (.slice b rows.length c) none (some (.int kk q.eval)) none).run P w=.ok (.slice b m c) w:=by
     intro b c hc;have hbd:cH rows.length none none (some (.int kk (m:Int))) none=some (0,m,none):=(by simp [cH,ue,ug,uf,Gd,qJ,fk hms]);have hv2:yq φ (some (.int kk (m:Int))) (some (.int kk q.eval)):=(by rw[hm];exact .int _ _);obtain⟨M,r1,r2,r3,r4,r5,r6⟩:=eO (P:=P) (φ:=φ) (b:=true) hbd (lo':=none) trivial hv2 (hi':=some (.int kk q.eval)) (mx':=none) trivial (c:=c) (fun k hk=>by cases hk) hc;have hM:M=c:=(r6 rfl).1;subst hM;simp only[Instr.sliceAt,Instr.slice,br,ai hu,bG,r1,aY hs,Sem.run_pure,Nat.sub_zero,Nat.zero_mul];congr 2;split;{rfl};cases b with
     |none=>rfl
     |some a=>simp [Addr.add]
    rcases hor with⟨b,rfl,y0,rfl,hR,hno⟩|⟨ex,c,rfl,y1,he,hdn,hhi,hc,hbs,har⟩;{have hm0:m=0:=(by simpa using hms);subst hm0;refine⟨φ,w,_,hrun b 0 (aw _),.opq _ (.inl ⟨y0,b,rfl⟩),(Post.put0 (hi.read []) hR hlt φ.le_refl hi.wf (fun _ _ _=>rfl) (fun v e he=>.inl ⟨v,e,he,rfl⟩) (.refl _ _ _) ?_)⟩;exact⟨o.l,[],rfl,by simpa using hxx,by simpa using hrr,.inl ⟨y0,rfl,rfl,hR,fun v hv=>hno v (by omega)⟩⟩};have hR:=har.1;have hno:∀v,o.ver+1≤v→φ o.id v=none:=har.2.2.2.2.1;have hmul:=ix o.l.length hms;have htp:=hi.wf.top _ _ _ he;let ex':Ext:={ex with hi:=m*o.l.length};have hle:=φ.le_ins (v:=o.ver+1) ex' (hno (o.ver+1) (aw _));refine⟨φ.ins o.id (o.ver+1) ex',w,_,hrun _ c hc,.opq _ (.inr ⟨y1,o.l,ex',c,m,rfl,PM.ins_same _ _ _ _,hdn,rfl,by omega,hbs,rfl⟩),
     (Post.put0 (hi.read []) hR hlt hle (hi.wf.ver (e':=ex') he hR rfl (by show m*o.l.length+ex.up≤ex.bsz+ex.dn;omega)) (fun i h v=>φ.ins_id ex' h v) (fun v f hf=> ?_) (.refl _ _ _) ?_)⟩
    {unfold PM.ins at hf;split at hf;{cases hf;exact .inl ⟨o.ver,ex,he,rfl⟩};exact .inl ⟨v,f,hf,rfl⟩};obtain⟨e3,cs,fl,fh,he3,hb,k1,k2,k4,k5⟩:=eW har;rw[he]at he3;cases he3;have hlen:=ay o.cid o.l (rows.take m) (aN hrr);have hlm:(rows.take m).length=m:=(by simp;omega);rw[hlm]at hlen;refine⟨o.l,rows.take m,rfl,hxx,hrr,.inr ⟨y1,⟨ex',PM.ins_same _ _ _ _,?_⟩,?_⟩⟩;{rw[List.append_nil,hlen]};rw[List.append_nil];refine .single hR (PM.ins_same _ _ _ _) (fun v hv=>by rw[PM.ins_ver _ _ (by omega)];exact hno v (by omega)) hb k1 (by rw[hlen];exact aw _) k4 fun x a x1 x2 x3=> ?_;have hx':x<(aj o.cid o.l rows).length:=(by rw[ay _ _ _ (aN hr)];omega);obtain⟨a',q1,q2⟩:=k5 x a x1 hx' (Gv _ _ _ _ _ _ x3);exact⟨a',q1,q2.mono hle⟩
   cases h
  cases h
 cases h
def BT(P:Program)(dec:Bx→Option Bool)(σ:St)(l:List Sh)(ts:List TypeId)(s x:AV):Option OhR:=match ts,x with
 |[st,u],.sym _ n=>match P.underlying st with
  |some (.slice e)=>match dh P e,ub P e,zeroOf P e,hC P u with
   |some size,some bw,some z,some true=>match ku gid l z.cells with
    |some r=>bif Nat.beq z.cells.length size&&(Nat.beq l.length size&&(Nat.ble bw 16384&&(x8 s&&(uu dec (.cmp .geq n (.lit 0))&&uu dec (.cmp .leq n (.lit 1000000000))))))then
     some ⟨.opq 2 σ.next 0 (.slc l) (.lit 0) (.pr 29 (.pr 18 n r) (.lit 0)),[],none,some (.opq 2 0 gid (.slc l) (.pr 18 n r) (.pr 29 (.pr 18 n r) (.lit 0)) [] e)⟩else none
    |none=>none
   |_,_,_,_=>none
  |_=>none
 |_,_=>none
theorem Fg[Val]{P:Program}{R:Nat}{D:Nat→Prop}{φ:PM}{σ:St}{w:World}{dec:Bx→Option Bool}(hi:Inv0 R D φ σ w)(hdec:∀b v,dec b=some v→b.eval=v){l:List Sh}{ts:List TypeId}{s x:AV}{s' x':Value}{ts':Array TypeId}{ty:TypeId}{r:OhR}
 (h:BT P dec σ l ts s x=some r)(hts:ts'.toList=ts)(hs:VR φ s s')(hx:VR φ x x')(hf:Free φ σ (r.to σ)):
 ∃φ' w' v',(Builtin.append_ ts' ty #[s',x']).run P w=.ok v' w'∧VR φ' r.v v'∧Post R D φ σ w (r.to σ) φ' w':=by
 unfold BT at h;split at h
 ·rename_i st u k n;have hts2:ts'= #[st,u]:=(by apply Array.ext';simpa using hts);subst hts2;split at h
  ·rename_i e hu;split at h
   ·rename_i size bw z h1 h2 h3 h4;split at h
    ·rename_i rr hrr;simp only[au,ak]at h;split at h
     ·rename_i hb;obtain⟨b1,b2,b3,b4,b5,b6⟩:=hb;have hz:=ad b1;have hl:=ad b2;have hbw:=aA b3;cases h;obtain⟨ti,z',hti,hsz,hbw',rz,vz,hzs⟩:=mY h1 h2 h3 hz;have g1:=hdec _ _ (db b5);have g2:=hdec _ _ (db b6);simp only[Bx.eval,dz,decide_eq_true_eq]at g1 g2;have g1:0≤n.eval:=g1;have g2:n.eval≤1000000000:=g2;obtain⟨m,hm⟩:∃m:Nat,n.eval=m:=⟨n.eval.toNat,by omega⟩;have hui:∃ik,P.underlying u=some (.int ik):=by
       unfold hC at h4;split at h4;{rename_i ik hu2;exact⟨ik,hu2⟩};{cases h4};cases h4
      obtain⟨ik,hu2⟩:=hui;have hxv:x'=.int k n.eval:=(by cases hx;rfl);subst hxv;have hvz:=(vz φ).cells;obtain⟨row,e1,e2,e3,e4⟩:=jO hrr hvz;have hd:(Sx.pr 18 n rr).dat=.lst (List.replicate m row):=(by show Dat.lst (List.replicate n.dat.toI.toNat rr.dat.one)=_;have e5:n.dat.toI=(m:Int):=hm;rw[e5,Int.toNat_natCast,e1];rfl);have hro:dv l (List.replicate m row):=fun r hr=>(by have:=List.eq_of_mem_replicate hr;subst this;exact⟨e2,e4⟩);have harr:VRL φ (repl m z.cells) ((if m*ti.size=0 then #[]else Builtin.zeroCells z'.cells m:Array Value)).toList:=by
       split
       ·rename_i h0;have:repl m z.cells=[]:=by
         apply List.length_eq_zero_iff.1;rw[eV,hz,←hsz,h0]
        rw[this];exact .nil
       rename_i h0;have:=cJ vz hz φ z'.cells (c:=m) (fun _=>rfl);rw[←hzs]at this;exact this
      have hlit:∀(j:Nat) (vs:List Value),VRL φ (repl j z.cells) vs→VRL φ (aj gid l (List.replicate j row)) vs:=by
       intro j
       induction j with
       |zero=>intro vs h;cases h;exact .nil
       |succ j ih=>intro vs h;rw[List.replicate_succ,cN];simp only[repl]at h;have h5:=h.take z.cells.length;have h6:=h.drop z.cells.length;rw[List.take_left]at h5;rw[List.drop_left]at h6;obtain⟨row',f1,f2,f3,f4⟩:=jO hrr h5;rw[e1]at f1;simp only[Dat.lst.injEq,List.cons.injEq,and_true]at f1;subst f1;have:=f3.append (ih _ h6);rwa[List.take_append_drop]at this
      have hb0:∃b,s'=.slice b 0 0:=by
       unfold x8 at b4;split at b4;·cases hs;exact⟨none,rfl⟩
       ·cases hs with
        |slc ex o c he hd hh hl hc ho=>have:=(hc 0 rfl).1;subst this;exact⟨_,rfl⟩
       cases b4
      obtain⟨b,rfl⟩:=hb0;have hto:∀v ob,((⟨v,[],none,some ob⟩:OhR).to σ)=σ.mk' ob:=fun v ob=>rfl;rw[hto]at hf⊢;have hfree:∀v,φ σ.next v=none:=fun v=>hf _ (aw _) (by simp [St.mk']) v;have hy:(Sx.pr 29 (.pr 18 n rr) (.lit 0)).dat=.int (dO (decide (List.replicate m row≠[]))):=(by show Dat.int (dO (decide ((Sx.pr 18 n rr).dat.toL.length≠0)))=_;rw[hd];simp [Dat.toL]);have hbm:m*ti.bytes≤70368744177664:=(by have:m*ti.bytes≤1000000000*16384:=Nat.mul_le_mul (by omega) (by omega);omega);have hsrc:Lt P φ w e ti u gid l (.pr 18 n rr) (.int k n.eval) (List.replicate m row):=
       ⟨hd,hro,_,hlit m _ harr,.inr ⟨ik,k,z',hu2,by rw[hm];simp,by simp;omega,by simpa using hbm,rz,by simp⟩⟩
      exact Dj (P:=P) (ty:=ty) (u:=u) (b:=b) (cid:=gid) (x2:=.pr 18 n rr) hi hfree hu hti (by omega) rz (by omega) hsrc (by simp;omega) (by omega) hy
     cases h
    cases h
   cases h
  cases h
 cases h
def Hg(sh:TypeId→Option (List Sh)):List Field→Nat→Option (List Sh)
 |[],_=>some []
 |f::l,o=>match sh f.type with
  |some a=>bif Nat.beq f.offset o then(match Hg sh l (o+a.length)with
   |some r=>some (a++r)
   |none=>none)else none
  |none=>none
def shOf(P:Program):Nat→TypeId→Option (List Sh)
 |0,_=>none
 |n+1,t=>match P.underlying t with
  |some (.int k)=>some [.int k]
  |some .bool=>some [.bool]
  |some .string=>some [.str]
  |some (.slice e)=>match shOf P n e with
   |some l=>bif Nat.beq (P.cellsOf e) l.length&&Nat.blt 0 l.length then some [.slc l]else none
   |none=>none
  |some (.struct fs)=>match Hg (fun t=>match shOf P n t with
   |some l=>bif Nat.beq (P.cellsOf t) l.length then some l else none
   |none=>none) fs.toList 0 with
   |some l=>bif Nat.beq (P.cellsOf t) l.length then some l else none
   |none=>none
  |_=>none
def JW(P:Program)(dec:Bx→Option Bool)(ev:Operand→Option AV)(o:Oper)(σ:St):Option OhR:=match o.op with
 | .makeSlice t l c=>match ev l,ev c,P.underlying t with
  |some (.sym _ n),some (.sym _ n'),some (.slice e)=>match dh P e,ub P e,zeroOf P e,shOf P 8 e with
   |some size,some bw,some z,some l=>match ku gid l z.cells with
    |some r=>bif Nat.beq z.cells.length size&&(Nat.beq l.length size&&(Nat.ble bw 16384&&(n.same n'&&(uu dec (.cmp .geq n (.lit 0))&&uu dec (.cmp .leq n (.lit 1000000000))))))then
     some ⟨.opq 2 σ.next 0 (.slc l) (.lit 0) (.lit 1),[],none,some (.opq 2 0 gid (.slc l) (.pr 18 n r) (.lit 1) [] e)⟩else none
    |none=>none
   |_,_,_,_=>none
  |_,_,_=>none
 |_=>none
theorem JV[Val]{P:Program}{R:Nat}{D:Nat→Prop}{φ:PM}{σ:St}{w:World}{dec:Bx→Option Bool}(hdec:∀b v,dec b=some v→b.eval=v)(hi:Inv0 R D φ σ w)
 {ev:Operand→Option AV}{a:Operand→Value}(hev:∀x v,ev x=some v→VR φ v (a x)){o:Oper}{r:OhR}(h:JW P dec ev o σ=some r)(hf:Free φ σ (r.to σ)):
 ∃φ' w' n v',(execOp a o).run P w=.ok n w'∧(n=.value v'∨(n=.skip∧v'=undef))∧VR φ' r.v v'∧Post R D φ σ w (r.to σ) φ' w':=by
 unfold JW at h;split at h
 ·rename_i t lo co ho;split at h
  ·rename_i k1 n k2 n' e hl hc hu;split at h
   ·rename_i size bw z l h1 h2 h3 h4;split at h
    ·rename_i rr hrr;simp only[au,ak]at h;split at h
     ·rename_i hb;obtain⟨b1,b2,b3,b4,b5,b6⟩:=hb;have hz:=ad b1;have hln:=ad b2;have hbw:=aA b3;have hnn:=Sx.same_eq b4;subst hnn;cases h;obtain⟨ti,z',hti,hsz,hbw',rz,vz,hzs⟩:=mY h1 h2 h3 hz;have g1:=hdec _ _ (db b5);have g2:=hdec _ _ (db b6);simp only[Bx.eval,dz,decide_eq_true_eq]at g1 g2;have g1:0≤n.eval:=g1;have g2:n.eval≤1000000000:=g2;obtain⟨m,hm⟩:∃m:Nat,n.eval=m:=⟨n.eval.toNat,by omega⟩;have hlv:a lo=.int k1 (m:Int):=by
       have:=hev _ _ hl;rw[←hm];generalize a lo=x at this;cases this;rfl
      have hcv:a co=.int k2 (m:Int):=(by have:=hev _ _ hc;rw[←hm];generalize a co=x at this;cases this;rfl);have hvz:=(vz φ).cells;obtain⟨row,e1,e2,e3,e4⟩:=jO hrr hvz;have hd:(Sx.pr 18 n rr).dat=.lst (List.replicate m row):=(by show Dat.lst (List.replicate n.dat.toI.toNat rr.dat.one)=_;have e5:n.dat.toI=(m:Int):=hm;rw[e5,Int.toNat_natCast,e1];rfl);have hro:dv l (List.replicate m row):=fun r hr=>(by have:=List.eq_of_mem_replicate hr;subst this;exact⟨e2,e4⟩);have hlit:∀(j:Nat) (vs:List Value),VRL φ (repl j z.cells) vs→VRL φ (aj gid l (List.replicate j row)) vs:=by
       intro j
       induction j with
       |zero=>intro vs h;cases h;exact .nil
       |succ j ih=>intro vs h;rw[List.replicate_succ,cN];simp only[repl]at h;have h5:=h.take z.cells.length;have h6:=h.drop z.cells.length;rw[List.take_left]at h5;rw[List.drop_left]at h6;obtain⟨row',f1,f2,f3,f4⟩:=jO hrr h5;rw[e1]at f1;simp only[Dat.lst.injEq,List.cons.injEq,and_true]at f1;subst f1;have:=f3.append (ih _ h6);rwa[List.take_append_drop]at this
      have hto:∀v ob,((⟨v,[],none,some ob⟩:OhR).to σ)=σ.mk' ob:=fun v ob=>rfl;rw[hto]at hf⊢;have hfree:∀v,φ σ.next v=none:=fun v=>hf _ (aw _) (by simp [St.mk']) v;have hwm:IntKind.i64.wrap (m:Int)=(m:Int):=hG (by omega);have hmul:(ti.bytes:Int)*(m:Int)≤70368744177664:=(by have:ti.bytes*m≤16384*1000000000:=Nat.mul_le_mul (by omega) (by omega);have h8:((ti.bytes*m:Nat):Int)≤((70368744177664:Nat):Int):=Int.ofNat_le.2 (by omega);simpa using h8);have hnot:¬(((decide ((m:Int)<0)||decide ((ti.bytes:Int)*(m:Int)>2^48))||decide ((m:Int)<0)||decide ((m:Int)>(m:Int)))=true):=(by simp only[dw,decide_eq_true_eq,not_or];refine⟨⟨⟨by omega,?_⟩,by omega⟩,by omega⟩;have:(2:Int)^48=281474976710656:=(by decide);omega);have hll:=ay gid l (List.replicate m row) (aN hro);rw[List.length_replicate]at hll;have key:∀cs:Array Value,VRL φ (repl m z.cells) cs.toList→(Instr.makeSlice t (a lo) (a co)).run P w=.ok (.slice (some ⟨w.heap.size,0,none⟩) m m) (w.alloc (.cells cs e))→
       ∃φ' w' nn v',(execOp a o).run P w=.ok nn w'∧(nn=.value v'∨(nn=.skip∧v'=undef))∧VR φ' (.opq 2 σ.next 0 (.slc l) (.lit 0) (.lit 1)) v'∧Post R D φ σ w (σ.mk' (.opq 2 0 gid (.slc l) (.pr 18 n rr) (.lit 1) [] e)) φ' w':=by
       intro cs hv hrun;have hv2:=hlit m _ hv;have hcs:cs.size=m*l.length:=(by have:=hv2.length;rw[hll]at this;simpa using this);let ex:Ext:=⟨w.heap.size,0,0,m*l.length,m*l.length,[]⟩;have hle:=φ.le_ins ex (hfree 0);refine⟨φ.ins σ.next 0 ex,_,_,_,by simp only[execOp,ho,br,hrun,bG];rfl,.inl rfl,.opq _ (.inr ⟨rfl,l,ex,m,m,rfl,PM.ins_same _ _ _ _,rfl,rfl,aw _,by simp [ex],?_⟩),Post.new hi.inv hfree rfl (aw _) ?_⟩;{simp [ex]};refine⟨l,List.replicate m row,rfl,hd,hro,.inr ⟨rfl,⟨ex,PM.ins_same _ _ _ _,?_⟩,?_⟩⟩;{rw[List.append_nil,hll]};rw[List.append_nil];refine .single hi.low (PM.ins_same _ _ _ _) (fun v hv=>by rw[PM.ins_ver _ _ (by omega)];exact hfree v) (cm _ _) hcs (by rw[hll];exact aw _) (.inl rfl) fun x a _ x2 x3=> ?_;obtain⟨a',q1,q2⟩:=hv2.get x3;refine⟨a',?_,q2.mono hle⟩;show cs[x+0 - 0]? =some a';rw[Nat.add_zero,Nat.sub_zero];simpa using q1
      by_cases h0:m*ti.size=0;{refine key _ (cJ vz hz φ #[] (fun h=>absurd (by rw[←hsz];exact h0) h)) ?_;simp only[Instr.makeSlice,hlv,hcv,br,ai hu,bG,asInt,asIntOf,Sem.run_pure,sv hti,hwm];rw[if_neg hnot];simp [aY h1,←hsz,h0,newRow]};refine key _ (cJ vz hz φ z'.cells (fun _=>rfl)) ?_;simp only[Instr.makeSlice,hlv,hcv,br,ai hu,bG,asInt,asIntOf,Sem.run_pure,sv hti,hwm];rw[if_neg hnot];simp [aY h1,←hsz,h0,newRow,rz]
     cases h
    cases h
   cases h
  cases h
 cases h
def Qc(P:Program)(dec:Bx→Option Bool)(ev:Operand→Option AV)(o:Oper)(σ:St):Option OhR:=match o.op with
 | .call c=>match c.callee,c.argTypes.toList,c.args.toList with
  | .builtin .len,t::_,[a]=>match ev a with
   |some v=>J7 P σ t v
   |none=>none
  | .builtin .append,ts,[a,b]=>match ev a,ev b with
   |some s,some x=>match x with
    | .sym _ _=>match ts with
     |st::_=>match P.underlying st with
      |some (.slice e)=>match shOf P 8 e with
       |some l=>BT P dec σ l ts s x
       |none=>none
      |_=>none
     |[]=>none
    |x=>match xH P dec σ ts [s,x]with
     |some r=>some r
     |none=>xG P dec σ ts s x
   |_,_=>none
  |_,_,_=>none
 | .indexAddr t a i=>match ev a,ev i with
  |some v,some n=>xL P dec σ t v n
  |_,_=>none
 | .fieldAddr t a f=>match ev a with
  |some v=>xJ P t v f
  |none=>none
 | .load t a=>match ev a with
  |some v=>BX P σ t v
  |none=>none
 | .nilCheck a=>match ev a with
  |some v=>Qd v
  |none=>none
 | .slice t a none (some h) none=>match ev a,ev h with
  |some v,some q=>xK P dec σ t v q
  |_,_=>none
 |_=>none
def TH(P:Program)(dec:Bx→Option Bool)(ev:Operand→Option AV)(o:Oper)(σ:St):Option OhR:=match TJ P dec ev σ o with
 |some r=>some r
 |none=>match kSt P ev σ o with
  |some r=>some r
  |none=>match ZM P ev σ o with
   |some r=>some r
   |none=>match TK P dec ev σ o with
    |some r=>some r
    |none=>Qc P dec ev o σ
theorem NK[Val]{P:Program}{R:Nat}{D:Nat→Prop}{φ:PM}{σ:St}{w:World}{dec:Bx→Option Bool}(hdec:∀b v,dec b=some v→b.eval=v)(hi:Inv0 R D φ σ w)
 {ev:Operand→Option AV}{a:Operand→Value}(hev:∀x v,ev x=some v→VR φ v (a x)){o:Oper}{r:OhR}(h:TJ P dec ev σ o=some r)(hk:Known D σ (r.to σ))(hf:Free φ σ (r.to σ)):
 ∃φ' w' n v',(execOp a o).run P w=.ok n w'∧(n=.value v'∨(n=.skip∧v'=undef))∧VR φ' r.v v'∧Post R D φ σ w (r.to σ) φ' w':=by
 unfold TJ at h;split at h;{rename_i c ho;split at h;{rename_i t ts x hc hts hargs;split at h;{rename_i v hv;have ht0:c.argTypes[0]? =some t:=(by rw[←Array.getElem?_toList,hts];rfl);obtain⟨v',h1,h2,h3⟩:=JX (P:=P) (ty:=o.type) (ts:=c.argTypes) hi hdec h (hev _ _ hv) ht0;refine⟨φ,w,.value v',v',?_,.inl rfl,h2,h3⟩;have ha:Array.map a c.args= #[a x]:=(by apply Array.ext';simp [hargs]);simp [execOp,ho,resolve,hc,invoke,ha,builtin,h1]};cases h};{rename_i x y hc hargs;split at h;{rename_i s xx hs hxx;obtain⟨φ',w',v',h1,h2,h3⟩:=NJ (P:=P) (ty:=o.type) (ts':=c.argTypes) (args':= #[a x,a y]) hi hdec h rfl (.cons (hev _ _ hs) (.cons (hev _ _ hxx) .nil)) hk hf;refine⟨φ',w',.value v',v',?_,.inl rfl,h2,h3⟩;have ha:Array.map a c.args= #[a x,a y]:=(by apply Array.ext';simp [hargs]);simp [execOp,ho,resolve,hc,invoke,ha,builtin,h1]};cases h};cases h};cases h
theorem NI[Val]:OhOk TH:=by
 intro P dec hdec R D φ σ w hi ev a hev o r h hnd hk hf;unfold TH at h;split at h;{rename_i r' hr;cases h;exact NK hdec hi hev hr hk hf};split at h;{rename_i r' hr;cases h;unfold kSt at hr;split at hr;{rename_i t x y ho;split at hr;{rename_i av vv hav hvv;obtain⟨hrv,w',h1,h2⟩:=BW (P:=P) hi hr (hev _ _ hav) (hev _ _ hvv) hk;refine⟨φ,w',.skip,undef,?_,.inr ⟨rfl,rfl⟩,?_,h2⟩;{simp [execOp,ho,h1]};rw[hrv];exact .tup _ .nil};cases hr};cases hr};split at h;{rename_i r' hr;cases h;unfold ZM at hr;split at hr;{rename_i t x y ok ho;split at hr;{rename_i av kv hav hkv;obtain⟨v',h1,h2,h3⟩:=J4 (P:=P) hi hr (hev _ _ hav) (hev _ _ hkv) hk;exact⟨φ,w,.value v',v',by simp [execOp,ho,h1],.inl rfl,h2,h3⟩};cases hr};{rename_i t x y z ho;split at hr;{rename_i av kv vv hav hkv hvv;obtain⟨hrv,w',h1,h2⟩:=JZ (P:=P) hi hr (hev _ _ hav) (hev _ _ hkv) (hev _ _ hvv) hk;refine⟨φ,w',.skip,undef,by simp [execOp,ho,h1],.inr ⟨rfl,rfl⟩,?_,h2⟩;rw[hrv];exact .tup _ .nil};cases hr};cases hr};split at h;{rename_i r' hr;cases h;exact NL hdec hi hev hr hk};unfold Qc at h;split at h
 ·rename_i c ho;split at h;·rename_i t ts x hc hts hargs;split at h;{rename_i v hv;have ht0:c.argTypes[0]? =some t:=(by rw[←Array.getElem?_toList,hts];rfl);obtain⟨v',h1,h2,h3⟩:=J6 (P:=P) (ty:=o.type) (ts:=c.argTypes) hi h (hev _ _ hv) hk ht0;refine⟨φ,w,.value v',v',?_,.inl rfl,h2,h3⟩;have ha:Array.map a c.args= #[a x]:=(by apply Array.ext';simp [hargs]);simp [execOp,ho,resolve,hc,invoke,ha,builtin,h1]};cases h
  ·rename_i x y hc hargs;split at h
   ·rename_i s xx hs hxx;have hall:∃φ' w' v',(Builtin.append_ c.argTypes o.type #[a x,a y]).run P w=.ok v' w'∧VR φ' r.v v'∧Post R D φ σ w (r.to σ) φ' w':=by
     split at h;{split at h;{split at h;{split at h;{exact Fg (P:=P) (ty:=o.type) (ts':=c.argTypes) hi hdec h (by first|rfl|assumption) (hev _ _ hs) (hev _ _ hxx) hf};cases h};cases h};cases h};split at h;{rename_i r2 hr2;cases h;exact BV (P:=P) (ty:=o.type) (ts':=c.argTypes) (args':= #[a x,a y]) hi hdec hr2 rfl (.cons (hev _ _ hs) (.cons (hev _ _ hxx) .nil)) hk hf};exact BU (P:=P) (ty:=o.type) (ts':=c.argTypes) (args':= #[a x,a y]) hi hdec h rfl (.cons (hev _ _ hs) (.cons (hev _ _ hxx) .nil)) hk
    obtain⟨φ',w',v',h1,h2,h3⟩:=hall;refine⟨φ',w',.value v',v',?_,.inl rfl,h2,h3⟩;have ha:Array.map a c.args= #[a x,a y]:=(by apply Array.ext';simp [hargs]);simp [execOp,ho,resolve,hc,invoke,ha,builtin,h1]
   cases h
  cases h
 {rename_i t x i ho;split at h;{rename_i v n hv hn;obtain⟨v',h1,h2,h3⟩:=B0 (P:=P) hi hdec h (hev _ _ hv) (hev _ _ hn) hk;exact⟨φ,w,.value v',v',by simp [execOp,ho,h1],.inl rfl,h2,h3⟩};cases h};{rename_i t x f ho;split at h;{rename_i v hv;obtain⟨v',h1,h2,h3⟩:=BY (P:=P) hi h (hev _ _ hv);exact⟨φ,w,.value v',v',by simp [execOp,ho,h1],.inl rfl,h2,h3⟩};cases h};·rename_i t x ho;split at h;{rename_i v hv;obtain⟨v',h1,h2,h3⟩:=Fh (P:=P) hi h (hev _ _ hv) hk;exact⟨φ,w,.value v',v',by simp [execOp,ho,h1],.inl rfl,h2,h3⟩};cases h
 ·rename_i x ho;split at h
  ·rename_i v hv;unfold Qd at h;split at h
   ·rename_i k id off sh y n;rw[au]at h;split at h
    ·rename_i hb;have:=ad hb;subst this;simp only[OhR.one,aE]at h;subst h;have hvr:=hev _ _ hv;have hvr':=hvr;cases hvr' with
     |opq v' hkv=>obtain⟨l',e,hl',he,h1,h3,h4,h5,h6,h8⟩:=hkv;refine⟨φ,w,.value (a x),a x,?_,.inl rfl,hvr,.same0 hi rfl rfl rfl⟩;simp [execOp,ho,h8]
    cases h
   cases h
  cases h
 {rename_i t x hx ho;split at h;{rename_i v q hv hq;obtain⟨φ',w',v',h1,h2,h3⟩:=BZ (P:=P) hi hdec h (hev _ _ hv) (hev _ _ hq) hk;exact⟨φ',w',.value v',v',by simp [execOp,ho,h1],.inl rfl,h2,h3⟩};cases h};cases h
def kOp(P:Program)(dec:Bx→Option Bool)(ev:Operand→Option AV)(o:Oper)(σ:St):Option OhR:=match JW P dec ev o σ with
 |some r=>some r
 |none=>TH P dec ev o σ
theorem kl[Val]:OhOk kOp:=by intro P dec hdec R D φ σ w hi ev a hev o r h hnd hk hf;unfold kOp at h;split at h;{rename_i r' hr;cases h;exact JV hdec hi hev hr hf};exact NI P dec hdec R D φ σ w hi ev a hev o r h hnd hk hf
end
end Go.Tw
