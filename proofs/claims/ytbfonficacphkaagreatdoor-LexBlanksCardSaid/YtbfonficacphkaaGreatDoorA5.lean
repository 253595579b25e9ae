/-
  A part of the proof that the abstract evaluator is sound for the model's machine. Conditions: those of each theorem, as it states them.
-/
import Derived.Test.YtbfonficacphkaaGreatDoorA4
set_option linter.all false
namespace Go.Tw
noncomputable section
section
variable[Val]{P:Program}{R:Nat}{D:Nat→Prop}{φ:PM}{σ:St}{w:World}{dec:Bx→Option Bool}
theorem ArrRep.single{id ver t:Nat}{c:List AV}{e:Ext}{cs:Array Value}{fl fh:Nat}(hR:R≤id)(he:φ id ver=some e)(hno:∀v,ver<v→φ id v=none)(hb:w.heap[e.blk]? =some (.cells cs t (fl,fh)))
 (hs:cs.size=e.bsz)(hl:c.length≤e.hi)(hf:fl=fh∨e.bsz≤fl)(hc:∀x a,e.dn≤x→x<c.length→c[x]? =some a→∃a',cs[x+e.up - e.dn]? =some a'∧VR φ a a'):ArrRep R φ w id c ver c.length (ver+1) (ver+1) t:=by
 have hal:∀v,dQ ver (ver+1) (ver+1) v→v=ver:=fun v hv=>by rcases hv with h|h;{exact h};omega
 refine⟨hR,aE _,by omega,aE _,fun v hv=>hno v (by omega),fun v hv=> ?_,fun v₁ v₂ e₁ e₂ a1 a2 b1 b2 _=> ?_,fun v e' h1 h2=>by omega⟩;{have:=hal v hv;subst this;have hlm:bJ v c.length v e=c.length:=(by simp [bJ]);refine⟨e,cs,fl,fh,he,hb,hs,?_,?_,hf,?_⟩<;>rw[hlm];{exact hl};{exact aE _};exact hc};have:=hal v₁ a1;subst this;have:=hal v₂ a2;subst this;rw[b1]at b2;cases b2;exact⟨rfl,rfl⟩
theorem ArrRep.renew{id base lim since nv t:Nat}{c:List AV}(h:ArrRep R φ w id c base lim since (nv+1) t)(hs:since≤nv)(hb:nv≠base):ArrRep R φ w id c nv c.length (nv+1) (nv+1) t∧∃e,φ id nv=some e∧e.hi=c.length:=by
 obtain⟨hR,h1,h2,h3,h4,h5,h6,h7⟩:=h;obtain⟨e,cs,fl,fh,he,hbk,k1,k2,k3,k4,k5⟩:=h5 nv (.inr ⟨hs,by omega⟩);have hhi:=h7 nv e rfl hs hb he;have hlm:bJ base lim nv e=e.hi:=by simp [bJ,hb]
 rw[hlm]at k5;exact⟨.single hR he (fun v hv=>h4 v (by omega)) hbk k1 (by omega) k4 (fun x a x1 x2 x3=>k5 x a x1 (by omega) x3),e,he,hhi⟩
def KX(P:Program)(φ:PM)(w:World)(e:TypeId)(ti:TypeInfo)(u:TypeId)(cid:Nat)(l:List Sh)(x2:Sx)(x':Value)(rows:List (List Dat)):Prop:=
 x2.dat=.lst rows∧dm l rows∧∃arr:Array Value,VRL φ (ah cid l rows) arr.toList∧GD P e ti u rows.length x' arr w
theorem Post.put0{φ':PM}{w':World}{id:Nat}{o:Ob}(hi:Inv0 R D φ σ w)(hR:R≤id)(hlt:id<σ.next)(hle:φ.le φ')(hwf:WF R φ' w')
 (hgrow:∀i,i≠id→∀v,φ' i v=φ i v)(hblk:∀v e,φ' id v=some e→(∃u f,φ id u=some f∧f.blk=e.blk)∨w.heap.size≤e.blk)
 (hfrm:Frm φ [id] w w')(hrep:Rep R φ' w' id (some o)):Post R D φ σ w (σ.put id o) φ' w':=.put hi.inv hR hlt hle hwf hgrow hblk hfrm hrep
theorem Post.recast{φ':PM}{w':World}{id:Nat}{o oc oc':Ob}(hd:D id)(hlt:id<σ.next)(h:Post R D φ {σ with heap:=σ.heap.set id oc} w (St.put {σ with heap:=σ.heap.set id oc} id oc') φ' w')
 (hr:Rep R φ' w' id (some oc')→Rep R φ' w' id (some o)):Post R D φ σ w (σ.put id o) φ' w' where
 le:=h.le
 grow:=h.grow
 wrR:=h.wrR
 wf:=h.wf
 blk:=h.blk
 rep:=fun i hi=>by by_cases e:i=id;{subst e;have:=h.rep i (.inl ⟨hd,hlt⟩);simp only[St.put,T.get_set_same]at this⊢;exact hr this};have:=h.rep i hi;simp only[St.put]at this⊢;rw[T.get_set_ne _ _ e]at this⊢;rw[T.get_set_ne _ _ e]at this;exact this
 frm:=h.frm
theorem Inv0.recast(hi:Inv0 R D φ σ w){id:Nat}{oc:Ob}(hlt:id<σ.next)(hr:Rep R φ w id (some oc)):Inv0 R D φ {σ with heap:=σ.heap.set id oc} w where
 wf:=hi.wf
 wrR:=hi.wrR
 low:=hi.low
 rep:=fun i hd hn=>by by_cases e:i=id;{subst e;simp only[T.get_set_same];exact hr};simp only[T.get_set_ne _ _ e];exact hi.rep i hd hn
 dom:=fun i hn=>by have:i≠id:=(by have:σ.next≤i:=hn;omega);simp only[T.get_set_ne _ _ this];exact hi.dom i hn
theorem B4(hi:Inv0 R D φ σ w){t u ty e:TypeId}{ti:TypeInfo}{z':Value}{a:AV}{a' x':Value}{o:Own}{x2 y':Sx}{rows2:List (List Dat)}
 (hoo:eV σ a=some o)(ha:VR φ a a')(hd:D o.id)(ht:P.underlying t=some (.slice e))(hti:P.info? e=some ti)(hsz:ti.size=o.l.length)
 (rz:∀w,(zeroValue e).run P w=.ok z' w)(hzs:z'.cells.size=o.l.length)(het:o.t=e)(hsrc:KX P φ w e ti u o.cid o.l x2 x' rows2)
 (hb1:∀rows,o.x.dat=.lst rows→rows.length≤1000000000)(hb2:rows2.length≤1000000000)(hbw:ti.bytes≤16384)(hy:y'.dat=.int (dW (decide (o.y.dat.toI≠0∨rows2≠[])))):
 ∃φ' w' v',(Builtin.append_ #[t,u] ty #[a',x']).run P w=.ok v' w'∧VR φ' (.opq 2 o.id (o.ver+1) (.slc o.l) (.lit 0) y') v'∧
  Post R D φ σ w (σ.put o.id (.opq 2 (o.ver+1) o.cid (.slc o.l) (.pr 9 o.x x2) y' [] o.t)) φ' w':=by
 obtain⟨z,_,ho,hl0⟩:=fQ hoo;obtain⟨rows,hx,hr,hor⟩:=fP hi hoo ha hd;obtain⟨hx2,hr2,arr,hv2,hap⟩:=hsrc;have hlt:=hi.lt ho;have hrows:=hb1 rows hx;have hxx:(Sx.pr 9 o.x x2).dat=.lst (rows++rows2):=by show Dat.lst (o.x.dat.toL++x2.dat.toL)=_;rw[hx,hx2];rfl
 have hrr:dm o.l (rows++rows2):=fun r hm=>by rcases List.mem_append.1 hm with h|h;{exact hr r h};exact hr2 r h
 have hl2:=au o.cid o.l rows2 (aH hr2);have hl1:=au o.cid o.l rows (aH hr);have harr:arr.size=rows2.length*o.l.length:=by have:=hv2.length;simp [hl2]at this;exact this
 have hbig:∀n:Nat,n≤2000000000→(2*n+1024)*ti.bytes≤70368744177664:=fun n hn=>by have:(2*n+1024)*ti.bytes≤4000001024*16384:=Nat.mul_le_mul (by omega) hbw;omega
 rcases hor with⟨b,rfl,y0,rfl,hR,hno⟩|⟨ex,c,rfl,y1,he,hdn,hhi,hc,hbs,har⟩
 ·by_cases h2:rows2=[];{subst h2;have hy0:y'.dat=.int 0:=(by rw[hy,y0];rfl);have:arr= #[]:=(by apply Array.eq_empty_of_size_eq_zero;simpa using harr);subst this;refine⟨φ,w,.slice b 0 0,run_append_fits (w':=w) ht hti hap (aE _) (by cases b<;>rfl),.opq _ (.inl ⟨hy0,b,rfl⟩),.put0 hi hR hlt φ.le_refl hi.wf (fun _ _ _=>rfl) (fun v e he=>.inl ⟨v,e,he,rfl⟩) (.refl _ _ _) ?_⟩;exact⟨o.l,[],rfl,hxx,hrr,.inl ⟨hy0,rfl,rfl,hR,fun v hv=>hno v (by omega)⟩⟩};have hn0:rows2.length≠0:=fun h=>h2 (List.length_eq_zero_iff.1 h);have hy1:y'.dat=.int 1:=(by rw[hy];simp [h2,dW]);obtain⟨c',hc',hrun⟩:=eu (ty:=ty) (base:=b) (bR:=0) (sCap:=0) (n:=rows2.length) (old:= #[]) ht hti hap rz (by omega) (by cases b<;>simp [Builtin.firstCells,loadCells,loadCellsFrom]) (by omega) (ri (by omega) (hbig _ (by omega)));have hwd:WF R φ w.drew:=⟨hi.wf.inj,hi.wf.lt,hi.wf.top⟩;have hcs:(#[]++arr++Builtin.zeroCells z'.cells (c' - (0+rows2.length)):Array Value).size=c'*o.l.length:=by
   rw[Array.size_append,Array.size_append,fF,hzs,harr];have e1:rows2.length*o.l.length+(c' - (0+rows2.length))*o.l.length=c'*o.l.length:=(by rw[←Nat.add_mul];congr 1;omega);simpa using e1
  have hle':rows2.length*o.l.length≤c'*o.l.length:=ig _ (by omega);generalize hcsd:(#[]++arr++Builtin.zeroCells z'.cells (c' - (0+rows2.length)):Array Value)=cs at hcs hrun;have aj:∀k,k<rows2.length*o.l.length→cs[k]? =arr[k]? :=fun k hk=>(by rw[←hcsd,Array.empty_append,Array.getElem?_append_left (by omega)]);let ex:Ext:=⟨w.heap.size,0,0,rows2.length*o.l.length,c'*o.l.length,[]⟩;have hle:=φ.le_ins ex (hno (o.ver+1) (by omega));refine⟨φ.ins o.id (o.ver+1) ex,_,_,hrun,.opq _ (.inr ⟨hy1,o.l,ex,c',rows2.length,rfl,PM.ins_same _ _ _ _,rfl,rfl,by omega,by simp [ex],?_⟩),?_⟩;{simp [ex]};have hid:∀i,i≠o.id→∀v,φ.ins o.id (o.ver+1) ex i v=φ i v:=fun i h v=>φ.ins_id ex h v;have htop:ex.hi+ex.up≤ex.bsz+ex.dn:=(by show rows2.length*o.l.length+0≤c'*o.l.length+0;omega);have hi2:Inv0 R D φ σ w.drew:=hi.inv.drew.inv0;refine Post.drew (.put0 hi2 hR hlt hle (hwd.alloc _ rfl htop) hid (fun v f hf=> ?_) ⟨by rw[World.size_alloc];omega,fun b' hb' _=>alloc_old _ _ hb',rfl,rfl,rfl⟩ ?_);{unfold PM.ins at hf;split at hf;{cases hf;exact .inr (aE _)};exact .inl ⟨v,f,hf,rfl⟩};refine⟨o.l,[]++rows2,rfl,hxx,hrr,.inr ⟨hy1,⟨ex,PM.ins_same _ _ _ _,?_⟩,?_⟩⟩;{rw[List.append_nil,List.nil_append,hl2]};rw[List.append_nil,List.nil_append,het];refine .single hR (PM.ins_same _ _ _ _) (fun v hv=>by rw[PM.ins_ver _ _ (by omega)];exact hno v (by omega)) (cf _ _) (by simpa using hcs) (by rw[hl2];exact aE _) (.inl rfl) fun x a _ x2 x3=> ?_;rw[hl2]at x2;obtain⟨a',q1,q2⟩:=hv2.get x3;refine⟨a',?_,q2.mono hle⟩;show cs[x+0 - 0]? =some a';rw[Nat.add_zero,Nat.sub_zero,aj x x2];simpa using q1
 have hR:=har.1;have hno:∀v,o.ver+1≤v→φ o.id v=none:=har.2.2.2.2.1;have hy1:y'.dat=.int 1:=by rw[hy,y1];simp [Dat.toI,dW]
 by_cases h2:rows2=[];{subst h2;have:arr= #[]:=(by apply Array.eq_empty_of_size_eq_zero;simpa using harr);subst this;have hst:(storeCells ((⟨ex.blk,ex.up,none⟩:Addr).add (rows.length*ti.size)) (#[]:Array Value).toList).run P w=.ok () w:=rfl;have hrun:=run_append_fits (ty:=ty) (w':=w) (base:=some ⟨ex.blk,ex.up,none⟩) (bR:=rows.length) (sCap:=c) ht hti hap (by simpa using hc) hst;have hle:=φ.le_ins ex (hno (o.ver+1) (aE _));refine⟨φ.ins o.id (o.ver+1) ex,w,_,hrun,.opq _ (.inr ⟨hy1,o.l,ex,c,rows.length,rfl,PM.ins_same _ _ _ _,hdn,hhi.symm,hc,hbs,rfl⟩),?_⟩;refine .put0 hi hR hlt hle (hi.wf.ver he hR rfl (hi.wf.top _ _ _ he)) (fun i h v=>φ.ins_id ex h v) (fun v f hf=> ?_) (.refl _ _ _) ?_;{unfold PM.ins at hf;split at hf;{cases hf;exact .inl ⟨o.ver,ex,he,rfl⟩};exact .inl ⟨v,f,hf,rfl⟩};obtain⟨e3,cs,fl,fh,he3,hb,k1,k2,k4,k5⟩:=ez har;rw[he]at he3;cases he3;refine⟨o.l,rows++[],rfl,hxx,hrr,.inr ⟨hy1,⟨ex,PM.ins_same _ _ _ _,?_⟩,?_⟩⟩;{rw[List.append_nil,List.append_nil,hl1];exact hhi};rw[List.append_nil,List.append_nil];exact .single hR (PM.ins_same _ _ _ _) (fun v hv=>by rw[PM.ins_ver _ _ (by omega)];exact hno v (by omega)) hb k1 k2 k4 fun x a x1 x2 x3=>let⟨a',q1,q2⟩:=k5 x a x1 x2 x3;⟨a',q1,q2.mono hle⟩};have hn0:rows2.length≠0:=fun h=>h2 (List.length_eq_zero_iff.1 h);have hi2:=hi.recast hlt (oc:=.arr (ah o.cid o.l rows) o.ver (ah o.cid o.l rows).length (o.ver+1) (o.ver+1) o.t) har;have hlim:bJ o.ver (ah o.cid o.l rows).length o.ver ex=(ah o.cid o.l rows).length:=by simp [bJ]
 obtain⟨φ',w',v',q1,q2,q3⟩:=gv (P:=P) (ty:=ty) (u:=u) (x':=x') (arr:=arr) (new:=ah o.cid o.l rows2) (σ:={σ with heap:=σ.heap.set o.id (.arr (ah o.cid o.l rows) o.ver (ah o.cid o.l rows).length (o.ver+1) (o.ver+1) o.t)})
  (id:=o.id) (ver:=o.ver) (off:=0) (len:=rows.length) (base:=o.ver) (lim:=(ah o.cid o.l rows).length) (since:=o.ver+1) (base':=o.ver) (lim':=0) (since':=o.ver+1) (nv:=o.ver+1) (et:=o.t) (o:=ex.up) (cc:=c) (c:=ah o.cid o.l rows) (ex:=ex)
  hi2.inv ht hti hsz rz hzs hap hv2 hl2 (nO _ _ _) hn0 (T.get_set_same _ _ _) hd he (by omega) hc (.inr ⟨by omega,by omega⟩) (hbig _ (by omega)) (by omega) (.inl rfl) (by rw[hlim,hl1];omega) het
  (by intro v hv;rcases hv with rfl|⟨h1,h2⟩;{exact .inr ⟨.inl rfl,by omega,fun f _=>by simp [bJ]⟩};exact .inl (by omega)) (by omega) (by omega) (bP _) (by omega)
 rw[Nat.zero_add,←hl1,List.take_length,←cP]at q3;refine⟨φ',w',v',q1,?_,Post.recast hd hlt q3 fun hrep=> ?_⟩
 ·have hrep:=q3.rep o.id (.inl ⟨hd,hlt⟩);simp only[St.put,T.get_set_same]at hrep;have hrep:ArrRep R φ' w' o.id (ah o.cid o.l (rows++rows2)) o.ver 0 (o.ver+1) (o.ver+1+1) o.t:=hrep;obtain⟨_,e2,he2,hh2⟩:=hrep.renew (aE _) (by omega);cases q2 with
  |slc ex2 o2 c2 g1 g2 g3 g4 g5 g6=>rw[he2]at g1;cases g1;rcases g6 with g6|⟨g6,g7⟩;{omega};have:o2=e2.up:=(by omega);subst this;refine .opq _ (.inr ⟨hy1,o.l,_,c2,rows.length+rows2.length,rfl,he2,by omega,?_,g4,g7,rfl⟩);rw[hh2,au _ _ _ (aH hrr),cg]
 have hrep:ArrRep R φ' w' o.id (ah o.cid o.l (rows++rows2)) o.ver 0 (o.ver+1) (o.ver+1+1) o.t:=hrep;obtain⟨r1,e2,he2,hh2⟩:=hrep.renew (aE _) (by omega);refine⟨o.l,rows++rows2,rfl,hxx,hrr,.inr ⟨hy1,⟨e2,he2,?_⟩,?_⟩⟩;{rw[List.append_nil];exact hh2};rw[List.append_nil];exact r1
theorem Post.mk0{o:Ob}(hi:Inv0 R D φ σ w)(hrep:Rep R φ w σ.next (some o)):Post R D φ σ w (σ.mk' o) φ w where
 le:=φ.le_refl
 grow:=fun _ _ _ _=>rfl
 wrR:=fun _ h=>.inl h
 wf:=hi.wf
 blk:=fun i v e he=>.inl ⟨v,e,he,rfl⟩
 rep:=fun i h=>by by_cases e:i=σ.next;{subst e;simpa[St.mk',T.get_set_same]using hrep};have:(σ.mk' o).heap.get i=σ.heap.get i:=T.get_set_ne _ _ e;rw[this];have hl:i<σ.next:=(by rcases h with⟨_,h⟩|⟨h1,h2⟩;{exact h};simp only[St.mk']at h2;omega);have hd:D i:=(by rcases h with⟨h,_⟩|⟨h1,h2⟩;{exact h};omega);exact hi.rep i hd hl
 frm:=.refl _ _ _
theorem DI(hi:Inv0 R D φ σ w){t u ty e:TypeId}{ti:TypeInfo}{z':Value}{b:Option Addr}{x':Value}{cid:Nat}{l:List Sh}{x2 y':Sx}{rows2:List (List Dat)}
 (hfree:∀v,φ σ.next v=none)(ht:P.underlying t=some (.slice e))(hti:P.info? e=some ti)(_hsz:ti.size=l.length)
 (rz:∀w,(zeroValue e).run P w=.ok z' w)(hzs:z'.cells.size=l.length)(hsrc:KX P φ w e ti u cid l x2 x' rows2)
 (hb2:rows2.length≤1000000000)(hbw:ti.bytes≤16384)(hy:y'.dat=.int (dW (decide (rows2≠[])))):
 ∃φ' w' v',(Builtin.append_ #[t,u] ty #[.slice b 0 0,x']).run P w=.ok v' w'∧VR φ' (.opq 2 σ.next 0 (.slc l) (.lit 0) y') v'∧
  Post R D φ σ w (σ.mk' (.opq 2 0 cid (.slc l) x2 y' [] e)) φ' w':=by
 obtain⟨hx2,hr2,arr,hv2,hap⟩:=hsrc;have hl2:=au cid l rows2 (aH hr2);have harr:arr.size=rows2.length*l.length:=by have:=hv2.length;simp [hl2]at this;exact this
 have hbig:∀n:Nat,n≤2000000000→(2*n+1024)*ti.bytes≤70368744177664:=fun n hn=>by have:(2*n+1024)*ti.bytes≤4000001024*16384:=Nat.mul_le_mul (by omega) hbw;omega
 by_cases h2:rows2=[];{subst h2;have hy0:y'.dat=.int 0:=(by rw[hy];rfl);have:arr= #[]:=(by apply Array.eq_empty_of_size_eq_zero;simpa using harr);subst this;refine⟨φ,w,.slice b 0 0,run_append_fits (w':=w) ht hti hap (aE _) (by cases b<;>rfl),.opq _ (.inl ⟨hy0,b,rfl⟩),.mk0 hi ?_⟩;exact⟨l,[],rfl,hx2,hr2,.inl ⟨hy0,rfl,rfl,hi.low,fun v _=>hfree v⟩⟩};have hn0:rows2.length≠0:=fun h=>h2 (List.length_eq_zero_iff.1 h);have hy1:y'.dat=.int 1:=by rw[hy];simp [h2,dW]
 obtain⟨c',hc',hrun⟩:=eu (ty:=ty) (base:=b) (bR:=0) (sCap:=0) (n:=rows2.length) (old:= #[]) ht hti hap rz (by omega) (by cases b<;>simp [Builtin.firstCells,loadCells,loadCellsFrom]) (by omega) (ri (by omega) (hbig _ (by omega)));have hcs:(#[]++arr++Builtin.zeroCells z'.cells (c' - (0+rows2.length)):Array Value).size=c'*l.length:=by rw[Array.size_append,Array.size_append,fF,hzs,harr];have e1:rows2.length*l.length+(c' - (0+rows2.length))*l.length=c'*l.length:=(by rw[←Nat.add_mul];congr 1;omega);simpa using e1
 have hle':rows2.length*l.length≤c'*l.length:=ig _ (by omega);generalize hcsd:(#[]++arr++Builtin.zeroCells z'.cells (c' - (0+rows2.length)):Array Value)=cs at hcs hrun;have aj:∀k,k<rows2.length*l.length→cs[k]? =arr[k]? :=fun k hk=>by rw[←hcsd,Array.empty_append,Array.getElem?_append_left (by omega)]
 let ex:Ext:=⟨w.heap.size,0,0,rows2.length*l.length,c'*l.length,[]⟩;have hle:=φ.le_ins ex (hfree 0);have hi2:Inv0 R D φ σ w.drew:=hi.inv.drew.inv0;have htop:ex.hi+ex.up≤ex.bsz+ex.dn:=by show rows2.length*l.length+0≤c'*l.length+0;omega
 refine⟨φ.ins σ.next 0 ex,_,_,hrun,.opq _ (.inr ⟨hy1,l,ex,c',rows2.length,rfl,PM.ins_same _ _ _ _,rfl,rfl,by omega,by simp [ex],?_⟩),Post.drew (.new hi2.inv hfree rfl htop ?_)⟩;{simp [ex]};refine⟨l,rows2,rfl,hx2,hr2,.inr ⟨hy1,⟨ex,PM.ins_same _ _ _ _,?_⟩,?_⟩⟩;{rw[List.append_nil,hl2]};rw[List.append_nil];refine .single hi.low (PM.ins_same _ _ _ _) (fun v hv=>by rw[PM.ins_ver _ _ (by omega)];exact hfree v) (cf _ _) (by simpa using hcs) (by rw[hl2];exact aE _) (.inl rfl) fun x a _ x2 x3=> ?_;rw[hl2]at x2;obtain⟨a',q1,q2⟩:=hv2.get x3;refine⟨a',?_,q2.mono hle⟩;show cs[x+0 - 0]? =some a';rw[Nat.add_zero,Nat.sub_zero,aj x x2];simpa using q1
end
section
variable(P:Program)(dec:Bx→Option Bool)(σ:St)
structure Src where
 x:Sx
 rd:List Nat
 some:Bool
def wy(x:Sx):Bool:=ml dec (.cmp .leq (bg x) (.lit 1000000000))
def yO(cid:Nat)(l:List Sh)(v:AV):Option Src:=match v with
 | .opq k id2 _ (.slc l2) x2 _=>bif Nat.beq k 0 then
  (bif (Nat.beq id2 cid||Nat.beq id2 gid||dp l)&&(Sh.sameL l l2&&(qu σ id2&&wy dec x2))then Option.some ⟨x2,ks id2,false⟩else none)
  else(match eV σ v with
   |Option.some o=>bif (Nat.beq o.cid cid||dp l)&&(Sh.sameL l o.l&&wy dec o.x)then Option.some ⟨o.x,[o.id],false⟩else none
   |none=>none)
 |v=>match lA v with
  |Option.some n=>match kb l.length n v σ with
   |Option.some (cs,_)=>match eG cid l n cs with
    |Option.some e=>bif Nat.ble n 1000000000 then Option.some ⟨e,(match v with
     | .slc id _ _ _ _ _=>[id]
     |_=>[]),Nat.blt 0 n⟩else none
    |none=>none
   |none=>none
  |none=>none
def Vm(v:AV):Option (Nat×List Sh):=match v with
 | .opq k id2 _ (.slc l2) _ _=>bif Nat.beq k 0 then Option.some (id2,l2)else(match eV σ v with
  |Option.some o=>Option.some (o.cid,o.l)
  |none=>none)
 |_=>none
def UH(a:Sx)(b:Bool)(x:Sx):Sx:=bif b then .lit 1 else match a with
 | .lit (.ofNat 1)=>.lit 1
 |a=>.pr 28 a (.pr 29 x (.lit 0))
def yi:AV→Bool
 | .nils=>true
 | .slc _ _ _ 0 (Option.some 0) _=>true
 |_=>false
def xL(ts:List TypeId)(args:List AV):Option OhR:=match ts,args with
 |[st,u],[s,x]=>match P.underlying st with
  |Option.some (.slice e)=>match c7 P e,tW P e,zeroOf P e,im P u with
   |Option.some size,Option.some bw,Option.some z,Option.some false=>
    bif Nat.beq z.cells.length size&&Nat.ble bw 16384 then
     (bif yi s then(match Vm σ x with
       |Option.some (cid,l)=>bif Nat.beq size l.length&&Nat.blt 0 size then(match yO dec σ cid l x with
        |Option.some r=>Option.some ⟨.opq 2 σ.next 0 (.slc l) (.lit 0) (.pr 29 r.x (.lit 0)),r.rd,none,Option.some (.opq 2 0 cid (.slc l) r.x (.pr 29 r.x (.lit 0)) [] e)⟩
        |none=>none)else none
       |none=>none)
     else match eV σ s with
      |Option.some o=>bif Nat.beq size o.l.length&&Nat.beq o.t e&&wy dec o.x then(match yO dec σ o.cid o.l x with
       |Option.some r=>Option.some ⟨.opq 2 o.id (o.ver+1) (.slc o.l) (.lit 0) (UH o.y r.some r.x),r.rd,Option.some (o.id,.opq 2 (o.ver+1) o.cid (.slc o.l) (.pr 9 o.x r.x) (UH o.y r.some r.x) [] o.t),none⟩
       |none=>none)else none
      |none=>none)
    else none
   |_,_,_,_=>none
  |_=>none
 |_,_=>none
end
section
variable[Val]{P:Program}{R:Nat}{D:Nat→Prop}{φ:PM}{σ:St}{w:World}{dec:Bx→Option Bool}
theorem oK(hdec:∀b v,dec b=some v→b.eval=v){x:Sx}{rows:List (List Dat)}(h:wy dec x=true)(hx:x.dat=.lst rows):rows.length≤1000000000:=by have:=hdec _ _ (cY h);simp only[Bx.eval,cX,decide_eq_true_eq,eB hx]at this;have:(rows.length:Int)≤1000000000:=this;omega
theorem yb{id:Nat}{l:List Sh}{rows:List (List Dat)}{a:Option Addr}{n c:Nat}(h:GC (Pict φ id) (.slc l) (.lst rows) (.slice a n c))(hi:Inv0 R D φ σ w)(hf:qu σ id=true)(hk:Known D σ (cw (ks id) σ)):
 n=rows.length∧dm l rows∧∃arr:Array Value,VRL φ (ah id l rows) arr.toList∧∀w₂:World,w₂.heap=w.heap→(Builtin.firstCells l.length n (.slice a n c)).run P w₂=.ok arr w₂:=by
 obtain⟨rows',hx,rfl,hc,hor⟩:=h.inv_slc;simp only[Dat.lst.injEq]at hx;subst hx;refine⟨rfl,?_,?_⟩;{intro r hr;obtain⟨i,hi',rfl⟩:=List.getElem_of_mem hr;have hg:=bC hi';rcases hor with h0|⟨b,s,o,vf,_,hp,hl,hs,hgc⟩;{omega};exact⟨hl _ _ hg,fun j s' d h1 h2=>(hgc _ _ _ _ _ hg h1 h2).cellOk⟩};rcases hor with h0|⟨b,s,o,vf,rfl,hp,hl,hs,hgc⟩;{have:=List.length_eq_zero_iff.1 h0;subst this;refine⟨#[],.nil,fun w₂ _=> ?_⟩;cases a<;>simp [Builtin.firstCells,loadCells,loadCellsFrom]};obtain⟨bt,fr,hblk⟩:=tA hi hf hk hp;have hll:∀r∈rows,r.length=l.length:=fun r hr=>by obtain⟨i,hi',rfl⟩:=List.getElem_of_mem hr;exact hl _ _ (bC hi')
 have hlen:=au id l rows hll;have aj:∀k,k<rows.length*l.length→∃v,s[o+k]? =some v∧∃av,(ah id l rows)[k]? =some av∧VR φ av v:=by intro k hk;have hl0:0<l.length:=(by rcases Nat.eq_zero_or_pos l.length with h|h;{rw[h]at hk;omega};exact h);have hi':k / l.length<rows.length:=(Nat.div_lt_iff_lt_mul hl0).2 hk;have hj:k%l.length<l.length:=Nat.mod_lt _ hl0;have hkk:k=k / l.length*l.length+k%l.length:=(by rw[Nat.mul_comm];exact(Nat.div_add_mod k l.length).symm);have hrow:rows[k / l.length]? =some rows[k / l.length]:=bC hi';have hsj:l[k%l.length]? =some l[k%l.length]:=bC hj;obtain⟨d,hd⟩:∃d,(rows[k / l.length])[k%l.length]? =some d:=⟨_,bC (by rw[hl _ _ hrow];exact hj)⟩;refine⟨vf (k / l.length) (k%l.length),?_,dU id l[k%l.length] d,?_,(hgc _ _ _ _ _ hrow hsj hd).lit⟩;{have:=hs (k / l.length) (k%l.length) hi' hj;rw[Nat.add_assoc,←hkk]at this;exact this};have:=cu id l rows hll (k / l.length) (k%l.length) _ hrow hj;rw[←hkk,dj id l _ _ _ _ hsj hd]at this;exact this
 have hsz:rows.length*l.length=0∨o+rows.length*l.length≤s.length:=by rcases Nat.eq_zero_or_pos (rows.length*l.length)with h|h;{exact .inl h};obtain⟨v,hv,_⟩:=aj (rows.length*l.length - 1) (by omega);rcases aS (o+(rows.length*l.length - 1)) s.length with h'|h';{right;omega};rw[bZ h']at hv;cases hv
 rcases hsz with hz|hsz;{refine⟨#[],?_,fun w₂ _=> ?_⟩;{have:ah id l rows=[]:=List.length_eq_zero_iff.1 (by omega);rw[this];exact .nil};simp [Builtin.firstCells,hz,loadCells,loadCellsFrom]};refine⟨((s.drop o).take (rows.length*l.length)).toArray,?_,fun w₂ hw=> ?_⟩
 ·refine VRL.of_get (by simp [hlen];omega) fun k av v h1 h2=> ?_;have hk':k<rows.length*l.length:=by
   rcases aS k (rows.length*l.length)with h|h;{exact h};rw[bZ (by omega)]at h1;cases h1
  obtain⟨v',q1,av',q2,q3⟩:=aj k hk';rw[q2]at h1;cases h1;have h2:((s.drop o).take (rows.length*l.length))[k]? =some v:=(by simpa using h2);rw[ij hk',fc,q1]at h2;cases h2;exact q3
 have:=cz (P:=P) (w:=w₂) (b:=b) (k:=o) (n:=rows.length*l.length) (by rw[hw];exact hblk) (by simpa using hsz);simpa[Builtin.firstCells]using this
theorem vj(hi:Inv0 R D φ σ w){a:AV}{a':Value}{o:Own}(h:eV σ a=some o)(ha:VR φ a a')(hd:D o.id):∃rows b c,a'=.slice b rows.length c∧o.x.dat=.lst rows∧dm o.l rows∧
 ∃arr:Array Value,VRL φ (ah o.cid o.l rows) arr.toList∧∀w₂:World,w₂.heap=w.heap→(Builtin.firstCells o.l.length rows.length a').run P w₂=.ok arr w₂:=by
 obtain⟨rows,hx,hr,hor⟩:=fP hi h ha hd;have hlen:=au o.cid o.l rows (aH hr);rcases hor with⟨b,rfl,_,rfl,_⟩|⟨e,c,rfl,_,he,hdn,hhi,hc,hbs,har⟩;{refine⟨[],b,0,rfl,hx,hr,#[],.nil,fun w₂ _=> ?_⟩;cases b<;>simp [Builtin.firstCells,loadCells,loadCellsFrom]};refine⟨rows,_,c,rfl,hx,hr,?_⟩;obtain⟨e3,cs,fl,fh,he3,hb,k1,k2,k4,k5⟩:=ez har;rw[he]at he3;cases he3;have hm:=ig o.l.length hc;have hsz:e.up+rows.length*o.l.length≤cs.size:=by omega
 refine⟨((cs.toList.drop e.up).take (rows.length*o.l.length)).toArray,?_,fun w₂ hw=> ?_⟩
 ·refine VRL.of_get (by simp [hlen];omega) fun k av v h1 h2=> ?_;have hk':k<rows.length*o.l.length:=by
   rcases aS k (rows.length*o.l.length)with h|h;{exact h};rw[bZ (by omega)]at h1;cases h1
  obtain⟨v',q1,q2⟩:=k5 k av (by omega) (by omega) h1;have h2:((cs.toList.drop e.up).take (rows.length*o.l.length))[k]? =some v:=(by simpa using h2);rw[ij hk',fc,Array.getElem?_toList,show e.up+k=k+e.up - e.dn by omega,q1]at h2;cases h2;exact q2
 have:=cz (P:=P) (w:=w₂) (b:=e.blk) (k:=e.up) (n:=rows.length*o.l.length) (by rw[hw];exact hb) hsz;simpa[Builtin.firstCells]using this
theorem rS(hi:Inv0 R D φ σ w)(hdec:∀b v,dec b=some v→b.eval=v){cid:Nat}{l:List Sh}{v:AV}{x':Value}{r:Src}{e u:TypeId}{ti:TypeInfo}(h:yO dec σ cid l v=some r)(hv:VR φ v x')(hk:Known D σ (cw r.rd σ))
 (hu:im P u=some false)(hsz:ti.size=l.length):∃rows,KX P φ w e ti u cid l r.x x' rows∧rows.length≤1000000000∧(r.some=true→rows≠[]):=by
 have hud:∃d,P.underlying u=some d∧∀k,d≠.int k:=by unfold im at hu;split at hu;{cases hu};{rename_i d hne hu2;exact⟨_,hu2,fun k hk=>hne k hk⟩};cases hu
 obtain⟨d,hu2,hd⟩:=hud;unfold yO at h;split at h
 ·rename_i k id2 ver l2 x2 y;rw[ai]at h;split at h
  ·rename_i hb;have:=ae hb;subst this;simp only[ai,al,dH]at h;split at h
   ·rename_i hb;obtain⟨b1,b2,b3,b4⟩:=hb;have:=Sh.sameL_eq b2;subst this;cases h;cases hv with
    |opq v hkv=>
     obtain⟨l',a,n,c,hl,rfl,hg⟩:=hkv;simp only[Sh.slc.injEq]at hl;subst hl;obtain⟨rows,hx,_⟩:=hg.inv_slc;have hg':=hg;rw[hx]at hg';obtain⟨rfl,hr,arr,q1,q2⟩:=yb (P:=P) hg' hi b3 hk;have hlit:ah id2 l rows=ah cid l rows∨id2=gid:=(by rcases b1 with(b1|b1)|b1;{have:=ae b1;subst this;exact .inl rfl};{exact .inr (ae b1)};exact .inl (ql b1 rows));have hvr:VRL φ (ah cid l rows) arr.toList:=by
      rcases hlit with h|rfl;{rw[←h];exact q1};have hg2:GC (Pict φ cid) (.slc l) (.lst rows) (.slice a rows.length c):=hg'.mono fun _ _ hp=>hp.gid cid;refine VRL.of_get (by have h1:=q1.length;rw[au _ _ _ (aH hr)]at h1⊢;exact h1.symm) fun k av v h1 h2=> ?_;have hlen:=au cid l rows (aH hr);have hk':k<rows.length*l.length:=(by rcases aS k (rows.length*l.length)with h|h;{exact h};rw[bZ (by omega)]at h1;cases h1);have hl0:0<l.length:=(by rcases Nat.eq_zero_or_pos l.length with h|h;{rw[h]at hk';omega};exact h);have hi':k / l.length<rows.length:=(Nat.div_lt_iff_lt_mul hl0).2 hk';have hj:k%l.length<l.length:=Nat.mod_lt _ hl0;have hkk:k=k / l.length*l.length+k%l.length:=(by rw[Nat.mul_comm];exact(Nat.div_add_mod k l.length).symm);have hrow:rows[k / l.length]? =some rows[k / l.length]:=bC hi';have hsj:l[k%l.length]? =some l[k%l.length]:=bC hj;obtain⟨dd,hdd⟩:∃d,(rows[k / l.length])[k%l.length]? =some d:=⟨_,bC (by rw[(hr _ (List.getElem_mem hi')).1];exact hj)⟩;have g1:=cu cid l rows (aH hr) (k / l.length) (k%l.length) _ hrow hj;rw[←hkk,dj cid l _ _ _ _ hsj hdd,h1]at g1;cases g1;have g2:=cu gid l rows (aH hr) (k / l.length) (k%l.length) _ hrow hj;rw[←hkk,dj gid l _ _ _ _ hsj hdd]at g2;obtain⟨v',y1,y2⟩:=q1.get g2;rw[h2]at y1;cases y1;generalize l[k%l.length]=sj at y2;cases sj with
      |int k=>exact y2
      |bool=>exact y2
      |str=>exact y2
      |slc ll=>
       have y2:VR φ (.opq 0 gid 0 (.slc ll) (.dlit dd) (.lit 0)) v:=y2;cases y2 with
       |opq v hkv=>obtain⟨l',a,n,c,hl,rfl,hg⟩:=hkv;exact .opq _ ⟨l',a,n,c,hl,rfl,hg.mono fun _ _ hp=>hp.gid cid⟩
     exact⟨rows,⟨hx,hr,arr,hvr,.inl ⟨d,hu2,hd,rfl,by rw[hsz];exact q2 w rfl,by rw[hsz];exact q2 _ rfl⟩⟩,oK hdec b4 hx,fun h=>by cases h⟩
   cases h
  split at h
  ·rename_i o hoo;simp only[ai,al,dH]at h;split at h
   ·rename_i hb;obtain⟨b1,b2,b3⟩:=hb;have:=Sh.sameL_eq b2;subst this;cases h;obtain⟨z,_,ho,_⟩:=fQ hoo;obtain⟨rows,b,c,rfl,hx,hr,arr,q1,q2⟩:=vj (P:=P) hi hoo hv (hk o.id (.inl (ly _ _ _ (by simp))) (hi.lt ho));have hlit:ah o.cid o.l rows=ah cid o.l rows:=by
     rcases b1 with b1|b1;{rw[ae b1]};exact ql b1 rows
    exact⟨rows,⟨hx,hr,arr,hlit▸q1,.inl ⟨d,hu2,hd,rfl,by rw[hsz];exact q2 w rfl,by rw[hsz];exact q2 _ rfl⟩⟩,oK hdec b3 hx,fun h=>by cases h⟩
   cases h
  cases h
 rename_i v hnv;split at h
 ·rename_i n hn;split at h
  ·rename_i cs τ hfst;split at h
   ·rename_i ex hex;rw[ai]at h;split at h
    ·rename_i hb;have hb:=aB hb;cases h;have hkτ:Known D σ τ:=fun i hi' hl=>hk i (by
      unfold kb at hfst;rcases hi' with hi'|hi'
      ·left;cases v<;>simp only[ai]at hfst<;>(try (repeat' split at hfst))<;>(try (cases hfst;done))<;>
        (cases hfst)<;>
        first
        |exact(gn _ σ).rd i hi'
        |(rcases aC.1 hi' with rfl|h'
          {exact ly _ _ _ (by simp)};exact(gn _ σ).rd i h')
      right;cases v<;>simp only[ai]at hfst<;>(try (repeat' split at hfst))<;>(try (cases hfst;done))<;>
       (cases hfst)<;>
       exact(gn _ σ).wr i hi') hl
     obtain⟨arr,q1,q2,q3,_⟩:=lX (P:=P) hi.inv hfst hv hkτ;obtain⟨rows,g1,g2,g3,g4⟩:=iJ hex q2;subst g2;exact⟨rows,⟨g1,g3,arr,g4,.inl ⟨d,hu2,hd,pK hn hv w,by rw[hsz];exact q1 w rfl,by rw[hsz];exact q1 _ rfl⟩⟩,hb,fun h=>by have:=aR h;intro h0;rw[h0]at this;simp at this⟩
    cases h
   cases h
  cases h
 cases h
end
end
end Go.Tw
namespace Go.Tw
section
variable[Val]{P:Program}{R:Nat}{D:Nat→Prop}{φ:PM}{σ:St}{w:World}{dec:Bx→Option Bool}
theorem yJ{φ':PM}{w':World}{id nv t:Nat}{l:List Sh}{len:Nat}{c:List AV}{ec x2:Sx}{rows2:List (List Dat)}(hfl:dp l=true)(hcv:eG gid l len c=some ec)(hlen:len*l.length=c.length)
 (hx2:x2.dat=.lst rows2)(hr2:dm l rows2){e2:Ext}(he2:φ' id nv=some e2)(hh2:e2.hi=(c++ah gid l rows2).length)(hdn:e2.dn=0)
 (h:ArrRep R φ' w' id (c++ah gid l rows2) nv (c++ah gid l rows2).length (nv+1) (nv+1) t):Rep R φ' w' id (some (.opq 2 nv gid (.slc l) (.pr 9 ec x2) (.lit 1) [] t)):=by
 obtain⟨hR,h1,h2,h3,h4,h5,h6,h7⟩:=h;obtain⟨e,cs,fl,fh,he,hb,k1,k2,k3,k4,k5⟩:=h5 nv (.inl rfl);rw[he2]at he;cases he;have hlm:bJ nv (c++ah gid l rows2).length nv e2=(c++ah gid l rows2).length:=by simp [bJ]
 rw[hlm]at k2 k5;have hvrl:VRL φ' c ((cs.toList.drop e2.up).take c.length):=by have aj:∀k,k<c.length→∃a',cs[e2.up+k]? =some a'∧VR φ' (c[k]?.getD .unk) a':=fun k hk=>(by have hav:(c++ah gid l rows2)[k]? =some (c[k]?.getD .unk):=(by rw[List.getElem?_append_left hk,bC hk];rfl);obtain⟨a',y1,y2⟩:=k5 k _ (by omega) (by rw[cg];omega) hav;exact⟨a',by rw[←y1];congr 1;omega,y2⟩);have hsz:c.length=0∨e2.up+c.length≤cs.size:=(by rcases Nat.eq_zero_or_pos c.length with h|h;{exact .inl h};obtain⟨a',y1,_⟩:=aj (c.length - 1) (by omega);rcases aS (e2.up+(c.length - 1)) cs.size with h'|h';{right;omega};rw[Array.getElem?_eq_none h']at y1;cases y1);refine VRL.of_get (by simp;omega) fun k av z a1 a2=> ?_;have hk:k<c.length:=(by rcases aS k c.length with h|h;{exact h};rw[bZ h]at a1;cases a1);obtain⟨a',y1,y2⟩:=aj k hk;rw[ij hk,fc,Array.getElem?_toList,y1]at a2;cases a2;rw[a1]at y2;exact y2
 obtain⟨rows,r1,r2,r3,r4⟩:=iJ hcv hvrl;have hl1:=au gid l rows (aH r3);have hxx:(Sx.pr 9 ec x2).dat=.lst (rows++rows2):=by show Dat.lst (ec.dat.toL++x2.dat.toL)=_;rw[r1,hx2];rfl
 have hrr:dm l (rows++rows2):=fun r hm=>by rcases List.mem_append.1 hm with h|h;{exact r3 r h};exact hr2 r h
 have hcl:(ah gid l rows).length=c.length:=by rw[hl1,r2,hlen]
 refine⟨l,rows++rows2,rfl,hxx,hrr,.inr ⟨rfl,⟨e2,he2,?_⟩,?_⟩⟩;{rw[List.append_nil,cP,cg,hcl,hh2,cg]};rw[List.append_nil,cP];refine .single hR he2 (fun v hv=>h4 v (by omega)) hb k1 (by rw[cg,hcl,←cg];exact k2) k4 fun k av x1 x2' x3=> ?_;rw[cg,hcl]at x2';by_cases hk:k<c.length;{rw[List.getElem?_append_left (by omega)]at x3;obtain⟨z,y1,y2⟩:=r4.get x3;rw[ij hk,fc,Array.getElem?_toList]at y1;exact⟨z,by rw[←y1];congr 1;omega,y2⟩};rw[List.getElem?_append_right (by omega),hcl]at x3;exact k5 k av x1 (by rw[cg];omega) (by rw[List.getElem?_append_right (by omega)];exact x3)
theorem Post.reput{φ':PM}{w':World}{id:Nat}{o oc':Ob}(hd:D id)(hlt:id<σ.next)(h:Post R D φ σ w (σ.put id oc') φ' w')
 (hr:Rep R φ' w' id (some oc')→Rep R φ' w' id (some o)):Post R D φ σ w (σ.put id o) φ' w' where
 le:=h.le
 grow:=h.grow
 wrR:=h.wrR
 wf:=h.wf
 blk:=h.blk
 rep:=fun i hi=>by by_cases e:i=id;{subst e;have:=h.rep i (.inl ⟨hd,hlt⟩);simp only[St.put,T.get_set_same]at this⊢;exact hr this};have:=h.rep i hi;simp only[St.put]at this⊢;rw[T.get_set_ne _ _ e]at this⊢;exact this
 frm:=h.frm
theorem Di(hi:Inv0 R D φ σ w){t u ty e:TypeId}{ti:TypeInfo}{z':Value}{a' x':Value}{id ver len base lim since nv:Nat}{cap:Option Nat}{l:List Sh}{c:List AV}{ec x2:Sx}{rows2:List (List Dat)}
 (ho:σ.heap.get id=some (.arr c base lim since nv e))(hfull:(ver=base∧lim=c.length)∨(ver+1=nv∧since≤ver∧ver≠base))(hlen:len*l.length=c.length)(hl0:0<len)(hw0:0<l.length)(hcv:eG gid l len c=some ec)(hfl:dp l=true)
 (ha:VR φ (.slc id ver 0 len cap l.length) a')(hd:D id)(ht:P.underlying t=some (.slice e))(hti:P.info? e=some ti)(hsz:ti.size=l.length)
 (rz:∀w,(zeroValue e).run P w=.ok z' w)(hzs:z'.cells.size=l.length)(hsrc:KX P φ w e ti u gid l x2 x' rows2)
 (hb1:len≤1000000000)(hb2:rows2.length≤1000000000)(hbw:ti.bytes≤16384):
 ∃φ' w' v',(Builtin.append_ #[t,u] ty #[a',x']).run P w=.ok v' w'∧VR φ' (.opq 2 id nv (.slc l) (.lit 0) (.lit 1)) v'∧
  Post R D φ σ w (σ.put id (.opq 2 nv gid (.slc l) (.pr 9 ec x2) (.lit 1) [] e)) φ' w':=by
 obtain⟨hx2,hr2,arr,hv2,hap⟩:=hsrc;have hlt:=hi.lt ho;have hl2:=au gid l rows2 (aH hr2);have harr:arr.size=rows2.length*l.length:=by have:=hv2.length;simp [hl2]at this;exact this
 have hbig:∀n:Nat,n≤2000000000→(2*n+1024)*ti.bytes≤70368744177664:=fun n hn=>by have:(2*n+1024)*ti.bytes≤4000001024*16384:=Nat.mul_le_mul (by omega) hbw;omega
 have hrep:=hi.rep id hd hlt;rw[ho]at hrep;obtain⟨hR,p1,p2,p3,hno,p5,p6,p7⟩:=hrep;have hal:dQ base since nv ver:=by rcases hfull with⟨h,_⟩|⟨h1,h2,_⟩;{exact .inl h};exact .inr ⟨h2,by omega⟩
 have hvn:ver<nv:=by rcases hal with h|h;{omega};omega
 obtain⟨ex0,cs,fl,fh,he0,hb,k1,k2,k3,k4,k5⟩:=p5 ver hal;have hlim:bJ base lim ver ex0=c.length:=by rcases hfull with⟨ha,hb⟩|⟨ha,hb,hc⟩;{simp [bJ,ha,hb]};simp only[bJ,if_neg hc];exact p7 _ _ ha hb hc he0
 cases ha with
 |slc ex o cc g1 g2 g3 g4 g5 g6=>
  rw[he0]at g1;cases g1;have hdn:ex0.dn=0:=(by omega);obtain⟨g7,g8⟩:=g6.resolve_left (by omega);have hoe:o=ex0.up:=(by omega);subst hoe;by_cases h2:rows2=[];{subst h2;have:arr= #[]:=(by apply Array.eq_empty_of_size_eq_zero;simpa using harr);subst this;have hst:(storeCells ((⟨ex0.blk,ex0.up,none⟩:Addr).add (len*ti.size)) (#[]:Array Value).toList).run P w=.ok () w:=rfl;have hrun:=run_append_fits (ty:=ty) (w':=w) (base:=some ⟨ex0.blk,ex0.up,none⟩) (bR:=len) (sCap:=cc) ht hti hap (by simpa using g4) hst;rw[hlim]at k2 k5;have htop:=hi.wf.top _ _ _ he0;let ex:Ext:={ex0 with hi:=c.length};have hle:=φ.le_ins ex (hno nv (aE _));refine⟨φ.ins id nv ex,w,_,hrun,.opq _ (.inr ⟨rfl,l,ex,cc,len,rfl,PM.ins_same _ _ _ _,hdn,hlen,g4,g8,rfl⟩),?_⟩;refine .put0 hi hR hlt hle (hi.wf.ver he0 hR rfl (by show c.length+ex0.up≤ex0.bsz+ex0.dn;omega)) (fun i h v=>φ.ins_id ex h v) (fun v f hf=> ?_) (.refl _ _ _) ?_;{unfold PM.ins at hf;split at hf;{cases hf;exact .inl ⟨ver,ex0,he0,rfl⟩};exact .inl ⟨v,f,hf,rfl⟩};refine yJ hfl hcv hlen hx2 hr2 (PM.ins_same _ _ _ _) (by simp [ah,ex]) hdn ?_;have hz:c++ah gid l []=c:=(by simp [ah]);rw[hz];exact .single hR (PM.ins_same _ _ _ _) (fun v hv=>by rw[PM.ins_ver _ _ (by omega)];exact hno v (by omega)) hb k1 (aE _) k4 fun x a x1 x2 x3=>let⟨a',q1,q2⟩:=k5 x a x1 x2 x3;⟨a',q1,q2.mono hle⟩};have hn0:rows2.length≠0:=fun h=>h2 (List.length_eq_zero_iff.1 h);obtain⟨φ',w',v',q1,q2,q3⟩:=gv (P:=P) (ty:=ty) (u:=u) (x':=x') (arr:=arr) (new:=ah gid l rows2)
   (id:=id) (ver:=ver) (off:=0) (len:=len) (base:=base) (lim:=lim) (since:=since) (base':=ver) (lim':=0) (since':=nv) (nv:=nv) (et:=e) (o:=ex0.up) (cc:=cc) (c:=c) (ex:=ex0)
   hi.inv ht hti hsz rz hzs hap hv2 hl2 (nO _ _ _) hn0 ho hd he0 (by omega) g4 (.inr ⟨by omega,g8⟩) (hbig _ (by omega)) (by omega) hal (by rw[hlim];omega) rfl
   (by intro v hv;rcases hv with rfl|⟨h1,h2⟩;{exact .inr ⟨hal,by omega,fun f _=>by simp [bJ]⟩};exact .inl (by omega)) (by omega) (by omega) (bP _) (by omega)
  rw[Nat.zero_add,hlen,List.take_length]at q3;have hrep:=q3.rep id (.inl ⟨hd,hlt⟩);simp only[St.put,T.get_set_same]at hrep;have hrep:ArrRep R φ' w' id (c++ah gid l rows2) ver 0 nv (nv+1) e:=hrep;obtain⟨r1,e2,he2,hh2⟩:=hrep.renew (aE _) (by omega);cases q2 with
  |slc ex2 o2 c2 y1 y2 y3 y4 y5 y6=>rw[he2]at y1;cases y1;rcases y6 with y6|⟨y6,y7⟩;{omega};have:o2=e2.up:=(by omega);subst this;refine⟨φ',w',_,q1,.opq _ (.inr ⟨rfl,l,e2,c2,len+rows2.length,rfl,he2,by omega,?_,y4,y7,rfl⟩),Post.reput hd hlt q3 fun _=>yJ hfl hcv hlen hx2 hr2 he2 hh2 (by omega) r1⟩;rw[hh2,cg,hl2,Nat.add_mul,hlen]
end
noncomputable def xK(P:Program)(dec:Bx→Option Bool)(σ:St)(ts:List TypeId)(s x:AV):Option OhR:=match ts,s,x with
 |[st,u],.slc id ver off len _ esz,.opq k xi xv (.slc l) xx xy=>match P.underlying st,σ.heap.get id with
  |some (.slice e),some (.arr c base lim since nv t)=>match c7 P e,tW P e,zeroOf P e,im P u with
   |some size,some bw,some z,some false=>
    bif Nat.beq z.cells.length size&&(Nat.ble bw 16384&&(Nat.beq size l.length&&(Nat.beq esz l.length&&(Nat.beq off 0&&(Nat.blt 0 len&&(Nat.blt 0 l.length&&(Nat.beq (len*l.length) c.length&&(dp l&&(Nat.beq t e&&(Nat.ble len 1000000000&&((Nat.beq ver base&&Nat.beq lim c.length)||(Nat.beq (ver+1) nv&&(Nat.ble since ver&& !Nat.beq ver base)))))))))))))
     then(match yO dec σ gid l (.opq k xi xv (.slc l) xx xy),eG gid l len c with
      |some q,some ec=>some ⟨.opq 2 id nv (.slc l) (.lit 0) (.lit 1),q.rd,some (id,.opq 2 nv gid (.slc l) (.pr 9 ec q.x) (.lit 1) [] e),none⟩
      |_,_=>none)else none
   |_,_,_,_=>none
  |_,_=>none
 |_,_,_=>none
theorem Cz[Val]{P:Program}{R:Nat}{D:Nat→Prop}{φ:PM}{σ:St}{w:World}{dec:Bx→Option Bool}(hi:Inv0 R D φ σ w)(hdec:∀b v,dec b=some v→b.eval=v){ts:List TypeId}{s x:AV}{ts':Array TypeId}{args':Array Value}{ty:TypeId}{r:OhR}(h:xK P dec σ ts s x=some r)
 (hts:ts'.toList=ts)(hargs:VRL φ [s,x] args'.toList)(hk:Known D σ (r.to σ)):
 ∃φ' w' v',(Builtin.append_ ts' ty args').run P w=.ok v' w'∧VR φ' r.v v'∧Post R D φ σ w (r.to σ) φ' w':=by
 obtain⟨s',x',hargs2,hs,hx⟩:=hargs.two;subst hargs2;unfold xK at h;split at h
 ·rename_i st u id ver off len cap esz k xi xv l xx xy;have hts2:ts'= #[st,u]:=(by apply Array.ext';simpa using hts);subst hts2;split at h
  ·rename_i e c base lim since nv t hu ho;split at h
   ·rename_i size bw z h1 h2 h3 h4;simp only[ai,al,dH,Bool.not_eq_true']at h;split at h
    ·rename_i hb;obtain⟨b1,b2,b3,b4,b5,b6,b7,b8,b9,b10,b11,b12⟩:=hb;have hz:=ae b1;have hbw:=aB b2;have hsl:=ae b3;have:=ae b4;subst this;have:=ae b5;subst this;have:=ae b10;subst this;obtain⟨ti,z',hti,hsz,hbw',rz,vz,hzs⟩:=lW h1 h2 h3 hz;split at h
     ·rename_i q ec hq hec;cases h;have hto:((⟨.opq 2 id nv (.slc l) (.lit 0) (.lit 1),q.rd,some (id,.opq 2 nv gid (.slc l) (.pr 9 ec q.x) (.lit 1) [] t),none⟩:OhR).to σ)=(cw q.rd σ).put id (.opq 2 nv gid (.slc l) (.pr 9 ec q.x) (.lit 1) [] t):=by
       unfold OhR.to;have:(cw q.rd σ).heap.get id=some (.arr c base lim since nv t):=(by rw[(aY q.rd σ).1];exact ho);simp only[this]
      rw[hto]at hk⊢;have hkq:Known D σ (cw q.rd σ):=fun i h hl=>hk i (h.imp (fun h=>h) (fun h=>aC.2 (.inr h))) hl;obtain⟨rows2,hsrc,hs1,_⟩:=rS (P:=P) (e:=t) (u:=u) (ti:=ti) hi hdec hq hx hkq h4 (by omega);have hd:D id:=hk id (.inr (aC.2 (.inl rfl))) (hi.lt ho);have hfull:(ver=base∧lim=c.length)∨(ver+1=nv∧since≤ver∧ver≠base):=(by rcases b12 with⟨c1,c2⟩|⟨c1,c2,c3⟩;{exact .inl ⟨ae c1,ae c2⟩};exact .inr ⟨ae c1,aB c2,fun h=>by simp [h]at c3⟩);have hir:Inv0 R D φ (cw q.rd σ) w:=(by obtain⟨h1,h2,h3⟩:=aY q.rd σ;exact⟨hi.wf,by rw[h3];exact hi.wrR,by rw[h2];exact hi.low,fun i hd hn=>by rw[h1];rw[h2]at hn;exact hi.rep i hd hn,fun i hn=>by rw[h1];rw[h2]at hn;exact hi.dom i hn⟩);obtain⟨φ',w',v',p1,p2,p3⟩:=Di (P:=P) (ty:=ty) (u:=u) (x':=x') (x2:=q.x) hir (by rw[(aY q.rd σ).1];exact ho) hfull (ae b8) (aR b6) (aR b7) hec b9 hs hd hu hti (by omega) rz (by omega) hsrc (aB b11) hs1 (by omega);exact⟨φ',w',v',p1,p2,p3.from (aY q.rd σ).2.1 (aY q.rd σ).2.2⟩
     cases h
    cases h
   cases h
  cases h
 cases h
end Go.Tw
namespace Go.Tw
section
variable(P:Program)(dec:Bx→Option Bool)(ev:Operand→Option AV)(σ:St)
noncomputable def tN(x:Sx):Nat→Option Nat
 |0=>none
 |n+1=>bif ml dec (.not (.not (.cmp .eql (bg x) (.lit n))))then some n else tN x n
noncomputable def JN(t:TypeId)(a:AV):Option OhR:=match a,P.underlying t with
 | .opq k _ _ _ x _,some (.slice _)=>bif Nat.beq k 0 then(match tN dec x 10 with
  |some n=>OhR.one (.int .i64 n)
  |none=>none)else none
 |_,_=>none
noncomputable def hG(id:Nat)(x:Sx)(l:List Sh):Nat→Nat→List AV
 |0,_=>[]
 |n+1,k=>gz id x (.lit k) l 0++hG id x l n (k+1)
noncomputable def Ak(e:TypeId)(size bw:Nat)(s:AV)(n:Nat)(new:List AV)(rd:List Nat)(σ:St):Option OhR:=match dx e size bw s n new (cw rd σ)with
 |some (v,σ')=>bif Nat.beq n 0 then(match s with
  | .nils=>some ⟨v,rd,none,none⟩
  | .slc _ _ _ _ _ _=>some ⟨v,rd,none,none⟩
  |_=>none)else(match s with
  | .nils=>some ⟨v,rd,none,some (.arr new 0 new.length 1 1 e)⟩
  | .slc id _ _ _ none _=>match σ'.heap.get id with
   |some o=>some ⟨v,rd,some (id,o),none⟩
   |none=>none
  |_=>none)
 |none=>none
noncomputable def Si(ts:List TypeId)(s x:AV):Option OhR:=match ts,x with
 |[st,u],.opq k xi _ (.slc l) xx _=>match P.underlying st with
  |some (.slice e)=>match c7 P e,tW P e,zeroOf P e,im P u with
   |some size,some bw,some z,some false=>
    bif Nat.beq k 0&&(Nat.beq z.cells.length size&&(Nat.beq size l.length&&(Nat.blt 0 size&&(dp l&&qu σ xi))))then(match tN dec xx 10 with
     |some n=>Ak e size bw s n (hG gid xx l n 0) (ks xi) σ
     |none=>none)else none
   |_,_,_,_=>none
  |_=>none
 |_,_=>none
noncomputable def Sj(o:Oper):Option OhR:=match o.op with
 | .call c=>match c.callee,c.argTypes.toList,c.args.toList with
  | .builtin .len,t::_,[a]=>match ev a with
   |some v=>JN P dec t v
   |none=>none
  | .builtin .append,ts,[a,b]=>match ev a,ev b with
   |some s,some x=>Si P dec σ ts s x
   |_,_=>none
  |_,_,_=>none
 |_=>none
end
section
variable[Val]{P:Program}{R:Nat}{D:Nat→Prop}{φ:PM}{σ:St}{w:World}{dec:Bx→Option Bool}
theorem vO(hdec:∀b v,dec b=some v→b.eval=v){x:Sx}{rows:List (List Dat)}(hx:x.dat=.lst rows):∀{m n:Nat},tN dec x m=some n→rows.length=n:=by
 intro m
 induction m with
 |zero=>intro n h;cases h
 |succ m ih=>intro n h;simp only[tN,ai]at h;split at h;{rename_i hb;cases h;have:=hdec _ _ (cY hb);simp only[Bx.eval,cX,Bool.not_not,eB hx,Sx.eval_lit,beq_iff_eq]at this;omega};exact ih h
theorem JM(hi:Inv0 R D φ σ w)(hdec:∀b v,dec b=some v→b.eval=v){t ty:TypeId}{a:AV}{a':Value}{ts:Array TypeId}{r:OhR}(h:JN P dec t a=some r)(ha:VR φ a a')(ht:ts[0]? =some t):
 ∃v',(Builtin.len_ ts ty #[a']).run P w=.ok v' w∧VR φ r.v v'∧Post R D φ σ w (r.to σ) φ w:=by
 unfold JN at h;split at h
 ·rename_i k id ver sh x y e hu;rw[ai]at h;split at h
  ·rename_i hk;have:=ae hk;subst this;split at h
   ·rename_i n hn;simp only[OhR.one,aw]at h;subst h;cases ha with
    |opq v hv=>obtain⟨l,a,n',c,rfl,rfl,hg⟩:=hv;obtain⟨rows,hx,rfl,_,_⟩:=hg.inv_slc;have hl:=vO hdec hx hn;subst hl;exact⟨goInt rows.length,by simp [Builtin.len_,ht,af hu],.int _ _,.same0 hi rfl rfl rfl⟩
   cases h
  cases h
 cases h
omit [Val]in
theorem tT(id:Nat)(x i:Sx):∀(l:List Sh) (off:Nat),(gz id x i l off).length=l.length:=by
 intro l
 induction l with
 |nil=>intro off;rfl
 |cons s l ih=>intro off;simp [gz,ih]
omit [Val]in
theorem tJ(id:Nat)(x:Sx)(l:List Sh):∀n k,(hG id x l n k).length=n*l.length:=by
 intro n
 induction n with
 |zero=>intro k;simp [hG]
 |succ n ih=>intro k;rw[hG,cg,tT,ih,Nat.add_mul];omega
omit [Val]in
theorem uE{e:TypeId}{size bw n:Nat}{id ver off len esz:Nat}{new:List AV}{σ σ':St}{v:AV}(h:dx e size bw (.slc id ver off len none esz) n new σ=some (v,σ'))(hn:Nat.beq n 0=false):∃o o0,σ.heap.get id=some o0∧σ'=σ.put id o:=by unfold dx at h;simp only[ai,hn,bY,if_false]at h;split at h;{split at h;{split at h;{rename_i c base lim since nv et ho;split at h;{split at h;{split at h;{simp only[aw,il]at h;exact⟨_,_,ho,h.2.symm⟩};split at h;{simp only[aw,il]at h;exact⟨_,_,ho,h.2.symm⟩};cases h};split at h;{split at h;{simp only[aw,il]at h;exact⟨_,_,ho,h.2.symm⟩};split at h;{simp only[aw,il]at h;exact⟨_,_,ho,h.2.symm⟩};cases h};cases h};cases h};cases h};cases h};cases h
omit [Val]in
theorem Kl{e:TypeId}{size bw n:Nat}{s:AV}{new:List AV}{rd:List Nat}{r:OhR}(h:Ak e size bw s n new rd σ=some r):dx e size bw s n new (cw rd σ)=some (r.v,r.to σ):=by unfold Ak at h;split at h;{rename_i v σ' ha;rw[ai]at h;split at h;{rename_i hn;have hn:=ae hn;subst hn;split at h;{cases h;rw[ha];simp [dx]at ha;simp [OhR.to,ha]};{cases h;rw[ha];simp only[dx,ai]at ha;split at ha;{simp only[Nat.beq_refl,if_true,aw,il]at ha;simp [OhR.to,ha.2]};cases ha};cases h};rename_i hn;have hn:Nat.beq n 0=false:=Bool.eq_false_iff.2 hn;split at h;{cases h;rw[ha];simp only[dx,ai,hn,bY,if_false]at ha;split at ha;{simp only[aw,il]at ha;rw[←ha.2];rfl};cases ha};{split at h;{rename_i o ho;cases h;obtain⟨o1,o0,h1,h2⟩:=uE ha hn;rw[ha];subst h2;simp only[St.put,T.get_set_same,aw]at ho;subst ho;unfold OhR.to;simp [h1]};cases h};cases h};cases h
omit [Val]in
theorem Kk{e:TypeId}{size bw n:Nat}{s:AV}{new:List AV}{rd:List Nat}{r:OhR}(h:Ak e size bw s n new rd σ=some r):r.rd=rd:=by unfold Ak at h;split at h;{rw[ai]at h;split at h;{split at h<;>simp only[aw,reduceCtorEq]at h<;>subst h<;>rfl};split at h;{cases h;rfl};{split at h<;>simp only[aw,reduceCtorEq]at h<;>subst h<;>rfl};cases h};cases h
omit [Val]in
theorem OhR.to_step1(r:OhR)(σ:St):StepA (cw r.rd σ) (r.to σ):=by
 unfold OhR.to;generalize cw r.rd σ=σ1;have h2:StepA σ1 (match r.put with
  |some (id,o)=>match σ1.heap.get id with
   |some _=>σ1.put id o
   |none=>σ1
  |none=>σ1):=by
  split;{split;{exact .put _ _ (by assumption)};exact .refl _};exact .refl _
 dsimp only;split;{exact h2.trans (.mk' _ _)};exact h2
theorem Inv0.read1(hi:Inv0 R D φ σ w)(l:List Nat):Inv0 R D φ (cw l σ) w:=by obtain⟨h1,h2,h3⟩:=aY l σ;exact⟨hi.wf,by rw[h3];exact hi.wrR,by rw[h2];exact hi.low,fun i hd hn=>by rw[h1];rw[h2]at hn;exact hi.rep i hd hn,fun i hn=>by rw[h1];rw[h2]at hn;exact hi.dom i hn⟩
theorem VRL.split2:∀{a b:List AV} {l:List Value},VRL φ (a++b) l→∃a' b',l=a'++b'∧VRL φ a a'∧VRL φ b b'
 |[],b,l,h=>⟨[],l,rfl,.nil,h⟩
 |x::a,b,l,h=>by
  cases h with
  |cons h1 h2=>obtain⟨a',b',rfl,h3,h4⟩:=VRL.split2 h2;exact⟨_::a',b',rfl,.cons h1 h3,h4⟩
theorem Gb{cid:Nat}{x i:Sx}:∀{l:List Sh} {row:List Dat} {off:Nat} {r:List Value},dp l=true→row.length=l.length→(∀(j:Nat) (s:Sh) (d:Dat),l[j]? =some s→row[j]? =some d→iM s d)→
 (∀(j:Nat) (d:Dat),row[j]? =some d→(Sx.cell x i (off+j)).dat=d)→VRL φ (bE cid l row) r→VRL φ (gz gid x i l off) r:=by
 intro l
 induction l with
 |nil=>
  intro row off r _ hl _ _ h;cases row with
  |nil=>cases h;exact .nil
  |cons a b=>simp at hl
 |cons s l ih=>
  intro row off r hf hl hc hd h;cases row with
  |nil=>simp at hl
  |cons d row=>
   simp only[dp,List.all_cons,al]at hf;simp only[bE]at h;cases h with
   |cons h1 h2=>have hd0:=hd 0 d rfl;refine .cons ?_ (ih (off:=off+1) (by simpa[dp]using hf.2) (by simpa using hl) (fun j s d g1 g2=>hc (j+1) s d (by simpa using g1) (by simpa using g2)) (fun j d g=>by rw[show off+1+j=off+(j+1) by omega];exact hd (j+1) d (by simpa using g)) h2);have hd0:(Sx.cell x i off).dat=d:=(by simpa using hd0);rw[vA (c':=gid) hf.1]at h1;rw[←hd0]at h1;exact zW (by rw[hd0];exact hc 0 s d rfl rfl) h1
theorem CV{cid:Nat}{x:Sx}{l:List Sh}{rows:List (List Dat)}{arr:List Value}(hf:dp l=true)(hx:x.dat=.lst rows)(hr:dm l rows)(h:VRL φ (ah cid l rows) arr):VRL φ (hG gid x l rows.length 0) arr:=by
 have key:∀(rs:List (List Dat)) (k:Nat) (arr:List Value),rows.drop k=rs→VRL φ (ah cid l rs) arr→VRL φ (hG gid x l rs.length k) arr:=by
  intro rs
  induction rs with
  |nil=>intro k arr _ h;rw[zZ]at h;exact h
  |cons r rs ih=>
   intro k arr hd h;have hk:rows[k]? =some r:=(by have:=congrArg (fun t=>t[0]?) hd;simpa using this);have hdr:rows.drop (k+1)=rs:=(by have:(rows.drop k).drop 1=rs:=(by rw[hd];rfl);rw[List.drop_drop]at this;exact this);rw[df]at h;obtain⟨a1,a2,rfl,h1,h2⟩:=VRL.split2 h;rw[List.length_cons,hG];have hrm:r∈rows:=eQ hk;refine(Gb hf (hr r hrm).1 (hr r hrm).2 (fun j d hj=> ?_) h1).append (ih (k+1) a2 hdr h2);show Dat.cell x.dat (Dat.toI (Dat.int (k:Int))) (0+j)=d;rw[hx];show(match(Dat.row (.lst rows) (k:Int))[0+j]? with
    |some c=>c
    |none=>.int 0)=d
   have:Dat.row (.lst rows) (k:Int)=r:=(by simp [Dat.row,Dat.toL,hk]);rw[this,Nat.zero_add,hj]
 exact key rows 0 arr rfl h
theorem Nc(hi:Inv0 R D φ σ w)(hdec:∀b v,dec b=some v→b.eval=v){ts:List TypeId}{s x:AV}{ts':Array TypeId}{args':Array Value}{ty:TypeId}{r:OhR}(h:Si P dec σ ts s x=some r)
 (hts:ts'.toList=ts)(hargs:VRL φ [s,x] args'.toList)(hk:Known D σ (r.to σ))(hf:Free φ σ (r.to σ)):
 ∃φ' w' v',(Builtin.append_ ts' ty args').run P w=.ok v' w'∧VR φ' r.v v'∧Post R D φ σ w (r.to σ) φ' w':=by
 obtain⟨s',x',hargs2,hs,hx⟩:=hargs.two;subst hargs2;unfold Si at h;split at h
 ·rename_i st u k xi xv l xx xy;have hts2:ts'= #[st,u]:=(by apply Array.ext';simpa using hts);subst hts2;split at h
  ·rename_i e hu;split at h
   ·rename_i size bw z h1 h2 h3 h4;simp only[ai,al]at h;split at h
    ·rename_i hb;obtain⟨b0,b1,b2,b3,b4,b5⟩:=hb;have:=ae b0;subst this;have hz:=ae b1;have hsl:=ae b2;obtain⟨ti,z',hti,hsz,hbw',rz,vz,hzs⟩:=lW h1 h2 h3 hz;split at h
     ·rename_i n hn;have hud:∃d,P.underlying u=some d∧∀k,d≠.int k:=by
       unfold im at h4;split at h4;{cases h4};{rename_i d hne hu2;exact⟨_,hu2,fun k hk=>hne k hk⟩};cases h4
      obtain⟨d,hu2,hd⟩:=hud;have hap:=Kl h;have hrd:=Kk h;cases hx with
      |opq v hkv=>obtain⟨l',a,n',c,hl,rfl,hg⟩:=hkv;simp only[Sh.slc.injEq]at hl;subst hl;obtain⟨rows,hxx,_⟩:=hg.inv_slc;have hlr:=vO hdec hxx hn;subst hlr;have hg':=hg;rw[hxx]at hg';have hst:=OhR.to_step1 r σ;have hkq:Known D σ (cw (ks xi) σ):=fun i h hl=>hk i (h.imp (fun h=>hst.rd i (hrd.symm▸h)) (fun h=>hst.wr i (hrd.symm▸h))) hl;obtain⟨rfl,hr,arr,q1,q2⟩:=yb (P:=P) hg' hi b5 hkq;have hvr:VRL φ (hG gid xx l rows.length 0) arr.toList:=CV b4 hxx hr q1;have hi2:=hi.read1 (ks xi);obtain⟨φ',w',v',p1,p2,p3⟩:=lI (P:=P) (ty:=ty) (u:=u) hi2.inv hap hs hu hti hsz hbw' rz hzs (.inl ⟨d,hu2,hd,rfl,by rw[hsz,hsl];exact q2 w rfl,by rw[hsz,hsl];exact q2 _ rfl⟩) hvr (by rw[tJ,hsl]) (fun i h hl=>hk i h (by rw[(aY _ σ).2.1]at hl;exact hl)) (fun i h1 h2 v=>hf i (by rw[(aY _ σ).2.1]at h1;exact h1) h2 v);exact⟨φ',w',v',p1,p2,p3.from (aY _ σ).2.1 (aY _ σ).2.2⟩
     cases h
    cases h
   cases h
  cases h
 cases h
end
end Go.Tw
namespace Go.Tw
noncomputable def C0(cid:Nat):List Sh→List AV→Option (List Sx)
 |[],v=>match v with
  |[]=>some []
  |_=>none
 |s::l,v=>match v with
  |a::r=>match VV cid s a,C0 cid l r with
   |some e,some es=>some (e::es)
   |_,_=>none
  |[]=>none
def setRow(x n:Sx):Nat→List Sx→Sx
 |_,[]=>x
 |j,c::cs=>.setc (setRow x n (j+1) cs) n j c
section
variable(P:Program)(ev:Operand→Option AV)(σ:St)
noncomputable def xM(t:TypeId)(a v:AV):Option OhR:=match a with
 | .opq k id ver (.slc l) (.lit (.ofNat off)) n=>match DJ σ id ver l,c7 P t with
  |some o,some s=>match C0 o.cid l v.cells with
   |some cs=>bif Nat.beq k 3&&(Nat.beq off 0&&Nat.beq s l.length)then some ⟨.tup [],[],some (id,.opq 2 ver o.cid (.slc l) (setRow o.x n 0 cs) o.y [] o.t),none⟩else none
   |none=>none
  |_,_=>none
 |_=>none
noncomputable def X5(o:Oper):Option OhR:=match o.op with
 | .store t a x=>match ev a,ev x with
  |some a,some v=>xM P σ t a v
  |_,_=>none
 |_=>none
end
section
variable[Val]{P:Program}{R:Nat}{D:Nat→Prop}{φ:PM}{σ:St}{w:World}
theorem Ek{cid:Nat}:∀{l:List Sh} {r:List AV} {r':List Value} {es:List Sx},C0 cid l r=some es→VRL φ r r'→es.length=l.length∧VRL φ (bE cid l (es.map Sx.dat)) r'∧
 ∀(j:Nat) (s:Sh) (d:Dat),l[j]? =some s→(es.map Sx.dat)[j]? =some d→iM s d
 |[],r,r',es,h,hv=>by
  cases r with
  |nil=>simp only[C0,aw]at h;subst h;cases hv;exact⟨rfl,.nil,fun j s d h=>by simp at h⟩
  |cons a r=>simp [C0]at h
 |s::l,r,r',es,h,hv=>by
  cases r with
  |nil=>simp [C0]at h
  |cons a r=>
   simp only[C0]at h;split at h
   ·rename_i e es' he hes;cases h;cases hv with
    |cons h1 h2=>
     obtain⟨g1,g2⟩:=Ky he h1;obtain⟨k1,k2,k3⟩:=Ek hes h2;refine⟨by simp [k1],.cons g1 k2,fun j s' d a b=> ?_⟩;cases j with
     |zero=>simp at a b;subst a;subst b;exact g2
     |succ j=>exact k3 j s' d (by simpa using a) (by simpa using b)
   cases h
omit [Val]in
theorem xG(cid:Nat)(l:List Sh){rows:List (List Dat)}(hr:∀r∈rows,r.length=l.length)(k:Nat)(hk:k≤rows.length):(ah cid l rows).take (k*l.length)=ah cid l (rows.take k):=by
 have h1:ah cid l rows=ah cid l (rows.take k)++ah cid l (rows.drop k):=by rw[←cP,List.take_append_drop]
 have h2:(ah cid l (rows.take k)).length=k*l.length:=by rw[au cid l _ (fun r h=>hr r (List.mem_of_mem_take h)),List.length_take,Nat.min_eq_left hk]
 rw[h1,←h2,List.take_left]
omit [Val]in
theorem xH(cid:Nat)(l:List Sh){rows:List (List Dat)}(hr:∀r∈rows,r.length=l.length)(k:Nat)(hk:k≤rows.length):(ah cid l rows).drop (k*l.length)=ah cid l (rows.drop k):=by
 have h1:ah cid l rows=ah cid l (rows.take k)++ah cid l (rows.drop k):=by rw[←cP,List.take_append_drop]
 have h2:(ah cid l (rows.take k)).length=k*l.length:=by rw[au cid l _ (fun r h=>hr r (List.mem_of_mem_take h)),List.length_take,Nat.min_eq_left hk]
 rw[h1,←h2,List.drop_left]
omit [Val]in
theorem zY(cid:Nat)(l:List Sh){rows:List (List Dat)}(hr:∀r∈rows,r.length=l.length){k:Nat}(hk:k<rows.length){ds:List Dat}(hd:ds.length=l.length):
 ah cid l (rows.set k ds)=splice (ah cid l rows) (k*l.length) (bE cid l ds):=by
 rw[ib,gx cid l ds hd,xG cid l hr k (by omega),show k*l.length+l.length=(k+1)*l.length by rw[Nat.add_mul];omega,xH cid l hr (k+1) (by omega),
  List.set_eq_take_append_cons_drop,if_pos hk,cP,df,List.append_assoc]
theorem sa{x n:Sx}{rows:List (List Dat)}(hx:x.dat=.lst rows){r:List Dat}(hr:rows[n.dat.toI.toNat]? =some r):∀{cs:List Sx} {j:Nat},j+cs.length≤r.length→
 (setRow x n j cs).dat=.lst (rows.set n.dat.toI.toNat (r.take j++cs.map Sx.dat++r.drop (j+cs.length)))
 |[],j,h=>by have hk:n.dat.toI.toNat<rows.length:=(by rcases aS n.dat.toI.toNat rows.length with h|h;{exact h};rw[bZ h]at hr;cases hr);have:rows.set n.dat.toI.toNat r=rows:=(by have:=bC hk;rw[hr]at this;simp only[aw]at this;rw[this];exact List.set_getElem_self hk);simp [setRow,hx,this]
 |c::cs,j,h=>by
  have hk:n.dat.toI.toNat<rows.length:=(by rcases aS n.dat.toI.toNat rows.length with h|h;{exact h};rw[bZ h]at hr;cases hr);have hlen:j+1+cs.length≤r.length:=(by simp only[List.length_cons]at h;omega);have ih:=sa hx hr (cs:=cs) (j:=j+1) hlen;show Dat.setc (setRow x n (j+1) cs).dat n.dat.toI j c.dat=_;rw[ih];change Dat.lst ((rows.set n.dat.toI.toNat (r.take (j+1)++cs.map Sx.dat++r.drop (j+1+cs.length))).modify n.dat.toI.toNat fun r=>r.set j c.dat)=_;congr 1;apply List.ext_getElem?;intro i;rw[List.getElem?_modify];by_cases hi:n.dat.toI.toNat=i
  ·subst hi;rw[List.getElem?_set_self hk,List.getElem?_set_self hk];simp only[if_true,Option.map_eq_map,Option.map_some,aw];have ht:r.take (j+1)=r.take j++[r[j]'(by omega)]:=by
    rw[List.take_add_one,bC (by omega)];rfl
   have hl:(r.take j).length=j:=(by rw[List.length_take];omega);rw[ht,List.append_assoc,List.append_assoc,List.set_append_right _ _ (by omega),hl,Nat.sub_self];simp only[List.singleton_append,List.cons_append,List.nil_append,List.set_cons_zero,List.map_cons,List.length_cons,List.append_assoc];rw[show j+1+cs.length=j+(cs.length+1) by omega]
  rw[List.getElem?_set_ne hi,List.getElem?_set_ne hi];simp [hi]
theorem CC(hi:Inv0 R D φ σ w){t:TypeId}{a v:AV}{a' v':Value}{r:OhR}(h:xM P σ t a v=some r)(ha:VR φ a a')(hv:VR φ v v')(hk:Known D σ (r.to σ)):
 r.v=.tup []∧∃w',(Instr.storeAt t a' v').run P w=.ok () w'∧Post R D φ σ w (r.to σ) φ w':=by
 unfold xM at h;split at h
 ·rename_i k id ver l off n;split at h
  ·rename_i o s hoo hs;split at h
   ·rename_i cs hcs;simp only[ai,al]at h;split at h
    ·rename_i hb;obtain⟨b1,b2,b3⟩:=hb;have:=ae b1;subst this;have:=ae b2;subst this;have:=ae b3;subst this;cases h;refine⟨rfl,?_⟩;obtain⟨rfl,rfl,rfl,ho,hl0⟩:=zA hoo;have hto:((⟨.tup [],[],some (o.id,.opq 2 o.ver o.cid (.slc o.l) (setRow o.x n 0 cs) o.y [] o.t),none⟩:OhR).to σ)=σ.put o.id (.opq 2 o.ver o.cid (.slc o.l) (setRow o.x n 0 cs) o.y [] o.t):=by
      unfold OhR.to cw;simp only[ho]
     rw[hto]at hk⊢;have hlt:=hi.lt ho;have hd:D o.id:=hk o.id (.inr (aC.2 (.inl rfl))) hlt;cases ha with
     |opq _ hv3=>
      obtain⟨l',e,hl',he,hdn,h0,h4,h5,h6,rfl⟩:=hv3;simp only[Sh.slc.injEq]at hl';subst hl';obtain⟨rows,hx,hr,hor⟩:=xk hi ho hd;rcases hor with⟨_,_,_,hno⟩|⟨y1,⟨e2,he2,hh⟩,har⟩;{rw[hno _ (aE _)]at he;cases he};rw[he]at he2;cases he2;have hlen:=au o.cid o.l rows (aH hr);rw[hlen]at hh;rw[hh]at h4;have hkl:n.dat.toI.toNat<rows.length:=(by have:=Nat.le_of_mul_le_mul_right h4 hl0;omega);have hrow:rows[n.dat.toI.toNat]? =some rows[n.dat.toI.toNat]:=bC hkl;have hrl:=(hr _ (List.getElem_mem hkl)).1;obtain⟨k1,k2,k3⟩:=Ek hcs hv.cells;have hdl:(cs.map Sx.dat).length=o.l.length:=(by simp [k1]);have hsd:(setRow o.x n 0 cs).dat=.lst (rows.set n.dat.toI.toNat (cs.map Sx.dat)):=(by rw[sa hx hrow (by omega)];congr 2;rw[List.take_zero,List.nil_append,Nat.zero_add,k1,←hrl,List.drop_length,List.append_nil]);have hls:=zY o.cid o.l (aH hr) hkl hdl;have hvl:=gx o.cid o.l (cs.map Sx.dat) hdl;have hrr:dm o.l (rows.set n.dat.toI.toNat (cs.map Sx.dat)):=fun q hq=>(by rcases List.mem_or_eq_of_mem_set hq with h|rfl;{exact hr q h};exact⟨hdl,k3⟩);let oc:Ob:=.arr (ah o.cid o.l rows) o.ver (ah o.cid o.l rows).length (o.ver+1) (o.ver+1) o.t;have hi2:Inv0 R D φ {σ with heap:=σ.heap.set o.id oc} w:=hi.recast hlt har;have hle:n.dat.toI.toNat*o.l.length+o.l.length≤rows.length*o.l.length:=(by rw[Nat.add_mul]at h4;omega);have hwr:eM {σ with heap:=σ.heap.set o.id oc} o.id o.ver (n.dat.toI.toNat*o.l.length) (ah o.cid o.l rows).length (bE o.cid o.l (cs.map Sx.dat))=
       some (St.put {σ with heap:=σ.heap.set o.id oc} o.id (.arr (ah o.cid o.l (rows.set n.dat.toI.toNat (cs.map Sx.dat))) o.ver (ah o.cid o.l rows).length (o.ver+1) (o.ver+1) o.t)):=by
       unfold eM;simp only[T.get_set_same,oc,Ob.write,ai];rw[if_pos (by rw[qm,hvl,hlen];simp [Nat.ble_eq];exact hle),if_pos (by rw[hvl];simp [Nat.blt,Nat.ble_eq];omega),if_pos (Nat.beq_refl _),if_pos (by rw[hvl,hlen];simp [Nat.ble_eq];exact hle),List.take_length,←hls]
      obtain⟨w',r1,r2⟩:=gi (P:=P) hi2.inv hwr (fun i h hl=>hk i h hl) k2 he (by omega) (q:=e.up+n.dat.toI.toNat*o.l.length) (by omega);refine⟨w',?_,Post.recast hd hlt r2 fun hrep=> ?_⟩
      ·have hsz:v'.cells.size=o.l.length:=by
        have:=k2.length;rw[hvl]at this;simpa using this
       have hq:e.up+(n.dat.toI.toNat*o.l.length+((Sx.lit (Int.ofNat 0)).dat.toI).toNat)=e.up+n.dat.toI.toNat*o.l.length:=(by have:((Sx.lit (Int.ofNat 0)).dat.toI).toNat=0:=rfl;omega);rw[hq];simp [Instr.storeAt,Instr.sureAddr,storeVar,aN hs,hsz,r1]
      have hl2:(ah o.cid o.l (rows.set n.dat.toI.toNat (cs.map Sx.dat))).length=(ah o.cid o.l rows).length:=(by rw[au _ _ _ (aH hrr),hlen,List.length_set]);refine⟨o.l,_,rfl,hsd,hrr,.inr ⟨y1,⟨e,he,?_⟩,?_⟩⟩;{rw[List.append_nil,hl2,hh,hlen]};rw[List.append_nil,hl2];exact hrep
    cases h
   cases h
  cases h
 cases h
end
end Go.Tw
namespace Go.Tw
noncomputable section
section
variable(P:Program)(ev:Operand→Option AV)(σ:St)
def r8:List Sh:=[.int .i64]
def tq:List Sh→Bool
 |[.int k]=>Nat.beq (bQ k) (bQ .i64)
 |_=>false
def Ac:AV→Option Sx
 | .int k n=>bif Nat.beq (bQ k) (bQ .i64)then some (.lit n)else none
 | .sym k e=>bif Nat.beq (bQ k) (bQ .i64)then some e else none
 |_=>none
structure MapO where
 id:Nat
 cid:Nat
 x:Sx
 y:Sx
 t:TypeId
def mapOf:AV→Option MapO
 | .opq k id ver (.slc l) _ _=>match σ.heap.get id with
  |some (.opq k' ver' cid (.slc l') x y [] t)=>bif Nat.beq k 4&&(Nat.beq k' 4&&(Nat.beq ver 0&&(Nat.beq ver' 0&&(tq l&&tq l'))))then some ⟨id,cid,x,y,t⟩else none
  |_=>none
 |_=>none
def DP(t:TypeId):Bool:=match P.underlying t with
 |some (.map kt et)=>(match plainKey P kt,zeroOf P et with
  |some (.int _),some z=>z.same (.int .i64 0)
  |_,_=>false)
 |_=>false
def JR(t:TypeId)(m k:AV)(ok:Bool):Option OhR:=match mapOf σ m,Ac k with
 |some o,some n=>bif DP P t then OhR.rdo (bif ok then .tup [.sym .i64 (.pr 32 o.x n),.symb (.cmp .neq (.pr 31 o.x n) (.lit 0))]else .sym .i64 (.pr 32 o.x n)) [o.id]else none
 |_,_=>none
def JP(t:TypeId)(m k v:AV):Option OhR:=match mapOf σ m,Ac k,Ac v with
 |some o,some n,some e=>bif DP P t then some ⟨.tup [],[],some (o.id,.opq 4 0 o.cid (.slc r8) (.pr 33 o.x (.pr 12 n (.pr 12 e (.pr 14 (.lit 0) (.lit 0))))) o.y [] o.t),none⟩else none
 |_,_,_=>none
def U3(o:Oper):Option OhR:=match o.op with
 | .lookup t x k ok=>match ev x,ev k with
  |some m,some k=>JR P σ t m k ok
  |_,_=>none
 | .mapUpdate t x k v=>match ev x,ev k,ev v with
  |some m,some k,some v=>JP P σ t m k v
  |_,_,_=>none
 |_=>none
end
section
variable[Val]{P:Program}{R:Nat}{D:Nat→Prop}{φ:PM}{σ:St}{w:World}
omit [Val]in
theorem jL{l:List Sh}(h:tq l=true):l=r8:=by unfold tq at h;split at h;{rename_i k;rw[bF (ae h)];rfl};cases h
theorem tt{a:AV}{a':Value}{n:Sx}(h:Ac a=some n)(ha:VR φ a a'):a'=.int .i64 n.eval:=by unfold Ac at h;split at h;{rw[ai]at h;split at h;{rename_i hk;cases h;cases ha;rw[bF (ae hk)];rfl};cases h};{rw[ai]at h;split at h;{rename_i hk;cases h;cases ha;rw[bF (ae hk)]};cases h};cases h
omit [Val]in
theorem zP{m:AV}{o:MapO}(h:mapOf σ m=some o):∃x y,m=.opq 4 o.id 0 (.slc r8) x y∧σ.heap.get o.id=some (.opq 4 0 o.cid (.slc r8) o.x o.y [] o.t):=by unfold mapOf at h;split at h;{rename_i k id ver l x0 y0;split at h;{rename_i k' ver' cid l' x y t ho;simp only[ai,al]at h;split at h;{rename_i hb;obtain⟨b1,b2,b3,b4,b5,b6⟩:=hb;have:=ae b1;subst this;have:=ae b2;subst this;have:=ae b3;subst this;have:=ae b4;subst this;have:=jL b5;subst this;have:=jL b6;subst this;cases h;exact⟨_,_,rfl,ho⟩};cases h};cases h};cases h
def ui(cid:Nat)(es:List (AV×AV×Nat))(rows:List (List Dat)):Prop:=es.map (fun e=>(e.1,e.2.1))=rows.map (Cq cid r8 false)
omit [Val]in
theorem iG(cid:Nat)(r:List Dat)(h:r.length=2):Cq cid r8 false r=(.int .i64 (qF r),.int .i64 (QF r)):=by
 match r,h with
 |[a,b],_=>rfl
omit [Val]in
theorem vK{cid:Nat}{n:Int}:∀{es:List (AV×AV×Nat)} {rows:List (List Dat)} (i:Nat),ui cid es rows→(∀r∈rows,r.length=2)→
 (tv rows n=true∧∃j,i≤j∧eL (.int .i64 n) es i=some (some (j,.int .i64 (getM rows n))))∨(tv rows n=false∧eL (.int .i64 n) es i=some none∧getM rows n=0)
 |[],rows,i,h,_=>by
  cases rows with
  |nil=>exact .inr ⟨rfl,rfl,rfl⟩
  |cons r l=>simp [ui]at h
 |(k,v,b)::es,rows,i,h,hr=>by
  cases rows with
  |nil=>simp [ui]at h
  |cons r l=>simp only[ui,List.map_cons,List.cons.injEq]at h;obtain⟨h1,h2⟩:=h;rw[iG cid r (hr r (by simp))]at h1;cases h1;simp only[eL,sameKey,if_true];by_cases hk:n=qF r;{subst hk;refine .inl ⟨by simp [tv],i,aE _,?_⟩;simp [getM]};have hk1:(n==qF r)=false:=(by simpa using hk);have hk2:(qF r==n)=false:=(by simpa using fun h=>hk h.symm);rw[hk1];rcases vK (n:=n) (i+1) h2 (fun q hq=>hr q (by simp [hq]))with⟨g1,j,g2,g3⟩|⟨g1,g2,g3⟩;{exact .inl ⟨by simp [tv,g1],j,by omega,by simp only[getM,hk2,cond_false];exact g3⟩};exact .inr ⟨by simp [tv,g1,hk2],g2,by simp only[getM,hk2,cond_false];exact g3⟩
omit [Val]in
theorem yT{cid:Nat}{n m:Int}{c:Nat}:∀{es:List (AV×AV×Nat)} {rows:List (List Dat)} (i:Nat),ui cid es rows→(∀r∈rows,r.length=2)→
 (∃j u,i≤j∧eL (.int .i64 n) es i=some (some (j,u))∧ui cid (zK (j - i) (fun e=>(.int .i64 n,.int .i64 m,e.2.2)) es) (qC rows n m))∨
   (eL (.int .i64 n) es i=some none∧ui cid (es++[(.int .i64 n,.int .i64 m,c)]) (qC rows n m))
 |[],rows,i,h,_=>by
  cases rows with
  |nil=>exact .inr ⟨rfl,rfl⟩
  |cons r l=>simp [ui]at h
 |(k,v,b)::es,rows,i,h,hr=>by
  cases rows with
  |nil=>simp [ui]at h
  |cons r l=>simp only[ui,List.map_cons,List.cons.injEq]at h;obtain⟨h1,h2⟩:=h;have h10:=h1;rw[iG cid r (hr r (by simp))]at h1;cases h1;simp only[eL,sameKey,if_true];by_cases hk:n=qF r;{subst hk;refine .inl ⟨i,_,aE _,by simp;rfl,?_⟩;rw[Nat.sub_self];simp only[zK,qC,beq_self_eq_true,cond_true,ui,List.map_cons,List.cons.injEq];exact⟨rfl,h2⟩};have hk1:(n==qF r)=false:=(by simpa using hk);have hk2:(qF r==n)=false:=(by simpa using fun h=>hk h.symm);rw[hk1];simp only[qC,hk2,cond_false];rcases yT (n:=n) (m:=m) (c:=c) (i+1) h2 (fun q hq=>hr q (by simp [hq]))with⟨j,u,g1,g2,g3⟩|⟨g1,g2⟩;{refine .inl ⟨j,u,by omega,g2,?_⟩;obtain⟨d,hd⟩:∃d,j - i=d+1:=⟨j - i - 1,by omega⟩;rw[show j - (i+1)=d by omega]at g3;rw[hd];simp only[zK,ui,List.map_cons,List.cons.injEq];exact⟨h10,g3⟩};refine .inr ⟨g1,?_⟩;simp only[List.cons_append,ui,List.map_cons,List.cons.injEq];exact⟨h10,g2⟩
omit [Val]in
theorem yU{n m:Int}:∀{rows:List (List Dat)},(∀r∈rows,r.length=2)→∀r∈qC rows n m,r.length=2
 |[],_,r,h=>by simp [qC]at h;subst h;rfl
 |q::l,hr,r,h=>by
  simp only[qC]at h;cases hk:qF q==n with
  |true=>simp only[hk,cond_true,dB]at h;rcases h with rfl|h;{rfl};exact hr r (by simp [h])
  |false=>simp only[hk,cond_false,dB]at h;rcases h with rfl|h;{exact hr _ (by simp)};exact yU (fun r h=>hr r (by simp [h])) r h
theorem zN{t:TypeId}(h:DP P t=true):∃kt et k z,P.underlying t=some (.map kt et)∧plainKey P kt=some (.int k)∧zeroOf P et=some z∧z=.int .i64 0:=by unfold DP at h;split at h;{rename_i kt et hu;split at h;{rename_i k z hk hz;exact⟨kt,et,k,z,hu,hk,hz,AV.same_eq h⟩};cases h};cases h
theorem DO(hi:Inv0 R D φ σ w){o:MapO}(ho:σ.heap.get o.id=some (.opq 4 0 o.cid (.slc r8) o.x o.y [] o.t))(hd:D o.id):
 ∃rows es clock,o.x.dat=.lst rows∧(∀r∈rows,r.length=2)∧ui o.cid es rows∧Rep R φ w o.id (some (.map es clock)):=by
 obtain⟨l,rows,es,hl,hx,hr,hes,hR,e,es',clock,h1,h2,h3⟩:=hi.at ho hd;simp only[Sh.slc.injEq]at hl;subst hl;exact⟨rows,es,clock,hx,fun r h=>(hr r h).1,hes,hR,e,es',h1,h2,h3⟩
theorem JQ(hi:Inv0 R D φ σ w){t:TypeId}{m k:AV}{m' k':Value}{ok:Bool}{r:OhR}(h:JR P σ t m k ok=some r)(hm:VR φ m m')(hk:VR φ k k')(hkn:Known D σ (r.to σ)):
 ∃v',(Instr.lookup t m' k' ok).run P w=.ok v' w∧VR φ r.v v'∧Post R D φ σ w (r.to σ) φ w:=by
 unfold JR at h;split at h
 ·rename_i o n ho hn;rw[ai]at h;split at h
  ·rename_i hty;simp only[OhR.rdo,aw]at h;subst h;obtain⟨x0,y0,rfl,hob⟩:=zP ho;have hlt:=hi.lt hob;have hd:D o.id:=ic hkn (by simp) hlt;obtain⟨rows,es,clock,hx,h2,hent,hrep⟩:=DO hi hob hd;obtain⟨kt,et,kk,z,hu,hpk,hz,rfl⟩:=zN hty;have hk0:=tt hn hk;subst hk0;have hi2:Inv0 R D φ {σ with heap:=σ.heap.set o.id (.map es clock)} w:=hi.recast hlt hrep;have hm2:VR φ (.map o.id) m':=by
    cases hm with
    |opq _ hv=>obtain⟨e,he,rfl⟩:=hv;exact .map e he
   have hfit:dV P kt (.int .i64 n.eval)=true:=(by simp [dV,hpk]);have hkk:Known D {σ with heap:=σ.heap.set o.id (.map es clock)} (St.lgR {σ with heap:=σ.heap.set o.id (.map es clock)} o.id):=fun i hq hl=>hkn i (by rcases hq with hq|hq;{exact .inl hq};exact .inr hq) hl;have hxe:∀f:List (List Dat)→Int→Int,(o.x.dat.toL=rows):=fun _=>(by rw[hx];rfl);have e32:(Sx.pr 32 o.x n).eval=getM rows n.eval:=(by show getM o.x.dat.toL n.dat.toI=_;rw[hx];rfl);have e31:(Bx.cmp .neq (.pr 31 o.x n) (.lit 0)).eval=tv rows n.eval:=(by show(dW (tv o.x.dat.toL n.dat.toI) != 0)=_;rw[hx];show(dW (tv rows n.eval) != 0)=_;cases tv rows n.eval<;>rfl);rcases vK (n:=n.eval) 0 hent h2 with⟨g1,j,_,g3⟩|⟨g1,g2,g3⟩
   ·have hl:dT P t (.map o.id) (.int .i64 n.eval) ok {σ with heap:=σ.heap.set o.id (.map es clock)}=some (bif ok then .tup [.int .i64 (getM rows n.eval),.bool true]else .int .i64 (getM rows n.eval),St.lgR {σ with heap:=σ.heap.set o.id (.map es clock)} o.id):=by
     unfold dT;simp only[hu,hfit,cond_true,T.get_set_same,g3]
    obtain⟨v',r1,r2,_⟩:=iD (P:=P) hi2.inv hl hm2 (.int .i64 n.eval) hkk;refine⟨v',r1,?_,Post.read hi _⟩;cases ok with
    |true=>
     cases r2 with
     |tup l q=>
      obtain⟨l⟩:=l;have q:VRL φ _ l:=q;cases q with
      |cons q1 q2=>cases q2 with
       |cons q3 q4=>cases q1;cases q3;cases q4;refine .tup _ (.cons ?_ (.cons ?_ .nil));{rw[←e32];exact .sym _ _};have:=e31.trans g1;rw[←this];exact .symb _
    |false=>have r2:VR φ (.int .i64 (getM rows n.eval)) v':=r2;cases r2;rw[←e32];exact .sym _ _
   have hl:dT P t (.map o.id) (.int .i64 n.eval) ok {σ with heap:=σ.heap.set o.id (.map es clock)}=some (bif ok then .tup [.int .i64 0,.bool false]else .int .i64 0,St.lgR {σ with heap:=σ.heap.set o.id (.map es clock)} o.id):=(by unfold dT;simp only[hu,hfit,cond_true,T.get_set_same,g2,hz]);obtain⟨v',r1,r2,_⟩:=iD (P:=P) hi2.inv hl hm2 (.int .i64 n.eval) hkk;refine⟨v',r1,?_,Post.read hi _⟩;rw[g3]at e32;cases ok with
   |true=>
    cases r2 with
    |tup l q=>
     obtain⟨l⟩:=l;have q:VRL φ _ l:=q;cases q with
     |cons q1 q2=>cases q2 with
      |cons q3 q4=>cases q1;cases q3;cases q4;refine .tup _ (.cons ?_ (.cons ?_ .nil));{rw[←e32];exact .sym _ _};have:=e31.trans g1;rw[←this];exact .symb _
   |false=>have r2:VR φ (.int .i64 0) v':=r2;cases r2;rw[←e32];exact .sym _ _
  cases h
 cases h
theorem JO(hi:Inv0 R D φ σ w){t:TypeId}{m k v:AV}{m' k' v':Value}{r:OhR}(h:JP P σ t m k v=some r)(hm:VR φ m m')(hk:VR φ k k')(hv:VR φ v v')(hkn:Known D σ (r.to σ)):
 r.v=.tup []∧∃w',(Instr.mapUpdate t m' k' v').run P w=.ok () w'∧Post R D φ σ w (r.to σ) φ w':=by
 unfold JP at h;split at h
 ·rename_i o n e ho hn he;rw[ai]at h;split at h
  ·rename_i hty;cases h;refine⟨rfl,?_⟩;obtain⟨x0,y0,rfl,hob⟩:=zP ho;have hlt:=hi.lt hob;have hto:((⟨.tup [],[],some (o.id,.opq 4 0 o.cid (.slc r8) (.pr 33 o.x (.pr 12 n (.pr 12 e (.pr 14 (.lit 0) (.lit 0))))) o.y [] o.t),none⟩:OhR).to σ)=σ.put o.id (.opq 4 0 o.cid (.slc r8) (.pr 33 o.x (.pr 12 n (.pr 12 e (.pr 14 (.lit 0) (.lit 0))))) o.y [] o.t):=by
    unfold OhR.to cw;simp only[hob]
   rw[hto]at hkn⊢;have hd:D o.id:=hkn o.id (.inr (aC.2 (.inl rfl))) hlt;obtain⟨rows,es,clock,hx,h2,hent,hrep⟩:=DO hi hob hd;obtain⟨kt,et,kk,z,hu,hpk,hz,rfl⟩:=zN hty;have hk0:=tt hn hk;subst hk0;have hv0:=tt he hv;subst hv0;have hi2:Inv0 R D φ {σ with heap:=σ.heap.set o.id (.map es clock)} w:=hi.recast hlt hrep;have hm2:VR φ (.map o.id) m':=by
    cases hm with
    |opq _ hv=>obtain⟨e,he,rfl⟩:=hv;exact .map e he
   have hfit:dV P kt (.int .i64 n.eval)=true:=(by simp [dV,hpk]);have hx2:(Sx.pr 33 o.x (.pr 12 n (.pr 12 e (.pr 14 (.lit 0) (.lit 0))))).dat=.lst (qC rows n.eval e.eval):=(by show Dat.lst (qC o.x.dat.toL _ _)=_;rw[hx];rfl);have back:∀(es2:List (AV×AV×Nat)) (c2:Nat) (w':World),ui o.cid es2 (qC rows n.eval e.eval)→Rep R φ w' o.id (some (.map es2 c2))→Rep R φ w' o.id (some (.opq 4 0 o.cid (.slc r8) (.pr 33 o.x (.pr 12 n (.pr 12 e (.pr 14 (.lit 0) (.lit 0))))) o.y [] o.t)):=fun es2 c2 w' h1 h3=>by
    obtain⟨hR,ex,es',q1,q2,q3⟩:=h3;refine⟨r8,_,es2,rfl,hx2,fun r hr=>⟨yU h2 r hr,fun j s d a b=> ?_⟩,h1,hR,ex,es',c2,q1,q2,q3⟩
    match j,a with
    |0,a=>simp [r8]at a;subst a;trivial
    |1,a=>simp [r8]at a;subst a;trivial
    |j+2,a=>simp [r8]at a
   rcases yT (n:=n.eval) (m:=e.eval) (c:=clock) 0 hent h2 with⟨j,u,_,g2,g3⟩|⟨g1,g2⟩
   ·have hl:eX P t (.map o.id) (.int .i64 n.eval) (.int .i64 e.eval) {σ with heap:=σ.heap.set o.id (.map es clock)}=some (St.put {σ with heap:=σ.heap.set o.id (.map es clock)} o.id (.map (zK j (fun x=>(.int .i64 n.eval,.int .i64 e.eval,x.2.2)) es) clock)):=by
     unfold eX;simp only[hu,hfit,cond_true,T.get_set_same,g2]
    obtain⟨w',r1,r2⟩:=jR (P:=P) hi2.inv hl hm2 (.int .i64 n.eval) (.int .i64 e.eval) (fun i h hl=>hkn i h hl);exact⟨w',r1,Post.recast hd hlt r2 (back _ _ _ (by simpa using g3))⟩
   have hl:eX P t (.map o.id) (.int .i64 n.eval) (.int .i64 e.eval) {σ with heap:=σ.heap.set o.id (.map es clock)}=some (St.put {σ with heap:=σ.heap.set o.id (.map es clock)} o.id (.map (es++[(.int .i64 n.eval,.int .i64 e.eval,clock)]) (clock+1))):=(by unfold eX;simp only[hu,hfit,cond_true,T.get_set_same,g1]);obtain⟨w',r1,r2⟩:=jR (P:=P) hi2.inv hl hm2 (.int .i64 n.eval) (.int .i64 e.eval) (fun i h hl=>hkn i h hl);exact⟨w',r1,Post.recast hd hlt r2 (back _ _ _ g2)⟩
  cases h
 cases h
end
end
end Go.Tw
set_option linter.unusedVariables false
set_option linter.unusedSectionVars false
namespace Go.Tw
open Go
noncomputable section
section
variable[v:Val]{P:Program}{R:Nat}{D:Nat→Prop}{φ φ':PM}{σ:St}{w w':World}{dec:Bx→Option Bool}
def TA:AV→Option Sx
 | .str s=>some (.slit s)
 | .vstr e=>some e
 |_=>none
theorem Bb{a:AV}{e:Sx}{a':Value}(h:TA a=some e)(ha:VR φ a a'):∃s:List UInt8,e.dat=.str s∧a'=.string ⟨⟨s⟩⟩:=by
 unfold TA at h;split at h;·rename_i s;cases h;cases ha;exact⟨s,rfl,rfl⟩
 ·cases h;cases ha with
  |vstr s hs=>exact⟨s,hs,rfl⟩
 cases h
def Sv:AV→Bool
 | .vstr _=>true
 |_=>false
def OW:AV→Option Sx
 | .int .u8 n=>some (.lit n)
 | .sym .u8 e=>some e
 |_=>none
theorem Lr{a:AV}{e:Sx}{a':Value}(h:OW a=some e)(ha:VR φ a a'):a'=.int .u8 e.eval:=by unfold OW at h;split at h;{cases h;cases ha;rfl};{cases h;cases ha;rfl};cases h
def Qx(P:Program)(ev:Operand→Option AV)(o:Oper):Option OhR:=match o.op with
 | .call c=>match c.callee,c.args.toList with
  | .value f,[x,y]=>match ev f,ev x,ev y with
   |some (.fn (.func g) [] []),some a,some b=>bif Sv a||ft b then(match TA a,OW b with
    |some s,some e=>match P.funcs[g]? with
     |some fn=>if fn.body.isNone=true∧fn.origin= ""∧fn.name= "internal/bytealg.IndexByteString" then OhR.one (.sym .i64 (.pr 6 s e))else none
     |none=>none
    |_,_=>none)else none
   |_,_,_=>none
  |_,_=>none
 |_=>none
theorem LZ(hi:Inv0 R D φ σ w){ev:Operand→Option AV}{a:Operand→Value}(hev:∀x v,ev x=some v→VR φ v (a x)){o:Oper}{r:OhR}(h:Qx P ev o=some r)(hk:Known D σ (r.to σ))(hfr:Free φ σ (r.to σ)):
 ∃φ' w' n v',(execOp a o).run P w=.ok n w'∧(n=.value v'∨(n=.skip∧v'=undef))∧VR φ' r.v v'∧Post R D φ σ w (r.to σ) φ' w':=by
 unfold Qx at h;split at h
 ·rename_i c ho;split at h
  ·rename_i f x y hc hargs;split at h
   ·rename_i g av bv hf hx hy;simp only[ai]at h;split at h
    ·split at h
     ·rename_i s e hs he;split at h
      ·rename_i fn hfn;split at h
       ·rename_i hcond;obtain⟨hb,hor,hnm⟩:=hcond;have hb:fn.body=none:=(by simpa using hb);simp only[OhR.one,aw]at h;subst h;obtain⟨t,ht,ex⟩:=Bb hs (hev _ _ hx);have ey:=Lr he (hev _ _ hy);have hcall:jt P (.fn (.func g) [] []) [.str t,.int .u8 e.eval] σ=.val (.int .i64 (match aq t e.eval.toNat.toUInt8 with
         |some i=>(i:Int)
         |none=> -1)) σ:=by
         simp only[jt,cZ,hfn,hb,hor,List.nil_append,List.append_nil,if_true];have hname:bM fn.name (gH P fn) [.str t,.int .u8 e.eval] σ=(match aq t e.eval.toNat.toUInt8 with
          |some i=>.val (yC i) σ
          |none=>.val (.int .i64 (-1)) σ):=by
          rw[hnm];rfl
         refine hname.trans ?_;cases aq t e.eval.toNat.toUInt8<;>rfl
        have ha:Array.map a c.args= #[a x,a y]:=(by apply Array.ext';simp [hargs]);have hargs':VRL φ [.str t,.int .u8 e.eval] (Array.map a c.args).toList:=(by rw[ha,ex,ey];exact .cons (.str _) (.cons (.int _ _) .nil));have:=vS (P:=P) hi.inv (hev _ _ hf) hargs' (fun σ' h=>by rw[hcall]at h;simp only[OR.st,aw]at h;subst h;exact hk) (fun σ' h=>by rw[hcall]at h;simp only[OR.st,aw]at h;subst h;exact hfr);rw[hcall]at this;obtain⟨φ',w',nn,v',g1,g2,g3,g4⟩:=this;have hx:execOp a o=(do let d ←Deferred.ofValue (a f) (Array.map a c.args);invoke d.target d.args):=(by simp [execOp,ho,resolve,hc]);refine⟨φ',w',nn,v',by rw[hx];exact g1,g2,?_,g4⟩;cases g3;have:(match aq t e.eval.toNat.toUInt8 with
         |some i=>(i:Int)
         |none=> -1)=(Sx.pr 6 s e).eval:=by
         show _=(match aq s.dat.toS e.dat.toI.toNat.toUInt8 with
          |some i=>(i:Int)
          |none=> -1)
         rw[ht];rfl
        rw[this];exact .sym _ _
       cases h
      cases h
     cases h
    cases h
   cases h
  cases h
 cases h
def Nh:List Sh→Bool
 |[.int k]=>Nat.beq (bQ k) (bQ .u8)
 |_=>false
theorem D6{l:List Sh}(h:Nh l=true):l=[.int .u8]:=by unfold Nh at h;split at h;{rw[bF (ae h)]};cases h
def rC(P:Program)(s d:TypeId):Bool:=match P.underlying s,P.underlying d with
 |some (.slice e),some .string=>(match P.underlying e with
  |some (.int .u8)=>true
  |_=>false)
 |_,_=>false
def Qs(P:Program)(σ:St)(s d:TypeId)(a:AV):Option OhR:=match a with
 | .opq k id ver (.slc l) x y=>bif Nh l&&rC P s d then(bif Nat.beq k 0 then(bif qu σ id then OhR.rdo (.vstr (.pr 15 x (.lit 0))) (ks id)else none)
  else(match eV σ (.opq k id ver (.slc l) x y)with
   |some o=>bif Nh o.l then OhR.rdo (.vstr (.pr 15 o.x (.lit 0))) [o.id]else none
   |none=>none))else none
 |_=>none
theorem Da{s d:TypeId}(h:rC P s d=true):∃e,P.underlying s=some (.slice e)∧P.underlying d=some .string∧P.underlying e=some (.int .u8):=by unfold rC at h;split at h;{rename_i e hs hd;split at h;{rename_i he;exact⟨e,hs,hd,he⟩};cases h};cases h
theorem Jx{id:Nat}:∀{rows:List (List Dat)} {l:List Value},dm [.int .u8] rows→VRL φ (ah id [.int .u8] rows) l→∃ns:List Int,l=ns.map (Value.int .u8)∧ns.map (fun n=>UInt8.ofNat n.toNat)=pT rows∧ns.length=rows.length
 |[],l,_,h=>by have h:VRL φ [] l:=h;cases h;exact⟨[],rfl,rfl,rfl⟩
 |r::rows,l,hr,h=>by
  have h1:=(hr r (by simp)).1
  match r,h1 with
  |[d],_=>
   have h:VRL φ (.int .u8 d.toI::ah id [.int .u8] rows) l:=(by simpa[ah,bE,dU]using h);cases h with
   |cons g1 g2=>cases g1;obtain⟨ns,e1,e2,e3⟩:=Jx (fun q hq=>hr q (by simp [hq])) g2;exact⟨d.toI::ns,by rw[e1];rfl,by simp only[List.map_cons,e2];rfl,by simp [e3]⟩
theorem vT{s d:TypeId}(ht:rC P s d=true){id:Nat}{rows:List (List Dat)}{a:Option Addr}{c:Nat}(hr:dm [.int .u8] rows){arr:Array Value}(hv:VRL φ (ah id [.int .u8] rows) arr.toList)
 (hf:(Builtin.firstCells 1 rows.length (.slice a rows.length c)).run P w=.ok arr w):(convert s d (.slice a rows.length c)).run P w=.ok (.string ⟨⟨pT rows⟩⟩) w:=by
 obtain⟨e,hs,hd,hu⟩:=Da ht;obtain⟨ns,e1,e2,e3⟩:=Jx hr hv;simp only[convert,aQ,af hs,af hd,af hu,aZ];cases a with
 |none=>
  simp only[Builtin.firstCells,Sem.run_pure,Result.ok.injEq]at hf;obtain⟨rfl,_⟩:=hf;have:ns=[]:=by
   cases ns with
   |nil=>rfl
   |cons=>simp at e1
  subst this;rw[←e2];simp [Conv.bytesToString,Sem.run_pure];rfl
 |some ad=>have hl:(loadCells ad rows.length).run P w=.ok (ns.map (Value.int .u8)).toArray w:=(by simp only[Builtin.firstCells,Nat.mul_one]at hf;rw[hf,←e1]);have:=run_bytesToString (P:=P) w ad rows.length c ns hl;rw[foldl_push,e2]at this;simpa using this
theorem LW(hi:Inv0 R D φ σ w){s d:TypeId}{a:AV}{a':Value}{r:OhR}(h:Qs P σ s d a=some r)(ha:VR φ a a')(hk:Known D σ (r.to σ)):
 ∃v',(convert s d a').run P w=.ok v' w∧VR φ r.v v'∧Post R D φ σ w (r.to σ) φ w:=by
 unfold Qs at h;split at h
 ·rename_i k id ver l x y;simp only[ai,al]at h;split at h
  ·rename_i hc;have:=D6 hc.1;subst this;split at h
   ·rename_i hk0;have:=ae hk0;subst this;split at h
    ·rename_i hfz;simp only[OhR.rdo,aw]at h;subst h;have hkn:Known D σ (cw (ks id) σ):=hk;cases ha with
     |opq _ hv=>
      obtain⟨l,ad,n,c,hl,rfl,hg⟩:=hv;simp only[Sh.slc.injEq]at hl;subst hl;cases hx:x.dat with
      |lst rows=>rw[hx]at hg;obtain⟨rfl,hr,arr,h1,h2⟩:=yb (P:=P) hg hi hfz hkn;refine⟨_,vT hc.2 hr h1 (h2 w rfl),.vstr _ ?_,.read hi _⟩;show Dat.str (pT x.dat.toL)=_;rw[hx];rfl
      |int n'=>rw[hx]at hg;cases hg
      |str s'=>rw[hx]at hg;cases hg
    cases h
   split at h
   ·rename_i o hoo;split at h
    ·rename_i hu;simp only[OhR.rdo,aw]at h;subst h;have hlt:o.id<σ.next:=by
      obtain⟨_,_,ho,_⟩:=fQ hoo;exact hi.lt ho
     obtain⟨rows,b,c,rfl,hx,hr,arr,h1,h2⟩:=vj (P:=P) hi hoo ha (ic hk (by simp) hlt);have hu:=D6 hu;rw[hu]at hr h1 h2;refine⟨_,vT hc.2 hr h1 (h2 w rfl),.vstr _ ?_,.read hi _⟩;show Dat.str (pT o.x.dat.toL)=_;rw[hx];rfl
    cases h
   cases h
  cases h
 cases h
theorem Post.remk'{o o':Ob}(h:Post R D φ σ w (σ.mk' o) φ' w')(hr:Rep R φ' w' σ.next (some o)→Rep R φ' w' σ.next (some o')):Post R D φ σ w (σ.mk' o') φ' w' where
 le:=h.le
 grow:=h.grow
 wrR:=h.wrR
 wf:=h.wf
 blk:=h.blk
 rep:=fun i hi=>by have h0:=h.rep i hi;by_cases e:i=σ.next;{subst e;have g:∀o:Ob,(σ.mk' o).heap.get σ.next=some o:=fun o=>(by simp [St.mk',T.get_set]);rw[g]at h0⊢;exact hr h0};have g:∀o:Ob,(σ.mk' o).heap.get i=σ.heap.get i:=fun o=>(by simp only[St.mk',T.get_set];rw[if_neg (by first|exact e|exact fun h=>e h.symm)]);rw[g]at h0⊢;exact h0
 frm:=h.frm
def Qz(P:Program)(σ:St)(s d:TypeId)(a:AV):Option OhR:=match a with
 | .vstr e=>match P.underlying s,P.underlying d with
  |some .string,some (.slice t)=>(match P.underlying t,c7 P t with
   |some (.int .u8),some 1=>some ⟨.opq 2 σ.next 0 (.slc [.int .u8]) (.lit 0) (.lit 1),[],none,some (.opq 2 0 gid (.slc [.int .u8]) (.pr 16 e (.lit 0)) (.lit 1) [] t)⟩
   |_,_=>none)
  |_,_=>none
 |_=>none
omit v in
theorem DW{id:Nat}:∀s:List UInt8,ah id [.int .u8] (fT s)=s.map fun b=>.int .u8 b.toNat
 |[]=>rfl
 |b::s=>by have:=DW (id:=id) s;simp only[ah,fT,List.map_cons,List.flatten_cons]at this⊢;rw[this];rfl
theorem Mf(hi:Inv0 R D φ σ w){s d:TypeId}{a:AV}{a':Value}{r:OhR}(h:Qz P σ s d a=some r)(ha:VR φ a a')(hk:Known D σ (r.to σ))(hf:Free φ σ (r.to σ)):
 ∃φ' w' v',(convert s d a').run P w=.ok v' w'∧VR φ' r.v v'∧Post R D φ σ w (r.to σ) φ' w':=by
 unfold Qz at h;split at h
 ·rename_i e;split at h
  ·rename_i t hs hd;split at h
   ·rename_i hu hsz;cases h;cases ha with
    |vstr s hs'=>
     have hcap:s.length≤(Question.appendCap s.length 0 t).cut (w.tape w.drawn (.appendCap s.length 0 t)):=(by simp [Question.cut]);have hch:(choose (.appendCap s.length 0 t)).run P w=.ok ((Question.appendCap s.length 0 t).cut (w.tape w.drawn (.appendCap s.length 0 t))) w.drew:=(by simp [Question.forced]);generalize (Question.appendCap s.length 0 t).cut (w.tape w.drawn (.appendCap s.length 0 t))=c at hcap hch;have hsz:(⟨⟨s⟩⟩:ByteArray).size=s.length:=rfl;obtain⟨cs,hcs⟩:∃cs:Array Value,cs=(⟨⟨s⟩⟩:ByteArray).data.map (fun b=>Value.int .u8 b.toNat)++Array.replicate (c - s.length) (.int .u8 0):=⟨_,rfl⟩;have hcsz:cs.size=c:=(by rw[hcs];simp;omega);have hlen:(s.map fun b=>AV.int .u8 b.toNat).length=s.length:=(by simp);have hff:∀u,φ σ.next u=none:=hf σ.next (aE _) (Nat.lt_succ_self _);have hpost:=rj hi.inv.drew (c:=s.map fun b=>AV.int .u8 b.toNat) (cs:=cs) (fl:=cs.size) (fh:=cs.size+1) t hff (fun ψ _=>by have h3:cs.toList.take (s.map fun b=>AV.int .u8 b.toNat).length=s.map fun b=>Value.int .u8 b.toNat:=(by rw[hcs];simp);rw[h3];exact VRL.map_u8 s) (by rw[hcsz];simpa using hcap) (.inr (aE _));have heq:gQ t (s.map fun b=>AV.int .u8 b.toNat) σ=σ.mk' (.arr (s.map fun b=>.int .u8 b.toNat) 0 s.length 1 1 t):=(by simp [gQ]);rw[heq]at hpost;have hdat:(Sx.pr 16 e (.lit 0)).dat=.lst (fT s):=(by show Dat.lst (fT e.dat.toS)=_;rw[hs'];rfl);have hlr:=DW (id:=gid) s;refine⟨_,_,.slice (some ⟨w.heap.size,0,none⟩) s.length c,?_,?_,hpost.drew.remk' fun hrep=> ?_⟩
     ·simp only[convert,aQ,af hs,af hd,af hu,aZ,Conv.stringToBytes,hsz,hch];rw[←hcs];simp only[newRow,aQ,run_newObj,aZ,Sem.run_pure,markStringish,run_shape];have hsh:(w.drew.alloc (.cells cs t)).shape? w.drew.heap.size=some (t,cs.size):=by
       simp only[World.shape?,cf]
      have hal:({w.drew with heap:=w.drew.heap.push (.cells cs t)}:World)=w.drew.alloc (.cells cs t):=rfl;have hfz:=nZ w.drew cs t cs.size;simp only[hal,hsh,run_freeze,aZ];rw[hfz];rfl
     {exact .opq _ (.inr ⟨rfl,_,_,c,s.length,rfl,PM.ins_same _ _ _ _,rfl,by simp,hcap,by simp [hcsz],rfl⟩)};refine⟨[.int .u8],fT s,rfl,hdat,fun r hr=> ?_,.inr ⟨rfl,⟨_,PM.ins_same _ _ _ _,?_⟩,?_⟩⟩
     ·obtain⟨b,_,rfl⟩:=List.mem_map.1 hr;refine⟨rfl,fun j s' d h1 h2=> ?_⟩
      match j,h1 with
      |0,h1=>simp at h1;subst h1;trivial
      |j+1,h1=>simp at h1
     {rw[List.append_nil,hlr]};rw[List.append_nil,hlr];obtain⟨q1,q2,q3,q4,q5,q6,q7,q8⟩:=hrep;refine⟨q1,by simp,by omega,by omega,q5,fun u hu=> ?_,fun u1 u2 e1 e2 a1 a2 b1 b2 hbk=> ?_,fun u e' a1 a2 a3 a4=> ?_⟩;{have hu0:u=0:=hu.resolve_right (by omega);subst hu0;obtain⟨e0,cs0,fl,fh,he0,hbb,k1,k2,k3,k4,k5⟩:=q6 0 (.inl rfl);refine⟨e0,cs0,fl,fh,he0,hbb,k1,?_,?_,k4,?_⟩;{simpa[bJ]using k2};{simp [bJ]};intro x a x1 x2 x3;exact k5 x a x1 (by simpa[bJ]using x2) x3};{have e1':u1=0:=a1.resolve_right (by omega);have e2':u2=0:=a2.resolve_right (by omega);subst e1';subst e2';rw[b1]at b2;cases b2;exact⟨rfl,rfl⟩};omega
   cases h
  cases h
 cases h
def wx(dec:Bx→Option Bool):Sx→Bool
 | .slit s=>Nat.ble s.length 1000000000
 |e=>ml dec (.cmp .leq (bR e) (.lit 1000000000))
theorem uN(hdec:∀b x,dec b=some x→b.eval=x){e:Sx}{s:List UInt8}(h:wx dec e=true)(he:e.dat=.str s):s.length≤1000000000:=by
 have key:ml dec (.cmp .leq (bR e) (.lit 1000000000))=true→s.length≤1000000000:=fun h=>by have h1:=hdec _ _ (cY h);have h2:(Bx.cmp .leq (bR e) (.lit 1000000000)).eval=decide ((e.dat.toS.length:Int)≤1000000000):=rfl;rw[h2,he]at h1;have:=of_decide_eq_true h1;have h3:(Dat.str s).toS=s:=rfl;rw[h3]at this;omega
 unfold wx at h;split at h
 ·rename_i s';have:s'=s:=by
   have:Dat.str s'=Dat.str s:=he;exact Dat.str.inj this
  subst this;exact aB h
 exact key h
def Me(dec:Bx→Option Bool)(op:BinOp)(a b:AV):Option AV:=match op with
 | .add=>bif Sv a||Sv b then(match TA a,TA b with
  |some s,some t=>bif wx dec s&&wx dec t then some (.vstr (.pr 4 s t))else none
  |_,_=>none)else none
 |_=>none
theorem Md(hdec:∀b x,dec b=some x→b.eval=x){op:BinOp}{t:TypeId}{a b r:AV}{a' b':Value}(h:Me dec op a b=some r)(ha:VR φ a a')(hb:VR φ b b'):
 ∃v',(∀w,(binOp op t a' b').run P w=.ok v' w)∧VR φ r v':=by
 unfold Me at h;split at h;{simp only[ai]at h;split at h;{split at h;{rename_i s1 s2 h1 h2;split at h;{rename_i hc;simp only[al]at hc;cases h;obtain⟨x1,e1,rfl⟩:=Bb h1 ha;obtain⟨x2,e2,rfl⟩:=Bb h2 hb;have l1:=uN hdec hc.1 e1;have l2:=uN hdec hc.2 e2;have hle:Nat.ble (x1.length+x2.length) 4611686018427387904=true:=Nat.ble_eq_true_of_le (by omega);obtain⟨v',g1,g2⟩:=rE (P:=P) hdec (op:=.add) (t:=t) (x:=.str x1) (y:=.str x2) (v:=.str (x1++x2)) (by simp [Df,ft,hle]) (.str x1) (.str x2) (φ:=φ);refine⟨v',g1,?_⟩;cases g2;refine .vstr _ ?_;show Dat.str (s1.dat.toS++s2.dat.toS)=_;rw[e1,e2];rfl};cases h};cases h};cases h};cases h
def Ai(dec:Bx→Option Bool)(kk:IntKind)(e:Sx):List (AV×AV×Nat)→Option (Option AV)
 |[]=>some none
 |(q,u,_)::es=>match q with
  | .int k n=>bif Nat.beq (bQ k) (bQ kk)then(match dec (.cmp .eql e (.lit n))with
   |some true=>some (some u)
   |some false=>Ai dec kk e es
   |none=>none)else none
  |_=>none
theorem tE(hdec:∀b x,dec b=some x→b.eval=x){kk:IntKind}{e:Sx}:∀{es:List (AV×AV×Nat)} {r:Option AV} (i:Nat),Ai dec kk e es=some r→(match r with
 |some u=>∃j,eL (.int kk e.eval) es i=some (some (j,u))
 |none=>eL (.int kk e.eval) es i=some none)
 |[],r,i,h=>by simp only[Ai,aw]at h;subst h;rfl
 |(q,u,n0)::es,r,i,h=>by
  simp only[Ai]at h;split at h
  ·rename_i k n;rw[ai]at h;split at h
   ·rename_i hk;have:=bF (ae hk);subst this;split at h;·rename_i hd;cases h;have h1:(e.eval==n)=true:=hdec _ _ hd;exact⟨i,by simp [eL,sameKey,h1]⟩
    ·rename_i hd;have h1:(e.eval==n)=false:=hdec _ _ hd;have:=tE hdec (i+1) h;cases r with
     |some u'=>obtain⟨j,hj⟩:=this;exact⟨j,by simp [eL,sameKey,h1,hj]⟩
     |none=>have this:eL (.int k e.eval) es (i+1)=some none:=this;show eL (.int k e.eval) ((.int k n,u,n0)::es) i=some none;simp [eL,sameKey,h1,this]
    cases h
   cases h
  cases h
def Qv(P:Program)(dec:Bx→Option Bool)(σ:St)(t:TypeId)(m k:AV)(ok:Bool):Option OhR:=match m,k with
 | .map id,.sym kk e=>match σ.heap.get id,P.underlying t with
  |some (.map es _),some (.map kt et)=>bif dV P kt (.int kk 0)then(match Ai dec kk e es with
   |some (some u)=>OhR.rdo (bif ok then .tup [u,.bool true]else u) [id]
   |some none=>(match zeroOf P et with
    |some z=>OhR.rdo (bif ok then .tup [z,.bool false]else z) [id]
    |none=>none)
   |none=>none)else none
  |_,_=>none
 |_,_=>none
theorem LY(hdec:∀b x,dec b=some x→b.eval=x)(hi:Inv0 R D φ σ w){t:TypeId}{m k:AV}{m' k':Value}{ok:Bool}{r:OhR}(h:Qv P dec σ t m k ok=some r)(hm:VR φ m m')(hk:VR φ k k')(hkn:Known D σ (r.to σ)):
 ∃v',(Instr.lookup t m' k' ok).run P w=.ok v' w∧VR φ r.v v'∧Post R D φ σ w (r.to σ) φ w:=by
 unfold Qv at h;split at h
 ·rename_i id kk e;split at h
  ·rename_i es ck kt et hob hu;simp only[ai]at h;split at h
   ·rename_i hfit;have hfit':dV P kt (.int kk e.eval)=true:=by
     unfold dV at hfit⊢;cases hp:plainKey P kt with
     |none=>rw[hp]at hfit;simp at hfit
     |some d=>rw[hp]at hfit;cases d<;>simp_all
    cases hk;have hlog:∀u:AV,(OhR.to ⟨u,[id],none,none⟩ σ)=σ.lgR id:=fun _=>rfl;split at h
    ·rename_i u hf;simp only[OhR.rdo,aw]at h;subst h;obtain⟨j,hj⟩:=tE hdec 0 hf;have hl:dT P t (.map id) (.int kk e.eval) ok σ=some (bif ok then .tup [u,.bool true]else u,σ.lgR id):=by
      unfold dT;simp only[hu,hfit',cond_true,hob,hj]
     obtain⟨v',g1,g2,g3⟩:=iD (P:=P) hi.inv hl hm (.int kk e.eval) hkn;exact⟨v',g1,by simpa[ai]using g2,g3⟩
    ·rename_i hf;split at h
     ·rename_i z hz;simp only[OhR.rdo,aw]at h;subst h;have hj:=tE hdec 0 hf;have hj:eL (.int kk e.eval) es 0=some none:=hj;have hl:dT P t (.map id) (.int kk e.eval) ok σ=some (bif ok then .tup [z,.bool false]else z,σ.lgR id):=by
       unfold dT;simp only[hu,hfit',cond_true,hob,hj,hz]
      obtain⟨v',g1,g2,g3⟩:=iD (P:=P) hi.inv hl hm (.int kk e.eval) hkn;exact⟨v',g1,by simpa[ai]using g2,g3⟩
     cases h
    cases h
   cases h
  cases h
 cases h
def Qy(P:Program)(op:BinOp)(t:TypeId)(p q:Operand)(a b:AV):Option AV:=match a with
 | .opq k _ ver sh x _=>bif Nat.beq k 5 then(match(match b with
  | .nili=>(match P.underlying t with
   |some (.interface _)=>bif Region.isConst p||Region.isConst q then some 0 else none
   |_=>none)
  | .iface t2 (.int k2 n)=>(match P.underlying t,P.info? t2,P.underlying t2,sh with
   |some (.interface _),some i,some (.int _),.int k1=>bif !mb n 0&&(Nat.beq ver t2&&(Nat.beq (bQ k1) (bQ k2)&&(!Nat.beq ver 0&&i.comparable)))then some n else none
   |_,_,_,_=>none)
  |_=>none)with
  |some n=>(match op with
   | .eql=>some (.symb (.cmp .eql x (.lit n)))
   | .neq=>some (.symb (.cmp .neq x (.lit n)))
   |_=>none)
  |none=>none)else none
 |_=>none
theorem CX{t:TypeId}{ms:Array (String×TypeId)}(hu:P.underlying t=some (.interface ms))(d:Nat):uh P dec (d+1) t .nili .nili=some true∧(∀u x,uh P dec (d+1) t (.iface u x) .nili=some false)∧(∀u x,uh P dec (d+1) t .nili (.iface u x)=some false):=by refine⟨?_,fun u x=> ?_,fun u x=> ?_⟩<;>simp [uh,hu,ft]
theorem SV{t t2:TypeId}{ms:Array (String×TypeId)}{i:TypeInfo}{kk k:IntKind}{a b:Int}(hu:P.underlying t=some (.interface ms))(hi:P.info? t2=some i)(hc:i.comparable=true)(hu2:P.underlying t2=some (.int kk))(d:Nat):
 uh P dec (d+2) t (.iface t2 (.int k a)) (.iface t2 (.int k b))=some (a==b):=by
 simp [uh,hu,ft,hi,hc,hu2]
theorem Ma(hdec:∀b x,dec b=some x→b.eval=x){op:BinOp}{t:TypeId}{p q:Operand}{a b r:AV}{a' b':Value}(h:Qy P op t p q a b=some r)(ha:VR φ a a')(hb:VR φ b b'):
 ∃v',(∀w,(binOp op t a' b').run P w=.ok v' w)∧VR φ r v'∧∀w,(eqGuard op t p q a' b').run P w=.ok () w:=by
 unfold Qy at h;split at h
 ·rename_i k id ver sh x y;rw[ai]at h;split at h
  ·rename_i hk;have:=ae hk;subst this;cases ha with
   |opq _ hkv=>
    have hkv:XP ver sh x.dat a':=hkv;split at h
    ·rename_i n hn
     -- the values,told plainly
     have key:∃a1:AV,VR φ a1 a'∧(∀d,uh P dec (d+2) t a1 b=some (x.eval==n))∧fW P op t p q a1 b=true∧ft a1=false∧ft b=false∧(a1=.nili∨∃u z,a1=.iface u z)∧(b=.nili∨∃u z,b=.iface u z):=by
      split at hn
      ·split at hn
       ·rename_i ms hu;rw[ai]at hn;split at hn
        ·rename_i hcst;simp only[aw]at hn;subst hn;rcases hkv with⟨q1,rfl⟩|⟨q1,u,z,rfl,q0,_⟩;{refine⟨.nili,.nili,fun d=> ?_,?_,rfl,rfl,.inl rfl,.inl rfl⟩;{rw[(CX hu (d+1)).1];have:x.eval=0:=q1;rw[this];rfl};unfold fW;split<;>first|(simp only[Vh];rw[hcst];rfl)|rfl};refine⟨.iface u .unk,.iface _ (.unk _ q0),fun d=> ?_,?_,rfl,rfl,.inr ⟨_,_,rfl⟩,.inl rfl⟩
         ·rw[(CX hu (d+1)).2.1];have:(x.eval==0)=false:=by
           have q1:x.eval≠0:=q1;simpa using q1
          rw[this]
         unfold fW;split<;>rfl
        cases hn
       cases hn
      {rename_i t2 k2 m;split at hn;{rename_i i kk k1 hu hi2 hu2 _;rw[ai]at hn;split at hn;{rename_i hc;simp only[al,Bool.not_eq_true']at hc;obtain⟨c1,c2,c3,c4,c5⟩:=hc;simp only[aw]at hn;subst hn;have:=ae c2;subst this;have:=bF (ae c3);subst this;have hv0:ver≠0:=fun h=>(by subst h;simp at c4);have hm0:m≠0:=fun h=>(by subst h;simp [mb]at c1);rcases hkv with⟨q1,rfl⟩|⟨q1,u,z,rfl,_,q3⟩;{refine⟨.nili,.nili,fun d=> ?_,?_,rfl,rfl,.inl rfl,.inr ⟨_,_,rfl⟩⟩;{rw[(CX hu (d+1)).2.2];have:x.eval=0:=q1;rw[this];have:((0:Int)==m)=false:=(by simpa using fun h=>hm0 h.symm);rw[this]};unfold fW;split<;>rfl};obtain⟨rfl,k3,hk3,rfl⟩:=q3 hv0;simp only[Sh.int.injEq]at hk3;subst hk3;refine⟨.iface _ (.int k1 x.eval),.iface _ (.int _ _),fun d=>SV hu hi2 c5 hu2 d,?_,rfl,rfl,.inr ⟨_,_,rfl⟩,.inr ⟨_,_,rfl⟩⟩;unfold fW;split<;>rfl};cases hn};cases hn};cases hn
     obtain⟨a1,g1,g2,g3,g4,g5,g6,g7⟩:=key;have hq:=g2 9998;have hb:∀(op':BinOp) (res:Bool),(op'=.eql∧res=(x.eval==n))∨(op'=.neq∧res= !(x.eval==n))→Df P dec op' t a1 b=some (.bool res):=fun op' res hr=>(by rcases g6 with rfl|⟨u,z,rfl⟩<;>rcases g7 with rfl|⟨u2,z2,rfl⟩<;>rcases hr with⟨rfl,rfl⟩|⟨rfl,rfl⟩<;>simp [Df,ft,hq]);split at h;{simp only[aw]at h;subst h;obtain⟨v',k1,k2⟩:=rE (P:=P) hdec (hb .eql _ (.inl ⟨rfl,rfl⟩)) g1 ‹VR φ b b'›;refine⟨v',k1,?_,fun w=>lF g3 g1 ‹VR φ b b'› w⟩;cases k2;exact .symb (.cmp .eql x (.lit n))};{simp only[aw]at h;subst h;obtain⟨v',k1,k2⟩:=rE (P:=P) hdec (hb .neq _ (.inr ⟨rfl,rfl⟩)) g1 ‹VR φ b b'›;refine⟨v',k1,?_,fun w=>lF g3 g1 ‹VR φ b b'› w⟩;cases k2;have:(!(x.eval==n))=(Bx.cmp .neq x (.lit n)).eval:=rfl;rw[this];exact .symb _};cases h
    cases h
  cases h
 cases h
def WB(dec:Bx→Option Bool)(op:BinOp)(x y:AV):Option AV:=bif ft y then(match my x,my y with
 |some (k,a),some (k',b)=>(match op with
  | .shl=>bif ml dec (.cmp .geq b (.lit 0))then some (.sym k (.bin op k a b))else none
  | .shr=>bif ml dec (.cmp .geq b (.lit 0))then some (.sym k (.bin op k a b))else none
  | .quo=>bif Nat.beq (bQ k) (bQ k')&&ml dec (.not (.cmp .eql b (.lit 0)))then some (.sym k (.bin op k a b))else none
  | .rem=>bif Nat.beq (bQ k) (bQ k')&&ml dec (.not (.cmp .eql b (.lit 0)))then some (.sym k (.bin op k a b))else none
  |_=>none)
 |_,_=>none)else none
theorem QB(hdec:∀b x,dec b=some x→b.eval=x){op:BinOp}{t:TypeId}{x y r:AV}{x' y':Value}(h:WB dec op x y=some r)(hx:VR φ x x')(hy:VR φ y y'):
 ∃v',(∀w,(binOp op t x' y').run P w=.ok v' w)∧VR φ r v'∧op≠.eql∧op≠.neq:=by
 unfold WB at h;rw[ai]at h;split at h
 ·split at h
  ·rename_i k a k' b h1 h2;have e1:=eo h1 hx;have e2:=eo h2 hy;subst e1;subst e2;have ge:ml dec (.cmp .geq b (.lit 0))=true→¬b.eval<0:=fun h=>by
    have:=hdec _ _ (cY h);have this:decide (b.eval≥0)=true:=this;have:=of_decide_eq_true this;omega
   have ne:ml dec (.not (.cmp .eql b (.lit 0)))=true→¬b.eval=0:=fun h=>(by have:=hdec _ _ (cY h);have this:(!(b.eval==0))=true:=this;simpa using this);simp only[ai,al]at h;split at h;{split at h;{rename_i hb;cases h;have hb:=ge hb;refine⟨_,fun w=> ?_,.sym _ _,by simp,by simp⟩;simp [binOp,Op.shift,Sx.eval_bin,bu,bq,hb]};cases h};{split at h;{rename_i hb;cases h;have hb:=ge hb;refine⟨_,fun w=> ?_,.sym _ _,by simp,by simp⟩;simp [binOp,Op.shift,Sx.eval_bin,bu,hb]};cases h};{split at h;{rename_i hb;cases h;have:=bF (ae hb.1);subst this;have hb:=ne hb.2;refine⟨_,fun w=> ?_,.sym _ _,by simp,by simp⟩;simp [binOp,Op.intDiv,Sx.eval_bin,bu,hb,bq]};cases h};{split at h;{rename_i hb;cases h;have:=bF (ae hb.1);subst this;have hb:=ne hb.2;refine⟨_,fun w=> ?_,.sym _ _,by simp,by simp⟩;simp [binOp,Op.intDiv,Sx.eval_bin,bu,hb]};cases h};cases h
  cases h
 cases h
def Wz(P:Program)(dec:Bx→Option Bool)(ev:Operand→Option AV)(o:Oper)(σ:St):Option OhR:=match o.op with
 | .call _=>Qx P ev o
 | .convert s d x=>match ev x with
  |some a=>match Qs P σ s d a with
   |some r=>some r
   |none=>Qz P σ s d a
  |none=>none
 | .binOp op t x y _=>match ev x,ev y with
  |some a,some b=>match Me dec op a b with
   |some r=>OhR.one r
   |none=>match Qy P op t x y a b with
    |some r=>OhR.one r
    |none=>match WB dec op a b with
     |some r=>OhR.one r
     |none=>none
  |_,_=>none
 | .lookup t x k ok=>match ev x,ev k with
  |some m,some k=>Qv P dec σ t m k ok
  |_,_=>none
 |_=>none
theorem Qu(hdec:∀b v,dec b=some v→b.eval=v)(hi:Inv0 R D φ σ w)
 {ev:Operand→Option AV}{a:Operand→Value}(hev:∀x v,ev x=some v→VR φ v (a x)){o:Oper}{r:OhR}(h:Wz P dec ev o σ=some r)(hk:Known D σ (r.to σ))(hf:Free φ σ (r.to σ)):
 ∃φ' w' n v',(execOp a o).run P w=.ok n w'∧(n=.value v'∨(n=.skip∧v'=undef))∧VR φ' r.v v'∧Post R D φ σ w (r.to σ) φ' w':=by
 unfold Wz at h;split at h;·exact LZ hi hev h hk hf
 ·rename_i s d x ho;split at h
  ·rename_i av hav;have hall:∃φ' w' v',(convert s d (a x)).run P w=.ok v' w'∧VR φ' r.v v'∧Post R D φ σ w (r.to σ) φ' w':=by
    split at h;{rename_i r' hr;cases h;obtain⟨v',g1,g2,g3⟩:=LW hi hr (hev _ _ hav) hk;exact⟨φ,w,v',g1,g2,g3⟩};exact Mf hi h (hev _ _ hav) hk hf
   obtain⟨φ',w',v',h1,h2,h3⟩:=hall;exact⟨φ',w',.value v',v',by simp [execOp,ho,h1],.inl rfl,h2,h3⟩
  cases h
 ·rename_i op t x y pl ho;split at h
  ·rename_i av bv hx hy;split at h
   ·rename_i r' hr;simp only[OhR.one,aw]at h;subst h;obtain⟨v',g1,g2⟩:=Md (P:=P) (t:=t) hdec hr (hev _ _ hx) (hev _ _ hy);have hop:op=.add:=by
     unfold Me at hr;split at hr;{rfl};cases hr
    subst hop;exact⟨φ,w,.value v',v',by simp [execOp,ho,g1,eqGuard],.inl rfl,g2,.same0 hi rfl rfl rfl⟩
   split at h;{rename_i r' hr;simp only[OhR.one,aw]at h;subst h;obtain⟨v',g1,g2,g3⟩:=Ma hdec hr (hev _ _ hx) (hev _ _ hy);exact⟨φ,w,.value v',v',by simp [execOp,ho,g1,g3],.inl rfl,g2,.same0 hi rfl rfl rfl⟩};split at h
   ·rename_i r' hr;simp only[OhR.one,aw]at h;subst h;obtain⟨v',g1,g2,g3,g4⟩:=QB (P:=P) (t:=t) hdec hr (hev _ _ hx) (hev _ _ hy);have hg:(eqGuard op t x y (a x) (a y)).run P w=.ok () w:=by
     cases op<;>simp_all [eqGuard]
    exact⟨φ,w,.value v',v',by simp [execOp,ho,g1,hg],.inl rfl,g2,.same0 hi rfl rfl rfl⟩
   cases h
  cases h
 {rename_i t x k ok ho;split at h;{rename_i mv kv hm hkv;obtain⟨v',g1,g2,g3⟩:=LY (P:=P) hdec hi h (hev _ _ hm) (hev _ _ hkv) hk;exact⟨φ,w,.value v',v',by simp [execOp,ho,g1],.inl rfl,g2,g3⟩};cases h};cases h
end
end
end Go.Tw
namespace Go.Tw
noncomputable section
section
variable[Val]{P:Program}{R:Nat}{D:Nat→Prop}{φ:PM}{σ:St}{w:World}{dec:Bx→Option Bool}
theorem Inv0.read(hi:Inv0 R D φ σ w)(l:List Nat):Inv0 R D φ (cw l σ) w:=by obtain⟨h1,h2,h3⟩:=aY l σ;exact⟨hi.wf,by rw[h3];exact hi.wrR,by rw[h2];exact hi.low,fun i hd hn=>by rw[h1];rw[h2]at hn;exact hi.rep i hd hn,fun i hn=>by rw[h1];rw[h2]at hn;exact hi.dom i hn⟩
omit [Val]in
theorem B5(l:List Nat)(a:AV):eV (cw l σ) a=eV σ a:=by unfold eV;rw[(aY l σ).1]
omit [Val]in
theorem OhR.to_put{v:AV}{l:List Nat}{id:Nat}{o o':Ob}(h:σ.heap.get id=some o'):(⟨v,l,some (id,o),none⟩:OhR).to σ=(cw l σ).put id o:=by
 unfold OhR.to;have:(cw l σ).heap.get id=some o':=by rw[(aY l σ).1];exact h
 simp only[this]
theorem MD{a:Sx}{b:Bool}{x:Sx}{rows2:List (List Dat)}(hx:x.dat=.lst rows2)(ha:a.dat=.int 0∨a.dat=.int 1)(hb:b=true→rows2≠[]):(UH a b x).dat=.int (dW (decide (a.dat.toI≠0∨rows2≠[]))):=by
 unfold UH;rw[ai];split;{rename_i h;have:=hb h;simp [Sx.dat,this,dW]};split;{simp [Sx.dat,dW,Dat.toI]};rename_i hne;show Dat.int (dW (a.dat.toI != 0||(Sx.pr 29 x (.lit 0)).dat.toI != 0))=_;have:(Sx.pr 29 x (.lit 0)).dat=.int (dW (decide (rows2≠[]))):=by show Dat.int (dW (decide (x.dat.toL.length≠0)))=_;rw[hx];simp [Dat.toL]
 rw[this];rcases ha with h|h<;>rw[h]<;>by_cases h2:rows2=[]<;>simp [h2,dW,Dat.toI]
theorem CA(hi:Inv0 R D φ σ w)(hdec:∀b v,dec b=some v→b.eval=v){ts:List TypeId}{args:List AV}{ts':Array TypeId}{args':Array Value}{ty:TypeId}{r:OhR}(h:xL P dec σ ts args=some r)
 (hts:ts'.toList=ts)(hargs:VRL φ args args'.toList)(hk:Known D σ (r.to σ))(hf:Free φ σ (r.to σ)):
 ∃φ' w' v',(Builtin.append_ ts' ty args').run P w=.ok v' w'∧VR φ' r.v v'∧Post R D φ σ w (r.to σ) φ' w':=by
 unfold xL at h;split at h
 ·rename_i st u s x;have hts2:ts'= #[st,u]:=(by apply Array.ext';simpa using hts);subst hts2;obtain⟨s',x',hargs2,hs,hx⟩:=hargs.two;subst hargs2;split at h
  ·rename_i e hu;split at h
   ·rename_i size bw z h1 h2 h3 h4;simp only[ai,al]at h;split at h
    ·rename_i hb;have hz:=ae hb.1;have hbw:=aB hb.2;obtain⟨ti,z',hti,hsz,hbw',rz,vz,hzs⟩:=lW h1 h2 h3 hz;split at h
     ·rename_i hem;split at h
      ·rename_i cid l hcid;split at h
       ·rename_i hb2;have hsl:=ae hb2.1;split at h
        ·rename_i q hq;cases h;have hto:∀v,((⟨v,q.rd,none,some (.opq 2 0 cid (.slc l) q.x (.pr 29 q.x (.lit 0)) [] e)⟩:OhR).to σ)=(cw q.rd σ).mk' (.opq 2 0 cid (.slc l) q.x (.pr 29 q.x (.lit 0)) [] e):=fun v=>rfl;rw[hto]at hk hf⊢;have hkq:Known D σ (cw q.rd σ):=fun i h hl=>hk i h hl;obtain⟨rows2,hsrc,hs1,hs2⟩:=rS (P:=P) (e:=e) (u:=u) (ti:=ti) hi hdec hq hx hkq h4 (by omega);have hb0:∃b,s'=.slice b 0 0:=by
          unfold yi at hem;split at hem;·cases hs;exact⟨none,rfl⟩
          ·cases hs with
           |slc ex o c he hd hh hl hc ho=>have:=(hc 0 rfl).1;subst this;exact⟨_,rfl⟩
          cases hem
         obtain⟨b,rfl⟩:=hb0;have hnx:(cw q.rd σ).next=σ.next:=(aY q.rd σ).2.1;have hfree:∀v,φ (cw q.rd σ).next v=none:=fun v=>hf _ (by omega) (by simp [St.mk']) v;have hy:(Sx.pr 29 q.x (.lit 0)).dat=.int (dW (decide (rows2≠[]))):=(by show Dat.int (dW (decide (q.x.dat.toL.length≠0)))=_;rw[hsrc.1];simp [Dat.toL]);obtain⟨φ',w',v',p1,p2,p3⟩:=DI (P:=P) (ty:=ty) (u:=u) (b:=b) (x':=x') (cid:=cid) (x2:=q.x) (hi.read q.rd) hfree hu hti (by omega) rz (by omega) hsrc hs1 (by omega) hy;rw[hnx]at p2;exact⟨φ',w',v',p1,p2,p3.from hnx (aY q.rd σ).2.2⟩
        cases h
       cases h
      cases h
     split at h
     ·rename_i o hoo;split at h
      ·rename_i hb2;have hsl:=ae hb2.1.1;have het:=ae hb2.1.2;split at h
       ·rename_i q hq;cases h;obtain⟨z0,_,ho,hl0⟩:=fQ hoo;rw[OhR.to_put ho]at hk hf⊢;have hkq:Known D σ (cw q.rd σ):=fun i h hl=>hk i (h.imp (fun h=>h) (fun h=>aC.2 (.inr h))) hl;obtain⟨rows2,hsrc,hs1,hs2⟩:=rS (P:=P) (e:=e) (u:=u) (ti:=ti) hi hdec hq hx hkq h4 (by omega);have hd:D o.id:=hk o.id (.inr (aC.2 (.inl rfl))) (hi.lt ho);obtain⟨rows,hxd,hr,hor⟩:=fP hi hoo hs hd;have hyy:o.y.dat=.int 0∨o.y.dat=.int 1:=by
         rcases hor with⟨_,_,h,_⟩|⟨_,_,_,h,_⟩;{exact .inl h};exact .inr h
        obtain⟨φ',w',v',p1,p2,p3⟩:=B4 (P:=P) (ty:=ty) (u:=u) (x':=x') (x2:=q.x) (y':=UH o.y q.some q.x) (hi.read q.rd) (by rw[B5];exact hoo) hs hd hu hti (by omega) rz (by omega) het hsrc
         (fun rows hx=>oK hdec hb2.2 hx) hs1 (by omega) (MD hsrc.1 hyy hs2)
        exact⟨φ',w',v',p1,p2,p3.from (aY q.rd σ).2.1 (aY q.rd σ).2.2⟩
       cases h
      cases h
     cases h
    cases h
   cases h
  cases h
 cases h
end
def xO(P:Program)(dec:Bx→Option Bool)(σ:St)(t:TypeId)(a:AV)(hi:AV):Option OhR:=match eV σ a,P.underlying t,my hi with
 |some o,some (.slice e),some (_,q)=>match c7 P e with
  |some s=>bif Nat.beq s o.l.length&&(ml dec (.cmp .geq q (.lit 0))&&ml dec (.cmp .leq q (bg o.x)))then some ⟨.opq 2 o.id (o.ver+1) (.slc o.l) (.lit 0) o.y,[],some (o.id,.opq 2 (o.ver+1) o.cid (.slc o.l) (.pr 10 o.x q) o.y [] o.t),none⟩else none
  |none=>none
 |_,_,_=>none
theorem GV(c:Nat)(l:List Sh)(rows:List (List Dat))(n k:Nat)(a:AV)(h:(ah c l (rows.take n))[k]? =some a):(ah c l rows)[k]? =some a:=by
 have e:ah c l rows=ah c l (rows.take n)++ah c l (rows.drop n):=by rw[←cP,List.take_append_drop]
 have hk:k<(ah c l (rows.take n)).length:=by rcases aS k (ah c l (rows.take n)).length with h'|h';{exact h'};rw[bZ h']at h;cases h
 rw[e,List.getElem?_append_left hk];exact h
theorem CF[Val]{P:Program}{R:Nat}{D:Nat→Prop}{φ:PM}{σ:St}{w:World}{dec:Bx→Option Bool}(hi:Inv0 R D φ σ w)(hdec:∀b v,dec b=some v→b.eval=v){t:TypeId}{a q:AV}{a' q':Value}{r:OhR}(h:xO P dec σ t a q=some r)(ha:VR φ a a')(hq:VR φ q q')
 (hk:Known D σ (r.to σ)):∃φ' w' v',(Instr.sliceAt t a' none (some q') none).run P w=.ok v' w'∧VR φ' r.v v'∧Post R D φ σ w (r.to σ) φ' w':=by
 unfold xO at h;split at h
 ·rename_i o e kk q hoo hu hqs;split at h
  ·rename_i s hs;simp only[ai,al]at h;split at h
   ·rename_i hb;obtain⟨b1,b2,b3⟩:=hb;have:=ae b1;subst this;cases h;obtain⟨z,_,ho,hl0⟩:=fQ hoo;have hlt:=hi.lt ho;rw[OhR.to_put ho]at hk⊢;have hd:D o.id:=hk o.id (.inr (aC.2 (.inl rfl))) hlt;obtain⟨rows,hx,hr,hor⟩:=fP hi hoo ha hd;have hqv:q'=.int kk q.eval:=eo hqs hq;subst hqv;have g1:=hdec _ _ (cY b2);have g2:=hdec _ _ (cY b3);simp only[Bx.eval,cX,decide_eq_true_eq,eB hx]at g1 g2;have g1:0≤q.eval:=g1;obtain⟨m,hm⟩:∃m:Nat,q.eval=m:=⟨q.eval.toNat,by omega⟩;have hms:m≤rows.length:=(by omega);have hxx:(Sx.pr 10 o.x q).dat=.lst (rows.take m):=by
     show Dat.lst (o.x.dat.toL.take q.dat.toI.toNat)=_;have e1:q.dat.toI=(m:Int):=hm;rw[hx,e1,Int.toNat_natCast];rfl
    have hrr:dm o.l (rows.take m):=fun r h=>hr r (List.mem_of_mem_take h);have hrun:∀(b:Option Addr) (c:Nat),rows.length≤c→(Instr.sliceAt t (.slice b rows.length c) none (some (.int kk q.eval)) none).run P w=.ok (.slice b m c) w:=by
     intro b c hc;have hbd:cS rows.length none none (some (.int kk (m:Int))) none=some (0,m,none):=(by simp [cS,tZ,ub,ua,GI,pX,fG hms]);have hv2:yG φ (some (.int kk (m:Int))) (some (.int kk q.eval)):=(by rw[hm];exact .int _ _);obtain⟨M,r1,r2,r3,r4,r5,r6⟩:=fk (P:=P) (φ:=φ) (b:=true) hbd (lo':=none) trivial hv2 (hi':=some (.int kk q.eval)) (mx':=none) trivial (c:=c) (fun k hk=>by cases hk) hc;have hM:M=c:=(r6 rfl).1;subst hM;simp only[Instr.sliceAt,Instr.slice,aQ,af hu,aZ,r1,aN hs,Sem.run_pure,Nat.sub_zero,Nat.zero_mul];congr 2;split;{rfl};cases b with
     |none=>rfl
     |some a=>simp [Addr.add]
    rcases hor with⟨b,rfl,y0,rfl,hR,hno⟩|⟨ex,c,rfl,y1,he,hdn,hhi,hc,hbs,har⟩;{have hm0:m=0:=(by simpa using hms);subst hm0;refine⟨φ,w,_,hrun b 0 (aE _),.opq _ (.inl ⟨y0,b,rfl⟩),(Post.put0 (hi.read []) hR hlt φ.le_refl hi.wf (fun _ _ _=>rfl) (fun v e he=>.inl ⟨v,e,he,rfl⟩) (.refl _ _ _) ?_)⟩;exact⟨o.l,[],rfl,by simpa using hxx,by simpa using hrr,.inl ⟨y0,rfl,rfl,hR,fun v hv=>hno v (by omega)⟩⟩};have hR:=har.1;have hno:∀v,o.ver+1≤v→φ o.id v=none:=har.2.2.2.2.1;have hmul:=ig o.l.length hms;have htp:=hi.wf.top _ _ _ he;let ex':Ext:={ex with hi:=m*o.l.length};have hle:=φ.le_ins (v:=o.ver+1) ex' (hno (o.ver+1) (aE _));refine⟨φ.ins o.id (o.ver+1) ex',w,_,hrun _ c hc,.opq _ (.inr ⟨y1,o.l,ex',c,m,rfl,PM.ins_same _ _ _ _,hdn,rfl,by omega,hbs,rfl⟩),
     (Post.put0 (hi.read []) hR hlt hle (hi.wf.ver (e':=ex') he hR rfl (by show m*o.l.length+ex.up≤ex.bsz+ex.dn;omega)) (fun i h v=>φ.ins_id ex' h v) (fun v f hf=> ?_) (.refl _ _ _) ?_)⟩
    {unfold PM.ins at hf;split at hf;{cases hf;exact .inl ⟨o.ver,ex,he,rfl⟩};exact .inl ⟨v,f,hf,rfl⟩};obtain⟨e3,cs,fl,fh,he3,hb,k1,k2,k4,k5⟩:=ez har;rw[he]at he3;cases he3;have hlen:=au o.cid o.l (rows.take m) (aH hrr);have hlm:(rows.take m).length=m:=(by simp;omega);rw[hlm]at hlen;refine⟨o.l,rows.take m,rfl,hxx,hrr,.inr ⟨y1,⟨ex',PM.ins_same _ _ _ _,?_⟩,?_⟩⟩;{rw[List.append_nil,hlen]};rw[List.append_nil];refine .single hR (PM.ins_same _ _ _ _) (fun v hv=>by rw[PM.ins_ver _ _ (by omega)];exact hno v (by omega)) hb k1 (by rw[hlen];exact aE _) k4 fun x a x1 x2 x3=> ?_;have hx':x<(ah o.cid o.l rows).length:=(by rw[au _ _ _ (aH hr)];omega);obtain⟨a',q1,q2⟩:=k5 x a x1 hx' (GV _ _ _ _ _ _ x3);exact⟨a',q1,q2.mono hle⟩
   cases h
  cases h
 cases h
def Cy(P:Program)(dec:Bx→Option Bool)(σ:St)(l:List Sh)(ts:List TypeId)(s x:AV):Option OhR:=match ts,x with
 |[st,u],.sym _ n=>match P.underlying st with
  |some (.slice e)=>match c7 P e,tW P e,zeroOf P e,im P u with
   |some size,some bw,some z,some true=>match kg gid l z.cells with
    |some r=>bif Nat.beq z.cells.length size&&(Nat.beq l.length size&&(Nat.ble bw 16384&&(yi s&&(ml dec (.cmp .geq n (.lit 0))&&ml dec (.cmp .leq n (.lit 1000000000))))))then
     some ⟨.opq 2 σ.next 0 (.slc l) (.lit 0) (.pr 29 (.pr 18 n r) (.lit 0)),[],none,some (.opq 2 0 gid (.slc l) (.pr 18 n r) (.pr 29 (.pr 18 n r) (.lit 0)) [] e)⟩else none
    |none=>none
   |_,_,_,_=>none
  |_=>none
 |_,_=>none
theorem FU[Val]{P:Program}{R:Nat}{D:Nat→Prop}{φ:PM}{σ:St}{w:World}{dec:Bx→Option Bool}(hi:Inv0 R D φ σ w)(hdec:∀b v,dec b=some v→b.eval=v){l:List Sh}{ts:List TypeId}{s x:AV}{s' x':Value}{ts':Array TypeId}{ty:TypeId}{r:OhR}
 (h:Cy P dec σ l ts s x=some r)(hts:ts'.toList=ts)(hs:VR φ s s')(hx:VR φ x x')(hf:Free φ σ (r.to σ)):
 ∃φ' w' v',(Builtin.append_ ts' ty #[s',x']).run P w=.ok v' w'∧VR φ' r.v v'∧Post R D φ σ w (r.to σ) φ' w':=by
 unfold Cy at h;split at h
 ·rename_i st u k n;have hts2:ts'= #[st,u]:=(by apply Array.ext';simpa using hts);subst hts2;split at h
  ·rename_i e hu;split at h
   ·rename_i size bw z h1 h2 h3 h4;split at h
    ·rename_i rr hrr;simp only[ai,al]at h;split at h
     ·rename_i hb;obtain⟨b1,b2,b3,b4,b5,b6⟩:=hb;have hz:=ae b1;have hl:=ae b2;have hbw:=aB b3;cases h;obtain⟨ti,z',hti,hsz,hbw',rz,vz,hzs⟩:=lW h1 h2 h3 hz;have g1:=hdec _ _ (cY b5);have g2:=hdec _ _ (cY b6);simp only[Bx.eval,cX,decide_eq_true_eq]at g1 g2;have g1:0≤n.eval:=g1;have g2:n.eval≤1000000000:=g2;obtain⟨m,hm⟩:∃m:Nat,n.eval=m:=⟨n.eval.toNat,by omega⟩;have hui:∃ik,P.underlying u=some (.int ik):=by
       unfold im at h4;split at h4;{rename_i ik hu2;exact⟨ik,hu2⟩};{cases h4};cases h4
      obtain⟨ik,hu2⟩:=hui;have hxv:x'=.int k n.eval:=(by cases hx;rfl);subst hxv;have hvz:=(vz φ).cells;obtain⟨row,e1,e2,e3,e4⟩:=jM hrr hvz;have hd:(Sx.pr 18 n rr).dat=.lst (List.replicate m row):=(by show Dat.lst (List.replicate n.dat.toI.toNat rr.dat.one)=_;have e5:n.dat.toI=(m:Int):=hm;rw[e5,Int.toNat_natCast,e1];rfl);have hro:dm l (List.replicate m row):=fun r hr=>(by have:=List.eq_of_mem_replicate hr;subst this;exact⟨e2,e4⟩);have harr:VRL φ (repl m z.cells) ((if m*ti.size=0 then #[]else Builtin.zeroCells z'.cells m:Array Value)).toList:=by
       split
       ·rename_i h0;have:repl m z.cells=[]:=by
         apply List.length_eq_zero_iff.1;rw[fo,hz,←hsz,h0]
        rw[this];exact .nil
       rename_i h0;have:=cC vz hz φ z'.cells (c:=m) (fun _=>rfl);rw[←hzs]at this;exact this
      have hlit:∀(j:Nat) (vs:List Value),VRL φ (repl j z.cells) vs→VRL φ (ah gid l (List.replicate j row)) vs:=by
       intro j
       induction j with
       |zero=>intro vs h;cases h;exact .nil
       |succ j ih=>intro vs h;rw[List.replicate_succ,df];simp only[repl]at h;have h5:=h.take z.cells.length;have h6:=h.drop z.cells.length;rw[List.take_left]at h5;rw[List.drop_left]at h6;obtain⟨row',f1,f2,f3,f4⟩:=jM hrr h5;rw[e1]at f1;simp only[Dat.lst.injEq,List.cons.injEq,and_true]at f1;subst f1;have:=f3.append (ih _ h6);rwa[List.take_append_drop]at this
      have hb0:∃b,s'=.slice b 0 0:=by
       unfold yi at b4;split at b4;·cases hs;exact⟨none,rfl⟩
       ·cases hs with
        |slc ex o c he hd hh hl hc ho=>have:=(hc 0 rfl).1;subst this;exact⟨_,rfl⟩
       cases b4
      obtain⟨b,rfl⟩:=hb0;have hto:∀v ob,((⟨v,[],none,some ob⟩:OhR).to σ)=σ.mk' ob:=fun v ob=>rfl;rw[hto]at hf⊢;have hfree:∀v,φ σ.next v=none:=fun v=>hf _ (aE _) (by simp [St.mk']) v;have hy:(Sx.pr 29 (.pr 18 n rr) (.lit 0)).dat=.int (dW (decide (List.replicate m row≠[]))):=(by show Dat.int (dW (decide ((Sx.pr 18 n rr).dat.toL.length≠0)))=_;rw[hd];simp [Dat.toL]);have hbm:m*ti.bytes≤70368744177664:=(by have:m*ti.bytes≤1000000000*16384:=Nat.mul_le_mul (by omega) (by omega);omega);have hsrc:KX P φ w e ti u gid l (.pr 18 n rr) (.int k n.eval) (List.replicate m row):=
       ⟨hd,hro,_,hlit m _ harr,.inr ⟨ik,k,z',hu2,by rw[hm];simp,by simp;omega,by simpa using hbm,rz,by simp⟩⟩
      exact DI (P:=P) (ty:=ty) (u:=u) (b:=b) (cid:=gid) (x2:=.pr 18 n rr) hi hfree hu hti (by omega) rz (by omega) hsrc (by simp;omega) (by omega) hy
     cases h
    cases h
   cases h
  cases h
 cases h
def Hh(sh:TypeId→Option (List Sh)):List Field→Nat→Option (List Sh)
 |[],_=>some []
 |f::l,o=>match sh f.type with
  |some a=>bif Nat.beq f.offset o then(match Hh sh l (o+a.length)with
   |some r=>some (a++r)
   |none=>none)else none
  |none=>none
def shOf(P:Program):Nat→TypeId→Option (List Sh)
 |0,_=>none
 |n+1,t=>match P.underlying t with
  |some (.int k)=>some [.int k]
  |some .bool=>some [.bool]
  |some .string=>some [.str]
  |some (.slice e)=>match shOf P n e with
   |some l=>bif Nat.beq (P.cellsOf e) l.length&&Nat.blt 0 l.length then some [.slc l]else none
   |none=>none
  |some (.struct fs)=>match Hh (fun t=>match shOf P n t with
   |some l=>bif Nat.beq (P.cellsOf t) l.length then some l else none
   |none=>none) fs.toList 0 with
   |some l=>bif Nat.beq (P.cellsOf t) l.length then some l else none
   |none=>none
  |_=>none
def JL(P:Program)(dec:Bx→Option Bool)(ev:Operand→Option AV)(o:Oper)(σ:St):Option OhR:=match o.op with
 | .makeSlice t l c=>match ev l,ev c,P.underlying t with
  |some (.sym _ n),some (.sym _ n'),some (.slice e)=>match c7 P e,tW P e,zeroOf P e,shOf P 8 e with
   |some size,some bw,some z,some l=>match kg gid l z.cells with
    |some r=>bif Nat.beq z.cells.length size&&(Nat.beq l.length size&&(Nat.ble bw 16384&&(n.same n'&&(ml dec (.cmp .geq n (.lit 0))&&ml dec (.cmp .leq n (.lit 1000000000))))))then
     some ⟨.opq 2 σ.next 0 (.slc l) (.lit 0) (.lit 1),[],none,some (.opq 2 0 gid (.slc l) (.pr 18 n r) (.lit 1) [] e)⟩else none
    |none=>none
   |_,_,_,_=>none
  |_,_,_=>none
 |_=>none
theorem JK[Val]{P:Program}{R:Nat}{D:Nat→Prop}{φ:PM}{σ:St}{w:World}{dec:Bx→Option Bool}(hdec:∀b v,dec b=some v→b.eval=v)(hi:Inv0 R D φ σ w)
 {ev:Operand→Option AV}{a:Operand→Value}(hev:∀x v,ev x=some v→VR φ v (a x)){o:Oper}{r:OhR}(h:JL P dec ev o σ=some r)(hf:Free φ σ (r.to σ)):
 ∃φ' w' n v',(execOp a o).run P w=.ok n w'∧(n=.value v'∨(n=.skip∧v'=undef))∧VR φ' r.v v'∧Post R D φ σ w (r.to σ) φ' w':=by
 unfold JL at h;split at h
 ·rename_i t lo co ho;split at h
  ·rename_i k1 n k2 n' e hl hc hu;split at h
   ·rename_i size bw z l h1 h2 h3 h4;split at h
    ·rename_i rr hrr;simp only[ai,al]at h;split at h
     ·rename_i hb;obtain⟨b1,b2,b3,b4,b5,b6⟩:=hb;have hz:=ae b1;have hln:=ae b2;have hbw:=aB b3;have hnn:=Sx.same_eq b4;subst hnn;cases h;obtain⟨ti,z',hti,hsz,hbw',rz,vz,hzs⟩:=lW h1 h2 h3 hz;have g1:=hdec _ _ (cY b5);have g2:=hdec _ _ (cY b6);simp only[Bx.eval,cX,decide_eq_true_eq]at g1 g2;have g1:0≤n.eval:=g1;have g2:n.eval≤1000000000:=g2;obtain⟨m,hm⟩:∃m:Nat,n.eval=m:=⟨n.eval.toNat,by omega⟩;have hlv:a lo=.int k1 (m:Int):=by
       have:=hev _ _ hl;rw[←hm];generalize a lo=x at this;cases this;rfl
      have hcv:a co=.int k2 (m:Int):=(by have:=hev _ _ hc;rw[←hm];generalize a co=x at this;cases this;rfl);have hvz:=(vz φ).cells;obtain⟨row,e1,e2,e3,e4⟩:=jM hrr hvz;have hd:(Sx.pr 18 n rr).dat=.lst (List.replicate m row):=(by show Dat.lst (List.replicate n.dat.toI.toNat rr.dat.one)=_;have e5:n.dat.toI=(m:Int):=hm;rw[e5,Int.toNat_natCast,e1];rfl);have hro:dm l (List.replicate m row):=fun r hr=>(by have:=List.eq_of_mem_replicate hr;subst this;exact⟨e2,e4⟩);have hlit:∀(j:Nat) (vs:List Value),VRL φ (repl j z.cells) vs→VRL φ (ah gid l (List.replicate j row)) vs:=by
       intro j
       induction j with
       |zero=>intro vs h;cases h;exact .nil
       |succ j ih=>intro vs h;rw[List.replicate_succ,df];simp only[repl]at h;have h5:=h.take z.cells.length;have h6:=h.drop z.cells.length;rw[List.take_left]at h5;rw[List.drop_left]at h6;obtain⟨row',f1,f2,f3,f4⟩:=jM hrr h5;rw[e1]at f1;simp only[Dat.lst.injEq,List.cons.injEq,and_true]at f1;subst f1;have:=f3.append (ih _ h6);rwa[List.take_append_drop]at this
      have hto:∀v ob,((⟨v,[],none,some ob⟩:OhR).to σ)=σ.mk' ob:=fun v ob=>rfl;rw[hto]at hf⊢;have hfree:∀v,φ σ.next v=none:=fun v=>hf _ (aE _) (by simp [St.mk']) v;have hwm:IntKind.i64.wrap (m:Int)=(m:Int):=iq (by omega);have hmul:(ti.bytes:Int)*(m:Int)≤70368744177664:=(by have:ti.bytes*m≤16384*1000000000:=Nat.mul_le_mul (by omega) (by omega);have h8:((ti.bytes*m:Nat):Int)≤((70368744177664:Nat):Int):=Int.ofNat_le.2 (by omega);simpa using h8);have hnot:¬(((decide ((m:Int)<0)||decide ((ti.bytes:Int)*(m:Int)>2^48))||decide ((m:Int)<0)||decide ((m:Int)>(m:Int)))=true):=(by simp only[dH,decide_eq_true_eq,not_or];refine⟨⟨⟨by omega,?_⟩,by omega⟩,by omega⟩;have:(2:Int)^48=281474976710656:=(by decide);omega);have hll:=au gid l (List.replicate m row) (aH hro);rw[List.length_replicate]at hll;have key:∀cs:Array Value,VRL φ (repl m z.cells) cs.toList→(Instr.makeSlice t (a lo) (a co)).run P w=.ok (.slice (some ⟨w.heap.size,0,none⟩) m m) (w.alloc (.cells cs e))→
       ∃φ' w' nn v',(execOp a o).run P w=.ok nn w'∧(nn=.value v'∨(nn=.skip∧v'=undef))∧VR φ' (.opq 2 σ.next 0 (.slc l) (.lit 0) (.lit 1)) v'∧Post R D φ σ w (σ.mk' (.opq 2 0 gid (.slc l) (.pr 18 n rr) (.lit 1) [] e)) φ' w':=by
       intro cs hv hrun;have hv2:=hlit m _ hv;have hcs:cs.size=m*l.length:=(by have:=hv2.length;rw[hll]at this;simpa using this);let ex:Ext:=⟨w.heap.size,0,0,m*l.length,m*l.length,[]⟩;have hle:=φ.le_ins ex (hfree 0);refine⟨φ.ins σ.next 0 ex,_,_,_,by simp only[execOp,ho,aQ,hrun,aZ];rfl,.inl rfl,.opq _ (.inr ⟨rfl,l,ex,m,m,rfl,PM.ins_same _ _ _ _,rfl,rfl,aE _,by simp [ex],?_⟩),Post.new hi.inv hfree rfl (aE _) ?_⟩;{simp [ex]};refine⟨l,List.replicate m row,rfl,hd,hro,.inr ⟨rfl,⟨ex,PM.ins_same _ _ _ _,?_⟩,?_⟩⟩;{rw[List.append_nil,hll]};rw[List.append_nil];refine .single hi.low (PM.ins_same _ _ _ _) (fun v hv=>by rw[PM.ins_ver _ _ (by omega)];exact hfree v) (cf _ _) hcs (by rw[hll];exact aE _) (.inl rfl) fun x a _ x2 x3=> ?_;obtain⟨a',q1,q2⟩:=hv2.get x3;refine⟨a',?_,q2.mono hle⟩;show cs[x+0 - 0]? =some a';rw[Nat.add_zero,Nat.sub_zero];simpa using q1
      by_cases h0:m*ti.size=0;{refine key _ (cC vz hz φ #[] (fun h=>absurd (by rw[←hsz];exact h0) h)) ?_;simp only[Instr.makeSlice,hlv,hcv,aQ,af hu,aZ,asInt,asIntOf,Sem.run_pure,fK hti,hwm];rw[if_neg hnot];simp [aN h1,←hsz,h0,newRow]};refine key _ (cC vz hz φ z'.cells (fun _=>rfl)) ?_;simp only[Instr.makeSlice,hlv,hcv,aQ,af hu,aZ,asInt,asIntOf,Sem.run_pure,fK hti,hwm];rw[if_neg hnot];simp [aN h1,←hsz,h0,newRow,rz]
     cases h
    cases h
   cases h
  cases h
 cases h
def Of(P:Program)(dec:Bx→Option Bool)(ev:Operand→Option AV)(o:Oper)(σ:St):Option OhR:=match o.op with
 | .call c=>match c.callee,c.argTypes.toList,c.args.toList with
  | .builtin .len,t::_,[a]=>match ev a with
   |some v=>JT P σ t v
   |none=>none
  | .builtin .append,ts,[a,b]=>match ev a,ev b with
   |some s,some x=>match x with
    | .sym _ _=>match ts with
     |st::_=>match P.underlying st with
      |some (.slice e)=>match shOf P 8 e with
       |some l=>Cy P dec σ l ts s x
       |none=>none
      |_=>none
     |[]=>none
    |x=>match xL P dec σ ts [s,x]with
     |some r=>some r
     |none=>xK P dec σ ts s x
   |_,_=>none
  |_,_,_=>none
 | .indexAddr t a i=>match ev a,ev i with
  |some v,some n=>xP P dec σ t v n
  |_,_=>none
 | .fieldAddr t a f=>match ev a with
  |some v=>xN P t v f
  |none=>none
 | .load t a=>match ev a with
  |some v=>CD P σ t v
  |none=>none
 | .nilCheck a=>match ev a with
  |some v=>Og v
  |none=>none
 | .slice t a none (some h) none=>match ev a,ev h with
  |some v,some q=>xO P dec σ t v q
  |_,_=>none
 |_=>none
def Sg(P:Program)(dec:Bx→Option Bool)(ev:Operand→Option AV)(o:Oper)(σ:St):Option OhR:=match Sj P dec ev σ o with
 |some r=>some r
 |none=>match X5 P ev σ o with
  |some r=>some r
  |none=>match U3 P ev σ o with
   |some r=>some r
   |none=>match Sk P dec ev σ o with
    |some r=>some r
    |none=>Of P dec ev o σ
theorem Nd[Val]{P:Program}{R:Nat}{D:Nat→Prop}{φ:PM}{σ:St}{w:World}{dec:Bx→Option Bool}(hdec:∀b v,dec b=some v→b.eval=v)(hi:Inv0 R D φ σ w)
 {ev:Operand→Option AV}{a:Operand→Value}(hev:∀x v,ev x=some v→VR φ v (a x)){o:Oper}{r:OhR}(h:Sj P dec ev σ o=some r)(hk:Known D σ (r.to σ))(hf:Free φ σ (r.to σ)):
 ∃φ' w' n v',(execOp a o).run P w=.ok n w'∧(n=.value v'∨(n=.skip∧v'=undef))∧VR φ' r.v v'∧Post R D φ σ w (r.to σ) φ' w':=by
 unfold Sj at h;split at h;{rename_i c ho;split at h;{rename_i t ts x hc hts hargs;split at h;{rename_i v hv;have ht0:c.argTypes[0]? =some t:=(by rw[←Array.getElem?_toList,hts];rfl);obtain⟨v',h1,h2,h3⟩:=JM (P:=P) (ty:=o.type) (ts:=c.argTypes) hi hdec h (hev _ _ hv) ht0;refine⟨φ,w,.value v',v',?_,.inl rfl,h2,h3⟩;have ha:Array.map a c.args= #[a x]:=(by apply Array.ext';simp [hargs]);simp [execOp,ho,resolve,hc,invoke,ha,builtin,h1]};cases h};{rename_i x y hc hargs;split at h;{rename_i s xx hs hxx;obtain⟨φ',w',v',h1,h2,h3⟩:=Nc (P:=P) (ty:=o.type) (ts':=c.argTypes) (args':= #[a x,a y]) hi hdec h rfl (.cons (hev _ _ hs) (.cons (hev _ _ hxx) .nil)) hk hf;refine⟨φ',w',.value v',v',?_,.inl rfl,h2,h3⟩;have ha:Array.map a c.args= #[a x,a y]:=(by apply Array.ext';simp [hargs]);simp [execOp,ho,resolve,hc,invoke,ha,builtin,h1]};cases h};cases h};cases h
theorem Nb[Val]:OhOk Sg:=by
 intro P dec hdec R D φ σ w hi ev a hev o r h hnd hk hf;unfold Sg at h;split at h;{rename_i r' hr;cases h;exact Nd hdec hi hev hr hk hf};split at h;{rename_i r' hr;cases h;unfold X5 at hr;split at hr;{rename_i t x y ho;split at hr;{rename_i av vv hav hvv;obtain⟨hrv,w',h1,h2⟩:=CC (P:=P) hi hr (hev _ _ hav) (hev _ _ hvv) hk;refine⟨φ,w',.skip,undef,?_,.inr ⟨rfl,rfl⟩,?_,h2⟩;{simp [execOp,ho,h1]};rw[hrv];exact .tup _ .nil};cases hr};cases hr};split at h;{rename_i r' hr;cases h;unfold U3 at hr;split at hr;{rename_i t x y ok ho;split at hr;{rename_i av kv hav hkv;obtain⟨v',h1,h2,h3⟩:=JQ (P:=P) hi hr (hev _ _ hav) (hev _ _ hkv) hk;exact⟨φ,w,.value v',v',by simp [execOp,ho,h1],.inl rfl,h2,h3⟩};cases hr};{rename_i t x y z ho;split at hr;{rename_i av kv vv hav hkv hvv;obtain⟨hrv,w',h1,h2⟩:=JO (P:=P) hi hr (hev _ _ hav) (hev _ _ hkv) (hev _ _ hvv) hk;refine⟨φ,w',.skip,undef,by simp [execOp,ho,h1],.inr ⟨rfl,rfl⟩,?_,h2⟩;rw[hrv];exact .tup _ .nil};cases hr};cases hr};split at h;{rename_i r' hr;cases h;exact Nf hdec hi hev hr hk};unfold Of at h;split at h
 ·rename_i c ho;split at h;·rename_i t ts x hc hts hargs;split at h;{rename_i v hv;have ht0:c.argTypes[0]? =some t:=(by rw[←Array.getElem?_toList,hts];rfl);obtain⟨v',h1,h2,h3⟩:=JS (P:=P) (ty:=o.type) (ts:=c.argTypes) hi h (hev _ _ hv) hk ht0;refine⟨φ,w,.value v',v',?_,.inl rfl,h2,h3⟩;have ha:Array.map a c.args= #[a x]:=(by apply Array.ext';simp [hargs]);simp [execOp,ho,resolve,hc,invoke,ha,builtin,h1]};cases h
  ·rename_i x y hc hargs;split at h
   ·rename_i s xx hs hxx;have hall:∃φ' w' v',(Builtin.append_ c.argTypes o.type #[a x,a y]).run P w=.ok v' w'∧VR φ' r.v v'∧Post R D φ σ w (r.to σ) φ' w':=by
     split at h;{split at h;{split at h;{split at h;{exact FU (P:=P) (ty:=o.type) (ts':=c.argTypes) hi hdec h (by first|rfl|assumption) (hev _ _ hs) (hev _ _ hxx) hf};cases h};cases h};cases h};split at h;{rename_i r2 hr2;cases h;exact CA (P:=P) (ty:=o.type) (ts':=c.argTypes) (args':= #[a x,a y]) hi hdec hr2 rfl (.cons (hev _ _ hs) (.cons (hev _ _ hxx) .nil)) hk hf};exact Cz (P:=P) (ty:=o.type) (ts':=c.argTypes) (args':= #[a x,a y]) hi hdec h rfl (.cons (hev _ _ hs) (.cons (hev _ _ hxx) .nil)) hk
    obtain⟨φ',w',v',h1,h2,h3⟩:=hall;refine⟨φ',w',.value v',v',?_,.inl rfl,h2,h3⟩;have ha:Array.map a c.args= #[a x,a y]:=(by apply Array.ext';simp [hargs]);simp [execOp,ho,resolve,hc,invoke,ha,builtin,h1]
   cases h
  cases h
 {rename_i t x i ho;split at h;{rename_i v n hv hn;obtain⟨v',h1,h2,h3⟩:=CG (P:=P) hi hdec h (hev _ _ hv) (hev _ _ hn) hk;exact⟨φ,w,.value v',v',by simp [execOp,ho,h1],.inl rfl,h2,h3⟩};cases h};{rename_i t x f ho;split at h;{rename_i v hv;obtain⟨v',h1,h2,h3⟩:=CE (P:=P) hi h (hev _ _ hv);exact⟨φ,w,.value v',v',by simp [execOp,ho,h1],.inl rfl,h2,h3⟩};cases h};·rename_i t x ho;split at h;{rename_i v hv;obtain⟨v',h1,h2,h3⟩:=FV (P:=P) hi h (hev _ _ hv) hk;exact⟨φ,w,.value v',v',by simp [execOp,ho,h1],.inl rfl,h2,h3⟩};cases h
 ·rename_i x ho;split at h
  ·rename_i v hv;unfold Og at h;split at h
   ·rename_i k id off sh y n;rw[ai]at h;split at h
    ·rename_i hb;have:=ae hb;subst this;simp only[OhR.one,aw]at h;subst h;have hvr:=hev _ _ hv;have hvr':=hvr;cases hvr' with
     |opq v' hkv=>obtain⟨l',e,hl',he,h1,h3,h4,h5,h6,h8⟩:=hkv;refine⟨φ,w,.value (a x),a x,?_,.inl rfl,hvr,.same0 hi rfl rfl rfl⟩;simp [execOp,ho,h8]
    cases h
   cases h
  cases h
 {rename_i t x hx ho;split at h;{rename_i v q hv hq;obtain⟨φ',w',v',h1,h2,h3⟩:=CF (P:=P) hi hdec h (hev _ _ hv) (hev _ _ hq) hk;exact⟨φ',w',.value v',v',by simp [execOp,ho,h1],.inl rfl,h2,h3⟩};cases h};cases h
def VQ(P:Program)(dec:Bx→Option Bool)(ev:Operand→Option AV)(o:Oper)(σ:St):Option OhR:=match JL P dec ev o σ with
 |some r=>some r
 |none=>match Wz P dec ev o σ with
  |some r=>some r
  |none=>Sg P dec ev o σ
theorem jr[Val]:OhOk VQ:=by intro P dec hdec R D φ σ w hi ev a hev o r h hnd hk hf;unfold VQ at h;split at h;{rename_i r' hr;cases h;exact JK hdec hi hev hr hf};split at h;{rename_i r' hr;cases h;exact Qu hdec hi hev hr hk hf};exact Nb P dec hdec R D φ σ w hi ev a hev o r h hnd hk hf
end
end Go.Tw
