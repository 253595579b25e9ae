/-
  The statement LexBlanks holds (its tied card), for any text and any numbers. Condition: the row's tables read as listed, which the given tie pays.
-/
import Derived.Test.YtbfonficacphkaaGreatDoorS5
import Derived.Test.YtbfonficacphkaaGreatDoorM1
import Derived.Test.YtbfonficacphkaaGreatDoorTie
import Derived.Lay
import Derived.SevenTiedAt
import Derived.ChangeMaps5
import Derived.ChangeSlices
set_option linter.all false
namespace Go.Proofs.YtbfonficacphkaaGreatDoor
open Go.ChangeShapes Go.WideShapes Go.ChangeAt Go.RowKit Go.ChangeMaps
theorem Tryz.laidOut:laidOutB Tryz.prog=true:=by kernel_rfl
theorem uL:Tryz.prog.underlying 22=some (.slice 3):=by kernel_rfl
theorem YC:Go.Tw.shOf Tryz.prog 8 22=some [wN]:=by kernel_rfl
theorem Tryz.own:ownKnob Tryz.prog.godebug=none:=by kernel_rfl
theorem Ag{H:Type}{enc:TypeId×Value→H}{a:Assume}{C:Checked}{os:Os}{f:FuncId}{fn:Func}{s:ChangeSpec}{conds:List PathCond}{apart fresh handsOn again:Bool}{X:World→Array Value→Prop}
 (hX:∀(w w':World) (args:Array Value),w.heap=w'.heap→X w args→X w' args)
 (own:ownKnob C.prog.godebug=none)(started:os.Started)(noInit:C.prog.inits.idxOf? f=none)(hfn:C.prog.funcs[f]? =some fn)
 (witness:∃(w:World) (tape:Tape) (i:Input),w.os=os∧(w.forCall tape i).Shaped C.prog∧i.vars=[]∧Input.okWide C.prog (w.forCall tape i) .any w.heap.size f i∧
   ((s.pre enc C.prog fn conds apart (w.forCall tape i).memory i.args∧X (w.forCall tape i).memory i.args)∧sizedMet enc C.prog fn (OpenSpec.ofChange s) apart (w.forCall tape i).memory i.args)∧a.holds C.prog (lone (Frame.enter C.prog f i.args .normal) [] (w.forCall tape i)))
 (contract:∀(W:World) (base:Nat) (args:Array Value) (ds gs:List (DataW H)) (before:List MemPlace),
   (∀(j:Nat) t v,fn.params[j]? =some t→args[j]? =some v→Value.okWide C.prog W .any base t v)→
   DataW.Whole enc C.prog fn.params.toList s.vars apart W args.toList ds gs before→X W args→W.ShapedOpen C.prog→
   Calls C.prog f args W fun e W'=>∃v,e=.returned v∧s.post enc C.prog fn apart fresh handsOn again W args v W'):
 ReturnsInHanded a C os f .any (fun w args=>(s.pre enc C.prog fn conds apart w args∧X w args)∧sizedMet enc C.prog fn (OpenSpec.ofChange s) apart w args) (s.post enc C.prog fn apart fresh handsOn again):=by
 refine returnsInHanded_of_calls own started noInit witness ?_;intro w tape i _ hsh _ hok hpre _;obtain⟨_,_,_,fn',hfn',_,_,_,_,hval⟩:=hok;obtain rfl:fn'=fn:=Option.some.inj (hfn'.symm.trans hfn);obtain⟨⟨⟨ds,gs,before,hw,_⟩,hx⟩,_⟩:=hpre;exact(contract (w.forCall tape i) w.heap.size i.args ds gs before hval (DataW.Whole.of_heap (w':=w.forCall tape i) (by rfl) hw) (hX _ _ _ (by rfl) hx) hsh).mono fun e W' ⟨v,he,hp⟩=>by subst he;exact ChangeSpec.post_blind hp
set_option maxRecDepth 100000 in
theorem pe(os:Os)(started:os.Started)(H:Type)(enc:TypeId×Value→H):
 ReturnsInHanded {} Tryz.checked os 3 .any (fun w args=>(Rows.lexBlanksSpec.pre enc Tryz.prog Tryz.f3 [] false w args∧laidMetH Tryz.prog Rows.lexBlanksRow.laid w)∧sizedMet enc Tryz.prog Tryz.f3 (OpenSpec.ofChange Rows.lexBlanksSpec) false w args)
  (Rows.lexBlanksSpec.post enc Tryz.prog Tryz.f3 false true false false):=by
 refine Ag (C:=Tryz.checked) (X:=fun w _=>laidMetH Tryz.prog Rows.lexBlanksRow.laid w) (fun _ _ _ hh h=>by
  unfold laidMetH at h⊢;rw[mM]at h⊢;exact laidMet.of_heap hh h) Tryz.own started (by kernel_rfl) Tryz.func3
  (ChangeSpec.witness_shaped (enc:=enc) (C:=Tryz.checked) (os:=os) (X:=fun w _=>laidMetH Tryz.prog Rows.lexBlanksRow.laid w) false (World.laidAll Tryz.prog os Rows.lexBlanksRow.laid) #[.string ⟨⟨[]⟩⟩,.slice none 0 0] 8 (World.laidAll_os _ _ _)
    (World.shaped_of_ZipB (by kernel_rfl) (by kernel_rfl)) (by kernel_rfl) (by kernel_rfl) (by kernel_rfl) (by unfold laidMetH;rw[mM];exact laidMet_laidAll _ (by kernel_rfl) (by kernel_rfl))) ?_
 intro W base args ds gs before hval0 hW hL hS;have hval:∀(j:Nat) t v,Tryz.f3.params[j]? =some t→args[j]? =some v→Value.okWide Tryz.prog W .any base t v:=hval0;have hW':=hW;obtain⟨p,q,hA0,hV,rfl,hfz,hnd⟩:=hW;have hA:DataW.TrodAll enc Tryz.prog W 0 (fun _=>true) true Tryz.f3.params.toList args.toList ds p:=hA0;rw[Tryz.params3]at hA hval;obtain⟨v0,v1,d0,d1,p0,p1,rfl,rfl,rfl,h0,h1⟩:=trodAll_two hA;obtain⟨rfl,rfl⟩:=trodVars_none hV;obtain⟨s0,rfl,rfl,rfl,w0⟩:=open_string Tryz.underlying9 (hval 0 9 v0 rfl rfl) h0;obtain⟨a,len,cap,rfl⟩:=okWide_slice uL (hval 1 22 v1 rfl rfl);clear hA0 hval0;simp only[List.append_nil,List.nil_append]at hW';obtain⟨⟨s0⟩⟩:=s0;have h1k:=h1;obtain⟨fuel,h1⟩:=h1;obtain⟨row,hrow⟩:=Go.Tw.trod_row 8 fuel 22 [.slc [.int .i64]] _ _ _ YC h1;obtain⟨r1,r2,r3⟩:=hrow;obtain⟨dd,rfl⟩:∃dd,row=[dd]:=by
  match row,r1 with
  |[dd],_=>exact⟨dd,rfl⟩
 have hg:=r3 0 _ dd (.slice a len cap) rfl rfl rfl;have hlt:∀x∈p1,x.block<W.heap.size:=fun x hx=>by simpa using hW'.lt x (by simpa using hx)
 refine(vE (s:=s0) hg (Ls hL hS)).mono fun e W' ⟨he,hw⟩=> ?_;subst he;refine⟨_,rfl,_,_,_,[],p1,[],hW',?_,?_,?_,hw.frame _,fun h=>by cases h⟩;{exact trodAll_mk1 (shut_bool Tryz.underlying4 true)};{have hm:=trodAll_mk2 (shut_string Tryz.underlying9 w0) (Below.trod Tryz.laidOut (by kernel_rfl) (of_decide_eq_true (by kernel_rfl)) h1k hw hlt);simp only[List.nil_append]at hm;exact hm};rfl
theorem uv:Rows.LexBlanksSaid:=
 OpenClaim.holds_of_wide 3 Tryz.f3 rfl rfl rfl rfl rfl rfl rfl ⟨rfl,rfl,rfl,rfl,rfl⟩ rfl rfl rfl rfl rfl (by kernel_rfl) Tryz.func3 pJ
  (of_decide_eq_true (by kernel_rfl)) (by unfold Func.isWrapper;first|(rw[if_pos (by decide+kernel)];kernel_rfl)|(rw[if_neg (by decide+kernel)];exact⟨rfl,rfl⟩))
  (fun os started H enc _=>pe os started H enc)
theorem lexBlanks_holds:Rows.LexBlanksCardSaid:=
 Claim7.holds_tied_plain_at .later [] [.data,.data,.data,.data,.sentinel,.sentinel,.listed,.data,.pinned,.pinned] true (true,"4a6d3faa76a40b23bc707f7b8ca008879e752da20ebe3fc3f90c11708e6d1f1a") true
  uv (fun _ h=>by cases h) (by kernel_rfl) (fun _ h=>by cases h) lexBlanks_row_tie rfl ⟨rfl,rfl⟩ (by kernel_rfl) rfl
  (fun f fn hf hfn=>by obtain rfl:f=3:=Option.some.inj (lexBlanks_card3.symm.trans hf) |>.symm;obtain rfl:fn=Tryz.f3:=(Option.some.inj (Tryz.func3.symm.trans hfn)).symm;exact⟨qW,fun j t ht=>by have h9:Tryz.prog.wantsStandIn 9=false:=(by kernel_rfl);rw[Tryz.params3]at ht;have hl:Tryz.prog.wantsStandIn 22=false:=(by kernel_rfl);rcases j with _|_|j;{simp at ht;subst ht;exact h9};{simp at ht;subst ht;exact hl};simp at ht⟩)
  qV
end Go.Proofs.YtbfonficacphkaaGreatDoor
#print axioms Go.Proofs.YtbfonficacphkaaGreatDoor.lexBlanks_holds
