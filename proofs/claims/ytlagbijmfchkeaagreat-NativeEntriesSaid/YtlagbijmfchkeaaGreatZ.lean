/-
  The statement NativeEntries holds: native code's entries rise from the first word on, for any function of at most 200 instructions of at most 20 arguments, and any place. No condition.
-/
import Derived.Test.YtlagbijmfchkeaaGreatC6
import Derived.Test.YtlagbijmfchkeaaGreatM2
import Derived.Test.YtlagbijmfchkeaaGreatA6
import Derived.ChangeSlices
set_option linter.all false
namespace Go.Proofs.YtlagbijmfchkeaaGreat
open Go.ChangeShapes Go.WideShapes Go.ChangeAt Go.RowKit
theorem Tryz.own:ownKnob Tryz.prog.godebug=none:=by kernel_rfl
theorem Tryz.laidOut:laidOutB Tryz.prog=true:=by kernel_rfl
theorem uI:P.underlying 3=some (.int .i64):=by kernel_rfl
theorem uB:P.underlying 4=some .bool:=by kernel_rfl
theorem ac4:Tryz.f3.params= #[24,3]:=by kernel_rfl
theorem shF:Go.Tw.shOf P 8 24=some Lv:=by kernel_rfl
noncomputable def fsF:Array Field:=match P.underlying 24 with
 |some (.struct fs)=>fs
 |_=> #[]
theorem uF:P.underlying 24=some (.struct fsF):=by kernel_rfl
theorem KA:fsF.size=4:=by kernel_rfl
theorem Z3:fsF[3]?.map (fun f=>(f.type,f.offset))=some (22,3):=by kernel_rfl
theorem uS:P.underlying 22=some (.slice 43):=by kernel_rfl
theorem cS:P.cellsOf 22=1:=by kernel_rfl
theorem TF{H:Type}{enc:TypeId×Value→H}{W:World}{held:Bool}{fuel:Nat}{cs:List Value}{x:DataW H×List MemPlace}{row:List Go.Tw.Dat}(h:DataW.trod enc P W 0 (fun _=>true) held fuel 24 cs=some x)(hr:Go.Tw.RowR (Go.Tw.pcW W) Lv row cs):
 ∀d,row[3]? =some d→d.toL.length≤mE:=by
 intro d hd;obtain⟨xs,m,_,_,_,hxl,hxs⟩:=DataW.trod_struct uF h;obtain⟨fl,hfl,hft⟩:∃fl,fsF[3]? =some fl∧(fl.type,fl.offset)=(22,3):=by
  have:=Z3;cases hq:fsF[3]? with
  |none=>rw[hq]at this;cases this
  |some fl=>rw[hq]at this;exact⟨fl,rfl,by simpa using this⟩
 simp only[Prod.mk.injEq]at hft;have h3:=hxs 3 fl hfl;rw[hft.1,hft.2,cS,List.getElem?_eq_getElem (by rw[hxl,KA];omega)]at h3;obtain⟨hr1,hr2,hr3⟩:=hr;obtain⟨x3,hx3⟩:∃x3,cs[3]? =some x3:=⟨_,List.getElem?_eq_getElem (by rw[hr2];decide)⟩;have hl:3<cs.length:=by rw[hr2];decide
 have hl4:cs.length=4:=hr2;have hx:cs[3]=x3:=by rw[List.getElem?_eq_getElem hl]at hx3;exact Option.some.inj hx3
 have htk:(cs.drop 3).take 1=[x3]:=by rw[List.drop_eq_getElem_cons hl,hx];rfl
 rw[htk]at h3;have hg:=hr3 3 _ d x3 rfl hd hx3;rcases DataW.trod_slice uS h3 with⟨he,_⟩|⟨a,len,cap,elems,rest,n,_,he,_,_,hlc,hcm,_⟩
 ·simp only[List.cons.injEq,and_true]at he;subst he;cases hg with
  |none=>exact Nat.zero_le _
 simp only[List.cons.injEq,and_true]at he;subst he;have hm:maxLen=mE:=by decide
 cases hg with
 |none=>exact Nat.zero_le _
 |slc=>rw[hm]at hcm;exact Nat.le_trans hlc hcm
set_option maxRecDepth 100000 in
theorem lF(os:Os)(started:os.Started)(H:Type)(enc:TypeId×Value→H):
 ReturnsInHanded {} Tryz.checked os 3 .any (Rows.nativeEntriesSpec.pre6 enc Tryz.prog Tryz.f3 Rows.nativeEntriesRow.domain false) (Rows.nativeEntriesSpec.post enc Tryz.prog Tryz.f3 false true false false):=by
 refine returnsInHanded_of_change (C:=Tryz.checked) Tryz.own started (by kernel_rfl) Tryz.func3
  (ChangeSpec.witness6 (enc:=enc) (C:=Tryz.checked) false ⟨#[],#[.agg #[.int .i64 0,.int .i64 0,.int .i64 0,.slice none 0 0],.int .i64 0],[]⟩ 8 (by kernel_rfl) (by kernel_rfl) (by kernel_rfl) (by kernel_rfl)) ?_
 intro W base args ds gs before hval0 hW _ _;have hval:∀(j:Nat) t v,Tryz.f3.params[j]? =some t→args[j]? =some v→Value.okWide Tryz.prog W .any base t v:=hval0;have hW':=hW;obtain⟨p,q,hA0,hV,rfl,hfz,hnd⟩:=hW;have hA:DataW.TrodAll enc Tryz.prog W 0 (fun _=>true) true Tryz.f3.params.toList args.toList ds p:=hA0;rw[ac4]at hA hval;obtain⟨v0,v1,d0,d1,p0,p1,rfl,rfl,rfl,h0,h1⟩:=trodAll_two hA;obtain⟨rfl,rfl⟩:=trodVars_none hV;obtain⟨z1,rfl,rfl,rfl,w1⟩:=open_int uI (hval 1 3 v1 rfl rfl) h1;clear hA0 hval0;simp only[List.append_nil]at hW';have h0k:=h0;obtain⟨fuel,h0⟩:=h0;obtain⟨row,hrow⟩:=Go.Tw.trod_row 8 fuel 24 Lv _ _ _ shF h0;have hsz:=TF h0 hrow;obtain⟨cs,rfl⟩:∃cs,v0=.agg cs:=by
  have hl:v0.cells.toList.length=4:=hrow.2.1;cases v0 with
  |agg cs=>exact⟨cs,rfl⟩
  |_=>simp [Value.cells]at hl
 have hlt:∀x∈p0,x.block<W.heap.size:=fun x hx=>by simpa using hW'.lt x (by simpa using hx)
 refine(vQ (z1:=z1) hrow hsz).mono fun e W' ⟨he,hw⟩=> ?_;subst he;refine⟨_,rfl,_,_,_,[],p0,[],hW',?_,?_,?_,hw.frame _,fun h=>by cases h⟩;{exact trodAll_mk1 (shut_bool uB true)};{have hm:=trodAll_mk2 (Below.trod Tryz.laidOut (by kernel_rfl) (of_decide_eq_true (by kernel_rfl)) h0k hw hlt) (shut_int uI w1);simp only[List.append_nil]at hm;exact hm};rfl
theorem nativeEntries_holds:Rows.NativeEntriesSaid:=
 OpenClaim.holds_of_wide 3 Tryz.f3 rfl rfl rfl rfl rfl rfl rfl ⟨rfl,rfl,rfl,rfl,rfl⟩ rfl rfl rfl rfl rfl (by kernel_rfl) Tryz.func3 l6
  (of_decide_eq_true (by kernel_rfl)) (by unfold Func.isWrapper;first|(rw[if_pos (by decide+kernel)];kernel_rfl)|(rw[if_neg (by decide+kernel)];exact⟨rfl,rfl⟩))
  (fun os started H enc _=>lF os started H enc)
end Go.Proofs.YtlagbijmfchkeaaGreat
#print axioms Go.Proofs.YtlagbijmfchkeaaGreat.nativeEntries_holds
