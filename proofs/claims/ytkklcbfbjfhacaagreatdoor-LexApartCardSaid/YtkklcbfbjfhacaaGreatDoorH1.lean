/-
  A part of the law's proof over the abstract evaluator. Conditions: those of each theorem, as it states them.
-/
import Derived.Shelf.Strings.OnBuilder
import Derived.Shelf.Strings.SlTrimAscii
import Derived.Shelf.Strconv.Clone
import Derived.Shelf.Strings.Search3
import Derived.Test.YtkklcbfbjfhacaaGreatDoorProg
import Derived.Test.YtkklcbfbjfhacaaGreatDoorS1
set_option linter.all false
set_option linter.all false
namespace Go.Proofs.YtkklcbfbjfhacaaGreatDoor
open Go.Shelf
def sh159_ren:Go.Shelf.Ren:=⟨fun|159=>56|165=>66|166=>67|167=>68|169=>69|230=>70|204=>71|240=>83|241=>84|197=>81|118=>85|168=>86|270=>87|262=>88|276=>94|277=>95|260=>92|242=>96|313=>97|278=>100|274=>101|275=>102|n=>n,fun|9=>9|4=>4|3=>3|5=>5|72=>99|0=>0|76=>101|75=>66|107=>106|70=>97|20=>20|37=>29|127=>126|21=>21|105=>123|164=>137|162=>143|203=>141|119=>72|46=>75|139=>149|138=>148|51=>85|160=>150|208=>157|206=>155|80=>104|n=>n,fun|13=>5|3=>6|4=>7|n=>n⟩
theorem sh159:Go.Proofs.Lays.n159 Tryz.prog sh159_ren:={
 mixed:=by kernel_rfl
 f118:=Tryz.func85.trans (congrArg some (by kernel_rfl))
 f159:=Tryz.func56.trans (congrArg some (by kernel_rfl))
 f165:=Tryz.func66.trans (congrArg some (by kernel_rfl))
 f166:=Tryz.func67.trans (congrArg some (by kernel_rfl))
 f167:=Tryz.func68.trans (congrArg some (by kernel_rfl))
 f168:=Tryz.func86.trans (congrArg some (by kernel_rfl))
 f169:=Tryz.func69.trans (congrArg some (by kernel_rfl))
 f197:=Tryz.func81.trans (congrArg some (by kernel_rfl))
 f204:=Tryz.func71.trans (congrArg some (by kernel_rfl))
 f230:=Tryz.func70.trans (congrArg some (by kernel_rfl))
 f240:=Tryz.func83.trans (congrArg some (by kernel_rfl))
 f241:=Tryz.func84.trans (congrArg some (by kernel_rfl))
 f242:=Tryz.func96.trans (congrArg some (by kernel_rfl))
 f260:=Tryz.func92.trans (congrArg some (by kernel_rfl))
 f262:=Tryz.func88.trans (congrArg some (by kernel_rfl))
 f270:=Tryz.func87.trans (congrArg some (by kernel_rfl))
 f274:=Tryz.func101.trans (congrArg some (by kernel_rfl))
 f275:=Tryz.func102.trans (congrArg some (by kernel_rfl))
 f276:=Tryz.func94.trans (congrArg some (by kernel_rfl))
 f277:=Tryz.func95.trans (congrArg some (by kernel_rfl))
 f278:=Tryz.func100.trans (congrArg some (by kernel_rfl))
 f313:=Tryz.func97.trans (congrArg some (by kernel_rfl))
 t0:=Tryz.underlying0
 a0:=Tryz.isAgg0
 z0:=Tryz.sizeOf0
 v0:=Tryz.zeroValue0
 t3:=Tryz.underlying3
 a3:=Tryz.isAgg3
 z3:=Tryz.sizeOf3
 v3:=Tryz.zeroValue3
 t4:=Tryz.underlying4
 a4:=Tryz.isAgg4
 z4:=Tryz.sizeOf4
 v4:=Tryz.zeroValue4
 t5:=Tryz.underlying5
 a5:=Tryz.isAgg5
 z5:=Tryz.sizeOf5
 v5:=Tryz.zeroValue5
 t9:=Tryz.underlying9
 a9:=Tryz.isAgg9
 z9:=Tryz.sizeOf9
 v9:=Tryz.zeroValue9
 t20:=Tryz.underlying20
 a20:=Tryz.isAgg20
 z20:=Tryz.sizeOf20
 v20:=Tryz.zeroValue20
 t21:=Tryz.underlying21
 a21:=Tryz.isAgg21
 z21:=Tryz.sizeOf21
 v21:=Tryz.zeroValue21
 t37:=Tryz.underlying29
 a37:=Tryz.isAgg29
 z37:=Tryz.sizeOf29
 v37:=Tryz.zeroValue29
 t46:=Tryz.underlying75
 a46:=Tryz.isAgg75
 z46:=Tryz.sizeOf75
 v46:=Tryz.zeroValue75
 t51:=Tryz.underlying85
 a51:=Tryz.isAgg85
 z51:=Tryz.sizeOf85
 v51:=Tryz.zeroValue85
 t70:=Tryz.underlying97
 a70:=Tryz.isAgg97
 z70:=Tryz.sizeOf97
 v70:=Tryz.zeroValue97
 t72:=Tryz.underlying99
 a72:=Tryz.isAgg99
 z72:=Tryz.sizeOf99
 v72:=Tryz.zeroValue99
 t75:=Tryz.underlying66
 a75:=Tryz.isAgg66
 z75:=Tryz.sizeOf66
 v75:=Tryz.zeroValue66
 t76:=Tryz.underlying101
 a76:=Tryz.isAgg101
 z76:=Tryz.sizeOf101
 v76:=Tryz.zeroValue101
 t105:=Tryz.underlying123
 a105:=Tryz.isAgg123
 z105:=Tryz.sizeOf123
 v105:=Tryz.zeroValue123
 t107:=Tryz.underlying106
 a107:=Tryz.isAgg106
 z107:=Tryz.sizeOf106
 v107:=Tryz.zeroValue106
 t119:=Tryz.underlying72
 a119:=Tryz.isAgg72
 z119:=Tryz.sizeOf72
 t127:=Tryz.underlying126
 a127:=Tryz.isAgg126
 z127:=Tryz.sizeOf126
 v127:=Tryz.zeroValue126
 t138:=Tryz.underlying148
 a138:=Tryz.isAgg148
 z138:=Tryz.sizeOf148
 v138:=Tryz.zeroValue148
 t139:=Tryz.underlying149
 a139:=Tryz.isAgg149
 z139:=Tryz.sizeOf149
 v139:=Tryz.zeroValue149
 t160:=Tryz.underlying150
 a160:=Tryz.isAgg150
 z160:=Tryz.sizeOf150
 v160:=Tryz.zeroValue150
 t162:=Tryz.underlying143
 a162:=Tryz.isAgg143
 z162:=Tryz.sizeOf143
 v162:=Tryz.zeroValue143
 t164:=Tryz.underlying137
 a164:=Tryz.isAgg137
 z164:=Tryz.sizeOf137
 v164:=Tryz.zeroValue137
 t203:=Tryz.underlying141
 a203:=Tryz.isAgg141
 z203:=Tryz.sizeOf141
 v203:=Tryz.zeroValue141
 t206:=Tryz.underlying155
 a206:=Tryz.isAgg155
 z206:=Tryz.sizeOf155
 v206:=Tryz.zeroValue155
 t208:=Tryz.underlying157
 a208:=Tryz.isAgg157
 z208:=Tryz.sizeOf157
 v208:=Tryz.zeroValue157
 g3:=by kernel_rfl
 g4:=by kernel_rfl
 g13:=by kernel_rfl}
theorem shB159:Builder.Extra Tryz.prog sh159_ren:={
 sizeBuilder:=by kernel_rfl
 liesBuilder:=by kernel_rfl
 t5:=Tryz.underlying5
 a5:=Tryz.isAgg5
 z5:=Tryz.sizeOf5
 v5:=Tryz.zeroValue5
 infoByte:=by kernel_rfl
 cellsByte:=by kernel_rfl
 sizeByte:=by kernel_rfl
 neB5:=by decide}
def sh161_ren:Go.Shelf.Ren:=⟨fun|161=>55|231=>62|227=>63|233=>64|235=>65|228=>80|197=>81|151=>82|260=>92|152=>93|137=>24|119=>99|224=>52|225=>51|217=>40|266=>50|n=>n,fun|9=>9|4=>4|3=>3|5=>5|117=>93|116=>92|0=>0|124=>96|105=>123|21=>21|119=>72|46=>75|139=>149|138=>148|n=>n,fun|3=>6|4=>7|n=>n⟩
theorem sh161:Go.Proofs.Lays.n161 Tryz.prog sh161_ren:={
 mixed:=by kernel_rfl
 f119:=Tryz.func99.trans (congrArg some (by kernel_rfl))
 f137:=Tryz.func24.trans (congrArg some (by kernel_rfl))
 f151:=Tryz.func82.trans (congrArg some (by kernel_rfl))
 f152:=Tryz.func93.trans (congrArg some (by kernel_rfl))
 f161:=Tryz.func55.trans (congrArg some (by kernel_rfl))
 f197:=Tryz.func81.trans (congrArg some (by kernel_rfl))
 f217:=Tryz.func40.trans (congrArg some (by kernel_rfl))
 f224:=Tryz.func52.trans (congrArg some (by kernel_rfl))
 f225:=Tryz.func51.trans (congrArg some (by kernel_rfl))
 f227:=Tryz.func63.trans (congrArg some (by kernel_rfl))
 f228:=Tryz.func80.trans (congrArg some (by kernel_rfl))
 f231:=Tryz.func62.trans (congrArg some (by kernel_rfl))
 f233:=Tryz.func64.trans (congrArg some (by kernel_rfl))
 f235:=Tryz.func65.trans (congrArg some (by kernel_rfl))
 f260:=Tryz.func92.trans (congrArg some (by kernel_rfl))
 f266:=Tryz.func50.trans (congrArg some (by kernel_rfl))
 t0:=Tryz.underlying0
 a0:=Tryz.isAgg0
 z0:=Tryz.sizeOf0
 v0:=Tryz.zeroValue0
 t3:=Tryz.underlying3
 a3:=Tryz.isAgg3
 z3:=Tryz.sizeOf3
 v3:=Tryz.zeroValue3
 t4:=Tryz.underlying4
 a4:=Tryz.isAgg4
 z4:=Tryz.sizeOf4
 v4:=Tryz.zeroValue4
 t5:=Tryz.underlying5
 a5:=Tryz.isAgg5
 z5:=Tryz.sizeOf5
 v5:=Tryz.zeroValue5
 t9:=Tryz.underlying9
 a9:=Tryz.isAgg9
 z9:=Tryz.sizeOf9
 v9:=Tryz.zeroValue9
 t21:=Tryz.underlying21
 a21:=Tryz.isAgg21
 z21:=Tryz.sizeOf21
 v21:=Tryz.zeroValue21
 t46:=Tryz.underlying75
 a46:=Tryz.isAgg75
 z46:=Tryz.sizeOf75
 v46:=Tryz.zeroValue75
 t105:=Tryz.underlying123
 a105:=Tryz.isAgg123
 z105:=Tryz.sizeOf123
 v105:=Tryz.zeroValue123
 t116:=Tryz.underlying92
 a116:=Tryz.isAgg92
 z116:=Tryz.sizeOf92
 t117:=Tryz.underlying93
 a117:=Tryz.isAgg93
 z117:=Tryz.sizeOf93
 v117:=Tryz.zeroValue93
 t119:=Tryz.underlying72
 a119:=Tryz.isAgg72
 z119:=Tryz.sizeOf72
 t124:=Tryz.underlying96
 a124:=Tryz.isAgg96
 z124:=Tryz.sizeOf96
 v124:=Tryz.zeroValue96
 t138:=Tryz.underlying148
 a138:=Tryz.isAgg148
 z138:=Tryz.sizeOf148
 v138:=Tryz.zeroValue148
 t139:=Tryz.underlying149
 a139:=Tryz.isAgg149
 z139:=Tryz.sizeOf149
 v139:=Tryz.zeroValue149
 g3:=by kernel_rfl
 g4:=by kernel_rfl}
def shM316_ren:Go.Shelf.Ren:=⟨fun|316=>89|n=>n,fun|9=>9|3=>3|4=>4|37=>29|0=>0|127=>126|5=>5|n=>n,fun|n=>n⟩
theorem shM316:Go.Proofs.LaysM.n316 Tryz.prog shM316_ren:={
 mixed:=by kernel_rfl
 f316:=Tryz.func89.trans (congrArg some (by kernel_rfl))
 t0:=Tryz.underlying0
 a0:=Tryz.isAgg0
 z0:=Tryz.sizeOf0
 v0:=Tryz.zeroValue0
 t3:=Tryz.underlying3
 a3:=Tryz.isAgg3
 z3:=Tryz.sizeOf3
 v3:=Tryz.zeroValue3
 t4:=Tryz.underlying4
 a4:=Tryz.isAgg4
 z4:=Tryz.sizeOf4
 v4:=Tryz.zeroValue4
 t9:=Tryz.underlying9
 a9:=Tryz.isAgg9
 z9:=Tryz.sizeOf9
 v9:=Tryz.zeroValue9
 t37:=Tryz.underlying29
 a37:=Tryz.isAgg29
 z37:=Tryz.sizeOf29
 v37:=Tryz.zeroValue29
 t127:=Tryz.underlying126
 a127:=Tryz.isAgg126
 z127:=Tryz.sizeOf126
 v127:=Tryz.zeroValue126
 t5:=Tryz.underlying5
 a5:=Tryz.isAgg5
 z5:=Tryz.sizeOf5
 v5:=Tryz.zeroValue5
 i0:=by kernel_rfl
 i3:=by kernel_rfl
 i4:=by kernel_rfl
 i5:=by kernel_rfl
 i9:=by kernel_rfl
 i37:=by kernel_rfl
 i127:=by kernel_rfl}
def sh143_ren:Go.Shelf.Ren:=⟨fun|143=>25|219=>41|217=>40|225=>51|224=>52|267=>53|266=>50|314=>61|n=>n,fun|9=>9|3=>3|4=>4|5=>5|46=>75|146=>88|51=>85|n=>n,fun|1=>0|n=>n⟩
theorem sh143:Go.Proofs.Lays.n143 Tryz.prog sh143_ren:={
 mixed:=by kernel_rfl
 f143:=Tryz.func25.trans (congrArg some (by kernel_rfl))
 f217:=Tryz.func40.trans (congrArg some (by kernel_rfl))
 f219:=Tryz.func41.trans (congrArg some (by kernel_rfl))
 f224:=Tryz.func52.trans (congrArg some (by kernel_rfl))
 f225:=Tryz.func51.trans (congrArg some (by kernel_rfl))
 f266:=Tryz.func50.trans (congrArg some (by kernel_rfl))
 f267:=Tryz.func53.trans (congrArg some (by kernel_rfl))
 f314:=Tryz.func61.trans (congrArg some (by kernel_rfl))
 t3:=Tryz.underlying3
 a3:=Tryz.isAgg3
 z3:=Tryz.sizeOf3
 v3:=Tryz.zeroValue3
 t4:=Tryz.underlying4
 a4:=Tryz.isAgg4
 z4:=Tryz.sizeOf4
 v4:=Tryz.zeroValue4
 t5:=Tryz.underlying5
 a5:=Tryz.isAgg5
 z5:=Tryz.sizeOf5
 v5:=Tryz.zeroValue5
 t9:=Tryz.underlying9
 a9:=Tryz.isAgg9
 z9:=Tryz.sizeOf9
 v9:=Tryz.zeroValue9
 t46:=Tryz.underlying75
 a46:=Tryz.isAgg75
 z46:=Tryz.sizeOf75
 v46:=Tryz.zeroValue75
 t51:=Tryz.underlying85
 a51:=Tryz.isAgg85
 z51:=Tryz.sizeOf85
 v51:=Tryz.zeroValue85
 t146:=Tryz.underlying88
 a146:=Tryz.isAgg88
 z146:=Tryz.sizeOf88
 v146:=Tryz.zeroValue88
 g1:=by kernel_rfl}
end Go.Proofs.YtkklcbfbjfhacaaGreatDoor
set_option linter.all false
namespace Go.Proofs.YtkklcbfbjfhacaaGreatDoor
open Go.Tw Go.Tw.LX Go.RowKit
noncomputable section
def big:aY:=[(lt (ln (D 0)) (I 1000000000),true)]
def conIndex:Con:={f:=25,args:=[VS 0,.str [42,47]],pre:=big,res:=.sym .i64 (A1 3 (D 0)),objs:=[]}
def conTrim(c:List UInt8):Con:={f:=55,args:=[VS 0,.str c],pre:=big,res:=.vstr (A2 4 (D 0) (.slit c)),objs:=[]}
def cut8:List UInt8:=[48,49,50,51,52,53,54,55]
def cut10:List UInt8:=[48,49,50,51,52,53,54,55,56,57]
def cut16:List UInt8:=[48,49,50,51,52,53,54,55,56,57,97,98,99,100,101,102,65,66,67,68,69,70]
def conLow:Con:={f:=56,args:=[VS 0],pre:=big++[(eq (A1 5 (D 0)) (I 1),true)],res:=.vstr (A1 6 (D 0)),objs:=[]}
def conClone:Con:={f:=89,args:=[VS 0],pre:=big,res:=VS 0,objs:=[]}
theorem idxL_is(x:List UInt8)(hx:x≠[]):∀(l:List UInt8) (n:Nat),idxL x l n=if Lib.index l x= -1 then -1 else Lib.index l x+n
 |[],n=>by
  have e:x.isEmpty=false:=by cases x with
   |nil=>exact absurd rfl hx
   |cons=>rfl
  unfold idxL Lib.index;rw[e];rfl
 |c::l,n=>by have h:=idxL_is x hx l (n+1);have hg:=Lib.index_ge l x;unfold idxL Lib.index;split;{simp};rw[h];by_cases h1:Lib.index l x= -1;{simp [h1]};have h2:(Lib.index l x== -1)=false:=beq_eq_false_iff_ne.2 h1;rw[if_neg h1,h2];simp only[bF,if_false];rw[if_neg (by omega)];push_cast;omega
theorem lowB_is(c:UInt8):lowB c=Lib.lowerB c:=by have h1:(65:UInt8)≤c↔65≤c.toNat:=UInt8.le_iff_toNat_le;have h2:c≤(90:UInt8)↔c.toNat≤90:=UInt8.le_iff_toNat_le;unfold lowB Lib.lowerB Lib.isUpperB;simp only[ah,decide_eq_true_eq,h1,h2]
theorem vs_inv{v:Val}{φ:PM}{i:Nat}{x:Value}(h:@VR v φ (VS i) x):∃s,x=.string ⟨⟨s⟩⟩∧@Sx.dat v (D i)=.str s:=by
 cases h with
 |vstr s h=>exact⟨s,rfl,h⟩
theorem big_len{v:Val}{s:List UInt8}{l:aY}(h:@Sx.dat v (D 0)=.str s)(hp:@Holds v (big++l)):s.length<1000000000:=by
 have h1:=ltT' (hget hp).1;have e:@Sx.eval v (ln (D 0))=(s.length:Int):=by show(Dat.int ((@Sx.dat v (D 0)).toS.length:Int)).toI=_;rw[h];rfl
 rw[e]at h1;have:@Sx.eval v (I 1000000000)=1000000000:=rfl;omega
theorem args1{v:Val}{φ:PM}{x:AV}{a:Array Value}(h:@VRL v φ [x] a.toList):∃y,a= #[y]∧@VR v φ x y:=by
 obtain⟨l⟩:=a;cases h with
 |cons h1 h2=>cases h2;exact⟨_,rfl,h1⟩
theorem args2{v:Val}{φ:PM}{x x2:AV}{a:Array Value}(h:@VRL v φ [x,x2] a.toList):∃y y2,a= #[y,y2]∧@VR v φ x y∧@VR v φ x2 y2:=by
 obtain⟨l⟩:=a;cases h with
 |cons h1 h2=>cases h2 with
  |cons h2 h3=>cases h3;exact⟨_,_,rfl,h1,h2⟩
theorem b0_max:b0.get 0=some (.ro [.opq 8 0 0 (.int .i64) (.lit 0) (.lit 0)]):=by kernel_rfl
theorem max_cell{v:Val}{φ:PM}{W:World}(h:@Rep v R0 φ W 0 (some (.ro [.opq 8 0 0 (.int .i64) (.lit 0) (.lit 0)])))(hg:∀e,φ 0 0=some e→e.blk=0∧e.up=0):∃m,W.cell? ⟨0,0,none⟩=some (.int .i64 m):=by
 obtain⟨e,cs,t,fr,he,hc,hd,hup,hr⟩:=h;obtain⟨e1,e2⟩:=hg e he;rw[e2]at hr hup;have hr:@VRL v φ [_] (cs.toList.take 1):=hr;obtain⟨l⟩:=cs;cases l with
 |nil=>cases hr
 |cons c l=>
  have hr:@VRL v φ [_] [c]:=hr;cases hr with
  |cons h1 _=>
   cases h1 with
   |opq _ h1=>obtain⟨k,n,hk,rfl⟩:=h1;cases hk;refine⟨n,?_⟩;rw[e1]at hc;unfold World.cell?;rw[hc];rfl
theorem conIndex_ok:conIndex.Sound F0 P gl0 b0 R0:=by
 refine hP rfl rfl rfl rfl fun v hF hp W φ args' hh ha=> ?_;obtain⟨a,b,e,h1,h2⟩:=args2 ha;subst e;obtain⟨s,rfl,hs⟩:=vs_inv h1;cases h2;have hl:=big_len (l:=[]) hs hp;have hq:=hh.roA v 0 (by decide);rw[b0_max]at hq;obtain⟨m,hm⟩:=max_cell hq (fun e he=>by obtain⟨e',k1,k2,k3,_⟩:=hh.glo (g:=0) (n:=1) (by kernel_rfl);rw[φ.low_lt (by decide) 0,k1]at he;cases he;exact⟨k2,k3⟩);refine(Any.strings_Index sh143 ⟨⟨s⟩⟩ ⟨⟨[42,47]⟩⟩ m W (by show s.length<_;omega) hm).mono fun e W' he=> ?_;obtain⟨rfl,rfl⟩:=he;refine⟨_,rfl,?_,.refl _ _⟩;have e:@Sx.eval v (A1 3 (D 0))=Lib.index s [42,47]:=by show(v.fn 3 (@Sx.dat v (D 0)) _ _).toI=_;rw[hF,F0_3,hs];show idxL [42,47] s 0=_;rw[idxL_is _ (by decide)];split;{rename_i h;exact h.symm};exact Int.add_zero _
 have h:=@VR.sym v φ .i64 (A1 3 (D 0));rw[e]at h;exact h
theorem conTrim_ok{c:List UInt8}(hc:c.length<1000000000)(ha:c.all fun b=>decide (b.toNat<128)):(conTrim c).Sound F0 P gl0 b0 R0:=by refine hP rfl rfl rfl rfl fun v hF hp W φ args' hh hv=> ?_;obtain⟨a,b,e,h1,h2⟩:=args2 hv;subst e;obtain⟨s,rfl,hs⟩:=vs_inv h1;cases h2;have hl:=big_len (l:=[]) hs hp;refine(Any.strings_TrimLeft_laid sh161 (by kernel_rfl) ⟨⟨s⟩⟩ ⟨⟨c⟩⟩ W (by show c.length<_;omega) (fun j b h=>by have h:c[j]? =some b:=h;have:=List.all_eq_true.1 ha b (dK h);exact of_decide_eq_true this)).mono fun e W' he=> ?_;obtain⟨rfl,hb⟩:=he;refine⟨_,rfl,.vstr _ ?_,hb⟩;show v.fn 4 (@Sx.dat v (D 0)) (.str c) _=_;rw[hF,F0_4,hs];rfl
theorem conTrim8_ok:(conTrim cut8).Sound F0 P gl0 b0 R0:=conTrim_ok (by decide) (by decide)
theorem conTrim10_ok:(conTrim cut10).Sound F0 P gl0 b0 R0:=conTrim_ok (by decide) (by decide)
theorem conTrim16_ok:(conTrim cut16).Sound F0 P gl0 b0 R0:=conTrim_ok (by decide) (by decide)
theorem conLow_ok:conLow.Sound F0 P gl0 b0 R0:=by
 refine hP rfl rfl rfl rfl fun v hF hp W φ args' hh hv=> ?_;obtain⟨a,e,h1⟩:=args1 hv;subst e;obtain⟨s,rfl,hs⟩:=vs_inv h1;have hl:=big_len hs hp;have h5:=eqT' (hget (hget hp).2).1;have h5:(v.fn 5 (@Sx.dat v (D 0)) (.int 0) (.int 0)).toI=1:=h5;rw[hF,F0_5,hs]at h5;have h5:(if s.all fun x=>decide (x.toNat<128)then 1 else 0:Int)=1:=h5;split at h5
 ·rename_i ha;refine(Any.strings_ToLower_ascii sh159 shB159 ⟨⟨s⟩⟩ W (by show s.length≤_;omega) (fun j b h=>by
   have h:s[j]? =some b:=h;have:=List.all_eq_true.1 ha b (dK h);exact of_decide_eq_true this)).mono fun e W' he=> ?_
  obtain⟨rfl,hb⟩:=he;refine⟨_,rfl,.vstr _ ?_,hb⟩;show v.fn 6 (@Sx.dat v (D 0)) _ _=_;rw[hF,F0_6,hs];show Dat.str (s.map lowB)=Dat.str (s.map Lib.lowerB);rw[show lowB=Lib.lowerB from funext lowB_is]
 cases h5
theorem conClone_ok:conClone.Sound F0 P gl0 b0 R0:=by refine hP rfl rfl rfl rfl fun v hF hp W φ args' hh hv=> ?_;obtain⟨a,e,h1⟩:=args1 hv;subst e;obtain⟨s,rfl,hs⟩:=vs_inv h1;have hl:=big_len (l:=[]) hs hp;refine(Any.stringslite_Clone shM316 ⟨⟨s⟩⟩ W (by show s.length≤_;omega)).mono fun e W' he=> ?_;obtain⟨rfl,hb⟩:=he;exact⟨_,rfl,.vstr _ hs,hb⟩
end
end Go.Proofs.YtkklcbfbjfhacaaGreatDoor
