/-
  A part of the law's proof over the abstract evaluator. Conditions: those of each theorem, as it states them.
-/
import Derived.Shelf.Strings.OnBuilder
import Derived.Shelf.Strings.SlTrimAscii
import Derived.Shelf.Strconv.Clone
import Derived.Shelf.Strings.Search3
import Derived.Test.YtbfonficacphkaaGreatDoorProg
import Derived.Test.YtbfonficacphkaaGreatDoorS1
set_option linter.all false
set_option linter.all false
namespace Go.Proofs.YtbfonficacphkaaGreatDoor
open Go.Shelf
def uO:Go.Shelf.Ren:=⟨fun|159=>45|165=>57|166=>58|167=>59|169=>60|230=>61|204=>62|240=>74|241=>75|197=>72|118=>76|168=>77|270=>78|262=>79|276=>86|277=>87|260=>84|242=>88|313=>89|278=>94|274=>95|275=>96|n=>n,fun|9=>9|4=>4|3=>3|5=>5|72=>92|0=>0|76=>94|75=>63|107=>99|70=>90|20=>20|37=>31|127=>111|21=>21|105=>108|164=>125|162=>131|203=>129|119=>105|46=>69|139=>148|138=>147|51=>78|160=>149|208=>158|206=>156|80=>97|n=>n,fun|13=>5|3=>6|4=>7|n=>n⟩
theorem TN:Go.Proofs.Lays.n159 Tryz.prog uO:={
 mixed:=by kernel_rfl
 f118:=Tryz.func76.trans (congrArg some (by kernel_rfl))
 f159:=Tryz.func45.trans (congrArg some (by kernel_rfl))
 f165:=Tryz.func57.trans (congrArg some (by kernel_rfl))
 f166:=Tryz.func58.trans (congrArg some (by kernel_rfl))
 f167:=Tryz.func59.trans (congrArg some (by kernel_rfl))
 f168:=Tryz.func77.trans (congrArg some (by kernel_rfl))
 f169:=Tryz.func60.trans (congrArg some (by kernel_rfl))
 f197:=Tryz.func72.trans (congrArg some (by kernel_rfl))
 f204:=Tryz.func62.trans (congrArg some (by kernel_rfl))
 f230:=Tryz.func61.trans (congrArg some (by kernel_rfl))
 f240:=Tryz.func74.trans (congrArg some (by kernel_rfl))
 f241:=Tryz.func75.trans (congrArg some (by kernel_rfl))
 f242:=Tryz.func88.trans (congrArg some (by kernel_rfl))
 f260:=Tryz.func84.trans (congrArg some (by kernel_rfl))
 f262:=Tryz.func79.trans (congrArg some (by kernel_rfl))
 f270:=Tryz.func78.trans (congrArg some (by kernel_rfl))
 f274:=Tryz.func95.trans (congrArg some (by kernel_rfl))
 f275:=Tryz.func96.trans (congrArg some (by kernel_rfl))
 f276:=Tryz.func86.trans (congrArg some (by kernel_rfl))
 f277:=Tryz.func87.trans (congrArg some (by kernel_rfl))
 f278:=Tryz.func94.trans (congrArg some (by kernel_rfl))
 f313:=Tryz.func89.trans (congrArg some (by kernel_rfl))
 t0:=Tryz.underlying0
 a0:=Tryz.isAgg0
 z0:=Tryz.sizeOf0
 v0:=Tryz.zeroValue0
 t3:=Tryz.underlying3
 a3:=Tryz.isAgg3
 z3:=Tryz.sizeOf3
 v3:=Tryz.zeroValue3
 t4:=Tryz.underlying4
 a4:=Tryz.isAgg4
 z4:=Tryz.sizeOf4
 v4:=Tryz.zeroValue4
 t5:=Tryz.underlying5
 a5:=Tryz.isAgg5
 z5:=Tryz.sizeOf5
 v5:=Tryz.zeroValue5
 t9:=Tryz.underlying9
 a9:=Tryz.isAgg9
 z9:=Tryz.sizeOf9
 v9:=Tryz.zeroValue9
 t20:=Tryz.underlying20
 a20:=Tryz.isAgg20
 z20:=Tryz.sizeOf20
 v20:=Tryz.zeroValue20
 t21:=Tryz.underlying21
 a21:=Tryz.isAgg21
 z21:=Tryz.sizeOf21
 v21:=Tryz.zeroValue21
 t37:=Tryz.underlying31
 a37:=Tryz.isAgg31
 z37:=Tryz.sizeOf31
 v37:=Tryz.zeroValue31
 t46:=Tryz.underlying69
 a46:=Tryz.isAgg69
 z46:=Tryz.sizeOf69
 v46:=Tryz.zeroValue69
 t51:=Tryz.underlying78
 a51:=Tryz.isAgg78
 z51:=Tryz.sizeOf78
 v51:=Tryz.zeroValue78
 t70:=Tryz.underlying90
 a70:=Tryz.isAgg90
 z70:=Tryz.sizeOf90
 v70:=Tryz.zeroValue90
 t72:=Tryz.underlying92
 a72:=Tryz.isAgg92
 z72:=Tryz.sizeOf92
 v72:=Tryz.zeroValue92
 t75:=Tryz.underlying63
 a75:=Tryz.isAgg63
 z75:=Tryz.sizeOf63
 v75:=Tryz.zeroValue63
 t76:=Tryz.underlying94
 a76:=Tryz.isAgg94
 z76:=Tryz.sizeOf94
 v76:=Tryz.zeroValue94
 t105:=Tryz.underlying108
 a105:=Tryz.isAgg108
 z105:=Tryz.sizeOf108
 v105:=Tryz.zeroValue108
 t107:=Tryz.underlying99
 a107:=Tryz.isAgg99
 z107:=Tryz.sizeOf99
 v107:=Tryz.zeroValue99
 t119:=Tryz.underlying105
 a119:=Tryz.isAgg105
 z119:=Tryz.sizeOf105
 t127:=Tryz.underlying111
 a127:=Tryz.isAgg111
 z127:=Tryz.sizeOf111
 v127:=Tryz.zeroValue111
 t138:=Tryz.underlying147
 a138:=Tryz.isAgg147
 z138:=Tryz.sizeOf147
 v138:=Tryz.zeroValue147
 t139:=Tryz.underlying148
 a139:=Tryz.isAgg148
 z139:=Tryz.sizeOf148
 v139:=Tryz.zeroValue148
 t160:=Tryz.underlying149
 a160:=Tryz.isAgg149
 z160:=Tryz.sizeOf149
 v160:=Tryz.zeroValue149
 t162:=Tryz.underlying131
 a162:=Tryz.isAgg131
 z162:=Tryz.sizeOf131
 v162:=Tryz.zeroValue131
 t164:=Tryz.underlying125
 a164:=Tryz.isAgg125
 z164:=Tryz.sizeOf125
 v164:=Tryz.zeroValue125
 t203:=Tryz.underlying129
 a203:=Tryz.isAgg129
 z203:=Tryz.sizeOf129
 v203:=Tryz.zeroValue129
 t206:=Tryz.underlying156
 a206:=Tryz.isAgg156
 z206:=Tryz.sizeOf156
 v206:=Tryz.zeroValue156
 t208:=Tryz.underlying158
 a208:=Tryz.isAgg158
 z208:=Tryz.sizeOf158
 v208:=Tryz.zeroValue158
 g3:=by kernel_rfl
 g4:=by kernel_rfl
 g13:=by kernel_rfl}
theorem PQ:Builder.Extra Tryz.prog uO:={
 sizeBuilder:=by kernel_rfl
 liesBuilder:=by kernel_rfl
 t5:=Tryz.underlying5
 a5:=Tryz.isAgg5
 z5:=Tryz.sizeOf5
 v5:=Tryz.zeroValue5
 infoByte:=by kernel_rfl
 cellsByte:=by kernel_rfl
 sizeByte:=by kernel_rfl
 neB5:=by decide}
def E8:Go.Shelf.Ren:=⟨fun|161=>44|231=>53|227=>54|233=>55|235=>56|228=>71|197=>72|151=>73|260=>84|152=>85|137=>16|119=>93|224=>39|225=>38|217=>27|266=>37|n=>n,fun|9=>9|4=>4|3=>3|5=>5|117=>86|116=>85|0=>0|124=>89|105=>108|21=>21|119=>105|46=>69|139=>148|138=>147|n=>n,fun|3=>6|4=>7|n=>n⟩
theorem TM:Go.Proofs.Lays.n161 Tryz.prog E8:={
 mixed:=by kernel_rfl
 f119:=Tryz.func93.trans (congrArg some (by kernel_rfl))
 f137:=Tryz.func16.trans (congrArg some (by kernel_rfl))
 f151:=Tryz.func73.trans (congrArg some (by kernel_rfl))
 f152:=Tryz.func85.trans (congrArg some (by kernel_rfl))
 f161:=Tryz.func44.trans (congrArg some (by kernel_rfl))
 f197:=Tryz.func72.trans (congrArg some (by kernel_rfl))
 f217:=Tryz.func27.trans (congrArg some (by kernel_rfl))
 f224:=Tryz.func39.trans (congrArg some (by kernel_rfl))
 f225:=Tryz.func38.trans (congrArg some (by kernel_rfl))
 f227:=Tryz.func54.trans (congrArg some (by kernel_rfl))
 f228:=Tryz.func71.trans (congrArg some (by kernel_rfl))
 f231:=Tryz.func53.trans (congrArg some (by kernel_rfl))
 f233:=Tryz.func55.trans (congrArg some (by kernel_rfl))
 f235:=Tryz.func56.trans (congrArg some (by kernel_rfl))
 f260:=Tryz.func84.trans (congrArg some (by kernel_rfl))
 f266:=Tryz.func37.trans (congrArg some (by kernel_rfl))
 t0:=Tryz.underlying0
 a0:=Tryz.isAgg0
 z0:=Tryz.sizeOf0
 v0:=Tryz.zeroValue0
 t3:=Tryz.underlying3
 a3:=Tryz.isAgg3
 z3:=Tryz.sizeOf3
 v3:=Tryz.zeroValue3
 t4:=Tryz.underlying4
 a4:=Tryz.isAgg4
 z4:=Tryz.sizeOf4
 v4:=Tryz.zeroValue4
 t5:=Tryz.underlying5
 a5:=Tryz.isAgg5
 z5:=Tryz.sizeOf5
 v5:=Tryz.zeroValue5
 t9:=Tryz.underlying9
 a9:=Tryz.isAgg9
 z9:=Tryz.sizeOf9
 v9:=Tryz.zeroValue9
 t21:=Tryz.underlying21
 a21:=Tryz.isAgg21
 z21:=Tryz.sizeOf21
 v21:=Tryz.zeroValue21
 t46:=Tryz.underlying69
 a46:=Tryz.isAgg69
 z46:=Tryz.sizeOf69
 v46:=Tryz.zeroValue69
 t105:=Tryz.underlying108
 a105:=Tryz.isAgg108
 z105:=Tryz.sizeOf108
 v105:=Tryz.zeroValue108
 t116:=Tryz.underlying85
 a116:=Tryz.isAgg85
 z116:=Tryz.sizeOf85
 t117:=Tryz.underlying86
 a117:=Tryz.isAgg86
 z117:=Tryz.sizeOf86
 v117:=Tryz.zeroValue86
 t119:=Tryz.underlying105
 a119:=Tryz.isAgg105
 z119:=Tryz.sizeOf105
 t124:=Tryz.underlying89
 a124:=Tryz.isAgg89
 z124:=Tryz.sizeOf89
 v124:=Tryz.zeroValue89
 t138:=Tryz.underlying147
 a138:=Tryz.isAgg147
 z138:=Tryz.sizeOf147
 v138:=Tryz.zeroValue147
 t139:=Tryz.underlying148
 a139:=Tryz.isAgg148
 z139:=Tryz.sizeOf148
 v139:=Tryz.zeroValue148
 g3:=by kernel_rfl
 g4:=by kernel_rfl}
def Bm:Go.Shelf.Ren:=⟨fun|316=>80|n=>n,fun|9=>9|3=>3|4=>4|37=>31|0=>0|127=>111|5=>5|n=>n,fun|n=>n⟩
theorem PO:Go.Proofs.LaysM.n316 Tryz.prog Bm:={
 mixed:=by kernel_rfl
 f316:=Tryz.func80.trans (congrArg some (by kernel_rfl))
 t0:=Tryz.underlying0
 a0:=Tryz.isAgg0
 z0:=Tryz.sizeOf0
 v0:=Tryz.zeroValue0
 t3:=Tryz.underlying3
 a3:=Tryz.isAgg3
 z3:=Tryz.sizeOf3
 v3:=Tryz.zeroValue3
 t4:=Tryz.underlying4
 a4:=Tryz.isAgg4
 z4:=Tryz.sizeOf4
 v4:=Tryz.zeroValue4
 t9:=Tryz.underlying9
 a9:=Tryz.isAgg9
 z9:=Tryz.sizeOf9
 v9:=Tryz.zeroValue9
 t37:=Tryz.underlying31
 a37:=Tryz.isAgg31
 z37:=Tryz.sizeOf31
 v37:=Tryz.zeroValue31
 t127:=Tryz.underlying111
 a127:=Tryz.isAgg111
 z127:=Tryz.sizeOf111
 v127:=Tryz.zeroValue111
 t5:=Tryz.underlying5
 a5:=Tryz.isAgg5
 z5:=Tryz.sizeOf5
 v5:=Tryz.zeroValue5
 i0:=by kernel_rfl
 i3:=by kernel_rfl
 i4:=by kernel_rfl
 i5:=by kernel_rfl
 i9:=by kernel_rfl
 i37:=by kernel_rfl
 i127:=by kernel_rfl}
def E9:Go.Shelf.Ren:=⟨fun|143=>18|219=>29|217=>27|225=>38|224=>39|267=>40|266=>37|314=>50|n=>n,fun|9=>9|3=>3|4=>4|5=>5|46=>69|146=>79|51=>78|n=>n,fun|1=>0|n=>n⟩
theorem TO:Go.Proofs.Lays.n143 Tryz.prog E9:={
 mixed:=by kernel_rfl
 f143:=Tryz.func18.trans (congrArg some (by kernel_rfl))
 f217:=Tryz.func27.trans (congrArg some (by kernel_rfl))
 f219:=Tryz.func29.trans (congrArg some (by kernel_rfl))
 f224:=Tryz.func39.trans (congrArg some (by kernel_rfl))
 f225:=Tryz.func38.trans (congrArg some (by kernel_rfl))
 f266:=Tryz.func37.trans (congrArg some (by kernel_rfl))
 f267:=Tryz.func40.trans (congrArg some (by kernel_rfl))
 f314:=Tryz.func50.trans (congrArg some (by kernel_rfl))
 t3:=Tryz.underlying3
 a3:=Tryz.isAgg3
 z3:=Tryz.sizeOf3
 v3:=Tryz.zeroValue3
 t4:=Tryz.underlying4
 a4:=Tryz.isAgg4
 z4:=Tryz.sizeOf4
 v4:=Tryz.zeroValue4
 t5:=Tryz.underlying5
 a5:=Tryz.isAgg5
 z5:=Tryz.sizeOf5
 v5:=Tryz.zeroValue5
 t9:=Tryz.underlying9
 a9:=Tryz.isAgg9
 z9:=Tryz.sizeOf9
 v9:=Tryz.zeroValue9
 t46:=Tryz.underlying69
 a46:=Tryz.isAgg69
 z46:=Tryz.sizeOf69
 v46:=Tryz.zeroValue69
 t51:=Tryz.underlying78
 a51:=Tryz.isAgg78
 z51:=Tryz.sizeOf78
 v51:=Tryz.zeroValue78
 t146:=Tryz.underlying79
 a146:=Tryz.isAgg79
 z146:=Tryz.sizeOf79
 v146:=Tryz.zeroValue79
 g1:=by kernel_rfl}
end Go.Proofs.YtbfonficacphkaaGreatDoor
set_option linter.all false
namespace Go.Proofs.YtbfonficacphkaaGreatDoor
open Go.Tw Go.Tw.LX Go.RowKit
noncomputable section
def Vp:bo:=[(lt (ln (D 0)) (I 1000000000),true)]
def conIndex:Con:={f:=18,args:=[VS 0,.str [42,47]],pre:=Vp,res:=.sym .i64 (A1 3 (D 0)),objs:=[]}
def gy(c:List UInt8):Con:={f:=44,args:=[VS 0,.str c],pre:=Vp,res:=.vstr (A2 4 (D 0) (.slit c)),objs:=[]}
def Ta:List UInt8:=[48,49,50,51,52,53,54,55]
def KA:List UInt8:=[48,49,50,51,52,53,54,55,56,57]
def Kz:List UInt8:=[48,49,50,51,52,53,54,55,56,57,97,98,99,100,101,102,65,66,67,68,69,70]
def conLow:Con:={f:=45,args:=[VS 0],pre:=Vp++[(eq (A1 5 (D 0)) (I 1),true)],res:=.vstr (A1 6 (D 0)),objs:=[]}
def conClone:Con:={f:=80,args:=[VS 0],pre:=Vp,res:=VS 0,objs:=[]}
theorem D8(x:List UInt8)(hx:x≠[]):∀(l:List UInt8) (n:Nat),cL x l n=if Lib.index l x= -1 then -1 else Lib.index l x+n
 |[],n=>by
  have e:x.isEmpty=false:=by cases x with
   |nil=>exact absurd rfl hx
   |cons=>rfl
  unfold cL Lib.index;rw[e];rfl
 |c::l,n=>by have h:=D8 x hx l (n+1);have hg:=Lib.index_ge l x;unfold cL Lib.index;split;{simp};rw[h];by_cases h1:Lib.index l x= -1;{simp [h1]};have h2:(Lib.index l x== -1)=false:=beq_eq_false_iff_ne.2 h1;rw[if_neg h1,h2];simp only[bY,if_false];rw[if_neg (by omega)];push_cast;omega
theorem MR(c:UInt8):FO c=Lib.lowerB c:=by have h1:(65:UInt8)≤c↔65≤c.toNat:=UInt8.le_iff_toNat_le;have h2:c≤(90:UInt8)↔c.toNat≤90:=UInt8.le_iff_toNat_le;unfold FO Lib.lowerB Lib.isUpperB;simp only[al,decide_eq_true_eq,h1,h2]
theorem wc{v:Val}{φ:PM}{i:Nat}{x:Value}(h:@VR v φ (VS i) x):∃s,x=.string ⟨⟨s⟩⟩∧@Sx.dat v (D i)=.str s:=by
 cases h with
 |vstr s h=>exact⟨s,rfl,h⟩
theorem rF{v:Val}{s:List UInt8}{l:bo}(h:@Sx.dat v (D 0)=.str s)(hp:@Holds v (Vp++l)):s.length<1000000000:=by
 have h1:=cD (aj hp).1;have e:@Sx.eval v (ln (D 0))=(s.length:Int):=by show(Dat.int ((@Sx.dat v (D 0)).toS.length:Int)).toI=_;rw[h];rfl
 rw[e]at h1;have:@Sx.eval v (I 1000000000)=1000000000:=rfl;omega
theorem Ox{v:Val}{φ:PM}{x:AV}{a:Array Value}(h:@VRL v φ [x] a.toList):∃y,a= #[y]∧@VR v φ x y:=by
 obtain⟨l⟩:=a;cases h with
 |cons h1 h2=>cases h2;exact⟨_,rfl,h1⟩
theorem Ow{v:Val}{φ:PM}{x x2:AV}{a:Array Value}(h:@VRL v φ [x,x2] a.toList):∃y y2,a= #[y,y2]∧@VR v φ x y∧@VR v φ x2 y2:=by
 obtain⟨l⟩:=a;cases h with
 |cons h1 h2=>cases h2 with
  |cons h2 h3=>cases h3;exact⟨_,_,rfl,h1,h2⟩
theorem Ti:b0.get 0=some (.ro [.opq 8 0 0 (.int .i64) (.lit 0) (.lit 0)]):=by kernel_rfl
theorem Jm{v:Val}{φ:PM}{W:World}(h:@Rep v R0 φ W 0 (some (.ro [.opq 8 0 0 (.int .i64) (.lit 0) (.lit 0)])))(hg:∀e,φ 0 0=some e→e.blk=0∧e.up=0):∃m,W.cell? ⟨0,0,none⟩=some (.int .i64 m):=by
 obtain⟨e,cs,t,fr,he,hc,hd,hup,hr⟩:=h;obtain⟨e1,e2⟩:=hg e he;rw[e2]at hr hup;have hr:@VRL v φ [_] (cs.toList.take 1):=hr;obtain⟨l⟩:=cs;cases l with
 |nil=>cases hr
 |cons c l=>
  have hr:@VRL v φ [_] [c]:=hr;cases hr with
  |cons h1 _=>
   cases h1 with
   |opq _ h1=>obtain⟨k,n,hk,rfl⟩:=h1;cases hk;refine⟨n,?_⟩;rw[e1]at hc;unfold World.cell?;rw[hc];rfl
theorem AF:conIndex.Sound F0 P bh b0 R0:=by
 refine jN rfl rfl rfl rfl fun v hF hp W φ args' hh ha=> ?_;obtain⟨a,b,e,h1,h2⟩:=Ow ha;subst e;obtain⟨s,rfl,hs⟩:=wc h1;cases h2;have hl:=rF (l:=[]) hs hp;have hq:=hh.roA v 0 (by decide);rw[Ti]at hq;obtain⟨m,hm⟩:=Jm hq (fun e he=>by obtain⟨e',k1,k2,k3,_⟩:=hh.glo (g:=0) (n:=1) (by kernel_rfl);rw[φ.low_lt (by decide) 0,k1]at he;cases he;exact⟨k2,k3⟩);refine(Any.strings_Index TO ⟨⟨s⟩⟩ ⟨⟨[42,47]⟩⟩ m W (by show s.length<_;omega) hm).mono fun e W' he=> ?_;obtain⟨rfl,rfl⟩:=he;refine⟨_,rfl,?_,.refl _ _⟩;have e:@Sx.eval v (A1 3 (D 0))=Lib.index s [42,47]:=by show(v.fn 3 (@Sx.dat v (D 0)) _ _).toI=_;rw[hF,VA,hs];show cL [42,47] s 0=_;rw[D8 _ (by decide)];split;{rename_i h;exact h.symm};exact Int.add_zero _
 have h:=@VR.sym v φ .i64 (A1 3 (D 0));rw[e]at h;exact h
theorem mS{c:List UInt8}(hc:c.length<1000000000)(ha:c.all fun b=>decide (b.toNat<128)):(gy c).Sound F0 P bh b0 R0:=by refine jN rfl rfl rfl rfl fun v hF hp W φ args' hh hv=> ?_;obtain⟨a,b,e,h1,h2⟩:=Ow hv;subst e;obtain⟨s,rfl,hs⟩:=wc h1;cases h2;have hl:=rF (l:=[]) hs hp;refine(Any.strings_TrimLeft_laid TM (by kernel_rfl) ⟨⟨s⟩⟩ ⟨⟨c⟩⟩ W (by show c.length<_;omega) (fun j b h=>by have h:c[j]? =some b:=h;have:=List.all_eq_true.1 ha b (eQ h);exact of_decide_eq_true this)).mono fun e W' he=> ?_;obtain⟨rfl,hb⟩:=he;refine⟨_,rfl,.vstr _ ?_,hb⟩;show v.fn 4 (@Sx.dat v (D 0)) (.str c) _=_;rw[hF,Tp,hs];rfl
theorem Az:(gy Ta).Sound F0 P bh b0 R0:=mS (by decide) (by decide)
theorem yl:(gy KA).Sound F0 P bh b0 R0:=mS (by decide) (by decide)
theorem yk:(gy Kz).Sound F0 P bh b0 R0:=mS (by decide) (by decide)
theorem Gm:conLow.Sound F0 P bh b0 R0:=by
 refine jN rfl rfl rfl rfl fun v hF hp W φ args' hh hv=> ?_;obtain⟨a,e,h1⟩:=Ox hv;subst e;obtain⟨s,rfl,hs⟩:=wc h1;have hl:=rF hs hp;have h5:=mP (aj (aj hp).2).1;have h5:(v.fn 5 (@Sx.dat v (D 0)) (.int 0) (.int 0)).toI=1:=h5;rw[hF,Vz,hs]at h5;have h5:(if s.all fun x=>decide (x.toNat<128)then 1 else 0:Int)=1:=h5;split at h5
 ·rename_i ha;refine(Any.strings_ToLower_ascii TN PQ ⟨⟨s⟩⟩ W (by show s.length≤_;omega) (fun j b h=>by
   have h:s[j]? =some b:=h;have:=List.all_eq_true.1 ha b (eQ h);exact of_decide_eq_true this)).mono fun e W' he=> ?_
  obtain⟨rfl,hb⟩:=he;refine⟨_,rfl,.vstr _ ?_,hb⟩;show v.fn 6 (@Sx.dat v (D 0)) _ _=_;rw[hF,XV,hs];show Dat.str (s.map FO)=Dat.str (s.map Lib.lowerB);rw[show FO=Lib.lowerB from funext MR]
 cases h5
theorem AG:conClone.Sound F0 P bh b0 R0:=by refine jN rfl rfl rfl rfl fun v hF hp W φ args' hh hv=> ?_;obtain⟨a,e,h1⟩:=Ox hv;subst e;obtain⟨s,rfl,hs⟩:=wc h1;have hl:=rF (l:=[]) hs hp;refine(Any.stringslite_Clone PO ⟨⟨s⟩⟩ W (by show s.length≤_;omega)).mono fun e W' he=> ?_;obtain⟨rfl,hb⟩:=he;exact⟨_,rfl,.vstr _ hs,hb⟩
end
end Go.Proofs.YtbfonficacphkaaGreatDoor
