/-
  A part of the law's proof over the abstract evaluator. Conditions: those of each theorem, as it states them.
-/
import Derived.Test.YtlagbijmfchkeaaGreatC1
import Derived.Test.YtlagbijmfchkeaaGreatB1
set_option linter.all false
namespace Go.Proofs.YtlagbijmfchkeaaGreat
open Go.Tw Go.Tw.NE
noncomputable section
def findD(cores:List aD)(p:aD):Nat→Nat→Nat
 |0,i=>i
 |n+1,i=>bif qz cores i p then i else findD cores p n (Nat.succ i)
def Mo(cores:List aD):ST→aD→DT
 | .leaf _,_=>.leaf
 | .ask b t e,p=>.ask b (Mo cores t ((b,true)::p)) (Mo cores e ((b,false)::p))
 | .none,p=>.dead (findD cores p cores.length 0)
theorem wH{cores:List aD}{q:Nat→Prop}(h:∀i,q i):∀{sp:ST} {p:aD},(Mo cores sp p).deadsIn q
 | .leaf _,_=>trivial
 | .ask _ _ _,_=>⟨wH h,wH h⟩
 | .none,_=>h _
def Ex(cons:List Con)(c:Code)(nt:Nat)(l:List (Nat×AV))(p:aD):XR:=exec P (bL ba b0 p (dZ R0 (dj p) cons)) 1000 nt c {tm:=ax l,ds:=[],md:=none,rd:=false} (ag b0 [] R0)
def FJ(cons:List Con)(c:Code)(nt:Nat)(l l':List (Nat×AV))(o':List (Nat×Ob))(nx':Nat)(tg:List Sx)(cores:List aD)(sp:ST)(p:aD):Bool:=
 (Mo cores sp p).chk Sx.same (fun p=>jk R0 0 0 (Ex cons c nt l p) .ret l' o' nx') sp tg cores p
theorem mK{v:Val}(hF:v.fn=F0){cons:List Con}(hc:∀c∈cons,c.Sound F0 P ba b0 R0){c:Code}{nt:Nat}{l l':List (Nat×AV)}{o':List (Nat×Ob)}{nx':Nat}{tg:List Sx}{cores:List aD}{sp:ST}{p:aD}
 (h:FJ cons c nt l l' o' nx' tg cores sp p=true)(hcores:∀q∈cores,¬@Holds v q)(hp:@Holds v p)(htg:∀(i:Nat) (t:Sx),tg[i]? =some t→@Sx.dat v t=sp.val v i):
 HR 0 0 nt v c (ax l) (ag b0 [] R0) .ret v (ax l') (ag b0 o' nx'):=by
 refine DT.ok2 (F:=F0) base0 (aP _) hF hc follows (fun a b h=>by rw[Sx.same_eq h]) htg (wH fun i q hq=> ?_) h hp;exact hcores q (fH hq)
theorem qo{v:Val}{sp:ST}{i:Nat}{e:Sx}(h:@Sx.dat v e=sp.val v i)(hi:sp.intAt i=true):@Sx.dat v (N e)=sp.val v i:=by show Dat.int (@Sx.dat v e).toI=_;rw[h];exact(ST.intAt_ok hi).symm
theorem tg1{v:Val}{e:Sx}{sp:ST}(h:@Sx.dat v e=sp.val v 0):∀(i:Nat) (t:Sx),[e][i]? =some t→@Sx.dat v t=sp.val v i:=fun i t ht=>by
 match i,ht with
 |0,ht=>simp at ht;subst ht;exact h
 |i+1,ht=>simp at ht
theorem tg2{v:Val}{e e':Sx}{sp:ST}(h:@Sx.dat v e=sp.val v 0)(h':@Sx.dat v e'=sp.val v 1):∀(i:Nat) (t:Sx),[e,e'][i]? =some t→@Sx.dat v t=sp.val v i:=fun i t ht=>by
 match i,ht with
 |0,ht=>simp at ht;subst ht;exact h
 |1,ht=>simp at ht;subst ht;exact h'
 |i+2,ht=>simp at ht
def VF:Code:=match Tryz.f36.body with
 |some c=>c
 |none=>.skip
def ofRow:List AV:=[.vstr (A1 48 (D 0)),.vstr (A1 42 (D 0)),.sym .u32 (A1 49 (D 0)),.sym .u32 (A1 50 (D 0)),.sym .u32 (A1 51 (D 0))]
def vC:List AV:=[aJ [],aJ [],aX,aX,aX]
abbrev ka:AV:=.bool true
def conOf:Con:={f:=36,args:=[SI 0],pre:=[(lt (D 0) (.lit 1),false),(lt (D 0) (.lit 64),true)],res:=.tup [.agg ofRow,ka],objs:=[]}
def conOfa:Con:={f:=36,args:=[SI 0],pre:=[(lt (D 0) (.lit 1),true)],res:=.tup [.agg vC,.bool false],objs:=[]}
def conOfb:Con:={f:=36,args:=[SI 0],pre:=[(lt (D 0) (.lit 1),false),(lt (D 0) (.lit 64),false)],res:=.tup [.agg vC,.bool false],objs:=[]}
def So(l:List AV):List (Nat×Ob):=[(1024,.box l 92)]
def Sn(b:Bool):List (Nat×AV):=[(2,.ptr 1024 0 0 5),(3,.bool b)]
def eOf(i:Nat):bq:=[(.slit (nmD (Int.ofNat (i+1))),A1 48 (D 0)),(.slit [vW (i+1)],A1 42 (D 0)),(.lit (Int.ofNat (WE (Int.ofNat (i+1))).1),N (A1 49 (D 0))),(.lit (Int.ofNat (WE (Int.ofNat (i+1))).2.1),N (A1 50 (D 0))),(.lit (Int.ofNat (WE (Int.ofNat (i+1))).2.2),N (A1 51 (D 0)))]
theorem xOf:(List.range 63).all (fun i=>aT R0 0 0 (run [] [conRows] 16 VF [(0,.int .i64 (Int.ofNat (i+1)))] [] R0) .ret [⟨1024,1024,0,0,0⟩] (Sn true) (So ofRow) 1025 (eOf i))=true:=by kernel_rfl
theorem WS:aT R0 0 0 (run [(lt (D 0) (.lit 1),true)] [conRows] 16 VF [(0,SI 0)] [] R0) .ret [⟨1024,1024,0,0,0⟩] (Sn false) (So vC) 1025 []=true:=by kernel_rfl
theorem WR:aT R0 0 0 (run [(lt (D 0) (.lit 1),false),(lt (D 0) (.lit 64),false)] [conRows] 16 VF [(0,SI 0)] [] R0) .ret [⟨1024,1024,0,0,0⟩] (Sn false) (So vC) 1025 []=true:=by kernel_rfl
set_option maxRecDepth 1000000 in
theorem FE:conOfa.Sound F0 P ba b0 R0:=by refine dY (fn:=Tryz.f36) (code:=VF) Tryz.func36 (by rfl) (by kernel_rfl) rfl rfl rfl fun v hF hpre=> ?_;refine⟨.ret,Sn false,So vC,1025,_,_,.inl rfl,?_,by rfl,rfl⟩;exact rn hF (show @Holds v [(lt (D 0) (.lit 1),true)]from hpre) (dE fU) (aw 0) WS al
set_option maxRecDepth 1000000 in
theorem FD:conOfb.Sound F0 P ba b0 R0:=by refine dY (fn:=Tryz.f36) (code:=VF) Tryz.func36 (by rfl) (by kernel_rfl) rfl rfl rfl fun v hF hpre=> ?_;refine⟨.ret,Sn false,So vC,1025,_,_,.inl rfl,?_,by rfl,rfl⟩;exact rn hF (show @Holds v [(lt (D 0) (.lit 1),false),(lt (D 0) (.lit 64),false)]from hpre) (dE fU) (aw 0) WR al
set_option maxRecDepth 1000000 in
theorem KU:conOf.Sound F0 P ba b0 R0:=by
 refine dY (fn:=Tryz.f36) (code:=VF) Tryz.func36 (by rfl) (by kernel_rfl) rfl rfl rfl fun v hF hpre=> ?_;refine⟨.ret,Sn true,So ofRow,1025,_,_,.inl rfl,?_,by rfl,rfl⟩;show HR 0 0 16 v VF (ax [(0,SI 0)]) (ag b0 [] R0) .ret v (ax (Sn true)) (ag b0 (So ofRow) 1025);obtain⟨g0,hpre⟩:=aF hpre;obtain⟨g1,hpre⟩:=aF hpre;have h1:¬(@Sx.dat v (D 0)).toI<1:=of_decide_eq_false g0;have h2:(@Sx.dat v (D 0)).toI<64:=of_decide_eq_true g1;obtain⟨i,hi,hi2⟩:∃i:Nat,i<63∧(@Sx.dat v (D 0)).toI=(i:Int)+1:=⟨((@Sx.dat v (D 0)).toI - 1).toNat,by omega,by omega⟩;have hx:=List.all_eq_true.1 xOf i (List.mem_range.2 hi);have hk:=aI (nr:=0) base0 (mI (Int.ofNat (i+1))) (v:=v) (v':=v) (aa (show Dat.int (@Sx.dat v (D 0)).toI=Dat.int ((i+1:Nat):Int) by rw[hi2];rfl) al);have hz:∀n a b,v.fn n (@Sx.dat v (D 0)) a b=F0 n (@Sx.dat v (D 0)) a b:=fun n a b=>by rw[hF]
 have hi3:(@Sx.dat v (D 0)).toI=Int.ofNat (i+1):=by rw[hi2];rfl
 refine HT.pre (aw 0) hk (rn hF aC (dE fU) (aw 0) hx ?_);unfold eOf;repeat' (first|exact al|refine aa ?_ ?_)
 {show Dat.str _=v.fn 48 (@Sx.dat v (D 0)) (.int 0) (.int 0);rw[hz,je rfl,Fb,hi3]};{show Dat.str _=v.fn 42 (@Sx.dat v (D 0)) (.int 0) (.int 0);rw[hz,vV hi hi2]};{show Dat.int _=Dat.int (v.fn 49 (@Sx.dat v (D 0)) (.int 0) (.int 0)).toI;rw[hz,je rfl,Fb,hi3];rfl};{show Dat.int _=Dat.int (v.fn 50 (@Sx.dat v (D 0)) (.int 0) (.int 0)).toI;rw[hz,je rfl,Fb,hi3];rfl};show Dat.int _=Dat.int (v.fn 51 (@Sx.dat v (D 0)) (.int 0) (.int 0)).toI;rw[hz,je rfl,Fb,hi3];rfl
theorem wa:∀c∈[conOf,conOfa,conOfb],c.Sound F0 P ba b0 R0:=fun c hc=>by simp only[cP,dQ,or_false]at hc;rcases hc with rfl|rfl|rfl;{exact KU};{exact FE};exact FD
def S5:AV:=.agg [SI 0,SI 1,SI 2,SI 3,SI 4]
def S7:AV:=.agg [SI 0,SI 1,SI 2,SI 3,SI 4,SI 5,SI 6]
def F8:Sx:=pk ((List.range 5).map D)
def Ww:Sx:=pk ((List.range 7).map D)
def aa2:Code:=match Tryz.f35.body with
 |some c=>c
 |none=>.skip
def aa1:Code:=match Tryz.f21.body with
 |some c=>c
 |none=>.skip
def QO:Code:=match Tryz.f32.body with
 |some c=>c
 |none=>.skip
def conChk:Con:={f:=35,args:=[S5],pre:=[],res:=.sym .i64 (A1 52 F8),objs:=[]}
def conEnc:Con:={f:=21,args:=[S5],pre:=[],res:=.tup [.sym .u32 (A1 53 F8),.sym .i64 (A1 54 F8)],objs:=[]}
def conFine:Con:={f:=32,args:=[S7],pre:=[],res:=.symb (.cmp .neq (A1 55 Ww) (.lit 0)),objs:=[]}
theorem acB:FJ [conOf,conOfa,conOfb] aa2 84 [(0,S5)] [(2,.sym .i64 (A1 52 F8))] [] R0 [N (A1 52 F8)] RC stC []=true:=by kernel_rfl
theorem acA:FJ [conChk,conOf,conOfa,conOfb] aa1 21 [(0,S5)] [(2,.sym .u32 (A1 53 F8)),(3,.sym .i64 (A1 54 F8))] [] R0 [N (A1 53 F8),N (A1 54 F8)] acZ stE []=true:=by kernel_rfl
theorem Xe:FJ [conChk,conForm] QO 55 [(0,S7)] [(2,.symb (.cmp .neq (A1 55 Ww) (.lit 0)))] [] R0 [.pr 21 (A1 55 Ww) (.lit 0)] acY stF []=true:=by kernel_rfl
theorem MP{v:Val}:∀q∈RC,¬@Holds v q:=fun q hq h=>by
 simp only[RC,cP,dQ,or_false]at hq;rcases hq with rfl|rfl|rfl|rfl|rfl|rfl;all_goals
  obtain⟨f0,h⟩:=aF h;obtain⟨f1,_⟩:=aF h;have z:@Sx.eval v (I 0)=0:=rfl;have z2:@Sx.eval v (I 32)=32:=rfl;have g0:=of_decide_eq_true f0;first
  |(have g1:=of_decide_eq_true f1;omega)
  |(have g1:=of_decide_eq_false f1;omega)
theorem we:conChk.Sound F0 P ba b0 R0:=by refine bX (fn:=Tryz.f35) (code:=aa2) Tryz.func35 (by rfl) (by kernel_rfl) (by kernel_rfl) fun v hF hpre=> ?_;refine⟨.ret,[(2,.sym .i64 (A1 52 F8))],_,_,.inl rfl,?_,by rfl,rfl⟩;exact mK hF wa acB MP aC (tg1 (qo (Yj hF) (by kernel_rfl)))
theorem FF:conEnc.Sound F0 P ba b0 R0:=by refine bX (fn:=Tryz.f21) (code:=aa1) Tryz.func21 (by rfl) (by kernel_rfl) (by kernel_rfl) fun v hF hpre=> ?_;refine⟨.ret,[(2,.sym .u32 (A1 53 F8)),(3,.sym .i64 (A1 54 F8))],_,_,.inl rfl,?_,by rfl,rfl⟩;refine mK hF (fun c hc=> ?_) acA (fun q hq=>by cases hq) aC (tg2 (qo (Yi hF) (by kernel_rfl)) (qo (Yh hF) (by kernel_rfl)));rcases List.mem_cons.1 hc with rfl|hc;{exact we};exact wa c hc
theorem Co:conFine.Sound F0 P ba b0 R0:=by refine bX (fn:=Tryz.f32) (code:=QO) Tryz.func32 (by rfl) (by kernel_rfl) (by kernel_rfl) fun v hF hpre=> ?_;refine⟨.ret,[(2,.symb (.cmp .neq (A1 55 Ww) (.lit 0)))],_,_,.inl rfl,?_,by rfl,rfl⟩;refine mK hF (fun c hc=> ?_) Xe (fun q hq=>by cases hq) aC (tg1 ?_);{simp only[cP,dQ,or_false]at hc;rcases hc with rfl|rfl;{exact we};exact eN};show Dat.int (dO ((@Sx.dat v (A1 55 Ww)).toI != 0))=_;have e:@Sx.dat v (A1 55 Ww)=stF.val v 0:=Yg hF;rw[e];exact(GG v).symm
end
end Go.Proofs.YtlagbijmfchkeaaGreat
namespace Go.Proofs.YtlagbijmfchkeaaGreat
open Go.Tw Go.Tw.NE
noncomputable section
def OU:Code:=match Tryz.f31.body with
 |some c=>c
 |none=>.skip
def pk6:Sx:=pk ((List.range 6).map D)
def Hx:Sx:=.ap 63 pk6 (I 0) (I 0)
def RQ:Sx:=.ap 64 pk6 (I 0) (I 0)
def r65:Sx:=.ap 65 pk6 (I 0) (I 0)
def CA(op:AV):List (Nat×AV):=[(0,.agg [op,SI 1,SI 2,SI 3,SI 4,LI (D 5)])]
def L3:List (Nat×AV):=[(2,LV 1024 [.int .u8] RQ),(3,.sym .i64 r65)]
abbrev n4:Sh:=.slc [.int .u8]
def LB(x y:Sx):Ob:=.opq 2 0 gid n4 x y [] 5
def Sq:List (Nat×Ob):=[(1024,LB Hx RQ)]
def rX:List Sx:=[RQ,N r65,Hx,RQ]
def iR(op:AV)(cores:List aD)(sp:ST)(p:aD):Bool:=FJ [] OU 79 (CA op) L3 Sq 1025 rX cores sp p
def ja(k:Nat):AV:=.int .i64 (Int.ofNat k)
end
end Go.Proofs.YtlagbijmfchkeaaGreat
