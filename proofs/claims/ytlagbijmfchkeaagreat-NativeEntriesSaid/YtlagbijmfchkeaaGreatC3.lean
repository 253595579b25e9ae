/-
  A part of the law's proof over the abstract evaluator. Conditions: those of each theorem, as it states them.
-/
import Derived.Test.YtlagbijmfchkeaaGreatC2
import Derived.Test.YtlagbijmfchkeaaGreatC1
import Derived.Test.YtlagbijmfchkeaaGreatB1
set_option linter.all false
namespace Go.Proofs.YtlagbijmfchkeaaGreat
open Go.Tw Go.Tw.NE
noncomputable section
abbrev PC(nt:Nat):=Pcs P ba b0 R0 0 0 nt F0
abbrev ck(nt:Nat)(cons:List Con):=yd P ba b0 R0 0 0 nt cons [] []
theorem n8:∀c∈([]:List HCon),c.Sound F0 P ba b0 R0:=fun _ h=>by cases h
theorem Y9{v:Val}:∀q∈([]:List aD),¬@Holds v q:=fun _ h=>by cases h
theorem pT{nt:Nat}{cons:List Con}(hc:∀c∈cons,c.Sound F0 P ba b0 R0){J:List Dat→Prop}{c:Code}{A B Rt:Tl}{sp:ST}{m:Nat}(hfl:sp.flags 2=true)(h0:ck nt cons c A sp m [] [] 0 .normal B=true)(h1:ck nt cons c A sp m [] [] 1 .ret Rt=true):PC nt J c A B Rt (sp.tr F0 m):=
 Pcs.tree base0 (aP _) hc n8 follows (fun _ _=>Y9) (fun _ _=>aC) hfl h0 h1
def dG:Code:=match Tryz.f17.body with
 |some c=>c
 |none=>.skip
def lCa:Code:=Code.l (Code.l (Code.r (Code.l (Code.r (Code.r (Code.r dG))))))
def lCb:Code:=Code.l (Code.l (Code.r (Code.l (Code.r (Code.r (Code.r (Code.r dG)))))))
theorem FQ:dG=.seq (Code.l dG) (.seq (Code.l (Code.r dG)) (.seq (Code.l (Code.r (Code.r dG))) (.seq (.seq (Code.l (Code.l (Code.r (Code.r (Code.r dG))))) (.block 0 (.loop lCa))) (.seq (.seq (Code.l (Code.l (Code.r (Code.r (Code.r (Code.r dG)))))) (.block 3 (.loop lCb))) (Code.r (Code.r (Code.r (Code.r (Code.r dG))))))))):=by kernel_rfl
def tA:Tl:=⟨[(0,LG (D 0))],[],1024⟩
def tR:Tl:=⟨[(2,SI 0)],[],1024⟩
def tB:Tl:=⟨[(0,LG (D 0)),(3,MV 1024)],[(1024,OM (D 1))],1025⟩
def tE:Tl:=⟨[(0,LG (D 0)),(3,MV 1024),(12,LG (D 0)),(13,.sym .i64 (ae (D 0))),(14,SI 2)],[(1024,OM (D 1))],1025⟩
def tG:Tl:=⟨[(0,LG (D 0)),(3,MV 1024),(41,LG (D 0)),(42,.sym .i64 (ae (D 0))),(43,SI 2)],[(1024,OM (D 1))],1025⟩
abbrev L1:Nat:=58
theorem pC0{J}:PC L1 J (Code.l dG) tA tA tR (sC0.tr F0 1):=pT bO (by kernel_rfl) (by kernel_rfl) (by kernel_rfl)
theorem pC1{J}:PC L1 J (Code.l (Code.r dG)) tA tA tR (sC1.tr F0 1):=pT bO (by kernel_rfl) (by kernel_rfl) (by kernel_rfl)
theorem pC2{J}:PC L1 J (Code.l (Code.r (Code.r dG))) tA tB tR (sC2.tr F0 2):=pT bO (by kernel_rfl) (by kernel_rfl) (by kernel_rfl)
theorem pC3{J}:PC L1 J (Code.l (Code.l (Code.r (Code.r (Code.r dG))))) tB tE tR (sC3.tr F0 3):=pT bO (by kernel_rfl) (by kernel_rfl) (by kernel_rfl)
theorem pC5{J}:PC L1 J (Code.l (Code.l (Code.r (Code.r (Code.r (Code.r dG)))))) tB tG tR (sC5.tr F0 3):=pT bO (by kernel_rfl) (by kernel_rfl) (by kernel_rfl)
theorem pC7{J}:PC L1 J (Code.r (Code.r (Code.r (Code.r (Code.r dG))))) tB tB tR (sC7.tr F0 1):=pT bO (by kernel_rfl) (by kernel_rfl) (by kernel_rfl)
abbrev tru:Nat→List Dat→Prop:=fun _ _=>True
theorem pL{nt:Nat}{cons:List Con}(hc:∀c∈cons,c.Sound F0 P ba b0 R0){ct:Nat}{ys:List Nat}{g L:Nat}{id:Nat}{c:Code}{A B Rt:Tl}{sp:ST}{m:Nat}{inv:aD}(hr:sp.rng ct m ys g=true)(hL:L≤1000000000)(hi:inv.all (NZ ct ys g L)=true)(hfl:sp.flags 3=true)
 (h0:ck nt cons c A sp m [] (inv++[]) 0 .normal A=true)(h1:ck nt cons c A sp m [] (inv++[]) 1 .ret Rt=true)(h2:ck nt cons c A sp m [] (inv++[]) 2 (.exit id) B=true):PC nt (fun s=>jT ct ys g L 0 s∧True) (.block id (.loop c)) A B Rt (sp.lp F0 m fun s=>(ah s 0).toL.length):=
 Pcs.rng (X:=tru) (inv2:=[]) base0 (aP _) hc n8 follows hr hL hi (fun _ _ _ _ _=>trivial) (fun _ _ _=>aC) (fun _ _ _ _=>Y9) hfl h0 h1 h2
def iC:aD:=[(lt (D 2) (I 0),false)]
theorem pC4:PC L1 (fun s=>jT 2 [] 0 4000 0 s∧True) (.block 0 (.loop lCa)) tE tB tR (sC4.lp F0 3 fun s=>(ah s 0).toL.length):=pL (cons:=[conFine]) (inv:=iC) (dE Co) (by kernel_rfl) (by omega) (by kernel_rfl) (by kernel_rfl) (by kernel_rfl) (by kernel_rfl) (by kernel_rfl)
theorem pC6:PC L1 (fun s=>jT 2 [] 0 4000 0 s∧True) (.block 3 (.loop lCb)) tG tB tR (sC6.lp F0 3 fun s=>(ah s 0).toL.length):=pL (cons:=[]) (inv:=iC) bO (by kernel_rfl) (by omega) (by kernel_rfl) (by kernel_rfl) (by kernel_rfl) (by kernel_rfl) (by kernel_rfl)
def small(s:List Dat):Prop:=(ah s 0).toL.length≤4000
theorem jC1(s:List Dat)(h:(sC1.tr F0 1 s).1=0):small (sC1.tr F0 1 s).2:=by
 cases hb:@Bx.eval (VL F0 s) (lt (ae (D 0)) (I 4001))with
 |false=>have:(sC1.tr F0 1 s).1=1:=(by unfold ST.tr ST.flg sC1;simp only[ST.val,hb,cond_false];rfl);rw[this]at h;cases h
 |true=>have h2:ah (sC1.tr F0 1 s).2 0=ah s 0:=(by show ah (sC1.nxt F0 1 s) 0=_;rw[sX (by omega)];unfold sC1;simp only[ST.val,hb,cond_true];rfl);have hb':decide (((ah s 0).toL.length:Int)<4001)=true:=hb;have h3:=of_decide_eq_true hb';unfold small;rw[h2];omega
theorem jC3(s:List Dat)(h:small s):jT 2 [] 0 4000 0 (sC3.tr F0 3 s).2∧True:=⟨⟨rfl,aP _,h,fun _ h=>by cases h⟩,trivial⟩
theorem jC5(s:List Dat)(h:small s):jT 2 [] 0 4000 0 (sC5.tr F0 3 s).2∧True:=⟨⟨rfl,aP _,h,fun _ h=>by cases h⟩,trivial⟩
theorem adq{sp:ST}(hr:sp.rng 2 3 [] 0=true)(hfl:sp.flags 3=true)(hq:sp.allW 2 (fun xs=>Nat.beq xs.length 3&&(cu xs 0).same (D 0))=true)(s:List Dat)(h:jT 2 [] 0 4000 0 s∧True)(h0:(sp.lp F0 3 (fun s=>(ah s 0).toL.length) s).1=0):small (sp.lp F0 3 (fun s=>(ah s 0).toL.length) s).2:=by obtain⟨k,t,xs,h1,h2,h3,h4⟩:=MY hr (by omega) h.1 hfl hq h0;unfold small;rw[h4 0 (by omega),Sx.same_eq h3];exact h1.2.2.1
theorem VM{J J2 J3:List Dat→Prop}{f g:List Dat→Nat×List Dat}(h1:∀s,J s→(f s).1=0→J2 (f s).2)(h2:∀s,J2 s→(g s).1=0→J3 (g s).2):∀s,J s→(aB f g s).1=0→J3 (aB f g s).2:=fun s hs h=>by unfold aB at h⊢;by_cases h0:(f s).1=0;{rw[if_pos h0]at h⊢;exact h2 _ (h1 s hs h0) h};rw[if_neg h0]at h;exact absurd h h0
theorem Se:Pf P ba b0 R0 0 0 L1 F0 (fun _=>True) dG tA tR (ld F0):=by
 rw[FQ];unfold ld;refine Pcs.seqR (aP _) pC0 (fun _ _ _=>trivial) (Pcs.seqR (J:=fun _=>True) (J2:=small) (aP _) pC1 (fun s _ h=>jC1 s h) (Pcs.seqR (J2:=small) (aP _) pC2 (fun s h _=>h)
  (Pcs.seqR (J2:=small) (aP _) (Pcs.seq (aP _) pC3 (fun s h _=>jC3 s h) pC4) (VM (fun s h _=>jC3 s h) (adq (by kernel_rfl) (by kernel_rfl) (by kernel_rfl)))
    (Pcs.seqR (J2:=fun _=>True) (aP _) (Pcs.seq (aP _) pC5 (fun s h _=>jC5 s h) pC6) (fun _ _ _=>trivial) (Pcs.ret pC7 fun s _=>rfl)))))
theorem gH{v v':Val}{a a':Sx}(h:(@Sx.dat v a).toI=(@Sx.dat v' a').toI):@Sx.dat v (N a)=@Sx.dat v' (N a'):=congrArg Dat.int h
def conCheck:Con:={f:=17,args:=[LG (D 0)],pre:=[],res:=.sym .i64 (A1 56 (D 0)),objs:=[]}
theorem mC0:cM R0 0 [] (ax [(0,LG (D 0))]) (ag b0 [] R0) [(0,LG (D 0))] [] R0=some [(D 0,D 0)]:=by kernel_rfl
theorem mC1:cM R0 0 [] (ax [(2,SI 0)]) (ag b0 [] R0) [(2,.sym .i64 (A1 56 (D 0)))] [] R0=some [(N (D 0),N (A1 56 (D 0)))]:=by kernel_rfl
theorem qZ:conCheck.Sound F0 P ba b0 R0:=by
 refine bX (fn:=Tryz.f17) (code:=dG) Tryz.func17 (by rfl) (by kernel_rfl) (by kernel_rfl) fun v hF hpre=> ?_;refine⟨.ret,[(2,.sym .i64 (A1 56 (D 0)))],_,_,.inl rfl,?_,by rfl,rfl⟩;have h:=(Se [@Sx.dat v (D 0)] trivial).2;show HR 0 0 L1 v dG (ax [(0,LG (D 0))]) (ag b0 [] R0) .ret v (ax [(2,.sym .i64 (A1 56 (D 0)))]) (ag b0 [] R0);refine HT.pre (aP _) (aI (v:=v) (v':=VL F0 [@Sx.dat v (D 0)]) base0 mC0 (aa rfl al)) ?_;refine HT.retell (aP _) h (aI (v:=VL F0 (ld F0 [@Sx.dat v (D 0)]).2) (v':=v) base0 mC1 (aa ?_ al));have e:@Sx.dat v (A1 56 (D 0))=.int (ah (ld F0 [@Sx.dat v (D 0)]).2 0).toI:=by show v.fn 56 (@Sx.dat v (D 0)) (.int 0) (.int 0)=_;rw[hF,D9]
 refine gH ?_;rw[e];generalize ld F0 [@Sx.dat v (D 0)]=z;rfl
end
end Go.Proofs.YtlagbijmfchkeaaGreat
namespace Go.Proofs.YtlagbijmfchkeaaGreat
open Go.Tw Go.Tw.NE
noncomputable section
theorem jz{v:Val}{a b:Sx}(h:@Bx.eval v (lt a b)=true):(@Sx.dat v a).toI<(@Sx.dat v b).toI:=of_decide_eq_true h
theorem fQ{v:Val}{a b:Sx}(h:@Bx.eval v (lt a b)=false):¬(@Sx.dat v a).toI<(@Sx.dat v b).toI:=of_decide_eq_false h
theorem uH{v:Val}{a b:Sx}(h:@Bx.eval v (eq a b)=true):(@Sx.dat v a).toI=(@Sx.dat v b).toI:=of_decide_eq_true h
theorem tO{v:Val}{a b:Sx}(h:@Bx.eval v (eq a b)=false):¬(@Sx.dat v a).toI=(@Sx.dat v b).toI:=of_decide_eq_false h
theorem ie{v:Val}{a b:Sx}(h:(@Sx.dat v a).toI<(@Sx.dat v b).toI):@Bx.eval v (lt a b)=true:=decide_eq_true h
theorem jw{v:Val}{a b:Sx}(h:¬(@Sx.dat v a).toI<(@Sx.dat v b).toI):@Bx.eval v (lt a b)=false:=decide_eq_false h
theorem dL{v:Val}{a:Sx}:(@Sx.dat v (ae a)).toI=((@Sx.dat v a).toL.length:Int):=rfl
theorem dI{v:Val}{n:Int}:(@Sx.dat v (I n)).toI=n:=rfl
theorem dD{F:Go.Tw.Fn}{s:List Dat}{i:Nat}:@Sx.dat (VL F s) (D i)=ah s i:=rfl
theorem dA{F:Go.Tw.Fn}{s:List Dat}{k:Nat}{a b c:Sx}:@Sx.dat (VL F s) (.ap k a b c)=F k (@Sx.dat (VL F s) a) (@Sx.dat (VL F s) b) (@Sx.dat (VL F s) c):=rfl
theorem M5:∀c∈([]:List Con),c.Sound F0 P ba b0 R0:=bO
theorem IG:∀c∈[hcUntil],c.Sound F0 P ba b0 R0:=xg B9
def cpn:Code:=match Tryz.f18.body with
 |some c=>c
 |none=>.skip
abbrev sF:Sh:=.slc [cX,cX,cX,cX,cX,cX,cX]
abbrev oJ:AV:=.opq 0 1023 0 sF (.dvar 0) (.lit 0)
def pnA:Tl:=⟨[(0,oJ)],[],1024⟩
abbrev HS:Ob:=.box [oJ,.opq 2 1025 0 wR (.lit 0) (.lit 1),.opq 2 1026 0 bo (.lit 0) (.lit 1),.opq 4 1027 0 bo (.lit 0) (.lit 0)] 65
abbrev H8:Ob:=.opq 2 0 1023 wR (.dvar 1) (.lit 1) [] 4
abbrev H3:Ob:=.opq 4 0 1023 bo (.dvar 3) (.lit 0) [] 63
abbrev H2:Ob:=.opq 2 0 1023 bo (.dvar 2) (.lit 1) [] 3
abbrev Py:List (Nat×Ob):=[(1024,HS),(1025,H8),(1026,H2),(1027,H3)]
def pnT1:Tl:=⟨[(2,cD)],Py,1028⟩
def pnT:Nat→Tl:=fun w=>match w with
 |1=>pnT1
 |_=>pnA
theorem R8{J:List Dat→Prop}(hco:∀s,J s→∀q∈M6,¬@Holds (VL F0 s) q)(hinv:∀s,J s→@Holds (VL F0 s) IH):PX P ba b0 R0 0 0 13 F0 J cpn pnA pnA pnT (pn0.tr F0 4):=
 PX.tree (pins:=[]) base0 (by decide) follows (cons:=[]) M5 (af:=[hcUntil]) IG (cores:=M6) hco (inv:=IH) hinv (by kernel_rfl)
theorem R6:cM R0 0 [] (ax pnA.l) (ag b0 pnA.o pnA.nx) pnA.l pnA.o pnA.nx=some ac2:=by kernel_rfl
def pnZ:Tl:=⟨[(2,cD)],[(1024,HS),(1025,.opq 2 0 1023 wR (.ap 45 (.dvar 0) (.lit 0) (.lit 0)) (.lit 1) [] 4),(1026,.opq 2 0 1023 bo (.ap 46 (.dvar 0) (.lit 0) (.lit 0)) (.lit 1) [] 3),(1027,.opq 4 0 1023 bo (.ap 47 (.dvar 0) (.lit 0) (.lit 0)) (.lit 0) [] 63)],1028⟩
theorem R7:cM R0 0 [⟨1024,1024,0,0,0⟩,⟨1025,1025,0,0,0⟩,⟨1026,1026,0,0,0⟩,⟨1027,1027,0,0,0⟩] (ax pnT1.l) (ag b0 pnT1.o pnT1.nx) pnZ.l pnZ.o pnZ.nx=some YN:=by kernel_rfl
def hcPlanned:HCon:={f:=18,args:=[LG (D 0)],pre:=[(lt (ae (D 0)) (.lit 5000),true)],nr:=0,np:=0,ns:=0,locs:=[],ins:=[],v:=.ptr 1024 0 0 4,outs:=OUZ,nx:=1028}
theorem YM{s:List Dat}:∀q∈M6,@Holds (VL F0 s) IH→¬@Holds (VL F0 s) q:=fun q hq hv h=>by have g0:=jz (aF hv).1;rw[dL,dI,dD]at g0;simp only[M6,cP,dQ,or_false]at hq;rcases hq with rfl|rfl;{have g1:=jz (aF h).1;rw[dL,dI,dD]at g1;omega};have g1:=fQ (aF h).1;rw[dL,dI,dD]at g1;omega
theorem pw:hcPlanned.Sound F0 P ba b0 R0:=by
 refine fS (fn:=Tryz.f18) (code:=cpn) Tryz.func18 (by rfl) (by kernel_rfl) (by kernel_rfl) (by kernel_rfl) fun v hF hpre=> ?_;refine⟨.ret,pnZ.l,_,_,.inl rfl,?_,by rfl,rfl⟩;obtain⟨d,hd⟩:∃d,d=@Sx.dat v (D 0):=⟨_,rfl⟩;have hv:@Holds (VL F0 [d]) IH:=by obtain⟨g0,_⟩:=aF hpre;subst hd;exact af g0 aC
 have h:=(R8 (J:=fun s=>@Holds (VL F0 s) IH) (fun s hs q hq=>YM q hq hs) (fun s hs=>hs)) [d] hv;have g0:=jz (aF hv).1;rw[dL,dI,dD]at g0;have e1:@Bx.eval (VL F0 [d]) (lt (ae (D 0)) (I 0))=false:=jw (by rw[dL,dI,dD];omega);have e2:@Bx.eval (VL F0 [d]) (lt (ae (D 0)) (I 1000000001))=true:=ie (by rw[dL,dI,dD];omega);have ev:∀i,pn0.val (VL F0 [d]) i=(ST.leaf [(I 1),(D 0),(.ap 45 (D 0) (I 0) (I 0)),(.ap 46 (D 0) (I 0) (I 0)),(.ap 47 (D 0) (I 0) (I 0))]).val (VL F0 [d]) i:=fun i=>by unfold pn0;simp only[ST.val,e1,e2,cond_false,cond_true]
 have et:pn0.tr F0 4 [d]=(1,[d,F0 45 d (.int 0) (.int 0),F0 46 d (.int 0) (.int 0),F0 47 d (.int 0) (.int 0)]):=by unfold ST.tr ST.flg ST.nxt;simp only[ev];rfl
 rw[et]at h;refine HT.pre (aP _) (aI (v:=v) (v':=VL F0 [d]) base0 R6 (aa hd.symm al)) (HT.retell (aP _) h (aI (v':=v) base0 R7 ?_));unfold YN;have hz:∀n a b,v.fn n (@Sx.dat v (D 0)) a b=F0 n d a b:=fun n a b=>by rw[hF,hd]
 repeat' (first|exact al|refine aa ?_ ?_)
 all_goals first|rfl|exact hd|exact(hz 45 (.int 0) (.int 0)).symm|exact(hz 46 (.int 0) (.int 0)).symm|exact(hz 47 (.int 0) (.int 0)).symm
theorem M8:∀c∈[conCheck],c.Sound F0 P ba b0 R0:=dE qZ
theorem IJ:∀c∈[hcPlanned],c.Sound F0 P ba b0 R0:=xg pw
def cpl:Code:=match Tryz.f12.body with
 |some c=>c
 |none=>.skip
def plA:Tl:=⟨[(0,oJ)],[],1024⟩
abbrev qM:AV:=.sym .i64 (.dvar 2)
def plT1:Tl:=⟨[(2,.opq 2 1024 0 bo (.lit 0) (.dvar 1)),(3,qM)],[(1024,.opq 2 0 1023 bo (.dvar 0) (.dvar 1) [] 3)],1025⟩
def plT:Nat→Tl:=fun w=>match w with
 |1=>plT1
 |_=>plA
theorem Sc{J:List Dat→Prop}(hco:∀s,J s→∀q∈Na,¬@Holds (VL F0 s) q):PX P ba b0 R0 0 0 15 F0 J cpl plA plA plT (pl0.tr F0 3):=
 PX.tree (pins:=[]) base0 (by decide) follows (cons:=[conCheck]) M8 (af:=[hcPlanned]) IJ (cores:=Na) hco (inv:=[]) (fun _ _=>aC) (by kernel_rfl)
theorem R9:cM R0 0 [] (ax plA.l) (ag b0 plA.o plA.nx) plA.l plA.o plA.nx=some ac3:=by kernel_rfl
def plZ:Tl:=⟨[(2,.opq 2 1024 0 bo (.lit 0) (.ap 58 (.dvar 0) (.lit 0) (.lit 0))),(3,.sym .i64 (.ap 56 (.dvar 0) (.lit 0) (.lit 0)))],[(1024,.opq 2 0 1023 bo (.ap 57 (.dvar 0) (.lit 0) (.lit 0)) (.ap 58 (.dvar 0) (.lit 0) (.lit 0)) [] 3)],1025⟩
theorem Sa:cM R0 0 [⟨1024,1024,0,0,0⟩] (ax plT1.l) (ag b0 plT1.o plT1.nx) plZ.l plZ.o plZ.nx=some YQ:=by kernel_rfl
theorem fW{d a b:Dat}(h:(F0 56 d a b).toI=0):d.toL.length≤4000:=by
 rw[D9]at h;apply Classical.byContradiction;intro hno;have hb:@Bx.eval (VL F0 [d]) (lt (ae (D 0)) (I 4001))=false:=jw (by rw[dL,dI,dD];show ¬(d.toL.length:Int)<4001;omega);have e0:sC0.tr F0 1 [d]=(0,[d]):=rfl;have e1:sC1.tr F0 1 [d]=(1,[.int 3]):=by unfold ST.tr ST.flg ST.nxt sC1;simp only[ST.val,hb,cond_false];rfl
 unfold ld at h;have e2:∀g:nE,aB (sC0.tr F0 1) (aB (sC1.tr F0 1) g) [d]=(1,[.int 3]):=fun g=>by unfold aB;rw[e0];simp only[if_true];rw[e1];simp
 rw[e2]at h;exact absurd h (by decide)
theorem GH:oA rQ=oA F0:=by unfold oA;rw[ST.tr_congr (F:=F0) (G:=rQ) (fun f hf=>Ea hf) (sp:=pl0) (nv:=9) (by kernel_rfl)]
theorem PH(s:List Dat):∀q∈Na,¬@Holds (VL F0 s) q:=fun q hq h=>by simp only[Na,cP,dQ,or_false]at hq;subst hq;obtain⟨g0,h⟩:=aF h;have g0:=uH g0;have g1:=fQ (aF h).1;rw[dA,dI]at g0;rw[dL,dI,dD]at g1;have:=fW g0;rw[dD]at this;omega
theorem YO:PX P ba b0 R0 0 0 15 F0 (fun _=>True) cpl plA plA plT (oA F0):=Sc fun s _=>PH s
theorem M7(s:List Dat):(oA F0 s).1=1:=by unfold oA;have:=gm (m:=3) (PH s) (sp:=pl0) (p:=[]) (l:=[1]) (by kernel_rfl) (by kernel_rfl) aC;simpa using this
theorem LU{d a b:Dat}:F0 57 d a b=ah (oA F0 [d]).2 0:=by rw[←GH,ur (by omega)];rfl
theorem LS{d a b:Dat}:F0 58 d a b=ah (oA F0 [d]).2 1:=by rw[←GH,ur (by omega)];rfl
end
end Go.Proofs.YtlagbijmfchkeaaGreat
set_option linter.unusedVariables false
namespace Go.Tw
noncomputable section
def yu(J:List Dat→Prop)(l:List Nat)(f:nE):Prop:=∀s,J s→(f s).1∈l
section
variable{J J2:List Dat→Prop}{l:List Nat}{f g:nE}{F:Fn}
theorem aG{sp:ST}{m:Nat}{cores:List aD}{inv:aD}(hco:∀s,J s→∀q∈cores,¬@Holds (VL F s) q)(hinv:∀s,J s→@Holds (VL F s) inv)(h1:sp.deadsOk cores inv=true)(h2:sp.flsX l=true):yu J l (sp.tr F m):=fun s hs=>
 gm (hco s hs) h1 h2 (hinv s hs)
theorem aK(h1:yu J (0::l) f)(hJ:∀s,J s→(f s).1=0→J2 (f s).2)(h2:yu J2 l g):yu J l (aB f g):=fun s hs=>by unfold aB;by_cases h0:(f s).1=0;{rw[if_pos h0];exact h2 _ (hJ s hs h0)};rw[if_neg h0];rcases List.mem_cons.1 (h1 s hs)with h|h;{exact absurd h h0};exact h
theorem df{id:Nat}(h:yu J ((id+2)::l) f)(h0:0∈l):yu J l (gE id f):=fun s hs=>by unfold gE;by_cases hx:(f s).1=id+2;{rw[if_pos hx];exact h0};rw[if_neg hx];rcases List.mem_cons.1 (h s hs)with h|h;{exact absurd h hx};exact h
theorem ko{sp:ST}{l' c m:Nat}{ys st:List Nat}{g fx B:Nat}(hr:sp.rngX l' c m ys st g fx=true){cores:List aD}{inv:aD}(hd:sp.deadsOk cores inv=true)(hco:∀s,(∃s0 k,J s0∧RngX l' c ys st g B s0 k s)→∀q∈cores,¬@Holds (VL F s) q)
 (hinv:∀s,(∃s0 k,J s0∧RngX l' c ys st g B s0 k s)→@Holds (VL F s) inv)(hB:B≤9223372036854775807)(hJ:∀s,J s→ah s c=.int 0∧(ah s l').toL.length≤B)(hl:sp.flsX (0::l)=true):yu J l (gO (sp.tr F m) fun s=>(ah s l').toL.length):=fun s hs=>by
 obtain⟨n,s',r,_,h1,h2⟩:=oD (F:=F) (m:=m) hr hd hB (s:=s) (Inv:=fun _ _=>True) (fun k s' hr=>hco s' ⟨s,k,hs,hr⟩) (fun k s' hr=>hinv s' ⟨s,k,hs,hr⟩) (hJ s hs).1 (hJ s hs).2 trivial (fun _ _ _ _ _ _=>trivial);rw[h2];rcases List.mem_cons.1 (gm (m:=m) (hco s' ⟨s,n,hs,r⟩) hd hl (hinv s' ⟨s,n,hs,r⟩))with h|h;{exact absurd h h1};exact h
theorem iP(h:yu J [1] f){s:List Dat}(hs:J s):(f s).1=1:=by simpa using h s hs
theorem mN{sp:ST}{l c m:Nat}{ys st:List Nat}{g fx B:Nat}(hr:sp.rngX l c m ys st g fx=true){cores:List aD}{inv:aD}(hd:sp.deadsOk cores inv=true)(hB:B≤9223372036854775807){s:List Dat}{Inv:Nat→List Dat→Prop}
 (hco:∀k s',RngX l c ys st g B s k s'→Inv k s'→∀q∈cores,¬@Holds (VL F s') q)(hinv:∀k s',RngX l c ys st g B s k s'→Inv k s'→@Holds (VL F s') inv)(h0:ah s c=.int 0)(hlen:(ah s l).toL.length≤B)(hI:Inv 0 s)
 (hstep:∀k s',RngX l c ys st g B s k s'→k<(ah s' l).toL.length→Inv k s'→(sp.tr F m s').1=0→Inv (k+1) (sp.tr F m s').2):
 ∃n s',RngX l c ys st g B s n s'∧Inv n s'∧(sp.tr F m s').1≠0∧gO (sp.tr F m) (fun s=>(ah s l).toL.length) s=sp.tr F m s':=by
 have hl:l∈st:=by
  cases sp with
  |ask b t e=>simp only[ST.rngX,ak]at hr;exact mZ hr.2.2.1
  |_=>cases hr
 have hJ:∀k s',RngX l c ys st g B s k s'∧Inv k s'→(sp.tr F m s').1=0→RngX l c ys st g B s (k+1) (sp.tr F m s').2∧Inv (k+1) (sp.tr F m s').2:=fun k s' hk hf=>by obtain⟨q1,q2⟩:=fL hr hB hk.1 hd (hco k s' hk.1 hk.2) (hinv k s' hk.1 hk.2) ((dR hd (hco k s' hk.1 hk.2) (hinv k s' hk.1 hk.2) hr).1 hf);exact⟨q2,hstep k s' hk.1 q1 hk.2 hf⟩
 have hs:RngX l c ys st g B s 0 s∧Inv 0 s:=⟨RngX.start h0 hlen,hI⟩;have hterm:∃k,k≤(ah s l).toL.length∧((sp.tr F m) (pt (sp.tr F m) k s)).1≠0:=by
  apply Classical.byContradiction;intro hno;have hall:∀k,k≤(ah s l).toL.length→(sp.tr F m (pt (sp.tr F m) k s)).1=0:=fun k hk=>Classical.byContradiction fun h=>hno ⟨k,hk,h⟩;have hit:∀k,k≤(ah s l).toL.length→RngX l c ys st g B s k (pt (sp.tr F m) k s)∧Inv k (pt (sp.tr F m) k s):=fun k=>by
   induction k with
   |zero=>intro _;exact hs
   |succ k ih=>intro hk;exact hJ k _ (ih (by omega)) (hall k (by omega))
  have h1:=(hit _ (aw _)).1;obtain⟨f1,f2⟩:=lh (F:=F) hr h1 (by rw[h1.2.2.2.2 l hl]);have:=hall _ (aw _);rw[rA f1]at this;omega
 obtain⟨n,s',h1,h2,h3⟩:=Dx (fu:=fun s=>(ah s l).toL.length) (K:=fun k s'=>RngX l c ys st g B s k s'∧Inv k s') hJ hs hterm;exact⟨n,s',h1.1,h1.2,h2,h3⟩
def AtR(J0:List Dat→Prop)(Inv:List Dat→Nat→List Dat→Prop)(l c:Nat)(ys st:List Nat)(g B:Nat)(s:List Dat):Prop:=∃s0 k,J0 s0∧RngX l c ys st g B s0 k s∧Inv s0 k s
theorem PX.rngI{P:Program}{gl:Nat→Option Nat}{b:bF}{R nr nb nt:Nat}{J0:List Dat→Prop}{A B':Tl}{T:Nat→Tl}{cd:Code}{sp:ST}{l c m:Nat}{ys st:List Nat}{g fx B:Nat}(hrb:nr≤bQ nb)(hr:sp.rngX l c m ys st g fx=true){cores:List aD}{inv:aD}
 (hd:sp.deadsOk cores inv=true){Inv:List Dat→Nat→List Dat→Prop}(hco:∀s,AtR J0 Inv l c ys st g B s→∀q∈cores,¬@Holds (VL F s) q)(hinv:∀s,AtR J0 Inv l c ys st g B s→@Holds (VL F s) inv)(hB:B≤9223372036854775807)
 (hJ:∀s,J0 s→ah s c=.int 0∧(ah s l).toL.length≤B)(hI:∀s,J0 s→Inv s 0 s)(hstep:∀s0 k s',J0 s0→RngX l c ys st g B s0 k s'→k<(ah s' l).toL.length→Inv s0 k s'→(sp.tr F m s').1=0→Inv s0 (k+1) (sp.tr F m s').2)
 (h:PX P gl b R nr nb nt F (AtR J0 Inv l c ys st g B) cd A A T (sp.tr F m)):PX P gl b R nr nb nt F J0 (.loop cd) A B' T (gO (sp.tr F m) fun s=>(ah s l).toL.length):=by
 have hl:l∈st:=by
  cases sp with
  |ask b t e=>simp only[ST.rngX,ak]at hr;exact mZ hr.2.2.1
  |_=>cases hr
 have hst:∀k s,(∃s0,J0 s0∧RngX l c ys st g B s0 k s∧Inv s0 k s)→(sp.tr F m s).1=0→∃s0,J0 s0∧RngX l c ys st g B s0 (k+1) (sp.tr F m s).2∧Inv s0 (k+1) (sp.tr F m s).2:=fun k s ⟨s0,h1,h2,h3⟩ hf=>by have ha:AtR J0 Inv l c ys st g B s:=⟨s0,k,h1,h2,h3⟩;obtain⟨q1,q2⟩:=fL hr hB h2 hd (hco s ha) (hinv s ha) ((dR hd (hco s ha) (hinv s ha) hr).1 hf);exact⟨s0,h1,q2,hstep s0 k s h1 h2 q1 h3 hf⟩
 refine PX.weak (PX.loop hrb (K:=fun k s=>∃s0,J0 s0∧RngX l c ys st g B s0 k s∧Inv s0 k s) (fun k=>PX.weak h fun s ⟨s0,h1,h2⟩=>⟨s0,k,h1,h2⟩) hst fun s hs=> ?_) fun s hs=>⟨s,hs,RngX.start (hJ s hs).1 (hJ s hs).2,hI s hs⟩;obtain⟨s0,h1,h2,h3⟩:=hs;have h0:ah s c=.int 0:=by have:=h2.1;simpa using this
 apply Classical.byContradiction;intro hno;have hall:∀k,k≤(ah s l).toL.length→(sp.tr F m (pt (sp.tr F m) k s)).1=0:=fun k hk=>Classical.byContradiction fun h=>hno ⟨k,hk,h⟩;have hit:∀k,k≤(ah s l).toL.length→RngX l c ys st g B s0 k (pt (sp.tr F m) k s)∧Inv s0 k (pt (sp.tr F m) k s):=fun k=>by
  induction k with
  |zero=>intro _;exact⟨h2,h3⟩
  |succ k ih=>intro hk;have hi:=ih (by omega);have ha:AtR J0 Inv l c ys st g B (pt (sp.tr F m) k s):=⟨s0,k,h1,hi.1,hi.2⟩;have hf:=hall k (by omega);obtain⟨q1,q2⟩:=fL hr hB hi.1 hd (hco _ ha) (hinv _ ha) ((dR hd (hco _ ha) (hinv _ ha) hr).1 hf);exact⟨q2,hstep s0 k _ h1 hi.1 q1 hi.2 hf⟩
 have h4:=(hit _ (aw _)).1;obtain⟨f1,f2⟩:=lh (F:=F) hr h4 (by rw[h4.2.2.2.2 l hl,h2.2.2.2.2 l hl]);have:=hall _ (aw _);rw[rA f1]at this;omega
theorem py{J0:List Dat→Prop}{sp:ST}{lf:List Nat}{l c m:Nat}{ys st:List Nat}{g fx B:Nat}(hr:sp.rngX l c m ys st g fx=true){cores:List aD}{inv:aD}
 (hd:sp.deadsOk cores inv=true){Inv:List Dat→Nat→List Dat→Prop}(hco:∀s,AtR J0 Inv l c ys st g B s→∀q∈cores,¬@Holds (VL F s) q)(hinv:∀s,AtR J0 Inv l c ys st g B s→@Holds (VL F s) inv)(hB:B≤9223372036854775807)
 (hJ:∀s,J0 s→ah s c=.int 0∧(ah s l).toL.length≤B)(hI:∀s,J0 s→Inv s 0 s)(hstep:∀s0 k s',J0 s0→RngX l c ys st g B s0 k s'→k<(ah s' l).toL.length→Inv s0 k s'→(sp.tr F m s').1=0→Inv s0 (k+1) (sp.tr F m s').2)
 (hl:sp.flsX (0::lf)=true):yu J0 lf (gO (sp.tr F m) fun s=>(ah s l).toL.length):=fun s hs=>by
 obtain⟨n,s',r,i,h1,h2⟩:=mN (F:=F) (m:=m) hr hd hB (s:=s) (Inv:=Inv s) (fun k s' hr hi=>hco s' ⟨s,k,hs,hr,hi⟩) (fun k s' hr hi=>hinv s' ⟨s,k,hs,hr,hi⟩) (hJ s hs).1 (hJ s hs).2 (hI s hs) (fun k s' a b c d=>hstep s k s' hs a b c d);rw[h2];have ha:AtR J0 Inv l c ys st g B s':=⟨s,n,hs,r,i⟩;rcases List.mem_cons.1 (gm (m:=m) (hco s' ha) hd hl (hinv s' ha))with h|h;{exact absurd h h1};exact h
end
end
end Go.Tw
namespace Go.Proofs.YtlagbijmfchkeaaGreat
open Go.Tw Go.Tw.NE
noncomputable section
theorem wG{a b:Con}(ha:a.Sound F0 P ba b0 R0)(hb:b.Sound F0 P ba b0 R0):∀c∈[a,b],c.Sound F0 P ba b0 R0:=fun c hc=>by simp only[cP,dQ,or_false]at hc;rcases hc with rfl|rfl;{exact ha};exact hb
theorem gp:∀c∈[conCheck,conEnc],c.Sound F0 P ba b0 R0:=wG qZ FF
theorem eF:∀c∈[hcPlanned],c.Sound F0 P ba b0 R0:=xg pw
def tY:Code:=match Tryz.f11.body with
 |some c=>c
 |none=>.skip
def asA:Tl:=⟨[(0,oJ)],[],1024⟩
abbrev cV:Sh:=.slc [.int .u32]
abbrev js:Ob:=.opq 2 0 1023 cV (.dvar 0) (.dvar 1) [] 67
abbrev CN:AV:=.opq 2 1024 0 cV (.lit 0) (.dvar 1)
def asT1:Tl:=⟨[(2,CN),(3,qM)],[(1024,js)],1025⟩
abbrev vk:Sh:=.slc [cX,cX,cX,cX,cX]
abbrev Bk:Ob:=.opq 2 0 1023 vk (.dvar 0) (.dvar 1) [] 49
abbrev Bh:AV:=.opq 2 1024 0 vk (.lit 0) (.dvar 1)
def ad1:Tl:=⟨[(6,Bh)],[(1024,Bk)],1025⟩
def ad0:Tl:=⟨[(10,CN)],[(1024,js)],1025⟩
def Li:Nat→Tl:=fun w=>match w with
 |1=>asT1
 |2=>ad1
 |9=>ad0
 |_=>asA
def abe:Tl:=⟨[(0,oJ)],[],1024⟩
theorem V7{J:List Dat→Prop}:PX P ba b0 R0 0 0 90 F0 J (cl tY) asA abe Li (as0.tr F0 1):=
 PX.tree (pins:=[]) base0 (by decide) follows (cons:=[conCheck,conEnc]) gp (af:=[hcPlanned]) eF (cores:=[]) (fun _ _ _ h=>by cases h) (inv:=[]) (fun _ _=>aC) (by kernel_rfl)
def abd:Tl:=⟨[(0,oJ)],[],1024⟩
theorem V6{J:List Dat→Prop}:PX P ba b0 R0 0 0 90 F0 J (cl (cr tY)) abe abd Li (as1.tr F0 3):=
 PX.tree (pins:=[]) base0 (by decide) follows (cons:=[conCheck,conEnc]) gp (af:=[hcPlanned]) eF (cores:=[]) (fun _ _ _ h=>by cases h) (inv:=[]) (fun _ _=>aC) (by kernel_rfl)
def abc:Tl:=⟨[(0,oJ),(5,cD)],Py,1028⟩
theorem V5{J:List Dat→Prop}(hco:∀s,J s→∀q∈O7,¬@Holds (VL F0 s) q):PX P ba b0 R0 0 0 90 F0 J (cl (cr (cr tY))) abd abc Li (as2.tr F0 4):=
 PX.tree (pins:=[]) base0 (by decide) follows (cons:=[conCheck,conEnc]) gp (af:=[hcPlanned]) eF (cores:=O7) hco (inv:=[]) (fun _ _=>aC) (by kernel_rfl)
abbrev PA:List (Nat×Ob):=[(1024,HS),(1025,H8),(1026,H2),(1027,H3),(1028,.opq 2 0 1023 vk (.dvar 4) (.dvar 5) [] 49)]
abbrev HW:AV:=.opq 2 1028 0 vk (.lit 0) (.dvar 5)
def abb:Tl:=⟨[(0,oJ),(5,cD),(6,HW)],PA,1029⟩
theorem V0{J:List Dat→Prop}:PX P ba b0 R0 0 0 90 F0 J (cl (cr (cr (cr tY)))) abc abb Li (as3.tr F0 6):=
 PX.tree (pins:=[]) base0 (by decide) follows (cons:=[conCheck,conEnc]) gp (af:=[hcPlanned]) eF (cores:=[]) (fun _ _ _ h=>by cases h) (inv:=[]) (fun _ _=>aC) (by kernel_rfl)
abbrev wU:AV:=.sym .i64 (.dvar 6)
abbrev HN:AV:=.sym .i64 (.pr 7 (.dvar 0) (.lit 0))
def VV:Tl:=⟨[(5,cD),(6,HW),(22,oJ),(23,HN),(24,wU)],PA,1029⟩
theorem VZ{J:List Dat→Prop}:PX P ba b0 R0 0 0 90 F0 J (cl (cl (cr (cr (cr (cr tY)))))) abb VV Li (as4.tr F0 7):=
 PX.tree (pins:=[]) base0 (by decide) follows (cons:=[conCheck,conEnc]) gp (af:=[hcPlanned]) eF (cores:=[]) (fun _ _ _ h=>by cases h) (inv:=[]) (fun _ _=>aC) (by kernel_rfl)
theorem VY{J:List Dat→Prop}(hco:∀s,J s→∀q∈Lj,¬@Holds (VL F0 s) q)(hinv:∀s,J s→@Holds (VL F0 s) Cw):PX P ba b0 R0 0 0 90 F0 J (cl (cl (cr (cl (cr (cr (cr (cr tY)))))))) VV VV Li (as6.tr F0 7):=
 PX.tree (pins:=[]) base0 (by decide) follows (cons:=[conCheck,conEnc]) gp (af:=[hcPlanned]) eF (cores:=Lj) hco (inv:=Cw) hinv (by kernel_rfl)
def ad3:Tl:=⟨[(6,Bh)],[(1024,Bk)],1025⟩
def aba:Tl:=⟨[(6,Bh),(10,.opq 2 1025 0 cV (.lit 0) (.dvar 3))],[(1024,Bk),(1025,.opq 2 0 1023 cV (.dvar 2) (.dvar 3) [] 67)],1026⟩
theorem VX{J:List Dat→Prop}:PX P ba b0 R0 0 0 90 F0 J (cl (cr (cr (cr (cr (cr tY)))))) ad3 aba Li (as8.tr F0 4):=
 PX.tree (pins:=[]) base0 (by decide) follows (cons:=[conCheck,conEnc]) gp (af:=[hcPlanned]) eF (cores:=[]) (fun _ _ _ h=>by cases h) (inv:=[]) (fun _ _=>aC) (by kernel_rfl)
abbrev CL:AV:=.sym .i64 (.pr 7 (.dvar 2) (.lit 0))
abbrev qf:AV:=.sym .i64 (.dvar 4)
def VU:Tl:=⟨[(10,CN),(70,.opq 2 1025 0 vk (.lit 0) (.dvar 3)),(71,CL),(72,qf)],[(1024,js),(1025,.opq 2 0 1023 vk (.dvar 2) (.dvar 3) [] 49)],1026⟩
theorem VW{J:List Dat→Prop}:PX P ba b0 R0 0 0 90 F0 J (cl (cl (cr (cr (cr (cr (cr (cr tY)))))))) aba VU Li (as9.tr F0 5):=
 PX.tree (pins:=[]) base0 (by decide) follows (cons:=[conCheck,conEnc]) gp (af:=[hcPlanned]) eF (cores:=[]) (fun _ _ _ h=>by cases h) (inv:=[]) (fun _ _=>aC) (by kernel_rfl)
theorem O9{J:List Dat→Prop}(hco:∀s,J s→∀q∈Ay,¬@Holds (VL F0 s) q)(hinv:∀s,J s→@Holds (VL F0 s) D5):PX P ba b0 R0 0 0 90 F0 J (cl (cl (cr (cl (cr (cr (cr (cr (cr (cr tY)))))))))) VU VU Li (as11.tr F0 5):=
 PX.tree (pins:=[]) base0 (by decide) follows (cons:=[conCheck,conEnc]) gp (af:=[hcPlanned]) eF (cores:=Ay) hco (inv:=D5) hinv (by kernel_rfl)
def QU:Tl:=⟨[(10,CN)],[(1024,js)],1025⟩
theorem O8{J:List Dat→Prop}:PX P ba b0 R0 0 0 90 F0 J (cr (cr (cr (cr (cr (cr (cr tY))))))) QU QU Li (as13.tr F0 3):=
 PX.tree (pins:=[]) base0 (by decide) follows (cons:=[conCheck,conEnc]) gp (af:=[hcPlanned]) eF (cores:=[]) (fun _ _ _ h=>by cases h) (inv:=[]) (fun _ _=>aC) (by kernel_rfl)
theorem VS:cM R0 0 [] (ax asA.l) (ag b0 asA.o asA.nx) asA.l asA.o asA.nx=some ad2:=by kernel_rfl
def asZ:Tl:=⟨[(2,.opq 2 1024 0 cV (.lit 0) (.ap 60 (.dvar 0) (.lit 0) (.lit 0))),(3,.sym .i64 (.ap 61 (.dvar 0) (.lit 0) (.lit 0)))],[(1024,.opq 2 0 1023 cV (.ap 59 (.dvar 0) (.lit 0) (.lit 0)) (.ap 60 (.dvar 0) (.lit 0) (.lit 0)) [] 67)],1025⟩
theorem VT:cM R0 0 [⟨1024,1024,0,0,0⟩] (ax asT1.l) (ag b0 asT1.o asT1.nx) asZ.l asZ.o asZ.nx=some aa9:=by kernel_rfl
theorem aa8:tY=(.seq (cl tY) (.seq (cl (cr tY)) (.seq (cl (cr (cr tY))) (.seq (cl (cr (cr (cr tY)))) (.seq (.seq (cl (cl (cr (cr (cr (cr tY)))))) (.block 0 (.loop (cl (cl (cr (cl (cr (cr (cr (cr tY))))))))))) (.seq (cl (cr (cr (cr (cr (cr tY)))))) (.seq (.seq (cl (cl (cr (cr (cr (cr (cr (cr tY)))))))) (.block 7 (.loop (cl (cl (cr (cl (cr (cr (cr (cr (cr (cr tY))))))))))))) (cr (cr (cr (cr (cr (cr (cr tY)))))))))))))):=by kernel_rfl
def jA(s:List Dat):Prop:=(ah s 0).toL.length<5000
def jB(s:List Dat):Prop:=jA s∧(ah s 1).toL.length=(ah s 0).toL.length∧(ah s 2).toL.length=(ah s 0).toL.length+1
def jC(s:List Dat):Prop:=jB s∧(ah s 4).toL.length=0
def jD(s:List Dat):Prop:=jC s∧ah s 6=.int 0
def jE(s:List Dat):Prop:=(ah s 0).toL.length≤10000
def jE2(s:List Dat):Prop:=jE s∧(ah s 2).toL.length=0
def jF(s:List Dat):Prop:=(ah s 2).toL.length≤10000∧(ah s 0).toL.length=0∧ah s 4=.int 0
theorem kS{sp:ST}{F:Go.Tw.Fn}{m i:Nat}{s:List Dat}(h:i<m):ah (sp.tr F m s).2 i=sp.val (VL F s) (i+1):=sX h
theorem Q0(s:List Dat)(h:(as1.tr F0 3 s).1=0):jA (as1.tr F0 3 s).2:=by
 cases hb:@Bx.eval (VL F0 s) (eq (.ap 56 (D 0) (I 0) (I 0)) (I 0))with
 |false=>have:(as1.tr F0 3 s).1=1:=(by unfold as1 ST.tr ST.flg;simp only[ST.val,hb,cond_false];rfl);rw[this]at h;cases h
 |true=>have e:ah (as1.tr F0 3 s).2 0=ah s 0:=(by rw[kS (by omega)];unfold as1;simp only[ST.val,hb,cond_true];rfl);have g:=uH hb;rw[dA,dI]at g;have:=fW g;rw[dD]at this;unfold jA;rw[e];omega
theorem Lm(s:List Dat)(hs:jA s):∀q∈O7,¬@Holds (VL F0 s) q:=fun q hq h=>by simp only[O7,cP,dQ,or_false]at hq;subst hq;have g:=fQ (aF h).1;rw[dL,dI,dD]at g;unfold jA at hs;omega
theorem DQ{d a b:Dat}:(F0 45 d a b).toL.length=d.toL.length:=by rw[je rfl];show(tJ d).toL.length=_;exact mX d _
theorem II{d a b:Dat}:(F0 46 d a b).toL.length=d.toL.length+1:=by rw[je rfl];show(Go.Tw.plA d (tJ d) (d.toL.length+1)).length=_;exact plA_len _ _ _
theorem QZ(s:List Dat)(hs:jA s):jB (as2.tr F0 4 s).2:=by
 have hb:@Bx.eval (VL F0 s) (lt (ae (D 0)) (I 5000))=true:=ie (by rw[dL,dI,dD];unfold jA at hs;omega);have e0:ah (as2.tr F0 4 s).2 0=ah s 0:=by rw[kS (by omega)];unfold as2;simp only[ST.val,hb,cond_true];rfl
 have e1:ah (as2.tr F0 4 s).2 1=F0 45 (ah s 0) (.int 0) (.int 0):=by rw[kS (by omega)];unfold as2;simp only[ST.val,hb,cond_true];rfl
 have e2:ah (as2.tr F0 4 s).2 2=F0 46 (ah s 0) (.int 0) (.int 0):=by rw[kS (by omega)];unfold as2;simp only[ST.val,hb,cond_true];rfl
 refine⟨?_,?_,?_⟩;{unfold jA at hs⊢;rw[e0];exact hs};{rw[e0,e1,DQ]};rw[e0,e2,II]
theorem QY(s:List Dat)(hs:jB s):jC (as3.tr F0 6 s).2:=⟨hs,rfl⟩
theorem D4(s:List Dat)(hs:jC s):jD (as4.tr F0 7 s).2:=⟨hs,rfl⟩
theorem ui:as6.rngX 0 6 7 [4] [0,1,2,3] 2 2=true:=by kernel_rfl
theorem pN:as6.deadsOk Lj Cw=true:=by kernel_rfl
def TY(s:List Dat):Prop:=∃s0 k,jD s0∧RngX 0 6 [4] [0,1,2,3] 2 5000 s0 k s
theorem qH{s:List Dat}(h:TY s):∃k:Nat,ah s 6=.int k∧(ah s 0).toL.length<5000∧(ah s 1).toL.length=(ah s 0).toL.length∧(ah s 2).toL.length=(ah s 0).toL.length+1∧(ah s 4).toL.length≤10000:=by obtain⟨s0,k,⟨⟨⟨a1,a2,a3⟩,a4⟩,a5⟩,r1,r2,r3,r4,r5⟩:=h;have e0:=r5 0 (by simp);have e1:=r5 1 (by simp);have e2:=r5 2 (by simp);have y4:=r4 4 (by simp);unfold jA at a1;refine⟨k,r1,by rw[e0];exact a1,by rw[e0,e1];exact a2,by rw[e0,e2];exact a3,?_⟩;rw[e0]at r2;omega
theorem jc(s:List Dat)(h:TY s):∀q∈Lj,¬@Holds (VL F0 s) q:=fun q hq hh=>by obtain⟨k,f1,f2,f3,f4,f5⟩:=qH h;simp only[Lj,cP,dQ,or_false]at hq;rcases hq with rfl|rfl|rfl;{have g:=fQ (aF hh).1;rw[dL,dI,dD]at g;omega};{obtain⟨g0,hh⟩:=aF hh;have g0:=jz g0;have g1:=fQ (aF hh).1;rw[dL,dD,dD]at g0 g1;omega};obtain⟨g0,hh⟩:=aF hh;have g0:=jz g0;have g1:=fQ (aF hh).1;rw[dL,dD,dD]at g0 g1;omega
theorem gq(s:List Dat)(h:TY s):@Holds (VL F0 s) Cw:=by obtain⟨k,f1,_⟩:=qH h;refine af (jw ?_) aC;rw[dI,dD,f1];show ¬(k:Int)<0;omega
theorem QV(s:List Dat)(hs:jE2 s):jF (as9.tr F0 5 s).2:=⟨hs.1,hs.2,rfl⟩
theorem Lq:as11.deadsOk Ay D5=true:=by kernel_rfl
def TZ(s:List Dat):Prop:=∃s0 k,jF s0∧RngX 2 4 [0] [2,3] 1 10000 s0 k s
theorem Ln:as11.rngX 2 4 5 [0] [2,3] 1 9=true:=by kernel_rfl
theorem uk{s:List Dat}(h:TZ s):∃k:Nat,ah s 4=.int k∧(ah s 2).toL.length≤10000∧(ah s 0).toL.length≤10000:=by obtain⟨s0,k,⟨a1,a2,a3⟩,r1,r2,r3,r4,r5⟩:=h;have e0:=r5 2 (by simp);have y0:=r4 0 (by simp);refine⟨k,r1,r3,?_⟩;omega
theorem yh(s:List Dat)(h:TZ s):∀q∈Ay,¬@Holds (VL F0 s) q:=fun q hq hh=>by obtain⟨k,f1,f2,f3⟩:=uk h;simp only[Ay,cP,dQ,or_false]at hq;subst hq;have g:=fQ (aF hh).1;rw[dL,dI,dD]at g;omega
theorem uj(s:List Dat)(h:TZ s):@Holds (VL F0 s) D5:=by obtain⟨k,f1,_⟩:=uk h;refine af (jw ?_) aC;rw[dI,dD,f1];show ¬(k:Int)<0;omega
theorem Lk:as6.leafs 2 (fun _ xs=>(cu xs 0).same (D 4)) Cw=true:=by kernel_rfl
theorem QX(s:List Dat)(hs:jD s)(h:(gE 0 (gO (as6.tr F0 7) (fun s=>(ah s 0).toL.length)) s).1=0):jE (gE 0 (gO (as6.tr F0 7) (fun s=>(ah s 0).toL.length)) s).2:=by
 obtain⟨n,s',r,_,h1,h2⟩:=oD (F:=F0) ui pN (by omega) (s:=s) (Inv:=fun _ _=>True) (fun k s' hr=>jc s' ⟨s,k,hs,hr⟩) (fun k s' hr=>gq s' ⟨s,k,hs,hr⟩) hs.2 (by have:=hs.1.1.1;unfold jA at this;omega) trivial (fun _ _ _ _ _ _=>trivial);have hj:TY s':=⟨s,n,hs,r⟩;obtain⟨k,f1,f2,f3,f4,f5⟩:=qH hj;unfold gE at h⊢;rw[h2]at h⊢;by_cases hx:(as6.tr F0 7 s').1=0+2
 ·rw[if_pos hx];have hw:as6.flg F0 s'=((2:Nat):Int):=by
   obtain⟨q,hq⟩:=iM (F:=F0) (s:=s') (fq ui);have hx:(as6.flg F0 s').toNat=2:=hx;rw[hq]at hx⊢;omega
  obtain⟨p',xs,q1,_,q3⟩:=cF (jc s' hj) pN Lk (gq s' hj) hw;have e:ah (as6.tr F0 7 s').2 0=ah s' 4:=by
   rw[kS (by omega),q3 0];have:=Sx.same_eq q1;rw[bV]at this;cases xs with
   |nil=>cases this
   |cons x xs=>have this:x=D 4:=this;subst this;rfl
  unfold jE;show(ah (as6.tr F0 7 s').2 0).toL.length≤10000;rw[e];exact f5
 rw[if_neg hx]at h;exact absurd h h1
theorem QW(s:List Dat)(hs:jE s):jE2 (as8.tr F0 4 s).2:=⟨hs,rfl⟩
theorem aa6:PX P ba b0 R0 0 0 90 F0 (fun _=>True) tY asA asA Li (lg F0):=by
 rw[aa8];exact PX.seq (J2:=fun _=>True) (by decide) V7 (fun _ _ _=>trivial) (PX.seq (J2:=jA) (by decide) V6 (fun s _ h=>Q0 s h) (PX.seq (J2:=jB) (by decide) (V5 Lm) (fun s hs _=>QZ s hs) (PX.seq (J2:=jC) (by decide) V0 (fun s hs _=>QY s hs)
  (PX.seq (J2:=jE) (by decide) (PX.seq (J2:=jD) (by decide) VZ (fun s hs _=>D4 s hs) (PX.block (PX.rng (by decide) ui pN jc gq (by omega) (fun s hs=>⟨hs.2,by have:=hs.1.1.1;unfold jA at this;omega⟩) (VY jc gq)) rfl))
    (fun s hs h=>by unfold aB at h⊢;have e:(as4.tr F0 7 s).1=0:=rfl;rw[if_pos e]at h⊢;exact QX _ (D4 s hs) h)
    (PX.seq (J2:=jE2) (by decide) VX (fun s hs _=>QW s hs) (PX.seq (J2:=fun _=>True) (by decide) (PX.seq (J2:=jF) (by decide) VW (fun s hs _=>QV s hs) (PX.block (PX.rng (by decide) Ln Lq yh uj (by omega) (fun s hs=>⟨hs.2.2,hs.1⟩) (O9 yh uj)) rfl)) (fun _ _ _=>trivial) O8))))))
theorem aM{J:List Dat→Prop}:∀s,J s→∀q∈([]:List aD),¬@Holds (VL F0 s) q:=fun _ _ _ h=>by cases h
theorem aW{J:List Dat→Prop}:∀s,J s→@Holds (VL F0 s) []:=fun _ _=>aC
theorem aa7:yu (fun _=>True) [1] (lg F0):=
 aK (J2:=fun _=>True) (aG aM aW (by kernel_rfl) (by kernel_rfl)) (fun _ _ _=>trivial) (aK (J2:=jA) (aG aM aW (by kernel_rfl) (by kernel_rfl)) (fun s _ h=>Q0 s h) (aK (J2:=jB) (aG Lm aW (by kernel_rfl) (by kernel_rfl)) (fun s hs _=>QZ s hs) (aK (J2:=jC) (aG aM aW (by kernel_rfl) (by kernel_rfl)) (fun s hs _=>QY s hs)
  (aK (J2:=jE) (aK (J2:=jD) (aG aM aW (by kernel_rfl) (by kernel_rfl)) (fun s hs _=>D4 s hs) (df (ko ui pN jc gq (by omega) (fun s hs=>⟨hs.2,by have:=hs.1.1.1;unfold jA at this;omega⟩) (by kernel_rfl)) (by simp)))
    (fun s hs h=>by unfold aB at h⊢;have e:(as4.tr F0 7 s).1=0:=rfl;rw[if_pos e]at h⊢;exact QX _ (D4 s hs) h)
    (aK (J2:=jE2) (aG aM aW (by kernel_rfl) (by kernel_rfl)) (fun s hs _=>QW s hs) (aK (J2:=fun _=>True) (aK (J2:=jF) (aG aM aW (by kernel_rfl) (by kernel_rfl)) (fun s hs _=>QV s hs) (df (ko Ln Lq yh uj (by omega) (fun s hs=>⟨hs.2.2,hs.1⟩) (by kernel_rfl)) (by simp))) (fun _ _ _=>trivial) (aG aM aW (by kernel_rfl) (by kernel_rfl))))))))
theorem AZ:lg rQ=lg F0:=by
 have h:∀f,f<57→rQ f=F0 f:=fun f hf=>(Ea hf).symm;unfold lg;rw[ST.tr_congr (F:=rQ) (G:=F0) h (sp:=as0) (nv:=9) (by kernel_rfl),ST.tr_congr (F:=rQ) (G:=F0) h (sp:=as1) (nv:=9) (by kernel_rfl),ST.tr_congr (F:=rQ) (G:=F0) h (sp:=as2) (nv:=9) (by kernel_rfl),ST.tr_congr (F:=rQ) (G:=F0) h (sp:=as3) (nv:=9) (by kernel_rfl),ST.tr_congr (F:=rQ) (G:=F0) h (sp:=as4) (nv:=9) (by kernel_rfl),
  ST.tr_congr (F:=rQ) (G:=F0) h (sp:=as6) (nv:=9) (by kernel_rfl),ST.tr_congr (F:=rQ) (G:=F0) h (sp:=as8) (nv:=9) (by kernel_rfl),ST.tr_congr (F:=rQ) (G:=F0) h (sp:=as9) (nv:=9) (by kernel_rfl),ST.tr_congr (F:=rQ) (G:=F0) h (sp:=as11) (nv:=9) (by kernel_rfl),ST.tr_congr (F:=rQ) (G:=F0) h (sp:=as13) (nv:=9) (by kernel_rfl)]
theorem dI'{v:Val}{n:Int}:@Sx.dat v (I n)=Dat.int n:=rfl
theorem dN{v:Val}{a:Sx}:(@Sx.dat v (N a)).toI=(@Sx.dat v a).toI:=rfl
def conPlaces:Con:={f:=12,args:=[LG (D 0)],pre:=[],res:=.tup [LV 1024 [cX] (.ap 58 (D 0) (I 0) (I 0)),.sym .i64 (A1 56 (D 0))],objs:=[OI (A1 57 (D 0)) (.ap 58 (D 0) (I 0) (I 0))]}
def conAsm:Con:={f:=11,args:=[LG (D 0)],pre:=[],res:=.tup [LV 1024 [.int .u32] (.ap 60 (D 0) (I 0) (I 0)),.sym .i64 (A1 61 (D 0))],objs:=[.opq 2 0 gid cV (A1 59 (D 0)) (.ap 60 (D 0) (I 0) (I 0)) [] 67]}
theorem Sb(d:Dat):(ah (oA F0 [d]).2 2).toI=(F0 56 d (.int 0) (.int 0)).toI:=by
 unfold oA;rw[kS (by omega)];unfold pl0;cases hb:@Bx.eval (VL F0 [d]) (eq (.ap 56 (D 0) (I 0) (I 0)) (I 0))with
 |false=>simp only[ST.val,hb,cond_false];show(@Sx.dat (VL F0 [d]) (N (.ap 56 (D 0) (I 0) (I 0)))).toI=_;have e0:@Sx.dat (VL F0 [d]) (D 0)=d:=rfl;rw[dN,dA,e0,dI']
 |true=>have g:=uH hb;rw[dA,dI]at g;have h0:(F0 56 d (.int 0) (.int 0)).toI=0:=g;have h1:@Bx.eval (VL F0 [d]) (lt (ae (D 0)) (I 5000))=true:=ie (by rw[dL,dI,dD];have:=fW h0;show(d.toL.length:Int)<5000;omega);simp only[ST.val,hb,h1,cond_true];rw[h0];rfl
theorem ya:conPlaces.Sound F0 P ba b0 R0:=by
 refine bX (fn:=Tryz.f12) (code:=cpl) Tryz.func12 (by rfl) (by kernel_rfl) (by kernel_rfl) fun v hF hpre=> ?_;refine⟨.ret,plZ.l,_,_,.inl rfl,?_,by rfl,rfl⟩;obtain⟨d,hd⟩:∃d,d=@Sx.dat v (D 0):=⟨_,rfl⟩;have h:=PX.ret YO (s:=[d]) trivial (M7 _);refine HT.pre (aP _) (aI (v:=v) (v':=VL F0 [d]) base0 R9 (aa hd.symm al)) (HT.retell (aP _) h (aI (v':=v) base0 Sa ?_));have hz:∀n a b,v.fn n (@Sx.dat v (D 0)) a b=F0 n d a b:=fun n a b=>by rw[hF,hd]
 unfold YQ;refine aa ?_ (aa (gH ?_) (aa ?_ (aa ?_ al)));{exact(LS (d:=d)).symm.trans (hz 58 (.int 0) (.int 0)).symm};{exact(Sb d).trans (congrArg Dat.toI (hz 56 (.int 0) (.int 0)).symm)};{exact(LU (d:=d)).symm.trans (hz 57 (.int 0) (.int 0)).symm};exact(LS (d:=d)).symm.trans (hz 58 (.int 0) (.int 0)).symm
theorem LQ{d a b:Dat}:F0 59 d a b=ah (lg F0 [d]).2 0:=by rw[←AZ,ur (by omega)];rfl
theorem Wp{d a b:Dat}:F0 60 d a b=ah (lg F0 [d]).2 1:=by rw[←AZ,ur (by omega)];rfl
theorem LP{d a b:Dat}:F0 61 d a b=.int (ah (lg F0 [d]).2 2).toI:=by rw[←AZ,ur (by omega)];rfl
theorem FG:conAsm.Sound F0 P ba b0 R0:=by
 refine bX (fn:=Tryz.f11) (code:=tY) Tryz.func11 (by rfl) (by kernel_rfl) (by kernel_rfl) fun v hF hpre=> ?_;refine⟨.ret,asZ.l,_,_,.inl rfl,?_,by rfl,rfl⟩;obtain⟨d,hd⟩:∃d,d=@Sx.dat v (D 0):=⟨_,rfl⟩;have h:=PX.ret aa6 (s:=[d]) trivial (iP aa7 trivial);refine HT.pre (aP _) (aI (v:=v) (v':=VL F0 [d]) base0 VS (aa hd.symm al)) (HT.retell (aP _) h (aI (v':=v) base0 VT ?_));have hz:∀n a b,v.fn n (@Sx.dat v (D 0)) a b=F0 n d a b:=fun n a b=>by rw[hF,hd]
 have q0:@Sx.dat v (A1 59 (D 0))=ah (lg F0 [d]).2 0:=(hz 59 (.int 0) (.int 0)).trans LQ;have q1:@Sx.dat v (.ap 60 (D 0) (I 0) (I 0))=ah (lg F0 [d]).2 1:=(hz 60 (.int 0) (.int 0)).trans Wp;have q2:@Sx.dat v (.ap 61 (D 0) (I 0) (I 0))=.int (ah (lg F0 [d]).2 2).toI:=(hz 61 (.int 0) (.int 0)).trans LP;generalize lg F0 [d]=S at q0 q1 q2;unfold aa9;exact aa (dD.trans q1.symm) (aa (gH (by rw[q2,dD];rfl)) (aa (dD.trans q0.symm) (aa (dD.trans q1.symm) al)))
end
end Go.Proofs.YtlagbijmfchkeaaGreat
