/-
  A part of the law's proof over the abstract evaluator. Conditions: those of each theorem, as it states them.
-/
import Derived.Test.YtlagbijmfchkeaaGreatC5
import Derived.Test.YtlagbijmfchkeaaGreatM1
set_option linter.all false
namespace Go.Proofs.YtlagbijmfchkeaaGreat
open Go.Tw Go.Tw.NE
noncomputable section
theorem pH:∀c∈([]:List Con),c.Sound F0 P ba b0 R0:=SD
theorem mu:∀c∈([]:List HCon),c.Sound F0 P ba b0 R0:=SC
def FK:Code:=match Tryz.f7.body with
 |some c=>c
 |none=>.skip
abbrev Bg:AV:=.opq 0 1023 0 bo (.dvar 2) (.lit 0)
def enA:Tl:=⟨[(0,.agg [.opq 0 1023 0 cV (.dvar 0) (.lit 0),.opq 0 1023 0 bo (.dvar 1) (.lit 0),Bg]),(1,sR)],[],1024⟩
def enT1:Tl:=⟨[(4,gw),(5,sS)],[],1024⟩
def adP:Tl:=⟨[],[],1024⟩
def WD:Nat→Tl:=fun w=>match w with
 |1=>enT1
 |2=>adP
 |_=>enA
abbrev HE:List (Nat×Ob):=[(1024,.box [.opq 0 1023 0 cV (.dvar 1) (.lit 0),Bg,.opq 0 1023 0 bo (.dvar 3) (.lit 0)] 30)]
def aaj:Tl:=⟨[(1,gw),(2,gL)],HE,1025⟩
theorem U1{J:List Dat→Prop}:PX P ba b0 R0 0 0 32 F0 J (cl FK) enA aaj WD (en0.tr F0 4):=
 PX.tree (pins:=[]) base0 (by decide) follows (cons:=[]) pH (af:=[]) mu (cores:=[]) (fun _ _ _ h=>by cases h) (inv:=[]) (fun _ _=>aC) (by kernel_rfl)
def aai:Tl:=⟨[(1,gw),(2,gL)],HE,1025⟩
theorem U0{J:List Dat→Prop}:PX P ba b0 R0 0 0 32 F0 J (cl (cl (cr FK))) aaj aai WD (en1.tr F0 4):=
 PX.tree (pins:=[]) base0 (by decide) follows (cons:=[]) pH (af:=[]) mu (cores:=[]) (fun _ _ _ h=>by cases h) (inv:=[]) (fun _ _=>aC) (by kernel_rfl)
def UW:Tl:=⟨[(1,gw),(2,gL),(9,Bg),(10,CL),(11,qf)],HE,1025⟩
theorem UZ{J:List Dat→Prop}:PX P ba b0 R0 0 0 32 F0 J (cl (cl (cr (cl (cr FK))))) aai UW WD (en2.tr F0 5):=
 PX.tree (pins:=[]) base0 (by decide) follows (cons:=[]) pH (af:=[]) mu (cores:=[]) (fun _ _ _ h=>by cases h) (inv:=[]) (fun _ _=>aC) (by kernel_rfl)
theorem UY{J:List Dat→Prop}(hinv:∀s,J s→@Holds (VL F0 s) Oh):PX P ba b0 R0 0 0 32 F0 J (cl (cl (cr (cl (cr (cl (cr FK))))))) UW UW WD (en4.tr F0 5):=
 PX.tree (pins:=[]) base0 (by decide) follows (cons:=[]) pH (af:=[]) mu (cores:=[]) (fun _ _ _ h=>by cases h) (inv:=Oh) hinv (by kernel_rfl)
def UU:Tl:=⟨[],[],1024⟩
theorem UX{J:List Dat→Prop}:PX P ba b0 R0 0 0 32 F0 J (cr (cr (cl (cr FK)))) UU UU WD (en6.tr F0 2):=
 PX.tree (pins:=[]) base0 (by decide) follows (cons:=[]) pH (af:=[]) mu (cores:=[]) (fun _ _ _ h=>by cases h) (inv:=[]) (fun _ _=>aC) (by kernel_rfl)
theorem US:cM R0 0 [] (ax enA.l) (ag b0 enA.o enA.nx) enA.l enA.o enA.nx=some aah:=by kernel_rfl
def enZ:Tl:=⟨[(4,.sym .i64 (.ap 81 (.pr 12 (.dvar 0) (.pr 12 (.dvar 1) (.pr 12 (.dvar 2) (.pr 12 (.dvar 3) (.pr 14 (.lit 0) (.lit 0)))))) (.lit 0) (.lit 0))),(5,.sym .i64 (.ap 82 (.pr 12 (.dvar 0) (.pr 12 (.dvar 1) (.pr 12 (.dvar 2) (.pr 12 (.dvar 3) (.pr 14 (.lit 0) (.lit 0)))))) (.lit 0) (.lit 0)))],[],1024⟩
theorem UT:cM R0 0 [] (ax enT1.l) (ag b0 enT1.o enT1.nx) enZ.l enZ.o enZ.nx=some adQ:=by kernel_rfl
theorem aag:FK=(.seq (cl FK) (.scope (.seq (cl (cl (cr FK))) (.seq (.seq (cl (cl (cr (cl (cr FK))))) (.block 0 (.loop (cl (cl (cr (cl (cr (cl (cr FK)))))))))) (cr (cr (cl (cr FK)))))))):=by kernel_rfl
def jEn(s:List Dat):Prop:=(ah s 1).toL.length<1000000
def Ke(s:List Dat):Prop:=(ah s 2).toL.length<1000000
def Kd(s:List Dat):Prop:=(ah s 2).toL.length<1000000∧ah s 4=.int 0
theorem Qv:en4.rngX 2 4 5 [] [2,3] 0 2=true:=by kernel_rfl
theorem Qw:en4.deadsOk [] Oh=true:=by kernel_rfl
theorem x7(s:List Dat)(h:∃s0 k,Kd s0∧RngX 2 4 [] [2,3] 0 1000000 s0 k s):@Holds (VL F0 s) Oh:=by obtain⟨s0,k,a,r⟩:=h;refine af (jw ?_) aC;rw[dI,dD,r.1];show ¬(k:Int)<0;omega
theorem zW(s:List Dat)(h:Kd s):ah s 4=.int 0∧(ah s 2).toL.length≤1000000:=⟨h.2,by have:=h.1;omega⟩
theorem Qx(s:List Dat)(h:Ke s):Kd (en2.tr F0 5 s).2:=⟨h,rfl⟩
theorem aae:PX P ba b0 R0 0 0 32 F0 jEn FK enA UU WD (kP F0):=by rw[aag];exact PX.seq (J2:=Ke) (by decide) U1 (fun s hs _=>hs) (PX.scope (PX.seq (J2:=Ke) (by decide) U0 (fun s hs _=>hs) (PX.seq (J2:=fun _=>True) (by decide) (PX.seq (J2:=Kd) (by decide) UZ (fun s hs _=>Qx s hs) (PX.block (PX.rng (by decide) Qv Qw aM x7 (by omega) zW (UY x7)) rfl)) (fun _ _ _=>trivial) UX)))
theorem aaf:yu jEn [1] (kP F0):=
 aK (J2:=Ke) (aG aM aW (by kernel_rfl) (by kernel_rfl)) (fun s hs _=>hs) (aK (J2:=Ke) (aG aM aW (by kernel_rfl) (by kernel_rfl)) (fun s hs _=>hs) (aK (J2:=fun _=>True) (aK (J2:=Kd) (aG aM aW (by kernel_rfl) (by kernel_rfl)) (fun s hs _=>Qx s hs) (df (ko Qv Qw aM x7 (by omega) zW (by kernel_rfl)) (by simp))) (fun _ _ _=>trivial) (aG aM aW (by kernel_rfl) (by kernel_rfl))))
def conEntry:Con:={f:=7,args:=[.agg [.opq 0 gid 0 cV (D 0) (.lit 0),LI (D 1),LI (D 2)],SI 3],pre:=[(lt (ae (D 1)) (I 1000000),true)],res:=.tup [.sym .i64 (A1 81 jg),.sym .i64 (A1 82 jg)],objs:=[]}
theorem z7:conEntry.Sound F0 P ba b0 R0:=by
 refine dY (fn:=Tryz.f7) (code:=FK) Tryz.func7 (by rfl) (by kernel_rfl) rfl rfl rfl fun v hF hpre=> ?_;refine⟨.ret,enZ.l,enZ.o,enZ.nx,_,_,.inl rfl,?_,by rfl,rfl⟩;let s:List Dat:=(List.range 4).map fun i=>@Sx.dat v (D i);have hd:∀i,i<4→ah s i=@Sx.dat v (D i):=fun i hi=>by
  match i,hi with
  |0,_=>rfl
  |1,_=>rfl
  |2,_=>rfl
  |3,_=>rfl
 have hj:jEn s:=by have g:=jz (aF hpre).1;rw[dL,dI]at g;show(ah s 1).toL.length<1000000;rw[hd 1 (by omega)];omega
 have hpk:(@Sx.dat v jg).one=s:=rfl;have hz:∀n a b,v.fn n (@Sx.dat v jg) a b=F0 n (@Sx.dat v jg) a b:=fun n a b=>by rw[hF]
 have h:=PX.ret aae hj (iP aaf hj);have q0:@Sx.dat v (A1 81 jg)=.int (ah (kP F0 s).2 0).toI:=(hz 81 (.int 0) (.int 0)).trans (F0_81d.trans (by rw[hpk]));have q1:@Sx.dat v (A1 82 jg)=.int (ah (kP F0 s).2 1).toI:=(hz 82 (.int 0) (.int 0)).trans (F0_82d.trans (by rw[hpk]));generalize kP F0 s=S at h q0 q1;have hini:EqsOk v (VL F0 s) aah:=aa (hd 0 (by omega)).symm (aa (hd 1 (by omega)).symm (aa (hd 2 (by omega)).symm (aa (gH (by rw[←hd 3 (by omega)];rfl)) al)));refine HT.pre (aP _) (aI (v:=v) (v':=VL F0 s) base0 US hini) (HT.retell (aP _) h (aI (v':=v) base0 UT ?_));exact aa (gH (by have:=congrArg Dat.toI q0.symm;exact this)) (aa (gH (by have:=congrArg Dat.toI q1.symm;exact this)) al)
theorem rG:∀c∈([]:List Con),c.Sound F0 P ba b0 R0:=SD
theorem pa:∀c∈([]:List HCon),c.Sound F0 P ba b0 R0:=SC
def K3:Code:=match Tryz.f5.body with
 |some c=>c
 |none=>.skip
def loA:Tl:=⟨[(0,.agg HF)],[],1024⟩
abbrev HM:AV:=.symb (.cmp .neq (.dvar 0) (.lit 0))
def loT1:Tl:=⟨[(2,HM)],[],1024⟩
def adh:Tl:=⟨[(1,cD)],[(1024,kG)],1025⟩
def ZA:Nat→Tl:=fun w=>match w with
 |1=>loT1
 |2=>adh
 |_=>loA
def ZC:Tl:=⟨[(1,cD)],[(1024,kG)],1025⟩
theorem Tj{J:List Dat→Prop}:PX P ba b0 R0 0 0 23 F0 J (cl K3) loA ZC ZA (lo0.tr F0 4):=
 PX.tree (pins:=[]) base0 (by decide) follows (cons:=[]) rG (af:=[]) pa (cores:=[]) (fun _ _ _ h=>by cases h) (inv:=[]) (fun _ _=>aC) (by kernel_rfl)
def Tf:Tl:=⟨[(1,cD),(3,qf)],[(1024,kG)],1025⟩
theorem Ti{J:List Dat→Prop}:PX P ba b0 R0 0 0 23 F0 J (cl (cl (cr K3))) ZC Tf ZA (lo1.tr F0 5):=
 PX.tree (pins:=[]) base0 (by decide) follows (cons:=[]) rG (af:=[]) pa (cores:=[]) (fun _ _ _ h=>by cases h) (inv:=[]) (fun _ _=>aC) (by kernel_rfl)
theorem Th{J:List Dat→Prop}(hinv:∀s,J s→@Holds (VL F0 s) E8):PX P ba b0 R0 0 0 23 F0 J (cl (cl (cr (cl (cr K3))))) Tf Tf ZA (lo3.tr F0 5):=
 PX.tree (pins:=[]) base0 (by decide) follows (cons:=[]) rG (af:=[]) pa (cores:=[]) (fun _ _ _ h=>by cases h) (inv:=E8) hinv (by kernel_rfl)
def Te:Tl:=⟨[(1,cD)],[(1024,kG)],1025⟩
theorem Tg{J:List Dat→Prop}:PX P ba b0 R0 0 0 23 F0 J (cr (cr K3)) Te Te ZA (lo5.tr F0 1):=
 PX.tree (pins:=[]) base0 (by decide) follows (cons:=[]) rG (af:=[]) pa (cores:=[]) (fun _ _ _ h=>by cases h) (inv:=[]) (fun _ _=>aC) (by kernel_rfl)
theorem Tc:cM R0 0 [] (ax loA.l) (ag b0 loA.o loA.nx) loA.l loA.o loA.nx=some ZB:=by kernel_rfl
def loZ:Tl:=⟨[(2,.symb (.cmp .neq (.ap 80 (.pr 12 (.dvar 0) (.pr 12 (.dvar 1) (.pr 12 (.dvar 2) (.pr 12 (.dvar 3) (.pr 14 (.lit 0) (.lit 0)))))) (.lit 0) (.lit 0)) (.lit 0)))],[],1024⟩
theorem Td:cM R0 0 [] (ax loT1.l) (ag b0 loT1.o loT1.nx) loZ.l loZ.o loZ.nx=some adi:=by kernel_rfl
theorem P8:K3=(.seq (cl K3) (.seq (.seq (cl (cl (cr K3))) (.block 0 (.loop (cl (cl (cr (cl (cr K3)))))))) (cr (cr K3)))):=by kernel_rfl
def mE:Nat:=9223372036854775807
def WB(s:List Dat):Prop:=(ah s 3).toL.length≤mE
def WC(s:List Dat):Prop:=(ah s 3).toL.length≤mE∧ah s 4=.int 0
theorem zp:lo3.rngX 3 4 5 [] [3] 0 2=true:=by kernel_rfl
theorem vJ:lo3.deadsOk [] E8=true:=by kernel_rfl
theorem pb(s:List Dat)(h:∃s0 k,WC s0∧RngX 3 4 [] [3] 0 mE s0 k s):@Holds (VL F0 s) E8:=by obtain⟨s0,k,a,r⟩:=h;refine af (jw ?_) aC;rw[dI,dD,r.1];show ¬(k:Int)<0;omega
theorem zo(s:List Dat)(h:WC s):ah s 4=.int 0∧(ah s 3).toL.length≤mE:=⟨h.2,by have:=h.1;omega⟩
theorem P9(s:List Dat)(h:WB s):WC (lo1.tr F0 5 s).2:=⟨h,rfl⟩
theorem Zy:PX P ba b0 R0 0 0 23 F0 WB K3 loA Te ZA (sd F0):=by rw[P8];exact PX.seq (J2:=WB) (by decide) Tj (fun s hs _=>hs) (PX.seq (J2:=fun _=>True) (by decide) (PX.seq (J2:=WC) (by decide) Ti (fun s hs _=>P9 s hs) (PX.block (PX.rng (by decide) zp vJ aM pb (by decide) zo (Th pb)) rfl)) (fun _ _ _=>trivial) Tg)
theorem Zz:yu WB [1] (sd F0):=
 aK (J2:=WB) (aG aM aW (by kernel_rfl) (by kernel_rfl)) (fun s hs _=>hs) (aK (J2:=fun _=>True) (aK (J2:=WC) (aG aM aW (by kernel_rfl) (by kernel_rfl)) (fun s hs _=>P9 s hs) (df (ko zp vJ aM pb (by decide) zo (by kernel_rfl)) (by simp))) (fun _ _ _=>trivial) (aG aM aW (by kernel_rfl) (by kernel_rfl)))
def preB:aD:=[(lt (ae (D 3)) (I 9223372036854775808),true)]
def conLong:Con:={f:=5,args:=[F4],pre:=preB,res:=.symb (.cmp .neq (A1 80 jg) (I 0)),objs:=[]}
theorem Cl:conLong.Sound F0 P ba b0 R0:=by
 refine dY (fn:=Tryz.f5) (code:=K3) Tryz.func5 (by rfl) (by kernel_rfl) rfl rfl rfl fun v hF hpre=> ?_;refine⟨.ret,loZ.l,loZ.o,loZ.nx,_,_,.inl rfl,?_,by rfl,rfl⟩;let s:List Dat:=(List.range 4).map fun i=>@Sx.dat v (D i);have hd:∀i,i<4→ah s i=@Sx.dat v (D i):=fun i hi=>by
  match i,hi with
  |0,_=>rfl
  |1,_=>rfl
  |2,_=>rfl
  |3,_=>rfl
 have hj:WB s:=by have g:=jz (aF hpre).1;rw[dL,dI]at g;show(ah s 3).toL.length≤mE;rw[hd 3 (by omega)];unfold mE;omega
 have hpk:(@Sx.dat v jg).one=s:=rfl;have hz:∀n a b,v.fn n (@Sx.dat v jg) a b=F0 n (@Sx.dat v jg) a b:=fun n a b=>by rw[hF]
 have h:=PX.ret Zy hj (iP Zz hj);have q0:@Sx.dat v (A1 80 jg)=.int (ah (sd F0 s).2 0).toI:=(hz 80 (.int 0) (.int 0)).trans (F0_80d.trans (by rw[hpk]));generalize sd F0 s=S at h q0;have hini:EqsOk v (VL F0 s) ZB:=aa (gH (by rw[←hd 0 (by omega)];rfl)) (aa (gH (by rw[←hd 1 (by omega)];rfl)) (aa (gH (by rw[←hd 2 (by omega)];rfl)) (aa (hd 3 (by omega)).symm al)));refine HT.pre (aP _) (aI (v:=v) (v':=VL F0 s) base0 Tc hini) (HT.retell (aP _) h (aI (v':=v) base0 Td ?_));refine aa ?_ al;show Dat.int (dO ((ah S.2 0).toI != 0))=Dat.int (dO ((@Sx.dat v (A1 80 jg)).toI != 0));rw[q0];rfl
def conAwake:Con:={f:=4,args:=[],pre:=[],res:=.bool true,objs:=[]}
theorem z8:conAwake.Sound F0 P ba b0 R0:=Ck Aw.awake_calls
end
end Go.Proofs.YtlagbijmfchkeaaGreat
namespace Go.Proofs.YtlagbijmfchkeaaGreat
open Go.Tw Go.Tw.NE
noncomputable section
def pV(d:Dat)(k:Nat):Int:=(d.cell (k:Int) 0).toI
theorem KO(F:Go.Tw.Fn)(q:Int)(w p e:Dat)(k:Nat)(h1:k<p.toL.length)(h2:k<e.toL.length):en4.tr F 5 [.int q,w,p,e,.int k]=if pV p k=q then(1,[.int (pV e k),.int 0,.int 0,.int 0,.int 0])else(0,[.int q,w,p,e,.int (aU .i64 (k+1))]):=by have b1:@Bx.eval (VL F [.int q,w,p,e,.int k]) (lt (D 4) (ae (D 2)))=true:=ie (show(k:Int)<(p.toL.length:Int) by omega);have b2:@Bx.eval (VL F [.int q,w,p,e,.int k]) (lt (D 4) (ae (D 3)))=true:=ie (show(k:Int)<(e.toL.length:Int) by omega);by_cases h:pV p k=q;{have b3:@Bx.eval (VL F [.int q,w,p,e,.int k]) (eq (.cell (D 2) (D 4) 0) (D 0))=true:=tN h;rw[if_pos h];unfold ST.tr ST.flg ST.nxt en4;simp only[ST.val,b1,b2,b3,cond_true];rfl};have b3:@Bx.eval (VL F [.int q,w,p,e,.int k]) (eq (.cell (D 2) (D 4) 0) (D 0))=false:=zS h;rw[if_neg h];unfold ST.tr ST.flg ST.nxt en4;simp only[ST.val,b1,b2,b3,cond_true,cond_false];rfl
theorem Oi(F:Go.Tw.Fn)(q:Int)(w p e:Dat)(k:Nat)(h1:¬k<p.toL.length):en4.tr F 5 [.int q,w,p,e,.int k]=(2,[.int 0,.int 0,.int 0,.int 0,.int 0]):=by have b1:@Bx.eval (VL F [.int q,w,p,e,.int k]) (lt (D 4) (ae (D 2)))=false:=jw (show ¬(k:Int)<(p.toL.length:Int) by omega);unfold ST.tr ST.flg ST.nxt en4;simp only[ST.val,b1,cond_false];rfl
theorem rS{k:Nat}(h:k<9223372036854775807):aU .i64 ((k:Int)+1)=((k+1:Nat):Int):=by rw[bp (by omega) (by omega)];rfl
theorem xw{f:nE}{fu:List Dat→Nat}{s:List Dat}(S:Nat→List Dat)(h0:S 0=s){n:Nat}(hn:n≤fu s)(hs:∀k,k<n→f (S k)=(0,S (k+1)))(he:(f (S n)).1≠0):gO f fu s=f (S n):=by
 have hit:∀k,k≤n→pt f k s=S k:=fun k=>by
  induction k with
  |zero=>intro _;exact h0.symm
  |succ k ih=>intro hk;show(f (pt f k s)).2=_;rw[ih (by omega),hs k (by omega)]
 have hst:kX f (fu s) s=n:=by obtain⟨a1,a2,a3⟩:=rZ (f:=f) (fu:=fu s) (s:=s) ⟨n,hn,by rw[hit n (aw _)];exact he⟩;rcases Nat.lt_trichotomy (kX f (fu s) s) n with h|h|h;{exfalso;rw[hit _ (by omega),hs _ h]at a2;exact a2 rfl};{exact h};exfalso;have:=a1 n h;rw[hit n (aw _)]at this;exact he this
 unfold gO;rw[hst,hit n (aw _)]
theorem DU(F:Go.Tw.Fn)(w p e q:Dat)(hl:p.toL.length=e.toL.length)(hb:p.toL.length<1000000):
 (∃n,n<p.toL.length∧pV p n=q.toI∧(∀j,j<n→pV p j≠q.toI)∧ah (kP F [w,p,e,q]).2 0=.int (pV e n)∧(ah (kP F [w,p,e,q]).2 1).toI=0)∨((∀j,j<p.toL.length→pV p j≠q.toI)∧(ah (kP F [w,p,e,q]).2 1).toI≠0):=by
 have e0:kP F [w,p,e,q]=aB (aB (fun _=>(0,[.int q.toI,w,p,e,.int 0])) (gE 0 (gO (en4.tr F 5) fun s=>(ah s 2).toL.length))) (en6.tr F 2) []:=rfl;have hf:∀P:Nat→Prop,(∃n,n<p.toL.length∧P n∧∀j,j<n→¬P j)∨∀j,j<p.toL.length→¬P j:=fun P=>by
  generalize p.toL.length=N
  induction N with
  |zero=>exact .inr fun j hj=>by omega
  |succ N ih=>rcases ih with⟨n,h1,h2⟩|h;{exact .inl ⟨n,by omega,h2⟩};rcases Classical.em (P N)with hP|hP;{exact .inl ⟨N,by omega,hP,h⟩};refine .inr fun j hj=> ?_;rcases bl j N with h'|h';{exact h j h'};have:j=N:=(by omega);rw[this];exact hP
 have hrun:∀n,n≤p.toL.length→(∀j,j<n→pV p j≠q.toI)→(en4.tr F 5 [.int q.toI,w,p,e,.int n]).1≠0→gO (en4.tr F 5) (fun s=>(ah s 2).toL.length) [.int q.toI,w,p,e,.int 0]=en4.tr F 5 [.int q.toI,w,p,e,.int n]:=fun n hn hj he=>
  xw (fun k=>[.int q.toI,w,p,e,.int k]) rfl hn (fun k hk=>by rw[KO F q.toI w p e k (by omega) (by omega),if_neg (hj k hk),rS (by omega)]) he
 rcases hf (fun n=>pV p n=q.toI)with⟨n,h1,h2,h3⟩|h;{refine .inl ⟨n,h1,h2,h3,?_⟩;have hx:=KO F q.toI w p e n h1 (by omega);rw[if_pos h2]at hx;have hr:=hrun n (by omega) h3 (by rw[hx];simp);rw[hx]at hr;rw[e0];unfold aB gE;simp only[if_true,hr];exact⟨rfl,rfl⟩};refine .inr ⟨h,?_⟩;have hx:=Oi F q.toI w p e p.toL.length (Nat.lt_irrefl _);have hr:=hrun p.toL.length (aw _) h (by rw[hx];simp);rw[hx]at hr;rw[e0];unfold aB gE;simp only[if_true,hr];show(Dat.int 6).toI≠0;decide
end
end Go.Proofs.YtlagbijmfchkeaaGreat
namespace Go.Proofs.YtlagbijmfchkeaaGreat
open Go.Tw Go.Tw.NE
noncomputable section
def rm(L:Dat):Nat→List (List Dat)
 |0=>[]
 |k+1=>if iA L k=1 then rm L k++[[.int (aZ .sub .i64 (BP L k) 1)]]else rm L k
def tP(L p:Dat):Nat→List (List Dat)
 |0=>[]
 |k+1=>if iA L k=1 then tP L p k++[[p.cell (k:Int) 0]]else tP L p k
def DP(L:Dat):Nat→Dat
 |0=>.int 0
 |k+1=>if iA L k=1 then .int 1 else DP L k
theorem C3(L:Dat)(k:Nat):(rm L k).length≤k:=by
 induction k with
 |zero=>exact aw _
 |succ k ih=>simp only[rm];split;{rw[cZ];simp;exact ih};omega
theorem Og(L p:Dat)(k:Nat):(tP L p k).length=(rm L k).length:=by
 induction k with
 |zero=>rfl
 |succ k ih=>simp only[rm,tP];split;{rw[cZ,cZ,ih];rfl};exact ih
def AG(o:List Dat)(p ph w wh L h:Dat)(k:Nat):List Dat:=o++[p,ph,w,wh,.lst (rm L k),DP L k,.lst (tP L p k),DP L k,L,h,.int k]
theorem OO(F:Go.Tw.Fn)(o0 o1 o2 o3 o4 o5 p ph w wh L h:Dat)(k:Nat)(h1:k<L.toL.length)(h2:k<p.toL.length)(h3:L.toL.length≤5000):
 cm10.tr F 17 (AG [o0,o1,o2,o3,o4,o5] p ph w wh L h k)=(0,AG [o0,o1,o2,o3,o4,o5] p ph w wh L h (k+1)):=by
 have b1:@Bx.eval (VL F (AG [o0,o1,o2,o3,o4,o5] p ph w wh L h k)) (lt (D 16) (ae (D 14)))=true:=ie (show(k:Int)<(L.toL.length:Int) by omega);have b4:@Bx.eval (VL F (AG [o0,o1,o2,o3,o4,o5] p ph w wh L h k)) (lt (D 16) (ae (D 6)))=true:=ie (show(k:Int)<(p.toL.length:Int) by omega);have b3:@Bx.eval (VL F (AG [o0,o1,o2,o3,o4,o5] p ph w wh L h k)) (lt (ae (D 10)) (I 1000000001))=true:=ie (show((rm L k).length:Int)<1000000001 by have:=C3 L k;omega);have b5:@Bx.eval (VL F (AG [o0,o1,o2,o3,o4,o5] p ph w wh L h k)) (lt (ae (D 12)) (I 1000000001))=true:=ie (show((tP L p k).length:Int)<1000000001 by have:=C3 L k;rw[Og];omega);have hw:(.int (aU .i64 ((k:Int)+1)):Dat)=.int ((k+1:Nat):Int):=by rw[rS (by omega)]
 by_cases hk:iA L k=1;{have b2:@Bx.eval (VL F (AG [o0,o1,o2,o3,o4,o5] p ph w wh L h k)) (eq (.cell (D 14) (D 16) 0) (I 1))=true:=tN hk;have e1:rm L (k+1)=rm L k++[[.int (aZ .sub .i64 (BP L k) 1)]]:=(by simp only[rm,if_pos hk]);have e2:tP L p (k+1)=tP L p k++[[p.cell (k:Int) 0]]:=(by simp only[tP,if_pos hk]);have e3:DP L (k+1)=.int 1:=(by simp only[DP,if_pos hk]);unfold AG;rw[e1,e2,e3,←hw];unfold AG at b1 b2 b3 b4 b5;unfold ST.tr ST.flg ST.nxt cm10;simp only[ST.val,b1,b2,b3,b4,b5,cond_true];rfl};have b2:@Bx.eval (VL F (AG [o0,o1,o2,o3,o4,o5] p ph w wh L h k)) (eq (.cell (D 14) (D 16) 0) (I 1))=false:=zS hk;have e1:rm L (k+1)=rm L k:=by simp only[rm,if_neg hk]
 have e2:tP L p (k+1)=tP L p k:=by simp only[tP,if_neg hk]
 have e3:DP L (k+1)=DP L k:=by simp only[DP,if_neg hk]
 unfold AG;rw[e1,e2,e3,←hw];unfold AG at b1 b2;unfold ST.tr ST.flg ST.nxt cm10;simp only[ST.val,b1,b2,cond_true,cond_false];rfl
theorem K1(F:Go.Tw.Fn)(o0 o1 o2 o3 o4 o5 p ph w wh L h:Dat)(k:Nat)(h1:¬k<L.toL.length):
 cm10.tr F 17 (AG [o0,o1,o2,o3,o4,o5] p ph w wh L h k)=(2,[o0,o1,o2,o3,o4,o5,w,wh,.lst (rm L k),DP L k,.lst (tP L p k),DP L k,.int 0,.int 0,.int 0,.int 0,.int 0]):=by
 have b1:@Bx.eval (VL F (AG [o0,o1,o2,o3,o4,o5] p ph w wh L h k)) (lt (D 16) (ae (D 14)))=false:=jw (show ¬(k:Int)<(L.toL.length:Int) by omega);unfold AG at b1⊢;unfold ST.tr ST.flg ST.nxt cm10;simp only[ST.val,b1,cond_false];rfl
theorem OJ(F:Go.Tw.Fn)(o0 o1 o2 o3 o4 o5 p ph w wh L h:Dat)(h2:L.toL.length≤p.toL.length)(h3:L.toL.length≤5000):
 gO (cm10.tr F 17) (fun s=>(ah s 14).toL.length) [o0,o1,o2,o3,o4,o5,p,ph,w,wh,.lst [],.int 0,.lst [],.int 0,L,h,.int 0]=
  (2,[o0,o1,o2,o3,o4,o5,w,wh,.lst (rm L L.toL.length),DP L L.toL.length,.lst (tP L p L.toL.length),DP L L.toL.length,.int 0,.int 0,.int 0,.int 0,.int 0]):=by
 have hx:=K1 F o0 o1 o2 o3 o4 o5 p ph w wh L h L.toL.length (Nat.lt_irrefl _);rw[←hx];exact xw (fun k=>AG [o0,o1,o2,o3,o4,o5] p ph w wh L h k) rfl (aw _) (fun k hk=>OO F o0 o1 o2 o3 o4 o5 p ph w wh L h k hk (by omega) h3) (by rw[hx];simp)
def tU(s:List Dat):Dat:=.lst [qs s]
theorem Vw(F:Go.Tw.Fn)(e:Int)(o0 o1 o2 o3 o4 o5 L h:Dat):cm2.tr F 8 [o0,o1,o2,o3,o4,o5,L,h,.int e]=if e=0 then(0,[o0,o1,o2,o3,o4,o5,L,h])else(1,[.lst [],.int 0,.lst [],.int 0,.lst [],.int 0,.int e,.int 0]):=by by_cases he:e=0;{have b1:@Bx.eval (VL F [o0,o1,o2,o3,o4,o5,L,h,.int e]) (eq (D 8) (I 0))=true:=tN he;rw[if_pos he];unfold ST.tr ST.flg ST.nxt cm2;simp only[ST.val,b1,cond_true];rfl};have b1:@Bx.eval (VL F [o0,o1,o2,o3,o4,o5,L,h,.int e]) (eq (D 8) (I 0))=false:=zS he;rw[if_neg he];unfold ST.tr ST.flg ST.nxt cm2;simp only[ST.val,b1,cond_false];rfl
theorem Vt(F:Go.Tw.Fn)(e:Int)(o0 o1 o2 o3 o4 o5 L h w wh:Dat):cm4.tr F 10 [o0,o1,o2,o3,o4,o5,L,h,.int e,w,wh]=if e=0 then(0,[o0,o1,o2,o3,o4,o5,L,h,w,wh])else(1,[.lst [],.int 0,.lst [],.int 0,.lst [],.int 0,.int e,.int 0,.int 0,.int 0]):=by by_cases he:e=0;{have b1:@Bx.eval (VL F [o0,o1,o2,o3,o4,o5,L,h,.int e,w,wh]) (eq (D 8) (I 0))=true:=tN he;rw[if_pos he];unfold ST.tr ST.flg ST.nxt cm4;simp only[ST.val,b1,cond_true];rfl};have b1:@Bx.eval (VL F [o0,o1,o2,o3,o4,o5,L,h,.int e,w,wh]) (eq (D 8) (I 0))=false:=zS he;rw[if_neg he];unfold ST.tr ST.flg ST.nxt cm4;simp only[ST.val,b1,cond_false];rfl
theorem Vq(F:Go.Tw.Fn)(e:Int)(o0 o1 o2 o3 o4 o5 L h w wh p ph:Dat):cm6.tr F 12 [o0,o1,o2,o3,o4,o5,L,h,.int e,w,wh,p,ph]=if e=0 then(0,[o0,o1,o2,o3,o4,o5,L,h,w,wh,p,ph])else(1,[.lst [],.int 0,.lst [],.int 0,.lst [],.int 0,.int e,.int 0,.int 0,.int 0,.int 0,.int 0]):=by by_cases he:e=0;{have b1:@Bx.eval (VL F [o0,o1,o2,o3,o4,o5,L,h,.int e,w,wh,p,ph]) (eq (D 8) (I 0))=true:=tN he;rw[if_pos he];unfold ST.tr ST.flg ST.nxt cm6;simp only[ST.val,b1,cond_true];rfl};have b1:@Bx.eval (VL F [o0,o1,o2,o3,o4,o5,L,h,.int e,w,wh,p,ph]) (eq (D 8) (I 0))=false:=zS he;rw[if_neg he];unfold ST.tr ST.flg ST.nxt cm6;simp only[ST.val,b1,cond_false];rfl
def NoC(X:List Dat):Prop:=(ah X 0).toL.length=0∧(ah X 2).toL.length=0∧(ah X 4).toL.length=0
def cmX(F:Go.Tw.Fn)(s:List Dat):nE:=fun _=>(0,[.lst [],.int 0,.lst [],.int 0,.lst [],.int 0,F 83 (tU s) (.int 0) (.int 0),F 84 (tU s) (.int 0) (.int 0),.int (F 85 (tU s) (.int 0) (.int 0)).toI])
theorem RN(F:Go.Tw.Fn)(s:List Dat):di F s=aB (cmX F s) (aB (cm2.tr F 8) (aB (cm3.tr F 11) (aB (cm4.tr F 10) (aB (cm5.tr F 13) (aB (cm6.tr F 12) (aB (cm7.tr F 16) (aB (aB (cm8.tr F 17) (gE 0 (gO (cm10.tr F 17) (fun s=>(ah s 14).toL.length)))) (cm12.tr F 7)))))))) []:=rfl
theorem cW{f g:nE}{s t:List Dat}(h:f s=(0,t)):aB f g s=g t:=by unfold aB;rw[h];rfl
theorem ou{f g:nE}{s t:List Dat}{w:Nat}(hw:w≠0)(h:f s=(w,t)):aB f g s=(w,t):=by unfold aB;rw[h];exact if_neg hw
theorem OH(F:Go.Tw.Fn)(s:List Dat)(hpl:∀L:Dat,(F 56 L (.int 0) (.int 0)).toI=0→L.toL.length≤4000∧(F 57 L (.int 0) (.int 0)).toL.length=L.toL.length+1):
 ((ah (di F s).2 6).toI≠0∧NoC (di F s).2)∨
 ∃L,L=F 83 (tU s) (.int 0) (.int 0)∧(F 85 (tU s) (.int 0) (.int 0)).toI=0∧(F 61 L (.int 0) (.int 0)).toI=0∧(F 56 L (.int 0) (.int 0)).toI=0∧(ah (di F s).2 6).toI=0∧
  ah (di F s).2 0=F 59 L (.int 0) (.int 0)∧ah (di F s).2 2=.lst (rm L L.toL.length)∧ah (di F s).2 4=.lst (tP L (F 57 L (.int 0) (.int 0)) L.toL.length):=by
 have gX:cmX F s []=(0,[.lst [],.int 0,.lst [],.int 0,.lst [],.int 0,F 83 (tU s) (.int 0) (.int 0),F 84 (tU s) (.int 0) (.int 0),.int (F 85 (tU s) (.int 0) (.int 0)).toI]):=rfl;rw[RN,cW gX];generalize hL:F 83 (tU s) (.int 0) (.int 0)=L;generalize F 84 (tU s) (.int 0) (.int 0)=h;generalize (F 85 (tU s) (.int 0) (.int 0)).toI=e85;have g2:=Vw F e85 (.lst []) (.int 0) (.lst []) (.int 0) (.lst []) (.int 0) L h;by_cases h85:e85=0
 ·rw[if_pos h85]at g2;rw[cW g2];have g3:cm3.tr F 11 [.lst [],.int 0,.lst [],.int 0,.lst [],.int 0,L,h]=(0,[.lst [],.int 0,.lst [],.int 0,.lst [],.int 0,L,h,.int (F 61 L (.int 0) (.int 0)).toI,F 59 L (.int 0) (.int 0),F 60 L (.int 0) (.int 0)]):=rfl;rw[cW g3];have g4:=Vt F (F 61 L (.int 0) (.int 0)).toI (.lst []) (.int 0) (.lst []) (.int 0) (.lst []) (.int 0) L h (F 59 L (.int 0) (.int 0)) (F 60 L (.int 0) (.int 0));by_cases h61:(F 61 L (.int 0) (.int 0)).toI=0
  ·rw[if_pos h61]at g4;rw[cW g4];have g5:cm5.tr F 13 [.lst [],.int 0,.lst [],.int 0,.lst [],.int 0,L,h,F 59 L (.int 0) (.int 0),F 60 L (.int 0) (.int 0)]=(0,[.lst [],.int 0,.lst [],.int 0,.lst [],.int 0,L,h,.int (F 56 L (.int 0) (.int 0)).toI,F 59 L (.int 0) (.int 0),F 60 L (.int 0) (.int 0),F 57 L (.int 0) (.int 0),F 58 L (.int 0) (.int 0)]):=rfl;rw[cW g5];have g6:=Vq F (F 56 L (.int 0) (.int 0)).toI (.lst []) (.int 0) (.lst []) (.int 0) (.lst []) (.int 0) L h (F 59 L (.int 0) (.int 0)) (F 60 L (.int 0) (.int 0)) (F 57 L (.int 0) (.int 0)) (F 58 L (.int 0) (.int 0));by_cases h56:(F 56 L (.int 0) (.int 0)).toI=0
   ·rw[if_pos h56]at g6;obtain⟨q1,q2⟩:=hpl L h56;rw[cW g6];have g7:cm7.tr F 16 [.lst [],.int 0,.lst [],.int 0,.lst [],.int 0,L,h,F 59 L (.int 0) (.int 0),F 60 L (.int 0) (.int 0),F 57 L (.int 0) (.int 0),F 58 L (.int 0) (.int 0)]=
     (0,[.lst [],.int 0,.lst [],.int 0,.lst [],.int 0,L,h,F 57 L (.int 0) (.int 0),F 58 L (.int 0) (.int 0),F 59 L (.int 0) (.int 0),F 60 L (.int 0) (.int 0),.lst [],.int 0,.lst [],.int 0]):=rfl
    rw[cW g7];have g8:cm8.tr F 17 [.lst [],.int 0,.lst [],.int 0,.lst [],.int 0,L,h,F 57 L (.int 0) (.int 0),F 58 L (.int 0) (.int 0),F 59 L (.int 0) (.int 0),F 60 L (.int 0) (.int 0),.lst [],.int 0,.lst [],.int 0]=
     (0,[.lst [],.int 0,.lst [],.int 0,.lst [],.int 0,F 57 L (.int 0) (.int 0),F 58 L (.int 0) (.int 0),F 59 L (.int 0) (.int 0),F 60 L (.int 0) (.int 0),.lst [],.int 0,.lst [],.int 0,L,h,.int 0]):=rfl
    have g9:=OJ F (.lst []) (.int 0) (.lst []) (.int 0) (.lst []) (.int 0) (F 57 L (.int 0) (.int 0)) (F 58 L (.int 0) (.int 0)) (F 59 L (.int 0) (.int 0)) (F 60 L (.int 0) (.int 0)) L h (by omega) (by omega);have g10:aB (cm8.tr F 17) (gE 0 (gO (cm10.tr F 17) (fun s=>(ah s 14).toL.length))) [.lst [],.int 0,.lst [],.int 0,.lst [],.int 0,L,h,F 57 L (.int 0) (.int 0),F 58 L (.int 0) (.int 0),F 59 L (.int 0) (.int 0),F 60 L (.int 0) (.int 0),.lst [],.int 0,.lst [],.int 0]=(0,[.lst [],.int 0,.lst [],.int 0,.lst [],.int 0,F 59 L (.int 0) (.int 0),F 60 L (.int 0) (.int 0),.lst (rm L L.toL.length),DP L L.toL.length,.lst (tP L (F 57 L (.int 0) (.int 0)) L.toL.length),DP L L.toL.length,.int 0,.int 0,.int 0,.int 0,.int 0]):=(by rw[cW g8];unfold gE;rw[g9];rfl);rw[cW g10];exact .inr ⟨L,rfl,h85,h61,h56,rfl,rfl,rfl,rfl⟩
   rw[if_neg h56]at g6;rw[ou (by decide) g6];exact .inl ⟨h56,rfl,rfl,rfl⟩
  rw[if_neg h61]at g4;rw[ou (by decide) g4];exact .inl ⟨h61,rfl,rfl,rfl⟩
 rw[if_neg h85]at g2;rw[ou (by decide) g2];exact .inl ⟨h85,rfl,rfl,rfl⟩
end
end Go.Proofs.YtlagbijmfchkeaaGreat
namespace Go.Proofs.YtlagbijmfchkeaaGreat
open Go.Tw Go.Tw.NE
noncomputable section
theorem DA{v:Val}:∀{x:Sx} {n:Nat},growX.litN x=some n→(@Sx.dat v x).toL.length=n:=by
 intro x
 induction x with
 |pr f a b ih1 ih2=>intro n h;simp only[growX.litN,au]at h;split at h;{rename_i hf;have:=ad hf;subst this;cases h;rfl};split at h;{rename_i hf;have:=ad hf;subst this;cases h;rfl};split at h;{rename_i hf;have:=ad hf;subst this;split at h;{rename_i p q hp hq;cases h;show((@Sx.dat v a).toL++(@Sx.dat v b).toL).length=_;rw[cZ,ih1 hp,ih2 hq]};cases h};cases h
 |_=>intro n h;cases h
theorem Kx{v:Val}{y:Nat}:∀{x:Sx} {n:Nat},growX y x=some n→(@Sx.dat v x).toL.length=(v.dat y).toL.length+n:=by
 intro x
 induction x with
 |dvar i=>intro n h;simp only[growX,au]at h;split at h;{rename_i hi;have:=ad hi;subst this;cases h;rfl};cases h
 |pr f a b ih1 ih2=>intro n h;simp only[growX,au]at h;split at h;{rename_i hf;have:=ad hf;subst this;split at h;{rename_i p q hp hq;cases h;show((@Sx.dat v a).toL++(@Sx.dat v b).toL).length=_;rw[cZ,ih1 hp,DA hq];omega};cases h};cases h
 |_=>intro n h;cases h
def oi(p:aD)(b:Bx)(x:Bool):Bool:=p.any fun q=>q.1.same b&&nQ q.2 x
theorem dK{v:Val}{p:aD}{b:Bx}{x:Bool}(h:oi p b x=true)(hp:@Holds v p):@Bx.eval v b=x:=by obtain⟨q,hq,h⟩:=List.any_eq_true.1 h;rw[ak]at h;rw[←Bx.same_eq h.1,hp q hq];exact iv h.2
def qAs(p:aD)(xs:List Sx):Bool:=match growX 4 (cu xs 4)with
 |some n=>Nat.blt 4 xs.length&&(bif Nat.beq n 0 then oi p (eq (.cell (D 0) (D 6) 0) (I 1)) true else bif Nat.beq n 1 then oi p (eq (.cell (D 0) (D 6) 0) (I 1)) false&&oi p (eq (.cell (D 1) (D 6) 0) (I 0)) true else Nat.beq n 2&&(oi p (eq (.cell (D 0) (D 6) 0) (I 1)) false&&oi p (eq (.cell (D 1) (D 6) 0) (I 0)) false))
 |none=>false
theorem Ll:as6.leafs 0 qAs Cw=true:=by kernel_rfl
theorem O5:as6.leafs 2 (fun p xs=>(cu xs 0).same (D 4)&&oi p (lt (D 6) (ae (D 0))) false) Cw=true:=by kernel_rfl
theorem O4:as6.flsX [0,2]=true:=by kernel_rfl
theorem O3{s:List Dat}{k:Nat}(hj:TY s)(hk:ah s 6=.int k)(hf:as6.flg F0 s=((0:Nat):Int)):(ah (as6.tr F0 7 s).2 4).toL.length=(ah s 4).toL.length+eJ (ah s 0) (ah s 1) k:=by
 obtain⟨p',xs,q1,q2,q3⟩:=cF (w:=0) (jc s hj) pN Ll (gq s hj) hf;rw[kS (by omega),q3 4];unfold qAs at q1;split at q1
 ·rename_i n hn;rw[ak]at q1;obtain⟨q0,q1⟩:=q1;have q0:=aL q0;have he:(ST.leaf (.lit (((0:Nat):Int))::xs)).val (VL F0 s) (4+1)=@Sx.dat (VL F0 s) (cu xs 4):=by
   show(match xs[4]? with
    |some e=>@Sx.dat (VL F0 s) e
    |none=>.int 0)=_
   rw[bV,bh q0];rfl
  rw[he,Kx hn];have e4:(VL F0 s).dat 4=ah s 4:=rfl;rw[e4];have k1:@Bx.eval (VL F0 s) (eq (.cell (D 0) (D 6) 0) (I 1))=decide (iA (ah s 0) k=1):=(by show decide ((Dat.cell (ah s 0) (ah s 6).toI 0).toI=1)=_;rw[hk];rfl);have k2:@Bx.eval (VL F0 s) (eq (.cell (D 1) (D 6) 0) (I 0))=decide ((Dat.cell (ah s 1) (k:Int) 0).toI=0):=(by show decide ((Dat.cell (ah s 1) (ah s 6).toI 0).toI=0)=_;rw[hk];rfl);have hfar:fD (ah s 1) k= !decide ((Dat.cell (ah s 1) (k:Int) 0).toI=0):=(by unfold fD;by_cases h:(Dat.cell (ah s 1) (k:Int) 0).toI=0<;>simp [h]);congr 1;unfold eJ;simp only[au]at q1;split at q1;{rename_i h0;have h0:=ad h0;have g:=dK q1 q2;rw[k1]at g;rw[if_pos (of_decide_eq_true g)];exact h0};split at q1;{rename_i h1;have h1:=ad h1;rw[ak]at q1;have g:=dK q1.1 q2;have g2:=dK q1.2 q2;rw[k1]at g;rw[k2]at g2;rw[if_neg (of_decide_eq_false g),hfar,g2];exact h1};simp only[ak]at q1;have h2:=ad q1.1;have g:=dK q1.2.1 q2;have g2:=dK q1.2.2 q2;rw[k1]at g;rw[k2]at g2;rw[if_neg (of_decide_eq_false g),hfar,g2];exact h2
 cases q1
theorem O6(s:List Dat)(hs:jD s):∃t,gE 0 (gO (as6.tr F0 7) (fun s=>(ah s 0).toL.length)) s=(0,t)∧(ah t 0).toL.length=ji (ah s 0) (ah s 1) (ah s 0).toL.length:=by
 obtain⟨n,s',r,hi,h1,h2⟩:=mN (F:=F0) ui pN (by omega) (s:=s) (Inv:=fun k t=>(ah t 4).toL.length=ji (ah s 0) (ah s 1) k) (fun k s' hr _=>jc s' ⟨s,k,hs,hr⟩) (fun k s' hr _=>gq s' ⟨s,k,hs,hr⟩) hs.2 (by have:=hs.1.1.1;unfold jA at this;omega) (by
  show(ah s 4).toL.length=0;exact hs.1.2) (fun k s' r hk hi hf=>by
  have hj:TY s':=⟨s,k,hs,r⟩;have hz:=(dR pN (jc s' hj) (gq s' hj) ui).1 hf;rw[O3 hj r.1 hz,hi,r.2.2.2.2 0 (by simp),r.2.2.2.2 1 (by simp)];rfl)
 have hj:TY s':=⟨s,n,hs,r⟩;have hin:=gm (m:=7) (jc s' hj) pN O4 (gq s' hj);have hw:(as6.tr F0 7 s').1=2:=by simp only[cP,dQ,or_false]at hin;rcases hin with h|h;{exact absurd h h1};exact h
 have hwf:as6.flg F0 s'=((2:Nat):Int):=by obtain⟨q,hq⟩:=iM (F:=F0) (s:=s') (fq ui);have hx:(as6.flg F0 s').toNat=2:=hw;rw[hq]at hx⊢;omega
 obtain⟨p',xs,q1,q2,q3⟩:=cF (jc s' hj) pN O5 (gq s' hj) hwf;rw[ak]at q1;have g:=fQ (dK q1.2 q2);rw[dD,dL,dD,r.1]at g;have e0:=r.2.2.2.2 0 (by simp);have hn:n=(ah s 0).toL.length:=by have:=r.2.1;rw[e0]at this g;have g:¬(n:Int)<_:=g;omega
 refine⟨(as6.tr F0 7 s').2,?_,?_⟩;{unfold gE;rw[h2,if_pos hw]};have e:ah (as6.tr F0 7 s').2 0=ah s' 4:=by
  rw[kS (by omega),q3 0];have:=Sx.same_eq q1.1;rw[bV]at this;cases xs with
  |nil=>cases this
  |cons x xs=>have this:x=D 4:=this;subst this;rfl
 rw[e,hi,hn]
def Ch(all:Dat)(k:Nat):Dat:=.lst [[all.cell (k:Int) 0,all.cell (k:Int) 1,all.cell (k:Int) 2,all.cell (k:Int) 3,all.cell (k:Int) 4]]
def zV(F:Go.Tw.Fn)(all:Dat):Nat→List (List Dat)
 |0=>[]
 |k+1=>zV F all k++[[F 53 (Ch all k) (.int 0) (.int 0)]]
theorem zU(F:Go.Tw.Fn)(all:Dat)(k:Nat):(zV F all k).length=k:=by
 induction k with
 |zero=>rfl
 |succ k ih=>simp [zV,ih]
def kQ(F:Go.Tw.Fn)(all g:Dat)(k:Nat):List Dat:=[.lst (zV F all k),.int (if k=0 then 0 else 1),all,g,.int k]
theorem Pa(F:Go.Tw.Fn)(all g:Dat)(k:Nat)(h1:k<all.toL.length)(hb:all.toL.length≤10000)(he:(F 54 (Ch all k) (.int 0) (.int 0)).toI=0):as11.tr F 5 (kQ F all g k)=(0,kQ F all g (k+1)):=by
 have b1:@Bx.eval (VL F (kQ F all g k)) (lt (D 4) (ae (D 2)))=true:=ie (show(k:Int)<(all.toL.length:Int) by omega);have b2:@Bx.eval (VL F (kQ F all g k)) (eq (.ap 54 (.pr 12 (.cell (D 2) (D 4) 0) (.pr 12 (.cell (D 2) (D 4) 1) (.pr 12 (.cell (D 2) (D 4) 2) (.pr 12 (.cell (D 2) (D 4) 3) (.pr 12 (.cell (D 2) (D 4) 4) (.pr 14 (I 0) (I 0))))))) (I 0) (I 0)) (I 0))=true:=tN he;have b3:@Bx.eval (VL F (kQ F all g k)) (lt (ae (D 0)) (I 1000000001))=true:=ie (show((zV F all k).length:Int)<1000000001 by rw[zU];omega);have hw:(.int (aU .i64 ((k:Int)+1)):Dat)=.int ((k+1:Nat):Int):=by rw[rS (by omega)]
 unfold kQ at b1 b2 b3⊢;rw[←hw];unfold ST.tr ST.flg ST.nxt as11;simp only[ST.val,b1,b2,b3,cond_true];rfl
theorem Lp(F:Go.Tw.Fn)(all g:Dat)(k:Nat)(h1:k<all.toL.length)(he:(F 54 (Ch all k) (.int 0) (.int 0)).toI≠0):as11.tr F 5 (kQ F all g k)=(1,[.lst [],.int 0,.int (F 54 (Ch all k) (.int 0) (.int 0)).toI,.int 0,.int 0]):=by have b1:@Bx.eval (VL F (kQ F all g k)) (lt (D 4) (ae (D 2)))=true:=ie (show(k:Int)<(all.toL.length:Int) by omega);have b2:@Bx.eval (VL F (kQ F all g k)) (eq (.ap 54 (.pr 12 (.cell (D 2) (D 4) 0) (.pr 12 (.cell (D 2) (D 4) 1) (.pr 12 (.cell (D 2) (D 4) 2) (.pr 12 (.cell (D 2) (D 4) 3) (.pr 12 (.cell (D 2) (D 4) 4) (.pr 14 (I 0) (I 0))))))) (I 0) (I 0)) (I 0))=false:=zS he;unfold kQ at b1 b2⊢;unfold ST.tr ST.flg ST.nxt as11;simp only[ST.val,b1,b2,cond_true,cond_false];rfl
theorem Lo(F:Go.Tw.Fn)(all g:Dat)(k:Nat)(h1:¬k<all.toL.length):as11.tr F 5 (kQ F all g k)=(9,[.lst (zV F all k),.int (if k=0 then 0 else 1),.int 0,.int 0,.int 0]):=by have b1:@Bx.eval (VL F (kQ F all g k)) (lt (D 4) (ae (D 2)))=false:=jw (show ¬(k:Int)<(all.toL.length:Int) by omega);unfold kQ at b1⊢;unfold ST.tr ST.flg ST.nxt as11;simp only[ST.val,b1,cond_false];rfl
theorem zM(P:Nat→Prop)(N:Nat):(∃n,n<N∧P n∧∀j,j<n→¬P j)∨∀j,j<N→¬P j:=by
 induction N with
 |zero=>exact .inr fun j hj=>by omega
 |succ N ih=>rcases ih with⟨n,h1,h2⟩|h;{exact .inl ⟨n,by omega,h2⟩};rcases Classical.em (P N)with hP|hP;{exact .inl ⟨N,by omega,hP,h⟩};refine .inr fun j hj=> ?_;rcases bl j N with h'|h';{exact h j h'};have:j=N:=(by omega);rw[this];exact hP
theorem O2(F:Go.Tw.Fn)(t:List Dat)(hb:(ah t 0).toL.length≤10000)(hz:(ah (aB (as8.tr F 4) (aB (aB (as9.tr F 5) (gE 7 (gO (as11.tr F 5) (fun s=>(ah s 2).toL.length)))) (as13.tr F 3)) t).2 2).toI=0):
 (ah (aB (as8.tr F 4) (aB (aB (as9.tr F 5) (gE 7 (gO (as11.tr F 5) (fun s=>(ah s 2).toL.length)))) (as13.tr F 3)) t).2 0).toL.length=(ah t 0).toL.length:=by
 generalize hall:ah t 0=all at hb⊢;have g8:as8.tr F 4 t=(0,[all,ah t 1,.lst [],.int 0]):=by rw[←hall];rfl
 rw[cW g8]at hz⊢;have g9:as9.tr F 5 [all,ah t 1,.lst [],.int 0]=(0,kQ F all (ah t 1) 0):=rfl;generalize ah t 1=g at g9 hz⊢;have hrun:∀n,n≤all.toL.length→(∀j,j<n→(F 54 (Ch all j) (.int 0) (.int 0)).toI=0)→(as11.tr F 5 (kQ F all g n)).1≠0→gO (as11.tr F 5) (fun s=>(ah s 2).toL.length) (kQ F all g 0)=as11.tr F 5 (kQ F all g n):=fun n hn hj he=>
  xw (fun k=>kQ F all g k) rfl hn (fun k hk=>Pa F all g k (by omega) hb (hj k hk)) he
 rcases zM (fun n=>(F 54 (Ch all n) (.int 0) (.int 0)).toI≠0) all.toL.length with⟨n,h1,h2,h3⟩|h
 ·exfalso;have hx:=Lp F all g n h1 h2;have hr:=hrun n (by omega) (fun j hj=>by have:=h3 j hj;omega) (by rw[hx];simp);rw[hx]at hr;have g10:aB (as9.tr F 5) (gE 7 (gO (as11.tr F 5) (fun s=>(ah s 2).toL.length))) [all,g,.lst [],.int 0]=(1,[.lst [],.int 0,.int (F 54 (Ch all n) (.int 0) (.int 0)).toI,.int 0,.int 0]):=by
   rw[cW g9];unfold gE;rw[hr];rfl
  rw[ou (by decide) g10]at hz;exact h2 hz
 have hx:=Lo F all g all.toL.length (Nat.lt_irrefl _);have hr:=hrun all.toL.length (aw _) (fun j hj=>by have:=h j hj;omega) (by rw[hx];simp);rw[hx]at hr;have g10:aB (as9.tr F 5) (gE 7 (gO (as11.tr F 5) (fun s=>(ah s 2).toL.length))) [all,g,.lst [],.int 0]=(0,[.lst (zV F all all.toL.length),.int (if all.toL.length=0 then 0 else 1),.int 0,.int 0,.int 0]):=by rw[cW g9];unfold gE;rw[hr];rfl
 rw[cW g10];show(zV F all all.toL.length).length=_;exact zU _ _ _
theorem k56(F:Go.Tw.Fn)(d:Dat):@Sx.dat (VL F [d]) (.ap 56 (D 0) (I 0) (I 0))=F 56 d (.int 0) (.int 0):=rfl
theorem VQ{L:Dat}(h61:(F0 61 L (.int 0) (.int 0)).toI=0)(h56:(F0 56 L (.int 0) (.int 0)).toI=0):(F0 59 L (.int 0) (.int 0)).toL.length=ji L (tJ L) L.toL.length:=by
 have hl:=fW h56;rw[LP,show ∀x:Dat,(Dat.int x.toI).toI=x.toI from fun _=>rfl]at h61;rw[LQ];have b1:@Bx.eval (VL F0 [L]) (eq (.ap 56 (D 0) (I 0) (I 0)) (I 0))=true:=tN (by rw[k56,dI];exact h56);have g0:as0.tr F0 1 [L]=(0,[L]):=rfl;have g1:as1.tr F0 3 [L]=(0,[L,.int 0,.int 0]):=by unfold ST.tr ST.flg ST.nxt as1;simp only[ST.val,b1,cond_true];rfl
 have b2:@Bx.eval (VL F0 [L,.int 0,.int 0]) (lt (ae (D 0)) (I 5000))=true:=ie (show(L.toL.length:Int)<5000 by omega);have g2:as2.tr F0 4 [L,.int 0,.int 0]=(0,[L,F0 45 L (.int 0) (.int 0),F0 46 L (.int 0) (.int 0),F0 47 L (.int 0) (.int 0)]):=by generalize F0=F at b2⊢;unfold ST.tr ST.flg ST.nxt as2;simp only[ST.val,b2,cond_true];rfl
 obtain⟨f45,e45⟩:∃x,x=F0 45 L (.int 0) (.int 0):=⟨_,rfl⟩;obtain⟨f46,e46⟩:∃x,x=F0 46 L (.int 0) (.int 0):=⟨_,rfl⟩;obtain⟨f47,e47⟩:∃x,x=F0 47 L (.int 0) (.int 0):=⟨_,rfl⟩;rw[←e45,←e46,←e47]at g2;have g3:as3.tr F0 6 [L,f45,f46,f47]=(0,[L,f45,f46,f47,.lst [],.int 0]):=rfl;have g4:as4.tr F0 7 [L,f45,f46,f47,.lst [],.int 0]=(0,[L,f45,f46,f47,.lst [],.int 0,.int 0]):=rfl;have hj:jD [L,f45,f46,f47,.lst [],.int 0,.int 0]:=by refine⟨⟨⟨?_,?_,?_⟩,rfl⟩,rfl⟩;{show L.toL.length<5000;omega};{show f45.toL.length=L.toL.length;rw[e45,DQ]};show f46.toL.length=L.toL.length+1;rw[e46,II]
 obtain⟨t,ht,hlen⟩:=O6 _ hj;have hs:lg F0 [L]=aB (as8.tr F0 4) (aB (aB (as9.tr F0 5) (gE 7 (gO (as11.tr F0 5) (fun s=>(ah s 2).toL.length)))) (as13.tr F0 3)) t:=by unfold lg;rw[cW g0,cW g1,cW g2,cW g3];have g46:aB (as4.tr F0 7) (gE 0 (gO (as6.tr F0 7) (fun s=>(ah s 0).toL.length))) [L,f45,f46,f47,.lst [],.int 0]=(0,t):=(by rw[cW g4];exact ht);rw[cW g46]
 rw[hs]at h61⊢;have hlen:(ah t 0).toL.length=ji L f45 L.toL.length:=hlen;have hfar:f45=tJ L:=by rw[e45,je rfl];rfl
 rw[O2 F0 t (by rw[hlen];have:=Lh L f45 L.toL.length;omega) h61,hlen,hfar]
end
end Go.Proofs.YtlagbijmfchkeaaGreat
namespace Go.Proofs.YtlagbijmfchkeaaGreat
open Go.Tw Go.Tw.NE
noncomputable section
def Qh(k:Nat):Bx→Bool
 | .cmp .lss (.lit (.ofNat j)) (.pr 7 (.dvar 5) (.lit _))=>Nat.blt j k
 |_=>false
def sV(k:Nat):ST→Bool
 | .leaf l=>(match cu l 1 with
  | .lit n=> !iB n 0&&Nat.blt 1 l.length
  |_=>false)||(match growX.litN (cu l 2)with
  |some m=>Nat.ble 1 m&&Nat.blt 2 l.length
  |none=>false)
 | .ask b t e=>bif Qh k b then sV k t else sV k t&&sV k e
 | .none=>false
theorem mR{v:Val}{k:Nat}(hk:k=0∨((v.dat 5).toL.length:Int)=k):∀{sp:ST},sV k sp=true→(sp.val v 1).toI=0→1≤(sp.val v 2).toL.length
 | .leaf l,h,h0=>by simp only[sV,dw]at h;rcases h with h|h;{exfalso;split at h;{rename_i n hn;rw[ak]at h;have h4:=aL h.2;rw[bV,bh h4]at hn;simp only[ST.val,bh h4]at h0;have hn:l[1]=.lit n:=hn;rw[hn]at h0;have h0:n=0:=h0;subst h0;cases h.1};cases h};split at h;{rename_i m hm;rw[ak]at h;have h4:=aL h.2;have:=DA (v:=v) hm;rw[bV,bh h4]at this;simp only[ST.val,bh h4];have h1:=aA h.1;have this:(@Sx.dat v l[2]).toL.length=m:=this;omega};cases h
 | .ask b t e,h,h0=>by
  simp only[sV,au]at h;simp only[ST.val]at h0⊢;split at h
  ·rename_i hb;have hbt:@Bx.eval v b=true:=by
    unfold Qh at hb;split at hb;{rename_i j z;have hj:=aL hb;show decide ((Int.ofNat j)<((v.dat 5).toL.length:Int))=true;refine decide_eq_true ?_;show(j:Int)<_;rcases hk with hk|hk<;>omega};cases hb
   rw[hbt]at h0⊢;exact mR hk h h0
  rw[ak]at h;cases hb:@Bx.eval v b;{rw[hb]at h0;exact mR hk h.2 h0};rw[hb]at h0;exact mR hk h.1 h0
 | .none,h,_=>by cases h
def put28L:List ST:=[oU,oT,oS,oR,oQ,oP,oO,oN,oM]
def yY:List ST→Nat→Bool
 |[],_=>true
 |t::l,n=>sV n t&&yY l (Nat.succ n)
theorem yX:∀{l:List ST} {n j:Nat} {t:ST},yY l n=true→l[j]? =some t→sV (n+j) t=true
 |[],_,_,_,_,h=>by cases h
 |u::l,n,0,t,h,hg=>by have:u=t:=(by simpa using hg);subst this;simp only[yY,ak]at h;exact h.1
 |u::l,n,j+1,t,h,hg=>by simp only[yY,ak]at h;have:=yX (n:=n.succ) h.2 (by simpa using hg);rw[show n+(j+1)=n.succ+j from by omega];exact this
theorem Il:yY put28L 0=true:=by kernel_rfl
theorem EF{v:Val}(h0:(put28.val v 1).toI=0):1≤(put28.val v 2).toL.length:=by
 have hnn:0≤(@Sx.dat v (ae (D 5))).toI:=Int.natCast_nonneg _;by_cases hr:(@Sx.dat v (ae (D 5))).toI<9
 ·obtain⟨j,hj⟩:∃j:Nat,(@Sx.dat v (ae (D 5))).toI=j:=⟨(@Sx.dat v (ae (D 5))).toI.toNat,by omega⟩;have hlt:j<put28L.length:=(by show j<9;omega);have hg:put28L[j]? =some put28L[j]:=bh hlt;have e:∀i,put28.val v i=put28L[j].val v i:=fun i=>ju (l:=put28L) (n:=0) hg (by omega) i;rw[e]at h0⊢;have hall:∀j t,put28L[j]? =some t→sV j t=true:=fun j t ht=>by
   have:=yX (n:=0) Il ht;rwa[Nat.zero_add]at this
  exact mR (k:=j) (.inr hj) (hall j _ hg) h0
 have e:∀i,put28.val v i=put28_o.val v i:=fun i=>gZ (l:=put28L) (n:=0) (.inr (by show 0+((9:Nat):Int)≤_;omega)) i;rw[e]at h0⊢;exact mR (k:=0) (.inl rfl) (by kernel_rfl) h0
def M4:List ST→Nat→Bool
 |[],_=>true
 |t::l,n=>(Nat.beq n 28||sV 0 t)&&M4 l (Nat.succ n)
theorem C2:∀{l:List ST} {n j:Nat} {t:ST},M4 l n=true→l[j]? =some t→n+j≠28→sV 0 t=true
 |[],_,_,_,_,h,_=>by cases h
 |u::l,n,0,t,h,hg,hn=>by have:u=t:=(by simpa using hg);subst this;simp only[M4,ak,dw]at h;rcases h.1 with h1|h1;{exact absurd (ad h1) (by omega)};exact h1
 |u::l,n,j+1,t,h,hg,hn=>by simp only[M4,ak]at h;exact C2 h.2 (by simpa using hg) (by show n+1+j≠28;omega)
theorem M0{v:Val}(h0:(spPut.val v 1).toI=0):1≤(spPut.val v 2).toL.length:=by
 by_cases hr:0≤(@Sx.dat v (D 0)).toI∧(@Sx.dat v (D 0)).toI<33;{obtain⟨j,hj⟩:∃j:Nat,(@Sx.dat v (D 0)).toI=j:=⟨(@Sx.dat v (D 0)).toI.toNat,by omega⟩;have hlt:j<putL.length:=(by show j<33;omega);have hg:putL[j]? =some putL[j]:=bh hlt;have e:∀i,spPut.val v i=putL[j].val v i:=fun i=>ju hg (by omega) i;rw[e]at h0⊢;by_cases h28:j=28;{subst h28;have:putL[28]=put28:=rfl;rw[this]at h0⊢;exact EF h0};exact mR (k:=0) (.inl rfl) (C2 (n:=0) (by kernel_rfl) hg (by omega)) h0};have e:∀i,spPut.val v i=put33.val v i:=fun i=>gZ (by have:putL.length=33:=rfl;rw[this];omega) i;rw[e]at h0;exfalso;unfold put33 at h0;simp only[ST.val]at h0;have:(er 16).val v 1=.int 16:=rfl;cases hb:@Bx.eval v (lt (D 0) (I 0))with
 |true=>rw[hb]at h0;have h0:((er 16).val v 1).toI=0:=h0;rw[this]at h0;cases h0
 |false=>rw[hb]at h0;have hb2:@Bx.eval v (lt (D 0) (I 33))=false:=jw (by have:=fQ hb;have e0:(@Sx.dat v (I 0)).toI=0:=rfl;have e33:(@Sx.dat v (I 33)).toI=33:=rfl;rw[e0]at this;rw[e33];omega);rw[hb2]at h0;have h0:((er 16).val v 1).toI=0:=h0;rw[this]at h0;cases h0
theorem M1(a b c:Dat)(h:(F0 65 a b c).toI=0):1≤(F0 63 a b c).toL.length:=by rw[Q6]at h;rw[LN];have e:spPut.val (VL Ge a.one) 1=spPut.val (VL Pk a.one) 1:=ST.okB_val (v:=VL Ge a.one) (v2:=VL Pk a.one) (nv:=6) (nf:=63) (fun i hi=>rfl) (fun f hf=>by have h1:Ge f=Lx f:=mV (by omega);have h2:Lx f=Pk f:=mV (by omega);exact h1.trans h2) 1 (by kernel_rfl);rw[e]at h;exact M0 h
def dP(d:Dat)(k:Nat):Dat:=.lst [[d.cell (k:Int) 0,d.cell (k:Int) 1,d.cell (k:Int) 2,d.cell (k:Int) 3,d.cell (k:Int) 4,d.cell (k:Int) 5]]
def x65:Sx:=.ap 65 (.pr 12 (.cell (D 2) (D 3) 0) (.pr 12 (.cell (D 2) (D 3) 1) (.pr 12 (.cell (D 2) (D 3) 2) (.pr 12 (.cell (D 2) (D 3) 3) (.pr 12 (.cell (D 2) (D 3) 4) (.pr 12 (.cell (D 2) (D 3) 5) (.pr 14 (I 0) (I 0)))))))) (I 0) (I 0)
theorem NO:jn4.leafs 0 (fun p _=>oi p (eq x65 (I 0)) true) zB=true:=by kernel_rfl
theorem NN:jn4.leafs 1 (fun p xs=>(cu xs 2).same (N x65)&&(Nat.blt 2 xs.length&&oi p (eq x65 (I 0)) false)) zB=true:=by kernel_rfl
theorem NM:jn4.leafs 2 (fun p _=>oi p (lt (D 3) (ae (D 2))) false) zB=true:=by kernel_rfl
theorem NP:jn4.flsX [0,1,2]=true:=by kernel_rfl
theorem Rk(F:Go.Tw.Fn)(s:List Dat)(k:Nat)(h:ah s 3=.int k):@Sx.dat (VL F s) x65=F 65 (dP (ah s 2) k) (.int 0) (.int 0):=by
 have:∀n,@Sx.dat (VL F s) (.cell (D 2) (D 3) n)=(ah s 2).cell (k:Int) n:=fun n=>by show(ah s 2).cell (ah s 3).toI n=_;rw[h];rfl
 show F 65 (.lst [[@Sx.dat (VL F s) (.cell (D 2) (D 3) 0),@Sx.dat (VL F s) (.cell (D 2) (D 3) 1),@Sx.dat (VL F s) (.cell (D 2) (D 3) 2),@Sx.dat (VL F s) (.cell (D 2) (D 3) 3),@Sx.dat (VL F s) (.cell (D 2) (D 3) 4),@Sx.dat (VL F s) (.cell (D 2) (D 3) 5)]]) _ _=_;rw[this,this,this,this,this,this];rfl
theorem KD{s:List Dat}{w:Nat}(hr:jn4.natF=true)(h:(jn4.tr F0 4 s).1=w):jn4.flg F0 s=(w:Int):=by obtain⟨q,hq⟩:=iM (F:=F0) (s:=s) hr;have hx:(jn4.flg F0 s).toNat=w:=h;rw[hq]at hx⊢;omega
theorem TP(s:List Dat)(hs:jR s):((∀j,j<(ah s 2).toL.length→(F0 65 (dP (ah s 2) j) (.int 0) (.int 0)).toI=0)∧(gO (jn4.tr F0 4) (fun s=>(ah s 2).toL.length) s).1=2)∨
 ((gO (jn4.tr F0 4) (fun s=>(ah s 2).toL.length) s).1=1∧(ah (gO (jn4.tr F0 4) (fun s=>(ah s 2).toL.length) s).2 2).toI≠0):=by
 obtain⟨n,s',r,⟨hi,hi2⟩,h1,h2⟩:=mN (F:=F0) tf nN (by omega) (s:=s) (Inv:=fun k t=>Ga s k t∧∀j,j<k→(F0 65 (dP (ah s 2) j) (.int 0) (.int 0)).toI=0) (fun k s' hr hi=>ij s' ⟨s,k,hs,hr,hi.1⟩) (fun k s' hr hi=>fB s' ⟨s,k,hs,hr,hi.1⟩) (po s hs).1 (po s hs).2 ⟨Ka s hs,fun j hj=>by omega⟩ (fun k s' r hk hi hf=>by refine⟨te s k s' hs r hk hi.1 hf,fun j hj=> ?_⟩;rcases bl j k with h|h;{exact hi.2 j h};have:j=k:=(by omega);subst this;have ha:AtR jR Ga 2 3 [] [2] 0 200 s':=⟨s,j,hs,r,hi.1⟩;have hz:=(dR nN (ij s' ha) (fB s' ha) tf).1 hf;obtain⟨p',xs,q1,q2,_⟩:=cF (w:=0) (ij s' ha) nN NO (fB s' ha) hz;have g:=uH (dK q1 q2);rw[Rk F0 s' j r.1,dI,r.2.2.2.2 2 (by simp)]at g;exact g);have ha:AtR jR Ga 2 3 [] [2] 0 200 s':=⟨s,n,hs,r,hi⟩;have hin:=gm (m:=4) (ij s' ha) nN NP (fB s' ha);simp only[cP,dQ,or_false]at hin;rw[h2];rcases hin with h|h|h;·exact absurd h h1
 ·refine .inr ⟨h,?_⟩;obtain⟨p',xs,q1,q2,q3⟩:=cF (w:=1) (ij s' ha) nN NN (fB s' ha) (KD (fq tf) h);simp only[ak]at q1;have hb:=tO (dK q1.2.2 q2);rw[dI]at hb;have hl:=aL q1.2.1;rw[kS (by omega),q3 2];have e:(ST.leaf (.lit (((1:Nat):Int))::xs)).val (VL F0 s') (2+1)=@Sx.dat (VL F0 s') (cu xs 2):=by
   show(match xs[2]? with
    |some e=>@Sx.dat (VL F0 s') e
    |none=>.int 0)=_
   rw[bV,bh hl];rfl
  rw[e,Sx.same_eq q1.1,dN];exact hb
 refine .inl ⟨?_,h⟩;obtain⟨p',xs,q1,q2,_⟩:=cF (w:=2) (ij s' ha) nN NM (fB s' ha) (KD (fq tf) h);have g:=fQ (dK q1 q2);rw[dD,dL,dD,r.1,r.2.2.2.2 2 (by simp)]at g;have g:¬(n:Int)<((ah s 2).toL.length:Int):=g;intro j hj;exact hi2 j (by omega)
theorem TM{d:Dat}(hd:d.toL.length≤200)(h:(ah (la F0 [d]).2 2).toI=0):∀j,j<d.toL.length→(F0 65 (dP d j) (.int 0) (.int 0)).toI=0:=by
 have g0:jn0.tr F0 1 [d]=(0,[d]):=rfl;have g1:jn1.tr F0 3 [d]=(0,[d,.lst [],.int 0]):=rfl;have g2:jn2.tr F0 4 [d,.lst [],.int 0]=(0,[.lst [],.int 0,d,.int 0]):=rfl;have hs:jR [.lst [],.int 0,d,.int 0]:=⟨hd,rfl,rfl⟩;unfold la at h;rw[cW g0,cW g1]at h;rcases TP _ hs with⟨q,_⟩|⟨q1,q2⟩;{exact q};exfalso;generalize hL:gO (jn4.tr F0 4) (fun s=>(ah s 2).toL.length) [.lst [],.int 0,d,.int 0]=S at q1 q2;obtain⟨w,t⟩:=S;have q1:w=1:=q1;subst q1;have g3:aB (jn2.tr F0 4) (gE 0 (gO (jn4.tr F0 4) (fun s=>(ah s 2).toL.length))) [d,.lst [],.int 0]=(1,t):=by rw[cW g2];unfold gE;rw[hL];rfl
 rw[ou (by decide) g3]at h;exact q2 h
theorem Uc{d:Dat}(hd:d.toL.length≤200)(h:(F0 71 d (.int 0) (.int 0)).toI=0):∀j,j<d.toL.length→(F0 65 (dP d j) (.int 0) (.int 0)).toI=0:=by
 rw[LJ,show ∀x:Dat,(Dat.int x.toI).toI=x.toI from fun _=>rfl]at h;have g0:fc0.tr F0 1 [d]=(0,[d]):=rfl;have k69:∀F:Go.Tw.Fn,@Sx.dat (VL F [d]) (.ap 69 (D 0) (I 0) (I 0))=F 69 d (.int 0) (.int 0):=fun F=>rfl;by_cases h69:(F0 69 d (.int 0) (.int 0)).toI=0;{rw[LL,show ∀x:Dat,(Dat.int x.toI).toI=x.toI from fun _=>rfl]at h69;exact TM hd h69};exfalso;have b1:@Bx.eval (VL F0 [d]) (eq (.ap 69 (D 0) (I 0) (I 0)) (I 0))=false:=zS (by rw[k69,dI];exact h69);have g1:fc1.tr F0 1 [d]=(1,[.int (F0 69 d (.int 0) (.int 0)).toI]):=by generalize F0=F at b1⊢;unfold ST.tr ST.flg ST.nxt fc1;simp only[ST.val,b1,cond_false];rfl
 unfold ux at h;rw[cW g0,ou (by decide) g1]at h;exact h69 h
end
end Go.Proofs.YtlagbijmfchkeaaGreat
namespace Go.Proofs.YtlagbijmfchkeaaGreat
open Go.Tw Go.Tw.NE
noncomputable section
variable(r0 r1 r2:Int)(c:Dat)
noncomputable def Xs(r1 r2:Int)(c:Dat)(k:Nat)(p:Int):Dat:=.lst [[c.cell (k:Int) 0,c.cell (k:Int) 1,c.cell (k:Int) 2,c.cell (k:Int) 3,c.cell (k:Int) 4,c.cell (k:Int) 5,.int r1,.int r2,.int p]]
noncomputable def nM(c:Dat):Nat→Int
 |0=>0
 |k+1=>nM c k+((F0 63 (dP c k) (.int 0) (.int 0)).toL.length:Int)
noncomputable def Wz(r1 r2:Int)(c:Dat)(k:Nat):Int:=(F0 8 (Xs r1 r2 c k (nM c k)) (.int 0) (.int 0)).toI
noncomputable def ru(r1 r2:Int)(c:Dat)(k:Nat):List (List Dat):=(F0 9 (Xs r1 r2 c k (nM c k)) (.int 0) (.int 0)).toL
noncomputable def eC(r1 r2:Int)(c:Dat):Nat→List (List Dat)
 |0=>[]
 |k+1=>eC r1 r2 c k++[BO (nM c k)]++ru r1 r2 c k
def lnH(k:Nat):Dat:=.int (if k=0 then 0 else 1)
noncomputable def Dy(r0 r1 r2:Int)(c:Dat)(k:Nat):List Dat:=[.int r0,.int r1,.int r2,c,.lst (eC r1 r2 c k),lnH k,.int (nM c k),.int k]
theorem BH(k:Nat):0≤nM c k∧nM c k≤16*k:=by
 induction k with
 |zero=>exact⟨Int.le_refl _,Int.le_refl _⟩
 |succ k ih=>have:=rD (dP c k) (.int 0) (.int 0);simp only[nM];omega
theorem JP(k:Nat):(ru r1 r2 c k).length≤24:=AQ _ _ _
theorem Nw(k:Nat):(eC r1 r2 c k).length≤25*k:=by
 induction k with
 |zero=>exact aw _
 |succ k ih=>have:=JP r1 r2 c k;simp only[eC,cZ,List.length_singleton];omega
theorem To{k:Nat}(hc:c.toL.length≤200)(hk:k≤c.toL.length):AtR F9 Gb 3 7 [] [3] 0 200 (Dy r0 r1 r2 c k):=by refine⟨Dy r0 r1 r2 c 0,k,⟨hc,rfl,rfl⟩,⟨rfl,hk,hc,fun y hy=>(by cases hy),fun i hi=> ?_⟩,Nw r1 r2 c k⟩;rw[List.mem_singleton.1 hi];rfl
theorem pd(k:Nat):Ax (Dy r0 r1 r2 c k)=Xs r1 r2 c k (nM c k):=rfl
theorem JQ(k:Nat):aa5 (Dy r0 r1 r2 c k)=dP c k:=rfl
theorem Tn{k:Nat}(hc:c.toL.length≤200)(hk:k<c.toL.length)(he:Wz r1 r2 c k=0):ir2.tr F0 8 (Dy r0 r1 r2 c k)=(0,Dy r0 r1 r2 c (k+1)):=by
 have h:=Kj (Dy r0 r1 r2 c k) (To r0 r1 r2 c hc (by omega)) (show(k:Int)<(c.toL.length:Int) by omega) (by rw[pd];exact he);rw[h,pd,JQ];have e1:aZ .add .i64 (nM c k) ((F0 63 (dP c k) (.int 0) (.int 0)).toL.length:Int)=nM c (k+1):=by have:=BH c k;have:=rD (dP c k) (.int 0) (.int 0);show aU .i64 (nM c k+_)=_;rw[bp (by omega) (by omega)];rfl
 have e2:aU .i64 ((k:Int)+1)=((k+1:Nat):Int):=rS (by omega);show(0,[Dat.int r0,.int r1,.int r2,c,.lst (eC r1 r2 c k++[BO (nM c k)]++ru r1 r2 c k),.int 1,.int (aZ .add .i64 (nM c k) ((F0 63 (dP c k) (.int 0) (.int 0)).toL.length:Int)),.int (aU .i64 ((k:Int)+1))])=_;rw[e1,e2];rfl
theorem NB(s:List Dat)(hn:(ah s 3).toL.length≤200)(h:(ah (jZ F0 s).2 2).toI=0):
 (F0 71 (ah s 3) (.int 0) (.int 0)).toI=0∧(∀k,k<(ah s 3).toL.length→Wz (ah s 1).toI (ah s 2).toI (ah s 3) k=0)∧ah (jZ F0 s).2 0=.lst (eC (ah s 1).toI (ah s 2).toI (ah s 3) (ah s 3).toL.length):=by
 by_cases h71:(F0 71 (ah s 3) (.int 0) (.int 0)).toI=0
 ·refine⟨h71,?_⟩;rw[CG F0 s h71]at h⊢;have g0:ir0.tr F0 8 s=(0,Dy (ah s 0).toI (ah s 1).toI (ah s 2).toI (ah s 3) 0):=rfl;generalize (ah s 0).toI=r0 at g0⊢;generalize (ah s 1).toI=r1 at g0⊢;generalize (ah s 2).toI=r2 at g0⊢;generalize ah s 3=c at hn h71 g0⊢;have hrun:∀n,n≤c.toL.length→(∀j,j<n→Wz r1 r2 c j=0)→(ir2.tr F0 8 (Dy r0 r1 r2 c n)).1≠0→gO (ir2.tr F0 8) (fun s=>(ah s 3).toL.length) (Dy r0 r1 r2 c 0)=ir2.tr F0 8 (Dy r0 r1 r2 c n):=fun n hn' hj he=>
   xw (fun k=>Dy r0 r1 r2 c k) rfl hn' (fun k hk=>Tn r0 r1 r2 c hn (by omega) (hj k hk)) he
  rcases zM (fun n=>Wz r1 r2 c n≠0) c.toL.length with⟨n,h1,h2,h3⟩|hall
  ·exfalso;have hx:=DF (Dy r0 r1 r2 c n) (show(n:Int)<(c.toL.length:Int) by omega) (by rw[pd];exact h2);rw[pd]at hx;have hr:=hrun n (by omega) (fun j hj=>by have:=h3 j hj;omega) (by rw[hx.1];simp);have hs:(iz F0 s).1=1∧(ah (iz F0 s).2 4).toI≠0:=by
    unfold iz;rw[cW g0];unfold gE;rw[hr,if_neg (by rw[hx.1];decide)];refine⟨hx.1,?_⟩;rw[hx.2];exact h2
   rw[hs.1]at h;exact hs.2 h
  have hx:=NW (Dy r0 r1 r2 c c.toL.length) (show ¬(c.toL.length:Int)<(c.toL.length:Int) by omega);have hr:=hrun c.toL.length (aw _) (fun j hj=>by have:=hall j hj;omega) (by rw[hx];simp);refine⟨fun k hk=>by have:=hall k hk;omega,?_⟩;have hs:(iz F0 s).1=0∧ah (iz F0 s).2 4=.lst (eC r1 r2 c c.toL.length):=(by unfold iz;rw[cW g0];unfold gE;rw[hr,if_pos (by rw[hx]),hx];exact⟨rfl,rfl⟩);rw[hs.1];exact hs.2
 exfalso;rw[CH F0 s h71]at h;exact h71 h
theorem Dz{k n:Nat}(h:k≤n):∃t,eC r1 r2 c n=eC r1 r2 c k++t:=by
 induction n with
 |zero=>have:k=0:=(by omega);subst this;exact⟨[],(List.append_nil _).symm⟩
 |succ n ih=>rcases Nat.eq_or_lt_of_le h with rfl|h;{exact⟨[],(List.append_nil _).symm⟩};obtain⟨t,ht⟩:=ih (by omega);refine⟨t++[BO (nM c n)]++ru r1 r2 c n,?_⟩;simp only[eC,ht,List.append_assoc]
theorem BQ{L:List (List Dat)}{i:Nat}{r:List Dat}(h:L[i]? =some r):iA (.lst L) i=Em.rk r:=by
 unfold iA;rw[gB];show(match L[i]? with
  |some r=>(match r[0]? with
   |some c=>c
   |none=>Dat.int 0)
  |none=>Dat.int 0).toI=_
 rw[h];cases r<;>rfl
theorem KI{f:Dat}{k i:Nat}{d:Dat}(h:fD (f.setc (k:Int) 0 d) i=true):i=k∨fD f i=true:=by by_cases hk:i=k;{exact .inl hk};refine .inr ?_;unfold fD at h⊢;rwa[rb hk]at h
theorem KG{d pl lb f:Dat}(hf:∀i,fD f i=true→iA d i=2):∀k i,fD (fg d pl lb f k) i=true→iA d i=2:=fun k=>by
 induction k with
 |zero=>exact hf
 |succ k ih=>intro i hi;simp only[fg]at hi;split at hi;{rename_i hc;rcases KI hi with rfl|h;{simp only[iQ,ak]at hc;exact of_decide_eq_true hc.1};exact ih i h};exact ih i hi
theorem NQ(d:Dat)(j:Nat):∀i,fD (jh d j) i=true→iA d i=2:=by
 induction j with
 |zero=>intro i hi;exfalso;unfold fD at hi;rw[gB]at hi;have:(Ur d).toL=List.replicate d.toL.length [Dat.int 0]:=rfl;simp only[jh,this,List.getElem?_replicate]at hi;split at hi;{rename_i r hr;split at hr;{cases hr;cases hi};cases hr};cases hi
 |succ j ih=>exact fun i hi=>KG ih _ i hi
theorem KH(d:Dat):∀i,fD (tJ d) i=true→iA d i=2:=NQ d _
theorem VO{L:List (List Dat)}{f:Dat}(hf:∀i,fD f i=true→iA (.lst L) i=2){b:Nat}{T t:List (List Dat)}{P:List (List Dat)}(hL:L=P++T++t)(hb:P.length=b)(hT:∀r∈T,Em.rk r=0∨Em.rk r=2):
 ∀m,m≤T.length→ji (.lst L) f b+m≤ji (.lst L) f (b+m)∧ji (.lst L) f (b+m)≤ji (.lst L) f b+m+(T.take m).countP (fun r=>Em.rk r==2):=fun m=>by
 induction m with
 |zero=>intro _;exact⟨aw _,Nat.le_add_right _ _⟩
 |succ m ih=>
  intro hm;obtain⟨i1,i2⟩:=ih (by omega);have hg:L[b+m]? =some T[m]:=(by rw[hL,←hb,List.append_assoc,List.getElem?_append_right (by omega),Nat.add_sub_cancel_left,List.getElem?_append_left (by omega)];exact bh (by omega));have hk:=BQ hg;have hr:=hT _ (List.getElem_mem (show m<T.length by omega));have htk:T.take (m+1)=T.take m++[T[m]]:=(by rw[List.take_succ,bh (by omega)];rfl);have hw:eJ (.lst L) f (b+m)=if fD f (b+m)=true then 2 else 1:=by unfold eJ;rw[if_neg (by rw[hk];omega)]
  have hs:ji (.lst L) f (b+(m+1))=ji (.lst L) f (b+m)+eJ (.lst L) f (b+m):=rfl;rw[hs,hw,htk,List.countP_append,List.countP_singleton];by_cases hfar:fD f (b+m)=true;{have h2:=hf _ hfar;rw[hk]at h2;rw[if_pos hfar,h2];simp only[beq_self_eq_true,if_true];omega};rw[if_neg hfar];omega
theorem NH{L:List (List Dat)}{p:Dat}{b:Nat}{T t:List (List Dat)}{P:List (List Dat)}(hL:L=P++T++t)(hb:P.length=b)(hT:∀r∈T,Em.rk r=0∨Em.rk r=2):
 ∀m,m≤T.length→rm (.lst L) (b+m)=rm (.lst L) b∧tP (.lst L) p (b+m)=tP (.lst L) p b:=fun m=>by
 induction m with
 |zero=>intro _;exact⟨rfl,rfl⟩
 |succ m ih=>intro hm;obtain⟨i1,i2⟩:=ih (by omega);have hg:L[b+m]? =some T[m]:=(by rw[hL,←hb,List.append_assoc,List.getElem?_append_right (by omega),Nat.add_sub_cancel_left,List.getElem?_append_left (by omega)];exact bh (by omega));have hk:=BQ hg;have hr:=hT _ (List.getElem_mem (show m<T.length by omega));have hn:iA (.lst L) (b+m)≠1:=(by rw[hk];omega);have e1:rm (.lst L) (b+(m+1))=rm (.lst L) (b+m):=if_neg hn;have e2:tP (.lst L) p (b+(m+1))=tP (.lst L) p (b+m):=if_neg hn;rw[e1,e2];exact⟨i1,i2⟩
end
end Go.Proofs.YtlagbijmfchkeaaGreat
namespace Go.Proofs.YtlagbijmfchkeaaGreat
open Go.Tw Go.Tw.NE
noncomputable section
structure FineC(w p e:Dat)(n:Nat):Prop where
 lp:p.toL.length=n
 le:e.toL.length=n
 lw:w.toL.length≤24*n
 z:0<n→pV e 0=0
 up:∀i,i+1<n→pV e i+4≤pV e (i+1)
 top:∀i,i+1=n→pV e i+4≤(w.toL.length:Int)
 nn:∀i,i<n→0≤pV e i∧pV e i≤10000
 inj:∀i j,i<j→j<n→pV p i≠pV p j
theorem PK{l:List (List Dat)}{i:Nat}{x:Dat}(h:l[i]? =some [x]):pV (.lst l) i=x.toI:=by
 unfold pV;rw[gB];show(match l[i]? with
  |some r=>(match r[0]? with
   |some c=>c
   |none=>Dat.int 0)
  |none=>Dat.int 0).toI=_
 rw[h];rfl
theorem M9(d f:Dat):∀{K i:Nat},i<K→(Go.Tw.plA d f K)[i]? =some [.int (ji d f i:Int)]:=fun{K}=>by
 induction K with
 |zero=>intro i h;omega
 |succ K ih=>intro i h;simp only[Go.Tw.plA];rcases bl i K with h1|h1;{rw[List.getElem?_append_left (by rw[Go.Tw.plA_len];exact h1)];exact ih h1};have:i=K:=(by omega);subst this;rw[List.getElem?_append_right (by rw[Go.Tw.plA_len];exact aw _),Go.Tw.plA_len,Nat.sub_self];rfl
theorem IK(d f:Dat){i:Nat}(h:i≤d.toL.length):(AE d f).cell (i:Int) 0=.int (ji d f i:Int):=by
 rw[gB];show(match(Go.Tw.plA d f (d.toL.length+1))[i]? with
  |some r=>(match r[0]? with
   |some c=>c
   |none=>Dat.int 0)
  |none=>Dat.int 0)=_
 rw[M9 d f (by omega)];rfl
section
variable{r1 r2:Int}{c:Dat}{n:Nat}
theorem Cu{k:Nat}(hk:k<n):∃t,eC r1 r2 c n=eC r1 r2 c k++[BO (nM c k)]++ru r1 r2 c k++t:=by obtain⟨t,ht⟩:=Dz r1 r2 c (show k+1≤n by omega);exact⟨t,ht⟩
theorem D0{k:Nat}(hk:k<n):(eC r1 r2 c n)[(eC r1 r2 c k).length]? =some (BO (nM c k)):=by obtain⟨t,ht⟩:=Cu (r1:=r1) (r2:=r2) (c:=c) hk;rw[ht,List.append_assoc,List.append_assoc,List.getElem?_append_right (aw _),Nat.sub_self];rfl
theorem D1{k:Nat}(hk:k<n):iA (.lst (eC r1 r2 c n)) (eC r1 r2 c k).length=1:=by rw[BQ (D0 hk)];rfl
theorem Le{k:Nat}(hk:k<n)(hn:n≤200):BP (.lst (eC r1 r2 c n)) (eC r1 r2 c k).length=nM c k+1:=by
 unfold BP;rw[gB];show(match(eC r1 r2 c n)[(eC r1 r2 c k).length]? with
  |some r=>(match r[1]? with
   |some c=>c
   |none=>Dat.int 0)
  |none=>Dat.int 0).toI=_
 rw[D0 hk];have:=BH c k;show aU .i64 (nM c k+1)=_;exact bp (by omega) (by omega)
theorem At{k:Nat}:(eC r1 r2 c (k+1)).length=(eC r1 r2 c k).length+1+(ru r1 r2 c k).length:=by simp only[eC,cZ,List.length_singleton]
theorem FX{f:Dat}(hf:∀i,fD f i=true→iA (.lst (eC r1 r2 c n)) i=2){k:Nat}(hk:k<n)(he:Wz r1 r2 c k=0):
 ji (.lst (eC r1 r2 c n)) f (eC r1 r2 c k).length+4≤ji (.lst (eC r1 r2 c n)) f (eC r1 r2 c (k+1)).length∧ji (.lst (eC r1 r2 c n)) f (eC r1 r2 c (k+1)).length≤ji (.lst (eC r1 r2 c n)) f (eC r1 r2 c k).length+24:=by
 obtain⟨t,ht⟩:=Cu (r1:=r1) (r2:=r2) (c:=c) hk;obtain⟨q1,q2,q3⟩:=(AP (Xs r1 r2 c k (nM c k)) (.int 0) (.int 0)).2 he;have hr:=VO hf ht (b:=(eC r1 r2 c k).length+1) (by simp) q1 (ru r1 r2 c k).length (aw _);have h0:ji (.lst (eC r1 r2 c n)) f ((eC r1 r2 c k).length+1)=ji (.lst (eC r1 r2 c n)) f (eC r1 r2 c k).length:=by show _+eJ _ _ _=_;unfold eJ;rw[if_pos (D1 hk)];rfl
 rw[h0,List.take_length,←At]at hr;have q2:4≤(ru r1 r2 c k).length:=q2;have q3:(ru r1 r2 c k).length+(ru r1 r2 c k).countP (fun r=>Em.rk r==2)≤24:=q3;omega
theorem Ld{p:Dat}(hn:n≤200):∀k,k≤n→rm (.lst (eC r1 r2 c n)) (eC r1 r2 c k).length=(List.range k).map (fun i=>[.int (nM c i)])∧
 tP (.lst (eC r1 r2 c n)) p (eC r1 r2 c k).length=(List.range k).map (fun i=>[p.cell ((eC r1 r2 c i).length:Int) 0]):=fun k=>by
 induction k with
 |zero=>intro _;exact⟨rfl,rfl⟩
 |succ k ih=>intro hk;obtain⟨i1,i2⟩:=ih (by omega);obtain⟨t,ht⟩:=Cu (r1:=r1) (r2:=r2) (c:=c) (show k<n by omega);have hq:∀r∈ru r1 r2 c k,Em.rk r=0∨Em.rk r=2:=(AP (Xs r1 r2 c k (nM c k)) (.int 0) (.int 0)).1.1;obtain⟨s1,s2⟩:=NH (p:=p) ht (b:=(eC r1 r2 c k).length+1) (by simp) hq (ru r1 r2 c k).length (aw _);have hkn:=D1 (r1:=r1) (r2:=r2) (c:=c) (show k<n by omega);have e1:rm (.lst (eC r1 r2 c n)) ((eC r1 r2 c k).length+1)=rm (.lst (eC r1 r2 c n)) (eC r1 r2 c k).length++[[.int (aZ .sub .i64 (BP (.lst (eC r1 r2 c n)) (eC r1 r2 c k).length) 1)]]:=if_pos hkn;have e2:tP (.lst (eC r1 r2 c n)) p ((eC r1 r2 c k).length+1)=tP (.lst (eC r1 r2 c n)) p (eC r1 r2 c k).length++[[p.cell ((eC r1 r2 c k).length:Int) 0]]:=if_pos hkn;have e3:aZ .sub .i64 (nM c k+1) 1=nM c k:=(by have:=BH c k;show aU .i64 (nM c k+1 - 1)=_;rw[bp (by omega) (by omega)];omega);rw[At,s1,s2,e1,e2,i1,i2,Le (show k<n by omega) hn,e3,List.range_succ,List.map_append,List.map_append];exact⟨rfl,rfl⟩
end
theorem Tp{c:Dat}(h:∀j,j<c.toL.length→(F0 65 (dP c j) (.int 0) (.int 0)).toI=0):∀{i j:Nat},i<j→j≤c.toL.length→nM c i<nM c j:=fun{i j}=>by
 induction j with
 |zero=>intro h;omega
 |succ j ih=>intro hij hj;have h1:=M1 (dP c j) (.int 0) (.int 0) (h j (by omega));have h2:nM c (j+1)=nM c j+((F0 63 (dP c j) (.int 0) (.int 0)).toL.length:Int):=rfl;rcases bl i j with h3|h3;{have:=ih h3 (by omega);omega};have:i=j:=(by omega);subst this;omega
theorem OK(s:List Dat)(hn:(ah s 3).toL.length≤200):((ah (di F0 s).2 6).toI≠0∧NoC (di F0 s).2)∨((ah (di F0 s).2 6).toI=0∧FineC (ah (di F0 s).2 0) (ah (di F0 s).2 2) (ah (di F0 s).2 4) (ah s 3).toL.length):=by
 rcases OH F0 s (fun L h=>⟨fW h,D7 h⟩)with h|⟨L,hL,h85,h61,h56,h6,hw,hp,he⟩;{exact .inl h};refine .inr ⟨h6,?_⟩;rw[hw,hp,he];clear h6 hw hp he;have h85:(ah (jZ F0 (qs s)).2 2).toI=0:=by rw[LF,show ∀x:Dat,(Dat.int x.toI).toI=x.toI from fun _=>rfl]at h85;exact h85
 obtain⟨q1,q2,q3⟩:=NB (qs s) hn h85;have hL:L=.lst (eC (ah s 1).toI (ah s 2).toI (ah s 3) (ah s 3).toL.length):=by rw[hL,LH];exact q3
 have q2:∀k,k<(ah s 3).toL.length→Wz (ah s 1).toI (ah s 2).toI (ah s 3) k=0:=q2;have q1:(F0 71 (ah s 3) (.int 0) (.int 0)).toI=0:=q1;have hput:=Uc hn q1;clear q1 q3 h85;generalize (ah s 1).toI=r1 at*;generalize (ah s 2).toI=r2 at*;generalize ah s 3=c at*;have hlw:=VQ h61 h56;rw[Ly h56];obtain⟨far,hfar⟩:∃f,f=tJ L:=⟨_,rfl⟩;have hf2:∀i,fD far i=true→iA L i=2:=by rw[hfar];exact KH L
 rw[←hfar]at hlw⊢;generalize F0 59 L (.int 0) (.int 0)=W at hlw⊢;obtain⟨n,hne⟩:∃n,n=c.toL.length:=⟨_,rfl⟩;rw[←hne]at hn q2 hput hL⊢;have hlL:L.toL.length=(eC r1 r2 c n).length:=by rw[hL];rfl
 have hstep:∀k,k<n→ji L far (eC r1 r2 c k).length+4≤ji L far (eC r1 r2 c (k+1)).length∧ji L far (eC r1 r2 c (k+1)).length≤ji L far (eC r1 r2 c k).length+24:=fun k hk=>by rw[hL]at hf2⊢;exact FX hf2 hk (q2 k hk)
 have hle:∀k,k≤n→ji L far (eC r1 r2 c k).length≤24*k:=fun k=>by
  induction k with
  |zero=>intro _;exact aw _
  |succ k ih=>intro hk;have:=ih (by omega);have:=(hstep k (by omega)).2;omega
 have hbl:∀k,k≤n→(eC r1 r2 c k).length≤L.toL.length:=fun k hk=>by obtain⟨t,ht⟩:=Dz r1 r2 c hk;rw[hlL,ht,cZ];omega
 have htab:=Ld (r1:=r1) (r2:=r2) (c:=c) (n:=n) (p:=AE L far) hn n (aw _);rw[←hL,←hlL]at htab;rw[htab.1,htab.2];have hpv:∀i,i<n→pV (.lst ((List.range n).map fun i=>[Dat.int (nM c i)])) i=nM c i:=fun i hi=>by rw[PK (x:=.int (nM c i)) (by rw[List.getElem?_map,List.getElem?_range hi];rfl)];rfl
 have hev:∀i,i<n→pV (.lst ((List.range n).map fun i=>[(AE L far).cell ((eC r1 r2 c i).length:Int) 0])) i=(ji L far (eC r1 r2 c i).length:Int):=fun i hi=>by rw[PK (x:=(AE L far).cell ((eC r1 r2 c i).length:Int) 0) (by rw[List.getElem?_map,List.getElem?_range hi];rfl),IK L far (hbl i (by omega))];rfl
 refine⟨?_,?_,?_,fun h0=> ?_,fun i hi=> ?_,fun i hi=> ?_,fun i hi=> ?_,fun i j hij hj=> ?_⟩;{show((List.range n).map _).length=n;simp};{show((List.range n).map _).length=n;simp};{rw[hlw,hlL];exact hle n (aw _)};{rw[hev 0 h0];rfl};{rw[hev i (by omega),hev (i+1) hi];have:=(hstep i (by omega)).1;omega};{rw[hev i (by omega),hlw,hlL];have:=(hstep i (by omega)).1;rw[hi]at this;omega};{rw[hev i hi];have:=hle i (by omega);omega};rw[hpv i (by omega),hpv j hj];have:=Tp (c:=c) (by rw[←hne];exact hput) hij (by omega);omega
end
end Go.Proofs.YtlagbijmfchkeaaGreat
namespace Go.Proofs.YtlagbijmfchkeaaGreat
open Go.Tw Go.Tw.NE
noncomputable section
theorem gd:∀c∈[conAwake,conLong,conEntry],c.Sound F0 P ba b0 R0:=fun c hc=>by simp only[cP,dQ,or_false]at hc;rcases hc with rfl|rfl|rfl;{exact z8};{exact Cl};exact z7
theorem eB:∀c∈[hcCm],c.Sound F0 P ba b0 R0:=xg N5
def tW:Code:=match Tryz.f3.body with
 |some c=>c
 |none=>.skip
def lw0:ST:=(.leaf [(I 0),(N (D 4)),(N (D 0)),(N (D 1)),(N (D 2)),(D 3)])
def lw1:ST:=(.leaf [(I 0),(N (D 0)),(N (D 1)),(N (D 2)),(N (D 3)),(D 4)])
def lw2:ST:=(.ask (eq (.ap 80 (.pr 12 (D 1) (.pr 12 (D 2) (.pr 12 (D 3) (.pr 12 (D 4) (.pr 14 (I 0) (I 0)))))) (I 0) (I 0)) (I 0)) (.leaf [(I 0),(N (D 0)),(N (D 1)),(N (D 2)),(N (D 3)),(D 4),(N (D 1)),(N (D 2)),(N (D 3))]) (.leaf [(I 1),(I 1),(I 0),(I 0),(I 0),(I 0),(I 0),(I 0),(I 0)]))
def S4:aD:=[((lt (ae (D 4)) (I 9223372036854775808)),true)]
def lw3:ST:=(.leaf [(I 0),(N (D 0)),(N (D 1)),(N (D 2)),(N (D 3)),(D 4),(.ap 86 (.pr 12 (D 1) (.pr 12 (D 2) (.pr 12 (D 3) (.pr 12 (D 4) (.pr 14 (I 0) (I 0)))))) (I 0) (I 0)),(.ap 87 (.pr 12 (D 1) (.pr 12 (D 2) (.pr 12 (D 3) (.pr 12 (D 4) (.pr 14 (I 0) (I 0)))))) (I 0) (I 0)),(.ap 88 (.pr 12 (D 1) (.pr 12 (D 2) (.pr 12 (D 3) (.pr 12 (D 4) (.pr 14 (I 0) (I 0)))))) (I 0) (I 0)),(.ap 89 (.pr 12 (D 1) (.pr 12 (D 2) (.pr 12 (D 3) (.pr 12 (D 4) (.pr 14 (I 0) (I 0)))))) (I 0) (I 0)),(.ap 90 (.pr 12 (D 1) (.pr 12 (D 2) (.pr 12 (D 3) (.pr 12 (D 4) (.pr 14 (I 0) (I 0)))))) (I 0) (I 0)),(.ap 91 (.pr 12 (D 1) (.pr 12 (D 2) (.pr 12 (D 3) (.pr 12 (D 4) (.pr 14 (I 0) (I 0)))))) (I 0) (I 0)),(N (.ap 92 (.pr 12 (D 1) (.pr 12 (D 2) (.pr 12 (D 3) (.pr 12 (D 4) (.pr 14 (I 0) (I 0)))))) (I 0) (I 0))),(N (D 5)),(N (D 6)),(N (D 7)),(N (.ap 92 (.pr 12 (D 1) (.pr 12 (D 2) (.pr 12 (D 3) (.pr 12 (D 4) (.pr 14 (I 0) (I 0)))))) (I 0) (I 0))),(N (.ap 92 (.pr 12 (D 1) (.pr 12 (D 2) (.pr 12 (D 3) (.pr 12 (D 4) (.pr 14 (I 0) (I 0)))))) (I 0) (I 0)))])
def S2:aD:=[((lt (ae (D 4)) (I 201)),true)]
def lw4:ST:=(.ask (eq (D 11) (I 0)) (.leaf [(I 0),(N (D 0)),(N (D 1)),(N (D 2)),(N (D 3)),(D 4),(D 5),(D 6),(D 7),(D 8),(D 9),(D 10),(N (D 11)),(N (D 12)),(N (D 13)),(N (D 14)),(N (D 15)),(N (D 16))]) (.ask (eq (.bin .add .i64 (.bin .add .i64 (ae (D 5)) (ae (D 7))) (ae (D 9))) (I 0)) (.leaf [(I 1),(I 1),(I 0),(I 0),(I 0),(I 0),(I 0),(I 0),(I 0),(I 0),(I 0),(I 0),(I 0),(I 0),(I 0),(I 0),(I 0),(I 0)]) .none))
def JE:List aD:=[[((eq (D 11) (I 0)),false),((eq (.bin .add .i64 (.bin .add .i64 (ae (D 5)) (ae (D 7))) (ae (D 9))) (I 0)),false)]]
def lw5:ST:=(.ask (eq (ae (D 7)) (ae (D 4))) (.ask (eq (ae (D 9)) (ae (D 4))) (.ask (lt (.bin .mul .i64 (I 24) (ae (D 4))) (ae (D 5))) .none (.leaf [(I 0),(N (D 0)),(N (D 1)),(N (D 2)),(N (D 3)),(D 4),(D 5),(D 6),(D 7),(D 8),(D 9),(D 10),(N (D 15)),(N (D 16))])) .none) .none)
def JC:List aD:=[[((lt (.bin .mul .i64 (I 24) (ae (D 4))) (ae (D 5))),true)],[((eq (ae (D 9)) (ae (D 4))),false)],[((eq (ae (D 7)) (ae (D 4))),false)]]
def lw6:ST:=(.leaf [(I 0),(N (D 0)),(N (D 1)),(N (D 2)),(N (D 3)),(D 4),(D 5),(D 6),(D 7),(D 8),(D 9),(D 10),(I 0),(N (D 11)),(N (D 12))])
def lw7:ST:=(.leaf [(I 0),(N (D 0)),(N (D 1)),(N (D 2)),(N (D 3)),(D 4),(D 5),(D 6),(D 7),(D 8),(D 9),(D 10),(.pr 21 (D 11) (I 0)),(I 0),(N (D 12)),(N (D 13))])
def lw9:ST:=(.ask (lt (D 12) (ae (D 9))) (.ask (lt (.bin .add .i64 (D 12) (I 1)) (ae (D 9))) (.ask (lt (.bin .add .i64 (D 12) (I 1)) (I 0)) .none (.ask (lt (D 12) (ae (D 7))) (.ask (lt (ae (D 7)) (I 1000000)) (.ask (eq (D 12) (I 0)) (.ask (lt (I 0) (ae (D 9))) (.ask (eq (.cell (D 9) (I 0) 0) (I 0)) (.ask (lt (.bin .sub .i64 (.cell (D 9) (.bin .add .i64 (D 12) (I 1)) 0) (.cell (D 9) (D 12) 0)) (I 4)) .none (.ask (eq (.ap 82 (.pr 12 (D 5) (.pr 12 (D 7) (.pr 12 (D 9) (.pr 12 (.cell (D 7) (D 12) 0) (.pr 14 (I 0) (I 0)))))) (I 0) (I 0)) (I 0)) (.ask (eq (.ap 81 (.pr 12 (D 5) (.pr 12 (D 7) (.pr 12 (D 9) (.pr 12 (.cell (D 7) (D 12) 0) (.pr 14 (I 0) (I 0)))))) (I 0) (I 0)) (.cell (D 9) (D 12) 0)) (.ask (eq (D 11) (I 0)) (.ask (eq (.cell (D 7) (D 12) 0) (D 0)) (.leaf [(I 0),(N (D 0)),(N (D 1)),(N (D 2)),(N (D 3)),(D 4),(D 5),(D 6),(D 7),(D 8),(D 9),(D 10),(I 1),(N (.bin .add .i64 (D 12) (I 1))),(N (D 13)),(N (D 14))]) (.leaf [(I 0),(N (D 0)),(N (D 1)),(N (D 2)),(N (D 3)),(D 4),(D 5),(D 6),(D 7),(D 8),(D 9),(D 10),(I 0),(N (.bin .add .i64 (D 12) (I 1))),(N (D 13)),(N (D 14))])) (.leaf [(I 0),(N (D 0)),(N (D 1)),(N (D 2)),(N (D 3)),(D 4),(D 5),(D 6),(D 7),(D 8),(D 9),(D 10),(I 1),(N (.bin .add .i64 (D 12) (I 1))),(N (D 13)),(N (D 14))])) .none) .none)) .none) .none) (.ask (lt (.bin .sub .i64 (.cell (D 9) (.bin .add .i64 (D 12) (I 1)) 0) (.cell (D 9) (D 12) 0)) (I 4)) .none (.ask (eq (.ap 82 (.pr 12 (D 5) (.pr 12 (D 7) (.pr 12 (D 9) (.pr 12 (.cell (D 7) (D 12) 0) (.pr 14 (I 0) (I 0)))))) (I 0) (I 0)) (I 0)) (.ask (eq (.ap 81 (.pr 12 (D 5) (.pr 12 (D 7) (.pr 12 (D 9) (.pr 12 (.cell (D 7) (D 12) 0) (.pr 14 (I 0) (I 0)))))) (I 0) (I 0)) (.cell (D 9) (D 12) 0)) (.ask (eq (D 11) (I 0)) (.ask (eq (.cell (D 7) (D 12) 0) (D 0)) (.leaf [(I 0),(N (D 0)),(N (D 1)),(N (D 2)),(N (D 3)),(D 4),(D 5),(D 6),(D 7),(D 8),(D 9),(D 10),(I 1),(N (.bin .add .i64 (D 12) (I 1))),(N (D 13)),(N (D 14))]) (.leaf [(I 0),(N (D 0)),(N (D 1)),(N (D 2)),(N (D 3)),(D 4),(D 5),(D 6),(D 7),(D 8),(D 9),(D 10),(I 0),(N (.bin .add .i64 (D 12) (I 1))),(N (D 13)),(N (D 14))])) (.leaf [(I 0),(N (D 0)),(N (D 1)),(N (D 2)),(N (D 3)),(D 4),(D 5),(D 6),(D 7),(D 8),(D 9),(D 10),(I 1),(N (.bin .add .i64 (D 12) (I 1))),(N (D 13)),(N (D 14))])) .none) .none))) .none) .none)) (.ask (lt (D 12) (ae (D 7))) (.ask (lt (ae (D 7)) (I 1000000)) (.ask (eq (D 12) (I 0)) (.ask (lt (I 0) (ae (D 9))) (.ask (eq (.cell (D 9) (I 0) 0) (I 0)) (.ask (lt (.bin .sub .i64 (ae (D 5)) (.cell (D 9) (D 12) 0)) (I 4)) .none (.ask (eq (.ap 82 (.pr 12 (D 5) (.pr 12 (D 7) (.pr 12 (D 9) (.pr 12 (.cell (D 7) (D 12) 0) (.pr 14 (I 0) (I 0)))))) (I 0) (I 0)) (I 0)) (.ask (eq (.ap 81 (.pr 12 (D 5) (.pr 12 (D 7) (.pr 12 (D 9) (.pr 12 (.cell (D 7) (D 12) 0) (.pr 14 (I 0) (I 0)))))) (I 0) (I 0)) (.cell (D 9) (D 12) 0)) (.ask (eq (D 11) (I 0)) (.ask (eq (.cell (D 7) (D 12) 0) (D 0)) (.leaf [(I 0),(N (D 0)),(N (D 1)),(N (D 2)),(N (D 3)),(D 4),(D 5),(D 6),(D 7),(D 8),(D 9),(D 10),(I 1),(N (.bin .add .i64 (D 12) (I 1))),(N (D 13)),(N (D 14))]) (.leaf [(I 0),(N (D 0)),(N (D 1)),(N (D 2)),(N (D 3)),(D 4),(D 5),(D 6),(D 7),(D 8),(D 9),(D 10),(I 0),(N (.bin .add .i64 (D 12) (I 1))),(N (D 13)),(N (D 14))])) (.leaf [(I 0),(N (D 0)),(N (D 1)),(N (D 2)),(N (D 3)),(D 4),(D 5),(D 6),(D 7),(D 8),(D 9),(D 10),(I 1),(N (.bin .add .i64 (D 12) (I 1))),(N (D 13)),(N (D 14))])) .none) .none)) .none) .none) (.ask (lt (.bin .sub .i64 (ae (D 5)) (.cell (D 9) (D 12) 0)) (I 4)) .none (.ask (eq (.ap 82 (.pr 12 (D 5) (.pr 12 (D 7) (.pr 12 (D 9) (.pr 12 (.cell (D 7) (D 12) 0) (.pr 14 (I 0) (I 0)))))) (I 0) (I 0)) (I 0)) (.ask (eq (.ap 81 (.pr 12 (D 5) (.pr 12 (D 7) (.pr 12 (D 9) (.pr 12 (.cell (D 7) (D 12) 0) (.pr 14 (I 0) (I 0)))))) (I 0) (I 0)) (.cell (D 9) (D 12) 0)) (.ask (eq (D 11) (I 0)) (.ask (eq (.cell (D 7) (D 12) 0) (D 0)) (.leaf [(I 0),(N (D 0)),(N (D 1)),(N (D 2)),(N (D 3)),(D 4),(D 5),(D 6),(D 7),(D 8),(D 9),(D 10),(I 1),(N (.bin .add .i64 (D 12) (I 1))),(N (D 13)),(N (D 14))]) (.leaf [(I 0),(N (D 0)),(N (D 1)),(N (D 2)),(N (D 3)),(D 4),(D 5),(D 6),(D 7),(D 8),(D 9),(D 10),(I 0),(N (.bin .add .i64 (D 12) (I 1))),(N (D 13)),(N (D 14))])) (.leaf [(I 0),(N (D 0)),(N (D 1)),(N (D 2)),(N (D 3)),(D 4),(D 5),(D 6),(D 7),(D 8),(D 9),(D 10),(I 1),(N (.bin .add .i64 (D 12) (I 1))),(N (D 13)),(N (D 14))])) .none) .none))) .none) .none)) (.leaf [(I 2),(N (D 0)),(D 5),(D 6),(D 7),(D 8),(D 9),(D 10),(.pr 21 (D 11) (I 0)),(I 0),(I 0),(I 0),(I 0),(I 0),(I 0),(I 0)]))
def Jz:List aD:=[[((lt (.bin .add .i64 (D 12) (I 1)) (I 0)),true)],[((lt (D 12) (ae (D 9))),true),((lt (.bin .add .i64 (D 12) (I 1)) (ae (D 9))),true),((lt (.bin .sub .i64 (.cell (D 9) (.bin .add .i64 (D 12) (I 1)) 0) (.cell (D 9) (D 12) 0)) (I 4)),true)],[((lt (D 12) (ae (D 9))),true),((eq (.ap 81 (.pr 12 (D 5) (.pr 12 (D 7) (.pr 12 (D 9) (.pr 12 (.cell (D 7) (D 12) 0) (.pr 14 (I 0) (I 0)))))) (I 0) (I 0)) (.cell (D 9) (D 12) 0)),false)],[((lt (D 12) (ae (D 9))),true),((eq (.ap 82 (.pr 12 (D 5) (.pr 12 (D 7) (.pr 12 (D 9) (.pr 12 (.cell (D 7) (D 12) 0) (.pr 14 (I 0) (I 0)))))) (I 0) (I 0)) (I 0)),false)],[((lt (D 12) (ae (D 9))),true),((eq (.cell (D 9) (I 0) 0) (I 0)),false)],[((lt (D 12) (ae (D 9))),true),((lt (I 0) (ae (D 9))),false)],[((lt (ae (D 7)) (I 1000000)),false)],[((lt (D 12) (ae (D 9))),true),((lt (D 12) (ae (D 7))),false)],[((lt (D 12) (ae (D 9))),true),((lt (.bin .add .i64 (D 12) (I 1)) (ae (D 9))),false),((lt (.bin .sub .i64 (ae (D 5)) (.cell (D 9) (D 12) 0)) (I 4)),true)]]
def E4:aD:=[((lt (D 12) (I 0)),false)]
def lw11:ST:=(.ask (lt (ae (D 3)) (I 1000000)) (.ask (eq (D 7) (I 0)) (.ask (eq (.ap 82 (.pr 12 (D 1) (.pr 12 (D 3) (.pr 12 (D 5) (.pr 12 (D 0) (.pr 14 (I 0) (I 0)))))) (I 0) (I 0)) (I 0)) .none (.leaf [(I 1),(I 1)])) (.ask (eq (.ap 82 (.pr 12 (D 1) (.pr 12 (D 3) (.pr 12 (D 5) (.pr 12 (D 0) (.pr 14 (I 0) (I 0)))))) (I 0) (I 0)) (I 0)) (.leaf [(I 1),(I 1)]) .none)) .none)
def Dv:List aD:=[[((eq (D 7) (I 0)),true),((eq (.ap 82 (.pr 12 (D 1) (.pr 12 (D 3) (.pr 12 (D 5) (.pr 12 (D 0) (.pr 14 (I 0) (I 0)))))) (I 0) (I 0)) (I 0)),true)],[((eq (D 7) (I 0)),false),((eq (.ap 82 (.pr 12 (D 1) (.pr 12 (D 3) (.pr 12 (D 5) (.pr 12 (D 0) (.pr 14 (I 0) (I 0)))))) (I 0) (I 0)) (I 0)),false)],[((lt (ae (D 3)) (I 1000000)),false)]]
def Zp:bq:=[((N (D 0)),(N (D 0))),((N (D 1)),(N (D 1))),((N (D 2)),(N (D 2))),((D 3),(D 3)),((N (D 4)),(N (D 4)))]
def lwA:Tl:=⟨[(0,.agg HF),(1,qf)],[],1024⟩
def lwT1:Tl:=⟨[(4,HM)],[],1024⟩
abbrev PE:List (Nat×Ob):=[(1024,.box [.opq 2 1025 0 cV (.lit 0) (.dvar 2),.opq 2 1026 0 bo (.lit 0) (.dvar 4),.opq 2 1027 0 bo (.lit 0) (.dvar 6)] 30),(1025,.opq 2 0 1023 cV (.dvar 1) (.dvar 2) [] 67),(1026,.opq 2 0 1023 bo (.dvar 3) (.dvar 4) [] 3),(1027,.opq 2 0 1023 bo (.dvar 5) (.dvar 6) [] 3)]
abbrev Ia:List (Nat×AV):=[(1,gw),(5,ka),(6,gL),(8,.symb (.cmp .neq (.dvar 7) (.lit 0)))]
def adf:Tl:=⟨Ia,PE,1028⟩
def Jx:Nat→Tl:=fun w=>match w with
 |1=>lwT1
 |2=>adf
 |_=>lwA
abbrev Bf:AV:=.opq 0 1023 0 C1 (.dvar 4) (.lit 0)
abbrev CZ:Ob:=.box [sS,qM,sR,Bf] 24
def Zw:Tl:=⟨[(1,gw),(2,cD)],[(1024,CZ)],1025⟩
theorem Ta{J:List Dat→Prop}:PX P ba b0 R0 0 0 154 F0 J (cl tW) lwA Zw Jx (lw0.tr F0 5):=
 PX.tree (pins:=[]) base0 (by decide) follows (cons:=[conAwake,conLong,conEntry]) gd (af:=[hcCm]) eB (cores:=[]) (fun _ _ _ h=>by cases h) (inv:=[]) (fun _ _=>aC) (by kernel_rfl)
def Zv:Tl:=⟨[(1,gw),(2,cD),(5,ka)],[(1024,CZ)],1025⟩
theorem S9{J:List Dat→Prop}:PX P ba b0 R0 0 0 154 F0 J (cl (cr tW)) Zw Zv Jx (lw1.tr F0 5):=
 PX.tree (pins:=[]) base0 (by decide) follows (cons:=[conAwake,conLong,conEntry]) gd (af:=[hcCm]) eB (cores:=[]) (fun _ _ _ h=>by cases h) (inv:=[]) (fun _ _=>aC) (by kernel_rfl)
def Zu:Tl:=⟨[(1,gw),(2,cD),(5,ka),(16,.agg [.sym .i64 (.dvar 5),wU,A8,Bf])],[(1024,CZ)],1025⟩
theorem S8{J:List Dat→Prop}(hinv:∀s,J s→@Holds (VL F0 s) S4):PX P ba b0 R0 0 0 154 F0 J (cl (cr (cr tW))) Zv Zu Jx (lw2.tr F0 8):=
 PX.tree (pins:=[]) base0 (by decide) follows (cons:=[conAwake,conLong,conEntry]) gd (af:=[hcCm]) eB (cores:=[]) (fun _ _ _ h=>by cases h) (inv:=S4) hinv (by kernel_rfl)
abbrev yV:List AV:=[.opq 2 1026 0 cV (.lit 0) (.dvar 6),.opq 2 1027 0 bo (.lit 0) (.dvar 8),.opq 2 1028 0 bo (.lit 0) (.dvar 10)]
abbrev HC:List (Nat×Ob):=[(1024,CZ),(1025,.box yV 30),(1026,.opq 2 0 1023 cV (.dvar 5) (.dvar 6) [] 67),(1027,.opq 2 0 1023 bo (.dvar 7) (.dvar 8) [] 3),(1028,.opq 2 0 1023 bo (.dvar 9) (.dvar 10) [] 3)]
abbrev wV:AV:=.sym .i64 (.dvar 12)
abbrev A9:AV:=.sym .i64 (.dvar 13)
abbrev PB:List (Nat×AV):=[(1,gw),(2,cD),(5,ka),(6,sM),(7,.sym .i64 (.dvar 11)),(16,.agg [wV,A9,.sym .i64 (.dvar 14),Bf]),(19,.tup [.agg yV,.sym .i64 (.dvar 15)]),(23,.sym .i64 (.dvar 16))]
def Zt:Tl:=⟨PB,HC,1029⟩
theorem S3{J:List Dat→Prop}(hinv:∀s,J s→@Holds (VL F0 s) S2):PX P ba b0 R0 0 0 154 F0 J (cl (cr (cr (cr tW)))) Zu Zt Jx (lw3.tr F0 17):=
 PX.tree (pins:=[]) base0 (by decide) follows (cons:=[conAwake,conLong,conEntry]) gd (af:=[hcCm]) eB (cores:=[]) (fun _ _ _ h=>by cases h) (inv:=S2) hinv (by kernel_rfl)
def Zs:Tl:=⟨PB,HC,1029⟩
theorem S1{J:List Dat→Prop}(hco:∀s,J s→∀q∈JE,¬@Holds (VL F0 s) q):PX P ba b0 R0 0 0 154 F0 J (cl (cr (cr (cr (cr tW))))) Zt Zs Jx (lw4.tr F0 17):=
 PX.tree (pins:=[]) base0 (by decide) follows (cons:=[conAwake,conLong,conEntry]) gd (af:=[hcCm]) eB (cores:=JE) hco (inv:=[]) (fun _ _=>aC) (by kernel_rfl)
def Zr:Tl:=⟨[(1,gw),(2,cD),(5,ka),(6,sM),(19,.tup [.agg yV,.sym .i64 (.dvar 11)]),(23,wV)],HC,1029⟩
theorem S0{J:List Dat→Prop}(hco:∀s,J s→∀q∈JC,¬@Holds (VL F0 s) q):PX P ba b0 R0 0 0 154 F0 J (cl (cr (cr (cr (cr (cr tW)))))) Zs Zr Jx (lw5.tr F0 13):=
 PX.tree (pins:=[]) base0 (by decide) follows (cons:=[conAwake,conLong,conEntry]) gd (af:=[hcCm]) eB (cores:=JC) hco (inv:=[]) (fun _ _=>aC) (by kernel_rfl)
abbrev HQ:AV:=.symb (.cmp .neq (.dvar 11) (.lit 0))
def Zq:Tl:=⟨[(1,gw),(2,cD),(5,ka),(6,sM),(8,HQ),(19,.tup [.agg yV,wV]),(23,A9)],HC,1029⟩
theorem SZ{J:List Dat→Prop}:PX P ba b0 R0 0 0 154 F0 J (cl (cr (cr (cr (cr (cr (cr tW))))))) Zr Zq Jx (lw6.tr F0 14):=
 PX.tree (pins:=[]) base0 (by decide) follows (cons:=[conAwake,conLong,conEntry]) gd (af:=[hcCm]) eB (cores:=[]) (fun _ _ _ h=>by cases h) (inv:=[]) (fun _ _=>aC) (by kernel_rfl)
def SV:Tl:=⟨[(1,gw),(2,cD),(5,ka),(6,sM),(8,HQ),(9,wV),(19,.tup [.agg yV,A9]),(23,.sym .i64 (.dvar 14))],HC,1029⟩
theorem SY{J:List Dat→Prop}:PX P ba b0 R0 0 0 154 F0 J (cl (cl (cr (cr (cr (cr (cr (cr (cr tW))))))))) Zq SV Jx (lw7.tr F0 15):=
 PX.tree (pins:=[]) base0 (by decide) follows (cons:=[conAwake,conLong,conEntry]) gd (af:=[hcCm]) eB (cores:=[]) (fun _ _ _ h=>by cases h) (inv:=[]) (fun _ _=>aC) (by kernel_rfl)
theorem SW{J:List Dat→Prop}(hco:∀s,J s→∀q∈Jz,¬@Holds (VL F0 s) q)(hinv:∀s,J s→@Holds (VL F0 s) E4):PX P ba b0 R0 0 0 154 F0 J (cl (cl (cr (cl (cr (cr (cr (cr (cr (cr (cr tW))))))))))) SV SV Jx (lw9.tr F0 15):=
 PX.tree (pins:=[]) base0 (by decide) follows (cons:=[conAwake,conLong,conEntry]) gd (af:=[hcCm]) eB (cores:=Jz) hco (inv:=E4) hinv (by kernel_rfl)
def Jy:Tl:=⟨Ia,PE,1028⟩
theorem Np{J:List Dat→Prop}(hco:∀s,J s→∀q∈Dv,¬@Holds (VL F0 s) q):PX P ba b0 R0 0 0 154 F0 J (cr (cr (cr (cr (cr (cr (cr (cr tW)))))))) Jy Jy Jx (lw11.tr F0 1):=
 PX.tree (pins:=[]) base0 (by decide) follows (cons:=[conAwake,conLong,conEntry]) gd (af:=[hcCm]) eB (cores:=Dv) hco (inv:=[]) (fun _ _=>aC) (by kernel_rfl)
theorem SR:cM R0 0 [] (ax lwA.l) (ag b0 lwA.o lwA.nx) lwA.l lwA.o lwA.nx=some Zp:=by kernel_rfl
theorem Zo:tW=(.seq (cl tW) (.seq (cl (cr tW)) (.seq (cl (cr (cr tW))) (.seq (cl (cr (cr (cr tW)))) (.seq (cl (cr (cr (cr (cr tW))))) (.seq (cl (cr (cr (cr (cr (cr tW)))))) (.seq (cl (cr (cr (cr (cr (cr (cr tW))))))) (.seq (.seq (cl (cl (cr (cr (cr (cr (cr (cr (cr tW))))))))) (.block 0 (.loop (cl (cl (cr (cl (cr (cr (cr (cr (cr (cr (cr tW)))))))))))))) (cr (cr (cr (cr (cr (cr (cr (cr tW)))))))))))))))):=by kernel_rfl
def MS(F:Go.Tw.Fn):nE:=(aB (lw0.tr F 5) (aB (lw1.tr F 5) (aB (lw2.tr F 8) (aB (lw3.tr F 17) (aB (lw4.tr F 17) (aB (lw5.tr F 13) (aB (lw6.tr F 14) (aB (aB (lw7.tr F 15) (gE 0 (gO (lw9.tr F 15) (fun s=>(ah s 9).toL.length)))) (lw11.tr F 1)))))))))
theorem Nt:lo3.leafs 1 (fun _ xs=>(cu xs 0).same (I 1)&&Nat.blt 0 xs.length) E8=true:=by kernel_rfl
theorem Ns:lo3.leafs 2 (fun _ xs=>(cu xs 3).same (D 3)&&Nat.blt 3 xs.length) E8=true:=by kernel_rfl
theorem Nu:lo3.flsX [0,1,2]=true:=by kernel_rfl
theorem gj{F:Go.Tw.Fn}{s:List Dat}{xs:List Sx}{w:Int}{i:Nat}(h:i<xs.length):(ST.leaf (.lit w::xs)).val (VL F s) (i+1)=@Sx.dat (VL F s) (cu xs i):=by
 show(match xs[i]? with
  |some e=>@Sx.dat (VL F s) e
  |none=>Dat.int 0)=_
 rw[bV,bh h];rfl
theorem xX{sp:ST}{s:List Dat}{m w:Nat}(hr:sp.natF=true)(h:(sp.tr F0 m s).1=w):sp.flg F0 s=(w:Int):=by obtain⟨q,hq⟩:=iM (F:=F0) (s:=s) hr;have hx:(sp.flg F0 s).toNat=w:=h;rw[hq]at hx⊢;omega
theorem Nr{r0 r1 r2 c:Dat}(hc:c.toL.length≤mE)(h:(ah (sd F0 [r0,r1,r2,c]).2 0).toI=0):c.toL.length≤200:=by
 have g0:lo0.tr F0 4 [r0,r1,r2,c]=(0,[.int r0.toI,.int r1.toI,.int r2.toI,c]):=rfl;have g1:lo1.tr F0 5 [.int r0.toI,.int r1.toI,.int r2.toI,c]=(0,[.int r0.toI,.int r1.toI,.int r2.toI,c,.int 0]):=rfl;unfold sd at h;rw[cW g0]at h;have hs:WC [.int r0.toI,.int r1.toI,.int r2.toI,c,.int 0]:=⟨hc,rfl⟩;generalize hs0:[Dat.int r0.toI,.int r1.toI,.int r2.toI,c,.int 0]=s0 at g1 hs;have hc3:ah s0 3=c:=by rw[←hs0];rfl
 obtain⟨n,s',r,_,h1,h2⟩:=oD (F:=F0) (m:=5) zp vJ (show mE≤9223372036854775807 by decide) (s:=s0) (Inv:=fun _ _=>True) (fun _ _ _ _ h=>by cases h) (fun k s' hr=>pb s' ⟨s0,k,hs,hr⟩) hs.2 hs.1 trivial (fun _ _ _ _ _ _=>trivial);have hv:=pb s' ⟨s0,n,hs,r⟩;have hin:=gm (m:=5) (fun _ h=>by cases h) vJ Nu hv;simp only[cP,dQ,or_false]at hin;have g2:aB (lo1.tr F0 5) (gE 0 (gO (lo3.tr F0 5) (fun s=>(ah s 3).toL.length))) [.int r0.toI,.int r1.toI,.int r2.toI,c]=gE 0 (fun _=>lo3.tr F0 5 s') s0:=by rw[cW g1];unfold gE;rw[h2]
 rcases hin with h3|h3|h3;·exact absurd h3 h1
 ·exfalso;obtain⟨p',xs,q1,_,q3⟩:=cF (w:=1) (fun _ h=>by cases h) vJ Nt hv (xX (fq zp) h3);rw[ak]at q1;have e:ah (lo3.tr F0 5 s').2 0=.int 1:=by
   rw[kS (by omega),q3 0,gj (aL q1.2),Sx.same_eq q1.1];rfl
  have g3:aB (lo1.tr F0 5) (gE 0 (gO (lo3.tr F0 5) (fun s=>(ah s 3).toL.length))) [.int r0.toI,.int r1.toI,.int r2.toI,c]=(1,(lo3.tr F0 5 s').2):=(by rw[g2];unfold gE;rw[if_neg (by rw[h3];decide),←h3]);rw[ou (by decide) g3]at h;have h:(ah (lo3.tr F0 5 s').2 0).toI=0:=h;rw[e]at h;cases h
 obtain⟨p',xs,q1,_,q3⟩:=cF (w:=2) (fun _ h=>by cases h) vJ Ns hv (xX (fq zp) h3);rw[ak]at q1;have e:ah (lo3.tr F0 5 s').2 3=c:=by rw[kS (by omega),q3 3,gj (aL q1.2),Sx.same_eq q1.1,dD,r.2.2.2.2 3 (by simp),hc3]
 have g3:aB (lo1.tr F0 5) (gE 0 (gO (lo3.tr F0 5) (fun s=>(ah s 3).toL.length))) [.int r0.toI,.int r1.toI,.int r2.toI,c]=(0,(lo3.tr F0 5 s').2):=by rw[g2];unfold gE;rw[if_pos h3]
 rw[cW g3]at h;apply Classical.byContradiction;intro hno;have hb:@Bx.eval (VL F0 (lo3.tr F0 5 s').2) (lt (ae (D 3)) (I 201))=false:=jw (by rw[dL,dD,dI,e];omega);have e2:ah (lo5.tr F0 1 (lo3.tr F0 5 s').2).2 0=.int 1:=by rw[kS (by omega)];unfold lo5;simp only[ST.val,hb,cond_false];rfl
 rw[e2]at h;cases h
def w0(s:List Dat):Prop:=(ah s 3).toL.length≤mE
def w1(s:List Dat):Prop:=(ah s 4).toL.length≤mE
def w3(s:List Dat):Prop:=(ah s 4).toL.length≤200
def w4(s:List Dat):Prop:=w3 s∧(((ah s 11).toI≠0∧(ah s 5).toL.length=0∧(ah s 7).toL.length=0∧(ah s 9).toL.length=0)∨((ah s 11).toI=0∧FineC (ah s 5) (ah s 7) (ah s 9) (ah s 4).toL.length))
def w5(s:List Dat):Prop:=w3 s∧FineC (ah s 5) (ah s 7) (ah s 9) (ah s 4).toL.length
def w7(s:List Dat):Prop:=w5 s∧(ah s 11).toI=0
def w8(s:List Dat):Prop:=w7 s∧ah s 12=.int 0
theorem JJ(s:List Dat)(hs:w0 s):w1 (lw0.tr F0 5 s).2:=hs
theorem JI(s:List Dat)(hs:w1 s):w1 (lw1.tr F0 5 s).2:=hs
theorem xt(s:List Dat)(hs:w1 s):@Holds (VL F0 s) S4:=af (ie (by rw[dL,dI,dD];unfold w1 mE at hs;omega)) aC
def PI:Sx:=.pr 12 (D 1) (.pr 12 (D 2) (.pr 12 (D 3) (.pr 12 (D 4) (.pr 14 (I 0) (I 0)))))
theorem oX(F:Go.Tw.Fn)(s:List Dat):(@Sx.dat (VL F s) PI).one=[ah s 1,ah s 2,ah s 3,ah s 4]:=rfl
theorem JH(s:List Dat)(hs:w1 s)(h:(lw2.tr F0 8 s).1=0):w3 (lw2.tr F0 8 s).2:=by
 cases hb:@Bx.eval (VL F0 s) (eq (.ap 80 PI (I 0) (I 0)) (I 0))with
 |false=>have:(lw2.tr F0 8 s).1=1:=(by unfold PI at hb;unfold lw2 ST.tr ST.flg;simp only[ST.val,hb,cond_false];rfl);rw[this]at h;cases h
 |true=>have e4:ah (lw2.tr F0 8 s).2 4=ah s 4:=(by unfold PI at hb;rw[kS (by omega)];unfold lw2;simp only[ST.val,hb,cond_true];rfl);have g:=uH hb;rw[dA,dI,F0_80d,oX,show ∀x:Dat,(Dat.int x.toI).toI=x.toI from fun _=>rfl]at g;unfold w3;rw[e4];exact Nr hs g
theorem xr(s:List Dat)(hs:w3 s):@Holds (VL F0 s) S2:=af (ie (by rw[dL,dI,dD];unfold w3 at hs;omega)) aC
theorem Zx(F:Go.Tw.Fn)(s:List Dat):ah (lw3.tr F 17 s).2 4=ah s 4∧ah (lw3.tr F 17 s).2 5=F 86 (@Sx.dat (VL F s) PI) (.int 0) (.int 0)∧ah (lw3.tr F 17 s).2 7=F 88 (@Sx.dat (VL F s) PI) (.int 0) (.int 0)∧ah (lw3.tr F 17 s).2 9=F 90 (@Sx.dat (VL F s) PI) (.int 0) (.int 0)∧
 (ah (lw3.tr F 17 s).2 11).toI=(F 92 (@Sx.dat (VL F s) PI) (.int 0) (.int 0)).toI:=⟨rfl,rfl,rfl,rfl,rfl⟩
theorem JG(s:List Dat)(hs:w3 s):w4 (lw3.tr F0 17 s).2:=by obtain⟨e4,e5,e7,e9,e11⟩:=Zx F0 s;rw[F0_86d,oX]at e5;rw[F0_88d,oX]at e7;rw[F0_90d,oX]at e9;rw[F0_92d,oX,show ∀x:Dat,(Dat.int x.toI).toI=x.toI from fun _=>rfl]at e11;have hf:=OK [ah s 1,ah s 2,ah s 3,ah s 4] (show(ah s 4).toL.length≤200 from hs);unfold w4 w3;rw[e4,e5,e7,e9,e11];refine⟨hs,?_⟩;rcases hf with⟨h1,h2,h3,h4⟩|h;{exact .inl ⟨h1,h2,h3,h4⟩};exact .inr h
theorem xq(s:List Dat)(hs:w4 s):∀q∈JE,¬@Holds (VL F0 s) q:=fun q hq h=>by simp only[JE,cP,dQ,or_false]at hq;subst hq;obtain⟨g1,h⟩:=aF h;have g1:=tO g1;have g2:=tO (aF h).1;rw[dD,dI]at g1;rcases hs.2 with⟨_,h2,h3,h4⟩|⟨h1,_⟩;{refine g2 ?_;show aZ .add .i64 (aZ .add .i64 ((ah s 5).toL.length:Int) ((ah s 7).toL.length:Int)) ((ah s 9).toL.length:Int)=0;rw[h2,h3,h4];rfl};exact g1 h1
theorem JF(s:List Dat)(hs:w4 s)(h:(lw4.tr F0 17 s).1=0):w5 (lw4.tr F0 17 s).2:=by
 cases hb:@Bx.eval (VL F0 s) (eq (D 11) (I 0))with
 |false=>
  have hn:=xq s hs _ (by simp [JE];rfl);have hb2:@Bx.eval (VL F0 s) (eq (.bin .add .i64 (.bin .add .i64 (ae (D 5)) (ae (D 7))) (ae (D 9))) (I 0))=true:=by
   cases h2:@Bx.eval (VL F0 s) (eq (.bin .add .i64 (.bin .add .i64 (ae (D 5)) (ae (D 7))) (ae (D 9))) (I 0))with
   |true=>rfl
   |false=>exact absurd (af hb (af h2 aC)) hn
  have:(lw4.tr F0 17 s).1=1:=(by unfold lw4 ST.tr ST.flg;simp only[ST.val,hb,hb2,cond_false,cond_true];rfl);rw[this]at h;cases h
 |true=>
  have e:∀i,i<11→4≤i→ah (lw4.tr F0 17 s).2 i=ah s i:=fun i hi h4=>by
   rw[kS (by omega)];unfold lw4;simp only[ST.val,hb,cond_true]
   match i,hi,h4 with
   |4,_,_=>rfl
   |5,_,_=>rfl
   |6,_,_=>rfl
   |7,_,_=>rfl
   |8,_,_=>rfl
   |9,_,_=>rfl
   |10,_,_=>rfl
  have g:=uH hb;rw[dD,dI]at g;unfold w5 w3;rw[e 4 (by omega) (by omega),e 5 (by omega) (by omega),e 7 (by omega) (by omega),e 9 (by omega) (by omega)];rcases hs.2 with⟨h1,_⟩|⟨_,h2⟩;{exact absurd g h1};exact⟨hs.1,h2⟩
theorem xp(s:List Dat)(hs:w5 s):∀q∈JC,¬@Holds (VL F0 s) q:=fun q hq h=>by
 obtain⟨hn,hf⟩:=hs;unfold w3 at hn;simp only[JC,cP,dQ,or_false]at hq;rcases hq with rfl|rfl|rfl
 ·have g:=jz (aF h).1;have hw:(@Sx.dat (VL F0 s) (.bin .mul .i64 (I 24) (ae (D 4)))).toI=24*((ah s 4).toL.length:Int):=by
   show aU .i64 (24*((ah s 4).toL.length:Int))=_;exact bp (by omega) (by omega)
  rw[hw,dL,dD]at g;have:=hf.lw;omega
 {have g:=tO (aF h).1;rw[dL,dL,dD,dD]at g;have:=hf.le;omega};have g:=tO (aF h).1;rw[dL,dL,dD,dD]at g;have:=hf.lp;omega
theorem JD(s:List Dat)(hs:w5 s):w5 (lw5.tr F0 13 s).2:=by
 have hn:=hs.1;unfold w3 at hn;have b1:@Bx.eval (VL F0 s) (eq (ae (D 7)) (ae (D 4)))=true:=tN (by rw[dL,dL,dD,dD,hs.2.lp]);have b2:@Bx.eval (VL F0 s) (eq (ae (D 9)) (ae (D 4)))=true:=tN (by rw[dL,dL,dD,dD,hs.2.le]);have b3:@Bx.eval (VL F0 s) (lt (.bin .mul .i64 (I 24) (ae (D 4))) (ae (D 5)))=false:=by
  cases h:@Bx.eval (VL F0 s) (lt (.bin .mul .i64 (I 24) (ae (D 4))) (ae (D 5)))with
  |false=>rfl
  |true=>exact absurd (af h aC) (xp s hs _ (by simp [JC]))
 have e:∀i,i<10→4≤i→ah (lw5.tr F0 13 s).2 i=ah s i:=fun i hi h4=>by
  rw[kS (by omega)];unfold lw5;simp only[ST.val,b1,b2,b3,cond_true,cond_false]
  match i,hi,h4 with
  |4,_,_=>rfl
  |5,_,_=>rfl
  |6,_,_=>rfl
  |7,_,_=>rfl
  |8,_,_=>rfl
  |9,_,_=>rfl
 unfold w5 w3;rw[e 4 (by omega) (by omega),e 5 (by omega) (by omega),e 7 (by omega) (by omega),e 9 (by omega) (by omega)];exact hs
theorem JB(s:List Dat)(hs:w5 s):w7 (lw6.tr F0 14 s).2:=⟨hs,rfl⟩
theorem P7(F:Go.Tw.Fn)(s:List Dat):(ah (lw7.tr F 15 s).2 11).toI=dO ((ah s 11).toI != 0)∧ah (lw7.tr F 15 s).2 12=.int 0:=⟨rfl,rfl⟩
theorem vH(s:List Dat)(hs:w7 s):w8 (lw7.tr F0 15 s).2:=by refine⟨⟨hs.1,?_⟩,(P7 F0 s).2⟩;rw[(P7 F0 s).1,hs.2];rfl
theorem vF:lw9.rngX 9 12 15 [] [4,5,7,9] 0 2=true:=by kernel_rfl
theorem s6:lw9.deadsOk Jz E4=true:=by kernel_rfl
def ZZ(s0:List Dat)(k:Nat)(s:List Dat):Prop:=(ah s 0).toI=(ah s0 0).toI∧((ah s 11).toI≠0↔∃i,i<k∧pV (ah s0 7) i=(ah s0 0).toI)
abbrev AtW:List Dat→Prop:=AtR w8 ZZ 9 12 [] [4,5,7,9] 0 200
theorem vG{s:List Dat}(h:AtW s):∃k:Nat,ah s 12=.int k∧k≤(ah s 4).toL.length∧(ah s 4).toL.length≤200∧FineC (ah s 5) (ah s 7) (ah s 9) (ah s 4).toL.length:=by obtain⟨s0,k,⟨⟨⟨a1,a2⟩,a3⟩,a4⟩,r,i⟩:=h;have e4:=r.2.2.2.2 4 (by simp);have e5:=r.2.2.2.2 5 (by simp);have e7:=r.2.2.2.2 7 (by simp);have e9:=r.2.2.2.2 9 (by simp);unfold w3 at a1;have hle:=a2.le;refine⟨k,r.1,?_,by rw[e4];exact a1,by rw[e4,e5,e7,e9];exact a2⟩;have:=r.2.1;rw[e9,hle]at this;rw[e4];exact this
theorem Qu{w p e q:Dat}{n k:Nat}(hf:FineC w p e n)(hn:n≤200)(hk:k<n)(hq:q.toI=pV p k):(ah (kP F0 [w,p,e,q]).2 0).toI=pV e k∧(ah (kP F0 [w,p,e,q]).2 1).toI=0:=by
 rcases DU F0 w p e q (by rw[hf.lp,hf.le]) (by rw[hf.lp];omega)with⟨m,h1,h2,h3,h4,h5⟩|⟨h1,_⟩
 ·have hm:m=k:=by
   rcases Nat.lt_trichotomy m k with h|h|h;{exact absurd (h2.trans hq) (hf.inj m k h hk)};{exact h};exact absurd hq.symm (h3 k h)
  subst hm;rw[h4];exact⟨rfl,h5⟩
 exact absurd hq.symm (h1 k (by rw[hf.lp];exact hk))
def Sd:Sx:=.pr 12 (D 5) (.pr 12 (D 7) (.pr 12 (D 9) (.pr 12 (.cell (D 7) (D 12) 0) (.pr 14 (I 0) (I 0)))))
theorem C4(F:Go.Tw.Fn)(s:List Dat)(k:Nat)(h:ah s 12=.int k):(@Sx.dat (VL F s) Sd).one=[ah s 5,ah s 7,ah s 9,(ah s 7).cell (k:Int) 0]:=by show[ah s 5,ah s 7,ah s 9,(ah s 7).cell (ah s 12).toI 0]=_;rw[h];rfl
theorem x82(F:Go.Tw.Fn)(s:List Dat):@Sx.dat (VL F s) (.ap 82 Sd (I 0) (I 0))=F 82 (@Sx.dat (VL F s) Sd) (.int 0) (.int 0):=rfl
theorem x81(F:Go.Tw.Fn)(s:List Dat):@Sx.dat (VL F s) (.ap 81 Sd (I 0) (I 0))=F 81 (@Sx.dat (VL F s) Sd) (.int 0) (.int 0):=rfl
theorem l9(s:List Dat)(h:AtW s):∀q∈Jz,¬@Holds (VL F0 s) q:=fun q hq hh=>by
 obtain⟨k,f1,f2,f3,hf⟩:=vG h;have hle:=hf.le;have hlp:=hf.lp;have hd1:(@Sx.dat (VL F0 s) (.bin .add .i64 (D 12) (I 1))).toI=((k+1:Nat):Int):=by show aU .i64 ((ah s 12).toI+1)=_;rw[f1];exact rS (by omega)
 have hin:∀p:aD,@Holds (VL F0 s) ((lt (D 12) (ae (D 9)),true)::p)→k<(ah s 4).toL.length∧@Holds (VL F0 s) p:=fun p hp=>by obtain⟨g,hp⟩:=aF hp;have g:=jz g;rw[dD,dL,dD,f1,hle]at g;have g:(k:Int)<_:=g;exact⟨by omega,hp⟩
 have hc12:@Sx.dat (VL F0 s) (.cell (D 9) (D 12) 0)=(ah s 9).cell (k:Int) 0:=by show(ah s 9).cell (ah s 12).toI 0=_;rw[f1];rfl
 have hc13:@Sx.dat (VL F0 s) (.cell (D 9) (.bin .add .i64 (D 12) (I 1)) 0)=(ah s 9).cell ((k+1:Nat):Int) 0:=by show(ah s 9).cell (@Sx.dat (VL F0 s) (.bin .add .i64 (D 12) (I 1))).toI 0=_;rw[hd1]
 simp only[Jz,cP,dQ,or_false]at hq;rcases hq with rfl|rfl|rfl|rfl|rfl|rfl|rfl|rfl|rfl;·have g:=jz (aF hh).1;rw[hd1,dI]at g;omega
 ·obtain⟨hk,hh⟩:=hin _ hh;obtain⟨g1,hh⟩:=aF hh;have g1:=jz g1;have g2:=jz (aF hh).1;rw[hd1,dL,dD,hle]at g1;have hk1:k+1<(ah s 4).toL.length:=(by omega);have u:=hf.up k hk1;have n1:=hf.nn k hk;have n2:=hf.nn (k+1) hk1;have hsub:(@Sx.dat (VL F0 s) (.bin .sub .i64 (.cell (D 9) (.bin .add .i64 (D 12) (I 1)) 0) (.cell (D 9) (D 12) 0))).toI=pV (ah s 9) (k+1) - pV (ah s 9) k:=by
   show aU .i64 ((@Sx.dat (VL F0 s) (.cell (D 9) (.bin .add .i64 (D 12) (I 1)) 0)).toI - (@Sx.dat (VL F0 s) (.cell (D 9) (D 12) 0)).toI)=_;rw[hc12,hc13];exact bp (by unfold pV at n1 n2;omega) (by unfold pV at n1 n2;omega)
  rw[hsub,dI]at g2;omega
 {obtain⟨hk,hh⟩:=hin _ hh;have g:=tO (aF hh).1;refine g ?_;have he:=(Qu (q:=(ah s 7).cell (k:Int) 0) hf f3 hk rfl).1;rw[show(Sx.ap 81 (.pr 12 (D 5) (.pr 12 (D 7) (.pr 12 (D 9) (.pr 12 (.cell (D 7) (D 12) 0) (.pr 14 (I 0) (I 0)))))) (I 0) (I 0))=.ap 81 Sd (I 0) (I 0)from rfl,x81,F0_81d,C4 F0 s k f1,show ∀x:Dat,(Dat.int x.toI).toI=x.toI from fun _=>rfl,he,hc12];rfl};{obtain⟨hk,hh⟩:=hin _ hh;have g:=tO (aF hh).1;refine g ?_;have he:=(Qu (q:=(ah s 7).cell (k:Int) 0) hf f3 hk rfl).2;rw[show(Sx.ap 82 (.pr 12 (D 5) (.pr 12 (D 7) (.pr 12 (D 9) (.pr 12 (.cell (D 7) (D 12) 0) (.pr 14 (I 0) (I 0)))))) (I 0) (I 0))=.ap 82 Sd (I 0) (I 0)from rfl,x82,F0_82d,C4 F0 s k f1,show ∀x:Dat,(Dat.int x.toI).toI=x.toI from fun _=>rfl,he];rfl};{obtain⟨hk,hh⟩:=hin _ hh;have g:=tO (aF hh).1;refine g ?_;have z:=hf.z (by omega);show(Dat.cell (ah s 9) 0 0).toI=0;exact z};{obtain⟨hk,hh⟩:=hin _ hh;have g:=fQ (aF hh).1;rw[dI,dL,dD,hle]at g;omega};{have g:=fQ (aF hh).1;rw[dL,dD,dI,hlp]at g;omega};{obtain⟨hk,hh⟩:=hin _ hh;have g:=fQ (aF hh).1;rw[dD,dL,dD,f1,hlp]at g;have g:¬(k:Int)<_:=g;omega};obtain⟨hk,hh⟩:=hin _ hh;obtain⟨g1,hh⟩:=aF hh;have g1:=fQ g1;have g2:=jz (aF hh).1;rw[hd1,dL,dD,hle]at g1;have hk1:k+1=(ah s 4).toL.length:=by omega
 have u:=hf.top k hk1;have n1:=hf.nn k hk;have hw:=hf.lw;have hsub:(@Sx.dat (VL F0 s) (.bin .sub .i64 (ae (D 5)) (.cell (D 9) (D 12) 0))).toI=((ah s 5).toL.length:Int) - pV (ah s 9) k:=by show aU .i64 (((ah s 5).toL.length:Int) - (@Sx.dat (VL F0 s) (.cell (D 9) (D 12) 0)).toI)=_;rw[hc12];exact bp (by unfold pV at n1;omega) (by unfold pV at n1;omega)
 rw[hsub,dI]at g2;omega
theorem iN(s:List Dat)(h:AtW s):@Holds (VL F0 s) E4:=by obtain⟨k,f1,_⟩:=vG h;refine af (jw ?_) aC;rw[dI,dD,f1];show ¬(k:Int)<0;omega
theorem l8(s:List Dat)(h:w8 s):ah s 12=.int 0∧(ah s 9).toL.length≤200:=⟨h.2,by rw[h.1.1.2.le];exact h.1.1.1⟩
theorem Du(s:List Dat)(h:w8 s):ZZ s 0 s:=⟨rfl,fun hx=>absurd h.1.2 hx,fun⟨i,hi,_⟩=>by omega⟩
def xPl:Bx:=eq (.cell (D 7) (D 12) 0) (D 0)
def x11:Bx:=eq (D 11) (I 0)
theorem SX:lw9.leafs 0 (fun p xs=>Nat.blt 11 xs.length&&((cu xs 0).same (N (D 0))&&(((cu xs 11).same (I 1)&&(oi p x11 false||oi p xPl true))||((cu xs 11).same (I 0)&&(oi p x11 true&&oi p xPl false))))) E4=true:=by kernel_rfl
theorem o8(s0:List Dat)(k:Nat)(s:List Dat)(h0:w8 s0)(r:RngX 9 12 [] [4,5,7,9] 0 200 s0 k s)(_hk:k<(ah s 9).toL.length)(i:ZZ s0 k s)(hf:(lw9.tr F0 15 s).1=0):ZZ s0 (k+1) (lw9.tr F0 15 s).2:=by
 have ha:AtW s:=⟨s0,k,h0,r,i⟩;have hz:=(dR s6 (l9 s ha) (iN s ha) vF).1 hf;obtain⟨p',xs,q1,q2,q3⟩:=cF (w:=0) (l9 s ha) s6 SX (iN s ha) hz;simp only[ak,dw]at q1;obtain⟨ql,q0,q11⟩:=q1;have ql:=aL ql;have e0:ah (lw9.tr F0 15 s).2 0=.int (ah s 0).toI:=by rw[kS (by omega),q3 0,gj (by omega),Sx.same_eq q0];rfl
 have e11:ah (lw9.tr F0 15 s).2 11=@Sx.dat (VL F0 s) (cu xs 11):=by rw[kS (by omega),q3 11,gj (by omega)]
 have e7:=r.2.2.2.2 7 (by simp);have hx11:@Bx.eval (VL F0 s) x11=decide ((ah s 11).toI=0):=rfl;have hxp:@Bx.eval (VL F0 s) xPl=decide (pV (ah s0 7) k=(ah s0 0).toI):=by show decide ((Dat.cell (ah s 7) (ah s 12).toI 0).toI=(ah s 0).toI)=_;rw[r.1,e7,i.1];rfl
 refine⟨by rw[e0];exact i.1,?_⟩;rw[e11];rcases q11 with⟨h1,h2⟩|⟨h1,h2,h3⟩;{rw[Sx.same_eq h1];refine⟨fun _=> ?_,fun _=>by show(1:Int)≠0;decide⟩;rcases h2 with h2|h2;{have g:=dK h2 q2;rw[hx11]at g;obtain⟨j,hj,hj2⟩:=i.2.1 (of_decide_eq_false g);exact⟨j,by omega,hj2⟩};have g:=dK h2 q2;rw[hxp]at g;exact⟨k,by omega,of_decide_eq_true g⟩};rw[Sx.same_eq h1];have g2:=dK h2 q2;have g3:=dK h3 q2;rw[hx11]at g2;rw[hxp]at g3;have g2:=of_decide_eq_true g2;have g3:=of_decide_eq_false g3;refine⟨fun hx=>absurd rfl hx,fun⟨j,hj,hj2⟩=> ?_⟩;exfalso;rcases bl j k with h|h;{exact i.2.2 ⟨j,h,hj2⟩ g2};have:j=k:=by omega
 subst this;exact g3 hj2
def Xq(s:List Dat):Prop:=∃n,n≤200∧FineC (ah s 1) (ah s 3) (ah s 5) n∧((ah s 7).toI≠0↔∃i,i<n∧pV (ah s 3) i=(ah s 0).toI)
theorem Nn:lw9.leafs 2 (fun p xs=>Nat.blt 7 xs.length&&(oi p (lt (D 12) (ae (D 9))) false&&((cu xs 0).same (N (D 0))&&((cu xs 1).same (D 5)&&((cu xs 3).same (D 7)&&((cu xs 5).same (D 9)&&(cu xs 7).same (.pr 21 (D 11) (I 0)))))))) E4=true:=by kernel_rfl
theorem JA(s:List Dat)(hs:w8 s)(h:(gE 0 (gO (lw9.tr F0 15) (fun s=>(ah s 9).toL.length)) s).1=0):Xq (gE 0 (gO (lw9.tr F0 15) (fun s=>(ah s 9).toL.length)) s).2:=by
 obtain⟨n,s',r,i,h1,h2⟩:=mN (F:=F0) vF s6 (by omega) (s:=s) (Inv:=ZZ s) (fun k s' hr hi=>l9 s' ⟨s,k,hs,hr,hi⟩) (fun k s' hr hi=>iN s' ⟨s,k,hs,hr,hi⟩) (l8 s hs).1 (l8 s hs).2 (Du s hs) (fun k s' a b c d=>o8 s k s' hs a b c d);have ha:AtW s':=⟨s,n,hs,r,i⟩;unfold gE at h⊢;rw[h2]at h⊢;by_cases hx:(lw9.tr F0 15 s').1=0+2
 ·rw[if_pos hx];obtain⟨p',xs,q1,q2,q3⟩:=cF (w:=2) (l9 s' ha) s6 Nn (iN s' ha) (xX (fq vF) hx);simp only[ak]at q1;obtain⟨ql,qp,s0,s1,s3,s5,s7⟩:=q1;have ql:=aL ql;have g:=fQ (dK qp q2);rw[dD,dL,dD,r.1]at g;have g:¬(n:Int)<_:=g;have e4:=r.2.2.2.2 4 (by simp);have e5:=r.2.2.2.2 5 (by simp);have e7:=r.2.2.2.2 7 (by simp);have e9:=r.2.2.2.2 9 (by simp);have hn:n=(ah s 4).toL.length:=by
   have h3:=r.2.1;rw[e9,hs.1.1.2.le]at h3 g;omega
  have v0:ah (lw9.tr F0 15 s').2 0=.int (ah s' 0).toI:=(by rw[kS (by omega),q3 0,gj (by omega),Sx.same_eq s0];rfl);have v1:ah (lw9.tr F0 15 s').2 1=ah s 5:=(by rw[kS (by omega),q3 1,gj (by omega),Sx.same_eq s1,dD,e5]);have v3:ah (lw9.tr F0 15 s').2 3=ah s 7:=(by rw[kS (by omega),q3 3,gj (by omega),Sx.same_eq s3,dD,e7]);have v5:ah (lw9.tr F0 15 s').2 5=ah s 9:=(by rw[kS (by omega),q3 5,gj (by omega),Sx.same_eq s5,dD,e9]);have v7:ah (lw9.tr F0 15 s').2 7=.int (dO ((ah s' 11).toI != 0)):=(by rw[kS (by omega),q3 7,gj (by omega),Sx.same_eq s7];rfl);refine⟨(ah s 4).toL.length,hs.1.1.1,?_,?_⟩;{show FineC (ah (lw9.tr F0 15 s').2 1) (ah (lw9.tr F0 15 s').2 3) (ah (lw9.tr F0 15 s').2 5) _;rw[v1,v3,v5];exact hs.1.1.2};show(ah (lw9.tr F0 15 s').2 7).toI≠0↔∃i,i<_∧pV (ah (lw9.tr F0 15 s').2 3) i=(ah (lw9.tr F0 15 s').2 0).toI;rw[v0,v3,v7,←hn];show dO ((ah s' 11).toI != 0)≠0↔∃j,j<n∧pV (ah s 7) j=(ah s' 0).toI;rw[i.1,←i.2];by_cases hz:(ah s' 11).toI=0;{rw[hz];decide};have:((ah s' 11).toI != 0)=true:=(by simpa using hz);rw[this];exact⟨fun _=>hz,fun _=>by decide⟩
 rw[if_neg hx]at h;exact absurd h h1
def pkQ:Sx:=.pr 12 (D 1) (.pr 12 (D 3) (.pr 12 (D 5) (.pr 12 (D 0) (.pr 14 (I 0) (I 0)))))
theorem Nb(F:Go.Tw.Fn)(s:List Dat):(@Sx.dat (VL F s) pkQ).one=[ah s 1,ah s 3,ah s 5,ah s 0]:=rfl
theorem acC(F:Go.Tw.Fn)(s:List Dat):@Sx.dat (VL F s) (.ap 82 (.pr 12 (D 1) (.pr 12 (D 3) (.pr 12 (D 5) (.pr 12 (D 0) (.pr 14 (I 0) (I 0)))))) (I 0) (I 0))=F 82 (@Sx.dat (VL F s) pkQ) (.int 0) (.int 0):=rfl
theorem xu(s:List Dat)(h:Xq s):∀q∈Dv,¬@Holds (VL F0 s) q:=fun q hq hh=>by
 obtain⟨n,hn,hf,hi⟩:=h;have hlp:=hf.lp;have he:(@Sx.dat (VL F0 s) (.ap 82 (.pr 12 (D 1) (.pr 12 (D 3) (.pr 12 (D 5) (.pr 12 (D 0) (.pr 14 (I 0) (I 0)))))) (I 0) (I 0))).toI=0↔(ah s 7).toI≠0:=by rw[acC,F0_82d,Nb,show ∀x:Dat,(Dat.int x.toI).toI=x.toI from fun _=>rfl,hi];rcases DU F0 (ah s 1) (ah s 3) (ah s 5) (ah s 0) (by rw[hf.lp,hf.le]) (by rw[hf.lp];omega)with⟨m,h1,h2,h3,h4,h5⟩|⟨h1,h2⟩;{rw[hlp]at h1;exact⟨fun _=>⟨m,h1,h2⟩,fun _=>h5⟩};rw[hlp]at h1;exact⟨fun hx=>absurd hx h2,fun⟨j,hj,hj2⟩=>absurd hj2 (h1 j hj)⟩
 simp only[Dv,cP,dQ,or_false]at hq;rcases hq with rfl|rfl|rfl;{obtain⟨g1,hh⟩:=aF hh;have g1:=uH g1;have g2:=uH (aF hh).1;rw[dD,dI]at g1;exact he.1 g2 g1};{obtain⟨g1,hh⟩:=aF hh;have g1:=tO g1;have g2:=tO (aF hh).1;rw[dD,dI]at g1;exact g2 (he.2 g1)};have g:=fQ (aF hh).1;rw[dL,dD,dI,hlp]at g;omega
theorem Zm:PX P ba b0 R0 0 0 154 F0 w0 tW lwA Jy Jx (MS F0):=by
 rw[Zo];exact PX.seq (J2:=w1) (by decide) Ta (fun s hs _=>JJ s hs) (PX.seq (J2:=w1) (by decide) S9 (fun s hs _=>JI s hs) (PX.seq (J2:=w3) (by decide) (S8 xt) (fun s hs h=>JH s hs h) (PX.seq (J2:=w4) (by decide) (S3 xr) (fun s hs _=>JG s hs) (PX.seq (J2:=w5) (by decide) (S1 xq) (fun s hs h=>JF s hs h) (PX.seq (J2:=w5) (by decide) (S0 xp) (fun s hs _=>JD s hs)
  (PX.seq (J2:=w7) (by decide) SZ (fun s hs _=>JB s hs) (PX.seq (J2:=Xq) (by decide) (PX.seq (J2:=w8) (by decide) SY (fun s hs _=>vH s hs) (PX.block (PX.rngI (by decide) vF s6 l9 iN (by omega) l8 Du o8 (SW l9 iN)) rfl))
    (fun s hs h=>by unfold aB at h⊢;have e:(lw7.tr F0 15 s).1=0:=rfl;rw[if_pos e]at h⊢;exact JA _ (vH s hs) h) (Np xu))))))))
def Lu(J:List Dat→Prop)(f:nE):Prop:=∀s,J s→((f s).1=0∨(f s).1=1)∧((f s).1=1→ah (f s).2 0=.int 1)
theorem eU{J:List Dat→Prop}{sp:ST}{m:Nat}{cores:List aD}{inv:aD}(hm:0<m)(hco:∀s,J s→∀q∈cores,¬@Holds (VL F0 s) q)(hinv:∀s,J s→@Holds (VL F0 s) inv)(h1:sp.deadsOk cores inv=true)(h2:sp.flsX [0,1]=true)(h3:sp.leafs 1 (fun _ xs=>(cu xs 0).same (I 1)&&Nat.blt 0 xs.length) inv=true)(h4:sp.natF=true):Lu J (sp.tr F0 m):=fun s hs=>by have hin:=gm (m:=m) (hco s hs) h1 h2 (hinv s hs);refine⟨by simpa using hin,fun hx=> ?_⟩;obtain⟨p',xs,q1,_,q3⟩:=cF (w:=1) (hco s hs) h1 h3 (hinv s hs) (xX h4 hx);rw[ak]at q1;rw[kS hm,q3 0,gj (aL q1.2),Sx.same_eq q1.1];rfl
theorem gv{J J2:List Dat→Prop}{f g:nE}(h1:Lu J f)(hJ:∀s,J s→(f s).1=0→J2 (f s).2)(h2:Lu J2 g):Lu J (aB f g):=fun s hs=>by unfold aB;by_cases h0:(f s).1=0;{rw[if_pos h0];exact h2 _ (hJ s hs h0)};rw[if_neg h0];exact h1 s hs
theorem SQ:Lu w0 (MS F0):=
 gv (J2:=w1) (eU (by omega) aM aW (by kernel_rfl) (by kernel_rfl) (by kernel_rfl) (by kernel_rfl)) (fun s hs _=>JJ s hs) (gv (J2:=w1) (eU (by omega) aM aW (by kernel_rfl) (by kernel_rfl) (by kernel_rfl) (by kernel_rfl)) (fun s hs _=>JI s hs) (gv (J2:=w3) (eU (by omega) aM xt (by kernel_rfl) (by kernel_rfl) (by kernel_rfl) (by kernel_rfl)) (fun s hs h=>JH s hs h)
  (gv (J2:=w4) (eU (by omega) aM xr (by kernel_rfl) (by kernel_rfl) (by kernel_rfl) (by kernel_rfl)) (fun s hs _=>JG s hs) (gv (J2:=w5) (eU (by omega) xq aW (by kernel_rfl) (by kernel_rfl) (by kernel_rfl) (by kernel_rfl)) (fun s hs h=>JF s hs h) (gv (J2:=w5) (eU (by omega) xp aW (by kernel_rfl) (by kernel_rfl) (by kernel_rfl) (by kernel_rfl)) (fun s hs _=>JD s hs)
  (gv (J2:=w7) (eU (by omega) aM aW (by kernel_rfl) (by kernel_rfl) (by kernel_rfl) (by kernel_rfl)) (fun s hs _=>JB s hs) (gv (J2:=Xq) (fun s hs=>by
    have e:(lw7.tr F0 15 s).1=0:=rfl;have hb:=df (id:=0) (py (lf:=[2,0]) vF s6 l9 iN (by omega) l8 Du o8 (by kernel_rfl)) (by simp) _ (vH s hs);unfold aB;rw[if_pos e];have hb:(gE 0 (gO (lw9.tr F0 15) (fun s=>(ah s 9).toL.length)) (lw7.tr F0 15 s).2).1=0:=(by simpa using hb);refine⟨.inl hb,fun hx=> ?_⟩;rw[hb]at hx;cases hx)
    (fun s hs h=>by unfold aB at h⊢;have e:(lw7.tr F0 15 s).1=0:=rfl;rw[if_pos e]at h⊢;exact JA _ (vH s hs) h) (eU (by omega) xu aW (by kernel_rfl) (by kernel_rfl) (by kernel_rfl) (by kernel_rfl)))))))))
end
end Go.Proofs.YtlagbijmfchkeaaGreat
namespace Go.Proofs.YtlagbijmfchkeaaGreat
open Go.Tw Go.Tw.NE Go.RowKit
noncomputable section
theorem Zn:yu w0 [1] (MS F0):=
 aK (J2:=w1) (aG aM aW (by kernel_rfl) (by kernel_rfl)) (fun s hs _=>JJ s hs) (aK (J2:=w1) (aG aM aW (by kernel_rfl) (by kernel_rfl)) (fun s hs _=>JI s hs) (aK (J2:=w3) (aG aM xt (by kernel_rfl) (by kernel_rfl)) (fun s hs h=>JH s hs h)
  (aK (J2:=w4) (aG aM xr (by kernel_rfl) (by kernel_rfl)) (fun s hs _=>JG s hs) (aK (J2:=w5) (aG xq aW (by kernel_rfl) (by kernel_rfl)) (fun s hs h=>JF s hs h) (aK (J2:=w5) (aG xp aW (by kernel_rfl) (by kernel_rfl)) (fun s hs _=>JD s hs)
  (aK (J2:=w7) (aG aM aW (by kernel_rfl) (by kernel_rfl)) (fun s hs _=>JB s hs) (aK (J2:=Xq) (aK (J2:=w8) (aG aM aW (by kernel_rfl) (by kernel_rfl)) (fun s hs _=>vH s hs) (df (py vF s6 l9 iN (by omega) l8 Du o8 (by kernel_rfl)) (by simp)))
    (fun s hs h=>by unfold aB at h⊢;have e:(lw7.tr F0 15 s).1=0:=rfl;rw[if_pos e]at h⊢;exact JA _ (vH s hs) h) (aG xu aW (by kernel_rfl) (by kernel_rfl)))))))))
def con3:Con:={f:=3,args:=[F4,SI 4],pre:=preB,res:=.symb (.cmp .neq (I 1) (I 0)),objs:=[]}
def lwZ:Tl:=⟨[(4,.symb (.cmp .neq (I 1) (I 0)))],[],1024⟩
def adg:bq:=[(.pr 21 (D 0) (I 0),.pr 21 (I 1) (I 0))]
theorem SS:cM R0 0 [] (ax lwT1.l) (ag b0 lwT1.o lwT1.nx) lwZ.l lwZ.o lwZ.nx=some adg:=by kernel_rfl
theorem OC:con3.Sound F0 P ba b0 R0:=by
 refine dY (fn:=Tryz.f3) (code:=tW) Tryz.func3 (by rfl) (by kernel_rfl) rfl rfl rfl fun v hF hpre=> ?_;refine⟨.ret,lwZ.l,lwZ.o,lwZ.nx,_,_,.inl rfl,?_,by rfl,rfl⟩;let s:List Dat:=(List.range 5).map fun i=>@Sx.dat v (D i);have hd:∀i,i<5→ah s i=@Sx.dat v (D i):=fun i hi=>by
  match i,hi with
  |0,_=>rfl
  |1,_=>rfl
  |2,_=>rfl
  |3,_=>rfl
  |4,_=>rfl
 have hj:w0 s:=by have g:=jz (aF hpre).1;rw[dL,dI]at g;show(ah s 3).toL.length≤mE;rw[hd 3 (by omega)];unfold mE;omega
 have hf:=iP Zn hj;have h:=PX.ret Zm hj hf;have h1:=(SQ s hj).2 hf;generalize MS F0 s=S at h h1;have hini:EqsOk v (VL F0 s) Zp:=aa (gH (by rw[←hd 0 (by omega)];rfl)) (aa (gH (by rw[←hd 1 (by omega)];rfl)) (aa (gH (by rw[←hd 2 (by omega)];rfl)) (aa (hd 3 (by omega)).symm (aa (gH (by rw[←hd 4 (by omega)];rfl)) al))));refine HT.pre (aP _) (aI (v:=v) (v':=VL F0 s) base0 SR hini) (HT.retell (aP _) h (aI (v':=v) base0 SS ?_));refine aa ?_ al;show Dat.int (dO ((ah S.2 0).toI != 0))=_;rw[h1];rfl
def qk(W:World):PM:=fun i u=>if i=gid then(match W.heap[u]? with
 |some (.cells c _ _)=>some ⟨u,0,0,0,0,c.toList⟩
 |_=>none)else none
theorem fO{W:World}{i u:Nat}{e:Ext}(h:qk W i u=some e):i=gid∧∃c t fr,W.heap[u]? =some (.cells c t fr)∧e=⟨u,0,0,0,0,c.toList⟩:=by unfold qk at h;split at h;{rename_i hi;split at h;{rename_i c t fr hc;simp only[aE]at h;exact⟨hi,c,t,fr,hc,h.symm⟩};cases h};cases h
theorem Z2:gid<R0:=by decide
theorem Z0(W:World)(v:Val):Hold v ba b0 R0 0 .leaf (con3.start b0 R0) {tmps:= #[],defers:=[]} W (qk W):=by
 have hb:∀v':Val,∀(φ:PM),φ=qk W∨φ=(qk W).low R0→∀i,@Rep v' R0 φ W i (b0.get i):=fun v' φ hφ i=>by have hs:∀{i u:Nat} {e:Ext},φ i u=some e→qk W i u=some e:=fun{i u e} h=>(by rcases hφ with rfl|rfl;{exact h};unfold PM.low at h;split at h;{exact h};cases h);by_cases hi:i=gid;{subst hi;rw[b0,T.get_set_same];show ∀n e,φ gid n=some e→_;intro n e he;obtain⟨_,c,t,fr,hc,rfl⟩:=fO (hs he);exact⟨rfl,t,fr,by simpa using hc⟩};rw[b0,T.get_set_ne _ _ hi];simp [T.get_leaf,Rep]
 have hwf:WF R0 (qk W) W:=⟨fun i v e j u f hi hj _=>by
  obtain⟨rfl,_⟩:=fO hi;obtain⟨rfl,_⟩:=fO hj;exact .inl rfl,fun i v e hi=>by
  obtain⟨_,c,t,fr,hc,rfl⟩:=fO hi;exact(Array.getElem?_eq_some_iff.1 hc).1,fun i v e hi=>by
  obtain⟨_,c,t,fr,hc,rfl⟩:=fO hi;exact aw _⟩
 have hnone:∀i,R0≤i→b0.get i=none:=base0.none;exact{
  size:=rfl
  val:=fun t x h=>by simp [T.get_leaf]at h
  dfs:=rfl
  inv:={wf:=hwf,low:=aw _,rep:=fun i _ _=>hb v _ (.inl rfl) i,gl:=fun g n h=>(by cases h),dom:=fun i hi=>hnone i hi,pin:=fun _ _ h=>(by cases h),dec:=fun _ _ h=>(by cases h),
        wrR:=fun i h=>(by cases h),ro:=fun i _=>hb v _ (.inr rfl) i,oh:=@kl v}
  free:=fun i hi u=>by
   cases h:qk W i u with
   |none=>rfl
   |some e=>obtain⟨rfl,_⟩:=fO h;have:=Z2;have:R0≤gid:=hi;omega
  roA:=fun v' i _=>hb v' _ (.inr rfl) i
  rd:=rfl
  wr:=rfl}
theorem YR{W:World}{b:Nat}{s:List Value}(h:pcW W b s):Pict (qk W) gid b s:=by obtain⟨t,fr,h⟩:=h;refine⟨gid,b,⟨b,0,0,0,0,s⟩,.inl rfl,?_,rfl,rfl⟩;simp [qk,h]
def Lv:List Sh:=[cX,cX,cX,.slc C6]
theorem vQ{W:World}{cs:Array Value}{row:List Dat}{z1:Int}(h:RowR (pcW W) Lv row cs.toList)(hsz:∀d,row[3]? =some d→d.toL.length≤mE):
 Calls P 3 #[.agg cs,.int .i64 z1] W fun e W'=>e=.returned (.bool true)∧Below W.heap.size W W':=by
 obtain⟨h1,h2,h3⟩:=h;obtain⟨d0,d1,d2,d3,rfl⟩:∃d0 d1 d2 d3,row=[d0,d1,d2,d3]:=by
  match row,h1 with
  |[d0,d1,d2,d3],_=>exact⟨_,_,_,_,rfl⟩
 obtain⟨cs⟩:=cs;obtain⟨x0,x1,x2,x3,rfl⟩:∃x0 x1 x2 x3,cs=[x0,x1,x2,x3]:=by
  match cs,h2 with
  |[x0,x1,x2,x3],_=>exact⟨_,_,_,_,rfl⟩
 let v:Val:=VL F0 [d0,d1,d2,d3,.int z1];have hi:∀(j:Nat) (d:Dat) (x:Value),Lv[j]? =some (.int .i64)→[d0,d1,d2,d3][j]? =some d→[x0,x1,x2,x3][j]? =some x→x=.int .i64 d.toI:=fun j d x a b c=>by have:=h3 j _ d x a b c;cases this;rfl
 have e0:=hi 0 d0 x0 rfl rfl rfl;have e1:=hi 1 d1 x1 rfl rfl rfl;have e2:=hi 2 d2 x2 rfl rfl rfl;have e3:=h3 3 (.slc C6) d3 x3 rfl rfl rfl;subst e0;subst e1;subst e2;have hl:@VR v (qk W) (LC (D 3)) x3:=by
  cases x3 with
  |slice a n c=>exact @VR.opq v _ _ _ _ _ _ _ _ ⟨_,a,n,c,rfl,rfl,e3.mono fun _ _ h=>YR h⟩
  |_=>cases e3
 have ha:@VRL v (qk W) con3.args (#[.agg ⟨[.int .i64 d0.toI,.int .i64 d1.toI,.int .i64 d2.toI,x3]⟩,.int .i64 z1]:Array Value).toList:=
  @VRL.cons v _ _ _ _ _ (@VR.agg v _ _ _ (@VRL.cons v _ _ _ _ _ (@VR.sym v _ _ (D 0)) (@VRL.cons v _ _ _ _ _ (@VR.sym v _ _ (D 1)) (@VRL.cons v _ _ _ _ _ (@VR.sym v _ _ (D 2)) (@VRL.cons v _ _ _ _ _ hl (@VRL.nil v _))))))
   (@VRL.cons v _ _ _ _ _ (@VR.sym v _ _ (D 4)) (@VRL.nil v _))
 have hpre:@Holds v con3.pre:=af (ie (by have:=hsz d3 rfl;show(d3.toL.length:Int)<9223372036854775808;unfold mE at this;omega)) aC;refine(OC v rfl hpre W (qk W) _ (Z0 W v) ha).mono fun e W' q=> ?_;obtain⟨φ',x,rfl,hx,ht,_⟩:=q;have hx:@VR v φ' (.symb (.cmp .neq (I 1) (I 0))) x:=hx;have hx:x=.bool true:=by cases hx;rfl
 subst hx;exact⟨rfl,ht.os,ht.tape,ht.out,ht.size,fun k hk=>ht.keep k hk fun i u e hi he=>by obtain⟨rfl,_⟩:=fO he;have:=Z2;omega⟩
end
end Go.Proofs.YtlagbijmfchkeaaGreat
