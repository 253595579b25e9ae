/-
  A part of the law's proof over the abstract evaluator. Conditions: those of each theorem, as it states them.
-/
import Derived.Test.YtkklcbfbjfhacaaGreatDoorS4
import Derived.Test.YtkklcbfbjfhacaaGreatDoorL1
import Derived.Test.YtkklcbfbjfhacaaGreatDoorK1
import Derived.Shelf.Vars
import Derived.Lib.LaidTab
import Derived.Stop.LaidErr
import Derived.Test.YtkklcbfbjfhacaaGreatDoorChecked
set_option linter.all false
set_option linter.all false
namespace Go.Proofs.YtkklcbfbjfhacaaGreatDoor
open Go.Tw Go.Tw.LX
noncomputable section
theorem sc_cons:∀c∈[conLetter,conDigit],c.Sound F0 P gl0 b0 R0:=conC conLetter_ok (con1 conDigit_ok)
def hsc:List HCon:=[hcSkip,hcWord,hcSign,hcNumber,hcQuoted]
theorem sc_hcons:∀c∈hsc,c.Sound F0 P gl0 b0 R0:=hconC hcSkip_ok (hconC hcWord_ok (hconC hcSign_ok (hconC hcNumber_ok (hconC hcQuoted_ok nohcon))))
def csc:Code:=match Tryz.f5.body with
 |some c=>c
 |none=>.skip
def scA:Tl:=⟨[(0,.vstr (.dvar 0))],[],1024⟩
def scT1:Tl:=⟨[(2,.opq 2 1024 0 (.slc [.int .i64,.int .i64,.int .i64,.str,.int .i64,.slc [.int .u8]]) (.lit 0) (.dvar 1)),(3,.ptr 1025 0 0 2)],[(1024,.opq 2 0 1023 (.slc [.int .i64,.int .i64,.int .i64,.str,.int .i64,.slc [.int .u8]]) (.dvar 0) (.dvar 1) [] 31),(1025,.box [.sym .i64 (.dvar 2),.sym .i64 (.dvar 3)] 26)],1026⟩
def scT2:Tl:=⟨[(3,.ptr 1024 0 0 2),(4,.ptr 1025 0 0 3),(5,.opq 2 1026 0 (.slc [.int .i64,.int .i64,.int .i64,.str,.int .i64,.slc [.int .u8]]) (.lit 0) (.dvar 6))],[(1024,.box [.sym .i64 (.dvar 0),.sym .i64 (.dvar 1)] 26),(1025,.box [.vstr (.dvar 2),.sym .i64 (.dvar 3),.sym .i64 (.dvar 4)] 42),(1026,.opq 2 0 1023 (.slc [.int .i64,.int .i64,.int .i64,.str,.int .i64,.slc [.int .u8]]) (.dvar 5) (.dvar 6) [] 31)],1027⟩
def scT3:Tl:=⟨[(0,.vstr (.dvar 0)),(3,.ptr 1024 0 0 2),(4,.ptr 1025 0 0 3),(5,.opq 2 1026 0 (.slc [.int .i64,.int .i64,.int .i64,.str,.int .i64,.slc [.int .u8]]) (.lit 0) (.dvar 7)),(6,.sym .i64 (.dvar 8))],[(1024,.box [.sym .i64 (.dvar 1),.sym .i64 (.dvar 2)] 26),(1025,.box [.vstr (.dvar 3),.sym .i64 (.dvar 4),.sym .i64 (.dvar 5)] 42),(1026,.opq 2 0 1023 (.slc [.int .i64,.int .i64,.int .i64,.str,.int .i64,.slc [.int .u8]]) (.dvar 6) (.dvar 7) [] 31)],1027⟩
def scT:Nat→Tl:=fun w=>match w with
 |1=>scT1
 |2=>scT2
 |3=>scT3
 |_=>scA
def scB0:Tl:=⟨[(0,.vstr (.dvar 0)),(3,.ptr 1024 0 0 2)],[(1024,.box [.sym .i64 (.dvar 1),.sym .i64 (.dvar 2)] 26)],1025⟩
theorem sc0_px{J:List Dat→Prop}:PX P gl0 b0 R0 0 0 65 F0 J (cl csc) scA scB0 scT (sc0.tr F0 3):=
 PX.tree (pins:=[]) base0 (by decide) follows (cons:=[conLetter,conDigit]) sc_cons (hcons:=hsc) sc_hcons (cores:=[]) (fun _ _ _ h=>by cases h) (inv:=[]) (fun _ _=>hnil) (by kernel_rfl)
def scB1:Tl:=⟨[(0,.vstr (.dvar 0)),(3,.ptr 1024 0 0 2)],[(1024,.box [.sym .i64 (.dvar 1),.sym .i64 (.dvar 2)] 26)],1025⟩
theorem sc1_px{J:List Dat→Prop}:PX P gl0 b0 R0 0 0 65 F0 J (cl (cr csc)) scB0 scB1 scT (sc1.tr F0 4):=
 PX.tree (pins:=[]) base0 (by decide) follows (cons:=[conLetter,conDigit]) sc_cons (hcons:=hsc) sc_hcons (cores:=[]) (fun _ _ _ h=>by cases h) (inv:=[]) (fun _ _=>hnil) (by kernel_rfl)
def scB2:Tl:=⟨[(0,.vstr (.dvar 0)),(3,.ptr 1024 0 0 2),(4,.ptr 1025 0 0 3)],[(1024,.box [.sym .i64 (.dvar 1),.sym .i64 (.dvar 2)] 26),(1025,.box [.vstr (.dvar 3),.int .i64 0,.int .i64 0] 42)],1026⟩
theorem sc2_px{J:List Dat→Prop}:PX P gl0 b0 R0 0 0 65 F0 J (cl (cr (cr csc))) scB1 scB2 scT (sc2.tr F0 4):=
 PX.tree (pins:=[]) base0 (by decide) follows (cons:=[conLetter,conDigit]) sc_cons (hcons:=hsc) sc_hcons (cores:=[]) (fun _ _ _ h=>by cases h) (inv:=[]) (fun _ _=>hnil) (by kernel_rfl)
def scB3:Tl:=⟨[(0,.vstr (.dvar 0)),(3,.ptr 1024 0 0 2),(4,.ptr 1025 0 0 3),(5,.opq 2 1026 0 (.slc [.int .i64,.int .i64,.int .i64,.str,.int .i64,.slc [.int .u8]]) (.lit 0) (.dvar 5))],[(1024,.box [.sym .i64 (.dvar 1),.sym .i64 (.dvar 2)] 26),(1025,.box [.vstr (.dvar 3),.int .i64 0,.int .i64 0] 42),(1026,.opq 2 0 1023 (.slc [.int .i64,.int .i64,.int .i64,.str,.int .i64,.slc [.int .u8]]) (.dvar 4) (.dvar 5) [] 31)],1027⟩
theorem sc3_px{J:List Dat→Prop}:PX P gl0 b0 R0 0 0 65 F0 J (cl (cr (cr (cr csc)))) scB2 scB3 scT (sc3.tr F0 6):=
 PX.tree (pins:=[]) base0 (by decide) follows (cons:=[conLetter,conDigit]) sc_cons (hcons:=hsc) sc_hcons (cores:=[]) (fun _ _ _ h=>by cases h) (inv:=[]) (fun _ _=>hnil) (by kernel_rfl)
def scB4:Tl:=⟨[(0,.vstr (.dvar 0)),(3,.ptr 1024 0 0 2),(4,.ptr 1025 0 0 3),(5,.opq 2 1026 0 (.slc [.int .i64,.int .i64,.int .i64,.str,.int .i64,.slc [.int .u8]]) (.lit 0) (.dvar 7)),(6,.sym .i64 (.dvar 8))],[(1024,.box [.sym .i64 (.dvar 1),.sym .i64 (.dvar 2)] 26),(1025,.box [.vstr (.dvar 3),.sym .i64 (.dvar 4),.sym .i64 (.dvar 5)] 42),(1026,.opq 2 0 1023 (.slc [.int .i64,.int .i64,.int .i64,.str,.int .i64,.slc [.int .u8]]) (.dvar 6) (.dvar 7) [] 31)],1027⟩
theorem sc4_px{J:List Dat→Prop}(hco:∀s,J s→∀q∈sc4c,¬@Holds (VL F0 s) q):PX P gl0 b0 R0 0 0 65 F0 J (cl (cl (cr (cr (cr (cr csc)))))) scB3 scB4 scT (sc4.tr F0 9):=
 PX.tree (pins:=[]) base0 (by decide) follows (cons:=[conLetter,conDigit]) sc_cons (hcons:=hsc) sc_hcons (cores:=sc4c) hco (inv:=[]) (fun _ _=>hnil) (by kernel_rfl)
def scB6:Tl:=⟨[(0,.vstr (.dvar 0)),(3,.ptr 1024 0 0 2),(4,.ptr 1025 0 0 3),(5,.opq 2 1026 0 (.slc [.int .i64,.int .i64,.int .i64,.str,.int .i64,.slc [.int .u8]]) (.lit 0) (.dvar 7)),(6,.sym .i64 (.dvar 8))],[(1024,.box [.sym .i64 (.dvar 1),.sym .i64 (.dvar 2)] 26),(1025,.box [.vstr (.dvar 3),.sym .i64 (.dvar 4),.sym .i64 (.dvar 5)] 42),(1026,.opq 2 0 1023 (.slc [.int .i64,.int .i64,.int .i64,.str,.int .i64,.slc [.int .u8]]) (.dvar 6) (.dvar 7) [] 31)],1027⟩
theorem sc6_px{J:List Dat→Prop}(hinv:∀s,J s→@Holds (VL F0 s) sc6v):PX P gl0 b0 R0 0 0 65 F0 J (cl (cl (cl (cr (cl (cr (cr (cr (cr csc))))))))) scB4 scB6 scT (sc6.tr F0 9):=
 PX.tree (pins:=[]) base0 (by decide) follows (cons:=[conLetter,conDigit]) sc_cons (hcons:=hsc) sc_hcons (cores:=[]) (fun _ _ _ h=>by cases h) (inv:=sc6v) hinv (by kernel_rfl)
def scB7:Tl:=⟨[(0,.vstr (.dvar 0)),(3,.ptr 1024 0 0 2),(4,.ptr 1025 0 0 3),(5,.opq 2 1026 0 (.slc [.int .i64,.int .i64,.int .i64,.str,.int .i64,.slc [.int .u8]]) (.lit 0) (.dvar 7)),(6,.sym .i64 (.dvar 8)),(7,.ptr 1027 0 0 6)],[(1024,.box [.sym .i64 (.dvar 1),.sym .i64 (.dvar 2)] 26),(1025,.box [.vstr (.dvar 3),.sym .i64 (.dvar 4),.sym .i64 (.dvar 5)] 42),(1026,.opq 2 0 1023 (.slc [.int .i64,.int .i64,.int .i64,.str,.int .i64,.slc [.int .u8]]) (.dvar 6) (.dvar 7) [] 31),(1027,.box [.sym .i64 (.dvar 9),.sym .i64 (.dvar 10),.sym .i64 (.dvar 11),.vstr (.dvar 12),.sym .i64 (.dvar 13),.opq 0 1023 0 (.slc [.int .u8]) (.dvar 14) (.lit 0)] 31)],1028⟩
theorem sc7_px{J:List Dat→Prop}(hco:∀s,J s→∀q∈sc7c,¬@Holds (VL F0 s) q)(hinv:∀s,J s→@Holds (VL F0 s) sc7v):PX P gl0 b0 R0 0 0 65 F0 J (cl (cl (cr (cl (cl (cr (cl (cr (cr (cr (cr csc))))))))))) scB6 scB7 scT (sc7.tr F0 15):=
 PX.tree (pins:=[]) base0 (by decide) follows (cons:=[conLetter,conDigit]) sc_cons (hcons:=hsc) sc_hcons (cores:=sc7c) hco (inv:=sc7v) hinv (by kernel_rfl)
theorem sc8_px{J:List Dat→Prop}(hco:∀s,J s→∀q∈sc8c,¬@Holds (VL F0 s) q):PX P gl0 b0 R0 0 0 65 F0 J (cr (cl (cr (cl (cl (cr (cl (cr (cr (cr (cr csc))))))))))) scB7 scB4 scT (sc8.tr F0 9):=
 PX.tree (pins:=[]) base0 (by decide) follows (cons:=[conLetter,conDigit]) sc_cons (hcons:=hsc) sc_hcons (cores:=sc8c) hco (inv:=[]) (fun _ _=>hnil) (by kernel_rfl)
def scB9:Tl:=⟨[(3,.ptr 1024 0 0 2),(4,.ptr 1025 0 0 3),(5,.opq 2 1026 0 (.slc [.int .i64,.int .i64,.int .i64,.str,.int .i64,.slc [.int .u8]]) (.lit 0) (.dvar 6))],[(1024,.box [.sym .i64 (.dvar 0),.sym .i64 (.dvar 1)] 26),(1025,.box [.vstr (.dvar 2),.sym .i64 (.dvar 3),.sym .i64 (.dvar 4)] 42),(1026,.opq 2 0 1023 (.slc [.int .i64,.int .i64,.int .i64,.str,.int .i64,.slc [.int .u8]]) (.dvar 5) (.dvar 6) [] 31)],1027⟩
theorem sc10_px{J:List Dat→Prop}:PX P gl0 b0 R0 0 0 65 F0 J (cr (cr (cr (cr (cr csc))))) scB9 scB9 scT (sc10.tr F0 4):=
 PX.tree (pins:=[]) base0 (by decide) follows (cons:=[conLetter,conDigit]) sc_cons (hcons:=hsc) sc_hcons (cores:=[]) (fun _ _ _ h=>by cases h) (inv:=[]) (fun _ _=>hnil) (by kernel_rfl)
theorem sc_ini:dQ R0 0 [] (aR scA.l) (ao b0 scA.o scA.nx) scA.l scA.o scA.nx=some scE0:=by kernel_rfl
def scZ:Tl:=⟨[(2,.opq 0 1023 0 (.slc [.int .i64,.int .i64,.int .i64,.str,.int .i64,.slc [.int .u8]]) (.ap 54 (.dvar 0) (.lit 0) (.lit 0)) (.lit 0)),(3,.ptr 1024 0 0 2)],[(1024,.box [.sym .i64 (.ap 55 (.dvar 0) (.lit 0) (.lit 0)),.sym .i64 (.ap 56 (.dvar 0) (.lit 0) (.lit 0))] 26)],1025⟩
theorem sc_fin:dD R0 0 [⟨1024,1025,0,0,0⟩] [1024] (aR scT1.l) (ao b0 scT1.o scT1.nx) scZ.l scZ.o scZ.nx=some scE1:=by kernel_rfl
theorem sc_eq:csc=(.seq (cl csc) (.seq (cl (cr csc)) (.seq (cl (cr (cr csc))) (.seq (cl (cr (cr (cr csc)))) (.seq (.seq (cl (cl (cr (cr (cr (cr csc)))))) (.block 0 (.loop (.seq (cl (cl (cl (cr (cl (cr (cr (cr (cr csc))))))))) (.block 1 (.seq (cl (cl (cr (cl (cl (cr (cl (cr (cr (cr (cr csc))))))))))) (cr (cl (cr (cl (cl (cr (cl (cr (cr (cr (cr csc))))))))))))))))) (cr (cr (cr (cr (cr csc)))))))))):=by kernel_rfl
def T6:List Sh:=[.int .i64,.int .i64,.int .i64,.str,.int .i64,.slc B8]
def TKS(x:Sx):AV:=.opq 0 gid 0 (.slc T6) x (.lit 0)
def hcScan:HCon:={f:=5,args:=[VS 0],pre:=[(lt (ln (D 0)) (I 1000000000),true)],nr:=0,np:=0,ns:=0,locs:=[],ins:=[],v:=.tup [TKS (A1 54 (D 0)),.agg [.sym .i64 (A1 55 (D 0)),.sym .i64 (A1 56 (D 0))]],outs:=[(1024,.box [.sym .i64 (A1 55 (D 0)),.sym .i64 (A1 56 (D 0))] 26)],nx:=1025,fz:=true}
theorem body_px:PX P gl0 b0 R0 0 0 65 F0 JSc (.seq (cl (cl (cl (cr (cl (cr (cr (cr (cr csc))))))))) (.block 1 (.seq (cl (cl (cr (cl (cl (cr (cl (cr (cr (cr (cr csc))))))))))) (cr (cl (cr (cl (cl (cr (cl (cr (cr (cr (cr csc)))))))))))))) scB4 scB4 scT scBody:=
 PX.seq (J2:=J6s) (by decide) (sc6_px sc6_inv) sc6_j (PX.block (PX.seq (J2:=J7s) (by decide) (sc7_px sc7_co sc7_inv) (fun s hs _=>sc7_j s hs) (sc8_px sc8_co)) rfl)
theorem sc1_go{d:Dat}(h:(sc1.tr F0 4 [d,.int 0,.int 0]).1=0):d.toS.length<4001∧sc1.tr F0 4 [d,.int 0,.int 0]=(0,[d,.int 0,.int 0,.int 0]):=by revert h;simp only[sc1,tr_ite,ev_lt,sLn,dD0,sI];split;{intro _;exact⟨by omega,rfl⟩};intro h;cases h
def A4(l:List Dat)(d:Dat)(s:List Dat):Prop:=s=l∧d.toS.length<4001
theorem sc_px{d:Dat}:PX P gl0 b0 R0 0 0 65 F0 (At [d]) csc scA scB9 scT (spSc F0):=by
 rw[sc_eq];refine PX.seq (J2:=At [d,.int 0,.int 0]) (by decide) sc0_px (at_go rfl) (PX.seq (J2:=A4 [d,.int 0,.int 0,.int 0] d) (by decide) sc1_px (fun s hs h=>by
  have hs:s=[d,.int 0,.int 0]:=hs;subst hs;obtain⟨k,e⟩:=sc1_go h;rw[e];exact⟨rfl,k⟩) (PX.seq (J2:=A4 [d,.int 0,.int 0,d] d) (by decide) sc2_px (fun s hs _=>by
  obtain⟨rfl,k⟩:=hs;exact⟨rfl,k⟩) (PX.seq (J2:=A4 [d,.int 0,.int 0,d,.lst [],.int 0] d) (by decide) sc3_px (fun s hs _=>by
  obtain⟨rfl,k⟩:=hs;exact⟨rfl,k⟩) (PX.seq (J2:=fun _=>True) (by decide) (PX.seq (J2:=JSc) (by decide) (sc4_px fun s hs=>by
  obtain⟨rfl,k⟩:=hs;exact sc4_co d _ k _ _ _) (fun s hs _=>by
  obtain⟨rfl,k⟩:=hs;have e4:sc4.tr F0 9 [d,.int 0,.int 0,d,.lst [],.int 0]=(0,SK d [] 0 0):=(by unfold SK S9;simp only[sc4,tr_ite,ev_lt,sLn,dD3,sI];rw[if_pos (by omega)];rfl);rw[e4];obtain⟨n,g,hh⟩:=skip_f (d:=d) (p:=0) (by omega) (by omega);have gl:=g.le;rw[List.length_drop]at gl;have h15:F0 15 d (.int ((0:Nat):Int)) (.int 0)=.int ((0+n:Nat):Int):=(by rcases hh with⟨_,hh⟩|⟨_,_,hh⟩;{exact(hh _).1};exact(hh _).1);unfold SK;rw[h15];exact⟨d,_,_,[],0,0+n,rfl,by omega,fun _=>by simp,by omega⟩) (PX.block (PX.loopM (by decide) body_px sc_mea) rfl)) (fun _ _ _=>trivial) sc10_px))))
theorem sc_one(d:Dat):(spSc F0 [d]).1=1:=by
 by_cases h4:d.toS.length<4001;{obtain⟨L,y',er,ea,h1,h2⟩:=sc_run (d:=d) (by omega) _ 0 [] 0 (aw _) (by simp) (by omega);rw[sc_start h4,bind_go (unX_at h1),sc10_tr];split<;>rfl};unfold spSc;rw[bind_go (f:=sc0.tr F0 3) (s':=[d,.int 0,.int 0]) rfl];have e:sc1.tr F0 4 [d,.int 0,.int 0]=(1,[.lst [],.int 0,.int 3,.int 4000]):=by simp only[sc1,tr_ite,ev_lt,sLn,dD0,sI];rw[if_neg (by omega)];rfl
 rw[bind_no e (by simp)]
theorem hcScan_ok:hcScan.Sound F0 P gl0 b0 R0:=by
 refine dq (fn:=Tryz.f5) (code:=csc) Tryz.func5 (by rfl) (by kernel_rfl) (by kernel_rfl) (by kernel_rfl) fun v hF hpre=> ?_;refine⟨.ret,scZ.l,_,_,.inl rfl,?_,opt_some (by kernel_rfl),by kernel_rfl⟩;obtain⟨d,hd⟩:∃d,d=@Sx.dat v (D 0):=⟨_,rfl⟩;have h:=PX.ret (sc_px (d:=d)) rfl (sc_one d);have va:∀k,@Sx.dat v (.ap k (D 0) (I 0) (I 0))=F0 k d (.int 0) (.int 0):=fun k=>by show v.fn k (@Sx.dat v (D 0)) (.int 0) (.int 0)=_;rw[hF,hd]
 refine HT.pre (by decide) (aN (v:=v) (v':=VL F0 [d]) base0 sc_ini (eqs_cons hd.symm eqs_nil)) (HT.retell (by decide) h (aP (v':=v) base0 sc_fin ?_));refine eqs_cons ?_ (eqs_cons (numI ?_) (eqs_cons (numI ?_) eqs_nil));{rw[dAtL,va,F0_54]};{rw[dAtL,va,F0_55,tI]};rw[dAtL,va,F0_56,tI]
end
end Go.Proofs.YtkklcbfbjfhacaaGreatDoor
set_option linter.all false
namespace Go.Proofs.YtkklcbfbjfhacaaGreatDoor
open Go.Tw Go.Tw.LX
noncomputable section
theorem lw_cons:∀c∈[conKnown],c.Sound F0 P gl0 b0 R0:=con1 conKnown_ok
theorem lw_hcons:∀c∈[hcScan],c.Sound F0 P gl0 b0 R0:=hconC hcScan_ok nohcon
def clw:Code:=match Tryz.f3.body with
 |some c=>c
 |none=>.skip
def lwA:Tl:=⟨[(0,.vstr (.dvar 0))],[],1024⟩
def lwT1:Tl:=⟨[(2,.symb (.cmp .neq (.dvar 0) (.lit 0)))],[],1024⟩
def lwT2:Tl:=⟨[(0,.vstr (.dvar 0)),(3,.bool true),(6,.sym .i64 (.dvar 1))],[],1024⟩
def lwT:Nat→Tl:=fun w=>match w with
 |1=>lwT1
 |2=>lwT2
 |_=>lwA
def lwB0:Tl:=⟨[(0,.vstr (.dvar 0))],[],1024⟩
theorem lw0_px{J:List Dat→Prop}:PX P gl0 b0 R0 0 0 106 F0 J (cl clw) lwA lwB0 lwT (lw0.tr F0 1):=
 PX.tree (pins:=[]) base0 (by decide) follows (cons:=[conKnown]) lw_cons (hcons:=[hcScan]) lw_hcons (cores:=[]) (fun _ _ _ h=>by cases h) (inv:=[]) (fun _ _=>hnil) (by kernel_rfl)
def lwB1:Tl:=⟨[(0,.vstr (.dvar 0)),(3,.bool true),(9,.bool true)],[],1024⟩
theorem lw1_px{J:List Dat→Prop}:PX P gl0 b0 R0 0 0 106 F0 J (cl (cr clw)) lwB0 lwB1 lwT (lw1.tr F0 1):=
 PX.tree (pins:=[]) base0 (by decide) follows (cons:=[conKnown]) lw_cons (hcons:=[hcScan]) lw_hcons (cores:=[]) (fun _ _ _ h=>by cases h) (inv:=[]) (fun _ _=>hnil) (by kernel_rfl)
def lwB2:Tl:=⟨[(0,.vstr (.dvar 0)),(3,.bool true),(9,.bool true),(11,.sym .i64 (.dvar 1))],[],1024⟩
theorem lw2_px{J:List Dat→Prop}:PX P gl0 b0 R0 0 0 106 F0 J (cl (cr (cr clw))) lwB1 lwB2 lwT (lw2.tr F0 2):=
 PX.tree (pins:=[]) base0 (by decide) follows (cons:=[conKnown]) lw_cons (hcons:=[hcScan]) lw_hcons (cores:=[]) (fun _ _ _ h=>by cases h) (inv:=[]) (fun _ _=>hnil) (by kernel_rfl)
def lwB3:Tl:=⟨[(0,.vstr (.dvar 0)),(3,.bool true),(4,.opq 0 1023 0 (.slc [.int .i64,.int .i64,.int .i64,.str,.int .i64,.slc [.int .u8]]) (.dvar 1) (.lit 0)),(5,.ptr 1024 0 0 2),(9,.bool true),(11,.sym .i64 (.dvar 4))],[(1024,.box [.sym .i64 (.dvar 2),.sym .i64 (.dvar 3)] 26)],1025⟩
theorem lw3_px{J:List Dat→Prop}(hco:∀s,J s→∀q∈lw3c,¬@Holds (VL F0 s) q):PX P gl0 b0 R0 0 0 106 F0 J (cl (cr (cr (cr clw)))) lwB2 lwB3 lwT (lw3.tr F0 5):=
 PX.tree (pins:=[]) base0 (by decide) follows (cons:=[conKnown]) lw_cons (hcons:=[hcScan]) lw_hcons (cores:=lw3c) hco (inv:=[]) (fun _ _=>hnil) (by kernel_rfl)
def lwB4:Tl:=⟨[(0,.vstr (.dvar 0)),(3,.bool true),(4,.opq 0 1023 0 (.slc [.int .i64,.int .i64,.int .i64,.str,.int .i64,.slc [.int .u8]]) (.dvar 1) (.lit 0)),(9,.bool true),(19,.ptr 1024 0 0 2)],[(1024,.box [.sym .i64 (.dvar 2),.sym .i64 (.dvar 3)] 26)],1025⟩
theorem lw4_px{J:List Dat→Prop}:PX P gl0 b0 R0 0 0 106 F0 J (cl (cr (cr (cr (cr clw))))) lwB3 lwB4 lwT (lw4.tr F0 4):=
 PX.tree (pins:=[]) base0 (by decide) follows (cons:=[conKnown]) lw_cons (hcons:=[hcScan]) lw_hcons (cores:=[]) (fun _ _ _ h=>by cases h) (inv:=[]) (fun _ _=>hnil) (by kernel_rfl)
def lwB5:Tl:=⟨[(0,.vstr (.dvar 0)),(3,.bool true),(4,.opq 0 1023 0 (.slc [.int .i64,.int .i64,.int .i64,.str,.int .i64,.slc [.int .u8]]) (.dvar 1) (.lit 0)),(6,.sym .i64 (.dvar 2)),(9,.bool true),(19,.ptr 1024 0 0 2)],[(1024,.box [.sym .i64 (.dvar 3),.sym .i64 (.dvar 4)] 26)],1025⟩
theorem lw5_px{J:List Dat→Prop}:PX P gl0 b0 R0 0 0 106 F0 J (cl (cr (cr (cr (cr (cr clw)))))) lwB4 lwB5 lwT (lw5.tr F0 5):=
 PX.tree (pins:=[]) base0 (by decide) follows (cons:=[conKnown]) lw_cons (hcons:=[hcScan]) lw_hcons (cores:=[]) (fun _ _ _ h=>by cases h) (inv:=[]) (fun _ _=>hnil) (by kernel_rfl)
def lwB6:Tl:=⟨[(0,.vstr (.dvar 0)),(3,.bool true),(4,.opq 0 1023 0 (.slc [.int .i64,.int .i64,.int .i64,.str,.int .i64,.slc [.int .u8]]) (.dvar 1) (.lit 0)),(6,.sym .i64 (.dvar 2)),(7,.sym .i64 (.dvar 3)),(9,.bool true),(19,.ptr 1024 0 0 2)],[(1024,.box [.sym .i64 (.dvar 4),.sym .i64 (.dvar 5)] 26)],1025⟩
theorem lw6_px{J:List Dat→Prop}:PX P gl0 b0 R0 0 0 106 F0 J (cl (cl (cr (cr (cr (cr (cr (cr clw)))))))) lwB5 lwB6 lwT (lw6.tr F0 6):=
 PX.tree (pins:=[]) base0 (by decide) follows (cons:=[conKnown]) lw_cons (hcons:=[hcScan]) lw_hcons (cores:=[]) (fun _ _ _ h=>by cases h) (inv:=[]) (fun _ _=>hnil) (by kernel_rfl)
theorem lw8_px{J:List Dat→Prop}(hco:∀s,J s→∀q∈lw8c,¬@Holds (VL F0 s) q)(hinv:∀s,J s→@Holds (VL F0 s) lw8v):PX P gl0 b0 R0 0 0 106 F0 J (cl (cl (cr (cl (cr (cr (cr (cr (cr (cr clw)))))))))) lwB6 lwB6 lwT (lw8.tr F0 6):=
 PX.tree (pins:=[]) base0 (by decide) follows (cons:=[conKnown]) lw_cons (hcons:=[hcScan]) lw_hcons (cores:=lw8c) hco (inv:=lw8v) hinv (by kernel_rfl)
def lwB9:Tl:=⟨[(0,.vstr (.dvar 0)),(3,.bool true),(6,.sym .i64 (.dvar 1))],[],1024⟩
theorem lw10_px{J:List Dat→Prop}(hco:∀s,J s→∀q∈lw10c,¬@Holds (VL F0 s) q)(hinv:∀s,J s→@Holds (VL F0 s) lw10v):PX P gl0 b0 R0 0 0 106 F0 J (cr (cr (cr (cr (cr (cr (cr clw))))))) lwB9 lwB9 lwT (lw10.tr F0 1):=
 PX.tree (pins:=[]) base0 (by decide) follows (cons:=[conKnown]) lw_cons (hcons:=[hcScan]) lw_hcons (cores:=lw10c) hco (inv:=lw10v) hinv (by kernel_rfl)
theorem lw_ini:dQ R0 0 [] (aR lwA.l) (ao b0 lwA.o lwA.nx) lwA.l lwA.o lwA.nx=some lwE0:=by kernel_rfl
theorem lw_eq:clw=(.seq (cl clw) (.seq (cl (cr clw)) (.seq (cl (cr (cr clw))) (.seq (cl (cr (cr (cr clw)))) (.seq (cl (cr (cr (cr (cr clw))))) (.seq (cl (cr (cr (cr (cr (cr clw)))))) (.seq (.seq (cl (cl (cr (cr (cr (cr (cr (cr clw)))))))) (.block 0 (.loop (cl (cl (cr (cl (cr (cr (cr (cr (cr (cr clw))))))))))))) (cr (cr (cr (cr (cr (cr (cr clw)))))))))))))):=by kernel_rfl
def JL3(d:Dat)(s:List Dat):Prop:=∃L,∃er ea:Int,∃z,s=d:: .lst L:: .int er:: .int ea::z∧((er=0∧ea=0∧Ch d 0 L)∨(er≠0∧0≤ea∧ea<d.toS.length∧L=[]))∧d.toS.length<4001
def JL4(d:Dat)(s:List Dat):Prop:=∃L,∃z,s=d:: .lst L::z∧z=[.int 0,.int 0]∧Ch d 0 L∧d.toS.length<4001
def JL5(d:Dat)(s:List Dat):Prop:=∃L,s=[d,.lst L,.int 0,.int 0,.int 0]∧Ch d 0 L∧d.toS.length<4001
theorem lw_px{d:Dat}:PX P gl0 b0 R0 0 0 106 F0 (At [d]) clw lwA lwB9 lwT (spLw F0):=by
 rw[lw_eq];refine PX.seq (J2:=At [d]) (by decide) lw0_px (at_go rfl) (PX.seq (J2:=At [d]) (by decide) lw1_px (at_go rfl) (PX.seq (J2:=A4 [d,.int (d.toS.length:Int)] d) (by decide) lw2_px (fun s hs h=>by
  have hs:s=[d]:=hs;subst hs;revert h;simp only[lw2,tr_ite,ev_lt,sLn,dD0,sI];split;{intro _;exact⟨rfl,by omega⟩};·intro h;cases h) (PX.seq (J2:=JL3 d) (by decide) (lw3_px fun s hs=>lw3_co s (by obtain⟨rfl,k⟩:=hs;exact k)) (fun s hs _=>by
  obtain⟨rfl,h4⟩:=hs;obtain⟨L,er,ea,hs,h⟩:=scan_f h4;have e3:lw3.tr F0 5 [d,.int (d.toS.length:Int)]=(0,[d,.lst L,.int er,.int ea,.int (d.toS.length:Int)]):=(by simp only[lw3,tr_ite,ev_lt,sLn,dD0,sI,tl5,dN,sAp,dAp,dI,(hs _ _).1,(hs _ _).2.1,(hs _ _).2.2,tI,sD1];rw[if_pos (by omega)];rfl);rw[e3];exact⟨L,er,ea,_,rfl,h,h4⟩) (PX.seq (J2:=JL4 d) (by decide) lw4_px (fun s hs h=>by
  obtain⟨L,er,ea,z,rfl,hh,h4⟩:=hs;rcases lw4_tr (z:=z) hh with⟨_,_,hc,e⟩|e;{rw[e];exact⟨L,_,rfl,rfl,hc,h4⟩};·rw[e]at h;cases h) (PX.seq (J2:=JL5 d) (by decide) lw5_px (fun s hs _=>by
  obtain⟨L,z,rfl,rfl,hc,h4⟩:=hs;exact⟨L,rfl,hc,h4⟩) (PX.seq (J2:=JLe) (by decide) (PX.seq (J2:=JLd d) (by decide) lw6_px (fun s hs _=>by
  obtain⟨L,rfl,hc,h4⟩:=hs;have hL:=hc.len;exact⟨L,0,0,rfl,hc,by omega,by omega,h4,by omega⟩) (PX.block (PX.loopM (by decide) (lw8_px (lw8_co d) (lw8_inv d)) (lw_mea d)) rfl)) (fun s hs _=>by
  obtain⟨L,rfl,hc,h4⟩:=hs;have hL:=hc.len;have hj:JLd d (SL d L (0:Nat) (0:Nat)):=⟨L,0,0,rfl,hc,by omega,by omega,h4,by omega⟩;obtain⟨s',hs',hne,hlp⟩:=hC (lw_mea d) hj;rcases lw_cases hs' with⟨L',e,k,rfl,_,hce,he,h6⟩|⟨L',e,k,e',rfl,_,_,h6,_⟩
  ·rw[h6]at hlp;have e5:aD (lw6.tr F0 6) (ie 0 (fD (lw8.tr F0 6) muLw)) [d,.lst L,.int 0,.int 0,.int 0]=(0,[d,.int e,.int 0,.int 0,.int 0,.int 0]):=by
    rw[bind_go (f:=lw6.tr F0 6) (s':=SL d L (0:Nat) (0:Nat)) rfl];exact unX_at hlp
   rw[e5];exact⟨d,e,_,rfl,he,h4⟩
  rw[h6]at hne;exact absurd rfl hne) (lw10_px lw10_co lw10_inv)))))))
end
end Go.Proofs.YtkklcbfbjfhacaaGreatDoor
set_option linter.all false
namespace Go.Proofs.YtkklcbfbjfhacaaGreatDoor
open Go.Tw Go.Tw.LX Go.RowKit
noncomputable section
def conLw:Con:={f:=3,args:=[VS 0],pre:=[],res:=.symb (.cmp .neq (I 1) (I 0)),objs:=[]}
def lwZ:Tl:=⟨[(2,.symb (.cmp .neq (I 1) (I 0)))],[],1024⟩
def lwF1:bA:=[(.pr 21 (D 0) (I 0),.pr 21 (I 1) (I 0))]
theorem lw_fin:dQ R0 0 [] (aR lwT1.l) (ao b0 lwT1.o lwT1.nx) lwZ.l lwZ.o lwZ.nx=some lwF1:=by kernel_rfl
theorem conLw_ok:conLw.Sound F0 P gl0 b0 R0:=by refine cg (fn:=Tryz.f3) (code:=clw) Tryz.func3 (by rfl) (by kernel_rfl) rfl rfl rfl fun v hF hpre=> ?_;refine⟨.ret,lwZ.l,lwZ.o,lwZ.nx,_,_,.inl rfl,?_,by rfl,rfl⟩;obtain⟨h1,h2⟩:=lw_law (@Sx.dat v (D 0));have h:=PX.ret (lw_px (d:=@Sx.dat v (D 0))) (s:=[@Sx.dat v (D 0)]) rfl h1;generalize spLw F0 [@Sx.dat v (D 0)]=S at h h2;refine HT.pre (bQ _) (aN (v:=v) (v':=VL F0 [@Sx.dat v (D 0)]) base0 lw_ini (eqs_cons rfl eqs_nil)) (HT.retell (bQ _) h (aN (v':=v) base0 lw_fin (eqs_cons ?_ eqs_nil)));show Dat.int (dF ((aJ S.2 0).toI != 0))=_;rw[h2];rfl
theorem law_calls{W:World}{s:List UInt8}(hl:∀v:Val,∀p∈tabs,@iN v W p):Calls P 3 #[.string ⟨⟨s⟩⟩] W fun e W'=>e=.returned (.bool true)∧Below W.heap.size W W':=by
 let v:Val:=VL F0 [.str s];have hh:Hold v gl0 b0 R0 0 .leaf (conLw.start b0 R0) {tmps:= #[],defers:=[]} W (dW tabs W):=zN tabs_lt (by decide) (by rfl) tabs_self hl v;have ha:@VRL v (dW tabs W) conLw.args (#[.string ⟨⟨s⟩⟩]:Array Value).toList:=@VRL.cons v _ _ _ _ _ (@VR.vstr v _ (D 0) s rfl) (@VRL.nil v _);refine(conLw_ok v rfl hnil W _ _ hh ha).mono fun e W' q=> ?_;obtain⟨φ',x,rfl,hx,ht,_⟩:=q;have hx:@VR v φ' (.symb (.cmp .neq (I 1) (I 0))) x:=hx;have hx:x=.bool true:=by cases hx;rfl
 subst hx;exact⟨rfl,ht.os,ht.tape,ht.out,ht.size,fun k hk=>ht.keep k hk fun i u e hi he=>by rw[hh.free i hi u]at he;cases he⟩
end
end Go.Proofs.YtkklcbfbjfhacaaGreatDoor
set_option linter.all false
namespace Go.Proofs.YtkklcbfbjfhacaaGreatDoor
open Go.Tw Go.Tw.LX Go.RowKit
theorem laid_plain:(Rows.lexApartRow.laid.filter fun x=>x.2.handleName?.isSome)=[]:=by kernel_rfl
theorem star: "*"++ "errors.errorString"= "*errors.errorString":=by decide
theorem tab0[Val]{W:World}(h:laidMet P Rows.lexApartRow.laid W):iN W (1,asTab):=by obtain⟨rest,h1⟩:=qi h (i:=7) (n:= "strings.asciiSpace") (d:=Lib.tabData .u8 (Aj Rows.laid_strings_asciiSpace)) (by kernel_rfl);exact xc (Lib.tabIs_of_head (P:=P) (g:=1) (t:=72) (e:=5) (n:=256) (by kernel_rfl) (by kernel_rfl) (by kernel_rfl) (by kernel_rfl) (by kernel_rfl) (by kernel_rfl) h1) (by kernel_rfl)
theorem errRow(u:TypeId)(h:P.typeName? 3 u=some "*errors.errorString"):u=144:=
 typeName_ptr_named (nm:= "errors.errorString") (by rw[star];kernel_rfl) (by kernel_rfl) (by decide) u (by rw[star];exact h)
theorem tab1[Val]{W:World}(h:laidMet P Rows.lexApartRow.laid W):iN W (3,tErr):=by obtain⟨rest,h1⟩:=qi h (i:=5) (n:= "strconv.ErrSyntax") (d:=Rows.laid_strconv_ErrSyntax) (by kernel_rfl);obtain⟨a,s,hv,_⟩:=laid_sentinel h1 (g:=3) (ti:=66) (tp:=144) (te:=146) (ts:=9) (by kernel_rfl) (by kernel_rfl) Tryz.underlying66 (fun u hu=>errRow u hu) Tryz.underlying144 Tryz.underlying146 rfl rfl Tryz.underlying9 (by kernel_rfl) (by kernel_rfl);exact uL hv (by kernel_rfl)
theorem tab2[Val]{W:World}(h:laidMet P Rows.lexApartRow.laid W):iN W (4,tErr):=by obtain⟨rest,h1⟩:=qi h (i:=4) (n:= "strconv.ErrRange") (d:=Rows.laid_strconv_ErrRange) (by kernel_rfl);obtain⟨a,s,hv,_⟩:=laid_sentinel h1 (g:=4) (ti:=66) (tp:=144) (te:=146) (ts:=9) (by kernel_rfl) (by kernel_rfl) Tryz.underlying66 (fun u hu=>errRow u hu) Tryz.underlying144 Tryz.underlying146 rfl rfl Tryz.underlying9 (by kernel_rfl) (by kernel_rfl);exact uL hv (by kernel_rfl)
theorem tab3[Val]{W:World}(h:W.ShapedOpen P):iN W (0,[.opq 8 0 0 (.int .i64) (.lit 0) (.lit 0)]):=by
 have h0:((begin P (fun _ _=>0) default).world.heap[0]?).bind Obj.row? =some (#[.int .i64 0],3):=by kernel_rfl
 have hg:0<P.globals.size:=of_decide_eq_true (by kernel_rfl);obtain⟨m,hm⟩:=cell_of_shapedOpen_int h hg h0 rfl (by kernel_rfl) (by kernel_rfl) (Tryz.underlying3);obtain⟨cs,hh,hs,_⟩:=h.1 _ _ _ hg h0;refine⟨cs,_,_,hh,?_⟩;obtain⟨l⟩:=cs;unfold World.cell? at hm;rw[hh]at hm
 match l,hs with
 |[x],_=>have hm:some x=some (.int .i64 m):=hm;cases hm;exact .cons (.opq _ ⟨_,_,rfl,rfl⟩) .nil
theorem tabs_ok{W:World}(h:laidMetH P Rows.lexApartRow.laid W)(hs:W.ShapedOpen P):∀v:Val,∀p∈tabs,@iN v W p:=by unfold laidMetH at h;rw[laid_plain]at h;intro v p hp;simp only[tabs,da,fg,or_false]at hp;rcases hp with rfl|rfl|rfl|rfl;{exact @tab0 v W h};{exact @tab1 v W h};{exact @tab2 v W h};exact @tab3 v W hs
end Go.Proofs.YtkklcbfbjfhacaaGreatDoor
