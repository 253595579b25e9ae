/-
  A part of the law's proof over the abstract evaluator. Conditions: those of each theorem, as it states them.
-/
import Derived.Test.YtlagbijmfchkeaaGreatB1
set_option linter.all false
namespace Go.Proofs.YtlagbijmfchkeaaGreat.Em
open Go.Tw
noncomputable section
end
end Go.Proofs.YtlagbijmfchkeaaGreat.Em
namespace Go.Proofs.YtlagbijmfchkeaaGreat.Em
open Go.Tw
noncomputable section
abbrev H5:List Sh:=[lr,lr,lr,lr,lr,lr,lr]
def L7:List Sh:=H5
def SI(i:Nat):AV:=.sym .i64 (D i)
def qx(i:Nat)(b:Int):aD:=[(.cmp .lss (D i) (.lit (-b)),false),(.cmp .lss (D i) (.lit b),true)]
def LO(x y:Sx):Ob:=.opq 2 0 gid (.slc L7) x y [] 51
end
end Go.Proofs.YtlagbijmfchkeaaGreat.Em
namespace Go.Proofs.YtlagbijmfchkeaaGreat.Em
open Go.Tw
noncomputable section
theorem P8(e:Int):(aU .i64 (e.tmod 4096+4096)).tmod 4096=e%4096:=by rw[yz,yz,wrap_i64];split<;>split<;>split<;>omega
end
end Go.Proofs.YtlagbijmfchkeaaGreat.Em
namespace Go.Proofs.YtlagbijmfchkeaaGreat.Em
open Go.Tw
noncomputable section
end
end Go.Proofs.YtlagbijmfchkeaaGreat.Em
namespace Go.Proofs.YtlagbijmfchkeaaGreat.Em
open Go.Tw
noncomputable section
def kN:Code:=match Tryz.f82.body with
 |some c=>c
 |none=>.skip
def LV(v:Nat)(y:Sx):AV:=.opq 2 1024 v (.slc L7) (.lit 0) y
def Hx:Sx:=.ap 3 (D 0) (D 1) (D 2)
def smB:aD:=[(.cmp .lss (ae (D 2)) (.lit 100000000),true)]
def dM(p:aD):Con:={f:=82,args:=[LV 0 (D 3),SI 0,SI 1],pre:=smB++p,res:=LV 0 (.lit 1),objs:=[],lin:=some {l:=L7,t:=51,x:=D 2,y:=D 3,ox:=Hx,oy:=.lit 1}}
def Sj:aD:=[]
abbrev nJ:Sx:=.pr 30 (.dvar 0) (.lit 0)
abbrev nI:Sx:=.pr 30 (.dvar 1) (.lit 0)
abbrev HG:List (Sx×Sx):=[((.dvar 3),(.dvar 3)),(nJ,nJ),(nI,nI),((.dvar 2),(.dvar 2)),((.dvar 3),(.dvar 3))]
def Vf:bq:=HG
abbrev MZ:Sh:=.slc H5
abbrev eM:List (Nat×Ob):=[(1024,.opq 2 0 1023 MZ (.dvar 2) (.dvar 3) [] 51)]
abbrev sQ:AV:=.sym .i64 (.dvar 0)
abbrev sO:AV:=.sym .i64 (.dvar 1)
abbrev CM:AV:=.opq 2 1024 0 MZ (.lit 0) (.dvar 3)
abbrev sI:List (Nat×AV):=[(0,CM),(1,sQ),(2,sO)]
theorem Rx:aT R0 0 0 (run Sj [] 64 (Code.l kN) [(2,sO),(1,sQ),(0,CM)] eM 1025) .normal [⟨1024,1024,0,0,0⟩] sI eM 1025 Vf=true:=by kernel_rfl
abbrev Be:Bx:=.cmp .lss (.dvar 1) (.lit (-2048))
def I1:aD:=[(Be,true)]
def Ve:bq:=HG
theorem Rw:aT R0 0 0 (run I1 [] 64 (Code.l (Code.r kN)) sI eM 1025) .normal [⟨1024,1024,0,0,0⟩] sI eM 1025 Ve=true:=by kernel_rfl
abbrev sP:Sx:=.lit 1000000001
abbrev yU:Bx:=.cmp .lss (.pr 7 (.dvar 2) (.lit 0)) sP
abbrev qd:Sx:=.lit 2048
def I0:aD:=[(Be,false),((.cmp .lss (.dvar 1) qd),true),(yU,true)]
abbrev qO:Sx:=.ap 3 (.dvar 0) (.dvar 1) (.dvar 2)
abbrev vb:Sx:=.pr 13 (.lit 0) (.lit 0)
def Vd:bq:=[((.lit 1),(.lit 1)),((.pr 9 (.dvar 2) (.pr 9 (.pr 12 (.lit 0) (.pr 12 (.lit 0) (.pr 12 (.lit 22) (.pr 12 (.dvar 0) (.pr 12 (.lit 0) (.pr 12 (.lit 0) (.pr 12 (.dvar 1) sG))))))) vb)),qO),((.lit 1),(.lit 1))]
abbrev gy:List (Nat×Ob):=[(1024,.opq 2 0 1023 MZ qO (.lit 1) [] 51)]
abbrev gx:List (Nat×AV):=[(6,.opq 2 1024 0 MZ (.lit 0) (.lit 1))]
theorem Rv:aT R0 0 0 (run I0 [] 64 (Code.l (Code.r kN)) sI eM 1025) .ret [⟨1024,1024,1,0,0⟩] gx gy 1025 Vd=true:=by kernel_rfl
def IZ:aD:=[(Be,false),((.cmp .lss (.dvar 1) qd),false)]
def Vc:bq:=HG
theorem Ru:aT R0 0 0 (run IZ [] 64 (Code.l (Code.r kN)) sI eM 1025) .normal [⟨1024,1024,0,0,0⟩] sI eM 1025 Vc=true:=by kernel_rfl
def Si:aD:=[]
abbrev u0:Sx:=.pr 30 (.dvar 4) (.lit 0)
def Vb:bq:=[((.dvar 3),(.dvar 3)),(nJ,nJ),(nI,nI),((.pr 30 (.bin .and .i64 (.dvar 1) (.lit 4095)) (.lit 0)),u0),((.dvar 2),(.dvar 2)),((.dvar 3),(.dvar 3))]
abbrev vp:List (Nat×AV):=[(0,CM),(1,sQ),(2,sO),(7,.sym .i64 (.dvar 4))]
theorem Rs:aT R0 0 0 (run Si [] 64 (Code.l (Code.r (Code.r kN))) sI eM 1025) .normal [⟨1024,1024,0,0,0⟩] vp eM 1025 Vb=true:=by kernel_rfl
def IY:aD:=[((.cmp .lss (.dvar 4) qd),true)]
def Va:bq:=[((.dvar 3),(.dvar 3)),(nJ,nJ),(nI,nI),(u0,u0),((.dvar 2),(.dvar 2)),((.dvar 3),(.dvar 3))]
theorem Rr:aT R0 0 0 (run IY [] 64 (Code.l (Code.r (Code.r (Code.r kN)))) vp eM 1025) .normal [⟨1024,1024,0,0,0⟩] vp eM 1025 Va=true:=by kernel_rfl
def IX:aD:=[((.cmp .lss (.dvar 4) qd),false)]
abbrev qc:Sx:=.lit 4096
def U9:bq:=[((.dvar 3),(.dvar 3)),(nJ,nJ),(nI,nI),((.pr 30 (.bin .sub .i64 (.dvar 4) qc) (.lit 0)),u0),((.dvar 2),(.dvar 2)),((.dvar 3),(.dvar 3))]
theorem Rq:aT R0 0 0 (run IX [] 64 (Code.l (Code.r (Code.r (Code.r kN)))) vp eM 1025) .normal [⟨1024,1024,0,0,0⟩] vp eM 1025 U9=true:=by kernel_rfl
def Sg:aD:=[]
def U8:bq:=[((.dvar 3),(.dvar 3)),(nJ,nJ),(nI,nI),(u0,u0),((.pr 30 (.bin .quo .i64 (.bin .sub .i64 (.dvar 1) (.dvar 4)) qc) (.lit 0)),(.pr 30 (.dvar 5) (.lit 0))),((.dvar 2),(.dvar 2)),((.dvar 3),(.dvar 3))]
abbrev ln:List (Nat×AV):=[(0,CM),(1,sQ),(2,sO),(7,.sym .i64 (.dvar 4)),(8,.sym .i64 (.dvar 5))]
theorem Rp:aT R0 0 0 (run Sg [] 64 (Code.l (Code.r (Code.r (Code.r (Code.r kN))))) vp eM 1025) .normal [⟨1024,1024,0,0,0⟩] ln eM 1025 U8=true:=by kernel_rfl
abbrev gN:Bx:=.cmp .lss (.dvar 1) (.lit (-2147483648))
abbrev gM:Bx:=.cmp .eql (.dvar 4) (.lit 0)
abbrev wT:Sx:=.lit 2147483648
abbrev nK:Bx:=.cmp .lss (.dvar 1) wT
abbrev CK:Bx:=.cmp .eql (.dvar 5) (.lit 524288)
def IW:aD:=[(gN,false),(nK,true),(CK,true),(yU,true),(gM,true)]
abbrev HI:Sx:=.pr 9 (.dvar 2) (.pr 9 (.pr 12 (.lit 0) (.pr 12 (.lit 0) (.pr 12 (.lit 1) (.pr 12 (.dvar 0) (.pr 12 (.lit 0) (.pr 12 (.lit 0) (.pr 12 (.lit (-524288)) sG))))))) vb)
def U7:bq:=[((.lit 1),(.lit 1)),(HI,qO),((.lit 1),(.lit 1))]
theorem Ro:aT R0 0 0 (run IW [] 64 (Code.r (Code.r (Code.r (Code.r (Code.r kN))))) ln eM 1025) .ret [⟨1024,1024,1,0,0⟩] gx gy 1025 U7=true:=by kernel_rfl
def IV:aD:=[(gN,false),(nK,true),(CK,true),(yU,true),(gM,false),((.cmp .lss (.pr 7 HI (.lit 0)) sP),true)]
abbrev Pz:Sx:=.pr 12 (.dvar 0) (.pr 12 (.dvar 0) (.pr 12 (.lit 0) (.pr 12 (.dvar 4) sG)))
abbrev Ib:Sx:=.pr 9 (.pr 12 (.lit 0) (.pr 12 (.lit 0) (.pr 12 (.lit 31) Pz))) vb
def U6:bq:=[((.lit 1),(.lit 1)),((.pr 9 HI Ib),qO),((.lit 1),(.lit 1))]
theorem Rn:aT R0 0 0 (run IV [] 64 (Code.r (Code.r (Code.r (Code.r (Code.r kN))))) ln eM 1025) .ret [⟨1024,1024,2,0,0⟩] gx gy 1025 U6=true:=by kernel_rfl
def IU:aD:=[(gN,false),(nK,true),(CK,false),(yU,true),(gM,true)]
abbrev HH:Sx:=.pr 9 (.dvar 2) (.pr 9 (.pr 12 (.lit 0) (.pr 12 (.lit 0) (.pr 12 (.lit 1) (.pr 12 (.dvar 0) (.pr 12 (.lit 0) (.pr 12 (.lit 0) (.pr 12 (.dvar 5) sG))))))) vb)
def U5:bq:=[((.lit 1),(.lit 1)),(HH,qO),((.lit 1),(.lit 1))]
theorem Rm:aT R0 0 0 (run IU [] 64 (Code.r (Code.r (Code.r (Code.r (Code.r kN))))) ln eM 1025) .ret [⟨1024,1024,1,0,0⟩] gx gy 1025 U5=true:=by kernel_rfl
def IT:aD:=[(gN,false),(nK,true),(CK,false),(yU,true),(gM,false),((.cmp .lss (.pr 7 HH (.lit 0)) sP),true)]
def U4:bq:=[((.lit 1),(.lit 1)),((.pr 9 HH Ib),qO),((.lit 1),(.lit 1))]
theorem Rl:aT R0 0 0 (run IT [] 64 (Code.r (Code.r (Code.r (Code.r (Code.r kN))))) ln eM 1025) .ret [⟨1024,1024,2,0,0⟩] gx gy 1025 U4=true:=by kernel_rfl
abbrev HX:Sx:=.ap 3 (.dvar 0) (.dvar 5) (.dvar 2)
abbrev kI:Bx:=.cmp .lss (.pr 7 HX (.lit 0)) sP
abbrev kH:Bx:=.cmp .lss (.pr 7 (.dvar 2) (.lit 0)) (.lit 100000000)
abbrev CQ:Bx:=.cmp .lss (.dvar 5) (.lit (-2147483648))
abbrev CO:Bx:=.cmp .lss (.dvar 5) wT
def Di:aD:=[(kH,true),(CQ,false),(CO,true),(gN,true),(kI,true),(gM,true)]
abbrev RR:Sx:=.pr 9 HX (.pr 9 (.pr 12 (.lit 0) (.pr 12 (.lit 0) (.pr 12 (.lit 28) (.pr 12 (.dvar 0) (.pr 12 (.dvar 0) (.pr 12 (.lit 0) (.pr 12 (.lit 12) sG))))))) vb)
abbrev vi:List (Sx×Sx):=[((.lit 1),(.lit 1)),(RR,qO),((.lit 1),(.lit 1))]
def Ox:bq:=vi
theorem Ml:aT R0 0 0 (run Di [dM (qx 1 2147483648)] 64 (Code.r (Code.r (Code.r (Code.r (Code.r kN))))) ln eM 1025) .ret [⟨1024,1024,2,0,0⟩] gx gy 1025 Ox=true:=by kernel_rfl
abbrev vh:Bx:=.cmp .lss (.pr 7 RR (.lit 0)) sP
def Dh:aD:=[(kH,true),(CQ,false),(CO,true),(gN,true),(kI,true),(gM,false),(vh,true)]
abbrev EC:List (Sx×Sx):=[((.lit 1),(.lit 1)),((.pr 9 RR (.pr 9 (.pr 12 (.lit 0) (.pr 12 (.lit 0) (.pr 12 (.lit 22) Pz))) vb)),qO),((.lit 1),(.lit 1))]
def Ow:bq:=EC
theorem Mk:aT R0 0 0 (run Dh [dM (qx 1 2147483648)] 64 (Code.r (Code.r (Code.r (Code.r (Code.r kN))))) ln eM 1025) .ret [⟨1024,1024,3,0,0⟩] gx gy 1025 Ow=true:=by kernel_rfl
def Dc:aD:=[(kH,true),(CQ,false),(CO,true),(gN,false),(nK,false),(kI,true),(gM,true)]
def Oo:bq:=vi
theorem Mf:aT R0 0 0 (run Dc [dM (qx 1 2147483648)] 64 (Code.r (Code.r (Code.r (Code.r (Code.r kN))))) ln eM 1025) .ret [⟨1024,1024,2,0,0⟩] gx gy 1025 Oo=true:=by kernel_rfl
def Db:aD:=[(kH,true),(CQ,false),(CO,true),(gN,false),(nK,false),(kI,true),(gM,false),(vh,true)]
def On:bq:=EC
theorem Me:aT R0 0 0 (run Db [dM (qx 1 2147483648)] 64 (Code.r (Code.r (Code.r (Code.r (Code.r kN))))) ln eM 1025) .ret [⟨1024,1024,3,0,0⟩] gx gy 1025 On=true:=by kernel_rfl
abbrev CT:Bx:=.cmp .lss (.dvar 5) (.lit (-4398046511104))
abbrev CP:Bx:=.cmp .lss (.dvar 5) (.lit 4398046511104)
def Dg:aD:=[(kH,true),(CT,false),(CP,true),(gN,true),(kI,true),(gM,true)]
def Ov:bq:=vi
theorem Mj:aT R0 0 0 (run Dg [dM (qx 1 4398046511104)] 64 (Code.r (Code.r (Code.r (Code.r (Code.r kN))))) ln eM 1025) .ret [⟨1024,1024,2,0,0⟩] gx gy 1025 Ov=true:=by kernel_rfl
def Df:aD:=[(kH,true),(CT,false),(CP,true),(gN,true),(kI,true),(gM,false),(vh,true)]
def Ou:bq:=EC
theorem Mi:aT R0 0 0 (run Df [dM (qx 1 4398046511104)] 64 (Code.r (Code.r (Code.r (Code.r (Code.r kN))))) ln eM 1025) .ret [⟨1024,1024,3,0,0⟩] gx gy 1025 Ou=true:=by kernel_rfl
def Da:aD:=[(kH,true),(CT,false),(CP,true),(gN,false),(nK,false),(kI,true),(gM,true)]
def Om:bq:=vi
theorem Md:aT R0 0 0 (run Da [dM (qx 1 4398046511104)] 64 (Code.r (Code.r (Code.r (Code.r (Code.r kN))))) ln eM 1025) .ret [⟨1024,1024,2,0,0⟩] gx gy 1025 Om=true:=by kernel_rfl
def C9:aD:=[(kH,true),(CT,false),(CP,true),(gN,false),(nK,false),(kI,true),(gM,false),(vh,true)]
def Ol:bq:=EC
theorem Mc:aT R0 0 0 (run C9 [dM (qx 1 4398046511104)] 64 (Code.r (Code.r (Code.r (Code.r (Code.r kN))))) ln eM 1025) .ret [⟨1024,1024,3,0,0⟩] gx gy 1025 Ol=true:=by kernel_rfl
abbrev CU:Bx:=.cmp .lss (.dvar 5) (.lit (-4503599627370496))
abbrev CS:Bx:=.cmp .lss (.dvar 5) (.lit 4503599627370496)
def De:aD:=[(kH,true),(CU,false),(CS,true),(gN,true),(kI,true),(gM,true)]
def Ot:bq:=vi
theorem Mh:aT R0 0 0 (run De [dM (qx 1 4503599627370496)] 64 (Code.r (Code.r (Code.r (Code.r (Code.r kN))))) ln eM 1025) .ret [⟨1024,1024,2,0,0⟩] gx gy 1025 Ot=true:=by kernel_rfl
def Dd:aD:=[(kH,true),(CU,false),(CS,true),(gN,true),(kI,true),(gM,false),(vh,true)]
def Oq:bq:=EC
theorem Mg:aT R0 0 0 (run Dd [dM (qx 1 4503599627370496)] 64 (Code.r (Code.r (Code.r (Code.r (Code.r kN))))) ln eM 1025) .ret [⟨1024,1024,3,0,0⟩] gx gy 1025 Oq=true:=by kernel_rfl
def C8:aD:=[(kH,true),(CU,false),(CS,true),(gN,false),(nK,false),(kI,true),(gM,true)]
def Ok:bq:=vi
theorem Mb:aT R0 0 0 (run C8 [dM (qx 1 4503599627370496)] 64 (Code.r (Code.r (Code.r (Code.r (Code.r kN))))) ln eM 1025) .ret [⟨1024,1024,2,0,0⟩] gx gy 1025 Ok=true:=by kernel_rfl
def C7:aD:=[(kH,true),(CU,false),(CS,true),(gN,false),(nK,false),(kI,true),(gM,false),(vh,true)]
def Oj:bq:=EC
theorem Ma:aT R0 0 0 (run C7 [dM (qx 1 4503599627370496)] 64 (Code.r (Code.r (Code.r (Code.r (Code.r kN))))) ln eM 1025) .ret [⟨1024,1024,3,0,0⟩] gx gy 1025 Oj=true:=by kernel_rfl
end
end Go.Proofs.YtlagbijmfchkeaaGreat.Em
namespace Go.Proofs.YtlagbijmfchkeaaGreat.Em
open Go.Tw
noncomputable section
def A63:List (Nat×AV):=[(2,SI 1),(1,SI 0),(0,LV 0 (D 3))]
def V9:List (Nat×AV):=[(6,LV 0 (.lit 1))]
def WG:List (Nat×Ob):=[(1024,LO Hx (.lit 1))]
def AJ:List (Nat×Ob):=[(1024,LO (D 2) (D 3))]
def G1:List (Nat×AV):=[(0,LV 0 (D 3)),(1,SI 0),(2,SI 1)]
def G2:List (Nat×AV):=[(0,LV 0 (D 3)),(1,SI 0),(2,SI 1),(7,SI 4)]
def G3:List (Nat×AV):=[(0,LV 0 (D 3)),(1,SI 0),(2,SI 1),(7,SI 4),(8,SI 5)]
def pX:Code:=Code.r (Code.r (Code.r (Code.r (Code.r kN))))
theorem VG:kN=.seq (Code.l kN) (.seq (Code.l (Code.r kN)) (.seq (Code.l (Code.r (Code.r kN))) (.seq (Code.l (Code.r (Code.r (Code.r kN)))) (.seq (Code.l (Code.r (Code.r (Code.r (Code.r kN))))) pX)))):=by kernel_rfl
theorem rC{v:Val}(hF:v.fn=F0):@Sx.dat v Hx=.lst ((@Sx.dat v (D 2)).toL++layI (@Sx.dat v (D 0)).toI (@Sx.dat v (D 1)).toI):=by show v.fn 3 _ _ _=_;rw[hF];rfl
abbrev yr(r e:Int)(x y:Dat):Val:=VA [.int r,.int e,x,y,.int (bT e),.int (bW e)]
theorem Pc(e:Int):ef .i64 (· &&& ·) e 4095=e%4096:=uo e 12 (by omega)
theorem Az{x:List (List Dat)}{a c:List Dat}:(x++[a])++[c]=x++[a,c]:=by rw[List.append_assoc];rfl
theorem uC{x:List (List Dat)}{a:List Dat}:(x++[a]).length=x.length+1:=by simp
set_option maxRecDepth 20000 in
theorem ZL{v:Val}(hF:v.fn=F0)(hx:((@Sx.dat v (D 2)).toL.length:Int)<100000000)
 (hbig:¬(-2147483648≤(@Sx.dat v (D 1)).toI∧(@Sx.dat v (D 1)).toI<2147483648)→HR 0 0 64 (yr (@Sx.dat v (D 0)).toI (@Sx.dat v (D 1)).toI (@Sx.dat v (D 2)) (@Sx.dat v (D 3))) pX (ax G3) (ag b0 AJ 1025) .ret v (ax V9) (ag b0 WG 1025)):
 HR 0 0 64 v kN (ax A63) (ag b0 AJ 1025) .ret v (ax V9) (ag b0 WG 1025):=by
 have hret:=rC hF;generalize hr:(@Sx.dat v (D 0)).toI=r at*;generalize he:(@Sx.dat v (D 1)).toI=e at*;generalize hxx:@Sx.dat v (D 2)=x at*;generalize hyy:@Sx.dat v (D 3)=y at*;let V1:Val:=VA [.int r,.int e,x,y];let V2:Val:=VA [.int r,.int e,x,y,.int (e%4096)];let V3:Val:=VA [.int r,.int e,x,y,.int (bT e)];let V4:Val:=yr r e x y;have s0:decide ((x.toL.length:Int)<1000000001)=true:=decide_eq_true (by omega);have s1:∀a,decide (((x.toL++[a]).length:Int)<1000000001)=true:=fun a=>decide_eq_true (by rw[uC];omega);rw[VG];have h0:HR 0 0 64 v (Code.l kN) (ax A63) (ag b0 AJ 1025) .normal V1 (ax G1) (ag b0 AJ 1025):=rn hF B7 bO (aw 0) Rx
  (aa hyy (aa (congrArg Dat.int hr) (aa (congrArg Dat.int he) (aa hxx (aa hyy al)))))
 by_cases hs: -2048≤e∧e<2048;{refine h0.seq (aw 0) (HT.seq_out (rn (v:=V1) rfl ?_ bO (aw 0) Rv ?_) (by simp));{simp only[Holds,I0,iT];exact⟨decide_eq_false (show ¬e< -2048 by omega),decide_eq_true (show e<2048 by omega),s0,fun _ h=>by cases h⟩};refine aa rfl (aa ?_ (aa rfl al));exact Eq.trans (show _=Dat.lst (x.toL++[jU 22 r 0 0 e])from rfl) (by rw[←kg hs];exact hret.symm)};have h1:HR 0 0 64 V1 (Code.l (Code.r kN)) (ax G1) (ag b0 AJ 1025) .normal V1 (ax G1) (ag b0 AJ 1025):=by by_cases hlt:e< -2048;{refine rn (v:=V1) rfl ?_ bO (aw 0) Rw (aa rfl (aa rfl (aa rfl (aa rfl (aa rfl al)))));simp only[Holds,I1,iT];exact⟨decide_eq_true (show e< -2048 from hlt),fun _ h=>by cases h⟩};refine rn (v:=V1) rfl ?_ bO (aw 0) Ru (aa rfl (aa rfl (aa rfl (aa rfl (aa rfl al)))));simp only[Holds,IZ,iT];exact⟨decide_eq_false (show ¬e< -2048 from hlt),decide_eq_false (show ¬e<2048 by omega),fun _ h=>by cases h⟩
 have h2:HR 0 0 64 V1 (Code.l (Code.r (Code.r kN))) (ax G1) (ag b0 AJ 1025) .normal V2 (ax G2) (ag b0 AJ 1025):=rn (v:=V1) rfl B7 bO (aw 0) Rs
  (aa rfl (aa rfl (aa rfl (aa (congrArg Dat.int (Pc e)) (aa rfl (aa rfl al))))))
 have h3:HR 0 0 64 V2 (Code.l (Code.r (Code.r (Code.r kN)))) (ax G2) (ag b0 AJ 1025) .normal V3 (ax G2) (ag b0 AJ 1025):=by by_cases hm:e%4096<2048;{refine rn (v:=V2) rfl ?_ bO (aw 0) Rr (aa rfl (aa rfl (aa rfl (aa (congrArg Dat.int (show e%4096=bT e by unfold bT;rw[if_pos hm])) (aa rfl (aa rfl al))))));simp only[Holds,IY,iT];exact⟨decide_eq_true (show e%4096<2048 from hm),fun _ h=>by cases h⟩};refine rn (v:=V2) rfl ?_ bO (aw 0) Rq (aa rfl (aa rfl (aa rfl (aa (congrArg Dat.int (show aU .i64 (e%4096 - 4096)=bT e by unfold bT;rw[if_neg hm,bp (by omega) (by omega)])) (aa rfl (aa rfl al))))));simp only[Holds,IX,iT];exact⟨decide_eq_false (show ¬e%4096<2048 from hm),fun _ h=>by cases h⟩
 have h4:HR 0 0 64 V3 (Code.l (Code.r (Code.r (Code.r (Code.r kN))))) (ax G2) (ag b0 AJ 1025) .normal V4 (ax G3) (ag b0 AJ 1025):=rn (v:=V3) rfl B7 bO (aw 0) Rp
  (aa rfl (aa rfl (aa rfl (aa rfl (aa rfl (aa rfl (aa rfl al)))))))
 refine h0.seq (aw 0) (h1.seq (aw 0) (h2.seq (aw 0) (h3.seq (aw 0) (h4.seq (aw 0) ?_))));by_cases hm: -2147483648≤e∧e<2147483648;{have hlay:=pg (r:=r) hs hm;have q1:decide (e< -2147483648)=false:=decide_eq_false (by omega);have q2:decide (e<2147483648)=true:=decide_eq_true (by omega);by_cases hh:bW e=524288;{have q3:(bW e==524288)=true:=(by simpa using hh);by_cases hz:bT e=0;{have q4:(bT e==0)=true:=(by simpa using hz);rw[if_pos hh,if_pos hz]at hlay;refine rn (v:=V4) rfl ?_ bO (aw 0) Ro ?_;{simp only[Holds,IW,iT];exact⟨q1,q2,q3,s0,q4,fun _ h=>by cases h⟩};refine aa rfl (aa ?_ (aa rfl al));exact Eq.trans (show _=Dat.lst (x.toL++[jU 1 r 0 0 (-524288)])from rfl) (by rw[←hlay];exact hret.symm)};have q4:(bT e==0)=false:=(by simpa using hz);rw[if_pos hh,if_neg hz]at hlay;refine rn (v:=V4) rfl ?_ bO (aw 0) Rn ?_;{simp only[Holds,IV,iT];exact⟨q1,q2,q3,s0,q4,by have h1:@Sx.dat V4 (.pr 9 (D 2) (.pr 9 (.pr 12 (.lit 0) (.pr 12 (.lit 0) (.pr 12 (.lit 1) (.pr 12 (D 0) (.pr 12 (.lit 0) (.pr 12 (.lit 0) (.pr 12 (.lit (-524288)) (.pr 14 (.lit 0) (.lit 0))))))))) (.pr 13 (.lit 0) (.lit 0))))=Dat.lst (x.toL++[jU 1 r 0 0 (-524288)]):=rfl;show decide (((@Sx.dat V4 (.pr 9 (D 2) (.pr 9 (.pr 12 (.lit 0) (.pr 12 (.lit 0) (.pr 12 (.lit 1) (.pr 12 (D 0) (.pr 12 (.lit 0) (.pr 12 (.lit 0) (.pr 12 (.lit (-524288)) (.pr 14 (.lit 0) (.lit 0))))))))) (.pr 13 (.lit 0) (.lit 0))))).toL.length:Int)<1000000001)=true;rw[h1];exact s1 _,fun _ h=>by cases h⟩};refine aa rfl (aa ?_ (aa rfl al));exact Eq.trans (show _=Dat.lst ((x.toL++[jU 1 r 0 0 (-524288)])++[jU 31 r r 0 (bT e)])from rfl) (by rw[Az,←hlay];exact hret.symm)};have q3:(bW e==524288)=false:=(by simpa using hh);by_cases hz:bT e=0;{have q4:(bT e==0)=true:=(by simpa using hz);rw[if_neg hh,if_pos hz]at hlay;refine rn (v:=V4) rfl ?_ bO (aw 0) Rm ?_;{simp only[Holds,IU,iT];exact⟨q1,q2,q3,s0,q4,fun _ h=>by cases h⟩};refine aa rfl (aa ?_ (aa rfl al));exact Eq.trans (show _=Dat.lst (x.toL++[jU 1 r 0 0 (bW e)])from rfl) (by rw[←hlay];exact hret.symm)};have q4:(bT e==0)=false:=(by simpa using hz);rw[if_neg hh,if_neg hz]at hlay;refine rn (v:=V4) rfl ?_ bO (aw 0) Rl ?_;{simp only[Holds,IT,iT];exact⟨q1,q2,q3,s0,q4,s1 (jU 1 r 0 0 (bW e)),fun _ h=>by cases h⟩};refine aa rfl (aa ?_ (aa rfl al));exact Eq.trans (show _=Dat.lst ((x.toL++[jU 1 r 0 0 (bW e)])++[jU 31 r r 0 (bT e)])from rfl) (by rw[Az,←hlay];exact hret.symm)};exact hbig hm
theorem mW{p:aD}(h:∀v:Val,v.fn=F0→@Holds v p→((@Sx.dat v (D 2)).toL.length:Int)<100000000→¬(-2147483648≤(@Sx.dat v (D 1)).toI∧(@Sx.dat v (D 1)).toI<2147483648)→HR 0 0 64 (yr (@Sx.dat v (D 0)).toI (@Sx.dat v (D 1)).toI (@Sx.dat v (D 2)) (@Sx.dat v (D 3))) pX (ax G3) (ag b0 AJ 1025) .ret v (ax V9) (ag b0 WG 1025)):(dM p).Sound F0 P ba b0 R0:=by
 refine bX (fn:=Tryz.f82) (code:=kN) Tryz.func82 (by rfl) (by kernel_rfl) (by kernel_rfl) fun v hF hp=> ?_;have hx:((@Sx.dat v (D 2)).toL.length:Int)<100000000:=by have h1:@Bx.eval v (.cmp .lss (ae (D 2)) (.lit 100000000))=true:=hp (.cmp .lss (ae (D 2)) (.lit 100000000),true) (List.mem_append_left _ (List.mem_singleton.2 rfl));have h2:decide (((@Sx.dat v (D 2)).toL.length:Int)<100000000)=true:=h1;exact of_decide_eq_true h2
 refine⟨.ret,V9,_,_,.inl rfl,?_,by rfl,rfl⟩;exact ZL hF hx (h v hF (fun c hc=>hp c (List.mem_append_right _ hc)) hx)
theorem OA:(dM (qx 1 2147483648)).Sound F0 P ba b0 R0:=by refine mW fun v _ hp _ hn=> ?_;have h1:=hp (.cmp .lss (D 1) (.lit (-2147483648)),false) (by simp [qx]);have h2:=hp (.cmp .lss (D 1) (.lit 2147483648),true) (by simp [qx]);exact absurd ⟨Int.not_lt.1 (of_decide_eq_false h1),of_decide_eq_true h2⟩ hn
theorem O1{v:Val}(hF:v.fn=F0){r e:Int}{x y:Dat}(hr:(@Sx.dat v (D 0)).toI=r)(he:(@Sx.dat v (D 1)).toI=e)(hxx:@Sx.dat v (D 2)=x)(hx:(x.toL.length:Int)<100000000)(hn:¬(-2147483648≤e∧e<2147483648))(hb: -2147483648≤bW e∧bW e<2147483648)(hc:(dM (qx 1 2147483648)).Sound F0 P ba b0 R0):
 HR 0 0 64 (yr r e x y) pX (ax G3) (ag b0 AJ 1025) .ret v (ax V9) (ag b0 WG 1025):=by
 have hret:=rC hF;rw[hr,he,hxx]at hret;have hlay:=jG (r:=r) hn;have hlen:=mg r (bW e);have hcs:∀c∈[dM (qx 1 2147483648)],c.Sound F0 P ba b0 R0:=fun c h=>by rw[List.mem_singleton.1 h];exact hc
 have w0:decide ((x.toL.length:Int)<100000000)=true:=decide_eq_true hx;have w1:decide (bW e< -2147483648)=false:=decide_eq_false (by omega);have w2:decide (bW e<2147483648)=true:=decide_eq_true (by omega);have w3:decide (((x.toL++layI r (bW e)).length:Int)<1000000001)=true:=decide_eq_true (by rw[cZ];omega);have w4:decide ((((x.toL++layI r (bW e))++[jU 28 r r 0 12]).length:Int)<1000000001)=true:=decide_eq_true (by rw[uC,cZ];omega);by_cases hz:bT e=0;{have q4:(bT e==0)=true:=(by simpa using hz);rw[if_pos hz]at hlay;by_cases hlt:e< -2147483648;{refine rn (v:=yr r e x y) rfl ?_ hcs (aw 0) Ml ?_;{simp only[Holds,Di,iT];exact⟨w0,w1,w2,decide_eq_true (show e< -2147483648 by omega),w3,q4,fun _ h=>by cases h⟩};refine aa rfl (aa ?_ (aa rfl al));exact Eq.trans (show _=Dat.lst ((x.toL++layI r (bW e))++[jU 28 r r 0 12])from rfl) (by rw[List.append_assoc,←hlay];exact hret.symm)};refine rn (v:=yr r e x y) rfl ?_ hcs (aw 0) Mf ?_;{simp only[Holds,Dc,iT];exact⟨w0,w1,w2,decide_eq_false (show ¬e< -2147483648 by omega),decide_eq_false (show ¬e<2147483648 by omega),w3,q4,fun _ h=>by cases h⟩};refine aa rfl (aa ?_ (aa rfl al));exact Eq.trans (show _=Dat.lst ((x.toL++layI r (bW e))++[jU 28 r r 0 12])from rfl) (by rw[List.append_assoc,←hlay];exact hret.symm)};have q4:(bT e==0)=false:=by simpa using hz
 rw[if_neg hz]at hlay;by_cases hlt:e< -2147483648;{refine rn (v:=yr r e x y) rfl ?_ hcs (aw 0) Mk ?_;{simp only[Holds,Dh,iT];exact⟨w0,w1,w2,decide_eq_true (show e< -2147483648 by omega),w3,q4,w4,fun _ h=>by cases h⟩};refine aa rfl (aa ?_ (aa rfl al));exact Eq.trans (show _=Dat.lst (((x.toL++layI r (bW e))++[jU 28 r r 0 12])++[jU 22 r r 0 (bT e)])from rfl) (by rw[Az,List.append_assoc,←hlay];exact hret.symm)};refine rn (v:=yr r e x y) rfl ?_ hcs (aw 0) Me ?_;{simp only[Holds,Db,iT];exact⟨w0,w1,w2,decide_eq_false (show ¬e< -2147483648 by omega),decide_eq_false (show ¬e<2147483648 by omega),w3,q4,w4,fun _ h=>by cases h⟩};refine aa rfl (aa ?_ (aa rfl al));exact Eq.trans (show _=Dat.lst (((x.toL++layI r (bW e))++[jU 28 r r 0 12])++[jU 22 r r 0 (bT e)])from rfl) (by rw[Az,List.append_assoc,←hlay];exact hret.symm)
theorem O0{v:Val}(hF:v.fn=F0){r e:Int}{x y:Dat}(hr:(@Sx.dat v (D 0)).toI=r)(he:(@Sx.dat v (D 1)).toI=e)(hxx:@Sx.dat v (D 2)=x)(hx:(x.toL.length:Int)<100000000)(hn:¬(-2147483648≤e∧e<2147483648))(hb: -4398046511104≤bW e∧bW e<4398046511104)(hc:(dM (qx 1 4398046511104)).Sound F0 P ba b0 R0):
 HR 0 0 64 (yr r e x y) pX (ax G3) (ag b0 AJ 1025) .ret v (ax V9) (ag b0 WG 1025):=by
 have hret:=rC hF;rw[hr,he,hxx]at hret;have hlay:=jG (r:=r) hn;have hlen:=mg r (bW e);have hcs:∀c∈[dM (qx 1 4398046511104)],c.Sound F0 P ba b0 R0:=fun c h=>by rw[List.mem_singleton.1 h];exact hc
 have w0:decide ((x.toL.length:Int)<100000000)=true:=decide_eq_true hx;have w1:decide (bW e< -4398046511104)=false:=decide_eq_false (by omega);have w2:decide (bW e<4398046511104)=true:=decide_eq_true (by omega);have w3:decide (((x.toL++layI r (bW e)).length:Int)<1000000001)=true:=decide_eq_true (by rw[cZ];omega);have w4:decide ((((x.toL++layI r (bW e))++[jU 28 r r 0 12]).length:Int)<1000000001)=true:=decide_eq_true (by rw[uC,cZ];omega);by_cases hz:bT e=0;{have q4:(bT e==0)=true:=(by simpa using hz);rw[if_pos hz]at hlay;by_cases hlt:e< -2147483648;{refine rn (v:=yr r e x y) rfl ?_ hcs (aw 0) Mj ?_;{simp only[Holds,Dg,iT];exact⟨w0,w1,w2,decide_eq_true (show e< -2147483648 by omega),w3,q4,fun _ h=>by cases h⟩};refine aa rfl (aa ?_ (aa rfl al));exact Eq.trans (show _=Dat.lst ((x.toL++layI r (bW e))++[jU 28 r r 0 12])from rfl) (by rw[List.append_assoc,←hlay];exact hret.symm)};refine rn (v:=yr r e x y) rfl ?_ hcs (aw 0) Md ?_;{simp only[Holds,Da,iT];exact⟨w0,w1,w2,decide_eq_false (show ¬e< -2147483648 by omega),decide_eq_false (show ¬e<2147483648 by omega),w3,q4,fun _ h=>by cases h⟩};refine aa rfl (aa ?_ (aa rfl al));exact Eq.trans (show _=Dat.lst ((x.toL++layI r (bW e))++[jU 28 r r 0 12])from rfl) (by rw[List.append_assoc,←hlay];exact hret.symm)};have q4:(bT e==0)=false:=by simpa using hz
 rw[if_neg hz]at hlay;by_cases hlt:e< -2147483648;{refine rn (v:=yr r e x y) rfl ?_ hcs (aw 0) Mi ?_;{simp only[Holds,Df,iT];exact⟨w0,w1,w2,decide_eq_true (show e< -2147483648 by omega),w3,q4,w4,fun _ h=>by cases h⟩};refine aa rfl (aa ?_ (aa rfl al));exact Eq.trans (show _=Dat.lst (((x.toL++layI r (bW e))++[jU 28 r r 0 12])++[jU 22 r r 0 (bT e)])from rfl) (by rw[Az,List.append_assoc,←hlay];exact hret.symm)};refine rn (v:=yr r e x y) rfl ?_ hcs (aw 0) Mc ?_;{simp only[Holds,C9,iT];exact⟨w0,w1,w2,decide_eq_false (show ¬e< -2147483648 by omega),decide_eq_false (show ¬e<2147483648 by omega),w3,q4,w4,fun _ h=>by cases h⟩};refine aa rfl (aa ?_ (aa rfl al));exact Eq.trans (show _=Dat.lst (((x.toL++layI r (bW e))++[jU 28 r r 0 12])++[jU 22 r r 0 (bT e)])from rfl) (by rw[Az,List.append_assoc,←hlay];exact hret.symm)
theorem OZ{v:Val}(hF:v.fn=F0){r e:Int}{x y:Dat}(hr:(@Sx.dat v (D 0)).toI=r)(he:(@Sx.dat v (D 1)).toI=e)(hxx:@Sx.dat v (D 2)=x)(hx:(x.toL.length:Int)<100000000)(hn:¬(-2147483648≤e∧e<2147483648))(hb: -4503599627370496≤bW e∧bW e<4503599627370496)(hc:(dM (qx 1 4503599627370496)).Sound F0 P ba b0 R0):
 HR 0 0 64 (yr r e x y) pX (ax G3) (ag b0 AJ 1025) .ret v (ax V9) (ag b0 WG 1025):=by
 have hret:=rC hF;rw[hr,he,hxx]at hret;have hlay:=jG (r:=r) hn;have hlen:=mg r (bW e);have hcs:∀c∈[dM (qx 1 4503599627370496)],c.Sound F0 P ba b0 R0:=fun c h=>by rw[List.mem_singleton.1 h];exact hc
 have w0:decide ((x.toL.length:Int)<100000000)=true:=decide_eq_true hx;have w1:decide (bW e< -4503599627370496)=false:=decide_eq_false (by omega);have w2:decide (bW e<4503599627370496)=true:=decide_eq_true (by omega);have w3:decide (((x.toL++layI r (bW e)).length:Int)<1000000001)=true:=decide_eq_true (by rw[cZ];omega);have w4:decide ((((x.toL++layI r (bW e))++[jU 28 r r 0 12]).length:Int)<1000000001)=true:=decide_eq_true (by rw[uC,cZ];omega);by_cases hz:bT e=0;{have q4:(bT e==0)=true:=(by simpa using hz);rw[if_pos hz]at hlay;by_cases hlt:e< -2147483648;{refine rn (v:=yr r e x y) rfl ?_ hcs (aw 0) Mh ?_;{simp only[Holds,De,iT];exact⟨w0,w1,w2,decide_eq_true (show e< -2147483648 by omega),w3,q4,fun _ h=>by cases h⟩};refine aa rfl (aa ?_ (aa rfl al));exact Eq.trans (show _=Dat.lst ((x.toL++layI r (bW e))++[jU 28 r r 0 12])from rfl) (by rw[List.append_assoc,←hlay];exact hret.symm)};refine rn (v:=yr r e x y) rfl ?_ hcs (aw 0) Mb ?_;{simp only[Holds,C8,iT];exact⟨w0,w1,w2,decide_eq_false (show ¬e< -2147483648 by omega),decide_eq_false (show ¬e<2147483648 by omega),w3,q4,fun _ h=>by cases h⟩};refine aa rfl (aa ?_ (aa rfl al));exact Eq.trans (show _=Dat.lst ((x.toL++layI r (bW e))++[jU 28 r r 0 12])from rfl) (by rw[List.append_assoc,←hlay];exact hret.symm)};have q4:(bT e==0)=false:=by simpa using hz
 rw[if_neg hz]at hlay;by_cases hlt:e< -2147483648;{refine rn (v:=yr r e x y) rfl ?_ hcs (aw 0) Mg ?_;{simp only[Holds,Dd,iT];exact⟨w0,w1,w2,decide_eq_true (show e< -2147483648 by omega),w3,q4,w4,fun _ h=>by cases h⟩};refine aa rfl (aa ?_ (aa rfl al));exact Eq.trans (show _=Dat.lst (((x.toL++layI r (bW e))++[jU 28 r r 0 12])++[jU 22 r r 0 (bT e)])from rfl) (by rw[Az,List.append_assoc,←hlay];exact hret.symm)};refine rn (v:=yr r e x y) rfl ?_ hcs (aw 0) Ma ?_;{simp only[Holds,C7,iT];exact⟨w0,w1,w2,decide_eq_false (show ¬e< -2147483648 by omega),decide_eq_false (show ¬e<2147483648 by omega),w3,q4,w4,fun _ h=>by cases h⟩};refine aa rfl (aa ?_ (aa rfl al));exact Eq.trans (show _=Dat.lst (((x.toL++layI r (bW e))++[jU 28 r r 0 12])++[jU 22 r r 0 (bT e)])from rfl) (by rw[Az,List.append_assoc,←hlay];exact hret.symm)
theorem Oz:(dM (qx 1 4398046511104)).Sound F0 P ba b0 R0:=by refine mW fun v hF hp hx hn=> ?_;have h1:=of_decide_eq_false (hp (.cmp .lss (D 1) (.lit (-4398046511104)),false) (by simp [qx]));have h2:=of_decide_eq_true (hp (.cmp .lss (D 1) (.lit 4398046511104),true) (by simp [qx]));exact O1 hF rfl rfl rfl hx hn (by have:=kn (@Sx.dat v (D 1)).toI 4398046511104 (by omega) ⟨Int.not_lt.1 h1,h2⟩ (by omega);omega) OA
theorem Oy:(dM (qx 1 4503599627370496)).Sound F0 P ba b0 R0:=by refine mW fun v hF hp hx hn=> ?_;have h1:=of_decide_eq_false (hp (.cmp .lss (D 1) (.lit (-4503599627370496)),false) (by simp [qx]));have h2:=of_decide_eq_true (hp (.cmp .lss (D 1) (.lit 4503599627370496),true) (by simp [qx]));exact O0 hF rfl rfl rfl hx hn (by have:=kn (@Sx.dat v (D 1)).toI 4503599627370496 (by omega) ⟨Int.not_lt.1 h1,h2⟩ (by omega);omega) Oz
theorem KV:(dM []).Sound F0 P ba b0 R0:=
 mW fun v hF _ hx hn=>OZ hF rfl rfl rfl hx hn (by have:=zJ (@Sx.dat v (D 1)).toI;omega) Oy
end
end Go.Proofs.YtlagbijmfchkeaaGreat.Em
namespace Go.Proofs.YtlagbijmfchkeaaGreat.Em
open Go.Tw
noncomputable section
def VI:Code:=match Tryz.f47.body with
 |some c=>c
 |none=>.skip
abbrev lq:Bx:=.cmp .lss (.dvar 0) (.lit 0)
def Jb:aD:=[(lq,true)]
abbrev Bd:Sx:=.ap 4 (.dvar 0) (.dvar 1) (.lit 0)
abbrev Bc:Sx:=.ap 5 (.dvar 0) (.dvar 1) (.lit 0)
abbrev C0:List (Sx×Sx):=[((.lit 0),(.pr 30 Bd (.lit 0))),((.lit 2),(.pr 30 Bc (.lit 0)))]
def QH:bq:=C0
abbrev vm:List (Nat×AV):=[(4,.sym .u64 Bd),(5,.sym .i64 Bc)]
abbrev ve:List (Nat×AV):=[(1,sO),(0,sQ)]
theorem Xo:aT R0 0 0 (run Jb [] 27 VI ve [] 1024) .ret [] vm [] 1024 QH=true:=by kernel_rfl
abbrev wX:Bx:=.cmp .lss (.dvar 0) (.lit 8)
abbrev Bb:Bx:=.cmp .lss (.dvar 1) (.lit 0)
def Ja:aD:=[(lq,false),(wX,true),(Bb,true)]
def QG:bq:=C0
theorem Xn:aT R0 0 0 (run Ja [] 27 VI ve [] 1024) .ret [] vm [] 1024 QG=true:=by kernel_rfl
def I9:aD:=[(lq,false),(wX,true),(Bb,false),((.cmp .lss (.dvar 1) qc),true)]
abbrev Ba:Sx:=.lit 1073741824
def QF:bq:=[((.pr 30 (.bin .add .u64 Ba (.bin .shl .u64 (.wrap .u64 (.bin .or .i64 (.bin .shl .i64 (.dvar 1) (.lit 3)) (.dvar 0))) (.lit 4))) (.lit 0)),(.pr 30 Bd (.lit 0))),((.lit 0),(.pr 30 Bc (.lit 0)))]
theorem Xm:aT R0 0 0 (run I9 [] 27 VI ve [] 1024) .ret [] vm [] 1024 QF=true:=by kernel_rfl
def I8:aD:=[(lq,false),(wX,true),(Bb,false),((.cmp .lss (.dvar 1) qc),false)]
def QE:bq:=C0
theorem Xl:aT R0 0 0 (run I8 [] 27 VI ve [] 1024) .ret [] vm [] 1024 QE=true:=by kernel_rfl
def I7:aD:=[(lq,false),(wX,false)]
def QD:bq:=C0
theorem Xk:aT R0 0 0 (run I7 [] 27 VI ve [] 1024) .ret [] vm [] 1024 QD=true:=by kernel_rfl
theorem t30{v v':Val}(hF:v.fn=F0)(hcs:∀c∈([]:List Con),c.Sound F0 P ba b0 R0)(hp:@Holds v [])(q0:@Holds v Jb→EqsOk v v' QH)(q1:@Holds v Ja→EqsOk v v' QG)(q2:@Holds v I9→EqsOk v v' QF)(q3:@Holds v I8→EqsOk v v' QE)(q4:@Holds v I7→EqsOk v v' QD):
 HR 0 0 27 v VI (ax ve) (ag b0 [] 1024) .ret v' (ax vm) (ag b0 [] 1024):=
 (match h0:@Bx.eval v (.cmp .lss (.dvar 0) (.lit 0))with
   |true=>rn hF (p:=Jb) (jN hp (af h0 aC)) hcs (by decide) Xo (q0 (jN hp (af h0 aC)))
   |false=>(match h1:@Bx.eval v (.cmp .lss (.dvar 0) (.lit 8))with
   |true=>(match h2:@Bx.eval v (.cmp .lss (.dvar 1) (.lit 0))with
   |true=>rn hF (p:=Ja) (jN hp (af h0 (af h1 (af h2 aC)))) hcs (by decide) Xn (q1 (jN hp (af h0 (af h1 (af h2 aC)))))
   |false=>(match h3:@Bx.eval v (.cmp .lss (.dvar 1) (.lit 4096))with
   |true=>rn hF (p:=I9) (jN hp (af h0 (af h1 (af h2 (af h3 aC))))) hcs (by decide) Xm (q2 (jN hp (af h0 (af h1 (af h2 (af h3 aC))))))
   |false=>rn hF (p:=I8) (jN hp (af h0 (af h1 (af h2 (af h3 aC))))) hcs (by decide) Xl (q3 (jN hp (af h0 (af h1 (af h2 (af h3 aC))))))))
   |false=>rn hF (p:=I7) (jN hp (af h0 (af h1 aC))) hcs (by decide) Xk (q4 (jN hp (af h0 (af h1 aC))))))
def VH:Code:=match Tryz.f48.body with
 |some c=>c
 |none=>.skip
abbrev vd:Bx:=.cmp .lss (.dvar 0) wT
abbrev yS:Bx:=.cmp .lss (.dvar 0) Ba
def I6:aD:=[(lq,false),(vd,true),(yS,true)]
abbrev HP:Sx:=.ap 6 (.dvar 0) (.lit 0) (.lit 0)
abbrev HA:Sx:=.pr 30 HP (.lit 0)
abbrev HO:Sx:=.ap 7 (.dvar 0) (.lit 0) (.lit 0)
abbrev Hz:Sx:=.pr 30 HO (.lit 0)
abbrev HD:List (Sx×Sx):=[((.lit 0),HA),((.lit 0),Hz)]
def QC:bq:=HD
abbrev vl:List (Nat×AV):=[(2,.sym .i64 HP),(3,.sym .i64 HO)]
abbrev uY:List (Nat×AV):=[(0,.sym .u64 (.dvar 0))]
theorem Xj:aT R0 0 0 (run I6 [] 29 VH uY [] 1024) .ret [] vl [] 1024 QC=true:=by kernel_rfl
abbrev HL:Sx:=.bin .sub .u64 (.dvar 0) Ba
abbrev CY:Bx:=.cmp .eql (.bin .and .u64 HL (.lit 15)) (.lit 0)
abbrev vg:Sx:=.wrap .i64 (.bin .and .u64 (.dvar 0) (.lit 4095))
abbrev HB:Bx:=.cmp .lss (.bin .shr .u64 HL (.lit 4)) (.lit 32768)
def I5:aD:=[(lq,false),(vd,true),(yS,false),(CY,true),(HB,true),((.cmp .lss vg qd),true)]
def QB:bq:=[((.pr 30 (.bin .shr .i64 (.bin .sub .i64 (.wrap .i64 (.dvar 0)) vg) (.lit 12)) (.lit 0)),HA),((.pr 30 vg (.lit 0)),Hz)]
theorem Xi:aT R0 0 0 (run I5 [] 29 VH uY [] 1024) .ret [] vl [] 1024 QB=true:=by kernel_rfl
def I4:aD:=[(lq,false),(vd,true),(yS,false),(CY,true),(HB,true),((.cmp .lss vg qd),false)]
def QA:bq:=[((.pr 30 (.bin .shr .i64 (.bin .sub .i64 (.wrap .i64 (.dvar 0)) (.bin .sub .i64 vg qc)) (.lit 12)) (.lit 0)),HA),((.pr 30 (.bin .sub .i64 vg qc) (.lit 0)),Hz)]
theorem Xh:aT R0 0 0 (run I4 [] 29 VH uY [] 1024) .ret [] vl [] 1024 QA=true:=by kernel_rfl
def I3:aD:=[(lq,false),(vd,true),(yS,false),(CY,true),(HB,false)]
def Qz:bq:=HD
theorem Xg:aT R0 0 0 (run I3 [] 29 VH uY [] 1024) .ret [] vl [] 1024 Qz=true:=by kernel_rfl
def I2:aD:=[(lq,false),(vd,true),(yS,false),(CY,false)]
def Qy:bq:=HD
theorem Xf:aT R0 0 0 (run I2 [] 29 VH uY [] 1024) .ret [] vl [] 1024 Qy=true:=by kernel_rfl
theorem t31{v v':Val}(hF:v.fn=F0)(hcs:∀c∈([]:List Con),c.Sound F0 P ba b0 R0)(hp:@Holds v [(lq,false),(vd,true)])(q0:@Holds v I6→EqsOk v v' QC)(q1:@Holds v I5→EqsOk v v' QB)(q2:@Holds v I4→EqsOk v v' QA)(q3:@Holds v I3→EqsOk v v' Qz)(q4:@Holds v I2→EqsOk v v' Qy):
 HR 0 0 29 v VH (ax uY) (ag b0 [] 1024) .ret v' (ax vl) (ag b0 [] 1024):=
 (match h0:@Bx.eval v (.cmp .lss (.dvar 0) (.lit 1073741824))with
   |true=>rn hF (p:=I6) (jN hp (af h0 aC)) hcs (by decide) Xj (q0 (jN hp (af h0 aC)))
   |false=>(match h1:@Bx.eval v (.cmp .eql (.bin .and .u64 (.bin .sub .u64 (.dvar 0) (.lit 1073741824)) (.lit 15)) (.lit 0))with
   |true=>(match h2:@Bx.eval v (.cmp .lss (.bin .shr .u64 (.bin .sub .u64 (.dvar 0) (.lit 1073741824)) (.lit 4)) (.lit 32768))with
   |true=>(match h3:@Bx.eval v (.cmp .lss (.wrap .i64 (.bin .and .u64 (.dvar 0) (.lit 4095))) (.lit 2048))with
   |true=>rn hF (p:=I5) (jN hp (af h0 (af h1 (af h2 (af h3 aC))))) hcs (by decide) Xi (q1 (jN hp (af h0 (af h1 (af h2 (af h3 aC))))))
   |false=>rn hF (p:=I4) (jN hp (af h0 (af h1 (af h2 (af h3 aC))))) hcs (by decide) Xh (q2 (jN hp (af h0 (af h1 (af h2 (af h3 aC)))))))
   |false=>rn hF (p:=I3) (jN hp (af h0 (af h1 (af h2 aC)))) hcs (by decide) Xg (q3 (jN hp (af h0 (af h1 (af h2 aC))))))
   |false=>rn hF (p:=I2) (jN hp (af h0 (af h1 aC))) hcs (by decide) Xf (q4 (jN hp (af h0 (af h1 aC))))))
end
end Go.Proofs.YtlagbijmfchkeaaGreat.Em
namespace Go.Proofs.YtlagbijmfchkeaaGreat.Em
open Go.Tw
noncomputable section
theorem aF{v:Val}{c:Bx}{x:Bool}{l:aD}(h:@Holds v ((c,x)::l)):@Bx.eval v c=x∧@Holds v l:=List.forall_mem_cons.1 h
theorem E6{v:Val}{a:Sx}{n:Int}(h:@Bx.eval v (.cmp .lss a (.lit n))=true):@Sx.eval v a<n:=of_decide_eq_true h
theorem BG{v:Val}{a:Sx}{n:Int}(h:@Bx.eval v (.cmp .lss a (.lit n))=false):n≤@Sx.eval v a:=Int.not_lt.1 (of_decide_eq_false h)
theorem eqT{v:Val}{a:Sx}{n:Int}(h:@Bx.eval v (.cmp .eql a (.lit n))=true):@Sx.eval v a=n:=by have h:(@Sx.eval v a==n)=true:=h;simpa using h
theorem eqF{v:Val}{a:Sx}{n:Int}(h:@Bx.eval v (.cmp .eql a (.lit n))=false):@Sx.eval v a≠n:=by have h:(@Sx.eval v a==n)=false:=h;simpa using h
def SU(i:Nat):AV:=.sym .u64 (D i)
theorem d4{v:Val}(hF:v.fn=F0):@Sx.dat v (.pr 30 (.ap 4 (D 0) (D 1) (.lit 0)) (.lit 0))=.int (mG (@Sx.eval v (D 0)) (@Sx.eval v (D 1))):=by show Dat.int (Dat.toI (v.fn 4 _ _ _))=_;rw[hF];rfl
theorem d5{v:Val}(hF:v.fn=F0):@Sx.dat v (.pr 30 (.ap 5 (D 0) (D 1) (.lit 0)) (.lit 0))=.int (pP (@Sx.eval v (D 0)) (@Sx.eval v (D 1))):=by show Dat.int (Dat.toI (v.fn 5 _ _ _))=_;rw[hF];rfl
abbrev HK:Sx:=.ap 6 (D 0) (.lit 0) (.lit 0)
theorem d6{v:Val}(hF:v.fn=F0):@Sx.dat v (.pr 30 HK (.lit 0))=.int (rU (@Sx.eval v (D 0))):=by show Dat.int (Dat.toI (v.fn 6 _ _ _))=_;rw[hF];rfl
abbrev HJ:Sx:=.ap 7 (D 0) (.lit 0) (.lit 0)
theorem d7{v:Val}(hF:v.fn=F0):@Sx.dat v (.pr 30 HJ (.lit 0))=.int (rT (@Sx.eval v (D 0))):=by show Dat.int (Dat.toI (v.fn 7 _ _ _))=_;rw[hF];rfl
theorem F2{k b:Int}(h:¬(0≤k∧k<8∧0≤b∧b<4096)):mG k b=0∧pP k b=2:=by simp [mG,pP,h]
theorem F1{k b:Int}(h:0≤k∧k<8∧0≤b∧b<4096):mG k b=1073741824+16*(8*b+k)∧pP k b=0:=by simp [mG,pP,h]
theorem V8{k b:Int}(h:0≤k∧k<8∧0≤b∧b<4096):aZ .add .u64 1073741824 (aZ .shl .u64 (aU .u64 (aZ .or .i64 (aZ .shl .i64 b 3) k)) 4)=1073741824+16*(8*b+k):=by
 have e1:aZ .shl .i64 b 3=b*8:=by show aU .i64 (b*8)=_;exact bp (by omega) (by omega)
 have e2:aZ .or .i64 (b*8) k=b*8+k:=ac6 _ _ (by omega) (by omega) (by omega) (by omega) (by omega);rw[e1,e2];show aU .u64 (1073741824+aU .u64 (aU .u64 (b*8+k)*16))=_;rw[kU,kU,kU];omega
def aaH(f:Nat):Con:={f:=f,args:=[SI 0,SI 1],pre:=[],res:=.tup [.sym .u64 (.ap 4 (D 0) (D 1) (.lit 0)),.sym .i64 (.ap 5 (D 0) (D 1) (.lit 0))],objs:=[]}
theorem KX:(aaH 47).Sound F0 P ba b0 R0:=by
 refine bX (fn:=Tryz.f47) (code:=VI) Tryz.func47 (by rfl) (by kernel_rfl) (by kernel_rfl) fun v hF _=> ?_;refine⟨.ret,[(4,.sym .u64 (.ap 4 (D 0) (D 1) (.lit 0))),(5,.sym .i64 (.ap 5 (D 0) (D 1) (.lit 0)))],_,_,.inl rfl,?_,by rfl,rfl⟩;have no:∀{E:bq},¬(0≤@Sx.eval v (D 0)∧@Sx.eval v (D 0)<8∧0≤@Sx.eval v (D 1)∧@Sx.eval v (D 1)<4096)→E=[(.lit 0,.pr 30 (.ap 4 (D 0) (D 1) (.lit 0)) (.lit 0)),(.lit 2,.pr 30 (.ap 5 (D 0) (D 1) (.lit 0)) (.lit 0))]→EqsOk v v E:=fun h hE=>by obtain⟨g1,g2⟩:=F2 h;subst hE;exact aa (by rw[d4 hF,g1];rfl) (aa (by rw[d5 hF,g2];rfl) al)
 refine t30 hF bO aC (fun h=>no ?_ rfl) (fun h=>no ?_ rfl) (fun h=> ?_) (fun h=>no ?_ rfl) (fun h=>no ?_ rfl);{obtain⟨f0,h⟩:=aF h;have:=E6 f0;unfold D;omega};{obtain⟨f0,h⟩:=aF h;obtain⟨f1,h⟩:=aF h;obtain⟨f2,h⟩:=aF h;have:=E6 f2;unfold D;omega};{obtain⟨f0,h⟩:=aF h;obtain⟨f1,h⟩:=aF h;obtain⟨f2,h⟩:=aF h;obtain⟨f3,h⟩:=aF h;have hr:0≤@Sx.eval v (D 0)∧@Sx.eval v (D 0)<8∧0≤@Sx.eval v (D 1)∧@Sx.eval v (D 1)<4096:=⟨BG f0,E6 f1,BG f2,E6 f3⟩;obtain⟨g1,g2⟩:=F1 hr;exact aa (Eq.trans (congrArg Dat.int (V8 hr)) (Eq.trans (congrArg Dat.int g1.symm) (d4 hF).symm)) (aa (Eq.trans (congrArg Dat.int g2.symm) (d5 hF).symm) al)};{obtain⟨f0,h⟩:=aF h;obtain⟨f1,h⟩:=aF h;obtain⟨f2,h⟩:=aF h;obtain⟨f3,h⟩:=aF h;have:=BG f3;unfold D;omega};obtain⟨f0,h⟩:=aF h;obtain⟨f1,h⟩:=aF h;have:=BG f1;unfold D;omega
theorem Gp{a:Int}(h:¬nF a):rU a=0∧rT a=0:=by simp [rU,rT,h]
theorem Gn{a:Int}(h:nF a):rU a=(a - bT a) / 4096∧rT a=bT a:=by simp [rU,rT,h]
theorem Q1{a:Int}(j:Nat)(hj:j≤62):aZ .and .u64 a (2^j - 1)=a%2^j:=Cz a j hj
theorem Xp{a:Int}(h:0≤a)(h2:a<18446744073709551616):aU .u64 a=a:=by rw[kU];omega
def R5:aD:=[(.cmp .lss (D 0) (.lit 0),false),(.cmp .lss (D 0) wT,true)]
def aaG(f:Nat):Con:={f:=f,args:=[SU 0],pre:=R5,res:=.tup [.sym .i64 HK,.sym .i64 HJ],objs:=[]}
section
variable{a:Int}(h0:0≤a)(h1:a<2147483648)
include h0 h1
theorem Pq(h:1073741824≤a):aZ .sub .u64 a 1073741824=a - 1073741824:=by show aU .u64 (a - 1073741824)=_;exact Xp (by omega) (by omega)
theorem wF(h:1073741824≤a):aZ .and .u64 (aZ .sub .u64 a 1073741824) 15=a%16:=by rw[Pq h0 h1 h];refine(Q1 (a:=a - 1073741824) 4 (by omega)).trans ?_;omega
theorem Gq(h:1073741824≤a):aZ .shr .u64 (aZ .sub .u64 a 1073741824) 4=(a - 1073741824) / 16:=by rw[Pq h0 h1 h];show(a - 1073741824).fdiv 16=_;exact Int.fdiv_eq_ediv_of_nonneg _ (by omega)
theorem rV:aU .i64 (aZ .and .u64 a 4095)=a%4096:=by refine(fun _ _=> ?_:0≤a→a<2147483648→_) h0 h1;rw[show aZ .and .u64 a 4095=a%4096 from Q1 12 (by omega)];exact bp (by omega) (by omega)
theorem Rz{m:Int}(hm:m=a%4096):aZ .sub .i64 m 4096=a%4096 - 4096:=by refine(fun _ _=> ?_:0≤a→a<2147483648→_) h0 h1;subst hm;exact bp (by omega) (by omega)
theorem Gr{l:Int}(hl:l=bT a):aZ .shr .i64 (aZ .sub .i64 (aU .i64 a) l) 12=(a - bT a) / 4096:=by
 subst hl;have hb: -2048≤bT a∧bT a<2048∧(a - bT a)%4096=0:=by unfold bT;split<;>omega
 rw[bp (n:=a) (by omega) (by omega)];show(aU .i64 (a - bT a)).fdiv 4096=_;rw[bp (by omega) (by omega)];exact Int.fdiv_eq_ediv_of_nonneg _ (by omega)
end
theorem KW:(aaG 48).Sound F0 P ba b0 R0:=by
 refine bX (fn:=Tryz.f48) (code:=VH) Tryz.func48 (by rfl) (by kernel_rfl) (by kernel_rfl) fun v hF hp=> ?_;refine⟨.ret,[(2,.sym .i64 (.ap 6 (D 0) (.lit 0) (.lit 0))),(3,.sym .i64 (.ap 7 (D 0) (.lit 0) (.lit 0)))],_,_,.inl rfl,?_,by rfl,rfl⟩;obtain⟨a0,hp'⟩:=aF hp;have ha0:0≤@Sx.eval v (D 0):=BG a0;have ha1:@Sx.eval v (D 0)<2147483648:=E6 (aF hp').1;have no:∀{E:bq},¬nF (@Sx.eval v (D 0))→E=[(.lit 0,.pr 30 (.ap 6 (D 0) (.lit 0) (.lit 0)) (.lit 0)),(.lit 0,.pr 30 (.ap 7 (D 0) (.lit 0) (.lit 0)) (.lit 0))]→EqsOk v v E:=fun h hE=>by obtain⟨g1,g2⟩:=Gp h;subst hE;exact aa (by rw[d6 hF,g1];rfl) (aa (by rw[d7 hF,g2];rfl) al)
 have yes:∀{x y:Sx},nF (@Sx.eval v (D 0))→@Sx.dat v x=.int ((@Sx.eval v (D 0) - bT (@Sx.eval v (D 0))) / 4096)→@Sx.dat v y=.int (bT (@Sx.eval v (D 0)))→EqsOk v v [(x,.pr 30 (.ap 6 (D 0) (.lit 0) (.lit 0)) (.lit 0)),(y,.pr 30 (.ap 7 (D 0) (.lit 0) (.lit 0)) (.lit 0))]:=fun h hx hy=>by obtain⟨g1,g2⟩:=Gn h;exact aa (by rw[d6 hF,g1];exact hx) (aa (by rw[d7 hF,g2];exact hy) al)
 refine t31 hF bO hp (fun h=>no ?_ rfl) (fun h=> ?_) (fun h=> ?_) (fun h=>no ?_ rfl) (fun h=>no ?_ rfl);{obtain⟨f0,h⟩:=aF h;obtain⟨f1,h⟩:=aF h;obtain⟨f2,h⟩:=aF h;have hg:@Sx.eval v (D 0)<1073741824:=E6 f2;unfold nF;omega};{obtain⟨f0,h⟩:=aF h;obtain⟨f1,h⟩:=aF h;obtain⟨f2,h⟩:=aF h;obtain⟨f3,h⟩:=aF h;obtain⟨f4,h⟩:=aF h;obtain⟨f5,h⟩:=aF h;have hg:1073741824≤@Sx.eval v (D 0):=BG f2;have g3:=(wF ha0 ha1 hg).symm.trans (eqT f3);have g4:=Int.lt_of_le_of_lt (Int.le_of_eq (Gq ha0 ha1 hg).symm) (E6 f4);have g5:=Int.lt_of_le_of_lt (Int.le_of_eq (rV ha0 ha1).symm) (E6 f5);have hl:@Sx.eval v (D 0)%4096=bT (@Sx.eval v (D 0)):=(by unfold bT;rw[if_pos g5]);exact yes ⟨hg,g3,g4⟩ (congrArg Dat.int (Gr ha0 ha1 ((rV ha0 ha1).trans hl))) (congrArg Dat.int ((rV ha0 ha1).trans hl))};{obtain⟨f0,h⟩:=aF h;obtain⟨f1,h⟩:=aF h;obtain⟨f2,h⟩:=aF h;obtain⟨f3,h⟩:=aF h;obtain⟨f4,h⟩:=aF h;obtain⟨f5,h⟩:=aF h;have hg:1073741824≤@Sx.eval v (D 0):=BG f2;have g3:=(wF ha0 ha1 hg).symm.trans (eqT f3);have g4:=Int.lt_of_le_of_lt (Int.le_of_eq (Gq ha0 ha1 hg).symm) (E6 f4);have g5:2048≤@Sx.eval v (D 0)%4096:=Int.le_trans (BG f5) (Int.le_of_eq (rV ha0 ha1));have hl:@Sx.eval v (D 0)%4096 - 4096=bT (@Sx.eval v (D 0)):=(by unfold bT;rw[if_neg (by omega)]);have hs:=(Rz ha0 ha1 (rV ha0 ha1)).trans hl;exact yes ⟨hg,g3,g4⟩ (congrArg Dat.int (Gr ha0 ha1 (hs))) (congrArg Dat.int hs)};{obtain⟨f0,h⟩:=aF h;obtain⟨f1,h⟩:=aF h;obtain⟨f2,h⟩:=aF h;obtain⟨f3,h⟩:=aF h;obtain⟨f4,h⟩:=aF h;have hg:1073741824≤@Sx.eval v (D 0):=BG f2;have g4:32768≤(@Sx.eval v (D 0) - 1073741824) / 16:=Int.le_trans (BG f4) (Int.le_of_eq (Gq ha0 ha1 hg));unfold nF;omega};obtain⟨f0,h⟩:=aF h;obtain⟨f1,h⟩:=aF h;obtain⟨f2,h⟩:=aF h;obtain⟨f3,h⟩:=aF h;have hg:1073741824≤@Sx.eval v (D 0):=BG f2;have g3:@Sx.eval v (D 0)%16≠0:=fun e=>eqF f3 ((wF ha0 ha1 hg).trans e);unfold nF;omega
end
end Go.Proofs.YtlagbijmfchkeaaGreat.Em
namespace Go.Proofs.YtlagbijmfchkeaaGreat.Em
open Go.Tw
noncomputable section
def c6:Code:=match Tryz.f15.body with
 |some c=>c
 |none=>.skip
def KT:List Con:=[dM [],aaH 47,aaG 48]
def pkT:Sx:=.pr 12 (D 0) (.pr 12 (D 1) (.pr 12 (D 2) (.pr 12 (D 3) (.pr 12 (D 4) (.pr 12 (D 5) (.pr 12 (D 6) (.pr 12 (D 7) (.pr 12 (D 8) sG))))))))
def r8:Sx:=.ap 8 pkT (.lit 0) (.lit 0)
def r9:Sx:=.ap 9 pkT (.lit 0) (.lit 0)
def r10:Sx:=.ap 10 pkT (.lit 0) (.lit 0)
def RB:List Sx:=[r10,N r8,r9,r10]
def AT(op n:AV):List (Nat×AV):=[(3,SI 8),(2,SI 7),(1,SI 6),(0,.agg [op,SI 1,SI 2,SI 3,n,LI (D 5)])]
def okD:List Nat→DT
 |[]=>.leaf
 |k::ks=>.ask (eq (.ap 5 (I k) (D 8) (I 0)) (I 0)) (okD ks) (.dead k)
def isOk:List Sx→Bool
 |_:: .lit (.ofNat 0)::_=>true
 |_=>false
def Xr(ks:List Nat)(cn:Nat):ST→DT
 | .leaf l=>bif isOk l then okD ks else .leaf
 | .ask b t e=>.ask b (Xr ks cn t) (Xr ks cn e)
 | .none=>.dead cn
def mw(k:Nat):aD:=[(lt (D 8) (I 0),false),(lt (D 8) (I 4096),true),(eq (.ap 5 (I k) (D 8) (I 0)) (I 0),false)]
def dF:List aD:=[mw 0,mw 1,mw 2,mw 3,mw 4,mw 5,mw 6,mw 7,[(lt (D 0) (I 0),false),(lt (D 0) (I 33),true)],[(lt (D 4) (I 1),false),(lt (D 4) (I 8),true)],[(lt (D 4) (I 1),false),(lt (D 4) (I 9),true)]]
def runT(c:Code)(nt:Nat)(op n:AV)(p:aD):XR:=exec P (bL ba b0 p (dZ R0 (dj p) KT)) 1000 nt c {tm:=ax (AT op n),ds:=[],md:=none,rd:=false} (ag b0 [] R0)
def chk(c:Code)(nt:Nat)(t1 t2:Nat)(op n:AV)(ks:List Nat)(cn:Nat)(sp:ST)(p:aD):Bool:=
 (Xr ks cn sp).chk (Vh 2 3) (fun p=>jk R0 0 0 (runT c nt op n p) .ret [(t1,LV 0 r10),(t2,.sym .i64 r8)] [(1024,LO r9 r10)] 1025) sp RB dF p
end
end Go.Proofs.YtlagbijmfchkeaaGreat.Em
namespace Go.Proofs.YtlagbijmfchkeaaGreat.Em
open Go.Tw
noncomputable section
def RT:List (Nat×AV):=[(8,LV 0 r10),(9,.sym .i64 r8)]
def OT:List (Nat×Ob):=[(1024,LO r9 r10)]
theorem RI:spT.eqAt 0 3=true:=by kernel_rfl
theorem ad7(a b c:Dat):F0 2 a b c=.lst (F0 2 a b c).toL:=rfl
theorem abj(a b c:Dat):F0 3 a b c=.lst (c.toL++(F0 2 a b (.int 0)).toL):=rfl
theorem ad6(a b c:Dat):(F0 2 a b c).toL.length≤8:=mg _ _
def Qs(b:Bx)(y:Bool):Bool:=match b with
 | .cmp .lss (.pr 7 x _) (.lit (.ofNat n))=>match mf 2 3 8 x with
  |some m=>Nat.blt m n&&y
  |none=>false
 | .cmp .lss (.ap 4 _ _ _) (.lit n)=>(iB n 0&& !y)||(iB n 2147483648&&y)
 |_=>false
def aO(q:Bx×Bool):Bool:=Qs q.1 q.2
theorem Pd(k b:Int):0≤mG k b∧mG k b<2147483648:=by unfold mG;split<;>omega
theorem Je{q:Nat→Prop}:∀{ks:List Nat},(∀k∈ks,q k)→(okD ks).deadsIn q
 |[],_=>trivial
 |k::ks,h=>⟨Je fun j hj=>h j (by simp [hj]),h k (by simp)⟩
theorem AO{q:Nat→Prop}{ks:List Nat}{cn:Nat}(hk:∀k∈ks,q k)(hc:q cn):∀{sp:ST},(Xr ks cn sp).deadsIn q
 | .leaf l=>by simp only[Xr];cases isOk l;{trivial};exact Je hk
 | .ask b t e=>⟨AO hk hc,AO hk hc⟩
 | .none=>hc
section
variable{v:Val}(hF:v.fn=F0)
include hF
theorem z4(k:Nat)(hk:k<8):¬@Holds v (mw k):=fun h=>by
 obtain⟨f0,h⟩:=aF h;obtain⟨f1,h⟩:=aF h;obtain⟨f2,h⟩:=aF h;have g0:¬@Sx.eval v (D 8)<0:=by have:=BG f0;exact Int.not_lt.2 this
 have g1:@Sx.eval v (D 8)<4096:=E6 f1;have g2:¬@Sx.eval v (.ap 5 (I k) (D 8) (I 0))=0:=eqF f2;refine g2 ?_;show(v.fn 5 _ _ _).toI=0;rw[hF];show pP (k:Int) (@Sx.eval v (D 8))=0;unfold pP;rw[if_pos (by omega)]
theorem Ft{q:Bx×Bool}(h:aO q=true):@Bx.eval v q.1=q.2:=by
 obtain⟨b,x⟩:=q;unfold aO Qs at h;dsimp only at h⊢;split at h;·rename_i X _ n;split at h;{rename_i m hm;have:=Fa (v:=v) (fa:=2) (fb:=3) (n:=8) (by rw[hF];exact abj) (by rw[hF];exact ad6) hm;simp only[ak]at h;have h1:=aL h.1;have hx:x=true:=h.2;subst hx;show decide (((@Sx.dat v X).toL.length:Int)<(Int.ofNat n))=true;refine decide_eq_true ?_;have:((@Sx.dat v X).toL.length:Int)<(n:Int):=(by omega);exact this};cases h
 ·rename_i a1 a2 a3 n;have hb:=Pd (@Sx.dat v a1).toI (@Sx.dat v a2).toI;have e:@Sx.eval v (.ap 4 a1 a2 a3)=mG (@Sx.dat v a1).toI (@Sx.dat v a2).toI:=by
   show(v.fn 4 _ _ _).toI=_;rw[hF];rfl
  simp only[dw,ak]at h;rcases h with⟨h1,h2⟩|⟨h1,h2⟩;{have:=im h1;subst this;have hx:x=false:=(by simpa using h2);subst hx;show decide (@Sx.eval v (.ap 4 a1 a2 a3)<0)=false;rw[e];exact decide_eq_false (by omega)};have:=im h1;subst this;have hx:x=true:=h2;subst hx;show decide (@Sx.eval v (.ap 4 a1 a2 a3)<2147483648)=true;rw[e];exact decide_eq_true (by omega)
 cases h
theorem AW(i:Nat):spT.val (VB [v.dat 0,v.dat 1,v.dat 2,v.dat 3,v.dat 4,v.dat 5,v.dat 6,v.dat 7,v.dat 8]) i=spT.val v i:=by
 refine ST.okB_val (nv:=9) (nf:=8) (fun j hj=> ?_) (fun f hf=> ?_) i RD
 ·match j,hj with
  |0,_=>rfl
  |1,_=>rfl
  |2,_=>rfl
  |3,_=>rfl
  |4,_=>rfl
  |5,_=>rfl
  |6,_=>rfl
  |7,_=>rfl
  |8,_=>rfl
 rw[hF];exact(LD hf).symm
theorem RA(i:Nat)(t:Sx)(h:RB[i]? =some t):@Sx.dat v t=spT.val v i:=by
 have e8:@Sx.dat v r8=spT.val v 1:=by show v.fn 8 _ _ _=_;rw[hF];exact AW hF 1
 have e9:@Sx.dat v r9=spT.val v 2:=by show v.fn 9 _ _ _=_;rw[hF];exact AW hF 2
 have e10:@Sx.dat v r10=spT.val v 0:=by show v.fn 10 _ _ _=_;rw[hF];exact AW hF 0
 match i,h with
 |0,h=>simp [RB]at h;subst h;exact e10
 |1,h=>simp [RB]at h;subst h;show Dat.int (@Sx.dat v r8).toI=_;rw[e8];exact(ST.intAt_ok MQ).symm
 |2,h=>simp [RB]at h;subst h;exact e9
 |3,h=>simp [RB]at h;subst h;exact e10.trans (ST.eqAt_ok RI)
 |i+4,h=>simp [RB]at h
theorem aR{p:aD}(h:p.all aO=true):@Holds v p:=fun c hc=>Ft hF (List.all_eq_true.1 h c hc)
theorem aq{c:Code}{nt:Nat}{op n:AV}{ks:List Nat}{cn:Nat}{sp:ST}{p:aD}(h:chk c nt 8 9 op n ks cn sp p=true)(hks:∀k∈ks,k<8)(hcn:∀c,dF[cn]? =some c→¬@Holds v c)(hp:@Holds v p)
 (hs:∀i,spT.val v i=sp.val v i):HR 0 0 nt v c (ax (AT op n)) (ag b0 [] R0) .ret v (ax RT) (ag b0 OT 1025):=by
 refine DT.ok2 (F:=F0) base0 (aw 0) hF (cons:=KT) ?_ follows (OF (fa:=2) (fb:=3) ?_ ?_) (fun i t ht=>(RA hF i t ht).trans (hs i)) (AO (fun k hk=> ?_) hcn) h hp;{intro c hc;simp only[KT,cP,dQ,or_false]at hc;rcases hc with rfl|rfl|rfl;{exact KV};{exact KX};exact KW};{rw[hF];exact ad7};{rw[hF];exact abj};intro c hc;have hk8:=hks k hk;have:c=mw k:=by
  match k,hk8 with
  |0,_=>simp [dF]at hc;exact hc.symm
  |1,_=>simp [dF]at hc;exact hc.symm
  |2,_=>simp [dF]at hc;exact hc.symm
  |3,_=>simp [dF]at hc;exact hc.symm
  |4,_=>simp [dF]at hc;exact hc.symm
  |5,_=>simp [dF]at hc;exact hc.symm
  |6,_=>simp [dF]at hc;exact hc.symm
  |7,_=>simp [dF]at hc;exact hc.symm
 subst this;exact z4 hF k hk8
end
end
end Go.Proofs.YtlagbijmfchkeaaGreat.Em
namespace Go.Proofs.YtlagbijmfchkeaaGreat.Em
open Go.Tw
noncomputable section
def rk(r:List Dat):Int:=match r with
 |d::_=>d.toI
 |[]=>0
def Lns(lo hi:Nat)(l:List (List Dat)):Prop:=(∀r∈l,rk r=0∨rk r=2)∧lo≤l.length∧l.length+l.countP (fun r=>rk r==2)≤hi
theorem Lns.app{a b c d:Nat}{l m:List (List Dat)}(h1:Lns a b l)(h2:Lns c d m):Lns (a+c) (b+d) (l++m):=by obtain⟨x1,x2,x3⟩:=h1;obtain⟨y1,y2,y3⟩:=h2;refine⟨fun r hr=>(List.mem_append.1 hr).elim (x1 r) (y1 r),?_,?_⟩;{rw[cZ];omega};rw[cZ,List.countP_append];omega
theorem Lns.weak{a b c d:Nat}{l:List (List Dat)}(h:Lns a b l)(h1:c≤a)(h2:b≤d):Lns c d l:=⟨h.1,Nat.le_trans h1 h.2.1,Nat.le_trans h.2.2 h2⟩
theorem JU(r e:Int):∀x∈layI r e,rk x=0:=by
 induction e using layI.induct with
 |case1 e h=>rw[kg h];intro x hx;rw[List.mem_singleton.1 hx];rfl
 |case2 e h h2=>rw[pg h h2];intro x hx;rcases List.mem_cons.1 hx with rfl|hx;{rfl};split at hx;{cases hx};rw[List.mem_singleton.1 hx];rfl
 |case3 e h h2 ih=>rw[jG h2];intro x hx;rcases List.mem_append.1 hx with hx|hx;{exact ih x hx};rcases List.mem_cons.1 hx with rfl|hx;{rfl};split at hx;{cases hx};rw[List.mem_singleton.1 hx];rfl
theorem NG(r e:Int):1≤(layI r e).length:=by by_cases h: -2048≤e∧e<2048;{rw[kg h];simp};by_cases h2: -2147483648≤e∧e<2147483648;{rw[pg h h2];simp};rw[jG h2];simp;omega
theorem DB(r e:Int):Lns 1 8 (layI r e):=by
 refine⟨fun x hx=>.inl (JU r e x hx),NG r e,?_⟩;have:(layI r e).countP (fun r=>rk r==2)=0:=List.countP_eq_zero.2 fun x hx=>by rw[JU r e x hx];decide
 rw[this];exact mg r e
def Cp:Sx→Option (Nat×Nat)
 | .pr f a b=>bif Nat.beq f 9 then(match Cp a,Cp b with
  |some (x,y),some (z,w)=>some (x+z,y+w)
  |_,_=>none)else bif Nat.beq f 12 then(match a with
  | .lit n=>bif iB n 0 then some (1,1)else bif iB n 2 then some (1,2)else none
  |_=>none)else bif Nat.beq f 13 then some (0,0)else none
 | .ap f _ _ c=>bif Nat.beq f 2 then some (1,8)else bif Nat.beq f 3 then(match Cp c with
  |some (x,y)=>some (x+1,y+8)
  |none=>none)else none
 |_=>none
theorem OD{v:Val}(hF:v.fn=Fb):∀{e:Sx} {x y:Nat},Cp e=some (x,y)→Lns x y (@Sx.dat v e).toL:=by
 intro e
 induction e with
 |pr f a b ih1 ih2=>intro x y h;simp only[Cp,au]at h;split at h;{rename_i hf;have:=ad hf;subst this;split at h;{rename_i x1 y1 z1 w1 hx hy;cases h;exact(ih1 hx).app (ih2 hy)};cases h};split at h;{rename_i hf;have:=ad hf;subst this;split at h;{rename_i n;split at h;{rename_i hn;have:=im hn;subst this;cases h;refine⟨fun r hr=> ?_,aw _,aw _⟩;have:r=_:=List.mem_singleton.1 hr;rw[this];exact .inl rfl};split at h;{rename_i hn;have:=im hn;subst this;cases h;refine⟨fun r hr=> ?_,aw _,aw _⟩;have:r=_:=List.mem_singleton.1 hr;rw[this];exact .inr rfl};cases h};cases h};split at h;{rename_i hf;have:=ad hf;subst this;cases h;exact⟨fun r hr=>(by cases hr),aw _,aw _⟩};cases h
 |ap f a b c _ _ ih3=>intro x y h;simp only[Cp,au]at h;split at h;{rename_i hf;have:=ad hf;subst this;cases h;show Lns 1 8 (v.fn 2 _ _ _).toL;rw[hF];exact DB _ _};split at h;{rename_i hf;have:=ad hf;subst this;split at h;{rename_i x1 y1 hc;cases h;show Lns _ _ (v.fn 3 _ _ _).toL;rw[hF];exact(ih3 hc).app (DB _ _)};cases h};cases h
 |_=>intro x y h;cases h
def wg(lo hi:Nat):ST→Bool
 | .leaf l=>match Cp (cu l 2)with
  |some (x,y)=>Nat.ble y hi&&(Nat.ble lo x||(match cu l 1 with
   | .lit n=> !iB n 0
   |_=>false))&&Nat.blt 2 l.length
  |none=>false
 | .ask _ t e=>wg lo hi t&&wg lo hi e
 | .none=>true
def vR(v:Val):ST→Bool
 | .leaf _=>false
 | .ask b t e=>bif @Bx.eval v b then vR v t else vR v e
 | .none=>true
def SE:ST→Bool
 | .leaf _=>true
 | .ask _ t e=>SE t&&SE e
 | .none=>false
theorem ic{v:Val}:∀{sp:ST},SE sp=true→vR v sp=false
 | .leaf _,_=>rfl
 | .ask b t e,h=>by simp only[SE,ak]at h;simp only[vR];cases @Bx.eval v b;{exact ic h.2};exact ic h.1
 | .none,h=>by cases h
theorem xQ{v:Val}{e:Sx}{o:ST}:∀{l:List (Int×ST)},(∀q∈l,vR v q.2=false)→((∀q∈l,@Sx.eval v e≠q.1)→vR v o=false)→vR v (rj e l o)=false
 |[],_,h=>h fun _ hq=>by cases hq
 |(n,s)::l,h1,h2=>by
  simp only[rj,vR];cases hb:@Bx.eval v (eq e (I n))with
  |true=>exact h1 (n,s) (by simp)
  |false=>refine xQ (fun q hq=>h1 q (by simp [hq])) fun hn=>h2 fun q hq=> ?_;rcases List.mem_cons.1 hq with rfl|hq;{have h3:(@Sx.eval v e==n)=false:=hb;simpa using h3};exact hn q hq
theorem Bt{v:Val}{e:Sx}{a b:Nat}{l:List (Int×ST)}(hl:l.map (·.1)=((List.range (b - a)).map fun i=>((a+i:Nat):Int)))(h:∀q∈l,@Sx.eval v e≠q.1):@Sx.eval v e<a∨b≤@Sx.eval v e:=by
 apply Classical.byContradiction;intro hn;have hin:@Sx.eval v e∈l.map (·.1):=by rw[hl];refine List.mem_map.2 ⟨(@Sx.eval v e).toNat - a,List.mem_range.2 (by omega),by omega⟩
 obtain⟨q,hq,he⟩:=List.mem_map.1 hin;exact h q hq he.symm
theorem JK{v:Val}{e:Sx}{n:Int}{t o:ST}(h:vR v t=false)(h2:n≤@Sx.eval v e→vR v o=false):vR v (.ask (lt e (I n)) t o)=false:=by
 simp only[vR];cases hb:@Bx.eval v (lt e (I n))with
 |true=>exact h
 |false=>refine h2 ?_;have:¬@Sx.eval v e<n:=of_decide_eq_false hb;omega
theorem BF{v:Val}{e:Sx}{n:Int}{t o:ST}(h:n≤@Sx.eval v e)(h2:vR v o=false):vR v (.ask (lt e (I n)) t o)=false:=by simp only[vR];have:@Bx.eval v (lt e (I n))=false:=decide_eq_false (by show ¬@Sx.eval v e<n;omega);rw[this];exact h2
theorem MU{v:Val}:vR v sp21=false:=
 xQ (fun q hq=>ic (List.all_eq_true.1 (show L21.all (fun q=>SE q.2)=true by kernel_rfl) q hq)) fun h=>JK (ic (by kernel_rfl)) fun h1=>
  BF (by have:=Bt (a:=1) (b:=8) (by rfl) h;omega) (ic (by kernel_rfl))
theorem MT{v:Val}:vR v sp22=false:=
 xQ (fun q hq=>ic (List.all_eq_true.1 (show L22.all (fun q=>SE q.2)=true by kernel_rfl) q hq)) fun h=>JK (ic (by kernel_rfl)) fun h1=>
  BF (by have:=Bt (a:=1) (b:=9) (by rfl) h;omega) (ic (by kernel_rfl))
theorem RH{v:Val}:vR v spT=false:=
 xQ (fun q hq=>by
  have:=List.all_eq_true.1 (show LOp.all (fun q=>SE q.2||(iB q.1 21||iB q.1 22))=true by kernel_rfl) q hq;simp only[dw]at this;rcases this with h|h|h;·exact ic h
  ·have h:=im h;have:q.2=sp21:=by
    simp only[LOp,cP,dQ,or_false]at hq;rcases hq with rfl|rfl|rfl|rfl|rfl|rfl|rfl|rfl|rfl|rfl|rfl|rfl|rfl|rfl|rfl|rfl|rfl|rfl|rfl|rfl|rfl|rfl|rfl|rfl|rfl|rfl|rfl|rfl|rfl|rfl|rfl|rfl|rfl<;>first|rfl|(exfalso;revert h;decide)
   rw[this];exact MU
  have h:=im h;have:q.2=sp22:=by simp only[LOp,cP,dQ,or_false]at hq;rcases hq with rfl|rfl|rfl|rfl|rfl|rfl|rfl|rfl|rfl|rfl|rfl|rfl|rfl|rfl|rfl|rfl|rfl|rfl|rfl|rfl|rfl|rfl|rfl|rfl|rfl|rfl|rfl|rfl|rfl|rfl|rfl|rfl|rfl<;>first|rfl|(exfalso;revert h;decide)
  rw[this];exact MT) fun h=>JK (ic (by kernel_rfl)) fun h1=>BF (by have:=Bt (a:=0) (b:=33) (by rfl) h;omega) (ic (by kernel_rfl))
theorem tT{v:Val}(hF:v.fn=Fb){lo hi:Nat}:∀{sp:ST},wg lo hi sp=true→vR v sp=false→Lns 0 hi (sp.val v 2).toL∧((sp.val v 1).toI=0→Lns lo hi (sp.val v 2).toL)
 | .leaf l,h,_=>by
  simp only[wg]at h;split at h
  ·rename_i x y hc;simp only[ak,dw]at h;obtain⟨⟨h1,h2⟩,h3⟩:=h;have h1:=aA h1;have h3:=aL h3;have hv:=OD hF hc;rw[bV,bh h3]at hv;simp only[ST.val,bh h3];refine⟨hv.weak (aP _) h1,fun h0=> ?_⟩;rcases h2 with h2|h2;{exact hv.weak (aA h2) h1};exfalso;have h4:1<l.length:=(by omega);rw[bV,bh h4]at h2;rw[bh h4]at h0;generalize l[1]=e at h2 h0;cases e with
   |lit n=>have h0:n=0:=h0;subst h0;cases h2
   |_=>cases h2
  cases h
 | .ask b t e,h,hn=>by simp only[wg,ak]at h;simp only[vR]at hn;simp only[ST.val];cases hb:@Bx.eval v b;{rw[hb]at hn;exact tT hF h.2 hn};rw[hb]at hn;exact tT hF h.1 hn
 | .none,_,hn=>by cases hn
theorem MR:wg 4 24 spT=true:=by kernel_rfl
theorem tmpl_lns(a:Dat):Lns 0 24 (uR a 2).toL∧((uR a 1).toI=0→Lns 4 24 (uR a 2).toL):=@tT (VB a.one) rfl 4 24 spT MR (@RH (VB a.one))
end
end Go.Proofs.YtlagbijmfchkeaaGreat.Em
