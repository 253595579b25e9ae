/-
  A part of the law's proof over the abstract evaluator. Conditions: those of each theorem, as it states them.
-/
import Derived.Test.YtlagbijmfchkeaaGreatA7
import Derived.Test.YtlagbijmfchkeaaGreatProg
set_option linter.all false
namespace Go.Proofs.YtlagbijmfchkeaaGreat.Aw
open Go.Tw Go.ChangeShapes Go.RowKit
noncomputable section
instance:Val:=Za
def c0:List Memo:=[]
theorem Aq:∀m∈c0,m.Sound Tryz.prog 0 Cfg.none:=Er
def a0:List AV:=[.agg [.int .i64 0,.int .i64 0,.int .i64 0,.int .i64 0,.int .i64 0,.nils]]
def m0:Memo:=⟨31,a0,.tup [.slc 18 0 0 1 (some 1) 1,.int .i64 0],[(18,.box [.int .u8 0] 5)],22⟩
set_option maxRecDepth 1000000 in
theorem Zl:m0.ok Tryz.prog {Cfg.none with hk:=bP 0 (ew c0)} 100000 0 (St.empty 0)=true:=by kernel_rfl
theorem Jw:m0.Sound Tryz.prog 0 Cfg.none:=bA Aq (by kernel_rfl) Zl
def c1:List Memo:=m0::c0
theorem Ap:∀m∈c1,m.Sound Tryz.prog 0 Cfg.none:=bD Jw Aq
def a1:List AV:=[.agg [.int .i64 32,.int .i64 0,.int .i64 0,.int .i64 0,.int .i64 0,.nils]]
def m1:Memo:=⟨31,a1,.tup [.slc 30 0 0 2 none 1,.int .i64 0],[(30,.arr [.int .u8 32,.int .u8 0] 0 2 1 1 5)],31⟩
set_option maxRecDepth 1000000 in
theorem Zk:m1.ok Tryz.prog {Cfg.none with hk:=bP 0 (ew c1)} 100000 0 (St.empty 0)=true:=by kernel_rfl
theorem Jv:m1.Sound Tryz.prog 0 Cfg.none:=bA Ap (by kernel_rfl) Zk
def c2:List Memo:=m1::c1
theorem Ao:∀m∈c2,m.Sound Tryz.prog 0 Cfg.none:=bD Jv Ap
def a2:List AV:=[.agg [.int .i64 0,.int .i64 0,.int .i64 0,.int .i64 0,.int .i64 0,.nils],.int .i64 1,.int .i64 0,.int .i64 0]
def m2:Memo:=⟨15,a2,.tup [.slc 18 3 0 4 none 7,.int .i64 0],[(18,.arr [.int .i64 0,.int .i64 0,.int .i64 6,.int .i64 0,.int .i64 18,.int .i64 0,.int .i64 12,.int .i64 0,.int .i64 0,.int .i64 1,.int .i64 5,.int .i64 0,.int .i64 0,.int .i64 262144,.int .i64 0,.int .i64 0,.int .i64 4,.int .i64 0,.int .i64 5,.int .i64 0,.int .i64 0,.int .i64 0,.int .i64 0,.int .i64 22,.int .i64 18,.int .i64 18,.int .i64 0,.int .i64 (-1)] 0 7 1 4 51)],26⟩
set_option maxRecDepth 1000000 in
theorem Zj:m2.ok Tryz.prog {Cfg.none with hk:=bP 0 (ew c2)} 100000 0 (St.empty 0)=true:=by kernel_rfl
theorem Ju:m2.Sound Tryz.prog 0 Cfg.none:=bA Ao (by kernel_rfl) Zj
def c3:List Memo:=m2::c2
theorem An:∀m∈c3,m.Sound Tryz.prog 0 Cfg.none:=bD Ju Ao
def a3:List AV:=[.agg [.int .i64 32,.int .i64 0,.int .i64 0,.int .i64 0,.int .i64 0,.nils],.int .i64 1,.int .i64 0,.int .i64 1]
def m3:Memo:=⟨15,a3,.tup [.slc 23 5 0 6 none 7,.int .i64 0],[(23,.arr [.int .i64 0,.int .i64 0,.int .i64 6,.int .i64 0,.int .i64 18,.int .i64 0,.int .i64 12,.int .i64 0,.int .i64 0,.int .i64 1,.int .i64 5,.int .i64 0,.int .i64 0,.int .i64 262144,.int .i64 0,.int .i64 0,.int .i64 4,.int .i64 0,.int .i64 5,.int .i64 0,.int .i64 128,.int .i64 0,.int .i64 0,.int .i64 22,.int .i64 18,.int .i64 18,.int .i64 0,.int .i64 (-1),.int .i64 0,.int .i64 0,.int .i64 1,.int .i64 5,.int .i64 0,.int .i64 0,.int .i64 262144,.int .i64 0,.int .i64 0,.int .i64 4,.int .i64 0,.int .i64 5,.int .i64 0,.int .i64 240] 0 7 1 6 51)],34⟩
set_option maxRecDepth 1000000 in
theorem Zi:m3.ok Tryz.prog {Cfg.none with hk:=bP 0 (ew c3)} 100000 0 (St.empty 0)=true:=by kernel_rfl
theorem Jt:m3.Sound Tryz.prog 0 Cfg.none:=bA An (by kernel_rfl) Zi
def c4:List Memo:=m3::c3
theorem Am:∀m∈c4,m.Sound Tryz.prog 0 Cfg.none:=bD Jt An
def a4:List AV:=[.agg [.int .i64 6,.int .i64 0,.int .i64 18,.int .i64 0,.int .i64 12]]
def m4:Memo:=⟨35,a4,.int .i64 0,[],21⟩
set_option maxRecDepth 1000000 in
theorem Zh:m4.ok Tryz.prog {Cfg.none with hk:=bP 0 (ew c4)} 100000 0 (St.empty 0)=true:=by kernel_rfl
theorem Js:m4.Sound Tryz.prog 0 Cfg.none:=bA Am (by kernel_rfl) Zh
def c5:List Memo:=m4::c4
theorem Al:∀m∈c5,m.Sound Tryz.prog 0 Cfg.none:=bD Js Am
def a5:List AV:=[.agg [.int .i64 1,.int .i64 5,.int .i64 0,.int .i64 0,.int .i64 262144]]
def m5:Memo:=⟨35,a5,.int .i64 0,[],20⟩
set_option maxRecDepth 1000000 in
theorem Zg:m5.ok Tryz.prog {Cfg.none with hk:=bP 0 (ew c5)} 100000 0 (St.empty 0)=true:=by kernel_rfl
theorem Jr:m5.Sound Tryz.prog 0 Cfg.none:=bA Al (by kernel_rfl) Zg
def c6:List Memo:=m5::c5
theorem Ak:∀m∈c6,m.Sound Tryz.prog 0 Cfg.none:=bD Jr Al
def a6:List AV:=[.int .i64 4]
def m6:Memo:=⟨36,a6,.tup [.agg [aJ [106,97,108,114],aJ [73],.int .u32 103,.int .u32 0,.int .u32 0],.bool true],[],3⟩
set_option maxRecDepth 1000000 in
theorem Zf:m6.ok Tryz.prog {Cfg.none with hk:=bP 0 (ew c6)} 100000 0 (St.empty 0)=true:=by kernel_rfl
theorem Jq:m6.Sound Tryz.prog 0 Cfg.none:=bA Ak (by kernel_rfl) Zf
def c7:List Memo:=m6::c6
theorem Aj:∀m∈c7,m.Sound Tryz.prog 0 Cfg.none:=bD Jq Ak
def a7:List AV:=[.agg [.int .i64 0,.int .i64 0,.int .i64 4,.int .i64 0,.int .i64 5,.int .i64 0,.int .i64 0]]
def m7:Memo:=⟨32,a7,.bool true,[],22⟩
set_option maxRecDepth 1000000 in
theorem Ze:m7.ok Tryz.prog {Cfg.none with hk:=bP 0 (ew c7)} 100000 0 (St.empty 0)=true:=by kernel_rfl
theorem Jp:m7.Sound Tryz.prog 0 Cfg.none:=bA Aj (by kernel_rfl) Ze
def c8:List Memo:=m7::c7
theorem Ai:∀m∈c8,m.Sound Tryz.prog 0 Cfg.none:=bD Jp Aj
def a8:List AV:=[.agg [.int .i64 22,.int .i64 18,.int .i64 18,.int .i64 0,.int .i64 (-1)]]
def m8:Memo:=⟨35,a8,.int .i64 0,[],21⟩
set_option maxRecDepth 1000000 in
theorem Zd:m8.ok Tryz.prog {Cfg.none with hk:=bP 0 (ew c8)} 100000 0 (St.empty 0)=true:=by kernel_rfl
theorem Jo:m8.Sound Tryz.prog 0 Cfg.none:=bA Ai (by kernel_rfl) Zd
def c9:List Memo:=m8::c8
theorem Ah:∀m∈c9,m.Sound Tryz.prog 0 Cfg.none:=bD Jo Ai
def a9:List AV:=[.agg [.int .i64 0,.int .i64 0,.int .i64 4,.int .i64 0,.int .i64 5,.int .i64 0,.int .i64 128]]
def m9:Memo:=⟨32,a9,.bool true,[],22⟩
set_option maxRecDepth 1000000 in
theorem Zc:m9.ok Tryz.prog {Cfg.none with hk:=bP 0 (ew c9)} 100000 0 (St.empty 0)=true:=by kernel_rfl
theorem Jn:m9.Sound Tryz.prog 0 Cfg.none:=bA Ah (by kernel_rfl) Zc
def c10:List Memo:=m9::c9
theorem wv:∀m∈c10,m.Sound Tryz.prog 0 Cfg.none:=bD Jn Ah
def a10:List AV:=[.agg [.int .i64 0,.int .i64 0,.int .i64 4,.int .i64 0,.int .i64 5,.int .i64 0,.int .i64 240]]
def m10:Memo:=⟨32,a10,.bool true,[],22⟩
set_option maxRecDepth 1000000 in
theorem SP:m10.ok Tryz.prog {Cfg.none with hk:=bP 0 (ew c10)} 100000 0 (St.empty 0)=true:=by kernel_rfl
theorem E3:m10.Sound Tryz.prog 0 Cfg.none:=bA wv (by kernel_rfl) SP
def c11:List Memo:=m10::c10
theorem wu:∀m∈c11,m.Sound Tryz.prog 0 Cfg.none:=bD E3 wv
def a11:List AV:=[.agg [.int .i64 6,.int .i64 0,.int .i64 18,.int .i64 0,.int .i64 12]]
def m11:Memo:=⟨21,a11,.tup [.int .u32 595555,.int .i64 0],[],48⟩
set_option maxRecDepth 1000000 in
theorem SO:m11.ok Tryz.prog {Cfg.none with hk:=bP 0 (ew c11)} 100000 0 (St.empty 0)=true:=by kernel_rfl
theorem E2:m11.Sound Tryz.prog 0 Cfg.none:=bA wu (by kernel_rfl) SO
def c12:List Memo:=m11::c11
theorem wq:∀m∈c12,m.Sound Tryz.prog 0 Cfg.none:=bD E2 wu
def a12:List AV:=[.agg [.int .i64 1,.int .i64 5,.int .i64 0,.int .i64 0,.int .i64 262144]]
def m12:Memo:=⟨21,a12,.tup [.int .u32 1073742519,.int .i64 0],[],42⟩
set_option maxRecDepth 1000000 in
theorem SN:m12.ok Tryz.prog {Cfg.none with hk:=bP 0 (ew c12)} 100000 0 (St.empty 0)=true:=by kernel_rfl
theorem E1:m12.Sound Tryz.prog 0 Cfg.none:=bA wq (by kernel_rfl) SN
def c13:List Memo:=m12::c12
theorem wo:∀m∈c13,m.Sound Tryz.prog 0 Cfg.none:=bD E1 wq
def a13:List AV:=[.agg [.int .i64 4,.int .i64 0,.int .i64 5,.int .i64 0,.int .i64 0]]
def m13:Memo:=⟨21,a13,.tup [.int .u32 163943,.int .i64 0],[],45⟩
set_option maxRecDepth 1000000 in
theorem SM:m13.ok Tryz.prog {Cfg.none with hk:=bP 0 (ew c13)} 100000 0 (St.empty 0)=true:=by kernel_rfl
theorem E0:m13.Sound Tryz.prog 0 Cfg.none:=bA wo (by kernel_rfl) SM
def c14:List Memo:=m13::c13
theorem wm:∀m∈c14,m.Sound Tryz.prog 0 Cfg.none:=bD E0 wo
def a14:List AV:=[.agg [.int .i64 22,.int .i64 18,.int .i64 18,.int .i64 0,.int .i64 (-1)]]
def m14:Memo:=⟨21,a14,.tup [.int .u32 4294510867,.int .i64 0],[],45⟩
set_option maxRecDepth 1000000 in
theorem SL:m14.ok Tryz.prog {Cfg.none with hk:=bP 0 (ew c14)} 100000 0 (St.empty 0)=true:=by kernel_rfl
theorem EZ:m14.Sound Tryz.prog 0 Cfg.none:=bA wm (by kernel_rfl) SL
def c15:List Memo:=m14::c14
theorem wk:∀m∈c15,m.Sound Tryz.prog 0 Cfg.none:=bD EZ wm
def a15:List AV:=[.agg [.int .i64 4,.int .i64 0,.int .i64 5,.int .i64 0,.int .i64 128]]
def m15:Memo:=⟨21,a15,.tup [.int .u32 134381671,.int .i64 0],[],45⟩
set_option maxRecDepth 1000000 in
theorem SK:m15.ok Tryz.prog {Cfg.none with hk:=bP 0 (ew c15)} 100000 0 (St.empty 0)=true:=by kernel_rfl
theorem EY:m15.Sound Tryz.prog 0 Cfg.none:=bA wk (by kernel_rfl) SK
def c16:List Memo:=m15::c15
theorem wj:∀m∈c16,m.Sound Tryz.prog 0 Cfg.none:=bD EY wk
def a16:List AV:=[.agg [.int .i64 4,.int .i64 0,.int .i64 5,.int .i64 0,.int .i64 240]]
def m16:Memo:=⟨21,a16,.tup [.int .u32 251822183,.int .i64 0],[],45⟩
set_option maxRecDepth 1000000 in
theorem SJ:m16.ok Tryz.prog {Cfg.none with hk:=bP 0 (ew c16)} 100000 0 (St.empty 0)=true:=by kernel_rfl
theorem EX:m16.Sound Tryz.prog 0 Cfg.none:=bA wj (by kernel_rfl) SJ
def c17:List Memo:=m16::c16
theorem FR:∀m∈c17,m.Sound Tryz.prog 0 Cfg.none:=bD EX wj
def a17:List AV:=[]
def m17:Memo:=⟨4,a17,.bool true,[],1611⟩
set_option maxRecDepth 1000000 in
theorem SH:m17.ok Tryz.prog {Cfg.none with hk:=bP 0 (ew c17)} 100000 0 (St.empty 0)=true:=by kernel_rfl
theorem EW:m17.Sound Tryz.prog 0 Cfg.none:=bA FR (by kernel_rfl) SH
theorem awake_calls(W:Go.World):Go.Calls Tryz.prog 4 #[] W fun e W'=>e=.returned (.bool true)∧Below W.heap.size W W':=BC EW rfl rfl rfl W
end
end Go.Proofs.YtlagbijmfchkeaaGreat.Aw
