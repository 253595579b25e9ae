/-
  A part of the law's proof over the abstract evaluator. Conditions: those of each theorem, as it states them.
-/
import Derived.Test.YtbfonficacphkaaGreatDoorS1
import Derived.Test.YtbfonficacphkaaGreatDoorB1
set_option linter.all false
set_option linter.all false
namespace Go.Proofs.YtbfonficacphkaaGreatDoor
open Go.Tw Go.Tw.LX
def W9:List Memo:=[]
theorem vG[Val]:∀m∈W9,m.Sound P R0 (fH iO):=E6
def a0:List AV:=[]
def m0:Memo:=⟨43,a0,.slc 1024 0 0 21 (some 21) 1,[(1024,.box [bp [105,110,116],bp [99,104,97,114],bp [115,104,111,114,116],bp [108,111,110,103],bp [117,110,115,105,103,110,101,100],bp [115,105,103,110,101,100],bp [118,111,105,100],bp [115,116,114,117,99,116],bp [105,102],bp [101,108,115,101],bp [119,104,105,108,101],bp [102,111,114],bp [100,111],bp [114,101,116,117,114,110],bp [98,114,101,97,107],bp [99,111,110,116,105,110,117,101],bp [115,105,122,101,111,102],bp [103,111,116,111],bp [115,119,105,116,99,104],bp [99,97,115,101],bp [100,101,102,97,117,108,116]] 9)],1025⟩
set_option maxRecDepth 1000000 in
theorem UO:m0.ok P {fH iO with hk:=ei R0 (kN W9)} 100000 R0 (gD R0 iO)=true:=by kernel_rfl
theorem Jt[Val]:m0.Sound P R0 (fH iO):=s6 vG follows lL UO
def W8:List Memo:=m0::W9
theorem vF[Val]:∀m∈W8,m.Sound P R0 (fH iO):=rV Jt vG
def a1:List AV:=[]
def m1:Memo:=⟨49,a1,.slc 1024 0 0 45 (some 45) 1,[(1024,.box [bp [60,60,61],bp [62,62,61],bp [45,62],bp [43,43],bp [45,45],bp [60,61],bp [62,61],bp [61,61],bp [33,61],bp [38,38],bp [124,124],bp [60,60],bp [62,62],bp [43,61],bp [45,61],bp [42,61],bp [47,61],bp [37,61],bp [38,61],bp [124,61],bp [94,61],bp [40],bp [41],bp [123],bp [125],bp [91],bp [93],bp [59],bp [44],bp [46],bp [45],bp [43],bp [42],bp [47],bp [37],bp [38],bp [124],bp [94],bp [126],bp [33],bp [60],bp [62],bp [61],bp [63],bp [58]] 9)],1025⟩
set_option maxRecDepth 1000000 in
theorem UN:m1.ok P {fH iO with hk:=ei R0 (kN W8)} 100000 R0 (gD R0 iO)=true:=by kernel_rfl
theorem Js[Val]:m1.Sound P R0 (fH iO):=s6 vF follows lL UN
def X4:List Memo:=m1::W8
theorem FT[Val]:∀m∈X4,m.Sound P R0 (fH iO):=rV Js vF
def a2:List AV:=[]
def m2:Memo:=⟨4,a2,.bool true,[],1080⟩
set_option maxRecDepth 1000000 in
theorem UM:m2.ok P {fH iO with hk:=ei R0 (kN X4)} 100000 R0 (gD R0 iO)=true:=by kernel_rfl
theorem Jr[Val]:m2.Sound P R0 (fH iO):=s6 FT follows lL UM
def conAwake:Con:={f:=4,args:=[],pre:=[],res:=.bool true,objs:=[]}
theorem AH:conAwake.Sound F0 P bh b0 R0:=KF (m:=m2) (fun v=>@Jr v) lL (by rfl) rfl rfl rfl
end Go.Proofs.YtbfonficacphkaaGreatDoor
