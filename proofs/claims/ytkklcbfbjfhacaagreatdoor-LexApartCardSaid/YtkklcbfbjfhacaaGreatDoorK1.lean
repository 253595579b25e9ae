/-
  A part of the law's proof over the abstract evaluator. Conditions: those of each theorem, as it states them.
-/
import Derived.Test.YtkklcbfbjfhacaaGreatDoorS1
import Derived.Test.YtkklcbfbjfhacaaGreatDoorB1
set_option linter.all false
set_option linter.all false
namespace Go.Proofs.YtkklcbfbjfhacaaGreatDoor
open Go.Tw Go.Tw.LX
def kc0:List Memo:=[]
theorem kc0_sound[Val]:∀m∈kc0,m.Sound P R0 (bY tabs):=vM
def a0:List AV:=[]
def m0:Memo:=⟨22,a0,.slc 1024 0 0 21 (some 21) 1,[(1024,.box [aQ [105,110,116],aQ [99,104,97,114],aQ [115,104,111,114,116],aQ [108,111,110,103],aQ [117,110,115,105,103,110,101,100],aQ [115,105,103,110,101,100],aQ [118,111,105,100],aQ [115,116,114,117,99,116],aQ [105,102],aQ [101,108,115,101],aQ [119,104,105,108,101],aQ [102,111,114],aQ [100,111],aQ [114,101,116,117,114,110],aQ [98,114,101,97,107],aQ [99,111,110,116,105,110,117,101],aQ [115,105,122,101,111,102],aQ [103,111,116,111],aQ [115,119,105,116,99,104],aQ [99,97,115,101],aQ [100,101,102,97,117,108,116]] 9)],1025⟩
set_option maxRecDepth 1000000 in
theorem m0_ok:m0.ok P {bY tabs with hk:=cH R0 (gR kc0)} 100000 R0 (eg R0 tabs)=true:=by kernel_rfl
theorem m0_sound[Val]:m0.Sound P R0 (bY tabs):=gW kc0_sound follows tabs_lt m0_ok
def kc1:List Memo:=m0::kc0
theorem kc1_sound[Val]:∀m∈kc1,m.Sound P R0 (bY tabs):=ga m0_sound kc0_sound
def a1:List AV:=[]
def m1:Memo:=⟨19,a1,.slc 1024 0 0 45 (some 45) 1,[(1024,.box [aQ [60,60,61],aQ [62,62,61],aQ [45,62],aQ [43,43],aQ [45,45],aQ [60,61],aQ [62,61],aQ [61,61],aQ [33,61],aQ [38,38],aQ [124,124],aQ [60,60],aQ [62,62],aQ [43,61],aQ [45,61],aQ [42,61],aQ [47,61],aQ [37,61],aQ [38,61],aQ [124,61],aQ [94,61],aQ [40],aQ [41],aQ [123],aQ [125],aQ [91],aQ [93],aQ [59],aQ [44],aQ [46],aQ [45],aQ [43],aQ [42],aQ [47],aQ [37],aQ [38],aQ [124],aQ [94],aQ [126],aQ [33],aQ [60],aQ [62],aQ [61],aQ [63],aQ [58]] 9)],1025⟩
set_option maxRecDepth 1000000 in
theorem m1_ok:m1.ok P {bY tabs with hk:=cH R0 (gR kc1)} 100000 R0 (eg R0 tabs)=true:=by kernel_rfl
theorem m1_sound[Val]:m1.Sound P R0 (bY tabs):=gW kc1_sound follows tabs_lt m1_ok
def kc2:List Memo:=m1::kc1
theorem kc2_sound[Val]:∀m∈kc2,m.Sound P R0 (bY tabs):=ga m1_sound kc1_sound
def a2:List AV:=[aQ [97,43,43,43,98,32,47,47,32,99]]
def m2:Memo:=⟨5,a2,.tup [.slc 1031 3 0 4 none 6,.agg [.int .i64 0,.int .i64 0]],[(1031,.arr [.int .i64 1,.int .i64 0,.int .i64 1,aQ [97],.int .i64 0,.nils,.int .i64 6,.int .i64 1,.int .i64 2,aQ [43,43],.int .i64 0,.nils,.int .i64 6,.int .i64 3,.int .i64 1,aQ [43],.int .i64 0,.nils,.int .i64 1,.int .i64 4,.int .i64 1,aQ [98],.int .i64 0,.nils] 0 6 1 4 31)],1045⟩
set_option maxRecDepth 1000000 in
theorem m2_ok:m2.ok P {bY tabs with hk:=cH R0 (gR kc2)} 100000 R0 (eg R0 tabs)=true:=by kernel_rfl
theorem m2_sound[Val]:m2.Sound P R0 (bY tabs):=gW kc2_sound follows tabs_lt m2_ok
def kc3:List Memo:=m2::kc2
theorem kc3_sound[Val]:∀m∈kc3,m.Sound P R0 (bY tabs):=ga m2_sound kc2_sound
def a3:List AV:=[aQ [49,56,52,52,54,55,52,52,48,55,51,55,48,57,53,53,49,54,49,54],.int .i64 5,.int .i64 0]
def m3:Memo:=⟨9,a3,.bool true,[],1037⟩
set_option maxRecDepth 1000000 in
theorem m3_ok:m3.ok P {bY tabs with hk:=cH R0 (gR kc3)} 100000 R0 (eg R0 tabs)=true:=by kernel_rfl
theorem m3_sound[Val]:m3.Sound P R0 (bY tabs):=gW kc3_sound follows tabs_lt m3_ok
def kc4:List Memo:=m3::kc3
theorem kc4_sound[Val]:∀m∈kc4,m.Sound P R0 (bY tabs):=ga m3_sound kc3_sound
def a4:List AV:=[]
def m4:Memo:=⟨11,a4,.bool true,[],1080⟩
set_option maxRecDepth 1000000 in
theorem m4_ok:m4.ok P {bY tabs with hk:=cH R0 (gR kc4)} 100000 R0 (eg R0 tabs)=true:=by kernel_rfl
theorem m4_sound[Val]:m4.Sound P R0 (bY tabs):=gW kc4_sound follows tabs_lt m4_ok
def kc5:List Memo:=m4::kc4
theorem kc5_sound[Val]:∀m∈kc5,m.Sound P R0 (bY tabs):=ga m4_sound kc4_sound
def a5:List AV:=[]
def m5:Memo:=⟨4,a5,.bool true,[],1215⟩
set_option maxRecDepth 1000000 in
theorem m5_ok:m5.ok P {bY tabs with hk:=cH R0 (gR kc5)} 100000 R0 (eg R0 tabs)=true:=by kernel_rfl
theorem m5_sound[Val]:m5.Sound P R0 (bY tabs):=gW kc5_sound follows tabs_lt m5_ok
def conKnown:Con:={f:=4,args:=[],pre:=[],res:=.bool true,objs:=[]}
theorem conKnown_ok:conKnown.Sound F0 P gl0 b0 R0:=yL (m:=m5) (fun v=>@m5_sound v) tabs_lt (by rfl) rfl rfl rfl
end Go.Proofs.YtkklcbfbjfhacaaGreatDoor
