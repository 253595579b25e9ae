/-
  Calls whose outcome is known, each shown by the evaluator with the earlier ones and the tables at hand; part 0. No condition.
-/
import Derived.Test.YtelhnjgcijjngaaGreatDoorTabs
set_option linter.all false
namespace Go.Proofs.YtelhnjgcijjngaaGreatDoor
open Go.Tw
def c0 : List Memo := []
theorem c0_sound [Val] : ∀ m ∈ c0, m.Sound Tryz.prog 12 (tabK tabs []) := sound_nil

def a0 : List AV := [.int .u8 105]
def m0 : Memo := ⟨136, a0, .bool true, [], 12⟩
set_option maxRecDepth 1000000 in
theorem m0_ok : m0.ok Tryz.prog { tabK tabs [] with hk := hkH 12 (hpH (decP []) 39) (tabM c0) } 100000 12 (tabSt 12 tabs) = true := by kernel_rfl
theorem m0_sound [Val] : m0.Sound Tryz.prog 12 (tabK tabs []) := tabH_memo (hpH_ok head) c0_sound folm tabs_lt m0_ok
def c1 : List Memo := m0 :: c0
theorem c1_sound [Val] : ∀ m ∈ c1, m.Sound Tryz.prog 12 (tabK tabs []) := sound_cons m0_sound c0_sound

def a1 : List AV := [.int .u8 110]
def m1 : Memo := ⟨136, a1, .bool true, [], 12⟩
set_option maxRecDepth 1000000 in
theorem m1_ok : m1.ok Tryz.prog { tabK tabs [] with hk := hkH 12 (hpH (decP []) 39) (tabM c1) } 100000 12 (tabSt 12 tabs) = true := by kernel_rfl
theorem m1_sound [Val] : m1.Sound Tryz.prog 12 (tabK tabs []) := tabH_memo (hpH_ok head) c1_sound folm tabs_lt m1_ok
def c2 : List Memo := m1 :: c1
theorem c2_sound [Val] : ∀ m ∈ c2, m.Sound Tryz.prog 12 (tabK tabs []) := sound_cons m1_sound c1_sound

def a2 : List AV := [.int .u8 116]
def m2 : Memo := ⟨136, a2, .bool true, [], 12⟩
set_option maxRecDepth 1000000 in
theorem m2_ok : m2.ok Tryz.prog { tabK tabs [] with hk := hkH 12 (hpH (decP []) 39) (tabM c2) } 100000 12 (tabSt 12 tabs) = true := by kernel_rfl
theorem m2_sound [Val] : m2.Sound Tryz.prog 12 (tabK tabs []) := tabH_memo (hpH_ok head) c2_sound folm tabs_lt m2_ok
def c3 : List Memo := m2 :: c2
theorem c3_sound [Val] : ∀ m ∈ c3, m.Sound Tryz.prog 12 (tabK tabs []) := sound_cons m2_sound c2_sound

def a3 : List AV := [.int .u8 32]
def m3 : Memo := ⟨136, a3, .bool false, [], 12⟩
set_option maxRecDepth 1000000 in
theorem m3_ok : m3.ok Tryz.prog { tabK tabs [] with hk := hkH 12 (hpH (decP []) 39) (tabM c3) } 100000 12 (tabSt 12 tabs) = true := by kernel_rfl
theorem m3_sound [Val] : m3.Sound Tryz.prog 12 (tabK tabs []) := tabH_memo (hpH_ok head) c3_sound folm tabs_lt m3_ok
def c4 : List Memo := m3 :: c3
theorem c4_sound [Val] : ∀ m ∈ c4, m.Sound Tryz.prog 12 (tabK tabs []) := sound_cons m3_sound c3_sound

def a4 : List AV := []
def m4 : Memo := ⟨137, a4, .slc 12 0 0 21 (some 21) 1, [(12, .box [strN [105,110,116], strN [99,104,97,114], strN [115,104,111,114,116], strN [108,111,110,103], strN [117,110,115,105,103,110,101,100], strN [115,105,103,110,101,100], strN [118,111,105,100], strN [115,116,114,117,99,116], strN [105,102], strN [101,108,115,101], strN [119,104,105,108,101], strN [102,111,114], strN [100,111], strN [114,101,116,117,114,110], strN [98,114,101,97,107], strN [99,111,110,116,105,110,117,101], strN [115,105,122,101,111,102], strN [103,111,116,111], strN [115,119,105,116,99,104], strN [99,97,115,101], strN [100,101,102,97,117,108,116]] 9)], 13⟩
set_option maxRecDepth 1000000 in
theorem m4_ok : m4.ok Tryz.prog { tabK tabs [] with hk := hkH 12 (hpH (decP []) 39) (tabM c4) } 100000 12 (tabSt 12 tabs) = true := by kernel_rfl
theorem m4_sound [Val] : m4.Sound Tryz.prog 12 (tabK tabs []) := tabH_memo (hpH_ok head) c4_sound folm tabs_lt m4_ok
def c5 : List Memo := m4 :: c4
theorem c5_sound [Val] : ∀ m ∈ c5, m.Sound Tryz.prog 12 (tabK tabs []) := sound_cons m4_sound c4_sound

def a5 : List AV := [strN [105,110,116]]
def m5 : Memo := ⟨87, a5, .bool true, [], 13⟩
set_option maxRecDepth 1000000 in
theorem m5_ok : m5.ok Tryz.prog { tabK tabs [] with hk := hkH 12 (hpH (decP []) 39) (tabM c5) } 100000 12 (tabSt 12 tabs) = true := by kernel_rfl
theorem m5_sound [Val] : m5.Sound Tryz.prog 12 (tabK tabs []) := tabH_memo (hpH_ok head) c5_sound folm tabs_lt m5_ok
def c6 : List Memo := m5 :: c5
theorem c6_sound [Val] : ∀ m ∈ c6, m.Sound Tryz.prog 12 (tabK tabs []) := sound_cons m5_sound c5_sound

def a6 : List AV := [.int .u8 109]
def m6 : Memo := ⟨136, a6, .bool true, [], 12⟩
set_option maxRecDepth 1000000 in
theorem m6_ok : m6.ok Tryz.prog { tabK tabs [] with hk := hkH 12 (hpH (decP []) 39) (tabM c6) } 100000 12 (tabSt 12 tabs) = true := by kernel_rfl
theorem m6_sound [Val] : m6.Sound Tryz.prog 12 (tabK tabs []) := tabH_memo (hpH_ok head) c6_sound folm tabs_lt m6_ok
def c7 : List Memo := m6 :: c6
theorem c7_sound [Val] : ∀ m ∈ c7, m.Sound Tryz.prog 12 (tabK tabs []) := sound_cons m6_sound c6_sound

def a7 : List AV := [.int .u8 97]
def m7 : Memo := ⟨136, a7, .bool true, [], 12⟩
set_option maxRecDepth 1000000 in
theorem m7_ok : m7.ok Tryz.prog { tabK tabs [] with hk := hkH 12 (hpH (decP []) 39) (tabM c7) } 100000 12 (tabSt 12 tabs) = true := by kernel_rfl
theorem m7_sound [Val] : m7.Sound Tryz.prog 12 (tabK tabs []) := tabH_memo (hpH_ok head) c7_sound folm tabs_lt m7_ok
def c8 : List Memo := m7 :: c7
theorem c8_sound [Val] : ∀ m ∈ c8, m.Sound Tryz.prog 12 (tabK tabs []) := sound_cons m7_sound c7_sound

def a8 : List AV := [.int .u8 40]
def m8 : Memo := ⟨136, a8, .bool false, [], 12⟩
set_option maxRecDepth 1000000 in
theorem m8_ok : m8.ok Tryz.prog { tabK tabs [] with hk := hkH 12 (hpH (decP []) 39) (tabM c8) } 100000 12 (tabSt 12 tabs) = true := by kernel_rfl
theorem m8_sound [Val] : m8.Sound Tryz.prog 12 (tabK tabs []) := tabH_memo (hpH_ok head) c8_sound folm tabs_lt m8_ok
def c9 : List Memo := m8 :: c8
theorem c9_sound [Val] : ∀ m ∈ c9, m.Sound Tryz.prog 12 (tabK tabs []) := sound_cons m8_sound c8_sound

def a9 : List AV := [strN [109,97,105,110]]
def m9 : Memo := ⟨87, a9, .bool false, [], 13⟩
set_option maxRecDepth 1000000 in
theorem m9_ok : m9.ok Tryz.prog { tabK tabs [] with hk := hkH 12 (hpH (decP []) 39) (tabM c9) } 100000 12 (tabSt 12 tabs) = true := by kernel_rfl
theorem m9_sound [Val] : m9.Sound Tryz.prog 12 (tabK tabs []) := tabH_memo (hpH_ok head) c9_sound folm tabs_lt m9_ok
def c10 : List Memo := m9 :: c9
theorem c10_sound [Val] : ∀ m ∈ c10, m.Sound Tryz.prog 12 (tabK tabs []) := sound_cons m9_sound c9_sound

def a10 : List AV := []
def m10 : Memo := ⟨143, a10, .slc 12 0 0 45 (some 45) 1, [(12, .box [strN [60,60,61], strN [62,62,61], strN [45,62], strN [43,43], strN [45,45], strN [60,61], strN [62,61], strN [61,61], strN [33,61], strN [38,38], strN [124,124], strN [60,60], strN [62,62], strN [43,61], strN [45,61], strN [42,61], strN [47,61], strN [37,61], strN [38,61], strN [124,61], strN [94,61], strN [40], strN [41], strN [123], strN [125], strN [91], strN [93], strN [59], strN [44], strN [46], strN [45], strN [43], strN [42], strN [47], strN [37], strN [38], strN [124], strN [94], strN [126], strN [33], strN [60], strN [62], strN [61], strN [63], strN [58]] 9)], 13⟩
set_option maxRecDepth 1000000 in
theorem m10_ok : m10.ok Tryz.prog { tabK tabs [] with hk := hkH 12 (hpH (decP []) 39) (tabM c10) } 100000 12 (tabSt 12 tabs) = true := by kernel_rfl
theorem m10_sound [Val] : m10.Sound Tryz.prog 12 (tabK tabs []) := tabH_memo (hpH_ok head) c10_sound folm tabs_lt m10_ok
def c11 : List Memo := m10 :: c10
theorem c11_sound [Val] : ∀ m ∈ c11, m.Sound Tryz.prog 12 (tabK tabs []) := sound_cons m10_sound c10_sound

def a11 : List AV := [.int .u8 118]
def m11 : Memo := ⟨136, a11, .bool true, [], 12⟩
set_option maxRecDepth 1000000 in
theorem m11_ok : m11.ok Tryz.prog { tabK tabs [] with hk := hkH 12 (hpH (decP []) 39) (tabM c11) } 100000 12 (tabSt 12 tabs) = true := by kernel_rfl
theorem m11_sound [Val] : m11.Sound Tryz.prog 12 (tabK tabs []) := tabH_memo (hpH_ok head) c11_sound folm tabs_lt m11_ok
def c12 : List Memo := m11 :: c11
theorem c12_sound [Val] : ∀ m ∈ c12, m.Sound Tryz.prog 12 (tabK tabs []) := sound_cons m11_sound c11_sound

def a12 : List AV := [.int .u8 111]
def m12 : Memo := ⟨136, a12, .bool true, [], 12⟩
set_option maxRecDepth 1000000 in
theorem m12_ok : m12.ok Tryz.prog { tabK tabs [] with hk := hkH 12 (hpH (decP []) 39) (tabM c12) } 100000 12 (tabSt 12 tabs) = true := by kernel_rfl
theorem m12_sound [Val] : m12.Sound Tryz.prog 12 (tabK tabs []) := tabH_memo (hpH_ok head) c12_sound folm tabs_lt m12_ok
def c13 : List Memo := m12 :: c12
theorem c13_sound [Val] : ∀ m ∈ c13, m.Sound Tryz.prog 12 (tabK tabs []) := sound_cons m12_sound c12_sound

def a13 : List AV := [.int .u8 100]
def m13 : Memo := ⟨136, a13, .bool true, [], 12⟩
set_option maxRecDepth 1000000 in
theorem m13_ok : m13.ok Tryz.prog { tabK tabs [] with hk := hkH 12 (hpH (decP []) 39) (tabM c13) } 100000 12 (tabSt 12 tabs) = true := by kernel_rfl
theorem m13_sound [Val] : m13.Sound Tryz.prog 12 (tabK tabs []) := tabH_memo (hpH_ok head) c13_sound folm tabs_lt m13_ok
def c14 : List Memo := m13 :: c13
theorem c14_sound [Val] : ∀ m ∈ c14, m.Sound Tryz.prog 12 (tabK tabs []) := sound_cons m13_sound c13_sound

def a14 : List AV := [.int .u8 41]
def m14 : Memo := ⟨136, a14, .bool false, [], 12⟩
set_option maxRecDepth 1000000 in
theorem m14_ok : m14.ok Tryz.prog { tabK tabs [] with hk := hkH 12 (hpH (decP []) 39) (tabM c14) } 100000 12 (tabSt 12 tabs) = true := by kernel_rfl
theorem m14_sound [Val] : m14.Sound Tryz.prog 12 (tabK tabs []) := tabH_memo (hpH_ok head) c14_sound folm tabs_lt m14_ok
def c15 : List Memo := m14 :: c14
theorem c15_sound [Val] : ∀ m ∈ c15, m.Sound Tryz.prog 12 (tabK tabs []) := sound_cons m14_sound c14_sound

def a15 : List AV := [strN [118,111,105,100]]
def m15 : Memo := ⟨87, a15, .bool true, [], 13⟩
set_option maxRecDepth 1000000 in
theorem m15_ok : m15.ok Tryz.prog { tabK tabs [] with hk := hkH 12 (hpH (decP []) 39) (tabM c15) } 100000 12 (tabSt 12 tabs) = true := by kernel_rfl
theorem m15_sound [Val] : m15.Sound Tryz.prog 12 (tabK tabs []) := tabH_memo (hpH_ok head) c15_sound folm tabs_lt m15_ok
def c16 : List Memo := m15 :: c15
theorem c16_sound [Val] : ∀ m ∈ c16, m.Sound Tryz.prog 12 (tabK tabs []) := sound_cons m15_sound c15_sound

def a16 : List AV := [.int .u8 123]
def m16 : Memo := ⟨42, a16, .bool false, [], 12⟩
set_option maxRecDepth 1000000 in
theorem m16_ok : m16.ok Tryz.prog { tabK tabs [] with hk := hkH 12 (hpH (decP []) 39) (tabM c16) } 100000 12 (tabSt 12 tabs) = true := by kernel_rfl
theorem m16_sound [Val] : m16.Sound Tryz.prog 12 (tabK tabs []) := tabH_memo (hpH_ok head) c16_sound folm tabs_lt m16_ok
def c17 : List Memo := m16 :: c16
theorem c17_sound [Val] : ∀ m ∈ c17, m.Sound Tryz.prog 12 (tabK tabs []) := sound_cons m16_sound c16_sound

def a17 : List AV := [.int .u8 114]
def m17 : Memo := ⟨136, a17, .bool true, [], 12⟩
set_option maxRecDepth 1000000 in
theorem m17_ok : m17.ok Tryz.prog { tabK tabs [] with hk := hkH 12 (hpH (decP []) 39) (tabM c17) } 100000 12 (tabSt 12 tabs) = true := by kernel_rfl
theorem m17_sound [Val] : m17.Sound Tryz.prog 12 (tabK tabs []) := tabH_memo (hpH_ok head) c17_sound folm tabs_lt m17_ok
def c18 : List Memo := m17 :: c17
theorem c18_sound [Val] : ∀ m ∈ c18, m.Sound Tryz.prog 12 (tabK tabs []) := sound_cons m17_sound c17_sound

def a18 : List AV := [.int .u8 101]
def m18 : Memo := ⟨136, a18, .bool true, [], 12⟩
set_option maxRecDepth 1000000 in
theorem m18_ok : m18.ok Tryz.prog { tabK tabs [] with hk := hkH 12 (hpH (decP []) 39) (tabM c18) } 100000 12 (tabSt 12 tabs) = true := by kernel_rfl
theorem m18_sound [Val] : m18.Sound Tryz.prog 12 (tabK tabs []) := tabH_memo (hpH_ok head) c18_sound folm tabs_lt m18_ok
def c19 : List Memo := m18 :: c18
theorem c19_sound [Val] : ∀ m ∈ c19, m.Sound Tryz.prog 12 (tabK tabs []) := sound_cons m18_sound c18_sound

def a19 : List AV := [.int .u8 117]
def m19 : Memo := ⟨136, a19, .bool true, [], 12⟩
set_option maxRecDepth 1000000 in
theorem m19_ok : m19.ok Tryz.prog { tabK tabs [] with hk := hkH 12 (hpH (decP []) 39) (tabM c19) } 100000 12 (tabSt 12 tabs) = true := by kernel_rfl
theorem m19_sound [Val] : m19.Sound Tryz.prog 12 (tabK tabs []) := tabH_memo (hpH_ok head) c19_sound folm tabs_lt m19_ok
def c20 : List Memo := m19 :: c19
theorem c20_sound [Val] : ∀ m ∈ c20, m.Sound Tryz.prog 12 (tabK tabs []) := sound_cons m19_sound c19_sound

def a20 : List AV := [strN [114,101,116,117,114,110]]
def m20 : Memo := ⟨87, a20, .bool true, [], 13⟩
set_option maxRecDepth 1000000 in
theorem m20_ok : m20.ok Tryz.prog { tabK tabs [] with hk := hkH 12 (hpH (decP []) 39) (tabM c20) } 100000 12 (tabSt 12 tabs) = true := by kernel_rfl
theorem m20_sound [Val] : m20.Sound Tryz.prog 12 (tabK tabs []) := tabH_memo (hpH_ok head) c20_sound folm tabs_lt m20_ok
def c21 : List Memo := m20 :: c20
theorem c21_sound [Val] : ∀ m ∈ c21, m.Sound Tryz.prog 12 (tabK tabs []) := sound_cons m20_sound c20_sound

def a21 : List AV := [.int .u8 59]
def m21 : Memo := ⟨136, a21, .bool false, [], 12⟩
set_option maxRecDepth 1000000 in
theorem m21_ok : m21.ok Tryz.prog { tabK tabs [] with hk := hkH 12 (hpH (decP []) 39) (tabM c21) } 100000 12 (tabSt 12 tabs) = true := by kernel_rfl
theorem m21_sound [Val] : m21.Sound Tryz.prog 12 (tabK tabs []) := tabH_memo (hpH_ok head) c21_sound folm tabs_lt m21_ok
def c22 : List Memo := m21 :: c21
theorem c22_sound [Val] : ∀ m ∈ c22, m.Sound Tryz.prog 12 (tabK tabs []) := sound_cons m21_sound c21_sound

def a22 : List AV := [strN [48,49,50,51,52,53,54,55,56,57]]
def m22 : Memo := ⟨197, a22, .tup [.agg [.bool false, .bool false, .bool false, .bool false, .bool false, .bool false, .bool false, .bool false, .bool false, .bool false, .bool false, .bool false, .bool false, .bool false, .bool false, .bool false, .bool false, .bool false, .bool false, .bool false, .bool false, .bool false, .bool false, .bool false, .bool false, .bool false, .bool false, .bool false, .bool false, .bool false, .bool false, .bool false, .bool false, .bool false, .bool false, .bool false, .bool false, .bool false, .bool false, .bool false, .bool false, .bool false, .bool false, .bool false, .bool false, .bool false, .bool false, .bool false, .bool true, .bool true, .bool true, .bool true, .bool true, .bool true, .bool true, .bool true, .bool true, .bool true, .bool false, .bool false, .bool false, .bool false, .bool false, .bool false, .bool false, .bool false, .bool false, .bool false, .bool false, .bool false, .bool false, .bool false, .bool false, .bool false, .bool false, .bool false, .bool false, .bool false, .bool false, .bool false, .bool false, .bool false, .bool false, .bool false, .bool false, .bool false, .bool false, .bool false, .bool false, .bool false, .bool false, .bool false, .bool false, .bool false, .bool false, .bool false, .bool false, .bool false, .bool false, .bool false, .bool false, .bool false, .bool false, .bool false, .bool false, .bool false, .bool false, .bool false, .bool false, .bool false, .bool false, .bool false, .bool false, .bool false, .bool false, .bool false, .bool false, .bool false, .bool false, .bool false, .bool false, .bool false, .bool false, .bool false, .bool false, .bool false, .bool false, .bool false, .bool false, .bool false, .bool false, .bool false, .bool false, .bool false, .bool false, .bool false, .bool false, .bool false, .bool false, .bool false, .bool false, .bool false, .bool false, .bool false, .bool false, .bool false, .bool false, .bool false, .bool false, .bool false, .bool false, .bool false, .bool false, .bool false, .bool false, .bool false, .bool false, .bool false, .bool false, .bool false, .bool false, .bool false, .bool false, .bool false, .bool false, .bool false, .bool false, .bool false, .bool false, .bool false, .bool false, .bool false, .bool false, .bool false, .bool false, .bool false, .bool false, .bool false, .bool false, .bool false, .bool false, .bool false, .bool false, .bool false, .bool false, .bool false, .bool false, .bool false, .bool false, .bool false, .bool false, .bool false, .bool false, .bool false, .bool false, .bool false, .bool false, .bool false, .bool false, .bool false, .bool false, .bool false, .bool false, .bool false, .bool false, .bool false, .bool false, .bool false, .bool false, .bool false, .bool false, .bool false, .bool false, .bool false, .bool false, .bool false, .bool false, .bool false, .bool false, .bool false, .bool false, .bool false, .bool false, .bool false, .bool false, .bool false, .bool false, .bool false, .bool false, .bool false, .bool false, .bool false, .bool false, .bool false, .bool false, .bool false, .bool false, .bool false, .bool false, .bool false, .bool false, .bool false, .bool false, .bool false, .bool false, .bool false, .bool false, .bool false, .bool false, .bool false, .bool false, .bool false, .bool false, .bool false, .bool false, .bool false], .bool true], [], 13⟩
set_option maxRecDepth 1000000 in
theorem m22_ok : m22.ok Tryz.prog { tabK tabs [] with hk := hkH 12 (hpH (decP []) 39) (tabM c22) } 100000 12 (tabSt 12 tabs) = true := by kernel_rfl
theorem m22_sound [Val] : m22.Sound Tryz.prog 12 (tabK tabs []) := tabH_memo (hpH_ok head) c22_sound folm tabs_lt m22_ok
def c23 : List Memo := m22 :: c22
theorem c23_sound [Val] : ∀ m ∈ c23, m.Sound Tryz.prog 12 (tabK tabs []) := sound_cons m22_sound c22_sound

def a23 : List AV := [strN []]
def m23 : Memo := ⟨89, a23, .tup [strN [], .bool true], [], 12⟩
set_option maxRecDepth 1000000 in
theorem m23_ok : m23.ok Tryz.prog { tabK tabs [] with hk := hkH 12 (hpH (decP []) 39) (tabM c23) } 100000 12 (tabSt 12 tabs) = true := by kernel_rfl
theorem m23_sound [Val] : m23.Sound Tryz.prog 12 (tabK tabs []) := tabH_memo (hpH_ok head) c23_sound folm tabs_lt m23_ok
def c24 : List Memo := m23 :: c23
theorem c24_sound [Val] : ∀ m ∈ c24, m.Sound Tryz.prog 12 (tabK tabs []) := sound_cons m23_sound c23_sound

def a24 : List AV := [strN [59,125]]
def m24 : Memo := ⟨92, a24, .int .i64 1, [], 13⟩
set_option maxRecDepth 1000000 in
theorem m24_ok : m24.ok Tryz.prog { tabK tabs [] with hk := hkH 12 (hpH (decP []) 39) (tabM c24) } 100000 12 (tabSt 12 tabs) = true := by kernel_rfl
theorem m24_sound [Val] : m24.Sound Tryz.prog 12 (tabK tabs []) := tabH_memo (hpH_ok head) c24_sound folm tabs_lt m24_ok
def c25 : List Memo := m24 :: c24
theorem c25_sound [Val] : ∀ m ∈ c25, m.Sound Tryz.prog 12 (tabK tabs []) := sound_cons m24_sound c24_sound

def a25 : List AV := [.int .u8 125]
def m25 : Memo := ⟨42, a25, .bool false, [], 12⟩
set_option maxRecDepth 1000000 in
theorem m25_ok : m25.ok Tryz.prog { tabK tabs [] with hk := hkH 12 (hpH (decP []) 39) (tabM c25) } 100000 12 (tabSt 12 tabs) = true := by kernel_rfl
theorem m25_sound [Val] : m25.Sound Tryz.prog 12 (tabK tabs []) := tabH_memo (hpH_ok head) c25_sound folm tabs_lt m25_ok
def c26 : List Memo := m25 :: c25
theorem c26_sound [Val] : ∀ m ∈ c26, m.Sound Tryz.prog 12 (tabK tabs []) := sound_cons m25_sound c25_sound

def a26 : List AV := [strN [125]]
def m26 : Memo := ⟨92, a26, .int .i64 1, [], 13⟩
set_option maxRecDepth 1000000 in
theorem m26_ok : m26.ok Tryz.prog { tabK tabs [] with hk := hkH 12 (hpH (decP []) 39) (tabM c26) } 100000 12 (tabSt 12 tabs) = true := by kernel_rfl
theorem m26_sound [Val] : m26.Sound Tryz.prog 12 (tabK tabs []) := tabH_memo (hpH_ok head) c26_sound folm tabs_lt m26_ok
def c27 : List Memo := m26 :: c26
theorem c27_sound [Val] : ∀ m ∈ c27, m.Sound Tryz.prog 12 (tabK tabs []) := sound_cons m26_sound c26_sound

def a27 : List AV := [.nils, .agg [.int .i64 5, .int .i64 0, .nils]]
def m27 : Memo := ⟨78, a27, .int .i64 0, [], 20⟩
set_option maxRecDepth 1000000 in
theorem m27_ok : m27.ok Tryz.prog { tabK tabs [] with hk := hkH 12 (hpH (decP []) 39) (tabM c27) } 100000 12 (tabSt 12 tabs) = true := by kernel_rfl
theorem m27_sound [Val] : m27.Sound Tryz.prog 12 (tabK tabs []) := tabH_memo (hpH_ok head) c27_sound folm tabs_lt m27_ok
def c28 : List Memo := m27 :: c27
theorem c28_sound [Val] : ∀ m ∈ c28, m.Sound Tryz.prog 12 (tabK tabs []) := sound_cons m27_sound c27_sound

def a28 : List AV := []
def m28 : Memo := ⟨108, a28, .agg [.nilfn, .nilfn, .bool false, .fn (.func 152) [] [], .fn (.func 153) [] [], .bool false, .fn (.func 152) [] [], .fn (.func 154) [] [], .bool false, .fn (.func 152) [] [], .fn (.func 155) [] [], .bool false, .fn (.func 156) [] [], .fn (.func 157) [] [], .bool false, .fn (.func 156) [] [], .fn (.func 158) [] [], .bool false, .fn (.func 159) [] [], .fn (.func 160) [] [], .bool false, .fn (.func 159) [] [], .fn (.func 161) [] [], .bool false, .fn (.func 162) [] [], .fn (.func 163) [] [], .bool false, .fn (.func 164) [] [], .fn (.func 155) [] [], .bool false, .fn (.func 159) [] [], .fn (.func 163) [] [], .bool false, .fn (.func 156) [] [], .fn (.func 155) [] [], .bool false, .fn (.func 156) [] [], .fn (.func 163) [] [], .bool true, .fn (.func 156) [] [], .fn (.func 163) [] [], .bool false, .fn (.func 152) [] [], .fn (.func 163) [] [], .bool true, .fn (.func 156) [] [], .fn (.func 163) [] [], .bool false, .fn (.func 152) [] [], .fn (.func 163) [] [], .bool false, .fn (.func 165) [] [], .fn (.func 163) [] [], .bool false, .fn (.func 166) [] [], .fn (.func 163) [] [], .bool false, .fn (.func 167) [] [], .fn (.func 163) [] [], .bool false, .fn (.func 168) [] [], .fn (.func 163) [] [], .bool false, .fn (.func 169) [] [], .fn (.func 163) [] [], .bool false, .fn (.func 170) [] [], .fn (.func 163) [] [], .bool false, .fn (.func 152) [] [], .fn (.func 163) [] [], .bool false, .fn (.func 152) [] [], .fn (.func 163) [] [], .bool false, .fn (.func 171) [] [], .fn (.func 163) [] [], .bool false, .fn (.func 152) [] [], .fn (.func 155) [] [], .bool false, .fn (.func 152) [] [], .fn (.func 163) [] [], .bool false, .fn (.func 152) [] [], .fn (.func 163) [] [], .bool false, .fn (.func 152) [] [], .fn (.func 155) [] [], .bool false, .fn (.func 170) [] [], .fn (.func 155) [] [], .bool true, .fn (.func 152) [] [], .fn (.func 155) [] [], .bool true, .fn (.func 172) [] [], .fn (.func 155) [] [], .bool true, .fn (.func 170) [] [], .fn (.func 155) [] [], .bool true, .fn (.func 173) [] [], .fn (.func 163) [] [], .bool false], [], 13⟩
set_option maxRecDepth 1000000 in
theorem m28_ok : m28.ok Tryz.prog { tabK tabs [] with hk := hkH 12 (hpH (decP []) 39) (tabM c28) } 100000 12 (tabSt 12 tabs) = true := by kernel_rfl
theorem m28_sound [Val] : m28.Sound Tryz.prog 12 (tabK tabs []) := tabH_memo (hpH_ok head) c28_sound folm tabs_lt m28_ok
def c29 : List Memo := m28 :: c28
theorem c29_sound [Val] : ∀ m ∈ c29, m.Sound Tryz.prog 12 (tabK tabs []) := sound_cons m28_sound c28_sound

def a29 : List AV := [.agg [.int .i64 0, .int .i64 0, .nils], .agg [.int .i64 0, .int .i64 0, .nils]]
def m29 : Memo := ⟨76, a29, .bool true, [], 14⟩
set_option maxRecDepth 1000000 in
theorem m29_ok : m29.ok Tryz.prog { tabK tabs [] with hk := hkH 12 (hpH (decP []) 39) (tabM c29) } 100000 12 (tabSt 12 tabs) = true := by kernel_rfl
theorem m29_sound [Val] : m29.Sound Tryz.prog 12 (tabK tabs []) := tabH_memo (hpH_ok head) c29_sound folm tabs_lt m29_ok
def c30 : List Memo := m29 :: c29
theorem c30_sound [Val] : ∀ m ∈ c30, m.Sound Tryz.prog 12 (tabK tabs []) := sound_cons m29_sound c29_sound

def a30 : List AV := [strN [115], strN [115,108,109]]
def m30 : Memo := ⟨222, a30, strN [], [], 14⟩
set_option maxRecDepth 1000000 in
theorem m30_ok : m30.ok Tryz.prog { tabK tabs [] with hk := hkH 12 (hpH (decP []) 39) (tabM c30) } 100000 12 (tabSt 12 tabs) = true := by kernel_rfl
theorem m30_sound [Val] : m30.Sound Tryz.prog 12 (tabK tabs []) := tabH_memo (hpH_ok head) c30_sound folm tabs_lt m30_ok
def c31 : List Memo := m30 :: c30
theorem c31_sound [Val] : ∀ m ∈ c31, m.Sound Tryz.prog 12 (tabK tabs []) := sound_cons m30_sound c30_sound

def a31 : List AV := [strN [115], strN [112]]
def m31 : Memo := ⟨138, a31, strN [115], [], 12⟩
set_option maxRecDepth 1000000 in
theorem m31_ok : m31.ok Tryz.prog { tabK tabs [] with hk := hkH 12 (hpH (decP []) 39) (tabM c31) } 100000 12 (tabSt 12 tabs) = true := by kernel_rfl
theorem m31_sound [Val] : m31.Sound Tryz.prog 12 (tabK tabs []) := tabH_memo (hpH_ok head) c31_sound folm tabs_lt m31_ok
def c32 : List Memo := m31 :: c31
theorem c32_sound [Val] : ∀ m ∈ c32, m.Sound Tryz.prog 12 (tabK tabs []) := sound_cons m31_sound c31_sound

def a32 : List AV := [strN [109,97,105,110]]
def m32 : Memo := ⟨104, a32, .bool true, [], 21⟩
set_option maxRecDepth 1000000 in
theorem m32_ok : m32.ok Tryz.prog { tabK tabs [] with hk := hkH 12 (hpH (decP []) 39) (tabM c32) } 100000 12 (tabSt 12 tabs) = true := by kernel_rfl
theorem m32_sound [Val] : m32.Sound Tryz.prog 12 (tabK tabs []) := tabH_memo (hpH_ok head) c32_sound folm tabs_lt m32_ok
def c33 : List Memo := m32 :: c32
theorem c33_sound [Val] : ∀ m ∈ c33, m.Sound Tryz.prog 12 (tabK tabs []) := sound_cons m32_sound c32_sound

def a33 : List AV := [.int .i64 32]
def m33 : Memo := ⟨280, a33, .int .u8 102, [], 12⟩
set_option maxRecDepth 1000000 in
theorem m33_ok : m33.ok Tryz.prog { tabK tabs [] with hk := hkH 12 (hpH (decP []) 39) (tabM c33) } 100000 12 (tabSt 12 tabs) = true := by kernel_rfl
theorem m33_sound [Val] : m33.Sound Tryz.prog 12 (tabK tabs []) := tabH_memo (hpH_ok head) c33_sound folm tabs_lt m33_ok
def c34 : List Memo := m33 :: c33
theorem c34_sound [Val] : ∀ m ∈ c34, m.Sound Tryz.prog 12 (tabK tabs []) := sound_cons m33_sound c33_sound

def a34 : List AV := [strN [102], strN [102,103]]
def m34 : Memo := ⟨222, a34, strN [], [], 14⟩
set_option maxRecDepth 1000000 in
theorem m34_ok : m34.ok Tryz.prog { tabK tabs [] with hk := hkH 12 (hpH (decP []) 39) (tabM c34) } 100000 12 (tabSt 12 tabs) = true := by kernel_rfl
theorem m34_sound [Val] : m34.Sound Tryz.prog 12 (tabK tabs []) := tabH_memo (hpH_ok head) c34_sound folm tabs_lt m34_ok
def c35 : List Memo := m34 :: c34
theorem c35_sound [Val] : ∀ m ∈ c35, m.Sound Tryz.prog 12 (tabK tabs []) := sound_cons m34_sound c34_sound

def a35 : List AV := [.agg [.int .i64 5, .int .i64 0, .nils]]
def m35 : Memo := ⟨176, a35, .bool true, [], 13⟩
set_option maxRecDepth 1000000 in
theorem m35_ok : m35.ok Tryz.prog { tabK tabs [] with hk := hkH 12 (hpH (decP []) 39) (tabM c35) } 100000 12 (tabSt 12 tabs) = true := by kernel_rfl
theorem m35_sound [Val] : m35.Sound Tryz.prog 12 (tabK tabs []) := tabH_memo (hpH_ok head) c35_sound folm tabs_lt m35_ok
def c36 : List Memo := m35 :: c35
theorem c36_sound [Val] : ∀ m ∈ c36, m.Sound Tryz.prog 12 (tabK tabs []) := sound_cons m35_sound c35_sound

def a36 : List AV := [.agg [.int .i64 5, .int .i64 0, .nils]]
def m36 : Memo := ⟨113, a36, .bool true, [], 15⟩
set_option maxRecDepth 1000000 in
theorem m36_ok : m36.ok Tryz.prog { tabK tabs [] with hk := hkH 12 (hpH (decP []) 39) (tabM c36) } 100000 12 (tabSt 12 tabs) = true := by kernel_rfl
theorem m36_sound [Val] : m36.Sound Tryz.prog 12 (tabK tabs []) := tabH_memo (hpH_ok head) c36_sound folm tabs_lt m36_ok
def c37 : List Memo := m36 :: c36
theorem c37_sound [Val] : ∀ m ∈ c37, m.Sound Tryz.prog 12 (tabK tabs []) := sound_cons m36_sound c36_sound

def a37 : List AV := [.agg [.int .i64 5, .int .i64 0, .nils], .agg [.int .i64 5, .int .i64 0, .nils]]
def m37 : Memo := ⟨76, a37, .bool true, [], 14⟩
set_option maxRecDepth 1000000 in
theorem m37_ok : m37.ok Tryz.prog { tabK tabs [] with hk := hkH 12 (hpH (decP []) 39) (tabM c37) } 100000 12 (tabSt 12 tabs) = true := by kernel_rfl
theorem m37_sound [Val] : m37.Sound Tryz.prog 12 (tabK tabs []) := tabH_memo (hpH_ok head) c37_sound folm tabs_lt m37_ok
def c38 : List Memo := m37 :: c37
theorem c38_sound [Val] : ∀ m ∈ c38, m.Sound Tryz.prog 12 (tabK tabs []) := sound_cons m37_sound c37_sound

def a38 : List AV := [strN [97]]
def m38 : Memo := ⟨87, a38, .bool false, [], 13⟩
set_option maxRecDepth 1000000 in
theorem m38_ok : m38.ok Tryz.prog { tabK tabs [] with hk := hkH 12 (hpH (decP []) 39) (tabM c38) } 100000 12 (tabSt 12 tabs) = true := by kernel_rfl
theorem m38_sound [Val] : m38.Sound Tryz.prog 12 (tabK tabs []) := tabH_memo (hpH_ok head) c38_sound folm tabs_lt m38_ok
def c39 : List Memo := m38 :: c38
theorem c39_sound [Val] : ∀ m ∈ c39, m.Sound Tryz.prog 12 (tabK tabs []) := sound_cons m38_sound c38_sound

def a39 : List AV := [strN [97]]
def m39 : Memo := ⟨104, a39, .bool true, [], 21⟩
set_option maxRecDepth 1000000 in
theorem m39_ok : m39.ok Tryz.prog { tabK tabs [] with hk := hkH 12 (hpH (decP []) 39) (tabM c39) } 100000 12 (tabSt 12 tabs) = true := by kernel_rfl
theorem m39_sound [Val] : m39.Sound Tryz.prog 12 (tabK tabs []) := tabH_memo (hpH_ok head) c39_sound folm tabs_lt m39_ok
def c40 : List Memo := m39 :: c39
theorem c40_sound [Val] : ∀ m ∈ c40, m.Sound Tryz.prog 12 (tabK tabs []) := sound_cons m39_sound c39_sound

def a40 : List AV := [.int .i64 30]
def m40 : Memo := ⟨280, a40, .int .u8 108, [], 12⟩
set_option maxRecDepth 1000000 in
theorem m40_ok : m40.ok Tryz.prog { tabK tabs [] with hk := hkH 12 (hpH (decP []) 39) (tabM c40) } 100000 12 (tabSt 12 tabs) = true := by kernel_rfl
theorem m40_sound [Val] : m40.Sound Tryz.prog 12 (tabK tabs []) := tabH_memo (hpH_ok head) c40_sound folm tabs_lt m40_ok
def c41 : List Memo := m40 :: c40
theorem c41_sound [Val] : ∀ m ∈ c41, m.Sound Tryz.prog 12 (tabK tabs []) := sound_cons m40_sound c40_sound

def a41 : List AV := [.nils, .agg [.int .i64 5, .int .i64 0, .nils]]
def m41 : Memo := ⟨32, a41, .tup [.int .i64 4, .int .i64 0], [], 27⟩
set_option maxRecDepth 1000000 in
theorem m41_ok : m41.ok Tryz.prog { tabK tabs [] with hk := hkH 12 (hpH (decP []) 39) (tabM c41) } 100000 12 (tabSt 12 tabs) = true := by kernel_rfl
theorem m41_sound [Val] : m41.Sound Tryz.prog 12 (tabK tabs []) := tabH_memo (hpH_ok head) c41_sound folm tabs_lt m41_ok
def c42 : List Memo := m41 :: c41
theorem c42_sound [Val] : ∀ m ∈ c42, m.Sound Tryz.prog 12 (tabK tabs []) := sound_cons m41_sound c41_sound
end Go.Proofs.YtelhnjgcijjngaaGreatDoor
