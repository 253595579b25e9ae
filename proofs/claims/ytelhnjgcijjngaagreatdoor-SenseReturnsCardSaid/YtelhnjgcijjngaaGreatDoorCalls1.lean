/-
  Calls whose outcome is known, each shown by the evaluator with the earlier ones and the tables at hand; part 1. No condition.
-/
import Derived.Test.YtelhnjgcijjngaaGreatDoorCalls0
set_option linter.all false
namespace Go.Proofs.YtelhnjgcijjngaaGreatDoor
open Go.Tw

def a42 : List AV := [strN [105,110,116,32,109,97,105,110,40,118,111,105,100,41,123,105,110,116,32,97,59,114,101,116,117,114,110,32,97,59,125], .int .i64 5, .int .i64 1, .nils]
def m42 : Memo := ⟨7, a42, .bool true, [], 732⟩
set_option maxRecDepth 1000000 in
theorem m42_ok : m42.ok Tryz.prog { tabK tabs [] with hk := hkH 12 (hpH (decP []) 39) (tabM c42) } 100000 12 (tabSt 12 tabs) = true := by kernel_rfl
theorem m42_sound [Val] : m42.Sound Tryz.prog 12 (tabK tabs []) := tabH_memo (hpH_ok head) c42_sound folm tabs_lt m42_ok
def c43 : List Memo := m42 :: c42
theorem c43_sound [Val] : ∀ m ∈ c43, m.Sound Tryz.prog 12 (tabK tabs []) := sound_cons m42_sound c42_sound

def a43 : List AV := [.int .u8 43]
def m43 : Memo := ⟨136, a43, .bool false, [], 12⟩
set_option maxRecDepth 1000000 in
theorem m43_ok : m43.ok Tryz.prog { tabK tabs [] with hk := hkH 12 (hpH (decP []) 39) (tabM c43) } 100000 12 (tabSt 12 tabs) = true := by kernel_rfl
theorem m43_sound [Val] : m43.Sound Tryz.prog 12 (tabK tabs []) := tabH_memo (hpH_ok head) c43_sound folm tabs_lt m43_ok
def c44 : List Memo := m43 :: c43
theorem c44_sound [Val] : ∀ m ∈ c44, m.Sound Tryz.prog 12 (tabK tabs []) := sound_cons m43_sound c43_sound

def a44 : List AV := [strN [42,32,47,32,37,32,43,32,45,32,60,60,32,62,62,32,60,32,62,32,60,61,32,62,61,32,61,61,32,33,61,32,38,32,94,32,124,32,38,38,32,124,124]]
def m44 : Memo := ⟨195, a44, .slc 12 0 0 18 (some 18) 1, [(12, .box [strN [42], strN [47], strN [37], strN [43], strN [45], strN [60,60], strN [62,62], strN [60], strN [62], strN [60,61], strN [62,61], strN [61,61], strN [33,61], strN [38], strN [94], strN [124], strN [38,38], strN [124,124]] 9)], 13⟩
set_option maxRecDepth 1000000 in
theorem m44_ok : m44.ok Tryz.prog { tabK tabs [] with hk := hkH 12 (hpH (decP []) 39) (tabM c44) } 100000 12 (tabSt 12 tabs) = true := by kernel_rfl
theorem m44_sound [Val] : m44.Sound Tryz.prog 12 (tabK tabs []) := tabH_memo (hpH_ok head) c44_sound folm tabs_lt m44_ok
def c45 : List Memo := m44 :: c44
theorem c45_sound [Val] : ∀ m ∈ c45, m.Sound Tryz.prog 12 (tabK tabs []) := sound_cons m44_sound c44_sound

def a45 : List AV := [strN [42,32,47,32,37,32,43,32,45,32,60,60,32,62,62,32,60,32,62,32,60,61,32,62,61,32,61,61,32,33,61,32,38,32,94,32,124,32,38,38,32,124,124], strN [43]]
def m45 : Memo := ⟨220, a45, .bool true, [], 13⟩
set_option maxRecDepth 1000000 in
theorem m45_ok : m45.ok Tryz.prog { tabK tabs [] with hk := hkH 12 (hpH (decP []) 39) (tabM c45) } 100000 12 (tabSt 12 tabs) = true := by kernel_rfl
theorem m45_sound [Val] : m45.Sound Tryz.prog 12 (tabK tabs []) := tabH_memo (hpH_ok head) c45_sound folm tabs_lt m45_ok
def c46 : List Memo := m45 :: c45
theorem c46_sound [Val] : ∀ m ∈ c46, m.Sound Tryz.prog 12 (tabK tabs []) := sound_cons m45_sound c45_sound

def a46 : List AV := [.int .i64 5, .int .i64 5]
def m46 : Memo := ⟨298, a46, .int .i64 5, [], 12⟩
set_option maxRecDepth 1000000 in
theorem m46_ok : m46.ok Tryz.prog { tabK tabs [] with hk := hkH 12 (hpH (decP []) 39) (tabM c46) } 100000 12 (tabSt 12 tabs) = true := by kernel_rfl
theorem m46_sound [Val] : m46.Sound Tryz.prog 12 (tabK tabs []) := tabH_memo (hpH_ok head) c46_sound folm tabs_lt m46_ok
def c47 : List Memo := m46 :: c46
theorem c47_sound [Val] : ∀ m ∈ c47, m.Sound Tryz.prog 12 (tabK tabs []) := sound_cons m46_sound c46_sound

def a47 : List AV := [.int .u8 42]
def m47 : Memo := ⟨136, a47, .bool false, [], 12⟩
set_option maxRecDepth 1000000 in
theorem m47_ok : m47.ok Tryz.prog { tabK tabs [] with hk := hkH 12 (hpH (decP []) 39) (tabM c47) } 100000 12 (tabSt 12 tabs) = true := by kernel_rfl
theorem m47_sound [Val] : m47.Sound Tryz.prog 12 (tabK tabs []) := tabH_memo (hpH_ok head) c47_sound folm tabs_lt m47_ok
def c48 : List Memo := m47 :: c47
theorem c48_sound [Val] : ∀ m ∈ c48, m.Sound Tryz.prog 12 (tabK tabs []) := sound_cons m47_sound c47_sound

def a48 : List AV := [.int .u8 45]
def m48 : Memo := ⟨136, a48, .bool false, [], 12⟩
set_option maxRecDepth 1000000 in
theorem m48_ok : m48.ok Tryz.prog { tabK tabs [] with hk := hkH 12 (hpH (decP []) 39) (tabM c48) } 100000 12 (tabSt 12 tabs) = true := by kernel_rfl
theorem m48_sound [Val] : m48.Sound Tryz.prog 12 (tabK tabs []) := tabH_memo (hpH_ok head) c48_sound folm tabs_lt m48_ok
def c49 : List Memo := m48 :: c48
theorem c49_sound [Val] : ∀ m ∈ c49, m.Sound Tryz.prog 12 (tabK tabs []) := sound_cons m48_sound c48_sound

def a49 : List AV := [strN [42,32,47,32,37,32,43,32,45,32,60,60,32,62,62,32,60,32,62,32,60,61,32,62,61,32,61,61,32,33,61,32,38,32,94,32,124,32,38,38,32,124,124], strN [42]]
def m49 : Memo := ⟨220, a49, .bool true, [], 13⟩
set_option maxRecDepth 1000000 in
theorem m49_ok : m49.ok Tryz.prog { tabK tabs [] with hk := hkH 12 (hpH (decP []) 39) (tabM c49) } 100000 12 (tabSt 12 tabs) = true := by kernel_rfl
theorem m49_sound [Val] : m49.Sound Tryz.prog 12 (tabK tabs []) := tabH_memo (hpH_ok head) c49_sound folm tabs_lt m49_ok
def c50 : List Memo := m49 :: c49
theorem c50_sound [Val] : ∀ m ∈ c50, m.Sound Tryz.prog 12 (tabK tabs []) := sound_cons m49_sound c49_sound

def a50 : List AV := [strN [42,32,47,32,37,32,43,32,45,32,60,60,32,62,62,32,60,32,62,32,60,61,32,62,61,32,61,61,32,33,61,32,38,32,94,32,124,32,38,38,32,124,124], strN [45]]
def m50 : Memo := ⟨220, a50, .bool true, [], 13⟩
set_option maxRecDepth 1000000 in
theorem m50_ok : m50.ok Tryz.prog { tabK tabs [] with hk := hkH 12 (hpH (decP []) 39) (tabM c50) } 100000 12 (tabSt 12 tabs) = true := by kernel_rfl
theorem m50_sound [Val] : m50.Sound Tryz.prog 12 (tabK tabs []) := tabH_memo (hpH_ok head) c50_sound folm tabs_lt m50_ok
def c51 : List Memo := m50 :: c50
theorem c51_sound [Val] : ∀ m ∈ c51, m.Sound Tryz.prog 12 (tabK tabs []) := sound_cons m50_sound c50_sound

def a51 : List AV := [.int .u8 112]
def m51 : Memo := ⟨136, a51, .bool true, [], 12⟩
set_option maxRecDepth 1000000 in
theorem m51_ok : m51.ok Tryz.prog { tabK tabs [] with hk := hkH 12 (hpH (decP []) 39) (tabM c51) } 100000 12 (tabSt 12 tabs) = true := by kernel_rfl
theorem m51_sound [Val] : m51.Sound Tryz.prog 12 (tabK tabs []) := tabH_memo (hpH_ok head) c51_sound folm tabs_lt m51_ok
def c52 : List Memo := m51 :: c51
theorem c52_sound [Val] : ∀ m ∈ c52, m.Sound Tryz.prog 12 (tabK tabs []) := sound_cons m51_sound c51_sound

def a52 : List AV := [strN [112]]
def m52 : Memo := ⟨87, a52, .bool false, [], 13⟩
set_option maxRecDepth 1000000 in
theorem m52_ok : m52.ok Tryz.prog { tabK tabs [] with hk := hkH 12 (hpH (decP []) 39) (tabM c52) } 100000 12 (tabSt 12 tabs) = true := by kernel_rfl
theorem m52_sound [Val] : m52.Sound Tryz.prog 12 (tabK tabs []) := tabH_memo (hpH_ok head) c52_sound folm tabs_lt m52_ok
def c53 : List Memo := m52 :: c52
theorem c53_sound [Val] : ∀ m ∈ c53, m.Sound Tryz.prog 12 (tabK tabs []) := sound_cons m52_sound c52_sound

def a53 : List AV := [.int .u8 61]
def m53 : Memo := ⟨136, a53, .bool false, [], 12⟩
set_option maxRecDepth 1000000 in
theorem m53_ok : m53.ok Tryz.prog { tabK tabs [] with hk := hkH 12 (hpH (decP []) 39) (tabM c53) } 100000 12 (tabSt 12 tabs) = true := by kernel_rfl
theorem m53_sound [Val] : m53.Sound Tryz.prog 12 (tabK tabs []) := tabH_memo (hpH_ok head) c53_sound folm tabs_lt m53_ok
def c54 : List Memo := m53 :: c53
theorem c54_sound [Val] : ∀ m ∈ c54, m.Sound Tryz.prog 12 (tabK tabs []) := sound_cons m53_sound c53_sound

def a54 : List AV := [strN [112]]
def m54 : Memo := ⟨104, a54, .bool true, [], 21⟩
set_option maxRecDepth 1000000 in
theorem m54_ok : m54.ok Tryz.prog { tabK tabs [] with hk := hkH 12 (hpH (decP []) 39) (tabM c54) } 100000 12 (tabSt 12 tabs) = true := by kernel_rfl
theorem m54_sound [Val] : m54.Sound Tryz.prog 12 (tabK tabs []) := tabH_memo (hpH_ok head) c54_sound folm tabs_lt m54_ok
def c55 : List Memo := m54 :: c54
theorem c55_sound [Val] : ∀ m ∈ c55, m.Sound Tryz.prog 12 (tabK tabs []) := sound_cons m54_sound c54_sound

def a55 : List AV := [strN [45,32,126,32,33,32,42,32,38,32,43,43,32,45,45]]
def m55 : Memo := ⟨195, a55, .slc 12 0 0 7 (some 7) 1, [(12, .box [strN [45], strN [126], strN [33], strN [42], strN [38], strN [43,43], strN [45,45]] 9)], 13⟩
set_option maxRecDepth 1000000 in
theorem m55_ok : m55.ok Tryz.prog { tabK tabs [] with hk := hkH 12 (hpH (decP []) 39) (tabM c55) } 100000 12 (tabSt 12 tabs) = true := by kernel_rfl
theorem m55_sound [Val] : m55.Sound Tryz.prog 12 (tabK tabs []) := tabH_memo (hpH_ok head) c55_sound folm tabs_lt m55_ok
def c56 : List Memo := m55 :: c55
theorem c56_sound [Val] : ∀ m ∈ c56, m.Sound Tryz.prog 12 (tabK tabs []) := sound_cons m55_sound c55_sound

def a56 : List AV := [strN [45,32,126,32,33,32,42,32,38,32,43,43,32,45,45], strN [38]]
def m56 : Memo := ⟨220, a56, .bool true, [], 13⟩
set_option maxRecDepth 1000000 in
theorem m56_ok : m56.ok Tryz.prog { tabK tabs [] with hk := hkH 12 (hpH (decP []) 39) (tabM c56) } 100000 12 (tabSt 12 tabs) = true := by kernel_rfl
theorem m56_sound [Val] : m56.Sound Tryz.prog 12 (tabK tabs []) := tabH_memo (hpH_ok head) c56_sound folm tabs_lt m56_ok
def c57 : List Memo := m56 :: c56
theorem c57_sound [Val] : ∀ m ∈ c57, m.Sound Tryz.prog 12 (tabK tabs []) := sound_cons m56_sound c56_sound

def a57 : List AV := [strN [61,32,43,61,32,45,61,32,42,61,32,47,61,32,37,61,32,38,61,32,124,61,32,94,61,32,60,60,61,32,62,62,61], strN [61]]
def m57 : Memo := ⟨220, a57, .bool true, [], 13⟩
set_option maxRecDepth 1000000 in
theorem m57_ok : m57.ok Tryz.prog { tabK tabs [] with hk := hkH 12 (hpH (decP []) 39) (tabM c57) } 100000 12 (tabSt 12 tabs) = true := by kernel_rfl
theorem m57_sound [Val] : m57.Sound Tryz.prog 12 (tabK tabs []) := tabH_memo (hpH_ok head) c57_sound folm tabs_lt m57_ok
def c58 : List Memo := m57 :: c57
theorem c58_sound [Val] : ∀ m ∈ c58, m.Sound Tryz.prog 12 (tabK tabs []) := sound_cons m57_sound c57_sound

def a58 : List AV := [strN [45,32,126,32,33,32,42,32,38,32,43,43,32,45,45], strN [42]]
def m58 : Memo := ⟨220, a58, .bool true, [], 13⟩
set_option maxRecDepth 1000000 in
theorem m58_ok : m58.ok Tryz.prog { tabK tabs [] with hk := hkH 12 (hpH (decP []) 39) (tabM c58) } 100000 12 (tabSt 12 tabs) = true := by kernel_rfl
theorem m58_sound [Val] : m58.Sound Tryz.prog 12 (tabK tabs []) := tabH_memo (hpH_ok head) c58_sound folm tabs_lt m58_ok
def c59 : List Memo := m58 :: c58
theorem c59_sound [Val] : ∀ m ∈ c59, m.Sound Tryz.prog 12 (tabK tabs []) := sound_cons m58_sound c58_sound

def a59 : List AV := [strN [108,108,115,115,115], strN [115,108,109]]
def m59 : Memo := ⟨222, a59, strN [], [], 14⟩
set_option maxRecDepth 1000000 in
theorem m59_ok : m59.ok Tryz.prog { tabK tabs [] with hk := hkH 12 (hpH (decP []) 39) (tabM c59) } 100000 12 (tabSt 12 tabs) = true := by kernel_rfl
theorem m59_sound [Val] : m59.Sound Tryz.prog 12 (tabK tabs []) := tabH_memo (hpH_ok head) c59_sound folm tabs_lt m59_ok
def c60 : List Memo := m59 :: c59
theorem c60_sound [Val] : ∀ m ∈ c60, m.Sound Tryz.prog 12 (tabK tabs []) := sound_cons m59_sound c59_sound

def a60 : List AV := [.agg [.int .i64 5, .int .i64 0, .nils]]
def m60 : Memo := ⟨179, a60, .tup [.agg [.int .i64 5, .int .i64 0, .slc 16 1 0 1 none 1], .int .i64 0], [(16, .arr [.int .i64 (-1)] 0 0 1 2 3)], 17⟩
set_option maxRecDepth 1000000 in
theorem m60_ok : m60.ok Tryz.prog { tabK tabs [] with hk := hkH 12 (hpH (decP []) 39) (tabM c60) } 100000 12 (tabSt 12 tabs) = true := by kernel_rfl
theorem m60_sound [Val] : m60.Sound Tryz.prog 12 (tabK tabs []) := tabH_memo (hpH_ok head) c60_sound folm tabs_lt m60_ok
def c61 : List Memo := m60 :: c60
theorem c61_sound [Val] : ∀ m ∈ c61, m.Sound Tryz.prog 12 (tabK tabs []) := sound_cons m60_sound c60_sound

def a61 : List AV := [strN [48]]
def m61 : Memo := ⟨88, a61, .tup [.int .i64 8, strN [48], strN []], [], 14⟩
set_option maxRecDepth 1000000 in
theorem m61_ok : m61.ok Tryz.prog { tabK tabs [] with hk := hkH 12 (hpH (decP []) 39) (tabM c61) } 100000 12 (tabSt 12 tabs) = true := by kernel_rfl
theorem m61_sound [Val] : m61.Sound Tryz.prog 12 (tabK tabs []) := tabH_memo (hpH_ok head) c61_sound folm tabs_lt m61_ok
def c62 : List Memo := m61 :: c61
theorem c62_sound [Val] : ∀ m ∈ c62, m.Sound Tryz.prog 12 (tabK tabs []) := sound_cons m61_sound c61_sound

def a62 : List AV := [strN [48], .int .i64 8, .int .i64 64]
def m62 : Memo := ⟨90, a62, .tup [.int .u64 0, .nili], [], 13⟩
set_option maxRecDepth 1000000 in
theorem m62_ok : m62.ok Tryz.prog { tabK tabs [] with hk := hkH 12 (hpH (decP []) 39) (tabM c62) } 100000 12 (tabSt 12 tabs) = true := by kernel_rfl
theorem m62_sound [Val] : m62.Sound Tryz.prog 12 (tabK tabs []) := tabH_memo (hpH_ok head) c62_sound folm tabs_lt m62_ok
def c63 : List Memo := m62 :: c62
theorem c63_sound [Val] : ∀ m ∈ c63, m.Sound Tryz.prog 12 (tabK tabs []) := sound_cons m62_sound c62_sound

def a63 : List AV := [.int .u64 0, .int .i64 7]
def m63 : Memo := ⟨246, a63, .int .u64 0, [], 13⟩
set_option maxRecDepth 1000000 in
theorem m63_ok : m63.ok Tryz.prog { tabK tabs [] with hk := hkH 12 (hpH (decP []) 39) (tabM c63) } 100000 12 (tabSt 12 tabs) = true := by kernel_rfl
theorem m63_sound [Val] : m63.Sound Tryz.prog 12 (tabK tabs []) := tabH_memo (hpH_ok head) c63_sound folm tabs_lt m63_ok
def c64 : List Memo := m63 :: c63
theorem c64_sound [Val] : ∀ m ∈ c64, m.Sound Tryz.prog 12 (tabK tabs []) := sound_cons m63_sound c63_sound

def a64 : List AV := [.int .u64 0, .int .i64 5]
def m64 : Memo := ⟨246, a64, .int .u64 0, [], 13⟩
set_option maxRecDepth 1000000 in
theorem m64_ok : m64.ok Tryz.prog { tabK tabs [] with hk := hkH 12 (hpH (decP []) 39) (tabM c64) } 100000 12 (tabSt 12 tabs) = true := by kernel_rfl
theorem m64_sound [Val] : m64.Sound Tryz.prog 12 (tabK tabs []) := tabH_memo (hpH_ok head) c64_sound folm tabs_lt m64_ok
def c65 : List Memo := m64 :: c64
theorem c65_sound [Val] : ∀ m ∈ c65, m.Sound Tryz.prog 12 (tabK tabs []) := sound_cons m64_sound c64_sound

def a65 : List AV := [strN [45,48,59,125]]
def m65 : Memo := ⟨92, a65, .int .i64 1, [], 13⟩
set_option maxRecDepth 1000000 in
theorem m65_ok : m65.ok Tryz.prog { tabK tabs [] with hk := hkH 12 (hpH (decP []) 39) (tabM c65) } 100000 12 (tabSt 12 tabs) = true := by kernel_rfl
theorem m65_sound [Val] : m65.Sound Tryz.prog 12 (tabK tabs []) := tabH_memo (hpH_ok head) c65_sound folm tabs_lt m65_ok
def c66 : List Memo := m65 :: c65
theorem c66_sound [Val] : ∀ m ∈ c66, m.Sound Tryz.prog 12 (tabK tabs []) := sound_cons m65_sound c65_sound

def a66 : List AV := [strN [45], .int .u64 0, .int .u64 0, .int .i64 5]
def m66 : Memo := ⟨349, a66, .int .u64 0, [], 16⟩
set_option maxRecDepth 1000000 in
theorem m66_ok : m66.ok Tryz.prog { tabK tabs [] with hk := hkH 12 (hpH (decP []) 39) (tabM c66) } 100000 12 (tabSt 12 tabs) = true := by kernel_rfl
theorem m66_sound [Val] : m66.Sound Tryz.prog 12 (tabK tabs []) := tabH_memo (hpH_ok head) c66_sound folm tabs_lt m66_ok
def c67 : List Memo := m66 :: c66
theorem c67_sound [Val] : ∀ m ∈ c67, m.Sound Tryz.prog 12 (tabK tabs []) := sound_cons m66_sound c66_sound
end Go.Proofs.YtelhnjgcijjngaaGreatDoor
