/-
  Calls whose outcome is known, each shown by the evaluator with the earlier ones and the tables at hand; part 1. No condition.
-/
import Derived.Test.YtbbnjiceenjhcaaGreatDoorCalls0
set_option linter.all false
namespace Go.Proofs.YtbbnjiceenjhcaaGreatDoor
open Go.Tw

def a50 : List AV := [strN [105,110,116,32,109,97,105,110,40,118,111,105,100,41,123,105,110,116,32,97,59,97,61,103,101,116,98,40,41,59,119,104,105,108,101,40,97,41,123,112,117,116,98,40,97,41,59,97,45,45,59,125,114,101,116,117,114,110,32,48,59,125]]
def m50 : Memo := ⟨80, a50, .tup [.slc 19 32 0 33 none 6, .agg [.int .i64 0, .int .i64 0]], [(19, .arr [.int .i64 2, .int .i64 0, .int .i64 3, strN [105,110,116], .int .i64 0, .nils, .int .i64 1, .int .i64 4, .int .i64 4, strN [109,97,105,110], .int .i64 0, .nils, .int .i64 6, .int .i64 8, .int .i64 1, strN [40], .int .i64 0, .nils, .int .i64 2, .int .i64 9, .int .i64 4, strN [118,111,105,100], .int .i64 0, .nils, .int .i64 6, .int .i64 13, .int .i64 1, strN [41], .int .i64 0, .nils, .int .i64 6, .int .i64 14, .int .i64 1, strN [123], .int .i64 0, .nils, .int .i64 2, .int .i64 15, .int .i64 3, strN [105,110,116], .int .i64 0, .nils, .int .i64 1, .int .i64 19, .int .i64 1, strN [97], .int .i64 0, .nils, .int .i64 6, .int .i64 20, .int .i64 1, strN [59], .int .i64 0, .nils, .int .i64 1, .int .i64 21, .int .i64 1, strN [97], .int .i64 0, .nils, .int .i64 6, .int .i64 22, .int .i64 1, strN [61], .int .i64 0, .nils, .int .i64 1, .int .i64 23, .int .i64 4, strN [103,101,116,98], .int .i64 0, .nils, .int .i64 6, .int .i64 27, .int .i64 1, strN [40], .int .i64 0, .nils, .int .i64 6, .int .i64 28, .int .i64 1, strN [41], .int .i64 0, .nils, .int .i64 6, .int .i64 29, .int .i64 1, strN [59], .int .i64 0, .nils, .int .i64 2, .int .i64 30, .int .i64 5, strN [119,104,105,108,101], .int .i64 0, .nils, .int .i64 6, .int .i64 35, .int .i64 1, strN [40], .int .i64 0, .nils, .int .i64 1, .int .i64 36, .int .i64 1, strN [97], .int .i64 0, .nils, .int .i64 6, .int .i64 37, .int .i64 1, strN [41], .int .i64 0, .nils, .int .i64 6, .int .i64 38, .int .i64 1, strN [123], .int .i64 0, .nils, .int .i64 1, .int .i64 39, .int .i64 4, strN [112,117,116,98], .int .i64 0, .nils, .int .i64 6, .int .i64 43, .int .i64 1, strN [40], .int .i64 0, .nils, .int .i64 1, .int .i64 44, .int .i64 1, strN [97], .int .i64 0, .nils, .int .i64 6, .int .i64 45, .int .i64 1, strN [41], .int .i64 0, .nils, .int .i64 6, .int .i64 46, .int .i64 1, strN [59], .int .i64 0, .nils, .int .i64 1, .int .i64 47, .int .i64 1, strN [97], .int .i64 0, .nils, .int .i64 6, .int .i64 48, .int .i64 2, strN [45,45], .int .i64 0, .nils, .int .i64 6, .int .i64 50, .int .i64 1, strN [59], .int .i64 0, .nils, .int .i64 6, .int .i64 51, .int .i64 1, strN [125], .int .i64 0, .nils, .int .i64 2, .int .i64 52, .int .i64 6, strN [114,101,116,117,114,110], .int .i64 0, .nils, .int .i64 3, .int .i64 59, .int .i64 1, strN [], .int .i64 0, .nils, .int .i64 6, .int .i64 60, .int .i64 1, strN [59], .int .i64 0, .nils, .int .i64 6, .int .i64 61, .int .i64 1, strN [125], .int .i64 0, .nils] 0 6 1 33 297)], 163⟩
set_option maxRecDepth 1000000 in
theorem m50_ok : m50.ok Tryz.prog { tabCfg tabs with hk := bothHk 12 (tabM c50) (tabH d0) } 100000 12 (tabSt 12 tabs) = true := by kernel_rfl
theorem m50_sound : m50.Sound Tryz.prog 12 (tabCfg tabs) := memo_both c50_sound d0_sound (by kernel_rfl) tabs_lt m50_ok
def c51 : List Memo := m50 :: c50
theorem c51_sound : ∀ m ∈ c51, m.Sound Tryz.prog 12 (tabCfg tabs) := sound_cons m50_sound c50_sound

def a51 : List AV := [strN [105,110,116,32,109,97,105,110,40,118,111,105,100,41,123,105,110,116,32,97,59,97,61,103,101,116,98,40,41,59,119,104,105,108,101,40,97,41,123,112,117,116,98,40,97,41,59,97,45,45,59,125,114,101,116,117,114,110,32,48,59,125]]
def m51 : Memo := ⟨47, a51, .tup [.agg [.nils, .slc 335 18 0 19 none 8], .agg [.int .i64 0, .int .i64 0]], [(335, .arr [.int .i64 30, .int .i64 15, strN [97], .int .i64 0, .int .i64 5, .int .i64 0, .nils, .nils, .int .i64 3, .int .i64 21, strN [97], .int .i64 0, .int .i64 0, .int .i64 0, .nils, .nils, .int .i64 9, .int .i64 23, strN [103,101,116,98], .int .i64 0, .int .i64 0, .int .i64 0, .nils, .nils, .int .i64 7, .int .i64 21, strN [61], .int .i64 0, .int .i64 0, .int .i64 0, .nils, .slc 541 0 0 2 (some 2) 1, .int .i64 15, .int .i64 21, strN [], .int .i64 0, .int .i64 0, .int .i64 0, .nils, .slc 544 0 0 1 (some 1) 1, .int .i64 3, .int .i64 36, strN [97], .int .i64 0, .int .i64 0, .int .i64 0, .nils, .nils, .int .i64 3, .int .i64 44, strN [97], .int .i64 0, .int .i64 0, .int .i64 0, .nils, .nils, .int .i64 9, .int .i64 39, strN [112,117,116,98], .int .i64 0, .int .i64 0, .int .i64 0, .nils, .slc 824 0 0 1 none 1, .int .i64 15, .int .i64 39, strN [], .int .i64 0, .int .i64 0, .int .i64 0, .nils, .slc 870 0 0 1 (some 1) 1, .int .i64 3, .int .i64 47, strN [97], .int .i64 0, .int .i64 0, .int .i64 0, .nils, .nils, .int .i64 5, .int .i64 47, strN [45,45], .int .i64 0, .int .i64 0, .int .i64 0, .nils, .slc 963 0 0 1 (some 1) 1, .int .i64 15, .int .i64 47, strN [], .int .i64 0, .int .i64 0, .int .i64 0, .nils, .slc 1013 0 0 1 (some 1) 1, .int .i64 17, .int .i64 38, strN [], .int .i64 0, .int .i64 0, .int .i64 0, .nils, .slc 877 1 0 2 none 1, .int .i64 19, .int .i64 30, strN [], .int .i64 0, .int .i64 0, .int .i64 0, .nils, .slc 1028 0 0 2 (some 2) 1, .int .i64 1, .int .i64 59, strN [], .int .i64 0, .int .i64 0, .int .i64 0, .nils, .nils, .int .i64 22, .int .i64 52, strN [], .int .i64 0, .int .i64 0, .int .i64 0, .nils, .slc 1138 0 0 1 none 1, .int .i64 17, .int .i64 14, strN [], .int .i64 0, .int .i64 0, .int .i64 0, .nils, .slc 337 3 0 4 none 1, .int .i64 32, .int .i64 0, strN [109,97,105,110], .int .i64 0, .int .i64 5, .int .i64 0, .nils, .slc 1154 0 0 1 none 1, .int .i64 34, .int .i64 0, strN [], .int .i64 0, .int .i64 0, .int .i64 0, .nils, .slc 1158 0 0 1 none 1] 0 8 1 19 304), (337, .arr [.int .i64 0, .int .i64 4, .int .i64 13, .int .i64 15] 0 1 1 4 3), (541, .box [.int .i64 1, .int .i64 2] 3), (544, .box [.int .i64 3] 3), (824, .arr [.int .i64 6] 0 1 1 1 3), (870, .box [.int .i64 7] 3), (877, .arr [.int .i64 8, .int .i64 11] 0 1 1 2 3), (963, .box [.int .i64 9] 3), (1013, .box [.int .i64 10] 3), (1028, .box [.int .i64 5, .int .i64 12] 3), (1138, .arr [.int .i64 14] 0 1 1 1 3), (1154, .arr [.int .i64 16] 0 1 1 1 3), (1158, .arr [.int .i64 17] 0 1 1 1 3)], 1161⟩
set_option maxRecDepth 1000000 in
theorem m51_ok : m51.ok Tryz.prog { tabCfg tabs with hk := bothHk 12 (tabM c51) (tabH d0) } 100000 12 (tabSt 12 tabs) = true := by kernel_rfl
theorem m51_sound : m51.Sound Tryz.prog 12 (tabCfg tabs) := memo_both c51_sound d0_sound (by kernel_rfl) tabs_lt m51_ok
def c52 : List Memo := m51 :: c51
theorem c52_sound : ∀ m ∈ c52, m.Sound Tryz.prog 12 (tabCfg tabs) := sound_cons m51_sound c51_sound

def a52 : List AV := [strN [97]]
def m52 : Memo := ⟨291, a52, .bool true, [], 21⟩
set_option maxRecDepth 1000000 in
theorem m52_ok : m52.ok Tryz.prog { tabCfg tabs with hk := bothHk 12 (tabM c52) (tabH d0) } 100000 12 (tabSt 12 tabs) = true := by kernel_rfl
theorem m52_sound : m52.Sound Tryz.prog 12 (tabCfg tabs) := memo_both c52_sound d0_sound (by kernel_rfl) tabs_lt m52_ok
def c53 : List Memo := m52 :: c52
theorem c53_sound : ∀ m ∈ c53, m.Sound Tryz.prog 12 (tabCfg tabs) := sound_cons m52_sound c52_sound

def a53 : List AV := [strN [103,101,116,98]]
def m53 : Memo := ⟨291, a53, .bool true, [], 21⟩
set_option maxRecDepth 1000000 in
theorem m53_ok : m53.ok Tryz.prog { tabCfg tabs with hk := bothHk 12 (tabM c53) (tabH d0) } 100000 12 (tabSt 12 tabs) = true := by kernel_rfl
theorem m53_sound : m53.Sound Tryz.prog 12 (tabCfg tabs) := memo_both c53_sound d0_sound (by kernel_rfl) tabs_lt m53_ok
def c54 : List Memo := m53 :: c53
theorem c54_sound : ∀ m ∈ c54, m.Sound Tryz.prog 12 (tabCfg tabs) := sound_cons m53_sound c53_sound

def a54 : List AV := [strN [61,32,43,61,32,45,61,32,42,61,32,47,61,32,37,61,32,38,61,32,124,61,32,94,61,32,60,60,61,32,62,62,61], strN [61]]
def m54 : Memo := ⟨522, a54, .bool true, [], 13⟩
set_option maxRecDepth 1000000 in
theorem m54_ok : m54.ok Tryz.prog { tabCfg tabs with hk := bothHk 12 (tabM c54) (tabH d0) } 100000 12 (tabSt 12 tabs) = true := by kernel_rfl
theorem m54_sound : m54.Sound Tryz.prog 12 (tabCfg tabs) := memo_both c54_sound d0_sound (by kernel_rfl) tabs_lt m54_ok
def c55 : List Memo := m54 :: c54
theorem c55_sound : ∀ m ∈ c55, m.Sound Tryz.prog 12 (tabCfg tabs) := sound_cons m54_sound c54_sound

def a55 : List AV := [strN [112,117,116,98]]
def m55 : Memo := ⟨291, a55, .bool true, [], 21⟩
set_option maxRecDepth 1000000 in
theorem m55_ok : m55.ok Tryz.prog { tabCfg tabs with hk := bothHk 12 (tabM c55) (tabH d0) } 100000 12 (tabSt 12 tabs) = true := by kernel_rfl
theorem m55_sound : m55.Sound Tryz.prog 12 (tabCfg tabs) := memo_both c55_sound d0_sound (by kernel_rfl) tabs_lt m55_ok
def c56 : List Memo := m55 :: c55
theorem c56_sound : ∀ m ∈ c56, m.Sound Tryz.prog 12 (tabCfg tabs) := sound_cons m55_sound c55_sound

def a56 : List AV := [strN [43,43,32,45,45], strN [45,45]]
def m56 : Memo := ⟨522, a56, .bool true, [], 13⟩
set_option maxRecDepth 1000000 in
theorem m56_ok : m56.ok Tryz.prog { tabCfg tabs with hk := bothHk 12 (tabM c56) (tabH d0) } 100000 12 (tabSt 12 tabs) = true := by kernel_rfl
theorem m56_sound : m56.Sound Tryz.prog 12 (tabCfg tabs) := memo_both c56_sound d0_sound (by kernel_rfl) tabs_lt m56_ok
def c57 : List Memo := m56 :: c56
theorem c57_sound : ∀ m ∈ c57, m.Sound Tryz.prog 12 (tabCfg tabs) := sound_cons m56_sound c56_sound

def a57 : List AV := [strN [108,115,115,115], strN [115,108,109]]
def m57 : Memo := ⟨524, a57, strN [], [], 14⟩
set_option maxRecDepth 1000000 in
theorem m57_ok : m57.ok Tryz.prog { tabCfg tabs with hk := bothHk 12 (tabM c57) (tabH d0) } 100000 12 (tabSt 12 tabs) = true := by kernel_rfl
theorem m57_sound : m57.Sound Tryz.prog 12 (tabCfg tabs) := memo_both c57_sound d0_sound (by kernel_rfl) tabs_lt m57_ok
def c58 : List Memo := m57 :: c57
theorem c58_sound : ∀ m ∈ c58, m.Sound Tryz.prog 12 (tabCfg tabs) := sound_cons m57_sound c57_sound

def a58 : List AV := [.agg [.int .i64 23, .int .i64 0, .int .i64 0, .int .i64 0, .int .i64 0, .nils]]
def m58 : Memo := ⟨343, a58, .bool true, [], 17⟩
set_option maxRecDepth 1000000 in
theorem m58_ok : m58.ok Tryz.prog { tabCfg tabs with hk := bothHk 12 (tabM c58) (tabH d0) } 100000 12 (tabSt 12 tabs) = true := by kernel_rfl
theorem m58_sound : m58.Sound Tryz.prog 12 (tabCfg tabs) := memo_both c58_sound d0_sound (by kernel_rfl) tabs_lt m58_ok
def c59 : List Memo := m58 :: c58
theorem c59_sound : ∀ m ∈ c59, m.Sound Tryz.prog 12 (tabCfg tabs) := sound_cons m58_sound c58_sound

def a59 : List AV := [.agg [.int .i64 23, .int .i64 0, .int .i64 0, .int .i64 0, .int .i64 0, .nils]]
def m59 : Memo := ⟨240, a59, .tup [.slc 18 0 0 1 none 1, .nils, .int .i64 0], [(18, .arr [.int .i64 0] 0 1 1 1 3)], 19⟩
set_option maxRecDepth 1000000 in
theorem m59_ok : m59.ok Tryz.prog { tabCfg tabs with hk := bothHk 12 (tabM c59) (tabH d0) } 100000 12 (tabSt 12 tabs) = true := by kernel_rfl
theorem m59_sound : m59.Sound Tryz.prog 12 (tabCfg tabs) := memo_both c59_sound d0_sound (by kernel_rfl) tabs_lt m59_ok
def c60 : List Memo := m59 :: c59
theorem c60_sound : ∀ m ∈ c60, m.Sound Tryz.prog 12 (tabCfg tabs) := sound_cons m59_sound c59_sound

def a60 : List AV := [.agg [.int .i64 23, .int .i64 0, .int .i64 0, .int .i64 0, .int .i64 0, .nils]]
def m60 : Memo := ⟨202, a60, .int .i64 0, [], 32⟩
set_option maxRecDepth 1000000 in
theorem m60_ok : m60.ok Tryz.prog { tabCfg tabs with hk := bothHk 12 (tabM c60) (tabH d0) } 100000 12 (tabSt 12 tabs) = true := by kernel_rfl
theorem m60_sound : m60.Sound Tryz.prog 12 (tabCfg tabs) := memo_both c60_sound d0_sound (by kernel_rfl) tabs_lt m60_ok
def c61 : List Memo := m60 :: c60
theorem c61_sound : ∀ m ∈ c61, m.Sound Tryz.prog 12 (tabCfg tabs) := sound_cons m60_sound c60_sound

def a61 : List AV := [.agg [.int .i64 23, .int .i64 0, .int .i64 0, .int .i64 0, .int .i64 0, .nils]]
def m61 : Memo := ⟨102, a61, .tup [.slc 40 1 0 4 none 1, .int .i64 0], [(40, .arr [.int .u8 23, .int .u8 0, .int .u8 0, .int .u8 0] 0 2 1 2 5)], 44⟩
set_option maxRecDepth 1000000 in
theorem m61_ok : m61.ok Tryz.prog { tabCfg tabs with hk := bothHk 12 (tabM c61) (tabH d0) } 100000 12 (tabSt 12 tabs) = true := by kernel_rfl
theorem m61_sound : m61.Sound Tryz.prog 12 (tabCfg tabs) := memo_both c61_sound d0_sound (by kernel_rfl) tabs_lt m61_ok
def c62 : List Memo := m61 :: c61
theorem c62_sound : ∀ m ∈ c62, m.Sound Tryz.prog 12 (tabCfg tabs) := sound_cons m61_sound c61_sound

def a62 : List AV := [.agg [.int .i64 23, .int .i64 0, .int .i64 0, .int .i64 0, .int .i64 0, .nils]]
def m62 : Memo := ⟨57, a62, .int .i64 4, [], 45⟩
set_option maxRecDepth 1000000 in
theorem m62_ok : m62.ok Tryz.prog { tabCfg tabs with hk := bothHk 12 (tabM c62) (tabH d0) } 100000 12 (tabSt 12 tabs) = true := by kernel_rfl
theorem m62_sound : m62.Sound Tryz.prog 12 (tabCfg tabs) := memo_both c62_sound d0_sound (by kernel_rfl) tabs_lt m62_ok
def c63 : List Memo := m62 :: c62
theorem c63_sound : ∀ m ∈ c63, m.Sound Tryz.prog 12 (tabCfg tabs) := sound_cons m62_sound c62_sound

def a63 : List AV := [.agg [.int .i64 30, .int .i64 1, .int .i64 0, .int .i64 0, .int .i64 0, .nils]]
def m63 : Memo := ⟨240, a63, .tup [.slc 18 0 0 1 none 1, .nils, .int .i64 1], [(18, .arr [.int .i64 1] 0 1 1 1 3)], 19⟩
set_option maxRecDepth 1000000 in
theorem m63_ok : m63.ok Tryz.prog { tabCfg tabs with hk := bothHk 12 (tabM c63) (tabH d0) } 100000 12 (tabSt 12 tabs) = true := by kernel_rfl
theorem m63_sound : m63.Sound Tryz.prog 12 (tabCfg tabs) := memo_both c63_sound d0_sound (by kernel_rfl) tabs_lt m63_ok
def c64 : List Memo := m63 :: c63
theorem c64_sound : ∀ m ∈ c64, m.Sound Tryz.prog 12 (tabCfg tabs) := sound_cons m63_sound c63_sound

def a64 : List AV := [.agg [.int .i64 30, .int .i64 1, .int .i64 0, .int .i64 0, .int .i64 0, .nils]]
def m64 : Memo := ⟨202, a64, .int .i64 0, [], 32⟩
set_option maxRecDepth 1000000 in
theorem m64_ok : m64.ok Tryz.prog { tabCfg tabs with hk := bothHk 12 (tabM c64) (tabH d0) } 100000 12 (tabSt 12 tabs) = true := by kernel_rfl
theorem m64_sound : m64.Sound Tryz.prog 12 (tabCfg tabs) := memo_both c64_sound d0_sound (by kernel_rfl) tabs_lt m64_ok
def c65 : List Memo := m64 :: c64
theorem c65_sound : ∀ m ∈ c65, m.Sound Tryz.prog 12 (tabCfg tabs) := sound_cons m64_sound c64_sound

def a65 : List AV := [.agg [.int .i64 30, .int .i64 1, .int .i64 0, .int .i64 0, .int .i64 0, .nils]]
def m65 : Memo := ⟨102, a65, .tup [.slc 40 0 0 2 none 1, .int .i64 0], [(40, .arr [.int .u8 30, .int .u8 1] 0 2 1 1 5)], 41⟩
set_option maxRecDepth 1000000 in
theorem m65_ok : m65.ok Tryz.prog { tabCfg tabs with hk := bothHk 12 (tabM c65) (tabH d0) } 100000 12 (tabSt 12 tabs) = true := by kernel_rfl
theorem m65_sound : m65.Sound Tryz.prog 12 (tabCfg tabs) := memo_both c65_sound d0_sound (by kernel_rfl) tabs_lt m65_ok
def c66 : List Memo := m65 :: c65
theorem c66_sound : ∀ m ∈ c66, m.Sound Tryz.prog 12 (tabCfg tabs) := sound_cons m65_sound c65_sound

def a66 : List AV := [.agg [.int .i64 22, .int .i64 0, .int .i64 1, .int .i64 0, .int .i64 4, .nils]]
def m66 : Memo := ⟨343, a66, .bool true, [], 17⟩
set_option maxRecDepth 1000000 in
theorem m66_ok : m66.ok Tryz.prog { tabCfg tabs with hk := bothHk 12 (tabM c66) (tabH d0) } 100000 12 (tabSt 12 tabs) = true := by kernel_rfl
theorem m66_sound : m66.Sound Tryz.prog 12 (tabCfg tabs) := memo_both c66_sound d0_sound (by kernel_rfl) tabs_lt m66_ok
def c67 : List Memo := m66 :: c66
theorem c67_sound : ∀ m ∈ c67, m.Sound Tryz.prog 12 (tabCfg tabs) := sound_cons m66_sound c66_sound

def a67 : List AV := [.agg [.int .i64 22, .int .i64 0, .int .i64 1, .int .i64 0, .int .i64 4, .nils]]
def m67 : Memo := ⟨240, a67, .tup [.slc 18 1 0 2 none 1, .slc 20 1 0 2 none 1, .int .i64 (-1)], [(18, .arr [.int .i64 0, .int .i64 1] 0 1 1 2 3), (20, .arr [.int .i64 0, .int .i64 1] 0 1 1 2 3)], 23⟩
set_option maxRecDepth 1000000 in
theorem m67_ok : m67.ok Tryz.prog { tabCfg tabs with hk := bothHk 12 (tabM c67) (tabH d0) } 100000 12 (tabSt 12 tabs) = true := by kernel_rfl
theorem m67_sound : m67.Sound Tryz.prog 12 (tabCfg tabs) := memo_both c67_sound d0_sound (by kernel_rfl) tabs_lt m67_ok
def c68 : List Memo := m67 :: c67
theorem c68_sound : ∀ m ∈ c68, m.Sound Tryz.prog 12 (tabCfg tabs) := sound_cons m67_sound c67_sound

def a68 : List AV := [.agg [.int .i64 22, .int .i64 0, .int .i64 1, .int .i64 0, .int .i64 4, .nils]]
def m68 : Memo := ⟨202, a68, .int .i64 0, [], 36⟩
set_option maxRecDepth 1000000 in
theorem m68_ok : m68.ok Tryz.prog { tabCfg tabs with hk := bothHk 12 (tabM c68) (tabH d0) } 100000 12 (tabSt 12 tabs) = true := by kernel_rfl
theorem m68_sound : m68.Sound Tryz.prog 12 (tabCfg tabs) := memo_both c68_sound d0_sound (by kernel_rfl) tabs_lt m68_ok
def c69 : List Memo := m68 :: c68
theorem c69_sound : ∀ m ∈ c69, m.Sound Tryz.prog 12 (tabCfg tabs) := sound_cons m68_sound c68_sound

def a69 : List AV := [.agg [.int .i64 22, .int .i64 0, .int .i64 1, .int .i64 0, .int .i64 4, .nils]]
def m69 : Memo := ⟨102, a69, .tup [.slc 44 2 0 4 none 1, .int .i64 0], [(44, .arr [.int .u8 22, .int .u8 0, .int .u8 1, .int .u8 4] 0 2 1 3 5)], 50⟩
set_option maxRecDepth 1000000 in
theorem m69_ok : m69.ok Tryz.prog { tabCfg tabs with hk := bothHk 12 (tabM c69) (tabH d0) } 100000 12 (tabSt 12 tabs) = true := by kernel_rfl
theorem m69_sound : m69.Sound Tryz.prog 12 (tabCfg tabs) := memo_both c69_sound d0_sound (by kernel_rfl) tabs_lt m69_ok
def c70 : List Memo := m69 :: c69
theorem c70_sound : ∀ m ∈ c70, m.Sound Tryz.prog 12 (tabCfg tabs) := sound_cons m69_sound c69_sound

def a70 : List AV := [.agg [.int .i64 2, .int .i64 0, .int .i64 1, .int .i64 0, .int .i64 0, .nils]]
def m70 : Memo := ⟨240, a70, .tup [.slc 18 1 0 2 none 1, .slc 21 0 0 1 none 1, .int .i64 0], [(18, .arr [.int .i64 0, .int .i64 1] 0 1 1 2 3), (21, .arr [.int .i64 1] 0 1 1 1 3)], 22⟩
set_option maxRecDepth 1000000 in
theorem m70_ok : m70.ok Tryz.prog { tabCfg tabs with hk := bothHk 12 (tabM c70) (tabH d0) } 100000 12 (tabSt 12 tabs) = true := by kernel_rfl
theorem m70_sound : m70.Sound Tryz.prog 12 (tabCfg tabs) := memo_both c70_sound d0_sound (by kernel_rfl) tabs_lt m70_ok
def c71 : List Memo := m70 :: c70
theorem c71_sound : ∀ m ∈ c71, m.Sound Tryz.prog 12 (tabCfg tabs) := sound_cons m70_sound c70_sound

def a71 : List AV := [.agg [.int .i64 2, .int .i64 0, .int .i64 1, .int .i64 0, .int .i64 0, .nils]]
def m71 : Memo := ⟨202, a71, .int .i64 0, [], 35⟩
set_option maxRecDepth 1000000 in
theorem m71_ok : m71.ok Tryz.prog { tabCfg tabs with hk := bothHk 12 (tabM c71) (tabH d0) } 100000 12 (tabSt 12 tabs) = true := by kernel_rfl
theorem m71_sound : m71.Sound Tryz.prog 12 (tabCfg tabs) := memo_both c71_sound d0_sound (by kernel_rfl) tabs_lt m71_ok
def c72 : List Memo := m71 :: c71
theorem c72_sound : ∀ m ∈ c72, m.Sound Tryz.prog 12 (tabCfg tabs) := sound_cons m71_sound c71_sound

def a72 : List AV := [.agg [.int .i64 2, .int .i64 0, .int .i64 1, .int .i64 0, .int .i64 0, .nils]]
def m72 : Memo := ⟨102, a72, .tup [.slc 43 1 0 3 none 1, .int .i64 0], [(43, .arr [.int .u8 2, .int .u8 0, .int .u8 1] 0 2 1 2 5)], 47⟩
set_option maxRecDepth 1000000 in
theorem m72_ok : m72.ok Tryz.prog { tabCfg tabs with hk := bothHk 12 (tabM c72) (tabH d0) } 100000 12 (tabSt 12 tabs) = true := by kernel_rfl
theorem m72_sound : m72.Sound Tryz.prog 12 (tabCfg tabs) := memo_both c72_sound d0_sound (by kernel_rfl) tabs_lt m72_ok
def c73 : List Memo := m72 :: c72
theorem c73_sound : ∀ m ∈ c73, m.Sound Tryz.prog 12 (tabCfg tabs) := sound_cons m72_sound c72_sound

def a73 : List AV := [.agg [.int .i64 2, .int .i64 0, .int .i64 1, .int .i64 0, .int .i64 0, .nils]]
def m73 : Memo := ⟨57, a73, .int .i64 3, [], 48⟩
set_option maxRecDepth 1000000 in
theorem m73_ok : m73.ok Tryz.prog { tabCfg tabs with hk := bothHk 12 (tabM c73) (tabH d0) } 100000 12 (tabSt 12 tabs) = true := by kernel_rfl
theorem m73_sound : m73.Sound Tryz.prog 12 (tabCfg tabs) := memo_both c73_sound d0_sound (by kernel_rfl) tabs_lt m73_ok
def c74 : List Memo := m73 :: c73
theorem c74_sound : ∀ m ∈ c74, m.Sound Tryz.prog 12 (tabCfg tabs) := sound_cons m73_sound c73_sound

def a74 : List AV := [.agg [.int .i64 21, .int .i64 0, .int .i64 0, .int .i64 0, .int .i64 5, .nils]]
def m74 : Memo := ⟨343, a74, .bool true, [], 17⟩
set_option maxRecDepth 1000000 in
theorem m74_ok : m74.ok Tryz.prog { tabCfg tabs with hk := bothHk 12 (tabM c74) (tabH d0) } 100000 12 (tabSt 12 tabs) = true := by kernel_rfl
theorem m74_sound : m74.Sound Tryz.prog 12 (tabCfg tabs) := memo_both c74_sound d0_sound (by kernel_rfl) tabs_lt m74_ok
def c75 : List Memo := m74 :: c74
theorem c75_sound : ∀ m ∈ c75, m.Sound Tryz.prog 12 (tabCfg tabs) := sound_cons m74_sound c74_sound

def a75 : List AV := [.agg [.int .i64 21, .int .i64 0, .int .i64 0, .int .i64 0, .int .i64 5, .nils]]
def m75 : Memo := ⟨240, a75, .tup [.slc 18 1 0 2 none 1, .slc 21 0 0 1 none 1, .int .i64 0], [(18, .arr [.int .i64 0, .int .i64 0] 0 1 1 2 3), (21, .arr [.int .i64 0] 0 1 1 1 3)], 22⟩
set_option maxRecDepth 1000000 in
theorem m75_ok : m75.ok Tryz.prog { tabCfg tabs with hk := bothHk 12 (tabM c75) (tabH d0) } 100000 12 (tabSt 12 tabs) = true := by kernel_rfl
theorem m75_sound : m75.Sound Tryz.prog 12 (tabCfg tabs) := memo_both c75_sound d0_sound (by kernel_rfl) tabs_lt m75_ok
def c76 : List Memo := m75 :: c75
theorem c76_sound : ∀ m ∈ c76, m.Sound Tryz.prog 12 (tabCfg tabs) := sound_cons m75_sound c75_sound

def a76 : List AV := [.agg [.int .i64 21, .int .i64 0, .int .i64 0, .int .i64 0, .int .i64 5, .nils]]
def m76 : Memo := ⟨202, a76, .int .i64 0, [], 35⟩
set_option maxRecDepth 1000000 in
theorem m76_ok : m76.ok Tryz.prog { tabCfg tabs with hk := bothHk 12 (tabM c76) (tabH d0) } 100000 12 (tabSt 12 tabs) = true := by kernel_rfl
theorem m76_sound : m76.Sound Tryz.prog 12 (tabCfg tabs) := memo_both c76_sound d0_sound (by kernel_rfl) tabs_lt m76_ok
def c77 : List Memo := m76 :: c76
theorem c77_sound : ∀ m ∈ c77, m.Sound Tryz.prog 12 (tabCfg tabs) := sound_cons m76_sound c76_sound

def a77 : List AV := [.agg [.int .i64 21, .int .i64 0, .int .i64 0, .int .i64 0, .int .i64 5, .nils]]
def m77 : Memo := ⟨102, a77, .tup [.slc 43 2 0 4 none 1, .int .i64 0], [(43, .arr [.int .u8 21, .int .u8 0, .int .u8 0, .int .u8 5] 0 2 1 3 5)], 49⟩
set_option maxRecDepth 1000000 in
theorem m77_ok : m77.ok Tryz.prog { tabCfg tabs with hk := bothHk 12 (tabM c77) (tabH d0) } 100000 12 (tabSt 12 tabs) = true := by kernel_rfl
theorem m77_sound : m77.Sound Tryz.prog 12 (tabCfg tabs) := memo_both c77_sound d0_sound (by kernel_rfl) tabs_lt m77_ok
def c78 : List Memo := m77 :: c77
theorem c78_sound : ∀ m ∈ c78, m.Sound Tryz.prog 12 (tabCfg tabs) := sound_cons m77_sound c77_sound

def a78 : List AV := [.agg [.int .i64 21, .int .i64 0, .int .i64 0, .int .i64 0, .int .i64 5, .nils]]
def m78 : Memo := ⟨57, a78, .int .i64 4, [], 50⟩
set_option maxRecDepth 1000000 in
theorem m78_ok : m78.ok Tryz.prog { tabCfg tabs with hk := bothHk 12 (tabM c78) (tabH d0) } 100000 12 (tabSt 12 tabs) = true := by kernel_rfl
theorem m78_sound : m78.Sound Tryz.prog 12 (tabCfg tabs) := memo_both c78_sound d0_sound (by kernel_rfl) tabs_lt m78_ok
def c79 : List Memo := m78 :: c78
theorem c79_sound : ∀ m ∈ c79, m.Sound Tryz.prog 12 (tabCfg tabs) := sound_cons m78_sound c78_sound

def a79 : List AV := [.agg [.int .i64 26, .int .i64 0, .int .i64 0, .int .i64 0, .int .i64 0, .nils]]
def m79 : Memo := ⟨57, a79, .int .i64 4, [], 47⟩
set_option maxRecDepth 1000000 in
theorem m79_ok : m79.ok Tryz.prog { tabCfg tabs with hk := bothHk 12 (tabM c79) (tabH d0) } 100000 12 (tabSt 12 tabs) = true := by kernel_rfl
theorem m79_sound : m79.Sound Tryz.prog 12 (tabCfg tabs) := memo_both c79_sound d0_sound (by kernel_rfl) tabs_lt m79_ok
def c80 : List Memo := m79 :: c79
theorem c80_sound : ∀ m ∈ c80, m.Sound Tryz.prog 12 (tabCfg tabs) := sound_cons m79_sound c79_sound

def a80 : List AV := [.agg [.int .i64 31, .int .i64 0, .int .i64 0, .int .i64 0, .int .i64 0, .nils]]
def m80 : Memo := ⟨240, a80, .tup [.slc 18 0 0 1 none 1, .slc 20 0 0 1 none 1, .int .i64 (-1)], [(18, .arr [.int .i64 0] 0 1 1 1 3), (20, .arr [.int .i64 0] 0 1 1 1 3)], 21⟩
set_option maxRecDepth 1000000 in
theorem m80_ok : m80.ok Tryz.prog { tabCfg tabs with hk := bothHk 12 (tabM c80) (tabH d0) } 100000 12 (tabSt 12 tabs) = true := by kernel_rfl
theorem m80_sound : m80.Sound Tryz.prog 12 (tabCfg tabs) := memo_both c80_sound d0_sound (by kernel_rfl) tabs_lt m80_ok
def c81 : List Memo := m80 :: c80
theorem c81_sound : ∀ m ∈ c81, m.Sound Tryz.prog 12 (tabCfg tabs) := sound_cons m80_sound c80_sound

def a81 : List AV := [.agg [.int .i64 31, .int .i64 0, .int .i64 0, .int .i64 0, .int .i64 0, .nils]]
def m81 : Memo := ⟨202, a81, .int .i64 0, [], 34⟩
set_option maxRecDepth 1000000 in
theorem m81_ok : m81.ok Tryz.prog { tabCfg tabs with hk := bothHk 12 (tabM c81) (tabH d0) } 100000 12 (tabSt 12 tabs) = true := by kernel_rfl
theorem m81_sound : m81.Sound Tryz.prog 12 (tabCfg tabs) := memo_both c81_sound d0_sound (by kernel_rfl) tabs_lt m81_ok
def c82 : List Memo := m81 :: c81
theorem c82_sound : ∀ m ∈ c82, m.Sound Tryz.prog 12 (tabCfg tabs) := sound_cons m81_sound c81_sound

def a82 : List AV := [.agg [.int .i64 31, .int .i64 0, .int .i64 0, .int .i64 0, .int .i64 0, .nils]]
def m82 : Memo := ⟨102, a82, .tup [.slc 42 0 0 2 none 1, .int .i64 0], [(42, .arr [.int .u8 31, .int .u8 0] 0 2 1 1 5)], 43⟩
set_option maxRecDepth 1000000 in
theorem m82_ok : m82.ok Tryz.prog { tabCfg tabs with hk := bothHk 12 (tabM c82) (tabH d0) } 100000 12 (tabSt 12 tabs) = true := by kernel_rfl
theorem m82_sound : m82.Sound Tryz.prog 12 (tabCfg tabs) := memo_both c82_sound d0_sound (by kernel_rfl) tabs_lt m82_ok
def c83 : List Memo := m82 :: c82
theorem c83_sound : ∀ m ∈ c83, m.Sound Tryz.prog 12 (tabCfg tabs) := sound_cons m82_sound c82_sound

def a83 : List AV := [.agg [.int .i64 21, .int .i64 1, .int .i64 0, .int .i64 0, .int .i64 5, .nils]]
def m83 : Memo := ⟨343, a83, .bool true, [], 17⟩
set_option maxRecDepth 1000000 in
theorem m83_ok : m83.ok Tryz.prog { tabCfg tabs with hk := bothHk 12 (tabM c83) (tabH d0) } 100000 12 (tabSt 12 tabs) = true := by kernel_rfl
theorem m83_sound : m83.Sound Tryz.prog 12 (tabCfg tabs) := memo_both c83_sound d0_sound (by kernel_rfl) tabs_lt m83_ok
def c84 : List Memo := m83 :: c83
theorem c84_sound : ∀ m ∈ c84, m.Sound Tryz.prog 12 (tabCfg tabs) := sound_cons m83_sound c83_sound

def a84 : List AV := [.agg [.int .i64 21, .int .i64 1, .int .i64 0, .int .i64 0, .int .i64 5, .nils]]
def m84 : Memo := ⟨240, a84, .tup [.slc 18 1 0 2 none 1, .slc 21 0 0 1 none 1, .int .i64 1], [(18, .arr [.int .i64 1, .int .i64 0] 0 1 1 2 3), (21, .arr [.int .i64 0] 0 1 1 1 3)], 22⟩
set_option maxRecDepth 1000000 in
theorem m84_ok : m84.ok Tryz.prog { tabCfg tabs with hk := bothHk 12 (tabM c84) (tabH d0) } 100000 12 (tabSt 12 tabs) = true := by kernel_rfl
theorem m84_sound : m84.Sound Tryz.prog 12 (tabCfg tabs) := memo_both c84_sound d0_sound (by kernel_rfl) tabs_lt m84_ok
def c85 : List Memo := m84 :: c84
theorem c85_sound : ∀ m ∈ c85, m.Sound Tryz.prog 12 (tabCfg tabs) := sound_cons m84_sound c84_sound

def a85 : List AV := [.agg [.int .i64 21, .int .i64 1, .int .i64 0, .int .i64 0, .int .i64 5, .nils]]
def m85 : Memo := ⟨202, a85, .int .i64 0, [], 35⟩
set_option maxRecDepth 1000000 in
theorem m85_ok : m85.ok Tryz.prog { tabCfg tabs with hk := bothHk 12 (tabM c85) (tabH d0) } 100000 12 (tabSt 12 tabs) = true := by kernel_rfl
theorem m85_sound : m85.Sound Tryz.prog 12 (tabCfg tabs) := memo_both c85_sound d0_sound (by kernel_rfl) tabs_lt m85_ok
def c86 : List Memo := m85 :: c85
theorem c86_sound : ∀ m ∈ c86, m.Sound Tryz.prog 12 (tabCfg tabs) := sound_cons m85_sound c85_sound

def a86 : List AV := [.agg [.int .i64 21, .int .i64 1, .int .i64 0, .int .i64 0, .int .i64 5, .nils]]
def m86 : Memo := ⟨102, a86, .tup [.slc 43 2 0 4 none 1, .int .i64 0], [(43, .arr [.int .u8 21, .int .u8 1, .int .u8 0, .int .u8 5] 0 2 1 3 5)], 49⟩
set_option maxRecDepth 1000000 in
theorem m86_ok : m86.ok Tryz.prog { tabCfg tabs with hk := bothHk 12 (tabM c86) (tabH d0) } 100000 12 (tabSt 12 tabs) = true := by kernel_rfl
theorem m86_sound : m86.Sound Tryz.prog 12 (tabCfg tabs) := memo_both c86_sound d0_sound (by kernel_rfl) tabs_lt m86_ok
def c87 : List Memo := m86 :: c86
theorem c87_sound : ∀ m ∈ c87, m.Sound Tryz.prog 12 (tabCfg tabs) := sound_cons m86_sound c86_sound

def a87 : List AV := [.agg [.int .i64 1, .int .i64 2, .int .i64 0, .int .i64 0, .int .i64 1, .nils]]
def m87 : Memo := ⟨240, a87, .tup [.slc 18 0 0 1 none 1, .nils, .int .i64 2], [(18, .arr [.int .i64 2] 0 1 1 1 3)], 19⟩
set_option maxRecDepth 1000000 in
theorem m87_ok : m87.ok Tryz.prog { tabCfg tabs with hk := bothHk 12 (tabM c87) (tabH d0) } 100000 12 (tabSt 12 tabs) = true := by kernel_rfl
theorem m87_sound : m87.Sound Tryz.prog 12 (tabCfg tabs) := memo_both c87_sound d0_sound (by kernel_rfl) tabs_lt m87_ok
def c88 : List Memo := m87 :: c87
theorem c88_sound : ∀ m ∈ c88, m.Sound Tryz.prog 12 (tabCfg tabs) := sound_cons m87_sound c87_sound

def a88 : List AV := [.agg [.int .i64 1, .int .i64 2, .int .i64 0, .int .i64 0, .int .i64 1, .nils]]
def m88 : Memo := ⟨202, a88, .int .i64 0, [], 32⟩
set_option maxRecDepth 1000000 in
theorem m88_ok : m88.ok Tryz.prog { tabCfg tabs with hk := bothHk 12 (tabM c88) (tabH d0) } 100000 12 (tabSt 12 tabs) = true := by kernel_rfl
theorem m88_sound : m88.Sound Tryz.prog 12 (tabCfg tabs) := memo_both c88_sound d0_sound (by kernel_rfl) tabs_lt m88_ok
def c89 : List Memo := m88 :: c88
theorem c89_sound : ∀ m ∈ c89, m.Sound Tryz.prog 12 (tabCfg tabs) := sound_cons m88_sound c88_sound

def a89 : List AV := [.int .u64 1, .int .i64 8]
def m89 : Memo := ⟨198, a89, .tup [.slc 13 7 0 8 none 1, .int .i64 0], [(13, .arr [.int .u8 1, .int .u8 0, .int .u8 0, .int .u8 0, .int .u8 0, .int .u8 0, .int .u8 0, .int .u8 0] 0 1 1 8 5)], 21⟩
set_option maxRecDepth 1000000 in
theorem m89_ok : m89.ok Tryz.prog { tabCfg tabs with hk := bothHk 12 (tabM c89) (tabH d0) } 100000 12 (tabSt 12 tabs) = true := by kernel_rfl
theorem m89_sound : m89.Sound Tryz.prog 12 (tabCfg tabs) := memo_both c89_sound d0_sound (by kernel_rfl) tabs_lt m89_ok
def c90 : List Memo := m89 :: c89
theorem c90_sound : ∀ m ∈ c90, m.Sound Tryz.prog 12 (tabCfg tabs) := sound_cons m89_sound c89_sound

def a90 : List AV := [.agg [.int .i64 1, .int .i64 2, .int .i64 0, .int .i64 0, .int .i64 1, .nils]]
def m90 : Memo := ⟨102, a90, .tup [.slc 40 1 0 10 none 1, .int .i64 0], [(40, .arr [.int .u8 1, .int .u8 2, .int .u8 1, .int .u8 0, .int .u8 0, .int .u8 0, .int .u8 0, .int .u8 0, .int .u8 0, .int .u8 0] 0 2 1 2 5)], 50⟩
set_option maxRecDepth 1000000 in
theorem m90_ok : m90.ok Tryz.prog { tabCfg tabs with hk := bothHk 12 (tabM c90) (tabH d0) } 100000 12 (tabSt 12 tabs) = true := by kernel_rfl
theorem m90_sound : m90.Sound Tryz.prog 12 (tabCfg tabs) := memo_both c90_sound d0_sound (by kernel_rfl) tabs_lt m90_ok
def c91 : List Memo := m90 :: c90
theorem c91_sound : ∀ m ∈ c91, m.Sound Tryz.prog 12 (tabCfg tabs) := sound_cons m90_sound c90_sound

def a91 : List AV := [.agg [.int .i64 4, .int .i64 2, .int .i64 1, .int .i64 2, .int .i64 0, .nils]]
def m91 : Memo := ⟨343, a91, .bool true, [], 17⟩
set_option maxRecDepth 1000000 in
theorem m91_ok : m91.ok Tryz.prog { tabCfg tabs with hk := bothHk 12 (tabM c91) (tabH d0) } 100000 12 (tabSt 12 tabs) = true := by kernel_rfl
theorem m91_sound : m91.Sound Tryz.prog 12 (tabCfg tabs) := memo_both c91_sound d0_sound (by kernel_rfl) tabs_lt m91_ok
def c92 : List Memo := m91 :: c91
theorem c92_sound : ∀ m ∈ c92, m.Sound Tryz.prog 12 (tabCfg tabs) := sound_cons m91_sound c91_sound

def a92 : List AV := [.agg [.int .i64 4, .int .i64 2, .int .i64 1, .int .i64 2, .int .i64 0, .nils]]
def m92 : Memo := ⟨240, a92, .tup [.slc 18 2 0 3 none 1, .slc 21 1 0 2 none 1, .int .i64 2], [(18, .arr [.int .i64 2, .int .i64 1, .int .i64 2] 0 1 1 3 3), (21, .arr [.int .i64 1, .int .i64 2] 0 1 1 2 3)], 24⟩
set_option maxRecDepth 1000000 in
theorem m92_ok : m92.ok Tryz.prog { tabCfg tabs with hk := bothHk 12 (tabM c92) (tabH d0) } 100000 12 (tabSt 12 tabs) = true := by kernel_rfl
theorem m92_sound : m92.Sound Tryz.prog 12 (tabCfg tabs) := memo_both c92_sound d0_sound (by kernel_rfl) tabs_lt m92_ok
def c93 : List Memo := m92 :: c92
theorem c93_sound : ∀ m ∈ c93, m.Sound Tryz.prog 12 (tabCfg tabs) := sound_cons m92_sound c92_sound

def a93 : List AV := [.agg [.int .i64 4, .int .i64 2, .int .i64 1, .int .i64 2, .int .i64 0, .nils]]
def m93 : Memo := ⟨202, a93, .int .i64 0, [], 37⟩
set_option maxRecDepth 1000000 in
theorem m93_ok : m93.ok Tryz.prog { tabCfg tabs with hk := bothHk 12 (tabM c93) (tabH d0) } 100000 12 (tabSt 12 tabs) = true := by kernel_rfl
theorem m93_sound : m93.Sound Tryz.prog 12 (tabCfg tabs) := memo_both c93_sound d0_sound (by kernel_rfl) tabs_lt m93_ok
def c94 : List Memo := m93 :: c93
theorem c94_sound : ∀ m ∈ c94, m.Sound Tryz.prog 12 (tabCfg tabs) := sound_cons m93_sound c93_sound

def a94 : List AV := [.agg [.int .i64 4, .int .i64 2, .int .i64 1, .int .i64 2, .int .i64 0, .nils]]
def m94 : Memo := ⟨102, a94, .tup [.slc 45 2 0 4 none 1, .int .i64 0], [(45, .arr [.int .u8 4, .int .u8 2, .int .u8 1, .int .u8 2] 0 2 1 3 5)], 52⟩
set_option maxRecDepth 1000000 in
theorem m94_ok : m94.ok Tryz.prog { tabCfg tabs with hk := bothHk 12 (tabM c94) (tabH d0) } 100000 12 (tabSt 12 tabs) = true := by kernel_rfl
theorem m94_sound : m94.Sound Tryz.prog 12 (tabCfg tabs) := memo_both c94_sound d0_sound (by kernel_rfl) tabs_lt m94_ok
def c95 : List Memo := m94 :: c94
theorem c95_sound : ∀ m ∈ c95, m.Sound Tryz.prog 12 (tabCfg tabs) := sound_cons m94_sound c94_sound

def a95 : List AV := [.agg [.int .i64 20, .int .i64 2, .int .i64 2, .int .i64 0, .int .i64 5, .nils]]
def m95 : Memo := ⟨343, a95, .bool true, [], 17⟩
set_option maxRecDepth 1000000 in
theorem m95_ok : m95.ok Tryz.prog { tabCfg tabs with hk := bothHk 12 (tabM c95) (tabH d0) } 100000 12 (tabSt 12 tabs) = true := by kernel_rfl
theorem m95_sound : m95.Sound Tryz.prog 12 (tabCfg tabs) := memo_both c95_sound d0_sound (by kernel_rfl) tabs_lt m95_ok
def c96 : List Memo := m95 :: c95
theorem c96_sound : ∀ m ∈ c96, m.Sound Tryz.prog 12 (tabCfg tabs) := sound_cons m95_sound c95_sound

def a96 : List AV := [.agg [.int .i64 20, .int .i64 2, .int .i64 2, .int .i64 0, .int .i64 5, .nils]]
def m96 : Memo := ⟨240, a96, .tup [.slc 18 1 0 2 none 1, .slc 21 0 0 1 none 1, .int .i64 2], [(18, .arr [.int .i64 2, .int .i64 2] 0 1 1 2 3), (21, .arr [.int .i64 2] 0 1 1 1 3)], 22⟩
set_option maxRecDepth 1000000 in
theorem m96_ok : m96.ok Tryz.prog { tabCfg tabs with hk := bothHk 12 (tabM c96) (tabH d0) } 100000 12 (tabSt 12 tabs) = true := by kernel_rfl
theorem m96_sound : m96.Sound Tryz.prog 12 (tabCfg tabs) := memo_both c96_sound d0_sound (by kernel_rfl) tabs_lt m96_ok
def c97 : List Memo := m96 :: c96
theorem c97_sound : ∀ m ∈ c97, m.Sound Tryz.prog 12 (tabCfg tabs) := sound_cons m96_sound c96_sound

def a97 : List AV := [.agg [.int .i64 20, .int .i64 2, .int .i64 2, .int .i64 0, .int .i64 5, .nils]]
def m97 : Memo := ⟨202, a97, .int .i64 0, [], 35⟩
set_option maxRecDepth 1000000 in
theorem m97_ok : m97.ok Tryz.prog { tabCfg tabs with hk := bothHk 12 (tabM c97) (tabH d0) } 100000 12 (tabSt 12 tabs) = true := by kernel_rfl
theorem m97_sound : m97.Sound Tryz.prog 12 (tabCfg tabs) := memo_both c97_sound d0_sound (by kernel_rfl) tabs_lt m97_ok
def c98 : List Memo := m97 :: c97
theorem c98_sound : ∀ m ∈ c98, m.Sound Tryz.prog 12 (tabCfg tabs) := sound_cons m97_sound c97_sound

def a98 : List AV := [.agg [.int .i64 20, .int .i64 2, .int .i64 2, .int .i64 0, .int .i64 5, .nils]]
def m98 : Memo := ⟨102, a98, .tup [.slc 43 2 0 4 none 1, .int .i64 0], [(43, .arr [.int .u8 20, .int .u8 2, .int .u8 2, .int .u8 5] 0 2 1 3 5)], 49⟩
set_option maxRecDepth 1000000 in
theorem m98_ok : m98.ok Tryz.prog { tabCfg tabs with hk := bothHk 12 (tabM c98) (tabH d0) } 100000 12 (tabSt 12 tabs) = true := by kernel_rfl
theorem m98_sound : m98.Sound Tryz.prog 12 (tabCfg tabs) := memo_both c98_sound d0_sound (by kernel_rfl) tabs_lt m98_ok
def c99 : List Memo := m98 :: c98
theorem c99_sound : ∀ m ∈ c99, m.Sound Tryz.prog 12 (tabCfg tabs) := sound_cons m98_sound c98_sound

def a99 : List AV := [.agg [.int .i64 22, .int .i64 0, .int .i64 2, .int .i64 0, .int .i64 4, .nils]]
def m99 : Memo := ⟨343, a99, .bool true, [], 17⟩
set_option maxRecDepth 1000000 in
theorem m99_ok : m99.ok Tryz.prog { tabCfg tabs with hk := bothHk 12 (tabM c99) (tabH d0) } 100000 12 (tabSt 12 tabs) = true := by kernel_rfl
theorem m99_sound : m99.Sound Tryz.prog 12 (tabCfg tabs) := memo_both c99_sound d0_sound (by kernel_rfl) tabs_lt m99_ok
def c100 : List Memo := m99 :: c99
theorem c100_sound : ∀ m ∈ c100, m.Sound Tryz.prog 12 (tabCfg tabs) := sound_cons m99_sound c99_sound

def a100 : List AV := [.agg [.int .i64 22, .int .i64 0, .int .i64 2, .int .i64 0, .int .i64 4, .nils]]
def m100 : Memo := ⟨240, a100, .tup [.slc 18 1 0 2 none 1, .slc 20 1 0 2 none 1, .int .i64 (-1)], [(18, .arr [.int .i64 0, .int .i64 2] 0 1 1 2 3), (20, .arr [.int .i64 0, .int .i64 2] 0 1 1 2 3)], 23⟩
set_option maxRecDepth 1000000 in
theorem m100_ok : m100.ok Tryz.prog { tabCfg tabs with hk := bothHk 12 (tabM c100) (tabH d0) } 100000 12 (tabSt 12 tabs) = true := by kernel_rfl
theorem m100_sound : m100.Sound Tryz.prog 12 (tabCfg tabs) := memo_both c100_sound d0_sound (by kernel_rfl) tabs_lt m100_ok
def c101 : List Memo := m100 :: c100
theorem c101_sound : ∀ m ∈ c101, m.Sound Tryz.prog 12 (tabCfg tabs) := sound_cons m100_sound c100_sound

def a101 : List AV := [.agg [.int .i64 22, .int .i64 0, .int .i64 2, .int .i64 0, .int .i64 4, .nils]]
def m101 : Memo := ⟨202, a101, .int .i64 0, [], 36⟩
set_option maxRecDepth 1000000 in
theorem m101_ok : m101.ok Tryz.prog { tabCfg tabs with hk := bothHk 12 (tabM c101) (tabH d0) } 100000 12 (tabSt 12 tabs) = true := by kernel_rfl
theorem m101_sound : m101.Sound Tryz.prog 12 (tabCfg tabs) := memo_both c101_sound d0_sound (by kernel_rfl) tabs_lt m101_ok
def c102 : List Memo := m101 :: c101
theorem c102_sound : ∀ m ∈ c102, m.Sound Tryz.prog 12 (tabCfg tabs) := sound_cons m101_sound c101_sound

def a102 : List AV := [.agg [.int .i64 22, .int .i64 0, .int .i64 2, .int .i64 0, .int .i64 4, .nils]]
def m102 : Memo := ⟨102, a102, .tup [.slc 44 2 0 4 none 1, .int .i64 0], [(44, .arr [.int .u8 22, .int .u8 0, .int .u8 2, .int .u8 4] 0 2 1 3 5)], 50⟩
set_option maxRecDepth 1000000 in
theorem m102_ok : m102.ok Tryz.prog { tabCfg tabs with hk := bothHk 12 (tabM c102) (tabH d0) } 100000 12 (tabSt 12 tabs) = true := by kernel_rfl
theorem m102_sound : m102.Sound Tryz.prog 12 (tabCfg tabs) := memo_both c102_sound d0_sound (by kernel_rfl) tabs_lt m102_ok
def c103 : List Memo := m102 :: c102
theorem c103_sound : ∀ m ∈ c103, m.Sound Tryz.prog 12 (tabCfg tabs) := sound_cons m102_sound c102_sound

def a103 : List AV := [.agg [.int .i64 25, .int .i64 0, .int .i64 0, .int .i64 0, .int .i64 0, .nils]]
def m103 : Memo := ⟨57, a103, .int .i64 3, [], 39⟩
set_option maxRecDepth 1000000 in
theorem m103_ok : m103.ok Tryz.prog { tabCfg tabs with hk := bothHk 12 (tabM c103) (tabH d0) } 100000 12 (tabSt 12 tabs) = true := by kernel_rfl
theorem m103_sound : m103.Sound Tryz.prog 12 (tabCfg tabs) := memo_both c103_sound d0_sound (by kernel_rfl) tabs_lt m103_ok
def c104 : List Memo := m103 :: c103
theorem c104_sound : ∀ m ∈ c104, m.Sound Tryz.prog 12 (tabCfg tabs) := sound_cons m103_sound c103_sound

def a104 : List AV := [.agg [.int .i64 26, .int .i64 0, .int .i64 0, .int .i64 0, .int .i64 71, .nils]]
def m104 : Memo := ⟨343, a104, .bool true, [], 17⟩
set_option maxRecDepth 1000000 in
theorem m104_ok : m104.ok Tryz.prog { tabCfg tabs with hk := bothHk 12 (tabM c104) (tabH d0) } 100000 12 (tabSt 12 tabs) = true := by kernel_rfl
theorem m104_sound : m104.Sound Tryz.prog 12 (tabCfg tabs) := memo_both c104_sound d0_sound (by kernel_rfl) tabs_lt m104_ok
def c105 : List Memo := m104 :: c104
theorem c105_sound : ∀ m ∈ c105, m.Sound Tryz.prog 12 (tabCfg tabs) := sound_cons m104_sound c104_sound

def a105 : List AV := [.agg [.int .i64 26, .int .i64 0, .int .i64 0, .int .i64 0, .int .i64 71, .nils]]
def m105 : Memo := ⟨240, a105, .tup [.slc 18 0 0 1 none 1, .slc 20 0 0 1 none 1, .int .i64 (-1)], [(18, .arr [.int .i64 0] 0 1 1 1 3), (20, .arr [.int .i64 0] 0 1 1 1 3)], 21⟩
set_option maxRecDepth 1000000 in
theorem m105_ok : m105.ok Tryz.prog { tabCfg tabs with hk := bothHk 12 (tabM c105) (tabH d0) } 100000 12 (tabSt 12 tabs) = true := by kernel_rfl
theorem m105_sound : m105.Sound Tryz.prog 12 (tabCfg tabs) := memo_both c105_sound d0_sound (by kernel_rfl) tabs_lt m105_ok
def c106 : List Memo := m105 :: c105
theorem c106_sound : ∀ m ∈ c106, m.Sound Tryz.prog 12 (tabCfg tabs) := sound_cons m105_sound c105_sound

def a106 : List AV := [.agg [.int .i64 26, .int .i64 0, .int .i64 0, .int .i64 0, .int .i64 71, .nils]]
def m106 : Memo := ⟨202, a106, .int .i64 0, [], 34⟩
set_option maxRecDepth 1000000 in
theorem m106_ok : m106.ok Tryz.prog { tabCfg tabs with hk := bothHk 12 (tabM c106) (tabH d0) } 100000 12 (tabSt 12 tabs) = true := by kernel_rfl
theorem m106_sound : m106.Sound Tryz.prog 12 (tabCfg tabs) := memo_both c106_sound d0_sound (by kernel_rfl) tabs_lt m106_ok
def c107 : List Memo := m106 :: c106
theorem c107_sound : ∀ m ∈ c107, m.Sound Tryz.prog 12 (tabCfg tabs) := sound_cons m106_sound c106_sound

def a107 : List AV := [.agg [.int .i64 26, .int .i64 0, .int .i64 0, .int .i64 0, .int .i64 71, .nils]]
def m107 : Memo := ⟨102, a107, .tup [.slc 42 1 0 4 none 1, .int .i64 0], [(42, .arr [.int .u8 26, .int .u8 0, .int .u8 71, .int .u8 0] 0 2 1 2 5)], 46⟩
set_option maxRecDepth 1000000 in
theorem m107_ok : m107.ok Tryz.prog { tabCfg tabs with hk := bothHk 12 (tabM c107) (tabH d0) } 100000 12 (tabSt 12 tabs) = true := by kernel_rfl
theorem m107_sound : m107.Sound Tryz.prog 12 (tabCfg tabs) := memo_both c107_sound d0_sound (by kernel_rfl) tabs_lt m107_ok
def c108 : List Memo := m107 :: c107
theorem c108_sound : ∀ m ∈ c108, m.Sound Tryz.prog 12 (tabCfg tabs) := sound_cons m107_sound c107_sound

def a108 : List AV := [.agg [.int .i64 25, .int .i64 0, .int .i64 0, .int .i64 0, .int .i64 13, .nils]]
def m108 : Memo := ⟨240, a108, .tup [.nils, .nils, .int .i64 (-1)], [], 17⟩
set_option maxRecDepth 1000000 in
theorem m108_ok : m108.ok Tryz.prog { tabCfg tabs with hk := bothHk 12 (tabM c108) (tabH d0) } 100000 12 (tabSt 12 tabs) = true := by kernel_rfl
theorem m108_sound : m108.Sound Tryz.prog 12 (tabCfg tabs) := memo_both c108_sound d0_sound (by kernel_rfl) tabs_lt m108_ok
def c109 : List Memo := m108 :: c108
theorem c109_sound : ∀ m ∈ c109, m.Sound Tryz.prog 12 (tabCfg tabs) := sound_cons m108_sound c108_sound

def a109 : List AV := [.agg [.int .i64 25, .int .i64 0, .int .i64 0, .int .i64 0, .int .i64 13, .nils]]
def m109 : Memo := ⟨202, a109, .int .i64 0, [], 29⟩
set_option maxRecDepth 1000000 in
theorem m109_ok : m109.ok Tryz.prog { tabCfg tabs with hk := bothHk 12 (tabM c109) (tabH d0) } 100000 12 (tabSt 12 tabs) = true := by kernel_rfl
theorem m109_sound : m109.Sound Tryz.prog 12 (tabCfg tabs) := memo_both c109_sound d0_sound (by kernel_rfl) tabs_lt m109_ok
def c110 : List Memo := m109 :: c109
theorem c110_sound : ∀ m ∈ c110, m.Sound Tryz.prog 12 (tabCfg tabs) := sound_cons m109_sound c109_sound

def a110 : List AV := [.agg [.int .i64 25, .int .i64 0, .int .i64 0, .int .i64 0, .int .i64 13, .nils]]
def m110 : Memo := ⟨102, a110, .tup [.slc 37 0 0 3 none 1, .int .i64 0], [(37, .arr [.int .u8 25, .int .u8 13, .int .u8 0] 0 3 1 1 5)], 38⟩
set_option maxRecDepth 1000000 in
theorem m110_ok : m110.ok Tryz.prog { tabCfg tabs with hk := bothHk 12 (tabM c110) (tabH d0) } 100000 12 (tabSt 12 tabs) = true := by kernel_rfl
theorem m110_sound : m110.Sound Tryz.prog 12 (tabCfg tabs) := memo_both c110_sound d0_sound (by kernel_rfl) tabs_lt m110_ok
def c111 : List Memo := m110 :: c110
theorem c111_sound : ∀ m ∈ c111, m.Sound Tryz.prog 12 (tabCfg tabs) := sound_cons m110_sound c110_sound

def a111 : List AV := [.agg [.int .i64 23, .int .i64 0, .int .i64 0, .int .i64 0, .int .i64 0, .nils], .int .i64 3, .int .i64 4]
def m111 : Memo := ⟨207, a111, .int .i64 0, [], 31⟩
set_option maxRecDepth 1000000 in
theorem m111_ok : m111.ok Tryz.prog { tabCfg tabs with hk := bothHk 12 (tabM c111) (tabH d0) } 100000 12 (tabSt 12 tabs) = true := by kernel_rfl
theorem m111_sound : m111.Sound Tryz.prog 12 (tabCfg tabs) := memo_both c111_sound d0_sound (by kernel_rfl) tabs_lt m111_ok
def c112 : List Memo := m111 :: c111
theorem c112_sound : ∀ m ∈ c112, m.Sound Tryz.prog 12 (tabCfg tabs) := sound_cons m111_sound c111_sound

def a112 : List AV := [.agg [.int .i64 30, .int .i64 1, .int .i64 0, .int .i64 0, .int .i64 0, .nils], .int .i64 3, .int .i64 4]
def m112 : Memo := ⟨207, a112, .int .i64 0, [], 31⟩
set_option maxRecDepth 1000000 in
theorem m112_ok : m112.ok Tryz.prog { tabCfg tabs with hk := bothHk 12 (tabM c112) (tabH d0) } 100000 12 (tabSt 12 tabs) = true := by kernel_rfl
theorem m112_sound : m112.Sound Tryz.prog 12 (tabCfg tabs) := memo_both c112_sound d0_sound (by kernel_rfl) tabs_lt m112_ok
def c113 : List Memo := m112 :: c112
theorem c113_sound : ∀ m ∈ c113, m.Sound Tryz.prog 12 (tabCfg tabs) := sound_cons m112_sound c112_sound

def a113 : List AV := [.agg [.int .i64 22, .int .i64 0, .int .i64 1, .int .i64 0, .int .i64 4, .nils], .int .i64 3, .int .i64 4]
def m113 : Memo := ⟨207, a113, .int .i64 0, [], 35⟩
set_option maxRecDepth 1000000 in
theorem m113_ok : m113.ok Tryz.prog { tabCfg tabs with hk := bothHk 12 (tabM c113) (tabH d0) } 100000 12 (tabSt 12 tabs) = true := by kernel_rfl
theorem m113_sound : m113.Sound Tryz.prog 12 (tabCfg tabs) := memo_both c113_sound d0_sound (by kernel_rfl) tabs_lt m113_ok
def c114 : List Memo := m113 :: c113
theorem c114_sound : ∀ m ∈ c114, m.Sound Tryz.prog 12 (tabCfg tabs) := sound_cons m113_sound c113_sound

def a114 : List AV := [.agg [.int .i64 2, .int .i64 0, .int .i64 1, .int .i64 0, .int .i64 0, .nils], .int .i64 3, .int .i64 4]
def m114 : Memo := ⟨207, a114, .int .i64 0, [], 34⟩
set_option maxRecDepth 1000000 in
theorem m114_ok : m114.ok Tryz.prog { tabCfg tabs with hk := bothHk 12 (tabM c114) (tabH d0) } 100000 12 (tabSt 12 tabs) = true := by kernel_rfl
theorem m114_sound : m114.Sound Tryz.prog 12 (tabCfg tabs) := memo_both c114_sound d0_sound (by kernel_rfl) tabs_lt m114_ok
def c115 : List Memo := m114 :: c114
theorem c115_sound : ∀ m ∈ c115, m.Sound Tryz.prog 12 (tabCfg tabs) := sound_cons m114_sound c114_sound

def a115 : List AV := [.agg [.int .i64 21, .int .i64 0, .int .i64 0, .int .i64 0, .int .i64 5, .nils], .int .i64 3, .int .i64 4]
def m115 : Memo := ⟨207, a115, .int .i64 0, [], 34⟩
set_option maxRecDepth 1000000 in
theorem m115_ok : m115.ok Tryz.prog { tabCfg tabs with hk := bothHk 12 (tabM c115) (tabH d0) } 100000 12 (tabSt 12 tabs) = true := by kernel_rfl
theorem m115_sound : m115.Sound Tryz.prog 12 (tabCfg tabs) := memo_both c115_sound d0_sound (by kernel_rfl) tabs_lt m115_ok
def c116 : List Memo := m115 :: c115
theorem c116_sound : ∀ m ∈ c116, m.Sound Tryz.prog 12 (tabCfg tabs) := sound_cons m115_sound c115_sound

def a116 : List AV := [.agg [.int .i64 26, .int .i64 0, .int .i64 0, .int .i64 0, .int .i64 71, .nils], .int .i64 3, .int .i64 4]
def m116 : Memo := ⟨207, a116, .int .i64 0, [], 33⟩
set_option maxRecDepth 1000000 in
theorem m116_ok : m116.ok Tryz.prog { tabCfg tabs with hk := bothHk 12 (tabM c116) (tabH d0) } 100000 12 (tabSt 12 tabs) = true := by kernel_rfl
theorem m116_sound : m116.Sound Tryz.prog 12 (tabCfg tabs) := memo_both c116_sound d0_sound (by kernel_rfl) tabs_lt m116_ok
def c117 : List Memo := m116 :: c116
theorem c117_sound : ∀ m ∈ c117, m.Sound Tryz.prog 12 (tabCfg tabs) := sound_cons m116_sound c116_sound

def a117 : List AV := [.agg [.int .i64 31, .int .i64 0, .int .i64 0, .int .i64 0, .int .i64 0, .nils], .int .i64 3, .int .i64 4]
def m117 : Memo := ⟨207, a117, .int .i64 0, [], 33⟩
set_option maxRecDepth 1000000 in
theorem m117_ok : m117.ok Tryz.prog { tabCfg tabs with hk := bothHk 12 (tabM c117) (tabH d0) } 100000 12 (tabSt 12 tabs) = true := by kernel_rfl
theorem m117_sound : m117.Sound Tryz.prog 12 (tabCfg tabs) := memo_both c117_sound d0_sound (by kernel_rfl) tabs_lt m117_ok
def c118 : List Memo := m117 :: c117
theorem c118_sound : ∀ m ∈ c118, m.Sound Tryz.prog 12 (tabCfg tabs) := sound_cons m117_sound c117_sound

def a118 : List AV := [.agg [.int .i64 21, .int .i64 1, .int .i64 0, .int .i64 0, .int .i64 5, .nils], .int .i64 3, .int .i64 4]
def m118 : Memo := ⟨207, a118, .int .i64 0, [], 34⟩
set_option maxRecDepth 1000000 in
theorem m118_ok : m118.ok Tryz.prog { tabCfg tabs with hk := bothHk 12 (tabM c118) (tabH d0) } 100000 12 (tabSt 12 tabs) = true := by kernel_rfl
theorem m118_sound : m118.Sound Tryz.prog 12 (tabCfg tabs) := memo_both c118_sound d0_sound (by kernel_rfl) tabs_lt m118_ok
def c119 : List Memo := m118 :: c118
theorem c119_sound : ∀ m ∈ c119, m.Sound Tryz.prog 12 (tabCfg tabs) := sound_cons m118_sound c118_sound

def a119 : List AV := [.agg [.int .i64 1, .int .i64 2, .int .i64 0, .int .i64 0, .int .i64 1, .nils], .int .i64 3, .int .i64 4]
def m119 : Memo := ⟨207, a119, .int .i64 0, [], 31⟩
set_option maxRecDepth 1000000 in
theorem m119_ok : m119.ok Tryz.prog { tabCfg tabs with hk := bothHk 12 (tabM c119) (tabH d0) } 100000 12 (tabSt 12 tabs) = true := by kernel_rfl
theorem m119_sound : m119.Sound Tryz.prog 12 (tabCfg tabs) := memo_both c119_sound d0_sound (by kernel_rfl) tabs_lt m119_ok
def c120 : List Memo := m119 :: c119
theorem c120_sound : ∀ m ∈ c120, m.Sound Tryz.prog 12 (tabCfg tabs) := sound_cons m119_sound c119_sound

def a120 : List AV := [.agg [.int .i64 4, .int .i64 2, .int .i64 1, .int .i64 2, .int .i64 0, .nils], .int .i64 3, .int .i64 4]
def m120 : Memo := ⟨207, a120, .int .i64 0, [], 36⟩
set_option maxRecDepth 1000000 in
theorem m120_ok : m120.ok Tryz.prog { tabCfg tabs with hk := bothHk 12 (tabM c120) (tabH d0) } 100000 12 (tabSt 12 tabs) = true := by kernel_rfl
theorem m120_sound : m120.Sound Tryz.prog 12 (tabCfg tabs) := memo_both c120_sound d0_sound (by kernel_rfl) tabs_lt m120_ok
def c121 : List Memo := m120 :: c120
theorem c121_sound : ∀ m ∈ c121, m.Sound Tryz.prog 12 (tabCfg tabs) := sound_cons m120_sound c120_sound

def a121 : List AV := [.agg [.int .i64 20, .int .i64 2, .int .i64 2, .int .i64 0, .int .i64 5, .nils], .int .i64 3, .int .i64 4]
def m121 : Memo := ⟨207, a121, .int .i64 0, [], 34⟩
set_option maxRecDepth 1000000 in
theorem m121_ok : m121.ok Tryz.prog { tabCfg tabs with hk := bothHk 12 (tabM c121) (tabH d0) } 100000 12 (tabSt 12 tabs) = true := by kernel_rfl
theorem m121_sound : m121.Sound Tryz.prog 12 (tabCfg tabs) := memo_both c121_sound d0_sound (by kernel_rfl) tabs_lt m121_ok
def c122 : List Memo := m121 :: c121
theorem c122_sound : ∀ m ∈ c122, m.Sound Tryz.prog 12 (tabCfg tabs) := sound_cons m121_sound c121_sound

def a122 : List AV := [.agg [.int .i64 22, .int .i64 0, .int .i64 2, .int .i64 0, .int .i64 4, .nils], .int .i64 3, .int .i64 4]
def m122 : Memo := ⟨207, a122, .int .i64 0, [], 35⟩
set_option maxRecDepth 1000000 in
theorem m122_ok : m122.ok Tryz.prog { tabCfg tabs with hk := bothHk 12 (tabM c122) (tabH d0) } 100000 12 (tabSt 12 tabs) = true := by kernel_rfl
theorem m122_sound : m122.Sound Tryz.prog 12 (tabCfg tabs) := memo_both c122_sound d0_sound (by kernel_rfl) tabs_lt m122_ok
def c123 : List Memo := m122 :: c122
theorem c123_sound : ∀ m ∈ c123, m.Sound Tryz.prog 12 (tabCfg tabs) := sound_cons m122_sound c122_sound

def a123 : List AV := [.agg [.int .i64 25, .int .i64 0, .int .i64 0, .int .i64 0, .int .i64 13, .nils], .int .i64 3, .int .i64 4]
def m123 : Memo := ⟨207, a123, .int .i64 0, [], 28⟩
set_option maxRecDepth 1000000 in
theorem m123_ok : m123.ok Tryz.prog { tabCfg tabs with hk := bothHk 12 (tabM c123) (tabH d0) } 100000 12 (tabSt 12 tabs) = true := by kernel_rfl
theorem m123_sound : m123.Sound Tryz.prog 12 (tabCfg tabs) := memo_both c123_sound d0_sound (by kernel_rfl) tabs_lt m123_ok
def c124 : List Memo := m123 :: c123
theorem c124_sound : ∀ m ∈ c124, m.Sound Tryz.prog 12 (tabCfg tabs) := sound_cons m123_sound c123_sound

def a124 : List AV := [.agg [.int .i64 1, .int .i64 0, .int .i64 0, .int .i64 0, .int .i64 0, .nils], .int .i64 3, .int .i64 4]
def m124 : Memo := ⟨207, a124, .int .i64 0, [], 31⟩
set_option maxRecDepth 1000000 in
theorem m124_ok : m124.ok Tryz.prog { tabCfg tabs with hk := bothHk 12 (tabM c124) (tabH d0) } 100000 12 (tabSt 12 tabs) = true := by kernel_rfl
theorem m124_sound : m124.Sound Tryz.prog 12 (tabCfg tabs) := memo_both c124_sound d0_sound (by kernel_rfl) tabs_lt m124_ok
def c125 : List Memo := m124 :: c124
theorem c125_sound : ∀ m ∈ c125, m.Sound Tryz.prog 12 (tabCfg tabs) := sound_cons m124_sound c124_sound

def a125 : List AV := [.agg [.int .i64 29, .int .i64 0, .int .i64 0, .int .i64 0, .int .i64 0, .nils], .int .i64 3, .int .i64 4]
def m125 : Memo := ⟨207, a125, .int .i64 0, [], 33⟩
set_option maxRecDepth 1000000 in
theorem m125_ok : m125.ok Tryz.prog { tabCfg tabs with hk := bothHk 12 (tabM c125) (tabH d0) } 100000 12 (tabSt 12 tabs) = true := by kernel_rfl
theorem m125_sound : m125.Sound Tryz.prog 12 (tabCfg tabs) := memo_both c125_sound d0_sound (by kernel_rfl) tabs_lt m125_ok
def c126 : List Memo := m125 :: c125
theorem c126_sound : ∀ m ∈ c126, m.Sound Tryz.prog 12 (tabCfg tabs) := sound_cons m125_sound c125_sound

def a126 : List AV := [.agg [.int .i64 23, .int .i64 0, .int .i64 0, .int .i64 0, .int .i64 0, .nils]]
def m126 : Memo := ⟨331, a126, .int .i64 (-1), [], 15⟩
set_option maxRecDepth 1000000 in
theorem m126_ok : m126.ok Tryz.prog { tabCfg tabs with hk := bothHk 12 (tabM c126) (tabH d0) } 100000 12 (tabSt 12 tabs) = true := by kernel_rfl
theorem m126_sound : m126.Sound Tryz.prog 12 (tabCfg tabs) := memo_both c126_sound d0_sound (by kernel_rfl) tabs_lt m126_ok
def c127 : List Memo := m126 :: c126
theorem c127_sound : ∀ m ∈ c127, m.Sound Tryz.prog 12 (tabCfg tabs) := sound_cons m126_sound c126_sound

def a127 : List AV := [.agg [.int .i64 30, .int .i64 1, .int .i64 0, .int .i64 0, .int .i64 0, .nils]]
def m127 : Memo := ⟨331, a127, .int .i64 (-1), [], 15⟩
set_option maxRecDepth 1000000 in
theorem m127_ok : m127.ok Tryz.prog { tabCfg tabs with hk := bothHk 12 (tabM c127) (tabH d0) } 100000 12 (tabSt 12 tabs) = true := by kernel_rfl
theorem m127_sound : m127.Sound Tryz.prog 12 (tabCfg tabs) := memo_both c127_sound d0_sound (by kernel_rfl) tabs_lt m127_ok
def c128 : List Memo := m127 :: c127
theorem c128_sound : ∀ m ∈ c128, m.Sound Tryz.prog 12 (tabCfg tabs) := sound_cons m127_sound c127_sound

def a128 : List AV := [.agg [.int .i64 22, .int .i64 0, .int .i64 1, .int .i64 0, .int .i64 4, .nils]]
def m128 : Memo := ⟨331, a128, .int .i64 (-1), [], 15⟩
set_option maxRecDepth 1000000 in
theorem m128_ok : m128.ok Tryz.prog { tabCfg tabs with hk := bothHk 12 (tabM c128) (tabH d0) } 100000 12 (tabSt 12 tabs) = true := by kernel_rfl
theorem m128_sound : m128.Sound Tryz.prog 12 (tabCfg tabs) := memo_both c128_sound d0_sound (by kernel_rfl) tabs_lt m128_ok
def c129 : List Memo := m128 :: c128
theorem c129_sound : ∀ m ∈ c129, m.Sound Tryz.prog 12 (tabCfg tabs) := sound_cons m128_sound c128_sound

def a129 : List AV := [.agg [.int .i64 2, .int .i64 0, .int .i64 1, .int .i64 0, .int .i64 0, .nils]]
def m129 : Memo := ⟨331, a129, .int .i64 (-1), [], 15⟩
set_option maxRecDepth 1000000 in
theorem m129_ok : m129.ok Tryz.prog { tabCfg tabs with hk := bothHk 12 (tabM c129) (tabH d0) } 100000 12 (tabSt 12 tabs) = true := by kernel_rfl
theorem m129_sound : m129.Sound Tryz.prog 12 (tabCfg tabs) := memo_both c129_sound d0_sound (by kernel_rfl) tabs_lt m129_ok
def c130 : List Memo := m129 :: c129
theorem c130_sound : ∀ m ∈ c130, m.Sound Tryz.prog 12 (tabCfg tabs) := sound_cons m129_sound c129_sound

def a130 : List AV := [.agg [.int .i64 21, .int .i64 0, .int .i64 0, .int .i64 0, .int .i64 5, .nils]]
def m130 : Memo := ⟨331, a130, .int .i64 (-1), [], 15⟩
set_option maxRecDepth 1000000 in
theorem m130_ok : m130.ok Tryz.prog { tabCfg tabs with hk := bothHk 12 (tabM c130) (tabH d0) } 100000 12 (tabSt 12 tabs) = true := by kernel_rfl
theorem m130_sound : m130.Sound Tryz.prog 12 (tabCfg tabs) := memo_both c130_sound d0_sound (by kernel_rfl) tabs_lt m130_ok
def c131 : List Memo := m130 :: c130
theorem c131_sound : ∀ m ∈ c131, m.Sound Tryz.prog 12 (tabCfg tabs) := sound_cons m130_sound c130_sound

def a131 : List AV := [.agg [.int .i64 26, .int .i64 0, .int .i64 0, .int .i64 0, .int .i64 71, .nils]]
def m131 : Memo := ⟨331, a131, .int .i64 71, [], 15⟩
set_option maxRecDepth 1000000 in
theorem m131_ok : m131.ok Tryz.prog { tabCfg tabs with hk := bothHk 12 (tabM c131) (tabH d0) } 100000 12 (tabSt 12 tabs) = true := by kernel_rfl
theorem m131_sound : m131.Sound Tryz.prog 12 (tabCfg tabs) := memo_both c131_sound d0_sound (by kernel_rfl) tabs_lt m131_ok
def c132 : List Memo := m131 :: c131
theorem c132_sound : ∀ m ∈ c132, m.Sound Tryz.prog 12 (tabCfg tabs) := sound_cons m131_sound c131_sound

def a132 : List AV := [.agg [.int .i64 31, .int .i64 0, .int .i64 0, .int .i64 0, .int .i64 0, .nils]]
def m132 : Memo := ⟨331, a132, .int .i64 (-1), [], 15⟩
set_option maxRecDepth 1000000 in
theorem m132_ok : m132.ok Tryz.prog { tabCfg tabs with hk := bothHk 12 (tabM c132) (tabH d0) } 100000 12 (tabSt 12 tabs) = true := by kernel_rfl
theorem m132_sound : m132.Sound Tryz.prog 12 (tabCfg tabs) := memo_both c132_sound d0_sound (by kernel_rfl) tabs_lt m132_ok
def c133 : List Memo := m132 :: c132
theorem c133_sound : ∀ m ∈ c133, m.Sound Tryz.prog 12 (tabCfg tabs) := sound_cons m132_sound c132_sound

def a133 : List AV := [.agg [.int .i64 21, .int .i64 1, .int .i64 0, .int .i64 0, .int .i64 5, .nils]]
def m133 : Memo := ⟨331, a133, .int .i64 (-1), [], 15⟩
set_option maxRecDepth 1000000 in
theorem m133_ok : m133.ok Tryz.prog { tabCfg tabs with hk := bothHk 12 (tabM c133) (tabH d0) } 100000 12 (tabSt 12 tabs) = true := by kernel_rfl
theorem m133_sound : m133.Sound Tryz.prog 12 (tabCfg tabs) := memo_both c133_sound d0_sound (by kernel_rfl) tabs_lt m133_ok
def c134 : List Memo := m133 :: c133
theorem c134_sound : ∀ m ∈ c134, m.Sound Tryz.prog 12 (tabCfg tabs) := sound_cons m133_sound c133_sound

def a134 : List AV := [.agg [.int .i64 1, .int .i64 2, .int .i64 0, .int .i64 0, .int .i64 1, .nils]]
def m134 : Memo := ⟨331, a134, .int .i64 (-1), [], 15⟩
set_option maxRecDepth 1000000 in
theorem m134_ok : m134.ok Tryz.prog { tabCfg tabs with hk := bothHk 12 (tabM c134) (tabH d0) } 100000 12 (tabSt 12 tabs) = true := by kernel_rfl
theorem m134_sound : m134.Sound Tryz.prog 12 (tabCfg tabs) := memo_both c134_sound d0_sound (by kernel_rfl) tabs_lt m134_ok
def c135 : List Memo := m134 :: c134
theorem c135_sound : ∀ m ∈ c135, m.Sound Tryz.prog 12 (tabCfg tabs) := sound_cons m134_sound c134_sound

def a135 : List AV := [.agg [.int .i64 4, .int .i64 2, .int .i64 1, .int .i64 2, .int .i64 0, .nils]]
def m135 : Memo := ⟨331, a135, .int .i64 (-1), [], 15⟩
set_option maxRecDepth 1000000 in
theorem m135_ok : m135.ok Tryz.prog { tabCfg tabs with hk := bothHk 12 (tabM c135) (tabH d0) } 100000 12 (tabSt 12 tabs) = true := by kernel_rfl
theorem m135_sound : m135.Sound Tryz.prog 12 (tabCfg tabs) := memo_both c135_sound d0_sound (by kernel_rfl) tabs_lt m135_ok
def c136 : List Memo := m135 :: c135
theorem c136_sound : ∀ m ∈ c136, m.Sound Tryz.prog 12 (tabCfg tabs) := sound_cons m135_sound c135_sound

def a136 : List AV := [.agg [.int .i64 20, .int .i64 2, .int .i64 2, .int .i64 0, .int .i64 5, .nils]]
def m136 : Memo := ⟨331, a136, .int .i64 (-1), [], 15⟩
set_option maxRecDepth 1000000 in
theorem m136_ok : m136.ok Tryz.prog { tabCfg tabs with hk := bothHk 12 (tabM c136) (tabH d0) } 100000 12 (tabSt 12 tabs) = true := by kernel_rfl
theorem m136_sound : m136.Sound Tryz.prog 12 (tabCfg tabs) := memo_both c136_sound d0_sound (by kernel_rfl) tabs_lt m136_ok
def c137 : List Memo := m136 :: c136
theorem c137_sound : ∀ m ∈ c137, m.Sound Tryz.prog 12 (tabCfg tabs) := sound_cons m136_sound c136_sound

def a137 : List AV := [.agg [.int .i64 22, .int .i64 0, .int .i64 2, .int .i64 0, .int .i64 4, .nils]]
def m137 : Memo := ⟨331, a137, .int .i64 (-1), [], 15⟩
set_option maxRecDepth 1000000 in
theorem m137_ok : m137.ok Tryz.prog { tabCfg tabs with hk := bothHk 12 (tabM c137) (tabH d0) } 100000 12 (tabSt 12 tabs) = true := by kernel_rfl
theorem m137_sound : m137.Sound Tryz.prog 12 (tabCfg tabs) := memo_both c137_sound d0_sound (by kernel_rfl) tabs_lt m137_ok
def c138 : List Memo := m137 :: c137
theorem c138_sound : ∀ m ∈ c138, m.Sound Tryz.prog 12 (tabCfg tabs) := sound_cons m137_sound c137_sound

def a138 : List AV := [.agg [.int .i64 25, .int .i64 0, .int .i64 0, .int .i64 0, .int .i64 13, .nils]]
def m138 : Memo := ⟨331, a138, .int .i64 13, [], 15⟩
set_option maxRecDepth 1000000 in
theorem m138_ok : m138.ok Tryz.prog { tabCfg tabs with hk := bothHk 12 (tabM c138) (tabH d0) } 100000 12 (tabSt 12 tabs) = true := by kernel_rfl
theorem m138_sound : m138.Sound Tryz.prog 12 (tabCfg tabs) := memo_both c138_sound d0_sound (by kernel_rfl) tabs_lt m138_ok
def c139 : List Memo := m138 :: c138
theorem c139_sound : ∀ m ∈ c139, m.Sound Tryz.prog 12 (tabCfg tabs) := sound_cons m138_sound c138_sound

def a139 : List AV := [.agg [.int .i64 23, .int .i64 0, .int .i64 0, .int .i64 0, .int .i64 0, .nils]]
def m139 : Memo := ⟨138, a139, .int .i64 0, [], 20⟩
set_option maxRecDepth 1000000 in
theorem m139_ok : m139.ok Tryz.prog { tabCfg tabs with hk := bothHk 12 (tabM c139) (tabH d0) } 100000 12 (tabSt 12 tabs) = true := by kernel_rfl
theorem m139_sound : m139.Sound Tryz.prog 12 (tabCfg tabs) := memo_both c139_sound d0_sound (by kernel_rfl) tabs_lt m139_ok
def c140 : List Memo := m139 :: c139
theorem c140_sound : ∀ m ∈ c140, m.Sound Tryz.prog 12 (tabCfg tabs) := sound_cons m139_sound c139_sound

def a140 : List AV := [.agg [.int .i64 23, .int .i64 0, .int .i64 0, .int .i64 0, .int .i64 0, .nils]]
def m140 : Memo := ⟨137, a140, .nils, [], 22⟩
set_option maxRecDepth 1000000 in
theorem m140_ok : m140.ok Tryz.prog { tabCfg tabs with hk := bothHk 12 (tabM c140) (tabH d0) } 100000 12 (tabSt 12 tabs) = true := by kernel_rfl
theorem m140_sound : m140.Sound Tryz.prog 12 (tabCfg tabs) := memo_both c140_sound d0_sound (by kernel_rfl) tabs_lt m140_ok
def c141 : List Memo := m140 :: c140
theorem c141_sound : ∀ m ∈ c141, m.Sound Tryz.prog 12 (tabCfg tabs) := sound_cons m140_sound c140_sound

def a141 : List AV := [.agg [.int .i64 2, .int .i64 0, .int .i64 1, .int .i64 0, .int .i64 0, .nils]]
def m141 : Memo := ⟨137, a141, .slc 22 0 0 1 none 1, [(22, .arr [.int .i64 1] 0 1 1 1 3)], 25⟩
set_option maxRecDepth 1000000 in
theorem m141_ok : m141.ok Tryz.prog { tabCfg tabs with hk := bothHk 12 (tabM c141) (tabH d0) } 100000 12 (tabSt 12 tabs) = true := by kernel_rfl
theorem m141_sound : m141.Sound Tryz.prog 12 (tabCfg tabs) := memo_both c141_sound d0_sound (by kernel_rfl) tabs_lt m141_ok
def c142 : List Memo := m141 :: c141
theorem c142_sound : ∀ m ∈ c142, m.Sound Tryz.prog 12 (tabCfg tabs) := sound_cons m141_sound c141_sound

def a142 : List AV := [.agg [.int .i64 21, .int .i64 0, .int .i64 0, .int .i64 0, .int .i64 5, .nils]]
def m142 : Memo := ⟨137, a142, .slc 22 0 0 1 none 1, [(22, .arr [.int .i64 0] 0 1 1 1 3)], 25⟩
set_option maxRecDepth 1000000 in
theorem m142_ok : m142.ok Tryz.prog { tabCfg tabs with hk := bothHk 12 (tabM c142) (tabH d0) } 100000 12 (tabSt 12 tabs) = true := by kernel_rfl
theorem m142_sound : m142.Sound Tryz.prog 12 (tabCfg tabs) := memo_both c142_sound d0_sound (by kernel_rfl) tabs_lt m142_ok
def c143 : List Memo := m142 :: c142
theorem c143_sound : ∀ m ∈ c143, m.Sound Tryz.prog 12 (tabCfg tabs) := sound_cons m142_sound c142_sound

def a143 : List AV := [.agg [.int .i64 26, .int .i64 0, .int .i64 0, .int .i64 0, .int .i64 71, .nils]]
def m143 : Memo := ⟨137, a143, .slc 21 0 0 1 none 1, [(21, .arr [.int .i64 0] 0 1 1 1 3)], 24⟩
set_option maxRecDepth 1000000 in
theorem m143_ok : m143.ok Tryz.prog { tabCfg tabs with hk := bothHk 12 (tabM c143) (tabH d0) } 100000 12 (tabSt 12 tabs) = true := by kernel_rfl
theorem m143_sound : m143.Sound Tryz.prog 12 (tabCfg tabs) := memo_both c143_sound d0_sound (by kernel_rfl) tabs_lt m143_ok
def c144 : List Memo := m143 :: c143
theorem c144_sound : ∀ m ∈ c144, m.Sound Tryz.prog 12 (tabCfg tabs) := sound_cons m143_sound c143_sound

def a144 : List AV := [.agg [.int .i64 31, .int .i64 0, .int .i64 0, .int .i64 0, .int .i64 0, .nils]]
def m144 : Memo := ⟨137, a144, .slc 21 0 0 1 none 1, [(21, .arr [.int .i64 0] 0 1 1 1 3)], 24⟩
set_option maxRecDepth 1000000 in
theorem m144_ok : m144.ok Tryz.prog { tabCfg tabs with hk := bothHk 12 (tabM c144) (tabH d0) } 100000 12 (tabSt 12 tabs) = true := by kernel_rfl
theorem m144_sound : m144.Sound Tryz.prog 12 (tabCfg tabs) := memo_both c144_sound d0_sound (by kernel_rfl) tabs_lt m144_ok
def c145 : List Memo := m144 :: c144
theorem c145_sound : ∀ m ∈ c145, m.Sound Tryz.prog 12 (tabCfg tabs) := sound_cons m144_sound c144_sound

def a145 : List AV := [.agg [.int .i64 21, .int .i64 1, .int .i64 0, .int .i64 0, .int .i64 5, .nils]]
def m145 : Memo := ⟨137, a145, .slc 22 0 0 1 none 1, [(22, .arr [.int .i64 0] 0 1 1 1 3)], 25⟩
set_option maxRecDepth 1000000 in
theorem m145_ok : m145.ok Tryz.prog { tabCfg tabs with hk := bothHk 12 (tabM c145) (tabH d0) } 100000 12 (tabSt 12 tabs) = true := by kernel_rfl
theorem m145_sound : m145.Sound Tryz.prog 12 (tabCfg tabs) := memo_both c145_sound d0_sound (by kernel_rfl) tabs_lt m145_ok
def c146 : List Memo := m145 :: c145
theorem c146_sound : ∀ m ∈ c146, m.Sound Tryz.prog 12 (tabCfg tabs) := sound_cons m145_sound c145_sound

def a146 : List AV := [.agg [.int .i64 1, .int .i64 2, .int .i64 0, .int .i64 0, .int .i64 1, .nils]]
def m146 : Memo := ⟨137, a146, .nils, [], 22⟩
set_option maxRecDepth 1000000 in
theorem m146_ok : m146.ok Tryz.prog { tabCfg tabs with hk := bothHk 12 (tabM c146) (tabH d0) } 100000 12 (tabSt 12 tabs) = true := by kernel_rfl
theorem m146_sound : m146.Sound Tryz.prog 12 (tabCfg tabs) := memo_both c146_sound d0_sound (by kernel_rfl) tabs_lt m146_ok
def c147 : List Memo := m146 :: c146
theorem c147_sound : ∀ m ∈ c147, m.Sound Tryz.prog 12 (tabCfg tabs) := sound_cons m146_sound c146_sound

def a147 : List AV := [.agg [.int .i64 4, .int .i64 2, .int .i64 1, .int .i64 2, .int .i64 0, .nils]]
def m147 : Memo := ⟨137, a147, .slc 22 1 0 2 none 1, [(22, .arr [.int .i64 1, .int .i64 2] 0 1 1 2 3)], 27⟩
set_option maxRecDepth 1000000 in
theorem m147_ok : m147.ok Tryz.prog { tabCfg tabs with hk := bothHk 12 (tabM c147) (tabH d0) } 100000 12 (tabSt 12 tabs) = true := by kernel_rfl
theorem m147_sound : m147.Sound Tryz.prog 12 (tabCfg tabs) := memo_both c147_sound d0_sound (by kernel_rfl) tabs_lt m147_ok
def c148 : List Memo := m147 :: c147
theorem c148_sound : ∀ m ∈ c148, m.Sound Tryz.prog 12 (tabCfg tabs) := sound_cons m147_sound c147_sound

def a148 : List AV := [.agg [.int .i64 20, .int .i64 2, .int .i64 2, .int .i64 0, .int .i64 5, .nils]]
def m148 : Memo := ⟨137, a148, .slc 22 0 0 1 none 1, [(22, .arr [.int .i64 2] 0 1 1 1 3)], 25⟩
set_option maxRecDepth 1000000 in
theorem m148_ok : m148.ok Tryz.prog { tabCfg tabs with hk := bothHk 12 (tabM c148) (tabH d0) } 100000 12 (tabSt 12 tabs) = true := by kernel_rfl
theorem m148_sound : m148.Sound Tryz.prog 12 (tabCfg tabs) := memo_both c148_sound d0_sound (by kernel_rfl) tabs_lt m148_ok
def c149 : List Memo := m148 :: c148
theorem c149_sound : ∀ m ∈ c149, m.Sound Tryz.prog 12 (tabCfg tabs) := sound_cons m148_sound c148_sound

def a149 : List AV := [.agg [.int .i64 22, .int .i64 0, .int .i64 2, .int .i64 0, .int .i64 4, .nils]]
def m149 : Memo := ⟨137, a149, .slc 21 1 0 2 none 1, [(21, .arr [.int .i64 0, .int .i64 2] 0 1 1 2 3)], 26⟩
set_option maxRecDepth 1000000 in
theorem m149_ok : m149.ok Tryz.prog { tabCfg tabs with hk := bothHk 12 (tabM c149) (tabH d0) } 100000 12 (tabSt 12 tabs) = true := by kernel_rfl
theorem m149_sound : m149.Sound Tryz.prog 12 (tabCfg tabs) := memo_both c149_sound d0_sound (by kernel_rfl) tabs_lt m149_ok
def c150 : List Memo := m149 :: c149
theorem c150_sound : ∀ m ∈ c150, m.Sound Tryz.prog 12 (tabCfg tabs) := sound_cons m149_sound c149_sound

def a150 : List AV := [.agg [.int .i64 25, .int .i64 0, .int .i64 0, .int .i64 0, .int .i64 13, .nils]]
def m150 : Memo := ⟨137, a150, .nils, [], 20⟩
set_option maxRecDepth 1000000 in
theorem m150_ok : m150.ok Tryz.prog { tabCfg tabs with hk := bothHk 12 (tabM c150) (tabH d0) } 100000 12 (tabSt 12 tabs) = true := by kernel_rfl
theorem m150_sound : m150.Sound Tryz.prog 12 (tabCfg tabs) := memo_both c150_sound d0_sound (by kernel_rfl) tabs_lt m150_ok
def c151 : List Memo := m150 :: c150
theorem c151_sound : ∀ m ∈ c151, m.Sound Tryz.prog 12 (tabCfg tabs) := sound_cons m150_sound c150_sound
end Go.Proofs.YtbbnjiceenjhcaaGreatDoor
