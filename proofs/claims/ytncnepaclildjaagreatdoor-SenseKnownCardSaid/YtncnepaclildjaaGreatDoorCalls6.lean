/-
  Calls whose outcome is known, each shown by the evaluator with the earlier ones and the tables at hand; part 6. No condition.
-/
import Derived.Test.YtncnepaclildjaaGreatDoorCalls5
namespace Go.Proofs.YtncnepaclildjaaGreatDoor
open Go.Tw

def a59 : List AV := [strN [105,110,116,32,109,97,105,110,40,118,111,105,100,41,123,99,104,97,114,42,112,59,112,61,48,59,114,101,116,117,114,110,32,42,112,59,125]]
def m59 : Memo := ⟨8, a59, .tup [.agg [.nils, .slc 276 10 0 11 none 8], .agg [.int .i64 0, .int .i64 0]], [(255, .arr [.int .i64 (-1)] 0 1 1 1 3), (276, .arr [.int .i64 30, .int .i64 15, strN [112], .int .i64 0, .int .i64 1, .int .i64 0, .slc 255 0 0 1 none 1, .nils, .int .i64 3, .int .i64 22, strN [112], .int .i64 0, .int .i64 0, .int .i64 0, .nils, .nils, .int .i64 1, .int .i64 24, strN [], .int .i64 0, .int .i64 0, .int .i64 0, .nils, .nils, .int .i64 7, .int .i64 22, strN [61], .int .i64 0, .int .i64 0, .int .i64 0, .nils, .slc 473 0 0 2 (some 2) 1, .int .i64 15, .int .i64 22, strN [], .int .i64 0, .int .i64 0, .int .i64 0, .nils, .slc 476 0 0 1 (some 1) 1, .int .i64 3, .int .i64 34, strN [112], .int .i64 0, .int .i64 0, .int .i64 0, .nils, .nils, .int .i64 4, .int .i64 33, strN [42], .int .i64 0, .int .i64 0, .int .i64 0, .nils, .slc 570 0 0 1 (some 1) 1, .int .i64 22, .int .i64 26, strN [], .int .i64 0, .int .i64 0, .int .i64 0, .nils, .slc 600 0 0 1 none 1, .int .i64 17, .int .i64 14, strN [], .int .i64 0, .int .i64 0, .int .i64 0, .nils, .slc 278 2 0 3 none 1, .int .i64 32, .int .i64 0, strN [109,97,105,110], .int .i64 0, .int .i64 5, .int .i64 0, .nils, .slc 616 0 0 1 none 1, .int .i64 34, .int .i64 0, strN [], .int .i64 0, .int .i64 0, .int .i64 0, .nils, .slc 620 0 0 1 none 1] 0 8 1 11 91), (278, .arr [.int .i64 0, .int .i64 4, .int .i64 7] 0 1 1 3 3), (473, .box [.int .i64 1, .int .i64 2] 3), (476, .box [.int .i64 3] 3), (570, .box [.int .i64 5] 3), (600, .arr [.int .i64 6] 0 1 1 1 3), (616, .arr [.int .i64 8] 0 1 1 1 3), (620, .arr [.int .i64 9] 0 1 1 1 3)], 623⟩
set_option maxRecDepth 1000000 in
theorem m59_ok : m59.ok Tryz.prog { tabCfg tabs with hk := memoHk 12 (tabM c59) } 100000 12 (tabSt 12 tabs) = true := by kernel_rfl
theorem m59_sound : m59.Sound Tryz.prog 12 (tabCfg tabs) := memo_tab c59_sound (by kernel_rfl) tabs_lt m59_ok
def c60 : List Memo := m59 :: c59
theorem c60_sound : ∀ m ∈ c60, m.Sound Tryz.prog 12 (tabCfg tabs) := sound_cons m59_sound c59_sound

def a60 : List AV := [strN [112]]
def m60 : Memo := ⟨102, a60, .bool true, [], 21⟩
set_option maxRecDepth 1000000 in
theorem m60_ok : m60.ok Tryz.prog { tabCfg tabs with hk := memoHk 12 (tabM c60) } 100000 12 (tabSt 12 tabs) = true := by kernel_rfl
theorem m60_sound : m60.Sound Tryz.prog 12 (tabCfg tabs) := memo_tab c60_sound (by kernel_rfl) tabs_lt m60_ok
def c61 : List Memo := m60 :: c60
theorem c61_sound : ∀ m ∈ c61, m.Sound Tryz.prog 12 (tabCfg tabs) := sound_cons m60_sound c60_sound

def a61 : List AV := [strN [45,32,126,32,33,32,42,32,38,32,43,43,32,45,45], strN [42]]
def m61 : Memo := ⟨218, a61, .bool true, [], 13⟩
set_option maxRecDepth 1000000 in
theorem m61_ok : m61.ok Tryz.prog { tabCfg tabs with hk := memoHk 12 (tabM c61) } 100000 12 (tabSt 12 tabs) = true := by kernel_rfl
theorem m61_sound : m61.Sound Tryz.prog 12 (tabCfg tabs) := memo_tab c61_sound (by kernel_rfl) tabs_lt m61_ok
def c62 : List Memo := m61 :: c61
theorem c62_sound : ∀ m ∈ c62, m.Sound Tryz.prog 12 (tabCfg tabs) := sound_cons m61_sound c61_sound

def a62 : List AV := [strN [108,115,115], strN [115,108,109]]
def m62 : Memo := ⟨220, a62, strN [], [], 14⟩
set_option maxRecDepth 1000000 in
theorem m62_ok : m62.ok Tryz.prog { tabCfg tabs with hk := memoHk 12 (tabM c62) } 100000 12 (tabSt 12 tabs) = true := by kernel_rfl
theorem m62_sound : m62.Sound Tryz.prog 12 (tabCfg tabs) := memo_tab c62_sound (by kernel_rfl) tabs_lt m62_ok
def c63 : List Memo := m62 :: c62
theorem c63_sound : ∀ m ∈ c63, m.Sound Tryz.prog 12 (tabCfg tabs) := sound_cons m62_sound c62_sound

def a63 : List AV := [strN [105,110,116,32,109,97,105,110,40,118,111,105,100,41,123,99,104,97,114,42,112,59,112,61,48,59,114,101,116,117,114,110,32,42,112,59,125], .int .i64 5, .int .i64 3, .nils]
def m63 : Memo := ⟨4, a63, .bool true, [], 1309⟩
set_option maxRecDepth 1000000 in
theorem m63_ok : m63.ok Tryz.prog { tabCfg tabs with hk := memoHk 12 (tabM c63) } 100000 12 (tabSt 12 tabs) = true := by kernel_rfl
theorem m63_sound : m63.Sound Tryz.prog 12 (tabCfg tabs) := memo_tab c63_sound (by kernel_rfl) tabs_lt m63_ok
def c64 : List Memo := m63 :: c63
theorem c64_sound : ∀ m ∈ c64, m.Sound Tryz.prog 12 (tabCfg tabs) := sound_cons m63_sound c63_sound
end Go.Proofs.YtncnepaclildjaaGreatDoor
