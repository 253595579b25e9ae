/-
  Calls whose outcome is known, each shown by the evaluator with the earlier ones and the tables at hand; part 3. No condition.
-/
import Derived.Test.YtbbnjiceenjhcaaGreatDoorCalls2
set_option linter.all false
namespace Go.Proofs.YtbbnjiceenjhcaaGreatDoor
open Go.Tw

def a151 : List AV := [strN [105,110,116,32,109,97,105,110,40,118,111,105,100,41,123,105,110,116,32,97,59,97,61,103,101,116,98,40,41,59,119,104,105,108,101,40,97,41,123,112,117,116,98,40,97,41,59,97,45,45,59,125,114,101,116,117,114,110,32,48,59,125]]
def m151 : Memo := ⟨9, a151, .tup [.agg [.nils, .slc 31109 0 0 1 none 4], .agg [.int .i64 0, .int .i64 0]], [(30234, .arr [.int .i64 23, .int .i64 0, .int .i64 0, .int .i64 0, .int .i64 0, .nils, .int .i64 30, .int .i64 1, .int .i64 0, .int .i64 0, .int .i64 0, .nils, .int .i64 22, .int .i64 0, .int .i64 1, .int .i64 0, .int .i64 4, .nils, .int .i64 2, .int .i64 0, .int .i64 1, .int .i64 0, .int .i64 0, .nils, .int .i64 23, .int .i64 0, .int .i64 0, .int .i64 0, .int .i64 0, .nils, .int .i64 21, .int .i64 0, .int .i64 0, .int .i64 0, .int .i64 5, .nils, .int .i64 26, .int .i64 0, .int .i64 0, .int .i64 0, .int .i64 71, .nils, .int .i64 23, .int .i64 0, .int .i64 0, .int .i64 0, .int .i64 0, .nils, .int .i64 21, .int .i64 0, .int .i64 0, .int .i64 0, .int .i64 5, .nils, .int .i64 31, .int .i64 0, .int .i64 0, .int .i64 0, .int .i64 0, .nils, .int .i64 23, .int .i64 0, .int .i64 0, .int .i64 0, .int .i64 0, .nils, .int .i64 21, .int .i64 1, .int .i64 0, .int .i64 0, .int .i64 5, .nils, .int .i64 1, .int .i64 2, .int .i64 0, .int .i64 0, .int .i64 1, .nils, .int .i64 4, .int .i64 2, .int .i64 1, .int .i64 2, .int .i64 0, .nils, .int .i64 20, .int .i64 2, .int .i64 2, .int .i64 0, .int .i64 5, .nils, .int .i64 22, .int .i64 0, .int .i64 2, .int .i64 0, .int .i64 4, .nils, .int .i64 2, .int .i64 0, .int .i64 1, .int .i64 0, .int .i64 0, .nils, .int .i64 25, .int .i64 0, .int .i64 0, .int .i64 0, .int .i64 13, .nils, .int .i64 1, .int .i64 0, .int .i64 0, .int .i64 0, .int .i64 0, .nils, .int .i64 29, .int .i64 0, .int .i64 0, .int .i64 0, .int .i64 0, .nils] 19 120 20 20 114), (31109, .arr [.int .i64 0, .int .i64 3, .int .i64 4, .slc 30234 19 0 20 none 6] 0 4 1 1 111)], 31112⟩
set_option maxRecDepth 1000000 in
theorem m151_ok : m151.ok Tryz.prog { tabCfg tabs with hk := bothHk 12 (tabM c151) (tabH d4) } 100000 12 (tabSt 12 tabs) = true := by kernel_rfl
theorem m151_sound : m151.Sound Tryz.prog 12 (tabCfg tabs) := memo_both c151_sound d4_sound (by kernel_rfl) tabs_lt m151_ok
def c152 : List Memo := m151 :: c151
theorem c152_sound : ∀ m ∈ c152, m.Sound Tryz.prog 12 (tabCfg tabs) := sound_cons m151_sound c151_sound

def a152 : List AV := [.int .u64 1016, .int .i64 8]
def m152 : Memo := ⟨198, a152, .tup [.slc 13 7 0 8 none 1, .int .i64 0], [(13, .arr [.int .u8 248, .int .u8 3, .int .u8 0, .int .u8 0, .int .u8 0, .int .u8 0, .int .u8 0, .int .u8 0] 0 1 1 8 5)], 21⟩
set_option maxRecDepth 1000000 in
theorem m152_ok : m152.ok Tryz.prog { tabCfg tabs with hk := bothHk 12 (tabM c152) (tabH d4) } 100000 12 (tabSt 12 tabs) = true := by kernel_rfl
theorem m152_sound : m152.Sound Tryz.prog 12 (tabCfg tabs) := memo_both c152_sound d4_sound (by kernel_rfl) tabs_lt m152_ok
def c153 : List Memo := m152 :: c152
theorem c153_sound : ∀ m ∈ c153, m.Sound Tryz.prog 12 (tabCfg tabs) := sound_cons m152_sound c152_sound

def a153 : List AV := [.int .u64 5, .int .i64 8]
def m153 : Memo := ⟨198, a153, .tup [.slc 13 7 0 8 none 1, .int .i64 0], [(13, .arr [.int .u8 5, .int .u8 0, .int .u8 0, .int .u8 0, .int .u8 0, .int .u8 0, .int .u8 0, .int .u8 0] 0 1 1 8 5)], 21⟩
set_option maxRecDepth 1000000 in
theorem m153_ok : m153.ok Tryz.prog { tabCfg tabs with hk := bothHk 12 (tabM c153) (tabH d4) } 100000 12 (tabSt 12 tabs) = true := by kernel_rfl
theorem m153_sound : m153.Sound Tryz.prog 12 (tabCfg tabs) := memo_both c153_sound d4_sound (by kernel_rfl) tabs_lt m153_ok
def c154 : List Memo := m153 :: c153
theorem c154_sound : ∀ m ∈ c154, m.Sound Tryz.prog 12 (tabCfg tabs) := sound_cons m153_sound c153_sound

def a154 : List AV := [.int .u64 4, .int .i64 8]
def m154 : Memo := ⟨198, a154, .tup [.slc 13 7 0 8 none 1, .int .i64 0], [(13, .arr [.int .u8 4, .int .u8 0, .int .u8 0, .int .u8 0, .int .u8 0, .int .u8 0, .int .u8 0, .int .u8 0] 0 1 1 8 5)], 21⟩
set_option maxRecDepth 1000000 in
theorem m154_ok : m154.ok Tryz.prog { tabCfg tabs with hk := bothHk 12 (tabM c154) (tabH d4) } 100000 12 (tabSt 12 tabs) = true := by kernel_rfl
theorem m154_sound : m154.Sound Tryz.prog 12 (tabCfg tabs) := memo_both c154_sound d4_sound (by kernel_rfl) tabs_lt m154_ok
def c155 : List Memo := m154 :: c154
theorem c155_sound : ∀ m ∈ c155, m.Sound Tryz.prog 12 (tabCfg tabs) := sound_cons m154_sound c154_sound

def a155 : List AV := [.int .u64 3, .int .i64 8]
def m155 : Memo := ⟨198, a155, .tup [.slc 13 7 0 8 none 1, .int .i64 0], [(13, .arr [.int .u8 3, .int .u8 0, .int .u8 0, .int .u8 0, .int .u8 0, .int .u8 0, .int .u8 0, .int .u8 0] 0 1 1 8 5)], 21⟩
set_option maxRecDepth 1000000 in
theorem m155_ok : m155.ok Tryz.prog { tabCfg tabs with hk := bothHk 12 (tabM c155) (tabH d4) } 100000 12 (tabSt 12 tabs) = true := by kernel_rfl
theorem m155_sound : m155.Sound Tryz.prog 12 (tabCfg tabs) := memo_both c155_sound d4_sound (by kernel_rfl) tabs_lt m155_ok
def c156 : List Memo := m155 :: c155
theorem c156_sound : ∀ m ∈ c156, m.Sound Tryz.prog 12 (tabCfg tabs) := sound_cons m155_sound c155_sound

def a156 : List AV := [.int .u64 2, .int .i64 8]
def m156 : Memo := ⟨198, a156, .tup [.slc 13 7 0 8 none 1, .int .i64 0], [(13, .arr [.int .u8 2, .int .u8 0, .int .u8 0, .int .u8 0, .int .u8 0, .int .u8 0, .int .u8 0, .int .u8 0] 0 1 1 8 5)], 21⟩
set_option maxRecDepth 1000000 in
theorem m156_ok : m156.ok Tryz.prog { tabCfg tabs with hk := bothHk 12 (tabM c156) (tabH d4) } 100000 12 (tabSt 12 tabs) = true := by kernel_rfl
theorem m156_sound : m156.Sound Tryz.prog 12 (tabCfg tabs) := memo_both c156_sound d4_sound (by kernel_rfl) tabs_lt m156_ok
def c157 : List Memo := m156 :: c156
theorem c157_sound : ∀ m ∈ c157, m.Sound Tryz.prog 12 (tabCfg tabs) := sound_cons m156_sound c156_sound
end Go.Proofs.YtbbnjiceenjhcaaGreatDoor
