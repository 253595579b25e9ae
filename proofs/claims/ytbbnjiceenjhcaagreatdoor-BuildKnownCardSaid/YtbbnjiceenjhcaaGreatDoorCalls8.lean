/-
  Calls whose outcome is known, each shown by the evaluator with the earlier ones and the tables at hand; part 8. No condition.
-/
import Derived.Test.YtbbnjiceenjhcaaGreatDoorCalls7
import Derived.Test.YtbbnjiceenjhcaaGreatDoorTwHeap4
set_option linter.all false
namespace Go.Proofs.YtbbnjiceenjhcaaGreatDoor
open Go.Tw

def a157 : List AV := [strN [105,110,116,32,109,97,105,110,40,118,111,105,100,41,123,105,110,116,32,97,59,97,61,103,101,116,98,40,41,59,119,104,105,108,101,40,97,41,123,112,117,116,98,40,97,41,59,97,45,45,59,125,114,101,116,117,114,110,32,48,59,125], strN [43,53,32,45,53,32,45,52,32,45,51,32,45,50,32,45,49,32,101,120,105,116,32,48]]
def kl157 : List (Nat × HMemo) := [(79, h4), (78, h5), (77, h6), (76, h7), (75, h8), (74, h9), (73, h10), (72, h11), (71, h12), (70, h13), (69, h14), (68, h15), (67, h16), (66, h17), (65, h18), (64, h19), (63, h20), (62, h21), (61, h22), (60, h23), (59, h24), (58, h25), (57, h26), (56, h27), (55, h28), (54, h29), (53, h30), (52, h31), (51, h32), (50, h33), (49, h34), (48, h35), (47, h36), (46, h37), (45, h38), (44, h39), (43, h40), (42, h41), (41, h42), (40, h43), (39, h44), (38, h45), (37, h46), (36, h47), (35, h48), (34, h49), (33, h50), (32, h51), (31, h52), (30, h53), (29, h54), (28, h55), (27, h56), (26, h57), (25, h58), (24, h59), (23, h60), (22, h61), (21, h62), (20, h63), (19, h64), (18, h65), (17, h66), (16, h67), (15, h68), (14, h69), (13, h70), (12, h71), (11, h72), (10, h73), (9, h74), (8, h75), (7, h76), (6, h77), (5, h78), (4, h79), (3, h80), (2, h81), (1, h82), (0, h83)]
theorem kl157_sound : ∀ q ∈ kl157, q.2.Sound Tryz.prog 12 (tabCfg tabs) := (ksound_cons h4_sound (ksound_cons h5_sound (ksound_cons h6_sound (ksound_cons h7_sound (ksound_cons h8_sound (ksound_cons h9_sound (ksound_cons h10_sound (ksound_cons h11_sound (ksound_cons h12_sound (ksound_cons h13_sound (ksound_cons h14_sound (ksound_cons h15_sound (ksound_cons h16_sound (ksound_cons h17_sound (ksound_cons h18_sound (ksound_cons h19_sound (ksound_cons h20_sound (ksound_cons h21_sound (ksound_cons h22_sound (ksound_cons h23_sound (ksound_cons h24_sound (ksound_cons h25_sound (ksound_cons h26_sound (ksound_cons h27_sound (ksound_cons h28_sound (ksound_cons h29_sound (ksound_cons h30_sound (ksound_cons h31_sound (ksound_cons h32_sound (ksound_cons h33_sound (ksound_cons h34_sound (ksound_cons h35_sound (ksound_cons h36_sound (ksound_cons h37_sound (ksound_cons h38_sound (ksound_cons h39_sound (ksound_cons h40_sound (ksound_cons h41_sound (ksound_cons h42_sound (ksound_cons h43_sound (ksound_cons h44_sound (ksound_cons h45_sound (ksound_cons h46_sound (ksound_cons h47_sound (ksound_cons h48_sound (ksound_cons h49_sound (ksound_cons h50_sound (ksound_cons h51_sound (ksound_cons h52_sound (ksound_cons h53_sound (ksound_cons h54_sound (ksound_cons h55_sound (ksound_cons h56_sound (ksound_cons h57_sound (ksound_cons h58_sound (ksound_cons h59_sound (ksound_cons h60_sound (ksound_cons h61_sound (ksound_cons h62_sound (ksound_cons h63_sound (ksound_cons h64_sound (ksound_cons h65_sound (ksound_cons h66_sound (ksound_cons h67_sound (ksound_cons h68_sound (ksound_cons h69_sound (ksound_cons h70_sound (ksound_cons h71_sound (ksound_cons h72_sound (ksound_cons h73_sound (ksound_cons h74_sound (ksound_cons h75_sound (ksound_cons h76_sound (ksound_cons h77_sound (ksound_cons h78_sound (ksound_cons h79_sound (ksound_cons h80_sound (ksound_cons h81_sound (ksound_cons h82_sound (ksound_cons h83_sound ksound_nil))))))))))))))))))))))))))))))))))))))))))))))))))))))))))))))))))))))))))))))))
def m157 : Memo := ⟨5, a157, .bool true, [], 46777⟩
set_option maxRecDepth 1000000 in
theorem m157_ok : m157.ok Tryz.prog { tabCfg tabs with hk := keyHkQ 12 9 (keyT kl157) (bothHk 12 (tabM c157) (tabH d86)) } 100000 12 (tabSt 12 tabs) = true := by kernel_rfl
theorem m157_sound : m157.Sound Tryz.prog 12 (tabCfg tabs) := memo_keyQ c157_sound d86_sound kl157_sound (by kernel_rfl) tabs_lt m157_ok
def c158 : List Memo := m157 :: c157
theorem c158_sound : ∀ m ∈ c158, m.Sound Tryz.prog 12 (tabCfg tabs) := sound_cons m157_sound c157_sound

def a158 : List AV := []
def m158 : Memo := ⟨4, a158, .bool true, [], 53885⟩
set_option maxRecDepth 1000000 in
theorem m158_ok : m158.ok Tryz.prog { tabCfg tabs with hk := bothHk 12 (tabM c158) (tabH d86) } 100000 12 (tabSt 12 tabs) = true := by kernel_rfl
theorem m158_sound : m158.Sound Tryz.prog 12 (tabCfg tabs) := memo_both c158_sound d86_sound (by kernel_rfl) tabs_lt m158_ok
def c159 : List Memo := m158 :: c158
theorem c159_sound : ∀ m ∈ c159, m.Sound Tryz.prog 12 (tabCfg tabs) := sound_cons m158_sound c158_sound

def a159 : List AV := [strN [105,110,116,32,109,97,105,110,40,118,111,105,100,41,123,114,101,116,117,114,110,32,49,47,48,59,125]]
def m159 : Memo := ⟨47, a159, .tup [.agg [.nils, .slc 232 6 0 7 none 8], .agg [.int .i64 0, .int .i64 0]], [(232, .arr [.int .i64 1, .int .i64 22, strN [], .int .i64 1, .int .i64 0, .int .i64 0, .nils, .nils, .int .i64 1, .int .i64 24, strN [], .int .i64 0, .int .i64 0, .int .i64 0, .nils, .nils, .int .i64 6, .int .i64 22, strN [47], .int .i64 0, .int .i64 0, .int .i64 0, .nils, .slc 279 0 0 2 (some 2) 1, .int .i64 22, .int .i64 15, strN [], .int .i64 0, .int .i64 0, .int .i64 0, .nils, .slc 309 0 0 1 none 1, .int .i64 17, .int .i64 14, strN [], .int .i64 0, .int .i64 0, .int .i64 0, .nils, .slc 316 0 0 1 none 1, .int .i64 32, .int .i64 0, strN [109,97,105,110], .int .i64 0, .int .i64 5, .int .i64 0, .nils, .slc 326 0 0 1 none 1, .int .i64 34, .int .i64 0, strN [], .int .i64 0, .int .i64 0, .int .i64 0, .nils, .slc 330 0 0 1 none 1] 0 8 1 7 304), (279, .box [.int .i64 0, .int .i64 1] 3), (309, .arr [.int .i64 2] 0 1 1 1 3), (316, .arr [.int .i64 3] 0 1 1 1 3), (326, .arr [.int .i64 4] 0 1 1 1 3), (330, .arr [.int .i64 5] 0 1 1 1 3)], 333⟩
set_option maxRecDepth 1000000 in
theorem m159_ok : m159.ok Tryz.prog { tabCfg tabs with hk := bothHk 12 (tabM c159) (tabH d86) } 100000 12 (tabSt 12 tabs) = true := by kernel_rfl
theorem m159_sound : m159.Sound Tryz.prog 12 (tabCfg tabs) := memo_both c159_sound d86_sound (by kernel_rfl) tabs_lt m159_ok
def c160 : List Memo := m159 :: c159
theorem c160_sound : ∀ m ∈ c160, m.Sound Tryz.prog 12 (tabCfg tabs) := sound_cons m159_sound c159_sound

def a160 : List AV := [strN [42,32,47,32,37,32,43,32,45,32,60,60,32,62,62,32,60,32,62,32,60,61,32,62,61,32,61,61,32,33,61,32,38,32,94,32,124,32,38,38,32,124,124], strN [47]]
def m160 : Memo := ⟨522, a160, .bool true, [], 13⟩
set_option maxRecDepth 1000000 in
theorem m160_ok : m160.ok Tryz.prog { tabCfg tabs with hk := bothHk 12 (tabM c160) (tabH d86) } 100000 12 (tabSt 12 tabs) = true := by kernel_rfl
theorem m160_sound : m160.Sound Tryz.prog 12 (tabCfg tabs) := memo_both c160_sound d86_sound (by kernel_rfl) tabs_lt m160_ok
def c161 : List Memo := m160 :: c160
theorem c161_sound : ∀ m ∈ c161, m.Sound Tryz.prog 12 (tabCfg tabs) := sound_cons m160_sound c160_sound

def a161 : List AV := [.agg [.int .i64 1, .int .i64 0, .int .i64 0, .int .i64 0, .int .i64 1, .nils]]
def m161 : Memo := ⟨240, a161, .tup [.slc 18 0 0 1 none 1, .nils, .int .i64 0], [(18, .arr [.int .i64 0] 0 1 1 1 3)], 19⟩
set_option maxRecDepth 1000000 in
theorem m161_ok : m161.ok Tryz.prog { tabCfg tabs with hk := bothHk 12 (tabM c161) (tabH d86) } 100000 12 (tabSt 12 tabs) = true := by kernel_rfl
theorem m161_sound : m161.Sound Tryz.prog 12 (tabCfg tabs) := memo_both c161_sound d86_sound (by kernel_rfl) tabs_lt m161_ok
def c162 : List Memo := m161 :: c161
theorem c162_sound : ∀ m ∈ c162, m.Sound Tryz.prog 12 (tabCfg tabs) := sound_cons m161_sound c161_sound

def a162 : List AV := [.agg [.int .i64 1, .int .i64 0, .int .i64 0, .int .i64 0, .int .i64 1, .nils]]
def m162 : Memo := ⟨202, a162, .int .i64 0, [], 32⟩
set_option maxRecDepth 1000000 in
theorem m162_ok : m162.ok Tryz.prog { tabCfg tabs with hk := bothHk 12 (tabM c162) (tabH d86) } 100000 12 (tabSt 12 tabs) = true := by kernel_rfl
theorem m162_sound : m162.Sound Tryz.prog 12 (tabCfg tabs) := memo_both c162_sound d86_sound (by kernel_rfl) tabs_lt m162_ok
def c163 : List Memo := m162 :: c162
theorem c163_sound : ∀ m ∈ c163, m.Sound Tryz.prog 12 (tabCfg tabs) := sound_cons m162_sound c162_sound

def a163 : List AV := [.agg [.int .i64 1, .int .i64 0, .int .i64 0, .int .i64 0, .int .i64 1, .nils]]
def m163 : Memo := ⟨102, a163, .tup [.slc 40 1 0 10 none 1, .int .i64 0], [(40, .arr [.int .u8 1, .int .u8 0, .int .u8 1, .int .u8 0, .int .u8 0, .int .u8 0, .int .u8 0, .int .u8 0, .int .u8 0, .int .u8 0] 0 2 1 2 5)], 50⟩
set_option maxRecDepth 1000000 in
theorem m163_ok : m163.ok Tryz.prog { tabCfg tabs with hk := bothHk 12 (tabM c163) (tabH d86) } 100000 12 (tabSt 12 tabs) = true := by kernel_rfl
theorem m163_sound : m163.Sound Tryz.prog 12 (tabCfg tabs) := memo_both c163_sound d86_sound (by kernel_rfl) tabs_lt m163_ok
def c164 : List Memo := m163 :: c163
theorem c164_sound : ∀ m ∈ c164, m.Sound Tryz.prog 12 (tabCfg tabs) := sound_cons m163_sound c163_sound

def a164 : List AV := [.agg [.int .i64 1, .int .i64 1, .int .i64 0, .int .i64 0, .int .i64 0, .nils]]
def m164 : Memo := ⟨240, a164, .tup [.slc 18 0 0 1 none 1, .nils, .int .i64 1], [(18, .arr [.int .i64 1] 0 1 1 1 3)], 19⟩
set_option maxRecDepth 1000000 in
theorem m164_ok : m164.ok Tryz.prog { tabCfg tabs with hk := bothHk 12 (tabM c164) (tabH d86) } 100000 12 (tabSt 12 tabs) = true := by kernel_rfl
theorem m164_sound : m164.Sound Tryz.prog 12 (tabCfg tabs) := memo_both c164_sound d86_sound (by kernel_rfl) tabs_lt m164_ok
def c165 : List Memo := m164 :: c164
theorem c165_sound : ∀ m ∈ c165, m.Sound Tryz.prog 12 (tabCfg tabs) := sound_cons m164_sound c164_sound

def a165 : List AV := [.agg [.int .i64 1, .int .i64 1, .int .i64 0, .int .i64 0, .int .i64 0, .nils]]
def m165 : Memo := ⟨202, a165, .int .i64 0, [], 32⟩
set_option maxRecDepth 1000000 in
theorem m165_ok : m165.ok Tryz.prog { tabCfg tabs with hk := bothHk 12 (tabM c165) (tabH d86) } 100000 12 (tabSt 12 tabs) = true := by kernel_rfl
theorem m165_sound : m165.Sound Tryz.prog 12 (tabCfg tabs) := memo_both c165_sound d86_sound (by kernel_rfl) tabs_lt m165_ok
def c166 : List Memo := m165 :: c165
theorem c166_sound : ∀ m ∈ c166, m.Sound Tryz.prog 12 (tabCfg tabs) := sound_cons m165_sound c165_sound

def a166 : List AV := [.agg [.int .i64 1, .int .i64 1, .int .i64 0, .int .i64 0, .int .i64 0, .nils]]
def m166 : Memo := ⟨102, a166, .tup [.slc 40 1 0 10 none 1, .int .i64 0], [(40, .arr [.int .u8 1, .int .u8 1, .int .u8 0, .int .u8 0, .int .u8 0, .int .u8 0, .int .u8 0, .int .u8 0, .int .u8 0, .int .u8 0] 0 2 1 2 5)], 50⟩
set_option maxRecDepth 1000000 in
theorem m166_ok : m166.ok Tryz.prog { tabCfg tabs with hk := bothHk 12 (tabM c166) (tabH d86) } 100000 12 (tabSt 12 tabs) = true := by kernel_rfl
theorem m166_sound : m166.Sound Tryz.prog 12 (tabCfg tabs) := memo_both c166_sound d86_sound (by kernel_rfl) tabs_lt m166_ok
def c167 : List Memo := m166 :: c166
theorem c167_sound : ∀ m ∈ c167, m.Sound Tryz.prog 12 (tabCfg tabs) := sound_cons m166_sound c166_sound

def a167 : List AV := [.agg [.int .i64 6, .int .i64 0, .int .i64 0, .int .i64 1, .int .i64 0, .nils]]
def m167 : Memo := ⟨343, a167, .bool true, [], 17⟩
set_option maxRecDepth 1000000 in
theorem m167_ok : m167.ok Tryz.prog { tabCfg tabs with hk := bothHk 12 (tabM c167) (tabH d86) } 100000 12 (tabSt 12 tabs) = true := by kernel_rfl
theorem m167_sound : m167.Sound Tryz.prog 12 (tabCfg tabs) := memo_both c167_sound d86_sound (by kernel_rfl) tabs_lt m167_ok
def c168 : List Memo := m167 :: c167
theorem c168_sound : ∀ m ∈ c168, m.Sound Tryz.prog 12 (tabCfg tabs) := sound_cons m167_sound c167_sound

def a168 : List AV := [.agg [.int .i64 6, .int .i64 0, .int .i64 0, .int .i64 1, .int .i64 0, .nils]]
def m168 : Memo := ⟨240, a168, .tup [.slc 18 2 0 3 none 1, .slc 21 1 0 2 none 1, .int .i64 0], [(18, .arr [.int .i64 0, .int .i64 0, .int .i64 1] 0 1 1 3 3), (21, .arr [.int .i64 0, .int .i64 1] 0 1 1 2 3)], 24⟩
set_option maxRecDepth 1000000 in
theorem m168_ok : m168.ok Tryz.prog { tabCfg tabs with hk := bothHk 12 (tabM c168) (tabH d86) } 100000 12 (tabSt 12 tabs) = true := by kernel_rfl
theorem m168_sound : m168.Sound Tryz.prog 12 (tabCfg tabs) := memo_both c168_sound d86_sound (by kernel_rfl) tabs_lt m168_ok
def c169 : List Memo := m168 :: c168
theorem c169_sound : ∀ m ∈ c169, m.Sound Tryz.prog 12 (tabCfg tabs) := sound_cons m168_sound c168_sound

def a169 : List AV := [.agg [.int .i64 6, .int .i64 0, .int .i64 0, .int .i64 1, .int .i64 0, .nils]]
def m169 : Memo := ⟨202, a169, .int .i64 0, [], 37⟩
set_option maxRecDepth 1000000 in
theorem m169_ok : m169.ok Tryz.prog { tabCfg tabs with hk := bothHk 12 (tabM c169) (tabH d86) } 100000 12 (tabSt 12 tabs) = true := by kernel_rfl
theorem m169_sound : m169.Sound Tryz.prog 12 (tabCfg tabs) := memo_both c169_sound d86_sound (by kernel_rfl) tabs_lt m169_ok
def c170 : List Memo := m169 :: c169
theorem c170_sound : ∀ m ∈ c170, m.Sound Tryz.prog 12 (tabCfg tabs) := sound_cons m169_sound c169_sound

def a170 : List AV := [.agg [.int .i64 6, .int .i64 0, .int .i64 0, .int .i64 1, .int .i64 0, .nils]]
def m170 : Memo := ⟨102, a170, .tup [.slc 45 2 0 4 none 1, .int .i64 0], [(45, .arr [.int .u8 6, .int .u8 0, .int .u8 0, .int .u8 1] 0 2 1 3 5)], 52⟩
set_option maxRecDepth 1000000 in
theorem m170_ok : m170.ok Tryz.prog { tabCfg tabs with hk := bothHk 12 (tabM c170) (tabH d86) } 100000 12 (tabSt 12 tabs) = true := by kernel_rfl
theorem m170_sound : m170.Sound Tryz.prog 12 (tabCfg tabs) := memo_both c170_sound d86_sound (by kernel_rfl) tabs_lt m170_ok
def c171 : List Memo := m170 :: c170
theorem c171_sound : ∀ m ∈ c171, m.Sound Tryz.prog 12 (tabCfg tabs) := sound_cons m170_sound c170_sound

def a171 : List AV := [.agg [.int .i64 20, .int .i64 0, .int .i64 0, .int .i64 0, .int .i64 5, .nils]]
def m171 : Memo := ⟨343, a171, .bool true, [], 17⟩
set_option maxRecDepth 1000000 in
theorem m171_ok : m171.ok Tryz.prog { tabCfg tabs with hk := bothHk 12 (tabM c171) (tabH d86) } 100000 12 (tabSt 12 tabs) = true := by kernel_rfl
theorem m171_sound : m171.Sound Tryz.prog 12 (tabCfg tabs) := memo_both c171_sound d86_sound (by kernel_rfl) tabs_lt m171_ok
def c172 : List Memo := m171 :: c171
theorem c172_sound : ∀ m ∈ c172, m.Sound Tryz.prog 12 (tabCfg tabs) := sound_cons m171_sound c171_sound

def a172 : List AV := [.agg [.int .i64 20, .int .i64 0, .int .i64 0, .int .i64 0, .int .i64 5, .nils]]
def m172 : Memo := ⟨240, a172, .tup [.slc 18 1 0 2 none 1, .slc 21 0 0 1 none 1, .int .i64 0], [(18, .arr [.int .i64 0, .int .i64 0] 0 1 1 2 3), (21, .arr [.int .i64 0] 0 1 1 1 3)], 22⟩
set_option maxRecDepth 1000000 in
theorem m172_ok : m172.ok Tryz.prog { tabCfg tabs with hk := bothHk 12 (tabM c172) (tabH d86) } 100000 12 (tabSt 12 tabs) = true := by kernel_rfl
theorem m172_sound : m172.Sound Tryz.prog 12 (tabCfg tabs) := memo_both c172_sound d86_sound (by kernel_rfl) tabs_lt m172_ok
def c173 : List Memo := m172 :: c172
theorem c173_sound : ∀ m ∈ c173, m.Sound Tryz.prog 12 (tabCfg tabs) := sound_cons m172_sound c172_sound

def a173 : List AV := [.agg [.int .i64 20, .int .i64 0, .int .i64 0, .int .i64 0, .int .i64 5, .nils]]
def m173 : Memo := ⟨202, a173, .int .i64 0, [], 35⟩
set_option maxRecDepth 1000000 in
theorem m173_ok : m173.ok Tryz.prog { tabCfg tabs with hk := bothHk 12 (tabM c173) (tabH d86) } 100000 12 (tabSt 12 tabs) = true := by kernel_rfl
theorem m173_sound : m173.Sound Tryz.prog 12 (tabCfg tabs) := memo_both c173_sound d86_sound (by kernel_rfl) tabs_lt m173_ok
def c174 : List Memo := m173 :: c173
theorem c174_sound : ∀ m ∈ c174, m.Sound Tryz.prog 12 (tabCfg tabs) := sound_cons m173_sound c173_sound

def a174 : List AV := [.agg [.int .i64 20, .int .i64 0, .int .i64 0, .int .i64 0, .int .i64 5, .nils]]
def m174 : Memo := ⟨102, a174, .tup [.slc 43 2 0 4 none 1, .int .i64 0], [(43, .arr [.int .u8 20, .int .u8 0, .int .u8 0, .int .u8 5] 0 2 1 3 5)], 49⟩
set_option maxRecDepth 1000000 in
theorem m174_ok : m174.ok Tryz.prog { tabCfg tabs with hk := bothHk 12 (tabM c174) (tabH d86) } 100000 12 (tabSt 12 tabs) = true := by kernel_rfl
theorem m174_sound : m174.Sound Tryz.prog 12 (tabCfg tabs) := memo_both c174_sound d86_sound (by kernel_rfl) tabs_lt m174_ok
def c175 : List Memo := m174 :: c174
theorem c175_sound : ∀ m ∈ c175, m.Sound Tryz.prog 12 (tabCfg tabs) := sound_cons m174_sound c174_sound

def a175 : List AV := [.agg [.int .i64 1, .int .i64 0, .int .i64 0, .int .i64 0, .int .i64 1, .nils], .int .i64 2, .int .i64 0]
def m175 : Memo := ⟨207, a175, .int .i64 0, [], 31⟩
set_option maxRecDepth 1000000 in
theorem m175_ok : m175.ok Tryz.prog { tabCfg tabs with hk := bothHk 12 (tabM c175) (tabH d86) } 100000 12 (tabSt 12 tabs) = true := by kernel_rfl
theorem m175_sound : m175.Sound Tryz.prog 12 (tabCfg tabs) := memo_both c175_sound d86_sound (by kernel_rfl) tabs_lt m175_ok
def c176 : List Memo := m175 :: c175
theorem c176_sound : ∀ m ∈ c176, m.Sound Tryz.prog 12 (tabCfg tabs) := sound_cons m175_sound c175_sound

def a176 : List AV := [.agg [.int .i64 1, .int .i64 1, .int .i64 0, .int .i64 0, .int .i64 0, .nils], .int .i64 2, .int .i64 0]
def m176 : Memo := ⟨207, a176, .int .i64 0, [], 31⟩
set_option maxRecDepth 1000000 in
theorem m176_ok : m176.ok Tryz.prog { tabCfg tabs with hk := bothHk 12 (tabM c176) (tabH d86) } 100000 12 (tabSt 12 tabs) = true := by kernel_rfl
theorem m176_sound : m176.Sound Tryz.prog 12 (tabCfg tabs) := memo_both c176_sound d86_sound (by kernel_rfl) tabs_lt m176_ok
def c177 : List Memo := m176 :: c176
theorem c177_sound : ∀ m ∈ c177, m.Sound Tryz.prog 12 (tabCfg tabs) := sound_cons m176_sound c176_sound

def a177 : List AV := [.agg [.int .i64 6, .int .i64 0, .int .i64 0, .int .i64 1, .int .i64 0, .nils], .int .i64 2, .int .i64 0]
def m177 : Memo := ⟨207, a177, .int .i64 0, [], 36⟩
set_option maxRecDepth 1000000 in
theorem m177_ok : m177.ok Tryz.prog { tabCfg tabs with hk := bothHk 12 (tabM c177) (tabH d86) } 100000 12 (tabSt 12 tabs) = true := by kernel_rfl
theorem m177_sound : m177.Sound Tryz.prog 12 (tabCfg tabs) := memo_both c177_sound d86_sound (by kernel_rfl) tabs_lt m177_ok
def c178 : List Memo := m177 :: c177
theorem c178_sound : ∀ m ∈ c178, m.Sound Tryz.prog 12 (tabCfg tabs) := sound_cons m177_sound c177_sound

def a178 : List AV := [.agg [.int .i64 20, .int .i64 0, .int .i64 0, .int .i64 0, .int .i64 5, .nils], .int .i64 2, .int .i64 0]
def m178 : Memo := ⟨207, a178, .int .i64 0, [], 34⟩
set_option maxRecDepth 1000000 in
theorem m178_ok : m178.ok Tryz.prog { tabCfg tabs with hk := bothHk 12 (tabM c178) (tabH d86) } 100000 12 (tabSt 12 tabs) = true := by kernel_rfl
theorem m178_sound : m178.Sound Tryz.prog 12 (tabCfg tabs) := memo_both c178_sound d86_sound (by kernel_rfl) tabs_lt m178_ok
def c179 : List Memo := m178 :: c178
theorem c179_sound : ∀ m ∈ c179, m.Sound Tryz.prog 12 (tabCfg tabs) := sound_cons m178_sound c178_sound

def a179 : List AV := [.agg [.int .i64 29, .int .i64 0, .int .i64 0, .int .i64 0, .int .i64 0, .nils], .int .i64 2, .int .i64 0]
def m179 : Memo := ⟨207, a179, .int .i64 0, [], 33⟩
set_option maxRecDepth 1000000 in
theorem m179_ok : m179.ok Tryz.prog { tabCfg tabs with hk := bothHk 12 (tabM c179) (tabH d86) } 100000 12 (tabSt 12 tabs) = true := by kernel_rfl
theorem m179_sound : m179.Sound Tryz.prog 12 (tabCfg tabs) := memo_both c179_sound d86_sound (by kernel_rfl) tabs_lt m179_ok
def c180 : List Memo := m179 :: c179
theorem c180_sound : ∀ m ∈ c180, m.Sound Tryz.prog 12 (tabCfg tabs) := sound_cons m179_sound c179_sound

def a180 : List AV := [.agg [.int .i64 1, .int .i64 0, .int .i64 0, .int .i64 0, .int .i64 0, .nils], .int .i64 2, .int .i64 0]
def m180 : Memo := ⟨207, a180, .int .i64 0, [], 31⟩
set_option maxRecDepth 1000000 in
theorem m180_ok : m180.ok Tryz.prog { tabCfg tabs with hk := bothHk 12 (tabM c180) (tabH d86) } 100000 12 (tabSt 12 tabs) = true := by kernel_rfl
theorem m180_sound : m180.Sound Tryz.prog 12 (tabCfg tabs) := memo_both c180_sound d86_sound (by kernel_rfl) tabs_lt m180_ok
def c181 : List Memo := m180 :: c180
theorem c181_sound : ∀ m ∈ c181, m.Sound Tryz.prog 12 (tabCfg tabs) := sound_cons m180_sound c180_sound

def a181 : List AV := [.agg [.int .i64 1, .int .i64 0, .int .i64 0, .int .i64 0, .int .i64 1, .nils]]
def m181 : Memo := ⟨331, a181, .int .i64 (-1), [], 15⟩
set_option maxRecDepth 1000000 in
theorem m181_ok : m181.ok Tryz.prog { tabCfg tabs with hk := bothHk 12 (tabM c181) (tabH d86) } 100000 12 (tabSt 12 tabs) = true := by kernel_rfl
theorem m181_sound : m181.Sound Tryz.prog 12 (tabCfg tabs) := memo_both c181_sound d86_sound (by kernel_rfl) tabs_lt m181_ok
def c182 : List Memo := m181 :: c181
theorem c182_sound : ∀ m ∈ c182, m.Sound Tryz.prog 12 (tabCfg tabs) := sound_cons m181_sound c181_sound

def a182 : List AV := [.agg [.int .i64 1, .int .i64 1, .int .i64 0, .int .i64 0, .int .i64 0, .nils]]
def m182 : Memo := ⟨331, a182, .int .i64 (-1), [], 15⟩
set_option maxRecDepth 1000000 in
theorem m182_ok : m182.ok Tryz.prog { tabCfg tabs with hk := bothHk 12 (tabM c182) (tabH d86) } 100000 12 (tabSt 12 tabs) = true := by kernel_rfl
theorem m182_sound : m182.Sound Tryz.prog 12 (tabCfg tabs) := memo_both c182_sound d86_sound (by kernel_rfl) tabs_lt m182_ok
def c183 : List Memo := m182 :: c182
theorem c183_sound : ∀ m ∈ c183, m.Sound Tryz.prog 12 (tabCfg tabs) := sound_cons m182_sound c182_sound

def a183 : List AV := [.agg [.int .i64 6, .int .i64 0, .int .i64 0, .int .i64 1, .int .i64 0, .nils]]
def m183 : Memo := ⟨331, a183, .int .i64 (-1), [], 15⟩
set_option maxRecDepth 1000000 in
theorem m183_ok : m183.ok Tryz.prog { tabCfg tabs with hk := bothHk 12 (tabM c183) (tabH d86) } 100000 12 (tabSt 12 tabs) = true := by kernel_rfl
theorem m183_sound : m183.Sound Tryz.prog 12 (tabCfg tabs) := memo_both c183_sound d86_sound (by kernel_rfl) tabs_lt m183_ok
def c184 : List Memo := m183 :: c183
theorem c184_sound : ∀ m ∈ c184, m.Sound Tryz.prog 12 (tabCfg tabs) := sound_cons m183_sound c183_sound

def a184 : List AV := [.agg [.int .i64 20, .int .i64 0, .int .i64 0, .int .i64 0, .int .i64 5, .nils]]
def m184 : Memo := ⟨331, a184, .int .i64 (-1), [], 15⟩
set_option maxRecDepth 1000000 in
theorem m184_ok : m184.ok Tryz.prog { tabCfg tabs with hk := bothHk 12 (tabM c184) (tabH d86) } 100000 12 (tabSt 12 tabs) = true := by kernel_rfl
theorem m184_sound : m184.Sound Tryz.prog 12 (tabCfg tabs) := memo_both c184_sound d86_sound (by kernel_rfl) tabs_lt m184_ok
def c185 : List Memo := m184 :: c184
theorem c185_sound : ∀ m ∈ c185, m.Sound Tryz.prog 12 (tabCfg tabs) := sound_cons m184_sound c184_sound

def a185 : List AV := [strN [105,110,116,32,109,97,105,110,40,118,111,105,100,41,123,114,101,116,117,114,110,32,49,47,48,59,125]]
def m185 : Memo := ⟨9, a185, .tup [.agg [.nils, .slc 10260 0 0 1 none 4], .agg [.int .i64 0, .int .i64 0]], [(10025, .arr [.int .i64 1, .int .i64 0, .int .i64 0, .int .i64 0, .int .i64 1, .nils, .int .i64 1, .int .i64 1, .int .i64 0, .int .i64 0, .int .i64 0, .nils, .int .i64 6, .int .i64 0, .int .i64 0, .int .i64 1, .int .i64 0, .nils, .int .i64 20, .int .i64 0, .int .i64 0, .int .i64 0, .int .i64 5, .nils, .int .i64 29, .int .i64 0, .int .i64 0, .int .i64 0, .int .i64 0, .nils] 0 6 1 5 114), (10260, .arr [.int .i64 0, .int .i64 2, .int .i64 0, .slc 10025 4 0 5 none 6] 0 4 1 1 111)], 10263⟩
set_option maxRecDepth 1000000 in
theorem m185_ok : m185.ok Tryz.prog { tabCfg tabs with hk := bothHk 12 (tabM c185) (tabH d86) } 100000 12 (tabSt 12 tabs) = true := by kernel_rfl
theorem m185_sound : m185.Sound Tryz.prog 12 (tabCfg tabs) := memo_both c185_sound d86_sound (by kernel_rfl) tabs_lt m185_ok
def c186 : List Memo := m185 :: c185
theorem c186_sound : ∀ m ∈ c186, m.Sound Tryz.prog 12 (tabCfg tabs) := sound_cons m185_sound c185_sound

def a186 : List AV := [.agg [.nils, .int .i64 2, .int .i64 1]]
def m186 : Memo := ⟨8, a186, .tup [strN [116,114,97,112,32,49], .int .i64 0], [], 26⟩
set_option maxRecDepth 1000000 in
theorem m186_ok : m186.ok Tryz.prog { tabCfg tabs with hk := bothHk 12 (tabM c186) (tabH d86) } 100000 12 (tabSt 12 tabs) = true := by kernel_rfl
theorem m186_sound : m186.Sound Tryz.prog 12 (tabCfg tabs) := memo_both c186_sound d86_sound (by kernel_rfl) tabs_lt m186_ok
def c187 : List Memo := m186 :: c186
theorem c187_sound : ∀ m ∈ c187, m.Sound Tryz.prog 12 (tabCfg tabs) := sound_cons m186_sound c186_sound
end Go.Proofs.YtbbnjiceenjhcaaGreatDoor
