/-
  Calls whose outcome is known, each shown by the evaluator with the earlier ones and the tables at hand; part 9. No condition.
-/
import Derived.Test.YtbbnjiceenjhcaaGreatDoorCalls8
set_option linter.all false
namespace Go.Proofs.YtbbnjiceenjhcaaGreatDoor
open Go.Tw

def a187 : List AV := [strN [105,110,116,32,109,97,105,110,40,118,111,105,100,41,123,114,101,116,117,114,110,32,49,47,48,59,125], strN [116,114,97,112,32,49]]
def m187 : Memo := ⟨5, a187, .bool true, [], 13532⟩
set_option maxRecDepth 1000000 in
theorem m187_ok : m187.ok Tryz.prog { tabCfg tabs with hk := bothHk 12 (tabM c187) (tabH d86) } 100000 12 (tabSt 12 tabs) = true := by kernel_rfl
theorem m187_sound : m187.Sound Tryz.prog 12 (tabCfg tabs) := memo_both c187_sound d86_sound (by kernel_rfl) tabs_lt m187_ok
def c188 : List Memo := m187 :: c187
theorem c188_sound : ∀ m ∈ c188, m.Sound Tryz.prog 12 (tabCfg tabs) := sound_cons m187_sound c187_sound

def a188 : List AV := [strN [105,110,116,32,109,97,105,110,40,118,111,105,100,41,123,114,101,116,117,114,110,32,120,59,125]]
def m188 : Memo := ⟨9, a188, .tup [.agg [.nils, .nils], .agg [.int .i64 12, .int .i64 22]], [], 454⟩
set_option maxRecDepth 1000000 in
theorem m188_ok : m188.ok Tryz.prog { tabCfg tabs with hk := bothHk 12 (tabM c188) (tabH d86) } 100000 12 (tabSt 12 tabs) = true := by kernel_rfl
theorem m188_sound : m188.Sound Tryz.prog 12 (tabCfg tabs) := memo_both c188_sound d86_sound (by kernel_rfl) tabs_lt m188_ok
def c189 : List Memo := m188 :: c188
theorem c189_sound : ∀ m ∈ c189, m.Sound Tryz.prog 12 (tabCfg tabs) := sound_cons m188_sound c188_sound

def a189 : List AV := [strN [105,110,116,32,109,97,105,110,40,118,111,105,100,41,123]]
def m189 : Memo := ⟨9, a189, .tup [.agg [.nils, .nils], .agg [.int .i64 10, .int .i64 15]], [], 216⟩
set_option maxRecDepth 1000000 in
theorem m189_ok : m189.ok Tryz.prog { tabCfg tabs with hk := bothHk 12 (tabM c189) (tabH d86) } 100000 12 (tabSt 12 tabs) = true := by kernel_rfl
theorem m189_sound : m189.Sound Tryz.prog 12 (tabCfg tabs) := memo_both c189_sound d86_sound (by kernel_rfl) tabs_lt m189_ok
def c190 : List Memo := m189 :: c189
theorem c190_sound : ∀ m ∈ c190, m.Sound Tryz.prog 12 (tabCfg tabs) := sound_cons m189_sound c189_sound

def a190 : List AV := []
def m190 : Memo := ⟨3, a190, .bool true, [], 68715⟩
set_option maxRecDepth 1000000 in
theorem m190_ok : m190.ok Tryz.prog { tabCfg tabs with hk := bothHk 12 (tabM c190) (tabH d86) } 100000 12 (tabSt 12 tabs) = true := by kernel_rfl
theorem m190_sound : m190.Sound Tryz.prog 12 (tabCfg tabs) := memo_both c190_sound d86_sound (by kernel_rfl) tabs_lt m190_ok
end Go.Proofs.YtbbnjiceenjhcaaGreatDoor
