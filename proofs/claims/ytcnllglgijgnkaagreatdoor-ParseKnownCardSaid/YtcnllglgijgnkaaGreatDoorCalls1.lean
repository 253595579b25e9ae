/-
  Calls whose outcome is known, each shown by the evaluator with the earlier ones and the tables at hand; part 1. No condition.
-/
import Derived.Test.YtcnllglgijgnkaaGreatDoorCalls0
namespace Go.Proofs.YtcnllglgijgnkaaGreatDoor
open Go.Tw

def a1 : List AV := []
def m1 : Memo := ⟨145, a1, .slc 12 0 0 45 (some 45) 1, [(12, .box [strN [60,60,61], strN [62,62,61], strN [45,62], strN [43,43], strN [45,45], strN [60,61], strN [62,61], strN [61,61], strN [33,61], strN [38,38], strN [124,124], strN [60,60], strN [62,62], strN [43,61], strN [45,61], strN [42,61], strN [47,61], strN [37,61], strN [38,61], strN [124,61], strN [94,61], strN [40], strN [41], strN [123], strN [125], strN [91], strN [93], strN [59], strN [44], strN [46], strN [45], strN [43], strN [42], strN [47], strN [37], strN [38], strN [124], strN [94], strN [126], strN [33], strN [60], strN [62], strN [61], strN [63], strN [58]] 9)], 13⟩
set_option maxRecDepth 1000000 in
theorem m1_ok : m1.ok Tryz.prog { tabCfg tabs with hk := memoHk 12 (tabM c1) } 100000 12 (tabSt 12 tabs) = true := by kernel_rfl
theorem m1_sound : m1.Sound Tryz.prog 12 (tabCfg tabs) := memo_tab c1_sound (by kernel_rfl) tabs_lt m1_ok
def c2 : List Memo := m1 :: c1
theorem c2_sound : ∀ m ∈ c2, m.Sound Tryz.prog 12 (tabCfg tabs) := sound_cons m1_sound c1_sound

def a2 : List AV := [strN [120]]
def m2 : Memo := ⟨86, a2, .bool false, [], 13⟩
set_option maxRecDepth 1000000 in
theorem m2_ok : m2.ok Tryz.prog { tabCfg tabs with hk := memoHk 12 (tabM c2) } 100000 12 (tabSt 12 tabs) = true := by kernel_rfl
theorem m2_sound : m2.Sound Tryz.prog 12 (tabCfg tabs) := memo_tab c2_sound (by kernel_rfl) tabs_lt m2_ok
def c3 : List Memo := m2 :: c2
theorem c3_sound : ∀ m ∈ c3, m.Sound Tryz.prog 12 (tabCfg tabs) := sound_cons m2_sound c2_sound

def a3 : List AV := [strN [123,114,101,116,117,114,110,32,120,63,45,120,58,40,99,104,97,114,41,120,59,125]]
def m3 : Memo := ⟨91, a3, .int .i64 1, [], 13⟩
set_option maxRecDepth 1000000 in
theorem m3_ok : m3.ok Tryz.prog { tabCfg tabs with hk := memoHk 12 (tabM c3) } 100000 12 (tabSt 12 tabs) = true := by kernel_rfl
theorem m3_sound : m3.Sound Tryz.prog 12 (tabCfg tabs) := memo_tab c3_sound (by kernel_rfl) tabs_lt m3_ok
def c4 : List Memo := m3 :: c3
theorem c4_sound : ∀ m ∈ c4, m.Sound Tryz.prog 12 (tabCfg tabs) := sound_cons m3_sound c3_sound

def a4 : List AV := [strN [63,45,120,58,40,99,104,97,114,41,120,59,125]]
def m4 : Memo := ⟨91, a4, .int .i64 1, [], 13⟩
set_option maxRecDepth 1000000 in
theorem m4_ok : m4.ok Tryz.prog { tabCfg tabs with hk := memoHk 12 (tabM c4) } 100000 12 (tabSt 12 tabs) = true := by kernel_rfl
theorem m4_sound : m4.Sound Tryz.prog 12 (tabCfg tabs) := memo_tab c4_sound (by kernel_rfl) tabs_lt m4_ok
def c5 : List Memo := m4 :: c4
theorem c5_sound : ∀ m ∈ c5, m.Sound Tryz.prog 12 (tabCfg tabs) := sound_cons m4_sound c4_sound

def a5 : List AV := [strN [45,120,58,40,99,104,97,114,41,120,59,125]]
def m5 : Memo := ⟨91, a5, .int .i64 1, [], 13⟩
set_option maxRecDepth 1000000 in
theorem m5_ok : m5.ok Tryz.prog { tabCfg tabs with hk := memoHk 12 (tabM c5) } 100000 12 (tabSt 12 tabs) = true := by kernel_rfl
theorem m5_sound : m5.Sound Tryz.prog 12 (tabCfg tabs) := memo_tab c5_sound (by kernel_rfl) tabs_lt m5_ok
def c6 : List Memo := m5 :: c5
theorem c6_sound : ∀ m ∈ c6, m.Sound Tryz.prog 12 (tabCfg tabs) := sound_cons m5_sound c5_sound
end Go.Proofs.YtcnllglgijgnkaaGreatDoor
