/-
  The first program's run, by how many digits the number has. No condition.
-/
import Derived.Test.YtelhnjgcijjngaaGreatDoorSenA
set_option linter.all false
namespace Go.Proofs.YtelhnjgcijjngaaGreatDoor
open Go.Tw
def cK : List Memo := m67 :: c67
theorem cK_sound [Val] : ∀ m ∈ cK, m.Sound Tryz.prog 12 (tabK tabs []) := sound_cons m67_sound c67_sound
theorem cK_on [Val] (p : Dcs) : ∀ m ∈ cK, m.Sound Tryz.prog 12 (tabK tabs p) := tabK_drops p Holds.nil cK_sound

def pa0 : Dcs := [(.cmp .lss (.dvar 0) (.lit 1), true), (.cmp .lss (.dvar 0) (.lit 0), false)]
def xa0 : Memo := ⟨7, [strN [105,110,116,32,109,97,105,110,40,118,111,105,100,41,123,114,101,116,117,114,110,32,48,59,125], .int .i64 1, .int .i64 0, .nils], .bool true, [], 12⟩

set_option maxRecDepth 1000000 in
theorem qa0 : quietB Tryz.prog { tabK tabs pa0 with hk := hkH 12 (hpH (decP pa0) 39) (tabM cK) } 100000 xa0 (tabSt 12 tabs) = true := by kernel_rfl
theorem sa0 [Val] : xa0.Sound Tryz.prog 12 (tabK tabs pa0) := tabH_quiet (hpH_ok head) (cK_on _) folm tabs_lt qa0 (fun _ => rfl)

def pa1 : Dcs := [(.cmp .lss (.dvar 0) (.lit 10), true), (.cmp .lss (.dvar 0) (.lit 1), false)]
def xa1 : Memo := ⟨7, [tx (lb [105,110,116,32,109,97,105,110,40,118,111,105,100,41,123,114,101,116,117,114,110,32] ++ [.bin .add .i64 (.lit 48) (.dvar 0)] ++ lb [59,125]), .int .i64 1, .sym .i64 (.dvar 0), .nils], .bool true, [], 12⟩

set_option maxRecDepth 1000000 in
theorem qa1 : quietB Tryz.prog { tabK tabs pa1 with hk := hkH 12 (hpH (decP pa1) 39) (tabM cK) } 100000 xa1 (tabSt 12 tabs) = true := by kernel_rfl
theorem sa1 [Val] : xa1.Sound Tryz.prog 12 (tabK tabs pa1) := tabH_quiet (hpH_ok head) (cK_on _) folm tabs_lt qa1 (fun _ => rfl)

def pa2 : Dcs := [(.cmp .lss (.dvar 0) (.lit 100), true), (.cmp .lss (.dvar 0) (.lit 10), false)]
def xa2 : Memo := ⟨7, [tx (lb [105,110,116,32,109,97,105,110,40,118,111,105,100,41,123,114,101,116,117,114,110,32] ++ [.bin .add .i64 (.lit 48) (.bin .quo .i64 (.dvar 0) (.lit 10))] ++ [.bin .add .i64 (.lit 48) (.bin .rem .i64 (.dvar 0) (.lit 10))] ++ lb [59,125]), .int .i64 1, .sym .i64 (.dvar 0), .nils], .bool true, [], 12⟩

set_option maxRecDepth 1000000 in
theorem qa2 : quietB Tryz.prog { tabK tabs pa2 with hk := hkH 12 (hpH (decP pa2) 39) (tabM cK) } 100000 xa2 (tabSt 12 tabs) = true := by kernel_rfl
theorem sa2 [Val] : xa2.Sound Tryz.prog 12 (tabK tabs pa2) := tabH_quiet (hpH_ok head) (cK_on _) folm tabs_lt qa2 (fun _ => rfl)

def pa3 : Dcs := [(.cmp .lss (.dvar 0) (.lit 1000), true), (.cmp .lss (.dvar 0) (.lit 100), false)]
def xa3 : Memo := ⟨7, [tx (lb [105,110,116,32,109,97,105,110,40,118,111,105,100,41,123,114,101,116,117,114,110,32] ++ [.bin .add .i64 (.lit 48) (.bin .quo .i64 (.bin .quo .i64 (.dvar 0) (.lit 10)) (.lit 10))] ++ [.bin .add .i64 (.lit 48) (.bin .rem .i64 (.bin .quo .i64 (.dvar 0) (.lit 10)) (.lit 10))] ++ [.bin .add .i64 (.lit 48) (.bin .rem .i64 (.dvar 0) (.lit 10))] ++ lb [59,125]), .int .i64 1, .sym .i64 (.bin .and .i64 (.dvar 0) (.lit 255)), .nils], .bool true, [], 12⟩

set_option maxRecDepth 1000000 in
theorem qa3 : quietB Tryz.prog { tabK tabs pa3 with hk := hkH 12 (hpH (decP pa3) 39) (tabM cK) } 100000 xa3 (tabSt 12 tabs) = true := by kernel_rfl
theorem sa3 [Val] : xa3.Sound Tryz.prog 12 (tabK tabs pa3) := tabH_quiet (hpH_ok head) (cK_on _) folm tabs_lt qa3 (fun _ => rfl)

def pa4 : Dcs := [(.cmp .lss (.dvar 0) (.lit 10000), true), (.cmp .lss (.dvar 0) (.lit 1000), false)]
def xa4 : Memo := ⟨7, [tx (lb [105,110,116,32,109,97,105,110,40,118,111,105,100,41,123,114,101,116,117,114,110,32] ++ [.bin .add .i64 (.lit 48) (.bin .quo .i64 (.bin .quo .i64 (.bin .quo .i64 (.dvar 0) (.lit 10)) (.lit 10)) (.lit 10))] ++ [.bin .add .i64 (.lit 48) (.bin .rem .i64 (.bin .quo .i64 (.bin .quo .i64 (.dvar 0) (.lit 10)) (.lit 10)) (.lit 10))] ++ [.bin .add .i64 (.lit 48) (.bin .rem .i64 (.bin .quo .i64 (.dvar 0) (.lit 10)) (.lit 10))] ++ [.bin .add .i64 (.lit 48) (.bin .rem .i64 (.dvar 0) (.lit 10))] ++ lb [59,125]), .int .i64 1, .sym .i64 (.bin .and .i64 (.dvar 0) (.lit 255)), .nils], .bool true, [], 12⟩

set_option maxRecDepth 1000000 in
theorem qa4 : quietB Tryz.prog { tabK tabs pa4 with hk := hkH 12 (hpH (decP pa4) 39) (tabM cK) } 100000 xa4 (tabSt 12 tabs) = true := by kernel_rfl
theorem sa4 [Val] : xa4.Sound Tryz.prog 12 (tabK tabs pa4) := tabH_quiet (hpH_ok head) (cK_on _) folm tabs_lt qa4 (fun _ => rfl)
end Go.Proofs.YtelhnjgcijjngaaGreatDoor
