/-
  The tables that the row of SenseReturns lists and its road reads. Condition: the row's own, that they read as listed.
-/
import Derived.Test.YtelhnjgcijjngaaGreatDoorTwKard
import Derived.Test.YtelhnjgcijjngaaGreatDoorRows
import Derived.Test.YtelhnjgcijjngaaGreatDoorChecked
set_option linter.all false
namespace Go.Proofs.YtelhnjgcijjngaaGreatDoor
open Go.Tw
def tabs : Tabs := [(1, intsC .u8 (intsD Rows.laid_strings_asciiSpace))]
theorem tabs_lt : tabLt 12 tabs = true := by kernel_rfl
theorem laid_plain : (Rows.senseReturnsRow.laid.filter fun x => x.2.handleName?.isSome) = [] := by kernel_rfl
theorem star : "*" ++ "errors.errorString" = "*errors.errorString" := by decide

theorem tab0 [Val] {W : World} (h : laidMet Tryz.prog Rows.senseReturnsRow.laid W) : TabOk W (1, intsC .u8 (intsD Rows.laid_strings_asciiSpace)) := by
  obtain ⟨rest, h1⟩ := laid_at h (i := 0) (n := "strings.asciiSpace") (d := Lib.tabData .u8 (intsD Rows.laid_strings_asciiSpace)) (by kernel_rfl)
  exact tab_ints (Lib.tabIs_of_head (P := Tryz.prog) (g := 1) (t := 300) (e := 5) (n := 256) (by kernel_rfl) (by kernel_rfl) (by kernel_rfl) (by kernel_rfl) (by kernel_rfl) (by kernel_rfl) h1) (by kernel_rfl)

theorem tabs_ok [Val] {W : World} (h : laidMetH Tryz.prog Rows.senseReturnsRow.laid W) : ∀ p ∈ tabs, TabOk W p := by
  unfold laidMetH at h
  rw [laid_plain] at h
  intro p hp
  simp only [tabs, List.mem_cons, List.not_mem_nil, or_false] at hp
  subst hp
  exact tab0 h
theorem folm : Tryz.prog.follows .mixedOrders = true := by kernel_rfl
theorem headRun1 : Memo.ok Tryz.prog { pathCfg [(.cmp .lss (sLen (.dvar 0)) (sLen (.dvar 1)), true)] with hk := memoHk 0 (tabM []) } 100000 0 (St.empty 0) ⟨39, [.vstr (.dvar 0), .vstr (.dvar 1)], .bool false, [], 0⟩ = true := by kernel_rfl
theorem headRun2 : Memo.ok Tryz.prog { pathCfg [(.cmp .lss (sLen (.dvar 0)) (sLen (.dvar 1)), false), (.cmp .lss (sLen (.dvar 1)) (.lit 0), false)] with hk := memoHk 0 (tabM []) } 100000 0 (St.empty 0)
    ⟨39, [.vstr (.dvar 0), .vstr (.dvar 1)], .symb (.seq (.pr 3 (.pr 2 (.dvar 0) (sLen (.dvar 1))) (.lit 0)) (.dvar 1)), [], 0⟩ = true := by kernel_rfl
theorem head : IsHead Tryz.prog 39 := isHead folm headRun1 headRun2
end Go.Proofs.YtelhnjgcijjngaaGreatDoor
