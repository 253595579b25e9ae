/-
  The tables that the row of LexTells lists and its road reads. Condition: the row's own, that they read as listed.
-/
import Derived.Test.YtnkpdmdifepaaaaGreatDoorTwTab
import Derived.Test.YtnkpdmdifepaaaaGreatDoorRows
import Derived.Test.YtnkpdmdifepaaaaGreatDoorChecked
namespace Go.Proofs.YtnkpdmdifepaaaaGreatDoor
open Go.Tw
def tabs : Tabs := [(1, intsC .u8 (intsD Rows.laid_strings_asciiSpace))]
theorem tabs_lt : tabLt 12 tabs = true := by kernel_rfl
theorem laid_plain : (Rows.lexTellsRow.laid.filter fun x => x.2.handleName?.isSome) = [] := by kernel_rfl
theorem star : "*" ++ "errors.errorString" = "*errors.errorString" := by decide

theorem tab0 [Val] {W : World} (h : laidMet Tryz.prog Rows.lexTellsRow.laid W) : TabOk W (1, intsC .u8 (intsD Rows.laid_strings_asciiSpace)) := by
  obtain ⟨rest, h1⟩ := laid_at h (i := 7) (n := "strings.asciiSpace") (d := Lib.tabData .u8 (intsD Rows.laid_strings_asciiSpace)) (by kernel_rfl)
  exact tab_ints (Lib.tabIs_of_head (P := Tryz.prog) (g := 1) (t := 57) (e := 5) (n := 256) (by kernel_rfl) (by kernel_rfl) (by kernel_rfl) (by kernel_rfl) (by kernel_rfl) (by kernel_rfl) h1) (by kernel_rfl)

theorem tabs_ok [Val] {W : World} (h : laidMetH Tryz.prog Rows.lexTellsRow.laid W) : ∀ p ∈ tabs, TabOk W p := by
  unfold laidMetH at h
  rw [laid_plain] at h
  intro p hp
  simp only [tabs, List.mem_cons, List.not_mem_nil, or_false] at hp
  subst hp
  exact tab0 h
end Go.Proofs.YtnkpdmdifepaaaaGreatDoor
