/-
  The tables that the row of LexKnown lists and its road reads. Condition: the row's own, that they read as listed.
-/
import Derived.Test.YtonccphblmiijaaGreatDoorTwTab
import Derived.Test.YtonccphblmiijaaGreatDoorRows
import Derived.Test.YtonccphblmiijaaGreatDoorChecked
namespace Go.Proofs.YtonccphblmiijaaGreatDoor
open Go.Tw
instance : Val := noVal
def tabs : Tabs := [(1, intsC .u8 (intsD Rows.laid_strings_asciiSpace)), (4, [.iface 144 .anyp])]
theorem tabs_lt : tabLt 12 tabs = true := by kernel_rfl
theorem laid_plain : (Rows.lexKnownRow.laid.filter fun x => x.2.handleName?.isSome) = [] := by kernel_rfl
theorem star : "*" ++ "errors.errorString" = "*errors.errorString" := by decide

theorem tab0 {W : World} (h : laidMet Tryz.prog Rows.lexKnownRow.laid W) : TabOk W (1, intsC .u8 (intsD Rows.laid_strings_asciiSpace)) := by
  obtain ⟨rest, h1⟩ := laid_at h (i := 7) (n := "strings.asciiSpace") (d := Lib.tabData .u8 (intsD Rows.laid_strings_asciiSpace)) (by kernel_rfl)
  exact tab_ints (Lib.tabIs_of_head (P := Tryz.prog) (g := 1) (t := 61) (e := 5) (n := 256) (by kernel_rfl) (by kernel_rfl) (by kernel_rfl) (by kernel_rfl) (by kernel_rfl) (by kernel_rfl) h1) (by kernel_rfl)

theorem errRow1 (u : TypeId) (h : Tryz.prog.typeName? 3 u = some "*errors.errorString") : u = 144 :=
  typeName_ptr_named (nm := "errors.errorString") (by rw [star]; kernel_rfl) (by kernel_rfl) (by decide) u (by rw [star]; exact h)
theorem tab1 {W : World} (h : laidMet Tryz.prog Rows.lexKnownRow.laid W) : TabOk W (4, [.iface 144 .anyp]) := by
  obtain ⟨rest, h1⟩ := laid_at h (i := 4) (n := "strconv.ErrRange") (d := Rows.laid_strconv_ErrRange) (by kernel_rfl)
  obtain ⟨a, s, hv, _⟩ := laid_sentinel h1 (g := 4) (ti := 70) (tp := 144) (te := 146) (ts := 9) (by kernel_rfl) (by kernel_rfl) Tryz.underlying70 (fun u hu => errRow1 u hu) Tryz.underlying144 Tryz.underlying146 rfl rfl Tryz.underlying9 (by kernel_rfl) (by kernel_rfl)
  exact tab_err hv (by kernel_rfl)

theorem tabs_ok {W : World} (h : laidMetH Tryz.prog Rows.lexKnownRow.laid W) : ∀ p ∈ tabs, TabOk W p := by
  unfold laidMetH at h
  rw [laid_plain] at h
  intro p hp
  simp only [tabs, List.mem_cons, List.not_mem_nil, or_false] at hp
  rcases hp with rfl | rfl
  · exact tab0 h
  · exact tab1 h
end Go.Proofs.YtonccphblmiijaaGreatDoor
