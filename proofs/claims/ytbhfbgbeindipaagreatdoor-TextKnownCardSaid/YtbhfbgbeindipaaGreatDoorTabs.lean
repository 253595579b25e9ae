/-
  The tables that the row of TextKnown lists and its road reads. Condition: the row's own, that they read as listed.
-/
import Derived.Test.YtbhfbgbeindipaaGreatDoorTwTab
import Derived.Test.YtbhfbgbeindipaaGreatDoorRows
import Derived.Test.YtbhfbgbeindipaaGreatDoorChecked
namespace Go.Proofs.YtbhfbgbeindipaaGreatDoor
open Go.Tw
instance : Val := noVal
def tabs : Tabs := [(1, [.iface 158 .anyp]), (0, [.iface 158 .anyp]), (2, intsC .u64 (intsD Rows.laid_internal_strconv_uint64pow10))]
theorem tabs_lt : tabLt 8 tabs = true := by kernel_rfl
theorem laid_plain : (Rows.textKnownRow.laid.filter fun x => x.2.handleName?.isSome) = [] := by kernel_rfl
theorem star : "*" ++ "errors.errorString" = "*errors.errorString" := by decide

theorem errRow0 (u : TypeId) (h : Tryz.prog.typeName? 3 u = some "*errors.errorString") : u = 158 :=
  typeName_ptr_named (nm := "errors.errorString") (by rw [star]; kernel_rfl) (by kernel_rfl) (by decide) u (by rw [star]; exact h)
theorem tab0 {W : World} (h : laidMet Tryz.prog Rows.textKnownRow.laid W) : TabOk W (1, [.iface 158 .anyp]) := by
  obtain ⟨rest, h1⟩ := laid_at h (i := 4) (n := "strconv.ErrRange") (d := Rows.laid_strconv_ErrRange) (by kernel_rfl)
  obtain ⟨a, s, hv, _⟩ := laid_sentinel h1 (g := 1) (ti := 47) (tp := 158) (te := 160) (ts := 9) (by kernel_rfl) (by kernel_rfl) Tryz.underlying47 (fun u hu => errRow0 u hu) Tryz.underlying158 Tryz.underlying160 rfl rfl Tryz.underlying9 (by kernel_rfl) (by kernel_rfl)
  exact tab_err hv (by kernel_rfl)

theorem errRow1 (u : TypeId) (h : Tryz.prog.typeName? 3 u = some "*errors.errorString") : u = 158 :=
  typeName_ptr_named (nm := "errors.errorString") (by rw [star]; kernel_rfl) (by kernel_rfl) (by decide) u (by rw [star]; exact h)
theorem tab1 {W : World} (h : laidMet Tryz.prog Rows.textKnownRow.laid W) : TabOk W (0, [.iface 158 .anyp]) := by
  obtain ⟨rest, h1⟩ := laid_at h (i := 5) (n := "strconv.ErrSyntax") (d := Rows.laid_strconv_ErrSyntax) (by kernel_rfl)
  obtain ⟨a, s, hv, _⟩ := laid_sentinel h1 (g := 0) (ti := 47) (tp := 158) (te := 160) (ts := 9) (by kernel_rfl) (by kernel_rfl) Tryz.underlying47 (fun u hu => errRow1 u hu) Tryz.underlying158 Tryz.underlying160 rfl rfl Tryz.underlying9 (by kernel_rfl) (by kernel_rfl)
  exact tab_err hv (by kernel_rfl)

theorem tab2 {W : World} (h : laidMet Tryz.prog Rows.textKnownRow.laid W) : TabOk W (2, intsC .u64 (intsD Rows.laid_internal_strconv_uint64pow10)) := by
  obtain ⟨rest, h1⟩ := laid_at h (i := 2) (n := "internal/strconv.uint64pow10") (d := Lib.tabData .u64 (intsD Rows.laid_internal_strconv_uint64pow10)) (by kernel_rfl)
  exact tab_ints (Lib.tabIs_of_head (P := Tryz.prog) (g := 2) (t := 146) (e := 105) (n := 20) (by kernel_rfl) (by kernel_rfl) (by kernel_rfl) (by kernel_rfl) (by kernel_rfl) (by kernel_rfl) h1) (by kernel_rfl)

theorem tabs_ok {W : World} (h : laidMetH Tryz.prog Rows.textKnownRow.laid W) : ∀ p ∈ tabs, TabOk W p := by
  unfold laidMetH at h
  rw [laid_plain] at h
  intro p hp
  simp only [tabs, List.mem_cons, List.not_mem_nil, or_false] at hp
  rcases hp with rfl | rfl | rfl
  · exact tab0 h
  · exact tab1 h
  · exact tab2 h
end Go.Proofs.YtbhfbgbeindipaaGreatDoor
