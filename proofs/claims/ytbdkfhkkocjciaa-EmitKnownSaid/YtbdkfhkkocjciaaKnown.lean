/-
  The law EmitKnown holds: called with nothing it gives back true, in every world, and leaves what was there alone. No conditions.
-/
import Derived.Test.YtbdkfhkkocjciaaTwLaw
import Derived.Test.YtbdkfhkkocjciaaRows
import Derived.Test.YtbdkfhkkocjciaaChecked
namespace Go.Proofs.Ytbdkfhkkocjciaa
open Go.ChangeShapes Go.WideShapes Go.ChangeAt Go.RowKit

theorem Try.own : ownKnob Try.prog.godebug = none := by kernel_rfl
theorem Try.laidOut : laidOutB Try.prog = true := by kernel_rfl

set_option maxRecDepth 100000 in
theorem emitKnown_true : Go.Tw.retTrue (Go.Tw.callN Try.prog Go.Tw.Cfg.none 100000 3 [] (Go.Tw.St.empty 0)) = true := by kernel_rfl

set_option maxRecDepth 100000 in
theorem emitKnown_lifted (os : Os) (started : os.Started) (H : Type) (enc : TypeId × Value → H) :
    ReturnsInHanded {} Try.checked os 3 .any (Rows.emitKnownSpec.pre6 enc Try.prog Try.f3 Rows.emitKnownRow.domain false) (Rows.emitKnownSpec.post enc Try.prog Try.f3 false true false false) := by
  refine returnsInHanded_of_change (C := Try.checked) Try.own started (by kernel_rfl) Try.func3
    (ChangeSpec.witness6 (enc := enc) (C := Try.checked) false ⟨#[], #[], []⟩ 8 (by kernel_rfl) (by kernel_rfl) (by kernel_rfl) (by kernel_rfl)) ?_
  intro W base args ds gs before _ hW _ _
  obtain ⟨p, q, hA0, hV, rfl, hfz, hnd⟩ := hW
  have hA : DataW.TrodAll enc Try.prog W 0 (fun _ => true) true Try.f3.params.toList args.toList ds p := hA0
  rw [Try.params3] at hA
  have he : args = #[] := by
    have := (trodAll_nil hA).1
    cases args
    simp_all
  subst he
  exact Go.Tw.closed_post (P := Try.prog) (by kernel_rfl) (t := 4) (by kernel_rfl) (by kernel_rfl) Try.params3 rfl rfl emitKnown_true W

theorem emitKnown_holds : Rows.EmitKnownSaid :=
  OpenClaim.holds_of_wide 3 Try.f3 rfl rfl rfl rfl rfl rfl rfl ⟨rfl, rfl, rfl, rfl, rfl⟩ rfl rfl rfl rfl rfl (by kernel_rfl) Try.func3 (by kernel_rfl)
    (of_decide_eq_true (by kernel_rfl)) (by unfold Func.isWrapper; first | (rw [if_pos (by decide +kernel)]; kernel_rfl) | (rw [if_neg (by decide +kernel)]; exact ⟨rfl, rfl⟩))
    (fun os started H enc _ => emitKnown_lifted os started H enc)
end Go.Proofs.Ytbdkfhkkocjciaa
#print axioms Go.Proofs.Ytbdkfhkkocjciaa.emitKnown_holds
