/-
  The statement OptKnown holds: the law of no input is run by the evaluator (TwEval), which is sound (TwSound4), with calls known before (Calls0 and on). No condition.
-/
import Derived.Test.YteiebohldacffaaGreatCalls3
import Derived.Test.YteiebohldacffaaGreatFacts
namespace Go.Proofs.YteiebohldacffaaGreat
open Go.ChangeShapes Go.WideShapes Go.ChangeAt Go.RowKit

theorem Tryz.own : ownKnob Tryz.prog.godebug = none := by kernel_rfl
theorem Tryz.laidOut : laidOutB Tryz.prog = true := by kernel_rfl

set_option maxRecDepth 100000 in
theorem optKnown_lifted (os : Os) (started : os.Started) (H : Type) (enc : TypeId × Value → H) :
    ReturnsInHanded {} Tryz.checked os 3 .any (Rows.optKnownSpec.pre6 enc Tryz.prog Tryz.f3 Rows.optKnownRow.domain false) (Rows.optKnownSpec.post enc Tryz.prog Tryz.f3 false true false false) := by
  refine returnsInHanded_of_change (C := Tryz.checked) Tryz.own started (by kernel_rfl) Tryz.func3
    (ChangeSpec.witness6 (enc := enc) (C := Tryz.checked) false ⟨#[], #[], []⟩ 8 (by kernel_rfl) (by kernel_rfl) (by kernel_rfl) (by kernel_rfl)) ?_
  intro W base args ds gs before _ hW _ _
  obtain ⟨p, q, hA0, hV, rfl, hfz, hnd⟩ := hW
  have hA : DataW.TrodAll enc Tryz.prog W 0 (fun _ => true) true Tryz.f3.params.toList args.toList ds p := hA0
  rw [Tryz.params3] at hA
  have he : args = #[] := by
    have := (trodAll_nil hA).1
    cases args
    simp_all
  subst he
  exact Go.Tw.closed_memo m54_sound rfl rfl rfl (t := 4) (by kernel_rfl) (by kernel_rfl) Tryz.params3 rfl rfl W

theorem optKnown_holds : Rows.OptKnownSaid :=
  OpenClaim.holds_of_wide 3 Tryz.f3 rfl rfl rfl rfl rfl rfl rfl ⟨rfl, rfl, rfl, rfl, rfl⟩ rfl rfl rfl rfl rfl (by kernel_rfl) Tryz.func3 optKnown_closed
    (of_decide_eq_true (by kernel_rfl)) (by unfold Func.isWrapper; first | (rw [if_pos (by decide +kernel)]; kernel_rfl) | (rw [if_neg (by decide +kernel)]; exact ⟨rfl, rfl⟩))
    (fun os started H enc _ => optKnown_lifted os started H enc)
end Go.Proofs.YteiebohldacffaaGreat
#print axioms Go.Proofs.YteiebohldacffaaGreat.optKnown_holds
