/-
  The statement EmitThere holds: for every register, every 64-bit number, every kind and place the law tells true: by an abstract evaluator of the program's code and 336 classes of numbers. No condition.
-/
import Derived.Test.YtgcpcgaigbnniaaGreatLaw
import Derived.Test.YtgcpcgaigbnniaaGreatFacts
import Derived.ChangeSlices
set_option linter.all false
set_option linter.all false
namespace Go.Proofs.YtgcpcgaigbnniaaGreat
open Go.ChangeShapes Go.WideShapes Go.ChangeAt Go.RowKit

theorem Tryz.own : ownKnob Tryz.prog.godebug = none := by kernel_rfl
theorem Tryz.laidOut : laidOutB Tryz.prog = true := by kernel_rfl
theorem ty3 : P.underlying 3 = some (.int .i64) := by kernel_rfl
theorem ty4 : P.underlying 4 = some .bool := by kernel_rfl
theorem pr3 : Tryz.f3.params = #[3, 3, 3, 3] := by kernel_rfl
theorem wf_range {n : Int} (h : (Lit.int .i64 n).wf = true) : -9223372036854775808 ≤ n ∧ n ≤ 9223372036854775807 := by
  have h : (decide (IntKind.i64.min ≤ n) && decide (n ≤ IntKind.i64.max)) = true := h
  rw [Bool.and_eq_true] at h
  have h1 : (-9223372036854775808 : Int) ≤ n := of_decide_eq_true h.1
  have h2 : n ≤ (9223372036854775807 : Int) := of_decide_eq_true h.2
  exact ⟨h1, h2⟩

set_option maxRecDepth 100000 in
theorem emitThere_lifted (os : Os) (started : os.Started) (H : Type) (enc : TypeId × Value → H) :
    ReturnsInHanded {} Tryz.checked os 3 .any (Rows.emitThereSpec.pre6 enc Tryz.prog Tryz.f3 Rows.emitThereRow.domain false) (Rows.emitThereSpec.post enc Tryz.prog Tryz.f3 false true false false) := by
  refine returnsInHanded_of_change (C := Tryz.checked) Tryz.own started (by kernel_rfl) Tryz.func3
    (ChangeSpec.witness6 (enc := enc) (C := Tryz.checked) false ⟨#[], #[.int .i64 0, .int .i64 0, .int .i64 0, .int .i64 0], []⟩ 8 (by kernel_rfl) (by kernel_rfl) (by kernel_rfl) (by kernel_rfl)) ?_
  intro W base args ds gs before hval0 hW _ _
  have hval : ∀ (j : Nat) t v, Tryz.f3.params[j]? = some t → args[j]? = some v → Value.okWide Tryz.prog W .any base t v := hval0
  have hW' := hW
  obtain ⟨p, q, hA0, hV, rfl, hfz, hnd⟩ := hW
  have hA : DataW.TrodAll enc Tryz.prog W 0 (fun _ => true) true Tryz.f3.params.toList args.toList ds p := hA0
  rw [pr3] at hA hval
  obtain ⟨v0, v1, v2, v3, d0, d1, d2, d3, p0, p1, p2, p3, rfl, rfl, rfl, h0, h1, h2, h3⟩ := trodAll_four hA
  obtain ⟨rfl, rfl⟩ := trodVars_none hV
  obtain ⟨z0, rfl, rfl, rfl, w0⟩ := open_int ty3 (hval 0 3 v0 rfl rfl) h0
  obtain ⟨z1, rfl, rfl, rfl, w1⟩ := open_int ty3 (hval 1 3 v1 rfl rfl) h1
  obtain ⟨z2, rfl, rfl, rfl, w2⟩ := open_int ty3 (hval 2 3 v2 rfl rfl) h2
  obtain ⟨z3, rfl, rfl, rfl, w3⟩ := open_int ty3 (hval 3 3 v3 rfl rfl) h3
  clear hA0 hval0
  simp only [List.append_nil] at hW'
  refine (law_calls W z0 z1 z2 z3 (wf_range w1)).mono fun e W' ⟨he, hw⟩ => ?_
  subst he
  refine ⟨_, rfl, _, _, _, [], [], [], hW', ?_, ?_, ?_, hw.frame _, fun h => by cases h⟩
  · exact trodAll_mk1 (shut_bool ty4 true)
  · exact trodAll_mk4 (shut_int ty3 w0) (shut_int ty3 w1) (shut_int ty3 w2) (shut_int ty3 w3)
  · rfl

theorem emitThere_holds : Rows.EmitThereSaid :=
  OpenClaim.holds_of_wide 3 Tryz.f3 rfl rfl rfl rfl rfl rfl rfl ⟨rfl, rfl, rfl, rfl, rfl⟩ rfl rfl rfl rfl rfl (by kernel_rfl) Tryz.func3 emitThere_closed
    (of_decide_eq_true (by kernel_rfl)) (by unfold Func.isWrapper; first | (rw [if_pos (by decide +kernel)]; kernel_rfl) | (rw [if_neg (by decide +kernel)]; exact ⟨rfl, rfl⟩))
    (fun os started H enc _ => emitThere_lifted os started H enc)
end Go.Proofs.YtgcpcgaigbnniaaGreat
#print axioms Go.Proofs.YtgcpcgaigbnniaaGreat.emitThere_holds
