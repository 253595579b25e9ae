/-
  The statement EmitTells holds: for every instruction and all numbers the law tells true, and what is handed in reads as before: by an abstract evaluator of the program's code and a tree of decisions for each operation. No condition.
-/
import Derived.Test.YtbkokbjpbbpllaaGreatLawB
import Derived.Test.YtbkokbjpbbpllaaGreatFacts
import Derived.ChangeSlices
namespace Go.Proofs.YtbkokbjpbbpllaaGreat
open Go.ChangeShapes Go.WideShapes Go.ChangeAt Go.RowKit
theorem Tryz.own : ownKnob Tryz.prog.godebug = none := by kernel_rfl
theorem Tryz.laidOut : laidOutB Tryz.prog = true := by kernel_rfl
theorem u3 : P.underlying 3 = some (.int .i64) := by kernel_rfl
theorem u4 : P.underlying 4 = some .bool := by kernel_rfl
theorem p3 : Tryz.f3.params = #[24, 3, 3, 3] := by kernel_rfl
theorem sh24 : Go.Tw.shOf P 8 24 = some LIns := by kernel_rfl
set_option maxRecDepth 100000 in
theorem emitTells_lifted (os : Os) (started : os.Started) (H : Type) (enc : TypeId × Value → H) :
    ReturnsInHanded {} Tryz.checked os 3 .any (Rows.emitTellsSpec.pre6 enc Tryz.prog Tryz.f3 Rows.emitTellsRow.domain false) (Rows.emitTellsSpec.post enc Tryz.prog Tryz.f3 false true false false) := by
  refine returnsInHanded_of_change (C := Tryz.checked) Tryz.own started (by kernel_rfl) Tryz.func3
    (ChangeSpec.witness6 (enc := enc) (C := Tryz.checked) false ⟨#[], #[.agg #[.int .i64 0, .int .i64 0, .int .i64 0, .int .i64 0, .int .i64 0, .slice none 0 0], .int .i64 0, .int .i64 0, .int .i64 0], []⟩ 8 (by kernel_rfl) (by kernel_rfl) (by kernel_rfl) (by kernel_rfl)) ?_
  intro W base args ds gs before hval0 hW _ _
  have hval : ∀ (j : Nat) t v, Tryz.f3.params[j]? = some t → args[j]? = some v → Value.okWide Tryz.prog W .any base t v := hval0
  have hW' := hW
  obtain ⟨p, q, hA0, hV, rfl, hfz, hnd⟩ := hW
  have hA : DataW.TrodAll enc Tryz.prog W 0 (fun _ => true) true Tryz.f3.params.toList args.toList ds p := hA0
  rw [p3] at hA hval
  obtain ⟨v0, v1, v2, v3, d0, d1, d2, d3, p0, p1, p2, p3, rfl, rfl, rfl, h0, h1, h2, h3⟩ := trodAll_four hA
  obtain ⟨rfl, rfl⟩ := trodVars_none hV
  obtain ⟨z1, rfl, rfl, rfl, w1⟩ := open_int u3 (hval 1 3 v1 rfl rfl) h1
  obtain ⟨z2, rfl, rfl, rfl, w2⟩ := open_int u3 (hval 2 3 v2 rfl rfl) h2
  obtain ⟨z3, rfl, rfl, rfl, w3⟩ := open_int u3 (hval 3 3 v3 rfl rfl) h3
  clear hA0 hval0
  simp only [List.append_nil] at hW'
  have h0k := h0
  obtain ⟨fuel, h0⟩ := h0
  obtain ⟨row, hrow⟩ := Go.Tw.trod_row 8 fuel 24 LIns _ _ _ sh24 h0
  obtain ⟨cs, rfl⟩ : ∃ cs, v0 = .agg cs := by
    have hl : v0.cells.toList.length = 6 := hrow.2.1
    cases v0 with
    | agg cs => exact ⟨cs, rfl⟩
    | _ => simp [Value.cells] at hl
  have hlt : ∀ x ∈ p0, x.block < W.heap.size := fun x hx => by simpa using hW'.lt x (by simpa using hx)
  refine (law_calls (z1 := z1) (z2 := z2) (z3 := z3) hrow).mono fun e W' ⟨he, hw⟩ => ?_
  subst he
  refine ⟨_, rfl, _, _, _, [], p0, [], hW', ?_, ?_, ?_, hw.frame _, fun h => by cases h⟩
  · exact trodAll_mk1 (shut_bool u4 true)
  · have hm := trodAll_mk4 (Below.trod Tryz.laidOut (by kernel_rfl) (of_decide_eq_true (by kernel_rfl)) h0k hw hlt) (shut_int u3 w1) (shut_int u3 w2) (shut_int u3 w3)
    simp only [List.append_nil] at hm
    exact hm
  · rfl
theorem emitTells_holds : Rows.EmitTellsSaid :=
  OpenClaim.holds_of_wide 3 Tryz.f3 rfl rfl rfl rfl rfl rfl rfl ⟨rfl, rfl, rfl, rfl, rfl⟩ rfl rfl rfl rfl rfl (by kernel_rfl) Tryz.func3 emitTells_closed
    (of_decide_eq_true (by kernel_rfl)) (by unfold Func.isWrapper; first | (rw [if_pos (by decide +kernel)]; kernel_rfl) | (rw [if_neg (by decide +kernel)]; exact ⟨rfl, rfl⟩))
    (fun os started H enc _ => emitTells_lifted os started H enc)
end Go.Proofs.YtbkokbjpbbpllaaGreat
#print axioms Go.Proofs.YtbkokbjpbbpllaaGreat.emitTells_holds
