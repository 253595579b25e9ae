/-
  The card of LexTells holds: the law is run by the evaluator (TwEval) with two texts and a number that are not known, with loops by induction (LexA, LexB), keywords and signs by all paths. Condition: the row's tables read as listed, which the given tie pays.
-/
import Derived.Test.YtnkpdmdifepaaaaGreatDoorLexLaw
import Derived.Test.YtnkpdmdifepaaaaGreatDoorLexK
import Derived.Test.YtnkpdmdifepaaaaGreatDoorLexS9x0
import Derived.Test.YtnkpdmdifepaaaaGreatDoorLexS9x2
import Derived.Test.YtnkpdmdifepaaaaGreatDoorLexS10x0
import Derived.Test.YtnkpdmdifepaaaaGreatDoorLexS10x2
import Derived.Test.YtnkpdmdifepaaaaGreatDoorLexS10x3
import Derived.Test.YtnkpdmdifepaaaaGreatDoorFacts
import Derived.Test.YtnkpdmdifepaaaaGreatDoorCardF
import Derived.Test.YtnkpdmdifepaaaaGreatDoorCards
import Derived.Test.YtnkpdmdifepaaaaGreatDoorTie
import Derived.Lay
import Derived.SevenTiedAt
import Derived.ChangeMaps5
namespace Go.Proofs.YtnkpdmdifepaaaaGreatDoor
open Go.ChangeShapes Go.WideShapes Go.ChangeAt Go.RowKit Go.ChangeMaps

theorem Tryz.own : ownKnob Tryz.prog.godebug = none := by kernel_rfl
theorem inR {a n i : Nat} (h1 : a ≤ i) (h2 : i < a + n) : i ∈ List.range' a n := by
  rw [List.mem_range'_1]
  omega
theorem runs7 : ∀ i, i < 22 → keyOk 7 i = true := fun i hi => by
  by_cases h : i < 11
  · exact List.all_eq_true.1 key7_0 i (inR (by omega) (by omega))
  · exact List.all_eq_true.1 key7_11 i (inR (by omega) (by omega))
theorem runs8 : ∀ i, i < 22 → keyOk 8 i = true := fun i hi => by
  by_cases h : i < 11
  · exact List.all_eq_true.1 key8_0 i (inR (by omega) (by omega))
  · exact List.all_eq_true.1 key8_11 i (inR (by omega) (by omega))
theorem runs9_0 : ∀ i, i < 46 → signOk 9 0 i = true := fun i hi => by
  by_cases h0 : i < 8
  · exact List.all_eq_true.1 sign9_0_0 i (inR (by omega) (by omega))
  by_cases h8 : i < 16
  · exact List.all_eq_true.1 sign9_0_8 i (inR (by omega) (by omega))
  by_cases h16 : i < 24
  · exact List.all_eq_true.1 sign9_0_16 i (inR (by omega) (by omega))
  by_cases h24 : i < 32
  · exact List.all_eq_true.1 sign9_0_24 i (inR (by omega) (by omega))
  by_cases h32 : i < 40
  · exact List.all_eq_true.1 sign9_0_32 i (inR (by omega) (by omega))
  by_cases h40 : i < 46
  · exact List.all_eq_true.1 sign9_0_40 i (inR (by omega) (by omega))
  omega
theorem runs9_1 : ∀ i, i < 46 → signOk 9 1 i = true := fun i hi => by
  by_cases h0 : i < 8
  · exact List.all_eq_true.1 sign9_1_0 i (inR (by omega) (by omega))
  by_cases h8 : i < 16
  · exact List.all_eq_true.1 sign9_1_8 i (inR (by omega) (by omega))
  by_cases h16 : i < 24
  · exact List.all_eq_true.1 sign9_1_16 i (inR (by omega) (by omega))
  by_cases h24 : i < 32
  · exact List.all_eq_true.1 sign9_1_24 i (inR (by omega) (by omega))
  by_cases h32 : i < 40
  · exact List.all_eq_true.1 sign9_1_32 i (inR (by omega) (by omega))
  by_cases h40 : i < 46
  · exact List.all_eq_true.1 sign9_1_40 i (inR (by omega) (by omega))
  omega
theorem runs9_2 : ∀ i, i < 46 → signOk 9 2 i = true := fun i hi => by
  by_cases h0 : i < 8
  · exact List.all_eq_true.1 sign9_2_0 i (inR (by omega) (by omega))
  by_cases h8 : i < 16
  · exact List.all_eq_true.1 sign9_2_8 i (inR (by omega) (by omega))
  by_cases h16 : i < 24
  · exact List.all_eq_true.1 sign9_2_16 i (inR (by omega) (by omega))
  by_cases h24 : i < 32
  · exact List.all_eq_true.1 sign9_2_24 i (inR (by omega) (by omega))
  by_cases h32 : i < 40
  · exact List.all_eq_true.1 sign9_2_32 i (inR (by omega) (by omega))
  by_cases h40 : i < 46
  · exact List.all_eq_true.1 sign9_2_40 i (inR (by omega) (by omega))
  omega
theorem runs9_3 : ∀ i, i < 46 → signOk 9 3 i = true := fun i hi => by
  by_cases h0 : i < 8
  · exact List.all_eq_true.1 sign9_3_0 i (inR (by omega) (by omega))
  by_cases h8 : i < 16
  · exact List.all_eq_true.1 sign9_3_8 i (inR (by omega) (by omega))
  by_cases h16 : i < 24
  · exact List.all_eq_true.1 sign9_3_16 i (inR (by omega) (by omega))
  by_cases h24 : i < 32
  · exact List.all_eq_true.1 sign9_3_24 i (inR (by omega) (by omega))
  by_cases h32 : i < 40
  · exact List.all_eq_true.1 sign9_3_32 i (inR (by omega) (by omega))
  by_cases h40 : i < 46
  · exact List.all_eq_true.1 sign9_3_40 i (inR (by omega) (by omega))
  omega
theorem runs9 : ∀ c i, c < 4 → i < 46 → signOk 9 c i = true := fun c i hc hi => by
  match c, hc with
  | 0, _ => exact runs9_0 i hi
  | 1, _ => exact runs9_1 i hi
  | 2, _ => exact runs9_2 i hi
  | 3, _ => exact runs9_3 i hi
  | _ + 4, hc => omega
theorem runs10_0 : ∀ i, i < 46 → signOk 10 0 i = true := fun i hi => by
  by_cases h0 : i < 4
  · exact List.all_eq_true.1 sign10_0_0 i (inR (by omega) (by omega))
  by_cases h4 : i < 8
  · exact List.all_eq_true.1 sign10_0_4 i (inR (by omega) (by omega))
  by_cases h8 : i < 12
  · exact List.all_eq_true.1 sign10_0_8 i (inR (by omega) (by omega))
  by_cases h12 : i < 16
  · exact List.all_eq_true.1 sign10_0_12 i (inR (by omega) (by omega))
  by_cases h16 : i < 20
  · exact List.all_eq_true.1 sign10_0_16 i (inR (by omega) (by omega))
  by_cases h20 : i < 24
  · exact List.all_eq_true.1 sign10_0_20 i (inR (by omega) (by omega))
  by_cases h24 : i < 28
  · exact List.all_eq_true.1 sign10_0_24 i (inR (by omega) (by omega))
  by_cases h28 : i < 32
  · exact List.all_eq_true.1 sign10_0_28 i (inR (by omega) (by omega))
  by_cases h32 : i < 36
  · exact List.all_eq_true.1 sign10_0_32 i (inR (by omega) (by omega))
  by_cases h36 : i < 40
  · exact List.all_eq_true.1 sign10_0_36 i (inR (by omega) (by omega))
  by_cases h40 : i < 44
  · exact List.all_eq_true.1 sign10_0_40 i (inR (by omega) (by omega))
  by_cases h44 : i < 46
  · exact List.all_eq_true.1 sign10_0_44 i (inR (by omega) (by omega))
  omega
theorem runs10_1 : ∀ i, i < 46 → signOk 10 1 i = true := fun i hi => by
  by_cases h0 : i < 4
  · exact List.all_eq_true.1 sign10_1_0 i (inR (by omega) (by omega))
  by_cases h4 : i < 8
  · exact List.all_eq_true.1 sign10_1_4 i (inR (by omega) (by omega))
  by_cases h8 : i < 12
  · exact List.all_eq_true.1 sign10_1_8 i (inR (by omega) (by omega))
  by_cases h12 : i < 16
  · exact List.all_eq_true.1 sign10_1_12 i (inR (by omega) (by omega))
  by_cases h16 : i < 20
  · exact List.all_eq_true.1 sign10_1_16 i (inR (by omega) (by omega))
  by_cases h20 : i < 24
  · exact List.all_eq_true.1 sign10_1_20 i (inR (by omega) (by omega))
  by_cases h24 : i < 28
  · exact List.all_eq_true.1 sign10_1_24 i (inR (by omega) (by omega))
  by_cases h28 : i < 32
  · exact List.all_eq_true.1 sign10_1_28 i (inR (by omega) (by omega))
  by_cases h32 : i < 36
  · exact List.all_eq_true.1 sign10_1_32 i (inR (by omega) (by omega))
  by_cases h36 : i < 40
  · exact List.all_eq_true.1 sign10_1_36 i (inR (by omega) (by omega))
  by_cases h40 : i < 44
  · exact List.all_eq_true.1 sign10_1_40 i (inR (by omega) (by omega))
  by_cases h44 : i < 46
  · exact List.all_eq_true.1 sign10_1_44 i (inR (by omega) (by omega))
  omega
theorem runs10_2 : ∀ i, i < 46 → signOk 10 2 i = true := fun i hi => by
  by_cases h0 : i < 4
  · exact List.all_eq_true.1 sign10_2_0 i (inR (by omega) (by omega))
  by_cases h4 : i < 8
  · exact List.all_eq_true.1 sign10_2_4 i (inR (by omega) (by omega))
  by_cases h8 : i < 12
  · exact List.all_eq_true.1 sign10_2_8 i (inR (by omega) (by omega))
  by_cases h12 : i < 16
  · exact List.all_eq_true.1 sign10_2_12 i (inR (by omega) (by omega))
  by_cases h16 : i < 20
  · exact List.all_eq_true.1 sign10_2_16 i (inR (by omega) (by omega))
  by_cases h20 : i < 24
  · exact List.all_eq_true.1 sign10_2_20 i (inR (by omega) (by omega))
  by_cases h24 : i < 28
  · exact List.all_eq_true.1 sign10_2_24 i (inR (by omega) (by omega))
  by_cases h28 : i < 32
  · exact List.all_eq_true.1 sign10_2_28 i (inR (by omega) (by omega))
  by_cases h32 : i < 36
  · exact List.all_eq_true.1 sign10_2_32 i (inR (by omega) (by omega))
  by_cases h36 : i < 40
  · exact List.all_eq_true.1 sign10_2_36 i (inR (by omega) (by omega))
  by_cases h40 : i < 44
  · exact List.all_eq_true.1 sign10_2_40 i (inR (by omega) (by omega))
  by_cases h44 : i < 46
  · exact List.all_eq_true.1 sign10_2_44 i (inR (by omega) (by omega))
  omega
theorem runs10_3 : ∀ i, i < 46 → signOk 10 3 i = true := fun i hi => by
  by_cases h0 : i < 4
  · exact List.all_eq_true.1 sign10_3_0 i (inR (by omega) (by omega))
  by_cases h4 : i < 8
  · exact List.all_eq_true.1 sign10_3_4 i (inR (by omega) (by omega))
  by_cases h8 : i < 12
  · exact List.all_eq_true.1 sign10_3_8 i (inR (by omega) (by omega))
  by_cases h12 : i < 16
  · exact List.all_eq_true.1 sign10_3_12 i (inR (by omega) (by omega))
  by_cases h16 : i < 20
  · exact List.all_eq_true.1 sign10_3_16 i (inR (by omega) (by omega))
  by_cases h20 : i < 24
  · exact List.all_eq_true.1 sign10_3_20 i (inR (by omega) (by omega))
  by_cases h24 : i < 28
  · exact List.all_eq_true.1 sign10_3_24 i (inR (by omega) (by omega))
  by_cases h28 : i < 32
  · exact List.all_eq_true.1 sign10_3_28 i (inR (by omega) (by omega))
  by_cases h32 : i < 36
  · exact List.all_eq_true.1 sign10_3_32 i (inR (by omega) (by omega))
  by_cases h36 : i < 40
  · exact List.all_eq_true.1 sign10_3_36 i (inR (by omega) (by omega))
  by_cases h40 : i < 44
  · exact List.all_eq_true.1 sign10_3_40 i (inR (by omega) (by omega))
  by_cases h44 : i < 46
  · exact List.all_eq_true.1 sign10_3_44 i (inR (by omega) (by omega))
  omega
theorem runs10 : ∀ c i, c < 4 → i < 46 → signOk 10 c i = true := fun c i hc hi => by
  match c, hc with
  | 0, _ => exact runs10_0 i hi
  | 1, _ => exact runs10_1 i hi
  | 2, _ => exact runs10_2 i hi
  | 3, _ => exact runs10_3 i hi
  | _ + 4, hc => omega


set_option maxRecDepth 100000 in
theorem lexTells_lifted (os : Os) (started : os.Started) (H : Type) (enc : TypeId × Value → H) :
    ReturnsInHanded {} Tryz.checked os 3 .any (fun w args => (Rows.lexTellsSpec.pre enc Tryz.prog Tryz.f3 [] false w args ∧ laidMetH Tryz.prog Rows.lexTellsRow.laid w) ∧ sizedMet enc Tryz.prog Tryz.f3 (OpenSpec.ofChange Rows.lexTellsSpec) false w args)
      (Rows.lexTellsSpec.post enc Tryz.prog Tryz.f3 false true false false) := by
  refine returnsInHanded_of_change_and (C := Tryz.checked) (X := fun w _ => laidMetH Tryz.prog Rows.lexTellsRow.laid w) (fun _ _ _ hh h => by
      unfold laidMetH at h ⊢
      rw [laid_plain] at h ⊢
      exact laidMet.of_heap hh h) Tryz.own started (by kernel_rfl) Tryz.func3
    (ChangeSpec.witness_shaped (enc := enc) (C := Tryz.checked) (os := os) (X := fun w _ => laidMetH Tryz.prog Rows.lexTellsRow.laid w) false (World.laidAll Tryz.prog os Rows.lexTellsRow.laid) #[.string ⟨⟨[]⟩⟩, .int .i64 0, .string ⟨⟨[]⟩⟩] 8 (World.laidAll_os _ _ _)
      (World.shaped_of_ZipB (by kernel_rfl) (by kernel_rfl)) (by kernel_rfl) (by kernel_rfl) (by kernel_rfl) (by
        unfold laidMetH
        rw [laid_plain]
        exact laidMet_laidAll _ (by kernel_rfl) (by kernel_rfl))) ?_
  intro W base args ds gs before hval0 hW _ _ hL _
  have hval : ∀ (j : Nat) t v, Tryz.f3.params[j]? = some t → args[j]? = some v → Value.okWide Tryz.prog W .any base t v := hval0
  have hW' := hW
  obtain ⟨p, q, hA0, hV, rfl, hfz, hnd⟩ := hW
  have hA : DataW.TrodAll enc Tryz.prog W 0 (fun _ => true) true Tryz.f3.params.toList args.toList ds p := hA0
  rw [Tryz.params3] at hA hval
  obtain ⟨v0, v1, v2, d0, d1, d2, p0, p1, p2, rfl, rfl, rfl, h0, h1, h2⟩ := trodAll_three hA
  obtain ⟨rfl, rfl⟩ := trodVars_none hV
  obtain ⟨s0, rfl, rfl, rfl, w0⟩ := open_string Tryz.underlying9 (hval 0 9 v0 rfl rfl) h0
  obtain ⟨z, rfl, rfl, rfl, w1⟩ := open_int Tryz.underlying3 (hval 1 3 v1 rfl rfl) h1
  obtain ⟨s1, rfl, rfl, rfl, w2⟩ := open_string Tryz.underlying9 (hval 2 9 v2 rfl rfl) h2
  clear hA0 hval0
  simp only [List.append_nil] at hW'
  obtain ⟨⟨s0⟩⟩ := s0
  obtain ⟨⟨s1⟩⟩ := s1
  refine (lex_calls (s0 := s0) (s1 := s1) (z := z) runs7 runs8 runs9 runs10 (@tabs_ok (VL s0 z s1) W hL)).mono fun e W' ⟨he, hw⟩ => ?_
  subst he
  refine ⟨_, rfl, _, _, _, [], [], [], hW', ?_, ?_, ?_, hw.frame _, fun h => by cases h⟩
  · exact trodAll_mk1 (shut_bool Tryz.underlying4 true)
  · exact trodAll_mk3 (shut_string Tryz.underlying9 w0) (shut_int Tryz.underlying3 w1) (shut_string Tryz.underlying9 w2)
  · rfl

theorem lexTells_row : Rows.LexTellsSaid :=
  OpenClaim.holds_of_wide 3 Tryz.f3 rfl rfl rfl rfl rfl rfl rfl ⟨rfl, rfl, rfl, rfl, rfl⟩ rfl rfl rfl rfl rfl (by kernel_rfl) Tryz.func3 lexTells_closed
    (of_decide_eq_true (by kernel_rfl)) (by unfold Func.isWrapper; first | (rw [if_pos (by decide +kernel)]; kernel_rfl) | (rw [if_neg (by decide +kernel)]; exact ⟨rfl, rfl⟩))
    (fun os started H enc _ => lexTells_lifted os started H enc)

theorem lexTells_holds : Rows.LexTellsCardSaid :=
  Claim7.holds_tied_plain_at .later [] [.data, .data, .data, .data, .sentinel, .sentinel, .listed, .data, .pinned, .pinned] true (true, "2c7ca412a021b9c6d73f5ad137432343d8aa24dc9a7de70310cd298ac634c80e") true
    lexTells_row (fun _ h => by cases h) (by kernel_rfl) (fun _ h => by cases h) lexTells_row_tie rfl ⟨rfl, rfl⟩ (by kernel_rfl) rfl
    (fun f fn hf hfn => by
      obtain rfl : f = 3 := Option.some.inj (lexTells_card3.symm.trans hf) |>.symm
      obtain rfl : fn = Tryz.f3 := (Option.some.inj (Tryz.func3.symm.trans hfn)).symm
      exact ⟨lexTells_card4, fun j t ht => by
        have h9 : Tryz.prog.wantsStandIn 9 = false := by kernel_rfl
        have h3 : Tryz.prog.wantsStandIn 3 = false := by kernel_rfl
        rw [Tryz.params3] at ht
        rcases j with _ | _ | _ | j
        · simp at ht; subst ht; exact h9
        · simp at ht; subst ht; exact h3
        · simp at ht; subst ht; exact h9
        · simp at ht⟩)
    lexTells_card5
end Go.Proofs.YtnkpdmdifepaaaaGreatDoor
#print axioms Go.Proofs.YtnkpdmdifepaaaaGreatDoor.lexTells_holds

