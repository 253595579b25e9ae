/-
  The card of ParseKnown holds: the law of no input is run by the evaluator (TwEval), which is sound (TwSound4), with the tables that the row lists. Condition: those tables read as listed, which the given tie pays.
-/
import Derived.Test.YtcnllglgijgnkaaGreatDoorCalls12
import Derived.Test.YtcnllglgijgnkaaGreatDoorFacts
import Derived.Test.YtcnllglgijgnkaaGreatDoorCardF
import Derived.Test.YtcnllglgijgnkaaGreatDoorCards
import Derived.Test.YtcnllglgijgnkaaGreatDoorTie
import Derived.Lay
import Derived.SevenTiedAt
namespace Go.Proofs.YtcnllglgijgnkaaGreatDoor
open Go.ChangeShapes Go.WideShapes Go.ChangeAt Go.RowKit

theorem Tryz.own : ownKnob Tryz.prog.godebug = none := by kernel_rfl

set_option maxRecDepth 100000 in
theorem parseKnown_lifted (os : Os) (started : os.Started) (H : Type) (enc : TypeId × Value → H) :
    ReturnsInHanded {} Tryz.checked os 3 .any (fun w args => (Rows.parseKnownSpec.pre enc Tryz.prog Tryz.f3 [] false w args ∧ laidMetH Tryz.prog Rows.parseKnownRow.laid w) ∧ sizedMet enc Tryz.prog Tryz.f3 (OpenSpec.ofChange Rows.parseKnownSpec) false w args)
      (Rows.parseKnownSpec.post enc Tryz.prog Tryz.f3 false true false false) := by
  refine returnsInHanded_of_change_and (C := Tryz.checked) (X := fun w _ => laidMetH Tryz.prog Rows.parseKnownRow.laid w) (fun _ _ _ hh h => by
      unfold laidMetH at h ⊢
      rw [laid_plain] at h ⊢
      exact laidMet.of_heap hh h) Tryz.own started (by kernel_rfl) Tryz.func3
    (ChangeSpec.witness_shaped (enc := enc) (C := Tryz.checked) (os := os) (X := fun w _ => laidMetH Tryz.prog Rows.parseKnownRow.laid w) false (World.laidAll Tryz.prog os Rows.parseKnownRow.laid) #[] 8 (World.laidAll_os _ _ _)
      (World.shaped_of_ZipB (by kernel_rfl) (by kernel_rfl)) (by kernel_rfl) (by kernel_rfl) (by kernel_rfl) (by
        unfold laidMetH
        rw [laid_plain]
        exact laidMet_laidAll _ (by kernel_rfl) (by kernel_rfl))) ?_
  intro W base args ds gs before hval0 hW _ _ hL _
  obtain ⟨p, q, hA0, hV, rfl, hfz, hnd⟩ := hW
  have hA : DataW.TrodAll enc Tryz.prog W 0 (fun _ => true) true Tryz.f3.params.toList args.toList ds p := hA0
  rw [Tryz.params3] at hA
  have he : args = #[] := by
    have := (trodAll_nil hA).1
    cases args
    simp_all
  subst he
  exact Go.Tw.closed_tab m29_sound tabs_lt rfl rfl rfl (t := 4) (by kernel_rfl) (by kernel_rfl) Tryz.params3 rfl rfl W (tabs_ok hL)

theorem parseKnown_row : Rows.ParseKnownSaid :=
  OpenClaim.holds_of_wide 3 Tryz.f3 rfl rfl rfl rfl rfl rfl rfl ⟨rfl, rfl, rfl, rfl, rfl⟩ rfl rfl rfl rfl rfl (by kernel_rfl) Tryz.func3 parseKnown_closed
    (of_decide_eq_true (by kernel_rfl)) (by unfold Func.isWrapper; first | (rw [if_pos (by decide +kernel)]; kernel_rfl) | (rw [if_neg (by decide +kernel)]; exact ⟨rfl, rfl⟩))
    (fun os started H enc _ => parseKnown_lifted os started H enc)

theorem parseKnown_holds : Rows.ParseKnownCardSaid :=
  Claim7.holds_tied_plain_at .later [] [.data, .data, .data, .data, .sentinel, .sentinel, .listed, .data, .pinned, .pinned] true (true, "6b54baebc673e2c45c1edddcc2d1c1cc00d2128204e622ac526c267212266575") true
    parseKnown_row (fun _ h => by cases h) (by kernel_rfl) (fun _ h => by cases h) parseKnown_row_tie rfl ⟨rfl, rfl⟩ (by kernel_rfl) rfl
    (fun f fn hf hfn => by
      obtain rfl : f = 3 := Option.some.inj (parseKnown_card3.symm.trans hf) |>.symm
      obtain rfl : fn = Tryz.f3 := (Option.some.inj (Tryz.func3.symm.trans hfn)).symm
      exact ⟨parseKnown_card4, fun j t ht => by
        rw [Tryz.params3] at ht
        simp at ht⟩)
    parseKnown_card5
end Go.Proofs.YtcnllglgijgnkaaGreatDoor
#print axioms Go.Proofs.YtcnllglgijgnkaaGreatDoor.parseKnown_holds
