/-
  The card of SenseKnown holds: the law of no input is run by the evaluator (TwEval), which is sound (TwSound4), with the tables that the row lists. Condition: those tables read as listed, which the given tie pays.
-/
import Derived.Test.YtncnepaclildjaaGreatDoorCalls9
import Derived.Test.YtncnepaclildjaaGreatDoorFacts
import Derived.Test.YtncnepaclildjaaGreatDoorCardF
import Derived.Test.YtncnepaclildjaaGreatDoorCards
import Derived.Test.YtncnepaclildjaaGreatDoorTieB
import Derived.Lay
import Derived.SevenTiedAt
namespace Go.Proofs.YtncnepaclildjaaGreatDoor
open Go.ChangeShapes Go.WideShapes Go.ChangeAt Go.RowKit

theorem Tryz.own : ownKnob Tryz.prog.godebug = none := by kernel_rfl

set_option maxRecDepth 100000 in
theorem senseKnown_lifted (os : Os) (started : os.Started) (H : Type) (enc : TypeId × Value → H) :
    ReturnsInHanded {} Tryz.checked os 3 .any (fun w args => (Rows.senseKnownSpec.pre enc Tryz.prog Tryz.f3 [] false w args ∧ laidMetH Tryz.prog Rows.senseKnownRow.laid w) ∧ sizedMet enc Tryz.prog Tryz.f3 (OpenSpec.ofChange Rows.senseKnownSpec) false w args)
      (Rows.senseKnownSpec.post enc Tryz.prog Tryz.f3 false true false false) := by
  refine returnsInHanded_of_change_and (C := Tryz.checked) (X := fun w _ => laidMetH Tryz.prog Rows.senseKnownRow.laid w) (fun _ _ _ hh h => by
      unfold laidMetH at h ⊢
      rw [laid_plain] at h ⊢
      exact laidMet.of_heap hh h) Tryz.own started (by kernel_rfl) Tryz.func3
    (ChangeSpec.witness_shaped (enc := enc) (C := Tryz.checked) (os := os) (X := fun w _ => laidMetH Tryz.prog Rows.senseKnownRow.laid w) false (World.laidAll Tryz.prog os Rows.senseKnownRow.laid) #[] 8 (World.laidAll_os _ _ _)
      (World.shaped_of_ZipB (by kernel_rfl) (by kernel_rfl)) (by kernel_rfl) (by kernel_rfl) (by kernel_rfl) (by
        unfold laidMetH
        rw [laid_plain]
        exact laidMet_laidAll _ (by kernel_rfl) (by kernel_rfl))) ?_
  intro W base args ds gs before hval0 hW _ _ hL _
  obtain ⟨p, q, hA0, hV, rfl, hfz, hnd⟩ := hW
  have hA : DataW.TrodAll enc Tryz.prog W 0 (fun _ => true) true Tryz.f3.params.toList args.toList ds p := hA0
  rw [Tryz.params3] at hA
  have he : args = #[] := by
    have := (trodAll_nil hA).1
    cases args
    simp_all
  subst he
  exact Go.Tw.closed_tab m71_sound tabs_lt rfl rfl rfl (t := 4) (by kernel_rfl) (by kernel_rfl) Tryz.params3 rfl rfl W (tabs_ok hL)

theorem senseKnown_row : Rows.SenseKnownSaid :=
  OpenClaim.holds_of_wide 3 Tryz.f3 rfl rfl rfl rfl rfl rfl rfl ⟨rfl, rfl, rfl, rfl, rfl⟩ rfl rfl rfl rfl rfl (by kernel_rfl) Tryz.func3 senseKnown_closed
    (of_decide_eq_true (by kernel_rfl)) (by unfold Func.isWrapper; first | (rw [if_pos (by decide +kernel)]; kernel_rfl) | (rw [if_neg (by decide +kernel)]; exact ⟨rfl, rfl⟩))
    (fun os started H enc _ => senseKnown_lifted os started H enc)

theorem senseKnown_holds : Rows.SenseKnownCardSaid :=
  Claim7.holds_tied_plain_at .later [] [.data, .listed, .pinned, .data, .pinned, .sentinel, .sentinel, .data, .data, .data] true (true, "47b1e18316218c07423fb93e9b32827f5cad3a9870928a313d25da8d610ef4e3") true
    senseKnown_row (fun _ h => by cases h) (by kernel_rfl) (fun _ h => by cases h) senseKnown_row_tie rfl ⟨rfl, rfl⟩ (by kernel_rfl) rfl
    (fun f fn hf hfn => by
      obtain rfl : f = 3 := Option.some.inj (senseKnown_card3.symm.trans hf) |>.symm
      obtain rfl : fn = Tryz.f3 := (Option.some.inj (Tryz.func3.symm.trans hfn)).symm
      exact ⟨senseKnown_card4, fun j t ht => by
        rw [Tryz.params3] at ht
        simp at ht⟩)
    senseKnown_card5
end Go.Proofs.YtncnepaclildjaaGreatDoor
#print axioms Go.Proofs.YtncnepaclildjaaGreatDoor.senseKnown_holds
