/-
  The card of LowerKnown holds: the law of no input is run by the evaluator (TwEval), which is sound (TwSound4), with the tables that the row lists. Condition: those tables read as listed, which the given tie pays.
-/
import Derived.Test.YtaademiiaeknkaaGreatDoorCalls5
import Derived.Test.YtaademiiaeknkaaGreatDoorFacts
import Derived.Test.YtaademiiaeknkaaGreatDoorCardF
import Derived.Test.YtaademiiaeknkaaGreatDoorCards
import Derived.Test.YtaademiiaeknkaaGreatDoorTie
import Derived.Lay
import Derived.SevenTiedAt
namespace Go.Proofs.YtaademiiaeknkaaGreatDoor
open Go.ChangeShapes Go.WideShapes Go.ChangeAt Go.RowKit

theorem Tryz.own : ownKnob Tryz.prog.godebug = none := by kernel_rfl

set_option maxRecDepth 100000 in
theorem lowerKnown_lifted (os : Os) (started : os.Started) (H : Type) (enc : TypeId × Value → H) :
    ReturnsInHanded {} Tryz.checked os 3 .any (fun w args => (Rows.lowerKnownSpec.pre enc Tryz.prog Tryz.f3 [] false w args ∧ laidMetH Tryz.prog Rows.lowerKnownRow.laid w) ∧ sizedMet enc Tryz.prog Tryz.f3 (OpenSpec.ofChange Rows.lowerKnownSpec) false w args)
      (Rows.lowerKnownSpec.post enc Tryz.prog Tryz.f3 false true false false) := by
  refine returnsInHanded_of_change_and (C := Tryz.checked) (X := fun w _ => laidMetH Tryz.prog Rows.lowerKnownRow.laid w) (fun _ _ _ hh h => by
      unfold laidMetH at h ⊢
      rw [laid_plain] at h ⊢
      exact laidMet.of_heap hh h) Tryz.own started (by kernel_rfl) Tryz.func3
    (ChangeSpec.witness_shaped (enc := enc) (C := Tryz.checked) (os := os) (X := fun w _ => laidMetH Tryz.prog Rows.lowerKnownRow.laid w) false (World.laidAll Tryz.prog os Rows.lowerKnownRow.laid) #[] 8 (World.laidAll_os _ _ _)
      (World.shaped_of_ZipB (by kernel_rfl) (by kernel_rfl)) (by kernel_rfl) (by kernel_rfl) (by kernel_rfl) (by
        unfold laidMetH
        rw [laid_plain]
        exact laidMet_laidAll _ (by kernel_rfl) (by kernel_rfl))) ?_
  intro W base args ds gs before hval0 hW _ _ hL _
  obtain ⟨p, q, hA0, hV, rfl, hfz, hnd⟩ := hW
  have hA : DataW.TrodAll enc Tryz.prog W 0 (fun _ => true) true Tryz.f3.params.toList args.toList ds p := hA0
  rw [Tryz.params3] at hA
  have he : args = #[] := by
    have := (trodAll_nil hA).1
    cases args
    simp_all
  subst he
  exact Go.Tw.closed_tab m23_sound tabs_lt rfl rfl rfl (t := 4) (by kernel_rfl) (by kernel_rfl) Tryz.params3 rfl rfl W (tabs_ok hL)

theorem lowerKnown_row : Rows.LowerKnownSaid :=
  OpenClaim.holds_of_wide 3 Tryz.f3 rfl rfl rfl rfl rfl rfl rfl ⟨rfl, rfl, rfl, rfl, rfl⟩ rfl rfl rfl rfl rfl (by kernel_rfl) Tryz.func3 lowerKnown_closed
    (of_decide_eq_true (by kernel_rfl)) (by unfold Func.isWrapper; first | (rw [if_pos (by decide +kernel)]; kernel_rfl) | (rw [if_neg (by decide +kernel)]; exact ⟨rfl, rfl⟩))
    (fun os started H enc _ => lowerKnown_lifted os started H enc)

theorem lowerKnown_holds : Rows.LowerKnownCardSaid :=
  Claim7.holds_tied_plain_at .later [] [.data, .data, .data, .data, .sentinel, .sentinel, .listed, .data, .pinned, .pinned] true (true, "4bec896d6539142a302b2ad6e2a419e82cdd183d7ebef102a157d41692f3ae84") true
    lowerKnown_row (fun _ h => by cases h) (by kernel_rfl) (fun _ h => by cases h) lowerKnown_row_tie rfl ⟨rfl, rfl⟩ (by kernel_rfl) rfl
    (fun f fn hf hfn => by
      obtain rfl : f = 3 := Option.some.inj (lowerKnown_card3.symm.trans hf) |>.symm
      obtain rfl : fn = Tryz.f3 := (Option.some.inj (Tryz.func3.symm.trans hfn)).symm
      exact ⟨lowerKnown_card4, fun j t ht => by
        rw [Tryz.params3] at ht
        simp at ht⟩)
    lowerKnown_card5
end Go.Proofs.YtaademiiaeknkaaGreatDoor
#print axioms Go.Proofs.YtaademiiaeknkaaGreatDoor.lowerKnown_holds
