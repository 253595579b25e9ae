/-
  The card of SenseReturns holds: the law is run by the evaluator (TwEval) with two numbers that are not known, along 29 paths of how many digits they have. Condition: the row's tables read as listed, which the given tie pays.
-/
import Derived.Test.YtelhnjgcijjngaaGreatDoorSenRa0
import Derived.Test.YtelhnjgcijjngaaGreatDoorSenRa3
import Derived.Test.YtelhnjgcijjngaaGreatDoorSenRb0
import Derived.Test.YtelhnjgcijjngaaGreatDoorSenRb3
import Derived.Test.YtelhnjgcijjngaaGreatDoorSenRc0
import Derived.Test.YtelhnjgcijjngaaGreatDoorSenRc3
import Derived.Test.YtelhnjgcijjngaaGreatDoorSenRd0
import Derived.Test.YtelhnjgcijjngaaGreatDoorSenRd3
import Derived.Test.YtelhnjgcijjngaaGreatDoorSenRe0
import Derived.Test.YtelhnjgcijjngaaGreatDoorSenRe3
import Derived.Test.YtelhnjgcijjngaaGreatDoorFacts
import Derived.Test.YtelhnjgcijjngaaGreatDoorCardF
import Derived.Test.YtelhnjgcijjngaaGreatDoorCards
import Derived.Test.YtelhnjgcijjngaaGreatDoorTieB
import Derived.Lay
import Derived.SevenTiedAt
set_option linter.all false
namespace Go.Proofs.YtelhnjgcijjngaaGreatDoor
open Go.ChangeShapes Go.WideShapes Go.ChangeAt Go.RowKit

theorem Tryz.own : ownKnob Tryz.prog.godebug = none := by kernel_rfl
section
open Go.Tw
theorem mulF {m n : Int} (h1 : 1 ≤ pickI m) (h2 : pickI m < 10) (h3 : 1 ≤ pickI n) (h4 : pickI n < 10000) : @Bx.eval (VS m n) (.cmp .lss (.bin .mul .i64 (.dvar 0) (.dvar 1)) (.dvar 1)) = false := by
  letI : Val := VS m n
  refine lss_f' ?_
  show ¬ wrapI .i64 (pickI m * pickI n) < pickI n
  have p1 : 1 * pickI n ≤ pickI m * pickI n := Int.mul_le_mul_of_nonneg_right h1 (by omega)
  have p2 : pickI m * pickI n ≤ 10 * 10000 := Int.mul_le_mul (by omega) (by omega) (by omega) (by omega)
  rw [wrap_i64]
  split <;> omega
theorem lawSound (m n : Int) : @Memo.Sound (VS m n) Tryz.prog 12 (tabK tabs []) ⟨3, [.sym .i64 (.dvar 2), .sym .i64 (.dvar 3)], .bool true, [], 12⟩ := by
  letI : Val := VS m n
  have ha : (0 ≤ pickI m ∧ pickI m < 1) ∨ (1 ≤ pickI m ∧ pickI m < 10) ∨ (10 ≤ pickI m ∧ pickI m < 100) ∨ (100 ≤ pickI m ∧ pickI m < 1000) ∨ (1000 ≤ pickI m ∧ pickI m < 10000) := by unfold pickI; omega
  have hb : (0 ≤ pickI n ∧ pickI n < 1) ∨ (1 ≤ pickI n ∧ pickI n < 10) ∨ (10 ≤ pickI n ∧ pickI n < 100) ∨ (100 ≤ pickI n ∧ pickI n < 1000) ∨ (1000 ≤ pickI n ∧ pickI n < 10000) := by unfold pickI; omega
  rcases ha with ha | ha | ha | ha | ha
  · rcases hb with hb | hb | hb | hb | hb
    · exact lawaa (Holds.cons (lss_t' (by show pickI m < 1; omega)) (Holds.cons (lss_f' (by show ¬ pickI m < 0; omega)) (Holds.cons (lss_t' (by show pickI n < 1; omega)) (Holds.cons (lss_f' (by show ¬ pickI n < 0; omega)) Holds.nil)))) (pz0 m n (by omega)) (pz1 m n (by omega))
    · exact lawab (Holds.cons (lss_t' (by show pickI m < 1; omega)) (Holds.cons (lss_f' (by show ¬ pickI m < 0; omega)) (Holds.cons (lss_t' (by show pickI n < 10; omega)) (Holds.cons (lss_f' (by show ¬ pickI n < 1; omega)) Holds.nil)))) (pz0 m n (by omega)) (pk1 m n)
    · exact lawac (Holds.cons (lss_t' (by show pickI m < 1; omega)) (Holds.cons (lss_f' (by show ¬ pickI m < 0; omega)) (Holds.cons (lss_t' (by show pickI n < 100; omega)) (Holds.cons (lss_f' (by show ¬ pickI n < 10; omega)) Holds.nil)))) (pz0 m n (by omega)) (pk1 m n)
    · exact lawad (Holds.cons (lss_t' (by show pickI m < 1; omega)) (Holds.cons (lss_f' (by show ¬ pickI m < 0; omega)) (Holds.cons (lss_t' (by show pickI n < 1000; omega)) (Holds.cons (lss_f' (by show ¬ pickI n < 100; omega)) Holds.nil)))) (pz0 m n (by omega)) (pk1 m n)
    · exact lawae (Holds.cons (lss_t' (by show pickI m < 1; omega)) (Holds.cons (lss_f' (by show ¬ pickI m < 0; omega)) (Holds.cons (lss_t' (by show pickI n < 10000; omega)) (Holds.cons (lss_f' (by show ¬ pickI n < 1000; omega)) Holds.nil)))) (pz0 m n (by omega)) (pk1 m n)
  · rcases hb with hb | hb | hb | hb | hb
    · exact lawba (Holds.cons (lss_t' (by show pickI m < 10; omega)) (Holds.cons (lss_f' (by show ¬ pickI m < 1; omega)) (Holds.cons (lss_t' (by show pickI n < 1; omega)) (Holds.cons (lss_f' (by show ¬ pickI n < 0; omega)) Holds.nil)))) (pk0 m n) (pz1 m n (by omega))
    · by_cases hc : pickI m < pickI n
      · exact lawbbl (Holds.cons (lss_t' (by show pickI m < 10; omega)) (Holds.cons (lss_f' (by show ¬ pickI m < 1; omega)) (Holds.cons (lss_t' (by show pickI n < 10; omega)) (Holds.cons (lss_f' (by show ¬ pickI n < 1; omega)) (Holds.cons (mulF (by omega) (by omega) (by omega) (by omega)) (Holds.cons (lss_t' hc) Holds.nil)))))) (pk0 m n) (pk1 m n)
      · exact lawbbg (Holds.cons (lss_t' (by show pickI m < 10; omega)) (Holds.cons (lss_f' (by show ¬ pickI m < 1; omega)) (Holds.cons (lss_t' (by show pickI n < 10; omega)) (Holds.cons (lss_f' (by show ¬ pickI n < 1; omega)) (Holds.cons (mulF (by omega) (by omega) (by omega) (by omega)) (Holds.cons (lss_f' hc) Holds.nil)))))) (pk0 m n) (pk1 m n)
    · exact lawbc (Holds.cons (lss_t' (by show pickI m < 10; omega)) (Holds.cons (lss_f' (by show ¬ pickI m < 1; omega)) (Holds.cons (lss_t' (by show pickI n < 100; omega)) (Holds.cons (lss_f' (by show ¬ pickI n < 10; omega)) (Holds.cons (mulF (by omega) (by omega) (by omega) (by omega)) Holds.nil))))) (pk0 m n) (pk1 m n)
    · exact lawbd (Holds.cons (lss_t' (by show pickI m < 10; omega)) (Holds.cons (lss_f' (by show ¬ pickI m < 1; omega)) (Holds.cons (lss_t' (by show pickI n < 1000; omega)) (Holds.cons (lss_f' (by show ¬ pickI n < 100; omega)) (Holds.cons (mulF (by omega) (by omega) (by omega) (by omega)) Holds.nil))))) (pk0 m n) (pk1 m n)
    · exact lawbe (Holds.cons (lss_t' (by show pickI m < 10; omega)) (Holds.cons (lss_f' (by show ¬ pickI m < 1; omega)) (Holds.cons (lss_t' (by show pickI n < 10000; omega)) (Holds.cons (lss_f' (by show ¬ pickI n < 1000; omega)) (Holds.cons (mulF (by omega) (by omega) (by omega) (by omega)) Holds.nil))))) (pk0 m n) (pk1 m n)
  · rcases hb with hb | hb | hb | hb | hb
    · exact lawca (Holds.cons (lss_t' (by show pickI m < 100; omega)) (Holds.cons (lss_f' (by show ¬ pickI m < 10; omega)) (Holds.cons (lss_t' (by show pickI n < 1; omega)) (Holds.cons (lss_f' (by show ¬ pickI n < 0; omega)) Holds.nil)))) (pk0 m n) (pz1 m n (by omega))
    · exact lawcb (Holds.cons (lss_t' (by show pickI m < 100; omega)) (Holds.cons (lss_f' (by show ¬ pickI m < 10; omega)) (Holds.cons (lss_t' (by show pickI n < 10; omega)) (Holds.cons (lss_f' (by show ¬ pickI n < 1; omega)) Holds.nil)))) (pk0 m n) (pk1 m n)
    · by_cases hc : pickI m < pickI n
      · exact lawccl (Holds.cons (lss_t' (by show pickI m < 100; omega)) (Holds.cons (lss_f' (by show ¬ pickI m < 10; omega)) (Holds.cons (lss_t' (by show pickI n < 100; omega)) (Holds.cons (lss_f' (by show ¬ pickI n < 10; omega)) (Holds.cons (lss_t' hc) Holds.nil))))) (pk0 m n) (pk1 m n)
      · exact lawccg (Holds.cons (lss_t' (by show pickI m < 100; omega)) (Holds.cons (lss_f' (by show ¬ pickI m < 10; omega)) (Holds.cons (lss_t' (by show pickI n < 100; omega)) (Holds.cons (lss_f' (by show ¬ pickI n < 10; omega)) (Holds.cons (lss_f' hc) Holds.nil))))) (pk0 m n) (pk1 m n)
    · exact lawcd (Holds.cons (lss_t' (by show pickI m < 100; omega)) (Holds.cons (lss_f' (by show ¬ pickI m < 10; omega)) (Holds.cons (lss_t' (by show pickI n < 1000; omega)) (Holds.cons (lss_f' (by show ¬ pickI n < 100; omega)) Holds.nil)))) (pk0 m n) (pk1 m n)
    · exact lawce (Holds.cons (lss_t' (by show pickI m < 100; omega)) (Holds.cons (lss_f' (by show ¬ pickI m < 10; omega)) (Holds.cons (lss_t' (by show pickI n < 10000; omega)) (Holds.cons (lss_f' (by show ¬ pickI n < 1000; omega)) Holds.nil)))) (pk0 m n) (pk1 m n)
  · rcases hb with hb | hb | hb | hb | hb
    · exact lawda (Holds.cons (lss_t' (by show pickI m < 1000; omega)) (Holds.cons (lss_f' (by show ¬ pickI m < 100; omega)) (Holds.cons (lss_t' (by show pickI n < 1; omega)) (Holds.cons (lss_f' (by show ¬ pickI n < 0; omega)) Holds.nil)))) (pk0 m n) (pz1 m n (by omega))
    · exact lawdb (Holds.cons (lss_t' (by show pickI m < 1000; omega)) (Holds.cons (lss_f' (by show ¬ pickI m < 100; omega)) (Holds.cons (lss_t' (by show pickI n < 10; omega)) (Holds.cons (lss_f' (by show ¬ pickI n < 1; omega)) Holds.nil)))) (pk0 m n) (pk1 m n)
    · exact lawdc (Holds.cons (lss_t' (by show pickI m < 1000; omega)) (Holds.cons (lss_f' (by show ¬ pickI m < 100; omega)) (Holds.cons (lss_t' (by show pickI n < 100; omega)) (Holds.cons (lss_f' (by show ¬ pickI n < 10; omega)) Holds.nil)))) (pk0 m n) (pk1 m n)
    · by_cases hc : pickI m < pickI n
      · exact lawddl (Holds.cons (lss_t' (by show pickI m < 1000; omega)) (Holds.cons (lss_f' (by show ¬ pickI m < 100; omega)) (Holds.cons (lss_t' (by show pickI n < 1000; omega)) (Holds.cons (lss_f' (by show ¬ pickI n < 100; omega)) (Holds.cons (lss_t' hc) Holds.nil))))) (pk0 m n) (pk1 m n)
      · exact lawddg (Holds.cons (lss_t' (by show pickI m < 1000; omega)) (Holds.cons (lss_f' (by show ¬ pickI m < 100; omega)) (Holds.cons (lss_t' (by show pickI n < 1000; omega)) (Holds.cons (lss_f' (by show ¬ pickI n < 100; omega)) (Holds.cons (lss_f' hc) Holds.nil))))) (pk0 m n) (pk1 m n)
    · exact lawde (Holds.cons (lss_t' (by show pickI m < 1000; omega)) (Holds.cons (lss_f' (by show ¬ pickI m < 100; omega)) (Holds.cons (lss_t' (by show pickI n < 10000; omega)) (Holds.cons (lss_f' (by show ¬ pickI n < 1000; omega)) Holds.nil)))) (pk0 m n) (pk1 m n)
  · rcases hb with hb | hb | hb | hb | hb
    · exact lawea (Holds.cons (lss_t' (by show pickI m < 10000; omega)) (Holds.cons (lss_f' (by show ¬ pickI m < 1000; omega)) (Holds.cons (lss_t' (by show pickI n < 1; omega)) (Holds.cons (lss_f' (by show ¬ pickI n < 0; omega)) Holds.nil)))) (pk0 m n) (pz1 m n (by omega))
    · exact laweb (Holds.cons (lss_t' (by show pickI m < 10000; omega)) (Holds.cons (lss_f' (by show ¬ pickI m < 1000; omega)) (Holds.cons (lss_t' (by show pickI n < 10; omega)) (Holds.cons (lss_f' (by show ¬ pickI n < 1; omega)) Holds.nil)))) (pk0 m n) (pk1 m n)
    · exact lawec (Holds.cons (lss_t' (by show pickI m < 10000; omega)) (Holds.cons (lss_f' (by show ¬ pickI m < 1000; omega)) (Holds.cons (lss_t' (by show pickI n < 100; omega)) (Holds.cons (lss_f' (by show ¬ pickI n < 10; omega)) Holds.nil)))) (pk0 m n) (pk1 m n)
    · exact lawed (Holds.cons (lss_t' (by show pickI m < 10000; omega)) (Holds.cons (lss_f' (by show ¬ pickI m < 1000; omega)) (Holds.cons (lss_t' (by show pickI n < 1000; omega)) (Holds.cons (lss_f' (by show ¬ pickI n < 100; omega)) Holds.nil)))) (pk0 m n) (pk1 m n)
    · by_cases hc : pickI m < pickI n
      · exact laweel (Holds.cons (lss_t' (by show pickI m < 10000; omega)) (Holds.cons (lss_f' (by show ¬ pickI m < 1000; omega)) (Holds.cons (lss_t' (by show pickI n < 10000; omega)) (Holds.cons (lss_f' (by show ¬ pickI n < 1000; omega)) (Holds.cons (lss_t' hc) Holds.nil))))) (pk0 m n) (pk1 m n)
      · exact laweeg (Holds.cons (lss_t' (by show pickI m < 10000; omega)) (Holds.cons (lss_f' (by show ¬ pickI m < 1000; omega)) (Holds.cons (lss_t' (by show pickI n < 10000; omega)) (Holds.cons (lss_f' (by show ¬ pickI n < 1000; omega)) (Holds.cons (lss_f' hc) Holds.nil))))) (pk0 m n) (pk1 m n)

theorem sen_calls (m n : Int) {W : World} (hl : ∀ p ∈ tabs, @TabOk (VS m n) W p) : Calls Tryz.prog 3 #[.int .i64 m, .int .i64 n] W fun e W' => e = .returned (.bool true) ∧ Below W.heap.size W W' :=
  letI : Val := VS m n
  tabK_calls (q := []) (lawSound m n) Holds.nil tabs_lt hl (.cons (.sym .i64 (.dvar 2)) (.cons (.sym .i64 (.dvar 3)) .nil)) rfl
end

set_option maxRecDepth 100000 in
theorem senseReturns_lifted (os : Os) (started : os.Started) (H : Type) (enc : TypeId × Value → H) :
    ReturnsInHanded {} Tryz.checked os 3 .any (fun w args => (Rows.senseReturnsSpec.pre enc Tryz.prog Tryz.f3 [] false w args ∧ laidMetH Tryz.prog Rows.senseReturnsRow.laid w) ∧ sizedMet enc Tryz.prog Tryz.f3 (OpenSpec.ofChange Rows.senseReturnsSpec) false w args)
      (Rows.senseReturnsSpec.post enc Tryz.prog Tryz.f3 false true false false) := by
  refine returnsInHanded_of_change_and (C := Tryz.checked) (X := fun w _ => laidMetH Tryz.prog Rows.senseReturnsRow.laid w) (fun _ _ _ hh h => by
      unfold laidMetH at h ⊢
      rw [laid_plain] at h ⊢
      exact laidMet.of_heap hh h) Tryz.own started (by kernel_rfl) Tryz.func3
    (ChangeSpec.witness_shaped (enc := enc) (C := Tryz.checked) (os := os) (X := fun w _ => laidMetH Tryz.prog Rows.senseReturnsRow.laid w) false (World.laidAll Tryz.prog os Rows.senseReturnsRow.laid) #[.int .i64 0, .int .i64 0] 8 (World.laidAll_os _ _ _)
      (World.shaped_of_ZipB (by kernel_rfl) (by kernel_rfl)) (by kernel_rfl) (by kernel_rfl) (by kernel_rfl) (by
        unfold laidMetH
        rw [laid_plain]
        exact laidMet_laidAll _ (by kernel_rfl) (by kernel_rfl))) ?_
  intro W base args ds gs before hval0 hW _ _ hL _
  have hval : ∀ (j : Nat) t v, Tryz.f3.params[j]? = some t → args[j]? = some v → Value.okWide Tryz.prog W .any base t v := hval0
  have hW' := hW
  obtain ⟨p, q, hA0, hV, rfl, hfz, hnd⟩ := hW
  have hA : DataW.TrodAll enc Tryz.prog W 0 (fun _ => true) true Tryz.f3.params.toList args.toList ds p := hA0
  rw [Tryz.params3] at hA hval
  obtain ⟨v0, v1, d0, d1, p0, p1, rfl, rfl, rfl, h0, h1⟩ := trodAll_two hA
  obtain ⟨rfl, rfl⟩ := trodVars_none hV
  obtain ⟨m, rfl, rfl, rfl, w0⟩ := open_int Tryz.underlying3 (hval 0 3 v0 rfl rfl) h0
  obtain ⟨n, rfl, rfl, rfl, w1⟩ := open_int Tryz.underlying3 (hval 1 3 v1 rfl rfl) h1
  clear hA0 hval0
  simp only [List.append_nil] at hW'
  refine (sen_calls m n (@tabs_ok (VS m n) W hL)).mono fun e W' ⟨he, hw⟩ => ?_
  subst he
  refine ⟨_, rfl, _, _, _, [], [], [], hW', ?_, ?_, ?_, hw.frame _, fun h => by cases h⟩
  · exact trodAll_mk1 (shut_bool Tryz.underlying4 true)
  · exact trodAll_mk2 (shut_int Tryz.underlying3 w0) (shut_int Tryz.underlying3 w1)
  · rfl

theorem senseReturns_row : Rows.SenseReturnsSaid :=
  OpenClaim.holds_of_wide 3 Tryz.f3 rfl rfl rfl rfl rfl rfl rfl ⟨rfl, rfl, rfl, rfl, rfl⟩ rfl rfl rfl rfl rfl (by kernel_rfl) Tryz.func3 senseReturns_closed
    (of_decide_eq_true (by kernel_rfl)) (by unfold Func.isWrapper; first | (rw [if_pos (by decide +kernel)]; kernel_rfl) | (rw [if_neg (by decide +kernel)]; exact ⟨rfl, rfl⟩))
    (fun os started H enc _ => senseReturns_lifted os started H enc)

theorem senseReturns_holds : Rows.SenseReturnsCardSaid :=
  Claim7.holds_tied_plain_at .later [] [.data, .listed, .pinned, .data, .pinned, .sentinel, .sentinel, .data, .data, .data] true (true, "86c10643bd1575a1aeb01be3f352c60881a517558f843d04849868417b5de58a") true
    senseReturns_row (fun _ h => by cases h) (by kernel_rfl) (fun _ h => by cases h) senseReturns_row_tie rfl ⟨rfl, rfl⟩ (by kernel_rfl) rfl
    (fun f fn hf hfn => by
      obtain rfl : f = 3 := Option.some.inj (senseReturns_card3.symm.trans hf) |>.symm
      obtain rfl : fn = Tryz.f3 := (Option.some.inj (Tryz.func3.symm.trans hfn)).symm
      exact ⟨senseReturns_card4, fun j t ht => by
        have h3 : Tryz.prog.wantsStandIn 3 = false := by kernel_rfl
        rw [Tryz.params3] at ht
        rcases j with _ | _ | j
        · simp at ht; subst ht; exact h3
        · simp at ht; subst ht; exact h3
        · simp at ht⟩)
    senseReturns_card5
end Go.Proofs.YtelhnjgcijjngaaGreatDoor
#print axioms Go.Proofs.YtelhnjgcijjngaaGreatDoor.senseReturns_holds
