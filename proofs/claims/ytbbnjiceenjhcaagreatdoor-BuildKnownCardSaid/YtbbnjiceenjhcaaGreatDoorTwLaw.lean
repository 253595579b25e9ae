/-
  A law of no input that the evaluator finds to be true is true in every world. Condition: the program draws the orders of its regions.
-/
import Derived.Test.YtbbnjiceenjhcaaGreatDoorTwSound4
import Derived.ProofKit
set_option linter.all false
namespace Go.Tw
open Go.ChangeShapes Go.RowKit

/-- It gives back true. -/
def retTrue : CR → Bool
  | .ret (.bool b) _ => b
  | _ => false
theorem retTrue_spec {r : CR} (h : retTrue r = true) : ∃ σ', r = .ret (.bool true) σ' := by
  cases r with
  | ret v σ' =>
    cases v with
    | bool b => simp only [retTrue] at h; subst h; exact ⟨σ', rfl⟩
    | _ => simp [retTrue] at h
  | _ => simp [retTrue] at h

/-- No number is left open. -/
abbrev noVal : Val := ⟨fun _ => 0⟩

theorem Post.below [Val] {D : Nat → Prop} {σ σ' : St} {w w' : World} {φ' : PM} {R : Nat} (h : Post R D (fun _ _ => none) σ w σ' φ' w') : Below w.heap.size w w' :=
  ⟨h.frm.os, h.frm.tape, h.frm.out, h.frm.size, fun k hk => h.frm.keep k hk fun _ _ _ _ he => (by cases he)⟩

/-- A law of no input that the evaluator finds to be true. -/
theorem closed_post {H : Type} {enc : TypeId × Value → H} {P : Program} {fn : Func} {s : ChangeSpec} {apart fresh handsOn : Bool} {t : TypeId} {n f : Nat}
    (hm : P.follows .mixedOrders = true) (ht : P.underlying t = some .bool) (hr : fn.resultTypes = #[t]) (hp : fn.params = #[]) (hv : s.vars = [])
    (hs : s.fn H [] = { results := [.lit (.bool true)], args := [] }) (h : retTrue (callN P Cfg.none n f [] (St.empty 0)) = true) (W : World) :
    Calls P f #[] W fun e W' => ∃ v, e = .returned v ∧ s.post enc P fn apart fresh handsOn false W #[] v W' := by
  letI : Val := noVal
  obtain ⟨σ', hc⟩ := retTrue_spec h
  refine (callN_run hm hc W).mono fun e W' he => ?_
  obtain ⟨φ', v', rfl, hvr, hpost⟩ := he
  have hv' : v' = .bool true := by cases hvr; rfl
  subst hv'
  refine ⟨_, rfl, [], [], [], [], [], [], ⟨[], [], ?_, ?_, rfl, ?_, ?_⟩, ?_, ?_, ?_, hpost.below.frame _, ?_⟩
  · simp [hp, DataW.TrodAll]
  · simp [hv, DataW.TrodVars]
  · intro b off hb; simp at hb
  · simp
  · rw [hr]
    show DataW.TrodAll enc P W' _ _ handsOn [t] [.bool true] (s.fn H ([] ++ [])).results []
    rw [List.append_nil, hs]
    exact trodAll_mk1 (shut_bool ht true)
  · rw [hp, List.append_nil, hs]
    exact rfl
  · rw [hv, List.append_nil, hs]
    exact rfl
  · intro hb; cases hb
end Go.Tw
