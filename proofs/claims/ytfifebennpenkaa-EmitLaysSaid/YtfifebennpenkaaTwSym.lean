/-
  A part of the proof that the abstract evaluator is sound for the model's machine. Conditions: those of each theorem, as it states them.
-/
import Derived.Test.YtfifebennpenkaaTwMemo
namespace Go.Tw
open Go.ChangeShapes Go.RowKit

/-- A law of numbers, run with numbers that are not known. -/
theorem sym_calls [Val] {P : Program} {f : Nat} {m : Memo} {args' : Array Value} (hsound : m.Sound P 0 Cfg.none) (hmf : m.f = f) (hmv : m.v = .bool true) (W : World)
    (ha : VRL (fun _ _ => none) m.args args'.toList) : Calls P f args' W fun e W' => e = .returned (.bool true) ∧ Below W.heap.size W W' := by
  have hi : Inv 0 Cfg.none (fun _ => False) (fun _ _ => none) (St.empty 0) W :=
    { wf := ⟨fun _ _ _ _ _ _ h => (by cases h), fun _ _ _ h => (by cases h), fun _ _ _ h => (by cases h)⟩, low := Nat.le_refl _, rep := fun _ h => h.elim,
      gl := fun g n h => by simp [Cfg.none] at h, dom := fun i _ => by simp [St.empty, T.get_leaf], pin := fun e n h => by simp [Cfg.none] at h, dec := fun b v h => by simp [Cfg.none] at h,
      wrR := fun i h => (by cases h), ro := fun i h => absurd h (Nat.not_lt_zero _) }
  have hret : m.ret 0 (St.empty 0) = .ret (m.v.mv 0 0) { St.empty 0 with heap := putAll 0 0 m.objs (St.empty 0).heap, next := m.n + 0 } := rfl
  have hc := hsound.2 (St.empty 0) (fun _ => False) (fun _ _ => none) W args' hi ha _ _ hret (fun _ _ _ _ => rfl)
  rw [hmf] at hc
  refine hc.mono fun e W' he => ?_
  obtain ⟨φ', v', rfl, hvr, hpost⟩ := he
  have hv' : v' = .bool true := by rw [hmv] at hvr; cases hvr; rfl
  subst hv'
  exact ⟨rfl, hpost.below⟩
end Go.Tw
