/-
  A part of the proof that the abstract evaluator is sound for the model's machine. Conditions: those of each theorem, as it states them.
-/
import Derived.Test.YtbkokbjpbbpllaaGreatTwMemo
namespace Go.Tw
open Go.ChangeShapes Go.RowKit
/-! Code that leaves the world as it was, but for what is new: run piece by piece, with loops by induction. What is not known may be told anew (another Val) from round to round. -/
abbrev noPM : PM := fun _ _ => none
structure PEnv (v : Val) (nt : Nat) (tm : T AV) (a : Act) : Prop where
  size : a.tmps.size = nt
  val : ∀ t x, tm.get t = some x → ∃ x', a.tmps[t]? = some x' ∧ @VR v noPM x x'
  dfs : a.defers = []
def ExitP : AExit → Exit → Prop
  | .normal, .normal => True
  | .exit i, .exit j => i = j
  | .goto i, .goto j => i = j
  | .ret, .ret => True
  | _, _ => False
theorem ExitP.of {v : Val} {φ : PM} {e : AExit} {e' : Exit} (h : @ExitR v φ e e') (hn : ∀ c, e ≠ .panic c) : ExitP e e' := by
  cases e <;> cases e' <;> first | exact h | exact absurd rfl (hn _)
def PureTo (v : Val) (P : Program) (nt : Nat) (c : Code) (tm : T AV) (e : AExit) (tm' : T AV) : Prop :=
  ∀ (a : Act) (cs : List Frame) (w : World), PEnv v nt tm a →
    Runs P none false c (fun e' a' cs' w' => cs' = cs ∧ ExitP e e' ∧ PEnv v nt tm' a' ∧ Frm noPM [] w w') a cs w
def Sub (v : Val) (tm : T AV) (v' : Val) (tm' : T AV) : Prop :=
  ∀ t x, tm'.get t = some x → ∃ y, tm.get t = some y ∧ ∀ φ z, @VR v φ y z → @VR v' noPM x z
noncomputable def envL : List (Nat × AV) → T AV
  | [] => .leaf
  | (t, x) :: l => (envL l).set t x
theorem envL_get : ∀ {l : List (Nat × AV)} {t : Nat} {x : AV}, (envL l).get t = some x → (t, x) ∈ l := by
  intro l
  induction l with
  | nil => intro t x h; simp [envL, T.get_leaf] at h
  | cons p l ih =>
    intro t x h
    obtain ⟨q, y⟩ := p
    simp only [envL] at h
    rw [T.get_set] at h
    split at h
    · rename_i e
      simp only [Option.some.injEq] at h
      subst e; subst h
      simp
    · exact List.mem_cons_of_mem _ (ih h)
noncomputable def subB (tm : T AV) : List (Nat × AV) → Bool
  | [] => true
  | (t, x) :: l => (match tm.get t with
    | some y => y.same x && x.pure
    | none => false) && subB tm l
section
variable {v : Val} {P : Program} {nt : Nat}
end
def exitB : AExit → AExit → Bool
  | .normal, .normal => true
  | .exit i, .exit j => Nat.beq i j
  | .goto i, .goto j => Nat.beq i j
  | .ret, .ret => true
  | _, _ => false
theorem exitB_eq {e e' : AExit} (h : exitB e e' = true) : e = e' ∧ ∀ c, e ≠ .panic c := by
  cases e <;> cases e' <;> simp only [exitB, Bool.false_eq_true] at h <;> first | exact ⟨rfl, fun _ h => by cases h⟩ | exact ⟨by rw [beq_t h], fun _ h => by cases h⟩
noncomputable def runB (x : XR) (e : AExit) (l : List (Nat × AV)) : Bool := match x with
  | .ok e' env _ => exitB e e' && (match env.ds with
    | [] => true
    | _ => false) && (match env.md with
    | none => true
    | _ => false) && subB env.tm l
  | _ => false
end Go.Tw
