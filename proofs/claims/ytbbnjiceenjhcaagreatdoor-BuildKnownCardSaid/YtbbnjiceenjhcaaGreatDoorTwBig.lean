/-
  A part of the proof that the abstract evaluator is sound for the model's machine. Conditions: those of each theorem, as it states them.
-/
import Derived.Test.YtbbnjiceenjhcaaGreatDoorTwHeap4
import GoSem.ClaimFn
set_option linter.all false
namespace Go.Tw
noncomputable section
/-! Closed facts of great programs: what looks at functions by their numbers, told by tables that are made in one pass. -/
def findP {α : Type} (p : α → Bool) : List α → Nat → List Nat
  | [], _ => []
  | x :: l, i => bif p x then i :: findP p l (Nat.succ i) else findP p l (Nat.succ i)
theorem findP_eq {α : Type} (p : α → Bool) : ∀ (l : List α) (k : Nat), ((List.range' k l.length).filter fun i => (l[i - k]?).any p) = findP p l k
  | [], _ => rfl
  | x :: l, k => by
    have h0 : ((x :: l)[k - k]?).any p = p x := by rw [Nat.sub_self]; rfl
    have h1 : (List.range' (k + 1) l.length).filter (fun i => ((x :: l)[i - k]?).any p) = (List.range' (k + 1) l.length).filter (fun i => (l[i - (k + 1)]?).any p) := by
      apply List.filter_congr
      intro i hi
      have hi := (List.mem_range'_1.1 hi).1
      have e : i - k = (i - (k + 1)) + 1 := by omega
      rw [e, List.getElem?_cons_succ]
    rw [List.length_cons, List.range'_succ, List.filter_cons, h0, h1, findP_eq p l (k + 1)]
    cases h : p x <;> simp [findP, h]
theorem funcNamed_lin (P : Program) (name : String) : P.funcNamed name = match findP (fun f : Func => f.name == name) P.funcs.toList 0 with
    | [i] => some i
    | _ => none := by
  have h := findP_eq (fun f : Func => f.name == name) P.funcs.toList 0
  unfold Program.funcNamed
  have e : ((List.range P.funcs.size).filter fun i => (P.funcs[i]?).any (·.name == name)) = findP (fun f : Func => f.name == name) P.funcs.toList 0 := by
    rw [← h, List.range_eq_range', Array.length_toList]
    apply List.filter_congr
    intro i _
    rw [Nat.sub_zero, Array.getElem?_toList]
  rw [e]
  rfl
/-- A list as a tree. -/
def ofL {α : Type} : List α → Nat → T α → T α
  | [], _, t => t
  | x :: l, i, t => ofL l (Nat.succ i) (t.set i x)
theorem ofL_lt {α : Type} : ∀ (l : List α) (k : Nat) (t : T α) (i : Nat), i < k → (ofL l k t).get i = t.get i
  | [], _, _, _, _ => rfl
  | x :: l, k, t, i, h => by
    rw [ofL, ofL_lt l (k + 1) _ i (by omega), T.get_set_ne _ _ (by omega)]
theorem ofL_get {α : Type} : ∀ (l : List α) (k : Nat) (t : T α) (i : Nat), (∀ j, k ≤ j → t.get j = none) → (ofL l k t).get (k + i) = l[i]?
  | [], k, t, i, h => by rw [ofL, h _ (by omega)]; rfl
  | x :: l, k, t, 0, h => by
    rw [ofL, Nat.add_zero, ofL_lt l (k + 1) _ k (by omega), T.get_set_same]; rfl
  | x :: l, k, t, i + 1, h => by
    rw [ofL, show k + (i + 1) = (k + 1) + i by omega, ofL_get l (k + 1) _ i fun j hj => by rw [T.get_set_ne _ _ (by omega)]; exact h j (by omega), List.getElem?_cons_succ]
def tabL {α : Type} (l : List α) : T α := ofL l 0 .leaf
theorem tabL_get {α : Type} (l : List α) (i : Nat) : (tabL l).get i = l[i]? := by
  have := ofL_get l 0 .leaf i fun j _ => T.get_leaf j
  rw [Nat.zero_add] at this
  exact this
def getE (E : T (List Nat)) (f : Nat) : List Nat := match E.get f with
  | some l => l
  | none => []
def cloT (E : T (List Nat)) : Nat → List Nat → List Nat → T Unit → List Nat
  | 0, _, seen, _ => seen.reverse
  | _ + 1, [], seen, _ => seen.reverse
  | n + 1, f :: todo, seen, S => match S.get f with
    | some _ => cloT E n todo seen S
    | none => cloT E n (getE E f ++ todo) (f :: seen) (S.set f ())
theorem via_eq {P : Program} {E : T (List Nat)} (hE : ∀ f, (P.funcs[f]?).elim [] P.leadsTo = getE E f) : ∀ (n : Nat) (todo seen : List Nat) (S : T Unit), (∀ x, seen.contains x = (S.get x).isSome) → P.closureVia n todo seen = cloT E n todo seen S
  | 0, _, _, _, _ => rfl
  | n + 1, [], _, _, _ => rfl
  | n + 1, f :: todo, seen, S, h => by
    simp only [Program.closureVia, cloT, hE]
    have h1 := h f
    cases hs : S.get f with
    | some u =>
      rw [hs] at h1
      rw [h1]
      exact via_eq hE n todo seen S h
    | none =>
      rw [hs] at h1
      rw [h1]
      refine via_eq hE n _ (f :: seen) (S.set f ()) fun x => ?_
      rw [List.contains_cons]
      by_cases hx : x = f
      · subst hx
        rw [T.get_set_same]; simp
      · rw [T.get_set_ne _ _ hx, h x]
        simp [hx]
def sumE : List (List Nat) → Nat
  | [] => 0
  | l :: r => Nat.add (Nat.succ l.length) (sumE r)
theorem sumE_eq {P : Program} : ∀ l : List Func, (l.map fun g => (P.leadsTo g).length + 1).sum = sumE (l.map P.leadsTo)
  | [] => rfl
  | g :: l => by
    show (P.leadsTo g).length + 1 + (l.map fun g => (P.leadsTo g).length + 1).sum = _
    rw [sumE_eq l]; rfl
theorem closure_tab {P : Program} {E : List (List Nat)} (hE : P.funcs.toList.map P.leadsTo = E) {f : Nat} {L : List Nat} (h : cloT (tabL E) (1 + sumE E) [f] [] .leaf = L) : P.closure f = L := by
  unfold Program.closure
  rw [sumE_eq, hE, via_eq (E := tabL E) (fun g => ?_) _ _ _ .leaf (fun x => by rw [T.get_leaf]; rfl)]
  · exact h
  · unfold getE
    rw [tabL_get, ← hE, List.getElem?_map, Array.getElem?_toList]
    cases P.funcs[g]? <;> rfl
/-- What is found of the functions of a list, by a table. -/
def gatherT {β : Type} (H : T (Option β)) : List Nat → List β
  | [] => []
  | g :: l => match H.get g with
    | some (some x) => x :: gatherT H l
    | _ => gatherT H l
theorem gather_tab {P : Program} {β : Type} {h : Func → Option β} {H : List (Option β)} (hH : P.funcs.toList.map h = H) : ∀ L : List Nat, (L.filterMap fun g => (P.funcs[g]?).bind h) = gatherT (tabL H) L
  | [] => rfl
  | g :: L => by
    rw [List.filterMap_cons, gatherT, tabL_get, ← hH, List.getElem?_map, Array.getElem?_toList, gather_tab hH L, hH]
    cases P.funcs[g]? with
    | none => rfl
    | some fn =>
      simp only [Option.bind_some, Option.map_some]
      cases h fn <;> rfl
def flatT (H : T (List Nat)) : List Nat → List Nat
  | [] => []
  | g :: l => getE H g ++ flatT H l
theorem flat_tab {P : Program} {h : Func → List Nat} {H : List (List Nat)} (hH : P.funcs.toList.map h = H) : ∀ L : List Nat, (L.flatMap fun g => (P.funcs[g]?).elim [] h) = flatT (tabL H) L
  | [] => rfl
  | g :: L => by
    rw [List.flatMap_cons, flatT, getE, tabL_get, ← hH, List.getElem?_map, Array.getElem?_toList, flat_tab hH L, hH]
    cases P.funcs[g]? <;> rfl
/-- The list of the functions, in parts. -/
theorem map_split {α β : Type} {f : α → β} {l : List α} {k : Nat} {a c : List β} (h1 : (l.take k).map f = a) (h2 : (l.drop k).map f = c) : l.map f = a ++ c := by
  rw [← h1, ← h2, ← List.map_append, List.take_append_drop]
end
end Go.Tw
