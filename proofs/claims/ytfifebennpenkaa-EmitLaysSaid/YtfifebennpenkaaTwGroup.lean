/-
  A part of the proof that the abstract evaluator is sound for the model's machine. Conditions: those of each theorem, as it states them.
-/
import Derived.Test.YtfifebennpenkaaTwPath
namespace Go.Tw
open Go.ChangeShapes Go.RowKit

/-! Laws of numbers in groups: what is called with the numbers of one group is known along each of that group's paths. -/
abbrev Entry := Dcs × List Memo
noncomputable def entryOk (P : Program) (ks : List Memo) (n : Nat) (e : Entry) : Bool := e.2.all fun m => m.ok P { pathCfg e.1 with hk := memoHk 0 (tabM ks) } n 0 (St.empty 0)
noncomputable def lawOk (P : Program) (n f : Nat) (args : List AV) (q : Dcs) (ms : List Memo) : Bool :=
  match callN P { pathCfg q with hk := memoHk 0 (tabM ms) } n f args (St.empty 0) with
  | .ret v _ => match v with
    | .bool true => true
    | _ => false
  | _ => false
noncomputable def crossOk (P : Program) (ks : List Memo) (n f : Nat) (args : List AV) (E : List Entry) (e : Entry) : Bool := E.all fun d => lawOk P n f args (e.1 ++ d.1) (e.2 ++ (d.2 ++ ks))

section
variable [Val] {P : Program}

theorem inv_path {p q : Dcs} (hp : Holds p) {D : Nat → Prop} {φ : PM} {σ : St} {w : World} (h : Inv 0 (pathCfg q) D φ σ w) : Inv 0 (pathCfg p) D φ σ w :=
  { wf := h.wf, low := h.low, rep := h.rep, gl := h.gl, dom := h.dom, pin := h.pin, dec := fun _ _ hd => decP_ok hp hd, wrR := h.wrR, ro := h.ro }
theorem sound_drop {p : Dcs} (q : Dcs) (hp : Holds p) {m : Memo} (h : m.Sound P 0 (pathCfg p)) : m.Sound P 0 (pathCfg q) :=
  ⟨h.1, fun σ D φ w args' hi ha v σ' hr hf => (h.2 σ D φ w args' (inv_path hp hi) ha v σ' hr hf).mono fun _ _ he => by
    obtain ⟨φ', v', he, hv, hpo⟩ := he
    exact ⟨φ', v', he, hv, hpo⟩⟩
theorem entry_sound {ks : List Memo} (hks : ∀ m ∈ ks, m.Sound P 0 Cfg.none) (hm : P.follows .mixedOrders = true) {n : Nat} {e : Entry} (h : entryOk P ks n e = true) (hp : Holds e.1) (q : Dcs) :
    ∀ m ∈ e.2, m.Sound P 0 (pathCfg q) := fun m hme =>
  sound_drop q hp (memo_path (sounds_path hks) hm (List.all_eq_true.1 h m hme))
theorem law_calls {q : Dcs} (hq : Holds q) {ms : List Memo} (hms : ∀ m ∈ ms, m.Sound P 0 (pathCfg q)) (hm : P.follows .mixedOrders = true) {n f : Nat} {args : List AV} (h : lawOk P n f args q ms = true) (hpure : pureL args = true)
    {args' : Array Value} (W : World) (ha : VRL (fun _ _ => none) args args'.toList) : Calls P f args' W fun e W' => e = .returned (.bool true) ∧ Below W.heap.size W W' := by
  unfold lawOk at h
  split at h
  · rename_i v τ hc
    split at h
    · have hok : (⟨f, args, .bool true, [], τ.next⟩ : Memo).ok P { pathCfg q with hk := memoHk 0 (tabM ms) } n 0 (St.empty 0) = true := by
        unfold Memo.ok
        rw [hc]
        simp [AV.same, boolB, hpure]
      exact path_calls (memo_path hms hm hok) hq rfl rfl W ha
    · cases h
  · cases h
theorem Holds.append {p q : Dcs} (hp : Holds p) (hq : Holds q) : Holds (p ++ q) := fun c hc => (List.mem_append.1 hc).elim (hp c) (hq c)
theorem cross_calls {ks : List Memo} (hks : ∀ m ∈ ks, m.Sound P 0 Cfg.none) (hm : P.follows .mixedOrders = true) {n f : Nat} {args : List AV} {E : List Entry} {e d : Entry} (hd : d ∈ E)
    (h1 : entryOk P ks n e = true) (h2 : entryOk P ks n d = true) (hc : crossOk P ks n f args E e = true) (p1 : Holds e.1) (p2 : Holds d.1) (hpure : pureL args = true)
    {args' : Array Value} (W : World) (ha : VRL (fun _ _ => none) args args'.toList) : Calls P f args' W fun e W' => e = .returned (.bool true) ∧ Below W.heap.size W W' := by
  refine law_calls (p1.append p2) (ms := e.2 ++ (d.2 ++ ks)) ?_ hm (List.all_eq_true.1 hc d hd) hpure W ha
  intro m hmm
  rcases List.mem_append.1 hmm with h | h
  · exact entry_sound hks hm h1 p1 _ m h
  · rcases List.mem_append.1 h with h | h
    · exact entry_sound hks hm h2 p2 _ m h
    · exact sound_path (hks m h)
end
end Go.Tw
