/-
  A part of the proof that the abstract evaluator is sound for the model's machine. Conditions: those of each theorem, as it states them.
-/
import Derived.Test.YtbbnjiceenjhcaaGreatDoorTwHeap2
set_option linter.all false
namespace Go.Tw
open Go.ChangeShapes Go.RowKit
noncomputable section
/-! Known calls that are told places, found by a number that stands in the first argument's object. -/
def nthC : List AV → Nat → Option AV
  | [], _ => none
  | x :: l, n => bif Nat.beq n 0 then some x else nthC l (Nat.pred n)
def keyOf (cell : Nat) (args : List AV) (σ : St) : Option Nat := match args with
  | .ptr id _ _ _ :: _ => match σ.heap.get id with
    | some (.box c _) => match nthC c cell with
      | some (.int _ (.ofNat n)) => some n
      | _ => none
    | _ => none
  | _ => none
def keyT : List (Nat × HMemo) → T HMemo
  | [] => .leaf
  | (n, m) :: l => (keyT l).set n m
def keyHk (R cell : Nat) (t : T HMemo) (rest : FuncId → List AV → St → CR) (f : FuncId) (args : List AV) (σ : St) : CR :=
  match keyOf cell args σ with
  | some n => match t.get n with
    | some m => bif Nat.beq m.f f then (match m.ret R args σ with
      | .no => rest f args σ
      | r => r) else rest f args σ
    | none => rest f args σ
  | none => rest f args σ
theorem keyT_mem {l : List (Nat × HMemo)} : ∀ {n : Nat} {m : HMemo}, (keyT l).get n = some m → ∃ q ∈ l, q.2 = m := by
  induction l with
  | nil => intro n m h; simp [keyT, T.get_leaf] at h
  | cons q l ih =>
    intro n m h
    obtain ⟨k, x⟩ := q
    simp only [keyT] at h
    by_cases e : n = k
    · subst e
      rw [T.get_set_same] at h
      simp only [Option.some.injEq] at h
      exact ⟨(n, x), by simp, h⟩
    · rw [T.get_set_ne _ _ e] at h
      obtain ⟨q, h1, h2⟩ := ih h
      exact ⟨q, List.mem_cons_of_mem _ h1, h2⟩
theorem keyHk_eq {R cell : Nat} {l : List (Nat × HMemo)} {rest : FuncId → List AV → St → CR} (f : FuncId) (args : List AV) (σ : St) : keyHk R cell (keyT l) rest f args σ = rest f args σ ∨ ∃ q ∈ l, q.2.f = f ∧ q.2.ret R args σ = keyHk R cell (keyT l) rest f args σ ∧ q.2.ret R args σ ≠ .no := by
  unfold keyHk
  split
  · split
    · rename_i m hm
      rw [cond_eq_ite]
      split
      · rename_i hf
        obtain ⟨q, h1, h2⟩ := keyT_mem hm
        split
        · exact .inl rfl
        · rename_i r hr
          refine .inr ⟨q, h1, by rw [h2]; exact beq_t hf, by rw [h2], by rw [h2]; exact hr⟩
      · exact .inl rfl
    · exact .inl rfl
  · exact .inl rfl
section
variable [Val] {P : Program} {R : Nat}
theorem key_good {C : Cfg} {rest : FuncId → List AV → St → CR} (hr : HkGood P R C rest) {l : List (Nat × HMemo)} (hl : ∀ q ∈ l, q.2.Sound P R C) {cell : Nat} : HkGood P R C (keyHk R cell (keyT l) rest) := by
  refine ⟨fun f args σ => ?_, fun f args σ D φ w args' hi ha => ⟨fun v σ' h hk hf => ?_, fun c σ' h hk hf => ?_⟩⟩
  · show (keyHk R cell (keyT l) rest f args σ).steps σ
    rcases keyHk_eq (R := R) (cell := cell) (l := l) (rest := rest) f args σ with h | ⟨q, h1, h2, h3, h4⟩
    · rw [h]; exact hr.1 f args σ
    · rw [← h3]
      intro σ' hσ
      exact HMemo.ret_step (hl q h1).1 args σ σ' hσ
  · have h : keyHk R cell (keyT l) rest f args σ = .ret v σ' := h
    rcases keyHk_eq (R := R) (cell := cell) (l := l) (rest := rest) f args σ with h0 | ⟨q, h1, h2, h3, h4⟩
    · rw [h0] at h
      exact (hr.2 f args σ D φ w args' { hi with } ha).1 v σ' h hk hf
    · rw [← h3] at h
      rw [← h2]
      exact (hl q h1).2 σ D φ w args args' hi.hk ha v σ' h hk hf
  · have h : keyHk R cell (keyT l) rest f args σ = .pan c σ' := h
    rcases keyHk_eq (R := R) (cell := cell) (l := l) (rest := rest) f args σ with h0 | ⟨q, h1, h2, h3, h4⟩
    · rw [h0] at h
      exact (hr.2 f args σ D φ w args' { hi with } ha).2 c σ' h hk hf
    · rw [← h3] at h
      obtain ⟨_, _, _, _, _, h⟩ := HMemo.ret_eq h (by simp); cases h
theorem memo_key {l : Tabs} {ms : List Memo} {hs : List HMemo} (hms : ∀ m ∈ ms, m.Sound P R (tabCfg l)) (hhs : ∀ m ∈ hs, m.Sound P R (tabCfg l)) {ks : List (Nat × HMemo)} (hks : ∀ q ∈ ks, q.2.Sound P R (tabCfg l)) (hm : P.follows .mixedOrders = true) (hlt : tabLt R l = true) {n cell : Nat} {m : Memo}
    (hok : m.ok P { tabCfg l with hk := keyHk R cell (keyT ks) (bothHk R (tabM ms) (tabH hs)) } n R (tabSt R l) = true) : m.Sound P R (tabCfg l) :=
  memo_soundG (key_good (both_good hms hhs) hks) hm rfl rfl rfl (tab_base hlt).1 (tab_base hlt).2.1 (tab_base hlt).2.2 hok
theorem ksound_nil {C : Cfg} : ∀ q ∈ ([] : List (Nat × HMemo)), q.2.Sound P R C := fun _ h => by cases h
theorem ksound_cons {C : Cfg} {n : Nat} {m : HMemo} {ms : List (Nat × HMemo)} (h : m.Sound P R C) (k : ∀ q ∈ ms, q.2.Sound P R C) : ∀ x ∈ (n, m) :: ms, x.2.Sound P R C := fun x hx => by
  rcases List.mem_cons.1 hx with rfl | hx
  · exact h
  · exact k x hx
end
end
end Go.Tw
