/-
  A part of the proof that the abstract evaluator is sound for the model's machine. Conditions: those of each theorem, as it states them.
-/
import Derived.Test.YtkddndlkblhldaaGreatTwDraw0
import Derived.Test.YtkddndlkblhldaaGreatTwExec
namespace Go.Tw

/-- One operation of a drawing region, as it was done in the order of the text. -/
structure Rec where
  o : Oper
  env : Env
  σ : St
  v : AV
  env' : Env
  σ' : St
  rd : List Nat
  wr : List Nat
  b : Bool

section
variable [Val]
variable {P : Program} {R : Nat} {C : Cfg}

/-- What is so of it. -/
def Rec.ok (P : Program) (C : Cfg) (call : Cle → List AV → St → CR) (nt : Nat) (ops : Array Oper) (r : Rec) : Prop :=
  wantedA C ops (r.env.only (tmpsOf ops r.o)) r.o = some r.b ∧ putA nt r.env r.o.dst r.v = some r.env' ∧
  (r.b = false → r.v = unit ∧ r.σ' = r.σ ∧ r.rd = [] ∧ r.wr = []) ∧
  (r.b = true → ∃ τ, (opA P C (r.env.only (tmpsOf ops r.o)) r.σ.bare r.o = .val r.v τ ∨
      ∃ f args τ₀, opA P C (r.env.only (tmpsOf ops r.o)) r.σ.bare r.o = .call f args τ₀ ∧ call f args τ₀ = .ret r.v τ ∧ StepA τ₀ τ) ∧
    StepA r.σ.bare τ ∧ r.σ' = τ.join r.σ ∧ r.rd = τ.rd ∧ r.wr = τ.wr)

/-- Records one after the other. -/
def Linked : List Rec → Env → St → Env → St → Prop
  | [], env, σ, env', σ' => env = env' ∧ σ = σ'
  | r :: rs, env, σ, env', σ' => r.env = env ∧ r.σ = σ ∧ Linked rs r.env' r.σ' env' σ'

omit [Val] in
theorem runDraw_recs {call : Cle → List AV → St → CR} (hcs : CallSteps call) {nt : Nat} {ops : Array Oper} :
    ∀ (l : List Oper) (i : Nat) (fs : List Foot) (env : Env) (σ : St) (fs' : List Foot) (env' : Env) (σ' : St),
      runDraw P C call nt ops l i fs env σ = some (fs', env', σ') →
      ∃ recs : List Rec, recs.map (·.o) = l ∧ Linked recs env σ env' σ' ∧ (∀ r ∈ recs, r.ok P C call nt ops) ∧ (∀ x ∈ fs, x ∈ fs') ∧
        (∀ j r, recs[j]? = some r → r.b = true → { i := i + j, rd := r.rd, wr := r.wr, lo := r.σ.next, hi := r.σ'.next } ∈ fs') := by
  intro l
  induction l with
  | nil =>
    intro i fs env σ fs' env' σ' h
    simp only [runDraw, Option.some.injEq, Prod.mk.injEq] at h
    obtain ⟨rfl, rfl, rfl⟩ := h
    exact ⟨[], rfl, ⟨rfl, rfl⟩, by simp, fun _ h => h, by simp⟩
  | cons o rest ih =>
    intro i fs env σ fs' env' σ' h
    unfold runDraw at h
    dsimp only at h
    split at h
    · cases h
    · rename_i hw
      split at h
      · rename_i env1 hp
        obtain ⟨recs, h1, h2, h3, h4, h5⟩ := ih _ _ _ _ _ _ _ h
        refine ⟨⟨o, env, σ, unit, env1, σ, [], [], false⟩ :: recs, by simp [h1], ⟨rfl, rfl, h2⟩, ?_, h4, ?_⟩
        · intro r hr
          rcases List.mem_cons.1 hr with rfl | hr
          · exact ⟨hw, hp, fun _ => ⟨rfl, rfl, rfl, rfl⟩, fun h => (by cases h)⟩
          · exact h3 r hr
        · intro j r hj hb
          cases j with
          | zero => simp at hj; subst hj; cases hb
          | succ j =>
            have := h5 j r (by simpa using hj) hb
            rwa [show i + 1 + j = i + (j + 1) by omega] at this
      · cases h
    · rename_i hw
      have hop := opA_steps (P := P) (C := C) (env := env.only (tmpsOf ops o)) (σ := σ.bare) (o := o)
      have hgo : ∀ (v : AV) (τ : St), (opA P C (env.only (tmpsOf ops o)) σ.bare o = .val v τ ∨
          ∃ f args τ₀, opA P C (env.only (tmpsOf ops o)) σ.bare o = .call f args τ₀ ∧ call f args τ₀ = .ret v τ ∧ StepA τ₀ τ) → StepA σ.bare τ →
          (match putA nt env o.dst v with
            | some env => runDraw P C call nt ops rest (i + 1) ({ i := i, rd := τ.rd, wr := τ.wr, lo := σ.next, hi := τ.next } :: fs) env (τ.join σ)
            | none => none) = some (fs', env', σ') →
          ∃ recs : List Rec, recs.map (·.o) = o :: rest ∧ Linked recs env σ env' σ' ∧ (∀ r ∈ recs, r.ok P C call nt ops) ∧ (∀ x ∈ fs, x ∈ fs') ∧
            (∀ j r, recs[j]? = some r → r.b = true → { i := i + j, rd := r.rd, wr := r.wr, lo := r.σ.next, hi := r.σ'.next } ∈ fs') := by
        intro v τ hr hs h
        split at h
        · rename_i env1 hp
          obtain ⟨recs, h1, h2, h3, h4, h5⟩ := ih _ _ _ _ _ _ _ h
          refine ⟨⟨o, env, σ, v, env1, τ.join σ, τ.rd, τ.wr, true⟩ :: recs, by simp [h1], ⟨rfl, rfl, h2⟩, ?_, fun x hx => h4 x (by simp [hx]), ?_⟩
          · intro r hr'
            rcases List.mem_cons.1 hr' with rfl | hr'
            · exact ⟨hw, hp, fun h => (by cases h), fun _ => ⟨τ, hr, hs, rfl, rfl, rfl⟩⟩
            · exact h3 r hr'
          · intro j r hj hb
            cases j with
            | zero => simp at hj; subst hj; exact h4 _ (by simp [St.join])
            | succ j =>
              have := h5 j r (by simpa using hj) hb
              rwa [show i + 1 + j = i + (j + 1) by omega] at this
        · cases h
      split at h
      · rename_i v τ hr
        exact hgo v τ (.inl hr) (hop τ (by rw [hr]; rfl)) h
      · cases h
      · cases h
      · cases h
      · rename_i f args τ₀ hr
        split at h
        · rename_i v τ hcall
          have hs2 : StepA τ₀ τ := hcs f args τ₀ τ (by rw [hcall]; rfl)
          exact hgo v τ (.inr ⟨f, args, τ₀, hr, hcall, hs2⟩) ((hop τ₀ (by rw [hr]; rfl)).trans hs2) h
        · cases h
      · cases h

/-- The state and the temporaries ahead of the operation k; behind all of them at the end. -/
def preS (recs : List Rec) (σ' : St) (k : Nat) : St := match recs[k]? with
  | some r => r.σ
  | none => σ'
def preE (recs : List Rec) (env' : Env) (k : Nat) : Env := match recs[k]? with
  | some r => r.env
  | none => env'

omit [Val] in
theorem Linked.post {recs : List Rec} {env env' : Env} {σ σ' : St} (h : Linked recs env σ env' σ') {k : Nat} {r : Rec} (hr : recs[k]? = some r) :
    preS recs σ' (k + 1) = r.σ' ∧ preE recs env' (k + 1) = r.env' := by
  induction recs generalizing env σ k with
  | nil => simp at hr
  | cons x xs ih =>
    obtain ⟨h1, h2, h3⟩ := h
    cases k with
    | zero =>
      simp at hr; subst hr
      cases xs with
      | nil => obtain ⟨h4, h5⟩ := h3; exact ⟨by simp [preS, h5], by simp [preE, h4]⟩
      | cons y ys => obtain ⟨h4, h5, _⟩ := h3; exact ⟨by simp [preS, h5], by simp [preE, h4]⟩
    | succ k =>
      have := ih h3 (by simpa using hr)
      simpa [preS, preE] using this
omit [Val] in
theorem Linked.pre {recs : List Rec} {env env' : Env} {σ σ' : St} (h : Linked recs env σ env' σ') : preS recs σ' 0 = σ ∧ preE recs env' 0 = env := by
  cases recs with
  | nil => exact ⟨h.2.symm, h.1.symm⟩
  | cons x xs => exact ⟨h.2.1, h.1⟩
omit [Val] in
theorem preS_at {recs : List Rec} {σ' : St} {k : Nat} {r : Rec} (hr : recs[k]? = some r) : preS recs σ' k = r.σ := by simp [preS, hr]
omit [Val] in
theorem preE_at {recs : List Rec} {env' : Env} {k : Nat} {r : Rec} (hr : recs[k]? = some r) : preE recs env' k = r.env := by simp [preE, hr]

/-- Does an operation write an object, or make it? -/
def Rec.touch (r : Rec) (id : Nat) : Prop := id ∈ r.wr ∨ (r.σ.next ≤ id ∧ id < r.σ'.next)

omit [Val] in
theorem Rec.ok.step {call : Cle → List AV → St → CR} {nt : Nat} {ops : Array Oper} {r : Rec} (h : r.ok P C call nt ops) :
    StepA r.σ r.σ' ∧ (∀ id, id < r.σ.next → id ∉ r.wr → r.σ'.heap.get id = r.σ.heap.get id) ∧ (∀ i ∈ r.rd, i ∈ r.σ'.rd) ∧ (∀ i ∈ r.wr, i ∈ r.σ'.wr) := by
  obtain ⟨_, _, h3, h4⟩ := h
  cases hb : r.b with
  | false =>
    obtain ⟨_, e1, e2, e3⟩ := h3 hb
    rw [e1, e2, e3]
    exact ⟨.refl _, fun _ _ _ => rfl, by simp, by simp⟩
  | true =>
    obtain ⟨τ, _, hs, e1, e2, e3⟩ := h4 hb
    rw [e1, e2, e3]
    exact ⟨hs.join, fun id hid hw => hs.keep id hid hw, fun i hi => List.mem_append.2 (.inl hi), fun i hi => List.mem_append.2 (.inl hi)⟩

omit [Val] in
/-- From one operation to a later one. -/
theorem pre_mono {call : Cle → List AV → St → CR} {nt : Nat} {ops : Array Oper} {recs : List Rec} {env env' : Env} {σ σ' : St} (hl : Linked recs env σ env' σ')
    (hok : ∀ r ∈ recs, r.ok P C call nt ops) {i k : Nat} (hik : i ≤ k) (hk : k ≤ recs.length) :
    StepA (preS recs σ' i) (preS recs σ' k) ∧
    (∀ id, id < (preS recs σ' i).next → (∀ j r, i ≤ j → j < k → recs[j]? = some r → ¬ r.touch id) → (preS recs σ' k).heap.get id = (preS recs σ' i).heap.get id) ∧
    (∀ t, (∀ j r, i ≤ j → j < k → recs[j]? = some r → r.o.dst ≠ some t) → (preE recs env' k).tm.get t = (preE recs env' i).tm.get t) := by
  induction k with
  | zero =>
    have : i = 0 := by omega
    subst this
    exact ⟨.refl _, fun _ _ _ => rfl, fun _ _ => rfl⟩
  | succ k ih =>
    by_cases e : i = k + 1
    · subst e; exact ⟨.refl _, fun _ _ _ => rfl, fun _ _ => rfl⟩
    · obtain ⟨h1, h2, h3⟩ := ih (by omega) (by omega)
      have hlt : k < recs.length := by omega
      have hr : recs[k]? = some recs[k] := List.getElem?_eq_getElem hlt
      have hrk := hok _ (List.getElem_mem hlt)
      obtain ⟨s1, s2, _, _⟩ := hrk.step
      obtain ⟨p1, p2⟩ := hl.post hr
      rw [preS_at hr] at h1 h2
      rw [preE_at hr] at h3
      rw [p1, p2]
      refine ⟨h1.trans s1, fun id hid hno => ?_, fun t hno => ?_⟩
      · rw [s2 id (Nat.lt_of_lt_of_le hid h1.next) (fun hw => hno k _ (by omega) (by omega) hr (.inl hw))]
        exact h2 id hid fun j r a b c => hno j r a (by omega) c
      · have hput := hrk.2.1
        have hne := hno k _ (by omega) (by omega) hr
        rw [← h3 t fun j r a b c => hno j r a (by omega) c]
        unfold putA at hput
        split at hput
        · simp only [Option.some.injEq] at hput; rw [← hput]
        · rename_i d hd
          simp only [cond_eq_ite] at hput
          split at hput
          · simp only [Option.some.injEq] at hput
            rw [← hput]
            exact T.get_set_ne _ _ fun h => hne (by rw [hd, h])
          · cases hput
end
end Go.Tw
