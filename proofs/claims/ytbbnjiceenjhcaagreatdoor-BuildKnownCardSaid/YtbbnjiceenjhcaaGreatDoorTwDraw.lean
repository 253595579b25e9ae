/-
  A part of the proof that the abstract evaluator is sound for the model's machine. Conditions: those of each theorem, as it states them.
-/
import Derived.Test.YtbbnjiceenjhcaaGreatDoorTwDraw0
import Derived.Test.YtbbnjiceenjhcaaGreatDoorTwExec
set_option linter.all false
namespace Go.Tw

/-- One operation of a drawing region, as it was done in the order of the text. -/
structure Rec where
  o : Oper
  env : Env
  σ : St
  v : AV
  env' : Env
  σ' : St
  rd : List Nat
  wr : List Nat
  b : Bool

section
variable [Val]
variable {P : Program} {R : Nat} {C : Cfg}

/-- What is so of it. -/
def Rec.ok (P : Program) (C : Cfg) (call : Cle → List AV → St → CR) (nt : Nat) (ops : Array Oper) (r : Rec) : Prop :=
  wantedA C ops (r.env.only (tmpsOf ops r.o)) r.o = some r.b ∧ putA nt r.env r.o.dst r.v = some r.env' ∧
  (r.b = false → r.v = unit ∧ r.σ' = r.σ ∧ r.rd = [] ∧ r.wr = []) ∧
  (r.b = true → ∃ τ, (opA P C (r.env.only (tmpsOf ops r.o)) r.σ.bare r.o = .val r.v τ ∨
      ∃ f args τ₀, opA P C (r.env.only (tmpsOf ops r.o)) r.σ.bare r.o = .call f args τ₀ ∧ call f args τ₀ = .ret r.v τ ∧ StepA τ₀ τ) ∧
    StepA r.σ.bare τ ∧ r.σ' = τ.join r.σ ∧ r.rd = τ.rd ∧ r.wr = τ.wr)

/-- It is not done: what comes before it has panicked. -/
def Rec.idle (r : Rec) : Prop := r.b = false ∧ r.env' = r.env ∧ r.σ' = r.σ ∧ r.rd = [] ∧ r.wr = []

/-- It panics. -/
def Rec.pans (P : Program) (C : Cfg) (call : Cle → List AV → St → CR) (ops : Array Oper) (chain : List (AV × Bool)) (r : Rec) : Prop :=
  r.b = true ∧ r.env' = r.env ∧ wantedA C ops (r.env.only (tmpsOf ops r.o)) r.o = some true ∧
  ∃ f args τ₀ τ, opA P C (r.env.only (tmpsOf ops r.o)) r.σ.bare r.o = .call f args τ₀ ∧ call f args τ₀ = .pan chain τ ∧ StepA τ₀ τ ∧ StepA r.σ.bare τ ∧
    r.σ' = τ.join r.σ ∧ r.rd = τ.rd ∧ r.wr = τ.wr

/-- One of these. -/
def Rec.fine (P : Program) (C : Cfg) (call : Cle → List AV → St → CR) (nt : Nat) (ops : Array Oper) (r : Rec) : Prop :=
  r.ok P C call nt ops ∨ r.idle ∨ ∃ chain, r.pans P C call ops chain

/-- Its footprint. -/
noncomputable def Rec.foot (ops : Array Oper) (i : Nat) (r : Rec) : Foot :=
  { i := i, rd := r.rd, wr := r.wr, lo := r.σ.next, hi := r.σ'.next, o := r.o, env := r.env.only (tmpsOf ops r.o), v := r.v, pre := r.σ, post := r.σ' }

/-- Records one after the other. -/
def Linked : List Rec → Env → St → Env → St → Prop
  | [], env, σ, env', σ' => env = env' ∧ σ = σ'
  | r :: rs, env, σ, env', σ' => r.env = env ∧ r.σ = σ ∧ Linked rs r.env' r.σ' env' σ'

omit [Val] in
theorem restDraw_recs {call : Cle → List AV → St → CR} {bef : Array Nat} {ip : Nat} {chain : List (AV × Bool)} {nt : Nat} {ops : Array Oper} :
    ∀ (l : List Oper) (i : Nat) (fs : List Foot) (env : Env) (σ : St) (ip' : Nat) (chain' : List (AV × Bool)) (fs' : List Foot) (env' : Env) (σ' : St),
      restDraw P C bef ip chain nt ops l i fs env σ = .pan ip' chain' fs' env' σ' →
      ip' = ip ∧ chain' = chain ∧ ∃ recs : List Rec, recs.map (·.o) = l ∧ Linked recs env σ env' σ' ∧
        (∀ (j : Nat) (r : Rec), recs[j]? = some r → r.ok P C call nt ops ∨ (r.idle ∧ (bef.getD (i + j) 0).testBit ip = true)) ∧ (∀ x ∈ fs, x ∈ fs') ∧
        (∀ (j : Nat) (r : Rec), recs[j]? = some r → r.b = true → r.foot ops (i + j) ∈ fs') := by
  intro l
  induction l with
  | nil =>
    intro i fs env σ ip' chain' fs' env' σ' h
    simp only [restDraw, DrawR.pan.injEq] at h
    obtain ⟨rfl, rfl, rfl, rfl, rfl⟩ := h
    exact ⟨rfl, rfl, [], rfl, ⟨rfl, rfl⟩, by simp, fun _ h => h, by simp⟩
  | cons o rest ih =>
    intro i fs env σ ip' chain' fs' env' σ' h
    unfold restDraw at h
    rw [cond_eq_ite] at h
    split at h
    · rename_i hb
      obtain ⟨k1, k2, recs, h1, h2, h3, h4, h5⟩ := ih _ _ _ _ _ _ _ _ _ h
      refine ⟨k1, k2, ⟨o, env, σ, unit, env, σ, [], [], false⟩ :: recs, by simp [h1], ⟨rfl, rfl, h2⟩, ?_, h4, ?_⟩
      · intro j r hj
        cases j with
        | zero => simp at hj; subst hj; exact .inr ⟨⟨rfl, rfl, rfl, rfl, rfl⟩, hb⟩
        | succ j =>
          have := h3 j r (by simpa using hj)
          rwa [show i + 1 + j = i + (j + 1) by omega] at this
      · intro j r hj hb
        cases j with
        | zero => simp at hj; subst hj; cases hb
        | succ j =>
          have := h5 j r (by simpa using hj) hb
          rwa [show i + 1 + j = i + (j + 1) by omega] at this
    · dsimp only at h
      split at h
      · cases h
      · rename_i hw
        split at h
        · rename_i env1 hp
          obtain ⟨k1, k2, recs, h1, h2, h3, h4, h5⟩ := ih _ _ _ _ _ _ _ _ _ h
          refine ⟨k1, k2, ⟨o, env, σ, unit, env1, σ, [], [], false⟩ :: recs, by simp [h1], ⟨rfl, rfl, h2⟩, ?_, h4, ?_⟩
          · intro j r hj
            cases j with
            | zero => simp at hj; subst hj; exact .inl ⟨hw, hp, fun _ => ⟨rfl, rfl, rfl, rfl⟩, fun h => (by cases h)⟩
            | succ j =>
              have := h3 j r (by simpa using hj)
              rwa [show i + 1 + j = i + (j + 1) by omega] at this
          · intro j r hj hb
            cases j with
            | zero => simp at hj; subst hj; cases hb
            | succ j =>
              have := h5 j r (by simpa using hj) hb
              rwa [show i + 1 + j = i + (j + 1) by omega] at this
        · cases h
      · rename_i hw
        have hop := opA_steps (P := P) (C := C) (env := env.only (tmpsOf ops o)) (σ := σ.bare) (o := o)
        split at h
        · rename_i v τ hr
          have hs : StepA σ.bare τ := hop τ (by rw [hr]; rfl)
          split at h
          · rename_i env1 hp
            obtain ⟨k1, k2, recs, h1, h2, h3, h4, h5⟩ := ih _ _ _ _ _ _ _ _ _ h
            refine ⟨k1, k2, ⟨o, env, σ, v, env1, τ.join σ, τ.rd, τ.wr, true⟩ :: recs, by simp [h1], ⟨rfl, rfl, h2⟩, ?_, fun x hx => h4 x (by simp [hx]), ?_⟩
            · intro j r hj
              cases j with
              | zero => simp at hj; subst hj; exact .inl ⟨hw, hp, fun h => (by cases h), fun _ => ⟨τ, .inl hr, hs, rfl, rfl, rfl⟩⟩
              | succ j =>
                have := h3 j r (by simpa using hj)
                rwa [show i + 1 + j = i + (j + 1) by omega] at this
            · intro j r hj hb
              cases j with
              | zero => simp at hj; subst hj; exact h4 _ (by simp [St.join, Rec.foot])
              | succ j =>
                have := h5 j r (by simpa using hj) hb
                rwa [show i + 1 + j = i + (j + 1) by omega] at this
          · cases h
        · cases h

omit [Val] in
theorem restDraw_ok {bef : Array Nat} {ip : Nat} {chain : List (AV × Bool)} {nt : Nat} {ops : Array Oper} :
    ∀ (l : List Oper) (i : Nat) (fs : List Foot) (env : Env) (σ : St) (fs' : List Foot) (env' : Env) (σ' : St), restDraw P C bef ip chain nt ops l i fs env σ ≠ .ok fs' env' σ' := by
  intro l
  induction l with
  | nil => intro i fs env σ fs' env' σ' h; cases h
  | cons o rest ih =>
    intro i fs env σ fs' env' σ' h
    unfold restDraw at h
    rw [cond_eq_ite] at h
    split at h
    · exact ih _ _ _ _ _ _ _ h
    · dsimp only at h
      split at h
      · cases h
      · split at h
        · exact ih _ _ _ _ _ _ _ h
        · cases h
      · split at h
        · split at h
          · exact ih _ _ _ _ _ _ _ h
          · cases h
        · cases h

/-- What the operations of a region come to, as records. -/
def Drawn (P : Program) (C : Cfg) (call : Cle → List AV → St → CR) (bef : Array Nat) (nt : Nat) (ops : Array Oper) (i : Nat) (recs : List Rec) (d : DrawR) : Prop :=
  match d with
  | .ok _ _ _ => ∀ (j : Nat) (r : Rec), recs[j]? = some r → r.ok P C call nt ops
  | .pan ip chain _ _ _ => i ≤ ip ∧ (∃ r : Rec, recs[ip - i]? = some r ∧ r.pans P C call ops chain) ∧
      ∀ (j : Nat) (r : Rec), recs[j]? = some r → i + j ≠ ip → r.ok P C call nt ops ∨ (r.idle ∧ (bef.getD (i + j) 0).testBit ip = true)
  | .no => False

def DrawR.fs : DrawR → List Foot
  | .ok fs _ _ => fs
  | .pan _ _ fs _ _ => fs
  | .no => []
def DrawR.env : DrawR → Env
  | .ok _ env _ => env
  | .pan _ _ _ env _ => env
  | .no => { tm := .leaf, ds := [], md := none, rd := false }

omit [Val] in
theorem Drawn.cons {call : Cle → List AV → St → CR} {bef : Array Nat} {nt : Nat} {ops : Array Oper} {i : Nat} {recs : List Rec} {d : DrawR} {r : Rec} (h : Drawn P C call bef nt ops (i + 1) recs d)
    (hr : r.ok P C call nt ops) : Drawn P C call bef nt ops i (r :: recs) d := by
  cases d with
  | ok fs env σ =>
    intro j s hj
    cases j with
    | zero => simp at hj; subst hj; exact hr
    | succ j => exact h j s (by simpa using hj)
  | pan ip chain fs env σ =>
    obtain ⟨h1, ⟨s, h2, h3⟩, h4⟩ := h
    refine ⟨by omega, ⟨s, by rw [show ip - i = (ip - (i + 1)) + 1 by omega]; simpa using h2, h3⟩, fun j t hj hne => ?_⟩
    cases j with
    | zero => simp at hj; subst hj; exact .inl hr
    | succ j =>
      have := h4 j t (by simpa using hj) (by omega)
      rwa [show i + 1 + j = i + (j + 1) by omega] at this
  | no => exact h.elim

omit [Val] in
theorem runDraw_recs {bef : Array Nat} {call : Cle → List AV → St → CR} (hcs : CallSteps call) {nt : Nat} {ops : Array Oper} :
    ∀ (l : List Oper) (i : Nat) (fs : List Foot) (env : Env) (σ σ' : St) (d : DrawR), runDraw P C bef call nt ops l i fs env σ = d → d.st = some σ' →
      ∃ recs : List Rec, recs.map (·.o) = l ∧ Linked recs env σ d.env σ' ∧ Drawn P C call bef nt ops i recs d ∧ (∀ x ∈ fs, x ∈ d.fs) ∧
        (∀ (j : Nat) (r : Rec), recs[j]? = some r → r.b = true → r.foot ops (i + j) ∈ d.fs) := by
  intro l
  induction l with
  | nil =>
    intro i fs env σ σ' d hd h
    simp only [runDraw] at hd
    subst hd
    simp only [DrawR.st, Option.some.injEq] at h
    subst h
    exact ⟨[], rfl, ⟨rfl, rfl⟩, fun j r hj => by simp at hj, fun _ h => h, by simp⟩
  | cons o rest ih =>
    intro i fs env σ σ' d hd h
    unfold runDraw at hd
    dsimp only at hd
    split at hd
    · subst hd; cases h
    · rename_i hw
      split at hd
      · rename_i env1 hp
        obtain ⟨recs, h1, h2, h3, h4, h5⟩ := ih _ _ _ _ _ _ hd h
        refine ⟨⟨o, env, σ, unit, env1, σ, [], [], false⟩ :: recs, by simp [h1], ⟨rfl, rfl, h2⟩, h3.cons ⟨hw, hp, fun _ => ⟨rfl, rfl, rfl, rfl⟩, fun h => (by cases h)⟩, h4, ?_⟩
        intro j r hj hb
        cases j with
        | zero => simp at hj; subst hj; cases hb
        | succ j =>
          have := h5 j r (by simpa using hj) hb
          rwa [show i + 1 + j = i + (j + 1) by omega] at this
      · subst hd; cases h
    · rename_i hw
      have hop := opA_steps (P := P) (C := C) (env := env.only (tmpsOf ops o)) (σ := σ.bare) (o := o)
      have hgo : ∀ (v : AV) (τ : St) (env1 : Env), (opA P C (env.only (tmpsOf ops o)) σ.bare o = .val v τ ∨
          ∃ f args τ₀, opA P C (env.only (tmpsOf ops o)) σ.bare o = .call f args τ₀ ∧ call f args τ₀ = .ret v τ ∧ StepA τ₀ τ) → StepA σ.bare τ → putA nt env o.dst v = some env1 →
          runDraw P C bef call nt ops rest (i + 1) ({ i := i, rd := τ.rd, wr := τ.wr, lo := σ.next, hi := τ.next, o := o, env := env.only (tmpsOf ops o), v := v, pre := σ, post := τ.join σ } :: fs) env1 (τ.join σ) = d →
          ∃ recs : List Rec, recs.map (·.o) = o :: rest ∧ Linked recs env σ d.env σ' ∧ Drawn P C call bef nt ops i recs d ∧ (∀ x ∈ fs, x ∈ d.fs) ∧
            (∀ (j : Nat) (r : Rec), recs[j]? = some r → r.b = true → r.foot ops (i + j) ∈ d.fs) := by
        intro v τ env1 hr hs hp hd
        obtain ⟨recs, h1, h2, h3, h4, h5⟩ := ih _ _ _ _ _ _ hd h
        refine ⟨⟨o, env, σ, v, env1, τ.join σ, τ.rd, τ.wr, true⟩ :: recs, by simp [h1], ⟨rfl, rfl, h2⟩, h3.cons ⟨hw, hp, fun h => (by cases h), fun _ => ⟨τ, hr, hs, rfl, rfl, rfl⟩⟩, fun x hx => h4 x (by simp [hx]), ?_⟩
        intro j r hj hb
        cases j with
        | zero => simp at hj; subst hj; exact h4 _ (by simp [St.join, Rec.foot])
        | succ j =>
          have := h5 j r (by simpa using hj) hb
          rwa [show i + 1 + j = i + (j + 1) by omega] at this
      split at hd
      · rename_i v τ hr
        split at hd
        · rename_i env1 hp
          exact hgo v τ env1 (.inl hr) (hop τ (by rw [hr]; rfl)) hp hd
        · subst hd; cases h
      · subst hd; cases h
      · subst hd; cases h
      · subst hd; cases h
      · rename_i f args τ₀ hr
        split at hd
        · rename_i v τ hcall
          have hs2 : StepA τ₀ τ := hcs f args τ₀ τ (by rw [hcall]; rfl)
          split at hd
          · rename_i env1 hp
            exact hgo v τ env1 (.inr ⟨f, args, τ₀, hr, hcall, hs2⟩) ((hop τ₀ (by rw [hr]; rfl)).trans hs2) hp hd
          · subst hd; cases h
        · rename_i chain τ hcall
          have hs2 : StepA τ₀ τ := hcs f args τ₀ τ (by rw [hcall]; rfl)
          have hs : StepA σ.bare τ := (hop τ₀ (by rw [hr]; rfl)).trans hs2
          cases d with
          | ok fs' env' σ₁ => exact absurd hd (restDraw_ok _ _ _ _ _ _ _ _)
          | no => cases h
          | pan ip chain' fs' env' σ₁ =>
            simp only [DrawR.st, Option.some.injEq] at h
            subst h
            obtain ⟨rfl, rfl, recs, h1, h2, h3, h4, h5⟩ := restDraw_recs (call := call) _ _ _ _ _ _ _ _ _ _ hd
            refine ⟨⟨o, env, σ, unit, env, τ.join σ, τ.rd, τ.wr, true⟩ :: recs, by simp [h1], ⟨rfl, rfl, h2⟩, ?_, fun x hx => h4 x (by simp [hx]), ?_⟩
            · refine ⟨Nat.le_refl _, ⟨⟨o, env, σ, unit, env, τ.join σ, τ.rd, τ.wr, true⟩, by simp, rfl, rfl, hw, f, args, τ₀, τ, hr, hcall, hs2, hs, rfl, rfl, rfl⟩, fun j r hj hne => ?_⟩
              cases j with
              | zero => exact absurd rfl hne
              | succ j =>
                have := h3 j r (by simpa using hj)
                rwa [show ip + 1 + j = ip + (j + 1) by omega] at this
            · intro j r hj hb
              cases j with
              | zero => simp at hj; subst hj; exact h4 _ (by simp [St.join, Rec.foot])
              | succ j =>
                have := h5 j r (by simpa using hj) hb
                rwa [show ip + 1 + j = ip + (j + 1) by omega] at this
        · subst hd; cases h
      · subst hd; cases h

/-- The state and the temporaries ahead of the operation k; behind all of them at the end. -/
def preS (recs : List Rec) (σ' : St) (k : Nat) : St := match recs[k]? with
  | some r => r.σ
  | none => σ'
def preE (recs : List Rec) (env' : Env) (k : Nat) : Env := match recs[k]? with
  | some r => r.env
  | none => env'

omit [Val] in
theorem Linked.post {recs : List Rec} {env env' : Env} {σ σ' : St} (h : Linked recs env σ env' σ') {k : Nat} {r : Rec} (hr : recs[k]? = some r) :
    preS recs σ' (k + 1) = r.σ' ∧ preE recs env' (k + 1) = r.env' := by
  induction recs generalizing env σ k with
  | nil => simp at hr
  | cons x xs ih =>
    obtain ⟨h1, h2, h3⟩ := h
    cases k with
    | zero =>
      simp at hr; subst hr
      cases xs with
      | nil => obtain ⟨h4, h5⟩ := h3; exact ⟨by simp [preS, h5], by simp [preE, h4]⟩
      | cons y ys => obtain ⟨h4, h5, _⟩ := h3; exact ⟨by simp [preS, h5], by simp [preE, h4]⟩
    | succ k =>
      have := ih h3 (by simpa using hr)
      simpa [preS, preE] using this
omit [Val] in
theorem Linked.pre {recs : List Rec} {env env' : Env} {σ σ' : St} (h : Linked recs env σ env' σ') : preS recs σ' 0 = σ ∧ preE recs env' 0 = env := by
  cases recs with
  | nil => exact ⟨h.2.symm, h.1.symm⟩
  | cons x xs => exact ⟨h.2.1, h.1⟩
omit [Val] in
theorem preS_at {recs : List Rec} {σ' : St} {k : Nat} {r : Rec} (hr : recs[k]? = some r) : preS recs σ' k = r.σ := by simp [preS, hr]
omit [Val] in
theorem preE_at {recs : List Rec} {env' : Env} {k : Nat} {r : Rec} (hr : recs[k]? = some r) : preE recs env' k = r.env := by simp [preE, hr]

/-- Does an operation write an object, or make it? -/
def Rec.touch (r : Rec) (id : Nat) : Prop := id ∈ r.wr ∨ (r.σ.next ≤ id ∧ id < r.σ'.next)

omit [Val] in
theorem Rec.ok.step {call : Cle → List AV → St → CR} {nt : Nat} {ops : Array Oper} {r : Rec} (h : r.ok P C call nt ops) :
    StepA r.σ r.σ' ∧ (∀ id, id < r.σ.next → id ∉ r.wr → r.σ'.heap.get id = r.σ.heap.get id) ∧ (∀ i ∈ r.rd, i ∈ r.σ'.rd) ∧ (∀ i ∈ r.wr, i ∈ r.σ'.wr) := by
  obtain ⟨_, _, h3, h4⟩ := h
  cases hb : r.b with
  | false =>
    obtain ⟨_, e1, e2, e3⟩ := h3 hb
    rw [e1, e2, e3]
    exact ⟨.refl _, fun _ _ _ => rfl, by simp, by simp⟩
  | true =>
    obtain ⟨τ, _, hs, e1, e2, e3⟩ := h4 hb
    rw [e1, e2, e3]
    exact ⟨hs.join, fun id hid hw => hs.keep id hid hw, fun i hi => List.mem_append.2 (.inl hi), fun i hi => List.mem_append.2 (.inl hi)⟩
omit [Val] in
theorem Rec.fine.step {call : Cle → List AV → St → CR} {nt : Nat} {ops : Array Oper} {r : Rec} (h : r.fine P C call nt ops) :
    StepA r.σ r.σ' ∧ (∀ id, id < r.σ.next → id ∉ r.wr → r.σ'.heap.get id = r.σ.heap.get id) ∧ (∀ i ∈ r.rd, i ∈ r.σ'.rd) ∧ (∀ i ∈ r.wr, i ∈ r.σ'.wr) := by
  rcases h with h | ⟨_, _, e1, e2, e3⟩ | ⟨chain, _, _, _, f, args, τ₀, τ, _, _, _, hs, e1, e2, e3⟩
  · exact h.step
  · rw [e1, e2, e3]
    exact ⟨.refl _, fun _ _ _ => rfl, by simp, by simp⟩
  · rw [e1, e2, e3]
    exact ⟨hs.join, fun id hid hw => hs.keep id hid hw, fun i hi => List.mem_append.2 (.inl hi), fun i hi => List.mem_append.2 (.inl hi)⟩
omit [Val] in
theorem Rec.fine.env {call : Cle → List AV → St → CR} {nt : Nat} {ops : Array Oper} {r : Rec} (h : r.fine P C call nt ops) {t : Tmp} (ht : r.o.dst ≠ some t) : r.env'.tm.get t = r.env.tm.get t := by
  rcases h with h | ⟨_, e, _⟩ | ⟨chain, _, e, _⟩
  · have hput := h.2.1
    unfold putA at hput
    split at hput
    · simp only [Option.some.injEq] at hput; rw [← hput]
    · rename_i d hd
      simp only [cond_eq_ite] at hput
      split at hput
      · simp only [Option.some.injEq] at hput
        rw [← hput]
        exact T.get_set_ne _ _ fun h => ht (by rw [hd, h])
      · cases hput
  · rw [e]
  · rw [e]

omit [Val] in
/-- From one operation to a later one. -/
theorem pre_mono {call : Cle → List AV → St → CR} {nt : Nat} {ops : Array Oper} {recs : List Rec} {env env' : Env} {σ σ' : St} (hl : Linked recs env σ env' σ')
    (hok : ∀ r ∈ recs, r.fine P C call nt ops) {i k : Nat} (hik : i ≤ k) (hk : k ≤ recs.length) :
    StepA (preS recs σ' i) (preS recs σ' k) ∧
    (∀ id, id < (preS recs σ' i).next → (∀ j r, i ≤ j → j < k → recs[j]? = some r → ¬ r.touch id) → (preS recs σ' k).heap.get id = (preS recs σ' i).heap.get id) ∧
    (∀ t, (∀ j r, i ≤ j → j < k → recs[j]? = some r → r.o.dst ≠ some t) → (preE recs env' k).tm.get t = (preE recs env' i).tm.get t) := by
  induction k with
  | zero =>
    have : i = 0 := by omega
    subst this
    exact ⟨.refl _, fun _ _ _ => rfl, fun _ _ => rfl⟩
  | succ k ih =>
    by_cases e : i = k + 1
    · subst e; exact ⟨.refl _, fun _ _ _ => rfl, fun _ _ => rfl⟩
    · obtain ⟨h1, h2, h3⟩ := ih (by omega) (by omega)
      have hlt : k < recs.length := by omega
      have hr : recs[k]? = some recs[k] := List.getElem?_eq_getElem hlt
      have hrk := hok _ (List.getElem_mem hlt)
      obtain ⟨s1, s2, _, _⟩ := hrk.step
      obtain ⟨p1, p2⟩ := hl.post hr
      rw [preS_at hr] at h1 h2
      rw [preE_at hr] at h3
      rw [p1, p2]
      refine ⟨h1.trans s1, fun id hid hno => ?_, fun t hno => ?_⟩
      · rw [s2 id (Nat.lt_of_lt_of_le hid h1.next) (fun hw => hno k _ (by omega) (by omega) hr (.inl hw))]
        exact h2 id hid fun j r a b c => hno j r a (by omega) c
      · rw [← h3 t fun j r a b c => hno j r a (by omega) c]
        exact hrk.env (hno k _ (by omega) (by omega) hr)
end
end Go.Tw
