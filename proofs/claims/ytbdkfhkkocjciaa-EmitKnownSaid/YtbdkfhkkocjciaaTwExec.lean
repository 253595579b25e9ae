/-
  A part of the proof that the abstract evaluator is sound for the model's machine. Conditions: those of each theorem, as it states them.
-/
import Derived.Test.YtbdkfhkkocjciaaTwOps13
import Derived.ScopeJumps
namespace Go.Tw
section
variable {P : Program} {R : Nat} {C : Cfg}

/-- Panics that nobody has recovered. -/
def ChainR (φ : PM) (l : List AV) (l' : List PanicEntry) : Prop := VRL φ l (l'.map (·.v)) ∧ ∀ x ∈ l', x.recovered = false ∧ x.goexit = false

/-- A way of calling does what the machine does. -/
def CallOk (P : Program) (R : Nat) (C : Cfg) (call : FuncId → List AV → St → CR) : Prop :=
  ∀ (f : FuncId) (args : List AV) (σ : St) (D : Nat → Prop) (φ : PM) (w : World) (args' : Array Value), Inv R C D φ σ w → VRL φ args args'.toList →
    (∀ v σ', call f args σ = .ret v σ' → Known D σ σ' → Free φ σ σ' →
      Calls P f args' w fun e w' => ∃ φ' v', e = .returned v' ∧ VR φ' v v' ∧ Post R D φ σ w σ' φ' w') ∧
    (∀ c σ', call f args σ = .pan c σ' → Known D σ σ' → Free φ σ σ' →
      Calls P f args' w fun e w' => ∃ φ' c', e = .panicked c' ∧ ChainR φ' c c' ∧ Post R D φ σ w σ' φ' w')

def ExitR (φ : PM) : AExit → Exit → Prop
  | .normal, .normal => True
  | .exit i, .exit j => i = j
  | .goto i, .goto j => i = j
  | .ret, .ret => True
  | .panic c, .panic c' => ChainR φ c c'
  | _, _ => False

theorem EnvR.put {φ : PM} {nt : Nat} {env env' : Env} {a : Act} {d : Option Tmp} {v : AV} {v' : Value} (h : EnvR φ nt env a) (hp : putA nt env d v = some env') (hv : VR φ v v') :
    EnvR φ nt env' (a.put d v') := by
  unfold putA at hp
  cases d with
  | none => simp only [Option.some.injEq] at hp; subst hp; exact h
  | some d =>
    simp only [cond_eq_ite] at hp
    split at hp
    · rename_i hb
      have hb := blt_t hb
      simp only [Option.some.injEq] at hp; subst hp
      refine ⟨by simp [Act.put, h.size], fun t u hu => ?_⟩
      rw [T.get_set] at hu
      by_cases e : t = d
      · subst e
        rw [if_pos rfl] at hu
        simp only [Option.some.injEq] at hu; subst hu
        exact ⟨v', by simp [Act.put, h.size, hb], hv⟩
      · rw [if_neg e] at hu
        obtain ⟨u', h1, h2⟩ := h.val t u hu
        exact ⟨u', by simp only [Act.put]; rw [Array.getElem?_setIfInBounds_ne (Ne.symm e)]; exact h1, h2⟩
    · cases hp

theorem put_defers {a : Act} {d : Option Tmp} {v : Value} : (a.put d v).defers = a.defers := by cases d <;> rfl

theorem wantedA_ok {φ : PM} {nt : Nat} {ops : Array Oper} {env : Env} {a : Act} {o : Oper} {b : Bool} (h : EnvR φ nt env a) (hw : wantedA ops env o = some b) :
    Region.wanted o (yielded ops a.tmps) = b := by
  unfold wantedA at hw
  unfold Region.wanted
  cases hg : o.guard with
  | none => rw [hg] at hw; simp only [Option.some.injEq] at hw; exact hw
  | some g =>
    obtain ⟨j, want⟩ := g
    rw [hg] at hw
    dsimp only at hw ⊢
    unfold yielded
    cases hj : ops[j]? with
    | none => rw [hj] at hw; simp only [Option.some.injEq] at hw; subst hw; rfl
    | some p =>
      rw [hj] at hw
      dsimp only at hw
      cases hd : p.dst with
      | none => rw [hd] at hw; simp only [Option.some.injEq] at hw; subst hw; simp [hd]
      | some d =>
        rw [hd] at hw
        dsimp only at hw
        cases hv : env.tm.get d with
        | none => rw [hv] at hw; cases hw
        | some v =>
          rw [hv] at hw
          obtain ⟨v', h1, h2⟩ := h.val d v hv
          simp only [Option.bind_some, hd, h1]
          cases h2 <;> simp only [Option.some.injEq] at hw <;> subst hw <;> rfl

/-- What an operation does, in whatever continuation. -/
theorem op_step {call : FuncId → List AV → St → CR} (hc : CallOk P R C call) {nt : Nat} {env : Env} {σ : St} {o : Oper} {D : Nat → Prop} {φ : PM} {w : World} {a : Act}
    (hi : Inv R C D φ σ w) (he : EnvR φ nt env a) {next : Act → World → Prop} {Q : Exit → Act → World → Prop} :
    (∀ v σ', opA P C env σ o = .val v σ' → Known D σ σ' → Free φ σ σ' →
      (∀ φ' v' w', VR φ' v v' → Post R D φ σ w σ' φ' w' → next (a.put o.dst v') w') → o.wp P a w next Q) ∧
    (∀ v σ', opA P C env σ o = .pan v σ' → Known D σ σ' → Free φ σ σ' →
      (∀ φ' v' w', VR φ' v v' → Post R D φ σ w σ' φ' w' → Q (.panic [{ v := v', recovered := false }]) a w') → o.wp P a w next Q) ∧
    (∀ f args τ v σ', opA P C env σ o = .call f args τ → call f args τ = .ret v σ' → StepA τ σ' → Known D σ σ' → Free φ σ σ' →
      (∀ φ' v' w', VR φ' v v' → Post R D φ σ w σ' φ' w' → next (a.put o.dst v') w') → o.wp P a w next Q) ∧
    (∀ f args τ c σ', opA P C env σ o = .call f args τ → call f args τ = .pan c σ' → StepA τ σ' → Known D σ σ' → Free φ σ σ' →
      (∀ φ' c' w', ChainR φ' c c' → Post R D φ σ w σ' φ' w' → Q (.panic c') a w') → o.wp P a w next Q) ∧
    (∀ d σ', opA P C env σ o = .dfr d σ' → Known D σ σ' → Free φ σ σ' → False) := by
  have hsteps := opA_steps (P := P) (C := C) (env := env) (σ := σ) (o := o)
  refine ⟨fun v σ' hr hk hf hn => ?_, fun v σ' hr hk hf hn => ?_, fun f args τ v σ' hr hcall hst hk hf hn => ?_, fun f args τ c σ' hr hcall hst hk hf hn => ?_, fun d σ' hr hk hf => ?_⟩
  · have := opA_ok (P := P) (o := o) hi he (fun τ ht => by rw [hr] at ht; simp only [OR.st, Option.some.injEq] at ht; subst ht; exact hk) (fun τ ht => by rw [hr] at ht; simp only [OR.st, Option.some.injEq] at ht; subst ht; exact hf)
    rw [hr] at this
    obtain ⟨φ', w', n, v', h1, h2, h3, h4⟩ := this
    unfold Oper.wp
    rw [h1]
    rcases h2 with rfl | ⟨rfl, rfl⟩
    · exact hn φ' v' w' h3 h4
    · exact hn φ' undef w' h3 h4
  · have := opA_ok (P := P) (o := o) hi he (fun τ ht => by rw [hr] at ht; simp only [OR.st, Option.some.injEq] at ht; subst ht; exact hk) (fun τ ht => by rw [hr] at ht; simp only [OR.st, Option.some.injEq] at ht; subst ht; exact hf)
    rw [hr] at this
    obtain ⟨φ', w', v', h1, h2, h3⟩ := this
    unfold Oper.wp
    rw [h1]
    exact hn φ' v' w' h2 h3
  · have hs1 : StepA σ τ := hsteps τ (by rw [hr]; rfl)
    have := opA_ok (P := P) (o := o) hi he (fun υ ht => by rw [hr] at ht; simp only [OR.st, Option.some.injEq] at ht; subst ht; exact hk.mono hst) (fun υ ht => by rw [hr] at ht; simp only [OR.st, Option.some.injEq] at ht; subst ht; exact hf.mono hst)
    rw [hr] at this
    obtain ⟨φ₁, w₁, args', h1, h2, h3⟩ := this
    unfold Oper.wp
    rw [h1]
    have hcall' := (hc f args τ (More D σ) φ₁ w₁ args' (h3.inv hi hs1) h2).1 v σ' hcall hk.then (hf.then h3 hs1)
    refine hcall'.mono fun e w' he' => ?_
    obtain ⟨φ', v', rfl, hv, hp⟩ := he'
    exact hn φ' v' w' hv (h3.trans hp hs1 hst)
  · have hs1 : StepA σ τ := hsteps τ (by rw [hr]; rfl)
    have := opA_ok (P := P) (o := o) hi he (fun υ ht => by rw [hr] at ht; simp only [OR.st, Option.some.injEq] at ht; subst ht; exact hk.mono hst) (fun υ ht => by rw [hr] at ht; simp only [OR.st, Option.some.injEq] at ht; subst ht; exact hf.mono hst)
    rw [hr] at this
    obtain ⟨φ₁, w₁, args', h1, h2, h3⟩ := this
    unfold Oper.wp
    rw [h1]
    have hcall' := (hc f args τ (More D σ) φ₁ w₁ args' (h3.inv hi hs1) h2).2 c σ' hcall hk.then (hf.then h3 hs1)
    refine hcall'.mono fun e w' he' => ?_
    obtain ⟨φ', v', rfl, hv, hp⟩ := he'
    exact hn φ' v' w' hv (h3.trans hp hs1 hst)
  · have := opA_ok (P := P) (o := o) hi he (fun τ ht => by rw [hr] at ht; simp only [OR.st, Option.some.injEq] at ht; subst ht; exact hk) (fun τ ht => by rw [hr] at ht; simp only [OR.st, Option.some.injEq] at ht; subst ht; exact hf)
    rw [hr] at this
    exact this

theorem unit_undef (φ : PM) : VR φ unit undef := .tup _ .nil

theorem runOps_ok {call : FuncId → List AV → St → CR} (hc : CallOk P R C call) (hcs : CallSteps call) {nt : Nat} {ops : Array Oper} :
    ∀ (l : List Oper) (k : Nat) (env : Env) (σ : St) (a : Act) (w : World) (φ : PM) (D : Nat → Prop) (e : AExit) (env' : Env) (σ' : St),
      runOps P C call nt ops l env σ = .ok e env' σ' → (∀ j, l[j]? = ops[k + j]?) → Inv R C D φ σ w → EnvR φ nt env a → a.defers = [] → Known D σ σ' → Free φ σ σ' →
      ∀ (Q : Exit → Act → World → Prop), (∀ φ' e' a' w', ExitR φ' e e' → EnvR φ' nt env' a' → a'.defers = [] → Post R D φ σ w σ' φ' w' → Q e' a' w') →
      wpOps P ops Q (List.range' k l.length) a w := by
  intro l
  induction l with
  | nil =>
    intro k env σ a w φ D e env' σ' h _ hi he hd _ _ Q hQ
    simp only [runOps, XR.ok.injEq] at h
    obtain ⟨rfl, rfl, rfl⟩ := h
    exact hQ φ .normal a w trivial he hd (.same hi rfl rfl rfl)
  | cons o rest ih =>
    intro k env σ a w φ D e env' σ' h hl hi he hd hk hf Q hQ
    have hok : ops[k]? = some o := by have := hl 0; simpa using this.symm
    have hrest : ∀ j, rest[j]? = ops[k + 1 + j]? := fun j => by have := hl (j + 1); simpa [Nat.add_assoc, Nat.add_comm 1 j] using this
    simp only [List.length_cons, List.range'_succ, wpOps, hok]
    unfold runOps at h
    split at h
    · cases h
    · rename_i hw
      rw [wantedA_ok he hw]
      simp only [Bool.false_eq_true, if_false]
      split at h
      · rename_i env1 hp
        exact ih (k + 1) env1 σ _ w φ D e env' σ' h hrest hi (he.put hp (unit_undef φ)) (put_defers.trans hd) hk hf Q hQ
      · cases h
    · rename_i hw
      rw [wantedA_ok he hw]
      simp only [if_true]
      left
      have hsteps := opA_steps (P := P) (C := C) (env := env) (σ := σ) (o := o)
      have hgo : ∀ (v : AV) (τ : St), StepA σ τ → (match putA nt env o.dst v with | some env => runOps P C call nt ops rest env τ | none => .no) = XR.ok e env' σ' →
          StepA τ σ' ∧ ∀ φ' v' w', VR φ' v v' → Post R D φ σ w τ φ' w' → wpOps P ops Q (List.range' (k + 1) rest.length) (a.put o.dst v') w' := by
        intro v τ hs1 h
        split at h
        · rename_i env1 hp
          have hs2 : StepA τ σ' := runOps_steps hcs rest env1 τ σ' (by rw [h]; rfl)
          refine ⟨hs2, fun φ' v' w' hv hpost => ?_⟩
          exact ih (k + 1) env1 τ _ w' φ' (More D σ) e env' σ' h hrest (hpost.inv hi hs1) ((he.mono hpost.le).put hp hv) (put_defers.trans hd) hk.then (hf.then hpost hs1) Q
            (fun φ'' e' a' w'' h1 h2 h3 h4 => hQ φ'' e' a' w'' h1 h2 h3 (hpost.trans h4 hs1 hs2))
        · cases h
      split at h
      · rename_i v τ hr
        have hs1 : StepA σ τ := hsteps τ (by rw [hr]; rfl)
        obtain ⟨hs2, hgo⟩ := hgo v τ hs1 h
        exact (op_step hc hi he).1 v τ hr (hk.mono hs2) (hf.mono hs2) hgo
      · rename_i d τ hr
        exfalso
        have hs1 : StepA σ τ := hsteps τ (by rw [hr]; rfl)
        split at h
        · rename_i env1 hp
          have hs2 : StepA τ σ' := runOps_steps hcs rest env1 τ σ' (by rw [h]; rfl)
          exact (op_step (next := fun _ _ => True) (Q := fun _ _ _ => True) hc hi he).2.2.2.2 d τ hr (hk.mono hs2) (hf.mono hs2)
        · cases h
      · rename_i v τ hr
        simp only [XR.ok.injEq] at h
        obtain ⟨rfl, rfl, rfl⟩ := h
        refine (op_step hc hi he).2.1 v τ hr hk hf fun φ' v' w' hv hpost => ?_
        exact hQ φ' _ a w' ⟨.cons hv .nil, by simp⟩ (he.mono hpost.le) hd hpost
      · rename_i f args τ hr
        have hs1 : StepA σ τ := hsteps τ (by rw [hr]; rfl)
        split at h
        · rename_i v υ hcall
          have hs2 : StepA τ υ := hcs f args τ υ (by rw [hcall]; rfl)
          obtain ⟨hs3, hgo⟩ := hgo v υ (hs1.trans hs2) h
          exact (op_step hc hi he).2.2.1 f args τ v υ hr hcall hs2 (hk.mono hs3) (hf.mono hs3) hgo
        · rename_i c υ hcall
          simp only [XR.ok.injEq] at h
          obtain ⟨rfl, rfl, rfl⟩ := h
          have hs2 : StepA τ υ := hcs f args τ υ (by rw [hcall]; rfl)
          refine (op_step hc hi he).2.2.2.1 f args τ c υ hr hcall hs2 hk hf fun φ' c' w' hv hpost => ?_
          exact hQ φ' _ a w' hv (he.mono hpost.le) hd hpost
        · cases h
      · cases h
end
end Go.Tw
