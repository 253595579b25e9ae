/-
  A part of the proof that the abstract evaluator is sound for the model's machine. Conditions: those of each theorem, as it states them.
-/
import Derived.Test.YtbbnjiceenjhcaaGreatDoorTwRun
set_option linter.all false
namespace Go.Tw
variable [Val]
section
variable {P : Program} {R : Nat} {C : Cfg}

/-- Panics, and which of them have been recovered. -/
inductive ChainR (φ : PM) : List (AV × Bool) → List PanicEntry → Prop
  | nil : ChainR φ [] []
  | cons {v : AV} {b : Bool} {v' : Value} {l : List (AV × Bool)} {l' : List PanicEntry} (h : VR φ v v') (t : ChainR φ l l') :
      ChainR φ ((v, b) :: l) ({ v := v', recovered := b, goexit := false } :: l')
theorem ChainR.mono {φ ψ : PM} (h : φ.le ψ) {l : List (AV × Bool)} {l' : List PanicEntry} (k : ChainR φ l l') : ChainR ψ l l' := by
  induction k with
  | nil => exact .nil
  | cons hv _ ih => exact .cons (hv.mono h) ih
theorem ChainR.append {φ : PM} {a b : List (AV × Bool)} {a' b' : List PanicEntry} (h : ChainR φ a a') (k : ChainR φ b b') : ChainR φ (a ++ b) (a' ++ b') := by
  induction h with
  | nil => exact k
  | cons hv _ ih => exact .cons hv ih

def ModeR (φ : PM) : AMode → FrameMode → Prop
  | .returning, .returning => True
  | .panicking c, .panicking c' => ChainR φ c c'
  | _, _ => False
theorem ModeR.mono {φ ψ : PM} (h : φ.le ψ) {m : AMode} {m' : FrameMode} (k : ModeR φ m m') : ModeR ψ m m' := by
  cases m <;> cases m' <;> simp only [ModeR] at k ⊢
  exact k.mono h

/-- A frame's callers: of a deferred call's frame the mode of the first one. -/
def CsR (φ : PM) (dk : Bool) (base cs : List Frame) : Option AMode → Prop
  | none => dk = false ∧ cs = base
  | some m => dk = true ∧ ∃ c₀ rest m', base = c₀ :: rest ∧ cs = { c₀ with mode := m' } :: rest ∧ ModeR φ m m'
theorem CsR.mono {φ ψ : PM} (h : φ.le ψ) {dk : Bool} {base cs : List Frame} {m : Option AMode} (k : CsR φ dk base cs m) : CsR ψ dk base cs m := by
  cases m with
  | none => exact k
  | some m => obtain ⟨h1, c₀, rest, m', h2, h3, h4⟩ := k; exact ⟨h1, c₀, rest, m', h2, h3, h4.mono h⟩

/-- What a way of calling comes to. -/
def Does (P : Program) (φ : PM) (cl : Cle) (args : Array Value) (w : World) (Q : Ending → World → Prop) : Prop :=
  match cl with
  | .fn f => Calls P f args w Q
  | .yld id => ∀ e, φ id 0 = some e → ∃ l f tmps assign body, (Instr.yield e.blk args).run P w = .ok (.round l f tmps assign body) w ∧ RoundIn Fence.wide 0 P l f tmps assign body w Q
omit [Val] in
theorem Does.mono {φ : PM} {cl : Cle} {args : Array Value} {w : World} {Q Q' : Ending → World → Prop} (h : Does P φ cl args w Q) (hq : ∀ e w', Q e w' → Q' e w') : Does P φ cl args w Q' := by
  cases cl with
  | fn f => exact Calls.mono h hq
  | yld id => intro e he; obtain ⟨l, f, t, a, b, h1, h2⟩ := h e he; exact ⟨l, f, t, a, b, h1, h2.mono hq⟩

/-- A way of calling does what the machine does. -/
def CallOk (P : Program) (R : Nat) (C : Cfg) (call : Cle → List AV → St → CR) : Prop :=
  ∀ (cl : Cle) (args : List AV) (σ : St) (D : Nat → Prop) (φ : PM) (w : World) (args' : Array Value), Inv R C D φ σ w → VRL φ args args'.toList →
    (∀ v σ', call cl args σ = .ret v σ' → Known D σ σ' → Free φ σ σ' →
      Does P φ cl args' w fun e w' => ∃ φ' v', e = .returned v' ∧ VR φ' v v' ∧ Post R D φ σ w σ' φ' w') ∧
    (∀ c σ', call cl args σ = .pan c σ' → Known D σ σ' → Free φ σ σ' →
      Does P φ cl args' w fun e w' => ∃ φ' c', e = .panicked c' ∧ ChainR φ' c c' ∧ Post R D φ σ w σ' φ' w')

def ExitR (φ : PM) : AExit → Exit → Prop
  | .normal, .normal => True
  | .exit i, .exit j => i = j
  | .goto i, .goto j => i = j
  | .ret, .ret => True
  | .panic c, .panic c' => ChainR φ c c'
  | _, _ => False

/-- What has been put off. -/
inductive DfsR (φ : PM) : List ADef → List Deferred → Prop
  | nil : DfsR φ [] []
  | cons {d : ADef} {d' : Deferred} {l : List ADef} {l' : List Deferred} (h : DfR φ d d') (t : DfsR φ l l') : DfsR φ (d :: l) (d' :: l')
theorem DfsR.mono {φ ψ : PM} (h : φ.le ψ) {l : List ADef} {l' : List Deferred} (k : DfsR φ l l') : DfsR ψ l l' := by
  induction k with
  | nil => exact .nil
  | cons hd _ ih => exact .cons (hd.mono h) ih

/-- A frame. -/
structure FrmR (φ : PM) (nt : Nat) (env : Env) (a : Act) : Prop where
  ev : EnvR φ nt env a
  dfs : DfsR φ env.ds a.defers
theorem FrmR.mono {φ ψ : PM} {nt : Nat} {env : Env} {a : Act} (h : FrmR φ nt env a) (k : φ.le ψ) : FrmR ψ nt env a := ⟨h.ev.mono k, h.dfs.mono k⟩

theorem EnvR.same {φ : PM} {nt : Nat} {env env' : Env} {a a' : Act} (h : EnvR φ nt env a) (h1 : env'.tm = env.tm) (h2 : a'.tmps = a.tmps) : EnvR φ nt env' a' :=
  ⟨by rw [h2]; exact h.size, by rw [h1, h2]; exact h.val⟩

omit [Val] in
theorem put_defers {a : Act} {d : Option Tmp} {v : Value} : (a.put d v).defers = a.defers := by cases d <;> rfl
omit [Val] in
theorem putA_keep {nt : Nat} {env env' : Env} {d : Option Tmp} {v : AV} (hp : putA nt env d v = some env') : env'.ds = env.ds ∧ env'.md = env.md ∧ env'.rd = env.rd := by
  unfold putA at hp
  cases d with
  | none => simp only [Option.some.injEq] at hp; subst hp; exact ⟨rfl, rfl, rfl⟩
  | some d =>
    simp only [cond_eq_ite] at hp
    split at hp
    · simp only [Option.some.injEq] at hp; subst hp; exact ⟨rfl, rfl, rfl⟩
    · cases hp

theorem EnvR.put {φ : PM} {nt : Nat} {env env' : Env} {a : Act} {d : Option Tmp} {v : AV} {v' : Value} (h : EnvR φ nt env a) (hp : putA nt env d v = some env') (hv : VR φ v v') :
    EnvR φ nt env' (a.put d v') := by
  unfold putA at hp
  cases d with
  | none => simp only [Option.some.injEq] at hp; subst hp; exact h
  | some d =>
    simp only [cond_eq_ite] at hp
    split at hp
    · rename_i hb
      have hb := blt_t hb
      simp only [Option.some.injEq] at hp; subst hp
      refine ⟨by simp [Act.put, h.size], fun t u hu => ?_⟩
      rw [T.get_set] at hu
      by_cases e : t = d
      · subst e
        rw [if_pos rfl] at hu
        simp only [Option.some.injEq] at hu; subst hu
        exact ⟨v', by simp [Act.put, h.size, hb], hv⟩
      · rw [if_neg e] at hu
        obtain ⟨u', h1, h2⟩ := h.val t u hu
        exact ⟨u', by simp only [Act.put]; rw [Array.getElem?_setIfInBounds_ne (Ne.symm e)]; exact h1, h2⟩
    · cases hp
theorem FrmR.put {φ : PM} {nt : Nat} {env env' : Env} {a : Act} {d : Option Tmp} {v : AV} {v' : Value} (h : FrmR φ nt env a) (hp : putA nt env d v = some env') (hv : VR φ v v') :
    FrmR φ nt env' (a.put d v') := ⟨h.ev.put hp hv, by rw [(putA_keep hp).1, put_defers]; exact h.dfs⟩

theorem wantedA_ok {φ : PM} {nt : Nat} {ops : Array Oper} {env : Env} {a : Act} {o : Oper} {b : Bool} (hp : ∀ e n, C.pin e = some n → e.eval = n) (hdc : ∀ b v, C.dec b = some v → b.eval = v)
    (h : EnvR φ nt env a)
    (hw : wantedA C ops env o = some b) : Region.wanted o (yielded ops a.tmps) = b := by
  unfold wantedA at hw
  unfold Region.wanted
  cases hg : o.guard with
  | none => rw [hg] at hw; simp only [Option.some.injEq] at hw; exact hw
  | some g =>
    obtain ⟨j, want⟩ := g
    rw [hg] at hw
    dsimp only at hw ⊢
    unfold yielded
    cases hj : ops[j]? with
    | none => rw [hj] at hw; simp only [Option.some.injEq] at hw; subst hw; rfl
    | some p =>
      rw [hj] at hw
      dsimp only at hw
      cases hd : p.dst with
      | none => rw [hd] at hw; simp only [Option.some.injEq] at hw; subst hw; simp [hd]
      | some d =>
        rw [hd] at hw
        dsimp only at hw
        cases hv : env.tm.get d with
        | none => rw [hv] at hw; cases hw
        | some v =>
          rw [hv] at hw
          dsimp only at hw
          obtain ⟨v', h1, h2⟩ := h.val d v hv
          have h2 := res_ok hp hdc h2
          simp only [Option.bind_some, hd, h1]
          generalize C.res v = u at hw h2
          cases h2 <;> simp only [Option.some.injEq] at hw <;> first
            | (cases hw; done)
            | (subst hw; rfl)

omit [Val] in
/-- An operation that is done is no putting off. -/
theorem opA_nodefer {env : Env} {σ : St} {o : Oper} {r : OR} (h : opA P C env σ o = r) (h1 : ∀ d τ, r ≠ .dfr d τ) (h2 : r ≠ .no) : ∀ c, o.op ≠ .defer c := by
  intro c hc
  unfold opA at h
  rw [hc] at h
  dsimp only at h
  repeat' split at h
  all_goals first
    | exact h2 h.symm
    | exact h1 _ _ h.symm

section step
variable {call : Cle → List AV → St → CR} {nt : Nat} {env : Env} {σ : St} {o : Oper} {D : Nat → Prop} {φ : PM} {w : World} {a : Act}
  {ro : Option Nat} {dk : Bool} {ops : Array Oper} {i : Nat} {rest : List Nat} {Q : Exit → Act → List Frame → World → Prop} {cs : List Frame}

theorem step_val (hi : Inv R C D φ σ w) (he : EnvR φ nt env a) (ho : ops[i]? = some o) (hw : Region.wanted o (yielded ops a.tmps) = true) {v : AV} {σ' : St}
    (hr : opA P C env σ o = .val v σ') (hk : Known D σ σ') (hf : Free φ σ σ') (hn : ∀ φ' v' w', VR φ' v v' → Post R D φ σ w σ' φ' w' → RunsOps P ro dk ops rest Q (a.put o.dst v') cs w') :
    RunsOps P ro dk ops (i :: rest) Q a cs w := by
  have := opA_ok (P := P) (o := o) hi he (fun τ ht => by rw [hr] at ht; simp only [OR.st, Option.some.injEq] at ht; subst ht; exact hk) (fun τ ht => by rw [hr] at ht; simp only [OR.st, Option.some.injEq] at ht; subst ht; exact hf)
  rw [hr] at this
  obtain ⟨φ', w', n, v', h1, h2, h3, h4⟩ := this
  have hnd := opA_nodefer hr (by simp) (by simp)
  rw [← Oper.semAt_eq ro _ _ hnd] at h1
  rcases h2 with rfl | ⟨rfl, rfl⟩
  · exact ops_value ho hw (.inl rfl) h1 (hn φ' v' w' h3 h4)
  · exact ops_value ho hw (.inr ⟨rfl, rfl⟩) h1 (hn φ' undef w' h3 h4)

theorem step_pan (hi : Inv R C D φ σ w) (he : EnvR φ nt env a) (ho : ops[i]? = some o) (hw : Region.wanted o (yielded ops a.tmps) = true) {v : AV} {σ' : St}
    (hr : opA P C env σ o = .pan v σ') (hk : Known D σ σ') (hf : Free φ σ σ')
    (hn : ∀ φ' v' w', VR φ' v v' → Post R D φ σ w σ' φ' w' → Q (.panic [{ v := v', recovered := false }]) a cs w') :
    RunsOps P ro dk ops (i :: rest) Q a cs w := by
  have := opA_ok (P := P) (o := o) hi he (fun τ ht => by rw [hr] at ht; simp only [OR.st, Option.some.injEq] at ht; subst ht; exact hk) (fun τ ht => by rw [hr] at ht; simp only [OR.st, Option.some.injEq] at ht; subst ht; exact hf)
  rw [hr] at this
  obtain ⟨φ', w', v', h1, h2, h3⟩ := this
  have hnd := opA_nodefer hr (by simp) (by simp)
  rw [← Oper.semAt_eq ro _ _ hnd] at h1
  exact ops_panic ho hw h1 (hn φ' v' w' h2 h3)

theorem step_call (hc : CallOk P R C call) (hi : Inv R C D φ σ w) (he : EnvR φ nt env a) (ho : ops[i]? = some o) (hw : Region.wanted o (yielded ops a.tmps) = true) {f : Cle} {args : List AV} {τ : St}
    (hr : opA P C env σ o = .call f args τ) :
    (∀ v σ', call f args τ = .ret v σ' → StepA τ σ' → Known D σ σ' → Free φ σ σ' →
      (∀ φ' v' w', VR φ' v v' → Post R D φ σ w σ' φ' w' → RunsOps P ro dk ops rest Q (a.put o.dst v') cs w') → RunsOps P ro dk ops (i :: rest) Q a cs w) ∧
    (∀ c σ', call f args τ = .pan c σ' → StepA τ σ' → Known D σ σ' → Free φ σ σ' →
      (∀ φ' c' w', ChainR φ' c c' → Post R D φ σ w σ' φ' w' → Q (.panic c') a cs w') → RunsOps P ro dk ops (i :: rest) Q a cs w) := by
  have hsteps := opA_steps (P := P) (C := C) (env := env) (σ := σ) (o := o)
  have hs1 : StepA σ τ := hsteps τ (by rw [hr]; rfl)
  have hnd := opA_nodefer hr (by simp) (by simp)
  have key : ∀ σ', StepA τ σ' → Known D σ σ' → Free φ σ σ' → ∃ φ₁ w₁ args', Leads P φ₁ (execOp a.eval o) w w₁ args' f ∧ VRL φ₁ args args'.toList ∧ Post R D φ σ w τ φ₁ w₁ := by
    intro σ' hst hk hf
    have := opA_ok (P := P) (o := o) hi he (fun υ ht => by rw [hr] at ht; simp only [OR.st, Option.some.injEq] at ht; subst ht; exact hk.mono hst) (fun υ ht => by rw [hr] at ht; simp only [OR.st, Option.some.injEq] at ht; subst ht; exact hf.mono hst)
    rw [hr] at this
    exact this
  refine ⟨fun v σ' hcall hst hk hf hn => ?_, fun c σ' hcall hst hk hf hn => ?_⟩
  · obtain ⟨φ₁, w₁, args', h1, h2, h3⟩ := key σ' hst hk hf
    have hcall' := (hc f args τ (More D σ) φ₁ w₁ args' (h3.inv hi hs1) h2).1 v σ' hcall hk.then (hf.then h3 hs1)
    have hgo : ∀ v' w', (∃ φ' u', Ending.returned v' = .returned u' ∧ VR φ' v u' ∧ Post R (More D σ) φ₁ τ w₁ σ' φ' w') → RunsOps P ro dk ops rest Q (a.put o.dst v') cs w' := by
      rintro v' w' ⟨φ', u', e, hv, hp⟩
      simp only [Ending.returned.injEq] at e; subst e
      exact hn φ' _ w' hv (h3.trans hp hs1 hst)
    cases f with
    | fn f =>
      have h1' : (o.semAt ro a.eval).run P w = .ok (.enter f args') w₁ := by rw [Oper.semAt_eq ro _ _ hnd]; exact h1
      exact ops_enter ho hw h1' hcall' hgo (fun ch w'' ⟨_, _, e, _⟩ => by cases e) (fun w'' ⟨_, _, e, _⟩ => by cases e)
    | yld id =>
      obtain ⟨e1, e, g1, g2⟩ := h1
      subst e1
      obtain ⟨l, f, tmps, assign, body, q1, q2⟩ := hcall' e g1
      have h1' : (o.semAt ro a.eval).run P w₁ = .ok (.round l f tmps assign body) w₁ := by rw [Oper.semAt_eq ro _ _ hnd, g2, q1]
      exact ops_round ho hw h1' q2 hgo (fun ch w'' ⟨_, _, e, _⟩ => by cases e) (fun w'' ⟨_, _, e, _⟩ => by cases e)
  · obtain ⟨φ₁, w₁, args', h1, h2, h3⟩ := key σ' hst hk hf
    have hcall' := (hc f args τ (More D σ) φ₁ w₁ args' (h3.inv hi hs1) h2).2 c σ' hcall hk.then (hf.then h3 hs1)
    have hgo : ∀ c₁ w', (∃ φ' u', Ending.panicked c₁ = .panicked u' ∧ ChainR φ' c u' ∧ Post R (More D σ) φ₁ τ w₁ σ' φ' w') → Q (.panic c₁) a cs w' := by
      rintro v' w' ⟨φ', u', e, hv, hp⟩
      simp only [Ending.panicked.injEq] at e; subst e
      exact hn φ' _ w' hv (h3.trans hp hs1 hst)
    cases f with
    | fn f =>
      have h1' : (o.semAt ro a.eval).run P w = .ok (.enter f args') w₁ := by rw [Oper.semAt_eq ro _ _ hnd]; exact h1
      exact ops_enter ho hw h1' hcall' (fun v w'' ⟨_, _, e, _⟩ => by cases e) hgo (fun w'' ⟨_, _, e, _⟩ => by cases e)
    | yld id =>
      obtain ⟨e1, e, g1, g2⟩ := h1
      subst e1
      obtain ⟨l, f, tmps, assign, body, q1, q2⟩ := hcall' e g1
      have h1' : (o.semAt ro a.eval).run P w₁ = .ok (.round l f tmps assign body) w₁ := by rw [Oper.semAt_eq ro _ _ hnd, g2, q1]
      exact ops_round ho hw h1' q2 (fun v w'' ⟨_, _, e, _⟩ => by cases e) hgo (fun w'' ⟨_, _, e, _⟩ => by cases e)

theorem step_dfr (hi : Inv R C D φ σ w) (he : EnvR φ nt env a) (ho : ops[i]? = some o) (hw : Region.wanted o (yielded ops a.tmps) = true) {d : ADef} {σ' : St}
    (hr : opA P C env σ o = .dfr d σ') (hk : Known D σ σ') (hf : Free φ σ σ')
    (hn : ∀ φ' d' w', DfR φ' d d' → Post R D φ σ w σ' φ' w' → RunsOps P none dk ops rest Q ({ a with defers := d' :: a.defers }.put o.dst undef) cs w') :
    RunsOps P none dk ops (i :: rest) Q a cs w := by
  have := opA_ok (P := P) (o := o) hi he (fun τ ht => by rw [hr] at ht; simp only [OR.st, Option.some.injEq] at ht; subst ht; exact hk) (fun τ ht => by rw [hr] at ht; simp only [OR.st, Option.some.injEq] at ht; subst ht; exact hf)
  rw [hr] at this
  obtain ⟨φ', w', d', h1, h2, h3⟩ := this
  exact ops_defer ho hw h1 (hn φ' d' w' h2 h3)

theorem step_rcv (hi : Inv R C D φ σ w) (he : EnvR φ nt env a) {σ' : St} (hr : opA P C env σ o = .rcv σ') (hk : Known D σ σ') (hf : Free φ σ σ') :
    (o.semAt none a.eval).run P w = .ok .recover w ∧ Post R D φ σ w σ' φ w := by
  have := opA_ok (P := P) (o := o) hi he (fun τ ht => by rw [hr] at ht; simp only [OR.st, Option.some.injEq] at ht; subst ht; exact hk) (fun τ ht => by rw [hr] at ht; simp only [OR.st, Option.some.injEq] at ht; subst ht; exact hf)
  rw [hr] at this
  exact this
end step

omit [Val] in
theorem in_wpIn {ro : Option Nat} {o : Oper} {a : Act} {w : World} {next : Act → World → Prop} {Q : Exit → Act → World → Prop}
    (h : o.uponIn (wideR ro) 0 P a next Q ((o.semAt ro a.eval).run P w)) : o.wpIn (wideR ro) 0 P a w next Q := ⟨fun _ _ => trivial, h⟩

/-- What an operation does that gives a value, in a region that draws its order. -/
theorem in_val {nt : Nat} {env : Env} {σ : St} {o : Oper} {D : Nat → Prop} {φ : PM} {w : World} {a : Act} {ro : Option Nat} {next : Act → World → Prop} {Q : Exit → Act → World → Prop}
    (hi : Inv R C D φ σ w) (he : EnvR φ nt env a) {v : AV} {σ' : St} (hr : opA P C env σ o = .val v σ') (hk : Known D σ σ') (hf : Free φ σ σ')
    (hn : ∀ φ' v' w', VR φ' v v' → Post R D φ σ w σ' φ' w' → next (a.put o.dst v') w') : o.wpIn (wideR ro) 0 P a w next Q := by
  have := opA_ok (P := P) (o := o) hi he (fun τ ht => by rw [hr] at ht; simp only [OR.st, Option.some.injEq] at ht; subst ht; exact hk) (fun τ ht => by rw [hr] at ht; simp only [OR.st, Option.some.injEq] at ht; subst ht; exact hf)
  rw [hr] at this
  obtain ⟨φ', w', n, v', h1, h2, h3, h4⟩ := this
  have hnd := opA_nodefer hr (by simp) (by simp)
  rw [← Oper.semAt_eq ro _ _ hnd] at h1
  refine in_wpIn ?_
  rw [h1]
  rcases h2 with rfl | ⟨rfl, rfl⟩
  · exact hn φ' v' w' h3 h4
  · exact hn φ' undef w' h3 h4

theorem in_call {call : Cle → List AV → St → CR} {nt : Nat} {env : Env} {σ : St} {o : Oper} {D : Nat → Prop} {φ : PM} {w : World} {a : Act} {ro : Option Nat} {next : Act → World → Prop}
    {Q : Exit → Act → World → Prop} (hc : CallOk P R C call) (hi : Inv R C D φ σ w) (he : EnvR φ nt env a) {f : Cle} {args : List AV} {τ σ' : St} {v : AV}
    (hr : opA P C env σ o = .call f args τ) (hcall : call f args τ = .ret v σ') (hst : StepA τ σ') (hk : Known D σ σ') (hf : Free φ σ σ')
    (hn : ∀ φ' v' w', VR φ' v v' → Post R D φ σ w σ' φ' w' → next (a.put o.dst v') w') : o.wpIn (wideR ro) 0 P a w next Q := by
  have hsteps := opA_steps (P := P) (C := C) (env := env) (σ := σ) (o := o)
  have hs1 : StepA σ τ := hsteps τ (by rw [hr]; rfl)
  have hnd := opA_nodefer hr (by simp) (by simp)
  have := opA_ok (P := P) (o := o) hi he (fun υ ht => by rw [hr] at ht; simp only [OR.st, Option.some.injEq] at ht; subst ht; exact hk.mono hst) (fun υ ht => by rw [hr] at ht; simp only [OR.st, Option.some.injEq] at ht; subst ht; exact hf.mono hst)
  rw [hr] at this
  obtain ⟨φ₁, w₁, args', h1, h2, h3⟩ := this
  have hcall' := (hc f args τ (More D σ) φ₁ w₁ args' (h3.inv hi hs1) h2).1 v σ' hcall hk.then (hf.then h3 hs1)
  have hgo : ∀ e w', (∃ φ' u', e = Ending.returned u' ∧ VR φ' v u' ∧ Post R (More D σ) φ₁ τ w₁ σ' φ' w') → (fun
      | .returned v, w'' => next (a.put o.dst v) w''
      | .panicked chain, w'' => Q (.panic chain) a w''
      | .outgrown, _ => LetsOut Q : Ending → World → Prop) e w' := by
    rintro e w' ⟨φ', u', rfl, hv, hp⟩
    exact hn φ' _ w' hv (h3.trans hp hs1 hst)
  refine in_wpIn ?_
  rw [Oper.semAt_eq ro _ _ hnd]
  cases f with
  | fn f =>
    have h1' : (execOp a.eval o).run P w = .ok (.enter f args') w₁ := h1
    rw [h1']
    refine ⟨fun h => by simp [wideR, Fence.wide] at h, ?_⟩
    have := (callsIn_wide (n := 0 - 1)).2 (hcall'.mono hgo)
    exact this
  | yld id =>
    obtain ⟨e1, e, g1, g2⟩ := h1
    subst e1
    obtain ⟨l, f, tmps, assign, body, q1, q2⟩ := hcall' e g1
    rw [g2, q1]
    refine ⟨fun h => by simp [wideR, Fence.wide] at h, ?_⟩
    exact q2.mono hgo

theorem in_pan {call : Cle → List AV → St → CR} {nt : Nat} {env : Env} {σ : St} {o : Oper} {D : Nat → Prop} {φ : PM} {w : World} {a : Act} {ro : Option Nat} {next : Act → World → Prop}
    {Q : Exit → Act → World → Prop} (hc : CallOk P R C call) (hi : Inv R C D φ σ w) (he : EnvR φ nt env a) {f : Cle} {args : List AV} {τ σ' : St} {c : List (AV × Bool)}
    (hr : opA P C env σ o = .call f args τ) (hcall : call f args τ = .pan c σ') (hst : StepA τ σ') (hk : Known D σ σ') (hf : Free φ σ σ')
    (hn : ∀ φ' c' w', ChainR φ' c c' → Post R D φ σ w σ' φ' w' → Q (.panic c') a w') : o.wpIn (wideR ro) 0 P a w next Q := by
  have hsteps := opA_steps (P := P) (C := C) (env := env) (σ := σ) (o := o)
  have hs1 : StepA σ τ := hsteps τ (by rw [hr]; rfl)
  have hnd := opA_nodefer hr (by simp) (by simp)
  have := opA_ok (P := P) (o := o) hi he (fun υ ht => by rw [hr] at ht; simp only [OR.st, Option.some.injEq] at ht; subst ht; exact hk.mono hst) (fun υ ht => by rw [hr] at ht; simp only [OR.st, Option.some.injEq] at ht; subst ht; exact hf.mono hst)
  rw [hr] at this
  obtain ⟨φ₁, w₁, args', h1, h2, h3⟩ := this
  have hcall' := (hc f args τ (More D σ) φ₁ w₁ args' (h3.inv hi hs1) h2).2 c σ' hcall hk.then (hf.then h3 hs1)
  have hgo : ∀ e w', (∃ φ' u', e = Ending.panicked u' ∧ ChainR φ' c u' ∧ Post R (More D σ) φ₁ τ w₁ σ' φ' w') → (fun
      | .returned v, w'' => next (a.put o.dst v) w''
      | .panicked chain, w'' => Q (.panic chain) a w''
      | .outgrown, _ => LetsOut Q : Ending → World → Prop) e w' := by
    rintro e w' ⟨φ', u', rfl, hv, hp⟩
    exact hn φ' _ w' hv (h3.trans hp hs1 hst)
  refine in_wpIn ?_
  rw [Oper.semAt_eq ro _ _ hnd]
  cases f with
  | fn f =>
    have h1' : (execOp a.eval o).run P w = .ok (.enter f args') w₁ := h1
    rw [h1']
    refine ⟨fun h => by simp [wideR, Fence.wide] at h, ?_⟩
    have := (callsIn_wide (n := 0 - 1)).2 (hcall'.mono hgo)
    exact this
  | yld id =>
    obtain ⟨e1, e, g1, g2⟩ := h1
    subst e1
    obtain ⟨l, f, tmps, assign, body, q1, q2⟩ := hcall' e g1
    rw [g2, q1]
    refine ⟨fun h => by simp [wideR, Fence.wide] at h, ?_⟩
    exact q2.mono hgo

theorem unit_undef (φ : PM) : VR φ unit undef := .tup _ .nil

theorem CsR.recover {φ : PM} {dk : Bool} {base cs : List Frame} {v : AV} {older : List (AV × Bool)} (h : CsR φ dk base cs (some (.panicking ((v, false) :: older)))) :
    dk = true ∧ ∃ v' cs', recoverD cs = some (v', cs') ∧ VR φ v v' ∧ CsR φ dk base cs' (some (.panicking ((v, true) :: older))) := by
  obtain ⟨h1, c₀, rest, m', h2, h3, h4⟩ := h
  cases m' with
  | panicking c' =>
    simp only [ModeR] at h4
    cases h4 with
    | cons hv ht =>
      subst h3
      refine ⟨h1, _, _, rfl, hv, h1, c₀, rest, _, h2, rfl, .cons hv ht⟩
  | _ => exact h4.elim
theorem CsR.norecover {φ : PM} {dk : Bool} {base cs : List Frame} {m : Option AMode} (h : CsR φ dk base cs m) (hm : ∀ v older, m ≠ some (.panicking ((v, false) :: older))) :
    dk = true → recoverD cs = none := by
  intro hdk
  cases m with
  | none => rw [h.1] at hdk; cases hdk
  | some m =>
    obtain ⟨h1, c₀, rest, m', h2, h3, h4⟩ := h
    subst h3
    cases m with
    | returning => cases m' <;> simp only [ModeR] at h4; rfl
    | panicking c =>
      cases m' <;> simp only [ModeR] at h4
      cases h4 with
      | nil => rfl
      | @cons v b v' l l' hv ht =>
        cases b with
        | false => exact absurd rfl (hm _ _)
        | true => rfl

theorem runOps_ok {call : Cle → List AV → St → CR} (hc : CallOk P R C call) (hcs : CallSteps call) {nt : Nat} {ops : Array Oper} {ro : Option Nat} {dk : Bool} {base : List Frame} :
    ∀ (l : List Oper) (k : Nat) (env : Env) (σ : St) (a : Act) (cs : List Frame) (w : World) (φ : PM) (D : Nat → Prop) (e : AExit) (env' : Env) (σ' : St),
      runOps P C call nt ops l env σ = .ok e env' σ' → (∀ j, l[j]? = ops[k + j]?) → Inv R C D φ σ w → FrmR φ nt env a → CsR φ dk base cs env.md → env.rd = ro.isSome → Known D σ σ' → Free φ σ σ' →
      ∀ (Q : Exit → Act → List Frame → World → Prop), (∀ φ' e' a' cs' w', ExitR φ' e e' → FrmR φ' nt env' a' → CsR φ' dk base cs' env'.md → env'.rd = ro.isSome → Post R D φ σ w σ' φ' w' → Q e' a' cs' w') →
      RunsOps P ro dk ops (List.range' k l.length) Q a cs w := by
  intro l
  induction l with
  | nil =>
    intro k env σ a cs w φ D e env' σ' h _ hi he hm hrd hk hf Q hQ
    simp only [runOps, XR.ok.injEq] at h
    obtain ⟨rfl, rfl, rfl⟩ := h
    exact ops_nil (hQ φ .normal a cs w trivial he hm hrd (.same hi rfl rfl rfl))
  | cons o rest ih =>
    intro k env σ a cs w φ D e env' σ' h hl hi he hm hrd hk hf Q hQ
    have hok : ops[k]? = some o := by have := hl 0; simpa using this.symm
    have hrest : ∀ j, rest[j]? = ops[k + 1 + j]? := fun j => by have := hl (j + 1); simpa [Nat.add_assoc, Nat.add_comm 1 j] using this
    simp only [List.length_cons, List.range'_succ]
    unfold runOps at h
    split at h
    · cases h
    · rename_i hw
      have hw := wantedA_ok hi.pin hi.dec he.ev hw
      split at h
      · rename_i env1 hp
        obtain ⟨p1, p2, p3⟩ := putA_keep hp
        exact ops_unwanted hok hw (ih (k + 1) env1 σ _ cs w φ D e env' σ' h hrest hi (he.put hp (unit_undef φ)) (p2 ▸ hm) (p3.trans hrd) hk hf Q hQ)
      · cases h
    · rename_i hw
      have hw := wantedA_ok hi.pin hi.dec he.ev hw
      have hsteps := opA_steps (P := P) (C := C) (env := env) (σ := σ) (o := o)
      have hgo : ∀ (v : AV) (τ : St), StepA σ τ → (match putA nt env o.dst v with | some env => runOps P C call nt ops rest env τ | none => .no) = XR.ok e env' σ' →
          StepA τ σ' ∧ ∀ φ' v' w', VR φ' v v' → Post R D φ σ w τ φ' w' → RunsOps P ro dk ops (List.range' (k + 1) rest.length) Q (a.put o.dst v') cs w' := by
        intro v τ hs1 h
        split at h
        · rename_i env1 hp
          obtain ⟨p1, p2, p3⟩ := putA_keep hp
          have hs2 : StepA τ σ' := runOps_steps hcs rest env1 τ σ' (by rw [h]; rfl)
          refine ⟨hs2, fun φ' v' w' hv hpost => ?_⟩
          exact ih (k + 1) env1 τ _ cs w' φ' (More D σ) e env' σ' h hrest (hpost.inv hi hs1) ((he.mono hpost.le).put hp hv) (p2 ▸ hm.mono hpost.le) (p3.trans hrd) hk.then (hf.then hpost hs1) Q
            (fun φ'' e' a' cs' w'' h1 h2 h3 h4 h5 => hQ φ'' e' a' cs' w'' h1 h2 h3 h4 (hpost.trans h5 hs1 hs2))
        · cases h
      split at h
      · rename_i v τ hr
        have hs1 : StepA σ τ := hsteps τ (by rw [hr]; rfl)
        obtain ⟨hs2, hgo⟩ := hgo v τ hs1 h
        exact step_val hi he.ev hok hw hr (hk.mono hs2) (hf.mono hs2) hgo
      · rename_i d τ hr
        have hs1 : StepA σ τ := hsteps τ (by rw [hr]; rfl)
        simp only [cond_eq_ite] at h
        split at h
        · cases h
        · rename_i hrd'
          have hron : ro = none := by
            have : env.rd = false := by simpa using hrd'
            rw [hrd] at this
            cases ro with
            | none => rfl
            | some l => cases this
          subst hron
          split at h
          · rename_i env1 hp
            obtain ⟨p1, p2, p3⟩ := putA_keep hp
            have hs2 : StepA τ σ' := runOps_steps hcs rest env1 τ σ' (by rw [h]; rfl)
            refine step_dfr hi he.ev hok hw hr (hk.mono hs2) (hf.mono hs2) fun φ' d' w' hd hpost => ?_
            have hfr : FrmR φ' nt { env with ds := d :: env.ds } { a with defers := d' :: a.defers } := ⟨(he.ev.mono hpost.le).same rfl rfl, .cons hd (he.dfs.mono hpost.le)⟩
            exact ih (k + 1) env1 τ _ cs w' φ' (More D σ) e env' σ' h hrest (hpost.inv hi hs1) (hfr.put hp (unit_undef φ')) (p2 ▸ hm.mono hpost.le) (p3.trans hrd) hk.then (hf.then hpost hs1) Q
              (fun φ'' e' a' cs' w'' h1 h2 h3 h4 h5 => hQ φ'' e' a' cs' w'' h1 h2 h3 h4 (hpost.trans h5 hs1 hs2))
          · cases h
      · rename_i v τ hr
        simp only [XR.ok.injEq] at h
        obtain ⟨rfl, rfl, rfl⟩ := h
        refine step_pan hi he.ev hok hw hr hk hf fun φ' v' w' hv hpost => ?_
        exact hQ φ' _ a cs w' (.cons hv .nil) (he.mono hpost.le) (hm.mono hpost.le) hrd hpost
      · rename_i τ hr
        have hs1 : StepA σ τ := hsteps τ (by rw [hr]; rfl)
        simp only [cond_eq_ite] at h
        split at h
        · cases h
        · rename_i hrd'
          have hron : ro = none := by
            have : env.rd = false := by simpa using hrd'
            rw [hrd] at this
            cases ro with
            | none => rfl
            | some l => cases this
          subst hron
          have hgo2 : ∀ (env1 : Env), runOps P C call nt ops rest env1 τ = XR.ok e env' σ' → StepA τ σ' :=
            fun env1 h => runOps_steps hcs rest env1 τ σ' (by rw [h]; rfl)
          split at h
          · rename_i v older hmd
            split at h
            · rename_i env1 hp
              obtain ⟨p1, p2, p3⟩ := putA_keep hp
              have hs2 := hgo2 _ h
              obtain ⟨r1, hpost⟩ := step_rcv (P := P) hi he.ev hr (hk.mono hs2) (hf.mono hs2)
              rw [hmd] at hm
              obtain ⟨hdk, v', cs', hrec, hv, hm'⟩ := hm.recover
              subst hdk
              have hfr : FrmR φ nt { env with md := some (.panicking ((v, true) :: older)) } a := ⟨he.ev.same rfl rfl, he.dfs⟩
              exact ops_recover hok hw r1 hrec (ih (k + 1) env1 τ _ cs' w φ (More D σ) e env' σ' h hrest (hpost.inv hi hs1) (hfr.put hp hv) (p2 ▸ hm') (p3.trans hrd) hk.then (hf.then hpost hs1) Q
                (fun φ'' e' a' cs' w'' h1 h2 h3 h4 h5 => hQ φ'' e' a' cs' w'' h1 h2 h3 h4 (hpost.trans h5 hs1 hs2)))
            · cases h
          · rename_i hmd
            split at h
            · rename_i env1 hp
              obtain ⟨p1, p2, p3⟩ := putA_keep hp
              have hs2 := hgo2 _ h
              obtain ⟨r1, hpost⟩ := step_rcv (P := P) hi he.ev hr (hk.mono hs2) (hf.mono hs2)
              exact ops_recover_none hok hw r1 (hm.norecover fun v older => hmd v older) (ih (k + 1) env1 τ _ cs w φ (More D σ) e env' σ' h hrest (hpost.inv hi hs1) (he.put hp .nili) (p2 ▸ hm) (p3.trans hrd) hk.then (hf.then hpost hs1) Q
                (fun φ'' e' a' cs' w'' h1 h2 h3 h4 h5 => hQ φ'' e' a' cs' w'' h1 h2 h3 h4 (hpost.trans h5 hs1 hs2)))
            · cases h
      · rename_i f args τ hr
        have hs1 : StepA σ τ := hsteps τ (by rw [hr]; rfl)
        split at h
        · rename_i v υ hcall
          have hs2 : StepA τ υ := hcs f args τ υ (by rw [hcall]; rfl)
          obtain ⟨hs3, hgo⟩ := hgo v υ (hs1.trans hs2) h
          exact (step_call hc hi he.ev hok hw hr).1 v υ hcall hs2 (hk.mono hs3) (hf.mono hs3) hgo
        · rename_i c υ hcall
          simp only [XR.ok.injEq] at h
          obtain ⟨rfl, rfl, rfl⟩ := h
          have hs2 : StepA τ υ := hcs f args τ υ (by rw [hcall]; rfl)
          refine (step_call hc hi he.ev hok hw hr).2 c υ hcall hs2 hk hf fun φ' c' w' hv hpost => ?_
          exact hQ φ' _ a cs w' hv (he.mono hpost.le) (hm.mono hpost.le) hrd hpost
        · cases h
      · cases h
end
end Go.Tw
