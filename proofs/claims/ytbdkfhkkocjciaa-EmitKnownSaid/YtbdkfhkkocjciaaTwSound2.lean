/-
  A part of the proof that the abstract evaluator is sound for the model's machine. Conditions: those of each theorem, as it states them.
-/
import Derived.Test.YtbdkfhkkocjciaaTwSound
namespace Go.Tw
section
variable {P : Program} {R : Nat} {C : Cfg}

/-- What holds behind code that the evaluator has run. -/
def XPost (R : Nat) (D : Nat → Prop) (φ : PM) (σ : St) (w : World) (nt : Nat) (e : AExit) (env' : Env) (σ' : St) (e' : Exit) (a' : Act) (w' : World) : Prop :=
  ∃ φ', ExitR φ' e e' ∧ EnvR φ' nt env' a' ∧ a'.defers = [] ∧ Post R D φ σ w σ' φ' w'

theorem XPost.chain {D : Nat → Prop} {φ φ1 : PM} {σ σ1 σ' : St} {w w1 : World} {nt : Nat} {e : AExit} {env' : Env} {e' : Exit} {a' : Act} {w' : World}
    (h : Post R D φ σ w σ1 φ1 w1) (s1 : StepA σ σ1) (s2 : StepA σ1 σ') (k : XPost R (More D σ) φ1 σ1 w1 nt e env' σ' e' a' w') :
    XPost R D φ σ w nt e env' σ' e' a' w' := by
  obtain ⟨φ', h1, h2, h3, h4⟩ := k
  exact ⟨φ', h1, h2, h3, h.trans h4 s1 s2⟩

/-- What the evaluator says of code with so much fuel holds. -/
def ExecOk (P : Program) (R : Nat) (C : Cfg) (n : Nat) : Prop :=
  ∀ (nt : Nat) (c : Code) (env : Env) (σ : St) (e : AExit) (env' : Env) (σ' : St) (D : Nat → Prop) (φ : PM) (a : Act) (w : World),
    exec P C n nt c env σ = .ok e env' σ' → Inv R C D φ σ w → EnvR φ nt env a → a.defers = [] → Known D σ σ' → Free φ σ σ' →
    c.wp P (XPost R D φ σ w nt e env' σ') a w

/-- And of a loop that is under way. -/
def LoopOk (P : Program) (R : Nat) (C : Cfg) (n : Nat) : Prop :=
  ∀ (nt : Nat) (c : Code) (env : Env) (σ : St) (e : AExit) (env' : Env) (σ' : St) (D : Nat → Prop) (φ : PM) (a : Act) (w : World),
    exec P C n nt (.loop c) env σ = .ok e env' σ' → Inv R C D φ σ w → EnvR φ nt env a → a.defers = [] → Known D σ σ' → Free φ σ σ' →
    ∀ (b : Frame) (k : List Item) (cs : List Frame), ∃ e' a' w', XPost R D φ σ w nt e env' σ' e' a' w' ∧ Arrives P (lone (b.at a (.code c :: .inLoop c :: k)) cs w) b k cs e' a' w'

theorem exit_normal {φ : PM} {e' : Exit} (h : ExitR φ .normal e') : e' = .normal := by cases e' <;> simp_all [ExitR]
theorem exit_not_normal {φ : PM} {e : AExit} {e' : Exit} (h : ExitR φ e e') (hn : e ≠ .normal) : e' ≠ .normal := by
  cases e <;> cases e' <;> simp_all [ExitR]

theorem loop_next (hs : CallSteps C.hk) {n : Nat} (hx : ExecOk P R C n) (hl : LoopOk P R C n) : LoopOk P R C (n + 1) := by
  intro nt c env σ e env' σ' D φ a w h hi he hd hk hf b k cs
  simp only [exec] at h
  split at h
  · rename_i env1 σ1 h1
    have s1 : StepA σ σ1 := exec_steps hs n nt c env σ σ1 (by rw [h1]; rfl)
    have s2 : StepA σ1 σ' := exec_steps hs n nt (.loop c) env1 σ1 σ' (by rw [h]; rfl)
    obtain ⟨e1, a1, w1, ⟨φ1, g1, g2, g3, g4⟩, harr⟩ := hx nt c env σ _ _ _ D φ a w h1 hi he hd (hk.mono s2) (hf.mono s2) b (.inLoop c :: k) cs
    have := exit_normal g1
    subst this
    obtain ⟨e2, a2, w2, q, harr2⟩ := hl nt c env1 σ1 e env' σ' (More D σ) φ1 a1 w1 h (g4.inv hi s1) g2 g3 hk.then (hf.then g4 s1) b k cs
    exact ⟨e2, a2, w2, q.chain g4 s1 s2, .of_steps (Steps.trans harr (.one step_inLoop)) harr2⟩
  · rename_i hne
    obtain ⟨e1, a1, w1, q, harr⟩ := hx nt c env σ e env' σ' D φ a w h hi he hd hk hf b (.inLoop c :: k) cs
    have hnn : e1 ≠ .normal := by
      obtain ⟨φ1, g1, _⟩ := q
      refine exit_not_normal g1 fun h' => ?_
      subst h'
      exact hne _ _ h
    exact ⟨e1, a1, w1, q, .pass (x := .inLoop c) rfl (fun _ _ => .inl hnn) harr⟩

theorem scope_ok (hs : CallSteps C.hk) {n nt : Nat} (hx : ExecOk P R C n) {c : Code} {b : Frame} {K : List Item} {cs : List Frame} {m : Machine} :
    ∀ (j : Nat) (D : Nat → Prop) (φ : PM) (σ : St) (w : World) (e0 : AExit) (env0 : Env) (σ0 : St) (e0' : Exit) (a0 : Act) (w0 : World) (e : AExit) (env' : Env) (σ' : St),
      scopeA (exec P C n nt) j c (.ok e0 env0 σ0) = .ok e env' σ' → Inv R C D φ σ w → StepA σ σ0 → Known D σ σ' → Free φ σ σ' → XPost R D φ σ w nt e0 env0 σ0 e0' a0 w0 →
      Arrives P m b (.inScope c :: K) cs e0' a0 w0 → ∃ e' a' w', XPost R D φ σ w nt e env' σ' e' a' w' ∧ Arrives P m b K cs e' a' w' := by
  intro j
  induction j with
  | zero => intro D φ σ w e0 env0 σ0 e0' a0 w0 e env' σ' h; simp [scopeA] at h
  | succ j ih =>
    intro D φ σ w e0 env0 σ0 e0' a0 w0 e env' σ' h hi s0 hk hf hp harr
    unfold scopeA at h
    split at h
    · rename_i l env1 σ1 heq
      simp only [XR.ok.injEq] at heq
      obtain ⟨rfl, rfl, rfl⟩ := heq
      obtain ⟨φ1, g1, g2, g3, g4⟩ := hp
      have hl : e0' = .goto l := by cases e0' <;> simp_all [ExitR]
      subst hl
      split at h
      · rename_i rest hfl
        cases hr : exec P C n nt rest env0 σ0 with
        | no => rw [hr] at h; cases j <;> simp [scopeA] at h
        | ok e1 env2 σ2 =>
          rw [hr] at h
          have s1 : StepA σ0 σ2 := exec_steps hs n nt rest env0 σ0 σ2 (by rw [hr]; rfl)
          have s2 : StepA σ2 σ' := scopeA_steps (fun c env σ => exec_steps hs n nt c env σ) j (.ok e1 env2 σ2) (xsteps_ok (StepA.refl σ2)) σ' (by rw [h]; rfl)
          have hkk : Known (More D σ) σ0 σ2 := (hk.then).mono s2
          have hff : Free φ1 σ0 σ2 := (hf.then g4 s0).mono s2
          obtain ⟨e2, a2, w2, q, harr2⟩ := hx nt rest env0 σ0 e1 env2 σ2 (More D σ) φ1 a0 w0 hr (g4.inv hi s0) g2 g3 hkk hff b (.inScope c :: K) cs
          have hg : gotoIn l (.inScope c :: K) = some (.code rest :: .inScope c :: K) := by simp [gotoIn, hfl]
          exact ih D φ σ w e1 env2 σ2 e2 a2 w2 e env' σ' h hi (s0.trans s1) hk hf (q.chain g4 s0 s1) (.of_steps (harr _ hg) harr2)
      · rename_i hfl
        simp only [XR.ok.injEq] at h
        obtain ⟨rfl, rfl, rfl⟩ := h
        exact ⟨.goto l, a0, w0, ⟨φ1, g1, g2, g3, g4⟩, fun k' hk' => harr k' (by simp [gotoIn, hfl, hk'])⟩
    · rename_i hne
      simp only [XR.ok.injEq] at h
      obtain ⟨rfl, rfl, rfl⟩ := h
      have hng : ∀ l, e0' ≠ .goto l := by
        intro l hl
        subst hl
        obtain ⟨φ1, g1, _⟩ := hp
        cases e0 with
        | goto i => exact hne _ _ _ rfl
        | _ => exact g1
      refine ⟨e0', a0, w0, hp, ?_⟩
      cases e0' with
      | normal => exact Steps.trans harr (.one step_inScope)
      | exit id => exact fun k' hk' => harr k' (by simp [exitTo, hk'])
      | goto l => exact absurd rfl (hng l)
      | ret => exact harr
      | panic ch => exact harr
      | outgrown => exact harr

theorem exec_next (hs : CallSteps C.hk) (hm : P.follows .mixedOrders = true) {n : Nat} (hx : ExecOk P R C n) (hl : LoopOk P R C (n + 1))
    (hc : CallOk P R C (callA P C (exec P C n))) : ExecOk P R C (n + 1) := by
  have hcs : CallSteps (callA P C (exec P C n)) := callA_steps hs (exec_steps hs n)
  intro nt c env σ e env' σ' D φ a w h hi he hd hk hf
  cases c with
  | skip =>
    simp only [exec, XR.ok.injEq] at h
    obtain ⟨rfl, rfl, rfl⟩ := h
    exact wp_skip ⟨φ, trivial, he, hd, .same hi rfl rfl rfl⟩
  | label l =>
    simp only [exec, XR.ok.injEq] at h
    obtain ⟨rfl, rfl, rfl⟩ := h
    exact wp_label ⟨φ, trivial, he, hd, .same hi rfl rfl rfl⟩
  | ret =>
    simp only [exec, XR.ok.injEq] at h
    obtain ⟨rfl, rfl, rfl⟩ := h
    exact wp_ret ⟨φ, trivial, he, hd, .same hi rfl rfl rfl⟩
  | exit id =>
    simp only [exec, XR.ok.injEq] at h
    obtain ⟨rfl, rfl, rfl⟩ := h
    exact wp_exit ⟨φ, rfl, he, hd, .same hi rfl rfl rfl⟩
  | goto l =>
    simp only [exec, XR.ok.injEq] at h
    obtain ⟨rfl, rfl, rfl⟩ := h
    exact wp_goto ⟨φ, rfl, he, hd, .same hi rfl rfl rfl⟩
  | seq x y =>
    simp only [exec] at h
    split at h
    · rename_i env1 σ1 h1
      have s1 : StepA σ σ1 := exec_steps hs n nt x env σ σ1 (by rw [h1]; rfl)
      have s2 : StepA σ1 σ' := exec_steps hs n nt y env1 σ1 σ' (by rw [h]; rfl)
      refine wp_seq (wp_mono (hx nt x env σ _ _ _ D φ a w h1 hi he hd (hk.mono s2) (hf.mono s2)) fun e1 a1 w1 q => ?_)
      obtain ⟨φ1, g1, g2, g3, g4⟩ := q
      have := exit_normal g1
      subst this
      exact wp_mono (hx nt y env1 σ1 e env' σ' (More D σ) φ1 a1 w1 h (g4.inv hi s1) g2 g3 hk.then (hf.then g4 s1)) fun e2 a2 w2 q => q.chain g4 s1 s2
    · rename_i hne
      refine wp_seq (wp_mono (hx nt x env σ e env' σ' D φ a w h hi he hd hk hf) fun e1 a1 w1 q => ?_)
      have hnn : e1 ≠ .normal := by
        obtain ⟨φ1, g1, _⟩ := q
        refine exit_not_normal g1 fun h' => ?_
        subst h'
        exact hne _ _ h
      cases e1 with
      | normal => exact absurd rfl hnn
      | _ => exact q
  | cond x y z =>
    simp only [exec] at h
    split at h
    · rename_i hv
      have hb := evalO_ok he hi hv
      have hb : a.eval x = .bool true := by generalize a.eval x = v at hb; cases hb; rfl
      exact wp_cond_true hb (hx nt y env σ e env' σ' D φ a w h hi he hd hk hf)
    · rename_i hv
      have hb := evalO_ok he hi hv
      have hb : a.eval x = .bool false := by generalize a.eval x = v at hb; cases hb; rfl
      exact wp_cond_false hb (hx nt z env σ e env' σ' D φ a w h hi he hd hk hf)
    · cases h
  | block id x =>
    simp only [exec] at h
    split at h
    · rename_i j env1 σ1 h1
      simp only [cond_eq_ite] at h
      split at h
      · rename_i hj
        simp only [XR.ok.injEq] at h
        obtain ⟨rfl, rfl, rfl⟩ := h
        refine wp_block (wp_mono (hx nt x env σ _ _ _ D φ a w h1 hi he hd hk hf) fun e1 a1 w1 q => ?_)
        obtain ⟨φ1, g1, g2, g3, g4⟩ := q
        cases e1 <;> simp only [ExitR] at g1
        subst g1
        simp only [Exit.inBlock, beq_t hj, if_true]
        exact ⟨φ1, trivial, g2, g3, g4⟩
      · rename_i hj
        simp only [XR.ok.injEq] at h
        obtain ⟨rfl, rfl, rfl⟩ := h
        refine wp_block (wp_mono (hx nt x env σ _ _ _ D φ a w h1 hi he hd hk hf) fun e1 a1 w1 q => ?_)
        obtain ⟨φ1, g1, g2, g3, g4⟩ := q
        cases e1 <;> simp only [ExitR] at g1
        subst g1
        have : j ≠ id := beq_f (Bool.not_eq_true _ ▸ hj)
        simp only [Exit.inBlock, this, if_false]
        exact ⟨φ1, rfl, g2, g3, g4⟩
    · rename_i hne
      refine wp_block (wp_mono (hx nt x env σ e env' σ' D φ a w h hi he hd hk hf) fun e1 a1 w1 q => ?_)
      cases e1 with
      | exit j =>
        exfalso
        obtain ⟨φ1, g1, _⟩ := q
        cases e <;> simp only [ExitR] at g1
        exact hne _ _ _ h
      | _ => exact q
  | loop x =>
    intro b k cs
    obtain ⟨e1, a1, w1, q, harr⟩ := hl nt x env σ e env' σ' D φ a w h hi he hd hk hf b k cs
    exact ⟨e1, a1, w1, q, .of_steps (.one step_loop) harr⟩
  | scope x =>
    simp only [exec] at h
    intro b k cs
    cases hr : exec P C n nt x env σ with
    | no => rw [hr] at h; cases n <;> simp [scopeA] at h
    | ok e0 env0 σ0 =>
      rw [hr] at h
      have s0 : StepA σ σ0 := exec_steps hs n nt x env σ σ0 (by rw [hr]; rfl)
      have s2 : StepA σ0 σ' := scopeA_steps (fun c env σ => exec_steps hs n nt c env σ) n (.ok e0 env0 σ0) (xsteps_ok (StepA.refl σ0)) σ' (by rw [h]; rfl)
      obtain ⟨e1, a1, w1, q, harr⟩ := hx nt x env σ e0 env0 σ0 D φ a w hr hi he hd (hk.mono s2) (hf.mono s2) b (.inScope x :: k) cs
      obtain ⟨e2, a2, w2, q2, harr2⟩ := scope_ok hs hx n D φ σ w e0 env0 σ0 e1 a1 w1 e env' σ' h hi s0 hk hf q harr
      exact ⟨e2, a2, w2, q2, .of_steps (.one step_scope) harr2⟩
  | region id ops d =>
    cases d with
    | false =>
      simp only [exec] at h
      refine wp_region ?_
      rw [List.range_eq_range', ← Array.length_toList]
      exact runOps_ok hc hcs _ 0 env σ a w φ D e env' σ' h (by simp) hi he hd hk hf _ fun φ' e' a' w' h1 h2 h3 h4 => ⟨φ', h1, h2, h3, h4⟩
    | true =>
      simp only [exec] at h
      exact drawA_ok hc hcs hm h hi he hd hk hf fun φ' e' a' w' h1 h2 h3 h4 => ⟨φ', h1, h2, h3, h4⟩
  | rangeFunc f ps x y => simp [exec] at h
  | refuse m => simp [exec] at h
end
end Go.Tw
