/-
  A part of the proof that the abstract evaluator is sound for the model's machine. Conditions: those of each theorem, as it states them.
-/
import Derived.Test.YtkddndlkblhldaaGreatTwSound
namespace Go.Tw
section
variable [Val]
variable {P : Program} {R : Nat} {C : Cfg}

/-- What holds behind code that the evaluator has run. -/
def XPost (R : Nat) (D : Nat → Prop) (φ : PM) (σ : St) (w : World) (nt : Nat) (ro : Option Nat) (dk : Bool) (base : List Frame) (e : AExit) (env' : Env) (σ' : St)
    (e' : Exit) (a' : Act) (cs' : List Frame) (w' : World) : Prop :=
  ∃ φ', ExitR φ' e e' ∧ FrmR φ' nt env' a' ∧ CsR φ' dk base cs' env'.md ∧ env'.rd = ro.isSome ∧ Post R D φ σ w σ' φ' w'

section
variable {D : Nat → Prop} {φ φ1 : PM} {σ σ1 σ' : St} {w w1 : World} {nt : Nat} {ro : Option Nat} {dk : Bool} {base : List Frame} {e : AExit} {env' : Env} {e' : Exit} {a' : Act} {cs' : List Frame} {w' : World}
theorem XPost.chain (h : Post R D φ σ w σ1 φ1 w1) (s1 : StepA σ σ1) (s2 : StepA σ1 σ') (k : XPost R (More D σ) φ1 σ1 w1 nt ro dk base e env' σ' e' a' cs' w') :
    XPost R D φ σ w nt ro dk base e env' σ' e' a' cs' w' := by
  obtain ⟨φ', h1, h2, h3, h4, h5⟩ := k
  exact ⟨φ', h1, h2, h3, h4, h.trans h5 s1 s2⟩
end

/-- What the evaluator says of code with so much fuel holds. -/
def ExecOk (P : Program) (R : Nat) (C : Cfg) (n : Nat) : Prop :=
  ∀ (nt : Nat) (c : Code) (env : Env) (σ : St) (e : AExit) (env' : Env) (σ' : St) (D : Nat → Prop) (φ : PM) (a : Act) (cs : List Frame) (w : World) (ro : Option Nat) (dk : Bool) (base : List Frame),
    exec P C n nt c env σ = .ok e env' σ' → Inv R C D φ σ w → FrmR φ nt env a → CsR φ dk base cs env.md → env.rd = ro.isSome → Known D σ σ' → Free φ σ σ' →
    Runs P ro dk c (XPost R D φ σ w nt ro dk base e env' σ') a cs w

/-- And of a loop that is under way. -/
def LoopOk (P : Program) (R : Nat) (C : Cfg) (n : Nat) : Prop :=
  ∀ (nt : Nat) (c : Code) (env : Env) (σ : St) (e : AExit) (env' : Env) (σ' : St) (D : Nat → Prop) (φ : PM) (a : Act) (cs : List Frame) (w : World) (ro : Option Nat) (dk : Bool) (base : List Frame),
    exec P C n nt (.loop c) env σ = .ok e env' σ' → Inv R C D φ σ w → FrmR φ nt env a → CsR φ dk base cs env.md → env.rd = ro.isSome → Known D σ σ' → Free φ σ σ' →
    ∀ (b : Frame) (k : List Item), b.roundOf = ro → b.kind = kindOf dk → ∃ e' a' cs' w', XPost R D φ σ w nt ro dk base e env' σ' e' a' cs' w' ∧
      ArrivesIn (Machine.fenced P Fence.wide) P (lone (b.atR a (.code c :: .inLoop c :: k)) cs w) b k cs' e' a' w'

theorem exit_normal {φ : PM} {e' : Exit} (h : ExitR φ .normal e') : e' = .normal := by cases e' <;> simp_all [ExitR]
theorem exit_not_normal {φ : PM} {e : AExit} {e' : Exit} (h : ExitR φ e e') (hn : e ≠ .normal) : e' ≠ .normal := by
  cases e <;> cases e' <;> simp_all [ExitR]

theorem loop_next (hs : HkSteps C) {n : Nat} (hx : ExecOk P R C n) (hl : LoopOk P R C n) : LoopOk P R C (n + 1) := by
  intro nt c env σ e env' σ' D φ a cs w ro dk base h hi he hm hrd hk hf b k hb hkd
  simp only [exec] at h
  split at h
  · rename_i env1 σ1 h1
    have s1 : StepA σ σ1 := exec_steps hs n nt c env σ σ1 (by rw [h1]; rfl)
    have s2 : StepA σ1 σ' := exec_steps hs n nt (.loop c) env1 σ1 σ' (by rw [h]; rfl)
    obtain ⟨e1, a1, cs1, w1, ⟨φ1, g1, g2, g3, g4, g5⟩, harr⟩ := hx nt c env σ _ _ _ D φ a cs w ro dk base h1 hi he hm hrd (hk.mono s2) (hf.mono s2) b (.inLoop c :: k) hb hkd
    have := exit_normal g1
    subst this
    obtain ⟨e2, a2, cs2, w2, q, harr2⟩ := hl nt c env1 σ1 e env' σ' (More D σ) φ1 a1 cs1 w1 ro dk base h (g5.inv hi s1) g2 g3 g4 hk.then (hf.then g5 s1) b k hb hkd
    exact ⟨e2, a2, cs2, w2, q.chain g5 s1 s2, .of_steps (StepsIn.trans harr (one_wide stepR_inLoop)) harr2⟩
  · rename_i hne
    obtain ⟨e1, a1, cs1, w1, q, harr⟩ := hx nt c env σ e env' σ' D φ a cs w ro dk base h hi he hm hrd hk hf b (.inLoop c :: k) hb hkd
    have hnn : e1 ≠ .normal := by
      obtain ⟨φ1, g1, _⟩ := q
      refine exit_not_normal g1 fun h' => ?_
      subst h'
      exact hne _ _ h
    exact ⟨e1, a1, cs1, w1, q, .pass (x := .inLoop c) rfl (fun _ _ => .inl hnn) harr⟩

omit [Val] in
theorem stepR_scope {b : Frame} {a : Act} {k : List Item} {cs : List Frame} {w : World} {c : Code} : step P (lone (b.atR a (.code (.scope c) :: k)) cs w) = .next (lone (b.atR a (.code c :: .inScope c :: k)) cs w) :=
  step_lone_go (by simp [stepG, stepG.exec, Frame.atR])
omit [Val] in
theorem stepR_inScope {b : Frame} {a : Act} {k : List Item} {cs : List Frame} {w : World} {c : Code} : step P (lone (b.atR a (.inScope c :: k)) cs w) = .next (lone (b.atR a k) cs w) :=
  step_lone_go (by simp [stepG, stepG.exec, Frame.atR])

theorem scope_ok (hs : HkSteps C) {n nt : Nat} (hx : ExecOk P R C n) {c : Code} {b : Frame} {K : List Item} {m : Machine} {ro : Option Nat} {dk : Bool} {base : List Frame} (hb : b.roundOf = ro)
    (hkd : b.kind = kindOf dk) :
    ∀ (j : Nat) (D : Nat → Prop) (φ : PM) (σ : St) (w : World) (e0 : AExit) (env0 : Env) (σ0 : St) (e0' : Exit) (a0 : Act) (cs0 : List Frame) (w0 : World) (e : AExit) (env' : Env) (σ' : St),
      scopeA (exec P C n nt) j c (.ok e0 env0 σ0) = .ok e env' σ' → Inv R C D φ σ w → StepA σ σ0 → Known D σ σ' → Free φ σ σ' → XPost R D φ σ w nt ro dk base e0 env0 σ0 e0' a0 cs0 w0 →
      ArrivesIn (Machine.fenced P Fence.wide) P m b (.inScope c :: K) cs0 e0' a0 w0 →
      ∃ e' a' cs' w', XPost R D φ σ w nt ro dk base e env' σ' e' a' cs' w' ∧ ArrivesIn (Machine.fenced P Fence.wide) P m b K cs' e' a' w' := by
  intro j
  induction j with
  | zero => intro D φ σ w e0 env0 σ0 e0' a0 cs0 w0 e env' σ' h; simp [scopeA] at h
  | succ j ih =>
    intro D φ σ w e0 env0 σ0 e0' a0 cs0 w0 e env' σ' h hi s0 hk hf hp harr
    unfold scopeA at h
    split at h
    · rename_i l env1 σ1 heq
      simp only [XR.ok.injEq] at heq
      obtain ⟨rfl, rfl, rfl⟩ := heq
      obtain ⟨φ1, g1, g2, g3, g4, g5⟩ := hp
      have hl : e0' = .goto l := by cases e0' <;> simp_all [ExitR]
      subst hl
      split at h
      · rename_i rest hfl
        cases hr : exec P C n nt rest env0 σ0 with
        | no => rw [hr] at h; cases j <;> simp [scopeA] at h
        | ok e1 env2 σ2 =>
          rw [hr] at h
          have s1 : StepA σ0 σ2 := exec_steps hs n nt rest env0 σ0 σ2 (by rw [hr]; rfl)
          have s2 : StepA σ2 σ' := scopeA_steps (fun c env σ => exec_steps hs n nt c env σ) j (.ok e1 env2 σ2) (xsteps_ok (StepA.refl σ2)) σ' (by rw [h]; rfl)
          have hkk : Known (More D σ) σ0 σ2 := (hk.then).mono s2
          have hff : Free φ1 σ0 σ2 := (hf.then g5 s0).mono s2
          obtain ⟨e2, a2, cs2, w2, q, harr2⟩ := hx nt rest env0 σ0 e1 env2 σ2 (More D σ) φ1 a0 cs0 w0 ro dk base hr (g5.inv hi s0) g2 g3 g4 hkk hff b (.inScope c :: K) hb hkd
          have hg : gotoIn l (.inScope c :: K) = some (.code rest :: .inScope c :: K) := by simp [gotoIn, hfl]
          exact ih D φ σ w e1 env2 σ2 e2 a2 cs2 w2 e env' σ' h hi (s0.trans s1) hk hf (q.chain g5 s0 s1) (.of_steps (harr.1 _ hg) harr2)
      · rename_i hfl
        simp only [XR.ok.injEq] at h
        obtain ⟨rfl, rfl, rfl⟩ := h
        have hx : gotoIn l (.inScope c :: K) = gotoIn l K := by simp [gotoIn, hfl]
        exact ⟨.goto l, a0, cs0, w0, ⟨φ1, g1, g2, g3, g4, g5⟩, fun k' hk' => harr.1 k' (by rw [hx]; exact hk'), fun hr hk' => harr.2 hr (by rw [hx]; exact hk')⟩
    · rename_i hne
      simp only [XR.ok.injEq] at h
      obtain ⟨rfl, rfl, rfl⟩ := h
      have hng : ∀ l, e0' ≠ .goto l := by
        intro l hl
        subst hl
        obtain ⟨φ1, g1, _⟩ := hp
        cases e0 with
        | goto i => exact hne _ _ _ rfl
        | _ => exact g1
      refine ⟨e0', a0, cs0, w0, hp, ?_⟩
      cases e0' with
      | normal => exact StepsIn.trans harr (one_wide stepR_inScope)
      | exit id =>
        have hx : exitTo id (.inScope c :: K) = exitTo id K := by simp [exitTo]
        exact ⟨fun k' hk' => harr.1 k' (by rw [hx]; exact hk'), fun hr hk' => harr.2 hr (by rw [hx]; exact hk')⟩
      | goto l => exact absurd rfl (hng l)
      | ret => exact harr
      | panic ch => exact harr
      | outgrown => exact harr
end
end Go.Tw
