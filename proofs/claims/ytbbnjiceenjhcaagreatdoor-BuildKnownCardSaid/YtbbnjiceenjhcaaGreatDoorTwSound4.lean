/-
  A part of the proof that the abstract evaluator is sound for the model's machine. Conditions: those of each theorem, as it states them.
-/
import Derived.Test.YtbbnjiceenjhcaaGreatDoorTwSound3
import Derived.Test.YtbbnjiceenjhcaaGreatDoorTwDraw3
set_option linter.all false
namespace Go.Tw
section
variable [Val]
variable {P : Program} {R : Nat} {C : Cfg}

/-- Right summaries. -/
def HkOk (P : Program) (R : Nat) (C : Cfg) : Prop :=
  ∀ (f : FuncId) (args : List AV) (σ : St) (D : Nat → Prop) (φ : PM) (w : World) (args' : Array Value), Inv R C D φ σ w → VRL φ args args'.toList →
    (∀ v σ', C.hk f args σ = .ret v σ' → Known D σ σ' → Free φ σ σ' → Calls P f args' w fun e w' => ∃ φ' v', e = .returned v' ∧ VR φ' v v' ∧ Post R D φ σ w σ' φ' w') ∧
    (∀ c σ', C.hk f args σ = .pan c σ' → Known D σ σ' → Free φ σ σ' → Calls P f args' w fun e w' => ∃ φ' c', e = .panicked c' ∧ ChainR φ' c c' ∧ Post R D φ σ w σ' φ' w')

theorem callA_next (hs : HkSteps C) (hh : HkOk P R C) {n : Nat} (hx : ExecOk P R C n) : CallOk P R C (callA P C (exec P C n)) := by
  intro cl args σ D φ w args' hi ha
  cases cl with
  | yld id =>
    refine ⟨fun v σ' h hk hf => ?_, fun ch σ' h hk hf => ?_⟩
    · exact roundA_ok hs hx hi ha h hk hf
    · exact (roundA_nopan h).elim
  | fn f =>
    have hhk := hh f args σ D φ w args' hi ha
    have hdc := callD_ok (P := P) (R := R) hs hx
    have hds : ∀ f args m σ, (callD P (exec P C n) f args m σ).steps σ := callD_steps (exec_steps hs n)
    -- by way of the body
    have body : ∀ (r : CR), callA P C (exec P C n) (.fn f) args σ = r → r ≠ .no → C.hk f args σ = .no → ∃ fn c m e env τ, P.funcs[f]? = some fn ∧ fn.body = some c ∧ args.length ≤ fn.ntmps ∧
        exec P C n fn.ntmps c { tm := envOf args 0 .leaf, ds := [], md := none, rd := false } σ.bare = .ok e env τ ∧
        ((e = .ret ∧ m = .returning) ∨ (e = .normal ∧ m = .returning) ∨ (∃ ch, e = .panic ch ∧ m = .panicking ch)) ∧
        (∀ v σ', r = .ret v σ' → ∃ τ1, leaveA P (callD P (exec P C n)) fn env env.ds m τ = .ret v τ1 ∧ σ' = τ1.out σ) ∧
        (∀ ch σ', r = .pan ch σ' → ∃ τ1, leaveA P (callD P (exec P C n)) fn env env.ds m τ = .pan ch τ1 ∧ σ' = τ1.out σ) := by
      intro r h hr hno
      simp only [callA, hno, cond_eq_ite] at h
      split at h
      · exact absurd h.symm hr
      · rename_i fn hfn
        split at h
        · exact absurd h.symm hr
        · rename_i c hb
          split at h
          · rename_i hlen
            have hfin : ∀ (m : AMode) (env : Env) (τ : St), (match leaveA P (callD P (exec P C n)) fn env env.ds m τ with
                | .ret v τ => .ret v (τ.out σ)
                | .pan chain τ => .pan chain (τ.out σ)
                | .no => .no) = r →
                (∀ v σ', r = .ret v σ' → ∃ τ1, leaveA P (callD P (exec P C n)) fn env env.ds m τ = .ret v τ1 ∧ σ' = τ1.out σ) ∧
                (∀ ch σ', r = .pan ch σ' → ∃ τ1, leaveA P (callD P (exec P C n)) fn env env.ds m τ = .pan ch τ1 ∧ σ' = τ1.out σ) := by
              intro m env τ h
              refine ⟨fun v σ' he => ?_, fun ch σ' he => ?_⟩
              · rw [he] at h
                split at h
                · rename_i v1 τ1 hl
                  simp only [CR.ret.injEq] at h
                  obtain ⟨rfl, rfl⟩ := h
                  exact ⟨τ1, hl, rfl⟩
                · cases h
                · cases h
              · rw [he] at h
                split at h
                · cases h
                · rename_i v1 τ1 hl
                  simp only [CR.pan.injEq] at h
                  obtain ⟨rfl, rfl⟩ := h
                  exact ⟨τ1, hl, rfl⟩
                · cases h
            unfold endA at h
            cases hex : exec P C n fn.ntmps c { tm := envOf args 0 .leaf, ds := [], md := none, rd := false } σ.bare with
            | no => rw [hex] at h; exact absurd h.symm hr
            | ok e env τ =>
              rw [hex] at h
              cases e with
              | ret => obtain ⟨q1, q2⟩ := hfin .returning env τ h; exact ⟨fn, c, .returning, _, env, τ, hfn, hb, ble_t hlen, hex, .inl ⟨rfl, rfl⟩, q1, q2⟩
              | normal => obtain ⟨q1, q2⟩ := hfin .returning env τ h; exact ⟨fn, c, .returning, _, env, τ, hfn, hb, ble_t hlen, hex, .inr (.inl ⟨rfl, rfl⟩), q1, q2⟩
              | panic ch => obtain ⟨q1, q2⟩ := hfin (.panicking ch) env τ h; exact ⟨fn, c, .panicking ch, _, env, τ, hfn, hb, ble_t hlen, hex, .inr (.inr ⟨ch, rfl, rfl⟩), q1, q2⟩
              | exit i => exact absurd h.symm hr
              | goto i => exact absurd h.symm hr
          · exact absurd h.symm hr
    -- what the body's end leaves
    have go : ∀ (fn : Func) (c : Code) (m : AMode) (e : AExit) (env : Env) (τ τ1 : St) (Q : Ending → World → Prop), P.funcs[f]? = some fn → fn.body = some c → args.length ≤ fn.ntmps →
        exec P C n fn.ntmps c { tm := envOf args 0 .leaf, ds := [], md := none, rd := false } σ.bare = .ok e env τ →
        ((e = .ret ∧ m = .returning) ∨ (e = .normal ∧ m = .returning) ∨ (∃ ch, e = .panic ch ∧ m = .panicking ch)) → StepA τ τ1 → Known D σ (τ1.out σ) → Free φ σ (τ1.out σ) →
        (∀ (a' : Act) (u : FrameMode) (φ1 : PM) (w1 : World), Post R D φ σ.bare w τ φ1 w1 → Inv R C (More D σ.bare) φ1 τ w1 → FrmR φ1 fn.ntmps env a' → ModeR φ1 m u → Known (More D σ.bare) τ τ1 → Free φ1 τ τ1 →
          LeavesInM Fence.wide 0 P fn a'.tmps Q a'.defers u w1) → Calls P f args' w Q := by
      intro fn c m e env τ τ1 Q hfn hb hlen hex hee s2 hk hf hQ
      have s1 : StepA σ.bare τ := exec_steps hs n fn.ntmps c _ σ.bare τ (by rw [hex]; rfl)
      have hk1 : Known D σ.bare τ1 := hk.bare
      have hf1 : Free φ σ.bare τ1 := hf
      refine calls_of_runs hfn hb fun cs => ?_
      refine Runs.mono (hx fn.ntmps c _ σ.bare e env τ D φ _ cs w none false cs hex hi.bare (enter_env ha hlen none false) ⟨rfl, rfl⟩ rfl (hk1.mono s2) (hf1.mono s2)) fun e1 a1 cs1 w1 q => ?_
      obtain ⟨φ1, g1, g2, g3, g4, g5⟩ := q
      have hmd : env.md = none := by
        cases hm : env.md with
        | none => rfl
        | some m => rw [hm] at g3; have := g3.1; cases this
      rw [hmd] at g3
      refine ⟨g3.2, ?_⟩
      have hgo := fun (u : FrameMode) (hm : ModeR φ1 m u) => hQ a1 u φ1 w1 g5 (g5.inv hi.bare s1) g2 hm hk1.then (hf1.then g5 s1)
      rcases hee with ⟨rfl, rfl⟩ | ⟨rfl, rfl⟩ | ⟨ch, rfl, rfl⟩
      · cases e1 <;> simp only [ExitR] at g1; exact hgo .returning trivial
      · cases e1 <;> simp only [ExitR] at g1; exact hgo .returning trivial
      · cases e1 <;> simp only [ExitR] at g1; exact hgo (.panicking _) g1
    refine ⟨fun v σ' h hk hf => ?_, fun ch σ' h hk hf => ?_⟩
    · show Calls P f args' w _
      cases hno : C.hk f args σ with
      | ret v1 τ1 =>
        have : callA P C (exec P C n) (.fn f) args σ = .ret v1 τ1 := by simp only [callA, hno]
        rw [this] at h; simp only [CR.ret.injEq] at h
        obtain ⟨rfl, rfl⟩ := h
        exact hhk.1 _ _ hno hk hf
      | pan c1 τ1 =>
        have : callA P C (exec P C n) (.fn f) args σ = .pan c1 τ1 := by simp only [callA, hno]
        rw [this] at h; cases h
      | no =>
        obtain ⟨fn, c, m, e, env, τ, hfn, hb, hlen, hex, hee, hr1, _⟩ := body _ h (by simp) hno
        obtain ⟨τ1, hl, rfl⟩ := hr1 v σ' rfl
        have s1 : StepA σ.bare τ := exec_steps hs n fn.ntmps c _ σ.bare τ (by rw [hex]; rfl)
        have s2 : StepA τ τ1 := leaveA_steps hds _ _ _ τ1 (by rw [hl]; rfl)
        refine go fn c m e env τ τ1 _ hfn hb hlen hex hee s2 hk hf fun a' u φ1 w1 hp hi1 hfr hm hk1 hf1 => ?_
        exact (leaveA_ok hdc hds env.ds a'.defers m u τ (More D σ.bare) φ1 w1 hi1 hfr.ev hfr.dfs hm).1 v τ1 hl hk1 hf1 _
          fun φ' v' w' hv hp2 => ⟨φ', v', rfl, hv, (hp.trans hp2 s1 s2).outer (s1.trans s2) hi hf⟩
    · show Calls P f args' w _
      cases hno : C.hk f args σ with
      | ret v1 τ1 =>
        have : callA P C (exec P C n) (.fn f) args σ = .ret v1 τ1 := by simp only [callA, hno]
        rw [this] at h; cases h
      | pan c1 τ1 =>
        have : callA P C (exec P C n) (.fn f) args σ = .pan c1 τ1 := by simp only [callA, hno]
        rw [this] at h; simp only [CR.pan.injEq] at h
        obtain ⟨rfl, rfl⟩ := h
        exact hhk.2 _ _ hno hk hf
      | no =>
        obtain ⟨fn, c, m, e, env, τ, hfn, hb, hlen, hex, hee, _, hr2⟩ := body _ h (by simp) hno
        obtain ⟨τ1, hl, rfl⟩ := hr2 ch σ' rfl
        have s1 : StepA σ.bare τ := exec_steps hs n fn.ntmps c _ σ.bare τ (by rw [hex]; rfl)
        have s2 : StepA τ τ1 := leaveA_steps hds _ _ _ τ1 (by rw [hl]; rfl)
        refine go fn c m e env τ τ1 _ hfn hb hlen hex hee s2 hk hf fun a' u φ1 w1 hp hi1 hfr hm hk1 hf1 => ?_
        exact (leaveA_ok hdc hds env.ds a'.defers m u τ (More D σ.bare) φ1 w1 hi1 hfr.ev hfr.dfs hm).2 ch τ1 hl hk1 hf1 _
          fun φ' v' w' hv hp2 => ⟨φ', v', rfl, hv, (hp.trans hp2 s1 s2).outer (s1.trans s2) hi hf⟩

theorem exec_next (hs : HkSteps C) (hm : P.follows .mixedOrders = true) {n : Nat} (hx : ExecOk P R C n) (hl : LoopOk P R C (n + 1))
    (hc : CallOk P R C (callA P C (exec P C n))) : ExecOk P R C (n + 1) := by
  have hcs : CallSteps (callA P C (exec P C n)) := callA_steps hs (exec_steps hs n)
  intro nt c env σ e env' σ' D φ a cs w ro dk base h hi he hmd hrd hk hf
  cases c with
  | skip =>
    simp only [exec, XR.ok.injEq] at h
    obtain ⟨rfl, rfl, rfl⟩ := h
    exact runs_skip ⟨φ, trivial, he, hmd, hrd, .same hi rfl rfl rfl⟩
  | label l =>
    simp only [exec, XR.ok.injEq] at h
    obtain ⟨rfl, rfl, rfl⟩ := h
    exact runs_label ⟨φ, trivial, he, hmd, hrd, .same hi rfl rfl rfl⟩
  | ret =>
    simp only [exec, XR.ok.injEq] at h
    obtain ⟨rfl, rfl, rfl⟩ := h
    exact runs_ret ⟨φ, trivial, he, hmd, hrd, .same hi rfl rfl rfl⟩
  | exit id =>
    simp only [exec, XR.ok.injEq] at h
    obtain ⟨rfl, rfl, rfl⟩ := h
    exact runs_exit ⟨φ, rfl, he, hmd, hrd, .same hi rfl rfl rfl⟩
  | goto l =>
    simp only [exec, XR.ok.injEq] at h
    obtain ⟨rfl, rfl, rfl⟩ := h
    exact runs_goto ⟨φ, rfl, he, hmd, hrd, .same hi rfl rfl rfl⟩
  | seq x y =>
    simp only [exec] at h
    split at h
    · rename_i env1 σ1 h1
      have s1 : StepA σ σ1 := exec_steps hs n nt x env σ σ1 (by rw [h1]; rfl)
      have s2 : StepA σ1 σ' := exec_steps hs n nt y env1 σ1 σ' (by rw [h]; rfl)
      refine runs_seq (Runs.mono (hx nt x env σ _ _ _ D φ a cs w ro dk base h1 hi he hmd hrd (hk.mono s2) (hf.mono s2)) fun e1 a1 cs1 w1 q => ?_)
      obtain ⟨φ1, g1, g2, g3, g4, g5⟩ := q
      have := exit_normal g1
      subst this
      exact Runs.mono (hx nt y env1 σ1 e env' σ' (More D σ) φ1 a1 cs1 w1 ro dk base h (g5.inv hi s1) g2 g3 g4 hk.then (hf.then g5 s1)) fun e2 a2 cs2 w2 q => q.chain g5 s1 s2
    · rename_i hne
      refine runs_seq (Runs.mono (hx nt x env σ e env' σ' D φ a cs w ro dk base h hi he hmd hrd hk hf) fun e1 a1 cs1 w1 q => ?_)
      have hnn : e1 ≠ .normal := by
        obtain ⟨φ1, g1, _⟩ := q
        refine exit_not_normal g1 fun h' => ?_
        subst h'
        exact hne _ _ h
      cases e1 with
      | normal => exact absurd rfl hnn
      | _ => exact q
  | cond x y z =>
    simp only [exec] at h
    split at h
    · rename_i hv
      have hb := evalO_ok he.ev hi hv
      have hb : a.eval x = .bool true := by generalize a.eval x = v at hb; cases hb; rfl
      exact runs_cond hb (hx nt y env σ e env' σ' D φ a cs w ro dk base h hi he hmd hrd hk hf)
    · rename_i hv
      have hb := evalO_ok he.ev hi hv
      have hb : a.eval x = .bool false := by generalize a.eval x = v at hb; cases hb; rfl
      exact runs_cond hb (hx nt z env σ e env' σ' D φ a cs w ro dk base h hi he hmd hrd hk hf)
    · cases h
  | block id x =>
    simp only [exec] at h
    split at h
    · rename_i j env1 σ1 h1
      simp only [cond_eq_ite] at h
      split at h
      · rename_i hj
        simp only [XR.ok.injEq] at h
        obtain ⟨rfl, rfl, rfl⟩ := h
        refine runs_block (Runs.mono (hx nt x env σ _ _ _ D φ a cs w ro dk base h1 hi he hmd hrd hk hf) fun e1 a1 cs1 w1 q => ?_)
        obtain ⟨φ1, g1, g2⟩ := q
        cases e1 <;> simp only [ExitR] at g1
        subst g1
        simp only [inBlockS, beq_t hj, if_true]
        exact ⟨φ1, trivial, g2⟩
      · rename_i hj
        simp only [XR.ok.injEq] at h
        obtain ⟨rfl, rfl, rfl⟩ := h
        refine runs_block (Runs.mono (hx nt x env σ _ _ _ D φ a cs w ro dk base h1 hi he hmd hrd hk hf) fun e1 a1 cs1 w1 q => ?_)
        obtain ⟨φ1, g1, g2⟩ := q
        cases e1 <;> simp only [ExitR] at g1
        subst g1
        have : j ≠ id := beq_f (Bool.not_eq_true _ ▸ hj)
        simp only [inBlockS, this, if_false]
        exact ⟨φ1, rfl, g2⟩
    · rename_i hne
      refine runs_block (Runs.mono (hx nt x env σ e env' σ' D φ a cs w ro dk base h hi he hmd hrd hk hf) fun e1 a1 cs1 w1 q => ?_)
      cases e1 with
      | exit j =>
        exfalso
        obtain ⟨φ1, g1, _⟩ := q
        cases e <;> simp only [ExitR] at g1
        exact hne _ _ _ h
      | _ => exact q
  | loop x =>
    intro b k hb hkd
    obtain ⟨e1, a1, cs1, w1, q, harr⟩ := hl nt x env σ e env' σ' D φ a cs w ro dk base h hi he hmd hrd hk hf b k hb hkd
    exact ⟨e1, a1, cs1, w1, q, .of_steps (one_wide stepR_loop) harr⟩
  | scope x =>
    simp only [exec] at h
    intro b k hb hkd
    cases hr : exec P C n nt x env σ with
    | no => rw [hr] at h; cases n <;> simp [scopeA] at h
    | ok e0 env0 σ0 =>
      rw [hr] at h
      have s0 : StepA σ σ0 := exec_steps hs n nt x env σ σ0 (by rw [hr]; rfl)
      have s2 : StepA σ0 σ' := scopeA_steps (fun c env σ => exec_steps hs n nt c env σ) n (.ok e0 env0 σ0) (xsteps_ok (StepA.refl σ0)) σ' (by rw [h]; rfl)
      obtain ⟨e1, a1, cs1, w1, q, harr⟩ := hx nt x env σ e0 env0 σ0 D φ a cs w ro dk base hr hi he hmd hrd (hk.mono s2) (hf.mono s2) b (.inScope x :: k) hb hkd
      obtain ⟨e2, a2, cs2, w2, q2, harr2⟩ := scope_ok hs hx hb hkd n D φ σ w e0 env0 σ0 e1 a1 cs1 w1 e env' σ' h hi s0 hk hf q harr
      exact ⟨e2, a2, cs2, w2, q2, .of_steps (one_wide stepR_scope) harr2⟩
  | region id ops d =>
    cases d with
    | false =>
      simp only [exec] at h
      refine runs_region ?_
      rw [List.range_eq_range', ← Array.length_toList]
      exact runOps_ok hc hcs _ 0 env σ a cs w φ D e env' σ' h (by simp) hi he hmd hrd hk hf _ fun φ' e' a' cs' w' h1 h2 h3 h4 h5 => ⟨φ', h1, h2, h3, h4, h5⟩
    | true =>
      simp only [exec] at h
      exact runs_of_wpIn (drawA_ok hc hcs hm h hi he hk hf fun φ' e' a' w' h1 h2 h3 h4 h5 => ⟨φ', h1, h2, h3 ▸ hmd.mono h5.le, h4.trans hrd, h5⟩)
  | rangeFunc f ps x y => exact range_ok hs hc h hi he hmd hrd hk hf
  | refuse m => simp [exec] at h

theorem exec_all (hs : HkSteps C) (hh : HkOk P R C) (hm : P.follows .mixedOrders = true) : ∀ n, ExecOk P R C n ∧ LoopOk P R C n := by
  intro n
  induction n with
  | zero => exact ⟨fun nt c env σ e env' σ' D φ a cs w ro dk base h => by simp [exec] at h, fun nt c env σ e env' σ' D φ a cs w ro dk base h => by simp [exec] at h⟩
  | succ n ih =>
    have hl := loop_next hs ih.1 (callA_next hs hh ih.1) ih.2
    exact ⟨exec_next hs hm ih.1 hl (callA_next hs hh ih.1), hl⟩

/-- Calls run by the evaluator are sound. -/
theorem callN_ok (hs : HkSteps C) (hh : HkOk P R C) (hm : P.follows .mixedOrders = true) (n : Nat) : CallOk P R C (callA P C (exec P C n)) :=
  callA_next hs hh (exec_all hs hh hm n).1

/-- A call's contract. -/
theorem callN_calls (hs : HkSteps C) (hh : HkOk P R C) (hm : P.follows .mixedOrders = true) {n f : Nat} {args : List AV} {σ σ' : St} {v : AV} {D : Nat → Prop} {φ : PM} {w : World} {args' : Array Value}
    (h : callN P C n f args σ = .ret v σ') (hi : Inv R C D φ σ w) (ha : VRL φ args args'.toList) (hk : Known D σ σ') (hf : Free φ σ σ') :
    Calls P f args' w fun e w' => ∃ φ' v', e = .returned v' ∧ VR φ' v v' ∧ Post R D φ σ w σ' φ' w' :=
  (callN_ok hs hh hm n (.fn f) args σ D φ w args' hi ha).1 v σ' h hk hf

omit [Val] in
theorem none_steps : HkSteps Cfg.none := fun _ _ _ => by simp [Cfg.none, CR.steps, CR.st]
theorem none_ok : HkOk P R Cfg.none := fun f args σ D φ w args' _ _ =>
  ⟨fun v σ' h => by simp [Cfg.none] at h, fun v σ' h => by simp [Cfg.none] at h⟩

/-- A function of no arguments that the evaluator runs from nothing. -/
theorem callN_run (hm : P.follows .mixedOrders = true) {n f : Nat} {v : AV} {σ' : St} (h : callN P Cfg.none n f [] (St.empty 0) = .ret v σ') (w : World) :
    Calls P f #[] w fun e w' => ∃ φ' v', e = .returned v' ∧ VR φ' v v' ∧ Post 0 (fun _ => False) (fun _ _ => none) (St.empty 0) w σ' φ' w' := by
  refine callN_calls (R := 0) (D := fun _ => False) (φ := fun _ _ => none) none_steps none_ok hm h ?_ .nil ?_ ?_
  · exact { wf := ⟨fun _ _ _ _ _ _ h => (by cases h), fun _ _ _ h => (by cases h), fun _ _ _ h => (by cases h)⟩, low := Nat.le_refl _, rep := fun _ h => h.elim,
            gl := fun g n h => by simp [Cfg.none] at h, dom := fun i _ => by simp [St.empty, T.get_leaf], pin := fun e n h => by simp [Cfg.none] at h, dec := fun b v h => by simp [Cfg.none] at h,
            wrR := fun i h => (by cases h), ro := fun i h => absurd h (Nat.not_lt_zero _) }
  · intro i hi hn
    simp [St.empty] at hn
  · exact fun _ _ _ _ => rfl
end
end Go.Tw
