/-
  A part of the proof that the abstract evaluator is sound for the model's machine. Conditions: those of each theorem, as it states them.
-/
import Derived.Test.YtbbnjiceenjhcaaGreatDoorTwRange
set_option linter.all false
namespace Go.Tw
section
variable [Val]
variable {P : Program} {R : Nat} {C : Cfg}

omit [Val] in
theorem envOf_get : ∀ {l : List AV} {i : Nat} {e : T AV} {t : Nat} {v : AV}, (envOf l i e).get t = some v → (i ≤ t ∧ l[t - i]? = some v) ∨ e.get t = some v := by
  intro l
  induction l with
  | nil => intro i e t v h; exact .inr h
  | cons x l ih =>
    intro i e t v h
    rcases ih h with ⟨h1, h2⟩ | h2
    · left
      refine ⟨by omega, ?_⟩
      have : t - i = (t - (i + 1)) + 1 := by omega
      rw [this, List.getElem?_cons_succ]
      exact h2
    · rw [T.get_set] at h2
      by_cases ht : t = i
      · left
        rw [if_pos ht] at h2
        refine ⟨by omega, ?_⟩
        rw [ht, Nat.sub_self]
        exact h2
      · rw [if_neg ht] at h2
        exact .inr h2

theorem enter_env {φ : PM} {args : List AV} {args' : Array Value} (ha : VRL φ args args'.toList) {nt : Nat} (hn : args.length ≤ nt) (m : Option AMode) (b : Bool) :
    FrmR φ nt { tm := envOf args 0 .leaf, ds := [], md := m, rd := b } { tmps := args' ++ Array.replicate (nt - args'.size) undef, defers := [] } := by
  have hsz : args'.size = args.length := by rw [← ha.length, Array.length_toList]
  refine ⟨⟨by simp; omega, fun t v h => ?_⟩, .nil⟩
  rcases envOf_get h with ⟨_, h1⟩ | h1
  · obtain ⟨v', g1, g2⟩ := ha.get h1
    refine ⟨v', ?_, g2⟩
    rw [Nat.sub_zero, Array.getElem?_toList] at g1
    rw [Array.getElem?_append_left]
    · exact g1
    · rcases Nat.lt_or_ge t args'.size with h' | h'
      · exact h'
      · rw [Array.getElem?_eq_none h'] at g1; cases g1
  · simp [T.get_leaf] at h1

theorem Inv.bare {D : Nat → Prop} {φ : PM} {σ : St} {w : World} (h : Inv R C D φ σ w) : Inv R C D φ σ.bare w := ⟨h.wf, h.low, h.rep, h.gl, h.dom, h.pin, h.dec, fun i hi => (by cases hi), h.ro⟩

theorem Post.outer {D : Nat → Prop} {φ φ' : PM} {σ τ : St} {w w' : World} (h : Post R D φ σ.bare w τ φ' w') (s : StepA σ.bare τ) (hi : Inv R C D φ σ w)
    (hf : Free φ σ (τ.out σ)) : Post R D φ σ w (τ.out σ) φ' w' where
  le := h.le
  grow := fun i h1 h2 v => h.grow i (by
    rcases h1 with h1 | h1
    · rcases Nat.lt_or_ge i σ.next with hl | hl
      · exact .inl fun hw => h1 (List.mem_append.2 (.inl (mem_keepOld.2 ⟨hl, hw⟩)))
      · right
        rcases Nat.lt_or_ge i τ.next with g | g
        · exact absurd ⟨hl, g⟩ h2
        · exact g
    · exact .inr h1) h2 v
  wrR := fun i hi' => by
    rcases List.mem_append.1 hi' with h1 | h1
    · exact .inr ((h.wrR i (mem_keepOld.1 h1).2).resolve_left (by simp [St.bare]))
    · exact .inl h1
  wf := h.wf
  blk := h.blk
  rep := h.rep
  frm := {
    size := h.frm.size
    keep := fun b hb hne => h.frm.keep b hb fun i hiw v e he => by
      rcases Nat.lt_or_ge i σ.next with hl | hl
      · exact hne i (List.mem_append.2 (.inl (mem_keepOld.2 ⟨hl, hiw⟩))) v e he
      · have hlt : i < τ.next := (s.wlt hi.dom i hiw).resolve_left (by simp [St.bare])
        rw [hf i hl hlt v] at he
        cases he
    os := h.frm.os
    out := h.frm.out
    tape := h.frm.tape }

omit [Val] in
theorem Known.bare {D : Nat → Prop} {σ τ : St} (h : Known D σ (τ.out σ)) : Known D σ.bare τ := fun i hi hn =>
  h i (hi.imp (fun h1 => List.mem_append.2 (.inl (mem_keepOld.2 ⟨hn, h1⟩))) (fun h1 => List.mem_append.2 (.inl (mem_keepOld.2 ⟨hn, h1⟩)))) hn

/-! From a body's runs to a call's contract. -/

omit [Val] in
/-- What the body of a function achieves, what it has put off and all. -/
theorem calls_of_runs {f : FuncId} {fn : Func} {c : Code} {args : Array Value} {w : World} {Q : Ending → World → Prop} (hf : P.funcs[f]? = some fn) (hb : fn.body = some c)
    (h : ∀ cs, Runs P none false c (fun e a' cs' w' => cs' = cs ∧ bodyPostM Fence.wide 0 P fn Q e a' w') { tmps := args ++ Array.replicate (fn.ntmps - args.size) undef, defers := [] } cs w) :
    Calls P f args w Q := by
  refine (callsIn_wide (n := 0)).1 ⟨trivial, fun cs hr => ?_⟩
  let b : Frame := { (default : Frame) with fn := f, kind := .normal, roundOf := none }
  have henter : Frame.enter P f args .normal =
      b.atR { tmps := args ++ Array.replicate (fn.ntmps - args.size) undef, defers := [] } [.code c] := by
    simp [Frame.enter, Frame.atR, hf, hb, b]
  obtain ⟨e, a', cs', w', ⟨rfl, hq⟩, harr⟩ := h cs b [] rfl rfl
  rw [← henter] at harr
  cases e with
  | normal =>
    obtain ⟨e', w'', fr', hR, hs, hfn, hl⟩ := leaves_stepsInM a'.defers .returning w' { b.atR a' [] with mode := .returning } cs' rfl rfl rfl hf rfl trivial hr hq
    exact ⟨e', w'', fr', hR, ComesIn.of_steps (StepsIn.trans harr (one_wide (stepR_end rfl))) hs, hfn, hl⟩
  | ret =>
    obtain ⟨todo, hs₀⟩ := harr.1 rfl
    obtain ⟨e', w'', fr', hR, hs, hfn, hl⟩ := leaves_stepsInM a'.defers .returning w' { b.atR a' todo with mode := .returning } cs' rfl rfl rfl hf rfl trivial hr hq
    exact ⟨e', w'', fr', hR, ComesIn.of_steps hs₀ hs, hfn, hl⟩
  | panic chain =>
    obtain ⟨todo, hs₀⟩ := harr
    obtain ⟨e', w'', fr', hR, hs, hfn, hl⟩ := leaves_stepsInM a'.defers (.panicking chain) w' { b.atR a' todo with mode := .panicking chain } cs' rfl rfl rfl hf rfl trivial hr hq
    exact ⟨e', w'', fr', hR, ComesIn.of_steps hs₀ hs, hfn, hl⟩
  | exit id => exact hq.elim
  | goto l => exact hq.elim
  | outgrown => exact ⟨.outgrown, w', b, hq, harr.resolve_left (by simp [b]), rfl, trivial⟩

omit [Val] in
/-- A function entered as a deferred call. -/
theorem callsD_of_runs {f : FuncId} {fn : Func} {c : Code} {args : Array Value} {u : FrameMode} {w : World} {Q : Ending → FrameMode → World → Prop} (hf : P.funcs[f]? = some fn) (hb : fn.body = some c)
    (h : ∀ (c₀ : Frame) (cs : List Frame), c₀.mode = u → Runs P none true c (bodyPostS P fn c₀ cs Q) { tmps := args ++ Array.replicate (fn.ntmps - args.size) undef, defers := [] } (c₀ :: cs) w) :
    CallsDIn Fence.wide 0 P f args u w Q := by
  refine ⟨trivial, fun c₀ cs hu hroom => ?_⟩
  let b : Frame := { (default : Frame) with fn := f, kind := .deferred, roundOf := none }
  have henter : Frame.enter P f args .deferred =
      b.atR { tmps := args ++ Array.replicate (fn.ntmps - args.size) undef, defers := [] } [.code c] := by
    simp [Frame.enter, Frame.atR, hf, hb, b]
  obtain ⟨e, a', cs', w', hq, harr⟩ := h c₀ cs hu b [] rfl rfl
  rw [← henter] at harr
  cases e with
  | normal =>
    obtain ⟨hd, u', rfl, v, hr, hR⟩ := hq
    exact ⟨.returned v, u', w', _, hR, StepsIn.trans harr (one_wide (stepR_end rfl)), rfl, rfl, rfl, hd, fn, hf, hr⟩
  | ret =>
    obtain ⟨hd, u', rfl, v, hr, hR⟩ := hq
    obtain ⟨todo, hs⟩ := harr.1 rfl
    exact ⟨.returned v, u', w', _, hR, hs, rfl, rfl, rfl, hd, fn, hf, hr⟩
  | panic chain =>
    obtain ⟨hd, u', rfl, hR⟩ := hq
    obtain ⟨todo, hs⟩ := harr
    exact ⟨.panicked chain, u', w', _, hR, hs, rfl, rfl, rfl, hd, fn, hf⟩
  | exit id => exact hq.elim
  | goto l => exact hq.elim
  | outgrown =>
    obtain ⟨u', hR⟩ := hq
    exact ⟨.outgrown, u', w', b, hR, harr.resolve_left (by simp [b]), rfl, rfl, trivial⟩

omit [Val] in
/-- A round. -/
theorem round_of_runs {l : Nat} {f : FuncId} {tmps : Array Value} {assign body : Code} {w : World} {Q : Ending → World → Prop}
    (h : ∀ cs, Runs P (some l) false assign (fun e a₁ cs₁ w₁ => cs₁ = cs ∧ e = .normal ∧ ∃ w₂, (Instr.beginRound l).run P w₁ = .ok () w₂ ∧
      Runs P (some l) false body (fun e a' cs' w' => cs' = cs ∧ roundPost P l Q e a' w') a₁ cs w₂) { tmps := tmps, defers := [] } cs w) :
    RoundIn Fence.wide 0 P l f tmps assign body w Q := by
  refine ⟨trivial, fun c cs hr => ?_⟩
  let b : Frame := { (default : Frame) with fn := f, kind := .normal, roundOf := some l }
  have hb0 : Frame.round l f tmps assign body .normal = b.atR { tmps := tmps, defers := [] } [.code assign, .beginRound, .code body] := by
    simp [Frame.round, Frame.atR, b]
  obtain ⟨e, a₁, cs₁, w₁, ⟨rfl, rfl, w₂, hbr, hbody⟩, harr⟩ := h (c :: cs) b [.beginRound, .code body] rfl rfl
  rw [← hb0] at harr
  have s1 : StepsIn (Machine.fenced P Fence.wide) P (lone (b.atR a₁ [.beginRound, .code body]) (c :: cs) w₁) (lone (b.atR a₁ [.code body]) (c :: cs) w₂) := one_wide (stepR_beginRound rfl hbr)
  obtain ⟨e₂, a₂, cs₂, w₃, ⟨rfl, hq₂⟩, harr₂⟩ := hbody b [] rfl rfl
  cases e₂ with
  | normal =>
    obtain ⟨v, w₄, hend, hR⟩ := hq₂
    exact ⟨.returned v, w₄, hR, (StepsIn.trans harr s1).trans (StepsIn.trans harr₂ (one_wide (stepR_round_end rfl rfl hend)))⟩
  | ret =>
    obtain ⟨v, w₄, hend, hR⟩ := hq₂
    obtain ⟨k₁, hs⟩ := harr₂.2 rfl
    exact ⟨.returned v, w₄, hR, (StepsIn.trans harr s1).trans (StepsIn.trans hs (one_wide (stepR_round_ret rfl rfl hend)))⟩
  | exit id =>
    obtain ⟨v, w₄, hend, hR⟩ := hq₂
    obtain ⟨k₁, hk, hs⟩ := harr₂.2 rfl rfl
    exact ⟨.returned v, w₄, hR, (StepsIn.trans harr s1).trans (StepsIn.trans hs (one_wide (stepR_round_exit rfl rfl hk hend)))⟩
  | goto t =>
    obtain ⟨v, w₄, hend, hR⟩ := hq₂
    obtain ⟨k₁, hk, hs⟩ := harr₂.2 rfl rfl
    exact ⟨.returned v, w₄, hR, (StepsIn.trans harr s1).trans (StepsIn.trans hs (one_wide (stepR_round_goto rfl rfl hk hend)))⟩
  | panic chain => exact hq₂.elim
  | outgrown => exact hq₂.elim

/-! Leaving. -/

/-- A way of doing deferred calls does what the machine does. -/
def DcOk (P : Program) (R : Nat) (C : Cfg) (dc : FuncId → List AV → AMode → St → DR) : Prop :=
  ∀ (f : FuncId) (args : List AV) (m : AMode) (σ : St) (D : Nat → Prop) (φ : PM) (w : World) (args' : Array Value) (u : FrameMode), Inv R C D φ σ w → VRL φ args args'.toList → ModeR φ m u →
    (∀ m' σ', dc f args m σ = .ret m' σ' → Known D σ σ' → Free φ σ σ' → (∀ w, (callFunc f args').run P w = .ok (.enter f args') w) ∧
      CallsDIn Fence.wide 0 P f args' u w fun e u' w' => ∃ φ' v', e = .returned v' ∧ ModeR φ' m' u' ∧ Post R D φ σ w σ' φ' w') ∧
    (∀ c m' σ', dc f args m σ = .pan c m' σ' → Known D σ σ' → Free φ σ σ' → (∀ w, (callFunc f args').run P w = .ok (.enter f args') w) ∧
      CallsDIn Fence.wide 0 P f args' u w fun e u' w' => ∃ φ' c', e = .panicked c' ∧ ChainR φ' c c' ∧ ModeR φ' m' u' ∧ Post R D φ σ w σ' φ' w')

theorem ChainR.nogoexit {φ : PM} {l : List (AV × Bool)} {l' : List PanicEntry} (h : ChainR φ l l') : l'.dropWhile (fun x => !x.goexit) = [] := by
  induction h with
  | nil => rfl
  | cons _ _ ih => simp [List.dropWhile, ih]

theorem ModeR.settle {φ : PM} {m : AMode} {u : FrameMode} (h : ModeR φ m u) : ModeR φ (settleA m) (settle u) := by
  cases m with
  | returning => cases u <;> simp only [ModeR] at h; trivial
  | panicking c =>
    cases u with
    | panicking c' =>
      simp only [ModeR] at h
      cases h with
      | nil => exact .nil
      | @cons v b v' l l' hv ht =>
        cases b with
        | false => exact .cons hv ht
        | true =>
          have := ht.nogoexit
          show ModeR φ .returning (match l'.dropWhile (fun x => !x.goexit) with | [] => .returning | rest => .panicking rest)
          rw [this]; trivial
    | _ => exact h.elim
theorem ModeR.raised {φ : PM} {m : AMode} {u : FrameMode} {c : List (AV × Bool)} {c' : List PanicEntry} (h : ModeR φ m u) (hc : ChainR φ c c') : ModeR φ (raisedA m c) (raised u c') := by
  cases m with
  | returning => cases u <;> simp only [ModeR] at h; exact hc
  | panicking old =>
    cases u with
    | panicking old' => exact hc.append h
    | _ => exact h.elim
theorem ModeR.notrun {φ : PM} {m : AMode} {u : FrameMode} (h : ModeR φ m u) : u ≠ .run := by
  cases m <;> cases u <;> simp_all [ModeR]

omit [Val] in
theorem CallsDIn.mono' {f : FuncId} {args : Array Value} {u : FrameMode} {w : World} {Q Q' : Ending → FrameMode → World → Prop}
    (h : CallsDIn Fence.wide 0 P f args u w Q) (hr : ∀ e u' w', Q e u' w' → Q' e u' w') : CallsDIn Fence.wide (0 - 1) P f args u w Q' :=
  CallsDIn.mono h hr

/-- A function's end. -/
theorem leaveA_ok {dc : FuncId → List AV → AMode → St → DR} (hdc : DcOk P R C dc) (hds : ∀ f args m σ, (dc f args m σ).steps σ) {fn : Func} {env : Env} {a : Act} :
    ∀ (ds : List ADef) (ds' : List Deferred) (m : AMode) (u : FrameMode) (τ : St) (D : Nat → Prop) (φ : PM) (w : World), Inv R C D φ τ w → EnvR φ fn.ntmps env a → DfsR φ ds ds' → ModeR φ m u →
      (∀ v τ', leaveA P dc fn env ds m τ = .ret v τ' → Known D τ τ' → Free φ τ τ' → ∀ (Q : Ending → World → Prop),
        (∀ φ' v' w', VR φ' v v' → Post R D φ τ w τ' φ' w' → Q (.returned v') w') → LeavesInM Fence.wide 0 P fn a.tmps Q ds' u w) ∧
      (∀ c τ', leaveA P dc fn env ds m τ = .pan c τ' → Known D τ τ' → Free φ τ τ' → ∀ (Q : Ending → World → Prop),
        (∀ φ' c' w', ChainR φ' c c' → Post R D φ τ w τ' φ' w' → Q (.panicked c') w') → LeavesInM Fence.wide 0 P fn a.tmps Q ds' u w) := by
  intro ds
  induction ds with
  | nil =>
    intro ds' m u τ D φ w hi he hd hm
    cases hd
    cases m with
    | returning =>
      cases u <;> simp only [ModeR] at hm
      refine ⟨fun v τ' h hk hf Q hQ => ?_, fun c τ' h hk hf Q hQ => ?_⟩
      · simp only [leaveA] at h
        split at h
        · rename_i l τ1 hres
          simp only [CR.ret.injEq] at h
          obtain ⟨rfl, rfl⟩ := h
          obtain ⟨v', r1, r2, r3⟩ := results_ok he hi hres hk
          exact ⟨v', r1, hQ φ v' w r2 r3⟩
        · cases h
      · simp only [leaveA] at h
        split at h <;> cases h
    | panicking c0 =>
      cases u <;> simp only [ModeR] at hm
      refine ⟨fun v τ' h hk hf Q hQ => by simp [leaveA] at h, fun c τ' h hk hf Q hQ => ?_⟩
      simp only [leaveA, CR.pan.injEq] at h
      obtain ⟨rfl, rfl⟩ := h
      exact hQ φ _ w hm (.same hi rfl rfl rfl)
  | cons d ds ih =>
    intro ds' m u τ D φ w hi he hd hm
    cases hd with
    | @cons _ d' _ ds' hdd hdt =>
      cases d with
      | mark id =>
        obtain ⟨e0, ar, he0, rfl⟩ := hdd
        have key : ∀ (r : CR), leaveA P dc fn env (.mark id :: ds) m τ = r → r ≠ .no → ∀ τ', r.st = some τ' → Known D τ τ' → Free φ τ τ' →
            ∃ w1, (Instr.takeDeferred e0.blk).run P w = .ok [] w1 ∧ Post R D φ τ w (τ.put id .dead) φ w1 ∧ StepA τ (τ.put id .dead) ∧ leaveA P dc fn env ds m (τ.put id .dead) = r := by
          intro r h hr τ' hst hk hf
          simp only [leaveA] at h
          split at h
          · rename_i hob
            have hs2 : StepA (τ.put id .dead) τ' := leaveA_steps hds ds m (τ.put id .dead) τ' (by rw [h]; exact hst)
            have hs1 : StepA τ (τ.put id .dead) := .put _ _ hob
            have hlt := hi.lt hob
            have hD : D id := hk id (.inr (hs2.wr _ (mem_addL.2 (.inl rfl)))) hlt
            obtain ⟨hR, e, he1, hb⟩ := hi.at hob hD
            rw [he0] at he1; simp only [Option.some.injEq] at he1; subst he1
            refine ⟨wset w e0.blk (.deferred none), ?_, .change hi hR hlt he0 trivial, hs1, h⟩
            simp [Instr.takeDeferred, run_getObj hb (by simp), run_setObj hb (by simp)]
          · exact absurd h.symm hr
        refine ⟨fun v τ' h hk hf Q hQ => ?_, fun c τ' h hk hf Q hQ => ?_⟩
        · obtain ⟨w1, h1, h2, h3, h4⟩ := key _ h (by simp) τ' rfl hk hf
          have hs2 : StepA (τ.put id .dead) τ' := leaveA_steps hds ds m (τ.put id .dead) τ' (by rw [h4]; rfl)
          refine ⟨hm.notrun, .inl ⟨e0.blk, w1, rfl, h1, ?_⟩⟩
          exact (ih ds' m u (τ.put id .dead) (More D τ) φ w1 (h2.inv hi h3) he hdt hm).1 v τ' h4 hk.then (hf.then h2 h3) Q
            fun φ' v' w' hv hp => hQ φ' v' w' hv (h2.trans hp h3 hs2)
        · obtain ⟨w1, h1, h2, h3, h4⟩ := key _ h (by simp) τ' rfl hk hf
          have hs2 : StepA (τ.put id .dead) τ' := leaveA_steps hds ds m (τ.put id .dead) τ' (by rw [h4]; rfl)
          refine ⟨hm.notrun, .inl ⟨e0.blk, w1, rfl, h1, ?_⟩⟩
          exact (ih ds' m u (τ.put id .dead) (More D τ) φ w1 (h2.inv hi h3) he hdt hm).2 c τ' h4 hk.then (hf.then h2 h3) Q
            fun φ' v' w' hv hp => hQ φ' v' w' hv (h2.trans hp h3 hs2)
      | call f args =>
        obtain ⟨cap, ar, rfl, hargs⟩ := hdd
        have hargs' : VRL φ args (ar ++ cap).toList := by simpa using hargs
        have hdcf := hdc f args m τ D φ w (ar ++ cap) u hi hargs' hm
        have key : ∀ (r : CR), leaveA P dc fn env (.call f args :: ds) m τ = r → r ≠ .no → ∀ τ', r.st = some τ' → Known D τ τ' → Free φ τ τ' → ∀ (Q : Ending → World → Prop),
            (∀ (m1 : AMode) (u1 : FrameMode) (τ1 : St) (φ1 : PM) (w1 : World), leaveA P dc fn env ds m1 τ1 = r → ModeR φ1 m1 u1 → Post R D φ τ w τ1 φ1 w1 → StepA τ τ1 → StepA τ1 τ' →
              LeavesInM Fence.wide 0 P fn a.tmps Q ds' u1 w1) → LeavesInM Fence.wide 0 P fn a.tmps Q ({ target := .fn (.func f) cap, args := ar } :: ds') u w := by
          intro r h hr τ' hst hk hf Q hQ
          simp only [leaveA] at h
          split at h
          · rename_i m1 τ1 hdcr
            have hs1 : StepA τ τ1 := hds f args m τ τ1 (by rw [hdcr]; rfl)
            have hs2 : StepA τ1 τ' := leaveA_steps hds ds _ τ1 τ' (by rw [h]; exact hst)
            obtain ⟨hinv, hcall⟩ := hdcf.1 m1 τ1 hdcr (hk.mono hs2) (hf.mono hs2)
            refine ⟨hm.notrun, .inr ⟨fun h => by simp [Fence.wide] at h, .func f, cap, f, ar ++ cap, rfl, hinv w, fun _ _ => trivial, ?_⟩⟩
            refine CallsDIn.mono' hcall fun e u' w' hq => ?_
            obtain ⟨φ1, v', rfl, hm1, hp⟩ := hq
            exact hQ _ _ τ1 φ1 w' h hm1.settle hp hs1 hs2
          · rename_i c1 m1 τ1 hdcr
            have hs1 : StepA τ τ1 := hds f args m τ τ1 (by rw [hdcr]; rfl)
            have hs2 : StepA τ1 τ' := leaveA_steps hds ds _ τ1 τ' (by rw [h]; exact hst)
            obtain ⟨hinv, hcall⟩ := hdcf.2 c1 m1 τ1 hdcr (hk.mono hs2) (hf.mono hs2)
            refine ⟨hm.notrun, .inr ⟨fun h => by simp [Fence.wide] at h, .func f, cap, f, ar ++ cap, rfl, hinv w, fun _ _ => trivial, ?_⟩⟩
            refine CallsDIn.mono' hcall fun e u' w' hq => ?_
            obtain ⟨φ1, c', rfl, hc1, hm1, hp⟩ := hq
            exact hQ _ _ τ1 φ1 w' h (hm1.raised hc1) hp hs1 hs2
          · exact absurd h.symm hr
        refine ⟨fun v τ' h hk hf Q hQ => ?_, fun c τ' h hk hf Q hQ => ?_⟩
        · refine key _ h (by simp) τ' rfl hk hf Q fun m1 u1 τ1 φ1 w1 h1 hm1 hp hs1 hs2 => ?_
          exact (ih ds' m1 u1 τ1 (More D τ) φ1 w1 (hp.inv hi hs1) (he.mono hp.le) (hdt.mono hp.le) hm1).1 v τ' h1 hk.then (hf.then hp hs1) Q
            fun φ' v' w' hv hp2 => hQ φ' v' w' hv (hp.trans hp2 hs1 hs2)
        · refine key _ h (by simp) τ' rfl hk hf Q fun m1 u1 τ1 φ1 w1 h1 hm1 hp hs1 hs2 => ?_
          exact (ih ds' m1 u1 τ1 (More D τ) φ1 w1 (hp.inv hi hs1) (he.mono hp.le) (hdt.mono hp.le) hm1).2 c τ' h1 hk.then (hf.then hp hs1) Q
            fun φ' v' w' hv hp2 => hQ φ' v' w' hv (hp.trans hp2 hs1 hs2)
end
end Go.Tw
