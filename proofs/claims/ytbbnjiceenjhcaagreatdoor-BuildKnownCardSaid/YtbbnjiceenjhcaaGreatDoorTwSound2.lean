/-
  A part of the proof that the abstract evaluator is sound for the model's machine. Conditions: those of each theorem, as it states them.
-/
import Derived.Test.YtbbnjiceenjhcaaGreatDoorTwJoin
set_option linter.all false
namespace Go.Tw
section
variable [Val]
variable {P : Program} {R : Nat} {C : Cfg}

/-- What holds behind code that the evaluator has run. -/
def XPost (R : Nat) (D : Nat → Prop) (φ : PM) (σ : St) (w : World) (nt : Nat) (ro : Option Nat) (dk : Bool) (base : List Frame) (e : AExit) (env' : Env) (σ' : St)
    (e' : Exit) (a' : Act) (cs' : List Frame) (w' : World) : Prop :=
  ∃ φ', ExitR φ' e e' ∧ FrmR φ' nt env' a' ∧ CsR φ' dk base cs' env'.md ∧ env'.rd = ro.isSome ∧ Post R D φ σ w σ' φ' w'

section
variable {D : Nat → Prop} {φ φ1 : PM} {σ σ1 σ' : St} {w w1 : World} {nt : Nat} {ro : Option Nat} {dk : Bool} {base : List Frame} {e : AExit} {env' : Env} {e' : Exit} {a' : Act} {cs' : List Frame} {w' : World}
theorem XPost.chain (h : Post R D φ σ w σ1 φ1 w1) (s1 : StepA σ σ1) (s2 : StepA σ1 σ') (k : XPost R (More D σ) φ1 σ1 w1 nt ro dk base e env' σ' e' a' cs' w') :
    XPost R D φ σ w nt ro dk base e env' σ' e' a' cs' w' := by
  obtain ⟨φ', h1, h2, h3, h4, h5⟩ := k
  exact ⟨φ', h1, h2, h3, h4, h.trans h5 s1 s2⟩
end

/-- What the evaluator says of code with so much fuel holds. -/
def ExecOk (P : Program) (R : Nat) (C : Cfg) (n : Nat) : Prop :=
  ∀ (nt : Nat) (c : Code) (env : Env) (σ : St) (e : AExit) (env' : Env) (σ' : St) (D : Nat → Prop) (φ : PM) (a : Act) (cs : List Frame) (w : World) (ro : Option Nat) (dk : Bool) (base : List Frame),
    exec P C n nt c env σ = .ok e env' σ' → Inv R C D φ σ w → FrmR φ nt env a → CsR φ dk base cs env.md → env.rd = ro.isSome → Known D σ σ' → Free φ σ σ' →
    Runs P ro dk c (XPost R D φ σ w nt ro dk base e env' σ') a cs w

/-- And of a loop that is under way. -/
def LoopOk (P : Program) (R : Nat) (C : Cfg) (n : Nat) : Prop :=
  ∀ (nt : Nat) (c : Code) (env : Env) (σ : St) (e : AExit) (env' : Env) (σ' : St) (D : Nat → Prop) (φ : PM) (a : Act) (cs : List Frame) (w : World) (ro : Option Nat) (dk : Bool) (base : List Frame),
    exec P C n nt (.loop c) env σ = .ok e env' σ' → Inv R C D φ σ w → FrmR φ nt env a → CsR φ dk base cs env.md → env.rd = ro.isSome → Known D σ σ' → Free φ σ σ' →
    ∀ (b : Frame) (k : List Item), b.roundOf = ro → b.kind = kindOf dk → ∃ e' a' cs' w', XPost R D φ σ w nt ro dk base e env' σ' e' a' cs' w' ∧
      ArrivesIn (Machine.fenced P Fence.wide) P (lone (b.atR a (.code c :: .inLoop c :: k)) cs w) b k cs' e' a' w'

theorem exit_normal {φ : PM} {e' : Exit} (h : ExitR φ .normal e') : e' = .normal := by cases e' <;> simp_all [ExitR]
theorem exit_not_normal {φ : PM} {e : AExit} {e' : Exit} (h : ExitR φ e e') (hn : e ≠ .normal) : e' ≠ .normal := by
  cases e <;> cases e' <;> simp_all [ExitR]

omit [Val] in
theorem headA_some {c : Code} {o : Oper} {ops : Array Oper} {it : Operand} {bc : Code} (h : headA c = some (o, ops, it, bc)) :
    ∃ id l, c = .seq (.region id ops false) bc ∧ ops.toList = o :: l ∧ o.op = .next it false ∧ o.guard = none := by
  unfold headA at h
  split at h
  · rename_i id ops' b
    split at h
    · rename_i o' l hl
      split at h
      · rename_i it' ho hg
        simp only [Option.some.injEq, Prod.mk.injEq] at h
        obtain ⟨rfl, rfl, rfl, rfl⟩ := h
        exact ⟨id, l, rfl, hl, ho, hg⟩
      · cases h
    · cases h
  · cases h

/-- What a loop's body comes to, behind one choice of its iterator. -/
noncomputable def headX (P : Program) (C : Cfg) (n nt : Nat) (env : Env) (o : Oper) (ops : Array Oper) (bc : Code) (p : AV × St) : XR :=
  match putA nt env o.dst p.1 with
  | none => .no
  | some env => match runOps P C (callA P C (exec P C n)) nt ops ops.toList.tail env p.2 with
    | .ok .normal env σ => exec P C n nt bc env σ
    | r => r

theorem head_ok (hs : HkSteps C) {n : Nat} (hx : ExecOk P R C n) (hc : CallOk P R C (callA P C (exec P C n))) {c : Code} {o : Oper} {ops : Array Oper} {it : Operand} {bc : Code}
    (hh : headA c = some (o, ops, it, bc)) {D : Nat → Prop} {φ : PM} {σ : St} {w : World} {nt : Nat} {env : Env} {a : Act} {cs : List Frame} {ro : Option Nat} {dk : Bool} {base : List Frame}
    (hi : Inv R C D φ σ w) (he : FrmR φ nt env a) (hmd : CsR φ dk base cs env.md) (hrd : env.rd = ro.isSome) {x : AV} (hev : evalO C env it = some x) {l : List (AV × St)}
    (hl : mnextA x σ = some l) (hk : ∀ p ∈ l, Known D σ p.2) :
    ∃ p ∈ l, ∀ eb envb σb, headX P C n nt env o ops bc p = .ok eb envb σb → Known D σ σb → Free φ σ σb → Runs P ro dk c (XPost R D φ σ w nt ro dk base eb envb σb) a cs w := by
  obtain ⟨id, ol, rfl, hol, hop, hg⟩ := headA_some hh
  obtain ⟨p, hp, w', v', hrun, hv, hpost⟩ := mnextA_ok (P := P) (t := o.type) hi hl (evalO_ok he.ev hi hev) hk
  refine ⟨p, hp, fun eb envb σb hX hkb hfb => ?_⟩
  have hcs : CallSteps (callA P C (exec P C n)) := callA_steps hs (exec_steps hs n)
  have s1 : StepA σ p.2 := mnextA_step hl p hp
  unfold headX at hX
  split at hX
  · cases hX
  · rename_i env1 hput
    obtain ⟨p1, p2, p3⟩ := putA_keep hput
    have hsz : ops.size = ol.length + 1 := by rw [← Array.length_toList, hol]; rfl
    have ho0 : ops[0]? = some o := by rw [← Array.getElem?_toList, hol]; rfl
    have htl : ops.toList.tail = ol := by rw [hol]; rfl
    have hrest : ∀ j, ol[j]? = ops[1 + j]? := fun j => by rw [← Array.getElem?_toList, hol, Nat.add_comm]; rfl
    have hrun' : (o.semAt ro a.eval).run P w = .ok (.value v') w' := by
      rw [Oper.semAt_eq ro _ _ (fun c => by rw [hop]; simp)]
      unfold execOp
      rw [hop]
      simp [hrun]
    have hwant : Region.wanted o (yielded ops a.tmps) = true := by unfold Region.wanted; rw [hg]
    refine runs_seq (runs_region ?_)
    rw [hsz, List.range_eq_range', List.range'_succ]
    refine ops_value ho0 hwant (.inl rfl) hrun' ?_
    have hi1 := hpost.inv hi s1
    have he1 : FrmR φ nt env1 (a.put o.dst v') := he.put hput hv
    rw [htl] at hX
    cases hr : runOps P C (callA P C (exec P C n)) nt ops ol env1 p.2 with
    | no => rw [hr] at hX; cases hX
    | ok e2 env2 σ2 =>
      rw [hr] at hX
      have s2 : StepA p.2 σ2 := runOps_steps hcs ol env1 p.2 σ2 (by rw [hr]; rfl)
      have s3 : StepA σ2 σb := by
        cases e2 with
        | normal => exact exec_steps hs n nt bc env2 σ2 σb (by rw [show exec P C n nt bc env2 σ2 = .ok eb envb σb from hX]; rfl)
        | _ => simp only [XR.ok.injEq] at hX; obtain ⟨_, _, rfl⟩ := hX; exact .refl _
      refine runOps_ok hc hcs ol 1 env1 p.2 _ cs w' φ (More D σ) e2 env2 σ2 hr hrest hi1 he1 (p2 ▸ hmd) (p3.trans hrd) ((hkb.mono s3).then) ((hfb.mono s3).then hpost s1) _ fun φ2 e2' a2 cs2 w2 q1 q2 q3 q4 q5 => ?_
      have hp2 : Post R D φ σ w σ2 φ2 w2 := hpost.trans q5 s1 s2
      cases e2 with
      | normal =>
        have := exit_normal q1
        subst this
        have hX : exec P C n nt bc env2 σ2 = .ok eb envb σb := hX
        exact Runs.mono (hx nt bc env2 σ2 eb envb σb (More D σ) φ2 a2 cs2 w2 ro dk base hX (hp2.inv hi (s1.trans s2)) q2 q3 q4 hkb.then (hfb.then hp2 (s1.trans s2))) fun e3 a3 cs3 w3 q => q.chain hp2 (s1.trans s2) s3
      | _ =>
        simp only [XR.ok.injEq] at hX
        obtain ⟨rfl, rfl, rfl⟩ := hX
        have hnn : e2' ≠ .normal := exit_not_normal q1 (by simp)
        cases e2' with
        | normal => exact absurd rfl hnn
        | _ => exact ⟨φ2, q1, q2, q3, q4, hp2⟩

theorem loop_next (hs : HkSteps C) {n : Nat} (hx : ExecOk P R C n) (hc : CallOk P R C (callA P C (exec P C n))) (hl : LoopOk P R C n) : LoopOk P R C (n + 1) := by
  intro nt c env σ e env' σ' D φ a cs w ro dk base h hi he hm hrd hk hf b k hb hkd
  simp only [exec] at h
  -- what comes behind a round
  have hgo : ∀ (eb : AExit) (envb : Env) (σb : St), StepA σ σb → Runs P ro dk c (XPost R D φ σ w nt ro dk base eb envb σb) a cs w → ∀ (e2 : AExit) (env2 : Env) (σ2 : St),
      (match (XR.ok eb envb σb) with
        | .ok .normal env σ => exec P C n nt (.loop c) env σ
        | r => r) = .ok e2 env2 σ2 → Known D σ σ2 → Free φ σ σ2 →
      ∃ e' a' cs' w', XPost R D φ σ w nt ro dk base e2 env2 σ2 e' a' cs' w' ∧ ArrivesIn (Machine.fenced P Fence.wide) P (lone (b.atR a (.code c :: .inLoop c :: k)) cs w) b k cs' e' a' w' := by
    intro eb envb σb s1 hr e2 env2 σ2 h2 hk2 hf2
    obtain ⟨e1, a1, cs1, w1, q, harr⟩ := hr b (.inLoop c :: k) hb hkd
    cases eb with
    | normal =>
      have h2 : exec P C n nt (.loop c) envb σb = .ok e2 env2 σ2 := h2
      obtain ⟨φ1, g1, g2, g3, g4, g5⟩ := q
      have := exit_normal g1
      subst this
      have s2 : StepA σb σ2 := exec_steps hs n nt (.loop c) envb σb σ2 (by rw [h2]; rfl)
      obtain ⟨e3, a3, cs3, w3, q3, harr3⟩ := hl nt c envb σb e2 env2 σ2 (More D σ) φ1 a1 cs1 w1 ro dk base h2 (g5.inv hi s1) g2 g3 g4 hk2.then (hf2.then g5 s1) b k hb hkd
      exact ⟨e3, a3, cs3, w3, q3.chain g5 s1 s2, .of_steps (StepsIn.trans harr (one_wide stepR_inLoop)) harr3⟩
    | _ =>
      simp only [XR.ok.injEq] at h2
      obtain ⟨rfl, rfl, rfl⟩ := h2
      have hnn : e1 ≠ .normal := by
        obtain ⟨φ1, g1, _⟩ := q
        exact exit_not_normal g1 (by simp)
      exact ⟨e1, a1, cs1, w1, q, .pass (x := .inLoop c) rfl (fun _ _ => .inl hnn) harr⟩
  split at h
  · cases hX : exec P C n nt c env σ with
    | no => rw [hX] at h; cases h
    | ok eb envb σb =>
      rw [hX] at h
      have s1 : StepA σ σb := exec_steps hs n nt c env σ σb (by rw [hX]; rfl)
      have s2 : StepA σb σ' := by
        cases eb with
        | normal => exact exec_steps hs n nt (.loop c) envb σb σ' (by rw [show exec P C n nt (.loop c) envb σb = .ok e env' σ' from h]; rfl)
        | _ => simp only [XR.ok.injEq] at h; obtain ⟨_, _, rfl⟩ := h; exact .refl _
      exact hgo eb envb σb s1 (hx nt c env σ eb envb σb D φ a cs w ro dk base hX hi he hm hrd (hk.mono s2) (hf.mono s2)) e env' σ' h hk hf
  · rename_i o ops it bc hh
    split at h
    · cases h
    · rename_i x hev
      split at h
      · cases h
      · rename_i l hml
        have hcs : CallSteps (callA P C (exec P C n)) := callA_steps hs (exec_steps hs n)
        -- each choice, by way of its round
        let rp : AV × St → XR := fun p => match putA nt env o.dst p.1 with
          | none => .no
          | some env => match runOps P C (callA P C (exec P C n)) nt ops ops.toList.tail env p.2 with
            | .ok .normal env σ => match exec P C n nt bc env σ with
              | .ok .normal env σ => exec P C n nt (.loop c) env σ
              | r => r
            | r => r
        have h : joinX σ (l.map rp) = .ok e env' σ' := h
        have hrp : ∀ p, rp p = (match headX P C n nt env o ops bc p with
            | .ok .normal env σ => exec P C n nt (.loop c) env σ
            | r => r) := by
          intro p
          unfold headX
          cases hpq : putA nt env o.dst p.1 with
          | none => simp only [rp, hpq]
          | some env1 =>
            simp only [rp, hpq]
            cases runOps P C (callA P C (exec P C n)) nt ops ops.toList.tail env1 p.2 with
            | no => rfl
            | ok e1 v1 τ1 => cases e1 <;> rfl
        have hXs : ∀ p ∈ l, (headX P C n nt env o ops bc p).steps σ := by
          intro p hp
          have hs1 := mnextA_step hml p hp
          unfold headX
          split
          · exact xsteps_no
          · rename_i env1 _
            have h1 := runOps_steps (P := P) (C := C) hcs (nt := nt) (ops := ops) ops.toList.tail env1 p.2
            split
            · rename_i hr1
              exact (exec_steps hs n _ _ _ _).trans (hs1.trans (h1 _ (by rw [hr1]; rfl)))
            · exact h1.trans hs1
        have hsteps : ∀ r ∈ l.map rp, r.steps σ := by
          intro r hr
          obtain ⟨p, hp, rfl⟩ := List.mem_map.1 hr
          rw [hrp]
          have := hXs p hp
          split
          · rename_i hr1
            exact (exec_steps hs n _ _ _ _).trans (this _ (by rw [hr1]; rfl))
          · exact this
        have hless := joinX_less hi.dom h hsteps
        have hXok : ∀ p ∈ l, ∃ eb envb σb e1 v1 τ1, headX P C n nt env o ops bc p = .ok eb envb σb ∧ StepA σ σb ∧ StepA p.2 σb ∧ StepA σb τ1 ∧
            (match (XR.ok eb envb σb) with
              | .ok .normal env σ => exec P C n nt (.loop c) env σ
              | r => r) = .ok e1 v1 τ1 ∧ Less σ e1 v1 τ1 e env' σ' := by
          intro p hp
          obtain ⟨e1, v1, τ1, g1, g2⟩ := hless (rp p) (List.mem_map_of_mem hp)
          rw [hrp] at g1
          cases hX : headX P C n nt env o ops bc p with
          | no => rw [hX] at g1; cases g1
          | ok eb envb σb =>
            rw [hX] at g1
            refine ⟨eb, envb, σb, e1, v1, τ1, rfl, hXs p hp σb (by rw [hX]; rfl), ?_, ?_, g1, g2⟩
            · unfold headX at hX
              split at hX
              · cases hX
              · rename_i env1 _
                have h1 := runOps_steps (P := P) (C := C) hcs (nt := nt) (ops := ops) ops.toList.tail env1 p.2
                split at hX
                · rename_i hr1
                  exact (h1 _ (by rw [hr1]; rfl)).trans (exec_steps hs n _ _ _ _ _ (by rw [hX]; rfl))
                · exact h1 _ (by rw [hX]; rfl)
            · cases eb with
              | normal => exact exec_steps hs n nt (.loop c) envb σb τ1 (by rw [show exec P C n nt (.loop c) envb σb = .ok e1 v1 τ1 from g1]; rfl)
              | _ => simp only [XR.ok.injEq] at g1; obtain ⟨_, _, rfl⟩ := g1; exact .refl _
        have hkl : ∀ {τ : St} {e1 : AExit} {v1 : Env}, Less σ e1 v1 τ e env' σ' → Known D σ τ := fun g i hi' hn => hk i (hi'.imp (g.lrd i) (g.lwr i)) hn
        have hfl : ∀ {τ : St} {e1 : AExit} {v1 : Env}, Less σ e1 v1 τ e env' σ' → Free φ σ τ := fun g i h1 h2 v => hf i h1 (Nat.lt_of_lt_of_le h2 g.next) v
        obtain ⟨p, hp, hrunp⟩ := head_ok hs hx hc hh hi he hm hrd hev hml (fun p hp => by
          obtain ⟨eb, envb, σb, e1, v1, τ1, _, _, s3, s4, _, g2⟩ := hXok p hp
          exact (hkl g2).mono (s3.trans s4))
        obtain ⟨eb, envb, σb, e1, v1, τ1, hX, s2, s3, s4, g1, g2⟩ := hXok p hp
        obtain ⟨e3, a3, cs3, w3, ⟨φ3, q1, q2, q3, q4, q5⟩, harr⟩ := hgo eb envb σb s2 (hrunp eb envb σb hX ((hkl g2).mono s4) ((hfl g2).mono s4)) e1 v1 τ1 g1 (hkl g2) (hfl g2)
        refine ⟨e3, a3, cs3, w3, ⟨φ3, by rw [g2.ex]; exact q1, ⟨⟨q2.ev.size, fun t v hv => q2.ev.val t v (g2.tm t v hv)⟩, by rw [g2.ds]; exact q2.dfs⟩, by rw [g2.md]; exact q3, by rw [g2.rd]; exact q4,
          q5.less hi g2 hk (s2.trans s4)⟩, harr⟩

omit [Val] in
theorem stepR_scope {b : Frame} {a : Act} {k : List Item} {cs : List Frame} {w : World} {c : Code} : step P (lone (b.atR a (.code (.scope c) :: k)) cs w) = .next (lone (b.atR a (.code c :: .inScope c :: k)) cs w) :=
  step_lone_go (by simp [stepG, stepG.exec, Frame.atR])
omit [Val] in
theorem stepR_inScope {b : Frame} {a : Act} {k : List Item} {cs : List Frame} {w : World} {c : Code} : step P (lone (b.atR a (.inScope c :: k)) cs w) = .next (lone (b.atR a k) cs w) :=
  step_lone_go (by simp [stepG, stepG.exec, Frame.atR])

theorem scope_ok (hs : HkSteps C) {n nt : Nat} (hx : ExecOk P R C n) {c : Code} {b : Frame} {K : List Item} {m : Machine} {ro : Option Nat} {dk : Bool} {base : List Frame} (hb : b.roundOf = ro)
    (hkd : b.kind = kindOf dk) :
    ∀ (j : Nat) (D : Nat → Prop) (φ : PM) (σ : St) (w : World) (e0 : AExit) (env0 : Env) (σ0 : St) (e0' : Exit) (a0 : Act) (cs0 : List Frame) (w0 : World) (e : AExit) (env' : Env) (σ' : St),
      scopeA (exec P C n nt) j c (.ok e0 env0 σ0) = .ok e env' σ' → Inv R C D φ σ w → StepA σ σ0 → Known D σ σ' → Free φ σ σ' → XPost R D φ σ w nt ro dk base e0 env0 σ0 e0' a0 cs0 w0 →
      ArrivesIn (Machine.fenced P Fence.wide) P m b (.inScope c :: K) cs0 e0' a0 w0 →
      ∃ e' a' cs' w', XPost R D φ σ w nt ro dk base e env' σ' e' a' cs' w' ∧ ArrivesIn (Machine.fenced P Fence.wide) P m b K cs' e' a' w' := by
  intro j
  induction j with
  | zero => intro D φ σ w e0 env0 σ0 e0' a0 cs0 w0 e env' σ' h; simp [scopeA] at h
  | succ j ih =>
    intro D φ σ w e0 env0 σ0 e0' a0 cs0 w0 e env' σ' h hi s0 hk hf hp harr
    unfold scopeA at h
    split at h
    · rename_i l env1 σ1 heq
      simp only [XR.ok.injEq] at heq
      obtain ⟨rfl, rfl, rfl⟩ := heq
      obtain ⟨φ1, g1, g2, g3, g4, g5⟩ := hp
      have hl : e0' = .goto l := by cases e0' <;> simp_all [ExitR]
      subst hl
      split at h
      · rename_i rest hfl
        cases hr : exec P C n nt rest env0 σ0 with
        | no => rw [hr] at h; cases j <;> simp [scopeA] at h
        | ok e1 env2 σ2 =>
          rw [hr] at h
          have s1 : StepA σ0 σ2 := exec_steps hs n nt rest env0 σ0 σ2 (by rw [hr]; rfl)
          have s2 : StepA σ2 σ' := scopeA_steps (fun c env σ => exec_steps hs n nt c env σ) j (.ok e1 env2 σ2) (xsteps_ok (StepA.refl σ2)) σ' (by rw [h]; rfl)
          have hkk : Known (More D σ) σ0 σ2 := (hk.then).mono s2
          have hff : Free φ1 σ0 σ2 := (hf.then g5 s0).mono s2
          obtain ⟨e2, a2, cs2, w2, q, harr2⟩ := hx nt rest env0 σ0 e1 env2 σ2 (More D σ) φ1 a0 cs0 w0 ro dk base hr (g5.inv hi s0) g2 g3 g4 hkk hff b (.inScope c :: K) hb hkd
          have hg : gotoIn l (.inScope c :: K) = some (.code rest :: .inScope c :: K) := by simp [gotoIn, hfl]
          exact ih D φ σ w e1 env2 σ2 e2 a2 cs2 w2 e env' σ' h hi (s0.trans s1) hk hf (q.chain g5 s0 s1) (.of_steps (harr.1 _ hg) harr2)
      · rename_i hfl
        simp only [XR.ok.injEq] at h
        obtain ⟨rfl, rfl, rfl⟩ := h
        have hx : gotoIn l (.inScope c :: K) = gotoIn l K := by simp [gotoIn, hfl]
        exact ⟨.goto l, a0, cs0, w0, ⟨φ1, g1, g2, g3, g4, g5⟩, fun k' hk' => harr.1 k' (by rw [hx]; exact hk'), fun hr hk' => harr.2 hr (by rw [hx]; exact hk')⟩
    · rename_i hne
      simp only [XR.ok.injEq] at h
      obtain ⟨rfl, rfl, rfl⟩ := h
      have hng : ∀ l, e0' ≠ .goto l := by
        intro l hl
        subst hl
        obtain ⟨φ1, g1, _⟩ := hp
        cases e0 with
        | goto i => exact hne _ _ _ rfl
        | _ => exact g1
      refine ⟨e0', a0, cs0, w0, hp, ?_⟩
      cases e0' with
      | normal => exact StepsIn.trans harr (one_wide stepR_inScope)
      | exit id =>
        have hx : exitTo id (.inScope c :: K) = exitTo id K := by simp [exitTo]
        exact ⟨fun k' hk' => harr.1 k' (by rw [hx]; exact hk'), fun hr hk' => harr.2 hr (by rw [hx]; exact hk')⟩
      | goto l => exact absurd rfl (hng l)
      | ret => exact harr
      | panic ch => exact harr
      | outgrown => exact harr
end
end Go.Tw
