/-
  A part of the proof that the abstract evaluator is sound for the model's machine. Conditions: those of each theorem, as it states them.
-/
import Derived.Test.YtbbnjiceenjhcaaGreatDoorTwSound2
set_option linter.all false
namespace Go.Tw
section
variable [Val]
variable {P : Program} {R : Nat} {C : Cfg}

omit [Val] in
theorem atomicA_nocall {n : Nat} {k : IntKind} {args l : List AV} {σ τ : St} {cl : Cle} : atomicA n k args σ ≠ .call cl l τ := by
  unfold atomicA
  repeat' split
  all_goals (intro h; cases h)
omit [Val] in
theorem externA_nocall {name : String} {sl : Option TypeId} {args l : List AV} {σ τ : St} {cl : Cle} : externA name sl args σ ≠ .call cl l τ := by
  unfold externA
  simp only [cond_eq_ite]
  repeat' split
  all_goals first
    | exact atomicA_nocall
    | (intro h; cases h; done)

omit [Val] in
theorem callFA_call {g : FuncId} {l args : List AV} {σ τ : St} {cl : Cle} (h : callFA P g l σ = .call cl args τ) :
    cl = .fn g ∧ args = l ∧ τ = σ ∧ ∀ args' w, (callFunc g args').run P w = .ok (.enter g args') w := by
  unfold callFA at h
  split at h
  · rename_i fn hf
    split at h
    · rename_i c hb
      split at h
      · cases h
      · rename_i hn
        simp only [OR.call.injEq] at h
        obtain ⟨rfl, rfl, rfl⟩ := h
        exact ⟨rfl, rfl, rfl, fun args' w => by simp [callFunc, hf, hn, hb]⟩
    · rename_i hb
      split at h
      · exact absurd h externA_nocall
      · cases h
  · cases h

omit [Val] in
theorem rangeEnd_ok {pend : Option Code} {env env' : Env} {σ σ' : St} {e : AExit} (h : rangeEnd pend env σ = .ok e env' σ') : env' = env ∧ σ' = σ ∧
    ((pend = none ∧ e = .normal) ∨ (pend = some .ret ∧ e = .ret) ∨ (∃ i, pend = some (.exit i) ∧ e = .exit i) ∨ (∃ i, pend = some (.goto i) ∧ e = .goto i)) := by
  unfold rangeEnd at h
  split at h <;> first
    | (cases h; done)
    | (simp only [XR.ok.injEq] at h; obtain ⟨rfl, rfl, rfl⟩ := h; exact ⟨rfl, rfl, by simp⟩)

omit [Val] in
theorem run_getLoop {w : World} {b : Nat} {r : Loop} (h : w.heap[b]? = some (.loop r)) : (Instr.getLoop b).run P w = .ok r w := by
  simp [Instr.getLoop, run_getObj h (by simp)]

omit [Val] in
theorem run_endLoop {w : World} {b : Nat} {r : Loop} (h : w.heap[b]? = some (.loop r)) (hs : stN r.state ≠ 1) :
    (Instr.endLoop b).run P w = .ok r.pending (wset w b (.loop { r with state := .exhausted })) := by
  have hb : r.state ≠ LoopState.busy := by
    intro hst
    rw [hst] at hs; exact absurd rfl hs
  simp [Instr.endLoop, run_getLoop h, hb, run_setObj h (by simp)]

/-- A loop over a function. -/
theorem range_ok (hs : HkSteps C) {n : Nat} (hc : CallOk P R C (callA P C (exec P C n))) {nt : Nat} {f : Operand} {ps : Array Tmp} {assign body : Code} {env env' : Env} {σ σ' : St} {e : AExit}
    {D : Nat → Prop} {φ : PM} {a : Act} {cs : List Frame} {w : World} {ro : Option Nat} {dk : Bool} {base : List Frame}
    (h : exec P C (n + 1) nt (.rangeFunc f ps assign body) env σ = .ok e env' σ') (hi : Inv R C D φ σ w) (he : FrmR φ nt env a) (hm : CsR φ dk base cs env.md) (hrd : env.rd = ro.isSome)
    (hk : Known D σ σ') (hf : Free φ σ σ') : Runs P ro dk (.rangeFunc f ps assign body) (XPost R D φ σ w nt ro dk base e env' σ') a cs w := by
  have hcs : CallSteps (callA P C (exec P C n)) := callA_steps hs (exec_steps hs n)
  simp only [exec, cond_eq_ite] at h
  split at h
  · cases h
  rename_i hrd'
  have hron : ro = none := by
    have h1 : env.rd = false := by simpa using hrd'
    rw [hrd] at h1
    cases ro with
    | none => rfl
    | some l => cases h1
  subst hron
  split at h
  · rename_i g first captured hv
    split at h
    · rename_i cl args τ hcf
      obtain ⟨rfl, rfl, rfl, hinv⟩ := callFA_call hcf
      have hvr := evalO_ok he.ev hi hv
      obtain ⟨fv, hfe⟩ : ∃ fv, fv = a.eval f := ⟨_, rfl⟩
      rw [← hfe] at hvr
      cases hvr with
      | fn _ a' b' v1 v2 =>
        -- the two objects
        have hs1 : StepA σ (σ.mk' .dfr) := .mk' _ _
        have hs2 : StepA (σ.mk' .dfr) ((σ.mk' .dfr).mk' (.loop 0 none env.tm nt ps.toList assign body)) := .mk' _ _
        -- how the call ends
        have hend : ∃ σ1, StepA ((σ.mk' .dfr).mk' (.loop 0 none env.tm nt ps.toList assign body)) σ1 ∧ StepA σ1 σ' ∧
            ((∃ v st pend tm' nt' ps' as' bd', callA P C (exec P C n) (.fn g) (first ++ [.yld (σ.next + 1)] ++ captured) ((σ.mk' .dfr).mk' (.loop 0 none env.tm nt ps.toList assign body)) = .ret v σ1 ∧
                σ1.heap.get (σ.next + 1) = some (.loop st pend tm' nt' ps' as' bd') ∧ st ≠ 1 ∧ env' = { env with ds := .mark σ.next :: env.ds } ∧ σ' = σ1.put (σ.next + 1) .dead ∧
                ((pend = none ∧ e = .normal) ∨ (pend = some .ret ∧ e = .ret) ∨ (∃ i, pend = some (.exit i) ∧ e = .exit i) ∨ (∃ i, pend = some (.goto i) ∧ e = .goto i))) ∨
             (∃ c, callA P C (exec P C n) (.fn g) (first ++ [.yld (σ.next + 1)] ++ captured) ((σ.mk' .dfr).mk' (.loop 0 none env.tm nt ps.toList assign body)) = .pan c σ1 ∧
                env' = { env with ds := .mark σ.next :: env.ds } ∧ σ' = σ1 ∧ e = .panic c)) := by
          split at h
          · rename_i v σ1 hcall
            have s3 := hcs _ _ _ σ1 (by rw [hcall]; rfl)
            split at h
            · rename_i st pend tm' nt' ps' as' bd' hol
              split at h
              · cases h
              · rename_i hst
                obtain ⟨h1, h2, h3⟩ := rangeEnd_ok h
                subst h1; subst h2
                exact ⟨σ1, s3, .put _ _ hol, .inl ⟨v, st, pend, tm', nt', ps', as', bd', hcall, hol, beq_f (Bool.not_eq_true _ ▸ hst), rfl, rfl, h3⟩⟩
            · cases h
          · rename_i c σ1 hcall
            simp only [XR.ok.injEq] at h
            obtain ⟨rfl, rfl, rfl⟩ := h
            exact ⟨_, hcs _ _ _ _ (by rw [hcall]; rfl), .refl _, .inr ⟨c, hcall, rfl, rfl, rfl⟩⟩
          · cases h
        obtain ⟨σ1, s3, s4, hend⟩ := hend
        have hf1 : Free φ σ (σ.mk' .dfr) := hf.mono (hs2.trans (s3.trans s4))
        have p1 : Post R D φ σ w (σ.mk' .dfr) (φ.ins σ.next 0 ⟨w.heap.size, 0, 0, 0, 0⟩) (w.alloc (.deferred (some []))) :=
          .new hi (Free.at hf1) rfl (Nat.le_refl _) ⟨hi.low, _, PM.ins_same _ _ _ _, alloc_new _ _⟩
        have hi1 := p1.inv hi hs1
        have hf2 : Free (φ.ins σ.next 0 ⟨w.heap.size, 0, 0, 0, 0⟩) (σ.mk' .dfr) ((σ.mk' .dfr).mk' (.loop 0 none env.tm nt ps.toList assign body)) := (hf.mono (s3.trans s4)).then p1 hs1
        have hfr1 := he.mono p1.le
        refine runs_of_wpIn (wpIn_rangeFunc fun fnid _ => ?_)
        let rec0 : Loop := { state := .ready, pending := none, fn := fnid, tmps := a.tmps, params := ps, assign := assign, body := body, defers := w.heap.size }
        have p2 : Post R (More D σ) (φ.ins σ.next 0 ⟨w.heap.size, 0, 0, 0, 0⟩) (σ.mk' .dfr) (w.alloc (.deferred (some []))) ((σ.mk' .dfr).mk' (.loop 0 none env.tm nt ps.toList assign body))
            ((φ.ins σ.next 0 ⟨w.heap.size, 0, 0, 0, 0⟩).ins (σ.mk' .dfr).next 0 ⟨(w.alloc (.deferred (some []))).heap.size, 0, 0, 0, 0⟩) ((w.alloc (.deferred (some []))).alloc (.loop rec0)) :=
          .new hi1 (Free.at hf2) rfl (Nat.le_refl _) ⟨hi1.low, _, rec0, PM.ins_same _ _ _ _, alloc_new _ _, rfl, rfl, he.ev.size, rfl, rfl, rfl, fun t v hv => by
            obtain ⟨v', g1, g2⟩ := hfr1.ev.val t v hv
            exact ⟨v', g1, g2.mono (PM.le_ins _ _ (Free.at hf2 0))⟩⟩
        have hi2 := p2.inv hi1 hs2
        generalize hφ2 : (φ.ins σ.next 0 ⟨w.heap.size, 0, 0, 0, 0⟩).ins (σ.mk' .dfr).next 0 ⟨(w.alloc (.deferred (some []))).heap.size, 0, 0, 0, 0⟩ = φ2 at p2 hi2
        have hl2 : φ2 (σ.next + 1) 0 = some ⟨w.heap.size + 1, 0, 0, 0, 0⟩ := by
          rw [← hφ2]
          have := PM.ins_same (φ.ins σ.next 0 ⟨w.heap.size, 0, 0, 0, 0⟩) (σ.mk' .dfr).next 0 ⟨(w.alloc (.deferred (some []))).heap.size, 0, 0, 0, 0⟩
          simpa [St.mk', World.size_alloc] using this
        have hd2 : φ2 σ.next 0 = some ⟨w.heap.size, 0, 0, 0, 0⟩ := by
          rw [← hφ2, PM.ins_id _ _ (by simp [St.mk'])]
          exact PM.ins_same _ _ _ _
        have hargs : VRL φ2 (first ++ [.yld (σ.next + 1)] ++ captured) ((a' ++ #[Value.func (.yield (w.heap.size + 1)) #[] #[]]) ++ b').toList := by
          have q1 := (v1.mono p1.le).mono p2.le
          have q2 := (v2.mono p1.le).mono p2.le
          have := (q1.append (.cons (.yld _ hl2) .nil)).append q2
          simpa using this
        refine ⟨w.heap.size + 1, [{ target := .collected w.heap.size, args := #[] }], (w.alloc (.deferred (some []))).alloc (.loop rec0),
          { target := .fn (.func g) b', args := a' ++ #[Value.func (.yield (w.heap.size + 1)) #[] #[]] }, (w.alloc (.deferred (some []))).alloc (.loop rec0), g,
          (a' ++ #[Value.func (.yield (w.heap.size + 1)) #[] #[]]) ++ b', (w.alloc (.deferred (some []))).alloc (.loop rec0), ?_, ?_, fun _ _ => trivial, ?_, fun h => by simp [wideR, Fence.wide] at h, ?_⟩
        · show (Instr.enterLoop fnid a.tmps ps assign body none).run P w = _
          have h1 : (w.alloc (.deferred (some []))).heap.size = w.heap.size + 1 := by rw [World.size_alloc]
          have h2 : ∀ o (w : World), (newObj o).run P w = .ok w.heap.size (w.alloc o) := fun _ _ => rfl
          simp only [Instr.enterLoop, Sem.run_bind, h2, Result.andThen_ok, Sem.run_pure, h1]
          rfl
        · have hmap : Array.map a.eval #[Operand.const (Value.func (Fn.yield (w.heap.size + 1)) #[] #[])] = #[Value.func (Fn.yield (w.heap.size + 1)) #[] #[]] := by simp [Act.eval]
          simp only [resolve, ← hfe, Deferred.ofValue, hmap]
          rfl
        · show (callFunc g _).run P _ = _
          exact hinv _ _
        · refine (callsIn_wide (n := 0)).2 ?_
          have hcall0 := hc (.fn g) (first ++ [.yld (σ.next + 1)] ++ captured) ((σ.mk' .dfr).mk' (.loop 0 none env.tm nt ps.toList assign body)) (More (More D σ) (σ.mk' .dfr)) φ2 _ _ hi2 hargs
          have hkk : Known (More (More D σ) (σ.mk' .dfr)) ((σ.mk' .dfr).mk' (.loop 0 none env.tm nt ps.toList assign body)) σ1 := (Known.then (σ' := σ.mk' .dfr) (hk.mono s4)).then
          have hff : Free φ2 ((σ.mk' .dfr).mk' (.loop 0 none env.tm nt ps.toList assign body)) σ1 := ((hf.mono s4).then p1 hs1).then p2 hs2
          have hfrm : ∀ φ3, φ2.le φ3 → FrmR φ3 nt { env with ds := .mark σ.next :: env.ds } { a with defers := [{ target := .collected w.heap.size, args := #[] }] ++ a.defers } := by
            intro φ3 hle
            have hh := (hfr1.mono p2.le).mono hle
            exact ⟨hh.ev.same rfl rfl, .cons ⟨_, #[], hle _ _ _ hd2, rfl⟩ hh.dfs⟩
          rcases hend with ⟨v, st, pend, tm', nt', ps', as', bd', hcall, hol, hst, rfl, rfl, hex⟩ | ⟨c, hcall, rfl, rfl, rfl⟩
          · refine Calls.mono (hcall0.1 v σ1 hcall hkk hff) fun ee w3 hq => ?_
            obtain ⟨φ3, v', rfl, hv3, p3⟩ := hq
            have hi3 := p3.inv hi2 s3
            have hlt := hi3.lt hol
            obtain ⟨hR, ex, r, hex1, hb, q1, q2, _⟩ := hi3.at hol (.inl (.inl (.inr (by omega))))
            have hexe := p3.le _ _ _ hl2
            rw [hex1] at hexe
            simp only [Option.some.injEq] at hexe
            have hblk : ex.blk = w.heap.size + 1 := by rw [hexe]
            have hrun := run_endLoop (P := P) hb (by rw [q1]; exact hst)
            rw [hblk] at hrun
            have p4 : Post R (More (More (More D σ) (σ.mk' .dfr)) ((σ.mk' .dfr).mk' (.loop 0 none env.tm nt ps.toList assign body))) φ3 σ1 w3 (σ1.put (σ.next + 1) .dead) φ3
                (wset w3 ex.blk (.loop { r with state := .exhausted })) := .change hi3 hR hlt hex1 trivial
            have ptot := p1.trans (p2.trans (p3.trans p4 s3 (.put _ _ hol)) hs2 (s3.trans (.put _ _ hol))) hs1 (hs2.trans (s3.trans (.put _ _ hol)))
            rw [hblk] at ptot
            have hx : ∀ e e', ExitR φ3 e e' → XPost R D φ σ w nt none dk base e { env with ds := .mark σ.next :: env.ds } (σ1.put (σ.next + 1) .dead) e'
                { a with defers := [{ target := .collected w.heap.size, args := #[] }] ++ a.defers } cs (wset w3 (w.heap.size + 1) (.loop { r with state := .exhausted })) :=
              fun e e' hee => ⟨φ3, hee, hfrm φ3 p3.le, hm.mono ptot.le, hrd, ptot⟩
            have hrun' : (Instr.endLoop (w.heap.size + 1)).run P w3 = .ok pend (wset w3 (w.heap.size + 1) (.loop { r with state := .exhausted })) := by rw [hrun, q2]
            refine ⟨pend, _, hrun', ?_⟩
            rcases hex with ⟨rfl, rfl⟩ | ⟨rfl, rfl⟩ | ⟨i, rfl, rfl⟩ | ⟨i, rfl, rfl⟩
            · exact hx .normal .normal trivial
            · exact wpIn_ret (hx .ret .ret trivial)
            · exact wpIn_exit (hx (.exit i) (.exit i) rfl)
            · exact wpIn_goto (hx (.goto i) (.goto i) rfl)
          · refine Calls.mono (hcall0.2 c σ' hcall hkk hff) fun ee w3 hq => ?_
            obtain ⟨φ3, c', rfl, hc3, p3⟩ := hq
            have ptot := p1.trans (p2.trans p3 hs2 s3) hs1 (hs2.trans s3)
            exact ⟨φ3, hc3, hfrm φ3 p3.le, hm.mono ptot.le, hrd, ptot⟩
    · cases h
  · cases h
end
end Go.Tw
