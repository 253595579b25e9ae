/-
  A part of the proof that the abstract evaluator is sound for the model's machine. Conditions: those of each theorem, as it states them.
-/
import Derived.Test.YtbbnjiceenjhcaaGreatDoorTwLeave
set_option linter.all false
namespace Go.Tw
section
variable [Val]
variable {P : Program} {R : Nat} {C : Cfg}

/-- The callers of a deferred call's frame, at its end. -/
theorem CsR.last {φ : PM} {c₀ : Frame} {cs cs' : List Frame} {m : AMode} (h : CsR φ true (c₀ :: cs) cs' (some m)) : ∃ u', cs' = { c₀ with mode := u' } :: cs ∧ ModeR φ m u' := by
  obtain ⟨_, c₁, rest, m', h2, h3, h4⟩ := h
  simp only [List.cons.injEq] at h2
  obtain ⟨rfl, rfl⟩ := h2
  exact ⟨m', h3, h4⟩

theorem DfsR.nil_of {φ : PM} {l' : List Deferred} (h : DfsR φ [] l') : l' = [] := by cases h; rfl

theorem callD_ok (hs : HkSteps C) {n : Nat} (hx : ExecOk P R C n) : DcOk P R C (callD P (exec P C n)) := by
  intro f args m σ D φ w args' u hi ha hm
  have hlast : ∀ (r : DR), callD P (exec P C n) f args m σ = r → r ≠ .no → ∃ fn c, P.funcs[f]? = some fn ∧ fn.body = some c ∧ args.length ≤ fn.ntmps ∧ fn.name ≠ "runtime.NumGoroutine" ∧
      ((∃ e env τ τ1 m' l, (e = .ret ∨ e = .normal) ∧ exec P C n fn.ntmps c { tm := envOf args 0 .leaf, ds := [], md := some m, rd := false } σ.bare = .ok e env τ ∧ env.ds = [] ∧ env.md = some m' ∧
          resultsA P fn env τ fn.results.toList = some (l, τ1) ∧ r = .ret m' (τ1.out σ)) ∨
       (∃ ch env τ m', exec P C n fn.ntmps c { tm := envOf args 0 .leaf, ds := [], md := some m, rd := false } σ.bare = .ok (.panic ch) env τ ∧ env.ds = [] ∧ env.md = some m' ∧
          r = .pan ch m' (τ.out σ))) := by
    intro r h hr
    unfold callD at h
    split at h
    · exact absurd h.symm hr
    · rename_i fn hfn
      split at h
      · exact absurd h.symm hr
      · rename_i c hb
        simp only [cond_eq_ite] at h
        split at h
        · rename_i hlen
          split at h
          · exact absurd h.symm hr
          · rename_i hname
            refine ⟨fn, c, hfn, hb, ble_t hlen, hname, ?_⟩
            split at h
            · rename_i env τ hex
              split at h
              · rename_i m' l τ1 hds hmd hres
                exact .inl ⟨_, env, τ, τ1, m', l, .inl rfl, hex, hds, hmd, hres, h.symm⟩
              · exact absurd h.symm hr
            · rename_i env τ hex
              split at h
              · rename_i m' l τ1 hds hmd hres
                exact .inl ⟨_, env, τ, τ1, m', l, .inr rfl, hex, hds, hmd, hres, h.symm⟩
              · exact absurd h.symm hr
            · rename_i ch env τ hex
              split at h
              · rename_i m' hds hmd
                exact .inr ⟨ch, env, τ, m', hex, hds, hmd, h.symm⟩
              · exact absurd h.symm hr
            · exact absurd h.symm hr
        · exact absurd h.symm hr
  refine ⟨fun m' σ' h hk hf => ?_, fun c m' σ' h hk hf => ?_⟩
  · obtain ⟨fn, code, hfn, hb, hlen, hname, hh⟩ := hlast _ h (by simp)
    refine ⟨fun w => by simp [callFunc, hfn, hname, hb], ?_⟩
    rcases hh with ⟨e, env, τ, τ1, m1, l, hee, hex, hds, hmd, hres, hr⟩ | ⟨ch, env, τ, m1, hex, hds, hmd, hr⟩
    · simp only [DR.ret.injEq] at hr
      obtain ⟨rfl, rfl⟩ := hr
      have s1 : StepA σ.bare τ := exec_steps hs n fn.ntmps code _ σ.bare τ (by rw [hex]; rfl)
      have s2 : StepA τ τ1 := resultsA_step _ hres
      have hk1 : Known D σ.bare τ1 := hk.bare
      have hf1 : Free φ σ.bare τ1 := hf
      refine callsD_of_runs hfn hb fun c₀ cs hu => ?_
      have hcs : CsR φ true (c₀ :: cs) (c₀ :: cs) (some m) := ⟨rfl, c₀, cs, u, rfl, by subst hu; rfl, hm⟩
      refine Runs.mono (hx fn.ntmps code _ σ.bare e env τ D φ _ (c₀ :: cs) w none true (c₀ :: cs) hex hi.bare (enter_env ha hlen (some m) false) hcs rfl (hk1.mono s2) (hf1.mono s2)) fun e1 a1 cs1 w1 q => ?_
      obtain ⟨φ1, g1, g2, g3, g4, g5⟩ := q
      rw [hmd] at g3
      obtain ⟨u', rfl, hmu⟩ := g3.last
      have hd0 : a1.defers = [] := by have := g2.dfs; rw [hds] at this; exact this.nil_of
      obtain ⟨v', r1, r2, r3⟩ := results_ok g2.ev (g5.inv hi.bare s1) hres hk1.then
      have hp := (g5.trans r3 s1 s2).outer (s1.trans s2) hi hf
      rcases hee with rfl | rfl
      · cases e1 <;> simp only [ExitR] at g1
        exact ⟨hd0, u', rfl, v', r1, φ1, v', rfl, hmu, hp⟩
      · cases e1 <;> simp only [ExitR] at g1
        exact ⟨hd0, u', rfl, v', r1, φ1, v', rfl, hmu, hp⟩
    · cases hr
  · obtain ⟨fn, code, hfn, hb, hlen, hname, hh⟩ := hlast _ h (by simp)
    refine ⟨fun w => by simp [callFunc, hfn, hname, hb], ?_⟩
    rcases hh with ⟨e, env, τ, τ1, m1, l, hee, hex, hds, hmd, hres, hr⟩ | ⟨ch, env, τ, m1, hex, hds, hmd, hr⟩
    · cases hr
    · simp only [DR.pan.injEq] at hr
      obtain ⟨rfl, rfl, rfl⟩ := hr
      have s1 : StepA σ.bare τ := exec_steps hs n fn.ntmps code _ σ.bare τ (by rw [hex]; rfl)
      refine callsD_of_runs hfn hb fun c₀ cs hu => ?_
      have hcs : CsR φ true (c₀ :: cs) (c₀ :: cs) (some m) := ⟨rfl, c₀, cs, u, rfl, by subst hu; rfl, hm⟩
      refine Runs.mono (hx fn.ntmps code _ σ.bare _ env τ D φ _ (c₀ :: cs) w none true (c₀ :: cs) hex hi.bare (enter_env ha hlen (some m) false) hcs rfl hk.bare hf) fun e1 a1 cs1 w1 q => ?_
      obtain ⟨φ1, g1, g2, g3, g4, g5⟩ := q
      rw [hmd] at g3
      obtain ⟨u', rfl, hmu⟩ := g3.last
      have hd0 : a1.defers = [] := by have := g2.dfs; rw [hds] at this; exact this.nil_of
      cases e1 <;> simp only [ExitR] at g1
      exact ⟨hd0, u', rfl, φ1, _, rfl, g1, hmu, g5.outer s1 hi hf⟩

theorem bindA_ok {φ : PM} : ∀ {ps : List Tmp} {args : List AV} {args' : List Value} {tm tm' : T AV} {tmps : Array Value}, VRL φ args args' → bindA ps args tm = some tm' →
    (∀ t v, tm.get t = some v → ∃ v', tmps[t]? = some v' ∧ VR φ v v') → (∀ p ∈ ps, p < tmps.size) →
    ps.length = args'.length ∧ ((ps.zip args').foldl (fun tmps (x : Tmp × Value) => tmps.setIfInBounds x.1 x.2) tmps).size = tmps.size ∧
      ∀ t v, tm'.get t = some v → ∃ v', ((ps.zip args').foldl (fun tmps (x : Tmp × Value) => tmps.setIfInBounds x.1 x.2) tmps)[t]? = some v' ∧ VR φ v v' := by
  intro ps
  induction ps with
  | nil =>
    intro args args' tm tm' tmps hv hb hget _
    cases hv with
    | nil => simp only [bindA, Option.some.injEq] at hb; subst hb; exact ⟨rfl, rfl, hget⟩
    | cons _ _ => simp [bindA] at hb
  | cons p ps ih =>
    intro args args' tm tm' tmps hv hb hget hlt
    cases hv with
    | nil => simp [bindA] at hb
    | @cons v v' l l' h ht =>
      simp only [bindA] at hb
      have hp := hlt p (by simp)
      obtain ⟨i1, i2, i3⟩ := ih (tmps := tmps.setIfInBounds p v') ht hb (fun t u hu => by
        rw [T.get_set] at hu
        by_cases e : t = p
        · subst e
          rw [if_pos rfl] at hu
          simp only [Option.some.injEq] at hu; subst hu
          exact ⟨v', by simp [hp], h⟩
        · rw [if_neg e] at hu
          obtain ⟨u', h1, h2⟩ := hget t u hu
          exact ⟨u', by rw [Array.getElem?_setIfInBounds_ne (Ne.symm e)]; exact h1, h2⟩) (fun q hq => by simpa using hlt q (by simp [hq]))
      refine ⟨by simp [i1], ?_, ?_⟩
      · simpa using i2
      · simpa using i3

omit [Val] in
theorem stN_ready {s : LoopState} (h : stN s = 0) : s = .ready := by cases s <;> simp [stN] at h; rfl

omit [Val] in
theorem run_beginRound {w : World} {b : Nat} {r : Loop} (h : w.heap[b]? = some (.loop r)) (hs : r.state = .ready) :
    (Instr.beginRound b).run P w = .ok () (wset w b (.loop { r with state := .busy })) := by
  simp [Instr.beginRound, run_getLoop h, hs, run_setObj h (by simp)]

omit [Val] in
theorem run_endRound {w : World} {b : Nat} {r : Loop} (h : w.heap[b]? = some (.loop r)) (j : Option Code) :
    (Instr.endRound b j).run P w = .ok (.bool j.isNone) (wset w b (.loop { r with state := if j.isNone then .ready else .done, pending := j })) := by
  simp [Instr.endRound, run_getLoop h, run_setObj h (by simp)]

omit [Val] in
theorem zip_foldl (ps : Array Tmp) (args : Array Value) (tmps : Array Value) :
    (ps.zip args).foldl (fun tmps (x : Tmp × Value) => tmps.setIfInBounds x.1 x.2) tmps = (ps.toList.zip args.toList).foldl (fun tmps (x : Tmp × Value) => tmps.setIfInBounds x.1 x.2) tmps := by
  rw [← Array.foldl_toList]; simp

omit [Val] in
/-- A round's end. -/
theorem roundEnd_ok {id : Nat} {σ υ σ' : St} {env : Env} {jump : Option Code} {v : AV} (h : roundEnd id σ env υ jump = .ret v σ') :
    ∃ st pend tm nt ps as bd, env.ds = [] ∧ υ.heap.get id = some (.loop st pend tm nt ps as bd) ∧ v = .bool jump.isNone ∧
      σ' = (υ.put id (.loop (bif jump.isNone then 0 else 2) jump tm nt ps as bd)).out σ := by
  unfold roundEnd at h
  split at h
  · rename_i st pend tm nt ps as bd hds ho
    simp only [CR.ret.injEq] at h
    obtain ⟨rfl, rfl⟩ := h
    exact ⟨st, pend, tm, nt, ps, as, bd, hds, ho, rfl, rfl⟩
  · cases h

omit [Val] in
theorem roundEnd_nopan {id : Nat} {σ υ σ' : St} {env : Env} {jump : Option Code} {c : List (AV × Bool)} (h : roundEnd id σ env υ jump = .pan c σ') : False := by
  unfold roundEnd at h
  split at h <;> cases h

/-- A round of a loop over a function. -/
theorem roundA_ok (hs : HkSteps C) {n : Nat} (hx : ExecOk P R C n) {id : Nat} {args : List AV} {σ σ' : St} {D : Nat → Prop} {φ : PM} {w : World} {args' : Array Value} {v : AV}
    (hi : Inv R C D φ σ w) (ha : VRL φ args args'.toList) (h : roundA (exec P C n) id args σ = .ret v σ') (hk : Known D σ σ') (hf : Free φ σ σ') :
    Does P φ (.yld id) args' w fun e w' => ∃ φ' v', e = .returned v' ∧ VR φ' v v' ∧ Post R D φ σ w σ' φ' w' := by
  unfold roundA at h
  simp only [cond_eq_ite] at h
  split at h
  · rename_i pend tm nt ps assign body ho
    split at h
    · cases h
    rename_i hps
    have hps : ∀ p ∈ ps, p < nt := by
      intro p hp
      have h1 : ps.all (fun p => Nat.blt p nt) = true := by simpa using hps
      exact blt_t (List.all_eq_true.1 h1 p hp)
    split at h
    · cases h
    · rename_i tm' hb
      split at h
      · rename_i env τ hex
        split at h
        · rename_i pend₂ tm₂ nt₂ ps₂ as₂ bd₂ ho₂
          -- how the body ends
          have hbody : ∃ e env₃ υ jump, exec P C n nt body env (τ.put id (.loop 1 pend₂ tm₂ nt₂ ps₂ as₂ bd₂)) = .ok e env₃ υ ∧ roundEnd id σ env₃ υ jump = .ret v σ' ∧
              ((e = .normal ∧ jump = none) ∨ (e = .ret ∧ jump = some .ret) ∨ (∃ i, e = .exit i ∧ jump = some (.exit i)) ∨ (∃ i, e = .goto i ∧ jump = some (.goto i))) := by
            split at h
            · rename_i env₃ υ hex₃; exact ⟨_, env₃, υ, none, hex₃, h, .inl ⟨rfl, rfl⟩⟩
            · rename_i env₃ υ hex₃; exact ⟨_, env₃, υ, _, hex₃, h, .inr (.inl ⟨rfl, rfl⟩)⟩
            · rename_i i env₃ υ hex₃; exact ⟨_, env₃, υ, _, hex₃, h, .inr (.inr (.inl ⟨i, rfl, rfl⟩))⟩
            · rename_i i env₃ υ hex₃; exact ⟨_, env₃, υ, _, hex₃, h, .inr (.inr (.inr ⟨i, rfl, rfl⟩))⟩
            · cases h
          obtain ⟨e, env₃, υ, jump, hex₃, hre, hjump⟩ := hbody
          obtain ⟨st₃, pend₃, tm₃, nt₃, ps₃, as₃, bd₃, hds, ho₃, rfl, rfl⟩ := roundEnd_ok hre
          have hex' : exec P C n nt assign { tm := tm', ds := [], md := none, rd := true } σ.bare = .ok .normal env τ := hex
          have s1 : StepA σ.bare τ := exec_steps hs n nt assign _ σ.bare τ (by rw [hex']; rfl)
          have s2 : StepA τ (τ.put id (.loop 1 pend₂ tm₂ nt₂ ps₂ as₂ bd₂)) := .put _ _ ho₂
          have s3 : StepA (τ.put id (.loop 1 pend₂ tm₂ nt₂ ps₂ as₂ bd₂)) υ := exec_steps hs n nt body _ _ υ (by rw [hex₃]; rfl)
          have s4 : StepA υ (υ.put id (.loop (bif jump.isNone then 0 else 2) jump tm₃ nt₃ ps₃ as₃ bd₃)) := .put _ _ ho₃
          have hlt := hi.lt ho
          have hk1 : Known D σ.bare (υ.put id (.loop (bif jump.isNone then 0 else 2) jump tm₃ nt₃ ps₃ as₃ bd₃)) := hk.bare
          have hf1 : Free φ σ.bare (υ.put id (.loop (bif jump.isNone then 0 else 2) jump tm₃ nt₃ ps₃ as₃ bd₃)) := hf
          have hD : D id := hk1 id (.inr (mem_addL.2 (.inl rfl))) hlt
          obtain ⟨hR, e0, r, he0, hb0, q1, q2, q3, q4, q5, q6, q7⟩ := hi.at ho hD
          intro e1 he1
          rw [he0] at he1; simp only [Option.some.injEq] at he1; subst he1
          obtain ⟨b1, b2, b3⟩ := bindA_ok ha hb q7 (fun p hp => by rw [q3]; exact hps p hp)
          have hsz : args'.size = r.params.size := by
            have : r.params.toList.length = args'.toList.length := by rw [q4]; exact b1
            simpa using this.symm
          refine ⟨e0.blk, r.fn, (r.params.zip args').foldl (fun tmps (x : Tmp × Value) => tmps.setIfInBounds x.1 x.2) r.tmps, r.assign, r.body, ?_, ?_⟩
          · simp [Instr.yield, run_getLoop hb0, hsz]
          · rw [zip_foldl, q4, q5, q6]
            refine round_of_runs fun cs => ?_
            have hfr : FrmR φ nt { tm := tm', ds := [], md := none, rd := true }
                { tmps := (ps.zip args'.toList).foldl (fun tmps (x : Tmp × Value) => tmps.setIfInBounds x.1 x.2) r.tmps, defers := [] } := ⟨⟨b2.trans q3, b3⟩, .nil⟩
            refine Runs.mono (hx nt assign _ σ.bare _ env τ D φ _ cs w (some e0.blk) false cs hex' hi.bare hfr ⟨rfl, rfl⟩ rfl (hk1.mono (s2.trans (s3.trans s4))) (hf1.mono (s2.trans (s3.trans s4)))) fun e1 a1 cs1 w1 q => ?_
            obtain ⟨φ1, g1, g2, g3, g4, g5⟩ := q
            have := exit_normal g1
            subst this
            have hmd : env.md = none := by
              cases hm : env.md with
              | none => rfl
              | some m => rw [hm] at g3; have := g3.1; cases this
            rw [hmd] at g3
            have hi1 := g5.inv hi.bare s1
            have hlt1 := hi1.lt ho₂
            obtain ⟨_, e2, r2, he2, hb2, t1, t2, t3, t4, t5, t6, t7⟩ := hi1.at ho₂ (.inl hD)
            have hee := g5.le _ _ _ he0
            rw [he2] at hee; simp only [Option.some.injEq] at hee; subst hee
            have p2 : Post R (More D σ.bare) φ1 τ w1 (τ.put id (.loop 1 pend₂ tm₂ nt₂ ps₂ as₂ bd₂)) φ1 (wset w1 e2.blk (.loop { r2 with state := .busy })) :=
              .change hi1 hR hlt1 he2 ⟨hR, e2, { r2 with state := .busy }, he2, wset_same _ _ _ (heap_lt hb2), rfl, t2, t3, t4, t5, t6, t7⟩
            have hi2 := p2.inv hi1 s2
            refine ⟨g3.2, rfl, _, run_beginRound hb2 (stN_ready t1), ?_⟩
            have p12 := g5.trans p2 s1 s2
            have hk2 : Known (More (More D σ.bare) τ) (τ.put id (.loop 1 pend₂ tm₂ nt₂ ps₂ as₂ bd₂)) υ := (Known.then (σ' := τ) (hk1.mono s4)).then
            have hf2 : Free φ1 (τ.put id (.loop 1 pend₂ tm₂ nt₂ ps₂ as₂ bd₂)) υ := (hf1.mono s4).then p12 (s1.trans s2)
            refine Runs.mono (hx nt body env _ e env₃ υ _ φ1 a1 cs _ (some e2.blk) false cs hex₃ hi2 g2 (by rw [hmd]; exact ⟨rfl, rfl⟩) g4 hk2 hf2) fun e' a' cs' w' q => ?_
            obtain ⟨φ3, k1, k2, k3, k4, k5⟩ := q
            have hmd3 : env₃.md = none := by
              cases hm : env₃.md with
              | none => rfl
              | some m => rw [hm] at k3; have := k3.1; cases this
            rw [hmd3] at k3
            refine ⟨k3.2, ?_⟩
            have hi3 := k5.inv hi2 s3
            have hlt3 := hi3.lt ho₃
            obtain ⟨_, e3, r3, he3, hb3, u1, u2, u3, u4, u5, u6, u7⟩ := hi3.at ho₃ (.inl (.inl (.inl hD)))
            have hee := k5.le _ _ _ he2
            rw [he3] at hee; simp only [Option.some.injEq] at hee; subst hee
            have p4 : Post R (More (More (More D σ.bare) τ) (τ.put id (.loop 1 pend₂ tm₂ nt₂ ps₂ as₂ bd₂))) φ3 υ w' (υ.put id (.loop (bif jump.isNone then 0 else 2) jump tm₃ nt₃ ps₃ as₃ bd₃)) φ3
                (wset w' e3.blk (.loop { r3 with state := if jump.isNone then .ready else .done, pending := jump })) :=
              .change hi3 hR hlt3 he3 ⟨hR, e3, _, he3, wset_same _ _ _ (heap_lt hb3), by cases jump <;> rfl, rfl, u3, u4, u5, u6, u7⟩
            have ptot := g5.trans (p2.trans (k5.trans p4 s3 s4) s2 (s3.trans s4)) s1 (s2.trans (s3.trans s4))
            have pout := ptot.outer (s1.trans (s2.trans (s3.trans s4))) hi hf
            have hfin : ∃ v' w'', (Instr.endRound e3.blk jump).run P w' = .ok v' w'' ∧
                (∃ φ' u', Ending.returned v' = .returned u' ∧ VR φ' (.bool jump.isNone) u' ∧ Post R D φ σ w ((υ.put id (.loop (bif jump.isNone then 0 else 2) jump tm₃ nt₃ ps₃ as₃ bd₃)).out σ) φ' w'') :=
              ⟨_, _, run_endRound hb3 jump, φ3, _, rfl, .bool _, pout⟩
            rcases hjump with ⟨rfl, rfl⟩ | ⟨rfl, rfl⟩ | ⟨i, rfl, rfl⟩ | ⟨i, rfl, rfl⟩
            · cases e' <;> simp only [ExitR] at k1; exact hfin
            · cases e' <;> simp only [ExitR] at k1; exact hfin
            · cases e' <;> simp only [ExitR] at k1; subst k1; exact hfin
            · cases e' <;> simp only [ExitR] at k1; subst k1; exact hfin
        · cases h
      · cases h
  · cases h

omit [Val] in
theorem roundA_nopan {ex : Nat → Code → Env → St → XR} {id : Nat} {args : List AV} {σ σ' : St} {c : List (AV × Bool)} (h : roundA ex id args σ = .pan c σ') : False := by
  unfold roundA at h
  simp only [cond_eq_ite] at h
  repeat' split at h
  all_goals first
    | (cases h; done)
    | exact roundEnd_nopan h
end
end Go.Tw
