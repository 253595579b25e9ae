/-
  A part of the proof that the abstract evaluator is sound for the model's machine. Conditions: those of each theorem, as it states them.
-/
import Derived.Test.YtbdkfhkkocjciaaTwSound2
namespace Go.Tw
section
variable {P : Program} {R : Nat} {C : Cfg}

theorem envOf_get : ∀ {l : List AV} {i : Nat} {e : T AV} {t : Nat} {v : AV}, (envOf l i e).get t = some v → (i ≤ t ∧ l[t - i]? = some v) ∨ e.get t = some v := by
  intro l
  induction l with
  | nil => intro i e t v h; exact .inr h
  | cons x l ih =>
    intro i e t v h
    rcases ih h with ⟨h1, h2⟩ | h2
    · left
      refine ⟨by omega, ?_⟩
      have : t - i = (t - (i + 1)) + 1 := by omega
      rw [this, List.getElem?_cons_succ]
      exact h2
    · rw [T.get_set] at h2
      by_cases ht : t = i
      · left
        rw [if_pos ht] at h2
        refine ⟨by omega, ?_⟩
        rw [ht, Nat.sub_self]
        exact h2
      · rw [if_neg ht] at h2
        exact .inr h2

theorem enter_env {φ : PM} {args : List AV} {args' : Array Value} (ha : VRL φ args args'.toList) {nt : Nat} (hn : args.length ≤ nt) :
    EnvR φ nt { tm := envOf args 0 .leaf, ds := [] } { tmps := args' ++ Array.replicate (nt - args'.size) undef, defers := [] } := by
  have hsz : args'.size = args.length := by rw [← ha.length, Array.length_toList]
  refine ⟨by simp; omega, fun t v h => ?_⟩
  rcases envOf_get h with ⟨_, h1⟩ | h1
  · obtain ⟨v', g1, g2⟩ := ha.get h1
    refine ⟨v', ?_, g2⟩
    rw [Nat.sub_zero, Array.getElem?_toList] at g1
    rw [Array.getElem?_append_left]
    · exact g1
    · rcases Nat.lt_or_ge t args'.size with h' | h'
      · exact h'
      · rw [Array.getElem?_eq_none h'] at g1; cases g1
  · simp [T.get] at h1

theorem Inv.bare {D : Nat → Prop} {φ : PM} {σ : St} {w : World} (h : Inv R C D φ σ w) : Inv R C D φ σ.bare w := ⟨h.wf, h.low, h.rep, h.gl, h.dom⟩

theorem Post.outer {D : Nat → Prop} {φ φ' : PM} {σ τ : St} {w w' : World} (h : Post R D φ σ.bare w τ φ' w') (s : StepA σ.bare τ) (hi : Inv R C D φ σ w)
    (hf : Free φ σ (τ.out σ)) : Post R D φ σ w (τ.out σ) φ' w' where
  le := h.le
  grow := fun i h1 h2 v => h.grow i (by
    rcases h1 with h1 | h1
    · rcases Nat.lt_or_ge i σ.next with hl | hl
      · exact .inl fun hw => h1 (List.mem_append.2 (.inl (mem_keepOld.2 ⟨hl, hw⟩)))
      · right
        rcases Nat.lt_or_ge i τ.next with g | g
        · exact absurd ⟨hl, g⟩ h2
        · exact g
    · exact .inr h1) h2 v
  wrR := fun i hi' => by
    rcases List.mem_append.1 hi' with h1 | h1
    · exact .inr ((h.wrR i (mem_keepOld.1 h1).2).resolve_left (by simp [St.bare]))
    · exact .inl h1
  wf := h.wf
  blk := h.blk
  rep := h.rep
  frm := {
    size := h.frm.size
    keep := fun b hb hne => h.frm.keep b hb fun i hiw v e he => by
      rcases Nat.lt_or_ge i σ.next with hl | hl
      · exact hne i (List.mem_append.2 (.inl (mem_keepOld.2 ⟨hl, hiw⟩))) v e he
      · have hlt : i < τ.next := (s.wlt hi.dom i hiw).resolve_left (by simp [St.bare])
        rw [hf i hl hlt v] at he
        cases he
    os := h.frm.os
    out := h.frm.out
    tape := h.frm.tape }

theorem Known.bare {D : Nat → Prop} {σ τ : St} (h : Known D σ (τ.out σ)) : Known D σ.bare τ := fun i hi hn =>
  h i (hi.imp (fun h1 => List.mem_append.2 (.inl (mem_keepOld.2 ⟨hn, h1⟩))) (fun h1 => List.mem_append.2 (.inl (mem_keepOld.2 ⟨hn, h1⟩)))) hn

theorem callA_next (hs : CallSteps C.hk) (hh : CallOk P R C C.hk) {n : Nat} (hx : ExecOk P R C n) : CallOk P R C (callA P C (exec P C n)) := by
  intro f args σ D φ w args' hi ha
  have hhk := hh f args σ D φ w args' hi ha
  -- a body's end by way of its results
  have body : ∀ (fn : Func) (c : Code) (e : AExit) (env : Env) (τ τ1 : St) (l : List AV), P.funcs[f]? = some fn → fn.body = some c → args.length ≤ fn.ntmps →
      exec P C n fn.ntmps c { tm := envOf args 0 .leaf, ds := [] } σ.bare = .ok e env τ → e = .ret ∨ e = .normal → resultsA P fn env τ fn.results.toList = some (l, τ1) →
      Known D σ (τ1.out σ) → Free φ σ (τ1.out σ) →
      Calls P f args' w fun e w' => ∃ φ' v', e = .returned v' ∧ VR φ' (given l) v' ∧ Post R D φ σ w (τ1.out σ) φ' w' := by
    intro fn c e env τ τ1 l hfn hb hlen hex he hres hk hf
    have s1 : StepA σ.bare τ := exec_steps hs n fn.ntmps c _ σ.bare τ (by rw [hex]; rfl)
    have s2 : StepA τ τ1 := resultsA_step _ hres
    have hk1 : Known D σ.bare τ1 := hk.bare
    have hf1 : Free φ σ.bare τ1 := hf
    refine calls_of_wp hfn hb (wp_mono (hx fn.ntmps c _ σ.bare e env τ D φ _ w hex hi.bare (enter_env ha hlen) rfl (hk1.mono s2) (hf1.mono s2)) fun e1 a1 w1 q => ?_)
    obtain ⟨φ1, g1, g2, g3, g4⟩ := q
    obtain ⟨v', r1, r2, r3⟩ := results_ok g2 (g4.inv hi.bare s1) hres hk1.then
    have hp := (g4.trans r3 s1 s2).outer (s1.trans s2) hi hf
    rcases he with rfl | rfl
    · cases e1 <;> simp only [ExitR] at g1
      exact ⟨g3, v', r1, φ1, v', rfl, r2, hp⟩
    · cases e1 <;> simp only [ExitR] at g1
      exact ⟨g3, v', r1, φ1, v', rfl, r2, hp⟩
  refine ⟨fun v σ' h hk hf => ?_, fun ch σ' h hk hf => ?_⟩
  · unfold callA at h
    split at h
    · rename_i v1 τ hr
      simp only [CR.ret.injEq] at h
      obtain ⟨rfl, rfl⟩ := h
      exact hhk.1 _ _ hr hk hf
    · cases h
    · split at h
      · cases h
      · rename_i fn hfn
        split at h
        · cases h
        · rename_i c hb
          simp only [cond_eq_ite] at h
          split at h
          · rename_i hlen
            unfold endA at h
            split at h
            · rename_i env τ hex
              split at h
              · rename_i l τ1 hds hres
                simp only [CR.ret.injEq] at h
                obtain ⟨rfl, rfl⟩ := h
                exact body fn c _ env τ τ1 l hfn hb (ble_t hlen) hex (.inl rfl) hres hk hf
              · cases h
            · rename_i env τ hex
              split at h
              · rename_i l τ1 hds hres
                simp only [CR.ret.injEq] at h
                obtain ⟨rfl, rfl⟩ := h
                exact body fn c _ env τ τ1 l hfn hb (ble_t hlen) hex (.inr rfl) hres hk hf
              · cases h
            · split at h <;> cases h
            · cases h
          · cases h
  · unfold callA at h
    split at h
    · cases h
    · rename_i v1 τ hr
      simp only [CR.pan.injEq] at h
      obtain ⟨rfl, rfl⟩ := h
      exact hhk.2 _ _ hr hk hf
    · split at h
      · cases h
      · rename_i fn hfn
        split at h
        · cases h
        · rename_i c hb
          simp only [cond_eq_ite] at h
          split at h
          · rename_i hlen
            unfold endA at h
            split at h
            · split at h <;> cases h
            · split at h <;> cases h
            · rename_i ch env τ hex
              split at h
              · simp only [CR.pan.injEq] at h
                obtain ⟨rfl, rfl⟩ := h
                have s1 : StepA σ.bare τ := exec_steps hs n fn.ntmps c _ σ.bare τ (by rw [hex]; rfl)
                refine calls_of_wp hfn hb (wp_mono (hx fn.ntmps c _ σ.bare _ env τ D φ _ w hex hi.bare (enter_env ha (ble_t hlen)) rfl hk.bare hf) fun e1 a1 w1 q => ?_)
                obtain ⟨φ1, g1, g2, g3, g4⟩ := q
                cases e1 <;> simp only [ExitR] at g1
                exact ⟨g3, φ1, _, rfl, g1, g4.outer s1 hi hf⟩
              · cases h
            · cases h
          · cases h

theorem exec_all (hs : CallSteps C.hk) (hh : CallOk P R C C.hk) (hm : P.follows .mixedOrders = true) : ∀ n, ExecOk P R C n ∧ LoopOk P R C n := by
  intro n
  induction n with
  | zero => exact ⟨fun nt c env σ e env' σ' D φ a w h => by simp [exec] at h, fun nt c env σ e env' σ' D φ a w h => by simp [exec] at h⟩
  | succ n ih =>
    have hl := loop_next hs ih.1 ih.2
    exact ⟨exec_next hs hm ih.1 hl (callA_next hs hh ih.1), hl⟩

/-- Calls run by the evaluator are sound. -/
theorem callN_ok (hs : CallSteps C.hk) (hh : CallOk P R C C.hk) (hm : P.follows .mixedOrders = true) (n : Nat) : CallOk P R C (callN P C n) :=
  callA_next hs hh (exec_all hs hh hm n).1

theorem none_steps : CallSteps Cfg.none.hk := fun _ _ _ => by simp [Cfg.none, CR.steps, CR.st]
theorem none_ok : CallOk P R Cfg.none Cfg.none.hk := fun f args σ D φ w args' _ _ =>
  ⟨fun v σ' h => by simp [Cfg.none] at h, fun v σ' h => by simp [Cfg.none] at h⟩

/-- A function of no arguments that the evaluator runs from nothing. -/
theorem callN_run (hm : P.follows .mixedOrders = true) {n f : Nat} {v : AV} {σ' : St} (h : callN P Cfg.none n f [] (St.empty 0) = .ret v σ') (w : World) :
    Calls P f #[] w fun e w' => ∃ φ' v', e = .returned v' ∧ VR φ' v v' ∧ Post 0 (fun _ => False) (fun _ _ => none) (St.empty 0) w σ' φ' w' := by
  refine (callN_ok (R := 0) none_steps none_ok hm n f [] (St.empty 0) (fun _ => False) (fun _ _ => none) w #[] ?_ .nil).1 v σ' h ?_ ?_
  · exact { wf := ⟨fun _ _ _ _ _ _ h => (by cases h), fun _ _ _ h => (by cases h), fun _ _ _ h => (by cases h)⟩, low := Nat.le_refl _, rep := fun _ h => h.elim,
            gl := fun g n h => by simp [Cfg.none] at h, dom := fun i _ => by simp [St.empty, T.get] }
  · intro i hi hn
    simp [St.empty] at hn
  · exact fun _ _ _ _ => rfl
end
end Go.Tw
