/-
  A part of the proof that the abstract evaluator is sound for the model's machine. Conditions: those of each theorem, as it states them.
-/
import Derived.Test.YtbbnjiceenjhcaaGreatDoorTwDraw3
set_option linter.all false
namespace Go.Tw
section
variable [Val]
variable {P : Program} {R : Nat} {C : Cfg} {D : Nat → Prop} {φ : PM} {σ : St} {w : World}

/-- What one of a function's results reads. -/
def readRes (tmps : Array Value) : ResultVar → Sem Value
  | .tmp t => pure (tmps.getD t undef)
  | .cell a t => do loadVar t (← asAddr (tmps.getD a undef))

omit [Val] in
theorem results_eq (fn : Func) (tmps : Array Value) :
    results fn tmps = (fn.results.mapM (readRes tmps) >>= fun vs => pure (if h : vs.size = 1 then vs[0] else .tuple vs)) := by
  unfold results
  congr 1

theorem resultsL_ok {fn : Func} {nt : Nat} {env : Env} {a : Act} (he : EnvR φ nt env a) : ∀ (rs : List ResultVar) (σ σ' : St) (l : List AV), Inv R C D φ σ w →
    resultsA P fn env σ rs = some (l, σ') → Known D σ σ' →
    ∃ l', (rs.mapM (readRes a.tmps)).run P w = .ok l' w ∧ VRL φ l l' ∧ σ'.heap = σ.heap ∧ σ'.next = σ.next ∧ σ'.wr = σ.wr := by
  intro rs
  induction rs with
  | nil =>
    intro σ σ' l hi h _
    simp only [resultsA, Option.some.injEq, Prod.mk.injEq] at h
    obtain ⟨rfl, rfl⟩ := h
    exact ⟨[], by simp, .nil, rfl, rfl, rfl⟩
  | cons r rest ih =>
    intro σ σ' l hi h hk
    cases r with
    | tmp t =>
      simp only [resultsA] at h
      split at h
      · rename_i v l1 σ1 hv hr
        simp only [Option.some.injEq, Prod.mk.injEq] at h
        obtain ⟨rfl, rfl⟩ := h
        obtain ⟨v', g1, g2⟩ := he.val t v hv
        obtain ⟨l', r1, r2, r3⟩ := ih σ σ1 l1 hi hr hk
        exact ⟨v' :: l', by simp [List.mapM_cons, readRes, g1, r1], .cons g2 r2, r3⟩
      · cases h
    | cell p t =>
      simp only [resultsA] at h
      split at h
      · rename_i q hq
        split at h
        · rename_i v σ1 hl
          split at h
          · rename_i l1 σ2 hr
            simp only [Option.some.injEq, Prod.mk.injEq] at h
            obtain ⟨rfl, rfl⟩ := h
            obtain ⟨q', g1, g2⟩ := he.val p q hq
            have s2 : StepA σ1 σ2 := resultsA_step _ hr
            obtain ⟨v', m1, m2, m3⟩ := loadA_ok hi hl g2 (hk.mono s2)
            have hsame : σ1.heap = σ.heap ∧ σ1.next = σ.next ∧ σ1.wr = σ.wr := by
              unfold loadA at hl
              repeat' split at hl
              all_goals (first | (cases hl; done) | (simp only [Option.some.injEq, Prod.mk.injEq] at hl; obtain ⟨_, rfl⟩ := hl; exact ⟨rfl, rfl, rfl⟩))
            have hi1 : Inv R C (More D σ) φ σ1 w := m3.inv hi (loadA_step hl)
            have hi1 : Inv R C D φ σ1 w := ⟨hi1.wf, hi1.low, fun i hd hn => hi1.rep i (.inl hd) hn, hi1.gl, hi1.dom, hi1.pin, hi1.dec, hi1.wrR, hi1.ro⟩
            obtain ⟨l', r1, r2, r3, r4, r5⟩ := ih σ1 σ2 l1 hi1 hr (fun i h1 h2 => hk i h1 (by rw [← hsame.2.1]; exact h2))
            refine ⟨v' :: l', ?_, .cons m2 r2, r3.trans hsame.1, r4.trans hsame.2.1, r5.trans hsame.2.2⟩
            have hload : (readRes a.tmps (.cell p t)).run P w = .ok v' w := by
              simp only [readRes, Array.getD_eq_getD_getElem?, g1, Option.getD_some]
              cases g2 with
              | ptr e o _ _ _ _ => simpa [Instr.loadAt, Instr.sureAddr, asAddr] using m1
              | _ => simp [loadA] at hl
            rw [List.mapM_cons]
            simp only [Sem.run_bind, hload, r1, Result.andThen_ok, Sem.run_pure]
          · cases h
        · cases h
      · cases h

/-- What a function gives back. -/
def given : List AV → AV
  | [v] => v
  | l => .tup l

theorem results_ok {fn : Func} {nt : Nat} {env : Env} {a : Act} {σ' : St} {l : List AV} (he : EnvR φ nt env a) (hi : Inv R C D φ σ w)
    (h : resultsA P fn env σ fn.results.toList = some (l, σ')) (hk : Known D σ σ') :
    ∃ v', (results fn a.tmps).run P w = .ok v' w ∧ VR φ (given l) v' ∧ Post R D φ σ w σ' φ w := by
  obtain ⟨l', r1, r2, r3, r4, r5⟩ := resultsL_ok he _ σ σ' l hi h hk
  have hrun : (results fn a.tmps).run P w = .ok (if h : l'.toArray.size = 1 then l'.toArray[0] else .tuple l'.toArray) w := by
    have : (fn.results.mapM (readRes a.tmps)).run P w = .ok l'.toArray w := by
      rw [Array.mapM_eq_mapM_toList]
      simp [r1]
    rw [results_eq, Sem.run_bind, this]
    rfl
  refine ⟨_, hrun, ?_, .same hi r3 r4 r5⟩
  cases r2 with
  | nil => exact .tup _ .nil
  | cons hv ht =>
    cases ht with
    | nil => simpa [given] using hv
    | cons hv2 ht =>
      have : ∀ (x y : Value) (r : List Value), (if h : (x :: y :: r).toArray.size = 1 then (x :: y :: r).toArray[0] else .tuple (x :: y :: r).toArray) = .tuple (x :: y :: r).toArray := by
        intro x y r
        rw [dif_neg]
        simp
      rw [this]
      exact .tup _ (.cons hv (.cons hv2 ht))
end
end Go.Tw
