/-
  A part of the proof that the abstract evaluator is sound for the model's machine. Conditions: those of each theorem, as it states them.
-/
import Derived.Test.YtelhnjgcijjngaaGreatDoorTwStep
set_option linter.all false
namespace Go.Tw
section
variable {P : Program} {C : Cfg}
theorem readN_ok {σ : St} {id ver off hi n : Nat} {l : List AV} (h : readN σ id ver off hi n = some l) :
    off + n ≤ hi ∧ ∃ o c, σ.heap.get id = some o ∧ o.view ver = some c ∧ cut c off n = some l := by
  unfold readN at h
  simp only [cond_eq_ite] at h
  split at h
  · rename_i hb
    refine ⟨ble_t hb, ?_⟩
    split at h
    · rename_i o ho
      split at h
      · rename_i c hc
        exact ⟨o, c, ho, hc, h⟩
      · cases h
    · cases h
  · cases h
theorem writeN_ok {σ σ' : St} {id ver off hi : Nat} {vs : List AV} (h : writeN σ id ver off hi vs = some σ') :
    off + vs.length ≤ hi ∧ vs.all AV.flat = true ∧ ∃ o o', σ.heap.get id = some o ∧ o.write ver off vs = some o' ∧ σ' = σ.put id o' := by
  unfold writeN at h
  simp only [cond_eq_ite, Bool.and_eq_true] at h
  split at h
  · rename_i hb
    refine ⟨ble_t hb.1, hb.2, ?_⟩
    split at h
    · rename_i o ho
      split at h
      · rename_i o' hc
        simp only [Option.some.injEq] at h
        exact ⟨o, o', ho, hc, h.symm⟩
      · cases h
    · cases h
  · cases h
theorem writeN_step {σ σ' : St} {id ver off hi : Nat} {vs : List AV} (h : writeN σ id ver off hi vs = some σ') : StepA σ σ' := by
  obtain ⟨_, _, o, o', ho, _, rfl⟩ := writeN_ok h
  exact .put _ _ ho
theorem loadA_step {t : TypeId} {a v : AV} {σ σ' : St} (h : loadA P t a σ = some (v, σ')) : StepA σ σ' := by
  unfold loadA at h
  repeat' split at h
  all_goals (first | (cases h; done) | (simp only [Option.some.injEq, Prod.mk.injEq] at h; obtain ⟨_, rfl⟩ := h; exact .lgR _ _))
theorem storeA_step {t : TypeId} {a v : AV} {σ σ' : St} (h : storeA P t a v σ = some σ') : StepA σ σ' := by
  unfold storeA at h
  simp only [cond_eq_ite] at h
  repeat' split at h
  all_goals (first | (cases h; done) | exact writeN_step h)
theorem convA_step {s d : TypeId} {x v : AV} {σ σ' : St} (h : convA P s d x σ = some (v, σ')) : StepA σ σ' := by
  unfold convA at h
  simp only [cond_eq_ite] at h
  repeat' split at h
  all_goals (first | (cases h; done) | (simp only [Option.some.injEq, Prod.mk.injEq] at h; obtain ⟨_, rfl⟩ := h; first | exact .refl _ | exact .lgR _ _ | exact .mk' _ _ | exact .put _ _ (by assumption)))
theorem buildSliceA_step {t : TypeId} {n : Nat} {ps : List (Nat × AV)} {v : AV} {σ σ' : St} (h : buildSliceA P t n ps σ = some (v, σ')) : StepA σ σ' := by
  unfold buildSliceA at h
  simp only [cond_eq_ite] at h
  repeat' split at h
  all_goals (first | (cases h; done) | (simp only [Option.some.injEq, Prod.mk.injEq] at h; obtain ⟨_, rfl⟩ := h; exact .mk' _ _))
theorem lookupA_step {t : TypeId} {x k : AV} {ok : Bool} {v : AV} {σ σ' : St} (h : lookupA P t x k ok σ = some (v, σ')) : StepA σ σ' := by
  unfold lookupA at h
  simp only [cond_eq_ite] at h
  split at h
  · split at h
    · split at h
      · cases h
      · rename_i es τ he
        have hs : StepA σ τ := by
          repeat' split at he
          all_goals (first | (cases he; done) | (simp only [Option.some.injEq, Prod.mk.injEq] at he; obtain ⟨_, rfl⟩ := he; first | exact .refl _ | exact .lgR _ _))
        repeat' split at h
        all_goals (first | (cases h; done) | (simp only [Option.some.injEq, Prod.mk.injEq] at h; obtain ⟨_, rfl⟩ := h; exact hs))
    · cases h
  · cases h
theorem updateA_step {t : TypeId} {x k v : AV} {σ σ' : St} (h : updateA P t x k v σ = some σ') : StepA σ σ' := by
  unfold updateA at h
  simp only [cond_eq_ite] at h
  repeat' split at h
  all_goals (first | (cases h; done) | (simp only [Option.some.injEq] at h; subst h; exact .put _ _ (by assumption)))
theorem lenA_step {t : TypeId} {x v : AV} {σ σ' : St} (h : lenA P t x σ = some (v, σ')) : StepA σ σ' := by
  unfold lenA at h
  repeat' split at h
  all_goals (first | (cases h; done) | (simp only [Option.some.injEq, Prod.mk.injEq] at h; obtain ⟨_, rfl⟩ := h; first | exact .refl _ | exact .lgR _ _))
theorem firstA_step {size n : Nat} {x : AV} {l : List AV} {σ σ' : St} (h : firstA size n x σ = some (l, σ')) : StepA σ σ' := by
  unfold firstA at h
  simp only [cond_eq_ite] at h
  repeat' split at h
  all_goals (first | (cases h; done) | (simp only [Option.some.injEq, Prod.mk.injEq] at h; obtain ⟨_, rfl⟩ := h; first | exact .refl _ | exact .lgR _ _))
theorem appendTo_step {et : TypeId} {size bw n : Nat} {s v : AV} {new : List AV} {σ σ' : St} (h : appendTo et size bw s n new σ = some (v, σ')) : StepA σ σ' := by
  unfold appendTo at h
  simp only [cond_eq_ite] at h
  split at h
  · repeat' split at h
    all_goals (first | (cases h; done) | (simp only [Option.some.injEq, Prod.mk.injEq] at h; obtain ⟨_, rfl⟩ := h; first | exact .refl _ | exact .mk' _ _))
  · split at h
    · split at h
      · simp only [Option.some.injEq, Prod.mk.injEq] at h; obtain ⟨_, rfl⟩ := h; exact .refl _
      · split at h
        · split at h
          · split at h
            · split at h
              · rename_i hw
                simp only [Option.some.injEq, Prod.mk.injEq] at h; obtain ⟨_, rfl⟩ := h; exact writeN_step hw
              · cases h
            · split at h
              · rename_i hw
                simp only [Option.some.injEq, Prod.mk.injEq] at h; obtain ⟨_, rfl⟩ := h; exact (firstA_step hw).trans (.mk' _ _)
              · cases h
          · repeat' split at h
            all_goals (first | (cases h; done) | (simp only [Option.some.injEq, Prod.mk.injEq] at h; obtain ⟨_, rfl⟩ := h; exact .put _ _ (by assumption)))
        · cases h
    · cases h
  · cases h
theorem appendA_step {ts : List TypeId} {args : List AV} {v : AV} {σ σ' : St} (h : appendA P ts args σ = some (v, σ')) : StepA σ σ' := by
  unfold appendA at h
  split at h
  · split at h
    · split at h
      · simp only [cond_eq_ite] at h
        split at h
        · split at h
          · split at h
            · split at h
              · exact appendTo_step h
              · cases h
            · cases h
          · split at h
            · split at h
              · rename_i hf
                exact (firstA_step hf).trans (appendTo_step h)
              · cases h
            · cases h
          · cases h
        · cases h
      · cases h
    · cases h
  · cases h
theorem copyA_step {ts : List TypeId} {args : List AV} {v : AV} {σ σ' : St} (h : copyA P ts args σ = some (v, σ')) : StepA σ σ' := by
  unfold copyA at h
  split at h
  · split at h
    · split at h
      · dsimp only at h
        split at h
        · rename_i hf
          have h1 := firstA_step hf
          simp only [cond_eq_ite] at h
          split at h
          · simp only [Option.some.injEq, Prod.mk.injEq] at h; obtain ⟨_, rfl⟩ := h; exact h1
          · split at h
            · split at h
              · simp only [Option.some.injEq, Prod.mk.injEq] at h; obtain ⟨_, rfl⟩ := h; exact h1
              · split at h
                · rename_i hw
                  simp only [Option.some.injEq, Prod.mk.injEq] at h; obtain ⟨_, rfl⟩ := h; exact h1.trans (writeN_step hw)
                · cases h
            · cases h
          · cases h
        · cases h
      · cases h
    · cases h
  · cases h
theorem makeSliceA_step {t : TypeId} {l c v : AV} {σ σ' : St} (h : makeSliceA P t l c σ = some (v, σ')) : StepA σ σ' := by
  unfold makeSliceA at h
  simp only [cond_eq_ite] at h
  repeat' split at h
  all_goals (first | (cases h; done) | (simp only [Option.some.injEq, Prod.mk.injEq] at h; obtain ⟨_, rfl⟩ := h; exact .mk' _ _))
theorem rangeA_step {t : TypeId} {x v : AV} {σ σ' : St} (h : rangeA P t x σ = some (v, σ')) : StepA σ σ' := by
  unfold rangeA at h
  repeat' split at h
  all_goals (first | (cases h; done) | (simp only [Option.some.injEq, Prod.mk.injEq] at h; obtain ⟨_, rfl⟩ := h; first | exact .mk' _ _ | exact (StepA.lgR _ _).trans (.mk' _ _)))
theorem entryA_step {x v : AV} {σ σ' : St} (h : entryA x σ = some (v, σ')) : StepA σ σ' := by
  unfold entryA at h
  simp only [cond_eq_ite] at h
  repeat' split at h
  all_goals (first | (cases h; done) | (simp only [Option.some.injEq, Prod.mk.injEq] at h; obtain ⟨_, rfl⟩ := h; exact (StepA.lgR _ _).trans (.lgR _ _)))
theorem mnextA_step {x : AV} {σ : St} {l : List (AV × St)} (h : mnextA x σ = some l) : ∀ p ∈ l, StepA σ p.2 := by
  unfold mnextA at h
  repeat' split at h
  all_goals (first | (cases h; done) | skip)
  · simp only [Option.some.injEq] at h
    subst h
    intro p hp
    simp only [List.mem_singleton] at hp
    subst hp
    exact .lgR _ _
  · simp only [Option.some.injEq] at h
    subst h
    intro p hp
    obtain ⟨c, _, rfl⟩ := List.mem_map.1 hp
    cases c with
    | none => exact (StepA.lgR _ _).trans (.lgR _ _)
    | some c => exact (StepA.lgR _ _).trans (.put _ _ (by assumption))
theorem clearA_step {t : TypeId} {x : AV} {σ σ' : St} (h : clearA P t x σ = some σ') : StepA σ σ' := by
  unfold clearA at h
  simp only [cond_eq_ite] at h
  repeat' split at h
  all_goals (first | (cases h; done) | exact writeN_step h | (simp only [Option.some.injEq] at h; subst h; first | exact .refl _ | exact .put _ _ (by assumption)))
theorem nextA_step {x v : AV} {b : Bool} {σ σ' : St} (h : nextA x b σ = some (v, σ')) : StepA σ σ' := by
  unfold nextA at h
  simp only [cond_eq_ite] at h
  repeat' split at h
  all_goals (first | (cases h; done) | (simp only [Option.some.injEq, Prod.mk.injEq] at h; obtain ⟨_, rfl⟩ := h; first | exact .put _ _ (by assumption) | exact .lgR _ _))
def OR.st : OR → Option St
  | .val _ σ | .dfr _ σ | .pan _ σ | .call _ _ σ | .rcv σ => some σ
  | .no => none
def OR.steps (σ : St) (r : OR) : Prop := ∀ σ', r.st = some σ' → StepA σ σ'
theorem steps_of {σ : St} (x : Option AV) : (OR.of x σ).steps σ := by
  cases x <;> simp [OR.of, OR.steps, OR.st, StepA.refl]
theorem steps_ofS {σ : St} {x : Option (AV × St)} (h : ∀ v σ', x = some (v, σ') → StepA σ σ') : (OR.ofS x).steps σ := by
  cases x with
  | none => simp [OR.ofS, OR.steps, OR.st]
  | some p => obtain ⟨v, τ⟩ := p; simpa [OR.ofS, OR.steps, OR.st] using h v τ rfl
theorem steps_ofU {σ : St} {x : Option St} (h : ∀ σ', x = some σ' → StepA σ σ') : (OR.ofU x).steps σ := by
  cases x with
  | none => simp [OR.ofU, OR.steps, OR.st]
  | some p => simpa [OR.ofU, OR.steps, OR.st] using h p rfl
theorem steps_no {σ : St} : OR.no.steps σ := by simp [OR.steps, OR.st]
theorem steps_val {σ σ' : St} {v : AV} (h : StepA σ σ') : (OR.val v σ').steps σ := by simpa [OR.steps, OR.st] using h
theorem steps_pan {σ σ' : St} {v : AV} (h : StepA σ σ') : (OR.pan v σ').steps σ := by simpa [OR.steps, OR.st] using h
theorem steps_call {σ σ' : St} {f : Cle} {l : List AV} (h : StepA σ σ') : (OR.call f l σ').steps σ := by simpa [OR.steps, OR.st] using h
theorem steps_rcv {σ σ' : St} (h : StepA σ σ') : (OR.rcv σ').steps σ := by simpa [OR.steps, OR.st] using h
theorem steps_dfr {σ σ' : St} {d : ADef} (h : StepA σ σ') : (OR.dfr d σ').steps σ := by simpa [OR.steps, OR.st] using h
theorem atomicA_steps {n : Nat} {k : IntKind} {args : List AV} {σ : St} : (atomicA n k args σ).steps σ := by
  unfold atomicA
  repeat' split
  all_goals first
    | exact steps_no
    | exact steps_val (.refl _)
    | exact steps_val (.lgR _ _)
    | (rename_i hw; exact steps_val (writeN_step hw))
    | (rename_i hw _; exact steps_val (writeN_step hw))
theorem externA_steps {name : String} {sl : Option TypeId} {args : List AV} {σ : St} : (externA name sl args σ).steps σ := by
  unfold externA
  simp only [cond_eq_ite]
  repeat' split
  all_goals first
    | exact steps_no
    | exact steps_val (.refl _)
    | exact steps_val (.mk' _ _)
    | exact atomicA_steps
theorem callFA_steps {f : FuncId} {args : List AV} {σ σ₀ : St} (h : StepA σ₀ σ) : (callFA P f args σ).steps σ₀ := by
  unfold callFA
  split
  · split
    · split
      · exact steps_no
      · exact steps_call h
    · split
      · intro σ' hs; exact h.trans (externA_steps σ' hs)
      · exact steps_no
  · exact steps_no
theorem methodA_step {t : TypeId} {v r : AV} {name : String} {f : FuncId} {σ σ' : St} (h : methodA P t v name σ = some (f, r, σ')) : StepA σ σ' := by
  unfold methodA at h
  split at h
  · split at h
    · split at h
      · split at h
        · simp only [Option.some.injEq, Prod.mk.injEq] at h; obtain ⟨_, _, rfl⟩ := h; exact .refl _
        · cases h
      · split at h
        · split at h
          · rename_i hl
            simp only [Option.some.injEq, Prod.mk.injEq] at h; obtain ⟨_, _, rfl⟩ := h; exact loadA_step hl
          · cases h
        · simp only [Option.some.injEq, Prod.mk.injEq] at h; obtain ⟨_, _, rfl⟩ := h; exact .refl _
        · cases h
      · cases h
    · cases h
  · cases h
theorem callMA_steps {recv : AV} {name : String} {args : List AV} {σ : St} : (callMA P recv name args σ).steps σ := by
  unfold callMA
  split
  · split
    · rename_i hm
      exact callFA_steps (methodA_step hm)
    · exact steps_no
  · exact steps_no
theorem callVA_steps {f : AV} {args : List AV} {σ : St} : (callVA P f args σ).steps σ := by
  unfold callVA
  split
  · exact callFA_steps (.refl _)
  · exact steps_call (.refl _)
  · split
    · exact callMA_steps
    · exact steps_no
  · split
    · split
      · exact callMA_steps
      · exact callMA_steps
      · exact steps_no
    · exact steps_no
  · split
    · split
      · exact callFA_steps (.refl _)
      · split
        · rename_i hl
          exact callFA_steps (loadA_step hl)
        · exact steps_no
      · exact callFA_steps (.refl _)
      · exact steps_no
    · exact steps_no
  · exact steps_no
theorem builtinA_steps {dec : Bx → Option Bool} {b : Builtin} {ts : List TypeId} {args : List AV} {σ : St} : (builtinA P dec b ts args σ).steps σ := by
  unfold builtinA
  split
  · exact steps_ofS fun _ _ => appendA_step
  · exact steps_ofS fun _ _ => copyA_step
  · split
    · exact steps_ofS fun _ _ => lenA_step
    · exact steps_no
  · split
    · exact steps_of _
    · exact steps_no
  · split
    · rw [cond_eq_ite]; split <;> exact steps_of _
    · exact steps_of _
    · exact steps_no
  · split
    · rw [cond_eq_ite]; split <;> exact steps_of _
    · exact steps_of _
    · exact steps_no
  · exact steps_rcv (.refl _)
  all_goals (try simp only [cond_eq_ite])
  all_goals (repeat' split)
  all_goals first
    | exact steps_no
    | exact steps_val (.refl _)
    | exact steps_ofU fun _ => clearA_step
    | exact steps_val (.put _ _ (by assumption))
theorem panicA_steps {x : AV} {σ : St} : (panicA x σ).steps σ := by
  unfold panicA
  split
  · exact steps_pan (.refl _)
  · exact steps_no
theorem opB_eq (env : Env) (σ : St) (o : Oper) : opB P C env σ o = opB0 P C env σ o := by
  unfold opB opB0
  cases h : o.op <;> try rfl
  case makeMap t r => cases r <;> rfl
theorem isDfr_eq {o : Op} : (isDfr o = true ∧ ∃ c, o = .defer c) ∨ (isDfr o = false ∧ ∀ c, o ≠ .defer c) := by
  cases o
  case defer c => exact .inl ⟨rfl, c, rfl⟩
  all_goals exact .inr ⟨rfl, fun c h => by cases h⟩
theorem opB_steps {env : Env} {σ : St} {o : Oper} : (opB P C env σ o).steps σ := by
  rw [opB_eq]
  unfold opB0
  cases ho : o.op <;> (try dsimp only)
  case makeMap t r =>
    cases r with
    | none => exact steps_val (.mk' _ _)
    | some r =>
      dsimp only
      split
      · exact steps_val (.mk' _ _)
      · exact steps_no
  case nilCheck =>
    split
    · rw [cond_eq_ite]
      split
      · exact steps_val (.refl _)
      · exact steps_no
    · exact steps_no
  case binOp =>
    split
    · rw [cond_eq_ite]
      split
      · exact steps_of _
      · exact steps_no
    · exact steps_no
  all_goals try (repeat' split)
  all_goals first
    | exact steps_no
    | exact steps_of _
    | exact steps_val (.refl _)
    | exact steps_val (.mk' _ _)
    | exact steps_ofS fun _ _ => buildSliceA_step
    | exact steps_ofS fun _ _ => loadA_step
    | exact steps_ofU fun _ => storeA_step
    | exact steps_ofS fun _ _ => convA_step
    | exact steps_ofS fun _ _ => makeSliceA_step
    | exact steps_ofS fun _ _ => lookupA_step
    | exact steps_ofU fun _ => updateA_step
    | exact steps_ofS fun _ _ => rangeA_step
    | exact steps_ofS fun _ _ => nextA_step
    | exact steps_ofS fun _ _ => entryA_step
    | exact builtinA_steps
    | exact callMA_steps
    | exact callVA_steps
    | exact panicA_steps
    | exact steps_dfr (.refl _)
theorem lgAll_step : ∀ (l : List Nat) (σ : St), StepA σ (lgAll l σ) := by
  intro l
  induction l with
  | nil => intro σ; exact .refl _
  | cons i l ih => intro σ; exact (StepA.lgR σ i).trans (ih _)
theorem OhR.to_step (r : OhR) (σ : St) : StepA σ (r.to σ) := by
  unfold OhR.to
  have h1 := lgAll_step r.rd σ
  generalize lgAll r.rd σ = σ1 at h1
  have h2 : StepA σ1 (match r.put with
    | some (id, o) => match σ1.heap.get id with
      | some _ => σ1.put id o
      | none => σ1
    | none => σ1) := by
    split
    · split
      · exact .put _ _ (by assumption)
      · exact .refl _
    · exact .refl _
  dsimp only
  split
  · exact (h1.trans h2).trans (.mk' _ _)
  · exact h1.trans h2
theorem opA_cases (env : Env) (σ : St) (o : Oper) : opA P C env σ o = opB P C env σ o ∨
    ∃ r, C.oh P C.dec (evalO C env) o σ = some r ∧ (∀ c, o.op ≠ .defer c) ∧ opA P C env σ o = .val r.v (r.to σ) := by
  unfold opA
  rcases isDfr_eq (o := o.op) with ⟨h, _⟩ | ⟨h, hnd⟩ <;> rw [h]
  · exact .inl rfl
  · rw [cond_false]
    split
    · rename_i r hr
      exact .inr ⟨r, hr, hnd, rfl⟩
    · exact .inl rfl
theorem opA_steps {env : Env} {σ : St} {o : Oper} : (opA P C env σ o).steps σ := by
  rcases opA_cases (P := P) (C := C) env σ o with h | ⟨r, _, _, h⟩ <;> rw [h]
  · exact opB_steps
  · exact steps_val (OhR.to_step _ _)
theorem lgAll_heap : ∀ (l : List Nat) (σ : St), (lgAll l σ).heap = σ.heap ∧ (lgAll l σ).next = σ.next ∧ (lgAll l σ).wr = σ.wr := by
  intro l
  induction l with
  | nil => intro σ; exact ⟨rfl, rfl, rfl⟩
  | cons i l ih => intro σ; exact ih _
end
end Go.Tw
namespace Go.Tw
section
variable {P : Program} {C : Cfg}
def CR.st : CR → Option St
  | .ret _ σ | .pan _ σ => some σ
  | .no => none
def CR.steps (σ : St) (r : CR) : Prop := ∀ σ', r.st = some σ' → StepA σ σ'
def XR.st : XR → Option St
  | .ok _ _ σ => some σ
  | .no => none
def XR.steps (σ : St) (r : XR) : Prop := ∀ σ', r.st = some σ' → StepA σ σ'
theorem xsteps_no {σ : St} : XR.no.steps σ := by simp [XR.steps, XR.st]
theorem xsteps_ok {σ σ' : St} {e : AExit} {env : Env} (h : StepA σ σ') : (XR.ok e env σ').steps σ := by simpa [XR.steps, XR.st] using h
theorem XR.steps.trans {σ τ : St} {r : XR} (h : r.steps τ) (k : StepA σ τ) : r.steps σ := fun σ' hs => k.trans (h σ' hs)
def CallSteps (call : Cle → List AV → St → CR) : Prop := ∀ f args σ, (call f args σ).steps σ
theorem runOps_steps {call : Cle → List AV → St → CR} (hc : CallSteps call) {nt : Nat} {ops : Array Oper} :
    ∀ (l : List Oper) (env : Env) (σ : St), (runOps P C call nt ops l env σ).steps σ := by
  intro l
  induction l with
  | nil => intro env σ; exact xsteps_ok (.refl _)
  | cons o rest ih =>
    intro env σ
    unfold runOps
    split
    · exact xsteps_no
    · split
      · exact ih _ _
      · exact xsteps_no
    · have hop := opA_steps (P := P) (C := C) (env := env) (σ := σ) (o := o)
      split
      · rename_i v τ hr
        have hs : StepA σ τ := hop τ (by rw [hr]; rfl)
        split
        · exact (ih _ _).trans hs
        · exact xsteps_no
      · rename_i d τ hr
        have hs : StepA σ τ := hop τ (by rw [hr]; rfl)
        simp only [cond_eq_ite]
        split
        · exact xsteps_no
        split
        · exact (ih _ _).trans hs
        · exact xsteps_no
      · rename_i v τ hr
        exact xsteps_ok (hop τ (by rw [hr]; rfl))
      · rename_i τ hr
        have hs : StepA σ τ := hop τ (by rw [hr]; rfl)
        simp only [cond_eq_ite]
        split
        · exact xsteps_no
        split
        · split
          · exact (ih _ _).trans hs
          · exact xsteps_no
        · split
          · exact (ih _ _).trans hs
          · exact xsteps_no
      · rename_i f args τ hr
        have hs : StepA σ τ := hop τ (by rw [hr]; rfl)
        have hcs := hc f args τ
        split
        · rename_i v υ hr2
          have hs2 : StepA τ υ := hcs υ (by rw [hr2]; rfl)
          split
          · exact (ih _ _).trans (hs.trans hs2)
          · exact xsteps_no
        · rename_i c υ hr2
          exact xsteps_ok (hs.trans (hcs υ (by rw [hr2]; rfl)))
        · exact xsteps_no
      · exact xsteps_no
theorem StepA.join {σ τ : St} (h : StepA σ.bare τ) : StepA σ (τ.join σ) :=
  ⟨h.next, fun _ hi => List.mem_append.2 (.inr hi), fun _ hi => List.mem_append.2 (.inr hi),
    fun i hi hn => h.keep i hi fun hw => hn (List.mem_append.2 (.inl hw)), h.dom,
    fun d i hi => (List.mem_append.1 hi).elim (fun h1 => .inr ((h.wlt d i h1).resolve_left (by simp [St.bare]))) .inl⟩
def Killed (n : Nat) (h h' : T Ob) : Prop := ∀ j, h'.get j = h.get j ∨ (n ≤ j ∧ (∃ o, h.get j = some o) ∧ h'.get j = some .dead)
theorem Killed.refl (n : Nat) (h : T Ob) : Killed n h h := fun _ => .inl rfl
theorem Killed.trans {n : Nat} {a b c : T Ob} (h : Killed n a b) (k : Killed n b c) : Killed n a c := by
  intro j
  rcases k j with e | ⟨h1, ⟨o, h2⟩, h3⟩
  · rcases h j with e' | ⟨h1, h2, h3⟩
    · exact .inl (e.trans e')
    · exact .inr ⟨h1, h2, e.trans h3⟩
  · rcases h j with e' | ⟨_, h2', _⟩
    · exact .inr ⟨h1, ⟨o, e' ▸ h2⟩, h3⟩
    · exact .inr ⟨h1, h2', h3⟩
theorem kill1_killed (n : Nat) (h : T Ob) (i : Nat) : Killed n h (kill1 n h i) := by
  unfold kill1
  rw [cond_eq_ite]
  split
  · rename_i hb
    split
    · rename_i o ho
      intro j
      by_cases e : j = i
      · subst e; exact .inr ⟨ble_t hb, ⟨o, ho⟩, T.get_set_same _ _ _⟩
      · exact .inl (T.get_set_ne _ _ e)
    · exact .refl _ _
  · exact .refl _ _
theorem kill1_gone (n : Nat) (h : T Ob) {i : Nat} (hi : n ≤ i) : (kill1 n h i).get i = none ∨ (kill1 n h i).get i = some .dead := by
  unfold kill1
  rw [cond_eq_ite, if_pos (Nat.ble_eq_true_of_le hi)]
  split
  · exact .inr (T.get_set_same _ _ _)
  · rename_i h'; exact .inl h'
theorem Killed.gone {n : Nat} {h h' : T Ob} (k : Killed n h h') {j : Nat} (hj : h.get j = none ∨ h.get j = some .dead) : h'.get j = none ∨ h'.get j = some .dead := by
  rcases k j with e | ⟨_, _, e⟩
  · rw [e]; exact hj
  · exact .inr e
theorem killL_killed (n : Nat) : ∀ (l : List Nat) (h : T Ob), Killed n h (killL n l h) := by
  intro l
  induction l with
  | nil => intro h; exact .refl _ _
  | cons i l ih => intro h; exact (kill1_killed n h i).trans (ih _)
theorem killL_gone {n : Nat} : ∀ {l : List Nat} {h : T Ob} {j : Nat}, j ∈ l → n ≤ j → (killL n l h).get j = none ∨ (killL n l h).get j = some .dead := by
  intro l
  induction l with
  | nil => intro h j hj; cases hj
  | cons i l ih =>
    intro h j hj hn
    rcases List.mem_cons.1 hj with rfl | hj
    · exact (killL_killed n l _).gone (kill1_gone n h hn)
    · exact ih hj hn
theorem killN_killed (n : Nat) : ∀ (k i : Nat) (h : T Ob), Killed n h (killN n k i h) := by
  intro k
  induction k with
  | zero => intro i h; exact .refl _ _
  | succ k ih => intro i h; exact (kill1_killed n h i).trans (ih _ _)
theorem killN_gone {n : Nat} : ∀ {k i : Nat} {h : T Ob} {j : Nat}, i ≤ j → j < i + k → n ≤ j → (killN n k i h).get j = none ∨ (killN n k i h).get j = some .dead := by
  intro k
  induction k with
  | zero => intro i h j h1 h2; omega
  | succ k ih =>
    intro i h j h1 h2 hn
    by_cases e : j = i
    · subst e; exact (killN_killed n k _ _).gone (kill1_gone n h hn)
    · exact ih (by omega) (by omega) hn
theorem panKill_killed (bef : Array Nat) (ip n : Nat) : ∀ (fs : List Foot) (h : T Ob), Killed n h (panKill bef ip n fs h) := by
  intro fs
  induction fs with
  | nil => intro h; exact .refl _ _
  | cons f fs ih =>
    intro h
    unfold panKill
    rw [cond_eq_ite]
    split
    · exact ih h
    · exact ((killL_killed n _ _).trans (killN_killed n _ _ _)).trans (ih _)
theorem panKill_gone {bef : Array Nat} {ip n : Nat} : ∀ {fs : List Foot} {h : T Ob} {f : Foot} {j : Nat}, f ∈ fs → f.i ≠ ip → (bef.getD ip 0).testBit f.i = false → n ≤ j →
    (j ∈ f.wr ∨ (f.lo ≤ j ∧ j < f.hi)) → (panKill bef ip n fs h).get j = none ∨ (panKill bef ip n fs h).get j = some .dead := by
  intro fs
  induction fs with
  | nil => intro h f j hf; cases hf
  | cons g fs ih =>
    intro h f j hf h1 h2 hn hj
    unfold panKill
    rw [cond_eq_ite]
    rcases List.mem_cons.1 hf with rfl | hf
    · rw [if_neg (by
        rw [Bool.or_eq_true, h2]
        rintro (hb | hb)
        · exact h1 (beq_t hb)
        · cases hb)]
      refine (panKill_killed bef ip n fs _).gone ?_
      rcases hj with hj | ⟨a, b⟩
      · exact (killN_killed n _ _ _).gone (killL_gone hj hn)
      · exact killN_gone a (by omega) hn
    · split
      · exact ih hf h1 h2 hn hj
      · exact ih hf h1 h2 hn hj
theorem StepA.killed {σ σ' : St} {h : T Ob} (k : StepA σ σ') (hk : Killed σ.next σ'.heap h) : StepA σ { σ' with heap := h } :=
  ⟨k.next, k.rd, k.wr, fun i hi hn => by
      rcases hk i with e | ⟨h1, _⟩
      · exact e.trans (k.keep i hi hn)
      · omega,
    fun d i hi => by
      have hd := k.dom d i hi
      rcases hk i with e | ⟨_, ⟨o, h2⟩, _⟩
      · exact e.trans hd
      · (rw [hd] at h2; cases h2),
    k.wlt⟩
def DrawR.st : DrawR → Option St
  | .ok _ _ σ => some σ
  | .pan _ _ _ _ σ => some σ
  | .no => none
theorem restDraw_steps {bef : Array Nat} {ip : Nat} {chain : List (AV × Bool)} {nt : Nat} {ops : Array Oper} :
    ∀ (l : List Oper) (i : Nat) (fs : List Foot) (env : Env) (σ σ' : St), (restDraw P C bef ip chain nt ops l i fs env σ).st = some σ' → StepA σ σ' := by
  intro l
  induction l with
  | nil =>
    intro i fs env σ σ' h
    simp only [restDraw, DrawR.st, Option.some.injEq] at h
    subst h
    exact .refl _
  | cons o rest ih =>
    intro i fs env σ σ' h
    unfold restDraw at h
    rw [cond_eq_ite] at h
    split at h
    · exact ih _ _ _ _ _ h
    · dsimp only at h
      split at h
      · cases h
      · split at h
        · exact ih _ _ _ _ _ h
        · cases h
      · have hop := opA_steps (P := P) (C := C) (env := env.only (tmpsOf ops o)) (σ := σ.bare) (o := o)
        split at h
        · rename_i v τ hr
          have hs : StepA σ.bare τ := hop τ (by rw [hr]; rfl)
          split at h
          · exact hs.join.trans (ih _ _ _ _ _ h)
          · cases h
        · cases h
theorem runDraw_steps {bef : Array Nat} {call : Cle → List AV → St → CR} (hc : CallSteps call) {nt : Nat} {ops : Array Oper} :
    ∀ (l : List Oper) (i : Nat) (fs : List Foot) (env : Env) (σ σ' : St), (runDraw P C bef call nt ops l i fs env σ).st = some σ' → StepA σ σ' := by
  intro l
  induction l with
  | nil =>
    intro i fs env σ σ' h
    simp only [runDraw, DrawR.st, Option.some.injEq] at h
    subst h
    exact .refl _
  | cons o rest ih =>
    intro i fs env σ σ' h
    unfold runDraw at h
    dsimp only at h
    split at h
    · cases h
    · split at h
      · exact ih _ _ _ _ _ h
      · cases h
    · have hop := opA_steps (P := P) (C := C) (env := env.only (tmpsOf ops o)) (σ := σ.bare) (o := o)
      split at h
      · rename_i v τ hr
        have hs : StepA σ.bare τ := hop τ (by rw [hr]; rfl)
        split at h
        · exact hs.join.trans (ih _ _ _ _ _ h)
        · cases h
      · cases h
      · cases h
      · cases h
      · rename_i f args τ hr
        have hs : StepA σ.bare τ := hop τ (by rw [hr]; rfl)
        have hcs := hc f args τ
        split at h
        · rename_i v υ hr2
          have hs2 : StepA τ υ := hcs υ (by rw [hr2]; rfl)
          split at h
          · exact (hs.trans hs2).join.trans (ih _ _ _ _ _ h)
          · cases h
        · rename_i c υ hr2
          have hs2 : StepA τ υ := hcs υ (by rw [hr2]; rfl)
          exact (hs.trans hs2).join.trans (restDraw_steps _ _ _ _ _ _ h)
        · cases h
      · cases h
theorem drawA_steps {call : Cle → List AV → St → CR} (hc : CallSteps call) {nt : Nat} {ops : Array Oper} {env : Env} {σ : St} :
    (drawA P C call nt ops env σ).steps σ := by
  unfold drawA
  simp only [cond_eq_ite]
  split
  · split
    · rename_i h
      split
      · exact xsteps_ok (runDraw_steps hc _ _ _ _ _ _ (by rw [h]; rfl))
      · exact xsteps_no
    · rename_i h
      split
      · exact xsteps_ok ((runDraw_steps hc _ _ _ _ _ _ (by rw [h]; rfl)).killed (panKill_killed _ _ _ _ _))
      · exact xsteps_no
    · exact xsteps_no
  · exact xsteps_no
theorem resultsA_step {fn : Func} {env : Env} : ∀ (rs : List ResultVar) {σ σ' : St} {l : List AV}, resultsA P fn env σ rs = some (l, σ') → StepA σ σ' := by
  intro rs
  induction rs with
  | nil =>
    intro σ σ' l h
    simp only [resultsA, Option.some.injEq, Prod.mk.injEq] at h
    obtain ⟨_, rfl⟩ := h
    exact .refl _
  | cons r rest ih =>
    intro σ σ' l h
    cases r with
    | tmp t =>
      simp only [resultsA] at h
      split at h
      · rename_i he
        simp only [Option.some.injEq, Prod.mk.injEq] at h
        obtain ⟨_, rfl⟩ := h
        exact ih he
      · cases h
    | cell a t =>
      simp only [resultsA] at h
      split at h
      · split at h
        · rename_i hl
          split at h
          · rename_i he
            simp only [Option.some.injEq, Prod.mk.injEq] at h
            obtain ⟨_, rfl⟩ := h
            exact (loadA_step hl).trans (ih he)
          · cases h
        · cases h
      · cases h
theorem StepA.out {σ τ : St} (h : StepA σ.bare τ) : StepA σ (τ.out σ) :=
  ⟨h.next, fun _ hi => List.mem_append.2 (.inr hi), fun _ hi => List.mem_append.2 (.inr hi),
    fun i hi hn => h.keep i hi fun hw => hn (List.mem_append.2 (.inl (mem_keepOld.2 ⟨hi, hw⟩))), h.dom,
    fun d i hi => (List.mem_append.1 hi).elim (fun h1 => .inr ((h.wlt d i (mem_keepOld.1 h1).2).resolve_left (by simp [St.bare]))) .inl⟩
def DR.st : DR → Option St
  | .ret _ σ | .pan _ _ σ => some σ
  | .no => none
def DR.steps (σ : St) (r : DR) : Prop := ∀ σ', r.st = some σ' → StepA σ σ'
theorem leaveA_steps {dc : FuncId → List AV → AMode → St → DR} (hd : ∀ f args m σ, (dc f args m σ).steps σ) {fn : Func} {env : Env} :
    ∀ (ds : List ADef) (m : AMode) (τ : St), (leaveA P dc fn env ds m τ).steps τ := by
  intro ds
  induction ds with
  | nil =>
    intro m τ σ' h
    cases m with
    | returning =>
      simp only [leaveA] at h
      split at h
      · rename_i hr
        simp only [CR.st, Option.some.injEq] at h; subst h
        exact resultsA_step _ hr
      · simp [CR.st] at h
    | panicking c => simp only [leaveA, CR.st, Option.some.injEq] at h; subst h; exact .refl _
  | cons d ds ih =>
    intro m τ σ' h
    cases d with
    | mark id =>
      simp only [leaveA] at h
      split at h
      · rename_i ho
        exact (StepA.put _ _ ho).trans (ih _ _ _ h)
      · simp [CR.st] at h
    | call f args =>
      simp only [leaveA] at h
      have hdd := hd f args m τ
      split at h
      · rename_i hr
        exact (hdd _ (by rw [hr]; rfl)).trans (ih _ _ _ h)
      · rename_i hr
        exact (hdd _ (by rw [hr]; rfl)).trans (ih _ _ _ h)
      · simp [CR.st] at h
theorem endA_steps {dc : FuncId → List AV → AMode → St → DR} (hd : ∀ f args m σ, (dc f args m σ).steps σ) {fn : Func} {σ : St} {r : XR} (h : r.steps σ.bare) :
    (endA P dc fn σ r).steps σ := by
  have key : ∀ (c : CR), c.steps σ.bare → (match c with | .ret v τ => CR.ret v (τ.out σ) | .pan chain τ => .pan chain (τ.out σ) | .no => .no).steps σ := by
    intro c hc
    cases c with
    | ret v τ => intro σ' hs; simp only [CR.st, Option.some.injEq] at hs; subst hs; exact (hc τ rfl).out
    | pan v τ => intro σ' hs; simp only [CR.st, Option.some.injEq] at hs; subst hs; exact (hc τ rfl).out
    | no => simp [CR.steps, CR.st]
  unfold endA
  refine key _ ?_
  split
  · exact fun σ' hs => (h _ rfl).trans (leaveA_steps hd _ _ _ σ' hs)
  · exact fun σ' hs => (h _ rfl).trans (leaveA_steps hd _ _ _ σ' hs)
  · exact fun σ' hs => (h _ rfl).trans (leaveA_steps hd _ _ _ σ' hs)
  · simp [CR.steps, CR.st]
theorem callD_steps {ex : Nat → Code → Env → St → XR} (hx : ∀ nt c env σ, (ex nt c env σ).steps σ) (f : FuncId) (args : List AV) (m : AMode) (σ : St) :
    (callD P ex f args m σ).steps σ := by
  unfold callD
  split
  · simp [DR.steps, DR.st]
  · rename_i fn hfn
    split
    · simp [DR.steps, DR.st]
    · rename_i c hb
      simp only [cond_eq_ite]
      split
      · split
        · simp [DR.steps, DR.st]
        have h := hx fn.ntmps c { tm := envOf args 0 .leaf, ds := [], md := some m, rd := false } σ.bare
        split
        · rename_i env τ hr
          have hs : StepA σ.bare τ := h τ (by rw [hr]; rfl)
          split
          · rename_i hres
            intro σ' hs'; simp only [DR.st, Option.some.injEq] at hs'; subst hs'; exact (hs.trans (resultsA_step _ hres)).out
          · simp [DR.steps, DR.st]
        · rename_i env τ hr
          have hs : StepA σ.bare τ := h τ (by rw [hr]; rfl)
          split
          · rename_i hres
            intro σ' hs'; simp only [DR.st, Option.some.injEq] at hs'; subst hs'; exact (hs.trans (resultsA_step _ hres)).out
          · simp [DR.steps, DR.st]
        · rename_i chain env τ hr
          have hs : StepA σ.bare τ := h τ (by rw [hr]; rfl)
          split
          · intro σ' hs'; simp only [DR.st, Option.some.injEq] at hs'; subst hs'; exact hs.out
          · simp [DR.steps, DR.st]
        · simp [DR.steps, DR.st]
      · simp [DR.steps, DR.st]
theorem roundEnd_steps {id : Nat} {σ υ : St} {env : Env} {jump : Option Code} (h : StepA σ.bare υ) : (roundEnd id σ env υ jump).steps σ := by
  unfold roundEnd
  split
  · rename_i ho3
    intro σ' hs'
    simp only [CR.st, Option.some.injEq] at hs'; subst hs'
    exact (h.trans (.put _ _ ho3)).out
  · simp [CR.steps, CR.st]
theorem roundA_steps {ex : Nat → Code → Env → St → XR} (hx : ∀ nt c env σ, (ex nt c env σ).steps σ) (id : Nat) (args : List AV) (σ : St) :
    (roundA ex id args σ).steps σ := by
  unfold roundA
  simp only [cond_eq_ite]
  split
  · rename_i pend tm nt ps assign body ho
    split
    · simp [CR.steps, CR.st]
    split
    · simp [CR.steps, CR.st]
    · rename_i tm' hb
      have h1 := hx nt assign { tm := tm', ds := [], md := none, rd := true } ((σ.lgR id).bare)
      split
      · rename_i env τ hr
        have s1 : StepA (σ.lgR id).bare τ := h1 τ (by rw [hr]; rfl)
        have s1 : StepA σ.bare τ := ⟨s1.next, s1.rd, s1.wr, s1.keep, s1.dom, s1.wlt⟩
        split
        · rename_i pend' tm₂ nt₂ ps₂ as₂ bd₂ ho2
          have s2 : StepA σ.bare (τ.put id (.loop 1 pend' tm₂ nt₂ ps₂ as₂ bd₂)) := s1.trans (.put _ _ ho2)
          have h2 := hx nt body env (τ.put id (.loop 1 pend' tm₂ nt₂ ps₂ as₂ bd₂))
          split
          · rename_i hr2; exact roundEnd_steps (s2.trans (h2 _ (by rw [hr2]; rfl)))
          · rename_i hr2; exact roundEnd_steps (s2.trans (h2 _ (by rw [hr2]; rfl)))
          · rename_i hr2; exact roundEnd_steps (s2.trans (h2 _ (by rw [hr2]; rfl)))
          · rename_i hr2; exact roundEnd_steps (s2.trans (h2 _ (by rw [hr2]; rfl)))
          · simp [CR.steps, CR.st]
        · simp [CR.steps, CR.st]
      · simp [CR.steps, CR.st]
  · simp [CR.steps, CR.st]
def HkSteps (C : Cfg) : Prop := ∀ f args σ, (C.hk f args σ).steps σ
theorem callA_steps {ex : Nat → Code → Env → St → XR} (hk : HkSteps C) (hx : ∀ nt c env σ, (ex nt c env σ).steps σ) : CallSteps (callA P C ex) := by
  intro cl args σ
  cases cl with
  | yld id => exact roundA_steps hx id args σ
  | fn f =>
    simp only [callA]
    have hh := hk f args σ
    split
    · rename_i hr; rw [hr] at hh; exact hh
    · rename_i hr; rw [hr] at hh; exact hh
    · split
      · simp [CR.steps, CR.st]
      · split
        · simp [CR.steps, CR.st]
        · simp only [cond_eq_ite]
          split
          · exact endA_steps (callD_steps hx) (hx _ _ _ _)
          · simp [CR.steps, CR.st]
theorem scopeA_steps {ex : Code → Env → St → XR} (hx : ∀ c env σ, (ex c env σ).steps σ) {a : Code} {σ : St} : ∀ (k : Nat) (r : XR), r.steps σ → (scopeA ex k a r).steps σ := by
  intro k
  induction k with
  | zero => intro r _; exact xsteps_no
  | succ k ih =>
    intro r h
    unfold scopeA
    split
    · rename_i l env τ
      split
      · exact ih _ ((hx _ _ _).trans (h τ rfl))
      · exact h
    · exact h
theorem meetH_get (other : T Ob) : ∀ (l : List Nat) (h : T Ob) (j : Nat), (meetH other l h).get j = h.get j ∨ (j ∈ l ∧ (∃ o, h.get j = some o) ∧ (meetH other l h).get j = some .dead) := by
  intro l
  induction l with
  | nil => intro h j; exact .inl rfl
  | cons i l ih =>
    intro h j
    unfold meetH
    have hgo : ∀ h' : T Ob, (h'.get j = h.get j ∨ (j = i ∧ (∃ o, h.get j = some o) ∧ h'.get j = some .dead)) →
        (meetH other l h').get j = h.get j ∨ (j ∈ i :: l ∧ (∃ o, h.get j = some o) ∧ (meetH other l h').get j = some .dead) := by
      intro h' hh
      rcases ih h' j with e | ⟨e1, ⟨o, e2⟩, e3⟩
      · rcases hh with g | ⟨g1, g2, g3⟩
        · exact .inl (e.trans g)
        · exact .inr ⟨by simp [g1], g2, e.trans g3⟩
      · rcases hh with g | ⟨g1, g2, g3⟩
        · exact .inr ⟨by simp [e1], ⟨o, g ▸ e2⟩, e3⟩
        · exact .inr ⟨by simp [e1], g2, e3⟩
    have hset : ∀ a, h.get i = some a → ((h.set i .dead).get j = h.get j ∨ (j = i ∧ (∃ o, h.get j = some o) ∧ (h.set i .dead).get j = some .dead)) := by
      intro a ha
      by_cases e : j = i
      · subst e; exact .inr ⟨rfl, ⟨a, ha⟩, T.get_set_same _ _ _⟩
      · exact .inl (T.get_set_ne _ _ e)
    split
    · rename_i a b ha _
      rw [cond_eq_ite]
      split
      · exact hgo h (.inl rfl)
      · exact hgo _ (hset a ha)
    · rename_i a ha _
      exact hgo _ (hset a ha)
    · exact hgo h (.inl rfl)
theorem meetS_heap (σ τ τ' : St) (j : Nat) : (meetS σ τ τ').heap.get j = τ.heap.get j ∨
    ((j ∈ τ.wr ∨ j ∈ τ'.wr ∨ σ.next ≤ j) ∧ (∃ o, τ.heap.get j = some o) ∧ (meetS σ τ τ').heap.get j = some .dead) := by
  have h1 := meetH_get τ'.heap τ.wr τ.heap j
  have h2 := meetH_get τ'.heap τ'.wr (meetH τ'.heap τ.wr τ.heap) j
  have h3 := killN_killed σ.next (Nat.max τ.next τ'.next - σ.next) σ.next (meetH τ'.heap τ'.wr (meetH τ'.heap τ.wr τ.heap)) j
  have e : (meetS σ τ τ').heap = killN σ.next (Nat.max τ.next τ'.next - σ.next) σ.next (meetH τ'.heap τ'.wr (meetH τ'.heap τ.wr τ.heap)) := rfl
  rw [e]
  rcases h1 with h1 | ⟨a1, a2, a3⟩
  · rcases h2 with h2 | ⟨b1, ⟨o, b2⟩, b3⟩
    · rcases h3 with h3 | ⟨c1, ⟨o, c2⟩, c3⟩
      · exact .inl (h3.trans (h2.trans h1))
      · exact .inr ⟨.inr (.inr c1), ⟨o, by rw [← h1, ← h2]; exact c2⟩, c3⟩
    · have : ∃ o, τ.heap.get j = some o := ⟨o, by rw [← h1]; exact b2⟩
      rcases h3 with h3 | ⟨c1, _, c3⟩
      · exact .inr ⟨.inr (.inl b1), this, h3.trans b3⟩
      · exact .inr ⟨.inr (.inl b1), this, c3⟩
  · rcases h2 with h2 | ⟨b1, _, b3⟩
    · rcases h3 with h3 | ⟨c1, _, c3⟩
      · exact .inr ⟨.inl a1, a2, h3.trans (h2.trans a3)⟩
      · exact .inr ⟨.inl a1, a2, c3⟩
    · rcases h3 with h3 | ⟨c1, _, c3⟩
      · exact .inr ⟨.inl a1, a2, h3.trans b3⟩
      · exact .inr ⟨.inl a1, a2, c3⟩
theorem meetS_step {σ τ τ' : St} (h : StepA σ τ) (h' : StepA σ τ') : StepA σ (meetS σ τ τ') :=
  ⟨Nat.le_trans h.next (Nat.le_max_left _ _), fun i hi => List.mem_append.2 (.inl (h.rd i hi)), fun i hi => List.mem_append.2 (.inl (h.wr i hi)),
    fun i hi hn => by
      have hn1 : i ∉ τ.wr := fun x => hn (List.mem_append.2 (.inl x))
      have hn2 : i ∉ τ'.wr := fun x => hn (List.mem_append.2 (.inr x))
      rcases meetS_heap σ τ τ' i with e | ⟨e | e | e, _⟩
      · exact e.trans (h.keep i hi hn1)
      · exact absurd e hn1
      · exact absurd e hn2
      · omega,
    fun d i hi => by
      have hi : Nat.max τ.next τ'.next ≤ i := hi
      have hd := h.dom d i (Nat.le_trans (Nat.le_max_left _ _) hi)
      rcases meetS_heap σ τ τ' i with e | ⟨_, ⟨o, e2⟩, _⟩
      · exact e.trans hd
      · (rw [hd] at e2; cases e2),
    fun d i hi => by
      rcases List.mem_append.1 hi with x | x
      · exact (h.wlt d i x).imp id fun y => Nat.lt_of_lt_of_le y (Nat.le_max_left _ _)
      · exact (h'.wlt d i x).imp id fun y => Nat.lt_of_lt_of_le y (Nat.le_max_right _ _)⟩
theorem join2_steps {σ : St} {a b : XR} (ha : a.steps σ) (hb : b.steps σ) : (join2 σ a b).steps σ := by
  unfold join2
  split
  · rename_i e env τ e' env' τ'
    rw [cond_eq_ite]
    split
    · exact xsteps_ok (meetS_step (ha τ rfl) (hb τ' rfl))
    · exact xsteps_no
  · exact xsteps_no
theorem joinX_steps {σ : St} : ∀ {l : List XR}, (∀ r ∈ l, r.steps σ) → (joinX σ l).steps σ := by
  intro l
  induction l with
  | nil => intro _; exact xsteps_no
  | cons r l ih =>
    intro h
    cases l with
    | nil => exact h r (by simp)
    | cons s l => exact join2_steps (h r (by simp)) (ih fun r hr => h r (by simp [hr]))
theorem exec_steps (hk : HkSteps C) : ∀ (n nt : Nat) (c : Code) (env : Env) (σ : St), (exec P C n nt c env σ).steps σ := by
  intro n
  induction n with
  | zero => intro nt c env σ; exact xsteps_no
  | succ n ih =>
    intro nt c env σ
    cases c with
    | skip => exact xsteps_ok (.refl _)
    | label l => exact xsteps_ok (.refl _)
    | ret => exact xsteps_ok (.refl _)
    | exit id => exact xsteps_ok (.refl _)
    | goto l => exact xsteps_ok (.refl _)
    | seq a b =>
      simp only [exec]
      have h := ih nt a env σ
      split
      · rename_i hr
        exact (ih _ _ _ _).trans (h _ (by rw [hr]; rfl))
      · exact h
    | cond x a b =>
      simp only [exec]
      split
      · exact ih _ _ _ _
      · exact ih _ _ _ _
      · exact xsteps_no
    | block id a =>
      simp only [exec]
      have h := ih nt a env σ
      split
      · rename_i hr
        have hs := h _ (by rw [hr]; rfl)
        simp only [cond_eq_ite]
        split
        · exact xsteps_ok hs
        · exact xsteps_ok hs
      · exact h
    | loop a =>
      simp only [exec]
      split
      · have h := ih nt a env σ
        split
        · rename_i hr
          exact (ih _ _ _ _).trans (h _ (by rw [hr]; rfl))
        · exact h
      · split
        · exact xsteps_no
        · split
          · exact xsteps_no
          · rename_i l hl
            refine joinX_steps fun r hr => ?_
            obtain ⟨p, hp, rfl⟩ := List.mem_map.1 hr
            have hs := mnextA_step hl p hp
            split
            · exact xsteps_no
            · rename_i env1 _
              have h1 := runOps_steps (P := P) (C := C) (callA_steps (P := P) hk ih) (nt := nt) (ops := ‹Array Oper›) (‹Array Oper›).toList.tail env1 p.2
              split
              · rename_i hr1
                have h2 := h1 _ (by rw [hr1]; rfl)
                split
                · rename_i hr2
                  exact (ih _ _ _ _).trans ((hs.trans h2).trans (ih _ _ _ _ _ (by rw [hr2]; rfl)))
                · exact (ih _ _ _ _).trans (hs.trans h2)
              · exact h1.trans hs
    | scope a => exact scopeA_steps (fun _ _ _ => ih _ _ _ _) n _ (ih _ _ _ _)
    | region id ops d =>
      cases d with
      | false => exact runOps_steps (callA_steps hk ih) _ _ _
      | true => exact drawA_steps (callA_steps hk ih)
    | rangeFunc f ps a b =>
      simp only [exec, cond_eq_ite]
      split
      · exact xsteps_no
      split
      · rename_i g first captured hv
        have s0 : StepA σ ((σ.mk' .dfr).mk' (.loop 0 none env.tm nt ps.toList a b)) := (StepA.mk' _ _).trans (.mk' _ _)
        split
        · rename_i cl args τ0 hcf
          have s00 : StepA σ τ0 := callFA_steps s0 τ0 (by rw [hcf]; rfl)
          have hc := callA_steps (P := P) hk ih cl args τ0
          split
          · rename_i v τ hr
            have s1 : StepA σ τ := s00.trans (hc τ (by rw [hr]; rfl))
            split
            · rename_i ho
              split
              · exact xsteps_no
              · have s2 := s1.trans (.put _ .dead ho)
                unfold rangeEnd
                split <;> first | exact xsteps_ok s2 | exact xsteps_no
            · exact xsteps_no
          · rename_i hr
            exact xsteps_ok (s00.trans (hc _ (by rw [hr]; rfl)))
          · exact xsteps_no
        · exact xsteps_no
      · exact xsteps_no
    | refuse w => exact xsteps_no
end
end Go.Tw
