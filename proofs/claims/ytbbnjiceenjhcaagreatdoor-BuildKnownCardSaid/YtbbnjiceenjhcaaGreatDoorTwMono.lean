/-
  A part of the proof that the abstract evaluator is sound for the model's machine. Conditions: those of each theorem, as it states them.
-/
import Derived.Test.YtbbnjiceenjhcaaGreatDoorTwStep
set_option linter.all false
namespace Go.Tw
section
variable {P : Program} {C : Cfg}

theorem readN_ok {σ : St} {id ver off hi n : Nat} {l : List AV} (h : readN σ id ver off hi n = some l) :
    off + n ≤ hi ∧ ∃ o c, σ.heap.get id = some o ∧ o.view ver = some c ∧ cut c off n = some l := by
  unfold readN at h
  simp only [cond_eq_ite] at h
  split at h
  · rename_i hb
    refine ⟨ble_t hb, ?_⟩
    split at h
    · rename_i o ho
      split at h
      · rename_i c hc
        exact ⟨o, c, ho, hc, h⟩
      · cases h
    · cases h
  · cases h

theorem writeN_ok {σ σ' : St} {id ver off hi : Nat} {vs : List AV} (h : writeN σ id ver off hi vs = some σ') :
    off + vs.length ≤ hi ∧ vs.all AV.flat = true ∧ ∃ o o', σ.heap.get id = some o ∧ o.write ver off vs = some o' ∧ σ' = σ.put id o' := by
  unfold writeN at h
  simp only [cond_eq_ite, Bool.and_eq_true] at h
  split at h
  · rename_i hb
    refine ⟨ble_t hb.1, hb.2, ?_⟩
    split at h
    · rename_i o ho
      split at h
      · rename_i o' hc
        simp only [Option.some.injEq] at h
        exact ⟨o, o', ho, hc, h.symm⟩
      · cases h
    · cases h
  · cases h

theorem writeN_step {σ σ' : St} {id ver off hi : Nat} {vs : List AV} (h : writeN σ id ver off hi vs = some σ') : StepA σ σ' := by
  obtain ⟨_, _, o, o', ho, _, rfl⟩ := writeN_ok h
  exact .put _ _ ho

theorem loadA_step {t : TypeId} {a v : AV} {σ σ' : St} (h : loadA P t a σ = some (v, σ')) : StepA σ σ' := by
  unfold loadA at h
  repeat' split at h
  all_goals (first | (cases h; done) | (simp only [Option.some.injEq, Prod.mk.injEq] at h; obtain ⟨_, rfl⟩ := h; exact .lgR _ _))

theorem storeA_step {t : TypeId} {a v : AV} {σ σ' : St} (h : storeA P t a v σ = some σ') : StepA σ σ' := by
  unfold storeA at h
  simp only [cond_eq_ite] at h
  repeat' split at h
  all_goals (first | (cases h; done) | exact writeN_step h)

theorem convA_step {s d : TypeId} {x v : AV} {σ σ' : St} (h : convA P s d x σ = some (v, σ')) : StepA σ σ' := by
  unfold convA at h
  simp only [cond_eq_ite] at h
  repeat' split at h
  all_goals (first | (cases h; done) | (simp only [Option.some.injEq, Prod.mk.injEq] at h; obtain ⟨_, rfl⟩ := h; first | exact .refl _ | exact .lgR _ _ | exact .mk' _ _ | exact .put _ _ (by assumption)))

theorem buildSliceA_step {t : TypeId} {n : Nat} {ps : List (Nat × AV)} {v : AV} {σ σ' : St} (h : buildSliceA P t n ps σ = some (v, σ')) : StepA σ σ' := by
  unfold buildSliceA at h
  simp only [cond_eq_ite] at h
  repeat' split at h
  all_goals (first | (cases h; done) | (simp only [Option.some.injEq, Prod.mk.injEq] at h; obtain ⟨_, rfl⟩ := h; exact .mk' _ _))

theorem lookupA_step {t : TypeId} {x k : AV} {ok : Bool} {v : AV} {σ σ' : St} (h : lookupA P t x k ok σ = some (v, σ')) : StepA σ σ' := by
  unfold lookupA at h
  simp only [cond_eq_ite] at h
  split at h
  · split at h
    · split at h
      · cases h
      · rename_i es τ he
        have hs : StepA σ τ := by
          repeat' split at he
          all_goals (first | (cases he; done) | (simp only [Option.some.injEq, Prod.mk.injEq] at he; obtain ⟨_, rfl⟩ := he; first | exact .refl _ | exact .lgR _ _))
        repeat' split at h
        all_goals (first | (cases h; done) | (simp only [Option.some.injEq, Prod.mk.injEq] at h; obtain ⟨_, rfl⟩ := h; exact hs))
    · cases h
  · cases h

theorem updateA_step {t : TypeId} {x k v : AV} {σ σ' : St} (h : updateA P t x k v σ = some σ') : StepA σ σ' := by
  unfold updateA at h
  simp only [cond_eq_ite] at h
  repeat' split at h
  all_goals (first | (cases h; done) | (simp only [Option.some.injEq] at h; subst h; exact .put _ _ (by assumption)))

theorem lenA_step {t : TypeId} {x v : AV} {σ σ' : St} (h : lenA P t x σ = some (v, σ')) : StepA σ σ' := by
  unfold lenA at h
  repeat' split at h
  all_goals (first | (cases h; done) | (simp only [Option.some.injEq, Prod.mk.injEq] at h; obtain ⟨_, rfl⟩ := h; first | exact .refl _ | exact .lgR _ _))

theorem firstA_step {size n : Nat} {x : AV} {l : List AV} {σ σ' : St} (h : firstA size n x σ = some (l, σ')) : StepA σ σ' := by
  unfold firstA at h
  simp only [cond_eq_ite] at h
  repeat' split at h
  all_goals (first | (cases h; done) | (simp only [Option.some.injEq, Prod.mk.injEq] at h; obtain ⟨_, rfl⟩ := h; first | exact .refl _ | exact .lgR _ _))

theorem appendTo_step {et : TypeId} {size bw n : Nat} {s v : AV} {new : List AV} {σ σ' : St} (h : appendTo et size bw s n new σ = some (v, σ')) : StepA σ σ' := by
  unfold appendTo at h
  simp only [cond_eq_ite] at h
  split at h
  · repeat' split at h
    all_goals (first | (cases h; done) | (simp only [Option.some.injEq, Prod.mk.injEq] at h; obtain ⟨_, rfl⟩ := h; first | exact .refl _ | exact .mk' _ _))
  · split at h
    · split at h
      · simp only [Option.some.injEq, Prod.mk.injEq] at h; obtain ⟨_, rfl⟩ := h; exact .refl _
      · split at h
        · split at h
          · split at h
            · split at h
              · rename_i hw
                simp only [Option.some.injEq, Prod.mk.injEq] at h; obtain ⟨_, rfl⟩ := h; exact writeN_step hw
              · cases h
            · split at h
              · rename_i hw
                simp only [Option.some.injEq, Prod.mk.injEq] at h; obtain ⟨_, rfl⟩ := h; exact (firstA_step hw).trans (.mk' _ _)
              · cases h
          · repeat' split at h
            all_goals (first | (cases h; done) | (simp only [Option.some.injEq, Prod.mk.injEq] at h; obtain ⟨_, rfl⟩ := h; exact .put _ _ (by assumption)))
        · cases h
    · cases h
  · cases h

theorem appendA_step {ts : List TypeId} {args : List AV} {v : AV} {σ σ' : St} (h : appendA P ts args σ = some (v, σ')) : StepA σ σ' := by
  unfold appendA at h
  split at h
  · split at h
    · split at h
      · simp only [cond_eq_ite] at h
        split at h
        · split at h
          · split at h
            · split at h
              · exact appendTo_step h
              · cases h
            · cases h
          · split at h
            · split at h
              · rename_i hf
                exact (firstA_step hf).trans (appendTo_step h)
              · cases h
            · cases h
          · cases h
        · cases h
      · cases h
    · cases h
  · cases h

theorem copyA_step {ts : List TypeId} {args : List AV} {v : AV} {σ σ' : St} (h : copyA P ts args σ = some (v, σ')) : StepA σ σ' := by
  unfold copyA at h
  split at h
  · split at h
    · split at h
      · dsimp only at h
        split at h
        · rename_i hf
          have h1 := firstA_step hf
          simp only [cond_eq_ite] at h
          split at h
          · simp only [Option.some.injEq, Prod.mk.injEq] at h; obtain ⟨_, rfl⟩ := h; exact h1
          · split at h
            · split at h
              · simp only [Option.some.injEq, Prod.mk.injEq] at h; obtain ⟨_, rfl⟩ := h; exact h1
              · split at h
                · rename_i hw
                  simp only [Option.some.injEq, Prod.mk.injEq] at h; obtain ⟨_, rfl⟩ := h; exact h1.trans (writeN_step hw)
                · cases h
            · cases h
          · cases h
        · cases h
      · cases h
    · cases h
  · cases h

theorem makeSliceA_step {t : TypeId} {l c v : AV} {σ σ' : St} (h : makeSliceA P t l c σ = some (v, σ')) : StepA σ σ' := by
  unfold makeSliceA at h
  simp only [cond_eq_ite] at h
  repeat' split at h
  all_goals (first | (cases h; done) | (simp only [Option.some.injEq, Prod.mk.injEq] at h; obtain ⟨_, rfl⟩ := h; exact .mk' _ _))

theorem rangeA_step {t : TypeId} {x v : AV} {σ σ' : St} (h : rangeA P t x σ = some (v, σ')) : StepA σ σ' := by
  unfold rangeA at h
  repeat' split at h
  all_goals (first | (cases h; done) | (simp only [Option.some.injEq, Prod.mk.injEq] at h; obtain ⟨_, rfl⟩ := h; first | exact .mk' _ _ | exact (StepA.lgR _ _).trans (.mk' _ _)))

theorem entryA_step {x v : AV} {σ σ' : St} (h : entryA x σ = some (v, σ')) : StepA σ σ' := by
  unfold entryA at h
  simp only [cond_eq_ite] at h
  repeat' split at h
  all_goals (first | (cases h; done) | (simp only [Option.some.injEq, Prod.mk.injEq] at h; obtain ⟨_, rfl⟩ := h; exact (StepA.lgR _ _).trans (.lgR _ _)))

theorem mnextA_step {x : AV} {σ : St} {l : List (AV × St)} (h : mnextA x σ = some l) : ∀ p ∈ l, StepA σ p.2 := by
  unfold mnextA at h
  repeat' split at h
  all_goals (first | (cases h; done) | skip)
  · simp only [Option.some.injEq] at h
    subst h
    intro p hp
    simp only [List.mem_singleton] at hp
    subst hp
    exact .lgR _ _
  · simp only [Option.some.injEq] at h
    subst h
    intro p hp
    obtain ⟨c, _, rfl⟩ := List.mem_map.1 hp
    cases c with
    | none => exact (StepA.lgR _ _).trans (.lgR _ _)
    | some c => exact (StepA.lgR _ _).trans (.put _ _ (by assumption))

theorem clearA_step {t : TypeId} {x : AV} {σ σ' : St} (h : clearA P t x σ = some σ') : StepA σ σ' := by
  unfold clearA at h
  simp only [cond_eq_ite] at h
  repeat' split at h
  all_goals (first | (cases h; done) | exact writeN_step h | (simp only [Option.some.injEq] at h; subst h; first | exact .refl _ | exact .put _ _ (by assumption)))

theorem nextA_step {x v : AV} {b : Bool} {σ σ' : St} (h : nextA x b σ = some (v, σ')) : StepA σ σ' := by
  unfold nextA at h
  simp only [cond_eq_ite] at h
  repeat' split at h
  all_goals (first | (cases h; done) | (simp only [Option.some.injEq, Prod.mk.injEq] at h; obtain ⟨_, rfl⟩ := h; first | exact .put _ _ (by assumption) | exact .lgR _ _))

/-- The state that an operation leaves. -/
def OR.st : OR → Option St
  | .val _ σ | .dfr _ σ | .pan _ σ | .call _ _ σ | .rcv σ => some σ
  | .no => none

def OR.steps (σ : St) (r : OR) : Prop := ∀ σ', r.st = some σ' → StepA σ σ'

theorem steps_of {σ : St} (x : Option AV) : (OR.of x σ).steps σ := by
  cases x <;> simp [OR.of, OR.steps, OR.st, StepA.refl]
theorem steps_ofS {σ : St} {x : Option (AV × St)} (h : ∀ v σ', x = some (v, σ') → StepA σ σ') : (OR.ofS x).steps σ := by
  cases x with
  | none => simp [OR.ofS, OR.steps, OR.st]
  | some p => obtain ⟨v, τ⟩ := p; simpa [OR.ofS, OR.steps, OR.st] using h v τ rfl
theorem steps_ofU {σ : St} {x : Option St} (h : ∀ σ', x = some σ' → StepA σ σ') : (OR.ofU x).steps σ := by
  cases x with
  | none => simp [OR.ofU, OR.steps, OR.st]
  | some p => simpa [OR.ofU, OR.steps, OR.st] using h p rfl
theorem steps_no {σ : St} : OR.no.steps σ := by simp [OR.steps, OR.st]
theorem steps_val {σ σ' : St} {v : AV} (h : StepA σ σ') : (OR.val v σ').steps σ := by simpa [OR.steps, OR.st] using h
theorem steps_pan {σ σ' : St} {v : AV} (h : StepA σ σ') : (OR.pan v σ').steps σ := by simpa [OR.steps, OR.st] using h
theorem steps_call {σ σ' : St} {f : Cle} {l : List AV} (h : StepA σ σ') : (OR.call f l σ').steps σ := by simpa [OR.steps, OR.st] using h

theorem steps_rcv {σ σ' : St} (h : StepA σ σ') : (OR.rcv σ').steps σ := by simpa [OR.steps, OR.st] using h
theorem steps_dfr {σ σ' : St} {d : ADef} (h : StepA σ σ') : (OR.dfr d σ').steps σ := by simpa [OR.steps, OR.st] using h

theorem atomicA_steps {n : Nat} {k : IntKind} {args : List AV} {σ : St} : (atomicA n k args σ).steps σ := by
  unfold atomicA
  repeat' split
  all_goals first
    | exact steps_no
    | exact steps_val (.refl _)
    | exact steps_val (.lgR _ _)
    | (rename_i hw; exact steps_val (writeN_step hw))
    | (rename_i hw _; exact steps_val (writeN_step hw))

theorem externA_steps {name : String} {sl : Option TypeId} {args : List AV} {σ : St} : (externA name sl args σ).steps σ := by
  unfold externA
  simp only [cond_eq_ite]
  repeat' split
  all_goals first
    | exact steps_no
    | exact steps_val (.refl _)
    | exact steps_val (.mk' _ _)
    | exact atomicA_steps

theorem callFA_steps {f : FuncId} {args : List AV} {σ σ₀ : St} (h : StepA σ₀ σ) : (callFA P f args σ).steps σ₀ := by
  unfold callFA
  split
  · split
    · split
      · exact steps_no
      · exact steps_call h
    · split
      · intro σ' hs; exact h.trans (externA_steps σ' hs)
      · exact steps_no
  · exact steps_no

theorem methodA_step {t : TypeId} {v r : AV} {name : String} {f : FuncId} {σ σ' : St} (h : methodA P t v name σ = some (f, r, σ')) : StepA σ σ' := by
  unfold methodA at h
  split at h
  · split at h
    · split at h
      · split at h
        · simp only [Option.some.injEq, Prod.mk.injEq] at h; obtain ⟨_, _, rfl⟩ := h; exact .refl _
        · cases h
      · split at h
        · split at h
          · rename_i hl
            simp only [Option.some.injEq, Prod.mk.injEq] at h; obtain ⟨_, _, rfl⟩ := h; exact loadA_step hl
          · cases h
        · simp only [Option.some.injEq, Prod.mk.injEq] at h; obtain ⟨_, _, rfl⟩ := h; exact .refl _
        · cases h
      · cases h
    · cases h
  · cases h

theorem callMA_steps {recv : AV} {name : String} {args : List AV} {σ : St} : (callMA P recv name args σ).steps σ := by
  unfold callMA
  split
  · split
    · rename_i hm
      exact callFA_steps (methodA_step hm)
    · exact steps_no
  · exact steps_no

theorem callVA_steps {f : AV} {args : List AV} {σ : St} : (callVA P f args σ).steps σ := by
  unfold callVA
  split
  · exact callFA_steps (.refl _)
  · exact steps_call (.refl _)
  · split
    · exact callMA_steps
    · exact steps_no
  · split
    · split
      · exact callMA_steps
      · exact callMA_steps
      · exact steps_no
    · exact steps_no
  · split
    · split
      · exact callFA_steps (.refl _)
      · split
        · rename_i hl
          exact callFA_steps (loadA_step hl)
        · exact steps_no
      · exact callFA_steps (.refl _)
      · exact steps_no
    · exact steps_no
  · exact steps_no

theorem builtinA_steps {b : Builtin} {ts : List TypeId} {args : List AV} {σ : St} : (builtinA P b ts args σ).steps σ := by
  unfold builtinA
  split
  · exact steps_ofS fun _ _ => appendA_step
  · exact steps_ofS fun _ _ => copyA_step
  · split
    · exact steps_ofS fun _ _ => lenA_step
    · exact steps_no
  · split
    · exact steps_of _
    · exact steps_no
  · split
    · exact steps_of _
    · exact steps_no
  · split
    · exact steps_of _
    · exact steps_no
  · exact steps_rcv (.refl _)
  all_goals (try simp only [cond_eq_ite])
  all_goals (repeat' split)
  all_goals first
    | exact steps_no
    | exact steps_val (.refl _)
    | exact steps_ofU fun _ => clearA_step
    | exact steps_val (.put _ _ (by assumption))

theorem panicA_steps {x : AV} {σ : St} : (panicA x σ).steps σ := by
  unfold panicA
  split
  · exact steps_pan (.refl _)
  · exact steps_no

theorem opA_steps {env : Env} {σ : St} {o : Oper} : (opA P C env σ o).steps σ := by
  unfold opA
  cases ho : o.op <;> (try dsimp only)
  case makeMap t r =>
    cases r with
    | none => exact steps_val (.mk' _ _)
    | some r =>
      dsimp only
      split
      · exact steps_val (.mk' _ _)
      · exact steps_no
  case nilCheck =>
    split
    · rw [cond_eq_ite]
      split
      · exact steps_val (.refl _)
      · exact steps_no
    · exact steps_no
  case binOp =>
    split
    · rw [cond_eq_ite]
      split
      · exact steps_of _
      · exact steps_no
    · exact steps_no
  all_goals try (repeat' split)
  all_goals first
    | exact steps_no
    | exact steps_of _
    | exact steps_val (.refl _)
    | exact steps_val (.mk' _ _)
    | exact steps_ofS fun _ _ => buildSliceA_step
    | exact steps_ofS fun _ _ => loadA_step
    | exact steps_ofU fun _ => storeA_step
    | exact steps_ofS fun _ _ => convA_step
    | exact steps_ofS fun _ _ => makeSliceA_step
    | exact steps_ofS fun _ _ => lookupA_step
    | exact steps_ofU fun _ => updateA_step
    | exact steps_ofS fun _ _ => rangeA_step
    | exact steps_ofS fun _ _ => nextA_step
    | exact steps_ofS fun _ _ => entryA_step
    | exact builtinA_steps
    | exact callMA_steps
    | exact callVA_steps
    | exact panicA_steps
    | exact steps_dfr (.refl _)
end
end Go.Tw
