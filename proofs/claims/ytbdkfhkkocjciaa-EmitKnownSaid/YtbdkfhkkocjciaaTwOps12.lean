/-
  A part of the proof that the abstract evaluator is sound for the model's machine. Conditions: those of each theorem, as it states them.
-/
import Derived.Test.YtbdkfhkkocjciaaTwOps11
namespace Go.Tw
section
variable {P : Program} {R : Nat} {C : Cfg} {D : Nat → Prop} {φ : PM} {σ : St} {w : World}

theorem methodA_ok (hi : Inv R C D φ σ w) {t : TypeId} {v r : AV} {v' : Value} {name : String} {f : FuncId} {σ' : St} (h : methodA P t v name σ = some (f, r, σ')) (hv : VR φ v v') (hk : Known D σ σ') (n : Nat) :
    ∃ r', (method (n + 1) t v' name).run P w = .ok (f, r') w ∧ VR φ r r' ∧ Post R D φ σ w σ' φ w ∧ σ'.heap = σ.heap ∧ σ'.next = σ.next ∧ σ'.wr = σ.wr := by
  unfold methodA at h
  split at h
  · rename_i i hi'
    split at h
    · rename_i m hm
      split at h
      · rename_i f' hp hfn
        have hp' : m.path = #[] := by apply Array.ext'; simpa using hp
        split at h
        · rename_i e hu
          simp only [Option.some.injEq, Prod.mk.injEq] at h; obtain ⟨rfl, rfl, rfl⟩ := h
          refine ⟨v', ?_, hv, .same hi rfl rfl rfl, rfl, rfl, rfl⟩
          simp [method, run_info hi', hm, hp', follow, hfn, receiverAt, run_und hu, Place.get]
        · cases h
      · rename_i f' hp hfn
        have hp' : m.path = #[] := by apply Array.ext'; simpa using hp
        split at h
        · rename_i e hu
          split at h
          · rename_i x τ hl
            simp only [Option.some.injEq, Prod.mk.injEq] at h; obtain ⟨rfl, rfl, rfl⟩ := h
            obtain ⟨x', r1, r2, r3⟩ := loadA_ok (P := P) hi hl hv hk
            have hs : τ.heap = σ.heap ∧ τ.next = σ.next ∧ τ.wr = σ.wr := by
              unfold loadA at hl
              repeat' split at hl
              all_goals (first | (cases hl; done) | (simp only [Option.some.injEq, Prod.mk.injEq] at hl; obtain ⟨_, rfl⟩ := hl; exact ⟨rfl, rfl, rfl⟩))
            have hptr : ∃ a, v' = .pointer (some a) := by
              unfold loadA at hl
              split at hl
              · cases hv; exact ⟨_, rfl⟩
              · cases hl
            obtain ⟨a, rfl⟩ := hptr
            refine ⟨x', ?_, r2, r3, hs⟩
            have r1' : (loadVar e a).run P w = .ok x' w := by simpa [Instr.loadAt, Instr.sureAddr] using r1
            have hwr : ∀ s m, Builtin.ssaWrapNilChk_ #[t] t #[.pointer (some a), .string s, .string m] = pure (.pointer (some a)) := fun _ _ => rfl
            simp [method, run_info hi', hm, hp', follow, hfn, receiverAt, run_und hu, Place.get, strVal, hwr, asAddr, r1']
          · cases h
        · rename_i d hn hu
          simp only [Option.some.injEq, Prod.mk.injEq] at h; obtain ⟨rfl, rfl, rfl⟩ := h
          refine ⟨v', ?_, hv, .same hi rfl rfl rfl, rfl, rfl, rfl⟩
          cases d <;> first
            | (simp [method, run_info hi', hm, hp', follow, hfn, receiverAt, run_und hu, Place.get]; done)
            | (exfalso; exact hn _ rfl)
        · cases h
      · cases h
    · cases h
  · cases h

theorem OpOk.from {τ : St} {s : Sem Next} {r : OR} (h : OpOk P R D φ τ w s r) (h2 : τ.next = σ.next) (hw : τ.wr = σ.wr) : OpOk P R D φ σ w s r := by
  cases r with
  | val v σ' => obtain ⟨φ', w', n, v', h1, h3, h4, h5⟩ := h; exact ⟨φ', w', n, v', h1, h3, h4, h5.from h2 hw⟩
  | pan v σ' => obtain ⟨φ', w', v', h1, h3, h4⟩ := h; exact ⟨φ', w', v', h1, h3, h4.from h2 hw⟩
  | call f l σ' => obtain ⟨φ', w', l', h1, h3, h4⟩ := h; exact ⟨φ', w', l', h1, h3, h4.from h2 hw⟩
  | dfr d σ' => exact h.elim
  | no => trivial

theorem callMA_ok (hi : Inv R C D φ σ w) {recv : AV} {recv' : Value} {name : String} {args : List AV} {args' : Array Value} (hr : VR φ recv recv') (ha : VRL φ args args'.toList)
    (hk : ∀ σ', (callMA P recv name args σ).st = some σ' → Known D σ σ') : OpOk P R D φ σ w (callMethod recv' name args') (callMA P recv name args σ) := by
  unfold callMA at hk ⊢
  split
  · rename_i t v
    cases hr with
    | iface _ hv =>
      rename_i v'
      split
      · rename_i f r τ hm
        dsimp only at hk
        rw [hm] at hk
        dsimp only at hk
        have hfs := callFA_steps (P := P) (f := f) (args := r :: args) (StepA.refl τ)
        cases hcf : callFA P f (r :: args) τ with
        | no => trivial
        | dfr d σ' =>
          exfalso
          unfold callFA externA at hcf
          repeat' split at hcf
          all_goals cases hcf
        | _ =>
          have hst : ∃ σ', (callFA P f (r :: args) τ).st = some σ' := by rw [hcf]; exact ⟨_, rfl⟩
          obtain ⟨σ', hst⟩ := hst
          have hkn := hk σ' hst
          have hkτ : Known D σ τ := hkn.mono (hfs σ' hst)
          obtain ⟨r', q1, q2, q3, q4, q5, q6⟩ := methodA_ok (P := P) hi hm hv hkτ (P.types.size + 99)
          have := callFA_ok (P := P) (hi.same q4 q5) (f := f) (args := r :: args) (args' := #[r'] ++ args') (by simpa using VRL.cons q2 ha)
          have h2 := this.from (σ := σ) q5 q6
          rw [hcf] at h2
          have hrun : (callMethod (.iface t v') name args').run P w = (callFunc f (#[r'] ++ args')).run P w := by
            have q1' : (method (P.types.size + Made.depth) t v' name).run P w = .ok (f, r') w := q1
            simp only [callMethod, Sem.run_bind, run_program, Result.andThen_ok, q1']
          simp only [OpOk] at h2 ⊢
          rw [hrun]
          exact h2
      · trivial
  · trivial

theorem callFA_nodfr {f : FuncId} {args : List AV} {d : ADef} {σ' : St} : callFA P f args σ ≠ .dfr d σ' := by
  intro h
  unfold callFA externA at h
  repeat' split at h
  all_goals cases h

theorem VRL.arr {l : List AV} {l' : List Value} (h : VRL φ l l') : VRL φ l l'.toArray.toList := by simpa using h

theorem callVA_ok (hi : Inv R C D φ σ w) {f : AV} {f' : Value} {args : List AV} {args' : Array Value} (hf : VR φ f f') (ha : VRL φ args args'.toList)
    (hk : ∀ σ', (callVA P f args σ).st = some σ' → Known D σ σ') : OpOk P R D φ σ w (do let d ← Deferred.ofValue f' args'; invoke d.target d.args) (callVA P f args σ) := by
  unfold callVA at hk ⊢
  split
  · rename_i fi first captured
    cases hf with
    | fn _ a' b' h1 h2 =>
      have := callFA_ok (P := P) hi (f := fi) (args := first ++ args ++ captured) (args' := a' ++ args' ++ b') (by simpa using (h1.append ha).append h2)
      exact this
  · rename_i name first captured
    cases hf with
    | fn _ a' b' h1 h2 =>
      split
      · rename_i recv rest hfr
        have hall := h1.append ha
        rw [hfr] at hall
        obtain ⟨l, hl⟩ : ∃ l, l = a'.toList ++ args'.toList := ⟨_, rfl⟩
        rw [← hl] at hall
        cases hall with
        | cons hv ht =>
          rename_i v' l'
          have harr : a' ++ args' = (v' :: l').toArray := by apply Array.ext'; simpa using hl.symm
          have hk' : ∀ σ', (callMA P recv name rest σ).st = some σ' → Known D σ σ' := fun σ' hs => hk σ' (by dsimp only; rw [hfr]; exact hs)
          have := callMA_ok (P := P) hi (name := name) (args' := l'.toArray) hv ht.arr hk'
          have hrun : ∀ w, (do let d ← Deferred.ofValue (.func (.method name) a' b') args'; invoke d.target d.args : Sem Next).run P w = (callMethod v' name l'.toArray).run P w := by
            intro w
            simp only [Deferred.ofValue, Sem.run_bind, Sem.run_pure, Result.andThen_ok, invoke]
            rw [harr]
            simp
          cases hc : callMA P recv name rest σ <;> rw [hc] at this <;> simp only [OpOk] at this ⊢ <;> (try rw [hrun]) <;> exact this
      · trivial
  · rename_i t name first captured
    cases hf with
    | fn _ a' b' h1 h2 =>
      split
      · rename_i recv rest hfr
        have hall := h1.append ha
        rw [hfr] at hall
        obtain ⟨l, hl⟩ : ∃ l, l = a'.toList ++ args'.toList := ⟨_, rfl⟩
        rw [← hl] at hall
        cases hall with
        | cons hv ht =>
          rename_i v' l'
          have harr : a' ++ args' = (v' :: l').toArray := by apply Array.ext'; simpa using hl.symm
          split
          · rename_i ms hu
            have hk' : ∀ σ', (callMA P recv name rest σ).st = some σ' → Known D σ σ' := fun σ' hs => hk σ' (by dsimp only; rw [hfr]; dsimp only; rw [hu]; exact hs)
            have := callMA_ok (P := P) hi (name := name) (args' := l'.toArray) hv ht.arr hk'
            have hrun : ∀ w, (do let d ← Deferred.ofValue (.func (.methodOf t name) a' b') args'; invoke d.target d.args : Sem Next).run P w = (callMethod v' name l'.toArray).run P w := by
              intro w
              simp only [Deferred.ofValue, Sem.run_bind, Sem.run_pure, Result.andThen_ok, invoke]
              rw [harr]
              simp [run_und hu]
            cases hc : callMA P recv name rest σ <;> rw [hc] at this <;> simp only [OpOk] at this ⊢ <;> (try rw [hrun]) <;> exact this
          · rename_i d hn hu
            have hk' : ∀ σ', (callMA P (.iface t recv) name rest σ).st = some σ' → Known D σ σ' := fun σ' hs => hk σ' (by
              dsimp only; rw [hfr]; dsimp only; rw [hu]
              cases d <;> first | exact hs | (exfalso; exact hn _ rfl))
            have := callMA_ok (P := P) hi (name := name) (args' := l'.toArray) (.iface t hv) ht.arr hk'
            have hrun : ∀ w, (do let d ← Deferred.ofValue (.func (.methodOf t name) a' b') args'; invoke d.target d.args : Sem Next).run P w = (callMethod (.iface t v') name l'.toArray).run P w := by
              intro w
              simp only [Deferred.ofValue, Sem.run_bind, Sem.run_pure, Result.andThen_ok, invoke]
              rw [harr]
              cases d <;> first
                | (simp [run_und hu]; done)
                | (exfalso; exact hn _ rfl)
            cases hc : callMA P (.iface t recv) name rest σ <;> rw [hc] at this <;> simp only [OpOk] at this ⊢ <;> (try rw [hrun]) <;> exact this
          · trivial
      · trivial
  · rename_i t path fi pointer first captured
    cases hf with
    | fn _ a' b' h1 h2 =>
      split
      · rename_i recv rest hfr
        have hall := h1.append ha
        rw [hfr] at hall
        obtain ⟨l, hl⟩ : ∃ l, l = a'.toList ++ args'.toList := ⟨_, rfl⟩
        rw [← hl] at hall
        cases hall with
        | cons hv ht =>
          rename_i v' l'
          have harr : a' ++ args' = (v' :: l').toArray := by apply Array.ext'; simpa using hl.symm
          have hgo : ∀ (r' : Value) (τ : St) (r : AV), (receiverVia t v' path pointer).run P w = .ok r' w → VR φ r r' → τ.heap = σ.heap → τ.next = σ.next → τ.wr = σ.wr →
              OpOk P R D φ σ w (do let d ← Deferred.ofValue (.func (.via t path fi pointer) a' b') args'; invoke d.target d.args) (callFA P fi (r :: rest) τ) := by
            intro r' τ r hr hvr e1 e2 e3
            have := (callFA_ok (P := P) (hi.same e1 e2) (f := fi) (args := r :: rest) (args' := #[r'] ++ l'.toArray) (by simpa using VRL.cons hvr ht)).from (σ := σ) e2 e3
            have hrun : (do let d ← Deferred.ofValue (.func (.via t path fi pointer) a' b') args'; invoke d.target d.args : Sem Next).run P w = (callFunc fi (#[r'] ++ l'.toArray)).run P w := by
              simp only [Deferred.ofValue, Sem.run_bind, Sem.run_pure, Result.andThen_ok, invoke]
              rw [harr]
              simp [hr]
            cases hc : callFA P fi (r :: rest) τ <;> rw [hc] at this <;> simp only [OpOk] at this ⊢ <;> (try rw [hrun]) <;> exact this
          split
          · rename_i e hp hu
            have hp' : path = #[] := by apply Array.ext'; simpa using hp
            subst hp'
            exact hgo v' σ recv (by simp [receiverVia, follow, receiverAt, run_und hu, Place.get]) hv rfl rfl rfl
          · rename_i e hp hu
            have hp' : path = #[] := by apply Array.ext'; simpa using hp
            subst hp'
            split
            · rename_i x τ hl2
              have hs : τ.heap = σ.heap ∧ τ.next = σ.next ∧ τ.wr = σ.wr := by
                unfold loadA at hl2
                repeat' split at hl2
                all_goals (first | (cases hl2; done) | (simp only [Option.some.injEq, Prod.mk.injEq] at hl2; obtain ⟨_, rfl⟩ := hl2; exact ⟨rfl, rfl, rfl⟩))
              cases hcf : callFA P fi (x :: rest) τ with
              | no => trivial
              | _ =>
                have hst : ∃ σ', (callFA P fi (x :: rest) τ).st = some σ' := by rw [hcf]; exact ⟨_, rfl⟩
                obtain ⟨σ', hst⟩ := hst
                have hkn := hk σ' (by dsimp only; rw [hfr]; dsimp only; rw [hu]; dsimp only; rw [hl2]; exact hst)
                have hkτ : Known D σ τ := hkn.mono (callFA_steps (P := P) (StepA.refl τ) σ' hst)
                obtain ⟨x', r1, r2, r3⟩ := loadA_ok (P := P) hi hl2 hv hkτ
                have hptr : ∃ a, v' = .pointer (some a) := by
                  unfold loadA at hl2
                  split at hl2
                  · cases hv; exact ⟨_, rfl⟩
                  · cases hl2
                obtain ⟨a, rfl⟩ := hptr
                have r1' : (loadVar e a).run P w = .ok x' w := by simpa [Instr.loadAt, Instr.sureAddr] using r1
                have := hgo x' τ x (by simp [receiverVia, follow, receiverAt, run_und hu, Place.get, asAddr, r1']) r2 hs.1 hs.2.1 hs.2.2
                rwa [hcf] at this
            · trivial
          · rename_i d hn1 hp hu
            have hp' : path = #[] := by apply Array.ext'; simpa using hp
            subst hp'
            refine hgo v' σ recv ?_ hv rfl rfl rfl
            cases d <;> first
              | (simp [receiverVia, follow, receiverAt, run_und hu, Place.get]; done)
              | (exfalso; exact hn1 _ rfl)
          · trivial
      · trivial
  · trivial
end
end Go.Tw
