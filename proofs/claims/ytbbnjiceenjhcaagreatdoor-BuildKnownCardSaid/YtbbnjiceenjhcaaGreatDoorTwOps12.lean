/-
  A part of the proof that the abstract evaluator is sound for the model's machine. Conditions: those of each theorem, as it states them.
-/
import Derived.Test.YtbbnjiceenjhcaaGreatDoorTwOps11
set_option linter.all false
namespace Go.Tw
section
variable [Val]
variable {P : Program} {R : Nat} {C : Cfg} {D : Nat → Prop} {φ : PM} {σ : St} {w : World}

theorem methodA_ok (hi : Inv R C D φ σ w) {t : TypeId} {v r : AV} {v' : Value} {name : String} {f : FuncId} {σ' : St} (h : methodA P t v name σ = some (f, r, σ')) (hv : VR φ v v') (hk : Known D σ σ') (n : Nat) :
    ∃ r', (method (n + 1) t v' name).run P w = .ok (f, r') w ∧ VR φ r r' ∧ Post R D φ σ w σ' φ w ∧ σ'.heap = σ.heap ∧ σ'.next = σ.next ∧ σ'.wr = σ.wr := by
  unfold methodA at h
  split at h
  · rename_i i hi'
    split at h
    · rename_i m hm
      split at h
      · rename_i f' hp hfn
        have hp' : m.path = #[] := by apply Array.ext'; simpa using hp
        split at h
        · rename_i e hu
          simp only [Option.some.injEq, Prod.mk.injEq] at h; obtain ⟨rfl, rfl, rfl⟩ := h
          refine ⟨v', ?_, hv, .same hi rfl rfl rfl, rfl, rfl, rfl⟩
          simp [method, run_info hi', hm, hp', follow, hfn, receiverAt, run_und hu, Place.get]
        · cases h
      · rename_i f' hp hfn
        have hp' : m.path = #[] := by apply Array.ext'; simpa using hp
        split at h
        · rename_i e hu
          split at h
          · rename_i x τ hl
            simp only [Option.some.injEq, Prod.mk.injEq] at h; obtain ⟨rfl, rfl, rfl⟩ := h
            obtain ⟨x', r1, r2, r3⟩ := loadA_ok (P := P) hi hl hv hk
            have hs : τ.heap = σ.heap ∧ τ.next = σ.next ∧ τ.wr = σ.wr := by
              unfold loadA at hl
              repeat' split at hl
              all_goals (first | (cases hl; done) | (simp only [Option.some.injEq, Prod.mk.injEq] at hl; obtain ⟨_, rfl⟩ := hl; exact ⟨rfl, rfl, rfl⟩))
            have hptr : ∃ a, v' = .pointer (some a) := by
              unfold loadA at hl
              split at hl
              · cases hv; exact ⟨_, rfl⟩
              · cases hl
            obtain ⟨a, rfl⟩ := hptr
            refine ⟨x', ?_, r2, r3, hs⟩
            have r1' : (loadVar e a).run P w = .ok x' w := by simpa [Instr.loadAt, Instr.sureAddr] using r1
            have hwr : ∀ s m, Builtin.ssaWrapNilChk_ #[t] t #[.pointer (some a), .string s, .string m] = pure (.pointer (some a)) := fun _ _ => rfl
            simp [method, run_info hi', hm, hp', follow, hfn, receiverAt, run_und hu, Place.get, strVal, hwr, asAddr, r1']
          · cases h
        · rename_i d hn hu
          simp only [Option.some.injEq, Prod.mk.injEq] at h; obtain ⟨rfl, rfl, rfl⟩ := h
          refine ⟨v', ?_, hv, .same hi rfl rfl rfl, rfl, rfl, rfl⟩
          cases d <;> first
            | (simp [method, run_info hi', hm, hp', follow, hfn, receiverAt, run_und hu, Place.get]; done)
            | (exfalso; exact hn _ rfl)
        · cases h
      · cases h
    · cases h
  · cases h

theorem OpOk.from {τ : St} {s : Sem Next} {r : OR} (h : OpOk P R D φ τ w s r) (h2 : τ.next = σ.next) (hw : τ.wr = σ.wr) : OpOk P R D φ σ w s r := by
  cases r with
  | val v σ' => obtain ⟨φ', w', n, v', h1, h3, h4, h5⟩ := h; exact ⟨φ', w', n, v', h1, h3, h4, h5.from h2 hw⟩
  | pan v σ' => obtain ⟨φ', w', v', h1, h3, h4⟩ := h; exact ⟨φ', w', v', h1, h3, h4.from h2 hw⟩
  | call f l σ' => obtain ⟨φ', w', l', h1, h3, h4⟩ := h; exact ⟨φ', w', l', h1, h3, h4.from h2 hw⟩
  | dfr d σ' => obtain ⟨φ', w', d', h1, h3, h4⟩ := h; exact ⟨φ', w', d', h1, h3, h4.from h2 hw⟩
  | rcv σ' => exact ⟨h.1, h.2.from h2 hw⟩
  | no => trivial

theorem OpOk.congr {s s' : Sem Next} {r : OR} (h : OpOk P R D φ σ w s r) (he : s'.run P w = s.run P w) : OpOk P R D φ σ w s' r := by
  cases r with
  | val v σ' => simp only [OpOk] at h ⊢; rw [he]; exact h
  | pan v σ' => simp only [OpOk] at h ⊢; rw [he]; exact h
  | dfr d σ' => simp only [OpOk] at h ⊢; rw [he]; exact h
  | rcv σ' => simp only [OpOk] at h ⊢; rw [he]; exact h
  | no => trivial
  | call f l σ' =>
    obtain ⟨φ', w', l', h1, h3, h4⟩ := h
    refine ⟨φ', w', l', ?_, h3, h4⟩
    cases f with
    | fn f => exact he.trans h1
    | yld id => obtain ⟨e1, e, g1, g2⟩ := h1; exact ⟨e1, e, g1, he.trans g2⟩

omit [Val] in
theorem Known.frm {σ τ σ' : St} (h : Known D σ σ') (h2 : τ.next = σ.next) : Known D τ σ' := fun i hi hn => h i hi (by rw [← h2]; exact hn)
omit [Val] in
theorem Free.frm {σ τ σ' : St} (h : Free φ σ σ') (h2 : τ.next = σ.next) : Free φ τ σ' := fun i h1 h3 => h i (by rw [← h2]; exact h1) h3

theorem callMA_ok (hi : Inv R C D φ σ w) {recv : AV} {recv' : Value} {name : String} {args : List AV} {args' : Array Value} (hr : VR φ recv recv') (ha : VRL φ args args'.toList)
    (hk : ∀ σ', (callMA P recv name args σ).st = some σ' → Known D σ σ') (hfr : ∀ σ', (callMA P recv name args σ).st = some σ' → Free φ σ σ') :
    OpOk P R D φ σ w (callMethod recv' name args') (callMA P recv name args σ) := by
  unfold callMA at hk hfr ⊢
  split
  · rename_i t v
    cases hr with
    | iface _ hv =>
      rename_i v'
      split
      · rename_i f r τ hm
        dsimp only at hk hfr
        rw [hm] at hk hfr
        dsimp only at hk hfr
        have hfs := callFA_steps (P := P) (f := f) (args := r :: args) (StepA.refl τ)
        cases hst : (callFA P f (r :: args) τ).st with
        | none =>
          cases hcf : callFA P f (r :: args) τ <;> rw [hcf] at hst <;> first | trivial | cases hst
        | some σ' =>
          have hkn := hk σ' hst
          have hkτ : Known D σ τ := hkn.mono (hfs σ' hst)
          obtain ⟨r', q1, q2, q3, q4, q5, q6⟩ := methodA_ok (P := P) hi hm hv hkτ (P.types.size + 99)
          have := callFA_ok (P := P) (hi.same q4 q5 q6) (f := f) (args := r :: args) (args' := #[r'] ++ args') (by simpa using VRL.cons q2 ha)
            (fun σ' h => (hk σ' h).frm q5) (fun σ' h => (hfr σ' h).frm q5)
          refine (this.from (σ := σ) q5 q6).congr ?_
          have q1' : (method (P.types.size + Made.depth) t v' name).run P w = .ok (f, r') w := q1
          simp only [callMethod, Sem.run_bind, run_program, Result.andThen_ok, q1']
      · trivial
  · trivial

theorem VRL.arr {l : List AV} {l' : List Value} (h : VRL φ l l') : VRL φ l l'.toArray.toList := by simpa using h

omit [Val] in
theorem run_dv {fv : Value} {f : Fn} {a' b' args' : Array Value} (w : World) (hfv : fv = .func f a' b') :
    (do let d ← Deferred.ofValue fv args'; invoke d.target d.args : Sem Next).run P w = (invoke (.fn f b') (a' ++ args')).run P w := by
  subst hfv
  rfl

theorem callVA_ok (hi : Inv R C D φ σ w) {f : AV} {f' : Value} {args : List AV} {args' : Array Value} (hf : VR φ f f') (ha : VRL φ args args'.toList)
    (hk : ∀ σ', (callVA P f args σ).st = some σ' → Known D σ σ') (hfr : ∀ σ', (callVA P f args σ).st = some σ' → Free φ σ σ') :
    OpOk P R D φ σ w (do let d ← Deferred.ofValue f' args'; invoke d.target d.args) (callVA P f args σ) := by
  unfold callVA at hk hfr ⊢
  split
  · rename_i fi first captured
    cases hf with
    | fn _ a' b' h1 h2 =>
      have := callFA_ok (P := P) hi (f := fi) (args := first ++ args ++ captured) (args' := a' ++ args' ++ b') (by simpa using (h1.append ha).append h2) hk hfr
      exact this
  · rename_i id
    cases hf with
    | yld e he =>
      refine ⟨φ, w, args', ⟨rfl, e, he, ?_⟩, ha, .same hi rfl rfl rfl⟩
      rw [run_dv w rfl]
      simp [invoke]
  · rename_i name first captured
    cases hf with
    | fn _ a' b' h1 h2 =>
      split
      · rename_i recv rest hfr'
        have hall := h1.append ha
        rw [hfr'] at hall
        obtain ⟨l, hl⟩ : ∃ l, l = a'.toList ++ args'.toList := ⟨_, rfl⟩
        rw [← hl] at hall
        cases hall with
        | cons hv ht =>
          rename_i v' l'
          have harr : a' ++ args' = (v' :: l').toArray := by apply Array.ext'; simpa using hl.symm
          dsimp only at hk hfr
          rw [hfr'] at hk hfr
          dsimp only at hk hfr
          refine (callMA_ok (P := P) hi (name := name) (args' := l'.toArray) hv ht.arr hk hfr).congr ?_
          simp only [Deferred.ofValue, Sem.run_bind, Sem.run_pure, Result.andThen_ok, invoke]
          rw [harr]
          simp
      · trivial
  · rename_i t name first captured
    cases hf with
    | fn _ a' b' h1 h2 =>
      split
      · rename_i recv rest hfr'
        have hall := h1.append ha
        rw [hfr'] at hall
        obtain ⟨l, hl⟩ : ∃ l, l = a'.toList ++ args'.toList := ⟨_, rfl⟩
        rw [← hl] at hall
        cases hall with
        | cons hv ht =>
          rename_i v' l'
          have harr : a' ++ args' = (v' :: l').toArray := by apply Array.ext'; simpa using hl.symm
          dsimp only at hk hfr
          rw [hfr'] at hk hfr
          dsimp only at hk hfr
          split
          · rename_i ms hu
            rw [hu] at hk hfr
            dsimp only at hk hfr
            refine (callMA_ok (P := P) hi (name := name) (args' := l'.toArray) hv ht.arr hk hfr).congr ?_
            simp only [Deferred.ofValue, Sem.run_bind, Sem.run_pure, Result.andThen_ok, invoke]
            rw [harr]
            simp [run_und hu]
          · rename_i d hn hu
            rw [hu] at hk hfr
            have hk' : ∀ σ', (callMA P (.iface t recv) name rest σ).st = some σ' → Known D σ σ' := fun σ' hs => hk σ' (by
              cases d <;> first | exact hs | (exfalso; exact hn _ rfl))
            have hfr'' : ∀ σ', (callMA P (.iface t recv) name rest σ).st = some σ' → Free φ σ σ' := fun σ' hs => hfr σ' (by
              cases d <;> first | exact hs | (exfalso; exact hn _ rfl))
            refine (callMA_ok (P := P) hi (name := name) (args' := l'.toArray) (.iface t hv) ht.arr hk' hfr'').congr ?_
            simp only [Deferred.ofValue, Sem.run_bind, Sem.run_pure, Result.andThen_ok, invoke]
            rw [harr]
            cases d <;> first
              | (simp [run_und hu]; done)
              | (exfalso; exact hn _ rfl)
          · trivial
      · trivial
  · rename_i t path fi pointer first captured
    cases hf with
    | fn _ a' b' h1 h2 =>
      split
      · rename_i recv rest hfr'
        have hall := h1.append ha
        rw [hfr'] at hall
        obtain ⟨l, hl⟩ : ∃ l, l = a'.toList ++ args'.toList := ⟨_, rfl⟩
        rw [← hl] at hall
        cases hall with
        | cons hv ht =>
          rename_i v' l'
          have harr : a' ++ args' = (v' :: l').toArray := by apply Array.ext'; simpa using hl.symm
          dsimp only at hk hfr
          rw [hfr'] at hk hfr
          dsimp only at hk hfr
          have hgo : ∀ (r' : Value) (τ : St) (r : AV), (receiverVia t v' path pointer).run P w = .ok r' w → VR φ r r' → τ.heap = σ.heap → τ.next = σ.next → τ.wr = σ.wr →
              (∀ σ', (callFA P fi (r :: rest) τ).st = some σ' → Known D σ σ') → (∀ σ', (callFA P fi (r :: rest) τ).st = some σ' → Free φ σ σ') →
              OpOk P R D φ σ w (do let d ← Deferred.ofValue (.func (.via t path fi pointer) a' b') args'; invoke d.target d.args) (callFA P fi (r :: rest) τ) := by
            intro r' τ r hr hvr e1 e2 e3 k1 k2
            have := (callFA_ok (P := P) (hi.same e1 e2 e3) (f := fi) (args := r :: rest) (args' := #[r'] ++ l'.toArray) (by simpa using VRL.cons hvr ht)
              (fun σ' h => (k1 σ' h).frm e2) (fun σ' h => (k2 σ' h).frm e2)).from (σ := σ) e2 e3
            refine this.congr ?_
            simp only [Deferred.ofValue, Sem.run_bind, Sem.run_pure, Result.andThen_ok, invoke]
            rw [harr]
            simp [hr]
          split
          · rename_i e hp hu
            have hp' : path = #[] := by apply Array.ext'; simpa using hp
            subst hp'
            rw [hu] at hk hfr
            exact hgo v' σ recv (by simp [receiverVia, follow, receiverAt, run_und hu, Place.get]) hv rfl rfl rfl hk hfr
          · rename_i e hp hu
            have hp' : path = #[] := by apply Array.ext'; simpa using hp
            subst hp'
            rw [hu] at hk hfr
            dsimp only at hk hfr
            split
            · rename_i x τ hl2
              rw [hl2] at hk hfr
              dsimp only at hk hfr
              have hs : τ.heap = σ.heap ∧ τ.next = σ.next ∧ τ.wr = σ.wr := by
                unfold loadA at hl2
                repeat' split at hl2
                all_goals (first | (cases hl2; done) | (simp only [Option.some.injEq, Prod.mk.injEq] at hl2; obtain ⟨_, rfl⟩ := hl2; exact ⟨rfl, rfl, rfl⟩))
              cases hst : (callFA P fi (x :: rest) τ).st with
              | none =>
                cases hcf : callFA P fi (x :: rest) τ <;> rw [hcf] at hst <;> first | trivial | cases hst
              | some σ' =>
                have hkτ : Known D σ τ := (hk σ' hst).mono (callFA_steps (P := P) (StepA.refl τ) σ' hst)
                obtain ⟨x', r1, r2, r3⟩ := loadA_ok (P := P) hi hl2 hv hkτ
                have hptr : ∃ a, v' = .pointer (some a) := by
                  unfold loadA at hl2
                  split at hl2
                  · cases hv; exact ⟨_, rfl⟩
                  · cases hl2
                obtain ⟨a, rfl⟩ := hptr
                have r1' : (loadVar e a).run P w = .ok x' w := by simpa [Instr.loadAt, Instr.sureAddr] using r1
                exact hgo x' τ x (by simp [receiverVia, follow, receiverAt, run_und hu, Place.get, asAddr, r1']) r2 hs.1 hs.2.1 hs.2.2 hk hfr
            · trivial
          · rename_i d hn1 hp hu
            have hp' : path = #[] := by apply Array.ext'; simpa using hp
            subst hp'
            rw [hu] at hk hfr
            refine hgo v' σ recv ?_ hv rfl rfl rfl (fun σ' hs => hk σ' ?_) (fun σ' hs => hfr σ' ?_)
            · cases d <;> first
                | (simp [receiverVia, follow, receiverAt, run_und hu, Place.get]; done)
                | (exfalso; exact hn1 _ rfl)
            · cases d <;> first | exact hs | (exfalso; exact hn1 _ rfl)
            · cases d <;> first | exact hs | (exfalso; exact hn1 _ rfl)
          · trivial
      · trivial
  · trivial
end
end Go.Tw
