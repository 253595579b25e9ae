/-
  A part of the proof that the abstract evaluator is sound for the model's machine. Conditions: those of each theorem, as it states them.
-/
import Derived.Test.YtbdkfhkkocjciaaTwOps10
import GoSem.Dispatch
namespace Go.Tw
section
variable {P : Program} {R : Nat} {C : Cfg} {D : Nat → Prop} {φ : PM} {σ : St} {w : World}

theorem least_some (p : String → Bool) (g : String → String) (ms : List String) (h : ms ≠ []) :
    ∃ m, (Instr.least (ms.partition p).2 <|> Instr.least ((ms.partition p).1.map g)) = some m := by
  rw [List.partition_eq_filter_filter]
  cases he : ms.filter (not ∘ p) with
  | cons y ys => exact ⟨_, rfl⟩
  | nil =>
    cases hu : ms.filter p with
    | cons y ys => exact ⟨_, rfl⟩
    | nil =>
      exfalso
      apply h
      apply List.eq_nil_iff_forall_not_mem.2
      intro x hx
      have h1 := List.filter_eq_nil_iff.1 hu x hx
      have h2 := List.filter_eq_nil_iff.1 he x hx
      simp at h1 h2
      rw [h1] at h2; cases h2

theorem missing_ok {want : List (String × TypeId)} {got : List Method} {want' : Array (String × TypeId)} {got' : Array Method} (h1 : want'.toList = want) (h2 : got'.toList = got) :
    (hasMethods want got = true → Instr.missingMethod want' got' = none) ∧ (hasMethods want got = false → ∃ m, Instr.missingMethod want' got' = some m) := by
  subst h1; subst h2
  have key : ∀ l : List (String × TypeId), (l.filter fun (name, sig) => !got'.any fun m => m.name == name && m.sig == sig) = [] ↔ hasMethods l got'.toList = true := by
    intro l
    simp only [hasMethods, List.filter_eq_nil_iff, List.all_eq_true, ← Array.any_toList]
    constructor
    · intro h x hx
      have := h x hx
      simpa using this
    · intro h x hx
      have := h x hx
      simpa using this
  constructor
  · intro h
    have := (key want'.toList).2 h
    simp only [Instr.missingMethod, this]
    rfl
  · intro h
    have hne : (want'.toList.filter fun (name, sig) => !got'.any fun m => m.name == name && m.sig == sig) ≠ [] := by
      intro h0
      rw [(key _).1 h0] at h; cases h
    exact least_some _ _ _ (by simpa using hne)

theorem assertA_ok {x v : AV} {x' : Value} {xt t : TypeId} {ok : Bool} (h : assertA P x t ok = some v) (hx : VR φ x x') :
    ∃ v', (∀ w, (Instr.typeAssert x' xt t ok).run P w = .ok v' w) ∧ VR φ v v' := by
  unfold assertA at h
  have hfail : ∀ z, zeroOf P t = some z → ∃ z', (∀ w, (zeroValue t).run P w = .ok z' w) ∧ VR φ (.tup [z, .bool false]) (.tuple #[z', .bool false]) := by
    intro z hz
    obtain ⟨z', rz, vz⟩ := run_zero hz
    exact ⟨z', rz, .tup _ (.cons (vz φ) (.cons (.bool _) .nil))⟩
  split at h
  · rename_i ms hu
    cases hx
    simp only [cond_eq_ite] at h
    split at h
    · rename_i hok
      subst hok
      split at h
      · rename_i z hz
        simp only [Option.some.injEq] at h; subst h
        obtain ⟨z', rz, vz⟩ := hfail z hz
        exact ⟨_, fun w => by simp [Instr.typeAssert, run_und hu, rz], vz⟩
      · cases h
    · cases h
  · rename_i want ti u hu
    cases hx with
    | iface _ hv =>
      split at h
      · rename_i i hi
        obtain ⟨m1, m2⟩ := missing_ok (want' := want) (got' := i.methods) rfl rfl
        simp only [cond_eq_ite] at h
        split at h
        · rename_i hm
          have hmiss := m1 hm
          simp only [Option.some.injEq] at h; subst h
          cases ok
          · exact ⟨_, fun w => by simp [Instr.typeAssert, run_und hu, run_info hi, hmiss], .iface _ hv⟩
          · exact ⟨_, fun w => by simp [Instr.typeAssert, run_und hu, run_info hi, hmiss], .tup _ (.cons (.iface _ hv) (.cons (.bool _) .nil))⟩
        · rename_i hm
          obtain ⟨mm, hmiss⟩ := m2 (by simpa using hm)
          split at h
          · rename_i hok
            subst hok
            split at h
            · rename_i z hz
              simp only [Option.some.injEq] at h; subst h
              obtain ⟨z', rz, vz⟩ := hfail z hz
              exact ⟨_, fun w => by simp [Instr.typeAssert, run_und hu, run_info hi, hmiss, rz], vz⟩
            · cases h
          · cases h
      · cases h
  · rename_i d hn1 hu
    cases hx
    simp only [cond_eq_ite] at h
    split at h
    · rename_i hok
      subst hok
      split at h
      · rename_i z hz
        simp only [Option.some.injEq] at h; subst h
        obtain ⟨z', rz, vz⟩ := hfail z hz
        refine ⟨_, fun w => ?_, vz⟩
        simp only [Instr.typeAssert, Sem.run_bind, run_und hu, Result.andThen_ok]
        cases d <;> first
          | (simp [rz]; done)
          | exact absurd rfl (hn1 _)
          | (exfalso; exact hn1 _ rfl)
      · cases h
    · cases h
  · rename_i d ti u hn1 hu
    cases hx with
    | iface _ hv =>
      simp only [cond_eq_ite] at h
      split at h
      · rename_i hb
        have hb := beq_t hb; subst hb
        simp only [Option.some.injEq] at h; subst h
        cases ok
        · refine ⟨_, fun w => ?_, hv⟩
          simp only [Instr.typeAssert, Sem.run_bind, run_und hu, Result.andThen_ok]
          cases d <;> first
            | (simp; done)
            | (exfalso; exact hn1 _ rfl)
        · refine ⟨_, fun w => ?_, .tup _ (.cons hv (.cons (.bool _) .nil))⟩
          simp only [Instr.typeAssert, Sem.run_bind, run_und hu, Result.andThen_ok]
          cases d <;> first
            | (simp; done)
            | (exfalso; exact hn1 _ rfl)
      · rename_i hb
        have hb : ti ≠ t := fun h0 => hb (by simp [h0])
        split at h
        · rename_i hok
          subst hok
          split at h
          · rename_i z hz
            simp only [Option.some.injEq] at h; subst h
            obtain ⟨z', rz, vz⟩ := hfail z hz
            refine ⟨_, fun w => ?_, vz⟩
            simp only [Instr.typeAssert, Sem.run_bind, run_und hu, Result.andThen_ok]
            cases d <;> first
              | (simp [rz, hb]; done)
              | (exfalso; exact hn1 _ rfl)
          · cases h
        · cases h
  · cases h

/-- What an operation comes to, and what the model's comes to. -/
def OpOk (P : Program) (R : Nat) (D : Nat → Prop) (φ : PM) (σ : St) (w : World) (s : Sem Next) : OR → Prop
  | .val v σ' => ∃ φ' w' n v', s.run P w = .ok n w' ∧ (n = .value v' ∨ (n = .skip ∧ v' = undef)) ∧ VR φ' v v' ∧ Post R D φ σ w σ' φ' w'
  | .pan v σ' => ∃ φ' w' v', s.run P w = .halt (.panic v') w' ∧ VR φ' v v' ∧ Post R D φ σ w σ' φ' w'
  | .call f args σ' => ∃ φ' w' args', s.run P w = .ok (.enter f args') w' ∧ VRL φ' args args'.toList ∧ Post R D φ σ w σ' φ' w'
  | .dfr _ _ => False
  | .no => True

/-- An operation that gives a value. -/
theorem OpOk.ofV {s : Sem Value} {v : AV} {σ' : St} (h : ∃ φ' w' v', s.run P w = .ok v' w' ∧ VR φ' v v' ∧ Post R D φ σ w σ' φ' w') :
    OpOk P R D φ σ w (do pure (.value (← s))) (.val v σ') := by
  obtain ⟨φ', w', v', h1, h2, h3⟩ := h
  exact ⟨φ', w', .value v', v', by simp [h1], .inl rfl, h2, h3⟩
theorem OpOk.ofP (hi : Inv R C D φ σ w) {s : Sem Value} {r : Option AV} (h : ∀ v, r = some v → ∃ v', s.run P w = .ok v' w ∧ VR φ v v') :
    OpOk P R D φ σ w (do pure (.value (← s))) (OR.of r σ) := by
  cases r with
  | none => trivial
  | some v => obtain ⟨v', h1, h2⟩ := h v rfl; exact .ofV ⟨φ, w, v', h1, h2, .same hi rfl rfl rfl⟩
theorem OpOk.ofS {s : Sem Value} {r : Option (AV × St)} (h : ∀ v σ', r = some (v, σ') → ∃ φ' w' v', s.run P w = .ok v' w' ∧ VR φ' v v' ∧ Post R D φ σ w σ' φ' w') :
    OpOk P R D φ σ w (do pure (.value (← s))) (OR.ofS r) := by
  cases r with
  | none => trivial
  | some p => obtain ⟨v, τ⟩ := p; exact .ofV (h v τ rfl)
theorem OpOk.ofU {s : Sem Unit} {r : Option St} (h : ∀ σ', r = some σ' → ∃ w', s.run P w = .ok () w' ∧ Post R D φ σ w σ' φ w') :
    OpOk P R D φ σ w (do s; pure .skip) (OR.ofU r) := by
  cases r with
  | none => trivial
  | some τ =>
    obtain ⟨w', h1, h2⟩ := h τ rfl
    exact ⟨φ, w', .skip, undef, by simp [h1], .inr ⟨rfl, rfl⟩, .tup _ .nil, h2⟩

theorem findNext_count {fn : Func} (h : fn.name = "internal/bytealg.CountString") (ho : fn.origin = "") : Extern.findNext fn = none := by
  unfold Extern.findNext; rw [h, ho]; rfl
theorem find_count {fn : Func} (h : fn.name = "internal/bytealg.CountString") (ho : fn.origin = "") : Extern.find fn = some Extern.BytealgCount.count := by
  unfold Extern.find; rw [h, ho]; rfl
theorem findNext_index {fn : Func} (h : fn.name = "internal/bytealg.IndexByteString") (ho : fn.origin = "") : Extern.findNext fn = none := by
  unfold Extern.findNext; rw [h, ho]; rfl
theorem find_index {fn : Func} (h : fn.name = "internal/bytealg.IndexByteString") (ho : fn.origin = "") : Extern.find fn = some Extern.BytealgIndexByte.indexByte := by
  unfold Extern.find; rw [h, ho]; rfl

theorem run_extern {f : FuncId} {fn : Func} {e : Array Value → Sem Value} {args : Array Value} (hf : P.funcs[f]? = some fn) (hn : fn.name ≠ "runtime.NumGoroutine") (hb : fn.body = none)
    (h1 : Extern.findNext fn = none) (h2 : Extern.find fn = some e) : (callFunc f args).run P w = (do pure (.value (← e args)) : Sem Next).run P w := by
  have hn' : (fn.name == "runtime.NumGoroutine") = false := by simpa using hn
  simp only [callFunc, Sem.run_bind, run_program, Result.andThen_ok, hf, hn', hb, h1, h2]
  simp

theorem callFA_ok (hi : Inv R C D φ σ w) {f : FuncId} {args : List AV} {args' : Array Value} (ha : VRL φ args args'.toList) : OpOk P R D φ σ w (callFunc f args') (callFA P f args σ) := by
  unfold callFA
  split
  · rename_i fn hf
    split
    · rename_i c hb
      split
      · trivial
      · rename_i hn
        refine ⟨φ, w, args', ?_, ha, .same hi rfl rfl rfl⟩
        simp [callFunc, hf, hn, hb]
    · rename_i hb
      split
      · rename_i ho
        unfold externA
        split
        · rename_i hname
          split
          · rename_i s c
            obtain ⟨s', c', e1, v1, v2⟩ := ha.two
            subst e1
            cases v1; cases v2
            have hrun := run_extern (w := w) (args := #[Value.string ⟨⟨s⟩⟩, Value.int .u8 c]) hf (by rw [hname]; decide) hb (findNext_count hname ho) (find_count hname ho)
            refine ⟨φ, w, .value (goInt (countA s c.toNat.toUInt8)), _, ?_, .inl rfl, .int _ _, .same hi rfl rfl rfl⟩
            rw [hrun]
            have he : (Extern.BytealgCount.count #[.string ⟨⟨s⟩⟩, .int .u8 c]).run P w = .ok (goInt (countA s c.toNat.toUInt8)) w := rfl
            rw [Sem.run_bind, he]
            rfl
          · trivial
        · split
          · rename_i hname
            split
            · rename_i s c
              obtain ⟨s', c', e1, v1, v2⟩ := ha.two
              subst e1
              cases v1; cases v2
              have hrun := run_extern (w := w) (args := #[Value.string ⟨⟨s⟩⟩, Value.int .u8 c]) hf (by rw [hname]; decide) hb (findNext_index hname ho) (find_index hname ho)
              split
              · rename_i i hfi
                have he : (Extern.BytealgIndexByte.indexByte #[.string ⟨⟨s⟩⟩, .int .u8 c]).run P w = .ok (goInt i) w := by
                  show Sem.run P (match findByteA s c.toNat.toUInt8 with | some i => pure (goInt i) | none => pure (goInt (-1))) w = _
                  rw [hfi]; rfl
                refine ⟨φ, w, .value (goInt i), _, ?_, .inl rfl, .int _ _, .same hi rfl rfl rfl⟩
                rw [hrun]
                rw [Sem.run_bind, he]
                rfl
              · rename_i hfi
                have he : (Extern.BytealgIndexByte.indexByte #[.string ⟨⟨s⟩⟩, .int .u8 c]).run P w = .ok (goInt (-1)) w := by
                  show Sem.run P (match findByteA s c.toNat.toUInt8 with | some i => pure (goInt i) | none => pure (goInt (-1))) w = _
                  rw [hfi]; rfl
                refine ⟨φ, w, .value (goInt (-1)), _, ?_, .inl rfl, .int _ _, .same hi rfl rfl rfl⟩
                rw [hrun]
                rw [Sem.run_bind, he]
                rfl
            · trivial
          · trivial
      · trivial
  · trivial
end
end Go.Tw
