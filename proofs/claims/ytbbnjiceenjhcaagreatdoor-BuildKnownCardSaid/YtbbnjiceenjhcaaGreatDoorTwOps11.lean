/-
  A part of the proof that the abstract evaluator is sound for the model's machine. Conditions: those of each theorem, as it states them.
-/
import Derived.Test.YtbbnjiceenjhcaaGreatDoorTwOps10
import GoSem.Dispatch
import Derived.Laws.LoneSync
set_option linter.all false
namespace Go.Tw
section
variable [Val]
variable {P : Program} {R : Nat} {C : Cfg} {D : Nat → Prop} {φ : PM} {σ : St} {w : World}

omit [Val] in
theorem least_some (p : String → Bool) (g : String → String) (ms : List String) (h : ms ≠ []) :
    ∃ m, (Instr.least (ms.partition p).2 <|> Instr.least ((ms.partition p).1.map g)) = some m := by
  rw [List.partition_eq_filter_filter]
  cases he : ms.filter (not ∘ p) with
  | cons y ys => exact ⟨_, rfl⟩
  | nil =>
    cases hu : ms.filter p with
    | cons y ys => exact ⟨_, rfl⟩
    | nil =>
      exfalso
      apply h
      apply List.eq_nil_iff_forall_not_mem.2
      intro x hx
      have h1 := List.filter_eq_nil_iff.1 hu x hx
      have h2 := List.filter_eq_nil_iff.1 he x hx
      simp at h1 h2
      rw [h1] at h2; cases h2

omit [Val] in
theorem missing_ok {want : List (String × TypeId)} {got : List Method} {want' : Array (String × TypeId)} {got' : Array Method} (h1 : want'.toList = want) (h2 : got'.toList = got) :
    (hasMethods want got = true → Instr.missingMethod want' got' = none) ∧ (hasMethods want got = false → ∃ m, Instr.missingMethod want' got' = some m) := by
  subst h1; subst h2
  have key : ∀ l : List (String × TypeId), (l.filter fun (name, sig) => !got'.any fun m => m.name == name && m.sig == sig) = [] ↔ hasMethods l got'.toList = true := by
    intro l
    simp only [hasMethods, List.filter_eq_nil_iff, List.all_eq_true, ← Array.any_toList]
    constructor
    · intro h x hx
      have := h x hx
      simpa using this
    · intro h x hx
      have := h x hx
      simpa using this
  constructor
  · intro h
    have := (key want'.toList).2 h
    simp only [Instr.missingMethod, this]
    rfl
  · intro h
    have hne : (want'.toList.filter fun (name, sig) => !got'.any fun m => m.name == name && m.sig == sig) ≠ [] := by
      intro h0
      rw [(key _).1 h0] at h; cases h
    exact least_some _ _ _ (by simpa using hne)

theorem assertA_ok {x v : AV} {x' : Value} {xt t : TypeId} {ok : Bool} (h : assertA P x t ok = some v) (hx : VR φ x x') :
    ∃ v', (∀ w, (Instr.typeAssert x' xt t ok).run P w = .ok v' w) ∧ VR φ v v' := by
  unfold assertA at h
  have hfail : ∀ z, zeroOf P t = some z → ∃ z', (∀ w, (zeroValue t).run P w = .ok z' w) ∧ VR φ (.tup [z, .bool false]) (.tuple #[z', .bool false]) := by
    intro z hz
    obtain ⟨z', rz, vz⟩ := run_zero hz
    exact ⟨z', rz, .tup _ (.cons (vz φ) (.cons (.bool _) .nil))⟩
  split at h
  · rename_i ms hu
    cases hx
    simp only [cond_eq_ite] at h
    split at h
    · rename_i hok
      subst hok
      split at h
      · rename_i z hz
        simp only [Option.some.injEq] at h; subst h
        obtain ⟨z', rz, vz⟩ := hfail z hz
        exact ⟨_, fun w => by simp [Instr.typeAssert, run_und hu, rz], vz⟩
      · cases h
    · cases h
  · rename_i want ti u hu
    cases hx with
    | iface _ hv =>
      split at h
      · rename_i i hi
        obtain ⟨m1, m2⟩ := missing_ok (want' := want) (got' := i.methods) rfl rfl
        simp only [cond_eq_ite] at h
        split at h
        · rename_i hm
          have hmiss := m1 hm
          simp only [Option.some.injEq] at h; subst h
          cases ok
          · exact ⟨_, fun w => by simp [Instr.typeAssert, run_und hu, run_info hi, hmiss], .iface _ hv⟩
          · exact ⟨_, fun w => by simp [Instr.typeAssert, run_und hu, run_info hi, hmiss], .tup _ (.cons (.iface _ hv) (.cons (.bool _) .nil))⟩
        · rename_i hm
          obtain ⟨mm, hmiss⟩ := m2 (by simpa using hm)
          split at h
          · rename_i hok
            subst hok
            split at h
            · rename_i z hz
              simp only [Option.some.injEq] at h; subst h
              obtain ⟨z', rz, vz⟩ := hfail z hz
              exact ⟨_, fun w => by simp [Instr.typeAssert, run_und hu, run_info hi, hmiss, rz], vz⟩
            · cases h
          · cases h
      · cases h
  · rename_i d hn1 hu
    cases hx
    simp only [cond_eq_ite] at h
    split at h
    · rename_i hok
      subst hok
      split at h
      · rename_i z hz
        simp only [Option.some.injEq] at h; subst h
        obtain ⟨z', rz, vz⟩ := hfail z hz
        refine ⟨_, fun w => ?_, vz⟩
        simp only [Instr.typeAssert, Sem.run_bind, run_und hu, Result.andThen_ok]
        cases d <;> first
          | (simp [rz]; done)
          | exact absurd rfl (hn1 _)
          | (exfalso; exact hn1 _ rfl)
      · cases h
    · cases h
  · rename_i d ti u hn1 hu
    cases hx with
    | iface _ hv =>
      simp only [cond_eq_ite] at h
      split at h
      · rename_i hb
        have hb := beq_t hb; subst hb
        simp only [Option.some.injEq] at h; subst h
        cases ok
        · refine ⟨_, fun w => ?_, hv⟩
          simp only [Instr.typeAssert, Sem.run_bind, run_und hu, Result.andThen_ok]
          cases d <;> first
            | (simp; done)
            | (exfalso; exact hn1 _ rfl)
        · refine ⟨_, fun w => ?_, .tup _ (.cons hv (.cons (.bool _) .nil))⟩
          simp only [Instr.typeAssert, Sem.run_bind, run_und hu, Result.andThen_ok]
          cases d <;> first
            | (simp; done)
            | (exfalso; exact hn1 _ rfl)
      · rename_i hb
        have hb : ti ≠ t := fun h0 => hb (by simp [h0])
        split at h
        · rename_i hok
          subst hok
          split at h
          · rename_i z hz
            simp only [Option.some.injEq] at h; subst h
            obtain ⟨z', rz, vz⟩ := hfail z hz
            refine ⟨_, fun w => ?_, vz⟩
            simp only [Instr.typeAssert, Sem.run_bind, run_und hu, Result.andThen_ok]
            cases d <;> first
              | (simp [rz, hb]; done)
              | (exfalso; exact hn1 _ rfl)
          · cases h
        · cases h
  · cases h

/-- A call that is put off, or a loop's mark. -/
def DfR (φ : PM) : ADef → Deferred → Prop
  | .call f l, d => ∃ cap ar : Array Value, d = { target := .fn (.func f) cap, args := ar } ∧ VRL φ l (ar.toList ++ cap.toList)
  | .mark id, d => ∃ e ar, φ id 0 = some e ∧ d = { target := .collected e.blk, args := ar }
theorem DfR.mono {φ ψ : PM} (h : φ.le ψ) {d : ADef} {d' : Deferred} (k : DfR φ d d') : DfR ψ d d' := by
  cases d with
  | call f l => obtain ⟨cap, ar, h1, h2⟩ := k; exact ⟨cap, ar, h1, h2.mono h⟩
  | mark id => obtain ⟨e, ar, h1, h2⟩ := k; exact ⟨e, ar, h _ _ _ h1, h2⟩

/-- A call is made. -/
def Leads (P : Program) (φ : PM) (s : Sem Next) (w w' : World) (args' : Array Value) : Cle → Prop
  | .fn f => s.run P w = .ok (.enter f args') w'
  | .yld id => w' = w ∧ ∃ e, φ id 0 = some e ∧ s.run P w = (Instr.yield e.blk args').run P w

/-- What an operation comes to, and what the model's comes to. -/
def OpOk (P : Program) (R : Nat) (D : Nat → Prop) (φ : PM) (σ : St) (w : World) (s : Sem Next) : OR → Prop
  | .val v σ' => ∃ φ' w' n v', s.run P w = .ok n w' ∧ (n = .value v' ∨ (n = .skip ∧ v' = undef)) ∧ VR φ' v v' ∧ Post R D φ σ w σ' φ' w'
  | .pan v σ' => ∃ φ' w' v', s.run P w = .halt (.panic v') w' ∧ VR φ' v v' ∧ Post R D φ σ w σ' φ' w'
  | .call f args σ' => ∃ φ' w' args', Leads P φ' s w w' args' f ∧ VRL φ' args args'.toList ∧ Post R D φ σ w σ' φ' w'
  | .dfr d σ' => ∃ φ' w' d', s.run P w = .ok (.defer d') w' ∧ DfR φ' d d' ∧ Post R D φ σ w σ' φ' w'
  | .rcv σ' => s.run P w = .ok .recover w ∧ Post R D φ σ w σ' φ w
  | .no => True

/-- An operation that gives a value. -/
theorem OpOk.ofV {s : Sem Value} {v : AV} {σ' : St} (h : ∃ φ' w' v', s.run P w = .ok v' w' ∧ VR φ' v v' ∧ Post R D φ σ w σ' φ' w') :
    OpOk P R D φ σ w (do pure (.value (← s))) (.val v σ') := by
  obtain ⟨φ', w', v', h1, h2, h3⟩ := h
  exact ⟨φ', w', .value v', v', by simp [h1], .inl rfl, h2, h3⟩
theorem OpOk.ofP (hi : Inv R C D φ σ w) {s : Sem Value} {r : Option AV} (h : ∀ v, r = some v → ∃ v', s.run P w = .ok v' w ∧ VR φ v v') :
    OpOk P R D φ σ w (do pure (.value (← s))) (OR.of r σ) := by
  cases r with
  | none => trivial
  | some v => obtain ⟨v', h1, h2⟩ := h v rfl; exact .ofV ⟨φ, w, v', h1, h2, .same hi rfl rfl rfl⟩
theorem OpOk.ofS {s : Sem Value} {r : Option (AV × St)} (h : ∀ v σ', r = some (v, σ') → ∃ φ' w' v', s.run P w = .ok v' w' ∧ VR φ' v v' ∧ Post R D φ σ w σ' φ' w') :
    OpOk P R D φ σ w (do pure (.value (← s))) (OR.ofS r) := by
  cases r with
  | none => trivial
  | some p => obtain ⟨v, τ⟩ := p; exact .ofV (h v τ rfl)
theorem OpOk.ofU {s : Sem Unit} {r : Option St} (h : ∀ σ', r = some σ' → ∃ w', s.run P w = .ok () w' ∧ Post R D φ σ w σ' φ w') :
    OpOk P R D φ σ w (do s; pure .skip) (OR.ofU r) := by
  cases r with
  | none => trivial
  | some τ =>
    obtain ⟨w', h1, h2⟩ := h τ rfl
    exact ⟨φ, w', .skip, undef, by simp [h1], .inr ⟨rfl, rfl⟩, .tup _ .nil, h2⟩

omit [Val] in
theorem findNext_count {fn : Func} (h : fn.name = "internal/bytealg.CountString") (ho : fn.origin = "") : Extern.findNext fn = none := by
  unfold Extern.findNext; rw [h, ho]; rfl
omit [Val] in
theorem find_count {fn : Func} (h : fn.name = "internal/bytealg.CountString") (ho : fn.origin = "") : Extern.find fn = some Extern.BytealgCount.count := by
  unfold Extern.find; rw [h, ho]; rfl
omit [Val] in
theorem findNext_index {fn : Func} (h : fn.name = "internal/bytealg.IndexByteString") (ho : fn.origin = "") : Extern.findNext fn = none := by
  unfold Extern.findNext; rw [h, ho]; rfl
omit [Val] in
theorem find_index {fn : Func} (h : fn.name = "internal/bytealg.IndexByteString") (ho : fn.origin = "") : Extern.find fn = some Extern.BytealgIndexByte.indexByte := by
  unfold Extern.find; rw [h, ho]; rfl

omit [Val] in
theorem run_extern {f : FuncId} {fn : Func} {e : Array Value → Sem Value} {args : Array Value} (hf : P.funcs[f]? = some fn) (hn : fn.name ≠ "runtime.NumGoroutine") (hb : fn.body = none)
    (h1 : Extern.findNext fn = none) (h2 : Extern.find fn = some e) : (callFunc f args).run P w = (do pure (.value (← e args)) : Sem Next).run P w := by
  have hn' : (fn.name == "runtime.NumGoroutine") = false := by simpa using hn
  simp only [callFunc, Sem.run_bind, run_program, Result.andThen_ok, hf, hn', hb, h1, h2]
  simp

theorem OpOk.ext {f : FuncId} {fn : Func} {e : Array Value → Sem Value} {args : Array Value} (hf : P.funcs[f]? = some fn) (hn : fn.name ≠ "runtime.NumGoroutine") (hb : fn.body = none)
    (h1 : Extern.findNext fn = none) (h2 : Extern.find fn = some e) {v : AV} {σ' : St} (h : ∃ φ' w' v', (e args).run P w = .ok v' w' ∧ VR φ' v v' ∧ Post R D φ σ w σ' φ' w') :
    OpOk P R D φ σ w (callFunc f args) (.val v σ') := by
  obtain ⟨φ', w', v', g1, g2, g3⟩ := h
  refine ⟨φ', w', .value v', v', ?_, .inl rfl, g2, g3⟩
  rw [run_extern hf hn hb h1 h2, Sem.run_bind, g1]
  rfl

omit [Val] in
theorem find_row {fn : Func} {n : String} (h : fn.name = n) (ho : fn.origin = "") : Extern.findNext fn = Extern.findNext { fn with name := n, origin := "" } ∧
    Extern.find fn = Extern.find { fn with name := n, origin := "" } := by
  subst h
  rw [← ho]
  exact ⟨rfl, rfl⟩

omit [Val] in
theorem storeCells_one {a : Addr} {v : Value} {w w' : World} (hs : a.spot = none) (h : (storeCells a [v] 0).run P w = .ok () w') {u : Value} (hc : w.cell? a = some u) :
    w.frozen? a = false ∧ (∀ m, (store a v m).run P w = .ok () w') := by
  have ha : a.add 0 = a := by
    obtain ⟨b, o, s⟩ := a
    simp only at hs; subst hs
    exact add_off b o 0
  simp only [storeCells, ha, Sem.run_bind] at h
  cases hf : w.frozen? a with
  | true =>
    exfalso
    cases v <;> simp [store, Sem.run, hc, hf, Result.andThen] at h
  | false =>
    refine ⟨rfl, fun m => ?_⟩
    cases v <;> simp [store, Sem.run, hc, hf, Result.andThen] at h ⊢ <;> exact h

theorem atomicA_ok (hi : Inv R C D φ σ w) {n : Nat} {k : IntKind} {args : List AV} {args' : Array Value} {v : AV} {σ' : St} (h : atomicA n k args σ = .val v σ') (ha : VRL φ args args'.toList)
    (hk : Known D σ σ') : ∃ w' v', (match n with
      | 0 => Extern.Atomic.loadT (.int k) args'
      | 1 => Extern.Atomic.storeT args'
      | 3 => Extern.Atomic.casT (.int k) args'
      | 4 => Extern.Atomic.swapT (.int k) args'
      | _ => Extern.Atomic.update (Op.intArith .add) k true args').run P w = .ok v' w' ∧ VR φ v v' ∧ Post R D φ σ w σ' φ w' := by
  unfold atomicA at h
  split at h
  · rename_i id ver off hi' rest
    split at h
    · rename_i k' old hr
      split at h
      · cases h
      · rename_i hkk
        have hkk : k = k' := by simpa using hkk
        subst hkk
        obtain ⟨_, ob, _, hob, _⟩ := readN_ok hr
        obtain ⟨args', rfl⟩ : ∃ l : List Value, args' = l.toArray := ⟨args'.toList, by simp⟩
        cases ha with
        | cons hp hrest =>
          cases hp with
          | ptr ex q he hd hh hoo =>
            have hlt := hi.lt hob
            -- what is read
            have hread : D id → w.cell? ⟨ex.blk, q, none⟩ = some (.int k old) := by
              intro hdd
              obtain ⟨arr, _, r2, _, r4⟩ := readN_run (P := P) hi hr hdd he hd hh hoo
              obtain ⟨v', rfl, hc⟩ := r4 rfl
              cases r2 with
              | cons hv _ => cases hv; exact hc
            have hwrite : ∀ (x : AV) (x' : Value) (τ : St), writeN σ id ver off hi' [x] = some τ → VR φ x x' → D id → Known D σ τ →
                ∃ w', w.frozen? ⟨ex.blk, q, none⟩ = false ∧ (∀ m, (store ⟨ex.blk, q, none⟩ x' m).run P w = .ok () w') ∧ Post R D φ σ w τ φ w' := by
              intro x x' τ hw hx hdd hkn
              obtain ⟨w', g1, g2⟩ := writeN_run (P := P) hi hw hkn (.cons hx .nil) he hd hoo
              obtain ⟨c1, c2⟩ := storeCells_one rfl g1 (hread hdd)
              exact ⟨w', c1, c2, g2⟩
            have hdW : ∀ (x : AV) (τ : St), writeN σ id ver off hi' [x] = some τ → Known D σ τ → D id := by
              intro x τ hw hkn
              obtain ⟨_, _, o, o', ho, _, hτ⟩ := writeN_ok hw
              exact hkn id (.inr (by rw [hτ]; exact mem_addL.2 (.inl rfl))) hlt
            have hrd : ∀ {m : Mode}, D id → (Extern.Atomic.read (.int k) ⟨ex.blk, q, none⟩).run P w = .ok (.int k old) w := by
              intro m hdd
              simp [Extern.Atomic.read, hread hdd]
            split at h
            · cases hrest
              simp only [OR.val.injEq] at h
              obtain ⟨rfl, rfl⟩ := h
              have hdd : D id := hk id (.inl (mem_addL.2 (.inl rfl))) hlt
              refine ⟨w, .int k old, ?_, .int _ _, .same hi rfl rfl rfl⟩
              change Sem.run P (do Extern.Atomic.read (.int k) (← asAddr (.pointer (some ⟨ex.blk, q, none⟩)))) w = _
              simp [asAddr, hrd (m := .atomic) hdd]
            · cases hrest with
              | @cons ax x' _ _ hx hnil =>
                cases hnil
                split at h
                · rename_i τ hw
                  simp only [OR.val.injEq] at h
                  obtain ⟨rfl, rfl⟩ := h
                  obtain ⟨w', _, c2, c3⟩ := hwrite _ _ _ hw hx (hdW _ _ hw hk) hk
                  refine ⟨w', .tuple #[], ?_, .tup _ .nil, c3⟩
                  change Sem.run P (do
                    store (← asAddr (.pointer (some ⟨ex.blk, q, none⟩))) x' .atomic
                    pure Extern.Atomic.none_) w = _
                  simp only [Sem.run_bind, asAddr, Sem.run_pure, Result.andThen_ok, c2, Extern.Atomic.none_]
                · cases h
            · rename_i ky y
              cases hrest with
              | @cons ax x' _ _ hx hnil =>
                cases hnil
                cases hx
                split at h
                · rename_i τ hw
                  simp only [OR.val.injEq] at h
                  obtain ⟨rfl, rfl⟩ := h
                  have hdd := hdW _ _ hw hk
                  obtain ⟨w', _, c2, c3⟩ := hwrite _ (.int k (k.wrap (old + y))) _ hw (by rw [← wrapI_eq]; exact .int _ _) hdd hk
                  refine ⟨w', .int k (k.wrap (old + y)), ?_, by rw [← wrapI_eq]; exact .int _ _, c3⟩
                  change Sem.run P (do
                    let a ← asAddr (.pointer (some ⟨ex.blk, q, none⟩))
                    let o ← Extern.Atomic.read (.int k) a
                    let n ← Op.intArith .add k (← asInt o) (← asInt (.int ky y))
                    store a n .atomic
                    pure (if true then n else o)) w = _
                  simp only [Sem.run_bind, asAddr, Sem.run_pure, Result.andThen_ok, hrd (m := .atomic) hdd, Op.intArith, asInt, asIntOf, c2, if_true]
                · cases h
            · rename_i kx x vv
              cases hrest with
              | @cons ax x' _ _ hx hrest2 =>
                cases hrest2 with
                | @cons ay y' _ _ hy hnil =>
                  cases hnil
                  cases hx
                  split at h
                  · rename_i τ hw
                    obtain ⟨_, _, o, o', ho, _, hτ⟩ := writeN_ok hw
                    split at h
                    · rename_i hox
                      simp only [OR.val.injEq] at h
                      obtain ⟨rfl, rfl⟩ := h
                      have hdd := hdW _ _ hw hk
                      obtain ⟨w', c1, c2, c3⟩ := hwrite _ _ _ hw hy hdd hk
                      refine ⟨w', .bool true, ?_, .bool _, c3⟩
                      have hsh := World.shape?_isSome_of_cell? (hread hdd)
                      change (Sem.run P (do
                        let a' ← asAddr (.pointer (some ⟨ex.blk, q, none⟩))
                        if ← Extern.Atomic.touchesFrozen a' then unsupported (.unsafePointer "a write to bytes that a string shares")
                        let eq ← match Extern.Atomic.T.int k, ← Extern.Atomic.read (.int k) a', Value.int kx x with
                          | _, .int _ x, .int _ y => pure (x == y)
                          | .ptr, .pointer x, .pointer y => samePointer x y
                          | .int _, .pointer (some _), .int _ 0 | .int _, .int _ 0, .pointer (some _) => pure false
                          | .int _, .pointer (some _), _ | .int _, _, .pointer (some _) => unsupported .addressObserved
                          | _, _, _ => stuck "atomic.CompareAndSwap: old is no T"
                        if eq then store a' y' .atomic
                        pure (Value.bool eq)) w) = _
                      simp only [Extern.Atomic.touchesFrozen, viewAt, run_shape, hsh, c1, Sem.run_bind, asAddr, Sem.run_pure, Result.andThen_ok, hrd (m := .atomic) hdd, hox, if_true, run_frozen, Bool.false_eq_true, if_false, beq_self_eq_true, c2]
                    · rename_i hox
                      simp only [OR.val.injEq] at h
                      obtain ⟨rfl, rfl⟩ := h
                      have hdd : D id := hk id (.inl (mem_addL.2 (.inl rfl))) hlt
                      have hkτ : Known D σ τ := by
                        intro i hii hn
                        rw [hτ] at hii
                        rcases hii with h1 | h1
                        · exact hk i (.inl (mem_addL.2 (.inr h1))) hn
                        · rcases mem_addL.1 h1 with rfl | h2
                          · exact hdd
                          · exact hk i (.inr h2) hn
                      obtain ⟨w', c1, c2, c3⟩ := hwrite _ _ _ hw hy hdd hkτ
                      refine ⟨w, .bool false, ?_, .bool _, .same hi rfl rfl rfl⟩
                      have hsh := World.shape?_isSome_of_cell? (hread hdd)
                      change (Sem.run P (do
                        let a' ← asAddr (.pointer (some ⟨ex.blk, q, none⟩))
                        if ← Extern.Atomic.touchesFrozen a' then unsupported (.unsafePointer "a write to bytes that a string shares")
                        let eq ← match Extern.Atomic.T.int k, ← Extern.Atomic.read (.int k) a', Value.int kx x with
                          | _, .int _ x, .int _ y => pure (x == y)
                          | .ptr, .pointer x, .pointer y => samePointer x y
                          | .int _, .pointer (some _), .int _ 0 | .int _, .int _ 0, .pointer (some _) => pure false
                          | .int _, .pointer (some _), _ | .int _, _, .pointer (some _) => unsupported .addressObserved
                          | _, _, _ => stuck "atomic.CompareAndSwap: old is no T"
                        if eq then store a' y' .atomic
                        pure (Value.bool eq)) w) = _
                      simp [Extern.Atomic.touchesFrozen, viewAt, hsh, c1, asAddr, hrd (m := .atomic) hdd, hox]
                  · cases h
            · cases hrest with
              | @cons ax x' _ _ hx hnil =>
                cases hnil
                split at h
                · rename_i τ hw
                  simp only [OR.val.injEq] at h
                  obtain ⟨rfl, rfl⟩ := h
                  have hdd := hdW _ _ hw hk
                  obtain ⟨w', _, c2, c3⟩ := hwrite _ _ _ hw hx hdd hk
                  refine ⟨w', .int k old, ?_, .int _ _, c3⟩
                  change Sem.run P (do
                    let a ← asAddr (.pointer (some ⟨ex.blk, q, none⟩))
                    let o ← Extern.Atomic.read (.int k) a
                    store a x' .atomic
                    pure o) w = _
                  simp only [Sem.run_bind, asAddr, Sem.run_pure, Result.andThen_ok, hrd (m := .atomic) hdd, c2]
                · cases h
            · cases h
    · cases h
  · cases h

omit [Val] in
theorem digits_size : ∀ (n t : Nat) (acc : Array Value), (Extern.BytealgMakeNoZero.digits n t acc).size = acc.size + n := by
  intro n
  induction n with
  | zero => intro t acc; rfl
  | succ n ih => intro t acc; simp only [Extern.BytealgMakeNoZero.digits, ih, Array.size_push]; omega
omit [Val] in
theorem digits_one : ∀ (n t : Nat) (acc : Array Value), (∀ v ∈ acc.toList, v.oneCell' = true) → ∀ v ∈ (Extern.BytealgMakeNoZero.digits n t acc).toList, v.oneCell' = true := by
  intro n
  induction n with
  | zero => intro t acc h; exact h
  | succ n ih =>
    intro t acc h
    refine ih _ _ ?_
    intro v hv
    simp only [Array.toList_push, List.mem_append, List.mem_singleton] at hv
    rcases hv with hv | rfl
    · exact h v hv
    · rfl

theorem makeNoZero_ok (hi : Inv R C D φ σ w) {ps rs : Array TypeId} {rt elem : TypeId} {n : Nat} (hrt : rs[0]? = some rt) (hu : P.underlying rt = some (.slice elem)) (hn : n ≤ 1099511627776)
    (hf : ∀ v, φ σ.next v = none) :
    ∃ φ' w' v', (Extern.BytealgMakeNoZero.makeNoZero ps rs #[.int .i64 (Int.ofNat n)]).run P w = .ok v' w' ∧ VR φ' (.slc σ.next 0 0 n none 1) v' ∧
      Post R D φ σ w (σ.mk' (.arr (List.replicate n .unk) 0 n 1 1 elem)) φ' w' := by
  have hcap : n ≤ (Question.appendCap n 0 elem).cut (w.tape w.drawn (.appendCap n 0 elem)) := by simp [Question.cut]
  have hch : (choose (.appendCap n 0 elem)).run P w = .ok ((Question.appendCap n 0 elem).cut (w.tape w.drawn (.appendCap n 0 elem))) w.drew := by
    simp [Question.forced]
  generalize (Question.appendCap n 0 elem).cut (w.tape w.drawn (.appendCap n 0 elem)) = c at hcap hch
  obtain ⟨bs, hbs⟩ : ∃ b, (choose (.extern "internal/bytealg.MakeNoZero.bytes" 0)).run P w.drew = .ok b w.drew.drew := ⟨_, by simp [Question.forced]; exact ⟨rfl, rfl⟩⟩
  obtain ⟨cs, hcs⟩ : ∃ cs, cs = Extern.BytealgMakeNoZero.digits c bs #[] := ⟨_, rfl⟩
  have hcsz : cs.size = c := by rw [hcs, digits_size]; simp
  have hone : ∀ v ∈ cs.toList, v.oneCell' = true := by rw [hcs]; exact digits_one _ _ _ (by simp)
  have hpost := new_arr hi.drew.drew (c := List.replicate n AV.unk) (cs := cs) (fl := 0) (fh := 0) elem hf (fun ψ _ => by
    refine VRL.of_get (by simp; omega) fun i v v' h1 h2 => ?_
    have hi' : i < n := by
      rcases Nat.lt_or_ge i n with h | h
      · exact h
      · rw [List.getElem?_eq_none (by simpa using h)] at h1; cases h1
    rw [List.getElem?_replicate_of_lt hi'] at h1
    simp only [Option.some.injEq] at h1; subst h1
    have hm : v' ∈ cs.toList := List.mem_of_mem_take (List.mem_of_getElem? h2)
    exact .unk v' (hone v' hm)) (by simp; omega) (.inl rfl)
  have heq : newArr elem (List.replicate n AV.unk) σ = σ.mk' (.arr (List.replicate n .unk) 0 n 1 1 elem) := by simp [newArr]
  rw [heq] at hpost
  refine ⟨_, _, .slice (some ⟨w.heap.size, 0, none⟩) n c, ?_, ?_, hpost.drew.drew⟩
  · have hnot : ¬ ((decide ((Int.ofNat n) < 0) || decide ((Int.ofNat n) > 2 ^ 48)) = true) := by
      simp only [Bool.or_eq_true, decide_eq_true_eq, not_or]
      have e2 : Int.ofNat n = (n : Int) := rfl
      have : (2 : Int) ^ 48 = 281474976710656 := by decide
      rw [e2]
      omega
    have hroom : ∀ w : World, (askRoom c).run P w = .ok () w := by
      intro w
      unfold askRoom
      split <;> rfl
    change Sem.run P (do
      let some t := rs[0]? | stuck "bytealg.MakeNoZero: no result type"
      let .slice elem ← underlying t | stuck "bytealg.MakeNoZero: slice type expected"
      if (Int.ofNat n) < 0 || (Int.ofNat n) > 2 ^ 48 then runtimePanic (.error "makeslice: len out of range")
      let cap ← choose (.appendCap (Int.ofNat n).toNat 0 elem)
      askRoom cap
      let bytes ← choose (.extern "internal/bytealg.MakeNoZero.bytes" 0)
      let a ← newRow elem (Extern.BytealgMakeNoZero.digits cap bytes #[])
      pure (Value.slice (some a) (Int.ofNat n).toNat cap)) w = _
    have htn : (Int.ofNat n).toNat = n := rfl
    simp only [hrt, Sem.run_bind, run_und hu, Result.andThen_ok, htn]
    rw [if_neg hnot]
    simp only [Sem.run_bind, Sem.run_pure, Result.andThen_ok, hch, hroom, hbs, ← hcs, newRow, run_newObj]
    rfl
  · refine .slc _ 0 c (PM.ins_same _ _ _ _) (Nat.le_refl _) (by simp) hcap (fun k hk => (by cases hk)) (.inr ⟨rfl, by simp only [hcsz]; omega⟩)

omit [Val] in
theorem three_run (nm : String) (x y c : Nat) (hc : ¬ (1 < c)) : (Extern.MathBitsCarry.three nm #[.int .u64 (Int.ofNat x), .int .u64 (Int.ofNat y), .int .u64 (Int.ofNat c)]).run P w = .ok (x, y, c) w := by
  change Sem.run P (do
    let c' := (← asInt (.int .u64 (Int.ofNat c))).toNat
    if c' > 1 then unsupported (.noEntry ("extern/math/bits." ++ nm ++ ": a carry that is neither 0 nor 1"))
    pure ((← asInt (.int .u64 (Int.ofNat x))).toNat, (← asInt (.int .u64 (Int.ofNat y))).toNat, c')) w = _
  have hc2 : (c : Int) ≤ 1 := by omega
  simp [asInt, asIntOf, hc2]

theorem externA_ok (hi : Inv R C D φ σ w) {f : FuncId} {fn : Func} {args : List AV} {args' : Array Value} (hf : P.funcs[f]? = some fn) (hb : fn.body = none) (ho : fn.origin = "")
    (ha : VRL φ args args'.toList) (hk : ∀ σ', (externA fn.name (slRes P fn) args σ).st = some σ' → Known D σ σ')
    (hfr : ∀ σ', (externA fn.name (slRes P fn) args σ).st = some σ' → Free φ σ σ') : OpOk P R D φ σ w (callFunc f args') (externA fn.name (slRes P fn) args σ) := by
  by_cases n1 : fn.name = "internal/bytealg.CountString"
  · have heq : ∀ x, x = externA fn.name (slRes P fn) args σ → x = (match (generalizing := false) args with
        | [.str s, .int .u8 c] => .val (.int .i64 (countA s c.toNat.toUInt8)) σ
        | _ => .no) := by intro x hx; rw [hx]; unfold externA; rw [if_pos n1]; try rfl
    rw [heq _ rfl]
    split
    · rename_i s c
      obtain ⟨s', c', e1, v1, v2⟩ := ha.two
      subst e1
      cases v1; cases v2
      exact .ext hf (by rw [n1]; decide) hb (findNext_count n1 ho) (find_count n1 ho) ⟨φ, w, _, rfl, .int _ _, .same hi rfl rfl rfl⟩
    · trivial
  by_cases n2 : fn.name = "internal/bytealg.IndexByteString"
  · have heq : ∀ x, x = externA fn.name (slRes P fn) args σ → x = (match (generalizing := false) args with
        | [.str s, .int .u8 c] => match findByteA s c.toNat.toUInt8 with
          | some i => .val (goI i) σ
          | none => .val (.int .i64 (-1)) σ
        | _ => .no) := by intro x hx; rw [hx]; unfold externA; rw [if_neg n1, if_pos n2]; try rfl
    rw [heq _ rfl]
    split
    · rename_i s c
      obtain ⟨s', c', e1, v1, v2⟩ := ha.two
      subst e1
      cases v1; cases v2
      split
      · rename_i i hfi
        refine .ext hf (by rw [n2]; decide) hb (findNext_index n2 ho) (find_index n2 ho) ⟨φ, w, goInt i, ?_, .int _ _, .same hi rfl rfl rfl⟩
        show Sem.run P (match findByteA s c.toNat.toUInt8 with | some i => pure (goInt i) | none => pure (goInt (-1))) w = _
        rw [hfi]; rfl
      · rename_i hfi
        refine .ext hf (by rw [n2]; decide) hb (findNext_index n2 ho) (find_index n2 ho) ⟨φ, w, goInt (-1), ?_, .int _ _, .same hi rfl rfl rfl⟩
        show Sem.run P (match findByteA s c.toNat.toUInt8 with | some i => pure (goInt i) | none => pure (goInt (-1))) w = _
        rw [hfi]; rfl
    · trivial
  by_cases n3 : fn.name = "internal/abi.NoEscape"
  · have heq : ∀ x, x = externA fn.name (slRes P fn) args σ → x = (match (generalizing := false) args with
        | [x] => .val x σ
        | _ => .no) := by intro x hx; rw [hx]; unfold externA; rw [if_neg n1, if_neg n2, if_pos n3]; try rfl
    rw [heq _ rfl]
    obtain ⟨f1, f2⟩ := find_row n3 ho
    split
    · obtain ⟨x', e1, v1⟩ := ha.one
      subst e1
      exact .ext hf (by rw [n3]; decide) hb f1 f2 ⟨φ, w, x', rfl, v1, .same hi rfl rfl rfl⟩
    · trivial
  by_cases n4 : fn.name = "internal/bytealg.MakeNoZero"
  · have heq : ∀ x, x = externA fn.name (slRes P fn) args σ → x = (match (generalizing := false) args with
        | [.int .i64 (.ofNat n)] => match slRes P fn with
          | some e => bif Nat.ble n 1099511627776 then .val (.slc σ.next 0 0 n none 1) (σ.mk' (.arr (List.replicate n .unk) 0 n 1 1 e)) else .no
          | none => .no
        | _ => .no) := by intro x hx; rw [hx]; unfold externA; rw [if_neg n1, if_neg n2, if_neg n3, if_pos n4]; try rfl
    rw [heq _ rfl] at hfr ⊢
    obtain ⟨f1, f2⟩ := find_row n4 ho
    split
    · rename_i n
      cases hn2 : slRes P fn with
      | none => trivial
      | some el =>
        rw [hn2] at hfr
        simp only [cond_eq_ite] at hfr ⊢
        split
        · rename_i hn
          have hfree : Free φ σ (σ.mk' (.arr (List.replicate n .unk) 0 n 1 1 el)) := hfr _ (by rw [if_pos hn]; rfl)
          have hn1 := ble_t hn
          obtain ⟨x', e1, v1⟩ := ha.one
          subst e1
          cases v1
          unfold slRes at hn2
          split at hn2
          · rename_i rt hrt
            split at hn2
            · rename_i elem hu
              simp only [Option.some.injEq] at hn2
              subst hn2
              exact .ext hf (by rw [n4]; decide) hb f1 f2 (makeNoZero_ok hi hrt hu hn1 hfree.at)
            · cases hn2
          · cases hn2
        · trivial
    · trivial
  by_cases n5 : fn.name = "internal/race.Disable" ∨ fn.name = "internal/race.Enable"
  · have heq : ∀ x, x = externA fn.name (slRes P fn) args σ → x = .val unit σ := by intro x hx; rw [hx]; unfold externA; rw [if_neg n1, if_neg n2, if_neg n3, if_neg n4, if_pos n5]; try rfl
    rw [heq _ rfl]
    rcases n5 with hname | hname
    · obtain ⟨f1, f2⟩ := find_row hname ho
      exact .ext hf (by rw [hname]; decide) hb f1 f2 ⟨φ, w, .tuple #[], rfl, .tup _ .nil, .same hi rfl rfl rfl⟩
    · obtain ⟨f1, f2⟩ := find_row hname ho
      exact .ext hf (by rw [hname]; decide) hb f1 f2 ⟨φ, w, .tuple #[], rfl, .tup _ .nil, .same hi rfl rfl rfl⟩
  by_cases n6 : fn.name = "internal/race.Acquire" ∨ fn.name = "internal/race.Release" ∨ fn.name = "internal/race.ReleaseMerge" ∨ fn.name = "internal/race.Read" ∨ fn.name = "internal/race.Write"
  · have heq : ∀ x, x = externA fn.name (slRes P fn) args σ → x = (match (generalizing := false) args with
        | .ptr .. :: _ => .val unit σ
        | _ => .no) := by intro x hx; rw [hx]; unfold externA; rw [if_neg n1, if_neg n2, if_neg n3, if_neg n4, if_neg n5, if_pos n6]; try rfl
    rw [heq _ rfl]
    split
    · obtain ⟨l, rfl⟩ : ∃ l : List Value, args' = l.toArray := ⟨args'.toList, by simp⟩
      have ha' : ∃ a rest, l = .pointer (some a) :: rest := by
        cases ha with
        | cons hp hrest => cases hp; exact ⟨_, _, rfl⟩
      obtain ⟨a, rest, rfl⟩ := ha'
      have hm : ∀ m : Addr → Mark, (Extern.Race.marked m (Value.pointer (some a) :: rest).toArray).run P w = .ok (.tuple #[]) w := by
        intro m
        simp [Extern.Race.marked, Extern.Race.at_, Extern.Race.none_]
      rcases n6 with hname | hname | hname | hname | hname <;>
        (obtain ⟨f1, f2⟩ := find_row hname ho
         exact .ext hf (by rw [hname]; decide) hb f1 f2 ⟨φ, w, .tuple #[], hm _, .tup _ .nil, .same hi rfl rfl rfl⟩)
    · trivial
  by_cases n7 : fn.name = "math/bits.Add64"
  · have heq : ∀ x, x = externA fn.name (slRes P fn) args σ → x = (match (generalizing := false) args with
        | [.int .u64 (.ofNat x), .int .u64 (.ofNat y), .int .u64 (.ofNat c)] => bif Nat.ble c 1 then .val (.tup [.int .u64 (Int.ofNat ((x + y + c) % 18446744073709551616)), .int .u64 (Int.ofNat ((x + y + c) / 18446744073709551616))]) σ else .no
        | _ => .no) := by intro x hx; rw [hx]; unfold externA; rw [if_neg n1, if_neg n2, if_neg n3, if_neg n4, if_neg n5, if_neg n6, if_pos n7]; try rfl
    rw [heq _ rfl]
    obtain ⟨f1, f2⟩ := find_row n7 ho
    split
    · rename_i x y c
      rw [cond_eq_ite]
      split
      · rename_i hc
        have hc := ble_t hc
        obtain ⟨l, rfl⟩ : ∃ l : List Value, args' = l.toArray := ⟨args'.toList, by simp⟩
        have hl : l = [.int .u64 (Int.ofNat x), .int .u64 (Int.ofNat y), .int .u64 (Int.ofNat c)] := by
          cases ha with
          | cons h1 h2 => cases h2 with
            | cons h3 h4 => cases h4 with
              | cons h5 h6 => cases h6; cases h1; cases h3; cases h5; rfl
        subst hl
        have hc1 : ¬ (1 < c) := by omega
        exact .ext hf (by rw [n7]; decide) hb f1 f2 ⟨φ, w, .tuple #[.int .u64 (Int.ofNat ((x + y + c) % 18446744073709551616)), .int .u64 (Int.ofNat ((x + y + c) / 18446744073709551616))],
          by
            show (Extern.MathBitsCarry.three "Add64" #[.int .u64 (Int.ofNat x), .int .u64 (Int.ofNat y), .int .u64 (Int.ofNat c)] >>= fun p => pure (Extern.MathBitsCarry.pair ((p.1 + p.2.1 + p.2.2) % Extern.MathBitsCarry.m64) ((p.1 + p.2.1 + p.2.2) / Extern.MathBitsCarry.m64))).run P w = _
            rw [Sem.run_bind, three_run _ _ _ _ hc1]
            rfl, .tup _ (.cons (.int _ _) (.cons (.int _ _) .nil)), .same hi rfl rfl rfl⟩
      · trivial
    · trivial
  by_cases n8 : fn.name = "math/bits.Sub64"
  · have heq : ∀ x, x = externA fn.name (slRes P fn) args σ → x = (match (generalizing := false) args with
        | [.int .u64 (.ofNat x), .int .u64 (.ofNat y), .int .u64 (.ofNat c)] => bif Nat.ble c 1 then .val (.tup [.int .u64 (Int.ofNat ((x + 18446744073709551616 - y - c) % 18446744073709551616)), .int .u64 (bif Nat.blt x (y + c) then 1 else 0)]) σ else .no
        | _ => .no) := by intro x hx; rw [hx]; unfold externA; rw [if_neg n1, if_neg n2, if_neg n3, if_neg n4, if_neg n5, if_neg n6, if_neg n7, if_pos n8]; try rfl
    rw [heq _ rfl]
    obtain ⟨f1, f2⟩ := find_row n8 ho
    split
    · rename_i x y c
      rw [cond_eq_ite]
      split
      · rename_i hc
        have hc := ble_t hc
        obtain ⟨l, rfl⟩ : ∃ l : List Value, args' = l.toArray := ⟨args'.toList, by simp⟩
        have hl : l = [.int .u64 (Int.ofNat x), .int .u64 (Int.ofNat y), .int .u64 (Int.ofNat c)] := by
          cases ha with
          | cons h1 h2 => cases h2 with
            | cons h3 h4 => cases h4 with
              | cons h5 h6 => cases h6; cases h1; cases h3; cases h5; rfl
        subst hl
        have hc1 : ¬ (1 < c) := by omega
        have hb2 : (bif Nat.blt x (y + c) then (1 : Int) else 0) = Int.ofNat (if x < y + c then 1 else 0) := by
          by_cases h : x < y + c
          · have : Nat.blt x (y + c) = true := Nat.ble_eq_true_of_le h
            rw [this, if_pos h]; rfl
          · have : Nat.blt x (y + c) = false := by
              cases hx : Nat.blt x (y + c) with
              | true => exact absurd (blt_t hx) h
              | false => rfl
            rw [this, if_neg h]; rfl
        rw [hb2]
        exact .ext hf (by rw [n8]; decide) hb f1 f2 ⟨φ, w, .tuple #[.int .u64 (Int.ofNat ((x + 18446744073709551616 - y - c) % 18446744073709551616)), .int .u64 (Int.ofNat (if x < y + c then 1 else 0))],
          by
            show (Extern.MathBitsCarry.three "Sub64" #[.int .u64 (Int.ofNat x), .int .u64 (Int.ofNat y), .int .u64 (Int.ofNat c)] >>= fun p => pure (Extern.MathBitsCarry.pair ((p.1 + Extern.MathBitsCarry.m64 - p.2.1 - p.2.2) % Extern.MathBitsCarry.m64) (if p.1 < p.2.1 + p.2.2 then 1 else 0))).run P w = _
            rw [Sem.run_bind, three_run _ _ _ _ hc1]
            rfl, .tup _ (.cons (.int _ _) (.cons (.int _ _) .nil)), .same hi rfl rfl rfl⟩
      · trivial
    · trivial
  have heq : ∀ x, x = externA fn.name (slRes P fn) args σ → x = (match (generalizing := false) atomics.find? (·.1 == fn.name) with
      | some (_, what, k) => atomicA what k args σ
      | none => .no) := by intro x hx; rw [hx]; unfold externA; rw [if_neg n1, if_neg n2, if_neg n3, if_neg n4, if_neg n5, if_neg n6, if_neg n7, if_neg n8]; try rfl
  rw [heq _ rfl] at hk ⊢
  cases hfind : atomics.find? (·.1 == fn.name) with
  | none => trivial
  | some p =>
    obtain ⟨nm, what, k⟩ := p
    rw [hfind] at hk
    dsimp only at hk ⊢
    have hmem := List.mem_of_find?_eq_some hfind
    have hnm : fn.name = nm := by
      have h0 := List.find?_some hfind
      have h1 : nm = fn.name := by simpa using h0
      exact h1.symm
    cases hat : atomicA what k args σ with
    | val v σ' =>
      have hkn : Known D σ σ' := hk σ' (by rw [hat]; rfl)
      obtain ⟨w', v', g1, g2, g3⟩ := atomicA_ok (P := P) hi hat ha hkn
      obtain ⟨f1, f2⟩ := find_row hnm ho
      simp only [atomics, List.mem_cons, Prod.mk.injEq, List.not_mem_nil, or_false] at hmem
      rcases hmem with ⟨rfl, rfl, rfl⟩ | ⟨rfl, rfl, rfl⟩ | ⟨rfl, rfl, rfl⟩ | ⟨rfl, rfl, rfl⟩ | ⟨rfl, rfl, rfl⟩ | ⟨rfl, rfl, rfl⟩ | ⟨rfl, rfl, rfl⟩ | ⟨rfl, rfl, rfl⟩ | ⟨rfl, rfl, rfl⟩ | ⟨rfl, rfl, rfl⟩ | ⟨rfl, rfl, rfl⟩ | ⟨rfl, rfl, rfl⟩ |
          ⟨rfl, rfl, rfl⟩ | ⟨rfl, rfl, rfl⟩ | ⟨rfl, rfl, rfl⟩ | ⟨rfl, rfl, rfl⟩ | ⟨rfl, rfl, rfl⟩ | ⟨rfl, rfl, rfl⟩ | ⟨rfl, rfl, rfl⟩ | ⟨rfl, rfl, rfl⟩ <;>
        exact .ext hf (by rw [hnm]; decide) hb f1 f2 ⟨φ, w', v', g1, g2, g3⟩
    | no => trivial
    | _ =>
      exfalso
      unfold atomicA at hat
      repeat' split at hat
      all_goals cases hat

theorem callFA_ok (hi : Inv R C D φ σ w) {f : FuncId} {args : List AV} {args' : Array Value} (ha : VRL φ args args'.toList) (hk : ∀ σ', (callFA P f args σ).st = some σ' → Known D σ σ')
    (hfr : ∀ σ', (callFA P f args σ).st = some σ' → Free φ σ σ') : OpOk P R D φ σ w (callFunc f args') (callFA P f args σ) := by
  unfold callFA at hk hfr ⊢
  cases hf : P.funcs[f]? with
  | none => trivial
  | some fn =>
    rw [hf] at hk hfr
    dsimp only at hk hfr ⊢
    cases hb : fn.body with
    | some c =>
      dsimp only
      split
      · trivial
      · rename_i hn
        refine ⟨φ, w, args', ?_, ha, .same hi rfl rfl rfl⟩
        show (callFunc f args').run P w = _
        simp [callFunc, hf, hn, hb]
    | none =>
      rw [hb] at hk hfr
      dsimp only at hk hfr ⊢
      split
      · rename_i ho
        rw [if_pos ho] at hk hfr
        exact externA_ok hi hf hb ho ha hk hfr
      · trivial
end
end Go.Tw
