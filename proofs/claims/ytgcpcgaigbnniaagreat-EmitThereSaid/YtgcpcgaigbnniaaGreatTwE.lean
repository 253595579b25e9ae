/-
  A part of the proof that the abstract evaluator is sound for the model's machine. Conditions: those of each theorem, as it states them.
-/
import Derived.Test.YtgcpcgaigbnniaaGreatTwD
import Derived.RangeFuncLeaves
import Derived.RecoverIn
import Derived.Test.YtgcpcgaigbnniaaGreatTwB
import Derived.OrdersIn
set_option linter.all false
namespace Go.Tw
def wideR (ro : Option Nat) : Fence := { Fence.wide with round := ro }
theorem room_wideR (ro : Option Nat) (n : Nat) : (wideR ro).room n := room_wide n
def kindOf (dk : Bool) : CallKind := if dk then .deferred else .normal
def Runs (P : Program) (ro : Option Nat) (dk : Bool) (c : Code) (Q : Exit → Act → List Frame → World → Prop) (a : Act) (cs : List Frame) (w : World) : Prop :=
  ∀ (b : Frame) (k : List Item), b.roundOf = ro → b.kind = kindOf dk →
    ∃ e a' cs' w', Q e a' cs' w' ∧ ArrivesIn (Machine.fenced P Fence.wide) P (lone (b.atR a (.code c :: k)) cs w) b k cs' e a' w'
def RunsOps (P : Program) (ro : Option Nat) (dk : Bool) (ops : Array Oper) (l : List Nat) (Q : Exit → Act → List Frame → World → Prop) (a : Act) (cs : List Frame) (w : World) : Prop :=
  ∀ (b : Frame) (k : List Item), b.roundOf = ro → b.kind = kindOf dk →
    ∃ e a' cs' w', Q e a' cs' w' ∧ ArrivesIn (Machine.fenced P Fence.wide) P (lone (b.atR a (.inRegion ops l :: k)) cs w) b k cs' e a' w'
section rules
variable {P : Program} {ro : Option Nat} {dk : Bool} {Q : Exit → Act → List Frame → World → Prop} {a : Act} {cs : List Frame} {w : World}
theorem one_wide {m m' : Machine} (h : step P m = .next m') : StepsIn (Machine.fenced P Fence.wide) P m m' := .one (fenced_wide P m) h
theorem Runs.mono {c : Code} {Q' : Exit → Act → List Frame → World → Prop} (h : Runs P ro dk c Q a cs w) (hq : ∀ e a cs w, Q e a cs w → Q' e a cs w) : Runs P ro dk c Q' a cs w :=
  fun b k hr hk => let ⟨e, a', cs', w', q, r⟩ := h b k hr hk; ⟨e, a', cs', w', hq _ _ _ _ q, r⟩
theorem runs_of_wpIn {c : Code} (h : c.wpIn (wideR ro) 0 P (fun e a' w' => Q e a' cs w') a w) : Runs P ro dk c Q a cs w :=
  fun b k hr _ => let ⟨e, a', w', q, r⟩ := h b k cs hr trivial (room_wideR _ _); ⟨e, a', cs, w', q, r⟩
theorem runs_skip (h : Q .normal a cs w) : Runs P ro dk .skip Q a cs w := runs_of_wpIn (wpIn_skip h)
theorem runs_label {l : Nat} (h : Q .normal a cs w) : Runs P ro dk (.label l) Q a cs w := runs_of_wpIn (wpIn_label h)
theorem runs_exit {id : Nat} (h : Q (.exit id) a cs w) : Runs P ro dk (.exit id) Q a cs w := runs_of_wpIn (wpIn_exit h)
theorem runs_goto {l : Nat} (h : Q (.goto l) a cs w) : Runs P ro dk (.goto l) Q a cs w := runs_of_wpIn (wpIn_goto h)
theorem runs_ret (h : Q .ret a cs w) : Runs P ro dk .ret Q a cs w := runs_of_wpIn (wpIn_ret h)
theorem runs_seq {x y : Code} (h : Runs P ro dk x (Exit.thenS (Runs P ro dk y Q) Q) a cs w) : Runs P ro dk (.seq x y) Q a cs w := by
  intro b k hr hk
  obtain ⟨e, a₁, cs₁, w₁, hq, harr⟩ := h b (.code y :: k) hr hk
  cases e with
  | normal =>
    obtain ⟨e₂, a₂, cs₂, w₂, hq₂, harr₂⟩ := hq b k hr hk
    exact ⟨e₂, a₂, cs₂, w₂, hq₂, .of_steps (.head (fenced_wide _ _) stepR_seq harr) harr₂⟩
  | exit id => exact ⟨_, a₁, cs₁, w₁, hq, .of_steps (one_wide stepR_seq) (.pass (x := .code y) rfl (fun _ _ => .inl (by simp)) harr)⟩
  | goto l => exact ⟨_, a₁, cs₁, w₁, hq, .of_steps (one_wide stepR_seq) (.pass (x := .code y) rfl (fun _ _ => .inl (by simp)) harr)⟩
  | ret => exact ⟨_, a₁, cs₁, w₁, hq, .of_steps (one_wide stepR_seq) (.pass (x := .code y) rfl (fun _ _ => .inl (by simp)) harr)⟩
  | panic ch => exact ⟨_, a₁, cs₁, w₁, hq, .of_steps (one_wide stepR_seq) (.pass (x := .code y) rfl (fun _ _ => .inl (by simp)) harr)⟩
  | outgrown => exact ⟨_, a₁, cs₁, w₁, hq, .of_steps (one_wide stepR_seq) (.pass (x := .code y) rfl (fun _ _ => .inl (by simp)) harr)⟩
theorem runs_cond {c : Operand} {x y : Code} {t : Bool} (hc : a.eval c = .bool t) (h : Runs P ro dk (if t then x else y) Q a cs w) : Runs P ro dk (.cond c x y) Q a cs w :=
  fun b k hr hk => let ⟨e, a', cs', w', q, r⟩ := h b k hr hk; ⟨e, a', cs', w', q, .of_steps (one_wide (stepR_cond hc)) r⟩
def inBlockS (id : Nat) (Q : Exit → Act → List Frame → World → Prop) : Exit → Act → List Frame → World → Prop
  | .exit id', a, cs, w => if id' = id then Q .normal a cs w else Q (.exit id') a cs w
  | e, a, cs, w => Q e a cs w
theorem runs_block {id : Nat} {c : Code} (h : Runs P ro dk c (inBlockS id Q) a cs w) : Runs P ro dk (.block id c) Q a cs w := by
  intro b k hr hk
  obtain ⟨e, a₁, cs₁, w₁, hq, harr⟩ := h b (.inBlock id :: k) hr hk
  have h0 := one_wide (P := P) (stepR_block (b := b) (a := a) (k := k) (cs := cs) (w := w) (id := id) (c := c))
  cases e with
  | normal => exact ⟨.normal, a₁, cs₁, w₁, hq, h0.trans (StepsIn.trans harr (one_wide stepR_inBlock))⟩
  | exit id' =>
    by_cases hid : id' = id
    · simp only [inBlockS, hid, if_true] at hq
      exact ⟨.normal, a₁, cs₁, w₁, hq, h0.trans (harr.1 k (by simp [exitTo, hid]))⟩
    · simp only [inBlockS, hid, if_false] at hq
      have this : (id == id') = false := by simp; exact fun h => hid h.symm
      have hx : exitTo id' (.inBlock id :: k) = exitTo id' k := by simp [exitTo, this]
      exact ⟨.exit id', a₁, cs₁, w₁, hq, fun k' hk => h0.trans (harr.1 k' (by rw [hx]; exact hk)),
        fun hr' hk => let ⟨k₁, h1, h2⟩ := harr.2 hr' (by rw [hx]; exact hk); ⟨k₁, h1, h0.trans h2⟩⟩
  | goto l =>
    have hx : gotoIn l (.inBlock id :: k) = gotoIn l k := by simp [gotoIn]
    exact ⟨_, a₁, cs₁, w₁, hq, fun k' hk => h0.trans (harr.1 k' (by rw [hx]; exact hk)),
      fun hr' hk => let ⟨k₁, h1, h2⟩ := harr.2 hr' (by rw [hx]; exact hk); ⟨k₁, h1, h0.trans h2⟩⟩
  | ret => exact ⟨_, a₁, cs₁, w₁, hq, .of_steps h0 harr⟩
  | panic ch => exact ⟨_, a₁, cs₁, w₁, hq, .of_steps h0 harr⟩
  | outgrown => exact ⟨_, a₁, cs₁, w₁, hq, .of_steps h0 harr⟩
theorem runs_region {id : Nat} {ops : Array Oper} (h : RunsOps P ro dk ops (List.range ops.size) Q a cs w) : Runs P ro dk (.region id ops false) Q a cs w :=
  fun b k hr hk => let ⟨e, a', cs', w', q, r⟩ := h b k hr hk; ⟨e, a', cs', w', q, .of_steps (one_wide stepR_region) r⟩
/-! What is left of a region, operation by operation. -/
section ops
variable {ops : Array Oper} {i : Nat} {rest : List Nat} {o : Oper}
theorem ops_nil (h : Q .normal a cs w) : RunsOps P ro dk ops [] Q a cs w :=
  fun _ _ _ _ => ⟨.normal, a, cs, w, h, one_wide stepR_region_end⟩
theorem ops_unwanted (ho : ops[i]? = some o) (hw : Region.wanted o (yielded ops a.tmps) = false) (h : RunsOps P ro dk ops rest Q (a.put o.dst undef) cs w) :
    RunsOps P ro dk ops (i :: rest) Q a cs w := by
  intro b k hr hk
  obtain ⟨e, a', cs', w', hq, harr⟩ := h b k hr hk
  have hs := stepR_op_skip (P := P) (b := b) (a := a) (k := k) (cs := cs) (w := w) (ops := ops) (i := i) (rest := rest) (by simp [ho]; exact hw)
  simp only [ho, Option.bind_some] at hs
  exact ⟨e, a', cs', w', hq, .of_steps (one_wide hs) harr⟩
theorem fin_atR {b : Frame} {k : List Item} (ho : ops[i]? = some o) (v : Value) : (b.atR a (.inRegion ops (i :: rest) :: k)).finish v = b.atR (a.put o.dst v) (.inRegion ops rest :: k) := by
  rw [Frame.finish_atR, ho]; rfl
theorem step_opR {b : Frame} {k : List Item} (hr : b.roundOf = ro) (ho : ops[i]? = some o) (hw : Region.wanted o (yielded ops a.tmps) = true) :
    stepG P true { frame := b.atR a (.inRegion ops (i :: rest) :: k), callers := cs, status := .running, dying := none } w =
      stepG.apply P true (b.atR a (.inRegion ops (i :: rest) :: k)) cs none (o.semAt ro a.eval) w := by
  rw [← hr]; exact stepGR_op ho hw
theorem ops_value (ho : ops[i]? = some o) (hw : Region.wanted o (yielded ops a.tmps) = true) {n : Next} {v : Value} {w' : World} (hn : n = .value v ∨ (n = .skip ∧ v = undef))
    (hrun : (o.semAt ro a.eval).run P w = .ok n w') (h : RunsOps P ro dk ops rest Q (a.put o.dst v) cs w') : RunsOps P ro dk ops (i :: rest) Q a cs w := by
  intro b k hr hk
  obtain ⟨e, a', cs', w'', hq, harr⟩ := h b k hr hk
  refine ⟨e, a', cs', w'', hq, .of_steps (one_wide (step_lone_go ?_)) harr⟩
  rw [step_opR hr ho hw, ← fin_atR ho]
  rcases hn with rfl | ⟨rfl, rfl⟩ <;> simp [stepG.apply, hrun]
theorem ops_panic (ho : ops[i]? = some o) (hw : Region.wanted o (yielded ops a.tmps) = true) {v : Value} {w' : World}
    (hrun : (o.semAt ro a.eval).run P w = .halt (.panic v) w') (h : Q (.panic [{ v, recovered := false }]) a cs w') : RunsOps P ro dk ops (i :: rest) Q a cs w := by
  intro b k hr hk
  refine ⟨_, a, cs, w', h, .inRegion ops (i :: rest) :: k, one_wide (step_lone_go ?_)⟩
  rw [step_opR hr ho hw, ← Frame.raise_atR]; simp [stepG.apply, hrun]
theorem ops_defer (ho : ops[i]? = some o) (hw : Region.wanted o (yielded ops a.tmps) = true) {d : Deferred} {w' : World}
    (hrun : (o.semAt ro a.eval).run P w = .ok (.defer d) w') (h : RunsOps P ro dk ops rest Q ({ a with defers := d :: a.defers }.put o.dst undef) cs w') :
    RunsOps P ro dk ops (i :: rest) Q a cs w := by
  intro b k hr hk
  obtain ⟨e, a', cs', w'', hq, harr⟩ := h b k hr hk
  refine ⟨e, a', cs', w'', hq, .of_steps (one_wide (step_lone_go ?_)) harr⟩
  have : ({ b.atR a (.inRegion ops (i :: rest) :: k) with defers := d :: a.defers } : Frame).finish undef =
      b.atR ({ a with defers := d :: a.defers }.put o.dst undef) (.inRegion ops rest :: k) := by
    have := Frame.finish_atR b { a with defers := d :: a.defers } ops i rest k undef
    rw [ho] at this; exact this
  rw [step_opR hr ho hw]; simp only [stepG.apply, Sem.runT_eq, hrun, GStep.bare_after]
  exact congrArg (fun fr => GStep.go { frame := fr, callers := cs, status := .running, dying := none } w') this
theorem ops_recover (ho : ops[i]? = some o) (hw : Region.wanted o (yielded ops a.tmps) = true) {w' : World} {v : Value} {cs₁ : List Frame}
    (hrun : (o.semAt none a.eval).run P w = .ok .recover w') (hrec : recoverD cs = some (v, cs₁)) (h : RunsOps P none true ops rest Q (a.put o.dst v) cs₁ w') :
    RunsOps P none true ops (i :: rest) Q a cs w := by
  intro b k hr hk
  have hkd : (b.atR a (.inRegion ops (i :: rest) :: k)).kind = .deferred := hk
  have htr := tryRecover_deferred hkd cs
  obtain ⟨e, a', cs'', w'', hq, harr⟩ := h b k hr hk
  refine ⟨e, a', cs'', w'', hq, .of_steps (one_wide (step_lone_go ?_)) harr⟩
  rw [step_opR hr ho hw, ← fin_atR ho]
  simp only [Frame.atR, hr] at htr ⊢
  simp [stepG.apply, hrun, htr, hrec]
theorem ops_recover_none (ho : ops[i]? = some o) (hw : Region.wanted o (yielded ops a.tmps) = true) {w' : World}
    (hrun : (o.semAt none a.eval).run P w = .ok .recover w') (hrec : dk = true → recoverD cs = none) (h : RunsOps P none dk ops rest Q (a.put o.dst .nilIface) cs w') :
    RunsOps P none dk ops (i :: rest) Q a cs w := by
  intro b k hr hk
  have htr : tryRecover (b.atR a (.inRegion ops (i :: rest) :: k)) cs = none := by
    cases dk with
    | true =>
      have hkd : (b.atR a (.inRegion ops (i :: rest) :: k)).kind = .deferred := hk
      rw [tryRecover_deferred hkd, hrec rfl]
    | false =>
      have hkd : (b.atR a (.inRegion ops (i :: rest) :: k)).kind = .normal := hk
      cases cs <;> simp [tryRecover, hkd]
  obtain ⟨e, a', cs'', w'', hq, harr⟩ := h b k hr hk
  refine ⟨e, a', cs'', w'', hq, .of_steps (one_wide (step_lone_go ?_)) harr⟩
  rw [step_opR hr ho hw, ← fin_atR ho]
  simp only [Frame.atR, hr] at htr ⊢
  simp [stepG.apply, hrun, htr]
theorem ops_enter (ho : ops[i]? = some o) (hw : Region.wanted o (yielded ops a.tmps) = true) {f : FuncId} {args : Array Value} {w' : World} {R : Ending → World → Prop}
    (hrun : (o.semAt ro a.eval).run P w = .ok (.enter f args) w') (hcall : Calls P f args w' R) (h1 : ∀ v w'', R (.returned v) w'' → RunsOps P ro dk ops rest Q (a.put o.dst v) cs w'')
    (h2 : ∀ ch w'', R (.panicked ch) w'' → Q (.panic ch) a cs w'') (h3 : ∀ w'', ¬ R .outgrown w'') : RunsOps P ro dk ops (i :: rest) Q a cs w := by
  intro b k hr hk
  obtain ⟨e, w'', fr, hR, hsteps, hfn, hleave⟩ := (callsIn_wide (n := 0)).2 hcall |>.2 (b.atR a (.inRegion ops (i :: rest) :: k) :: cs) (room_wide _)
  have henter : step P (lone (b.atR a (.inRegion ops (i :: rest) :: k)) cs w) =
      .next (lone (Frame.enter P f args .normal) (b.atR a (.inRegion ops (i :: rest) :: k) :: cs) w') :=
    step_lone_go (by rw [step_opR hr ho hw]; simp [stepG.apply, hrun, Frame.atR])
  cases e with
  | returned v =>
    obtain ⟨e, a', cs', w₃, hq, harr⟩ := h1 v w'' hR b k hr hk
    refine ⟨e, a', cs', w₃, hq, .of_steps (.head (fenced_wide _ _) henter (StepsIn.trans hsteps (one_wide ?_))) harr⟩
    rw [← fin_atR ho]; exact step_leave_returned hleave
  | panicked chain =>
    refine ⟨.panic chain, a, cs, w'', h2 _ _ hR, .inRegion ops (i :: rest) :: k, .head (fenced_wide _ _) henter (StepsIn.trans hsteps (one_wide ?_))⟩
    rw [← Frame.raise_atR]; exact step_leave_panicked hleave
  | outgrown => exact absurd hR (h3 _)
theorem ops_round (ho : ops[i]? = some o) (hw : Region.wanted o (yielded ops a.tmps) = true) {l : Nat} {f : FuncId} {tmps : Array Value} {assign body : Code} {w' : World} {R : Ending → World → Prop}
    (hrun : (o.semAt ro a.eval).run P w = .ok (.round l f tmps assign body) w') (hcall : RoundIn Fence.wide 0 P l f tmps assign body w' R)
    (h1 : ∀ v w'', R (.returned v) w'' → RunsOps P ro dk ops rest Q (a.put o.dst v) cs w'')
    (h2 : ∀ ch w'', R (.panicked ch) w'' → Q (.panic ch) a cs w'') (h3 : ∀ w'', ¬ R .outgrown w'') : RunsOps P ro dk ops (i :: rest) Q a cs w := by
  intro b k hr hk
  obtain ⟨e, w'', hR, hsteps⟩ := hcall.2 (b.atR a (.inRegion ops (i :: rest) :: k)) cs (room_wide _)
  have henter : step P (lone (b.atR a (.inRegion ops (i :: rest) :: k)) cs w) =
      .next (lone (Frame.round l f tmps assign body .normal) (b.atR a (.inRegion ops (i :: rest) :: k) :: cs) w') :=
    step_lone_go (by rw [step_opR hr ho hw]; simp [stepG.apply, hrun, Frame.atR])
  cases e with
  | returned v =>
    obtain ⟨e, a', cs', w₃, hq, harr⟩ := h1 v w'' hR b k hr hk
    refine ⟨e, a', cs', w₃, hq, .of_steps (.head (fenced_wide _ _) henter ?_) harr⟩
    rw [← fin_atR ho]; exact hsteps
  | panicked chain =>
    refine ⟨.panic chain, a, cs, w'', h2 _ _ hR, .inRegion ops (i :: rest) :: k, .head (fenced_wide _ _) henter ?_⟩
    rw [← Frame.raise_atR]; exact hsteps
  | outgrown => exact absurd hR (h3 _)
end ops
end rules
end Go.Tw
namespace Go.Tw
variable [Val]
section
variable {P : Program} {R : Nat} {C : Cfg}
inductive ChainR (φ : PM) : List (AV × Bool) → List PanicEntry → Prop
  | nil : ChainR φ [] []
  | cons {v : AV} {b : Bool} {v' : Value} {l : List (AV × Bool)} {l' : List PanicEntry} (h : VR φ v v') (t : ChainR φ l l') :
      ChainR φ ((v, b) :: l) ({ v := v', recovered := b, goexit := false } :: l')
theorem ChainR.mono {φ ψ : PM} (h : φ.le ψ) {l : List (AV × Bool)} {l' : List PanicEntry} (k : ChainR φ l l') : ChainR ψ l l' := by
  induction k with
  | nil => exact .nil
  | cons hv _ ih => exact .cons (hv.mono h) ih
theorem ChainR.append {φ : PM} {a b : List (AV × Bool)} {a' b' : List PanicEntry} (h : ChainR φ a a') (k : ChainR φ b b') : ChainR φ (a ++ b) (a' ++ b') := by
  induction h with
  | nil => exact k
  | cons hv _ ih => exact .cons hv ih
def ModeR (φ : PM) : AMode → FrameMode → Prop
  | .returning, .returning => True
  | .panicking c, .panicking c' => ChainR φ c c'
  | _, _ => False
theorem ModeR.mono {φ ψ : PM} (h : φ.le ψ) {m : AMode} {m' : FrameMode} (k : ModeR φ m m') : ModeR ψ m m' := by
  cases m <;> cases m' <;> simp only [ModeR] at k ⊢
  exact k.mono h
def CsR (φ : PM) (dk : Bool) (base cs : List Frame) : Option AMode → Prop
  | none => dk = false ∧ cs = base
  | some m => dk = true ∧ ∃ c₀ rest m', base = c₀ :: rest ∧ cs = { c₀ with mode := m' } :: rest ∧ ModeR φ m m'
theorem CsR.mono {φ ψ : PM} (h : φ.le ψ) {dk : Bool} {base cs : List Frame} {m : Option AMode} (k : CsR φ dk base cs m) : CsR ψ dk base cs m := by
  cases m with
  | none => exact k
  | some m => obtain ⟨h1, c₀, rest, m', h2, h3, h4⟩ := k; exact ⟨h1, c₀, rest, m', h2, h3, h4.mono h⟩
def Does (P : Program) (φ : PM) (cl : Cle) (args : Array Value) (w : World) (Q : Ending → World → Prop) : Prop :=
  match cl with
  | .fn f => Calls P f args w Q
  | .yld id => ∀ e, φ id 0 = some e → ∃ l f tmps assign body, (Instr.yield e.blk args).run P w = .ok (.round l f tmps assign body) w ∧ RoundIn Fence.wide 0 P l f tmps assign body w Q
omit [Val] in
theorem Does.mono {φ : PM} {cl : Cle} {args : Array Value} {w : World} {Q Q' : Ending → World → Prop} (h : Does P φ cl args w Q) (hq : ∀ e w', Q e w' → Q' e w') : Does P φ cl args w Q' := by
  cases cl with
  | fn f => exact Calls.mono h hq
  | yld id => intro e he; obtain ⟨l, f, t, a, b, h1, h2⟩ := h e he; exact ⟨l, f, t, a, b, h1, h2.mono hq⟩
def CallOk (P : Program) (R : Nat) (C : Cfg) (call : Cle → List AV → St → CR) : Prop :=
  ∀ (cl : Cle) (args : List AV) (σ : St) (D : Nat → Prop) (φ : PM) (w : World) (args' : Array Value), Inv R C D φ σ w → VRL φ args args'.toList →
    (∀ v σ', call cl args σ = .ret v σ' → Known D σ σ' → Free φ σ σ' →
      Does P φ cl args' w fun e w' => ∃ φ' v', e = .returned v' ∧ VR φ' v v' ∧ Post R D φ σ w σ' φ' w') ∧
    (∀ c σ', call cl args σ = .pan c σ' → Known D σ σ' → Free φ σ σ' →
      Does P φ cl args' w fun e w' => ∃ φ' c', e = .panicked c' ∧ ChainR φ' c c' ∧ Post R D φ σ w σ' φ' w')
def ExitR (φ : PM) : AExit → Exit → Prop
  | .normal, .normal => True
  | .exit i, .exit j => i = j
  | .goto i, .goto j => i = j
  | .ret, .ret => True
  | .panic c, .panic c' => ChainR φ c c'
  | _, _ => False
inductive DfsR (φ : PM) : List ADef → List Deferred → Prop
  | nil : DfsR φ [] []
  | cons {d : ADef} {d' : Deferred} {l : List ADef} {l' : List Deferred} (h : DfR φ d d') (t : DfsR φ l l') : DfsR φ (d :: l) (d' :: l')
theorem DfsR.mono {φ ψ : PM} (h : φ.le ψ) {l : List ADef} {l' : List Deferred} (k : DfsR φ l l') : DfsR ψ l l' := by
  induction k with
  | nil => exact .nil
  | cons hd _ ih => exact .cons (hd.mono h) ih
structure FrmR (φ : PM) (nt : Nat) (env : Env) (a : Act) : Prop where
  ev : EnvR φ nt env a
  dfs : DfsR φ env.ds a.defers
theorem FrmR.mono {φ ψ : PM} {nt : Nat} {env : Env} {a : Act} (h : FrmR φ nt env a) (k : φ.le ψ) : FrmR ψ nt env a := ⟨h.ev.mono k, h.dfs.mono k⟩
theorem EnvR.same {φ : PM} {nt : Nat} {env env' : Env} {a a' : Act} (h : EnvR φ nt env a) (h1 : env'.tm = env.tm) (h2 : a'.tmps = a.tmps) : EnvR φ nt env' a' :=
  ⟨by rw [h2]; exact h.size, by rw [h1, h2]; exact h.val⟩
omit [Val] in
theorem put_defers {a : Act} {d : Option Tmp} {v : Value} : (a.put d v).defers = a.defers := by cases d <;> rfl
omit [Val] in
theorem putA_keep {nt : Nat} {env env' : Env} {d : Option Tmp} {v : AV} (hp : putA nt env d v = some env') : env'.ds = env.ds ∧ env'.md = env.md ∧ env'.rd = env.rd := by
  unfold putA at hp
  cases d with
  | none => simp only [Option.some.injEq] at hp; subst hp; exact ⟨rfl, rfl, rfl⟩
  | some d =>
    simp only [cond_eq_ite] at hp
    split at hp
    · simp only [Option.some.injEq] at hp; subst hp; exact ⟨rfl, rfl, rfl⟩
    · cases hp
theorem EnvR.put {φ : PM} {nt : Nat} {env env' : Env} {a : Act} {d : Option Tmp} {v : AV} {v' : Value} (h : EnvR φ nt env a) (hp : putA nt env d v = some env') (hv : VR φ v v') :
    EnvR φ nt env' (a.put d v') := by
  unfold putA at hp
  cases d with
  | none => simp only [Option.some.injEq] at hp; subst hp; exact h
  | some d =>
    simp only [cond_eq_ite] at hp
    split at hp
    · rename_i hb
      have hb := blt_t hb
      simp only [Option.some.injEq] at hp; subst hp
      refine ⟨by simp [Act.put, h.size], fun t u hu => ?_⟩
      rw [T.get_set] at hu
      by_cases e : t = d
      · subst e
        rw [if_pos rfl] at hu
        simp only [Option.some.injEq] at hu; subst hu
        exact ⟨v', by simp [Act.put, h.size, hb], hv⟩
      · rw [if_neg e] at hu
        obtain ⟨u', h1, h2⟩ := h.val t u hu
        exact ⟨u', by simp only [Act.put]; rw [Array.getElem?_setIfInBounds_ne (Ne.symm e)]; exact h1, h2⟩
    · cases hp
theorem FrmR.put {φ : PM} {nt : Nat} {env env' : Env} {a : Act} {d : Option Tmp} {v : AV} {v' : Value} (h : FrmR φ nt env a) (hp : putA nt env d v = some env') (hv : VR φ v v') :
    FrmR φ nt env' (a.put d v') := ⟨h.ev.put hp hv, by rw [(putA_keep hp).1, put_defers]; exact h.dfs⟩
theorem wantedA_ok {φ : PM} {nt : Nat} {ops : Array Oper} {env : Env} {a : Act} {o : Oper} {b : Bool} (hp : ∀ e n, C.pin e = some n → e.eval = n) (hdc : ∀ b v, C.dec b = some v → b.eval = v)
    (h : EnvR φ nt env a)
    (hw : wantedA C ops env o = some b) : Region.wanted o (yielded ops a.tmps) = b := by
  unfold wantedA at hw
  unfold Region.wanted
  cases hg : o.guard with
  | none => rw [hg] at hw; simp only [Option.some.injEq] at hw; exact hw
  | some g =>
    obtain ⟨j, want⟩ := g
    rw [hg] at hw
    dsimp only at hw ⊢
    unfold yielded
    cases hj : ops[j]? with
    | none => rw [hj] at hw; simp only [Option.some.injEq] at hw; subst hw; rfl
    | some p =>
      rw [hj] at hw
      dsimp only at hw
      cases hd : p.dst with
      | none => rw [hd] at hw; simp only [Option.some.injEq] at hw; subst hw; simp [hd]
      | some d =>
        rw [hd] at hw
        dsimp only at hw
        cases hv : env.tm.get d with
        | none => rw [hv] at hw; cases hw
        | some v =>
          rw [hv] at hw
          dsimp only at hw
          obtain ⟨v', h1, h2⟩ := h.val d v hv
          have h2 := res_ok hp hdc h2
          simp only [Option.bind_some, hd, h1]
          generalize C.res v = u at hw h2
          cases h2 <;> simp only [Option.some.injEq] at hw <;> first
            | (cases hw; done)
            | (subst hw; rfl)
omit [Val] in
theorem opA_nodefer {env : Env} {σ : St} {o : Oper} {r : OR} (h : opA P C env σ o = r) (h1 : ∀ d τ, r ≠ .dfr d τ) (h2 : r ≠ .no) : ∀ c, o.op ≠ .defer c := by
  intro c hc
  rcases opA_cases (P := P) (C := C) env σ o with hb | ⟨_, _, hnd, _⟩
  case inr => exact hnd c hc
  rw [hb, opB_eq] at h
  unfold opB0 at h
  rw [hc] at h
  dsimp only at h
  repeat' split at h
  all_goals first
    | exact h2 h.symm
    | exact h1 _ _ h.symm
section step
variable {call : Cle → List AV → St → CR} {nt : Nat} {env : Env} {σ : St} {o : Oper} {D : Nat → Prop} {φ : PM} {w : World} {a : Act}
  {ro : Option Nat} {dk : Bool} {ops : Array Oper} {i : Nat} {rest : List Nat} {Q : Exit → Act → List Frame → World → Prop} {cs : List Frame}
theorem step_val (hi : Inv R C D φ σ w) (he : EnvR φ nt env a) (ho : ops[i]? = some o) (hw : Region.wanted o (yielded ops a.tmps) = true) {v : AV} {σ' : St}
    (hr : opA P C env σ o = .val v σ') (hk : Known D σ σ') (hf : Free φ σ σ') (hn : ∀ φ' v' w', VR φ' v v' → Post R D φ σ w σ' φ' w' → RunsOps P ro dk ops rest Q (a.put o.dst v') cs w') :
    RunsOps P ro dk ops (i :: rest) Q a cs w := by
  have := opA_ok (P := P) (o := o) hi he (fun τ ht => by rw [hr] at ht; simp only [OR.st, Option.some.injEq] at ht; subst ht; exact hk) (fun τ ht => by rw [hr] at ht; simp only [OR.st, Option.some.injEq] at ht; subst ht; exact hf)
  rw [hr] at this
  obtain ⟨φ', w', n, v', h1, h2, h3, h4⟩ := this
  have hnd := opA_nodefer hr (by simp) (by simp)
  rw [← Oper.semAt_eq ro _ _ hnd] at h1
  rcases h2 with rfl | ⟨rfl, rfl⟩
  · exact ops_value ho hw (.inl rfl) h1 (hn φ' v' w' h3 h4)
  · exact ops_value ho hw (.inr ⟨rfl, rfl⟩) h1 (hn φ' undef w' h3 h4)
theorem step_pan (hi : Inv R C D φ σ w) (he : EnvR φ nt env a) (ho : ops[i]? = some o) (hw : Region.wanted o (yielded ops a.tmps) = true) {v : AV} {σ' : St}
    (hr : opA P C env σ o = .pan v σ') (hk : Known D σ σ') (hf : Free φ σ σ')
    (hn : ∀ φ' v' w', VR φ' v v' → Post R D φ σ w σ' φ' w' → Q (.panic [{ v := v', recovered := false }]) a cs w') :
    RunsOps P ro dk ops (i :: rest) Q a cs w := by
  have := opA_ok (P := P) (o := o) hi he (fun τ ht => by rw [hr] at ht; simp only [OR.st, Option.some.injEq] at ht; subst ht; exact hk) (fun τ ht => by rw [hr] at ht; simp only [OR.st, Option.some.injEq] at ht; subst ht; exact hf)
  rw [hr] at this
  obtain ⟨φ', w', v', h1, h2, h3⟩ := this
  have hnd := opA_nodefer hr (by simp) (by simp)
  rw [← Oper.semAt_eq ro _ _ hnd] at h1
  exact ops_panic ho hw h1 (hn φ' v' w' h2 h3)
theorem step_call (hc : CallOk P R C call) (hi : Inv R C D φ σ w) (he : EnvR φ nt env a) (ho : ops[i]? = some o) (hw : Region.wanted o (yielded ops a.tmps) = true) {f : Cle} {args : List AV} {τ : St}
    (hr : opA P C env σ o = .call f args τ) :
    (∀ v σ', call f args τ = .ret v σ' → StepA τ σ' → Known D σ σ' → Free φ σ σ' →
      (∀ φ' v' w', VR φ' v v' → Post R D φ σ w σ' φ' w' → RunsOps P ro dk ops rest Q (a.put o.dst v') cs w') → RunsOps P ro dk ops (i :: rest) Q a cs w) ∧
    (∀ c σ', call f args τ = .pan c σ' → StepA τ σ' → Known D σ σ' → Free φ σ σ' →
      (∀ φ' c' w', ChainR φ' c c' → Post R D φ σ w σ' φ' w' → Q (.panic c') a cs w') → RunsOps P ro dk ops (i :: rest) Q a cs w) := by
  have hsteps := opA_steps (P := P) (C := C) (env := env) (σ := σ) (o := o)
  have hs1 : StepA σ τ := hsteps τ (by rw [hr]; rfl)
  have hnd := opA_nodefer hr (by simp) (by simp)
  have key : ∀ σ', StepA τ σ' → Known D σ σ' → Free φ σ σ' → ∃ φ₁ w₁ args', Leads P φ₁ (execOp a.eval o) w w₁ args' f ∧ VRL φ₁ args args'.toList ∧ Post R D φ σ w τ φ₁ w₁ := by
    intro σ' hst hk hf
    have := opA_ok (P := P) (o := o) hi he (fun υ ht => by rw [hr] at ht; simp only [OR.st, Option.some.injEq] at ht; subst ht; exact hk.mono hst) (fun υ ht => by rw [hr] at ht; simp only [OR.st, Option.some.injEq] at ht; subst ht; exact hf.mono hst)
    rw [hr] at this
    exact this
  refine ⟨fun v σ' hcall hst hk hf hn => ?_, fun c σ' hcall hst hk hf hn => ?_⟩
  · obtain ⟨φ₁, w₁, args', h1, h2, h3⟩ := key σ' hst hk hf
    have hcall' := (hc f args τ (More D σ) φ₁ w₁ args' (h3.inv hi hs1) h2).1 v σ' hcall hk.then (hf.then h3 hs1)
    have hgo : ∀ v' w', (∃ φ' u', Ending.returned v' = .returned u' ∧ VR φ' v u' ∧ Post R (More D σ) φ₁ τ w₁ σ' φ' w') → RunsOps P ro dk ops rest Q (a.put o.dst v') cs w' := by
      rintro v' w' ⟨φ', u', e, hv, hp⟩
      simp only [Ending.returned.injEq] at e; subst e
      exact hn φ' _ w' hv (h3.trans hp hs1 hst)
    cases f with
    | fn f =>
      have h1' : (o.semAt ro a.eval).run P w = .ok (.enter f args') w₁ := by rw [Oper.semAt_eq ro _ _ hnd]; exact h1
      exact ops_enter ho hw h1' hcall' hgo (fun ch w'' ⟨_, _, e, _⟩ => by cases e) (fun w'' ⟨_, _, e, _⟩ => by cases e)
    | yld id =>
      obtain ⟨e1, e, g1, g2⟩ := h1
      subst e1
      obtain ⟨l, f, tmps, assign, body, q1, q2⟩ := hcall' e g1
      have h1' : (o.semAt ro a.eval).run P w₁ = .ok (.round l f tmps assign body) w₁ := by rw [Oper.semAt_eq ro _ _ hnd, g2, q1]
      exact ops_round ho hw h1' q2 hgo (fun ch w'' ⟨_, _, e, _⟩ => by cases e) (fun w'' ⟨_, _, e, _⟩ => by cases e)
  · obtain ⟨φ₁, w₁, args', h1, h2, h3⟩ := key σ' hst hk hf
    have hcall' := (hc f args τ (More D σ) φ₁ w₁ args' (h3.inv hi hs1) h2).2 c σ' hcall hk.then (hf.then h3 hs1)
    have hgo : ∀ c₁ w', (∃ φ' u', Ending.panicked c₁ = .panicked u' ∧ ChainR φ' c u' ∧ Post R (More D σ) φ₁ τ w₁ σ' φ' w') → Q (.panic c₁) a cs w' := by
      rintro v' w' ⟨φ', u', e, hv, hp⟩
      simp only [Ending.panicked.injEq] at e; subst e
      exact hn φ' _ w' hv (h3.trans hp hs1 hst)
    cases f with
    | fn f =>
      have h1' : (o.semAt ro a.eval).run P w = .ok (.enter f args') w₁ := by rw [Oper.semAt_eq ro _ _ hnd]; exact h1
      exact ops_enter ho hw h1' hcall' (fun v w'' ⟨_, _, e, _⟩ => by cases e) hgo (fun w'' ⟨_, _, e, _⟩ => by cases e)
    | yld id =>
      obtain ⟨e1, e, g1, g2⟩ := h1
      subst e1
      obtain ⟨l, f, tmps, assign, body, q1, q2⟩ := hcall' e g1
      have h1' : (o.semAt ro a.eval).run P w₁ = .ok (.round l f tmps assign body) w₁ := by rw [Oper.semAt_eq ro _ _ hnd, g2, q1]
      exact ops_round ho hw h1' q2 (fun v w'' ⟨_, _, e, _⟩ => by cases e) hgo (fun w'' ⟨_, _, e, _⟩ => by cases e)
theorem step_dfr (hi : Inv R C D φ σ w) (he : EnvR φ nt env a) (ho : ops[i]? = some o) (hw : Region.wanted o (yielded ops a.tmps) = true) {d : ADef} {σ' : St}
    (hr : opA P C env σ o = .dfr d σ') (hk : Known D σ σ') (hf : Free φ σ σ')
    (hn : ∀ φ' d' w', DfR φ' d d' → Post R D φ σ w σ' φ' w' → RunsOps P none dk ops rest Q ({ a with defers := d' :: a.defers }.put o.dst undef) cs w') :
    RunsOps P none dk ops (i :: rest) Q a cs w := by
  have := opA_ok (P := P) (o := o) hi he (fun τ ht => by rw [hr] at ht; simp only [OR.st, Option.some.injEq] at ht; subst ht; exact hk) (fun τ ht => by rw [hr] at ht; simp only [OR.st, Option.some.injEq] at ht; subst ht; exact hf)
  rw [hr] at this
  obtain ⟨φ', w', d', h1, h2, h3⟩ := this
  exact ops_defer ho hw h1 (hn φ' d' w' h2 h3)
theorem step_rcv (hi : Inv R C D φ σ w) (he : EnvR φ nt env a) {σ' : St} (hr : opA P C env σ o = .rcv σ') (hk : Known D σ σ') (hf : Free φ σ σ') :
    (o.semAt none a.eval).run P w = .ok .recover w ∧ Post R D φ σ w σ' φ w := by
  have := opA_ok (P := P) (o := o) hi he (fun τ ht => by rw [hr] at ht; simp only [OR.st, Option.some.injEq] at ht; subst ht; exact hk) (fun τ ht => by rw [hr] at ht; simp only [OR.st, Option.some.injEq] at ht; subst ht; exact hf)
  rw [hr] at this
  exact this
end step
omit [Val] in
theorem in_wpIn {ro : Option Nat} {o : Oper} {a : Act} {w : World} {next : Act → World → Prop} {Q : Exit → Act → World → Prop}
    (h : o.uponIn (wideR ro) 0 P a next Q ((o.semAt ro a.eval).run P w)) : o.wpIn (wideR ro) 0 P a w next Q := ⟨fun _ _ => trivial, h⟩
theorem in_val {nt : Nat} {env : Env} {σ : St} {o : Oper} {D : Nat → Prop} {φ : PM} {w : World} {a : Act} {ro : Option Nat} {next : Act → World → Prop} {Q : Exit → Act → World → Prop}
    (hi : Inv R C D φ σ w) (he : EnvR φ nt env a) {v : AV} {σ' : St} (hr : opA P C env σ o = .val v σ') (hk : Known D σ σ') (hf : Free φ σ σ')
    (hn : ∀ φ' v' w', VR φ' v v' → Post R D φ σ w σ' φ' w' → next (a.put o.dst v') w') : o.wpIn (wideR ro) 0 P a w next Q := by
  have := opA_ok (P := P) (o := o) hi he (fun τ ht => by rw [hr] at ht; simp only [OR.st, Option.some.injEq] at ht; subst ht; exact hk) (fun τ ht => by rw [hr] at ht; simp only [OR.st, Option.some.injEq] at ht; subst ht; exact hf)
  rw [hr] at this
  obtain ⟨φ', w', n, v', h1, h2, h3, h4⟩ := this
  have hnd := opA_nodefer hr (by simp) (by simp)
  rw [← Oper.semAt_eq ro _ _ hnd] at h1
  refine in_wpIn ?_
  rw [h1]
  rcases h2 with rfl | ⟨rfl, rfl⟩
  · exact hn φ' v' w' h3 h4
  · exact hn φ' undef w' h3 h4
theorem in_call {call : Cle → List AV → St → CR} {nt : Nat} {env : Env} {σ : St} {o : Oper} {D : Nat → Prop} {φ : PM} {w : World} {a : Act} {ro : Option Nat} {next : Act → World → Prop}
    {Q : Exit → Act → World → Prop} (hc : CallOk P R C call) (hi : Inv R C D φ σ w) (he : EnvR φ nt env a) {f : Cle} {args : List AV} {τ σ' : St} {v : AV}
    (hr : opA P C env σ o = .call f args τ) (hcall : call f args τ = .ret v σ') (hst : StepA τ σ') (hk : Known D σ σ') (hf : Free φ σ σ')
    (hn : ∀ φ' v' w', VR φ' v v' → Post R D φ σ w σ' φ' w' → next (a.put o.dst v') w') : o.wpIn (wideR ro) 0 P a w next Q := by
  have hsteps := opA_steps (P := P) (C := C) (env := env) (σ := σ) (o := o)
  have hs1 : StepA σ τ := hsteps τ (by rw [hr]; rfl)
  have hnd := opA_nodefer hr (by simp) (by simp)
  have := opA_ok (P := P) (o := o) hi he (fun υ ht => by rw [hr] at ht; simp only [OR.st, Option.some.injEq] at ht; subst ht; exact hk.mono hst) (fun υ ht => by rw [hr] at ht; simp only [OR.st, Option.some.injEq] at ht; subst ht; exact hf.mono hst)
  rw [hr] at this
  obtain ⟨φ₁, w₁, args', h1, h2, h3⟩ := this
  have hcall' := (hc f args τ (More D σ) φ₁ w₁ args' (h3.inv hi hs1) h2).1 v σ' hcall hk.then (hf.then h3 hs1)
  have hgo : ∀ e w', (∃ φ' u', e = Ending.returned u' ∧ VR φ' v u' ∧ Post R (More D σ) φ₁ τ w₁ σ' φ' w') → (fun
      | .returned v, w'' => next (a.put o.dst v) w''
      | .panicked chain, w'' => Q (.panic chain) a w''
      | .outgrown, _ => LetsOut Q : Ending → World → Prop) e w' := by
    rintro e w' ⟨φ', u', rfl, hv, hp⟩
    exact hn φ' _ w' hv (h3.trans hp hs1 hst)
  refine in_wpIn ?_
  rw [Oper.semAt_eq ro _ _ hnd]
  cases f with
  | fn f =>
    have h1' : (execOp a.eval o).run P w = .ok (.enter f args') w₁ := h1
    rw [h1']
    refine ⟨fun h => by simp [wideR, Fence.wide] at h, ?_⟩
    have := (callsIn_wide (n := 0 - 1)).2 (hcall'.mono hgo)
    exact this
  | yld id =>
    obtain ⟨e1, e, g1, g2⟩ := h1
    subst e1
    obtain ⟨l, f, tmps, assign, body, q1, q2⟩ := hcall' e g1
    rw [g2, q1]
    refine ⟨fun h => by simp [wideR, Fence.wide] at h, ?_⟩
    exact q2.mono hgo
theorem in_pan {call : Cle → List AV → St → CR} {nt : Nat} {env : Env} {σ : St} {o : Oper} {D : Nat → Prop} {φ : PM} {w : World} {a : Act} {ro : Option Nat} {next : Act → World → Prop}
    {Q : Exit → Act → World → Prop} (hc : CallOk P R C call) (hi : Inv R C D φ σ w) (he : EnvR φ nt env a) {f : Cle} {args : List AV} {τ σ' : St} {c : List (AV × Bool)}
    (hr : opA P C env σ o = .call f args τ) (hcall : call f args τ = .pan c σ') (hst : StepA τ σ') (hk : Known D σ σ') (hf : Free φ σ σ')
    (hn : ∀ φ' c' w', ChainR φ' c c' → Post R D φ σ w σ' φ' w' → Q (.panic c') a w') : o.wpIn (wideR ro) 0 P a w next Q := by
  have hsteps := opA_steps (P := P) (C := C) (env := env) (σ := σ) (o := o)
  have hs1 : StepA σ τ := hsteps τ (by rw [hr]; rfl)
  have hnd := opA_nodefer hr (by simp) (by simp)
  have := opA_ok (P := P) (o := o) hi he (fun υ ht => by rw [hr] at ht; simp only [OR.st, Option.some.injEq] at ht; subst ht; exact hk.mono hst) (fun υ ht => by rw [hr] at ht; simp only [OR.st, Option.some.injEq] at ht; subst ht; exact hf.mono hst)
  rw [hr] at this
  obtain ⟨φ₁, w₁, args', h1, h2, h3⟩ := this
  have hcall' := (hc f args τ (More D σ) φ₁ w₁ args' (h3.inv hi hs1) h2).2 c σ' hcall hk.then (hf.then h3 hs1)
  have hgo : ∀ e w', (∃ φ' u', e = Ending.panicked u' ∧ ChainR φ' c u' ∧ Post R (More D σ) φ₁ τ w₁ σ' φ' w') → (fun
      | .returned v, w'' => next (a.put o.dst v) w''
      | .panicked chain, w'' => Q (.panic chain) a w''
      | .outgrown, _ => LetsOut Q : Ending → World → Prop) e w' := by
    rintro e w' ⟨φ', u', rfl, hv, hp⟩
    exact hn φ' _ w' hv (h3.trans hp hs1 hst)
  refine in_wpIn ?_
  rw [Oper.semAt_eq ro _ _ hnd]
  cases f with
  | fn f =>
    have h1' : (execOp a.eval o).run P w = .ok (.enter f args') w₁ := h1
    rw [h1']
    refine ⟨fun h => by simp [wideR, Fence.wide] at h, ?_⟩
    have := (callsIn_wide (n := 0 - 1)).2 (hcall'.mono hgo)
    exact this
  | yld id =>
    obtain ⟨e1, e, g1, g2⟩ := h1
    subst e1
    obtain ⟨l, f, tmps, assign, body, q1, q2⟩ := hcall' e g1
    rw [g2, q1]
    refine ⟨fun h => by simp [wideR, Fence.wide] at h, ?_⟩
    exact q2.mono hgo
theorem unit_undef (φ : PM) : VR φ unit undef := .tup _ .nil
theorem CsR.recover {φ : PM} {dk : Bool} {base cs : List Frame} {v : AV} {older : List (AV × Bool)} (h : CsR φ dk base cs (some (.panicking ((v, false) :: older)))) :
    dk = true ∧ ∃ v' cs', recoverD cs = some (v', cs') ∧ VR φ v v' ∧ CsR φ dk base cs' (some (.panicking ((v, true) :: older))) := by
  obtain ⟨h1, c₀, rest, m', h2, h3, h4⟩ := h
  cases m' with
  | panicking c' =>
    simp only [ModeR] at h4
    cases h4 with
    | cons hv ht =>
      subst h3
      refine ⟨h1, _, _, rfl, hv, h1, c₀, rest, _, h2, rfl, .cons hv ht⟩
  | _ => exact h4.elim
theorem CsR.norecover {φ : PM} {dk : Bool} {base cs : List Frame} {m : Option AMode} (h : CsR φ dk base cs m) (hm : ∀ v older, m ≠ some (.panicking ((v, false) :: older))) :
    dk = true → recoverD cs = none := by
  intro hdk
  cases m with
  | none => rw [h.1] at hdk; cases hdk
  | some m =>
    obtain ⟨h1, c₀, rest, m', h2, h3, h4⟩ := h
    subst h3
    cases m with
    | returning => cases m' <;> simp only [ModeR] at h4; rfl
    | panicking c =>
      cases m' <;> simp only [ModeR] at h4
      cases h4 with
      | nil => rfl
      | @cons v b v' l l' hv ht =>
        cases b with
        | false => exact absurd rfl (hm _ _)
        | true => rfl
theorem runOps_ok {call : Cle → List AV → St → CR} (hc : CallOk P R C call) (hcs : CallSteps call) {nt : Nat} {ops : Array Oper} {ro : Option Nat} {dk : Bool} {base : List Frame} :
    ∀ (l : List Oper) (k : Nat) (env : Env) (σ : St) (a : Act) (cs : List Frame) (w : World) (φ : PM) (D : Nat → Prop) (e : AExit) (env' : Env) (σ' : St),
      runOps P C call nt ops l env σ = .ok e env' σ' → (∀ j, l[j]? = ops[k + j]?) → Inv R C D φ σ w → FrmR φ nt env a → CsR φ dk base cs env.md → env.rd = ro.isSome → Known D σ σ' → Free φ σ σ' →
      ∀ (Q : Exit → Act → List Frame → World → Prop), (∀ φ' e' a' cs' w', ExitR φ' e e' → FrmR φ' nt env' a' → CsR φ' dk base cs' env'.md → env'.rd = ro.isSome → Post R D φ σ w σ' φ' w' → Q e' a' cs' w') →
      RunsOps P ro dk ops (List.range' k l.length) Q a cs w := by
  intro l
  induction l with
  | nil =>
    intro k env σ a cs w φ D e env' σ' h _ hi he hm hrd hk hf Q hQ
    simp only [runOps, XR.ok.injEq] at h
    obtain ⟨rfl, rfl, rfl⟩ := h
    exact ops_nil (hQ φ .normal a cs w trivial he hm hrd (.same hi rfl rfl rfl))
  | cons o rest ih =>
    intro k env σ a cs w φ D e env' σ' h hl hi he hm hrd hk hf Q hQ
    have hok : ops[k]? = some o := by have := hl 0; simpa using this.symm
    have hrest : ∀ j, rest[j]? = ops[k + 1 + j]? := fun j => by have := hl (j + 1); simpa [Nat.add_assoc, Nat.add_comm 1 j] using this
    simp only [List.length_cons, List.range'_succ]
    unfold runOps at h
    split at h
    · cases h
    · rename_i hw
      have hw := wantedA_ok hi.pin hi.dec he.ev hw
      split at h
      · rename_i env1 hp
        obtain ⟨p1, p2, p3⟩ := putA_keep hp
        exact ops_unwanted hok hw (ih (k + 1) env1 σ _ cs w φ D e env' σ' h hrest hi (he.put hp (unit_undef φ)) (p2 ▸ hm) (p3.trans hrd) hk hf Q hQ)
      · cases h
    · rename_i hw
      have hw := wantedA_ok hi.pin hi.dec he.ev hw
      have hsteps := opA_steps (P := P) (C := C) (env := env) (σ := σ) (o := o)
      have hgo : ∀ (v : AV) (τ : St), StepA σ τ → (match putA nt env o.dst v with | some env => runOps P C call nt ops rest env τ | none => .no) = XR.ok e env' σ' →
          StepA τ σ' ∧ ∀ φ' v' w', VR φ' v v' → Post R D φ σ w τ φ' w' → RunsOps P ro dk ops (List.range' (k + 1) rest.length) Q (a.put o.dst v') cs w' := by
        intro v τ hs1 h
        split at h
        · rename_i env1 hp
          obtain ⟨p1, p2, p3⟩ := putA_keep hp
          have hs2 : StepA τ σ' := runOps_steps hcs rest env1 τ σ' (by rw [h]; rfl)
          refine ⟨hs2, fun φ' v' w' hv hpost => ?_⟩
          exact ih (k + 1) env1 τ _ cs w' φ' (More D σ) e env' σ' h hrest (hpost.inv hi hs1) ((he.mono hpost.le).put hp hv) (p2 ▸ hm.mono hpost.le) (p3.trans hrd) hk.then (hf.then hpost hs1) Q
            (fun φ'' e' a' cs' w'' h1 h2 h3 h4 h5 => hQ φ'' e' a' cs' w'' h1 h2 h3 h4 (hpost.trans h5 hs1 hs2))
        · cases h
      split at h
      · rename_i v τ hr
        have hs1 : StepA σ τ := hsteps τ (by rw [hr]; rfl)
        obtain ⟨hs2, hgo⟩ := hgo v τ hs1 h
        exact step_val hi he.ev hok hw hr (hk.mono hs2) (hf.mono hs2) hgo
      · rename_i d τ hr
        have hs1 : StepA σ τ := hsteps τ (by rw [hr]; rfl)
        simp only [cond_eq_ite] at h
        split at h
        · cases h
        · rename_i hrd'
          have hron : ro = none := by
            have : env.rd = false := by simpa using hrd'
            rw [hrd] at this
            cases ro with
            | none => rfl
            | some l => cases this
          subst hron
          split at h
          · rename_i env1 hp
            obtain ⟨p1, p2, p3⟩ := putA_keep hp
            have hs2 : StepA τ σ' := runOps_steps hcs rest env1 τ σ' (by rw [h]; rfl)
            refine step_dfr hi he.ev hok hw hr (hk.mono hs2) (hf.mono hs2) fun φ' d' w' hd hpost => ?_
            have hfr : FrmR φ' nt { env with ds := d :: env.ds } { a with defers := d' :: a.defers } := ⟨(he.ev.mono hpost.le).same rfl rfl, .cons hd (he.dfs.mono hpost.le)⟩
            exact ih (k + 1) env1 τ _ cs w' φ' (More D σ) e env' σ' h hrest (hpost.inv hi hs1) (hfr.put hp (unit_undef φ')) (p2 ▸ hm.mono hpost.le) (p3.trans hrd) hk.then (hf.then hpost hs1) Q
              (fun φ'' e' a' cs' w'' h1 h2 h3 h4 h5 => hQ φ'' e' a' cs' w'' h1 h2 h3 h4 (hpost.trans h5 hs1 hs2))
          · cases h
      · rename_i v τ hr
        simp only [XR.ok.injEq] at h
        obtain ⟨rfl, rfl, rfl⟩ := h
        refine step_pan hi he.ev hok hw hr hk hf fun φ' v' w' hv hpost => ?_
        exact hQ φ' _ a cs w' (.cons hv .nil) (he.mono hpost.le) (hm.mono hpost.le) hrd hpost
      · rename_i τ hr
        have hs1 : StepA σ τ := hsteps τ (by rw [hr]; rfl)
        simp only [cond_eq_ite] at h
        split at h
        · cases h
        · rename_i hrd'
          have hron : ro = none := by
            have : env.rd = false := by simpa using hrd'
            rw [hrd] at this
            cases ro with
            | none => rfl
            | some l => cases this
          subst hron
          have hgo2 : ∀ (env1 : Env), runOps P C call nt ops rest env1 τ = XR.ok e env' σ' → StepA τ σ' :=
            fun env1 h => runOps_steps hcs rest env1 τ σ' (by rw [h]; rfl)
          split at h
          · rename_i v older hmd
            split at h
            · rename_i env1 hp
              obtain ⟨p1, p2, p3⟩ := putA_keep hp
              have hs2 := hgo2 _ h
              obtain ⟨r1, hpost⟩ := step_rcv (P := P) hi he.ev hr (hk.mono hs2) (hf.mono hs2)
              rw [hmd] at hm
              obtain ⟨hdk, v', cs', hrec, hv, hm'⟩ := hm.recover
              subst hdk
              have hfr : FrmR φ nt { env with md := some (.panicking ((v, true) :: older)) } a := ⟨he.ev.same rfl rfl, he.dfs⟩
              exact ops_recover hok hw r1 hrec (ih (k + 1) env1 τ _ cs' w φ (More D σ) e env' σ' h hrest (hpost.inv hi hs1) (hfr.put hp hv) (p2 ▸ hm') (p3.trans hrd) hk.then (hf.then hpost hs1) Q
                (fun φ'' e' a' cs' w'' h1 h2 h3 h4 h5 => hQ φ'' e' a' cs' w'' h1 h2 h3 h4 (hpost.trans h5 hs1 hs2)))
            · cases h
          · rename_i hmd
            split at h
            · rename_i env1 hp
              obtain ⟨p1, p2, p3⟩ := putA_keep hp
              have hs2 := hgo2 _ h
              obtain ⟨r1, hpost⟩ := step_rcv (P := P) hi he.ev hr (hk.mono hs2) (hf.mono hs2)
              exact ops_recover_none hok hw r1 (hm.norecover fun v older => hmd v older) (ih (k + 1) env1 τ _ cs w φ (More D σ) e env' σ' h hrest (hpost.inv hi hs1) (he.put hp .nili) (p2 ▸ hm) (p3.trans hrd) hk.then (hf.then hpost hs1) Q
                (fun φ'' e' a' cs' w'' h1 h2 h3 h4 h5 => hQ φ'' e' a' cs' w'' h1 h2 h3 h4 (hpost.trans h5 hs1 hs2)))
            · cases h
      · rename_i f args τ hr
        have hs1 : StepA σ τ := hsteps τ (by rw [hr]; rfl)
        split at h
        · rename_i v υ hcall
          have hs2 : StepA τ υ := hcs f args τ υ (by rw [hcall]; rfl)
          obtain ⟨hs3, hgo⟩ := hgo v υ (hs1.trans hs2) h
          exact (step_call hc hi he.ev hok hw hr).1 v υ hcall hs2 (hk.mono hs3) (hf.mono hs3) hgo
        · rename_i c υ hcall
          simp only [XR.ok.injEq] at h
          obtain ⟨rfl, rfl, rfl⟩ := h
          have hs2 : StepA τ υ := hcs f args τ υ (by rw [hcall]; rfl)
          refine (step_call hc hi he.ev hok hw hr).2 c υ hcall hs2 hk hf fun φ' c' w' hv hpost => ?_
          exact hQ φ' _ a cs w' hv (he.mono hpost.le) (hm.mono hpost.le) hrd hpost
        · cases h
      · cases h
end
end Go.Tw
namespace Go.Tw
structure Rec where
  o : Oper
  env : Env
  σ : St
  v : AV
  env' : Env
  σ' : St
  rd : List Nat
  wr : List Nat
  b : Bool
section
variable [Val]
variable {P : Program} {R : Nat} {C : Cfg}
def Rec.ok (P : Program) (C : Cfg) (call : Cle → List AV → St → CR) (nt : Nat) (ops : Array Oper) (r : Rec) : Prop :=
  wantedA C ops (r.env.only (tmpsOf ops r.o)) r.o = some r.b ∧ putA nt r.env r.o.dst r.v = some r.env' ∧
  (r.b = false → r.v = unit ∧ r.σ' = r.σ ∧ r.rd = [] ∧ r.wr = []) ∧
  (r.b = true → ∃ τ, (opA P C (r.env.only (tmpsOf ops r.o)) r.σ.bare r.o = .val r.v τ ∨
      ∃ f args τ₀, opA P C (r.env.only (tmpsOf ops r.o)) r.σ.bare r.o = .call f args τ₀ ∧ call f args τ₀ = .ret r.v τ ∧ StepA τ₀ τ) ∧
    StepA r.σ.bare τ ∧ r.σ' = τ.join r.σ ∧ r.rd = τ.rd ∧ r.wr = τ.wr)
def Rec.idle (r : Rec) : Prop := r.b = false ∧ r.env' = r.env ∧ r.σ' = r.σ ∧ r.rd = [] ∧ r.wr = []
def Rec.pans (P : Program) (C : Cfg) (call : Cle → List AV → St → CR) (ops : Array Oper) (chain : List (AV × Bool)) (r : Rec) : Prop :=
  r.b = true ∧ r.env' = r.env ∧ wantedA C ops (r.env.only (tmpsOf ops r.o)) r.o = some true ∧
  ∃ f args τ₀ τ, opA P C (r.env.only (tmpsOf ops r.o)) r.σ.bare r.o = .call f args τ₀ ∧ call f args τ₀ = .pan chain τ ∧ StepA τ₀ τ ∧ StepA r.σ.bare τ ∧
    r.σ' = τ.join r.σ ∧ r.rd = τ.rd ∧ r.wr = τ.wr
def Rec.fine (P : Program) (C : Cfg) (call : Cle → List AV → St → CR) (nt : Nat) (ops : Array Oper) (r : Rec) : Prop :=
  r.ok P C call nt ops ∨ r.idle ∨ ∃ chain, r.pans P C call ops chain
noncomputable def Rec.foot (ops : Array Oper) (i : Nat) (r : Rec) : Foot :=
  { i := i, rd := r.rd, wr := r.wr, lo := r.σ.next, hi := r.σ'.next, o := r.o, env := r.env.only (tmpsOf ops r.o), v := r.v, pre := r.σ, post := r.σ' }
def Linked : List Rec → Env → St → Env → St → Prop
  | [], env, σ, env', σ' => env = env' ∧ σ = σ'
  | r :: rs, env, σ, env', σ' => r.env = env ∧ r.σ = σ ∧ Linked rs r.env' r.σ' env' σ'
omit [Val] in
theorem restDraw_recs {call : Cle → List AV → St → CR} {bef : Array Nat} {ip : Nat} {chain : List (AV × Bool)} {nt : Nat} {ops : Array Oper} :
    ∀ (l : List Oper) (i : Nat) (fs : List Foot) (env : Env) (σ : St) (ip' : Nat) (chain' : List (AV × Bool)) (fs' : List Foot) (env' : Env) (σ' : St),
      restDraw P C bef ip chain nt ops l i fs env σ = .pan ip' chain' fs' env' σ' →
      ip' = ip ∧ chain' = chain ∧ ∃ recs : List Rec, recs.map (·.o) = l ∧ Linked recs env σ env' σ' ∧
        (∀ (j : Nat) (r : Rec), recs[j]? = some r → r.ok P C call nt ops ∨ (r.idle ∧ (bef.getD (i + j) 0).testBit ip = true)) ∧ (∀ x ∈ fs, x ∈ fs') ∧
        (∀ (j : Nat) (r : Rec), recs[j]? = some r → r.b = true → r.foot ops (i + j) ∈ fs') := by
  intro l
  induction l with
  | nil =>
    intro i fs env σ ip' chain' fs' env' σ' h
    simp only [restDraw, DrawR.pan.injEq] at h
    obtain ⟨rfl, rfl, rfl, rfl, rfl⟩ := h
    exact ⟨rfl, rfl, [], rfl, ⟨rfl, rfl⟩, by simp, fun _ h => h, by simp⟩
  | cons o rest ih =>
    intro i fs env σ ip' chain' fs' env' σ' h
    unfold restDraw at h
    rw [cond_eq_ite] at h
    split at h
    · rename_i hb
      obtain ⟨k1, k2, recs, h1, h2, h3, h4, h5⟩ := ih _ _ _ _ _ _ _ _ _ h
      refine ⟨k1, k2, ⟨o, env, σ, unit, env, σ, [], [], false⟩ :: recs, by simp [h1], ⟨rfl, rfl, h2⟩, ?_, h4, ?_⟩
      · intro j r hj
        cases j with
        | zero => simp at hj; subst hj; exact .inr ⟨⟨rfl, rfl, rfl, rfl, rfl⟩, hb⟩
        | succ j =>
          have := h3 j r (by simpa using hj)
          rwa [show i + 1 + j = i + (j + 1) by omega] at this
      · intro j r hj hb
        cases j with
        | zero => simp at hj; subst hj; cases hb
        | succ j =>
          have := h5 j r (by simpa using hj) hb
          rwa [show i + 1 + j = i + (j + 1) by omega] at this
    · dsimp only at h
      split at h
      · cases h
      · rename_i hw
        split at h
        · rename_i env1 hp
          obtain ⟨k1, k2, recs, h1, h2, h3, h4, h5⟩ := ih _ _ _ _ _ _ _ _ _ h
          refine ⟨k1, k2, ⟨o, env, σ, unit, env1, σ, [], [], false⟩ :: recs, by simp [h1], ⟨rfl, rfl, h2⟩, ?_, h4, ?_⟩
          · intro j r hj
            cases j with
            | zero => simp at hj; subst hj; exact .inl ⟨hw, hp, fun _ => ⟨rfl, rfl, rfl, rfl⟩, fun h => (by cases h)⟩
            | succ j =>
              have := h3 j r (by simpa using hj)
              rwa [show i + 1 + j = i + (j + 1) by omega] at this
          · intro j r hj hb
            cases j with
            | zero => simp at hj; subst hj; cases hb
            | succ j =>
              have := h5 j r (by simpa using hj) hb
              rwa [show i + 1 + j = i + (j + 1) by omega] at this
        · cases h
      · rename_i hw
        have hop := opA_steps (P := P) (C := C) (env := env.only (tmpsOf ops o)) (σ := σ.bare) (o := o)
        split at h
        · rename_i v τ hr
          have hs : StepA σ.bare τ := hop τ (by rw [hr]; rfl)
          split at h
          · rename_i env1 hp
            obtain ⟨k1, k2, recs, h1, h2, h3, h4, h5⟩ := ih _ _ _ _ _ _ _ _ _ h
            refine ⟨k1, k2, ⟨o, env, σ, v, env1, τ.join σ, τ.rd, τ.wr, true⟩ :: recs, by simp [h1], ⟨rfl, rfl, h2⟩, ?_, fun x hx => h4 x (by simp [hx]), ?_⟩
            · intro j r hj
              cases j with
              | zero => simp at hj; subst hj; exact .inl ⟨hw, hp, fun h => (by cases h), fun _ => ⟨τ, .inl hr, hs, rfl, rfl, rfl⟩⟩
              | succ j =>
                have := h3 j r (by simpa using hj)
                rwa [show i + 1 + j = i + (j + 1) by omega] at this
            · intro j r hj hb
              cases j with
              | zero => simp at hj; subst hj; exact h4 _ (by simp [St.join, Rec.foot])
              | succ j =>
                have := h5 j r (by simpa using hj) hb
                rwa [show i + 1 + j = i + (j + 1) by omega] at this
          · cases h
        · cases h
omit [Val] in
theorem restDraw_ok {bef : Array Nat} {ip : Nat} {chain : List (AV × Bool)} {nt : Nat} {ops : Array Oper} :
    ∀ (l : List Oper) (i : Nat) (fs : List Foot) (env : Env) (σ : St) (fs' : List Foot) (env' : Env) (σ' : St), restDraw P C bef ip chain nt ops l i fs env σ ≠ .ok fs' env' σ' := by
  intro l
  induction l with
  | nil => intro i fs env σ fs' env' σ' h; cases h
  | cons o rest ih =>
    intro i fs env σ fs' env' σ' h
    unfold restDraw at h
    rw [cond_eq_ite] at h
    split at h
    · exact ih _ _ _ _ _ _ _ h
    · dsimp only at h
      split at h
      · cases h
      · split at h
        · exact ih _ _ _ _ _ _ _ h
        · cases h
      · split at h
        · split at h
          · exact ih _ _ _ _ _ _ _ h
          · cases h
        · cases h
def Drawn (P : Program) (C : Cfg) (call : Cle → List AV → St → CR) (bef : Array Nat) (nt : Nat) (ops : Array Oper) (i : Nat) (recs : List Rec) (d : DrawR) : Prop :=
  match d with
  | .ok _ _ _ => ∀ (j : Nat) (r : Rec), recs[j]? = some r → r.ok P C call nt ops
  | .pan ip chain _ _ _ => i ≤ ip ∧ (∃ r : Rec, recs[ip - i]? = some r ∧ r.pans P C call ops chain) ∧
      ∀ (j : Nat) (r : Rec), recs[j]? = some r → i + j ≠ ip → r.ok P C call nt ops ∨ (r.idle ∧ (bef.getD (i + j) 0).testBit ip = true)
  | .no => False
def DrawR.fs : DrawR → List Foot
  | .ok fs _ _ => fs
  | .pan _ _ fs _ _ => fs
  | .no => []
def DrawR.env : DrawR → Env
  | .ok _ env _ => env
  | .pan _ _ _ env _ => env
  | .no => { tm := .leaf, ds := [], md := none, rd := false }
omit [Val] in
theorem Drawn.cons {call : Cle → List AV → St → CR} {bef : Array Nat} {nt : Nat} {ops : Array Oper} {i : Nat} {recs : List Rec} {d : DrawR} {r : Rec} (h : Drawn P C call bef nt ops (i + 1) recs d)
    (hr : r.ok P C call nt ops) : Drawn P C call bef nt ops i (r :: recs) d := by
  cases d with
  | ok fs env σ =>
    intro j s hj
    cases j with
    | zero => simp at hj; subst hj; exact hr
    | succ j => exact h j s (by simpa using hj)
  | pan ip chain fs env σ =>
    obtain ⟨h1, ⟨s, h2, h3⟩, h4⟩ := h
    refine ⟨by omega, ⟨s, by rw [show ip - i = (ip - (i + 1)) + 1 by omega]; simpa using h2, h3⟩, fun j t hj hne => ?_⟩
    cases j with
    | zero => simp at hj; subst hj; exact .inl hr
    | succ j =>
      have := h4 j t (by simpa using hj) (by omega)
      rwa [show i + 1 + j = i + (j + 1) by omega] at this
  | no => exact h.elim
omit [Val] in
theorem runDraw_recs {bef : Array Nat} {call : Cle → List AV → St → CR} (hcs : CallSteps call) {nt : Nat} {ops : Array Oper} :
    ∀ (l : List Oper) (i : Nat) (fs : List Foot) (env : Env) (σ σ' : St) (d : DrawR), runDraw P C bef call nt ops l i fs env σ = d → d.st = some σ' →
      ∃ recs : List Rec, recs.map (·.o) = l ∧ Linked recs env σ d.env σ' ∧ Drawn P C call bef nt ops i recs d ∧ (∀ x ∈ fs, x ∈ d.fs) ∧
        (∀ (j : Nat) (r : Rec), recs[j]? = some r → r.b = true → r.foot ops (i + j) ∈ d.fs) := by
  intro l
  induction l with
  | nil =>
    intro i fs env σ σ' d hd h
    simp only [runDraw] at hd
    subst hd
    simp only [DrawR.st, Option.some.injEq] at h
    subst h
    exact ⟨[], rfl, ⟨rfl, rfl⟩, fun j r hj => by simp at hj, fun _ h => h, by simp⟩
  | cons o rest ih =>
    intro i fs env σ σ' d hd h
    unfold runDraw at hd
    dsimp only at hd
    split at hd
    · subst hd; cases h
    · rename_i hw
      split at hd
      · rename_i env1 hp
        obtain ⟨recs, h1, h2, h3, h4, h5⟩ := ih _ _ _ _ _ _ hd h
        refine ⟨⟨o, env, σ, unit, env1, σ, [], [], false⟩ :: recs, by simp [h1], ⟨rfl, rfl, h2⟩, h3.cons ⟨hw, hp, fun _ => ⟨rfl, rfl, rfl, rfl⟩, fun h => (by cases h)⟩, h4, ?_⟩
        intro j r hj hb
        cases j with
        | zero => simp at hj; subst hj; cases hb
        | succ j =>
          have := h5 j r (by simpa using hj) hb
          rwa [show i + 1 + j = i + (j + 1) by omega] at this
      · subst hd; cases h
    · rename_i hw
      have hop := opA_steps (P := P) (C := C) (env := env.only (tmpsOf ops o)) (σ := σ.bare) (o := o)
      have hgo : ∀ (v : AV) (τ : St) (env1 : Env), (opA P C (env.only (tmpsOf ops o)) σ.bare o = .val v τ ∨
          ∃ f args τ₀, opA P C (env.only (tmpsOf ops o)) σ.bare o = .call f args τ₀ ∧ call f args τ₀ = .ret v τ ∧ StepA τ₀ τ) → StepA σ.bare τ → putA nt env o.dst v = some env1 →
          runDraw P C bef call nt ops rest (i + 1) ({ i := i, rd := τ.rd, wr := τ.wr, lo := σ.next, hi := τ.next, o := o, env := env.only (tmpsOf ops o), v := v, pre := σ, post := τ.join σ } :: fs) env1 (τ.join σ) = d →
          ∃ recs : List Rec, recs.map (·.o) = o :: rest ∧ Linked recs env σ d.env σ' ∧ Drawn P C call bef nt ops i recs d ∧ (∀ x ∈ fs, x ∈ d.fs) ∧
            (∀ (j : Nat) (r : Rec), recs[j]? = some r → r.b = true → r.foot ops (i + j) ∈ d.fs) := by
        intro v τ env1 hr hs hp hd
        obtain ⟨recs, h1, h2, h3, h4, h5⟩ := ih _ _ _ _ _ _ hd h
        refine ⟨⟨o, env, σ, v, env1, τ.join σ, τ.rd, τ.wr, true⟩ :: recs, by simp [h1], ⟨rfl, rfl, h2⟩, h3.cons ⟨hw, hp, fun h => (by cases h), fun _ => ⟨τ, hr, hs, rfl, rfl, rfl⟩⟩, fun x hx => h4 x (by simp [hx]), ?_⟩
        intro j r hj hb
        cases j with
        | zero => simp at hj; subst hj; exact h4 _ (by simp [St.join, Rec.foot])
        | succ j =>
          have := h5 j r (by simpa using hj) hb
          rwa [show i + 1 + j = i + (j + 1) by omega] at this
      split at hd
      · rename_i v τ hr
        split at hd
        · rename_i env1 hp
          exact hgo v τ env1 (.inl hr) (hop τ (by rw [hr]; rfl)) hp hd
        · subst hd; cases h
      · subst hd; cases h
      · subst hd; cases h
      · subst hd; cases h
      · rename_i f args τ₀ hr
        split at hd
        · rename_i v τ hcall
          have hs2 : StepA τ₀ τ := hcs f args τ₀ τ (by rw [hcall]; rfl)
          split at hd
          · rename_i env1 hp
            exact hgo v τ env1 (.inr ⟨f, args, τ₀, hr, hcall, hs2⟩) ((hop τ₀ (by rw [hr]; rfl)).trans hs2) hp hd
          · subst hd; cases h
        · rename_i chain τ hcall
          have hs2 : StepA τ₀ τ := hcs f args τ₀ τ (by rw [hcall]; rfl)
          have hs : StepA σ.bare τ := (hop τ₀ (by rw [hr]; rfl)).trans hs2
          cases d with
          | ok fs' env' σ₁ => exact absurd hd (restDraw_ok _ _ _ _ _ _ _ _)
          | no => cases h
          | pan ip chain' fs' env' σ₁ =>
            simp only [DrawR.st, Option.some.injEq] at h
            subst h
            obtain ⟨rfl, rfl, recs, h1, h2, h3, h4, h5⟩ := restDraw_recs (call := call) _ _ _ _ _ _ _ _ _ _ hd
            refine ⟨⟨o, env, σ, unit, env, τ.join σ, τ.rd, τ.wr, true⟩ :: recs, by simp [h1], ⟨rfl, rfl, h2⟩, ?_, fun x hx => h4 x (by simp [hx]), ?_⟩
            · refine ⟨Nat.le_refl _, ⟨⟨o, env, σ, unit, env, τ.join σ, τ.rd, τ.wr, true⟩, by simp, rfl, rfl, hw, f, args, τ₀, τ, hr, hcall, hs2, hs, rfl, rfl, rfl⟩, fun j r hj hne => ?_⟩
              cases j with
              | zero => exact absurd rfl hne
              | succ j =>
                have := h3 j r (by simpa using hj)
                rwa [show ip + 1 + j = ip + (j + 1) by omega] at this
            · intro j r hj hb
              cases j with
              | zero => simp at hj; subst hj; exact h4 _ (by simp [St.join, Rec.foot])
              | succ j =>
                have := h5 j r (by simpa using hj) hb
                rwa [show ip + 1 + j = ip + (j + 1) by omega] at this
        · subst hd; cases h
      · subst hd; cases h
def preS (recs : List Rec) (σ' : St) (k : Nat) : St := match recs[k]? with
  | some r => r.σ
  | none => σ'
def preE (recs : List Rec) (env' : Env) (k : Nat) : Env := match recs[k]? with
  | some r => r.env
  | none => env'
omit [Val] in
theorem Linked.post {recs : List Rec} {env env' : Env} {σ σ' : St} (h : Linked recs env σ env' σ') {k : Nat} {r : Rec} (hr : recs[k]? = some r) :
    preS recs σ' (k + 1) = r.σ' ∧ preE recs env' (k + 1) = r.env' := by
  induction recs generalizing env σ k with
  | nil => simp at hr
  | cons x xs ih =>
    obtain ⟨h1, h2, h3⟩ := h
    cases k with
    | zero =>
      simp at hr; subst hr
      cases xs with
      | nil => obtain ⟨h4, h5⟩ := h3; exact ⟨by simp [preS, h5], by simp [preE, h4]⟩
      | cons y ys => obtain ⟨h4, h5, _⟩ := h3; exact ⟨by simp [preS, h5], by simp [preE, h4]⟩
    | succ k =>
      have := ih h3 (by simpa using hr)
      simpa [preS, preE] using this
omit [Val] in
theorem Linked.pre {recs : List Rec} {env env' : Env} {σ σ' : St} (h : Linked recs env σ env' σ') : preS recs σ' 0 = σ ∧ preE recs env' 0 = env := by
  cases recs with
  | nil => exact ⟨h.2.symm, h.1.symm⟩
  | cons x xs => exact ⟨h.2.1, h.1⟩
omit [Val] in
theorem preS_at {recs : List Rec} {σ' : St} {k : Nat} {r : Rec} (hr : recs[k]? = some r) : preS recs σ' k = r.σ := by simp [preS, hr]
omit [Val] in
theorem preE_at {recs : List Rec} {env' : Env} {k : Nat} {r : Rec} (hr : recs[k]? = some r) : preE recs env' k = r.env := by simp [preE, hr]
def Rec.touch (r : Rec) (id : Nat) : Prop := id ∈ r.wr ∨ (r.σ.next ≤ id ∧ id < r.σ'.next)
omit [Val] in
theorem Rec.ok.step {call : Cle → List AV → St → CR} {nt : Nat} {ops : Array Oper} {r : Rec} (h : r.ok P C call nt ops) :
    StepA r.σ r.σ' ∧ (∀ id, id < r.σ.next → id ∉ r.wr → r.σ'.heap.get id = r.σ.heap.get id) ∧ (∀ i ∈ r.rd, i ∈ r.σ'.rd) ∧ (∀ i ∈ r.wr, i ∈ r.σ'.wr) := by
  obtain ⟨_, _, h3, h4⟩ := h
  cases hb : r.b with
  | false =>
    obtain ⟨_, e1, e2, e3⟩ := h3 hb
    rw [e1, e2, e3]
    exact ⟨.refl _, fun _ _ _ => rfl, by simp, by simp⟩
  | true =>
    obtain ⟨τ, _, hs, e1, e2, e3⟩ := h4 hb
    rw [e1, e2, e3]
    exact ⟨hs.join, fun id hid hw => hs.keep id hid hw, fun i hi => List.mem_append.2 (.inl hi), fun i hi => List.mem_append.2 (.inl hi)⟩
omit [Val] in
theorem Rec.fine.step {call : Cle → List AV → St → CR} {nt : Nat} {ops : Array Oper} {r : Rec} (h : r.fine P C call nt ops) :
    StepA r.σ r.σ' ∧ (∀ id, id < r.σ.next → id ∉ r.wr → r.σ'.heap.get id = r.σ.heap.get id) ∧ (∀ i ∈ r.rd, i ∈ r.σ'.rd) ∧ (∀ i ∈ r.wr, i ∈ r.σ'.wr) := by
  rcases h with h | ⟨_, _, e1, e2, e3⟩ | ⟨chain, _, _, _, f, args, τ₀, τ, _, _, _, hs, e1, e2, e3⟩
  · exact h.step
  · rw [e1, e2, e3]
    exact ⟨.refl _, fun _ _ _ => rfl, by simp, by simp⟩
  · rw [e1, e2, e3]
    exact ⟨hs.join, fun id hid hw => hs.keep id hid hw, fun i hi => List.mem_append.2 (.inl hi), fun i hi => List.mem_append.2 (.inl hi)⟩
omit [Val] in
theorem Rec.fine.env {call : Cle → List AV → St → CR} {nt : Nat} {ops : Array Oper} {r : Rec} (h : r.fine P C call nt ops) {t : Tmp} (ht : r.o.dst ≠ some t) : r.env'.tm.get t = r.env.tm.get t := by
  rcases h with h | ⟨_, e, _⟩ | ⟨chain, _, e, _⟩
  · have hput := h.2.1
    unfold putA at hput
    split at hput
    · simp only [Option.some.injEq] at hput; rw [← hput]
    · rename_i d hd
      simp only [cond_eq_ite] at hput
      split at hput
      · simp only [Option.some.injEq] at hput
        rw [← hput]
        exact T.get_set_ne _ _ fun h => ht (by rw [hd, h])
      · cases hput
  · rw [e]
  · rw [e]
omit [Val] in
theorem pre_mono {call : Cle → List AV → St → CR} {nt : Nat} {ops : Array Oper} {recs : List Rec} {env env' : Env} {σ σ' : St} (hl : Linked recs env σ env' σ')
    (hok : ∀ r ∈ recs, r.fine P C call nt ops) {i k : Nat} (hik : i ≤ k) (hk : k ≤ recs.length) :
    StepA (preS recs σ' i) (preS recs σ' k) ∧
    (∀ id, id < (preS recs σ' i).next → (∀ j r, i ≤ j → j < k → recs[j]? = some r → ¬ r.touch id) → (preS recs σ' k).heap.get id = (preS recs σ' i).heap.get id) ∧
    (∀ t, (∀ j r, i ≤ j → j < k → recs[j]? = some r → r.o.dst ≠ some t) → (preE recs env' k).tm.get t = (preE recs env' i).tm.get t) := by
  induction k with
  | zero =>
    have : i = 0 := by omega
    subst this
    exact ⟨.refl _, fun _ _ _ => rfl, fun _ _ => rfl⟩
  | succ k ih =>
    by_cases e : i = k + 1
    · subst e; exact ⟨.refl _, fun _ _ _ => rfl, fun _ _ => rfl⟩
    · obtain ⟨h1, h2, h3⟩ := ih (by omega) (by omega)
      have hlt : k < recs.length := by omega
      have hr : recs[k]? = some recs[k] := List.getElem?_eq_getElem hlt
      have hrk := hok _ (List.getElem_mem hlt)
      obtain ⟨s1, s2, _, _⟩ := hrk.step
      obtain ⟨p1, p2⟩ := hl.post hr
      rw [preS_at hr] at h1 h2
      rw [preE_at hr] at h3
      rw [p1, p2]
      refine ⟨h1.trans s1, fun id hid hno => ?_, fun t hno => ?_⟩
      · rw [s2 id (Nat.lt_of_lt_of_le hid h1.next) (fun hw => hno k _ (by omega) (by omega) hr (.inl hw))]
        exact h2 id hid fun j r a b c => hno j r a (by omega) c
      · rw [← h3 t fun j r a b c => hno j r a (by omega) c]
        exact hrk.env (hno k _ (by omega) (by omega) hr)
end
end Go.Tw
namespace Go.Tw
section
variable [Val]
variable {P : Program} {R : Nat} {C : Cfg}
def Rec.same (P : Program) (C : Cfg) (ops : Array Oper) (r : Rec) (σ : St) : Prop :=
  ∃ τ, opA P C (r.env.only (tmpsOf ops r.o)) σ.bare r.o = .val r.v τ ∧ τ.wr = [] ∧ τ.next = σ.next ∧ ∀ x ∈ τ.rd, x ∈ r.rd
def Rec.floats (P : Program) (C : Cfg) (ops : Array Oper) (x y : Rec) (id : Nat) : Prop :=
  y.wr = [] ∧ y.σ.next = y.σ'.next ∧ (∀ a ∈ y.rd, a = id) ∧ y.same P C ops x.σ ∧ y.same P C ops x.σ' ∧ y.same P C ops y.σ
structure Region0 (P : Program) (R : Nat) (C : Cfg) (call : Cle → List AV → St → CR) (nt : Nat) (ops : Array Oper) (recs : List Rec) (env env' : Env) (σ σ' : St)
    (D : Nat → Prop) (φ₀ : PM) (w₀ : World) : Prop where
  link : Linked recs env σ env' σ'
  ok : ∀ r ∈ recs, r.fine P C call nt ops
  omap : recs.map (·.o) = ops.toList
  back : ∀ (i : Nat) (o : Oper) (e : Edge), ops[i]? = some o → e ∈ o.after → Region.binds .any e = true → e.on < i
  names : ∀ (i j : Nat) (o p : Oper) (d : Tmp), ops[i]? = some o → ops[j]? = some p → p.dst = some d → d ∈ tmpsOf ops o → i = j ∨ Path ops i j ∨ Path ops j i
  feet : ∀ (i j : Nat) (r s : Rec) (id : Nat), recs[i]? = some r → recs[j]? = some s → r.touch id → (id ∈ s.rd ∨ id ∈ s.wr) → i = j ∨ Path ops i j ∨ Path ops j i ∨ (id ∈ s.rd ∧ r.floats P C ops s id)
  inv : Inv R C D φ₀ σ w₀
  known : Known D σ σ'
theorem Region0.recOf {call : Cle → List AV → St → CR} {nt : Nat} {ops : Array Oper} {recs : List Rec} {env env' : Env} {σ σ' : St} {D : Nat → Prop} {φ₀ : PM} {w₀ : World}
    (h : Region0 P R C call nt ops recs env env' σ σ' D φ₀ w₀) {i : Nat} {o : Oper} (ho : ops[i]? = some o) : ∃ r, recs[i]? = some r ∧ r.o = o := by
  have h1 : (recs.map (·.o))[i]? = some o := by rw [h.omap]; simpa using ho
  rw [List.getElem?_map] at h1
  cases hr : recs[i]? with
  | none => rw [hr] at h1; cases h1
  | some r => rw [hr] at h1; simp at h1; exact ⟨r, rfl, h1⟩
theorem Region0.op {call : Cle → List AV → St → CR} {nt : Nat} {ops : Array Oper} {recs : List Rec} {env env' : Env} {σ σ' : St} {D : Nat → Prop} {φ₀ : PM} {w₀ : World}
    (h : Region0 P R C call nt ops recs env env' σ σ' D φ₀ w₀) {i : Nat} {r : Rec} (hr : recs[i]? = some r) : ops[i]? = some r.o := by
  have h1 : (recs.map (·.o))[i]? = some r.o := by rw [List.getElem?_map, hr]; rfl
  rw [h.omap] at h1; simpa using h1
theorem Region0.len {call : Cle → List AV → St → CR} {nt : Nat} {ops : Array Oper} {recs : List Rec} {env env' : Env} {σ σ' : St} {D : Nat → Prop} {φ₀ : PM} {w₀ : World}
    (h : Region0 P R C call nt ops recs env env' σ σ' D φ₀ w₀) : recs.length = ops.size := by
  have := congrArg List.length h.omap; simpa using this
structure Stage (R : Nat) (C : Cfg) (nt : Nat) (ds0 : List Deferred) (ops : Array Oper) (recs : List Rec) (env' : Env) (σ σ' : St) (D : Nat → Prop) (φ₀ : PM) (w₀ : World)
    (listed : Array Bool) (a : Act) (w : World) (φ : PM) : Prop where
  sz : listed.size = ops.size
  cl : Closed ops listed
  wf : WF R φ w
  dfr : a.defers = ds0
  tsz : a.tmps.size = nt
  tmp : ∀ t k, k ≤ recs.length → (∀ j r, recs[j]? = some r → r.o.dst = some t → (listed.getD j false = true ↔ j < k)) →
    ∀ v, (preE recs env' k).tm.get t = some v → ∃ v', a.tmps[t]? = some v' ∧ VR φ v v'
  rep : ∀ id k, k ≤ recs.length → id < (preS recs σ' k).next → (∀ j r, recs[j]? = some r → r.touch id → (listed.getD j false = true ↔ j < k)) → (D id ∨ σ.next ≤ id) →
    Rep R φ w id ((preS recs σ' k).heap.get id)
  fresh : ∀ j r, recs[j]? = some r → listed.getD j false = false → ∀ id, r.σ.next ≤ id → id < r.σ'.next → ∀ v, φ id v = none
  le : φ₀.le φ
  grow : ∀ i, (i ∉ σ'.wr ∨ σ'.next ≤ i) → ¬ (σ.next ≤ i ∧ i < σ'.next) → ∀ v, φ i v = φ₀ i v
  blk : ∀ i v e, φ i v = some e → (∃ u f, φ₀ i u = some f ∧ f.blk = e.blk) ∨ w₀.heap.size ≤ e.blk
  frm : Frm φ₀ σ'.wr w₀ w
  wrR : ∀ j r, recs[j]? = some r → listed.getD j false = true → ∀ x ∈ r.wr, R ≤ x
  ro : ∀ i, i < R → Rep R (φ.low R) w i (C.base i)
variable {call : Cle → List AV → St → CR} {nt : Nat} {ops : Array Oper} {recs : List Rec} {env env' : Env} {σ σ' : St} {D : Nat → Prop} {φ₀ : PM} {w₀ : World}
omit [Val] in
theorem getD_set {listed : Array Bool} {i : Nat} (hi : i < listed.size) (j : Nat) : (listed.setIfInBounds i true).getD j false = if j = i then true else listed.getD j false := by
  simp only [Array.getD_eq_getD_getElem?]
  by_cases e : j = i
  · subst e; simp [hi]
  · rw [Array.getElem?_setIfInBounds_ne (Ne.symm e), if_neg e]
theorem Region0.back' (h : Region0 P R C call nt ops recs env env' σ σ' D φ₀ w₀) {x y : Nat} (p : Path ops x y) : y < x := by
  induction p with
  | one ho he hb => exact h.back _ _ _ ho he hb
  | step ho he hb _ ih => exact Nat.lt_trans ih (h.back _ _ _ ho he hb)
theorem Region0.touches (h : Region0 P R C call nt ops recs env env' σ σ' D φ₀ w₀) {i j : Nat} {r s : Rec} (hr : recs[i]? = some r) (hj : recs[j]? = some s) {id : Nat} (ht : r.touch id) (hts : s.touch id)
    (hne : j ≠ i) : Path ops i j ∨ Path ops j i := by
  have hlen : ∀ {k : Nat} {x : Rec}, recs[k]? = some x → k < recs.length := by
    intro k x hk
    rcases Nat.lt_or_ge k recs.length with h' | h'
    · exact h'
    · simp [List.getElem?_eq_none h'] at hk
  have hmono := fun {x k : Nat} (hxk : x ≤ k) (hk : k ≤ recs.length) => pre_mono h.link h.ok hxk hk
  rcases hts with hw | hcr
  · rcases h.feet i j r s id hr hj ht (.inr hw) with e | hpp | hpp | ⟨_, hf⟩
    · exact absurd e.symm hne
    · exact .inl hpp
    · exact .inr hpp
    · rw [hf.1] at hw; cases hw
  · rcases ht with hw | hcr2
    · rcases h.feet j i s r id hj hr (.inr hcr) (.inr hw) with e | hpp | hpp | ⟨_, hf⟩
      · exact absurd e hne
      · exact .inr hpp
      · exact .inl hpp
      · rw [hf.1] at hw; cases hw
    · exfalso
      rcases Nat.lt_or_gt_of_ne hne with hlt | hgt
      · have := (hmono (show j + 1 ≤ i by omega) (Nat.le_of_lt (hlen hr))).1.next
        rw [(h.link.post hj).1, preS_at hr] at this
        omega
      · have := (hmono (show i + 1 ≤ j by omega) (Nat.le_of_lt (hlen hj))).1.next
        rw [(h.link.post hr).1, preS_at hj] at this
        omega
omit [Val] in
theorem last_touch (recs : List Rec) (id i : Nat) : ∀ k, (∀ (j : Nat) (s : Rec), i ≤ j → j < k → recs[j]? = some s → ¬ s.touch id) ∨
    ∃ (m : Nat) (s : Rec), i ≤ m ∧ m < k ∧ recs[m]? = some s ∧ s.touch id ∧ ∀ (j : Nat) (t : Rec), m < j → j < k → recs[j]? = some t → ¬ t.touch id := by
  intro k
  induction k with
  | zero => exact .inl fun j s _ h => absurd h (Nat.not_lt_zero _)
  | succ k ih =>
    by_cases hk : i ≤ k ∧ ∃ s, recs[k]? = some s ∧ s.touch id
    · obtain ⟨h1, s, h2, h3⟩ := hk
      exact .inr ⟨k, s, h1, Nat.lt_succ_self k, h2, h3, fun j t a b => by omega⟩
    · rcases ih with ih | ⟨m, s, h1, h2, h3, h4, h5⟩
      · refine .inl fun j s a b c d => ?_
        by_cases e : j = k
        · subst e; exact hk ⟨a, s, c, d⟩
        · exact ih j s a (by omega) c d
      · refine .inr ⟨m, s, h1, by omega, h3, h4, fun j t a b c d => ?_⟩
        by_cases e : j = k
        · subst e; exact hk ⟨by omega, t, c, d⟩
        · exact h5 j t a (by omega) c d
theorem stage_next {ro : Option Nat} {ds0 : List Deferred} (hc : CallOk P R C call) (_hcs : CallSteps call) (h : Region0 P R C call nt ops recs env env' σ σ' D φ₀ w₀) {listed : Array Bool} {a : Act} {w : World} {φ : PM}
    (hs : Stage R C nt ds0 ops recs env' σ σ' D φ₀ w₀ listed a w φ) {i : Nat} {r : Rec} (hr : recs[i]? = some r) (hrk : r.ok P C call nt ops) (hni : listed.getD i false = false)
    (hpre : ∀ e ∈ r.o.after, Region.binds .any e = true → listed.getD e.on false = true) {K : Act → World → Prop} {Q : Exit → Act → World → Prop}
    (hK : ∀ φ' a' w', Stage R C nt ds0 ops recs env' σ σ' D φ₀ w₀ (listed.setIfInBounds i true) a' w' φ' → K a' w') : wpOpIn (wideR ro) 0 P ops Q i K a w := by
  have hop := h.op hr
  have hlen := h.len
  have hilt : i < recs.length := by
    rcases Nat.lt_or_ge i recs.length with h' | h'
    · exact h'
    · simp [List.getElem?_eq_none h'] at hr
  have hils : i < listed.size := by rw [hs.sz, ← hlen]; exact hilt
  obtain ⟨hst, hst2, hst3, hst4⟩ := hrk.step
  obtain ⟨hpostS, hpostE⟩ := h.link.post hr
  have hpS : preS recs σ' i = r.σ := preS_at hr
  have hpE : preE recs env' i = r.env := preE_at hr
  -- what comes before has been done; what comes behind has not
  have hbef : ∀ j, Path ops i j → listed.getD j false = true := by
    intro j p
    cases p with
    | one ho he hb => rw [hop] at ho; simp only [Option.some.injEq] at ho; subst ho; exact hpre _ he hb
    | step ho he hb p => rw [hop] at ho; simp only [Option.some.injEq] at ho; subst ho; exact hs.cl.path p (hpre _ he hb)
  have hback : ∀ {x y : Nat}, Path ops x y → y < x := by
    intro x y p
    induction p with
    | one ho he hb => exact h.back _ _ _ ho he hb
    | step ho he hb _ ih => exact Nat.lt_trans ih (h.back _ _ _ ho he hb)
  have hbehind : ∀ j, Path ops j i → listed.getD j false = false := by
    intro j p
    cases hj : listed.getD j false with
    | false => rfl
    | true => have := hs.cl.path p hj; rw [hni] at this; cases this
  have hord : ∀ j, j ≠ i → (Path ops i j ∨ Path ops j i) → (listed.getD j false = true ↔ j < i) := by
    intro j _ hp
    rcases hp with hp | hp
    · exact ⟨fun _ => hback hp, fun _ => hbef j hp⟩
    · exact ⟨fun hx => (by rw [hbehind j hp] at hx; cases hx), fun hx => absurd (hback hp) (by omega)⟩
  have hself : (listed.getD i false = true ↔ i < i) := by rw [hni]; exact ⟨fun h => (by cases h), fun h => absurd h (Nat.lt_irrefl _)⟩
  have hl' : ∀ j, (listed.setIfInBounds i true).getD j false = if j = i then true else listed.getD j false := getD_set hils
  have hcl' : Closed ops (listed.setIfInBounds i true) := by
    intro j o hj ho e he hb
    rw [hl'] at hj ⊢
    split
    · rfl
    · split at hj
      · rename_i e1; subst e1
        rw [hop] at ho; simp only [Option.some.injEq] at ho; subst ho
        exact hpre e he hb
      · exact hs.cl j o hj ho e he hb
  -- the temporaries that the operation names
  have hnames : ∀ t ∈ tmpsOf ops r.o, ∀ j s, recs[j]? = some s → s.o.dst = some t → (listed.getD j false = true ↔ j < i) := by
    intro t ht j s hj hd
    rcases h.names i j r.o s.o t hop (h.op hj) hd ht with e | hp
    · subst e; exact hself
    · by_cases e : j = i
      · subst e; exact hself
      · exact hord j e hp
  have hE : EnvR φ nt (r.env.only (tmpsOf ops r.o)) a := ⟨hs.tsz, fun t v hv => by
    obtain ⟨h1, h2⟩ := only_spec hv
    exact hs.tmp t i (Nat.le_of_lt hilt) (hnames t h1) v (by rw [hpE]; exact h2)⟩
  -- two operations that write one temporary
  have hwr2 : ∀ t, r.o.dst = some t → ∀ j s, recs[j]? = some s → s.o.dst = some t → j = i ∨ (listed.getD j false = true ↔ j < i) := by
    intro t ht j s hj hd
    exact .inr (hnames t (by simp [tmpsOf, ht]) j s hj hd)
  have hmono := fun {x k : Nat} (hxk : x ≤ k) (hk : k ≤ recs.length) => pre_mono h.link h.ok hxk hk
  -- behind the operation: the temporaries
  have htmp : ∀ (φ' : PM) (v' : Value), φ.le φ' → VR φ' r.v v' → ∀ t k, k ≤ recs.length →
      (∀ j s, recs[j]? = some s → s.o.dst = some t → ((listed.setIfInBounds i true).getD j false = true ↔ j < k)) →
      ∀ v, (preE recs env' k).tm.get t = some v → ∃ u, (a.put r.o.dst v').tmps[t]? = some u ∧ VR φ' v u := by
    intro φ' v' hle hv t k hk hcond v hget
    by_cases hd : r.o.dst = some t
    · have hik : i < k := (hcond i r hr hd).1 (by rw [hl', if_pos rfl])
      have hno : ∀ j s, i + 1 ≤ j → j < k → recs[j]? = some s → s.o.dst ≠ some t := by
        intro j s h1 h2 hj hds
        have h3 := (hcond j s hj hds).2 h2
        rw [hl', if_neg (by omega)] at h3
        have h4 := (hnames t (by simp [tmpsOf, hd]) j s hj hds).1 h3
        omega
      have := (hmono (show i + 1 ≤ k by omega) hk).2.2 t hno
      rw [this, hpostE] at hget
      have hput := hrk.2.1
      unfold putA at hput
      rw [hd] at hput
      simp only [cond_eq_ite] at hput
      split at hput
      · rename_i hb
        have hb := blt_t hb
        simp only [Option.some.injEq] at hput
        rw [← hput] at hget
        rw [T.get_set_same] at hget
        simp only [Option.some.injEq] at hget
        subst hget
        exact ⟨v', by rw [hd]; simp [Act.put, hs.tsz, hb], hv⟩
      · cases hput
    · have hcond' : ∀ j s, recs[j]? = some s → s.o.dst = some t → (listed.getD j false = true ↔ j < k) := by
        intro j s hj hds
        have h1 := hcond j s hj hds
        have hne : j ≠ i := by intro e; subst e; rw [hr] at hj; simp only [Option.some.injEq] at hj; subst hj; exact hd hds
        rwa [hl', if_neg hne] at h1
      obtain ⟨u, u1, u2⟩ := hs.tmp t k hk hcond' v hget
      refine ⟨u, ?_, u2.mono hle⟩
      cases hdd : r.o.dst with
      | none => exact u1
      | some d =>
        have : d ≠ t := fun e => hd (by rw [hdd, e])
        simp only [Act.put]
        rw [Array.getElem?_setIfInBounds_ne this]; exact u1
  unfold wpOpIn
  rw [hop]
  dsimp only
  rw [wantedA_ok h.inv.pin h.inv.dec hE hrk.1]
  have hσ'le : r.σ'.next ≤ σ'.next := by
    have := (hmono (show i + 1 ≤ recs.length by omega) (Nat.le_refl _)).1.next
    rw [hpostS] at this
    have e : preS recs σ' recs.length = σ' := by simp [preS]
    rwa [e] at this
  have hσle : σ.next ≤ r.σ.next := by
    have := (hmono (Nat.zero_le i) (Nat.le_of_lt hilt)).1.next
    rw [h.link.pre.1, hpS] at this
    exact this
  cases hb : r.b with
  | false =>
    simp only [Bool.false_eq_true, if_false]
    obtain ⟨e1, e2, e3, e4⟩ := hrk.2.2.1 hb
    refine ⟨fun _ _ => trivial, hK φ _ w { hs with
      sz := by simpa using hs.sz
      cl := hcl'
      dfr := put_defers.trans hs.dfr
      tsz := by cases r.o.dst <;> simp [Act.put, hs.tsz]
      tmp := htmp φ undef φ.le_refl (by rw [e1]; exact unit_undef φ)
      rep := ?_
      fresh := ?_
      wrR := ?_ }⟩
    rotate_right
    · intro j s hj hls x hx
      rw [hl'] at hls
      split at hls
      · rename_i e; subst e
        rw [hr] at hj; simp only [Option.some.injEq] at hj; subst hj
        rw [e4] at hx; cases hx
      · exact hs.wrR j s hj hls x hx
    · intro id k hk hid hcond hD
      refine hs.rep id k hk hid (fun j s hj ht => ?_) hD
      have h1 := hcond j s hj ht
      have hne : j ≠ i := by
        intro e; subst e; rw [hr] at hj; simp only [Option.some.injEq] at hj; subst hj
        rcases ht with ht | ht
        · rw [e4] at ht; cases ht
        · rw [e2] at ht; omega
      rwa [hl', if_neg hne] at h1
    · intro j s hj hnl
      rw [hl'] at hnl
      split at hnl
      · cases hnl
      · exact hs.fresh j s hj hnl
  | true =>
    simp only [if_true]
    obtain ⟨τ, hrun, hsτ, e1, e2, e3⟩ := hrk.2.2.2 hb
    have hτn : τ.next = r.σ'.next := by rw [e1]; rfl
    have hτh : τ.heap = r.σ'.heap := by rw [e1]; rfl
    have hDk : ∀ id, (id ∈ r.rd ∨ id ∈ r.wr) → D id ∨ σ.next ≤ id := by
      intro id hid
      by_cases hn : id < σ.next
      · left
        refine h.known id ?_ hn
        have hm := (hmono (show i + 1 ≤ recs.length by omega) (Nat.le_refl _)).1
        rw [hpostS, show preS recs σ' recs.length = σ' by simp [preS]] at hm
        exact hid.imp (fun hx => hm.rd _ (hst3 _ hx)) (fun hx => hm.wr _ (hst4 _ hx))
      · exact .inr (Nat.le_of_not_lt hn)
    -- an operation that only reads one object, which others change that may be done before it or behind it
    by_cases hF : ∃ id, id ∈ r.rd ∧ r.wr = [] ∧ r.σ.next = r.σ'.next ∧ (∀ a ∈ r.rd, a = id) ∧ ∃ (j : Nat) (s : Rec), recs[j]? = some s ∧ s.touch id ∧ ¬ (listed.getD j false = true ↔ j < i)
    · obtain ⟨id, hidr, hwr0, hnx0, hone, jf, sf, hjf, htf, hnf⟩ := hF
      have hnt : ∀ x, ¬ r.touch x := by
        intro x hx
        rcases hx with hx | hx
        · rw [hwr0] at hx; cases hx
        · omega
      have hlt' : ∀ {k : Nat} {x : Rec}, recs[k]? = some x → k < recs.length := by
        intro k x hk
        rcases Nat.lt_or_ge k recs.length with h' | h'
        · exact h'
        · simp [List.getElem?_eq_none h'] at hk
      -- those that touch it and are not ordered with this one
      have hun : ∀ (j : Nat) (s : Rec), recs[j]? = some s → s.touch id → ¬ Path ops j i → ¬ Path ops i j → r.same P C ops s.σ ∧ r.same P C ops s.σ' := by
        intro j s hj ht n1 n2
        rcases h.feet j i s r id hj hr ht (.inl hidr) with e | e | e | ⟨_, hf⟩
        · subst e; rw [hr] at hj; simp only [Option.some.injEq] at hj; subst hj; exact absurd ht (hnt id)
        · exact absurd e n1
        · exact absurd e n2
        · exact ⟨hf.2.2.2.1, hf.2.2.2.2.1⟩
      have hfind : ∃ k, k ≤ recs.length ∧ (∀ (j : Nat) (s : Rec), recs[j]? = some s → s.touch id → (listed.getD j false = true ↔ j < k)) ∧
          (k < recs.length → ∃ s, recs[k]? = some s ∧ s.touch id ∧ listed.getD k false = false) := by
        by_cases hall : ∃ k, ∃ s, recs[k]? = some s ∧ s.touch id ∧ listed.getD k false = false
        · have hmin : ∃ k, (∃ s, recs[k]? = some s ∧ s.touch id ∧ listed.getD k false = false) ∧ ∀ j, j < k → ¬ ∃ s, recs[j]? = some s ∧ s.touch id ∧ listed.getD j false = false := by
            obtain ⟨k0, hk0⟩ := hall
            induction k0 using Nat.strongRecOn with
            | _ k0 ih =>
              by_cases hex : ∃ j, j < k0 ∧ ∃ s, recs[j]? = some s ∧ s.touch id ∧ listed.getD j false = false
              · obtain ⟨j, hj, hjs⟩ := hex
                exact ih j hj hjs
              · exact ⟨k0, hk0, fun j hj hjs => hex ⟨j, hj, hjs⟩⟩
          obtain ⟨k, ⟨sk, hk1, hk2, hk3⟩, hk4⟩ := hmin
          refine ⟨k, Nat.le_of_lt (hlt' hk1), fun j s hj ht => ⟨fun hl => ?_, fun hl => ?_⟩, fun _ => ⟨sk, hk1, hk2, hk3⟩⟩
          · rcases Nat.lt_or_ge j k with h' | h'
            · exact h'
            · exfalso
              have hne : j ≠ k := fun e => by subst e; rw [hk3] at hl; cases hl
              rcases h.touches hk1 hj hk2 ht hne with p | p
              · have := h.back' p; omega
              · have := hs.cl.path p hl
                rw [hk3] at this; cases this
          · cases hlj : listed.getD j false with
            | true => rfl
            | false => exact absurd ⟨s, hj, ht, hlj⟩ (hk4 j hl)
        · refine ⟨recs.length, Nat.le_refl _, fun j s hj ht => ⟨fun _ => hlt' hj, fun _ => ?_⟩, fun hx => absurd hx (Nat.lt_irrefl _)⟩
          cases hlj : listed.getD j false with
          | true => rfl
          | false => exact absurd ⟨j, s, hj, ht, hlj⟩ hall
      obtain ⟨k, hk1, hk2, hk3⟩ := hfind
      -- a state in which the object lies so, and from which the operation tells the same
      have hstate : ∃ k', k' ≤ recs.length ∧ (∀ (j : Nat) (s : Rec), recs[j]? = some s → s.touch id → (listed.getD j false = true ↔ j < k')) ∧ r.same P C ops (preS recs σ' k') := by
        rcases Nat.lt_or_ge i k with hik | hik
        · rcases last_touch recs id i k with hno | ⟨m, sm, m1, m2, m3, m4, m5⟩
          · exfalso
            apply hnf
            rw [hk2 jf sf hjf htf]
            constructor
            · intro hlt
              rcases Nat.lt_or_ge jf i with h' | h'
              · exact h'
              · exact absurd htf (hno jf sf h' hlt hjf)
            · intro hlt; omega
          · have hml : listed.getD m false = true := (hk2 m sm m3 m4).2 m2
            have hmi : m ≠ i := fun e => by subst e; rw [hr] at m3; simp only [Option.some.injEq] at m3; subst m3; exact hnt id m4
            have n1 : ¬ Path ops m i := fun p => by have := hbehind m p; rw [hml] at this; cases this
            have n2 : ¬ Path ops i m := fun p => by have := hback p; omega
            refine ⟨m + 1, by have := hlt' m3; omega, fun j s hj ht => ?_, by rw [(h.link.post m3).1]; exact (hun m sm m3 m4 n1 n2).2⟩
            rw [hk2 j s hj ht]
            constructor
            · intro hlt
              rcases Nat.lt_or_ge m j with h' | h'
              · exact absurd ht (m5 j s h' hlt hj)
              · omega
            · intro hlt; omega
        · obtain ⟨sk, g1, g2, g3⟩ := hk3 (by omega)
          have hki : k ≠ i := fun e => by subst e; rw [hr] at g1; simp only [Option.some.injEq] at g1; subst g1; exact hnt id g2
          have n1 : ¬ Path ops k i := fun p => by have := hback p; omega
          have n2 : ¬ Path ops i k := fun p => by have := hbef k p; rw [g3] at this; cases this
          exact ⟨k, hk1, hk2, by rw [preS_at g1]; exact (hun k sk g1 g2 n1 n2).1⟩
      obtain ⟨k', q1, q2, τs, q3, q4, q5, q6⟩ := hstate
      have hbase := (hmono (Nat.zero_le k') q1).1
      rw [h.link.pre.1] at hbase
      have hinv : Inv R C (fun x => x = id) φ (preS recs σ' k').bare w := {
        wf := hs.wf
        low := Nat.le_trans h.inv.low hbase.next
        rep := fun x hx hlt => by
          subst hx
          exact hs.rep x k' q1 hlt q2 (hDk x (.inl hidr))
        gl := fun g n hg => let ⟨e, he, hx⟩ := h.inv.gl g n hg; ⟨e, hs.le _ _ _ he, hx⟩
        dom := hbase.dom h.inv.dom
        pin := h.inv.pin
        dec := h.inv.dec
        wrR := fun i hi => by cases hi
        ro := hs.ro, oh := h.inv.oh }
      have hsτs : StepA (preS recs σ' k').bare τs := opA_steps (P := P) (C := C) τs (by rw [q3]; rfl)
      have hgrl : ∀ {φ' : PM} {w' : World}, Post R (fun x => x = id) φ (preS recs σ' k').bare w τs φ' w' → ∀ x v, φ' x v = φ x v := by
        intro φ' w' hp x v
        refine hp.grow x (.inl (by rw [q4]; simp)) (fun hc => ?_) v
        have h2 : x < τs.next := hc.2
        rw [q5] at h2
        have h1 : (preS recs σ' k').next ≤ x := hc.1
        omega
      refine in_val hinv hE q3 (fun x hx _ => ?_) (fun x h1 h2 v => ?_) fun φ' v' w' hv hp => hK φ' _ w' {
        sz := by simpa using hs.sz
        cl := hcl'
        wf := hp.wf
        dfr := put_defers.trans hs.dfr
        tsz := by cases r.o.dst <;> simp [Act.put, hs.tsz]
        tmp := htmp φ' v' hp.le hv
        rep := ?_
        fresh := ?_
        le := hs.le.trans hp.le
        grow := ?_
        blk := ?_
        frm := ?_
        wrR := ?_
        ro := (hp.inv hinv hsτs).ro }
      · rcases hx with hx | hx
        · exact hone x (q6 x hx)
        · rw [q4] at hx; cases hx
      · have h2 : x < τs.next := h2
        rw [q5] at h2
        have h1 : (preS recs σ' k').next ≤ x := h1
        omega
      all_goals have hgr := hgrl hp
      · intro x kk hkk hid hcond hD
        refine (hs.rep x kk hkk hid (fun j s hj ht => ?_) hD).frame hp.le (fun v => hgr x v) fun v e he => ?_
        · have h1 := hcond j s hj ht
          have hne : j ≠ i := by intro e; subst e; rw [hr] at hj; simp only [Option.some.injEq] at hj; subst hj; exact hnt x ht
          rwa [hl', if_neg hne] at h1
        · refine hp.frm.keep _ (hs.wf.lt _ _ _ he) fun y hy => ?_
          rw [q4] at hy; cases hy
      · intro j s hj hnl x h1 h2 v
        rw [hl'] at hnl
        split at hnl
        · cases hnl
        · rw [hgr]; exact hs.fresh j s hj hnl x h1 h2 v
      · intro x hx hn v
        rw [hgr]; exact hs.grow x hx hn v
      · intro x v e he
        rw [hgr] at he
        exact hs.blk x v e he
      · exact {
          size := Nat.le_trans hs.frm.size hp.frm.size
          keep := fun b hb hne => by
            rw [hp.frm.keep b (Nat.lt_of_lt_of_le hb hs.frm.size) (fun x hx => by rw [q4] at hx; cases hx)]
            exact hs.frm.keep b hb hne
          os := hp.frm.os.trans hs.frm.os
          out := hp.frm.out.trans hs.frm.out
          tape := hp.frm.tape.trans hs.frm.tape }
      · intro j s hj hls x hx
        rw [hl'] at hls
        split at hls
        · rename_i e; subst e
          rw [hr] at hj; simp only [Option.some.injEq] at hj; subst hj
          rw [hwr0] at hx; cases hx
        · exact hs.wrR j s hj hls x hx
    -- the objects that the operation touches are known
    have hDi : ∀ id, (id ∈ r.rd ∨ id ∈ r.wr) → id < r.σ.next → Rep R φ w id (r.σ.heap.get id) := by
      intro id hid hlt
      have := hs.rep id i (Nat.le_of_lt hilt) (by rw [hpS]; exact hlt) (fun j s hj ht => by
        by_cases e : j = i
        · subst e; exact hself
        rcases h.feet j i s r id hj hr ht hid with e' | hp | hp | ⟨hir, hf⟩
        · exact absurd e' e
        · exact hord j e (.inr hp)
        · exact hord j e (.inl hp)
        · by_cases hc : (listed.getD j false = true ↔ j < i)
          · exact hc
          · exact absurd ⟨id, hir, hf.1, hf.2.1, hf.2.2.1, j, s, hj, ht, hc⟩ hF) (hDk id hid)
      rwa [hpS] at this
    have hinv : Inv R C (fun id => id ∈ r.rd ∨ id ∈ r.wr) φ r.σ.bare w := {
      wf := hs.wf
      low := Nat.le_trans h.inv.low hσle
      rep := fun id hid hlt => hDi id hid hlt
      gl := fun g n hg => let ⟨e, he, hx⟩ := h.inv.gl g n hg; ⟨e, hs.le _ _ _ he, hx⟩
      dom := by
        have := (hmono (Nat.zero_le i) (Nat.le_of_lt hilt)).1
        rw [h.link.pre.1, hpS] at this
        exact this.dom h.inv.dom
      pin := h.inv.pin
      dec := h.inv.dec
      wrR := fun i hi => by cases hi
      ro := hs.ro, oh := h.inv.oh }
    have hkn : Known (fun id => id ∈ r.rd ∨ id ∈ r.wr) r.σ.bare τ := fun id hid _ => by rw [e2, e3]; exact hid
    have hfr : Free φ r.σ.bare τ := fun id h1 h2 v => hs.fresh i r hr hni id h1 (by rw [← hτn]; exact h2) v
    have hfin : ∀ φ' v' w', VR φ' r.v v' → Post R (fun id => id ∈ r.rd ∨ id ∈ r.wr) φ r.σ.bare w τ φ' w' → K (a.put r.o.dst v') w' := by
      intro φ' v' w' hv hp
      have hwrR : ∀ x ∈ τ.wr, R ≤ x := fun x hx => (hp.wrR x hx).resolve_left (by simp [St.bare])
      have hm := (hmono (show i + 1 ≤ recs.length by omega) (Nat.le_refl _)).1
      rw [hpostS, show preS recs σ' recs.length = σ' by simp [preS]] at hm
      have hwrσ : ∀ x ∈ τ.wr, x ∈ σ'.wr := fun x hx => hm.wr _ (hst4 _ (by rw [e3]; exact hx))
      -- two operations that touch one object are ordered
      have htouch : ∀ id, r.touch id → ∀ j s, recs[j]? = some s → s.touch id → j ≠ i → (listed.getD j false = true ↔ j < i) := fun id ht j s hj hts hne => hord j hne (h.touches hr hj ht hts hne)
      refine hK φ' _ w' {
        sz := by simpa using hs.sz
        cl := hcl'
        wf := hp.wf
        dfr := put_defers.trans hs.dfr
        tsz := by cases r.o.dst <;> simp [Act.put, hs.tsz]
        tmp := htmp φ' v' hp.le hv
        rep := ?_
        fresh := ?_
        le := hs.le.trans hp.le
        grow := ?_
        blk := ?_
        frm := ?_
        wrR := ?_
        ro := (hp.inv hinv hsτ).ro }
      rotate_right
      · intro j s hj hls x hx
        rw [hl'] at hls
        split at hls
        · rename_i e; subst e
          rw [hr] at hj; simp only [Option.some.injEq] at hj; subst hj
          exact hwrR x (by rw [← e3]; exact hx)
        · exact hs.wrR j s hj hls x hx
      · intro id k hk hid hcond hD
        by_cases ht : r.touch id
        · have hik : i < k := (hcond i r hr ht).1 (by rw [hl', if_pos rfl])
          have hno : ∀ j s, i + 1 ≤ j → j < k → recs[j]? = some s → ¬ s.touch id := by
            intro j s h1 h2 hj hts
            have h3 := (hcond j s hj hts).2 h2
            rw [hl', if_neg (by omega)] at h3
            have h4 := (htouch id ht j s hj hts (by omega)).1 h3
            omega
          -- the object is there behind the operation
          have hidn : id < r.σ'.next := by
            rcases ht with hw | hcr
            · rcases Nat.lt_or_ge id r.σ'.next with h' | h'
              · exact h'
              · exfalso
                have : ∀ n, i + 1 + n ≤ k → (preS recs σ' (i + 1 + n)).next ≤ id := by
                  intro n
                  induction n with
                  | zero => intro _; rw [hpostS]; exact h'
                  | succ n ih =>
                    intro hn
                    have ih := ih (by omega)
                    rcases Nat.lt_or_ge id (preS recs σ' (i + 1 + n + 1)).next with h2 | h2
                    · exfalso
                      have hlt : i + 1 + n < recs.length := by omega
                      have hj : recs[i + 1 + n]? = some recs[i + 1 + n] := List.getElem?_eq_getElem hlt
                      rw [preS_at hj] at ih
                      rw [(h.link.post hj).1] at h2
                      exact hno _ _ (by omega) (by omega) hj (.inr ⟨ih, h2⟩)
                    · exact h2
                have := this (k - (i + 1)) (by omega)
                rw [show i + 1 + (k - (i + 1)) = k by omega] at this
                omega
            · exact hcr.2
          have hkeep := (hmono (show i + 1 ≤ k by omega) hk).2.1 id (by rw [hpostS]; exact hidn) hno
          rw [hkeep, hpostS, ← hτh]
          refine hp.rep id ?_
          by_cases hlt : id < r.σ.next
          · left
            refine ⟨?_, hlt⟩
            rcases ht with hw | hcr
            · exact .inr hw
            · omega
          · exact .inr ⟨Nat.le_of_not_lt hlt, by rw [hτn]; exact hidn⟩
        · have hcond' : ∀ j s, recs[j]? = some s → s.touch id → (listed.getD j false = true ↔ j < k) := by
            intro j s hj hts
            have h1 := hcond j s hj hts
            have hne : j ≠ i := by intro e; subst e; rw [hr] at hj; simp only [Option.some.injEq] at hj; subst hj; exact ht hts
            rwa [hl', if_neg hne] at h1
          have hnw : id ∉ τ.wr := fun hw => ht (.inl (by rw [e3]; exact hw))
          refine (hs.rep id k hk hid hcond' hD).frame hp.le (fun v => hp.grow id (.inl hnw) (fun hx => ht (.inr ⟨hx.1, by rw [← hτn]; exact hx.2⟩)) v) fun v e he => ?_
          refine hp.frm.keep _ (hs.wf.lt _ _ _ he) fun x hx u f hf heq => ?_
          rcases hs.wf.inj _ _ _ _ _ _ hf he heq with hh | hh
          · exact hnw (hh ▸ hx)
          · exact absurd hh.1 (Nat.not_lt.2 (hwrR x hx))
      · intro j s hj hnl id h1 h2 v
        rw [hl'] at hnl
        split at hnl
        · cases hnl
        · rename_i hne
          have hjlt : j < recs.length := by
            rcases Nat.lt_or_ge j recs.length with h' | h'
            · exact h'
            · simp [List.getElem?_eq_none h'] at hj
          rw [hp.grow id ?_ ?_ v]
          · exact hs.fresh j s hj hnl id h1 h2 v
          · rcases Nat.lt_or_gt_of_ne hne with hlt | hgt
            · left
              intro hw
              have := (htouch id (.inl (by rw [e3]; exact hw)) j s hj (.inr ⟨h1, h2⟩) hne).2 hlt
              rw [hnl] at this; cases this
            · right
              have := (hmono (show i + 1 ≤ j by omega) (Nat.le_of_lt hjlt)).1.next
              rw [hpostS, preS_at hj] at this
              rw [hτn]; omega
          · intro hx
            have hx2 : id < r.σ'.next := by rw [← hτn]; exact hx.2
            have hx1 : r.σ.next ≤ id := hx.1
            rcases Nat.lt_or_gt_of_ne hne with hlt | hgt
            · have := (hmono (show j + 1 ≤ i by omega) (Nat.le_of_lt hilt)).1.next
              rw [(h.link.post hj).1, hpS] at this
              omega
            · have := (hmono (show i + 1 ≤ j by omega) (Nat.le_of_lt hjlt)).1.next
              rw [hpostS, preS_at hj] at this
              omega
      · intro x hx hn v
        rw [hp.grow x ?_ ?_ v]
        · exact hs.grow x hx hn v
        · rcases hx with hx | hx
          · exact .inl fun hw => hx (hwrσ x hw)
          · right; rw [hτn]; omega
        · intro hc
          have hc2 : x < r.σ'.next := by rw [← hτn]; exact hc.2
          have hc1 : r.σ.next ≤ x := hc.1
          exact hn ⟨by omega, by omega⟩
      · intro x v e he
        rcases hp.blk x v e he with ⟨u, f, hf, hbk⟩ | hbk
        · rcases hs.blk x u f hf with ⟨u', f', hf', hbk'⟩ | hbk'
          · exact .inl ⟨u', f', hf', hbk'.trans hbk⟩
          · exact .inr (hbk ▸ hbk')
        · exact .inr (Nat.le_trans hs.frm.size hbk)
      · exact {
          size := Nat.le_trans hs.frm.size hp.frm.size
          keep := fun b hb hne => by
            rw [hp.frm.keep b (Nat.lt_of_lt_of_le hb hs.frm.size) ?_]
            · exact hs.frm.keep b hb hne
            · intro x hx v e he
              rcases hs.blk x v e he with ⟨u, f, hf, hbf⟩ | hbf
              · rw [← hbf]; exact hne x (hwrσ x hx) u f hf
              · exact fun heq => absurd hb (Nat.not_lt.2 (heq ▸ hbf))
          os := hp.frm.os.trans hs.frm.os
          out := hp.frm.out.trans hs.frm.out
          tape := hp.frm.tape.trans hs.frm.tape }
    rcases hrun with hval | ⟨f, args, τ₀, hcall, hret, hss⟩
    · exact in_val hinv hE hval hkn hfr hfin
    · exact in_call hc hinv hE hcall hret hss hkn hfr hfin
end
end Go.Tw
namespace Go.Tw
section
variable [Val]
variable {P : Program} {R : Nat} {C : Cfg}
variable {call : Cle → List AV → St → CR} {nt : Nat} {ops : Array Oper} {recs : List Rec} {env env' : Env} {σ σ' : St} {D : Nat → Prop} {φ₀ : PM} {w₀ : World}
def left (n : Nat) (listed : Array Bool) : Nat := ((List.range n).filter fun i => !listed.getD i false).length
omit [Val] in
theorem left_set {n : Nat} {listed : Array Bool} {i : Nat} (hi : i < n) (hl : i < listed.size) (hf : listed.getD i false = false) : left n (listed.setIfInBounds i true) + 1 = left n listed := by
  unfold left
  have key : ∀ m, (i < m → ((List.range m).filter fun j => !(listed.setIfInBounds i true).getD j false).length + 1 = ((List.range m).filter fun j => !listed.getD j false).length) ∧
      (m ≤ i → ((List.range m).filter fun j => !(listed.setIfInBounds i true).getD j false).length = ((List.range m).filter fun j => !listed.getD j false).length) := by
    intro m
    induction m with
    | zero => exact ⟨fun h => absurd h (Nat.not_lt_zero _), fun _ => rfl⟩
    | succ m ih =>
      simp only [List.range_succ, List.filter_append, List.length_append]
      have hg := getD_set hl m
      refine ⟨fun h => ?_, fun h => ?_⟩
      · by_cases e : m = i
        · subst e
          have := ih.2 (Nat.le_refl _)
          rw [if_pos rfl] at hg
          rw [this]
          simp only [List.filter_cons, List.filter_nil, hg, hf]
          simp
        · have := ih.1 (by omega)
          rw [if_neg e] at hg
          simp only [List.filter_cons, List.filter_nil, hg]
          omega
      · have := ih.2 (by omega)
        rw [if_neg (by omega)] at hg
        simp only [List.filter_cons, List.filter_nil, hg]
        omega
  exact (key n).1 hi
omit [Val] in
theorem left_zero {n : Nat} {listed : Array Bool} (h : left n listed = 0) {i : Nat} (hi : i < n) : listed.getD i false = true := by
  unfold left at h
  have := List.length_eq_zero_iff.1 h
  have := List.filter_eq_nil_iff.1 this i (List.mem_range.2 hi)
  simpa using this
omit [Val] in
theorem getD_tf {listed : Array Bool} {i : Nat} (h : i < listed.size) : listed.getD i true = listed.getD i false := by
  simp [Array.getD_eq_getD_getElem?, h]
omit [Val] in
theorem ready_spec {listed : Array Bool} (hsz : listed.size = ops.size) {i : Nat} (h : i ∈ Region.ready .any ops listed) :
    ∃ o, ops[i]? = some o ∧ i < ops.size ∧ listed.getD i false = false ∧ ∀ e ∈ o.after, Region.binds .any e = true → listed.getD e.on false = true := by
  unfold Region.ready at h
  rw [List.mem_filter] at h
  obtain ⟨h1, h2⟩ := h
  have hi := List.mem_range.1 h1
  rw [Bool.and_eq_true] at h2
  obtain ⟨h3, h4⟩ := h2
  rw [Array.getElem?_eq_getElem hi] at h4
  refine ⟨ops[i], Array.getElem?_eq_getElem hi, hi, ?_, ?_⟩
  · rw [← getD_tf (by omega)]; simpa using h3
  · intro e he hb
    simp only [Option.map_some, Option.getD_some, Array.all_eq_true_iff_forall_mem] at h4
    have := h4 e he
    simpa [hb] using this
theorem ready_nil (h : Region0 P R C call nt ops recs env env' σ σ' D φ₀ w₀) {listed : Array Bool} (hsz : listed.size = ops.size) (hr : Region.ready .any ops listed = []) :
    ∀ i, i < ops.size → listed.getD i false = true := by
  intro i
  induction i using Nat.strongRecOn with
  | _ i ih =>
    intro hi
    cases hl : listed.getD i false with
    | true => rfl
    | false =>
      exfalso
      have hmem : i ∈ Region.ready .any ops listed := by
        unfold Region.ready
        rw [List.mem_filter]
        refine ⟨List.mem_range.2 hi, ?_⟩
        rw [Bool.and_eq_true]
        refine ⟨by rw [getD_tf (by omega), hl]; rfl, ?_⟩
        rw [Array.getElem?_eq_getElem hi]
        simp only [Option.map_some, Option.getD_some, Array.all_eq_true_iff_forall_mem]
        intro e he
        cases hb : Region.binds .any e with
        | false => simp
        | true =>
          have hlt := h.back i _ e (Array.getElem?_eq_getElem hi) he hb
          simp [ih e.on hlt (by omega)]
      rw [hr] at hmem
      cases hmem
omit [Val] in
theorem wr_of : ∀ {recs : List Rec} {env : Env} {σ : St}, Linked recs env σ env' σ' → (∀ r ∈ recs, r.fine P C call nt ops) → ∀ {x : Nat}, x ∈ σ'.wr → x ∈ σ.wr ∨ ∃ (j : Nat) (r : Rec), recs[j]? = some r ∧ x ∈ r.wr := by
  intro recs
  induction recs with
  | nil => intro env σ h _ x hx; obtain ⟨_, rfl⟩ := h; exact .inl hx
  | cons r rs ih =>
    intro env σ h hok x hx
    obtain ⟨_, h2, h3⟩ := h
    rcases ih h3 (fun r hr => hok r (by simp [hr])) hx with hx | ⟨j, s, hj, hx⟩
    · have hr := hok r (by simp)
      rcases hr with hr | ⟨_, _, e2, _, _⟩ | ⟨_, _, _, _, _, _, _, τ, _, _, _, _, e1, _, e3⟩
      · cases hb : r.b with
        | false =>
          obtain ⟨_, e2, _, _⟩ := hr.2.2.1 hb
          rw [e2, h2] at hx
          exact .inl hx
        | true =>
          obtain ⟨τ, _, _, e1, _, e3⟩ := hr.2.2.2 hb
          rw [e1] at hx
          rcases List.mem_append.1 hx with hx | hx
          · exact .inr ⟨0, r, rfl, by rw [e3]; exact hx⟩
          · rw [h2] at hx; exact .inl hx
      · rw [e2, h2] at hx
        exact .inl hx
      · rw [e1] at hx
        rcases List.mem_append.1 hx with hx | hx
        · exact .inr ⟨0, r, rfl, by rw [e3]; exact hx⟩
        · rw [h2] at hx; exact .inl hx
    · exact .inr ⟨j + 1, s, by simpa using hj, hx⟩
omit [Val] in
theorem linked_keep : ∀ {recs : List Rec} {env : Env} {σ : St}, Linked recs env σ env' σ' → (∀ r ∈ recs, r.fine P C call nt ops) → env'.ds = env.ds ∧ env'.md = env.md ∧ env'.rd = env.rd := by
  intro recs
  induction recs with
  | nil => intro env σ h _; obtain ⟨rfl, _⟩ := h; exact ⟨rfl, rfl, rfl⟩
  | cons r rs ih =>
    intro env σ h hok
    obtain ⟨h1, h2, h3⟩ := h
    obtain ⟨p1, p2, p3⟩ := ih h3 (fun r hr => hok r (by simp [hr]))
    have hq : r.env'.ds = r.env.ds ∧ r.env'.md = r.env.md ∧ r.env'.rd = r.env.rd := by
      rcases hok r (by simp) with hr | ⟨_, e, _⟩ | ⟨_, _, e, _⟩
      · exact putA_keep hr.2.1
      · rw [e]; exact ⟨rfl, rfl, rfl⟩
      · rw [e]; exact ⟨rfl, rfl, rfl⟩
    obtain ⟨q1, q2, q3⟩ := hq
    rw [h1] at q1 q2 q3
    exact ⟨p1.trans q1, p2.trans q2, p3.trans q3⟩
theorem stage_any {ro : Option Nat} {ds0 : List Deferred} (hc : CallOk P R C call) (hcs : CallSteps call) (h : Region0 P R C call nt ops recs env env' σ σ' D φ₀ w₀)
    (hallok : ∀ (j : Nat) (r : Rec), recs[j]? = some r → r.ok P C call nt ops) {Q : Exit → Act → World → Prop}
    (hQ : ∀ φ' a' w', EnvR φ' nt env' a' → a'.defers = ds0 → Post R D φ₀ σ w₀ σ' φ' w' → Q .normal a' w') :
    ∀ (fuel : Nat) (listed : Array Bool) (a : Act) (w : World) (φ : PM), Stage R C nt ds0 ops recs env' σ σ' D φ₀ w₀ listed a w φ → left ops.size listed = fuel →
      wpAnyIn (wideR ro) 0 P .any ops Q fuel listed a w := by
  have hlen := h.len
  have hend : ∀ (listed : Array Bool) (a : Act) (w : World) (φ : PM), Stage R C nt ds0 ops recs env' σ σ' D φ₀ w₀ listed a w φ → (∀ i, i < ops.size → listed.getD i false = true) → Q .normal a w := by
    intro listed a w φ hs hall
    have hallr : ∀ j r, recs[j]? = some r → (listed.getD j false = true ↔ j < recs.length) := by
      intro j r hj
      have hjlt : j < recs.length := by
        rcases Nat.lt_or_ge j recs.length with h' | h'
        · exact h'
        · simp [List.getElem?_eq_none h'] at hj
      exact ⟨fun _ => hjlt, fun _ => hall j (by omega)⟩
    have eS : preS recs σ' recs.length = σ' := by simp [preS]
    have eE : preE recs env' recs.length = env' := by simp [preE]
    refine hQ φ a w ⟨hs.tsz, fun t v hv => hs.tmp t recs.length (Nat.le_refl _) (fun j r hj _ => hallr j r hj) v (by rw [eE]; exact hv)⟩ hs.dfr {
      le := hs.le
      grow := hs.grow
      wrR := ?_
      wf := hs.wf
      blk := hs.blk
      rep := ?_
      frm := hs.frm }
    · intro x hx
      rcases wr_of h.link h.ok hx with hx | ⟨j, r, hj, hx⟩
      · exact .inl hx
      · exact .inr (hs.wrR j r hj ((hallr j r hj).2 ((hallr j r hj).1 (hall j (by
          have hjlt : j < recs.length := by
            rcases Nat.lt_or_ge j recs.length with h' | h'
            · exact h'
            · simp [List.getElem?_eq_none h'] at hj
          omega)))) x hx)
    · intro id hid
      have hmono := (pre_mono h.link h.ok (Nat.zero_le recs.length) (Nat.le_refl _)).1
      rw [h.link.pre.1, eS] at hmono
      have := hs.rep id recs.length (Nat.le_refl _) (by
        rw [eS]
        rcases hid with ⟨_, h2⟩ | ⟨_, h2⟩
        · exact Nat.lt_of_lt_of_le h2 hmono.next
        · exact h2) (fun j r hj _ => hallr j r hj) (by
        rcases hid with ⟨h1, _⟩ | ⟨h1, _⟩
        · exact .inl h1
        · exact .inr h1)
      rwa [eS] at this
  intro fuel
  induction fuel with
  | zero =>
    intro listed a w φ hs hf
    have hall : ∀ i, i < ops.size → listed.getD i false = true := fun i hi => left_zero hf hi
    refine ⟨?_, hend listed a w φ hs hall⟩
    apply List.eq_nil_iff_forall_not_mem.2
    intro i hi
    obtain ⟨o, _, hlt, hl, _⟩ := ready_spec hs.sz hi
    rw [hall i hlt] at hl
    cases hl
  | succ fuel ih =>
    intro listed a w φ hs hf
    refine ⟨fun hr => hend listed a w φ hs (ready_nil h hs.sz hr), fun i hi => ?_⟩
    obtain ⟨o, ho, hlt, hl, hpre⟩ := ready_spec hs.sz hi
    obtain ⟨r, hr, hro⟩ := h.recOf ho
    refine stage_next hc hcs h hs hr (hallok i r hr) hl (by rw [hro]; exact hpre) fun φ' a' w' hs' => ih _ a' w' φ' hs' ?_
    have := left_set (n := ops.size) hlt (by rw [hs.sz]; exact hlt) hl
    omega
omit [Val] in
theorem get_delT {t : Tmp} {v : AV} : ∀ {l : List Oper} {m : T AV}, (delT l m).get t = some v → m.get t = some v ∧ ∀ o ∈ l, o.dst ≠ some t := by
  intro l
  induction l with
  | nil => intro m h; exact ⟨h, by simp⟩
  | cons o l ih =>
    intro m h
    unfold delT at h
    split at h
    · rename_i d hd
      obtain ⟨h1, h2⟩ := ih h
      rw [T.get_del] at h1
      split at h1
      · cases h1
      · rename_i hne
        exact ⟨h1, fun o' ho' => by
          rcases List.mem_cons.1 ho' with rfl | ho'
          · rw [hd]; simp only [ne_eq, Option.some.injEq]; exact fun e => hne e.symm
          · exact h2 o' ho'⟩
    · rename_i hd
      obtain ⟨h1, h2⟩ := ih h
      exact ⟨h1, fun o' ho' => by
        rcases List.mem_cons.1 ho' with rfl | ho'
        · rw [hd]; simp
        · exact h2 o' ho'⟩
theorem Region0.maker (h : Region0 P R C call nt ops recs env env' σ σ' D φ₀ w₀) {id a : Nat} : ∀ b, a ≤ b → b ≤ recs.length → (preS recs σ' a).next ≤ id → id < (preS recs σ' b).next →
    ∃ (j : Nat) (r : Rec), a ≤ j ∧ j < b ∧ recs[j]? = some r ∧ r.σ.next ≤ id ∧ id < r.σ'.next := by
  intro b
  induction b with
  | zero => intro hab _ h1 h2; have : a = 0 := by omega
            subst this; omega
  | succ b ih =>
    intro hab hb h1 h2
    by_cases e : a = b + 1
    · subst e; omega
    · have hlt : b < recs.length := by omega
      have hj : recs[b]? = some recs[b] := List.getElem?_eq_getElem hlt
      rw [(h.link.post hj).1] at h2
      rcases Nat.lt_or_ge id (preS recs σ' b).next with h3 | h3
      · obtain ⟨j, r, g1, g2, g3⟩ := ih (by omega) (by omega) h1 h3
        exact ⟨j, r, g1, by omega, g3⟩
      · rw [preS_at hj] at h3
        exact ⟨b, _, by omega, by omega, hj, h3, h2⟩
theorem stage_pan {ro : Option Nat} {ds0 : List Deferred} (hc : CallOk P R C call) (hcs : CallSteps call) (h : Region0 P R C call nt ops recs env env' σ σ' D φ₀ w₀) {ip : Nat} {chain : List (AV × Bool)}
    (hip : ∃ r : Rec, recs[ip]? = some r ∧ r.pans P C call ops chain) (hkind : ∀ (j : Nat) (r : Rec), recs[j]? = some r → j ≠ ip → r.ok P C call nt ops ∨ (r.idle ∧ Path ops j ip))
    {hp : T Ob} (hgone : ∀ (j : Nat) (r : Rec) (id : Nat), recs[j]? = some r → j ≠ ip → r.touch id → ¬ Path ops ip j → σ.next ≤ id ∧ (hp.get id = none ∨ hp.get id = some .dead))
    (hkill : Killed σ.next σ'.heap hp) {Q : Exit → Act → World → Prop}
    (hQ : ∀ φ' a' c' w', EnvR φ' nt { env' with tm := delT ops.toList env'.tm } a' → a'.defers = ds0 → ChainR φ' chain c' → Post R D φ₀ σ w₀ { σ' with heap := hp } φ' w' → Q (.panic c') a' w') :
    ∀ (fuel : Nat) (listed : Array Bool) (a : Act) (w : World) (φ : PM), Stage R C nt ds0 ops recs env' σ σ' D φ₀ w₀ listed a w φ → listed.getD ip false = false → left ops.size listed = fuel →
      wpAnyIn (wideR ro) 0 P .any ops Q fuel listed a w := by
  have hlen := h.len
  obtain ⟨rp, hrp, hpan⟩ := hip
  have hlt : ∀ {k : Nat} {x : Rec}, recs[k]? = some x → k < recs.length := by
    intro k x hk
    rcases Nat.lt_or_ge k recs.length with h' | h'
    · exact h'
    · simp [List.getElem?_eq_none h'] at hk
  have hipl : ip < ops.size := by rw [← hlen]; exact hlt hrp
  have hmono := fun {x k : Nat} (hxk : x ≤ k) (hk : k ≤ recs.length) => pre_mono h.link h.ok hxk hk
  have eS : preS recs σ' recs.length = σ' := by simp [preS]
  have eE : preE recs env' recs.length = env' := by simp [preE]
  -- the panic itself
  have hend : ∀ (listed : Array Bool) (a : Act) (w : World) (φ : PM), Stage R C nt ds0 ops recs env' σ σ' D φ₀ w₀ listed a w φ → listed.getD ip false = false →
      (∀ e ∈ rp.o.after, Region.binds .any e = true → listed.getD e.on false = true) → ∀ (K : Act → World → Prop), wpOpIn (wideR ro) 0 P ops Q ip K a w := by
    intro listed a w φ hs hni hpre K
    have hop := h.op hrp
    have hilt := hlt hrp
    obtain ⟨hb, henv, hwant, f, args, τ₀, τ, hcall, hret, hss, hsτ, e1, e2, e3⟩ := hpan
    obtain ⟨hpostS, hpostE⟩ := h.link.post hrp
    have hpS : preS recs σ' ip = rp.σ := preS_at hrp
    have hpE : preE recs env' ip = rp.env := preE_at hrp
    have hτn : τ.next = rp.σ'.next := by rw [e1]; rfl
    have hτh : τ.heap = rp.σ'.heap := by rw [e1]; rfl
    have hbef : ∀ j, Path ops ip j → listed.getD j false = true := by
      intro j p
      cases p with
      | one ho he hb => rw [hop] at ho; simp only [Option.some.injEq] at ho; subst ho; exact hpre _ he hb
      | step ho he hb p => rw [hop] at ho; simp only [Option.some.injEq] at ho; subst ho; exact hs.cl.path p (hpre _ he hb)
    have hbehind : ∀ j, Path ops j ip → listed.getD j false = false := by
      intro j p
      cases hj : listed.getD j false with
      | false => rfl
      | true => have := hs.cl.path p hj; rw [hni] at this; cases this
    have hord : ∀ j, j ≠ ip → (Path ops ip j ∨ Path ops j ip) → (listed.getD j false = true ↔ j < ip) := by
      intro j _ hp
      rcases hp with hp | hp
      · exact ⟨fun _ => h.back' hp, fun _ => hbef j hp⟩
      · exact ⟨fun hx => (by rw [hbehind j hp] at hx; cases hx), fun hx => absurd (h.back' hp) (by omega)⟩
    have hself : (listed.getD ip false = true ↔ ip < ip) := by rw [hni]; exact ⟨fun h => (by cases h), fun h => absurd h (Nat.lt_irrefl _)⟩
    have hnames : ∀ t ∈ tmpsOf ops rp.o, ∀ (j : Nat) (s : Rec), recs[j]? = some s → s.o.dst = some t → (listed.getD j false = true ↔ j < ip) := by
      intro t ht j s hj hd
      by_cases e : j = ip
      · subst e; exact hself
      rcases h.names ip j rp.o s.o t hop (h.op hj) hd ht with e' | hp
      · exact absurd e'.symm e
      · exact hord j e hp
    have hE : EnvR φ nt (rp.env.only (tmpsOf ops rp.o)) a := ⟨hs.tsz, fun t v hv => by
      obtain ⟨h1, h2⟩ := only_spec hv
      exact hs.tmp t ip (Nat.le_of_lt hilt) (hnames t h1) v (by rw [hpE]; exact h2)⟩
    obtain ⟨hst, hst2, hst3, hst4⟩ := (h.ok rp (List.mem_of_getElem? hrp)).step
    have hm1 := (hmono (show ip + 1 ≤ recs.length by omega) (Nat.le_refl _)).1
    rw [hpostS, eS] at hm1
    have hm0 := (hmono (Nat.zero_le ip) (Nat.le_of_lt hilt)).1
    rw [h.link.pre.1, hpS] at hm0
    -- a float does not panic
    have hnofl : ∀ (s : Rec) (id : Nat), ¬ s.floats P C ops rp id := by
      intro s id hf
      obtain ⟨_, _, _, _, _, τ', q, _⟩ := hf
      rw [hcall] at q; cases q
    have hDi : ∀ id, (id ∈ rp.rd ∨ id ∈ rp.wr) → id < rp.σ.next → Rep R φ w id (rp.σ.heap.get id) := by
      intro id hid hl
      have := hs.rep id ip (Nat.le_of_lt hilt) (by rw [hpS]; exact hl) (fun j s hj ht => by
        by_cases e : j = ip
        · subst e; exact hself
        rcases h.feet j ip s rp id hj hrp ht hid with e' | hp | hp | ⟨_, hf⟩
        · exact absurd e' e
        · exact hord j e (.inr hp)
        · exact hord j e (.inl hp)
        · exact absurd hf (hnofl s id)) (by
        by_cases hn : id < σ.next
        · left
          exact h.known id (hid.imp (fun hx => hm1.rd _ (hst3 _ hx)) (fun hx => hm1.wr _ (hst4 _ hx))) hn
        · exact .inr (Nat.le_of_not_lt hn))
      rwa [hpS] at this
    have hinv : Inv R C (fun id => id ∈ rp.rd ∨ id ∈ rp.wr) φ rp.σ.bare w := {
      wf := hs.wf
      low := Nat.le_trans h.inv.low hm0.next
      rep := fun id hid hl => hDi id hid hl
      gl := fun g n hg => let ⟨e, he, hx⟩ := h.inv.gl g n hg; ⟨e, hs.le _ _ _ he, hx⟩
      dom := hm0.dom h.inv.dom
      pin := h.inv.pin
      dec := h.inv.dec
      wrR := fun i hi => by cases hi
      ro := hs.ro, oh := h.inv.oh }
    unfold wpOpIn
    rw [hop]
    dsimp only
    rw [wantedA_ok h.inv.pin h.inv.dec hE hwant]
    simp only [if_true]
    refine in_pan hc hinv hE hcall hret hss (fun id hid _ => by rw [e2, e3]; exact hid) (fun id h1 h2 v => hs.fresh ip rp hrp hni id h1 (by rw [← hτn]; exact h2) v) fun φ' c' w' hch hpo => ?_
    have hwrR : ∀ x ∈ τ.wr, R ≤ x := fun x hx => (hpo.wrR x hx).resolve_left (by simp [St.bare])
    have hwrσ : ∀ x ∈ τ.wr, x ∈ σ'.wr := fun x hx => hm1.wr _ (hst4 _ (by rw [e3]; exact hx))
    refine hQ φ' a c' w' ⟨hs.tsz, fun t v hv => ?_⟩ hs.dfr hch {
      le := hs.le.trans hpo.le
      grow := ?_
      wrR := ?_
      wf := hpo.wf
      blk := ?_
      rep := ?_
      frm := ?_ }
    · obtain ⟨g1, g2⟩ := get_delT hv
      obtain ⟨v', k1, k2⟩ := hs.tmp t recs.length (Nat.le_refl _) (fun j r hj hd => by
        have hj2 := h.op hj
        exact absurd hd (g2 r.o (by rw [← Array.getElem?_toList] at hj2; exact List.mem_of_getElem? hj2))) v (by rw [eE]; exact g1)
      exact ⟨v', k1, k2.mono hpo.le⟩
    · intro x hx hn v
      rw [hpo.grow x ?_ ?_ v]
      · exact hs.grow x hx hn v
      · rcases hx with hx | hx
        · exact .inl fun hw => hx (hwrσ x hw)
        · right
          have hx : σ'.next ≤ x := hx
          rw [hτn]; exact Nat.le_trans hm1.next hx
      · intro hcc
        have hc2 : x < rp.σ'.next := by rw [← hτn]; exact hcc.2
        have hc1 : rp.σ.next ≤ x := hcc.1
        exact hn ⟨Nat.le_trans hm0.next hc1, Nat.lt_of_lt_of_le hc2 hm1.next⟩
    · intro x hx
      rcases wr_of h.link h.ok hx with hx | ⟨j, r, hj, hx⟩
      · exact .inl hx
      · by_cases e : j = ip
        · subst e
          rw [hrp] at hj; simp only [Option.some.injEq] at hj; subst hj
          exact .inr (hwrR x (by rw [← e3]; exact hx))
        · by_cases hpa : Path ops ip j
          · exact .inr (hs.wrR j r hj (hbef j hpa) x hx)
          · exact .inr (Nat.le_trans h.inv.low (hgone j r x hj e (.inl hx) hpa).1)
    · intro x v e he
      rcases hpo.blk x v e he with ⟨u, f, hf, hbk⟩ | hbk
      · rcases hs.blk x u f hf with ⟨u', f', hf', hbk'⟩ | hbk'
        · exact .inl ⟨u', f', hf', hbk'.trans hbk⟩
        · exact .inr (hbk ▸ hbk')
      · exact .inr (Nat.le_trans hs.frm.size hbk)
    · intro id hid
      have hid : (D id ∧ id < σ.next) ∨ (σ.next ≤ id ∧ id < σ'.next) := hid
      show Rep R φ' w' id (hp.get id)
      have hidσ : id < σ'.next := by
        rcases hid with ⟨_, g⟩ | ⟨_, g⟩
        · exact Nat.lt_of_lt_of_le g (Nat.le_trans hm0.next (Nat.le_trans hst.next hm1.next))
        · exact g
      by_cases hex : ∃ (j : Nat) (r : Rec), recs[j]? = some r ∧ j ≠ ip ∧ r.touch id ∧ ¬ Path ops ip j
      · obtain ⟨j, r, g1, g2, g3, g4⟩ := hex
        rcases (hgone j r id g1 g2 g3 g4).2 with e | e
        · rw [e]; trivial
        · rw [e]; trivial
      · rcases hkill id with e | ⟨_, _, e⟩
        rotate_left
        · rw [e]; trivial
        rw [e]
        have htl : ∀ (j : Nat) (s : Rec), recs[j]? = some s → s.touch id → j = ip ∨ Path ops ip j := by
          intro j s hj ht
          by_cases e : j = ip
          · exact .inl e
          · by_cases hpa : Path ops ip j
            · exact .inr hpa
            · exact absurd ⟨j, s, hj, e, ht, hpa⟩ hex
        have hnoafter : ∀ (j : Nat) (s : Rec), ip + 1 ≤ j → j < recs.length → recs[j]? = some s → ¬ s.touch id := by
          intro j s h1 _ hj ht
          rcases htl j s hj ht with e | p
          · omega
          · have := h.back' p; omega
        have hidr : id < rp.σ'.next := by
          rcases Nat.lt_or_ge id rp.σ'.next with h' | h'
          · exact h'
          · exfalso
            obtain ⟨j, s, g1, g2, g3, g4⟩ := h.maker (a := ip + 1) recs.length (by omega) (Nat.le_refl _) (by rw [hpostS]; exact h') (by rw [eS]; exact hidσ)
            exact hnoafter j s g1 g2 g3 (.inr g4)
        have hkeep := (hmono (show ip + 1 ≤ recs.length by omega) (Nat.le_refl _)).2.1 id (by rw [hpostS]; exact hidr) hnoafter
        rw [eS, hpostS] at hkeep
        rw [hkeep, ← hτh]
        by_cases ht : rp.touch id
        · refine hpo.rep id ?_
          by_cases hl : id < rp.σ.next
          · left
            refine ⟨?_, hl⟩
            rcases ht with hw | hcr
            · exact .inr hw
            · omega
          · exact .inr ⟨Nat.le_of_not_lt hl, by rw [hτn]; exact hidr⟩
        · have hl : id < rp.σ.next := by
            rcases Nat.lt_or_ge id rp.σ.next with h' | h'
            · exact h'
            · exact absurd (.inr ⟨h', hidr⟩) ht
          have hnw : id ∉ τ.wr := fun hw => ht (.inl (by rw [e3]; exact hw))
          have hsame : τ.heap.get id = rp.σ.heap.get id := by rw [hτh]; exact hst2 id hl (fun hw => ht (.inl hw))
          rw [hsame, ← hpS]
          have hD : D id ∨ σ.next ≤ id := hid.imp (·.1) (·.1)
          refine (hs.rep id ip (Nat.le_of_lt hilt) (by rw [hpS]; exact hl) (fun j s hj hts => ?_) hD).frame hpo.le (fun v => hpo.grow id (.inl hnw) (fun hx => ht (.inr ⟨hx.1, by rw [← hτn]; exact hx.2⟩)) v) fun v e he => ?_
          · rcases htl j s hj hts with e | p
            · subst e; exact hself
            · exact hord j (fun e => by subst e; exact absurd (h.back' p) (Nat.lt_irrefl _)) (.inl p)
          · refine hpo.frm.keep _ (hs.wf.lt _ _ _ he) fun x hx u f hf heq => ?_
            rcases hs.wf.inj _ _ _ _ _ _ hf he heq with hh | hh
            · exact hnw (hh ▸ hx)
            · exact absurd hh.1 (Nat.not_lt.2 (hwrR x hx))
    · exact {
        size := Nat.le_trans hs.frm.size hpo.frm.size
        keep := fun b hb hne => by
          rw [hpo.frm.keep b (Nat.lt_of_lt_of_le hb hs.frm.size) ?_]
          · exact hs.frm.keep b hb hne
          · intro x hx v e he
            rcases hs.blk x v e he with ⟨u, f, hf, hbf⟩ | hbf
            · rw [← hbf]; exact hne x (hwrσ x hx) u f hf
            · exact fun heq => absurd hb (Nat.not_lt.2 (heq ▸ hbf))
        os := hpo.frm.os.trans hs.frm.os
        out := hpo.frm.out.trans hs.frm.out
        tape := hpo.frm.tape.trans hs.frm.tape }
  intro fuel
  induction fuel with
  | zero =>
    intro listed a w φ hs hni hf
    have := left_zero hf hipl
    rw [hni] at this; cases this
  | succ fuel ih =>
    intro listed a w φ hs hni hf
    refine ⟨fun hr => ?_, fun i hi => ?_⟩
    · have := ready_nil h hs.sz hr ip hipl
      rw [hni] at this; cases this
    · obtain ⟨o, ho, hl2, hl, hpre⟩ := ready_spec hs.sz hi
      obtain ⟨r, hr, hro⟩ := h.recOf ho
      by_cases e : i = ip
      · subst e
        rw [hrp] at hr; simp only [Option.some.injEq] at hr; subst hr
        exact hend listed a w φ hs hni (by rw [hro]; exact hpre) _
      · rcases hkind i r hr e with hok | ⟨_, hpa⟩
        · refine stage_next hc hcs h hs hr hok hl (by rw [hro]; exact hpre) fun φ' a' w' hs' => ih _ a' w' φ' hs' ?_ ?_
          · rw [getD_set (by rw [hs.sz]; exact hl2), if_neg (fun x => e x.symm)]; exact hni
          · have := left_set (n := ops.size) hl2 (by rw [hs.sz]; exact hl2) hl
            omega
        · exfalso
          have : listed.getD ip false = true := by
            cases hpa with
            | one ho' he hb => rw [ho] at ho'; simp only [Option.some.injEq] at ho'; subst ho'; exact hpre _ he hb
            | step ho' he hb p => rw [ho] at ho'; simp only [Option.some.injEq] at ho'; subst ho'; exact hs.cl.path p (hpre _ he hb)
          rw [hni] at this; cases this
omit [Val] in
theorem apartL_spec {a b : List Nat} (h : apartL a b = true) {x : Nat} (ha : x ∈ a) (hb : x ∈ b) : False := by
  unfold apartL at h
  have := List.all_eq_true.1 (List.all_eq_true.1 h x ha) x hb
  simp at this
omit [Val] in
theorem outL_spec {lo hi : Nat} {l : List Nat} (h : outL lo hi l = true) {x : Nat} (hx : x ∈ l) (h1 : lo ≤ x) (h2 : x < hi) : False := by
  unfold outL at h
  have := List.all_eq_true.1 h x hx
  rw [Nat.ble_eq_true_of_le h1] at this
  have h3 : Nat.blt x hi = true := Nat.ble_eq_true_of_le h2
  rw [h3] at this
  cases this
theorem drawA_ok {ro : Option Nat} (hc : CallOk P R C call) (hcs : CallSteps call) (hm : P.follows .mixedOrders = true) {e : AExit} {a : Act} {id : Nat}
    (h : drawA P C call nt ops env σ = .ok e env' σ') (hi : Inv R C D φ₀ σ w₀) (he : FrmR φ₀ nt env a) (hk : Known D σ σ') (hf : Free φ₀ σ σ') {Q : Exit → Act → World → Prop}
    (hQ : ∀ φ' e' a' w', ExitR φ' e e' → FrmR φ' nt env' a' → env'.md = env.md → env'.rd = env.rd → Post R D φ₀ σ w₀ σ' φ' w' → Q e' a' w') :
    (Code.region id ops true).wpIn (wideR ro) 0 P Q a w₀ := by
  unfold drawA at h
  simp only [cond_eq_ite] at h
  split at h
  · rename_i hdo
    have hdo' := List.all_eq_true.1 (by simpa only [drawOk] using hdo)
    have hz : ∀ (i : Nat) (o : Oper), ops[i]? = some o → (o, i) ∈ ops.toList.zipIdx := by
      intro i o ho
      rw [List.mem_zipIdx_iff_getElem?]
      simpa using ho
    -- the region as records
    have hmk : ∀ (d : DrawR) (σ1 : St), runDraw P C (befOf ops) call nt ops ops.toList 0 [] env σ = d → d.st = some σ1 → feetOk P C (befOf ops) d.fs = true → Known D σ σ1 →
        ∃ recs : List Rec, Region0 P R C call nt ops recs env d.env σ σ1 D φ₀ w₀ ∧ Drawn P C call (befOf ops) nt ops 0 recs d ∧ (∀ (j : Nat) (r : Rec), recs[j]? = some r → r.b = true → r.foot ops j ∈ d.fs) ∧
          (∀ (j : Nat) (r : Rec) (id : Nat), recs[j]? = some r → r.touch id → r.b = true) := by
      intro d σ1 hrd hst hfo hk
      obtain ⟨recs, h1, h2, h3, _, h5⟩ := runDraw_recs hcs _ _ _ _ _ _ _ hrd hst
      have hfine : ∀ r ∈ recs, r.fine P C call nt ops := by
        intro r hr
        obtain ⟨j, hj⟩ := List.getElem?_of_mem hr
        cases d with
        | ok fs e σ => exact .inl (h3 j r hj)
        | no => exact h3.elim
        | pan ip chain fs e σ =>
          obtain ⟨_, ⟨s, g1, g2⟩, g3⟩ := h3
          by_cases e : j = ip
          · subst e
            rw [Nat.sub_zero, hj] at g1; simp only [Option.some.injEq] at g1; subst g1
            exact .inr (.inr ⟨chain, g2⟩)
          · rcases g3 j r hj (by omega) with g | ⟨g, _⟩
            · exact .inl g
            · exact .inr (.inl g)
      have hrb : ∀ (j : Nat) (r : Rec), recs[j]? = some r → r.b = false → r.rd = [] ∧ r.wr = [] ∧ r.σ' = r.σ := by
        intro j r hj hb
        rcases hfine r (List.mem_of_getElem? hj) with g | g | ⟨_, g⟩
        · obtain ⟨_, e2, e3, e4⟩ := g.2.2.1 hb
          exact ⟨e3, e4, e2⟩
        · exact ⟨g.2.2.2.1, g.2.2.2.2, g.2.2.1⟩
        · rw [g.1] at hb; cases hb
      have htb : ∀ (j : Nat) (r : Rec) (id : Nat), recs[j]? = some r → r.touch id → r.b = true := by
        intro j r id hj ht
        cases hb : r.b with
        | true => rfl
        | false =>
          obtain ⟨_, e4, e2⟩ := hrb j r hj hb
          rcases ht with ht | ht
          · rw [e4] at ht; cases ht
          · rw [e2] at ht; omega
      refine ⟨recs, {
        link := h2
        ok := hfine
        omap := h1
        back := by
          intro i o ed ho hed hb
          have := hdo' (o, i) (hz i o ho)
          simp only [Bool.and_eq_true] at this
          have h4 := List.all_eq_true.1 this.1 ed (by simpa using hed)
          rw [hb] at h4
          exact blt_t (by simpa using h4)
        names := by
          intro i j o p d ho hp hpd hdn
          have := hdo' (o, i) (hz i o ho)
          simp only [Bool.and_eq_true] at this
          have h4 := List.all_eq_true.1 this.2 (p, j) (hz j p hp)
          simp only [hpd] at h4
          have hcn : (tmpsOf ops o).contains d = true := by simpa using hdn
          rw [hcn] at h4
          exact orderedB_spec (by simpa using h4)
        feet := by
          intro i j r s x hr hs ht hx
          have hsb : s.b = true := by
            cases hb : s.b with
            | true => rfl
            | false =>
              obtain ⟨e3, e4, _⟩ := hrb j s hs hb
              rw [e3, e4] at hx
              rcases hx with hx | hx <;> cases hx
          have f1 := h5 i r hr (htb i r x hr ht)
          have f2 := h5 j s hs hsb
          simp only [Nat.zero_add] at f1 f2
          have h6 := List.all_eq_true.1 (by simpa only [feetOk] using hfo) _ f1
          dsimp only [Rec.foot] at h6
          have hnot : ¬ ((r.wr.isEmpty && Nat.beq r.σ.next r.σ'.next) = true) := by
            rw [Bool.and_eq_true]
            rintro ⟨g1, g2⟩
            have g2 := beq_t g2
            rcases ht with ht | ht
            · rw [List.isEmpty_iff.1 g1] at ht; cases ht
            · omega
          rw [cond_eq_ite, if_neg hnot] at h6
          have h7 := List.all_eq_true.1 h6 _ f2
          dsimp only [Rec.foot] at h7
          rw [Bool.or_eq_true, Bool.or_eq_true] at h7
          rcases h7 with (h7 | h7) | h7
          · rcases orderedB_spec h7 with g | g | g
            · exact .inl g
            · exact .inr (.inl g)
            · exact .inr (.inr (.inl g))
          · exfalso
            simp only [Bool.and_eq_true] at h7
            obtain ⟨⟨⟨g1, g2⟩, g3⟩, g4⟩ := h7
            rcases ht with ht | ⟨ht1, ht2⟩
            · rcases hx with hx | hx
              · exact apartL_spec g1 ht hx
              · exact apartL_spec g2 ht hx
            · rcases hx with hx | hx
              · exact outL_spec g3 hx ht1 ht2
              · exact outL_spec g4 hx ht1 ht2
          · right; right; right
            unfold Foot.floats at h7
            simp only [Bool.and_eq_true] at h7
            obtain ⟨⟨⟨⟨⟨⟨g1, g2⟩, g3⟩, g4⟩, g5⟩, g6⟩, g7⟩ := h7
            have g1 := List.isEmpty_iff.1 g1
            have hxr : x ∈ s.rd := hx.resolve_right (by rw [g1]; simp)
            have hone : ∀ a ∈ s.rd, a = x := by
              split at g3
              · cases g3
              · rename_i a0 l0 hrd0
                have hall : ∀ y ∈ s.rd, y = a0 := by
                  intro y hy
                  rw [hrd0] at hy
                  rcases List.mem_cons.1 hy with rfl | hy
                  · rfl
                  · exact (beq_t (List.all_eq_true.1 g3 y hy)).symm
                intro a ha
                rw [hall a ha, hall x hxr]
            have hat : ∀ σ0 : St, Foot.at P C (Rec.foot ops j s) σ0 = true → s.same P C ops σ0 := by
              intro σ0 hh
              unfold Foot.at at hh
              split at hh
              · rename_i v τ hv
                simp only [Bool.and_eq_true] at hh
                obtain ⟨⟨⟨k1, k2⟩, k3⟩, k4⟩ := hh
                have k1 := AV.same_eq k1
                subst k1
                refine ⟨τ, hv, List.isEmpty_iff.1 k2, beq_t k3, fun y hy => ?_⟩
                have := List.all_eq_true.1 k4 y hy
                simpa [Rec.foot] using this
              · cases hh
            exact ⟨hxr, g1, beq_t g2, hone, hat _ g5, hat _ g6, hat _ g7⟩
        inv := hi
        known := hk }, h3, fun j r hj hb => by have := h5 j r hj hb; rwa [Nat.zero_add] at this, htb⟩
    have hfalse : ∀ j, (Array.replicate ops.size false).getD j false = false := by
      intro j
      simp only [Array.getD_eq_getD_getElem?]
      by_cases hj : j < ops.size
      · simp [hj]
      · simp [hj]
    have hleft : left ops.size (Array.replicate ops.size false) = ops.size := by
      unfold left
      rw [List.filter_eq_self.2 (fun j _ => by rw [hfalse]; rfl)]
      simp
    -- nothing has been done
    have hstart : ∀ {recs : List Rec} {env1 : Env} {σ1 : St}, Region0 P R C call nt ops recs env env1 σ σ1 D φ₀ w₀ → (∀ i, σ.next ≤ i → i < σ1.next → ∀ v, φ₀ i v = none) →
        Stage R C nt a.defers ops recs env1 σ σ1 D φ₀ w₀ (Array.replicate ops.size false) a w₀.drew φ₀ := by
      intro recs env1 σ1 hreg hfr
      have h2 := hreg.link
      have h3 := hreg.ok
      have hno : ∀ (p : Nat → Rec → Prop) k, k ≤ recs.length → (∀ j r, recs[j]? = some r → p j r → ((Array.replicate ops.size false).getD j false = true ↔ j < k)) →
          ∀ j r, 0 ≤ j → j < k → recs[j]? = some r → ¬ p j r := by
        intro p k _ hcond j r _ hjk hj hp
        have := (hcond j r hj hp).2 hjk
        rw [hfalse] at this; cases this
      exact {
        sz := by simp
        cl := fun j o hj => by rw [hfalse] at hj; cases hj
        wf := hi.drew.wf
        dfr := rfl
        tsz := he.ev.size
        tmp := fun t k hk2 hcond v hv => by
          have := (pre_mono h2 h3 (Nat.zero_le k) hk2).2.2 t (hno (fun j r => r.o.dst = some t) k hk2 hcond)
          rw [this, h2.pre.2] at hv
          exact he.ev.val t v hv
        rep := fun x k hk2 hx hcond hD => by
          have hnt := hno (fun j r => r.touch x) k hk2 hcond
          have hx0 : x < σ.next := by
            rcases Nat.lt_or_ge x σ.next with h' | h'
            · exact h'
            · exfalso
              obtain ⟨j, r, _, g2, g3, g4⟩ := hreg.maker (a := 0) k (Nat.zero_le _) hk2 (by rw [h2.pre.1]; exact h') hx
              exact hnt j r (Nat.zero_le _) g2 g3 (.inr g4)
          have := (pre_mono h2 h3 (Nat.zero_le k) hk2).2.1 x (by rw [h2.pre.1]; exact hx0) hnt
          rw [this, h2.pre.1]
          exact hi.drew.rep x (hD.resolve_right (by omega)) hx0
        fresh := fun j r hj _ x hx1 hx2 v => by
          have hjlt : j < recs.length := by
            rcases Nat.lt_or_ge j recs.length with h' | h'
            · exact h'
            · simp [List.getElem?_eq_none h'] at hj
          have m1 := (pre_mono h2 h3 (Nat.zero_le j) (Nat.le_of_lt hjlt)).1.next
          have m2 := (pre_mono h2 h3 (show j + 1 ≤ recs.length by omega) (Nat.le_refl _)).1.next
          rw [h2.pre.1, preS_at hj] at m1
          rw [(h2.post hj).1, show preS recs σ1 recs.length = σ1 by simp [preS]] at m2
          exact hfr x (by omega) (by omega) v
        le := φ₀.le_refl
        grow := fun _ _ _ _ => rfl
        blk := fun i v e he => .inl ⟨v, e, he, rfl⟩
        frm := ⟨Nat.le_refl _, fun _ _ _ => rfl, rfl, rfl, rfl⟩
        wrR := fun j r hj hl => by rw [hfalse] at hl; cases hl
        ro := hi.drew.ro }
    split at h
    · rename_i fs env1 σ1 hrd
      split at h
      · rename_i hfo
        simp only [XR.ok.injEq] at h
        obtain ⟨rfl, rfl, rfl⟩ := h
        obtain ⟨recs, hreg, hdr, _, _⟩ := hmk _ _ hrd rfl hfo hk
        have hreg : Region0 P R C call nt ops recs env env1 σ σ1 D φ₀ w₀ := hreg
        obtain ⟨kp1, kp2, kp3⟩ := linked_keep hreg.link hreg.ok
        refine wpIn_region_any hm ?_
        exact stage_any hc hcs hreg hdr (fun φ' a' w' g1 g2 g3 => hQ φ' .normal a' w' trivial ⟨g1, by rw [kp1, g2]; exact he.dfs.mono g3.le⟩ kp2 kp3 g3) ops.size _ a w₀.drew φ₀ (hstart hreg hf) hleft
      · cases h
    · rename_i ip chain fs env1 σ1 hrd
      split at h
      · rename_i hfo
        rw [Bool.and_eq_true] at hfo
        simp only [XR.ok.injEq] at h
        obtain ⟨rfl, rfl, rfl⟩ := h
        obtain ⟨recs, hreg, ⟨_, ⟨rp, g1, g2⟩, g3⟩, hft, htb⟩ := hmk _ _ hrd rfl hfo.1 hk
        have hreg : Region0 P R C call nt ops recs env env1 σ σ1 D φ₀ w₀ := hreg
        obtain ⟨kp1, kp2, kp3⟩ := linked_keep hreg.link hreg.ok
        refine wpIn_region_any hm ?_
        refine stage_pan hc hcs hreg ⟨rp, by rw [Nat.sub_zero] at g1; exact g1, g2⟩ (fun j r hj hne => ?_) (fun j r id hj hne ht hpa => ?_) (panKill_killed (befOf ops) ip σ.next fs σ1.heap)
          (fun φ' a' c' w' q1 q2 q3 q4 => hQ φ' (.panic c') a' w' q3 ⟨q1, ?_⟩ kp2 kp3 q4) ops.size _ a w₀.drew φ₀ (hstart hreg hf) (hfalse ip) hleft
        · rcases g3 j r hj (by omega) with g | ⟨g, gb⟩
          · exact .inl g
          · rw [Nat.zero_add] at gb
            exact .inr ⟨g, befOf_spec gb⟩
        · have hfm := hft j r hj (htb j r id hj ht)
          have hbit : ((befOf ops).getD ip 0).testBit j = false := by
            cases hb : ((befOf ops).getD ip 0).testBit j with
            | false => rfl
            | true => exact absurd (befOf_spec hb) hpa
          have hn : σ.next ≤ id := by
            rcases ht with hw | hcr
            · have h4 := List.all_eq_true.1 (show (DrawR.pan ip chain fs env1 σ1).fs.all _ = true by simpa only [panOk, DrawR.fs] using hfo.2) _ hfm
              rw [Bool.or_eq_true, Bool.or_eq_true] at h4
              rcases h4 with (h4 | h4) | h4
              · exact absurd (beq_t h4) hne
              · have h4 : ((befOf ops).getD ip 0).testBit j = true := h4
                rw [hbit] at h4; cases h4
              · exact ble_t (List.all_eq_true.1 h4 id hw)
            · have hjlt : j < recs.length := by
                rcases Nat.lt_or_ge j recs.length with h' | h'
                · exact h'
                · simp [List.getElem?_eq_none h'] at hj
              have m1 := (pre_mono hreg.link hreg.ok (Nat.zero_le j) (Nat.le_of_lt hjlt)).1.next
              rw [hreg.link.pre.1, preS_at hj] at m1
              omega
          exact ⟨hn, panKill_gone hfm hne hbit hn ht⟩
        · show DfsR φ' env1.ds a'.defers
          rw [kp1, q2]; exact he.dfs.mono q4.le
      · cases h
    · cases h
  · cases h
end
end Go.Tw
