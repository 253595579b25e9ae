/-
  A part of the proof that the abstract evaluator is sound for the model's machine. Conditions: those of each theorem, as it states them.
-/
import Derived.Test.YtbbnjiceenjhcaaGreatDoorTwOps13
import Derived.RangeFuncLeaves
import Derived.RecoverIn
set_option linter.all false
namespace Go.Tw

/-- The fence that lets all in, for a round of a loop or for none. -/
def wideR (ro : Option Nat) : Fence := { Fence.wide with round := ro }
theorem room_wideR (ro : Option Nat) (n : Nat) : (wideR ro).room n := room_wide n

/-- How a frame was entered. -/
def kindOf (dk : Bool) : CallKind := if dk then .deferred else .normal

/-- Code in a frame, whose callers are a part of the state. ro: the loop of which it is a round; dk: the frame is a deferred call's. -/
def Runs (P : Program) (ro : Option Nat) (dk : Bool) (c : Code) (Q : Exit → Act → List Frame → World → Prop) (a : Act) (cs : List Frame) (w : World) : Prop :=
  ∀ (b : Frame) (k : List Item), b.roundOf = ro → b.kind = kindOf dk →
    ∃ e a' cs' w', Q e a' cs' w' ∧ ArrivesIn (Machine.fenced P Fence.wide) P (lone (b.atR a (.code c :: k)) cs w) b k cs' e a' w'

/-- What is left of a region. -/
def RunsOps (P : Program) (ro : Option Nat) (dk : Bool) (ops : Array Oper) (l : List Nat) (Q : Exit → Act → List Frame → World → Prop) (a : Act) (cs : List Frame) (w : World) : Prop :=
  ∀ (b : Frame) (k : List Item), b.roundOf = ro → b.kind = kindOf dk →
    ∃ e a' cs' w', Q e a' cs' w' ∧ ArrivesIn (Machine.fenced P Fence.wide) P (lone (b.atR a (.inRegion ops l :: k)) cs w) b k cs' e a' w'

section rules
variable {P : Program} {ro : Option Nat} {dk : Bool} {Q : Exit → Act → List Frame → World → Prop} {a : Act} {cs : List Frame} {w : World}

theorem one_wide {m m' : Machine} (h : step P m = .next m') : StepsIn (Machine.fenced P Fence.wide) P m m' := .one (fenced_wide P m) h

theorem Runs.mono {c : Code} {Q' : Exit → Act → List Frame → World → Prop} (h : Runs P ro dk c Q a cs w) (hq : ∀ e a cs w, Q e a cs w → Q' e a cs w) : Runs P ro dk c Q' a cs w :=
  fun b k hr hk => let ⟨e, a', cs', w', q, r⟩ := h b k hr hk; ⟨e, a', cs', w', hq _ _ _ _ q, r⟩

theorem runs_of_wpIn {c : Code} (h : c.wpIn (wideR ro) 0 P (fun e a' w' => Q e a' cs w') a w) : Runs P ro dk c Q a cs w :=
  fun b k hr _ => let ⟨e, a', w', q, r⟩ := h b k cs hr trivial (room_wideR _ _); ⟨e, a', cs, w', q, r⟩

theorem runs_skip (h : Q .normal a cs w) : Runs P ro dk .skip Q a cs w := runs_of_wpIn (wpIn_skip h)
theorem runs_label {l : Nat} (h : Q .normal a cs w) : Runs P ro dk (.label l) Q a cs w := runs_of_wpIn (wpIn_label h)
theorem runs_exit {id : Nat} (h : Q (.exit id) a cs w) : Runs P ro dk (.exit id) Q a cs w := runs_of_wpIn (wpIn_exit h)
theorem runs_goto {l : Nat} (h : Q (.goto l) a cs w) : Runs P ro dk (.goto l) Q a cs w := runs_of_wpIn (wpIn_goto h)
theorem runs_ret (h : Q .ret a cs w) : Runs P ro dk .ret Q a cs w := runs_of_wpIn (wpIn_ret h)

theorem runs_seq {x y : Code} (h : Runs P ro dk x (Exit.thenS (Runs P ro dk y Q) Q) a cs w) : Runs P ro dk (.seq x y) Q a cs w := by
  intro b k hr hk
  obtain ⟨e, a₁, cs₁, w₁, hq, harr⟩ := h b (.code y :: k) hr hk
  cases e with
  | normal =>
    obtain ⟨e₂, a₂, cs₂, w₂, hq₂, harr₂⟩ := hq b k hr hk
    exact ⟨e₂, a₂, cs₂, w₂, hq₂, .of_steps (.head (fenced_wide _ _) stepR_seq harr) harr₂⟩
  | exit id => exact ⟨_, a₁, cs₁, w₁, hq, .of_steps (one_wide stepR_seq) (.pass (x := .code y) rfl (fun _ _ => .inl (by simp)) harr)⟩
  | goto l => exact ⟨_, a₁, cs₁, w₁, hq, .of_steps (one_wide stepR_seq) (.pass (x := .code y) rfl (fun _ _ => .inl (by simp)) harr)⟩
  | ret => exact ⟨_, a₁, cs₁, w₁, hq, .of_steps (one_wide stepR_seq) (.pass (x := .code y) rfl (fun _ _ => .inl (by simp)) harr)⟩
  | panic ch => exact ⟨_, a₁, cs₁, w₁, hq, .of_steps (one_wide stepR_seq) (.pass (x := .code y) rfl (fun _ _ => .inl (by simp)) harr)⟩
  | outgrown => exact ⟨_, a₁, cs₁, w₁, hq, .of_steps (one_wide stepR_seq) (.pass (x := .code y) rfl (fun _ _ => .inl (by simp)) harr)⟩

theorem runs_cond {c : Operand} {x y : Code} {t : Bool} (hc : a.eval c = .bool t) (h : Runs P ro dk (if t then x else y) Q a cs w) : Runs P ro dk (.cond c x y) Q a cs w :=
  fun b k hr hk => let ⟨e, a', cs', w', q, r⟩ := h b k hr hk; ⟨e, a', cs', w', q, .of_steps (one_wide (stepR_cond hc)) r⟩

/-- A block's end. -/
def inBlockS (id : Nat) (Q : Exit → Act → List Frame → World → Prop) : Exit → Act → List Frame → World → Prop
  | .exit id', a, cs, w => if id' = id then Q .normal a cs w else Q (.exit id') a cs w
  | e, a, cs, w => Q e a cs w

theorem runs_block {id : Nat} {c : Code} (h : Runs P ro dk c (inBlockS id Q) a cs w) : Runs P ro dk (.block id c) Q a cs w := by
  intro b k hr hk
  obtain ⟨e, a₁, cs₁, w₁, hq, harr⟩ := h b (.inBlock id :: k) hr hk
  have h0 := one_wide (P := P) (stepR_block (b := b) (a := a) (k := k) (cs := cs) (w := w) (id := id) (c := c))
  cases e with
  | normal => exact ⟨.normal, a₁, cs₁, w₁, hq, h0.trans (StepsIn.trans harr (one_wide stepR_inBlock))⟩
  | exit id' =>
    by_cases hid : id' = id
    · simp only [inBlockS, hid, if_true] at hq
      exact ⟨.normal, a₁, cs₁, w₁, hq, h0.trans (harr.1 k (by simp [exitTo, hid]))⟩
    · simp only [inBlockS, hid, if_false] at hq
      have this : (id == id') = false := by simp; exact fun h => hid h.symm
      have hx : exitTo id' (.inBlock id :: k) = exitTo id' k := by simp [exitTo, this]
      exact ⟨.exit id', a₁, cs₁, w₁, hq, fun k' hk => h0.trans (harr.1 k' (by rw [hx]; exact hk)),
        fun hr' hk => let ⟨k₁, h1, h2⟩ := harr.2 hr' (by rw [hx]; exact hk); ⟨k₁, h1, h0.trans h2⟩⟩
  | goto l =>
    have hx : gotoIn l (.inBlock id :: k) = gotoIn l k := by simp [gotoIn]
    exact ⟨_, a₁, cs₁, w₁, hq, fun k' hk => h0.trans (harr.1 k' (by rw [hx]; exact hk)),
      fun hr' hk => let ⟨k₁, h1, h2⟩ := harr.2 hr' (by rw [hx]; exact hk); ⟨k₁, h1, h0.trans h2⟩⟩
  | ret => exact ⟨_, a₁, cs₁, w₁, hq, .of_steps h0 harr⟩
  | panic ch => exact ⟨_, a₁, cs₁, w₁, hq, .of_steps h0 harr⟩
  | outgrown => exact ⟨_, a₁, cs₁, w₁, hq, .of_steps h0 harr⟩

theorem runs_region {id : Nat} {ops : Array Oper} (h : RunsOps P ro dk ops (List.range ops.size) Q a cs w) : Runs P ro dk (.region id ops false) Q a cs w :=
  fun b k hr hk => let ⟨e, a', cs', w', q, r⟩ := h b k hr hk; ⟨e, a', cs', w', q, .of_steps (one_wide stepR_region) r⟩

/-! What is left of a region, operation by operation. -/
section ops
variable {ops : Array Oper} {i : Nat} {rest : List Nat} {o : Oper}

theorem ops_nil (h : Q .normal a cs w) : RunsOps P ro dk ops [] Q a cs w :=
  fun _ _ _ _ => ⟨.normal, a, cs, w, h, one_wide stepR_region_end⟩

theorem ops_unwanted (ho : ops[i]? = some o) (hw : Region.wanted o (yielded ops a.tmps) = false) (h : RunsOps P ro dk ops rest Q (a.put o.dst undef) cs w) :
    RunsOps P ro dk ops (i :: rest) Q a cs w := by
  intro b k hr hk
  obtain ⟨e, a', cs', w', hq, harr⟩ := h b k hr hk
  have hs := stepR_op_skip (P := P) (b := b) (a := a) (k := k) (cs := cs) (w := w) (ops := ops) (i := i) (rest := rest) (by simp [ho]; exact hw)
  simp only [ho, Option.bind_some] at hs
  exact ⟨e, a', cs', w', hq, .of_steps (one_wide hs) harr⟩

theorem fin_atR {b : Frame} {k : List Item} (ho : ops[i]? = some o) (v : Value) : (b.atR a (.inRegion ops (i :: rest) :: k)).finish v = b.atR (a.put o.dst v) (.inRegion ops rest :: k) := by
  rw [Frame.finish_atR, ho]; rfl

theorem step_opR {b : Frame} {k : List Item} (hr : b.roundOf = ro) (ho : ops[i]? = some o) (hw : Region.wanted o (yielded ops a.tmps) = true) :
    stepG P true { frame := b.atR a (.inRegion ops (i :: rest) :: k), callers := cs, status := .running, dying := none } w =
      stepG.apply P true (b.atR a (.inRegion ops (i :: rest) :: k)) cs none (o.semAt ro a.eval) w := by
  rw [← hr]; exact stepGR_op ho hw

theorem ops_value (ho : ops[i]? = some o) (hw : Region.wanted o (yielded ops a.tmps) = true) {n : Next} {v : Value} {w' : World} (hn : n = .value v ∨ (n = .skip ∧ v = undef))
    (hrun : (o.semAt ro a.eval).run P w = .ok n w') (h : RunsOps P ro dk ops rest Q (a.put o.dst v) cs w') : RunsOps P ro dk ops (i :: rest) Q a cs w := by
  intro b k hr hk
  obtain ⟨e, a', cs', w'', hq, harr⟩ := h b k hr hk
  refine ⟨e, a', cs', w'', hq, .of_steps (one_wide (step_lone_go ?_)) harr⟩
  rw [step_opR hr ho hw, ← fin_atR ho]
  rcases hn with rfl | ⟨rfl, rfl⟩ <;> simp [stepG.apply, hrun]

theorem ops_panic (ho : ops[i]? = some o) (hw : Region.wanted o (yielded ops a.tmps) = true) {v : Value} {w' : World}
    (hrun : (o.semAt ro a.eval).run P w = .halt (.panic v) w') (h : Q (.panic [{ v, recovered := false }]) a cs w') : RunsOps P ro dk ops (i :: rest) Q a cs w := by
  intro b k hr hk
  refine ⟨_, a, cs, w', h, .inRegion ops (i :: rest) :: k, one_wide (step_lone_go ?_)⟩
  rw [step_opR hr ho hw, ← Frame.raise_atR]; simp [stepG.apply, hrun]

theorem ops_defer (ho : ops[i]? = some o) (hw : Region.wanted o (yielded ops a.tmps) = true) {d : Deferred} {w' : World}
    (hrun : (o.semAt ro a.eval).run P w = .ok (.defer d) w') (h : RunsOps P ro dk ops rest Q ({ a with defers := d :: a.defers }.put o.dst undef) cs w') :
    RunsOps P ro dk ops (i :: rest) Q a cs w := by
  intro b k hr hk
  obtain ⟨e, a', cs', w'', hq, harr⟩ := h b k hr hk
  refine ⟨e, a', cs', w'', hq, .of_steps (one_wide (step_lone_go ?_)) harr⟩
  have : ({ b.atR a (.inRegion ops (i :: rest) :: k) with defers := d :: a.defers } : Frame).finish undef =
      b.atR ({ a with defers := d :: a.defers }.put o.dst undef) (.inRegion ops rest :: k) := by
    have := Frame.finish_atR b { a with defers := d :: a.defers } ops i rest k undef
    rw [ho] at this; exact this
  rw [step_opR hr ho hw]; simp only [stepG.apply, Sem.runT_eq, hrun, GStep.bare_after]
  exact congrArg (fun fr => GStep.go { frame := fr, callers := cs, status := .running, dying := none } w') this

theorem ops_recover (ho : ops[i]? = some o) (hw : Region.wanted o (yielded ops a.tmps) = true) {w' : World} {v : Value} {cs₁ : List Frame}
    (hrun : (o.semAt none a.eval).run P w = .ok .recover w') (hrec : recoverD cs = some (v, cs₁)) (h : RunsOps P none true ops rest Q (a.put o.dst v) cs₁ w') :
    RunsOps P none true ops (i :: rest) Q a cs w := by
  intro b k hr hk
  have hkd : (b.atR a (.inRegion ops (i :: rest) :: k)).kind = .deferred := hk
  have htr := tryRecover_deferred hkd cs
  obtain ⟨e, a', cs'', w'', hq, harr⟩ := h b k hr hk
  refine ⟨e, a', cs'', w'', hq, .of_steps (one_wide (step_lone_go ?_)) harr⟩
  rw [step_opR hr ho hw, ← fin_atR ho]
  simp only [Frame.atR, hr] at htr ⊢
  simp [stepG.apply, hrun, htr, hrec]

theorem ops_recover_none (ho : ops[i]? = some o) (hw : Region.wanted o (yielded ops a.tmps) = true) {w' : World}
    (hrun : (o.semAt none a.eval).run P w = .ok .recover w') (hrec : dk = true → recoverD cs = none) (h : RunsOps P none dk ops rest Q (a.put o.dst .nilIface) cs w') :
    RunsOps P none dk ops (i :: rest) Q a cs w := by
  intro b k hr hk
  have htr : tryRecover (b.atR a (.inRegion ops (i :: rest) :: k)) cs = none := by
    cases dk with
    | true =>
      have hkd : (b.atR a (.inRegion ops (i :: rest) :: k)).kind = .deferred := hk
      rw [tryRecover_deferred hkd, hrec rfl]
    | false =>
      have hkd : (b.atR a (.inRegion ops (i :: rest) :: k)).kind = .normal := hk
      cases cs <;> simp [tryRecover, hkd]
  obtain ⟨e, a', cs'', w'', hq, harr⟩ := h b k hr hk
  refine ⟨e, a', cs'', w'', hq, .of_steps (one_wide (step_lone_go ?_)) harr⟩
  rw [step_opR hr ho hw, ← fin_atR ho]
  simp only [Frame.atR, hr] at htr ⊢
  simp [stepG.apply, hrun, htr]

theorem ops_enter (ho : ops[i]? = some o) (hw : Region.wanted o (yielded ops a.tmps) = true) {f : FuncId} {args : Array Value} {w' : World} {R : Ending → World → Prop}
    (hrun : (o.semAt ro a.eval).run P w = .ok (.enter f args) w') (hcall : Calls P f args w' R) (h1 : ∀ v w'', R (.returned v) w'' → RunsOps P ro dk ops rest Q (a.put o.dst v) cs w'')
    (h2 : ∀ ch w'', R (.panicked ch) w'' → Q (.panic ch) a cs w'') (h3 : ∀ w'', ¬ R .outgrown w'') : RunsOps P ro dk ops (i :: rest) Q a cs w := by
  intro b k hr hk
  obtain ⟨e, w'', fr, hR, hsteps, hfn, hleave⟩ := (callsIn_wide (n := 0)).2 hcall |>.2 (b.atR a (.inRegion ops (i :: rest) :: k) :: cs) (room_wide _)
  have henter : step P (lone (b.atR a (.inRegion ops (i :: rest) :: k)) cs w) =
      .next (lone (Frame.enter P f args .normal) (b.atR a (.inRegion ops (i :: rest) :: k) :: cs) w') :=
    step_lone_go (by rw [step_opR hr ho hw]; simp [stepG.apply, hrun, Frame.atR])
  cases e with
  | returned v =>
    obtain ⟨e, a', cs', w₃, hq, harr⟩ := h1 v w'' hR b k hr hk
    refine ⟨e, a', cs', w₃, hq, .of_steps (.head (fenced_wide _ _) henter (StepsIn.trans hsteps (one_wide ?_))) harr⟩
    rw [← fin_atR ho]; exact step_leave_returned hleave
  | panicked chain =>
    refine ⟨.panic chain, a, cs, w'', h2 _ _ hR, .inRegion ops (i :: rest) :: k, .head (fenced_wide _ _) henter (StepsIn.trans hsteps (one_wide ?_))⟩
    rw [← Frame.raise_atR]; exact step_leave_panicked hleave
  | outgrown => exact absurd hR (h3 _)

theorem ops_round (ho : ops[i]? = some o) (hw : Region.wanted o (yielded ops a.tmps) = true) {l : Nat} {f : FuncId} {tmps : Array Value} {assign body : Code} {w' : World} {R : Ending → World → Prop}
    (hrun : (o.semAt ro a.eval).run P w = .ok (.round l f tmps assign body) w') (hcall : RoundIn Fence.wide 0 P l f tmps assign body w' R)
    (h1 : ∀ v w'', R (.returned v) w'' → RunsOps P ro dk ops rest Q (a.put o.dst v) cs w'')
    (h2 : ∀ ch w'', R (.panicked ch) w'' → Q (.panic ch) a cs w'') (h3 : ∀ w'', ¬ R .outgrown w'') : RunsOps P ro dk ops (i :: rest) Q a cs w := by
  intro b k hr hk
  obtain ⟨e, w'', hR, hsteps⟩ := hcall.2 (b.atR a (.inRegion ops (i :: rest) :: k)) cs (room_wide _)
  have henter : step P (lone (b.atR a (.inRegion ops (i :: rest) :: k)) cs w) =
      .next (lone (Frame.round l f tmps assign body .normal) (b.atR a (.inRegion ops (i :: rest) :: k) :: cs) w') :=
    step_lone_go (by rw [step_opR hr ho hw]; simp [stepG.apply, hrun, Frame.atR])
  cases e with
  | returned v =>
    obtain ⟨e, a', cs', w₃, hq, harr⟩ := h1 v w'' hR b k hr hk
    refine ⟨e, a', cs', w₃, hq, .of_steps (.head (fenced_wide _ _) henter ?_) harr⟩
    rw [← fin_atR ho]; exact hsteps
  | panicked chain =>
    refine ⟨.panic chain, a, cs, w'', h2 _ _ hR, .inRegion ops (i :: rest) :: k, .head (fenced_wide _ _) henter ?_⟩
    rw [← Frame.raise_atR]; exact hsteps
  | outgrown => exact absurd hR (h3 _)
end ops
end rules
end Go.Tw
