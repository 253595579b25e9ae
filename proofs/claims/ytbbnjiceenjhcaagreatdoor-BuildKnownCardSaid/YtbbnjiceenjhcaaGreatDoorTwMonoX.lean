/-
  A part of the proof that the abstract evaluator is sound for the model's machine. Conditions: those of each theorem, as it states them.
-/
import Derived.Test.YtbbnjiceenjhcaaGreatDoorTwMono
set_option linter.all false
namespace Go.Tw
section
variable {P : Program} {C : Cfg}

def CR.st : CR → Option St
  | .ret _ σ | .pan _ σ => some σ
  | .no => none
def CR.steps (σ : St) (r : CR) : Prop := ∀ σ', r.st = some σ' → StepA σ σ'
def XR.st : XR → Option St
  | .ok _ _ σ => some σ
  | .no => none
def XR.steps (σ : St) (r : XR) : Prop := ∀ σ', r.st = some σ' → StepA σ σ'
theorem xsteps_no {σ : St} : XR.no.steps σ := by simp [XR.steps, XR.st]
theorem xsteps_ok {σ σ' : St} {e : AExit} {env : Env} (h : StepA σ σ') : (XR.ok e env σ').steps σ := by simpa [XR.steps, XR.st] using h
theorem XR.steps.trans {σ τ : St} {r : XR} (h : r.steps τ) (k : StepA σ τ) : r.steps σ := fun σ' hs => k.trans (h σ' hs)

/-- A way of calling that steps. -/
def CallSteps (call : Cle → List AV → St → CR) : Prop := ∀ f args σ, (call f args σ).steps σ

theorem runOps_steps {call : Cle → List AV → St → CR} (hc : CallSteps call) {nt : Nat} {ops : Array Oper} :
    ∀ (l : List Oper) (env : Env) (σ : St), (runOps P C call nt ops l env σ).steps σ := by
  intro l
  induction l with
  | nil => intro env σ; exact xsteps_ok (.refl _)
  | cons o rest ih =>
    intro env σ
    unfold runOps
    split
    · exact xsteps_no
    · split
      · exact ih _ _
      · exact xsteps_no
    · have hop := opA_steps (P := P) (C := C) (env := env) (σ := σ) (o := o)
      split
      · rename_i v τ hr
        have hs : StepA σ τ := hop τ (by rw [hr]; rfl)
        split
        · exact (ih _ _).trans hs
        · exact xsteps_no
      · rename_i d τ hr
        have hs : StepA σ τ := hop τ (by rw [hr]; rfl)
        simp only [cond_eq_ite]
        split
        · exact xsteps_no
        split
        · exact (ih _ _).trans hs
        · exact xsteps_no
      · rename_i v τ hr
        exact xsteps_ok (hop τ (by rw [hr]; rfl))
      · rename_i τ hr
        have hs : StepA σ τ := hop τ (by rw [hr]; rfl)
        simp only [cond_eq_ite]
        split
        · exact xsteps_no
        split
        · split
          · exact (ih _ _).trans hs
          · exact xsteps_no
        · split
          · exact (ih _ _).trans hs
          · exact xsteps_no
      · rename_i f args τ hr
        have hs : StepA σ τ := hop τ (by rw [hr]; rfl)
        have hcs := hc f args τ
        split
        · rename_i v υ hr2
          have hs2 : StepA τ υ := hcs υ (by rw [hr2]; rfl)
          split
          · exact (ih _ _).trans (hs.trans hs2)
          · exact xsteps_no
        · rename_i c υ hr2
          exact xsteps_ok (hs.trans (hcs υ (by rw [hr2]; rfl)))
        · exact xsteps_no
      · exact xsteps_no

/-- The logs of an operation of its own are put to those before. -/
theorem StepA.join {σ τ : St} (h : StepA σ.bare τ) : StepA σ (τ.join σ) :=
  ⟨h.next, fun _ hi => List.mem_append.2 (.inr hi), fun _ hi => List.mem_append.2 (.inr hi),
    fun i hi hn => h.keep i hi fun hw => hn (List.mem_append.2 (.inl hw)), h.dom,
    fun d i hi => (List.mem_append.1 hi).elim (fun h1 => .inr ((h.wlt d i h1).resolve_left (by simp [St.bare]))) .inl⟩

/-- What has been given up from a number on. -/
def Killed (n : Nat) (h h' : T Ob) : Prop := ∀ j, h'.get j = h.get j ∨ (n ≤ j ∧ (∃ o, h.get j = some o) ∧ h'.get j = some .dead)
theorem Killed.refl (n : Nat) (h : T Ob) : Killed n h h := fun _ => .inl rfl
theorem Killed.trans {n : Nat} {a b c : T Ob} (h : Killed n a b) (k : Killed n b c) : Killed n a c := by
  intro j
  rcases k j with e | ⟨h1, ⟨o, h2⟩, h3⟩
  · rcases h j with e' | ⟨h1, h2, h3⟩
    · exact .inl (e.trans e')
    · exact .inr ⟨h1, h2, e.trans h3⟩
  · rcases h j with e' | ⟨_, h2', _⟩
    · exact .inr ⟨h1, ⟨o, e' ▸ h2⟩, h3⟩
    · exact .inr ⟨h1, h2', h3⟩
theorem kill1_killed (n : Nat) (h : T Ob) (i : Nat) : Killed n h (kill1 n h i) := by
  unfold kill1
  rw [cond_eq_ite]
  split
  · rename_i hb
    split
    · rename_i o ho
      intro j
      by_cases e : j = i
      · subst e; exact .inr ⟨ble_t hb, ⟨o, ho⟩, T.get_set_same _ _ _⟩
      · exact .inl (T.get_set_ne _ _ e)
    · exact .refl _ _
  · exact .refl _ _
theorem kill1_gone (n : Nat) (h : T Ob) {i : Nat} (hi : n ≤ i) : (kill1 n h i).get i = none ∨ (kill1 n h i).get i = some .dead := by
  unfold kill1
  rw [cond_eq_ite, if_pos (Nat.ble_eq_true_of_le hi)]
  split
  · exact .inr (T.get_set_same _ _ _)
  · rename_i h'; exact .inl h'
theorem Killed.gone {n : Nat} {h h' : T Ob} (k : Killed n h h') {j : Nat} (hj : h.get j = none ∨ h.get j = some .dead) : h'.get j = none ∨ h'.get j = some .dead := by
  rcases k j with e | ⟨_, _, e⟩
  · rw [e]; exact hj
  · exact .inr e
theorem killL_killed (n : Nat) : ∀ (l : List Nat) (h : T Ob), Killed n h (killL n l h) := by
  intro l
  induction l with
  | nil => intro h; exact .refl _ _
  | cons i l ih => intro h; exact (kill1_killed n h i).trans (ih _)
theorem killL_gone {n : Nat} : ∀ {l : List Nat} {h : T Ob} {j : Nat}, j ∈ l → n ≤ j → (killL n l h).get j = none ∨ (killL n l h).get j = some .dead := by
  intro l
  induction l with
  | nil => intro h j hj; cases hj
  | cons i l ih =>
    intro h j hj hn
    rcases List.mem_cons.1 hj with rfl | hj
    · exact (killL_killed n l _).gone (kill1_gone n h hn)
    · exact ih hj hn
theorem killN_killed (n : Nat) : ∀ (k i : Nat) (h : T Ob), Killed n h (killN n k i h) := by
  intro k
  induction k with
  | zero => intro i h; exact .refl _ _
  | succ k ih => intro i h; exact (kill1_killed n h i).trans (ih _ _)
theorem killN_gone {n : Nat} : ∀ {k i : Nat} {h : T Ob} {j : Nat}, i ≤ j → j < i + k → n ≤ j → (killN n k i h).get j = none ∨ (killN n k i h).get j = some .dead := by
  intro k
  induction k with
  | zero => intro i h j h1 h2; omega
  | succ k ih =>
    intro i h j h1 h2 hn
    by_cases e : j = i
    · subst e; exact (killN_killed n k _ _).gone (kill1_gone n h hn)
    · exact ih (by omega) (by omega) hn
theorem panKill_killed (bef : Array Nat) (ip n : Nat) : ∀ (fs : List Foot) (h : T Ob), Killed n h (panKill bef ip n fs h) := by
  intro fs
  induction fs with
  | nil => intro h; exact .refl _ _
  | cons f fs ih =>
    intro h
    unfold panKill
    rw [cond_eq_ite]
    split
    · exact ih h
    · exact ((killL_killed n _ _).trans (killN_killed n _ _ _)).trans (ih _)
theorem panKill_gone {bef : Array Nat} {ip n : Nat} : ∀ {fs : List Foot} {h : T Ob} {f : Foot} {j : Nat}, f ∈ fs → f.i ≠ ip → (bef.getD ip 0).testBit f.i = false → n ≤ j →
    (j ∈ f.wr ∨ (f.lo ≤ j ∧ j < f.hi)) → (panKill bef ip n fs h).get j = none ∨ (panKill bef ip n fs h).get j = some .dead := by
  intro fs
  induction fs with
  | nil => intro h f j hf; cases hf
  | cons g fs ih =>
    intro h f j hf h1 h2 hn hj
    unfold panKill
    rw [cond_eq_ite]
    rcases List.mem_cons.1 hf with rfl | hf
    · rw [if_neg (by
        rw [Bool.or_eq_true, h2]
        rintro (hb | hb)
        · exact h1 (beq_t hb)
        · cases hb)]
      refine (panKill_killed bef ip n fs _).gone ?_
      rcases hj with hj | ⟨a, b⟩
      · exact (killN_killed n _ _ _).gone (killL_gone hj hn)
      · exact killN_gone a (by omega) hn
    · split
      · exact ih hf h1 h2 hn hj
      · exact ih hf h1 h2 hn hj
theorem StepA.killed {σ σ' : St} {h : T Ob} (k : StepA σ σ') (hk : Killed σ.next σ'.heap h) : StepA σ { σ' with heap := h } :=
  ⟨k.next, k.rd, k.wr, fun i hi hn => by
      rcases hk i with e | ⟨h1, _⟩
      · exact e.trans (k.keep i hi hn)
      · omega,
    fun d i hi => by
      have hd := k.dom d i hi
      rcases hk i with e | ⟨_, ⟨o, h2⟩, _⟩
      · exact e.trans hd
      · (rw [hd] at h2; cases h2),
    k.wlt⟩

/-- The state that a region that draws its order leaves. -/
def DrawR.st : DrawR → Option St
  | .ok _ _ σ => some σ
  | .pan _ _ _ _ σ => some σ
  | .no => none

theorem restDraw_steps {bef : Array Nat} {ip : Nat} {chain : List (AV × Bool)} {nt : Nat} {ops : Array Oper} :
    ∀ (l : List Oper) (i : Nat) (fs : List Foot) (env : Env) (σ σ' : St), (restDraw P C bef ip chain nt ops l i fs env σ).st = some σ' → StepA σ σ' := by
  intro l
  induction l with
  | nil =>
    intro i fs env σ σ' h
    simp only [restDraw, DrawR.st, Option.some.injEq] at h
    subst h
    exact .refl _
  | cons o rest ih =>
    intro i fs env σ σ' h
    unfold restDraw at h
    rw [cond_eq_ite] at h
    split at h
    · exact ih _ _ _ _ _ h
    · dsimp only at h
      split at h
      · cases h
      · split at h
        · exact ih _ _ _ _ _ h
        · cases h
      · have hop := opA_steps (P := P) (C := C) (env := env.only (tmpsOf ops o)) (σ := σ.bare) (o := o)
        split at h
        · rename_i v τ hr
          have hs : StepA σ.bare τ := hop τ (by rw [hr]; rfl)
          split at h
          · exact hs.join.trans (ih _ _ _ _ _ h)
          · cases h
        · cases h

/-- Each operation of a drawing region steps. -/
theorem runDraw_steps {bef : Array Nat} {call : Cle → List AV → St → CR} (hc : CallSteps call) {nt : Nat} {ops : Array Oper} :
    ∀ (l : List Oper) (i : Nat) (fs : List Foot) (env : Env) (σ σ' : St), (runDraw P C bef call nt ops l i fs env σ).st = some σ' → StepA σ σ' := by
  intro l
  induction l with
  | nil =>
    intro i fs env σ σ' h
    simp only [runDraw, DrawR.st, Option.some.injEq] at h
    subst h
    exact .refl _
  | cons o rest ih =>
    intro i fs env σ σ' h
    unfold runDraw at h
    dsimp only at h
    split at h
    · cases h
    · split at h
      · exact ih _ _ _ _ _ h
      · cases h
    · have hop := opA_steps (P := P) (C := C) (env := env.only (tmpsOf ops o)) (σ := σ.bare) (o := o)
      split at h
      · rename_i v τ hr
        have hs : StepA σ.bare τ := hop τ (by rw [hr]; rfl)
        split at h
        · exact hs.join.trans (ih _ _ _ _ _ h)
        · cases h
      · cases h
      · cases h
      · cases h
      · rename_i f args τ hr
        have hs : StepA σ.bare τ := hop τ (by rw [hr]; rfl)
        have hcs := hc f args τ
        split at h
        · rename_i v υ hr2
          have hs2 : StepA τ υ := hcs υ (by rw [hr2]; rfl)
          split at h
          · exact (hs.trans hs2).join.trans (ih _ _ _ _ _ h)
          · cases h
        · rename_i c υ hr2
          have hs2 : StepA τ υ := hcs υ (by rw [hr2]; rfl)
          exact (hs.trans hs2).join.trans (restDraw_steps _ _ _ _ _ _ h)
        · cases h
      · cases h

theorem drawA_steps {call : Cle → List AV → St → CR} (hc : CallSteps call) {nt : Nat} {ops : Array Oper} {env : Env} {σ : St} :
    (drawA P C call nt ops env σ).steps σ := by
  unfold drawA
  simp only [cond_eq_ite]
  split
  · split
    · rename_i h
      split
      · exact xsteps_ok (runDraw_steps hc _ _ _ _ _ _ (by rw [h]; rfl))
      · exact xsteps_no
    · rename_i h
      split
      · exact xsteps_ok ((runDraw_steps hc _ _ _ _ _ _ (by rw [h]; rfl)).killed (panKill_killed _ _ _ _ _))
      · exact xsteps_no
    · exact xsteps_no
  · exact xsteps_no

theorem resultsA_step {fn : Func} {env : Env} : ∀ (rs : List ResultVar) {σ σ' : St} {l : List AV}, resultsA P fn env σ rs = some (l, σ') → StepA σ σ' := by
  intro rs
  induction rs with
  | nil =>
    intro σ σ' l h
    simp only [resultsA, Option.some.injEq, Prod.mk.injEq] at h
    obtain ⟨_, rfl⟩ := h
    exact .refl _
  | cons r rest ih =>
    intro σ σ' l h
    cases r with
    | tmp t =>
      simp only [resultsA] at h
      split at h
      · rename_i he
        simp only [Option.some.injEq, Prod.mk.injEq] at h
        obtain ⟨_, rfl⟩ := h
        exact ih he
      · cases h
    | cell a t =>
      simp only [resultsA] at h
      split at h
      · split at h
        · rename_i hl
          split at h
          · rename_i he
            simp only [Option.some.injEq, Prod.mk.injEq] at h
            obtain ⟨_, rfl⟩ := h
            exact (loadA_step hl).trans (ih he)
          · cases h
        · cases h
      · cases h

theorem StepA.out {σ τ : St} (h : StepA σ.bare τ) : StepA σ (τ.out σ) :=
  ⟨h.next, fun _ hi => List.mem_append.2 (.inr hi), fun _ hi => List.mem_append.2 (.inr hi),
    fun i hi hn => h.keep i hi fun hw => hn (List.mem_append.2 (.inl (mem_keepOld.2 ⟨hi, hw⟩))), h.dom,
    fun d i hi => (List.mem_append.1 hi).elim (fun h1 => .inr ((h.wlt d i (mem_keepOld.1 h1).2).resolve_left (by simp [St.bare]))) .inl⟩

def DR.st : DR → Option St
  | .ret _ σ | .pan _ _ σ => some σ
  | .no => none
def DR.steps (σ : St) (r : DR) : Prop := ∀ σ', r.st = some σ' → StepA σ σ'

theorem leaveA_steps {dc : FuncId → List AV → AMode → St → DR} (hd : ∀ f args m σ, (dc f args m σ).steps σ) {fn : Func} {env : Env} :
    ∀ (ds : List ADef) (m : AMode) (τ : St), (leaveA P dc fn env ds m τ).steps τ := by
  intro ds
  induction ds with
  | nil =>
    intro m τ σ' h
    cases m with
    | returning =>
      simp only [leaveA] at h
      split at h
      · rename_i hr
        simp only [CR.st, Option.some.injEq] at h; subst h
        exact resultsA_step _ hr
      · simp [CR.st] at h
    | panicking c => simp only [leaveA, CR.st, Option.some.injEq] at h; subst h; exact .refl _
  | cons d ds ih =>
    intro m τ σ' h
    cases d with
    | mark id =>
      simp only [leaveA] at h
      split at h
      · rename_i ho
        exact (StepA.put _ _ ho).trans (ih _ _ _ h)
      · simp [CR.st] at h
    | call f args =>
      simp only [leaveA] at h
      have hdd := hd f args m τ
      split at h
      · rename_i hr
        exact (hdd _ (by rw [hr]; rfl)).trans (ih _ _ _ h)
      · rename_i hr
        exact (hdd _ (by rw [hr]; rfl)).trans (ih _ _ _ h)
      · simp [CR.st] at h
theorem endA_steps {dc : FuncId → List AV → AMode → St → DR} (hd : ∀ f args m σ, (dc f args m σ).steps σ) {fn : Func} {σ : St} {r : XR} (h : r.steps σ.bare) :
    (endA P dc fn σ r).steps σ := by
  have key : ∀ (c : CR), c.steps σ.bare → (match c with | .ret v τ => CR.ret v (τ.out σ) | .pan chain τ => .pan chain (τ.out σ) | .no => .no).steps σ := by
    intro c hc
    cases c with
    | ret v τ => intro σ' hs; simp only [CR.st, Option.some.injEq] at hs; subst hs; exact (hc τ rfl).out
    | pan v τ => intro σ' hs; simp only [CR.st, Option.some.injEq] at hs; subst hs; exact (hc τ rfl).out
    | no => simp [CR.steps, CR.st]
  unfold endA
  refine key _ ?_
  split
  · exact fun σ' hs => (h _ rfl).trans (leaveA_steps hd _ _ _ σ' hs)
  · exact fun σ' hs => (h _ rfl).trans (leaveA_steps hd _ _ _ σ' hs)
  · exact fun σ' hs => (h _ rfl).trans (leaveA_steps hd _ _ _ σ' hs)
  · simp [CR.steps, CR.st]

theorem callD_steps {ex : Nat → Code → Env → St → XR} (hx : ∀ nt c env σ, (ex nt c env σ).steps σ) (f : FuncId) (args : List AV) (m : AMode) (σ : St) :
    (callD P ex f args m σ).steps σ := by
  unfold callD
  split
  · simp [DR.steps, DR.st]
  · rename_i fn hfn
    split
    · simp [DR.steps, DR.st]
    · rename_i c hb
      simp only [cond_eq_ite]
      split
      · split
        · simp [DR.steps, DR.st]
        have h := hx fn.ntmps c { tm := envOf args 0 .leaf, ds := [], md := some m, rd := false } σ.bare
        split
        · rename_i env τ hr
          have hs : StepA σ.bare τ := h τ (by rw [hr]; rfl)
          split
          · rename_i hres
            intro σ' hs'; simp only [DR.st, Option.some.injEq] at hs'; subst hs'; exact (hs.trans (resultsA_step _ hres)).out
          · simp [DR.steps, DR.st]
        · rename_i env τ hr
          have hs : StepA σ.bare τ := h τ (by rw [hr]; rfl)
          split
          · rename_i hres
            intro σ' hs'; simp only [DR.st, Option.some.injEq] at hs'; subst hs'; exact (hs.trans (resultsA_step _ hres)).out
          · simp [DR.steps, DR.st]
        · rename_i chain env τ hr
          have hs : StepA σ.bare τ := h τ (by rw [hr]; rfl)
          split
          · intro σ' hs'; simp only [DR.st, Option.some.injEq] at hs'; subst hs'; exact hs.out
          · simp [DR.steps, DR.st]
        · simp [DR.steps, DR.st]
      · simp [DR.steps, DR.st]
theorem roundEnd_steps {id : Nat} {σ υ : St} {env : Env} {jump : Option Code} (h : StepA σ.bare υ) : (roundEnd id σ env υ jump).steps σ := by
  unfold roundEnd
  split
  · rename_i ho3
    intro σ' hs'
    simp only [CR.st, Option.some.injEq] at hs'; subst hs'
    exact (h.trans (.put _ _ ho3)).out
  · simp [CR.steps, CR.st]
theorem roundA_steps {ex : Nat → Code → Env → St → XR} (hx : ∀ nt c env σ, (ex nt c env σ).steps σ) (id : Nat) (args : List AV) (σ : St) :
    (roundA ex id args σ).steps σ := by
  unfold roundA
  simp only [cond_eq_ite]
  split
  · rename_i pend tm nt ps assign body ho
    split
    · simp [CR.steps, CR.st]
    split
    · simp [CR.steps, CR.st]
    · rename_i tm' hb
      have h1 := hx nt assign { tm := tm', ds := [], md := none, rd := true } ((σ.lgR id).bare)
      split
      · rename_i env τ hr
        have s1 : StepA (σ.lgR id).bare τ := h1 τ (by rw [hr]; rfl)
        have s1 : StepA σ.bare τ := ⟨s1.next, s1.rd, s1.wr, s1.keep, s1.dom, s1.wlt⟩
        split
        · rename_i pend' tm₂ nt₂ ps₂ as₂ bd₂ ho2
          have s2 : StepA σ.bare (τ.put id (.loop 1 pend' tm₂ nt₂ ps₂ as₂ bd₂)) := s1.trans (.put _ _ ho2)
          have h2 := hx nt body env (τ.put id (.loop 1 pend' tm₂ nt₂ ps₂ as₂ bd₂))
          split
          · rename_i hr2; exact roundEnd_steps (s2.trans (h2 _ (by rw [hr2]; rfl)))
          · rename_i hr2; exact roundEnd_steps (s2.trans (h2 _ (by rw [hr2]; rfl)))
          · rename_i hr2; exact roundEnd_steps (s2.trans (h2 _ (by rw [hr2]; rfl)))
          · rename_i hr2; exact roundEnd_steps (s2.trans (h2 _ (by rw [hr2]; rfl)))
          · simp [CR.steps, CR.st]
        · simp [CR.steps, CR.st]
      · simp [CR.steps, CR.st]
  · simp [CR.steps, CR.st]
/-- Summaries that step. -/
def HkSteps (C : Cfg) : Prop := ∀ f args σ, (C.hk f args σ).steps σ

theorem callA_steps {ex : Nat → Code → Env → St → XR} (hk : HkSteps C) (hx : ∀ nt c env σ, (ex nt c env σ).steps σ) : CallSteps (callA P C ex) := by
  intro cl args σ
  cases cl with
  | yld id => exact roundA_steps hx id args σ
  | fn f =>
    simp only [callA]
    have hh := hk f args σ
    split
    · rename_i hr; rw [hr] at hh; exact hh
    · rename_i hr; rw [hr] at hh; exact hh
    · split
      · simp [CR.steps, CR.st]
      · split
        · simp [CR.steps, CR.st]
        · simp only [cond_eq_ite]
          split
          · exact endA_steps (callD_steps hx) (hx _ _ _ _)
          · simp [CR.steps, CR.st]

theorem scopeA_steps {ex : Code → Env → St → XR} (hx : ∀ c env σ, (ex c env σ).steps σ) {a : Code} {σ : St} : ∀ (k : Nat) (r : XR), r.steps σ → (scopeA ex k a r).steps σ := by
  intro k
  induction k with
  | zero => intro r _; exact xsteps_no
  | succ k ih =>
    intro r h
    unfold scopeA
    split
    · rename_i l env τ
      split
      · exact ih _ ((hx _ _ _).trans (h τ rfl))
      · exact h
    · exact h

/-- What is the same in both, or given up. -/
theorem meetH_get (other : T Ob) : ∀ (l : List Nat) (h : T Ob) (j : Nat), (meetH other l h).get j = h.get j ∨ (j ∈ l ∧ (∃ o, h.get j = some o) ∧ (meetH other l h).get j = some .dead) := by
  intro l
  induction l with
  | nil => intro h j; exact .inl rfl
  | cons i l ih =>
    intro h j
    unfold meetH
    have hgo : ∀ h' : T Ob, (h'.get j = h.get j ∨ (j = i ∧ (∃ o, h.get j = some o) ∧ h'.get j = some .dead)) →
        (meetH other l h').get j = h.get j ∨ (j ∈ i :: l ∧ (∃ o, h.get j = some o) ∧ (meetH other l h').get j = some .dead) := by
      intro h' hh
      rcases ih h' j with e | ⟨e1, ⟨o, e2⟩, e3⟩
      · rcases hh with g | ⟨g1, g2, g3⟩
        · exact .inl (e.trans g)
        · exact .inr ⟨by simp [g1], g2, e.trans g3⟩
      · rcases hh with g | ⟨g1, g2, g3⟩
        · exact .inr ⟨by simp [e1], ⟨o, g ▸ e2⟩, e3⟩
        · exact .inr ⟨by simp [e1], g2, e3⟩
    have hset : ∀ a, h.get i = some a → ((h.set i .dead).get j = h.get j ∨ (j = i ∧ (∃ o, h.get j = some o) ∧ (h.set i .dead).get j = some .dead)) := by
      intro a ha
      by_cases e : j = i
      · subst e; exact .inr ⟨rfl, ⟨a, ha⟩, T.get_set_same _ _ _⟩
      · exact .inl (T.get_set_ne _ _ e)
    split
    · rename_i a b ha _
      rw [cond_eq_ite]
      split
      · exact hgo h (.inl rfl)
      · exact hgo _ (hset a ha)
    · rename_i a ha _
      exact hgo _ (hset a ha)
    · exact hgo h (.inl rfl)

theorem meetS_heap (σ τ τ' : St) (j : Nat) : (meetS σ τ τ').heap.get j = τ.heap.get j ∨
    ((j ∈ τ.wr ∨ j ∈ τ'.wr ∨ σ.next ≤ j) ∧ (∃ o, τ.heap.get j = some o) ∧ (meetS σ τ τ').heap.get j = some .dead) := by
  have h1 := meetH_get τ'.heap τ.wr τ.heap j
  have h2 := meetH_get τ'.heap τ'.wr (meetH τ'.heap τ.wr τ.heap) j
  have h3 := killN_killed σ.next (Nat.max τ.next τ'.next - σ.next) σ.next (meetH τ'.heap τ'.wr (meetH τ'.heap τ.wr τ.heap)) j
  have e : (meetS σ τ τ').heap = killN σ.next (Nat.max τ.next τ'.next - σ.next) σ.next (meetH τ'.heap τ'.wr (meetH τ'.heap τ.wr τ.heap)) := rfl
  rw [e]
  rcases h1 with h1 | ⟨a1, a2, a3⟩
  · rcases h2 with h2 | ⟨b1, ⟨o, b2⟩, b3⟩
    · rcases h3 with h3 | ⟨c1, ⟨o, c2⟩, c3⟩
      · exact .inl (h3.trans (h2.trans h1))
      · exact .inr ⟨.inr (.inr c1), ⟨o, by rw [← h1, ← h2]; exact c2⟩, c3⟩
    · have : ∃ o, τ.heap.get j = some o := ⟨o, by rw [← h1]; exact b2⟩
      rcases h3 with h3 | ⟨c1, _, c3⟩
      · exact .inr ⟨.inr (.inl b1), this, h3.trans b3⟩
      · exact .inr ⟨.inr (.inl b1), this, c3⟩
  · rcases h2 with h2 | ⟨b1, _, b3⟩
    · rcases h3 with h3 | ⟨c1, _, c3⟩
      · exact .inr ⟨.inl a1, a2, h3.trans (h2.trans a3)⟩
      · exact .inr ⟨.inl a1, a2, c3⟩
    · rcases h3 with h3 | ⟨c1, _, c3⟩
      · exact .inr ⟨.inl a1, a2, h3.trans b3⟩
      · exact .inr ⟨.inl a1, a2, c3⟩

theorem meetS_step {σ τ τ' : St} (h : StepA σ τ) (h' : StepA σ τ') : StepA σ (meetS σ τ τ') :=
  ⟨Nat.le_trans h.next (Nat.le_max_left _ _), fun i hi => List.mem_append.2 (.inl (h.rd i hi)), fun i hi => List.mem_append.2 (.inl (h.wr i hi)),
    fun i hi hn => by
      have hn1 : i ∉ τ.wr := fun x => hn (List.mem_append.2 (.inl x))
      have hn2 : i ∉ τ'.wr := fun x => hn (List.mem_append.2 (.inr x))
      rcases meetS_heap σ τ τ' i with e | ⟨e | e | e, _⟩
      · exact e.trans (h.keep i hi hn1)
      · exact absurd e hn1
      · exact absurd e hn2
      · omega,
    fun d i hi => by
      have hi : Nat.max τ.next τ'.next ≤ i := hi
      have hd := h.dom d i (Nat.le_trans (Nat.le_max_left _ _) hi)
      rcases meetS_heap σ τ τ' i with e | ⟨_, ⟨o, e2⟩, _⟩
      · exact e.trans hd
      · (rw [hd] at e2; cases e2),
    fun d i hi => by
      rcases List.mem_append.1 hi with x | x
      · exact (h.wlt d i x).imp id fun y => Nat.lt_of_lt_of_le y (Nat.le_max_left _ _)
      · exact (h'.wlt d i x).imp id fun y => Nat.lt_of_lt_of_le y (Nat.le_max_right _ _)⟩

theorem join2_steps {σ : St} {a b : XR} (ha : a.steps σ) (hb : b.steps σ) : (join2 σ a b).steps σ := by
  unfold join2
  split
  · rename_i e env τ e' env' τ'
    rw [cond_eq_ite]
    split
    · exact xsteps_ok (meetS_step (ha τ rfl) (hb τ' rfl))
    · exact xsteps_no
  · exact xsteps_no
theorem joinX_steps {σ : St} : ∀ {l : List XR}, (∀ r ∈ l, r.steps σ) → (joinX σ l).steps σ := by
  intro l
  induction l with
  | nil => intro _; exact xsteps_no
  | cons r l ih =>
    intro h
    cases l with
    | nil => exact h r (by simp)
    | cons s l => exact join2_steps (h r (by simp)) (ih fun r hr => h r (by simp [hr]))

theorem exec_steps (hk : HkSteps C) : ∀ (n nt : Nat) (c : Code) (env : Env) (σ : St), (exec P C n nt c env σ).steps σ := by
  intro n
  induction n with
  | zero => intro nt c env σ; exact xsteps_no
  | succ n ih =>
    intro nt c env σ
    cases c with
    | skip => exact xsteps_ok (.refl _)
    | label l => exact xsteps_ok (.refl _)
    | ret => exact xsteps_ok (.refl _)
    | exit id => exact xsteps_ok (.refl _)
    | goto l => exact xsteps_ok (.refl _)
    | seq a b =>
      simp only [exec]
      have h := ih nt a env σ
      split
      · rename_i hr
        exact (ih _ _ _ _).trans (h _ (by rw [hr]; rfl))
      · exact h
    | cond x a b =>
      simp only [exec]
      split
      · exact ih _ _ _ _
      · exact ih _ _ _ _
      · exact xsteps_no
    | block id a =>
      simp only [exec]
      have h := ih nt a env σ
      split
      · rename_i hr
        have hs := h _ (by rw [hr]; rfl)
        simp only [cond_eq_ite]
        split
        · exact xsteps_ok hs
        · exact xsteps_ok hs
      · exact h
    | loop a =>
      simp only [exec]
      split
      · have h := ih nt a env σ
        split
        · rename_i hr
          exact (ih _ _ _ _).trans (h _ (by rw [hr]; rfl))
        · exact h
      · split
        · exact xsteps_no
        · split
          · exact xsteps_no
          · rename_i l hl
            refine joinX_steps fun r hr => ?_
            obtain ⟨p, hp, rfl⟩ := List.mem_map.1 hr
            have hs := mnextA_step hl p hp
            split
            · exact xsteps_no
            · rename_i env1 _
              have h1 := runOps_steps (P := P) (C := C) (callA_steps (P := P) hk ih) (nt := nt) (ops := ‹Array Oper›) (‹Array Oper›).toList.tail env1 p.2
              split
              · rename_i hr1
                have h2 := h1 _ (by rw [hr1]; rfl)
                split
                · rename_i hr2
                  exact (ih _ _ _ _).trans ((hs.trans h2).trans (ih _ _ _ _ _ (by rw [hr2]; rfl)))
                · exact (ih _ _ _ _).trans (hs.trans h2)
              · exact h1.trans hs
    | scope a => exact scopeA_steps (fun _ _ _ => ih _ _ _ _) n _ (ih _ _ _ _)
    | region id ops d =>
      cases d with
      | false => exact runOps_steps (callA_steps hk ih) _ _ _
      | true => exact drawA_steps (callA_steps hk ih)
    | rangeFunc f ps a b =>
      simp only [exec, cond_eq_ite]
      split
      · exact xsteps_no
      split
      · rename_i g first captured hv
        have s0 : StepA σ ((σ.mk' .dfr).mk' (.loop 0 none env.tm nt ps.toList a b)) := (StepA.mk' _ _).trans (.mk' _ _)
        split
        · rename_i cl args τ0 hcf
          have s00 : StepA σ τ0 := callFA_steps s0 τ0 (by rw [hcf]; rfl)
          have hc := callA_steps (P := P) hk ih cl args τ0
          split
          · rename_i v τ hr
            have s1 : StepA σ τ := s00.trans (hc τ (by rw [hr]; rfl))
            split
            · rename_i ho
              split
              · exact xsteps_no
              · have s2 := s1.trans (.put _ .dead ho)
                unfold rangeEnd
                split <;> first | exact xsteps_ok s2 | exact xsteps_no
            · exact xsteps_no
          · rename_i hr
            exact xsteps_ok (s00.trans (hc _ (by rw [hr]; rfl)))
          · exact xsteps_no
        · exact xsteps_no
      · exact xsteps_no
    | refuse w => exact xsteps_no

theorem callN_steps (hk : HkSteps C) (n : Nat) : CallSteps (callA P C (exec P C n)) := callA_steps hk (exec_steps hk n)
end
end Go.Tw
