/-
  A part of the proof that the abstract evaluator is sound for the model's machine. Conditions: those of each theorem, as it states them.
-/
import Derived.Test.YtelhnjgcijjngaaGreatDoorTwDraw3
set_option linter.all false
namespace Go.Tw
section
variable [Val]
variable {P : Program} {R : Nat} {C : Cfg} {D : Nat → Prop} {φ : PM} {σ : St} {w : World}
def readRes (tmps : Array Value) : ResultVar → Sem Value
  | .tmp t => pure (tmps.getD t undef)
  | .cell a t => do loadVar t (← asAddr (tmps.getD a undef))
omit [Val] in
theorem results_eq (fn : Func) (tmps : Array Value) :
    results fn tmps = (fn.results.mapM (readRes tmps) >>= fun vs => pure (if h : vs.size = 1 then vs[0] else .tuple vs)) := by
  unfold results
  congr 1
theorem resultsL_ok {fn : Func} {nt : Nat} {env : Env} {a : Act} (he : EnvR φ nt env a) : ∀ (rs : List ResultVar) (σ σ' : St) (l : List AV), Inv R C D φ σ w →
    resultsA P fn env σ rs = some (l, σ') → Known D σ σ' →
    ∃ l', (rs.mapM (readRes a.tmps)).run P w = .ok l' w ∧ VRL φ l l' ∧ σ'.heap = σ.heap ∧ σ'.next = σ.next ∧ σ'.wr = σ.wr := by
  intro rs
  induction rs with
  | nil =>
    intro σ σ' l hi h _
    simp only [resultsA, Option.some.injEq, Prod.mk.injEq] at h
    obtain ⟨rfl, rfl⟩ := h
    exact ⟨[], by simp, .nil, rfl, rfl, rfl⟩
  | cons r rest ih =>
    intro σ σ' l hi h hk
    cases r with
    | tmp t =>
      simp only [resultsA] at h
      split at h
      · rename_i v l1 σ1 hv hr
        simp only [Option.some.injEq, Prod.mk.injEq] at h
        obtain ⟨rfl, rfl⟩ := h
        obtain ⟨v', g1, g2⟩ := he.val t v hv
        obtain ⟨l', r1, r2, r3⟩ := ih σ σ1 l1 hi hr hk
        exact ⟨v' :: l', by simp [List.mapM_cons, readRes, g1, r1], .cons g2 r2, r3⟩
      · cases h
    | cell p t =>
      simp only [resultsA] at h
      split at h
      · rename_i q hq
        split at h
        · rename_i v σ1 hl
          split at h
          · rename_i l1 σ2 hr
            simp only [Option.some.injEq, Prod.mk.injEq] at h
            obtain ⟨rfl, rfl⟩ := h
            obtain ⟨q', g1, g2⟩ := he.val p q hq
            have s2 : StepA σ1 σ2 := resultsA_step _ hr
            obtain ⟨v', m1, m2, m3⟩ := loadA_ok hi hl g2 (hk.mono s2)
            have hsame : σ1.heap = σ.heap ∧ σ1.next = σ.next ∧ σ1.wr = σ.wr := by
              unfold loadA at hl
              repeat' split at hl
              all_goals (first | (cases hl; done) | (simp only [Option.some.injEq, Prod.mk.injEq] at hl; obtain ⟨_, rfl⟩ := hl; exact ⟨rfl, rfl, rfl⟩))
            have hi1 : Inv R C (More D σ) φ σ1 w := m3.inv hi (loadA_step hl)
            have hi1 : Inv R C D φ σ1 w := ⟨hi1.wf, hi1.low, fun i hd hn => hi1.rep i (.inl hd) hn, hi1.gl, hi1.dom, hi1.pin, hi1.dec, hi1.wrR, hi1.ro, hi1.oh⟩
            obtain ⟨l', r1, r2, r3, r4, r5⟩ := ih σ1 σ2 l1 hi1 hr (fun i h1 h2 => hk i h1 (by rw [← hsame.2.1]; exact h2))
            refine ⟨v' :: l', ?_, .cons m2 r2, r3.trans hsame.1, r4.trans hsame.2.1, r5.trans hsame.2.2⟩
            have hload : (readRes a.tmps (.cell p t)).run P w = .ok v' w := by
              simp only [readRes, Array.getD_eq_getD_getElem?, g1, Option.getD_some]
              cases g2 with
              | ptr e o _ _ _ _ => simpa [Instr.loadAt, Instr.sureAddr, asAddr] using m1
              | _ => simp [loadA] at hl
            rw [List.mapM_cons]
            simp only [Sem.run_bind, hload, r1, Result.andThen_ok, Sem.run_pure]
          · cases h
        · cases h
      · cases h
def given : List AV → AV
  | [v] => v
  | l => .tup l
theorem results_ok {fn : Func} {nt : Nat} {env : Env} {a : Act} {σ' : St} {l : List AV} (he : EnvR φ nt env a) (hi : Inv R C D φ σ w)
    (h : resultsA P fn env σ fn.results.toList = some (l, σ')) (hk : Known D σ σ') :
    ∃ v', (results fn a.tmps).run P w = .ok v' w ∧ VR φ (given l) v' ∧ Post R D φ σ w σ' φ w := by
  obtain ⟨l', r1, r2, r3, r4, r5⟩ := resultsL_ok he _ σ σ' l hi h hk
  have hrun : (results fn a.tmps).run P w = .ok (if h : l'.toArray.size = 1 then l'.toArray[0] else .tuple l'.toArray) w := by
    have : (fn.results.mapM (readRes a.tmps)).run P w = .ok l'.toArray w := by
      rw [Array.mapM_eq_mapM_toList]
      simp [r1]
    rw [results_eq, Sem.run_bind, this]
    rfl
  refine ⟨_, hrun, ?_, .same hi r3 r4 r5⟩
  cases r2 with
  | nil => exact .tup _ .nil
  | cons hv ht =>
    cases ht with
    | nil => simpa [given] using hv
    | cons hv2 ht =>
      have : ∀ (x y : Value) (r : List Value), (if h : (x :: y :: r).toArray.size = 1 then (x :: y :: r).toArray[0] else .tuple (x :: y :: r).toArray) = .tuple (x :: y :: r).toArray := by
        intro x y r
        rw [dif_neg]
        simp
      rw [this]
      exact .tup _ (.cons hv (.cons hv2 ht))
end
end Go.Tw
namespace Go.Tw
/-! What a loop over a map may come to, in whatever order: each outcome is one of the join's. -/
theorem sameC_eq : ∀ {a b : List (AV × Bool)}, sameC a b = true → a = b := by
  intro a
  induction a with
  | nil => intro b h; cases b <;> simp [sameC] at h; rfl
  | cons x a ih =>
    intro b h
    obtain ⟨v, c⟩ := x
    cases b with
    | nil => simp [sameC] at h
    | cons y b =>
      obtain ⟨u, d⟩ := y
      simp only [sameC, Bool.and_eq_true] at h
      rw [AV.same_eq h.1.1, boolB_eq h.1.2, ih h.2]
theorem sameD_eq : ∀ {a b : List ADef}, sameD a b = true → a = b := by
  intro a
  induction a with
  | nil => intro b h; cases b <;> simp [sameD] at h; rfl
  | cons x a ih =>
    intro b h
    cases b with
    | nil => cases x <;> simp [sameD] at h
    | cons y b =>
      cases x <;> cases y <;> simp only [sameD, Bool.and_eq_true, Bool.false_eq_true] at h
      · rw [beq_t h.1.1, sameL_eq h.1.2, ih h.2]
      · rw [beq_t h.1, ih h.2]
theorem sameM_eq {a b : Option AMode} (h : sameM a b = true) : a = b := by
  cases a with
  | none => cases b <;> simp [sameM] at h; rfl
  | some a =>
    cases b with
    | none => cases a <;> simp [sameM] at h
    | some b =>
      cases a <;> cases b <;> simp only [sameM, Bool.false_eq_true] at h
      · rfl
      · rw [sameC_eq h]
theorem sameX_eq {a b : AExit} (h : sameX a b = true) : a = b := by
  cases a <;> cases b <;> simp only [sameX, Bool.false_eq_true] at h
  · rfl
  · rw [beq_t h]
  · rw [beq_t h]
  · rfl
  · rw [sameC_eq h]
structure Less (σ : St) (e : AExit) (env : Env) (τ : St) (e' : AExit) (env' : Env) (τ' : St) : Prop where
  ex : e' = e
  tm : ∀ t v, env'.tm.get t = some v → env.tm.get t = some v
  ds : env'.ds = env.ds
  md : env'.md = env.md
  rd : env'.rd = env.rd
  next : τ.next ≤ τ'.next
  lrd : ∀ i ∈ τ.rd, i ∈ τ'.rd
  lwr : ∀ i ∈ τ.wr, i ∈ τ'.wr
  heap : ∀ i o, τ'.heap.get i = some o → o = .dead ∨ τ.heap.get i = some o
  own : ∀ i ∈ τ'.wr, i ∈ τ.wr ∨ ownB σ i = true
theorem Less.refl (σ : St) (e : AExit) (env : Env) (τ : St) : Less σ e env τ e env τ :=
  ⟨rfl, fun _ _ h => h, rfl, rfl, rfl, Nat.le_refl _, fun _ h => h, fun _ h => h, fun _ _ h => .inr h, fun _ h => .inl h⟩
theorem Less.trans {σ : St} {e1 e2 e3 : AExit} {v1 v2 v3 : Env} {τ1 τ2 τ3 : St} (h : Less σ e1 v1 τ1 e2 v2 τ2) (k : Less σ e2 v2 τ2 e3 v3 τ3) : Less σ e1 v1 τ1 e3 v3 τ3 :=
  ⟨k.ex.trans h.ex, fun t v x => h.tm t v (k.tm t v x), k.ds.trans h.ds, k.md.trans h.md, k.rd.trans h.rd, Nat.le_trans h.next k.next, fun i hi => k.lrd i (h.lrd i hi), fun i hi => k.lwr i (h.lwr i hi),
    fun i o x => by
      rcases k.heap i o x with y | y
      · exact .inl y
      · exact h.heap i o y,
    fun i hi => by
      rcases k.own i hi with y | y
      · exact h.own i y
      · exact .inr y⟩
theorem meetH_same (other : T Ob) : ∀ (l : List Nat) (h : T Ob) (j : Nat), (j ∈ l ∨ h.get j = none ∨ h.get j = some .dead ∨ h.get j = other.get j) →
    ∀ o, (meetH other l h).get j = some o → o = .dead ∨ other.get j = some o := by
  intro l
  induction l with
  | nil =>
    intro h j hj o ho
    have ho : h.get j = some o := ho
    rcases hj with hj | hj | hj | hj
    · cases hj
    · rw [hj] at ho; cases ho
    · rw [hj] at ho; cases ho; exact .inl rfl
    · rw [← hj]; exact .inr ho
  | cons i l ih =>
    intro h j hj o ho
    unfold meetH at ho
    refine ih _ j ?_ o ho
    by_cases e : j = i
    · subst e
      right
      split
      · rename_i a b ha hb
        rw [cond_eq_ite]
        split
        · rename_i hs
          rw [ha, hb, Ob.same_eq hs]
          exact .inr (.inr rfl)
        · exact .inr (.inl (T.get_set_same _ _ _))
      · exact .inr (.inl (T.get_set_same _ _ _))
      · rename_i hn; exact .inl hn
    · have hset : ∀ x, (h.set i x).get j = h.get j := fun x => T.get_set_ne _ _ e
      have hk : j ∈ l ∨ h.get j = none ∨ h.get j = some .dead ∨ h.get j = other.get j := by
        rcases hj with hj | hj
        · rcases List.mem_cons.1 hj with hj | hj
          · exact absurd hj e
          · exact .inl hj
        · exact .inr hj
      split
      · rw [cond_eq_ite]
        split
        · exact hk
        · rw [hset]; exact hk
      · rw [hset]; exact hk
      · exact hk
theorem join2_less {σ : St} {e1 e2 e : AExit} {v1 v2 v : Env} {τ1 τ2 τ : St} (h : join2 σ (.ok e1 v1 τ1) (.ok e2 v2 τ2) = .ok e v τ) (s1 : StepA σ τ1) (s2 : StepA σ τ2)
    (hd : ∀ i, σ.next ≤ i → σ.heap.get i = none) : Less σ e1 v1 τ1 e v τ ∧ Less σ e2 v2 τ2 e v τ := by
  unfold join2 at h
  dsimp only at h
  rw [cond_eq_ite] at h
  split at h
  · rename_i hb
    simp only [Bool.and_eq_true] at hb
    obtain ⟨⟨⟨⟨⟨b1, b2⟩, b3⟩, b4⟩, b5⟩, b6⟩ := hb
    have b1 := sameX_eq b1
    have b2 := sameD_eq b2
    have b3 := sameM_eq b3
    have b4 := boolB_eq b4
    simp only [XR.ok.injEq] at h
    obtain ⟨rfl, rfl, rfl⟩ := h
    have hlwr : ∀ i, i ∈ (meetS σ τ1 τ2).wr → (i ∈ τ1.wr ∨ i ∈ τ2.wr) := fun i hi => List.mem_append.1 hi
    refine ⟨{
      ex := rfl
      tm := fun t u hu => (T.get_meet _ _ _ _ hu).1
      ds := rfl
      md := rfl
      rd := rfl
      next := Nat.le_max_left _ _
      lrd := fun i hi => List.mem_append.2 (.inl hi)
      lwr := fun i hi => List.mem_append.2 (.inl hi)
      heap := fun i o ho => by
        rcases meetS_heap σ τ1 τ2 i with x | ⟨_, _, x⟩
        · rw [x] at ho; exact .inr ho
        · rw [x] at ho; cases ho; exact .inl rfl
      own := fun i hi => (hlwr i hi).imp id fun x => List.all_eq_true.1 b6 i x }, {
      ex := b1
      tm := fun t u hu => by
        obtain ⟨_, b, hb1, hb2⟩ := T.get_meet _ _ _ _ hu
        rw [AV.same_eq hb2]; exact hb1
      ds := b2
      md := b3
      rd := b4
      next := Nat.le_max_right _ _
      lrd := fun i hi => List.mem_append.2 (.inr hi)
      lwr := fun i hi => List.mem_append.2 (.inr hi)
      heap := fun i o ho => ?_
      own := fun i hi => (hlwr i hi).symm.imp id fun x => List.all_eq_true.1 b5 i x }⟩
    rcases meetS_heap σ τ1 τ2 i with x | ⟨_, _, x⟩
    · have h1 : τ1.heap.get i = some o := by rw [← x]; exact ho
      have hlt : i < τ1.next := by
        rcases Nat.lt_or_ge i τ1.next with y | y
        · exact y
        · rw [s1.dom hd i y] at h1; cases h1
      have e : (meetS σ τ1 τ2).heap = killN σ.next (Nat.max τ1.next τ2.next - σ.next) σ.next (meetH τ2.heap τ2.wr (meetH τ2.heap τ1.wr τ1.heap)) := rfl
      by_cases hn : σ.next ≤ i
      · rw [e] at ho
        have hmx : τ1.next ≤ Nat.max τ1.next τ2.next := Nat.le_max_left _ _
        rcases killN_gone (n := σ.next) (k := Nat.max τ1.next τ2.next - σ.next) (i := σ.next) (h := meetH τ2.heap τ2.wr (meetH τ2.heap τ1.wr τ1.heap)) (j := i) hn (by omega) hn with y | y
        · rw [y] at ho; cases ho
        · rw [y] at ho; cases ho; exact .inl rfl
      · have hlt' : i < σ.next := by omega
        by_cases hw1 : i ∈ τ1.wr
        · have h3 := meetH_same τ2.heap τ1.wr τ1.heap i (.inl hw1)
          have h4 := meetH_get τ2.heap τ2.wr (meetH τ2.heap τ1.wr τ1.heap) i
          rcases killN_killed σ.next (Nat.max τ1.next τ2.next - σ.next) σ.next (meetH τ2.heap τ2.wr (meetH τ2.heap τ1.wr τ1.heap)) i with y | ⟨y, _⟩
          · rw [e, y] at ho
            rcases h4 with z | ⟨_, _, z⟩
            · rw [z] at ho; exact h3 o ho
            · rw [z] at ho; cases ho; exact .inl rfl
          · omega
        · by_cases hw2 : i ∈ τ2.wr
          · have h3 := meetH_same τ2.heap τ2.wr (meetH τ2.heap τ1.wr τ1.heap) i (.inl hw2)
            rcases killN_killed σ.next (Nat.max τ1.next τ2.next - σ.next) σ.next (meetH τ2.heap τ2.wr (meetH τ2.heap τ1.wr τ1.heap)) i with y | ⟨y, _⟩
            · rw [e, y] at ho; exact h3 o ho
            · omega
          · right
            rw [s2.keep i hlt' hw2, ← s1.keep i hlt' hw1]
            exact h1
    · rw [x] at ho; cases ho; exact .inl rfl
  · cases h
theorem joinX_less {σ : St} (hd : ∀ i, σ.next ≤ i → σ.heap.get i = none) : ∀ {l : List XR} {e : AExit} {v : Env} {τ : St}, joinX σ l = .ok e v τ → (∀ r ∈ l, r.steps σ) →
    ∀ r ∈ l, ∃ e1 v1 τ1, r = .ok e1 v1 τ1 ∧ Less σ e1 v1 τ1 e v τ := by
  intro l
  induction l with
  | nil => intro e v τ h; cases h
  | cons r l ih =>
    intro e v τ h hs q hq
    cases l with
    | nil =>
      have h : r = .ok e v τ := h
      simp only [List.mem_singleton] at hq
      subst hq
      exact ⟨e, v, τ, h, .refl _ _ _ _⟩
    | cons s l =>
      have h : join2 σ r (joinX σ (s :: l)) = .ok e v τ := h
      cases r with
      | no => cases h
      | ok e1 v1 τ1 =>
        cases hj : joinX σ (s :: l) with
        | no => rw [hj] at h; cases h
        | ok e2 v2 τ2 =>
          rw [hj] at h
          have s1 : StepA σ τ1 := hs (.ok e1 v1 τ1) (by simp) τ1 rfl
          have s2 : StepA σ τ2 := joinX_steps (fun r hr => hs r (List.mem_cons_of_mem _ hr)) τ2 (by rw [hj]; rfl)
          obtain ⟨k1, k2⟩ := join2_less h s1 s2 hd
          rcases List.mem_cons.1 hq with rfl | hq
          · exact ⟨e1, v1, τ1, rfl, k1⟩
          · obtain ⟨e3, v3, τ3, g1, g2⟩ := ih hj (fun r hr => hs r (List.mem_cons_of_mem _ hr)) q hq
            exact ⟨e3, v3, τ3, g1, g2.trans k2⟩
section
variable [Val]
variable {P : Program} {R : Nat} {C : Cfg} {D : Nat → Prop} {φ φ' : PM} {σ τ τ' : St} {w w' : World} {e e' : AExit} {env env' : Env}
theorem own_low (hi : Inv R C D φ σ w) {i : Nat} (h : ownB σ i = true) (hk : i < σ.next → D i) : R ≤ i := by
  unfold ownB at h
  rw [cond_eq_ite] at h
  split at h
  · rename_i hb
    exact Nat.le_trans hi.low (ble_t hb)
  · rename_i hb
    have hlt : i < σ.next := by
      rcases Nat.lt_or_ge i σ.next with x | x
      · exact x
      · exact absurd (Nat.ble_eq_true_of_le x) hb
    have hr := hi.rep i (hk hlt) hlt
    split at h
    · cases h
    · cases h
    · cases h
    · rename_i o n1 n2 n3 ho
      rw [ho] at hr
      cases o with
      | ro c => exact absurd rfl (n1 c)
      | dead => exact absurd rfl n2
      | opq => exact absurd rfl (n3 _ _ _ _ _ _ _ _)
      | box => exact hr.1
      | arr => exact hr.1
      | map => exact hr.1
      | iter => exact hr.1
      | miter => exact hr.1
      | dfr => exact hr.1
      | loop => exact hr.1
    · cases h
theorem Post.less (hi : Inv R C D φ σ w) (h : Post R D φ σ w τ φ' w') (hl : Less σ e env τ e' env' τ') (hk : Known D σ τ') (s : StepA σ τ) : Post R D φ σ w τ' φ' w' where
  le := h.le
  grow := fun i h1 h2 v => h.grow i (by
      rcases h1 with h1 | h1
      · exact .inl fun x => h1 (hl.lwr i x)
      · exact .inr (Nat.le_trans hl.next h1)) (fun x => h2 ⟨x.1, Nat.lt_of_lt_of_le x.2 hl.next⟩) v
  wrR := fun i hi' => by
    rcases hl.own i hi' with x | x
    · exact h.wrR i x
    · exact .inr (own_low hi x fun y => hk i (.inr hi') y)
  wf := h.wf
  blk := h.blk
  rep := fun i hi' => by
    cases ho : τ'.heap.get i with
    | none => trivial
    | some o =>
      rcases hl.heap i o ho with x | x
      · subst x; trivial
      · rw [← x]
        refine h.rep i ?_
        rcases hi' with y | ⟨y, _⟩
        · exact .inl y
        · refine .inr ⟨y, ?_⟩
          rcases Nat.lt_or_ge i τ.next with z | z
          · exact z
          · rw [s.dom hi.dom i z] at x; cases x
  frm := ⟨h.frm.size, fun b hb hn => h.frm.keep b hb fun i hi' => hn i (hl.lwr i hi'), h.frm.os, h.frm.out, h.frm.tape⟩
end
end Go.Tw
namespace Go.Tw
section
variable [Val]
variable {P : Program} {R : Nat} {C : Cfg}
def XPost (R : Nat) (D : Nat → Prop) (φ : PM) (σ : St) (w : World) (nt : Nat) (ro : Option Nat) (dk : Bool) (base : List Frame) (e : AExit) (env' : Env) (σ' : St)
    (e' : Exit) (a' : Act) (cs' : List Frame) (w' : World) : Prop :=
  ∃ φ', ExitR φ' e e' ∧ FrmR φ' nt env' a' ∧ CsR φ' dk base cs' env'.md ∧ env'.rd = ro.isSome ∧ Post R D φ σ w σ' φ' w'
section
variable {D : Nat → Prop} {φ φ1 : PM} {σ σ1 σ' : St} {w w1 : World} {nt : Nat} {ro : Option Nat} {dk : Bool} {base : List Frame} {e : AExit} {env' : Env} {e' : Exit} {a' : Act} {cs' : List Frame} {w' : World}
theorem XPost.chain (h : Post R D φ σ w σ1 φ1 w1) (s1 : StepA σ σ1) (s2 : StepA σ1 σ') (k : XPost R (More D σ) φ1 σ1 w1 nt ro dk base e env' σ' e' a' cs' w') :
    XPost R D φ σ w nt ro dk base e env' σ' e' a' cs' w' := by
  obtain ⟨φ', h1, h2, h3, h4, h5⟩ := k
  exact ⟨φ', h1, h2, h3, h4, h.trans h5 s1 s2⟩
end
def ExecOk (P : Program) (R : Nat) (C : Cfg) (n : Nat) : Prop :=
  ∀ (nt : Nat) (c : Code) (env : Env) (σ : St) (e : AExit) (env' : Env) (σ' : St) (D : Nat → Prop) (φ : PM) (a : Act) (cs : List Frame) (w : World) (ro : Option Nat) (dk : Bool) (base : List Frame),
    exec P C n nt c env σ = .ok e env' σ' → Inv R C D φ σ w → FrmR φ nt env a → CsR φ dk base cs env.md → env.rd = ro.isSome → Known D σ σ' → Free φ σ σ' →
    Runs P ro dk c (XPost R D φ σ w nt ro dk base e env' σ') a cs w
def LoopOk (P : Program) (R : Nat) (C : Cfg) (n : Nat) : Prop :=
  ∀ (nt : Nat) (c : Code) (env : Env) (σ : St) (e : AExit) (env' : Env) (σ' : St) (D : Nat → Prop) (φ : PM) (a : Act) (cs : List Frame) (w : World) (ro : Option Nat) (dk : Bool) (base : List Frame),
    exec P C n nt (.loop c) env σ = .ok e env' σ' → Inv R C D φ σ w → FrmR φ nt env a → CsR φ dk base cs env.md → env.rd = ro.isSome → Known D σ σ' → Free φ σ σ' →
    ∀ (b : Frame) (k : List Item), b.roundOf = ro → b.kind = kindOf dk → ∃ e' a' cs' w', XPost R D φ σ w nt ro dk base e env' σ' e' a' cs' w' ∧
      ArrivesIn (Machine.fenced P Fence.wide) P (lone (b.atR a (.code c :: .inLoop c :: k)) cs w) b k cs' e' a' w'
theorem exit_normal {φ : PM} {e' : Exit} (h : ExitR φ .normal e') : e' = .normal := by cases e' <;> simp_all [ExitR]
theorem exit_not_normal {φ : PM} {e : AExit} {e' : Exit} (h : ExitR φ e e') (hn : e ≠ .normal) : e' ≠ .normal := by
  cases e <;> cases e' <;> simp_all [ExitR]
omit [Val] in
theorem headA_some {c : Code} {o : Oper} {ops : Array Oper} {it : Operand} {bc : Code} (h : headA c = some (o, ops, it, bc)) :
    ∃ id l, c = .seq (.region id ops false) bc ∧ ops.toList = o :: l ∧ o.op = .next it false ∧ o.guard = none := by
  unfold headA at h
  split at h
  · rename_i id ops' b
    split at h
    · rename_i o' l hl
      split at h
      · rename_i it' ho hg
        simp only [Option.some.injEq, Prod.mk.injEq] at h
        obtain ⟨rfl, rfl, rfl, rfl⟩ := h
        exact ⟨id, l, rfl, hl, ho, hg⟩
      · cases h
    · cases h
  · cases h
noncomputable def headX (P : Program) (C : Cfg) (n nt : Nat) (env : Env) (o : Oper) (ops : Array Oper) (bc : Code) (p : AV × St) : XR :=
  match putA nt env o.dst p.1 with
  | none => .no
  | some env => match runOps P C (callA P C (exec P C n)) nt ops ops.toList.tail env p.2 with
    | .ok .normal env σ => exec P C n nt bc env σ
    | r => r
theorem head_ok (hs : HkSteps C) {n : Nat} (hx : ExecOk P R C n) (hc : CallOk P R C (callA P C (exec P C n))) {c : Code} {o : Oper} {ops : Array Oper} {it : Operand} {bc : Code}
    (hh : headA c = some (o, ops, it, bc)) {D : Nat → Prop} {φ : PM} {σ : St} {w : World} {nt : Nat} {env : Env} {a : Act} {cs : List Frame} {ro : Option Nat} {dk : Bool} {base : List Frame}
    (hi : Inv R C D φ σ w) (he : FrmR φ nt env a) (hmd : CsR φ dk base cs env.md) (hrd : env.rd = ro.isSome) {x : AV} (hev : evalO C env it = some x) {l : List (AV × St)}
    (hl : mnextA x σ = some l) (hk : ∀ p ∈ l, Known D σ p.2) :
    ∃ p ∈ l, ∀ eb envb σb, headX P C n nt env o ops bc p = .ok eb envb σb → Known D σ σb → Free φ σ σb → Runs P ro dk c (XPost R D φ σ w nt ro dk base eb envb σb) a cs w := by
  obtain ⟨id, ol, rfl, hol, hop, hg⟩ := headA_some hh
  obtain ⟨p, hp, w', v', hrun, hv, hpost⟩ := mnextA_ok (P := P) (t := o.type) hi hl (evalO_ok he.ev hi hev) hk
  refine ⟨p, hp, fun eb envb σb hX hkb hfb => ?_⟩
  have hcs : CallSteps (callA P C (exec P C n)) := callA_steps hs (exec_steps hs n)
  have s1 : StepA σ p.2 := mnextA_step hl p hp
  unfold headX at hX
  split at hX
  · cases hX
  · rename_i env1 hput
    obtain ⟨p1, p2, p3⟩ := putA_keep hput
    have hsz : ops.size = ol.length + 1 := by rw [← Array.length_toList, hol]; rfl
    have ho0 : ops[0]? = some o := by rw [← Array.getElem?_toList, hol]; rfl
    have htl : ops.toList.tail = ol := by rw [hol]; rfl
    have hrest : ∀ j, ol[j]? = ops[1 + j]? := fun j => by rw [← Array.getElem?_toList, hol, Nat.add_comm]; rfl
    have hrun' : (o.semAt ro a.eval).run P w = .ok (.value v') w' := by
      rw [Oper.semAt_eq ro _ _ (fun c => by rw [hop]; simp)]
      unfold execOp
      rw [hop]
      simp [hrun]
    have hwant : Region.wanted o (yielded ops a.tmps) = true := by unfold Region.wanted; rw [hg]
    refine runs_seq (runs_region ?_)
    rw [hsz, List.range_eq_range', List.range'_succ]
    refine ops_value ho0 hwant (.inl rfl) hrun' ?_
    have hi1 := hpost.inv hi s1
    have he1 : FrmR φ nt env1 (a.put o.dst v') := he.put hput hv
    rw [htl] at hX
    cases hr : runOps P C (callA P C (exec P C n)) nt ops ol env1 p.2 with
    | no => rw [hr] at hX; cases hX
    | ok e2 env2 σ2 =>
      rw [hr] at hX
      have s2 : StepA p.2 σ2 := runOps_steps hcs ol env1 p.2 σ2 (by rw [hr]; rfl)
      have s3 : StepA σ2 σb := by
        cases e2 with
        | normal => exact exec_steps hs n nt bc env2 σ2 σb (by rw [show exec P C n nt bc env2 σ2 = .ok eb envb σb from hX]; rfl)
        | _ => simp only [XR.ok.injEq] at hX; obtain ⟨_, _, rfl⟩ := hX; exact .refl _
      refine runOps_ok hc hcs ol 1 env1 p.2 _ cs w' φ (More D σ) e2 env2 σ2 hr hrest hi1 he1 (p2 ▸ hmd) (p3.trans hrd) ((hkb.mono s3).then) ((hfb.mono s3).then hpost s1) _ fun φ2 e2' a2 cs2 w2 q1 q2 q3 q4 q5 => ?_
      have hp2 : Post R D φ σ w σ2 φ2 w2 := hpost.trans q5 s1 s2
      cases e2 with
      | normal =>
        have := exit_normal q1
        subst this
        have hX : exec P C n nt bc env2 σ2 = .ok eb envb σb := hX
        exact Runs.mono (hx nt bc env2 σ2 eb envb σb (More D σ) φ2 a2 cs2 w2 ro dk base hX (hp2.inv hi (s1.trans s2)) q2 q3 q4 hkb.then (hfb.then hp2 (s1.trans s2))) fun e3 a3 cs3 w3 q => q.chain hp2 (s1.trans s2) s3
      | _ =>
        simp only [XR.ok.injEq] at hX
        obtain ⟨rfl, rfl, rfl⟩ := hX
        have hnn : e2' ≠ .normal := exit_not_normal q1 (by simp)
        cases e2' with
        | normal => exact absurd rfl hnn
        | _ => exact ⟨φ2, q1, q2, q3, q4, hp2⟩
theorem loop_next (hs : HkSteps C) {n : Nat} (hx : ExecOk P R C n) (hc : CallOk P R C (callA P C (exec P C n))) (hl : LoopOk P R C n) : LoopOk P R C (n + 1) := by
  intro nt c env σ e env' σ' D φ a cs w ro dk base h hi he hm hrd hk hf b k hb hkd
  simp only [exec] at h
  -- what comes behind a round
  have hgo : ∀ (eb : AExit) (envb : Env) (σb : St), StepA σ σb → Runs P ro dk c (XPost R D φ σ w nt ro dk base eb envb σb) a cs w → ∀ (e2 : AExit) (env2 : Env) (σ2 : St),
      (match (XR.ok eb envb σb) with
        | .ok .normal env σ => exec P C n nt (.loop c) env σ
        | r => r) = .ok e2 env2 σ2 → Known D σ σ2 → Free φ σ σ2 →
      ∃ e' a' cs' w', XPost R D φ σ w nt ro dk base e2 env2 σ2 e' a' cs' w' ∧ ArrivesIn (Machine.fenced P Fence.wide) P (lone (b.atR a (.code c :: .inLoop c :: k)) cs w) b k cs' e' a' w' := by
    intro eb envb σb s1 hr e2 env2 σ2 h2 hk2 hf2
    obtain ⟨e1, a1, cs1, w1, q, harr⟩ := hr b (.inLoop c :: k) hb hkd
    cases eb with
    | normal =>
      have h2 : exec P C n nt (.loop c) envb σb = .ok e2 env2 σ2 := h2
      obtain ⟨φ1, g1, g2, g3, g4, g5⟩ := q
      have := exit_normal g1
      subst this
      have s2 : StepA σb σ2 := exec_steps hs n nt (.loop c) envb σb σ2 (by rw [h2]; rfl)
      obtain ⟨e3, a3, cs3, w3, q3, harr3⟩ := hl nt c envb σb e2 env2 σ2 (More D σ) φ1 a1 cs1 w1 ro dk base h2 (g5.inv hi s1) g2 g3 g4 hk2.then (hf2.then g5 s1) b k hb hkd
      exact ⟨e3, a3, cs3, w3, q3.chain g5 s1 s2, .of_steps (StepsIn.trans harr (one_wide stepR_inLoop)) harr3⟩
    | _ =>
      simp only [XR.ok.injEq] at h2
      obtain ⟨rfl, rfl, rfl⟩ := h2
      have hnn : e1 ≠ .normal := by
        obtain ⟨φ1, g1, _⟩ := q
        exact exit_not_normal g1 (by simp)
      exact ⟨e1, a1, cs1, w1, q, .pass (x := .inLoop c) rfl (fun _ _ => .inl hnn) harr⟩
  split at h
  · cases hX : exec P C n nt c env σ with
    | no => rw [hX] at h; cases h
    | ok eb envb σb =>
      rw [hX] at h
      have s1 : StepA σ σb := exec_steps hs n nt c env σ σb (by rw [hX]; rfl)
      have s2 : StepA σb σ' := by
        cases eb with
        | normal => exact exec_steps hs n nt (.loop c) envb σb σ' (by rw [show exec P C n nt (.loop c) envb σb = .ok e env' σ' from h]; rfl)
        | _ => simp only [XR.ok.injEq] at h; obtain ⟨_, _, rfl⟩ := h; exact .refl _
      exact hgo eb envb σb s1 (hx nt c env σ eb envb σb D φ a cs w ro dk base hX hi he hm hrd (hk.mono s2) (hf.mono s2)) e env' σ' h hk hf
  · rename_i o ops it bc hh
    split at h
    · cases h
    · rename_i x hev
      split at h
      · cases h
      · rename_i l hml
        have hcs : CallSteps (callA P C (exec P C n)) := callA_steps hs (exec_steps hs n)
        -- each choice, by way of its round
        let rp : AV × St → XR := fun p => match putA nt env o.dst p.1 with
          | none => .no
          | some env => match runOps P C (callA P C (exec P C n)) nt ops ops.toList.tail env p.2 with
            | .ok .normal env σ => match exec P C n nt bc env σ with
              | .ok .normal env σ => exec P C n nt (.loop c) env σ
              | r => r
            | r => r
        have h : joinX σ (l.map rp) = .ok e env' σ' := h
        have hrp : ∀ p, rp p = (match headX P C n nt env o ops bc p with
            | .ok .normal env σ => exec P C n nt (.loop c) env σ
            | r => r) := by
          intro p
          unfold headX
          cases hpq : putA nt env o.dst p.1 with
          | none => simp only [rp, hpq]
          | some env1 =>
            simp only [rp, hpq]
            cases runOps P C (callA P C (exec P C n)) nt ops ops.toList.tail env1 p.2 with
            | no => rfl
            | ok e1 v1 τ1 => cases e1 <;> rfl
        have hXs : ∀ p ∈ l, (headX P C n nt env o ops bc p).steps σ := by
          intro p hp
          have hs1 := mnextA_step hml p hp
          unfold headX
          split
          · exact xsteps_no
          · rename_i env1 _
            have h1 := runOps_steps (P := P) (C := C) hcs (nt := nt) (ops := ops) ops.toList.tail env1 p.2
            split
            · rename_i hr1
              exact (exec_steps hs n _ _ _ _).trans (hs1.trans (h1 _ (by rw [hr1]; rfl)))
            · exact h1.trans hs1
        have hsteps : ∀ r ∈ l.map rp, r.steps σ := by
          intro r hr
          obtain ⟨p, hp, rfl⟩ := List.mem_map.1 hr
          rw [hrp]
          have := hXs p hp
          split
          · rename_i hr1
            exact (exec_steps hs n _ _ _ _).trans (this _ (by rw [hr1]; rfl))
          · exact this
        have hless := joinX_less hi.dom h hsteps
        have hXok : ∀ p ∈ l, ∃ eb envb σb e1 v1 τ1, headX P C n nt env o ops bc p = .ok eb envb σb ∧ StepA σ σb ∧ StepA p.2 σb ∧ StepA σb τ1 ∧
            (match (XR.ok eb envb σb) with
              | .ok .normal env σ => exec P C n nt (.loop c) env σ
              | r => r) = .ok e1 v1 τ1 ∧ Less σ e1 v1 τ1 e env' σ' := by
          intro p hp
          obtain ⟨e1, v1, τ1, g1, g2⟩ := hless (rp p) (List.mem_map_of_mem hp)
          rw [hrp] at g1
          cases hX : headX P C n nt env o ops bc p with
          | no => rw [hX] at g1; cases g1
          | ok eb envb σb =>
            rw [hX] at g1
            refine ⟨eb, envb, σb, e1, v1, τ1, rfl, hXs p hp σb (by rw [hX]; rfl), ?_, ?_, g1, g2⟩
            · unfold headX at hX
              split at hX
              · cases hX
              · rename_i env1 _
                have h1 := runOps_steps (P := P) (C := C) hcs (nt := nt) (ops := ops) ops.toList.tail env1 p.2
                split at hX
                · rename_i hr1
                  exact (h1 _ (by rw [hr1]; rfl)).trans (exec_steps hs n _ _ _ _ _ (by rw [hX]; rfl))
                · exact h1 _ (by rw [hX]; rfl)
            · cases eb with
              | normal => exact exec_steps hs n nt (.loop c) envb σb τ1 (by rw [show exec P C n nt (.loop c) envb σb = .ok e1 v1 τ1 from g1]; rfl)
              | _ => simp only [XR.ok.injEq] at g1; obtain ⟨_, _, rfl⟩ := g1; exact .refl _
        have hkl : ∀ {τ : St} {e1 : AExit} {v1 : Env}, Less σ e1 v1 τ e env' σ' → Known D σ τ := fun g i hi' hn => hk i (hi'.imp (g.lrd i) (g.lwr i)) hn
        have hfl : ∀ {τ : St} {e1 : AExit} {v1 : Env}, Less σ e1 v1 τ e env' σ' → Free φ σ τ := fun g i h1 h2 v => hf i h1 (Nat.lt_of_lt_of_le h2 g.next) v
        obtain ⟨p, hp, hrunp⟩ := head_ok hs hx hc hh hi he hm hrd hev hml (fun p hp => by
          obtain ⟨eb, envb, σb, e1, v1, τ1, _, _, s3, s4, _, g2⟩ := hXok p hp
          exact (hkl g2).mono (s3.trans s4))
        obtain ⟨eb, envb, σb, e1, v1, τ1, hX, s2, s3, s4, g1, g2⟩ := hXok p hp
        obtain ⟨e3, a3, cs3, w3, ⟨φ3, q1, q2, q3, q4, q5⟩, harr⟩ := hgo eb envb σb s2 (hrunp eb envb σb hX ((hkl g2).mono s4) ((hfl g2).mono s4)) e1 v1 τ1 g1 (hkl g2) (hfl g2)
        refine ⟨e3, a3, cs3, w3, ⟨φ3, by rw [g2.ex]; exact q1, ⟨⟨q2.ev.size, fun t v hv => q2.ev.val t v (g2.tm t v hv)⟩, by rw [g2.ds]; exact q2.dfs⟩, by rw [g2.md]; exact q3, by rw [g2.rd]; exact q4,
          q5.less hi g2 hk (s2.trans s4)⟩, harr⟩
omit [Val] in
theorem stepR_scope {b : Frame} {a : Act} {k : List Item} {cs : List Frame} {w : World} {c : Code} : step P (lone (b.atR a (.code (.scope c) :: k)) cs w) = .next (lone (b.atR a (.code c :: .inScope c :: k)) cs w) :=
  step_lone_go (by simp [stepG, stepG.exec, Frame.atR])
omit [Val] in
theorem stepR_inScope {b : Frame} {a : Act} {k : List Item} {cs : List Frame} {w : World} {c : Code} : step P (lone (b.atR a (.inScope c :: k)) cs w) = .next (lone (b.atR a k) cs w) :=
  step_lone_go (by simp [stepG, stepG.exec, Frame.atR])
theorem scope_ok (hs : HkSteps C) {n nt : Nat} (hx : ExecOk P R C n) {c : Code} {b : Frame} {K : List Item} {m : Machine} {ro : Option Nat} {dk : Bool} {base : List Frame} (hb : b.roundOf = ro)
    (hkd : b.kind = kindOf dk) :
    ∀ (j : Nat) (D : Nat → Prop) (φ : PM) (σ : St) (w : World) (e0 : AExit) (env0 : Env) (σ0 : St) (e0' : Exit) (a0 : Act) (cs0 : List Frame) (w0 : World) (e : AExit) (env' : Env) (σ' : St),
      scopeA (exec P C n nt) j c (.ok e0 env0 σ0) = .ok e env' σ' → Inv R C D φ σ w → StepA σ σ0 → Known D σ σ' → Free φ σ σ' → XPost R D φ σ w nt ro dk base e0 env0 σ0 e0' a0 cs0 w0 →
      ArrivesIn (Machine.fenced P Fence.wide) P m b (.inScope c :: K) cs0 e0' a0 w0 →
      ∃ e' a' cs' w', XPost R D φ σ w nt ro dk base e env' σ' e' a' cs' w' ∧ ArrivesIn (Machine.fenced P Fence.wide) P m b K cs' e' a' w' := by
  intro j
  induction j with
  | zero => intro D φ σ w e0 env0 σ0 e0' a0 cs0 w0 e env' σ' h; simp [scopeA] at h
  | succ j ih =>
    intro D φ σ w e0 env0 σ0 e0' a0 cs0 w0 e env' σ' h hi s0 hk hf hp harr
    unfold scopeA at h
    split at h
    · rename_i l env1 σ1 heq
      simp only [XR.ok.injEq] at heq
      obtain ⟨rfl, rfl, rfl⟩ := heq
      obtain ⟨φ1, g1, g2, g3, g4, g5⟩ := hp
      have hl : e0' = .goto l := by cases e0' <;> simp_all [ExitR]
      subst hl
      split at h
      · rename_i rest hfl
        cases hr : exec P C n nt rest env0 σ0 with
        | no => rw [hr] at h; cases j <;> simp [scopeA] at h
        | ok e1 env2 σ2 =>
          rw [hr] at h
          have s1 : StepA σ0 σ2 := exec_steps hs n nt rest env0 σ0 σ2 (by rw [hr]; rfl)
          have s2 : StepA σ2 σ' := scopeA_steps (fun c env σ => exec_steps hs n nt c env σ) j (.ok e1 env2 σ2) (xsteps_ok (StepA.refl σ2)) σ' (by rw [h]; rfl)
          have hkk : Known (More D σ) σ0 σ2 := (hk.then).mono s2
          have hff : Free φ1 σ0 σ2 := (hf.then g5 s0).mono s2
          obtain ⟨e2, a2, cs2, w2, q, harr2⟩ := hx nt rest env0 σ0 e1 env2 σ2 (More D σ) φ1 a0 cs0 w0 ro dk base hr (g5.inv hi s0) g2 g3 g4 hkk hff b (.inScope c :: K) hb hkd
          have hg : gotoIn l (.inScope c :: K) = some (.code rest :: .inScope c :: K) := by simp [gotoIn, hfl]
          exact ih D φ σ w e1 env2 σ2 e2 a2 cs2 w2 e env' σ' h hi (s0.trans s1) hk hf (q.chain g5 s0 s1) (.of_steps (harr.1 _ hg) harr2)
      · rename_i hfl
        simp only [XR.ok.injEq] at h
        obtain ⟨rfl, rfl, rfl⟩ := h
        have hx : gotoIn l (.inScope c :: K) = gotoIn l K := by simp [gotoIn, hfl]
        exact ⟨.goto l, a0, cs0, w0, ⟨φ1, g1, g2, g3, g4, g5⟩, fun k' hk' => harr.1 k' (by rw [hx]; exact hk'), fun hr hk' => harr.2 hr (by rw [hx]; exact hk')⟩
    · rename_i hne
      simp only [XR.ok.injEq] at h
      obtain ⟨rfl, rfl, rfl⟩ := h
      have hng : ∀ l, e0' ≠ .goto l := by
        intro l hl
        subst hl
        obtain ⟨φ1, g1, _⟩ := hp
        cases e0 with
        | goto i => exact hne _ _ _ rfl
        | _ => exact g1
      refine ⟨e0', a0, cs0, w0, hp, ?_⟩
      cases e0' with
      | normal => exact StepsIn.trans harr (one_wide stepR_inScope)
      | exit id =>
        have hx : exitTo id (.inScope c :: K) = exitTo id K := by simp [exitTo]
        exact ⟨fun k' hk' => harr.1 k' (by rw [hx]; exact hk'), fun hr hk' => harr.2 hr (by rw [hx]; exact hk')⟩
      | goto l => exact absurd rfl (hng l)
      | ret => exact harr
      | panic ch => exact harr
      | outgrown => exact harr
end
end Go.Tw
