/-
  A part of the proof that the abstract evaluator is sound for the model's machine. Conditions: those of each theorem, as it states them.
-/
import Derived.Test.YtgcpcgaigbnniaaGreatTwE
import Derived.ProofKit
set_option linter.all false
namespace Go.Tw
section
variable [Val]
variable {P : Program} {R : Nat} {C : Cfg} {D : Nat → Prop} {φ : PM} {σ : St} {w : World}
def readRes (tmps : Array Value) : ResultVar → Sem Value
  | .tmp t => pure (tmps.getD t undef)
  | .cell a t => do loadVar t (← asAddr (tmps.getD a undef))
omit [Val] in
theorem results_eq (fn : Func) (tmps : Array Value) :
    results fn tmps = (fn.results.mapM (readRes tmps) >>= fun vs => pure (if h : vs.size = 1 then vs[0] else .tuple vs)) := by
  unfold results
  congr 1
theorem resultsL_ok {fn : Func} {nt : Nat} {env : Env} {a : Act} (he : EnvR φ nt env a) : ∀ (rs : List ResultVar) (σ σ' : St) (l : List AV), Inv R C D φ σ w →
    resultsA P fn env σ rs = some (l, σ') → Known D σ σ' →
    ∃ l', (rs.mapM (readRes a.tmps)).run P w = .ok l' w ∧ VRL φ l l' ∧ σ'.heap = σ.heap ∧ σ'.next = σ.next ∧ σ'.wr = σ.wr := by
  intro rs
  induction rs with
  | nil =>
    intro σ σ' l hi h _
    simp only [resultsA, Option.some.injEq, Prod.mk.injEq] at h
    obtain ⟨rfl, rfl⟩ := h
    exact ⟨[], by simp, .nil, rfl, rfl, rfl⟩
  | cons r rest ih =>
    intro σ σ' l hi h hk
    cases r with
    | tmp t =>
      simp only [resultsA] at h
      split at h
      · rename_i v l1 σ1 hv hr
        simp only [Option.some.injEq, Prod.mk.injEq] at h
        obtain ⟨rfl, rfl⟩ := h
        obtain ⟨v', g1, g2⟩ := he.val t v hv
        obtain ⟨l', r1, r2, r3⟩ := ih σ σ1 l1 hi hr hk
        exact ⟨v' :: l', by simp [List.mapM_cons, readRes, g1, r1], .cons g2 r2, r3⟩
      · cases h
    | cell p t =>
      simp only [resultsA] at h
      split at h
      · rename_i q hq
        split at h
        · rename_i v σ1 hl
          split at h
          · rename_i l1 σ2 hr
            simp only [Option.some.injEq, Prod.mk.injEq] at h
            obtain ⟨rfl, rfl⟩ := h
            obtain ⟨q', g1, g2⟩ := he.val p q hq
            have s2 : StepA σ1 σ2 := resultsA_step _ hr
            obtain ⟨v', m1, m2, m3⟩ := loadA_ok hi hl g2 (hk.mono s2)
            have hsame : σ1.heap = σ.heap ∧ σ1.next = σ.next ∧ σ1.wr = σ.wr := by
              unfold loadA at hl
              repeat' split at hl
              all_goals (first | (cases hl; done) | (simp only [Option.some.injEq, Prod.mk.injEq] at hl; obtain ⟨_, rfl⟩ := hl; exact ⟨rfl, rfl, rfl⟩))
            have hi1 : Inv R C (More D σ) φ σ1 w := m3.inv hi (loadA_step hl)
            have hi1 : Inv R C D φ σ1 w := ⟨hi1.wf, hi1.low, fun i hd hn => hi1.rep i (.inl hd) hn, hi1.gl, hi1.dom, hi1.pin, hi1.dec, hi1.wrR, hi1.ro, hi1.oh⟩
            obtain ⟨l', r1, r2, r3, r4, r5⟩ := ih σ1 σ2 l1 hi1 hr (fun i h1 h2 => hk i h1 (by rw [← hsame.2.1]; exact h2))
            refine ⟨v' :: l', ?_, .cons m2 r2, r3.trans hsame.1, r4.trans hsame.2.1, r5.trans hsame.2.2⟩
            have hload : (readRes a.tmps (.cell p t)).run P w = .ok v' w := by
              simp only [readRes, Array.getD_eq_getD_getElem?, g1, Option.getD_some]
              cases g2 with
              | ptr e o _ _ _ _ => simpa [Instr.loadAt, Instr.sureAddr, asAddr] using m1
              | _ => simp [loadA] at hl
            rw [List.mapM_cons]
            simp only [Sem.run_bind, hload, r1, Result.andThen_ok, Sem.run_pure]
          · cases h
        · cases h
      · cases h
def given : List AV → AV
  | [v] => v
  | l => .tup l
theorem results_ok {fn : Func} {nt : Nat} {env : Env} {a : Act} {σ' : St} {l : List AV} (he : EnvR φ nt env a) (hi : Inv R C D φ σ w)
    (h : resultsA P fn env σ fn.results.toList = some (l, σ')) (hk : Known D σ σ') :
    ∃ v', (results fn a.tmps).run P w = .ok v' w ∧ VR φ (given l) v' ∧ Post R D φ σ w σ' φ w := by
  obtain ⟨l', r1, r2, r3, r4, r5⟩ := resultsL_ok he _ σ σ' l hi h hk
  have hrun : (results fn a.tmps).run P w = .ok (if h : l'.toArray.size = 1 then l'.toArray[0] else .tuple l'.toArray) w := by
    have : (fn.results.mapM (readRes a.tmps)).run P w = .ok l'.toArray w := by
      rw [Array.mapM_eq_mapM_toList]
      simp [r1]
    rw [results_eq, Sem.run_bind, this]
    rfl
  refine ⟨_, hrun, ?_, .same hi r3 r4 r5⟩
  cases r2 with
  | nil => exact .tup _ .nil
  | cons hv ht =>
    cases ht with
    | nil => simpa [given] using hv
    | cons hv2 ht =>
      have : ∀ (x y : Value) (r : List Value), (if h : (x :: y :: r).toArray.size = 1 then (x :: y :: r).toArray[0] else .tuple (x :: y :: r).toArray) = .tuple (x :: y :: r).toArray := by
        intro x y r
        rw [dif_neg]
        simp
      rw [this]
      exact .tup _ (.cons hv (.cons hv2 ht))
end
end Go.Tw
namespace Go.Tw
/-! What a loop over a map may come to, in whatever order: each outcome is one of the join's. -/
theorem sameC_eq : ∀ {a b : List (AV × Bool)}, sameC a b = true → a = b := by
  intro a
  induction a with
  | nil => intro b h; cases b <;> simp [sameC] at h; rfl
  | cons x a ih =>
    intro b h
    obtain ⟨v, c⟩ := x
    cases b with
    | nil => simp [sameC] at h
    | cons y b =>
      obtain ⟨u, d⟩ := y
      simp only [sameC, Bool.and_eq_true] at h
      rw [AV.same_eq h.1.1, boolB_eq h.1.2, ih h.2]
theorem sameD_eq : ∀ {a b : List ADef}, sameD a b = true → a = b := by
  intro a
  induction a with
  | nil => intro b h; cases b <;> simp [sameD] at h; rfl
  | cons x a ih =>
    intro b h
    cases b with
    | nil => cases x <;> simp [sameD] at h
    | cons y b =>
      cases x <;> cases y <;> simp only [sameD, Bool.and_eq_true, Bool.false_eq_true] at h
      · rw [beq_t h.1.1, sameL_eq h.1.2, ih h.2]
      · rw [beq_t h.1, ih h.2]
theorem sameM_eq {a b : Option AMode} (h : sameM a b = true) : a = b := by
  cases a with
  | none => cases b <;> simp [sameM] at h; rfl
  | some a =>
    cases b with
    | none => cases a <;> simp [sameM] at h
    | some b =>
      cases a <;> cases b <;> simp only [sameM, Bool.false_eq_true] at h
      · rfl
      · rw [sameC_eq h]
theorem sameX_eq {a b : AExit} (h : sameX a b = true) : a = b := by
  cases a <;> cases b <;> simp only [sameX, Bool.false_eq_true] at h
  · rfl
  · rw [beq_t h]
  · rw [beq_t h]
  · rfl
  · rw [sameC_eq h]
structure Less (σ : St) (e : AExit) (env : Env) (τ : St) (e' : AExit) (env' : Env) (τ' : St) : Prop where
  ex : e' = e
  tm : ∀ t v, env'.tm.get t = some v → env.tm.get t = some v
  ds : env'.ds = env.ds
  md : env'.md = env.md
  rd : env'.rd = env.rd
  next : τ.next ≤ τ'.next
  lrd : ∀ i ∈ τ.rd, i ∈ τ'.rd
  lwr : ∀ i ∈ τ.wr, i ∈ τ'.wr
  heap : ∀ i o, τ'.heap.get i = some o → o = .dead ∨ τ.heap.get i = some o
  own : ∀ i ∈ τ'.wr, i ∈ τ.wr ∨ ownB σ i = true
theorem Less.refl (σ : St) (e : AExit) (env : Env) (τ : St) : Less σ e env τ e env τ :=
  ⟨rfl, fun _ _ h => h, rfl, rfl, rfl, Nat.le_refl _, fun _ h => h, fun _ h => h, fun _ _ h => .inr h, fun _ h => .inl h⟩
theorem Less.trans {σ : St} {e1 e2 e3 : AExit} {v1 v2 v3 : Env} {τ1 τ2 τ3 : St} (h : Less σ e1 v1 τ1 e2 v2 τ2) (k : Less σ e2 v2 τ2 e3 v3 τ3) : Less σ e1 v1 τ1 e3 v3 τ3 :=
  ⟨k.ex.trans h.ex, fun t v x => h.tm t v (k.tm t v x), k.ds.trans h.ds, k.md.trans h.md, k.rd.trans h.rd, Nat.le_trans h.next k.next, fun i hi => k.lrd i (h.lrd i hi), fun i hi => k.lwr i (h.lwr i hi),
    fun i o x => by
      rcases k.heap i o x with y | y
      · exact .inl y
      · exact h.heap i o y,
    fun i hi => by
      rcases k.own i hi with y | y
      · exact h.own i y
      · exact .inr y⟩
theorem meetH_same (other : T Ob) : ∀ (l : List Nat) (h : T Ob) (j : Nat), (j ∈ l ∨ h.get j = none ∨ h.get j = some .dead ∨ h.get j = other.get j) →
    ∀ o, (meetH other l h).get j = some o → o = .dead ∨ other.get j = some o := by
  intro l
  induction l with
  | nil =>
    intro h j hj o ho
    have ho : h.get j = some o := ho
    rcases hj with hj | hj | hj | hj
    · cases hj
    · rw [hj] at ho; cases ho
    · rw [hj] at ho; cases ho; exact .inl rfl
    · rw [← hj]; exact .inr ho
  | cons i l ih =>
    intro h j hj o ho
    unfold meetH at ho
    refine ih _ j ?_ o ho
    by_cases e : j = i
    · subst e
      right
      split
      · rename_i a b ha hb
        rw [cond_eq_ite]
        split
        · rename_i hs
          rw [ha, hb, Ob.same_eq hs]
          exact .inr (.inr rfl)
        · exact .inr (.inl (T.get_set_same _ _ _))
      · exact .inr (.inl (T.get_set_same _ _ _))
      · rename_i hn; exact .inl hn
    · have hset : ∀ x, (h.set i x).get j = h.get j := fun x => T.get_set_ne _ _ e
      have hk : j ∈ l ∨ h.get j = none ∨ h.get j = some .dead ∨ h.get j = other.get j := by
        rcases hj with hj | hj
        · rcases List.mem_cons.1 hj with hj | hj
          · exact absurd hj e
          · exact .inl hj
        · exact .inr hj
      split
      · rw [cond_eq_ite]
        split
        · exact hk
        · rw [hset]; exact hk
      · rw [hset]; exact hk
      · exact hk
theorem join2_less {σ : St} {e1 e2 e : AExit} {v1 v2 v : Env} {τ1 τ2 τ : St} (h : join2 σ (.ok e1 v1 τ1) (.ok e2 v2 τ2) = .ok e v τ) (s1 : StepA σ τ1) (s2 : StepA σ τ2)
    (hd : ∀ i, σ.next ≤ i → σ.heap.get i = none) : Less σ e1 v1 τ1 e v τ ∧ Less σ e2 v2 τ2 e v τ := by
  unfold join2 at h
  dsimp only at h
  rw [cond_eq_ite] at h
  split at h
  · rename_i hb
    simp only [Bool.and_eq_true] at hb
    obtain ⟨⟨⟨⟨⟨b1, b2⟩, b3⟩, b4⟩, b5⟩, b6⟩ := hb
    have b1 := sameX_eq b1
    have b2 := sameD_eq b2
    have b3 := sameM_eq b3
    have b4 := boolB_eq b4
    simp only [XR.ok.injEq] at h
    obtain ⟨rfl, rfl, rfl⟩ := h
    have hlwr : ∀ i, i ∈ (meetS σ τ1 τ2).wr → (i ∈ τ1.wr ∨ i ∈ τ2.wr) := fun i hi => List.mem_append.1 hi
    refine ⟨{
      ex := rfl
      tm := fun t u hu => (T.get_meet _ _ _ _ hu).1
      ds := rfl
      md := rfl
      rd := rfl
      next := Nat.le_max_left _ _
      lrd := fun i hi => List.mem_append.2 (.inl hi)
      lwr := fun i hi => List.mem_append.2 (.inl hi)
      heap := fun i o ho => by
        rcases meetS_heap σ τ1 τ2 i with x | ⟨_, _, x⟩
        · rw [x] at ho; exact .inr ho
        · rw [x] at ho; cases ho; exact .inl rfl
      own := fun i hi => (hlwr i hi).imp id fun x => List.all_eq_true.1 b6 i x }, {
      ex := b1
      tm := fun t u hu => by
        obtain ⟨_, b, hb1, hb2⟩ := T.get_meet _ _ _ _ hu
        rw [AV.same_eq hb2]; exact hb1
      ds := b2
      md := b3
      rd := b4
      next := Nat.le_max_right _ _
      lrd := fun i hi => List.mem_append.2 (.inr hi)
      lwr := fun i hi => List.mem_append.2 (.inr hi)
      heap := fun i o ho => ?_
      own := fun i hi => (hlwr i hi).symm.imp id fun x => List.all_eq_true.1 b5 i x }⟩
    rcases meetS_heap σ τ1 τ2 i with x | ⟨_, _, x⟩
    · have h1 : τ1.heap.get i = some o := by rw [← x]; exact ho
      have hlt : i < τ1.next := by
        rcases Nat.lt_or_ge i τ1.next with y | y
        · exact y
        · rw [s1.dom hd i y] at h1; cases h1
      have e : (meetS σ τ1 τ2).heap = killN σ.next (Nat.max τ1.next τ2.next - σ.next) σ.next (meetH τ2.heap τ2.wr (meetH τ2.heap τ1.wr τ1.heap)) := rfl
      by_cases hn : σ.next ≤ i
      · rw [e] at ho
        have hmx : τ1.next ≤ Nat.max τ1.next τ2.next := Nat.le_max_left _ _
        rcases killN_gone (n := σ.next) (k := Nat.max τ1.next τ2.next - σ.next) (i := σ.next) (h := meetH τ2.heap τ2.wr (meetH τ2.heap τ1.wr τ1.heap)) (j := i) hn (by omega) hn with y | y
        · rw [y] at ho; cases ho
        · rw [y] at ho; cases ho; exact .inl rfl
      · have hlt' : i < σ.next := by omega
        by_cases hw1 : i ∈ τ1.wr
        · have h3 := meetH_same τ2.heap τ1.wr τ1.heap i (.inl hw1)
          have h4 := meetH_get τ2.heap τ2.wr (meetH τ2.heap τ1.wr τ1.heap) i
          rcases killN_killed σ.next (Nat.max τ1.next τ2.next - σ.next) σ.next (meetH τ2.heap τ2.wr (meetH τ2.heap τ1.wr τ1.heap)) i with y | ⟨y, _⟩
          · rw [e, y] at ho
            rcases h4 with z | ⟨_, _, z⟩
            · rw [z] at ho; exact h3 o ho
            · rw [z] at ho; cases ho; exact .inl rfl
          · omega
        · by_cases hw2 : i ∈ τ2.wr
          · have h3 := meetH_same τ2.heap τ2.wr (meetH τ2.heap τ1.wr τ1.heap) i (.inl hw2)
            rcases killN_killed σ.next (Nat.max τ1.next τ2.next - σ.next) σ.next (meetH τ2.heap τ2.wr (meetH τ2.heap τ1.wr τ1.heap)) i with y | ⟨y, _⟩
            · rw [e, y] at ho; exact h3 o ho
            · omega
          · right
            rw [s2.keep i hlt' hw2, ← s1.keep i hlt' hw1]
            exact h1
    · rw [x] at ho; cases ho; exact .inl rfl
  · cases h
theorem joinX_less {σ : St} (hd : ∀ i, σ.next ≤ i → σ.heap.get i = none) : ∀ {l : List XR} {e : AExit} {v : Env} {τ : St}, joinX σ l = .ok e v τ → (∀ r ∈ l, r.steps σ) →
    ∀ r ∈ l, ∃ e1 v1 τ1, r = .ok e1 v1 τ1 ∧ Less σ e1 v1 τ1 e v τ := by
  intro l
  induction l with
  | nil => intro e v τ h; cases h
  | cons r l ih =>
    intro e v τ h hs q hq
    cases l with
    | nil =>
      have h : r = .ok e v τ := h
      simp only [List.mem_singleton] at hq
      subst hq
      exact ⟨e, v, τ, h, .refl _ _ _ _⟩
    | cons s l =>
      have h : join2 σ r (joinX σ (s :: l)) = .ok e v τ := h
      cases r with
      | no => cases h
      | ok e1 v1 τ1 =>
        cases hj : joinX σ (s :: l) with
        | no => rw [hj] at h; cases h
        | ok e2 v2 τ2 =>
          rw [hj] at h
          have s1 : StepA σ τ1 := hs (.ok e1 v1 τ1) (by simp) τ1 rfl
          have s2 : StepA σ τ2 := joinX_steps (fun r hr => hs r (List.mem_cons_of_mem _ hr)) τ2 (by rw [hj]; rfl)
          obtain ⟨k1, k2⟩ := join2_less h s1 s2 hd
          rcases List.mem_cons.1 hq with rfl | hq
          · exact ⟨e1, v1, τ1, rfl, k1⟩
          · obtain ⟨e3, v3, τ3, g1, g2⟩ := ih hj (fun r hr => hs r (List.mem_cons_of_mem _ hr)) q hq
            exact ⟨e3, v3, τ3, g1, g2.trans k2⟩
section
variable [Val]
variable {P : Program} {R : Nat} {C : Cfg} {D : Nat → Prop} {φ φ' : PM} {σ τ τ' : St} {w w' : World} {e e' : AExit} {env env' : Env}
theorem own_low (hi : Inv R C D φ σ w) {i : Nat} (h : ownB σ i = true) (hk : i < σ.next → D i) : R ≤ i := by
  unfold ownB at h
  rw [cond_eq_ite] at h
  split at h
  · rename_i hb
    exact Nat.le_trans hi.low (ble_t hb)
  · rename_i hb
    have hlt : i < σ.next := by
      rcases Nat.lt_or_ge i σ.next with x | x
      · exact x
      · exact absurd (Nat.ble_eq_true_of_le x) hb
    have hr := hi.rep i (hk hlt) hlt
    split at h
    · cases h
    · cases h
    · cases h
    · rename_i o n1 n2 n3 ho
      rw [ho] at hr
      cases o with
      | ro c => exact absurd rfl (n1 c)
      | dead => exact absurd rfl n2
      | opq => exact absurd rfl (n3 _ _ _ _ _ _ _ _)
      | box => exact hr.1
      | arr => exact hr.1
      | map => exact hr.1
      | iter => exact hr.1
      | miter => exact hr.1
      | dfr => exact hr.1
      | loop => exact hr.1
    · cases h
theorem Post.less (hi : Inv R C D φ σ w) (h : Post R D φ σ w τ φ' w') (hl : Less σ e env τ e' env' τ') (hk : Known D σ τ') (s : StepA σ τ) : Post R D φ σ w τ' φ' w' where
  le := h.le
  grow := fun i h1 h2 v => h.grow i (by
      rcases h1 with h1 | h1
      · exact .inl fun x => h1 (hl.lwr i x)
      · exact .inr (Nat.le_trans hl.next h1)) (fun x => h2 ⟨x.1, Nat.lt_of_lt_of_le x.2 hl.next⟩) v
  wrR := fun i hi' => by
    rcases hl.own i hi' with x | x
    · exact h.wrR i x
    · exact .inr (own_low hi x fun y => hk i (.inr hi') y)
  wf := h.wf
  blk := h.blk
  rep := fun i hi' => by
    cases ho : τ'.heap.get i with
    | none => trivial
    | some o =>
      rcases hl.heap i o ho with x | x
      · subst x; trivial
      · rw [← x]
        refine h.rep i ?_
        rcases hi' with y | ⟨y, _⟩
        · exact .inl y
        · refine .inr ⟨y, ?_⟩
          rcases Nat.lt_or_ge i τ.next with z | z
          · exact z
          · rw [s.dom hi.dom i z] at x; cases x
  frm := ⟨h.frm.size, fun b hb hn => h.frm.keep b hb fun i hi' => hn i (hl.lwr i hi'), h.frm.os, h.frm.out, h.frm.tape⟩
end
end Go.Tw
namespace Go.Tw
section
variable [Val]
variable {P : Program} {R : Nat} {C : Cfg}
def XPost (R : Nat) (D : Nat → Prop) (φ : PM) (σ : St) (w : World) (nt : Nat) (ro : Option Nat) (dk : Bool) (base : List Frame) (e : AExit) (env' : Env) (σ' : St)
    (e' : Exit) (a' : Act) (cs' : List Frame) (w' : World) : Prop :=
  ∃ φ', ExitR φ' e e' ∧ FrmR φ' nt env' a' ∧ CsR φ' dk base cs' env'.md ∧ env'.rd = ro.isSome ∧ Post R D φ σ w σ' φ' w'
section
variable {D : Nat → Prop} {φ φ1 : PM} {σ σ1 σ' : St} {w w1 : World} {nt : Nat} {ro : Option Nat} {dk : Bool} {base : List Frame} {e : AExit} {env' : Env} {e' : Exit} {a' : Act} {cs' : List Frame} {w' : World}
theorem XPost.chain (h : Post R D φ σ w σ1 φ1 w1) (s1 : StepA σ σ1) (s2 : StepA σ1 σ') (k : XPost R (More D σ) φ1 σ1 w1 nt ro dk base e env' σ' e' a' cs' w') :
    XPost R D φ σ w nt ro dk base e env' σ' e' a' cs' w' := by
  obtain ⟨φ', h1, h2, h3, h4, h5⟩ := k
  exact ⟨φ', h1, h2, h3, h4, h.trans h5 s1 s2⟩
end
def ExecOk (P : Program) (R : Nat) (C : Cfg) (n : Nat) : Prop :=
  ∀ (nt : Nat) (c : Code) (env : Env) (σ : St) (e : AExit) (env' : Env) (σ' : St) (D : Nat → Prop) (φ : PM) (a : Act) (cs : List Frame) (w : World) (ro : Option Nat) (dk : Bool) (base : List Frame),
    exec P C n nt c env σ = .ok e env' σ' → Inv R C D φ σ w → FrmR φ nt env a → CsR φ dk base cs env.md → env.rd = ro.isSome → Known D σ σ' → Free φ σ σ' →
    Runs P ro dk c (XPost R D φ σ w nt ro dk base e env' σ') a cs w
def LoopOk (P : Program) (R : Nat) (C : Cfg) (n : Nat) : Prop :=
  ∀ (nt : Nat) (c : Code) (env : Env) (σ : St) (e : AExit) (env' : Env) (σ' : St) (D : Nat → Prop) (φ : PM) (a : Act) (cs : List Frame) (w : World) (ro : Option Nat) (dk : Bool) (base : List Frame),
    exec P C n nt (.loop c) env σ = .ok e env' σ' → Inv R C D φ σ w → FrmR φ nt env a → CsR φ dk base cs env.md → env.rd = ro.isSome → Known D σ σ' → Free φ σ σ' →
    ∀ (b : Frame) (k : List Item), b.roundOf = ro → b.kind = kindOf dk → ∃ e' a' cs' w', XPost R D φ σ w nt ro dk base e env' σ' e' a' cs' w' ∧
      ArrivesIn (Machine.fenced P Fence.wide) P (lone (b.atR a (.code c :: .inLoop c :: k)) cs w) b k cs' e' a' w'
theorem exit_normal {φ : PM} {e' : Exit} (h : ExitR φ .normal e') : e' = .normal := by cases e' <;> simp_all [ExitR]
theorem exit_not_normal {φ : PM} {e : AExit} {e' : Exit} (h : ExitR φ e e') (hn : e ≠ .normal) : e' ≠ .normal := by
  cases e <;> cases e' <;> simp_all [ExitR]
omit [Val] in
theorem headA_some {c : Code} {o : Oper} {ops : Array Oper} {it : Operand} {bc : Code} (h : headA c = some (o, ops, it, bc)) :
    ∃ id l, c = .seq (.region id ops false) bc ∧ ops.toList = o :: l ∧ o.op = .next it false ∧ o.guard = none := by
  unfold headA at h
  split at h
  · rename_i id ops' b
    split at h
    · rename_i o' l hl
      split at h
      · rename_i it' ho hg
        simp only [Option.some.injEq, Prod.mk.injEq] at h
        obtain ⟨rfl, rfl, rfl, rfl⟩ := h
        exact ⟨id, l, rfl, hl, ho, hg⟩
      · cases h
    · cases h
  · cases h
noncomputable def headX (P : Program) (C : Cfg) (n nt : Nat) (env : Env) (o : Oper) (ops : Array Oper) (bc : Code) (p : AV × St) : XR :=
  match putA nt env o.dst p.1 with
  | none => .no
  | some env => match runOps P C (callA P C (exec P C n)) nt ops ops.toList.tail env p.2 with
    | .ok .normal env σ => exec P C n nt bc env σ
    | r => r
theorem head_ok (hs : HkSteps C) {n : Nat} (hx : ExecOk P R C n) (hc : CallOk P R C (callA P C (exec P C n))) {c : Code} {o : Oper} {ops : Array Oper} {it : Operand} {bc : Code}
    (hh : headA c = some (o, ops, it, bc)) {D : Nat → Prop} {φ : PM} {σ : St} {w : World} {nt : Nat} {env : Env} {a : Act} {cs : List Frame} {ro : Option Nat} {dk : Bool} {base : List Frame}
    (hi : Inv R C D φ σ w) (he : FrmR φ nt env a) (hmd : CsR φ dk base cs env.md) (hrd : env.rd = ro.isSome) {x : AV} (hev : evalO C env it = some x) {l : List (AV × St)}
    (hl : mnextA x σ = some l) (hk : ∀ p ∈ l, Known D σ p.2) :
    ∃ p ∈ l, ∀ eb envb σb, headX P C n nt env o ops bc p = .ok eb envb σb → Known D σ σb → Free φ σ σb → Runs P ro dk c (XPost R D φ σ w nt ro dk base eb envb σb) a cs w := by
  obtain ⟨id, ol, rfl, hol, hop, hg⟩ := headA_some hh
  obtain ⟨p, hp, w', v', hrun, hv, hpost⟩ := mnextA_ok (P := P) (t := o.type) hi hl (evalO_ok he.ev hi hev) hk
  refine ⟨p, hp, fun eb envb σb hX hkb hfb => ?_⟩
  have hcs : CallSteps (callA P C (exec P C n)) := callA_steps hs (exec_steps hs n)
  have s1 : StepA σ p.2 := mnextA_step hl p hp
  unfold headX at hX
  split at hX
  · cases hX
  · rename_i env1 hput
    obtain ⟨p1, p2, p3⟩ := putA_keep hput
    have hsz : ops.size = ol.length + 1 := by rw [← Array.length_toList, hol]; rfl
    have ho0 : ops[0]? = some o := by rw [← Array.getElem?_toList, hol]; rfl
    have htl : ops.toList.tail = ol := by rw [hol]; rfl
    have hrest : ∀ j, ol[j]? = ops[1 + j]? := fun j => by rw [← Array.getElem?_toList, hol, Nat.add_comm]; rfl
    have hrun' : (o.semAt ro a.eval).run P w = .ok (.value v') w' := by
      rw [Oper.semAt_eq ro _ _ (fun c => by rw [hop]; simp)]
      unfold execOp
      rw [hop]
      simp [hrun]
    have hwant : Region.wanted o (yielded ops a.tmps) = true := by unfold Region.wanted; rw [hg]
    refine runs_seq (runs_region ?_)
    rw [hsz, List.range_eq_range', List.range'_succ]
    refine ops_value ho0 hwant (.inl rfl) hrun' ?_
    have hi1 := hpost.inv hi s1
    have he1 : FrmR φ nt env1 (a.put o.dst v') := he.put hput hv
    rw [htl] at hX
    cases hr : runOps P C (callA P C (exec P C n)) nt ops ol env1 p.2 with
    | no => rw [hr] at hX; cases hX
    | ok e2 env2 σ2 =>
      rw [hr] at hX
      have s2 : StepA p.2 σ2 := runOps_steps hcs ol env1 p.2 σ2 (by rw [hr]; rfl)
      have s3 : StepA σ2 σb := by
        cases e2 with
        | normal => exact exec_steps hs n nt bc env2 σ2 σb (by rw [show exec P C n nt bc env2 σ2 = .ok eb envb σb from hX]; rfl)
        | _ => simp only [XR.ok.injEq] at hX; obtain ⟨_, _, rfl⟩ := hX; exact .refl _
      refine runOps_ok hc hcs ol 1 env1 p.2 _ cs w' φ (More D σ) e2 env2 σ2 hr hrest hi1 he1 (p2 ▸ hmd) (p3.trans hrd) ((hkb.mono s3).then) ((hfb.mono s3).then hpost s1) _ fun φ2 e2' a2 cs2 w2 q1 q2 q3 q4 q5 => ?_
      have hp2 : Post R D φ σ w σ2 φ2 w2 := hpost.trans q5 s1 s2
      cases e2 with
      | normal =>
        have := exit_normal q1
        subst this
        have hX : exec P C n nt bc env2 σ2 = .ok eb envb σb := hX
        exact Runs.mono (hx nt bc env2 σ2 eb envb σb (More D σ) φ2 a2 cs2 w2 ro dk base hX (hp2.inv hi (s1.trans s2)) q2 q3 q4 hkb.then (hfb.then hp2 (s1.trans s2))) fun e3 a3 cs3 w3 q => q.chain hp2 (s1.trans s2) s3
      | _ =>
        simp only [XR.ok.injEq] at hX
        obtain ⟨rfl, rfl, rfl⟩ := hX
        have hnn : e2' ≠ .normal := exit_not_normal q1 (by simp)
        cases e2' with
        | normal => exact absurd rfl hnn
        | _ => exact ⟨φ2, q1, q2, q3, q4, hp2⟩
theorem loop_next (hs : HkSteps C) {n : Nat} (hx : ExecOk P R C n) (hc : CallOk P R C (callA P C (exec P C n))) (hl : LoopOk P R C n) : LoopOk P R C (n + 1) := by
  intro nt c env σ e env' σ' D φ a cs w ro dk base h hi he hm hrd hk hf b k hb hkd
  simp only [exec] at h
  -- what comes behind a round
  have hgo : ∀ (eb : AExit) (envb : Env) (σb : St), StepA σ σb → Runs P ro dk c (XPost R D φ σ w nt ro dk base eb envb σb) a cs w → ∀ (e2 : AExit) (env2 : Env) (σ2 : St),
      (match (XR.ok eb envb σb) with
        | .ok .normal env σ => exec P C n nt (.loop c) env σ
        | r => r) = .ok e2 env2 σ2 → Known D σ σ2 → Free φ σ σ2 →
      ∃ e' a' cs' w', XPost R D φ σ w nt ro dk base e2 env2 σ2 e' a' cs' w' ∧ ArrivesIn (Machine.fenced P Fence.wide) P (lone (b.atR a (.code c :: .inLoop c :: k)) cs w) b k cs' e' a' w' := by
    intro eb envb σb s1 hr e2 env2 σ2 h2 hk2 hf2
    obtain ⟨e1, a1, cs1, w1, q, harr⟩ := hr b (.inLoop c :: k) hb hkd
    cases eb with
    | normal =>
      have h2 : exec P C n nt (.loop c) envb σb = .ok e2 env2 σ2 := h2
      obtain ⟨φ1, g1, g2, g3, g4, g5⟩ := q
      have := exit_normal g1
      subst this
      have s2 : StepA σb σ2 := exec_steps hs n nt (.loop c) envb σb σ2 (by rw [h2]; rfl)
      obtain ⟨e3, a3, cs3, w3, q3, harr3⟩ := hl nt c envb σb e2 env2 σ2 (More D σ) φ1 a1 cs1 w1 ro dk base h2 (g5.inv hi s1) g2 g3 g4 hk2.then (hf2.then g5 s1) b k hb hkd
      exact ⟨e3, a3, cs3, w3, q3.chain g5 s1 s2, .of_steps (StepsIn.trans harr (one_wide stepR_inLoop)) harr3⟩
    | _ =>
      simp only [XR.ok.injEq] at h2
      obtain ⟨rfl, rfl, rfl⟩ := h2
      have hnn : e1 ≠ .normal := by
        obtain ⟨φ1, g1, _⟩ := q
        exact exit_not_normal g1 (by simp)
      exact ⟨e1, a1, cs1, w1, q, .pass (x := .inLoop c) rfl (fun _ _ => .inl hnn) harr⟩
  split at h
  · cases hX : exec P C n nt c env σ with
    | no => rw [hX] at h; cases h
    | ok eb envb σb =>
      rw [hX] at h
      have s1 : StepA σ σb := exec_steps hs n nt c env σ σb (by rw [hX]; rfl)
      have s2 : StepA σb σ' := by
        cases eb with
        | normal => exact exec_steps hs n nt (.loop c) envb σb σ' (by rw [show exec P C n nt (.loop c) envb σb = .ok e env' σ' from h]; rfl)
        | _ => simp only [XR.ok.injEq] at h; obtain ⟨_, _, rfl⟩ := h; exact .refl _
      exact hgo eb envb σb s1 (hx nt c env σ eb envb σb D φ a cs w ro dk base hX hi he hm hrd (hk.mono s2) (hf.mono s2)) e env' σ' h hk hf
  · rename_i o ops it bc hh
    split at h
    · cases h
    · rename_i x hev
      split at h
      · cases h
      · rename_i l hml
        have hcs : CallSteps (callA P C (exec P C n)) := callA_steps hs (exec_steps hs n)
        -- each choice, by way of its round
        let rp : AV × St → XR := fun p => match putA nt env o.dst p.1 with
          | none => .no
          | some env => match runOps P C (callA P C (exec P C n)) nt ops ops.toList.tail env p.2 with
            | .ok .normal env σ => match exec P C n nt bc env σ with
              | .ok .normal env σ => exec P C n nt (.loop c) env σ
              | r => r
            | r => r
        have h : joinX σ (l.map rp) = .ok e env' σ' := h
        have hrp : ∀ p, rp p = (match headX P C n nt env o ops bc p with
            | .ok .normal env σ => exec P C n nt (.loop c) env σ
            | r => r) := by
          intro p
          unfold headX
          cases hpq : putA nt env o.dst p.1 with
          | none => simp only [rp, hpq]
          | some env1 =>
            simp only [rp, hpq]
            cases runOps P C (callA P C (exec P C n)) nt ops ops.toList.tail env1 p.2 with
            | no => rfl
            | ok e1 v1 τ1 => cases e1 <;> rfl
        have hXs : ∀ p ∈ l, (headX P C n nt env o ops bc p).steps σ := by
          intro p hp
          have hs1 := mnextA_step hml p hp
          unfold headX
          split
          · exact xsteps_no
          · rename_i env1 _
            have h1 := runOps_steps (P := P) (C := C) hcs (nt := nt) (ops := ops) ops.toList.tail env1 p.2
            split
            · rename_i hr1
              exact (exec_steps hs n _ _ _ _).trans (hs1.trans (h1 _ (by rw [hr1]; rfl)))
            · exact h1.trans hs1
        have hsteps : ∀ r ∈ l.map rp, r.steps σ := by
          intro r hr
          obtain ⟨p, hp, rfl⟩ := List.mem_map.1 hr
          rw [hrp]
          have := hXs p hp
          split
          · rename_i hr1
            exact (exec_steps hs n _ _ _ _).trans (this _ (by rw [hr1]; rfl))
          · exact this
        have hless := joinX_less hi.dom h hsteps
        have hXok : ∀ p ∈ l, ∃ eb envb σb e1 v1 τ1, headX P C n nt env o ops bc p = .ok eb envb σb ∧ StepA σ σb ∧ StepA p.2 σb ∧ StepA σb τ1 ∧
            (match (XR.ok eb envb σb) with
              | .ok .normal env σ => exec P C n nt (.loop c) env σ
              | r => r) = .ok e1 v1 τ1 ∧ Less σ e1 v1 τ1 e env' σ' := by
          intro p hp
          obtain ⟨e1, v1, τ1, g1, g2⟩ := hless (rp p) (List.mem_map_of_mem hp)
          rw [hrp] at g1
          cases hX : headX P C n nt env o ops bc p with
          | no => rw [hX] at g1; cases g1
          | ok eb envb σb =>
            rw [hX] at g1
            refine ⟨eb, envb, σb, e1, v1, τ1, rfl, hXs p hp σb (by rw [hX]; rfl), ?_, ?_, g1, g2⟩
            · unfold headX at hX
              split at hX
              · cases hX
              · rename_i env1 _
                have h1 := runOps_steps (P := P) (C := C) hcs (nt := nt) (ops := ops) ops.toList.tail env1 p.2
                split at hX
                · rename_i hr1
                  exact (h1 _ (by rw [hr1]; rfl)).trans (exec_steps hs n _ _ _ _ _ (by rw [hX]; rfl))
                · exact h1 _ (by rw [hX]; rfl)
            · cases eb with
              | normal => exact exec_steps hs n nt (.loop c) envb σb τ1 (by rw [show exec P C n nt (.loop c) envb σb = .ok e1 v1 τ1 from g1]; rfl)
              | _ => simp only [XR.ok.injEq] at g1; obtain ⟨_, _, rfl⟩ := g1; exact .refl _
        have hkl : ∀ {τ : St} {e1 : AExit} {v1 : Env}, Less σ e1 v1 τ e env' σ' → Known D σ τ := fun g i hi' hn => hk i (hi'.imp (g.lrd i) (g.lwr i)) hn
        have hfl : ∀ {τ : St} {e1 : AExit} {v1 : Env}, Less σ e1 v1 τ e env' σ' → Free φ σ τ := fun g i h1 h2 v => hf i h1 (Nat.lt_of_lt_of_le h2 g.next) v
        obtain ⟨p, hp, hrunp⟩ := head_ok hs hx hc hh hi he hm hrd hev hml (fun p hp => by
          obtain ⟨eb, envb, σb, e1, v1, τ1, _, _, s3, s4, _, g2⟩ := hXok p hp
          exact (hkl g2).mono (s3.trans s4))
        obtain ⟨eb, envb, σb, e1, v1, τ1, hX, s2, s3, s4, g1, g2⟩ := hXok p hp
        obtain ⟨e3, a3, cs3, w3, ⟨φ3, q1, q2, q3, q4, q5⟩, harr⟩ := hgo eb envb σb s2 (hrunp eb envb σb hX ((hkl g2).mono s4) ((hfl g2).mono s4)) e1 v1 τ1 g1 (hkl g2) (hfl g2)
        refine ⟨e3, a3, cs3, w3, ⟨φ3, by rw [g2.ex]; exact q1, ⟨⟨q2.ev.size, fun t v hv => q2.ev.val t v (g2.tm t v hv)⟩, by rw [g2.ds]; exact q2.dfs⟩, by rw [g2.md]; exact q3, by rw [g2.rd]; exact q4,
          q5.less hi g2 hk (s2.trans s4)⟩, harr⟩
omit [Val] in
theorem stepR_scope {b : Frame} {a : Act} {k : List Item} {cs : List Frame} {w : World} {c : Code} : step P (lone (b.atR a (.code (.scope c) :: k)) cs w) = .next (lone (b.atR a (.code c :: .inScope c :: k)) cs w) :=
  step_lone_go (by simp [stepG, stepG.exec, Frame.atR])
omit [Val] in
theorem stepR_inScope {b : Frame} {a : Act} {k : List Item} {cs : List Frame} {w : World} {c : Code} : step P (lone (b.atR a (.inScope c :: k)) cs w) = .next (lone (b.atR a k) cs w) :=
  step_lone_go (by simp [stepG, stepG.exec, Frame.atR])
theorem scope_ok (hs : HkSteps C) {n nt : Nat} (hx : ExecOk P R C n) {c : Code} {b : Frame} {K : List Item} {m : Machine} {ro : Option Nat} {dk : Bool} {base : List Frame} (hb : b.roundOf = ro)
    (hkd : b.kind = kindOf dk) :
    ∀ (j : Nat) (D : Nat → Prop) (φ : PM) (σ : St) (w : World) (e0 : AExit) (env0 : Env) (σ0 : St) (e0' : Exit) (a0 : Act) (cs0 : List Frame) (w0 : World) (e : AExit) (env' : Env) (σ' : St),
      scopeA (exec P C n nt) j c (.ok e0 env0 σ0) = .ok e env' σ' → Inv R C D φ σ w → StepA σ σ0 → Known D σ σ' → Free φ σ σ' → XPost R D φ σ w nt ro dk base e0 env0 σ0 e0' a0 cs0 w0 →
      ArrivesIn (Machine.fenced P Fence.wide) P m b (.inScope c :: K) cs0 e0' a0 w0 →
      ∃ e' a' cs' w', XPost R D φ σ w nt ro dk base e env' σ' e' a' cs' w' ∧ ArrivesIn (Machine.fenced P Fence.wide) P m b K cs' e' a' w' := by
  intro j
  induction j with
  | zero => intro D φ σ w e0 env0 σ0 e0' a0 cs0 w0 e env' σ' h; simp [scopeA] at h
  | succ j ih =>
    intro D φ σ w e0 env0 σ0 e0' a0 cs0 w0 e env' σ' h hi s0 hk hf hp harr
    unfold scopeA at h
    split at h
    · rename_i l env1 σ1 heq
      simp only [XR.ok.injEq] at heq
      obtain ⟨rfl, rfl, rfl⟩ := heq
      obtain ⟨φ1, g1, g2, g3, g4, g5⟩ := hp
      have hl : e0' = .goto l := by cases e0' <;> simp_all [ExitR]
      subst hl
      split at h
      · rename_i rest hfl
        cases hr : exec P C n nt rest env0 σ0 with
        | no => rw [hr] at h; cases j <;> simp [scopeA] at h
        | ok e1 env2 σ2 =>
          rw [hr] at h
          have s1 : StepA σ0 σ2 := exec_steps hs n nt rest env0 σ0 σ2 (by rw [hr]; rfl)
          have s2 : StepA σ2 σ' := scopeA_steps (fun c env σ => exec_steps hs n nt c env σ) j (.ok e1 env2 σ2) (xsteps_ok (StepA.refl σ2)) σ' (by rw [h]; rfl)
          have hkk : Known (More D σ) σ0 σ2 := (hk.then).mono s2
          have hff : Free φ1 σ0 σ2 := (hf.then g5 s0).mono s2
          obtain ⟨e2, a2, cs2, w2, q, harr2⟩ := hx nt rest env0 σ0 e1 env2 σ2 (More D σ) φ1 a0 cs0 w0 ro dk base hr (g5.inv hi s0) g2 g3 g4 hkk hff b (.inScope c :: K) hb hkd
          have hg : gotoIn l (.inScope c :: K) = some (.code rest :: .inScope c :: K) := by simp [gotoIn, hfl]
          exact ih D φ σ w e1 env2 σ2 e2 a2 cs2 w2 e env' σ' h hi (s0.trans s1) hk hf (q.chain g5 s0 s1) (.of_steps (harr.1 _ hg) harr2)
      · rename_i hfl
        simp only [XR.ok.injEq] at h
        obtain ⟨rfl, rfl, rfl⟩ := h
        have hx : gotoIn l (.inScope c :: K) = gotoIn l K := by simp [gotoIn, hfl]
        exact ⟨.goto l, a0, cs0, w0, ⟨φ1, g1, g2, g3, g4, g5⟩, fun k' hk' => harr.1 k' (by rw [hx]; exact hk'), fun hr hk' => harr.2 hr (by rw [hx]; exact hk')⟩
    · rename_i hne
      simp only [XR.ok.injEq] at h
      obtain ⟨rfl, rfl, rfl⟩ := h
      have hng : ∀ l, e0' ≠ .goto l := by
        intro l hl
        subst hl
        obtain ⟨φ1, g1, _⟩ := hp
        cases e0 with
        | goto i => exact hne _ _ _ rfl
        | _ => exact g1
      refine ⟨e0', a0, cs0, w0, hp, ?_⟩
      cases e0' with
      | normal => exact StepsIn.trans harr (one_wide stepR_inScope)
      | exit id =>
        have hx : exitTo id (.inScope c :: K) = exitTo id K := by simp [exitTo]
        exact ⟨fun k' hk' => harr.1 k' (by rw [hx]; exact hk'), fun hr hk' => harr.2 hr (by rw [hx]; exact hk')⟩
      | goto l => exact absurd rfl (hng l)
      | ret => exact harr
      | panic ch => exact harr
      | outgrown => exact harr
end
end Go.Tw
namespace Go.Tw
section
variable [Val]
variable {P : Program} {R : Nat} {C : Cfg}
omit [Val] in
theorem atomicA_nocall {n : Nat} {k : IntKind} {args l : List AV} {σ τ : St} {cl : Cle} : atomicA n k args σ ≠ .call cl l τ := by
  unfold atomicA
  repeat' split
  all_goals (intro h; cases h)
omit [Val] in
theorem externA_nocall {name : String} {sl : Option TypeId} {args l : List AV} {σ τ : St} {cl : Cle} : externA name sl args σ ≠ .call cl l τ := by
  unfold externA
  simp only [cond_eq_ite]
  repeat' split
  all_goals first
    | exact atomicA_nocall
    | (intro h; cases h; done)
omit [Val] in
theorem callFA_call {g : FuncId} {l args : List AV} {σ τ : St} {cl : Cle} (h : callFA P g l σ = .call cl args τ) :
    cl = .fn g ∧ args = l ∧ τ = σ ∧ ∀ args' w, (callFunc g args').run P w = .ok (.enter g args') w := by
  unfold callFA at h
  split at h
  · rename_i fn hf
    split at h
    · rename_i c hb
      split at h
      · cases h
      · rename_i hn
        simp only [OR.call.injEq] at h
        obtain ⟨rfl, rfl, rfl⟩ := h
        exact ⟨rfl, rfl, rfl, fun args' w => by simp [callFunc, hf, hn, hb]⟩
    · rename_i hb
      split at h
      · exact absurd h externA_nocall
      · cases h
  · cases h
omit [Val] in
theorem rangeEnd_ok {pend : Option Code} {env env' : Env} {σ σ' : St} {e : AExit} (h : rangeEnd pend env σ = .ok e env' σ') : env' = env ∧ σ' = σ ∧
    ((pend = none ∧ e = .normal) ∨ (pend = some .ret ∧ e = .ret) ∨ (∃ i, pend = some (.exit i) ∧ e = .exit i) ∨ (∃ i, pend = some (.goto i) ∧ e = .goto i)) := by
  unfold rangeEnd at h
  split at h <;> first
    | (cases h; done)
    | (simp only [XR.ok.injEq] at h; obtain ⟨rfl, rfl, rfl⟩ := h; exact ⟨rfl, rfl, by simp⟩)
omit [Val] in
theorem run_getLoop {w : World} {b : Nat} {r : Loop} (h : w.heap[b]? = some (.loop r)) : (Instr.getLoop b).run P w = .ok r w := by
  simp [Instr.getLoop, run_getObj h (by simp)]
omit [Val] in
theorem run_endLoop {w : World} {b : Nat} {r : Loop} (h : w.heap[b]? = some (.loop r)) (hs : stN r.state ≠ 1) :
    (Instr.endLoop b).run P w = .ok r.pending (wset w b (.loop { r with state := .exhausted })) := by
  have hb : r.state ≠ LoopState.busy := by
    intro hst
    rw [hst] at hs; exact absurd rfl hs
  simp [Instr.endLoop, run_getLoop h, hb, run_setObj h (by simp)]
theorem range_ok (hs : HkSteps C) {n : Nat} (hc : CallOk P R C (callA P C (exec P C n))) {nt : Nat} {f : Operand} {ps : Array Tmp} {assign body : Code} {env env' : Env} {σ σ' : St} {e : AExit}
    {D : Nat → Prop} {φ : PM} {a : Act} {cs : List Frame} {w : World} {ro : Option Nat} {dk : Bool} {base : List Frame}
    (h : exec P C (n + 1) nt (.rangeFunc f ps assign body) env σ = .ok e env' σ') (hi : Inv R C D φ σ w) (he : FrmR φ nt env a) (hm : CsR φ dk base cs env.md) (hrd : env.rd = ro.isSome)
    (hk : Known D σ σ') (hf : Free φ σ σ') : Runs P ro dk (.rangeFunc f ps assign body) (XPost R D φ σ w nt ro dk base e env' σ') a cs w := by
  have hcs : CallSteps (callA P C (exec P C n)) := callA_steps hs (exec_steps hs n)
  simp only [exec, cond_eq_ite] at h
  split at h
  · cases h
  rename_i hrd'
  have hron : ro = none := by
    have h1 : env.rd = false := by simpa using hrd'
    rw [hrd] at h1
    cases ro with
    | none => rfl
    | some l => cases h1
  subst hron
  split at h
  · rename_i g first captured hv
    split at h
    · rename_i cl args τ hcf
      obtain ⟨rfl, rfl, rfl, hinv⟩ := callFA_call hcf
      have hvr := evalO_ok he.ev hi hv
      obtain ⟨fv, hfe⟩ : ∃ fv, fv = a.eval f := ⟨_, rfl⟩
      rw [← hfe] at hvr
      cases hvr with
      | fn _ a' b' v1 v2 =>
        -- the two objects
        have hs1 : StepA σ (σ.mk' .dfr) := .mk' _ _
        have hs2 : StepA (σ.mk' .dfr) ((σ.mk' .dfr).mk' (.loop 0 none env.tm nt ps.toList assign body)) := .mk' _ _
        -- how the call ends
        have hend : ∃ σ1, StepA ((σ.mk' .dfr).mk' (.loop 0 none env.tm nt ps.toList assign body)) σ1 ∧ StepA σ1 σ' ∧
            ((∃ v st pend tm' nt' ps' as' bd', callA P C (exec P C n) (.fn g) (first ++ [.yld (σ.next + 1)] ++ captured) ((σ.mk' .dfr).mk' (.loop 0 none env.tm nt ps.toList assign body)) = .ret v σ1 ∧
                σ1.heap.get (σ.next + 1) = some (.loop st pend tm' nt' ps' as' bd') ∧ st ≠ 1 ∧ env' = { env with ds := .mark σ.next :: env.ds } ∧ σ' = σ1.put (σ.next + 1) .dead ∧
                ((pend = none ∧ e = .normal) ∨ (pend = some .ret ∧ e = .ret) ∨ (∃ i, pend = some (.exit i) ∧ e = .exit i) ∨ (∃ i, pend = some (.goto i) ∧ e = .goto i))) ∨
             (∃ c, callA P C (exec P C n) (.fn g) (first ++ [.yld (σ.next + 1)] ++ captured) ((σ.mk' .dfr).mk' (.loop 0 none env.tm nt ps.toList assign body)) = .pan c σ1 ∧
                env' = { env with ds := .mark σ.next :: env.ds } ∧ σ' = σ1 ∧ e = .panic c)) := by
          split at h
          · rename_i v σ1 hcall
            have s3 := hcs _ _ _ σ1 (by rw [hcall]; rfl)
            split at h
            · rename_i st pend tm' nt' ps' as' bd' hol
              split at h
              · cases h
              · rename_i hst
                obtain ⟨h1, h2, h3⟩ := rangeEnd_ok h
                subst h1; subst h2
                exact ⟨σ1, s3, .put _ _ hol, .inl ⟨v, st, pend, tm', nt', ps', as', bd', hcall, hol, beq_f (Bool.not_eq_true _ ▸ hst), rfl, rfl, h3⟩⟩
            · cases h
          · rename_i c σ1 hcall
            simp only [XR.ok.injEq] at h
            obtain ⟨rfl, rfl, rfl⟩ := h
            exact ⟨_, hcs _ _ _ _ (by rw [hcall]; rfl), .refl _, .inr ⟨c, hcall, rfl, rfl, rfl⟩⟩
          · cases h
        obtain ⟨σ1, s3, s4, hend⟩ := hend
        have hf1 : Free φ σ (σ.mk' .dfr) := hf.mono (hs2.trans (s3.trans s4))
        have p1 : Post R D φ σ w (σ.mk' .dfr) (φ.ins σ.next 0 ⟨w.heap.size, 0, 0, 0, 0, []⟩) (w.alloc (.deferred (some []))) :=
          .new hi (Free.at hf1) rfl (Nat.le_refl _) ⟨hi.low, _, PM.ins_same _ _ _ _, alloc_new _ _⟩
        have hi1 := p1.inv hi hs1
        have hf2 : Free (φ.ins σ.next 0 ⟨w.heap.size, 0, 0, 0, 0, []⟩) (σ.mk' .dfr) ((σ.mk' .dfr).mk' (.loop 0 none env.tm nt ps.toList assign body)) := (hf.mono (s3.trans s4)).then p1 hs1
        have hfr1 := he.mono p1.le
        refine runs_of_wpIn (wpIn_rangeFunc fun fnid _ => ?_)
        let rec0 : Loop := { state := .ready, pending := none, fn := fnid, tmps := a.tmps, params := ps, assign := assign, body := body, defers := w.heap.size }
        have p2 : Post R (More D σ) (φ.ins σ.next 0 ⟨w.heap.size, 0, 0, 0, 0, []⟩) (σ.mk' .dfr) (w.alloc (.deferred (some []))) ((σ.mk' .dfr).mk' (.loop 0 none env.tm nt ps.toList assign body))
            ((φ.ins σ.next 0 ⟨w.heap.size, 0, 0, 0, 0, []⟩).ins (σ.mk' .dfr).next 0 ⟨(w.alloc (.deferred (some []))).heap.size, 0, 0, 0, 0, []⟩) ((w.alloc (.deferred (some []))).alloc (.loop rec0)) :=
          .new hi1 (Free.at hf2) rfl (Nat.le_refl _) ⟨hi1.low, _, rec0, PM.ins_same _ _ _ _, alloc_new _ _, rfl, rfl, he.ev.size, rfl, rfl, rfl, fun t v hv => by
            obtain ⟨v', g1, g2⟩ := hfr1.ev.val t v hv
            exact ⟨v', g1, g2.mono (PM.le_ins _ _ (Free.at hf2 0))⟩⟩
        have hi2 := p2.inv hi1 hs2
        generalize hφ2 : (φ.ins σ.next 0 ⟨w.heap.size, 0, 0, 0, 0, []⟩).ins (σ.mk' .dfr).next 0 ⟨(w.alloc (.deferred (some []))).heap.size, 0, 0, 0, 0, []⟩ = φ2 at p2 hi2
        have hl2 : φ2 (σ.next + 1) 0 = some ⟨w.heap.size + 1, 0, 0, 0, 0, []⟩ := by
          rw [← hφ2]
          have := PM.ins_same (φ.ins σ.next 0 ⟨w.heap.size, 0, 0, 0, 0, []⟩) (σ.mk' .dfr).next 0 ⟨(w.alloc (.deferred (some []))).heap.size, 0, 0, 0, 0, []⟩
          simpa [St.mk', World.size_alloc] using this
        have hd2 : φ2 σ.next 0 = some ⟨w.heap.size, 0, 0, 0, 0, []⟩ := by
          rw [← hφ2, PM.ins_id _ _ (by simp [St.mk'])]
          exact PM.ins_same _ _ _ _
        have hargs : VRL φ2 (first ++ [.yld (σ.next + 1)] ++ captured) ((a' ++ #[Value.func (.yield (w.heap.size + 1)) #[] #[]]) ++ b').toList := by
          have q1 := (v1.mono p1.le).mono p2.le
          have q2 := (v2.mono p1.le).mono p2.le
          have := (q1.append (.cons (.yld _ hl2) .nil)).append q2
          simpa using this
        refine ⟨w.heap.size + 1, [{ target := .collected w.heap.size, args := #[] }], (w.alloc (.deferred (some []))).alloc (.loop rec0),
          { target := .fn (.func g) b', args := a' ++ #[Value.func (.yield (w.heap.size + 1)) #[] #[]] }, (w.alloc (.deferred (some []))).alloc (.loop rec0), g,
          (a' ++ #[Value.func (.yield (w.heap.size + 1)) #[] #[]]) ++ b', (w.alloc (.deferred (some []))).alloc (.loop rec0), ?_, ?_, fun _ _ => trivial, ?_, fun h => by simp [wideR, Fence.wide] at h, ?_⟩
        · show (Instr.enterLoop fnid a.tmps ps assign body none).run P w = _
          have h1 : (w.alloc (.deferred (some []))).heap.size = w.heap.size + 1 := by rw [World.size_alloc]
          have h2 : ∀ o (w : World), (newObj o).run P w = .ok w.heap.size (w.alloc o) := fun _ _ => rfl
          simp only [Instr.enterLoop, Sem.run_bind, h2, Result.andThen_ok, Sem.run_pure, h1]
          rfl
        · have hmap : Array.map a.eval #[Operand.const (Value.func (Fn.yield (w.heap.size + 1)) #[] #[])] = #[Value.func (Fn.yield (w.heap.size + 1)) #[] #[]] := by simp [Act.eval]
          simp only [resolve, ← hfe, Deferred.ofValue, hmap]
          rfl
        · show (callFunc g _).run P _ = _
          exact hinv _ _
        · refine (callsIn_wide (n := 0)).2 ?_
          have hcall0 := hc (.fn g) (first ++ [.yld (σ.next + 1)] ++ captured) ((σ.mk' .dfr).mk' (.loop 0 none env.tm nt ps.toList assign body)) (More (More D σ) (σ.mk' .dfr)) φ2 _ _ hi2 hargs
          have hkk : Known (More (More D σ) (σ.mk' .dfr)) ((σ.mk' .dfr).mk' (.loop 0 none env.tm nt ps.toList assign body)) σ1 := (Known.then (σ' := σ.mk' .dfr) (hk.mono s4)).then
          have hff : Free φ2 ((σ.mk' .dfr).mk' (.loop 0 none env.tm nt ps.toList assign body)) σ1 := ((hf.mono s4).then p1 hs1).then p2 hs2
          have hfrm : ∀ φ3, φ2.le φ3 → FrmR φ3 nt { env with ds := .mark σ.next :: env.ds } { a with defers := [{ target := .collected w.heap.size, args := #[] }] ++ a.defers } := by
            intro φ3 hle
            have hh := (hfr1.mono p2.le).mono hle
            exact ⟨hh.ev.same rfl rfl, .cons ⟨_, #[], hle _ _ _ hd2, rfl⟩ hh.dfs⟩
          rcases hend with ⟨v, st, pend, tm', nt', ps', as', bd', hcall, hol, hst, rfl, rfl, hex⟩ | ⟨c, hcall, rfl, rfl, rfl⟩
          · refine Calls.mono (hcall0.1 v σ1 hcall hkk hff) fun ee w3 hq => ?_
            obtain ⟨φ3, v', rfl, hv3, p3⟩ := hq
            have hi3 := p3.inv hi2 s3
            have hlt := hi3.lt hol
            obtain ⟨hR, ex, r, hex1, hb, q1, q2, _⟩ := hi3.at hol (.inl (.inl (.inr (by omega))))
            have hexe := p3.le _ _ _ hl2
            rw [hex1] at hexe
            simp only [Option.some.injEq] at hexe
            have hblk : ex.blk = w.heap.size + 1 := by rw [hexe]
            have hrun := run_endLoop (P := P) hb (by rw [q1]; exact hst)
            rw [hblk] at hrun
            have p4 : Post R (More (More (More D σ) (σ.mk' .dfr)) ((σ.mk' .dfr).mk' (.loop 0 none env.tm nt ps.toList assign body))) φ3 σ1 w3 (σ1.put (σ.next + 1) .dead) φ3
                (wset w3 ex.blk (.loop { r with state := .exhausted })) := .change hi3 hR hlt hex1 trivial
            have ptot := p1.trans (p2.trans (p3.trans p4 s3 (.put _ _ hol)) hs2 (s3.trans (.put _ _ hol))) hs1 (hs2.trans (s3.trans (.put _ _ hol)))
            rw [hblk] at ptot
            have hx : ∀ e e', ExitR φ3 e e' → XPost R D φ σ w nt none dk base e { env with ds := .mark σ.next :: env.ds } (σ1.put (σ.next + 1) .dead) e'
                { a with defers := [{ target := .collected w.heap.size, args := #[] }] ++ a.defers } cs (wset w3 (w.heap.size + 1) (.loop { r with state := .exhausted })) :=
              fun e e' hee => ⟨φ3, hee, hfrm φ3 p3.le, hm.mono ptot.le, hrd, ptot⟩
            have hrun' : (Instr.endLoop (w.heap.size + 1)).run P w3 = .ok pend (wset w3 (w.heap.size + 1) (.loop { r with state := .exhausted })) := by rw [hrun, q2]
            refine ⟨pend, _, hrun', ?_⟩
            rcases hex with ⟨rfl, rfl⟩ | ⟨rfl, rfl⟩ | ⟨i, rfl, rfl⟩ | ⟨i, rfl, rfl⟩
            · exact hx .normal .normal trivial
            · exact wpIn_ret (hx .ret .ret trivial)
            · exact wpIn_exit (hx (.exit i) (.exit i) rfl)
            · exact wpIn_goto (hx (.goto i) (.goto i) rfl)
          · refine Calls.mono (hcall0.2 c σ' hcall hkk hff) fun ee w3 hq => ?_
            obtain ⟨φ3, c', rfl, hc3, p3⟩ := hq
            have ptot := p1.trans (p2.trans p3 hs2 s3) hs1 (hs2.trans s3)
            exact ⟨φ3, hc3, hfrm φ3 p3.le, hm.mono ptot.le, hrd, ptot⟩
    · cases h
  · cases h
end
end Go.Tw
namespace Go.Tw
section
variable [Val]
variable {P : Program} {R : Nat} {C : Cfg}
omit [Val] in
theorem envOf_get : ∀ {l : List AV} {i : Nat} {e : T AV} {t : Nat} {v : AV}, (envOf l i e).get t = some v → (i ≤ t ∧ l[t - i]? = some v) ∨ e.get t = some v := by
  intro l
  induction l with
  | nil => intro i e t v h; exact .inr h
  | cons x l ih =>
    intro i e t v h
    rcases ih h with ⟨h1, h2⟩ | h2
    · left
      refine ⟨by omega, ?_⟩
      have : t - i = (t - (i + 1)) + 1 := by omega
      rw [this, List.getElem?_cons_succ]
      exact h2
    · rw [T.get_set] at h2
      by_cases ht : t = i
      · left
        rw [if_pos ht] at h2
        refine ⟨by omega, ?_⟩
        rw [ht, Nat.sub_self]
        exact h2
      · rw [if_neg ht] at h2
        exact .inr h2
theorem enter_env {φ : PM} {args : List AV} {args' : Array Value} (ha : VRL φ args args'.toList) {nt : Nat} (hn : args.length ≤ nt) (m : Option AMode) (b : Bool) :
    FrmR φ nt { tm := envOf args 0 .leaf, ds := [], md := m, rd := b } { tmps := args' ++ Array.replicate (nt - args'.size) undef, defers := [] } := by
  have hsz : args'.size = args.length := by rw [← ha.length, Array.length_toList]
  refine ⟨⟨by simp; omega, fun t v h => ?_⟩, .nil⟩
  rcases envOf_get h with ⟨_, h1⟩ | h1
  · obtain ⟨v', g1, g2⟩ := ha.get h1
    refine ⟨v', ?_, g2⟩
    rw [Nat.sub_zero, Array.getElem?_toList] at g1
    rw [Array.getElem?_append_left]
    · exact g1
    · rcases Nat.lt_or_ge t args'.size with h' | h'
      · exact h'
      · rw [Array.getElem?_eq_none h'] at g1; cases g1
  · simp [T.get_leaf] at h1
theorem Inv.bare {D : Nat → Prop} {φ : PM} {σ : St} {w : World} (h : Inv R C D φ σ w) : Inv R C D φ σ.bare w := ⟨h.wf, h.low, h.rep, h.gl, h.dom, h.pin, h.dec, fun i hi => (by cases hi), h.ro, h.oh⟩
theorem Post.outer {D : Nat → Prop} {φ φ' : PM} {σ τ : St} {w w' : World} (h : Post R D φ σ.bare w τ φ' w') (s : StepA σ.bare τ) (hi : Inv R C D φ σ w)
    (hf : Free φ σ (τ.out σ)) : Post R D φ σ w (τ.out σ) φ' w' where
  le := h.le
  grow := fun i h1 h2 v => h.grow i (by
    rcases h1 with h1 | h1
    · rcases Nat.lt_or_ge i σ.next with hl | hl
      · exact .inl fun hw => h1 (List.mem_append.2 (.inl (mem_keepOld.2 ⟨hl, hw⟩)))
      · right
        rcases Nat.lt_or_ge i τ.next with g | g
        · exact absurd ⟨hl, g⟩ h2
        · exact g
    · exact .inr h1) h2 v
  wrR := fun i hi' => by
    rcases List.mem_append.1 hi' with h1 | h1
    · exact .inr ((h.wrR i (mem_keepOld.1 h1).2).resolve_left (by simp [St.bare]))
    · exact .inl h1
  wf := h.wf
  blk := h.blk
  rep := h.rep
  frm := {
    size := h.frm.size
    keep := fun b hb hne => h.frm.keep b hb fun i hiw v e he => by
      rcases Nat.lt_or_ge i σ.next with hl | hl
      · exact hne i (List.mem_append.2 (.inl (mem_keepOld.2 ⟨hl, hiw⟩))) v e he
      · have hlt : i < τ.next := (s.wlt hi.dom i hiw).resolve_left (by simp [St.bare])
        rw [hf i hl hlt v] at he
        cases he
    os := h.frm.os
    out := h.frm.out
    tape := h.frm.tape }
omit [Val] in
theorem Known.bare {D : Nat → Prop} {σ τ : St} (h : Known D σ (τ.out σ)) : Known D σ.bare τ := fun i hi hn =>
  h i (hi.imp (fun h1 => List.mem_append.2 (.inl (mem_keepOld.2 ⟨hn, h1⟩))) (fun h1 => List.mem_append.2 (.inl (mem_keepOld.2 ⟨hn, h1⟩)))) hn
/-! From a body's runs to a call's contract. -/
omit [Val] in
theorem calls_of_runs {f : FuncId} {fn : Func} {c : Code} {args : Array Value} {w : World} {Q : Ending → World → Prop} (hf : P.funcs[f]? = some fn) (hb : fn.body = some c)
    (h : ∀ cs, Runs P none false c (fun e a' cs' w' => cs' = cs ∧ bodyPostM Fence.wide 0 P fn Q e a' w') { tmps := args ++ Array.replicate (fn.ntmps - args.size) undef, defers := [] } cs w) :
    Calls P f args w Q := by
  refine (callsIn_wide (n := 0)).1 ⟨trivial, fun cs hr => ?_⟩
  let b : Frame := { (default : Frame) with fn := f, kind := .normal, roundOf := none }
  have henter : Frame.enter P f args .normal =
      b.atR { tmps := args ++ Array.replicate (fn.ntmps - args.size) undef, defers := [] } [.code c] := by
    simp [Frame.enter, Frame.atR, hf, hb, b]
  obtain ⟨e, a', cs', w', ⟨rfl, hq⟩, harr⟩ := h cs b [] rfl rfl
  rw [← henter] at harr
  cases e with
  | normal =>
    obtain ⟨e', w'', fr', hR, hs, hfn, hl⟩ := leaves_stepsInM a'.defers .returning w' { b.atR a' [] with mode := .returning } cs' rfl rfl rfl hf rfl trivial hr hq
    exact ⟨e', w'', fr', hR, ComesIn.of_steps (StepsIn.trans harr (one_wide (stepR_end rfl))) hs, hfn, hl⟩
  | ret =>
    obtain ⟨todo, hs₀⟩ := harr.1 rfl
    obtain ⟨e', w'', fr', hR, hs, hfn, hl⟩ := leaves_stepsInM a'.defers .returning w' { b.atR a' todo with mode := .returning } cs' rfl rfl rfl hf rfl trivial hr hq
    exact ⟨e', w'', fr', hR, ComesIn.of_steps hs₀ hs, hfn, hl⟩
  | panic chain =>
    obtain ⟨todo, hs₀⟩ := harr
    obtain ⟨e', w'', fr', hR, hs, hfn, hl⟩ := leaves_stepsInM a'.defers (.panicking chain) w' { b.atR a' todo with mode := .panicking chain } cs' rfl rfl rfl hf rfl trivial hr hq
    exact ⟨e', w'', fr', hR, ComesIn.of_steps hs₀ hs, hfn, hl⟩
  | exit id => exact hq.elim
  | goto l => exact hq.elim
  | outgrown => exact ⟨.outgrown, w', b, hq, harr.resolve_left (by simp [b]), rfl, trivial⟩
omit [Val] in
theorem callsD_of_runs {f : FuncId} {fn : Func} {c : Code} {args : Array Value} {u : FrameMode} {w : World} {Q : Ending → FrameMode → World → Prop} (hf : P.funcs[f]? = some fn) (hb : fn.body = some c)
    (h : ∀ (c₀ : Frame) (cs : List Frame), c₀.mode = u → Runs P none true c (bodyPostS P fn c₀ cs Q) { tmps := args ++ Array.replicate (fn.ntmps - args.size) undef, defers := [] } (c₀ :: cs) w) :
    CallsDIn Fence.wide 0 P f args u w Q := by
  refine ⟨trivial, fun c₀ cs hu hroom => ?_⟩
  let b : Frame := { (default : Frame) with fn := f, kind := .deferred, roundOf := none }
  have henter : Frame.enter P f args .deferred =
      b.atR { tmps := args ++ Array.replicate (fn.ntmps - args.size) undef, defers := [] } [.code c] := by
    simp [Frame.enter, Frame.atR, hf, hb, b]
  obtain ⟨e, a', cs', w', hq, harr⟩ := h c₀ cs hu b [] rfl rfl
  rw [← henter] at harr
  cases e with
  | normal =>
    obtain ⟨hd, u', rfl, v, hr, hR⟩ := hq
    exact ⟨.returned v, u', w', _, hR, StepsIn.trans harr (one_wide (stepR_end rfl)), rfl, rfl, rfl, hd, fn, hf, hr⟩
  | ret =>
    obtain ⟨hd, u', rfl, v, hr, hR⟩ := hq
    obtain ⟨todo, hs⟩ := harr.1 rfl
    exact ⟨.returned v, u', w', _, hR, hs, rfl, rfl, rfl, hd, fn, hf, hr⟩
  | panic chain =>
    obtain ⟨hd, u', rfl, hR⟩ := hq
    obtain ⟨todo, hs⟩ := harr
    exact ⟨.panicked chain, u', w', _, hR, hs, rfl, rfl, rfl, hd, fn, hf⟩
  | exit id => exact hq.elim
  | goto l => exact hq.elim
  | outgrown =>
    obtain ⟨u', hR⟩ := hq
    exact ⟨.outgrown, u', w', b, hR, harr.resolve_left (by simp [b]), rfl, rfl, trivial⟩
omit [Val] in
theorem round_of_runs {l : Nat} {f : FuncId} {tmps : Array Value} {assign body : Code} {w : World} {Q : Ending → World → Prop}
    (h : ∀ cs, Runs P (some l) false assign (fun e a₁ cs₁ w₁ => cs₁ = cs ∧ e = .normal ∧ ∃ w₂, (Instr.beginRound l).run P w₁ = .ok () w₂ ∧
      Runs P (some l) false body (fun e a' cs' w' => cs' = cs ∧ roundPost P l Q e a' w') a₁ cs w₂) { tmps := tmps, defers := [] } cs w) :
    RoundIn Fence.wide 0 P l f tmps assign body w Q := by
  refine ⟨trivial, fun c cs hr => ?_⟩
  let b : Frame := { (default : Frame) with fn := f, kind := .normal, roundOf := some l }
  have hb0 : Frame.round l f tmps assign body .normal = b.atR { tmps := tmps, defers := [] } [.code assign, .beginRound, .code body] := by
    simp [Frame.round, Frame.atR, b]
  obtain ⟨e, a₁, cs₁, w₁, ⟨rfl, rfl, w₂, hbr, hbody⟩, harr⟩ := h (c :: cs) b [.beginRound, .code body] rfl rfl
  rw [← hb0] at harr
  have s1 : StepsIn (Machine.fenced P Fence.wide) P (lone (b.atR a₁ [.beginRound, .code body]) (c :: cs) w₁) (lone (b.atR a₁ [.code body]) (c :: cs) w₂) := one_wide (stepR_beginRound rfl hbr)
  obtain ⟨e₂, a₂, cs₂, w₃, ⟨rfl, hq₂⟩, harr₂⟩ := hbody b [] rfl rfl
  cases e₂ with
  | normal =>
    obtain ⟨v, w₄, hend, hR⟩ := hq₂
    exact ⟨.returned v, w₄, hR, (StepsIn.trans harr s1).trans (StepsIn.trans harr₂ (one_wide (stepR_round_end rfl rfl hend)))⟩
  | ret =>
    obtain ⟨v, w₄, hend, hR⟩ := hq₂
    obtain ⟨k₁, hs⟩ := harr₂.2 rfl
    exact ⟨.returned v, w₄, hR, (StepsIn.trans harr s1).trans (StepsIn.trans hs (one_wide (stepR_round_ret rfl rfl hend)))⟩
  | exit id =>
    obtain ⟨v, w₄, hend, hR⟩ := hq₂
    obtain ⟨k₁, hk, hs⟩ := harr₂.2 rfl rfl
    exact ⟨.returned v, w₄, hR, (StepsIn.trans harr s1).trans (StepsIn.trans hs (one_wide (stepR_round_exit rfl rfl hk hend)))⟩
  | goto t =>
    obtain ⟨v, w₄, hend, hR⟩ := hq₂
    obtain ⟨k₁, hk, hs⟩ := harr₂.2 rfl rfl
    exact ⟨.returned v, w₄, hR, (StepsIn.trans harr s1).trans (StepsIn.trans hs (one_wide (stepR_round_goto rfl rfl hk hend)))⟩
  | panic chain => exact hq₂.elim
  | outgrown => exact hq₂.elim
/-! Leaving. -/
def DcOk (P : Program) (R : Nat) (C : Cfg) (dc : FuncId → List AV → AMode → St → DR) : Prop :=
  ∀ (f : FuncId) (args : List AV) (m : AMode) (σ : St) (D : Nat → Prop) (φ : PM) (w : World) (args' : Array Value) (u : FrameMode), Inv R C D φ σ w → VRL φ args args'.toList → ModeR φ m u →
    (∀ m' σ', dc f args m σ = .ret m' σ' → Known D σ σ' → Free φ σ σ' → (∀ w, (callFunc f args').run P w = .ok (.enter f args') w) ∧
      CallsDIn Fence.wide 0 P f args' u w fun e u' w' => ∃ φ' v', e = .returned v' ∧ ModeR φ' m' u' ∧ Post R D φ σ w σ' φ' w') ∧
    (∀ c m' σ', dc f args m σ = .pan c m' σ' → Known D σ σ' → Free φ σ σ' → (∀ w, (callFunc f args').run P w = .ok (.enter f args') w) ∧
      CallsDIn Fence.wide 0 P f args' u w fun e u' w' => ∃ φ' c', e = .panicked c' ∧ ChainR φ' c c' ∧ ModeR φ' m' u' ∧ Post R D φ σ w σ' φ' w')
theorem ChainR.nogoexit {φ : PM} {l : List (AV × Bool)} {l' : List PanicEntry} (h : ChainR φ l l') : l'.dropWhile (fun x => !x.goexit) = [] := by
  induction h with
  | nil => rfl
  | cons _ _ ih => simp [List.dropWhile, ih]
theorem ModeR.settle {φ : PM} {m : AMode} {u : FrameMode} (h : ModeR φ m u) : ModeR φ (settleA m) (settle u) := by
  cases m with
  | returning => cases u <;> simp only [ModeR] at h; trivial
  | panicking c =>
    cases u with
    | panicking c' =>
      simp only [ModeR] at h
      cases h with
      | nil => exact .nil
      | @cons v b v' l l' hv ht =>
        cases b with
        | false => exact .cons hv ht
        | true =>
          have := ht.nogoexit
          show ModeR φ .returning (match l'.dropWhile (fun x => !x.goexit) with | [] => .returning | rest => .panicking rest)
          rw [this]; trivial
    | _ => exact h.elim
theorem ModeR.raised {φ : PM} {m : AMode} {u : FrameMode} {c : List (AV × Bool)} {c' : List PanicEntry} (h : ModeR φ m u) (hc : ChainR φ c c') : ModeR φ (raisedA m c) (raised u c') := by
  cases m with
  | returning => cases u <;> simp only [ModeR] at h; exact hc
  | panicking old =>
    cases u with
    | panicking old' => exact hc.append h
    | _ => exact h.elim
theorem ModeR.notrun {φ : PM} {m : AMode} {u : FrameMode} (h : ModeR φ m u) : u ≠ .run := by
  cases m <;> cases u <;> simp_all [ModeR]
omit [Val] in
theorem CallsDIn.mono' {f : FuncId} {args : Array Value} {u : FrameMode} {w : World} {Q Q' : Ending → FrameMode → World → Prop}
    (h : CallsDIn Fence.wide 0 P f args u w Q) (hr : ∀ e u' w', Q e u' w' → Q' e u' w') : CallsDIn Fence.wide (0 - 1) P f args u w Q' :=
  CallsDIn.mono h hr
theorem leaveA_ok {dc : FuncId → List AV → AMode → St → DR} (hdc : DcOk P R C dc) (hds : ∀ f args m σ, (dc f args m σ).steps σ) {fn : Func} {env : Env} {a : Act} :
    ∀ (ds : List ADef) (ds' : List Deferred) (m : AMode) (u : FrameMode) (τ : St) (D : Nat → Prop) (φ : PM) (w : World), Inv R C D φ τ w → EnvR φ fn.ntmps env a → DfsR φ ds ds' → ModeR φ m u →
      (∀ v τ', leaveA P dc fn env ds m τ = .ret v τ' → Known D τ τ' → Free φ τ τ' → ∀ (Q : Ending → World → Prop),
        (∀ φ' v' w', VR φ' v v' → Post R D φ τ w τ' φ' w' → Q (.returned v') w') → LeavesInM Fence.wide 0 P fn a.tmps Q ds' u w) ∧
      (∀ c τ', leaveA P dc fn env ds m τ = .pan c τ' → Known D τ τ' → Free φ τ τ' → ∀ (Q : Ending → World → Prop),
        (∀ φ' c' w', ChainR φ' c c' → Post R D φ τ w τ' φ' w' → Q (.panicked c') w') → LeavesInM Fence.wide 0 P fn a.tmps Q ds' u w) := by
  intro ds
  induction ds with
  | nil =>
    intro ds' m u τ D φ w hi he hd hm
    cases hd
    cases m with
    | returning =>
      cases u <;> simp only [ModeR] at hm
      refine ⟨fun v τ' h hk hf Q hQ => ?_, fun c τ' h hk hf Q hQ => ?_⟩
      · simp only [leaveA] at h
        split at h
        · rename_i l τ1 hres
          simp only [CR.ret.injEq] at h
          obtain ⟨rfl, rfl⟩ := h
          obtain ⟨v', r1, r2, r3⟩ := results_ok he hi hres hk
          exact ⟨v', r1, hQ φ v' w r2 r3⟩
        · cases h
      · simp only [leaveA] at h
        split at h <;> cases h
    | panicking c0 =>
      cases u <;> simp only [ModeR] at hm
      refine ⟨fun v τ' h hk hf Q hQ => by simp [leaveA] at h, fun c τ' h hk hf Q hQ => ?_⟩
      simp only [leaveA, CR.pan.injEq] at h
      obtain ⟨rfl, rfl⟩ := h
      exact hQ φ _ w hm (.same hi rfl rfl rfl)
  | cons d ds ih =>
    intro ds' m u τ D φ w hi he hd hm
    cases hd with
    | @cons _ d' _ ds' hdd hdt =>
      cases d with
      | mark id =>
        obtain ⟨e0, ar, he0, rfl⟩ := hdd
        have key : ∀ (r : CR), leaveA P dc fn env (.mark id :: ds) m τ = r → r ≠ .no → ∀ τ', r.st = some τ' → Known D τ τ' → Free φ τ τ' →
            ∃ w1, (Instr.takeDeferred e0.blk).run P w = .ok [] w1 ∧ Post R D φ τ w (τ.put id .dead) φ w1 ∧ StepA τ (τ.put id .dead) ∧ leaveA P dc fn env ds m (τ.put id .dead) = r := by
          intro r h hr τ' hst hk hf
          simp only [leaveA] at h
          split at h
          · rename_i hob
            have hs2 : StepA (τ.put id .dead) τ' := leaveA_steps hds ds m (τ.put id .dead) τ' (by rw [h]; exact hst)
            have hs1 : StepA τ (τ.put id .dead) := .put _ _ hob
            have hlt := hi.lt hob
            have hD : D id := hk id (.inr (hs2.wr _ (mem_addL.2 (.inl rfl)))) hlt
            obtain ⟨hR, e, he1, hb⟩ := hi.at hob hD
            rw [he0] at he1; simp only [Option.some.injEq] at he1; subst he1
            refine ⟨wset w e0.blk (.deferred none), ?_, .change hi hR hlt he0 trivial, hs1, h⟩
            simp [Instr.takeDeferred, run_getObj hb (by simp), run_setObj hb (by simp)]
          · exact absurd h.symm hr
        refine ⟨fun v τ' h hk hf Q hQ => ?_, fun c τ' h hk hf Q hQ => ?_⟩
        · obtain ⟨w1, h1, h2, h3, h4⟩ := key _ h (by simp) τ' rfl hk hf
          have hs2 : StepA (τ.put id .dead) τ' := leaveA_steps hds ds m (τ.put id .dead) τ' (by rw [h4]; rfl)
          refine ⟨hm.notrun, .inl ⟨e0.blk, w1, rfl, h1, ?_⟩⟩
          exact (ih ds' m u (τ.put id .dead) (More D τ) φ w1 (h2.inv hi h3) he hdt hm).1 v τ' h4 hk.then (hf.then h2 h3) Q
            fun φ' v' w' hv hp => hQ φ' v' w' hv (h2.trans hp h3 hs2)
        · obtain ⟨w1, h1, h2, h3, h4⟩ := key _ h (by simp) τ' rfl hk hf
          have hs2 : StepA (τ.put id .dead) τ' := leaveA_steps hds ds m (τ.put id .dead) τ' (by rw [h4]; rfl)
          refine ⟨hm.notrun, .inl ⟨e0.blk, w1, rfl, h1, ?_⟩⟩
          exact (ih ds' m u (τ.put id .dead) (More D τ) φ w1 (h2.inv hi h3) he hdt hm).2 c τ' h4 hk.then (hf.then h2 h3) Q
            fun φ' v' w' hv hp => hQ φ' v' w' hv (h2.trans hp h3 hs2)
      | call f args =>
        obtain ⟨cap, ar, rfl, hargs⟩ := hdd
        have hargs' : VRL φ args (ar ++ cap).toList := by simpa using hargs
        have hdcf := hdc f args m τ D φ w (ar ++ cap) u hi hargs' hm
        have key : ∀ (r : CR), leaveA P dc fn env (.call f args :: ds) m τ = r → r ≠ .no → ∀ τ', r.st = some τ' → Known D τ τ' → Free φ τ τ' → ∀ (Q : Ending → World → Prop),
            (∀ (m1 : AMode) (u1 : FrameMode) (τ1 : St) (φ1 : PM) (w1 : World), leaveA P dc fn env ds m1 τ1 = r → ModeR φ1 m1 u1 → Post R D φ τ w τ1 φ1 w1 → StepA τ τ1 → StepA τ1 τ' →
              LeavesInM Fence.wide 0 P fn a.tmps Q ds' u1 w1) → LeavesInM Fence.wide 0 P fn a.tmps Q ({ target := .fn (.func f) cap, args := ar } :: ds') u w := by
          intro r h hr τ' hst hk hf Q hQ
          simp only [leaveA] at h
          split at h
          · rename_i m1 τ1 hdcr
            have hs1 : StepA τ τ1 := hds f args m τ τ1 (by rw [hdcr]; rfl)
            have hs2 : StepA τ1 τ' := leaveA_steps hds ds _ τ1 τ' (by rw [h]; exact hst)
            obtain ⟨hinv, hcall⟩ := hdcf.1 m1 τ1 hdcr (hk.mono hs2) (hf.mono hs2)
            refine ⟨hm.notrun, .inr ⟨fun h => by simp [Fence.wide] at h, .func f, cap, f, ar ++ cap, rfl, hinv w, fun _ _ => trivial, ?_⟩⟩
            refine CallsDIn.mono' hcall fun e u' w' hq => ?_
            obtain ⟨φ1, v', rfl, hm1, hp⟩ := hq
            exact hQ _ _ τ1 φ1 w' h hm1.settle hp hs1 hs2
          · rename_i c1 m1 τ1 hdcr
            have hs1 : StepA τ τ1 := hds f args m τ τ1 (by rw [hdcr]; rfl)
            have hs2 : StepA τ1 τ' := leaveA_steps hds ds _ τ1 τ' (by rw [h]; exact hst)
            obtain ⟨hinv, hcall⟩ := hdcf.2 c1 m1 τ1 hdcr (hk.mono hs2) (hf.mono hs2)
            refine ⟨hm.notrun, .inr ⟨fun h => by simp [Fence.wide] at h, .func f, cap, f, ar ++ cap, rfl, hinv w, fun _ _ => trivial, ?_⟩⟩
            refine CallsDIn.mono' hcall fun e u' w' hq => ?_
            obtain ⟨φ1, c', rfl, hc1, hm1, hp⟩ := hq
            exact hQ _ _ τ1 φ1 w' h (hm1.raised hc1) hp hs1 hs2
          · exact absurd h.symm hr
        refine ⟨fun v τ' h hk hf Q hQ => ?_, fun c τ' h hk hf Q hQ => ?_⟩
        · refine key _ h (by simp) τ' rfl hk hf Q fun m1 u1 τ1 φ1 w1 h1 hm1 hp hs1 hs2 => ?_
          exact (ih ds' m1 u1 τ1 (More D τ) φ1 w1 (hp.inv hi hs1) (he.mono hp.le) (hdt.mono hp.le) hm1).1 v τ' h1 hk.then (hf.then hp hs1) Q
            fun φ' v' w' hv hp2 => hQ φ' v' w' hv (hp.trans hp2 hs1 hs2)
        · refine key _ h (by simp) τ' rfl hk hf Q fun m1 u1 τ1 φ1 w1 h1 hm1 hp hs1 hs2 => ?_
          exact (ih ds' m1 u1 τ1 (More D τ) φ1 w1 (hp.inv hi hs1) (he.mono hp.le) (hdt.mono hp.le) hm1).2 c τ' h1 hk.then (hf.then hp hs1) Q
            fun φ' v' w' hv hp2 => hQ φ' v' w' hv (hp.trans hp2 hs1 hs2)
end
end Go.Tw
namespace Go.Tw
section
variable [Val]
variable {P : Program} {R : Nat} {C : Cfg}
theorem CsR.last {φ : PM} {c₀ : Frame} {cs cs' : List Frame} {m : AMode} (h : CsR φ true (c₀ :: cs) cs' (some m)) : ∃ u', cs' = { c₀ with mode := u' } :: cs ∧ ModeR φ m u' := by
  obtain ⟨_, c₁, rest, m', h2, h3, h4⟩ := h
  simp only [List.cons.injEq] at h2
  obtain ⟨rfl, rfl⟩ := h2
  exact ⟨m', h3, h4⟩
theorem DfsR.nil_of {φ : PM} {l' : List Deferred} (h : DfsR φ [] l') : l' = [] := by cases h; rfl
theorem callD_ok (hs : HkSteps C) {n : Nat} (hx : ExecOk P R C n) : DcOk P R C (callD P (exec P C n)) := by
  intro f args m σ D φ w args' u hi ha hm
  have hlast : ∀ (r : DR), callD P (exec P C n) f args m σ = r → r ≠ .no → ∃ fn c, P.funcs[f]? = some fn ∧ fn.body = some c ∧ args.length ≤ fn.ntmps ∧ fn.name ≠ "runtime.NumGoroutine" ∧
      ((∃ e env τ τ1 m' l, (e = .ret ∨ e = .normal) ∧ exec P C n fn.ntmps c { tm := envOf args 0 .leaf, ds := [], md := some m, rd := false } σ.bare = .ok e env τ ∧ env.ds = [] ∧ env.md = some m' ∧
          resultsA P fn env τ fn.results.toList = some (l, τ1) ∧ r = .ret m' (τ1.out σ)) ∨
       (∃ ch env τ m', exec P C n fn.ntmps c { tm := envOf args 0 .leaf, ds := [], md := some m, rd := false } σ.bare = .ok (.panic ch) env τ ∧ env.ds = [] ∧ env.md = some m' ∧
          r = .pan ch m' (τ.out σ))) := by
    intro r h hr
    unfold callD at h
    split at h
    · exact absurd h.symm hr
    · rename_i fn hfn
      split at h
      · exact absurd h.symm hr
      · rename_i c hb
        simp only [cond_eq_ite] at h
        split at h
        · rename_i hlen
          split at h
          · exact absurd h.symm hr
          · rename_i hname
            refine ⟨fn, c, hfn, hb, ble_t hlen, hname, ?_⟩
            split at h
            · rename_i env τ hex
              split at h
              · rename_i m' l τ1 hds hmd hres
                exact .inl ⟨_, env, τ, τ1, m', l, .inl rfl, hex, hds, hmd, hres, h.symm⟩
              · exact absurd h.symm hr
            · rename_i env τ hex
              split at h
              · rename_i m' l τ1 hds hmd hres
                exact .inl ⟨_, env, τ, τ1, m', l, .inr rfl, hex, hds, hmd, hres, h.symm⟩
              · exact absurd h.symm hr
            · rename_i ch env τ hex
              split at h
              · rename_i m' hds hmd
                exact .inr ⟨ch, env, τ, m', hex, hds, hmd, h.symm⟩
              · exact absurd h.symm hr
            · exact absurd h.symm hr
        · exact absurd h.symm hr
  refine ⟨fun m' σ' h hk hf => ?_, fun c m' σ' h hk hf => ?_⟩
  · obtain ⟨fn, code, hfn, hb, hlen, hname, hh⟩ := hlast _ h (by simp)
    refine ⟨fun w => by simp [callFunc, hfn, hname, hb], ?_⟩
    rcases hh with ⟨e, env, τ, τ1, m1, l, hee, hex, hds, hmd, hres, hr⟩ | ⟨ch, env, τ, m1, hex, hds, hmd, hr⟩
    · simp only [DR.ret.injEq] at hr
      obtain ⟨rfl, rfl⟩ := hr
      have s1 : StepA σ.bare τ := exec_steps hs n fn.ntmps code _ σ.bare τ (by rw [hex]; rfl)
      have s2 : StepA τ τ1 := resultsA_step _ hres
      have hk1 : Known D σ.bare τ1 := hk.bare
      have hf1 : Free φ σ.bare τ1 := hf
      refine callsD_of_runs hfn hb fun c₀ cs hu => ?_
      have hcs : CsR φ true (c₀ :: cs) (c₀ :: cs) (some m) := ⟨rfl, c₀, cs, u, rfl, by subst hu; rfl, hm⟩
      refine Runs.mono (hx fn.ntmps code _ σ.bare e env τ D φ _ (c₀ :: cs) w none true (c₀ :: cs) hex hi.bare (enter_env ha hlen (some m) false) hcs rfl (hk1.mono s2) (hf1.mono s2)) fun e1 a1 cs1 w1 q => ?_
      obtain ⟨φ1, g1, g2, g3, g4, g5⟩ := q
      rw [hmd] at g3
      obtain ⟨u', rfl, hmu⟩ := g3.last
      have hd0 : a1.defers = [] := by have := g2.dfs; rw [hds] at this; exact this.nil_of
      obtain ⟨v', r1, r2, r3⟩ := results_ok g2.ev (g5.inv hi.bare s1) hres hk1.then
      have hp := (g5.trans r3 s1 s2).outer (s1.trans s2) hi hf
      rcases hee with rfl | rfl
      · cases e1 <;> simp only [ExitR] at g1
        exact ⟨hd0, u', rfl, v', r1, φ1, v', rfl, hmu, hp⟩
      · cases e1 <;> simp only [ExitR] at g1
        exact ⟨hd0, u', rfl, v', r1, φ1, v', rfl, hmu, hp⟩
    · cases hr
  · obtain ⟨fn, code, hfn, hb, hlen, hname, hh⟩ := hlast _ h (by simp)
    refine ⟨fun w => by simp [callFunc, hfn, hname, hb], ?_⟩
    rcases hh with ⟨e, env, τ, τ1, m1, l, hee, hex, hds, hmd, hres, hr⟩ | ⟨ch, env, τ, m1, hex, hds, hmd, hr⟩
    · cases hr
    · simp only [DR.pan.injEq] at hr
      obtain ⟨rfl, rfl, rfl⟩ := hr
      have s1 : StepA σ.bare τ := exec_steps hs n fn.ntmps code _ σ.bare τ (by rw [hex]; rfl)
      refine callsD_of_runs hfn hb fun c₀ cs hu => ?_
      have hcs : CsR φ true (c₀ :: cs) (c₀ :: cs) (some m) := ⟨rfl, c₀, cs, u, rfl, by subst hu; rfl, hm⟩
      refine Runs.mono (hx fn.ntmps code _ σ.bare _ env τ D φ _ (c₀ :: cs) w none true (c₀ :: cs) hex hi.bare (enter_env ha hlen (some m) false) hcs rfl hk.bare hf) fun e1 a1 cs1 w1 q => ?_
      obtain ⟨φ1, g1, g2, g3, g4, g5⟩ := q
      rw [hmd] at g3
      obtain ⟨u', rfl, hmu⟩ := g3.last
      have hd0 : a1.defers = [] := by have := g2.dfs; rw [hds] at this; exact this.nil_of
      cases e1 <;> simp only [ExitR] at g1
      exact ⟨hd0, u', rfl, φ1, _, rfl, g1, hmu, g5.outer s1 hi hf⟩
theorem bindA_ok {φ : PM} : ∀ {ps : List Tmp} {args : List AV} {args' : List Value} {tm tm' : T AV} {tmps : Array Value}, VRL φ args args' → bindA ps args tm = some tm' →
    (∀ t v, tm.get t = some v → ∃ v', tmps[t]? = some v' ∧ VR φ v v') → (∀ p ∈ ps, p < tmps.size) →
    ps.length = args'.length ∧ ((ps.zip args').foldl (fun tmps (x : Tmp × Value) => tmps.setIfInBounds x.1 x.2) tmps).size = tmps.size ∧
      ∀ t v, tm'.get t = some v → ∃ v', ((ps.zip args').foldl (fun tmps (x : Tmp × Value) => tmps.setIfInBounds x.1 x.2) tmps)[t]? = some v' ∧ VR φ v v' := by
  intro ps
  induction ps with
  | nil =>
    intro args args' tm tm' tmps hv hb hget _
    cases hv with
    | nil => simp only [bindA, Option.some.injEq] at hb; subst hb; exact ⟨rfl, rfl, hget⟩
    | cons _ _ => simp [bindA] at hb
  | cons p ps ih =>
    intro args args' tm tm' tmps hv hb hget hlt
    cases hv with
    | nil => simp [bindA] at hb
    | @cons v v' l l' h ht =>
      simp only [bindA] at hb
      have hp := hlt p (by simp)
      obtain ⟨i1, i2, i3⟩ := ih (tmps := tmps.setIfInBounds p v') ht hb (fun t u hu => by
        rw [T.get_set] at hu
        by_cases e : t = p
        · subst e
          rw [if_pos rfl] at hu
          simp only [Option.some.injEq] at hu; subst hu
          exact ⟨v', by simp [hp], h⟩
        · rw [if_neg e] at hu
          obtain ⟨u', h1, h2⟩ := hget t u hu
          exact ⟨u', by rw [Array.getElem?_setIfInBounds_ne (Ne.symm e)]; exact h1, h2⟩) (fun q hq => by simpa using hlt q (by simp [hq]))
      refine ⟨by simp [i1], ?_, ?_⟩
      · simpa using i2
      · simpa using i3
omit [Val] in
theorem stN_ready {s : LoopState} (h : stN s = 0) : s = .ready := by cases s <;> simp [stN] at h; rfl
omit [Val] in
theorem run_beginRound {w : World} {b : Nat} {r : Loop} (h : w.heap[b]? = some (.loop r)) (hs : r.state = .ready) :
    (Instr.beginRound b).run P w = .ok () (wset w b (.loop { r with state := .busy })) := by
  simp [Instr.beginRound, run_getLoop h, hs, run_setObj h (by simp)]
omit [Val] in
theorem run_endRound {w : World} {b : Nat} {r : Loop} (h : w.heap[b]? = some (.loop r)) (j : Option Code) :
    (Instr.endRound b j).run P w = .ok (.bool j.isNone) (wset w b (.loop { r with state := if j.isNone then .ready else .done, pending := j })) := by
  simp [Instr.endRound, run_getLoop h, run_setObj h (by simp)]
omit [Val] in
theorem zip_foldl (ps : Array Tmp) (args : Array Value) (tmps : Array Value) :
    (ps.zip args).foldl (fun tmps (x : Tmp × Value) => tmps.setIfInBounds x.1 x.2) tmps = (ps.toList.zip args.toList).foldl (fun tmps (x : Tmp × Value) => tmps.setIfInBounds x.1 x.2) tmps := by
  rw [← Array.foldl_toList]; simp
omit [Val] in
theorem roundEnd_ok {id : Nat} {σ υ σ' : St} {env : Env} {jump : Option Code} {v : AV} (h : roundEnd id σ env υ jump = .ret v σ') :
    ∃ st pend tm nt ps as bd, env.ds = [] ∧ υ.heap.get id = some (.loop st pend tm nt ps as bd) ∧ v = .bool jump.isNone ∧
      σ' = (υ.put id (.loop (bif jump.isNone then 0 else 2) jump tm nt ps as bd)).out σ := by
  unfold roundEnd at h
  split at h
  · rename_i st pend tm nt ps as bd hds ho
    simp only [CR.ret.injEq] at h
    obtain ⟨rfl, rfl⟩ := h
    exact ⟨st, pend, tm, nt, ps, as, bd, hds, ho, rfl, rfl⟩
  · cases h
omit [Val] in
theorem roundEnd_nopan {id : Nat} {σ υ σ' : St} {env : Env} {jump : Option Code} {c : List (AV × Bool)} (h : roundEnd id σ env υ jump = .pan c σ') : False := by
  unfold roundEnd at h
  split at h <;> cases h
theorem roundA_ok (hs : HkSteps C) {n : Nat} (hx : ExecOk P R C n) {id : Nat} {args : List AV} {σ σ' : St} {D : Nat → Prop} {φ : PM} {w : World} {args' : Array Value} {v : AV}
    (hi : Inv R C D φ σ w) (ha : VRL φ args args'.toList) (h : roundA (exec P C n) id args σ = .ret v σ') (hk : Known D σ σ') (hf : Free φ σ σ') :
    Does P φ (.yld id) args' w fun e w' => ∃ φ' v', e = .returned v' ∧ VR φ' v v' ∧ Post R D φ σ w σ' φ' w' := by
  unfold roundA at h
  simp only [cond_eq_ite] at h
  split at h
  · rename_i pend tm nt ps assign body ho
    split at h
    · cases h
    rename_i hps
    have hps : ∀ p ∈ ps, p < nt := by
      intro p hp
      have h1 : ps.all (fun p => Nat.blt p nt) = true := by simpa using hps
      exact blt_t (List.all_eq_true.1 h1 p hp)
    split at h
    · cases h
    · rename_i tm' hb
      split at h
      · rename_i env τ hex
        split at h
        · rename_i pend₂ tm₂ nt₂ ps₂ as₂ bd₂ ho₂
          -- how the body ends
          have hbody : ∃ e env₃ υ jump, exec P C n nt body env (τ.put id (.loop 1 pend₂ tm₂ nt₂ ps₂ as₂ bd₂)) = .ok e env₃ υ ∧ roundEnd id σ env₃ υ jump = .ret v σ' ∧
              ((e = .normal ∧ jump = none) ∨ (e = .ret ∧ jump = some .ret) ∨ (∃ i, e = .exit i ∧ jump = some (.exit i)) ∨ (∃ i, e = .goto i ∧ jump = some (.goto i))) := by
            split at h
            · rename_i env₃ υ hex₃; exact ⟨_, env₃, υ, none, hex₃, h, .inl ⟨rfl, rfl⟩⟩
            · rename_i env₃ υ hex₃; exact ⟨_, env₃, υ, _, hex₃, h, .inr (.inl ⟨rfl, rfl⟩)⟩
            · rename_i i env₃ υ hex₃; exact ⟨_, env₃, υ, _, hex₃, h, .inr (.inr (.inl ⟨i, rfl, rfl⟩))⟩
            · rename_i i env₃ υ hex₃; exact ⟨_, env₃, υ, _, hex₃, h, .inr (.inr (.inr ⟨i, rfl, rfl⟩))⟩
            · cases h
          obtain ⟨e, env₃, υ, jump, hex₃, hre, hjump⟩ := hbody
          obtain ⟨st₃, pend₃, tm₃, nt₃, ps₃, as₃, bd₃, hds, ho₃, rfl, rfl⟩ := roundEnd_ok hre
          have hex' : exec P C n nt assign { tm := tm', ds := [], md := none, rd := true } σ.bare = .ok .normal env τ := hex
          have s1 : StepA σ.bare τ := exec_steps hs n nt assign _ σ.bare τ (by rw [hex']; rfl)
          have s2 : StepA τ (τ.put id (.loop 1 pend₂ tm₂ nt₂ ps₂ as₂ bd₂)) := .put _ _ ho₂
          have s3 : StepA (τ.put id (.loop 1 pend₂ tm₂ nt₂ ps₂ as₂ bd₂)) υ := exec_steps hs n nt body _ _ υ (by rw [hex₃]; rfl)
          have s4 : StepA υ (υ.put id (.loop (bif jump.isNone then 0 else 2) jump tm₃ nt₃ ps₃ as₃ bd₃)) := .put _ _ ho₃
          have hlt := hi.lt ho
          have hk1 : Known D σ.bare (υ.put id (.loop (bif jump.isNone then 0 else 2) jump tm₃ nt₃ ps₃ as₃ bd₃)) := hk.bare
          have hf1 : Free φ σ.bare (υ.put id (.loop (bif jump.isNone then 0 else 2) jump tm₃ nt₃ ps₃ as₃ bd₃)) := hf
          have hD : D id := hk1 id (.inr (mem_addL.2 (.inl rfl))) hlt
          obtain ⟨hR, e0, r, he0, hb0, q1, q2, q3, q4, q5, q6, q7⟩ := hi.at ho hD
          intro e1 he1
          rw [he0] at he1; simp only [Option.some.injEq] at he1; subst he1
          obtain ⟨b1, b2, b3⟩ := bindA_ok ha hb q7 (fun p hp => by rw [q3]; exact hps p hp)
          have hsz : args'.size = r.params.size := by
            have : r.params.toList.length = args'.toList.length := by rw [q4]; exact b1
            simpa using this.symm
          refine ⟨e0.blk, r.fn, (r.params.zip args').foldl (fun tmps (x : Tmp × Value) => tmps.setIfInBounds x.1 x.2) r.tmps, r.assign, r.body, ?_, ?_⟩
          · simp [Instr.yield, run_getLoop hb0, hsz]
          · rw [zip_foldl, q4, q5, q6]
            refine round_of_runs fun cs => ?_
            have hfr : FrmR φ nt { tm := tm', ds := [], md := none, rd := true }
                { tmps := (ps.zip args'.toList).foldl (fun tmps (x : Tmp × Value) => tmps.setIfInBounds x.1 x.2) r.tmps, defers := [] } := ⟨⟨b2.trans q3, b3⟩, .nil⟩
            refine Runs.mono (hx nt assign _ σ.bare _ env τ D φ _ cs w (some e0.blk) false cs hex' hi.bare hfr ⟨rfl, rfl⟩ rfl (hk1.mono (s2.trans (s3.trans s4))) (hf1.mono (s2.trans (s3.trans s4)))) fun e1 a1 cs1 w1 q => ?_
            obtain ⟨φ1, g1, g2, g3, g4, g5⟩ := q
            have := exit_normal g1
            subst this
            have hmd : env.md = none := by
              cases hm : env.md with
              | none => rfl
              | some m => rw [hm] at g3; have := g3.1; cases this
            rw [hmd] at g3
            have hi1 := g5.inv hi.bare s1
            have hlt1 := hi1.lt ho₂
            obtain ⟨_, e2, r2, he2, hb2, t1, t2, t3, t4, t5, t6, t7⟩ := hi1.at ho₂ (.inl hD)
            have hee := g5.le _ _ _ he0
            rw [he2] at hee; simp only [Option.some.injEq] at hee; subst hee
            have p2 : Post R (More D σ.bare) φ1 τ w1 (τ.put id (.loop 1 pend₂ tm₂ nt₂ ps₂ as₂ bd₂)) φ1 (wset w1 e2.blk (.loop { r2 with state := .busy })) :=
              .change hi1 hR hlt1 he2 ⟨hR, e2, { r2 with state := .busy }, he2, wset_same _ _ _ (heap_lt hb2), rfl, t2, t3, t4, t5, t6, t7⟩
            have hi2 := p2.inv hi1 s2
            refine ⟨g3.2, rfl, _, run_beginRound hb2 (stN_ready t1), ?_⟩
            have p12 := g5.trans p2 s1 s2
            have hk2 : Known (More (More D σ.bare) τ) (τ.put id (.loop 1 pend₂ tm₂ nt₂ ps₂ as₂ bd₂)) υ := (Known.then (σ' := τ) (hk1.mono s4)).then
            have hf2 : Free φ1 (τ.put id (.loop 1 pend₂ tm₂ nt₂ ps₂ as₂ bd₂)) υ := (hf1.mono s4).then p12 (s1.trans s2)
            refine Runs.mono (hx nt body env _ e env₃ υ _ φ1 a1 cs _ (some e2.blk) false cs hex₃ hi2 g2 (by rw [hmd]; exact ⟨rfl, rfl⟩) g4 hk2 hf2) fun e' a' cs' w' q => ?_
            obtain ⟨φ3, k1, k2, k3, k4, k5⟩ := q
            have hmd3 : env₃.md = none := by
              cases hm : env₃.md with
              | none => rfl
              | some m => rw [hm] at k3; have := k3.1; cases this
            rw [hmd3] at k3
            refine ⟨k3.2, ?_⟩
            have hi3 := k5.inv hi2 s3
            have hlt3 := hi3.lt ho₃
            obtain ⟨_, e3, r3, he3, hb3, u1, u2, u3, u4, u5, u6, u7⟩ := hi3.at ho₃ (.inl (.inl (.inl hD)))
            have hee := k5.le _ _ _ he2
            rw [he3] at hee; simp only [Option.some.injEq] at hee; subst hee
            have p4 : Post R (More (More (More D σ.bare) τ) (τ.put id (.loop 1 pend₂ tm₂ nt₂ ps₂ as₂ bd₂))) φ3 υ w' (υ.put id (.loop (bif jump.isNone then 0 else 2) jump tm₃ nt₃ ps₃ as₃ bd₃)) φ3
                (wset w' e3.blk (.loop { r3 with state := if jump.isNone then .ready else .done, pending := jump })) :=
              .change hi3 hR hlt3 he3 ⟨hR, e3, _, he3, wset_same _ _ _ (heap_lt hb3), by cases jump <;> rfl, rfl, u3, u4, u5, u6, u7⟩
            have ptot := g5.trans (p2.trans (k5.trans p4 s3 s4) s2 (s3.trans s4)) s1 (s2.trans (s3.trans s4))
            have pout := ptot.outer (s1.trans (s2.trans (s3.trans s4))) hi hf
            have hfin : ∃ v' w'', (Instr.endRound e3.blk jump).run P w' = .ok v' w'' ∧
                (∃ φ' u', Ending.returned v' = .returned u' ∧ VR φ' (.bool jump.isNone) u' ∧ Post R D φ σ w ((υ.put id (.loop (bif jump.isNone then 0 else 2) jump tm₃ nt₃ ps₃ as₃ bd₃)).out σ) φ' w'') :=
              ⟨_, _, run_endRound hb3 jump, φ3, _, rfl, .bool _, pout⟩
            rcases hjump with ⟨rfl, rfl⟩ | ⟨rfl, rfl⟩ | ⟨i, rfl, rfl⟩ | ⟨i, rfl, rfl⟩
            · cases e' <;> simp only [ExitR] at k1; exact hfin
            · cases e' <;> simp only [ExitR] at k1; exact hfin
            · cases e' <;> simp only [ExitR] at k1; subst k1; exact hfin
            · cases e' <;> simp only [ExitR] at k1; subst k1; exact hfin
        · cases h
      · cases h
  · cases h
omit [Val] in
theorem roundA_nopan {ex : Nat → Code → Env → St → XR} {id : Nat} {args : List AV} {σ σ' : St} {c : List (AV × Bool)} (h : roundA ex id args σ = .pan c σ') : False := by
  unfold roundA at h
  simp only [cond_eq_ite] at h
  repeat' split at h
  all_goals first
    | (cases h; done)
    | exact roundEnd_nopan h
end
end Go.Tw
namespace Go.Tw
section
variable [Val]
variable {P : Program} {R : Nat} {C : Cfg}
def HkOk (P : Program) (R : Nat) (C : Cfg) : Prop :=
  ∀ (f : FuncId) (args : List AV) (σ : St) (D : Nat → Prop) (φ : PM) (w : World) (args' : Array Value), Inv R C D φ σ w → VRL φ args args'.toList →
    (∀ v σ', C.hk f args σ = .ret v σ' → Known D σ σ' → Free φ σ σ' → Calls P f args' w fun e w' => ∃ φ' v', e = .returned v' ∧ VR φ' v v' ∧ Post R D φ σ w σ' φ' w') ∧
    (∀ c σ', C.hk f args σ = .pan c σ' → Known D σ σ' → Free φ σ σ' → Calls P f args' w fun e w' => ∃ φ' c', e = .panicked c' ∧ ChainR φ' c c' ∧ Post R D φ σ w σ' φ' w')
theorem callA_next (hs : HkSteps C) (hh : HkOk P R C) {n : Nat} (hx : ExecOk P R C n) : CallOk P R C (callA P C (exec P C n)) := by
  intro cl args σ D φ w args' hi ha
  cases cl with
  | yld id =>
    refine ⟨fun v σ' h hk hf => ?_, fun ch σ' h hk hf => ?_⟩
    · exact roundA_ok hs hx hi ha h hk hf
    · exact (roundA_nopan h).elim
  | fn f =>
    have hhk := hh f args σ D φ w args' hi ha
    have hdc := callD_ok (P := P) (R := R) hs hx
    have hds : ∀ f args m σ, (callD P (exec P C n) f args m σ).steps σ := callD_steps (exec_steps hs n)
    -- by way of the body
    have body : ∀ (r : CR), callA P C (exec P C n) (.fn f) args σ = r → r ≠ .no → C.hk f args σ = .no → ∃ fn c m e env τ, P.funcs[f]? = some fn ∧ fn.body = some c ∧ args.length ≤ fn.ntmps ∧
        exec P C n fn.ntmps c { tm := envOf args 0 .leaf, ds := [], md := none, rd := false } σ.bare = .ok e env τ ∧
        ((e = .ret ∧ m = .returning) ∨ (e = .normal ∧ m = .returning) ∨ (∃ ch, e = .panic ch ∧ m = .panicking ch)) ∧
        (∀ v σ', r = .ret v σ' → ∃ τ1, leaveA P (callD P (exec P C n)) fn env env.ds m τ = .ret v τ1 ∧ σ' = τ1.out σ) ∧
        (∀ ch σ', r = .pan ch σ' → ∃ τ1, leaveA P (callD P (exec P C n)) fn env env.ds m τ = .pan ch τ1 ∧ σ' = τ1.out σ) := by
      intro r h hr hno
      simp only [callA, hno, cond_eq_ite] at h
      split at h
      · exact absurd h.symm hr
      · rename_i fn hfn
        split at h
        · exact absurd h.symm hr
        · rename_i c hb
          split at h
          · rename_i hlen
            have hfin : ∀ (m : AMode) (env : Env) (τ : St), (match leaveA P (callD P (exec P C n)) fn env env.ds m τ with
                | .ret v τ => .ret v (τ.out σ)
                | .pan chain τ => .pan chain (τ.out σ)
                | .no => .no) = r →
                (∀ v σ', r = .ret v σ' → ∃ τ1, leaveA P (callD P (exec P C n)) fn env env.ds m τ = .ret v τ1 ∧ σ' = τ1.out σ) ∧
                (∀ ch σ', r = .pan ch σ' → ∃ τ1, leaveA P (callD P (exec P C n)) fn env env.ds m τ = .pan ch τ1 ∧ σ' = τ1.out σ) := by
              intro m env τ h
              refine ⟨fun v σ' he => ?_, fun ch σ' he => ?_⟩
              · rw [he] at h
                split at h
                · rename_i v1 τ1 hl
                  simp only [CR.ret.injEq] at h
                  obtain ⟨rfl, rfl⟩ := h
                  exact ⟨τ1, hl, rfl⟩
                · cases h
                · cases h
              · rw [he] at h
                split at h
                · cases h
                · rename_i v1 τ1 hl
                  simp only [CR.pan.injEq] at h
                  obtain ⟨rfl, rfl⟩ := h
                  exact ⟨τ1, hl, rfl⟩
                · cases h
            unfold endA at h
            cases hex : exec P C n fn.ntmps c { tm := envOf args 0 .leaf, ds := [], md := none, rd := false } σ.bare with
            | no => rw [hex] at h; exact absurd h.symm hr
            | ok e env τ =>
              rw [hex] at h
              cases e with
              | ret => obtain ⟨q1, q2⟩ := hfin .returning env τ h; exact ⟨fn, c, .returning, _, env, τ, hfn, hb, ble_t hlen, hex, .inl ⟨rfl, rfl⟩, q1, q2⟩
              | normal => obtain ⟨q1, q2⟩ := hfin .returning env τ h; exact ⟨fn, c, .returning, _, env, τ, hfn, hb, ble_t hlen, hex, .inr (.inl ⟨rfl, rfl⟩), q1, q2⟩
              | panic ch => obtain ⟨q1, q2⟩ := hfin (.panicking ch) env τ h; exact ⟨fn, c, .panicking ch, _, env, τ, hfn, hb, ble_t hlen, hex, .inr (.inr ⟨ch, rfl, rfl⟩), q1, q2⟩
              | exit i => exact absurd h.symm hr
              | goto i => exact absurd h.symm hr
          · exact absurd h.symm hr
    -- what the body's end leaves
    have go : ∀ (fn : Func) (c : Code) (m : AMode) (e : AExit) (env : Env) (τ τ1 : St) (Q : Ending → World → Prop), P.funcs[f]? = some fn → fn.body = some c → args.length ≤ fn.ntmps →
        exec P C n fn.ntmps c { tm := envOf args 0 .leaf, ds := [], md := none, rd := false } σ.bare = .ok e env τ →
        ((e = .ret ∧ m = .returning) ∨ (e = .normal ∧ m = .returning) ∨ (∃ ch, e = .panic ch ∧ m = .panicking ch)) → StepA τ τ1 → Known D σ (τ1.out σ) → Free φ σ (τ1.out σ) →
        (∀ (a' : Act) (u : FrameMode) (φ1 : PM) (w1 : World), Post R D φ σ.bare w τ φ1 w1 → Inv R C (More D σ.bare) φ1 τ w1 → FrmR φ1 fn.ntmps env a' → ModeR φ1 m u → Known (More D σ.bare) τ τ1 → Free φ1 τ τ1 →
          LeavesInM Fence.wide 0 P fn a'.tmps Q a'.defers u w1) → Calls P f args' w Q := by
      intro fn c m e env τ τ1 Q hfn hb hlen hex hee s2 hk hf hQ
      have s1 : StepA σ.bare τ := exec_steps hs n fn.ntmps c _ σ.bare τ (by rw [hex]; rfl)
      have hk1 : Known D σ.bare τ1 := hk.bare
      have hf1 : Free φ σ.bare τ1 := hf
      refine calls_of_runs hfn hb fun cs => ?_
      refine Runs.mono (hx fn.ntmps c _ σ.bare e env τ D φ _ cs w none false cs hex hi.bare (enter_env ha hlen none false) ⟨rfl, rfl⟩ rfl (hk1.mono s2) (hf1.mono s2)) fun e1 a1 cs1 w1 q => ?_
      obtain ⟨φ1, g1, g2, g3, g4, g5⟩ := q
      have hmd : env.md = none := by
        cases hm : env.md with
        | none => rfl
        | some m => rw [hm] at g3; have := g3.1; cases this
      rw [hmd] at g3
      refine ⟨g3.2, ?_⟩
      have hgo := fun (u : FrameMode) (hm : ModeR φ1 m u) => hQ a1 u φ1 w1 g5 (g5.inv hi.bare s1) g2 hm hk1.then (hf1.then g5 s1)
      rcases hee with ⟨rfl, rfl⟩ | ⟨rfl, rfl⟩ | ⟨ch, rfl, rfl⟩
      · cases e1 <;> simp only [ExitR] at g1; exact hgo .returning trivial
      · cases e1 <;> simp only [ExitR] at g1; exact hgo .returning trivial
      · cases e1 <;> simp only [ExitR] at g1; exact hgo (.panicking _) g1
    refine ⟨fun v σ' h hk hf => ?_, fun ch σ' h hk hf => ?_⟩
    · show Calls P f args' w _
      cases hno : C.hk f args σ with
      | ret v1 τ1 =>
        have : callA P C (exec P C n) (.fn f) args σ = .ret v1 τ1 := by simp only [callA, hno]
        rw [this] at h; simp only [CR.ret.injEq] at h
        obtain ⟨rfl, rfl⟩ := h
        exact hhk.1 _ _ hno hk hf
      | pan c1 τ1 =>
        have : callA P C (exec P C n) (.fn f) args σ = .pan c1 τ1 := by simp only [callA, hno]
        rw [this] at h; cases h
      | no =>
        obtain ⟨fn, c, m, e, env, τ, hfn, hb, hlen, hex, hee, hr1, _⟩ := body _ h (by simp) hno
        obtain ⟨τ1, hl, rfl⟩ := hr1 v σ' rfl
        have s1 : StepA σ.bare τ := exec_steps hs n fn.ntmps c _ σ.bare τ (by rw [hex]; rfl)
        have s2 : StepA τ τ1 := leaveA_steps hds _ _ _ τ1 (by rw [hl]; rfl)
        refine go fn c m e env τ τ1 _ hfn hb hlen hex hee s2 hk hf fun a' u φ1 w1 hp hi1 hfr hm hk1 hf1 => ?_
        exact (leaveA_ok hdc hds env.ds a'.defers m u τ (More D σ.bare) φ1 w1 hi1 hfr.ev hfr.dfs hm).1 v τ1 hl hk1 hf1 _
          fun φ' v' w' hv hp2 => ⟨φ', v', rfl, hv, (hp.trans hp2 s1 s2).outer (s1.trans s2) hi hf⟩
    · show Calls P f args' w _
      cases hno : C.hk f args σ with
      | ret v1 τ1 =>
        have : callA P C (exec P C n) (.fn f) args σ = .ret v1 τ1 := by simp only [callA, hno]
        rw [this] at h; cases h
      | pan c1 τ1 =>
        have : callA P C (exec P C n) (.fn f) args σ = .pan c1 τ1 := by simp only [callA, hno]
        rw [this] at h; simp only [CR.pan.injEq] at h
        obtain ⟨rfl, rfl⟩ := h
        exact hhk.2 _ _ hno hk hf
      | no =>
        obtain ⟨fn, c, m, e, env, τ, hfn, hb, hlen, hex, hee, _, hr2⟩ := body _ h (by simp) hno
        obtain ⟨τ1, hl, rfl⟩ := hr2 ch σ' rfl
        have s1 : StepA σ.bare τ := exec_steps hs n fn.ntmps c _ σ.bare τ (by rw [hex]; rfl)
        have s2 : StepA τ τ1 := leaveA_steps hds _ _ _ τ1 (by rw [hl]; rfl)
        refine go fn c m e env τ τ1 _ hfn hb hlen hex hee s2 hk hf fun a' u φ1 w1 hp hi1 hfr hm hk1 hf1 => ?_
        exact (leaveA_ok hdc hds env.ds a'.defers m u τ (More D σ.bare) φ1 w1 hi1 hfr.ev hfr.dfs hm).2 ch τ1 hl hk1 hf1 _
          fun φ' v' w' hv hp2 => ⟨φ', v', rfl, hv, (hp.trans hp2 s1 s2).outer (s1.trans s2) hi hf⟩
theorem exec_next (hs : HkSteps C) (hm : P.follows .mixedOrders = true) {n : Nat} (hx : ExecOk P R C n) (hl : LoopOk P R C (n + 1))
    (hc : CallOk P R C (callA P C (exec P C n))) : ExecOk P R C (n + 1) := by
  have hcs : CallSteps (callA P C (exec P C n)) := callA_steps hs (exec_steps hs n)
  intro nt c env σ e env' σ' D φ a cs w ro dk base h hi he hmd hrd hk hf
  cases c with
  | skip =>
    simp only [exec, XR.ok.injEq] at h
    obtain ⟨rfl, rfl, rfl⟩ := h
    exact runs_skip ⟨φ, trivial, he, hmd, hrd, .same hi rfl rfl rfl⟩
  | label l =>
    simp only [exec, XR.ok.injEq] at h
    obtain ⟨rfl, rfl, rfl⟩ := h
    exact runs_label ⟨φ, trivial, he, hmd, hrd, .same hi rfl rfl rfl⟩
  | ret =>
    simp only [exec, XR.ok.injEq] at h
    obtain ⟨rfl, rfl, rfl⟩ := h
    exact runs_ret ⟨φ, trivial, he, hmd, hrd, .same hi rfl rfl rfl⟩
  | exit id =>
    simp only [exec, XR.ok.injEq] at h
    obtain ⟨rfl, rfl, rfl⟩ := h
    exact runs_exit ⟨φ, rfl, he, hmd, hrd, .same hi rfl rfl rfl⟩
  | goto l =>
    simp only [exec, XR.ok.injEq] at h
    obtain ⟨rfl, rfl, rfl⟩ := h
    exact runs_goto ⟨φ, rfl, he, hmd, hrd, .same hi rfl rfl rfl⟩
  | seq x y =>
    simp only [exec] at h
    split at h
    · rename_i env1 σ1 h1
      have s1 : StepA σ σ1 := exec_steps hs n nt x env σ σ1 (by rw [h1]; rfl)
      have s2 : StepA σ1 σ' := exec_steps hs n nt y env1 σ1 σ' (by rw [h]; rfl)
      refine runs_seq (Runs.mono (hx nt x env σ _ _ _ D φ a cs w ro dk base h1 hi he hmd hrd (hk.mono s2) (hf.mono s2)) fun e1 a1 cs1 w1 q => ?_)
      obtain ⟨φ1, g1, g2, g3, g4, g5⟩ := q
      have := exit_normal g1
      subst this
      exact Runs.mono (hx nt y env1 σ1 e env' σ' (More D σ) φ1 a1 cs1 w1 ro dk base h (g5.inv hi s1) g2 g3 g4 hk.then (hf.then g5 s1)) fun e2 a2 cs2 w2 q => q.chain g5 s1 s2
    · rename_i hne
      refine runs_seq (Runs.mono (hx nt x env σ e env' σ' D φ a cs w ro dk base h hi he hmd hrd hk hf) fun e1 a1 cs1 w1 q => ?_)
      have hnn : e1 ≠ .normal := by
        obtain ⟨φ1, g1, _⟩ := q
        refine exit_not_normal g1 fun h' => ?_
        subst h'
        exact hne _ _ h
      cases e1 with
      | normal => exact absurd rfl hnn
      | _ => exact q
  | cond x y z =>
    simp only [exec] at h
    split at h
    · rename_i hv
      have hb := evalO_ok he.ev hi hv
      have hb : a.eval x = .bool true := by generalize a.eval x = v at hb; cases hb; rfl
      exact runs_cond hb (hx nt y env σ e env' σ' D φ a cs w ro dk base h hi he hmd hrd hk hf)
    · rename_i hv
      have hb := evalO_ok he.ev hi hv
      have hb : a.eval x = .bool false := by generalize a.eval x = v at hb; cases hb; rfl
      exact runs_cond hb (hx nt z env σ e env' σ' D φ a cs w ro dk base h hi he hmd hrd hk hf)
    · cases h
  | block id x =>
    simp only [exec] at h
    split at h
    · rename_i j env1 σ1 h1
      simp only [cond_eq_ite] at h
      split at h
      · rename_i hj
        simp only [XR.ok.injEq] at h
        obtain ⟨rfl, rfl, rfl⟩ := h
        refine runs_block (Runs.mono (hx nt x env σ _ _ _ D φ a cs w ro dk base h1 hi he hmd hrd hk hf) fun e1 a1 cs1 w1 q => ?_)
        obtain ⟨φ1, g1, g2⟩ := q
        cases e1 <;> simp only [ExitR] at g1
        subst g1
        simp only [inBlockS, beq_t hj, if_true]
        exact ⟨φ1, trivial, g2⟩
      · rename_i hj
        simp only [XR.ok.injEq] at h
        obtain ⟨rfl, rfl, rfl⟩ := h
        refine runs_block (Runs.mono (hx nt x env σ _ _ _ D φ a cs w ro dk base h1 hi he hmd hrd hk hf) fun e1 a1 cs1 w1 q => ?_)
        obtain ⟨φ1, g1, g2⟩ := q
        cases e1 <;> simp only [ExitR] at g1
        subst g1
        have : j ≠ id := beq_f (Bool.not_eq_true _ ▸ hj)
        simp only [inBlockS, this, if_false]
        exact ⟨φ1, rfl, g2⟩
    · rename_i hne
      refine runs_block (Runs.mono (hx nt x env σ e env' σ' D φ a cs w ro dk base h hi he hmd hrd hk hf) fun e1 a1 cs1 w1 q => ?_)
      cases e1 with
      | exit j =>
        exfalso
        obtain ⟨φ1, g1, _⟩ := q
        cases e <;> simp only [ExitR] at g1
        exact hne _ _ _ h
      | _ => exact q
  | loop x =>
    intro b k hb hkd
    obtain ⟨e1, a1, cs1, w1, q, harr⟩ := hl nt x env σ e env' σ' D φ a cs w ro dk base h hi he hmd hrd hk hf b k hb hkd
    exact ⟨e1, a1, cs1, w1, q, .of_steps (one_wide stepR_loop) harr⟩
  | scope x =>
    simp only [exec] at h
    intro b k hb hkd
    cases hr : exec P C n nt x env σ with
    | no => rw [hr] at h; cases n <;> simp [scopeA] at h
    | ok e0 env0 σ0 =>
      rw [hr] at h
      have s0 : StepA σ σ0 := exec_steps hs n nt x env σ σ0 (by rw [hr]; rfl)
      have s2 : StepA σ0 σ' := scopeA_steps (fun c env σ => exec_steps hs n nt c env σ) n (.ok e0 env0 σ0) (xsteps_ok (StepA.refl σ0)) σ' (by rw [h]; rfl)
      obtain ⟨e1, a1, cs1, w1, q, harr⟩ := hx nt x env σ e0 env0 σ0 D φ a cs w ro dk base hr hi he hmd hrd (hk.mono s2) (hf.mono s2) b (.inScope x :: k) hb hkd
      obtain ⟨e2, a2, cs2, w2, q2, harr2⟩ := scope_ok hs hx hb hkd n D φ σ w e0 env0 σ0 e1 a1 cs1 w1 e env' σ' h hi s0 hk hf q harr
      exact ⟨e2, a2, cs2, w2, q2, .of_steps (one_wide stepR_scope) harr2⟩
  | region id ops d =>
    cases d with
    | false =>
      simp only [exec] at h
      refine runs_region ?_
      rw [List.range_eq_range', ← Array.length_toList]
      exact runOps_ok hc hcs _ 0 env σ a cs w φ D e env' σ' h (by simp) hi he hmd hrd hk hf _ fun φ' e' a' cs' w' h1 h2 h3 h4 h5 => ⟨φ', h1, h2, h3, h4, h5⟩
    | true =>
      simp only [exec] at h
      exact runs_of_wpIn (drawA_ok hc hcs hm h hi he hk hf fun φ' e' a' w' h1 h2 h3 h4 h5 => ⟨φ', h1, h2, h3 ▸ hmd.mono h5.le, h4.trans hrd, h5⟩)
  | rangeFunc f ps x y => exact range_ok hs hc h hi he hmd hrd hk hf
  | refuse m => simp [exec] at h
theorem exec_all (hs : HkSteps C) (hh : HkOk P R C) (hm : P.follows .mixedOrders = true) : ∀ n, ExecOk P R C n ∧ LoopOk P R C n := by
  intro n
  induction n with
  | zero => exact ⟨fun nt c env σ e env' σ' D φ a cs w ro dk base h => by simp [exec] at h, fun nt c env σ e env' σ' D φ a cs w ro dk base h => by simp [exec] at h⟩
  | succ n ih =>
    have hl := loop_next hs ih.1 (callA_next hs hh ih.1) ih.2
    exact ⟨exec_next hs hm ih.1 hl (callA_next hs hh ih.1), hl⟩
theorem callN_ok (hs : HkSteps C) (hh : HkOk P R C) (hm : P.follows .mixedOrders = true) (n : Nat) : CallOk P R C (callA P C (exec P C n)) :=
  callA_next hs hh (exec_all hs hh hm n).1
theorem callN_calls (hs : HkSteps C) (hh : HkOk P R C) (hm : P.follows .mixedOrders = true) {n f : Nat} {args : List AV} {σ σ' : St} {v : AV} {D : Nat → Prop} {φ : PM} {w : World} {args' : Array Value}
    (h : callN P C n f args σ = .ret v σ') (hi : Inv R C D φ σ w) (ha : VRL φ args args'.toList) (hk : Known D σ σ') (hf : Free φ σ σ') :
    Calls P f args' w fun e w' => ∃ φ' v', e = .returned v' ∧ VR φ' v v' ∧ Post R D φ σ w σ' φ' w' :=
  (callN_ok hs hh hm n (.fn f) args σ D φ w args' hi ha).1 v σ' h hk hf
end
end Go.Tw
namespace Go.Tw
open Go.ChangeShapes Go.RowKit
def retTrue : CR → Bool
  | .ret (.bool b) _ => b
  | _ => false
abbrev noVal : Val := { num := fun _ => 0 }
theorem Post.below [Val] {D : Nat → Prop} {σ σ' : St} {w w' : World} {φ' : PM} {R : Nat} (h : Post R D (fun _ _ => none) σ w σ' φ' w') : Below w.heap.size w w' :=
  ⟨h.frm.os, h.frm.tape, h.frm.out, h.frm.size, fun k hk => h.frm.keep k hk fun _ _ _ _ he => (by cases he)⟩
end Go.Tw
