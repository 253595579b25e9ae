/-
  A part of the proof that the abstract evaluator is sound for the model's machine. Conditions: those of each theorem, as it states them.
-/
import Derived.Test.YtbbnjiceenjhcaaGreatDoorTwSound
set_option linter.all false
namespace Go.Tw

/-! What a loop over a map may come to, in whatever order: each outcome is one of the join's. -/

theorem sameC_eq : ∀ {a b : List (AV × Bool)}, sameC a b = true → a = b := by
  intro a
  induction a with
  | nil => intro b h; cases b <;> simp [sameC] at h; rfl
  | cons x a ih =>
    intro b h
    obtain ⟨v, c⟩ := x
    cases b with
    | nil => simp [sameC] at h
    | cons y b =>
      obtain ⟨u, d⟩ := y
      simp only [sameC, Bool.and_eq_true] at h
      rw [AV.same_eq h.1.1, boolB_eq h.1.2, ih h.2]
theorem sameD_eq : ∀ {a b : List ADef}, sameD a b = true → a = b := by
  intro a
  induction a with
  | nil => intro b h; cases b <;> simp [sameD] at h; rfl
  | cons x a ih =>
    intro b h
    cases b with
    | nil => cases x <;> simp [sameD] at h
    | cons y b =>
      cases x <;> cases y <;> simp only [sameD, Bool.and_eq_true, Bool.false_eq_true] at h
      · rw [beq_t h.1.1, sameL_eq h.1.2, ih h.2]
      · rw [beq_t h.1, ih h.2]
theorem sameM_eq {a b : Option AMode} (h : sameM a b = true) : a = b := by
  cases a with
  | none => cases b <;> simp [sameM] at h; rfl
  | some a =>
    cases b with
    | none => cases a <;> simp [sameM] at h
    | some b =>
      cases a <;> cases b <;> simp only [sameM, Bool.false_eq_true] at h
      · rfl
      · rw [sameC_eq h]
theorem sameX_eq {a b : AExit} (h : sameX a b = true) : a = b := by
  cases a <;> cases b <;> simp only [sameX, Bool.false_eq_true] at h
  · rfl
  · rw [beq_t h]
  · rw [beq_t h]
  · rfl
  · rw [sameC_eq h]

/-- One outcome says at least as much as another one. -/
structure Less (σ : St) (e : AExit) (env : Env) (τ : St) (e' : AExit) (env' : Env) (τ' : St) : Prop where
  ex : e' = e
  tm : ∀ t v, env'.tm.get t = some v → env.tm.get t = some v
  ds : env'.ds = env.ds
  md : env'.md = env.md
  rd : env'.rd = env.rd
  next : τ.next ≤ τ'.next
  lrd : ∀ i ∈ τ.rd, i ∈ τ'.rd
  lwr : ∀ i ∈ τ.wr, i ∈ τ'.wr
  heap : ∀ i o, τ'.heap.get i = some o → o = .dead ∨ τ.heap.get i = some o
  own : ∀ i ∈ τ'.wr, i ∈ τ.wr ∨ ownB σ i = true

theorem Less.refl (σ : St) (e : AExit) (env : Env) (τ : St) : Less σ e env τ e env τ :=
  ⟨rfl, fun _ _ h => h, rfl, rfl, rfl, Nat.le_refl _, fun _ h => h, fun _ h => h, fun _ _ h => .inr h, fun _ h => .inl h⟩
theorem Less.trans {σ : St} {e1 e2 e3 : AExit} {v1 v2 v3 : Env} {τ1 τ2 τ3 : St} (h : Less σ e1 v1 τ1 e2 v2 τ2) (k : Less σ e2 v2 τ2 e3 v3 τ3) : Less σ e1 v1 τ1 e3 v3 τ3 :=
  ⟨k.ex.trans h.ex, fun t v x => h.tm t v (k.tm t v x), k.ds.trans h.ds, k.md.trans h.md, k.rd.trans h.rd, Nat.le_trans h.next k.next, fun i hi => k.lrd i (h.lrd i hi), fun i hi => k.lwr i (h.lwr i hi),
    fun i o x => by
      rcases k.heap i o x with y | y
      · exact .inl y
      · exact h.heap i o y,
    fun i hi => by
      rcases k.own i hi with y | y
      · exact h.own i y
      · exact .inr y⟩

theorem meetH_same (other : T Ob) : ∀ (l : List Nat) (h : T Ob) (j : Nat), (j ∈ l ∨ h.get j = none ∨ h.get j = some .dead ∨ h.get j = other.get j) →
    ∀ o, (meetH other l h).get j = some o → o = .dead ∨ other.get j = some o := by
  intro l
  induction l with
  | nil =>
    intro h j hj o ho
    have ho : h.get j = some o := ho
    rcases hj with hj | hj | hj | hj
    · cases hj
    · rw [hj] at ho; cases ho
    · rw [hj] at ho; cases ho; exact .inl rfl
    · rw [← hj]; exact .inr ho
  | cons i l ih =>
    intro h j hj o ho
    unfold meetH at ho
    refine ih _ j ?_ o ho
    by_cases e : j = i
    · subst e
      right
      split
      · rename_i a b ha hb
        rw [cond_eq_ite]
        split
        · rename_i hs
          rw [ha, hb, Ob.same_eq hs]
          exact .inr (.inr rfl)
        · exact .inr (.inl (T.get_set_same _ _ _))
      · exact .inr (.inl (T.get_set_same _ _ _))
      · rename_i hn; exact .inl hn
    · have hset : ∀ x, (h.set i x).get j = h.get j := fun x => T.get_set_ne _ _ e
      have hk : j ∈ l ∨ h.get j = none ∨ h.get j = some .dead ∨ h.get j = other.get j := by
        rcases hj with hj | hj
        · rcases List.mem_cons.1 hj with hj | hj
          · exact absurd hj e
          · exact .inl hj
        · exact .inr hj
      split
      · rw [cond_eq_ite]
        split
        · exact hk
        · rw [hset]; exact hk
      · rw [hset]; exact hk
      · exact hk

theorem join2_less {σ : St} {e1 e2 e : AExit} {v1 v2 v : Env} {τ1 τ2 τ : St} (h : join2 σ (.ok e1 v1 τ1) (.ok e2 v2 τ2) = .ok e v τ) (s1 : StepA σ τ1) (s2 : StepA σ τ2)
    (hd : ∀ i, σ.next ≤ i → σ.heap.get i = none) : Less σ e1 v1 τ1 e v τ ∧ Less σ e2 v2 τ2 e v τ := by
  unfold join2 at h
  dsimp only at h
  rw [cond_eq_ite] at h
  split at h
  · rename_i hb
    simp only [Bool.and_eq_true] at hb
    obtain ⟨⟨⟨⟨⟨b1, b2⟩, b3⟩, b4⟩, b5⟩, b6⟩ := hb
    have b1 := sameX_eq b1
    have b2 := sameD_eq b2
    have b3 := sameM_eq b3
    have b4 := boolB_eq b4
    simp only [XR.ok.injEq] at h
    obtain ⟨rfl, rfl, rfl⟩ := h
    have hlwr : ∀ i, i ∈ (meetS σ τ1 τ2).wr → (i ∈ τ1.wr ∨ i ∈ τ2.wr) := fun i hi => List.mem_append.1 hi
    refine ⟨{
      ex := rfl
      tm := fun t u hu => (T.get_meet _ _ _ _ hu).1
      ds := rfl
      md := rfl
      rd := rfl
      next := Nat.le_max_left _ _
      lrd := fun i hi => List.mem_append.2 (.inl hi)
      lwr := fun i hi => List.mem_append.2 (.inl hi)
      heap := fun i o ho => by
        rcases meetS_heap σ τ1 τ2 i with x | ⟨_, _, x⟩
        · rw [x] at ho; exact .inr ho
        · rw [x] at ho; cases ho; exact .inl rfl
      own := fun i hi => (hlwr i hi).imp id fun x => List.all_eq_true.1 b6 i x }, {
      ex := b1
      tm := fun t u hu => by
        obtain ⟨_, b, hb1, hb2⟩ := T.get_meet _ _ _ _ hu
        rw [AV.same_eq hb2]; exact hb1
      ds := b2
      md := b3
      rd := b4
      next := Nat.le_max_right _ _
      lrd := fun i hi => List.mem_append.2 (.inr hi)
      lwr := fun i hi => List.mem_append.2 (.inr hi)
      heap := fun i o ho => ?_
      own := fun i hi => (hlwr i hi).symm.imp id fun x => List.all_eq_true.1 b5 i x }⟩
    rcases meetS_heap σ τ1 τ2 i with x | ⟨_, _, x⟩
    · have h1 : τ1.heap.get i = some o := by rw [← x]; exact ho
      have hlt : i < τ1.next := by
        rcases Nat.lt_or_ge i τ1.next with y | y
        · exact y
        · rw [s1.dom hd i y] at h1; cases h1
      have e : (meetS σ τ1 τ2).heap = killN σ.next (Nat.max τ1.next τ2.next - σ.next) σ.next (meetH τ2.heap τ2.wr (meetH τ2.heap τ1.wr τ1.heap)) := rfl
      by_cases hn : σ.next ≤ i
      · rw [e] at ho
        have hmx : τ1.next ≤ Nat.max τ1.next τ2.next := Nat.le_max_left _ _
        rcases killN_gone (n := σ.next) (k := Nat.max τ1.next τ2.next - σ.next) (i := σ.next) (h := meetH τ2.heap τ2.wr (meetH τ2.heap τ1.wr τ1.heap)) (j := i) hn (by omega) hn with y | y
        · rw [y] at ho; cases ho
        · rw [y] at ho; cases ho; exact .inl rfl
      · have hlt' : i < σ.next := by omega
        by_cases hw1 : i ∈ τ1.wr
        · have h3 := meetH_same τ2.heap τ1.wr τ1.heap i (.inl hw1)
          have h4 := meetH_get τ2.heap τ2.wr (meetH τ2.heap τ1.wr τ1.heap) i
          rcases killN_killed σ.next (Nat.max τ1.next τ2.next - σ.next) σ.next (meetH τ2.heap τ2.wr (meetH τ2.heap τ1.wr τ1.heap)) i with y | ⟨y, _⟩
          · rw [e, y] at ho
            rcases h4 with z | ⟨_, _, z⟩
            · rw [z] at ho; exact h3 o ho
            · rw [z] at ho; cases ho; exact .inl rfl
          · omega
        · by_cases hw2 : i ∈ τ2.wr
          · have h3 := meetH_same τ2.heap τ2.wr (meetH τ2.heap τ1.wr τ1.heap) i (.inl hw2)
            rcases killN_killed σ.next (Nat.max τ1.next τ2.next - σ.next) σ.next (meetH τ2.heap τ2.wr (meetH τ2.heap τ1.wr τ1.heap)) i with y | ⟨y, _⟩
            · rw [e, y] at ho; exact h3 o ho
            · omega
          · right
            rw [s2.keep i hlt' hw2, ← s1.keep i hlt' hw1]
            exact h1
    · rw [x] at ho; cases ho; exact .inl rfl
  · cases h

theorem joinX_less {σ : St} (hd : ∀ i, σ.next ≤ i → σ.heap.get i = none) : ∀ {l : List XR} {e : AExit} {v : Env} {τ : St}, joinX σ l = .ok e v τ → (∀ r ∈ l, r.steps σ) →
    ∀ r ∈ l, ∃ e1 v1 τ1, r = .ok e1 v1 τ1 ∧ Less σ e1 v1 τ1 e v τ := by
  intro l
  induction l with
  | nil => intro e v τ h; cases h
  | cons r l ih =>
    intro e v τ h hs q hq
    cases l with
    | nil =>
      have h : r = .ok e v τ := h
      simp only [List.mem_singleton] at hq
      subst hq
      exact ⟨e, v, τ, h, .refl _ _ _ _⟩
    | cons s l =>
      have h : join2 σ r (joinX σ (s :: l)) = .ok e v τ := h
      cases r with
      | no => cases h
      | ok e1 v1 τ1 =>
        cases hj : joinX σ (s :: l) with
        | no => rw [hj] at h; cases h
        | ok e2 v2 τ2 =>
          rw [hj] at h
          have s1 : StepA σ τ1 := hs (.ok e1 v1 τ1) (by simp) τ1 rfl
          have s2 : StepA σ τ2 := joinX_steps (fun r hr => hs r (List.mem_cons_of_mem _ hr)) τ2 (by rw [hj]; rfl)
          obtain ⟨k1, k2⟩ := join2_less h s1 s2 hd
          rcases List.mem_cons.1 hq with rfl | hq
          · exact ⟨e1, v1, τ1, rfl, k1⟩
          · obtain ⟨e3, v3, τ3, g1, g2⟩ := ih hj (fun r hr => hs r (List.mem_cons_of_mem _ hr)) q hq
            exact ⟨e3, v3, τ3, g1, g2.trans k2⟩

section
variable [Val]
variable {P : Program} {R : Nat} {C : Cfg} {D : Nat → Prop} {φ φ' : PM} {σ τ τ' : St} {w w' : World} {e e' : AExit} {env env' : Env}

theorem own_low (hi : Inv R C D φ σ w) {i : Nat} (h : ownB σ i = true) (hk : i < σ.next → D i) : R ≤ i := by
  unfold ownB at h
  rw [cond_eq_ite] at h
  split at h
  · rename_i hb
    exact Nat.le_trans hi.low (ble_t hb)
  · rename_i hb
    have hlt : i < σ.next := by
      rcases Nat.lt_or_ge i σ.next with x | x
      · exact x
      · exact absurd (Nat.ble_eq_true_of_le x) hb
    have hr := hi.rep i (hk hlt) hlt
    split at h
    · cases h
    · cases h
    · rename_i o n1 n2 ho
      rw [ho] at hr
      cases o with
      | ro c => exact absurd rfl (n1 c)
      | dead => exact absurd rfl n2
      | box => exact hr.1
      | arr => exact hr.1
      | map => exact hr.1
      | iter => exact hr.1
      | miter => exact hr.1
      | dfr => exact hr.1
      | loop => exact hr.1
    · cases h

theorem Post.less (hi : Inv R C D φ σ w) (h : Post R D φ σ w τ φ' w') (hl : Less σ e env τ e' env' τ') (hk : Known D σ τ') (s : StepA σ τ) : Post R D φ σ w τ' φ' w' where
  le := h.le
  grow := fun i h1 h2 v => h.grow i (by
      rcases h1 with h1 | h1
      · exact .inl fun x => h1 (hl.lwr i x)
      · exact .inr (Nat.le_trans hl.next h1)) (fun x => h2 ⟨x.1, Nat.lt_of_lt_of_le x.2 hl.next⟩) v
  wrR := fun i hi' => by
    rcases hl.own i hi' with x | x
    · exact h.wrR i x
    · exact .inr (own_low hi x fun y => hk i (.inr hi') y)
  wf := h.wf
  blk := h.blk
  rep := fun i hi' => by
    cases ho : τ'.heap.get i with
    | none => trivial
    | some o =>
      rcases hl.heap i o ho with x | x
      · subst x; trivial
      · rw [← x]
        refine h.rep i ?_
        rcases hi' with y | ⟨y, _⟩
        · exact .inl y
        · refine .inr ⟨y, ?_⟩
          rcases Nat.lt_or_ge i τ.next with z | z
          · exact z
          · rw [s.dom hi.dom i z] at x; cases x
  frm := ⟨h.frm.size, fun b hb hn => h.frm.keep b hb fun i hi' => hn i (hl.lwr i hi'), h.frm.os, h.frm.out, h.frm.tape⟩
end
end Go.Tw
