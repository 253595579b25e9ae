/-
  A part of the proof that the abstract evaluator is sound for the model's machine. Conditions: those of each theorem, as it states them.
-/
import Derived.Test.YtbbnjiceenjhcaaGreatDoorTwMonoX
set_option linter.all false
namespace Go.Tw

/-- One operation comes before another one. -/
inductive Path (ops : Array Oper) : Nat → Nat → Prop
  | one {j : Nat} {o : Oper} {e : Edge} (h : ops[j]? = some o) (he : e ∈ o.after) (hb : Region.binds .any e = true) : Path ops j e.on
  | step {j i : Nat} {o : Oper} {e : Edge} (h : ops[j]? = some o) (he : e ∈ o.after) (hb : Region.binds .any e = true) (p : Path ops e.on i) : Path ops j i

theorem bitsOf_spec {acc : Array Nat} {i : Nat} : ∀ {l : List Edge}, (bitsOf acc l).testBit i = true → ∃ e ∈ l, Region.binds .any e = true ∧ (e.on = i ∨ (acc.getD e.on 0).testBit i = true) := by
  intro l
  induction l with
  | nil => intro h; simp [bitsOf] at h
  | cons e l ih =>
    intro h
    unfold bitsOf at h
    split at h
    · rename_i hb
      rw [Nat.testBit_or, Nat.testBit_or, Bool.or_eq_true, Bool.or_eq_true] at h
      rcases h with (h | h) | h
      · rw [Nat.testBit_two_pow] at h
        exact ⟨e, by simp, hb, .inl (by simpa using h)⟩
      · exact ⟨e, by simp, hb, .inr h⟩
      · obtain ⟨e', h1, h2⟩ := ih h
        exact ⟨e', by simp [h1], h2⟩
    · obtain ⟨e', h1, h2⟩ := ih h
      exact ⟨e', by simp [h1], h2⟩

theorem befF_spec {ops : Array Oper} : ∀ (l : List Oper) (acc : Array Nat), (∀ j, l[j]? = ops[acc.size + j]?) → (∀ j i, (acc.getD j 0).testBit i = true → Path ops j i) →
    ∀ j i, ((befF l acc).getD j 0).testBit i = true → Path ops j i := by
  intro l
  induction l with
  | nil => intro acc _ h j i hb; exact h j i hb
  | cons o l ih =>
    intro acc hl h j i hb
    refine ih (acc.push (bitsOf acc o.after.toList)) (fun j => ?_) (fun j i hb => ?_) j i hb
    · have := hl (j + 1)
      simpa [Nat.add_assoc, Nat.add_comm 1 j] using this
    · by_cases hj : j < acc.size
      · refine h j i ?_
        simpa [Array.getD_eq_getD_getElem?, Array.getElem?_push, Nat.ne_of_lt hj] using hb
      · by_cases hj2 : j = acc.size
        · subst hj2
          have hb2 : (bitsOf acc o.after.toList).testBit i = true := by
            simpa [Array.getD_eq_getD_getElem?, Array.getElem?_push] using hb
          obtain ⟨e, h1, h2, h3⟩ := bitsOf_spec hb2
          have ho : ops[acc.size]? = some o := by have := hl 0; simpa using this.symm
          rcases h3 with rfl | h3
          · exact .one ho (by simpa using h1) h2
          · exact .step ho (by simpa using h1) h2 (h _ _ h3)
        · have : ((acc.push (bitsOf acc o.after.toList)).getD j 0) = 0 := by
            rw [Array.getD_eq_getD_getElem?, Array.getElem?_eq_none (by simp; omega)]; rfl
          rw [this] at hb; simp at hb

theorem befOf_spec {ops : Array Oper} {j i : Nat} (h : ((befOf ops).getD j 0).testBit i = true) : Path ops j i :=
  befF_spec ops.toList #[] (fun j => by simp) (fun j i hb => by simp at hb) j i h

theorem orderedB_spec {ops : Array Oper} {i j : Nat} (h : orderedB (befOf ops) i j = true) : i = j ∨ Path ops i j ∨ Path ops j i := by
  unfold orderedB at h
  rw [Bool.or_eq_true, Bool.or_eq_true] at h
  rcases h with (h | h) | h
  · exact .inl (beq_t h)
  · exact .inr (.inl (befOf_spec h))
  · exact .inr (.inr (befOf_spec h))

/-- What has been done is closed under what comes before. -/
def Closed (ops : Array Oper) (listed : Array Bool) : Prop :=
  ∀ j o, listed.getD j false = true → ops[j]? = some o → ∀ e ∈ o.after, Region.binds .any e = true → listed.getD e.on false = true

theorem Closed.path {ops : Array Oper} {listed : Array Bool} (h : Closed ops listed) {j i : Nat} (p : Path ops j i) : listed.getD j false = true → listed.getD i false = true := by
  induction p with
  | one ho he hb => exact fun hj => h _ _ hj ho _ he hb
  | step ho he hb _ ih => exact fun hj => ih (h _ _ hj ho _ he hb)

theorem onlyT_spec {env : T AV} : ∀ {l : List Tmp} {m : T AV} {t : Tmp} {v : AV}, (onlyT env l m).get t = some v → (t ∈ l ∧ env.get t = some v) ∨ m.get t = some v := by
  intro l
  induction l with
  | nil => intro m t v h; exact .inr h
  | cons x l ih =>
    intro m t v h
    unfold onlyT at h
    split at h
    · rename_i u hu
      rcases ih h with ⟨h1, h2⟩ | h1
      · exact .inl ⟨by simp [h1], h2⟩
      · rw [T.get_set] at h1
        split at h1
        · rename_i e; subst e
          simp only [Option.some.injEq] at h1; subst h1
          exact .inl ⟨by simp, hu⟩
        · exact .inr h1
    · rcases ih h with ⟨h1, h2⟩ | h1
      · exact .inl ⟨by simp [h1], h2⟩
      · exact .inr h1
theorem only_spec {env : Env} {l : List Tmp} {t : Tmp} {v : AV} (h : (env.only l).tm.get t = some v) : t ∈ l ∧ env.tm.get t = some v := by
  rcases onlyT_spec h with h | h
  · exact h
  · cases h
end Go.Tw
