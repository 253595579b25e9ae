/-
  A part of the proof that the abstract evaluator is sound for the model's machine. Conditions: those of each theorem, as it states them.
-/
import Derived.Test.YtbbnjiceenjhcaaGreatDoorTwRel
set_option linter.all false
namespace Go.Tw
variable [Val]

/-- A world with a block's object changed. -/
def wset (w : World) (b : Nat) (o : Obj) : World := { w with heap := w.heap.setIfInBounds b o }
omit [Val] in
theorem wset_size (w : World) (b : Nat) (o : Obj) : (wset w b o).heap.size = w.heap.size := by simp [wset]
omit [Val] in
theorem wset_same (w : World) (b : Nat) (o : Obj) (h : b < w.heap.size) : (wset w b o).heap[b]? = some o := by simp [wset, h]
omit [Val] in
theorem wset_other (w : World) (b : Nat) (o : Obj) {c : Nat} (h : c ≠ b) : (wset w b o).heap[c]? = w.heap[c]? := by
  simp [wset, Array.getElem?_setIfInBounds_ne (Ne.symm h)]
omit [Val] in
theorem wset_wset (w : World) (b : Nat) (o p : Obj) : wset (wset w b o) b p = wset w b p := by
  simp [wset, Array.setIfInBounds_setIfInBounds]
omit [Val] in
theorem wset_self (w : World) (b : Nat) (o : Obj) (h : w.heap[b]? = some o) : wset w b o = w := by
  have hb : b < w.heap.size := by
    rcases Nat.lt_or_ge b w.heap.size with h' | h'
    · exact h'
    · simp [Array.getElem?_eq_none h'] at h
  have : w.heap.setIfInBounds b o = w.heap := by
    apply Array.ext (by simp)
    intro i h1 h2
    simp at h1
    by_cases e : i = b
    · subst e
      rw [Array.getElem?_eq_getElem h2] at h
      simp only [Option.some.injEq] at h
      rw [Array.getElem_setIfInBounds_self]
      exact h.symm
    · rw [Array.getElem_setIfInBounds h2, if_neg (Ne.symm e)]
  simp [wset, this]
omit [Val] in
theorem heap_lt {w : World} {b : Nat} {o : Obj} (h : w.heap[b]? = some o) : b < w.heap.size := by
  rcases Nat.lt_or_ge b w.heap.size with h' | h'
  · exact h'
  · simp [Array.getElem?_eq_none h'] at h
omit [Val] in
theorem alloc_new (w : World) (o : Obj) : (w.alloc o).heap[w.heap.size]? = some o := by
  show (w.heap.push o)[w.heap.size]? = some o
  simp
omit [Val] in
theorem alloc_old (w : World) (o : Obj) {b : Nat} (h : b < w.heap.size) : (w.alloc o).heap[b]? = w.heap[b]? := by
  show (w.heap.push o)[b]? = _
  simp [Array.getElem?_push, Nat.ne_of_lt h]

omit [Val] in
theorem cell_row {w : World} {b k : Nat} {cs : Array Value} {t : TypeId} {fr : Nat × Nat} (h : w.heap[b]? = some (.cells cs t fr)) : w.cell? ⟨b, k, none⟩ = cs[k]? := by
  simp [World.cell?, h]
omit [Val] in
theorem add_off (b k n : Nat) : (⟨b, k, none⟩ : Addr).add n = ⟨b, k + n, none⟩ := by
  unfold Addr.add; split
  · subst_vars; rfl
  · rfl

section
variable {P : Program}
omit [Val] in
theorem run_loadCells_row {w : World} {b k n : Nat} {cs : Array Value} {t : TypeId} {fr : Nat × Nat} (h : w.heap[b]? = some (.cells cs t fr)) (hn : k + n ≤ cs.size) :
    (loadCells ⟨b, k, none⟩ n).run P w = .ok ((cs.toList.drop k).take n).toArray w := by
  have hl : ((cs.toList.drop k).take n).length = n := by simp; omega
  have := run_loadCells_list (P := P) w ⟨b, k, none⟩ ((cs.toList.drop k).take n) (fun j v hj => by
    rw [add_off, cell_row h]
    rw [List.getElem?_take, List.getElem?_drop] at hj
    split at hj
    · simpa using hj
    · cases hj)
  rw [hl] at this
  exact this

omit [Val] in
theorem setCell_row {w : World} {b k : Nat} {cs : Array Value} {t : TypeId} {fr : Nat × Nat} (v : Value) (h : w.heap[b]? = some (.cells cs t fr)) :
    w.setCell ⟨b, k, none⟩ v = wset w b (.cells (cs.setIfInBounds k v) t fr) := by
  have hb := heap_lt h
  have hx : w.heap[b] = .cells cs t fr := by rw [Array.getElem?_eq_getElem hb] at h; simpa using h
  simp only [World.setCell, wset, Option.isSome_none, Bool.false_eq_true, if_false]
  congr 1
  apply Array.ext (by simp)
  intro i h1 h2
  simp at h1
  rw [Array.getElem_modify, Array.getElem_setIfInBounds]
  by_cases e : b = i
  · subst e; simp [hx]
  · simp [e]
  · exact h1

omit [Val] in
theorem run_storeCells_row {b k : Nat} {t : TypeId} {fl fh : Nat} : ∀ (vs : List Value) (i : Nat) (cur : Array Value) (w : World), w.heap[b]? = some (.cells cur t (fl, fh)) →
    k + i + vs.length ≤ cur.size → (∀ v ∈ vs, v.oneCell' = true) → (∀ y, k + i ≤ y → y < k + i + vs.length → ¬ (fl ≤ y ∧ y < fh)) →
    (storeCells ⟨b, k, none⟩ vs i).run P w = .ok () (wset w b (.cells (cur.toList.take (k + i) ++ vs ++ cur.toList.drop (k + i + vs.length)).toArray t (fl, fh))) := by
  intro vs
  induction vs with
  | nil =>
    intro i cur w h hl _ _
    simp only [storeCells, List.append_nil, List.length_nil, Nat.add_zero, List.take_append_drop, Array.toArray_toList]
    rw [wset_self w b _ h]
    rfl
  | cons v rest ih =>
    intro i cur w h hl h1 hf
    have hk : k + i < cur.size := by simp at hl; omega
    have hfr : w.frozen? ⟨b, k + i, none⟩ = false := by
      have := hf (k + i) (Nat.le_refl _) (by simp)
      simp only [World.frozen?, h]
      simp only [Bool.and_eq_false_imp, decide_eq_true_eq, decide_eq_false_iff_not]
      intro h2 h3
      exact this ⟨h2, h3⟩
    have hst := run_store P w ⟨b, k + i, none⟩ v .plain (h1 v (by simp))
    rw [cell_row h, Array.getElem?_eq_getElem hk, hfr] at hst
    simp only [Bool.false_eq_true, if_false, setCell_row v h] at hst
    have ih := ih (i + 1) (cur.setIfInBounds (k + i) v) (wset w b (.cells (cur.setIfInBounds (k + i) v) t (fl, fh))) (wset_same _ _ _ (heap_lt h))
      (by simp at hl ⊢; omega) (fun x hx => h1 x (by simp [hx])) (fun y h2 h3 => hf y (by omega) (by simp; omega))
    simp only [storeCells, Sem.run_bind, add_off, hst, Result.andThen_ok, ih, wset_wset]
    congr 3
    simp only [Array.toList_setIfInBounds, List.length_cons]
    rw [show k + (i + 1) = k + i + 1 by omega, List.take_set, List.drop_set_of_lt (by omega)]
    have hlen : k + i < cur.toList.length := by simpa using hk
    rw [List.take_succ_eq_append_getElem hlen, List.set_append_right _ _ (by simp; omega)]
    have e1 : (cur.toList.take (k + i)).length = k + i := by simp; omega
    have e2 : k + i + (rest.length + 1) = k + i + 1 + rest.length := by omega
    rw [e1, Nat.sub_self, e2]
    simp
end

/-- More is known: where one version of one object lies. -/
def PM.ins (φ : PM) (id v : Nat) (e : Ext) : PM := fun i u => if i = id ∧ u = v then some e else φ i u
omit [Val] in
theorem PM.ins_same (φ : PM) (id v : Nat) (e : Ext) : φ.ins id v e id v = some e := by simp [PM.ins]
omit [Val] in
theorem PM.ins_id (φ : PM) {id v i : Nat} (e : Ext) (h : i ≠ id) (u : Nat) : φ.ins id v e i u = φ i u := by simp [PM.ins, h]
omit [Val] in
theorem PM.ins_ver (φ : PM) {id v u : Nat} (e : Ext) (h : u ≠ v) (i : Nat) : φ.ins id v e i u = φ i u := by simp [PM.ins, h]
omit [Val] in
theorem PM.le_ins (φ : PM) {id v : Nat} (e : Ext) (h : φ id v = none) : φ.le (φ.ins id v e) := by
  intro i u f hf
  unfold PM.ins
  split
  · rename_i hx; obtain ⟨rfl, rfl⟩ := hx; rw [h] at hf; cases hf
  · exact hf

section posts
variable {R : Nat} {C : Cfg} {D : Nat → Prop} {φ : PM} {σ : St} {w : World}

/-- An object is changed. -/
theorem Post.put {φ' : PM} {w' : World} {id : Nat} {o : Ob} (hi : Inv R C D φ σ w) (hR : R ≤ id) (hlt : id < σ.next) (hle : φ.le φ') (hwf : WF R φ' w')
    (hgrow : ∀ i, i ≠ id → ∀ v, φ' i v = φ i v) (hblk : ∀ v e, φ' id v = some e → (∃ u f, φ id u = some f ∧ f.blk = e.blk) ∨ w.heap.size ≤ e.blk)
    (hfrm : Frm φ [id] w w') (hrep : Rep R φ' w' id (some o)) : Post R D φ σ w (σ.put id o) φ' w' where
  le := hle
  grow := fun i hw _ v => hgrow i (fun e => by
    rcases hw with hw | hw
    · exact hw (mem_addL.2 (.inl e))
    · exact absurd hlt (Nat.not_lt.2 (e ▸ hw))) v
  wrR := fun i hw => by
    rcases mem_addL.1 hw with rfl | h
    · exact .inr hR
    · exact .inl h
  wf := hwf
  blk := fun i v e he => by
    by_cases h : i = id
    · subst h; exact hblk v e he
    · rw [hgrow i h] at he; exact .inl ⟨v, e, he, rfl⟩
  rep := fun i h => by
    rcases h with ⟨hd, hl⟩ | ⟨h1, h2⟩
    · by_cases e : i = id
      · subst e; simpa [St.put, T.get_set_same] using hrep
      · have : (σ.put id o).heap.get i = σ.heap.get i := T.get_set_ne _ _ e
        rw [this]
        refine (hi.rep i hd hl).frame hle (fun v => hgrow i e v) fun v f hf => ?_
        refine hfrm.keep _ (hi.wf.lt i v f hf) fun j hj u g hg heq => ?_
        simp only [List.mem_singleton] at hj
        subst hj
        rcases hi.wf.inj _ _ _ _ _ _ hg hf heq with h | h
        · exact e h.symm
        · exact absurd h.1 (Nat.not_lt.2 hR)
    · simp only [St.put] at h2; omega
  frm := ⟨hfrm.size, fun b hb hne => hfrm.keep b hb fun i hi v e he => hne i (by simp at hi; subst hi; exact mem_addL.2 (.inl rfl)) v e he, hfrm.os, hfrm.out, hfrm.tape⟩

omit [Val] in
theorem WF.wset (h : WF R φ w) (b : Nat) (o : Obj) : WF R φ (wset w b o) := ⟨h.inj, fun i v e he => by rw [wset_size]; exact h.lt i v e he, h.top⟩

omit [Val] in
theorem Frm.wset {id v : Nat} {e : Ext} (he : φ id v = some e) (o : Obj) : Frm φ [id] w (wset w e.blk o) :=
  ⟨by rw [wset_size]; exact Nat.le_refl _, fun b _ hne => wset_other _ _ _ (fun h => hne id (by simp) v e he h.symm), rfl, rfl, rfl⟩

/-- An object is changed, and its block. -/
theorem Post.change {id v : Nat} {e : Ext} {o : Ob} {ob : Obj} (hi : Inv R C D φ σ w) (hR : R ≤ id) (hlt : id < σ.next) (he : φ id v = some e)
    (hrep : Rep R φ (wset w e.blk ob) id (some o)) : Post R D φ σ w (σ.put id o) φ (wset w e.blk ob) :=
  .put hi hR hlt φ.le_refl (hi.wf.wset _ _) (fun _ _ _ => rfl) (fun v e he => .inl ⟨v, e, he, rfl⟩) (.wset he _) hrep

omit [Val] in
theorem WF.alloc (h : WF R φ w) {id v : Nat} {e : Ext} (o : Obj) (hb : e.blk = w.heap.size) (ht : e.hi + e.up ≤ e.bsz + e.dn) : WF R (φ.ins id v e) (w.alloc o) where
  inj := fun i u f j s g hf hg hbk => by
    unfold PM.ins at hf hg
    split at hf <;> split at hg
    · rename_i h1 h2; exact .inl (h1.1.trans h2.1.symm)
    · simp only [Option.some.injEq] at hf; subst hf
      exact absurd (h.lt _ _ _ hg) (by rw [← hbk, hb]; exact Nat.lt_irrefl _)
    · simp only [Option.some.injEq] at hg; subst hg
      exact absurd (h.lt _ _ _ hf) (by rw [hbk, hb]; exact Nat.lt_irrefl _)
    · exact h.inj _ _ _ _ _ _ hf hg hbk
  lt := fun i u f hf => by
    rw [World.size_alloc]
    unfold PM.ins at hf
    split at hf
    · simp only [Option.some.injEq] at hf; subst hf; omega
    · exact Nat.lt_succ_of_lt (h.lt _ _ _ hf)
  top := fun i u f hf => by
    unfold PM.ins at hf
    split at hf
    · simp only [Option.some.injEq] at hf; subst hf; exact ht
    · exact h.top _ _ _ hf

/-- An object is made. -/
theorem Post.new {e : Ext} {o : Ob} {ob : Obj} (hi : Inv R C D φ σ w) (hf : ∀ v, φ σ.next v = none) (hb : e.blk = w.heap.size) (ht : e.hi + e.up ≤ e.bsz + e.dn)
    (hrep : Rep R (φ.ins σ.next 0 e) (w.alloc ob) σ.next (some o)) : Post R D φ σ w (σ.mk' o) (φ.ins σ.next 0 e) (w.alloc ob) where
  le := φ.le_ins e (hf 0)
  grow := fun i _ hn v => φ.ins_id e (fun h => hn ⟨by omega, by simp only [St.mk']; omega⟩) v
  wrR := fun _ h => .inl h
  wf := hi.wf.alloc ob hb ht
  blk := fun i v f hf => by
    unfold PM.ins at hf
    split at hf
    · simp only [Option.some.injEq] at hf; subst hf; exact .inr (by omega)
    · exact .inl ⟨v, f, hf, rfl⟩
  rep := fun i h => by
    by_cases e' : i = σ.next
    · subst e'; simpa [St.mk', T.get_set_same] using hrep
    · have : (σ.mk' o).heap.get i = σ.heap.get i := T.get_set_ne _ _ e'
      rw [this]
      have hl : i < σ.next := by
        rcases h with ⟨_, h⟩ | ⟨h1, h2⟩
        · exact h
        · simp only [St.mk'] at h2; omega
      have hd : D i := by
        rcases h with ⟨h, _⟩ | ⟨h1, h2⟩
        · exact h
        · omega
      exact (hi.rep i hd hl).frame (φ.le_ins e (hf 0)) (fun v => φ.ins_id e e' v) fun v f hf => alloc_old _ _ (hi.wf.lt _ _ _ hf)
  frm := ⟨by rw [World.size_alloc]; omega, fun b hb _ => alloc_old _ _ hb, rfl, rfl, rfl⟩
end posts
end Go.Tw
