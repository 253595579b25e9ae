/-
  A part of the proof that the abstract evaluator is sound for the model's machine. Conditions: those of each theorem, as it states them.
-/
import Derived.Test.YtbbnjiceenjhcaaGreatDoorTwHeap
set_option linter.all false
namespace Go.Tw

theorem hasN_iff {i : Nat} : ∀ {l : List Nat}, hasN i l = true ↔ i ∈ l := by
  intro l
  induction l with
  | nil => simp [hasN]
  | cons x l ih =>
    simp only [hasN, Bool.or_eq_true, ih, List.mem_cons]
    constructor
    · rintro (h | h)
      · exact .inl (beq_t h).symm
      · exact .inr h
    · rintro (h | h)
      · exact .inl (by rw [h]; exact Nat.beq_refl x)
      · exact .inr h
theorem hasO_iff {i : Nat} : ∀ {l : List (Nat × Ob)}, hasO i l = true ↔ ∃ o, (i, o) ∈ l := by
  intro l
  induction l with
  | nil => simp [hasO]
  | cons x l ih =>
    obtain ⟨j, o⟩ := x
    simp only [hasO, Bool.or_eq_true, ih, List.mem_cons, Prod.mk.injEq]
    constructor
    · rintro (h | ⟨o', h⟩)
      · exact ⟨o, .inl ⟨(beq_t h).symm, rfl⟩⟩
      · exact ⟨o', .inr h⟩
    · rintro ⟨o', ⟨h, _⟩ | h⟩
      · exact .inl (by rw [h]; exact Nat.beq_refl j)
      · exact .inr ⟨o', h⟩
theorem fstO_mem {i : Nat} : ∀ {l : List (Nat × Ob)}, i ∈ fstO l ↔ ∃ o, (i, o) ∈ l := by
  intro l
  induction l with
  | nil => simp [fstO]
  | cons x l ih =>
    obtain ⟨j, o⟩ := x
    simp only [fstO, ih, List.mem_cons, Prod.mk.injEq]
    constructor
    · rintro (rfl | ⟨o', h⟩)
      · exact ⟨o, .inl ⟨rfl, rfl⟩⟩
      · exact ⟨o', .inr h⟩
    · rintro ⟨o', ⟨h, _⟩ | h⟩
      · exact .inl h
      · exact .inr ⟨o', h⟩
theorem addAll_mem {g : Nat → Nat} {i : Nat} : ∀ {l r : List Nat}, i ∈ addAll g l r ↔ i ∈ r ∨ ∃ x ∈ l, i = g x := by
  intro l
  induction l with
  | nil => intro r; simp [addAll]
  | cons x l ih =>
    intro r
    simp only [addAll, ih, cond_eq_ite]
    split
    · rename_i h
      have h := hasN_iff.1 h
      constructor
      · rintro (h' | ⟨y, hy, e⟩)
        · exact .inl h'
        · exact .inr ⟨y, List.mem_cons_of_mem _ hy, e⟩
      · rintro (h' | ⟨y, hy, e⟩)
        · exact .inl h'
        · rcases List.mem_cons.1 hy with rfl | hy
          · exact .inl (by rw [e]; exact h)
          · exact .inr ⟨y, hy, e⟩
    · simp only [List.mem_cons]
      constructor
      · rintro ((e | h') | ⟨y, hy, e⟩)
        · exact .inr ⟨x, .inl rfl, e⟩
        · exact .inl h'
        · exact .inr ⟨y, .inr hy, e⟩
      · rintro (h' | ⟨y, (rfl | hy), e⟩)
        · exact .inl (.inr h')
        · exact .inl (.inl e)
        · exact .inr ⟨y, hy, e⟩

theorem apartF_ok {R d : Nat} {g : Nat → Nat} : ∀ {n i : Nat} {t : T Nat}, apartF R d g n i t = true →
    (∀ x, i ≤ x → x < i + n → R ≤ g x ∧ g x < d ∧ t.get (g x) = none) ∧ ∀ x y, i ≤ x → x < y → y < i + n → g x ≠ g y := by
  intro n
  induction n with
  | zero => intro i t _; exact ⟨fun x _ _ => by omega, fun x y _ _ _ => by omega⟩
  | succ n ih =>
    intro i t h
    simp only [apartF, Bool.and_eq_true] at h
    obtain ⟨⟨⟨h1, h2⟩, h3⟩, h4⟩ := h
    have h1 := ble_t h1
    have h2 := blt_t h2
    have h3 : t.get (g i) = none := by
      split at h3
      · assumption
      · cases h3
    obtain ⟨k1, k2⟩ := ih h4
    have hx : ∀ x, i < x → x < i + (n + 1) → R ≤ g x ∧ g x < d ∧ t.get (g x) = none ∧ g i ≠ g x := by
      intro x a b
      obtain ⟨q1, q2, q3⟩ := k1 x (by simp only [Nat.succ_eq_add_one]; omega) (by simp only [Nat.succ_eq_add_one]; omega)
      rw [T.get_set] at q3
      split at q3
      · cases q3
      · rename_i hne
        exact ⟨q1, q2, q3, fun e => hne e.symm⟩
    refine ⟨fun x a b => ?_, fun x y a b c => ?_⟩
    · rcases Nat.eq_or_lt_of_le a with rfl | a
      · exact ⟨h1, h2, h3⟩
      · exact ⟨(hx x a b).1, (hx x a b).2.1, (hx x a b).2.2.1⟩
    · rcases Nat.eq_or_lt_of_le a with rfl | a
      · exact (hx y b c).2.2.2
      · exact k2 x y (by simp only [Nat.succ_eq_add_one]; omega) b (by simp only [Nat.succ_eq_add_one]; omega)

theorem matchAll_ok {g : Nat → Nat} {h : T Ob} : ∀ {l : List (Nat × Ob)}, matchAll g h l = true → ∀ i o, (i, o) ∈ l → h.get (g i) = some (o.mp g) := by
  intro l
  induction l with
  | nil => intro _ i o hm; cases hm
  | cons x l ih =>
    obtain ⟨j, o'⟩ := x
    intro hm i o hio
    simp only [matchAll, Bool.and_eq_true] at hm
    rcases List.mem_cons.1 hio with e | hio
    · simp only [Prod.mk.injEq] at e
      obtain ⟨rfl, rfl⟩ := e
      have := hm.1
      split at this
      · rename_i o'' ho
        rw [ho, Ob.same_eq this]
      · cases this
    · exact ih hm.2 i o hio

theorem putP_get {g : Nat → Nat} : ∀ (l : List (Nat × Ob)) (h : T Ob) (i : Nat), (∃ k o, (k, o) ∈ l ∧ i = g k ∧ (putP g l h).get i = some (o.mp g)) ∨
    ((∀ k o, (k, o) ∈ l → i ≠ g k) ∧ (putP g l h).get i = h.get i) := by
  intro l
  induction l with
  | nil => intro h i; exact .inr ⟨fun _ _ h => (by cases h), rfl⟩
  | cons x l ih =>
    intro h i
    obtain ⟨k, o⟩ := x
    simp only [putP]
    rcases ih (h.set (g k) (o.mp g)) i with ⟨k', o', h1, h2, h3⟩ | ⟨h1, h2⟩
    · exact .inl ⟨k', o', List.mem_cons_of_mem _ h1, h2, h3⟩
    · rw [T.get_set] at h2
      split at h2
      · rename_i e; exact .inl ⟨k, o, by simp, e, h2⟩
      · rename_i e
        refine .inr ⟨fun k' o' hm => ?_, h2⟩
        rcases List.mem_cons.1 hm with e' | hm
        · simp only [Prod.mk.injEq] at e'
          obtain ⟨rfl, rfl⟩ := e'
          exact e
        · exact h1 k' o' hm

theorem setIn_get : ∀ (l : List (Nat × Ob)) (h : T Ob) (i : Nat), (∃ o, (i, o) ∈ l ∧ (setIn l h).get i = some o) ∨ ((∀ o, (i, o) ∉ l) ∧ (setIn l h).get i = h.get i) := by
  intro l
  induction l with
  | nil => intro h i; exact .inr ⟨fun _ h => (by cases h), rfl⟩
  | cons x l ih =>
    intro h i
    obtain ⟨k, o⟩ := x
    simp only [setIn]
    rcases ih (h.set k o) i with ⟨o', h1, h3⟩ | ⟨h1, h2⟩
    · exact .inl ⟨o', List.mem_cons_of_mem _ h1, h3⟩
    · rw [T.get_set] at h2
      split at h2
      · rename_i e
        exact .inl ⟨o, by rw [e]; simp, h2⟩
      · rename_i e
        refine .inr ⟨fun o' hm => ?_, h2⟩
        rcases List.mem_cons.1 hm with e' | hm
        · simp only [Prod.mk.injEq] at e'
          exact e e'.1
        · exact h1 o' hm

theorem allIns_ok {R k : Nat} : ∀ {l : List (Nat × Ob)}, allIns R k l = true → ∀ i o, (i, o) ∈ l → R ≤ i ∧ i < k ∧ o.told = true := by
  intro l
  induction l with
  | nil => intro _ i o h; cases h
  | cons x l ih =>
    obtain ⟨j, o'⟩ := x
    intro h i o hm
    simp only [allIns, Bool.and_eq_true] at h
    rcases List.mem_cons.1 hm with e | hm
    · simp only [Prod.mk.injEq] at e
      obtain ⟨rfl, rfl⟩ := e
      exact ⟨ble_t h.1.1.1, blt_t h.1.1.2, h.1.2⟩
    · exact ih h.2 i o hm
theorem allOuts_ok {R k n : Nat} {wr : List Nat} {τ : St} : ∀ {l : List (Nat × Ob)}, allOuts R k n wr τ l = true → ∀ i o, (i, o) ∈ l → R ≤ i ∧ i < n ∧ (k ≤ i ∨ i ∈ wr) ∧ τ.heap.get i = some o := by
  intro l
  induction l with
  | nil => intro _ i o h; cases h
  | cons x l ih =>
    obtain ⟨j, o'⟩ := x
    intro h i o hm
    simp only [allOuts, Bool.and_eq_true, Bool.or_eq_true] at h
    rcases List.mem_cons.1 hm with e | hm
    · simp only [Prod.mk.injEq] at e
      obtain ⟨rfl, rfl⟩ := e
      obtain ⟨⟨⟨⟨h1, h2⟩, h3⟩, h4⟩, _⟩ := h
      refine ⟨ble_t h1, blt_t h2, h3.imp ble_t hasN_iff.1, ?_⟩
      split at h4
      · rename_i o'' ho
        rw [ho, Ob.same_eq h4]
      · cases h4
    · exact ih h.2 i o hm
theorem allRd_ok {R k : Nat} {ins : List (Nat × Ob)} : ∀ {l : List Nat}, allRd R k ins l = true → ∀ i ∈ l, i < R ∨ k ≤ i ∨ ∃ o, (i, o) ∈ ins := by
  intro l
  induction l with
  | nil => intro _ i h; cases h
  | cons x l ih =>
    intro h i hm
    simp only [allRd, Bool.and_eq_true, Bool.or_eq_true] at h
    rcases List.mem_cons.1 hm with rfl | hm
    · rcases h.1 with (h1 | h1) | h1
      · exact .inl (blt_t h1)
      · exact .inr (.inl (ble_t h1))
      · exact .inr (.inr (hasO_iff.1 h1))
    · exact ih h.2 i hm
theorem allWr_ok {k : Nat} {wr : List Nat} {ins : List (Nat × Ob)} : ∀ {l : List Nat}, allWr k wr ins l = true → ∀ i ∈ l, k ≤ i ∨ (i ∈ wr ∧ ∃ o, (i, o) ∈ ins) := by
  intro l
  induction l with
  | nil => intro _ i h; cases h
  | cons x l ih =>
    intro h i hm
    simp only [allWr, Bool.and_eq_true, Bool.or_eq_true] at h
    rcases List.mem_cons.1 hm with rfl | hm
    · rcases h.1 with h1 | ⟨h1, h2⟩
      · exact .inl (ble_t h1)
      · exact .inr ⟨hasN_iff.1 h1, hasO_iff.1 h2⟩
    · exact ih h.2 i hm
theorem wrIn_ok {R k : Nat} {outs ins : List (Nat × Ob)} : ∀ {l : List Nat}, wrIn R k outs ins l = true → ∀ i ∈ l, (R ≤ i ∧ i < k ∧ ∃ o, (i, o) ∈ outs) ∧ ∃ o, (i, o) ∈ ins := by
  intro l
  induction l with
  | nil => intro _ i h; cases h
  | cons x l ih =>
    intro h i hm
    simp only [wrIn, Bool.and_eq_true] at h
    rcases List.mem_cons.1 hm with rfl | hm
    · exact ⟨⟨ble_t h.1.1.1.1, blt_t h.1.1.1.2, hasO_iff.1 h.1.1.2⟩, hasO_iff.1 h.1.2⟩
    · exact ih h.2 i hm

/-- What a known call's numbers are. -/
structure HMemo.Shape (R : Nat) (m : HMemo) : Prop where
  rk : R ≤ m.k
  kn : m.k ≤ m.n
  outs : ∀ i o, (i, o) ∈ m.outs → R ≤ i ∧ i < m.n ∧ (m.k ≤ i ∨ i ∈ m.wr)
  wr : ∀ i ∈ m.wr, R ≤ i ∧ i < m.k ∧ ∃ o, (i, o) ∈ m.outs

/-- Where a known call's numbers go. -/
structure Goes (R k d : Nat) (g : Nat → Nat) : Prop where
  low : ∀ i, i < R → g i = i
  mid : ∀ i, R ≤ i → i < k → R ≤ g i ∧ g i < d
  top : ∀ i, R ≤ k → k ≤ i → g i = i - k + d
  inj : R ≤ k → R ≤ d → ∀ i j, g i = g j → i = j

theorem goes_of {R k d : Nat} {b : T Nat} (h : apartF R d (pmF R k d b) (k - R) R .leaf = true) : Goes R k d (pmF R k d b) := by
  obtain ⟨h1, h2⟩ := apartF_ok h
  have low : ∀ i, i < R → pmF R k d b i = i := fun i hi => by
    have hb : Nat.blt i R = true := Nat.ble_eq_true_of_le hi
    simp [pmF, hb]
  have top : ∀ i, R ≤ k → k ≤ i → pmF R k d b i = i - k + d := fun i hk hi => by
    have hb : Nat.blt i R = false := by
      cases hx : Nat.blt i R with
      | true => have := blt_t hx; omega
      | false => rfl
    have hb2 : Nat.blt i k = false := by
      cases hx : Nat.blt i k with
      | true => have := blt_t hx; omega
      | false => rfl
    simp [pmF, hb, hb2]
  refine ⟨low, fun i a c => ⟨(h1 i a (by omega)).1, (h1 i a (by omega)).2.1⟩, top, fun hk hd i j e => ?_⟩
  rcases Nat.lt_or_ge i R with hi | hi
  · rw [low i hi] at e
    rcases Nat.lt_or_ge j R with hj | hj
    · rw [low j hj] at e; exact e
    · rcases Nat.lt_or_ge j k with hj' | hj'
      · have := (h1 j hj (by omega)).1; omega
      · rw [top j hk hj'] at e; omega
  · rcases Nat.lt_or_ge i k with hi' | hi'
    · rcases Nat.lt_or_ge j R with hj | hj
      · rw [low j hj] at e
        have := (h1 i hi (by omega)).1; omega
      · rcases Nat.lt_or_ge j k with hj' | hj'
        · rcases Nat.lt_trichotomy i j with hij | hij | hij
          · exact absurd e (h2 i j hi hij (by omega))
          · exact hij
          · exact absurd e.symm (h2 j i hj hij (by omega))
        · rw [top j hk hj'] at e
          have := (h1 i hi (by omega)).2.1; omega
    · rw [top i hk hi'] at e
      rcases Nat.lt_or_ge j R with hj | hj
      · rw [low j hj] at e; omega
      · rcases Nat.lt_or_ge j k with hj' | hj'
        · have := (h1 j hj (by omega)).2.1; omega
        · rw [top j hk hj'] at e; omega

theorem HMemo.ret_eq {R : Nat} {m : HMemo} {args : List AV} {σ : St} {r : CR} (h : m.ret R args σ = r) (hr : r ≠ .no) : R ≤ σ.next ∧
    ∃ b, Goes R m.k σ.next (pmF R m.k σ.next b) ∧ mpL (pmF R m.k σ.next b) m.args = args ∧ (∀ i o, (i, o) ∈ m.ins → σ.heap.get (pmF R m.k σ.next b i) = some (o.mp (pmF R m.k σ.next b))) ∧
    r = .ret (m.v.mp (pmF R m.k σ.next b)) { heap := putP (pmF R m.k σ.next b) m.outs σ.heap, next := m.n - m.k + σ.next, rd := addAll (pmF R m.k σ.next b) (fstO m.ins) σ.rd, wr := addAll (pmF R m.k σ.next b) m.wr σ.wr } := by
  unfold HMemo.ret at h
  rw [cond_eq_ite] at h
  split at h
  · rename_i hle
    have hle := (Bool.and_eq_true _ _ ▸ hle).1
    split at h
    · exact absurd h.symm hr
    · rename_i b hb
      rw [cond_eq_ite] at h
      split at h
      · rename_i hc
        simp only [Bool.and_eq_true] at hc
        exact ⟨ble_t hle, b, goes_of hc.1, sameL_eq hc.2.1, matchAll_ok hc.2.2, h.symm⟩
      · exact absurd h.symm hr
  · exact absurd h.symm hr

theorem HMemo.ret_step {R : Nat} {m : HMemo} (hm : m.Shape R) (args : List AV) (σ : St) : (m.ret R args σ).steps σ := by
  intro σ' hs
  cases hr : m.ret R args σ with
  | no => rw [hr] at hs; cases hs
  | pan c τ => obtain ⟨_, _, _, _, _, h⟩ := HMemo.ret_eq hr (by simp); cases h
  | ret v τ =>
    obtain ⟨hle, b, hg, _, _, he⟩ := HMemo.ret_eq hr (by simp)
    rw [hr] at hs
    simp only [CR.st, Option.some.injEq] at hs
    subst hs
    simp only [CR.ret.injEq] at he
    obtain ⟨_, rfl⟩ := he
    have hk := hm.rk
    exact {
      next := by show σ.next ≤ m.n - m.k + σ.next; omega
      rd := fun i h => addAll_mem.2 (.inl h)
      wr := fun i h => addAll_mem.2 (.inl h)
      keep := fun i hi hw => by
        rcases putP_get (g := pmF R m.k σ.next b) m.outs σ.heap i with ⟨k, o, h1, h2, h3⟩ | ⟨_, h⟩
        · exfalso
          obtain ⟨q1, q2, q3⟩ := hm.outs k o h1
          rcases q3 with q3 | q3
          · rw [hg.top k hk q3] at h2; omega
          · exact hw (addAll_mem.2 (.inr ⟨k, q3, h2⟩))
        · exact h
      dom := fun hd i hi => by
        have hi : m.n - m.k + σ.next ≤ i := hi
        rcases putP_get (g := pmF R m.k σ.next b) m.outs σ.heap i with ⟨k, o, h1, h2, h3⟩ | ⟨_, h⟩
        · exfalso
          obtain ⟨q1, q2, q3⟩ := hm.outs k o h1
          rcases Nat.lt_or_ge k m.k with q | q
          · have := (hg.mid k q1 q).2; omega
          · rw [hg.top k hk q] at h2; omega
        · exact h.trans (hd i (by omega))
      wlt := fun _ i h => by
        rcases addAll_mem.1 h with h | ⟨x, hx, e⟩
        · exact .inl h
        · obtain ⟨q1, q2, _⟩ := hm.wr x hx
          have := (hg.mid x q1 q2).2
          exact .inr (by show i < m.n - m.k + σ.next; omega) }

section
variable [Val] {P : Program} {R : Nat}

/-- A known call is right. -/
def HMemo.Sound (P : Program) (R : Nat) (C : Cfg) (m : HMemo) : Prop :=
  m.Shape R ∧ ∀ (σ : St) (D : Nat → Prop) (φ : PM) (w : World) (args : List AV) (args' : Array Value), Inv R C D φ σ w → VRL φ args args'.toList →
    ∀ v σ', m.ret R args σ = .ret v σ' → Known D σ σ' → Free φ σ σ' →
    Calls P m.f args' w fun e w' => ∃ φ' v', e = .returned v' ∧ VR φ' v v' ∧ Post R D φ σ w σ' φ' w'

/-- Known calls that are right, as a way to call. -/
def HkGood (P : Program) (R : Nat) (C : Cfg) (h : FuncId → List AV → St → CR) : Prop := HkSteps { C with hk := h } ∧ HkOk P R { C with hk := h }

/-- A call that the evaluator runs from what it touches is right wherever that lies so. -/
theorem hmemo_sound {C : Cfg} {h : FuncId → List AV → St → CR} (hh : HkGood P R C h) (hm : P.follows .mixedOrders = true) {n : Nat} {β : St} {m : HMemo}
    (h3 : β.wr = []) (h4 : ∀ i, R ≤ i → β.heap.get i = none) (h5 : ∀ i, i < R → β.heap.get i = C.base i)
    (hgl : ∀ g k, C.gl g = some k → g < R) (hok : m.ok P { C with hk := h } n R β = true) : m.Sound P R C := by
  unfold HMemo.ok at hok
  simp only [Bool.and_eq_true] at hok
  obtain ⟨⟨o1, o2, o3, o4⟩, o5⟩ := hok
  have rk := ble_t o1
  have kn := ble_t o2
  have hins := allIns_ok o3
  have hwrI := wrIn_ok o4
  have hwr := fun i hi => (hwrI i hi).1
  split at o5
  · rename_i v τ hc
    simp only [Bool.and_eq_true] at o5
    obtain ⟨⟨⟨⟨k1, k2⟩, k3⟩, k4⟩, k5⟩ := o5
    have k1 := AV.same_eq k1
    have k2 := beq_t k2
    have hout := allOuts_ok k3
    have hrd := allRd_ok k4
    have hwr' := allWr_ok k5
    have hshape : m.Shape R := ⟨rk, kn, fun i o hio => ⟨(hout i o hio).1, (hout i o hio).2.1, (hout i o hio).2.2.1⟩, hwr⟩
    refine ⟨hshape, fun σ D φ w args args' hi ha u σ' hr hkn hf => ?_⟩
    obtain ⟨hle, b, hg, hargs, hmat, he⟩ := HMemo.ret_eq hr (by simp)
    generalize pmF R m.k σ.next b = g at hg hargs hmat he
    simp only [CR.ret.injEq] at he
    obtain ⟨rfl, rfl⟩ := he
    have hinj := hg.inj rk hle
    have hgR : ∀ i, R ≤ i → R ≤ g i := fun i h => by
      rcases Nat.lt_or_ge i m.k with h' | h'
      · exact (hg.mid i h h').1
      · rw [hg.top i rk h']; omega
    -- what is told lies where it is found
    let φH : PM := fun i v => φ (g i) v
    let β' : St := { β with heap := setIn m.ins β.heap, next := m.k }
    let DH : Nat → Prop := fun i => i < R ∨ ∃ o, (i, o) ∈ m.ins
    have hlowH : φH.low R = φ.low R := by
      funext i v
      unfold PM.low
      split
      · rename_i hlt
        show φ (g i) v = φ i v
        rw [hg.low i hlt]
      · rfl
    have hDk : ∀ i o, (i, o) ∈ m.ins → D (g i) ∧ g i < σ.next := fun i o hio => by
      obtain ⟨q1, q2, _⟩ := hins i o hio
      have hlt := (hg.mid i q1 q2).2
      exact ⟨hkn (g i) (.inl (addAll_mem.2 (.inr ⟨i, fstO_mem.2 ⟨o, hio⟩, rfl⟩))) hlt, hlt⟩
    have hib : Inv R { C with hk := h } DH φH β' w := {
      wf := ⟨fun i v e j u f a c d => by
          rcases hi.wf.inj _ v e _ u f a c d with q | q
          · exact .inl (hinj i j q)
          · refine .inr ⟨?_, ?_⟩
            · rcases Nat.lt_or_ge i R with q' | q'
              · exact q'
              · have := hgR i q'; omega
            · rcases Nat.lt_or_ge j R with q' | q'
              · exact q'
              · have := hgR j q'; omega,
        fun i v e a => hi.wf.lt _ v e a, fun i v e a => hi.wf.top _ v e a⟩
      low := rk
      rep := fun i hd hlt => by
        show Rep R φH w i ((setIn m.ins β.heap).get i)
        rcases setIn_get m.ins β.heap i with ⟨o, q1, q2⟩ | ⟨q1, q2⟩
        · rw [q2]
          obtain ⟨p1, p2, p3⟩ := hins i o q1
          obtain ⟨d1, d2⟩ := hDk i o q1
          have hrep := hi.rep (g i) d1 d2
          rw [hmat i o q1] at hrep
          exact Rep.mpi p3 p1 hrep
        · rw [q2]
          rcases hd with hd | ⟨o, hd⟩
          · rw [h5 i hd]
            have := hi.ro i hd
            refine this.frame (fun i v e he => ?_) (fun v => ?_) (fun _ _ _ => rfl)
            · unfold PM.low at he
              split at he
              · rename_i hlt'
                show φ (g i) v = some e
                rw [hg.low i hlt']; exact he
              · cases he
            · rw [PM.low_lt _ hd]
              show φ (g i) v = φ i v
              rw [hg.low i hd]
          · exact absurd hd (q1 o)
      gl := fun gg k hgg => by
        obtain ⟨e, he, hx⟩ := hi.gl gg k hgg
        exact ⟨e, by show φ (g gg) 0 = some e; rw [hg.low gg (hgl gg k hgg)]; exact he, hx⟩
      dom := fun i hi' => by
        have hi' : m.k ≤ i := hi'
        show (setIn m.ins β.heap).get i = none
        rcases setIn_get m.ins β.heap i with ⟨o, q1, q2⟩ | ⟨q1, q2⟩
        · have := (hins i o q1).2.1; omega
        · rw [q2]; exact h4 i (by omega)
      pin := hi.pin
      dec := hi.dec
      wrR := fun i hi' => by
        have hi' : i ∈ β.wr := hi'
        rw [h3] at hi'; cases hi'
      ro := fun i hi' => by
        show Rep R (φH.low R) w i (C.base i)
        rw [hlowH]; exact hi.ro i hi' }
    have hstep : StepA β' τ := by
      have hst := callN_steps (P := P) hh.1 n (.fn m.f) m.args β' τ
      exact hst (by
        have hc : callA P { C with hk := h } (exec P { C with hk := h } n) (.fn m.f) m.args β' = .ret v τ := hc
        rw [hc]; rfl)
    have hwlt : ∀ i ∈ τ.wr, i < m.n := fun i hi' => by
      rcases hstep.wlt (fun j hj => hib.dom j hj) i hi' with q | q
      · have q : i ∈ β.wr := q
        rw [h3] at q; cases q
      · rw [← k2]; exact q
    have hkb : Known DH β' τ := fun i hi' hlt => by
      have hlt : i < m.k := hlt
      rcases hi' with hi' | hi'
      · rcases hrd i hi' with q | q | q
        · exact .inl q
        · omega
        · exact .inr q
      · rcases hwr' i hi' with q | q
        · omega
        · exact .inr q.2
    have hfb : Free φH β' τ := fun i a c v => by
      have a : m.k ≤ i := a
      show φ (g i) v = none
      rw [hg.top i rk a]
      exact hf _ (by omega) (by show i - m.k + σ.next < m.n - m.k + σ.next; omega) v
    have hargsR : VRL φH m.args args'.toList := VRL.mpi m.args (by rw [hargs]; exact ha)
    have hcalls := callN_calls hh.1 hh.2 hm hc hib hargsR hkb hfb
    refine hcalls.mono fun e w' hq => ?_
    obtain ⟨φ', v', rfl, hv, hp⟩ := hq
    -- where all lies
    let φ₂ : PM := fun j v => open Classical in if hx : ∃ i, R ≤ i ∧ i < m.n ∧ g i = j then φ' (Classical.choose hx) v else φ j v
    have hin : ∀ i, R ≤ i → i < m.n → ∀ v, φ₂ (g i) v = φ' i v := fun i a c v => by
      have hx : ∃ i', R ≤ i' ∧ i' < m.n ∧ g i' = g i := ⟨i, a, c, rfl⟩
      simp only [φ₂]
      rw [dif_pos hx, hinj _ _ (Classical.choose_spec hx).2.2]
    have hnot : ∀ j, (¬ ∃ i, R ≤ i ∧ i < m.n ∧ g i = j) → ∀ v, φ₂ j v = φ j v := fun j hx v => by
      simp only [φ₂]
      rw [dif_neg hx]
    have hp_low : ∀ i, i < R → ∀ v, φ' i v = φ i v := fun i a v => by
      have hl := (hp.lows rk (fun i hi' => by have hi' : i ∈ β.wr := hi'; rw [h3] at hi'; cases hi')).2
      have := congrFun (congrFun (hl.trans hlowH) i) v
      rwa [PM.low_lt _ a, PM.low_lt _ a] at this
    have hp_top : ∀ i, m.n ≤ i → ∀ v, φ' i v = φ (g i) v := fun i a v => hp.grow i (.inr (by omega)) (by omega) v
    have houtside : ∀ i, i < R ∨ m.n ≤ i → ¬ ∃ i', R ≤ i' ∧ i' < m.n ∧ g i' = g i := fun i a ⟨i', b1, b2, b3⟩ => by
      have := hinj _ _ b3; omega
    have hall : ∀ i v, φ₂ (g i) v = φ' i v := fun i v => by
      by_cases hx : R ≤ i ∧ i < m.n
      · exact hin i hx.1 hx.2 v
      · have hx' : i < R ∨ m.n ≤ i := by omega
        rw [hnot _ (houtside i hx')]
        rcases hx' with hx' | hx'
        · rw [hp_low i hx', hg.low i hx']
        · rw [hp_top i hx']
    have hmv : ∀ i v e, φ' i v = some e → φ₂ (g i) v = some e := fun i v e he => (hall i v).trans he
    -- numbers of the caller, as the call's
    have hcase : ∀ j v e, φ₂ j v = some e → (∃ i, R ≤ i ∧ i < m.n ∧ g i = j ∧ φ' i v = some e) ∨ ((¬ ∃ i, R ≤ i ∧ i < m.n ∧ g i = j) ∧ φ j v = some e) := fun j v e he => by
      by_cases hx : ∃ i, R ≤ i ∧ i < m.n ∧ g i = j
      · obtain ⟨i, a, c, rfl⟩ := hx
        exact .inl ⟨i, a, c, rfl, by rw [← hin i a c]; exact he⟩
      · exact .inr ⟨hx, by rw [← hnot j hx]; exact he⟩
    have hblk : ∀ i v e, φ' i v = some e → (∃ u f, φ (g i) u = some f ∧ f.blk = e.blk) ∨ w.heap.size ≤ e.blk := fun i v e he => hp.blk i v e he
    have hsz := hp.frm.size
    have hkeep : ∀ b, b < w.heap.size → (∀ x ∈ m.wr, ∀ v e, φ (g x) v = some e → e.blk ≠ b) → w'.heap[b]? = w.heap[b]? := fun b hb hx => by
      refine hp.frm.keep b hb fun i hi' v e he => ?_
      rcases hwr' i hi' with q | q
      · exfalso
        have := hfb i q (by rw [k2]; exact hwlt i hi') v
        rw [this] at he; cases he
      · exact hx i q.1 v e he
    have hle2 : φ.le φ₂ := fun j v e he => by
      by_cases hx : ∃ i, R ≤ i ∧ i < m.n ∧ g i = j
      · obtain ⟨i, a, c, rfl⟩ := hx
        rw [hin i a c]
        exact hp.le i v e he
      · rw [hnot j hx]; exact he
    refine ⟨φ₂, v', rfl, by rw [← k1]; exact hv.mp hmv, ?_⟩
    exact {
      le := hle2
      grow := fun j hw hn v => by
        by_cases hx : ∃ i, R ≤ i ∧ i < m.n ∧ g i = j
        · obtain ⟨i, a, c, rfl⟩ := hx
          rw [hin i a c]
          rcases Nat.lt_or_ge i m.k with q | q
          · refine hp.grow i (.inl fun hiw => ?_) (fun hx => by have := hx.1; have : m.k ≤ i := this; omega) v
            rcases hwr' i hiw with q' | q'
            · omega
            · rcases hw with hw | hw
              · exact hw (addAll_mem.2 (.inr ⟨i, q'.1, rfl⟩))
              · have := (hg.mid i a q).2
                have hw : m.n - m.k + σ.next ≤ g i := hw
                omega
          · exfalso
            apply hn
            rw [hg.top i rk q]
            exact ⟨by omega, by show i - m.k + σ.next < m.n - m.k + σ.next; omega⟩
        · exact hnot j hx v
      wrR := fun i hi' => by
        rcases addAll_mem.1 hi' with hi' | ⟨x, hx, e⟩
        · exact .inl hi'
        · rw [e]; exact .inr (hgR x (hwr x hx).1)
      wf := {
        inj := fun i v e j u f he hfj hbk => by
          rcases hcase i v e he with ⟨i', a1, a2, rfl, he'⟩ | ⟨hni, he'⟩
          · rcases hcase j u f hfj with ⟨j', c1, c2, rfl, hf'⟩ | ⟨hnj, hf'⟩
            · rcases hp.wf.inj _ _ _ _ _ _ he' hf' hbk with q | q
              · exact .inl (by rw [q])
              · omega
            · rcases hblk i' v e he' with ⟨u', f', hf'', hb'⟩ | q
              · rcases hi.wf.inj _ _ _ _ _ _ hf'' hf' (hb'.trans hbk) with q | q
                · exact .inl q
                · have := hgR i' a1; omega
              · have := hi.wf.lt _ _ _ hf'; omega
          · rcases hcase j u f hfj with ⟨j', c1, c2, rfl, hf'⟩ | ⟨hnj, hf'⟩
            · rcases hblk j' u f hf' with ⟨u', f', hf'', hb'⟩ | q
              · rcases hi.wf.inj _ _ _ _ _ _ he' hf'' (hbk.trans hb'.symm) with q | q
                · exact .inl q
                · have := hgR j' c1; omega
              · have := hi.wf.lt _ _ _ he'; omega
            · exact hi.wf.inj _ _ _ _ _ _ he' hf' hbk
        lt := fun i v e he => by
          rcases hcase i v e he with ⟨i', a1, a2, rfl, he'⟩ | ⟨hni, he'⟩
          · exact hp.wf.lt _ _ _ he'
          · have := hi.wf.lt _ _ _ he'; omega
        top := fun i v e he => by
          rcases hcase i v e he with ⟨i', a1, a2, rfl, he'⟩ | ⟨hni, he'⟩
          · exact hp.wf.top _ _ _ he'
          · exact hi.wf.top _ _ _ he' }
      blk := fun i v e he => by
        rcases hcase i v e he with ⟨i', a1, a2, rfl, he'⟩ | ⟨hni, he'⟩
        · exact hblk i' v e he'
        · exact .inl ⟨v, e, he', rfl⟩
      rep := fun i hii => by
        show Rep R φ₂ w' i ((putP g m.outs σ.heap).get i)
        rcases putP_get (g := g) m.outs σ.heap i with ⟨x, o, q1, q2, q3⟩ | ⟨q1, q2⟩
        · rw [q3, q2]
          obtain ⟨p1, p2, p3, p4⟩ := hout x o q1
          have hrep := hp.rep x (by
            rcases p3 with p3 | p3
            · exact .inr ⟨p3, by rw [k2]; exact p2⟩
            · exact .inl ⟨.inr (hwrI x p3).2, (hwr x p3).2.1⟩)
          rw [p4] at hrep
          exact Rep.mp hmv (hgR x p1) (hin x p1 p2) hrep
        · rw [q2]
          rcases hii with ⟨hd, hn⟩ | ⟨hn1, _⟩
          · by_cases hx : ∃ x, R ≤ x ∧ x < m.n ∧ g x = i
            · obtain ⟨x, a, c, rfl⟩ := hx
              have hxw : x ∉ m.wr := fun hxw => by
                obtain ⟨_, _, o, ho⟩ := hwr x hxw
                exact q1 x o ho rfl
              have hxk : x < m.k := by
                rcases Nat.lt_or_ge x m.k with q | q
                · exact q
                · rw [hg.top x rk q] at hn; omega
              have hsame : ∀ v, φ₂ (g x) v = φ (g x) v := fun v => by
                rw [hin x a c]
                refine hp.grow x (.inl fun hiw => ?_) (fun hx' => by have := hx'.1; have : m.k ≤ x := this; omega) v
                rcases hwr' x hiw with q' | q'
                · omega
                · exact hxw q'.1
              refine (hi.rep _ hd hn).frame hle2 hsame fun v e he => hkeep _ (hi.wf.lt _ _ _ he) fun y hy u f hf' hb' => ?_
              rcases hi.wf.inj _ _ _ _ _ _ hf' he hb' with q | q
              · exact hxw (hinj _ _ q ▸ hy)
              · have := hgR x a; omega
            · refine (hi.rep i hd hn).frame hle2 (hnot i hx) fun v e he => hkeep _ (hi.wf.lt _ _ _ he) fun y hy u f hf' hb' => ?_
              obtain ⟨y1, y2, _⟩ := hwr y hy
              rcases hi.wf.inj _ _ _ _ _ _ hf' he hb' with q | q
              · exact hx ⟨y, y1, by omega, q⟩
              · have := hgR y y1; omega
          · rw [hi.dom i hn1]; trivial
      frm := ⟨hsz, fun b hb hx => hkeep b hb fun x hxw v e he => hx (g x) (addAll_mem.2 (.inr ⟨x, hxw, rfl⟩)) v e he, hp.frm.os, hp.frm.out, hp.frm.tape⟩ }
  · cases o5
/-- A call that the evaluator runs from what is given is right wherever it is made. -/
theorem memo_soundG {C : Cfg} {hk : FuncId → List AV → St → CR} (hh : HkGood P R C hk) (hm : P.follows .mixedOrders = true) {n : Nat} {β : St} {m : Memo}
    (h1 : β.next = R) (_ : β.rd = []) (h3 : β.wr = []) (h4 : ∀ i, R ≤ i → β.heap.get i = none) (h5 : ∀ i, i < R → β.heap.get i = C.base i)
    (hgl : ∀ g k, C.gl g = some k → g < R) (hok : m.ok P { C with hk := hk } n R β = true) : m.Sound P R C := by
  unfold Memo.ok at hok
  split at hok
  · rename_i v τ hc
    simp only [Bool.and_eq_true] at hok
    obtain ⟨⟨⟨⟨k1, k2⟩, k3⟩, k4⟩, k5⟩ := hok
    have k1 := AV.same_eq k1
    have k2 := beq_t k2
    have k3 := ble_t k3
    have hobj : ∀ k o, (k, o) ∈ m.objs → R ≤ k ∧ k < m.n ∧ τ.heap.get k = some o := by
      intro k o hko
      have := List.all_eq_true.1 k5 (k, o) hko
      simp only [Bool.and_eq_true] at this
      refine ⟨ble_t this.1.1, blt_t this.1.2, ?_⟩
      have h := this.2
      split at h
      · rename_i o' ho'
        rw [ho', Ob.same_eq h]
      · cases h
    refine ⟨⟨k3, fun k o hko => ⟨(hobj k o hko).1, (hobj k o hko).2.1⟩⟩, fun σ D φ w args' hi ha u σ' hr hf => ?_⟩
    obtain ⟨hle, he⟩ := Memo.ret_eq hr (by simp)
    simp only [CR.ret.injEq] at he
    obtain ⟨rfl, rfl⟩ := he
    -- the run from what is given
    have hib : Inv R { C with hk := hk } (fun i => i < R) (φ.low R) β w := {
      wf := ⟨fun i v e j u f a b c => hi.wf.inj i v e j u f (PM.low_le φ R _ _ _ a) (PM.low_le φ R _ _ _ b) c, fun i v e a => hi.wf.lt i v e (PM.low_le φ R _ _ _ a), fun i v e a => hi.wf.top i v e (PM.low_le φ R _ _ _ a)⟩
      low := by omega
      rep := fun i hi' _ => by rw [h5 i hi']; exact hi.ro i hi'
      gl := fun g k hg => by
        obtain ⟨e, he, hx⟩ := hi.gl g k hg
        exact ⟨e, by rw [PM.low_lt _ (hgl g k hg)]; exact he, hx⟩
      dom := fun i hi' => h4 i (by omega)
      pin := hi.pin
      dec := hi.dec
      wrR := fun i hi' => by rw [h3] at hi'; cases hi'
      ro := fun i hi' => by
        have hll : (φ.low R).low R = φ.low R := by
          funext i v; unfold PM.low; split <;> rfl
        rw [hll]; exact hi.ro i hi' }
    have hkb : Known (fun i => i < R) β τ := fun i _ hn => by rw [h1] at hn; exact hn
    have hfb : Free (φ.low R) β τ := fun i ha' _ v => by
      have : ¬ i < R := by omega
      simp [PM.low, this]
    have hcalls := callN_calls hh.1 hh.2 hm hc hib (ha.pure k4) hkb hfb
    refine hcalls.mono fun e w' hq => ?_
    obtain ⟨φ', v', rfl, hv, hp⟩ := hq
    obtain ⟨l1, l2⟩ := hp.lows (by omega) (fun i hi' => by rw [h3] at hi'; cases hi')
    -- where all lies
    have hlow : ∀ i, i < R → ∀ v, φ' i v = φ i v := by
      intro i hi' v
      have := congrFun (congrFun l2 i) v
      rw [PM.low_lt _ hi', PM.low_lt _ hi', PM.low_lt _ hi'] at this
      exact this
    let φ₂ : PM := fun i v => if σ.next ≤ i ∧ i < m.n + (σ.next - R) then φ' (i - (σ.next - R)) v else φ i v
    have hold : ∀ i, ¬ (σ.next ≤ i ∧ i < m.n + (σ.next - R)) → ∀ v, φ₂ i v = φ i v := fun i hi' v => by show (if _ then _ else _) = _; rw [if_neg hi']
    have hnew : ∀ i, σ.next ≤ i → i < m.n + (σ.next - R) → ∀ v, φ₂ i v = φ' (i - (σ.next - R)) v := fun i a b v => by show (if _ then _ else _) = _; rw [if_pos ⟨a, b⟩]
    have hnone : ∀ i, σ.next ≤ i → i < m.n + (σ.next - R) → ∀ v, φ i v = none := fun i a b v => hf i a b v
    have hmvn : ∀ i, R ≤ i → Tw.mv R (σ.next - R) i = i + (σ.next - R) := by
      intro i hi'
      unfold Tw.mv
      rw [cond_eq_ite, if_neg]
      intro hb
      have := blt_t hb
      omega
    have hmvo : ∀ i, i < R → Tw.mv R (σ.next - R) i = i := by
      intro i hi'
      unfold Tw.mv
      have hb : Nat.blt i R = true := Nat.ble_eq_true_of_le hi'
      rw [hb]; rfl
    have hmvs : ∀ i, R ≤ i → i < m.n → ∀ v, φ₂ (Tw.mv R (σ.next - R) i) v = φ' i v := by
      intro i a b v
      rw [hmvn i a, hnew _ (by omega) (by omega), Nat.add_sub_cancel]
    have hmv : ∀ i v e, φ' i v = some e → φ₂ (Tw.mv R (σ.next - R) i) v = some e := by
      intro i v e he
      rcases Nat.lt_or_ge i R with h | h
      · rw [hmvo i h, hold i (by omega), ← hlow i h]; exact he
      · rcases Nat.lt_or_ge i m.n with h' | h'
        · rw [hmvs i h h']; exact he
        · rw [hp.grow i (.inr (by omega)) (by omega) v] at he
          have hnr : ¬ i < R := by omega
          simp [PM.low, hnr] at he
    -- the new ones lie in new blocks
    have hblk : ∀ k, R ≤ k → ∀ v e, φ' k v = some e → w.heap.size ≤ e.blk := by
      intro k hk v e he
      rcases hp.blk k v e he with ⟨u, f, hfu, _⟩ | h
      · have hnr : ¬ k < R := by omega
        simp [PM.low, hnr] at hfu
      · exact h
    have hkeep : ∀ b, b < w.heap.size → w'.heap[b]? = w.heap[b]? := fun b hb => hp.frm.keep b hb fun j hj v e he => by
      have := l1 j hj
      have hnr : ¬ j < R := by omega
      simp [PM.low, hnr] at he
    have hle2 : φ.le φ₂ := by
      intro i v e he
      by_cases h : σ.next ≤ i ∧ i < m.n + (σ.next - R)
      · rw [hnone i h.1 h.2 v] at he; cases he
      · rw [hold i h]; exact he
    have hsz := hp.frm.size
    refine ⟨φ₂, v', rfl, by rw [← k1]; exact hv.mv hmv, ?_⟩
    exact {
      le := hle2
      grow := fun i _ hn v => hold i hn v
      wrR := fun i h => .inl h
      wf := {
        inj := fun i a e j b f he hfj hbk => by
          by_cases h : σ.next ≤ i ∧ i < m.n + (σ.next - R)
          · rw [hnew i h.1 h.2] at he
            by_cases h' : σ.next ≤ j ∧ j < m.n + (σ.next - R)
            · rw [hnew j h'.1 h'.2] at hfj
              rcases hp.wf.inj _ _ _ _ _ _ he hfj hbk with h3 | h3 <;> omega
            · rw [hold j h'] at hfj
              have h3 := hblk _ (by omega) a e he
              have h4 := hi.wf.lt _ _ _ hfj
              omega
          · rw [hold i h] at he
            by_cases h' : σ.next ≤ j ∧ j < m.n + (σ.next - R)
            · rw [hnew j h'.1 h'.2] at hfj
              have h3 := hblk _ (by omega) b f hfj
              have h4 := hi.wf.lt _ _ _ he
              omega
            · rw [hold j h'] at hfj
              exact hi.wf.inj _ _ _ _ _ _ he hfj hbk
        lt := fun i a e he => by
          by_cases h : σ.next ≤ i ∧ i < m.n + (σ.next - R)
          · rw [hnew i h.1 h.2] at he; exact hp.wf.lt _ _ _ he
          · rw [hold i h] at he; have := hi.wf.lt _ _ _ he; omega
        top := fun i a e he => by
          by_cases h : σ.next ≤ i ∧ i < m.n + (σ.next - R)
          · rw [hnew i h.1 h.2] at he; exact hp.wf.top _ _ _ he
          · rw [hold i h] at he; exact hi.wf.top _ _ _ he }
      blk := fun i a e he => by
        by_cases h : σ.next ≤ i ∧ i < m.n + (σ.next - R)
        · rw [hnew i h.1 h.2] at he; exact .inr (hblk _ (by omega) a e he)
        · rw [hold i h] at he; exact .inl ⟨a, e, he, rfl⟩
      rep := fun i hii => by
        show Rep R φ₂ w' i ((putAll R (σ.next - R) m.objs σ.heap).get i)
        rcases putAll_get R (σ.next - R) m.objs σ.heap i with h | ⟨k, o, hko, hik, h⟩
        · rw [h]
          rcases hii with ⟨hd, hn⟩ | ⟨hn1, _⟩
          · refine (hi.rep i hd hn).frame hle2 (fun v => hold i (by omega) v) fun v e he => hkeep _ (hi.wf.lt _ _ _ he)
          · rw [hi.dom i hn1]; trivial
        · rw [h]
          obtain ⟨q1, q2, q3⟩ := hobj k o hko
          have hrep := hp.rep k (.inr ⟨by omega, by omega⟩)
          rw [q3] at hrep
          have := Rep.mv (d := σ.next - R) hmv q1 (hmvs k q1 q2) hrep
          rw [hmvn k q1, ← hik] at this
          exact this
      frm := ⟨hsz, fun b hb _ => hkeep b hb, hp.frm.os, hp.frm.out, hp.frm.tape⟩ }
  · cases hok


omit [Val] in
theorem findH_ok {R : Nat} {args : List AV} {σ : St} : ∀ {l : List HMemo} {r : CR}, findH R args σ l = r → r ≠ .no → ∃ m ∈ l, m.ret R args σ = r := by
  intro l
  induction l with
  | nil => intro r h hr; exact absurd h.symm hr
  | cons m l ih =>
    intro r h hr
    simp only [findH] at h
    split at h
    · obtain ⟨m', h1, h2⟩ := ih h hr
      exact ⟨m', List.mem_cons_of_mem _ h1, h2⟩
    · exact ⟨m, by simp, h⟩
omit [Val] in
theorem tabH_mem : ∀ {ms : List HMemo} {f : FuncId} {l : List HMemo}, (tabH ms).get f = some l → ∀ m ∈ l, m ∈ ms ∧ m.f = f := by
  intro ms
  induction ms with
  | nil => intro f l h; simp [tabH, T.get_leaf] at h
  | cons x ms ih =>
    intro f l h m hm
    simp only [tabH, addH] at h
    rw [T.get_set] at h
    split at h
    · rename_i hf
      simp only [Option.some.injEq] at h
      subst h
      split at hm
      · rename_i l' hl'
        rcases List.mem_cons.1 hm with rfl | hm
        · exact ⟨by simp, hf.symm⟩
        · have := ih hl' m hm
          exact ⟨List.mem_cons_of_mem _ this.1, this.2.trans hf.symm⟩
      · simp only [List.mem_singleton] at hm
        subst hm
        exact ⟨by simp, hf.symm⟩
    · have := ih h m hm
      exact ⟨List.mem_cons_of_mem _ this.1, this.2⟩

omit [Val] in
theorem both_eq {R : Nat} {ms : List Memo} {hs : List HMemo} {f : FuncId} {args : List AV} {σ : St} {r : CR} (h : bothHk R (tabM ms) (tabH hs) f args σ = r) (hr : r ≠ .no) :
    (∃ m ∈ ms, m.f = f ∧ args = m.args ∧ m.ret R σ = r) ∨ ∃ m ∈ hs, m.f = f ∧ m.ret R args σ = r := by
  unfold bothHk at h
  split at h
  · unfold hmHk at h
    split at h
    · rename_i l hl
      obtain ⟨m, h1, h2⟩ := findH_ok h hr
      exact .inr ⟨m, (tabH_mem hl m h1).1, (tabH_mem hl m h1).2, h2⟩
    · exact absurd h.symm hr
  · unfold memoHk at h
    split at h
    · rename_i l hl
      obtain ⟨m, h1, h2, h3⟩ := findM_mem h hr
      exact .inl ⟨m, (tabM_mem hl m h1).1, (tabM_mem hl m h1).2, h2, h3⟩
    · exact absurd h.symm hr

/-- Both kinds of known calls. -/
theorem both_good {C : Cfg} {ms : List Memo} {hs : List HMemo} (hms : ∀ m ∈ ms, m.Sound P R C) (hhs : ∀ m ∈ hs, m.Sound P R C) : HkGood P R C (bothHk R (tabM ms) (tabH hs)) := by
  refine ⟨fun f args σ => ?_, fun f args σ D φ w args' hi ha => ⟨fun v σ' h hk hf => ?_, fun c σ' h hk hf => ?_⟩⟩
  · show (bothHk R (tabM ms) (tabH hs) f args σ).steps σ
    intro σ' hσ
    by_cases hn : bothHk R (tabM ms) (tabH hs) f args σ = .no
    · rw [hn] at hσ; cases hσ
    · rcases both_eq rfl hn with ⟨m, h1, h2, _, h3⟩ | ⟨m, h1, h2, h3⟩
      · rw [← h3] at hσ; exact Memo.ret_step (hms m h1).1 σ σ' hσ
      · rw [← h3] at hσ; exact HMemo.ret_step (hhs m h1).1 args σ σ' hσ
  · have h : bothHk R (tabM ms) (tabH hs) f args σ = .ret v σ' := h
    rcases both_eq h (by simp) with ⟨m, h1, h2, h4, h3⟩ | ⟨m, h1, h2, h3⟩
    · subst h4
      rw [← h2]
      exact (hms m h1).2 σ D φ w args' hi.hk ha v σ' h3 hf
    · rw [← h2]
      exact (hhs m h1).2 σ D φ w args args' hi.hk ha v σ' h3 hk hf
  · have h : bothHk R (tabM ms) (tabH hs) f args σ = .pan c σ' := h
    rcases both_eq h (by simp) with ⟨m, h1, h2, h4, h3⟩ | ⟨m, h1, h2, h3⟩
    · have := (Memo.ret_eq h3 (by simp)).2; cases this
    · obtain ⟨_, _, _, _, _, h⟩ := HMemo.ret_eq h3 (by simp); cases h

theorem hsound_nil {C : Cfg} : ∀ m ∈ ([] : List HMemo), m.Sound P R C := fun _ h => by cases h
theorem hsound_cons {C : Cfg} {m : HMemo} {ms : List HMemo} (h : m.Sound P R C) (k : ∀ m ∈ ms, m.Sound P R C) : ∀ x ∈ m :: ms, x.Sound P R C := fun x hx => by
  rcases List.mem_cons.1 hx with rfl | hx
  · exact h
  · exact k x hx

omit [Val] in
theorem tab_base {l : Tabs} (hlt : tabLt R l = true) : (∀ i, R ≤ i → (tabSt R l).heap.get i = none) ∧ (∀ i, i < R → (tabSt R l).heap.get i = (tabCfg l).base i) ∧ ∀ g k, (tabCfg l).gl g = some k → g < R :=
  ⟨fun i hi => by
      show (tabHeap l .leaf).get i = none
      rw [tabHeap_get]
      cases h : tabAt l i with
      | none => rfl
      | some c => have := tabAt_lt hlt h; omega,
    fun i _ => tabHeap_get l i, fun g k h => by
      have h : (match tabAt l g with
        | some c => some c.length
        | none => none) = some k := h
      split at h
      · rename_i c hc; exact tabAt_lt hlt hc
      · cases h⟩
/-- Known calls with tables given, of both kinds. -/
theorem memo_both {l : Tabs} {ms : List Memo} {hs : List HMemo} (hms : ∀ m ∈ ms, m.Sound P R (tabCfg l)) (hhs : ∀ m ∈ hs, m.Sound P R (tabCfg l)) (hm : P.follows .mixedOrders = true) (hlt : tabLt R l = true) {n : Nat} {m : Memo}
    (hok : m.ok P { tabCfg l with hk := bothHk R (tabM ms) (tabH hs) } n R (tabSt R l) = true) : m.Sound P R (tabCfg l) :=
  memo_soundG (both_good hms hhs) hm rfl rfl rfl (tab_base hlt).1 (tab_base hlt).2.1 (tab_base hlt).2.2 hok
theorem hmemo_both {l : Tabs} {ms : List Memo} {hs : List HMemo} (hms : ∀ m ∈ ms, m.Sound P R (tabCfg l)) (hhs : ∀ m ∈ hs, m.Sound P R (tabCfg l)) (hm : P.follows .mixedOrders = true) (hlt : tabLt R l = true) {n : Nat} {m : HMemo}
    (hok : m.ok P { tabCfg l with hk := bothHk R (tabM ms) (tabH hs) } n R (tabSt R l) = true) : m.Sound P R (tabCfg l) :=
  hmemo_sound (both_good hms hhs) hm rfl (tab_base hlt).1 (tab_base hlt).2.1 (tab_base hlt).2.2 hok
end
end Go.Tw
