/-
  A part of the proof that the abstract evaluator is sound for the model's machine. Conditions: those of each theorem, as it states them.
-/
import Derived.Test.YtgcpcgaigbnniaaGreatTwF
import Derived.ProofKit
set_option linter.all false
namespace Go.Tw
/-! Values and objects at other numbers: those from R on are moved up by d. -/
section
variable (R d : Nat)
def mv (i : Nat) : Nat := bif Nat.blt i R then i else i + d
mutual
def AV.mv : AV → AV
  | .ptr id ver off hi => .ptr (Tw.mv R d id) ver off hi
  | .slc id ver off len cap esz => .slc (Tw.mv R d id) ver off len cap esz
  | .map id => .map (Tw.mv R d id)
  | .yld id => .yld (Tw.mv R d id)
  | .fn f a b => .fn f (mvL a) (mvL b)
  | .iface t v => .iface t v.mv
  | .agg l => .agg (mvL l)
  | .tup l => .tup (mvL l)
  | .bool b => .bool b
  | .int k n => .int k n
  | .sym k e => .sym k e
  | .symb b => .symb b
  | .sslc e => .sslc e
  | .sstr e => .sstr e
  | .vstr e => .vstr e
  | .str s => .str s
  | .nilp => .nilp
  | .nils => .nils
  | .nilm => .nilm
  | .anyp => .anyp
  | .unk => .unk
  | .nilfn => .nilfn
  | .nili => .nili
  | .opq .. => .unk
def mvL : List AV → List AV
  | [] => []
  | v :: l => v.mv :: mvL l
end
def mvE : List (AV × AV × Nat) → List (AV × AV × Nat)
  | [] => []
  | (k, v, n) :: l => (k.mv R d, v.mv R d, n) :: mvE l
def Ob.mv : Ob → Ob
  | .box c t => .box (mvL R d c) t
  | .ro c => .ro (mvL R d c)
  | .arr c base lim since nv et => .arr (mvL R d c) base lim since nv et
  | .map es clock => .map (mvE R d es) clock
  | .iter s pos => .iter s pos
  | .dfr => .dead
  | .miter .. => .dead
  | .loop .. => .dead
  | .opq .. => .dead
  | .dead => .dead
end
section
variable [Val] {R d : Nat} {φ ψ : PM}
mutual
theorem VR.mv (h : ∀ i v e, φ i v = some e → ψ (Tw.mv R d i) v = some e) : ∀ {v : AV} {v' : Value}, VR φ v v' → VR ψ (v.mv R d) v'
  | _, _, .bool b => .bool b
  | _, _, .int k n => .int k n
  | _, _, .sym k e => .sym k e
  | _, _, .symb b => .symb b
  | _, _, .sslc a l c h => .sslc a l c h
  | _, _, .sstr s h => .sstr s h
  | _, _, .vstr s h => .vstr s h
  | _, _, .str s => .str s
  | _, _, .nilp => .nilp
  | _, _, .ptr e o he hd hh ho => .ptr e o (h _ _ _ he) hd hh ho
  | _, _, .nils => .nils
  | _, _, .slc e o c he hd hh hl hc ho => .slc e o c (h _ _ _ he) hd hh hl hc ho
  | _, _, .nilm => .nilm
  | _, _, .map e he => .map e (h _ _ _ he)
  | _, _, .yld e he => .yld e (h _ _ _ he)
  | _, _, .anyp p => .anyp p
  | _, _, .unk v hv => .unk v hv
  | _, _, .fn f a' b' ha hb => .fn f a' b' (VRL.mv h ha) (VRL.mv h hb)
  | _, _, .nilfn => .nilfn
  | _, _, .iface t hv => .iface t (VR.mv h hv)
  | _, _, .nili => .nili
  | _, _, .agg l' hl => .agg l' (VRL.mv h hl)
  | _, _, .tup l' hl => .tup l' (VRL.mv h hl)
  | _, _, .opq v hk => .unk v hk.one
theorem VRL.mv (h : ∀ i v e, φ i v = some e → ψ (Tw.mv R d i) v = some e) : ∀ {l : List AV} {l' : List Value}, VRL φ l l' → VRL ψ (mvL R d l) l'
  | _, _, .nil => .nil
  | _, _, .cons hv ht => .cons (VR.mv h hv) (VRL.mv h ht)
end
omit [Val] in
theorem mvL_length : ∀ l : List AV, (mvL R d l).length = l.length := by
  intro l
  induction l with
  | nil => rfl
  | cons v l ih => simp [mvL, ih]
omit [Val] in
theorem mvL_get : ∀ (l : List AV) (i : Nat), (mvL R d l)[i]? = (l[i]?).map (·.mv R d) := by
  intro l
  induction l with
  | nil => intro i; simp [mvL]
  | cons v l ih => intro i; cases i <;> simp [mvL, ih]
theorem ER.mv (h : ∀ i v e, φ i v = some e → ψ (Tw.mv R d i) v = some e) {l : List (AV × AV × Nat)} {l' : List MapEntry} (k : ER φ l l') : ER ψ (mvE R d l) l' := by
  induction k with
  | nil => exact .nil
  | cons hk hv _ ih => exact .cons (hk.mv h) (hv.mv h) ih
theorem Rep.mv (h : ∀ i v e, φ i v = some e → ψ (Tw.mv R d i) v = some e) {w : World} {id : Nat} {o : Ob} (hid : R ≤ id) (hs : ∀ v, ψ (Tw.mv R d id) v = φ id v)
    (k : Rep R φ w id (some o)) : Rep R ψ w (Tw.mv R d id) (some (o.mv R d)) := by
  have hR' : R ≤ Tw.mv R d id := by
    unfold Tw.mv
    rw [cond_eq_ite]
    split <;> omega
  cases o with
  | dead => trivial
  | dfr => trivial
  | loop => trivial
  | miter => trivial
  | opq => trivial
  | box c t =>
    obtain ⟨hR, e, cs, fl, fh, he, hb, h1, h2, h3, h4, h5, h6⟩ := k
    exact ⟨hR', e, cs, fl, fh, (hs _).trans he, hb, h1, h2, by rw [mvL_length]; exact h3, by rw [mvL_length]; exact h4, h5.mv h, by rw [mvL_length]; exact h6⟩
  | ro c =>
    obtain ⟨e, cs, t, fr, he, hb, h1, h2, h3⟩ := k
    exact ⟨e, cs, t, fr, (hs _).trans he, hb, h1, by rw [mvL_length]; exact h2, by rw [mvL_length]; exact h3.mv h⟩
  | arr c base lim since nv fz =>
    obtain ⟨hR, h1, h2, h3, h4, h5, h6, h7⟩ := k
    refine ⟨hR', by rw [mvL_length]; exact h1, h2, h3, fun v hv => (hs _).trans (h4 v hv), fun v hv => ?_,
      fun v₁ v₂ e₁ e₂ a1 a2 b1 b2 => h6 v₁ v₂ e₁ e₂ a1 a2 ((hs _).symm.trans b1) ((hs _).symm.trans b2),
      fun v e a1 a2 a3 a4 => by rw [mvL_length]; exact h7 v e a1 a2 a3 ((hs _).symm.trans a4)⟩
    obtain ⟨e, cs, fl, fh, he, hb, k1, k2, k3, k4, k5⟩ := h5 v hv
    refine ⟨e, cs, fl, fh, (hs _).trans he, hb, k1, k2, by rw [mvL_length]; exact k3, k4, fun x a x1 x2 x3 => ?_⟩
    rw [mvL_get] at x3
    cases hx : c[x]? with
    | none => rw [hx] at x3; cases x3
    | some b =>
      rw [hx] at x3
      simp only [Option.map_some, Option.some.injEq] at x3
      subst x3
      obtain ⟨a', y1, y2⟩ := k5 x b x1 x2 hx
      exact ⟨a', y1, y2.mv h⟩
  | map es clock =>
    obtain ⟨hR, e, es', he, hb, h1⟩ := k
    exact ⟨hR', e, es', (hs _).trans he, hb, h1.mv h⟩
  | iter s pos =>
    obtain ⟨hR, e, he, hb, h1⟩ := k
    exact ⟨hR', e, (hs _).trans he, hb, h1⟩
end
end Go.Tw
namespace Go.Tw
noncomputable section
structure Memo where
  f : FuncId
  args : List AV
  v : AV
  objs : List (Nat × Ob)
  n : Nat
mutual
def AV.pure : AV → Bool
  | .ptr .. => false
  | .slc .. => false
  | .map _ => false
  | .yld _ => false
  | .fn _ a b => pureL a && pureL b
  | .iface _ v => v.pure
  | .agg l => pureL l
  | .tup l => pureL l
  | .opq .. => false
  | _ => true
def pureL : List AV → Bool
  | [] => true
  | v :: l => v.pure && pureL l
end
section
variable [Val] {φ ψ : PM}
mutual
theorem VR.pure : ∀ {v : AV} {v' : Value}, VR φ v v' → v.pure = true → VR ψ v v'
  | _, _, .bool b, _ => .bool b
  | _, _, .int k n, _ => .int k n
  | _, _, .sym k e, _ => .sym k e
  | _, _, .symb b, _ => .symb b
  | _, _, .sslc a l c h, _ => .sslc a l c h
  | _, _, .sstr s h, _ => .sstr s h
  | _, _, .vstr s h, _ => .vstr s h
  | _, _, .str s, _ => .str s
  | _, _, .nilp, _ => .nilp
  | _, _, .ptr .., h => by simp [AV.pure] at h
  | _, _, .nils, _ => .nils
  | _, _, .slc .., h => by simp [AV.pure] at h
  | _, _, .nilm, _ => .nilm
  | _, _, .map .., h => by simp [AV.pure] at h
  | _, _, .yld .., h => by simp [AV.pure] at h
  | _, _, .anyp p, _ => .anyp p
  | _, _, .unk v hv, _ => .unk v hv
  | _, _, .fn f a' b' ha hb, h => by
    simp only [AV.pure, Bool.and_eq_true] at h
    exact .fn f a' b' (VRL.pure ha h.1) (VRL.pure hb h.2)
  | _, _, .nilfn, _ => .nilfn
  | _, _, .iface t hv, h => by simp only [AV.pure] at h; exact .iface t (VR.pure hv h)
  | _, _, .nili, _ => .nili
  | _, _, .agg l' hl, h => by simp only [AV.pure] at h; exact .agg l' (VRL.pure hl h)
  | _, _, .tup l' hl, h => by simp only [AV.pure] at h; exact .tup l' (VRL.pure hl h)
  | _, _, .opq .., h => by simp [AV.pure] at h
theorem VRL.pure : ∀ {l : List AV} {l' : List Value}, VRL φ l l' → pureL l = true → VRL ψ l l'
  | _, _, .nil, _ => .nil
  | _, _, .cons hv ht, h => by
    simp only [pureL, Bool.and_eq_true] at h
    exact .cons (VR.pure hv h.1) (VRL.pure ht h.2)
end
end
def putAll (R d : Nat) : List (Nat × Ob) → T Ob → T Ob
  | [], h => h
  | (k, o) :: l, h => putAll R d l (h.set (k + d) (o.mv R d))
def Memo.ret (R : Nat) (m : Memo) (σ : St) : CR :=
  bif Nat.ble R σ.next then
    .ret (m.v.mv R (σ.next - R)) { σ with heap := putAll R (σ.next - R) m.objs σ.heap, next := m.n + (σ.next - R) }
  else .no
def Memo.ok (P : Program) (C : Cfg) (n R : Nat) (β : St) (m : Memo) : Bool :=
  match callN P C n m.f m.args β with
  | .ret v τ => v.same m.v && Nat.beq τ.next m.n && Nat.ble R m.n && pureL m.args && m.objs.all (fun p => Nat.ble R p.1 && Nat.blt p.1 m.n && (match τ.heap.get p.1 with
    | some o => o.same p.2
    | none => false))
  | _ => false
def findM (R : Nat) (args : List AV) (σ : St) : List Memo → CR
  | [] => .no
  | m :: l => bif sameL args m.args then m.ret R σ else findM R args σ l
def addM (m : Memo) (t : T (List Memo)) : T (List Memo) := t.set m.f (match t.get m.f with
  | some l => m :: l
  | none => [m])
def tabM : List Memo → T (List Memo)
  | [] => .leaf
  | m :: l => addM m (tabM l)
def memoHk (R : Nat) (t : T (List Memo)) (f : FuncId) (args : List AV) (σ : St) : CR :=
  match t.get f with
  | some l => findM R args σ l
  | none => .no
theorem tabM_mem : ∀ {ms : List Memo} {f : FuncId} {l : List Memo}, (tabM ms).get f = some l → ∀ m ∈ l, m ∈ ms ∧ m.f = f := by
  intro ms
  induction ms with
  | nil => intro f l h; simp [tabM, T.get_leaf] at h
  | cons x ms ih =>
    intro f l h m hm
    simp only [tabM, addM] at h
    rw [T.get_set] at h
    split at h
    · rename_i hf
      simp only [Option.some.injEq] at h
      subst h
      split at hm
      · rename_i l' hl'
        rcases List.mem_cons.1 hm with rfl | hm
        · exact ⟨by simp, hf.symm⟩
        · have := ih hl' m hm
          exact ⟨List.mem_cons_of_mem _ this.1, this.2.trans hf.symm⟩
      · simp only [List.mem_singleton] at hm
        subst hm
        exact ⟨by simp, hf.symm⟩
    · have := ih h m hm
      exact ⟨List.mem_cons_of_mem _ this.1, this.2⟩
theorem findM_mem {R : Nat} {args : List AV} {σ : St} : ∀ {l : List Memo} {r : CR}, findM R args σ l = r → r ≠ .no → ∃ m ∈ l, args = m.args ∧ m.ret R σ = r := by
  intro l
  induction l with
  | nil => intro r h hr; exact absurd h.symm hr
  | cons m l ih =>
    intro r h hr
    simp only [findM, cond_eq_ite] at h
    split at h
    · rename_i hs
      exact ⟨m, by simp, sameL_eq hs, h⟩
    · obtain ⟨m', h1, h2⟩ := ih h hr
      exact ⟨m', List.mem_cons_of_mem _ h1, h2⟩
theorem putAll_get (R d : Nat) : ∀ (l : List (Nat × Ob)) (h : T Ob) (i : Nat), (putAll R d l h).get i = h.get i ∨ ∃ k o, (k, o) ∈ l ∧ i = k + d ∧ (putAll R d l h).get i = some (o.mv R d) := by
  intro l
  induction l with
  | nil => intro h i; exact .inl rfl
  | cons x l ih =>
    intro h i
    obtain ⟨k, o⟩ := x
    simp only [putAll]
    rcases ih (h.set (k + d) (o.mv R d)) i with h1 | ⟨k', o', h1, h2, h3⟩
    · rw [h1, T.get_set]
      split
      · rename_i e; exact .inr ⟨k, o, by simp, e, rfl⟩
      · exact .inl rfl
    · exact .inr ⟨k', o', List.mem_cons_of_mem _ h1, h2, h3⟩
def Memo.Sound [Val] (P : Program) (R : Nat) (C : Cfg) (m : Memo) : Prop :=
  (R ≤ m.n ∧ ∀ k o, (k, o) ∈ m.objs → R ≤ k ∧ k < m.n) ∧
  ∀ (σ : St) (D : Nat → Prop) (φ : PM) (w : World) (args' : Array Value), Inv R C D φ σ w → VRL φ m.args args'.toList → ∀ v σ', m.ret R σ = .ret v σ' → Free φ σ σ' →
    Calls P m.f args' w fun e w' => ∃ φ' v', e = .returned v' ∧ VR φ' v v' ∧ Post R D φ σ w σ' φ' w'
theorem Memo.ret_eq {R : Nat} {m : Memo} {σ : St} {r : CR} (h : m.ret R σ = r) (hr : r ≠ .no) : R ≤ σ.next ∧
    r = .ret (m.v.mv R (σ.next - R)) { σ with heap := putAll R (σ.next - R) m.objs σ.heap, next := m.n + (σ.next - R) } := by
  unfold Memo.ret at h
  rw [cond_eq_ite] at h
  split at h
  · rename_i hle; exact ⟨ble_t hle, h.symm⟩
  · exact absurd h.symm hr
theorem Memo.ret_step {R : Nat} {m : Memo} (hm : R ≤ m.n ∧ ∀ k o, (k, o) ∈ m.objs → R ≤ k ∧ k < m.n) (σ : St) : (m.ret R σ).steps σ := by
  intro σ' hs
  cases hr : m.ret R σ with
  | no => rw [hr] at hs; cases hs
  | pan c τ => have := (Memo.ret_eq hr (by simp)).2; cases this
  | ret v τ =>
    obtain ⟨hle, he⟩ := Memo.ret_eq hr (by simp)
    rw [hr] at hs
    simp only [CR.st, Option.some.injEq] at hs
    subst hs
    simp only [CR.ret.injEq] at he
    obtain ⟨_, rfl⟩ := he
    exact {
      next := by show σ.next ≤ m.n + (σ.next - R); omega
      rd := fun _ h => h
      wr := fun _ h => h
      keep := fun i hi _ => by
        rcases putAll_get R (σ.next - R) m.objs σ.heap i with h | ⟨k, o, h1, h2, _⟩
        · exact h
        · have := hm.2 k o h1; omega
      dom := fun hd i hi => by
        have hi : m.n + (σ.next - R) ≤ i := hi
        rcases putAll_get R (σ.next - R) m.objs σ.heap i with h | ⟨k, o, h1, h2, _⟩
        · exact h.trans (hd i (by omega))
        · have := hm.2 k o h1; omega
      wlt := fun _ i h => .inl h }
section
variable [Val] {P : Program} {R : Nat}
theorem memo_steps {C : Cfg} {ms : List Memo} (hms : ∀ m ∈ ms, m.Sound P R C) : HkSteps { C with hk := memoHk R (tabM ms) } := by
  intro f args σ σ' hs
  cases hr : memoHk R (tabM ms) f args σ with
  | no => simp only [hr] at hs; cases hs
  | pan c τ =>
    unfold memoHk at hr
    split at hr
    · rename_i l hl
      obtain ⟨m, hm, _, h⟩ := findM_mem hr (by simp)
      have := (Memo.ret_eq h (by simp)).2; cases this
    · cases hr
  | ret v τ =>
    have hr' := hr
    unfold memoHk at hr'
    split at hr'
    · rename_i l hl
      obtain ⟨m, hm, _, h⟩ := findM_mem hr' (by simp)
      simp only [hr] at hs
      refine (Memo.ret_step (hms m (tabM_mem hl m hm).1).1 σ) σ' ?_
      rw [h]; exact hs
    · cases hr'
theorem Inv.hk {C : Cfg} {h : FuncId → List AV → St → CR} {D : Nat → Prop} {φ : PM} {σ : St} {w : World} (k : Inv R { C with hk := h } D φ σ w) : Inv R C D φ σ w :=
  ⟨k.wf, k.low, k.rep, k.gl, k.dom, k.pin, k.dec, k.wrR, k.ro, k.oh⟩
theorem memo_hkok {C : Cfg} {ms : List Memo} (hms : ∀ m ∈ ms, m.Sound P R C) : HkOk P R { C with hk := memoHk R (tabM ms) } := by
  intro f args σ D φ w args' hi ha
  refine ⟨fun v σ' h hk hf => ?_, fun c σ' h hk hf => ?_⟩
  · have h : memoHk R (tabM ms) f args σ = .ret v σ' := h
    unfold memoHk at h
    split at h
    · rename_i l hl
      obtain ⟨m, hm, he, hret⟩ := findM_mem h (by simp)
      obtain ⟨h1, h2⟩ := tabM_mem hl m hm
      subst he
      rw [← h2]
      exact (hms m h1).2 σ D φ w args' hi.hk ha v σ' hret hf
    · cases h
  · have h : memoHk R (tabM ms) f args σ = .pan c σ' := h
    unfold memoHk at h
    split at h
    · rename_i l hl
      obtain ⟨m, hm, _, h⟩ := findM_mem h (by simp)
      have := (Memo.ret_eq h (by simp)).2; cases this
    · cases h
theorem memo_soundH {C : Cfg} {hk : FuncId → List AV → St → CR} (hs : HkSteps { C with hk := hk }) (hh : HkOk P R { C with hk := hk }) (hm : P.follows .mixedOrders = true) {n : Nat} {β : St} {m : Memo}
    (h1 : β.next = R) (_ : β.rd = []) (h3 : β.wr = []) (h4 : ∀ i, R ≤ i → β.heap.get i = none) (h5 : ∀ i, i < R → β.heap.get i = C.base i)
    (hgl : ∀ g k, C.gl g = some k → g < R) (hok : m.ok P { C with hk := hk } n R β = true) : m.Sound P R C := by
  unfold Memo.ok at hok
  split at hok
  · rename_i v τ hc
    simp only [Bool.and_eq_true] at hok
    obtain ⟨⟨⟨⟨k1, k2⟩, k3⟩, k4⟩, k5⟩ := hok
    have k1 := AV.same_eq k1
    have k2 := beq_t k2
    have k3 := ble_t k3
    have hobj : ∀ k o, (k, o) ∈ m.objs → R ≤ k ∧ k < m.n ∧ τ.heap.get k = some o := by
      intro k o hko
      have := List.all_eq_true.1 k5 (k, o) hko
      simp only [Bool.and_eq_true] at this
      refine ⟨ble_t this.1.1, blt_t this.1.2, ?_⟩
      have h := this.2
      split at h
      · rename_i o' ho'
        rw [ho', Ob.same_eq h]
      · cases h
    refine ⟨⟨k3, fun k o hko => ⟨(hobj k o hko).1, (hobj k o hko).2.1⟩⟩, fun σ D φ w args' hi ha u σ' hr hf => ?_⟩
    obtain ⟨hle, he⟩ := Memo.ret_eq hr (by simp)
    simp only [CR.ret.injEq] at he
    obtain ⟨rfl, rfl⟩ := he
    -- the run from what is given
    have hib : Inv R { C with hk := hk } (fun i => i < R) (φ.low R) β w := {
      wf := ⟨fun i v e j u f a b c => hi.wf.inj i v e j u f (PM.low_le φ R _ _ _ a) (PM.low_le φ R _ _ _ b) c, fun i v e a => hi.wf.lt i v e (PM.low_le φ R _ _ _ a), fun i v e a => hi.wf.top i v e (PM.low_le φ R _ _ _ a)⟩
      low := by omega
      rep := fun i hi' _ => by rw [h5 i hi']; exact hi.ro i hi'
      gl := fun g k hg => by
        obtain ⟨e, he, hx⟩ := hi.gl g k hg
        exact ⟨e, by rw [PM.low_lt _ (hgl g k hg)]; exact he, hx⟩
      dom := fun i hi' => h4 i (by omega)
      pin := hi.pin
      dec := hi.dec
      oh := hi.oh
      wrR := fun i hi' => by rw [h3] at hi'; cases hi'
      ro := fun i hi' => by
        have hll : (φ.low R).low R = φ.low R := by
          funext i v; unfold PM.low; split <;> rfl
        rw [hll]; exact hi.ro i hi' }
    have hkb : Known (fun i => i < R) β τ := fun i _ hn => by rw [h1] at hn; exact hn
    have hfb : Free (φ.low R) β τ := fun i ha' _ v => by
      have : ¬ i < R := by omega
      simp [PM.low, this]
    have hcalls := callN_calls hs hh hm hc hib (ha.pure k4) hkb hfb
    refine hcalls.mono fun e w' hq => ?_
    obtain ⟨φ', v', rfl, hv, hp⟩ := hq
    obtain ⟨l1, l2⟩ := hp.lows (by omega) (fun i hi' => by rw [h3] at hi'; cases hi')
    -- where all lies
    have hlow : ∀ i, i < R → ∀ v, φ' i v = φ i v := by
      intro i hi' v
      have := congrFun (congrFun l2 i) v
      rw [PM.low_lt _ hi', PM.low_lt _ hi', PM.low_lt _ hi'] at this
      exact this
    let φ₂ : PM := fun i v => if σ.next ≤ i ∧ i < m.n + (σ.next - R) then φ' (i - (σ.next - R)) v else φ i v
    have hold : ∀ i, ¬ (σ.next ≤ i ∧ i < m.n + (σ.next - R)) → ∀ v, φ₂ i v = φ i v := fun i hi' v => by show (if _ then _ else _) = _; rw [if_neg hi']
    have hnew : ∀ i, σ.next ≤ i → i < m.n + (σ.next - R) → ∀ v, φ₂ i v = φ' (i - (σ.next - R)) v := fun i a b v => by show (if _ then _ else _) = _; rw [if_pos ⟨a, b⟩]
    have hnone : ∀ i, σ.next ≤ i → i < m.n + (σ.next - R) → ∀ v, φ i v = none := fun i a b v => hf i a b v
    have hmvn : ∀ i, R ≤ i → Tw.mv R (σ.next - R) i = i + (σ.next - R) := by
      intro i hi'
      unfold Tw.mv
      rw [cond_eq_ite, if_neg]
      intro hb
      have := blt_t hb
      omega
    have hmvo : ∀ i, i < R → Tw.mv R (σ.next - R) i = i := by
      intro i hi'
      unfold Tw.mv
      have hb : Nat.blt i R = true := Nat.ble_eq_true_of_le hi'
      rw [hb]; rfl
    have hmvs : ∀ i, R ≤ i → i < m.n → ∀ v, φ₂ (Tw.mv R (σ.next - R) i) v = φ' i v := by
      intro i a b v
      rw [hmvn i a, hnew _ (by omega) (by omega), Nat.add_sub_cancel]
    have hmv : ∀ i v e, φ' i v = some e → φ₂ (Tw.mv R (σ.next - R) i) v = some e := by
      intro i v e he
      rcases Nat.lt_or_ge i R with h | h
      · rw [hmvo i h, hold i (by omega), ← hlow i h]; exact he
      · rcases Nat.lt_or_ge i m.n with h' | h'
        · rw [hmvs i h h']; exact he
        · rw [hp.grow i (.inr (by omega)) (by omega) v] at he
          have hnr : ¬ i < R := by omega
          simp [PM.low, hnr] at he
    -- the new ones lie in new blocks
    have hblk : ∀ k, R ≤ k → ∀ v e, φ' k v = some e → w.heap.size ≤ e.blk := by
      intro k hk v e he
      rcases hp.blk k v e he with ⟨u, f, hfu, _⟩ | h
      · have hnr : ¬ k < R := by omega
        simp [PM.low, hnr] at hfu
      · exact h
    have hkeep : ∀ b, b < w.heap.size → w'.heap[b]? = w.heap[b]? := fun b hb => hp.frm.keep b hb fun j hj v e he => by
      have := l1 j hj
      have hnr : ¬ j < R := by omega
      simp [PM.low, hnr] at he
    have hle2 : φ.le φ₂ := by
      intro i v e he
      by_cases h : σ.next ≤ i ∧ i < m.n + (σ.next - R)
      · rw [hnone i h.1 h.2 v] at he; cases he
      · rw [hold i h]; exact he
    have hsz := hp.frm.size
    refine ⟨φ₂, v', rfl, by rw [← k1]; exact hv.mv hmv, ?_⟩
    exact {
      le := hle2
      grow := fun i _ hn v => hold i hn v
      wrR := fun i h => .inl h
      wf := {
        inj := fun i a e j b f he hfj hbk => by
          by_cases h : σ.next ≤ i ∧ i < m.n + (σ.next - R)
          · rw [hnew i h.1 h.2] at he
            by_cases h' : σ.next ≤ j ∧ j < m.n + (σ.next - R)
            · rw [hnew j h'.1 h'.2] at hfj
              rcases hp.wf.inj _ _ _ _ _ _ he hfj hbk with h3 | h3 <;> omega
            · rw [hold j h'] at hfj
              have h3 := hblk _ (by omega) a e he
              have h4 := hi.wf.lt _ _ _ hfj
              omega
          · rw [hold i h] at he
            by_cases h' : σ.next ≤ j ∧ j < m.n + (σ.next - R)
            · rw [hnew j h'.1 h'.2] at hfj
              have h3 := hblk _ (by omega) b f hfj
              have h4 := hi.wf.lt _ _ _ he
              omega
            · rw [hold j h'] at hfj
              exact hi.wf.inj _ _ _ _ _ _ he hfj hbk
        lt := fun i a e he => by
          by_cases h : σ.next ≤ i ∧ i < m.n + (σ.next - R)
          · rw [hnew i h.1 h.2] at he; exact hp.wf.lt _ _ _ he
          · rw [hold i h] at he; have := hi.wf.lt _ _ _ he; omega
        top := fun i a e he => by
          by_cases h : σ.next ≤ i ∧ i < m.n + (σ.next - R)
          · rw [hnew i h.1 h.2] at he; exact hp.wf.top _ _ _ he
          · rw [hold i h] at he; exact hi.wf.top _ _ _ he }
      blk := fun i a e he => by
        by_cases h : σ.next ≤ i ∧ i < m.n + (σ.next - R)
        · rw [hnew i h.1 h.2] at he; exact .inr (hblk _ (by omega) a e he)
        · rw [hold i h] at he; exact .inl ⟨a, e, he, rfl⟩
      rep := fun i hii => by
        show Rep R φ₂ w' i ((putAll R (σ.next - R) m.objs σ.heap).get i)
        rcases putAll_get R (σ.next - R) m.objs σ.heap i with h | ⟨k, o, hko, hik, h⟩
        · rw [h]
          rcases hii with ⟨hd, hn⟩ | ⟨hn1, _⟩
          · refine (hi.rep i hd hn).frame hle2 (fun v => hold i (by omega) v) fun v e he => hkeep _ (hi.wf.lt _ _ _ he)
          · rw [hi.dom i hn1]; trivial
        · rw [h]
          obtain ⟨q1, q2, q3⟩ := hobj k o hko
          have hrep := hp.rep k (.inr ⟨by omega, by omega⟩)
          rw [q3] at hrep
          have := Rep.mv (d := σ.next - R) hmv q1 (hmvs k q1 q2) hrep
          rw [hmvn k q1, ← hik] at this
          exact this
      frm := ⟨hsz, fun b hb _ => hkeep b hb, hp.frm.os, hp.frm.out, hp.frm.tape⟩ }
  · cases hok
theorem memo_sound {C : Cfg} {ms : List Memo} (hms : ∀ m ∈ ms, m.Sound P R C) (hm : P.follows .mixedOrders = true) {n : Nat} {β : St} {m : Memo}
    (h1 : β.next = R) (h2 : β.rd = []) (h3 : β.wr = []) (h4 : ∀ i, R ≤ i → β.heap.get i = none) (h5 : ∀ i, i < R → β.heap.get i = C.base i)
    (hgl : ∀ g k, C.gl g = some k → g < R) (hok : m.ok P { C with hk := memoHk R (tabM ms) } n R β = true) : m.Sound P R C :=
  memo_soundH (memo_steps hms) (memo_hkok hms) hm h1 h2 h3 h4 h5 hgl hok
def strN (l : List Nat) : AV := .str (l.map UInt8.ofNat)
open Go.ChangeShapes Go.RowKit in
end
end
end Go.Tw
namespace Go.Tw
open Go.ChangeShapes Go.RowKit
end Go.Tw
namespace Go.Tw
open Go.ChangeShapes Go.RowKit
/-! Numbers of 64 bits, as plain arithmetic. -/
theorem wrap_i64 (n : Int) : wrapI .i64 n = if n % 18446744073709551616 ≥ 9223372036854775808 then n % 18446744073709551616 - 18446744073709551616 else n % 18446744073709551616 := by
  rw [wrapI_eq]
  unfold IntKind.wrap
  have e1 : (2 ^ IntKind.i64.bits : Int) = 18446744073709551616 := by decide
  have e2 : (2 ^ (IntKind.i64.bits - 1) : Int) = 9223372036854775808 := by decide
  have e3 : IntKind.i64.signed = true := rfl
  simp only [e1, e2, e3, Bool.true_and, decide_eq_true_eq]
theorem wrap_u64 (n : Int) : wrapI .u64 n = n % 18446744073709551616 := by
  rw [wrapI_eq]
  unfold IntKind.wrap
  have e1 : (2 ^ IntKind.u64.bits : Int) = 18446744073709551616 := by decide
  have e3 : IntKind.u64.signed = false := rfl
  simp only [e1, e3, Bool.false_and, Bool.false_eq_true, if_false]
theorem tmod_lit (a : Int) (n : Nat) : a.tmod (n : Int) = if 0 ≤ a then a % n else -((-a) % n) := by
  split
  · rename_i h; exact Int.tmod_eq_emod_of_nonneg h
  · rename_i h
    have : a = -(-a) := by omega
    rw [this, Int.neg_tmod, Int.tmod_eq_emod_of_nonneg (by omega)]
    simp
theorem bits_ofInt (a : Int) : (BitVec.ofInt 64 a).toNat = (a % 18446744073709551616).toNat := by
  rw [BitVec.toNat_ofInt]
  rfl
theorem and_mask (a : Int) (j : Nat) (hj : j ≤ 62) : bitsA .i64 (· &&& ·) a (2 ^ j - 1) = a % 2 ^ j := by
  have hp : (2 : Nat) ^ j ≤ 2 ^ 62 := Nat.pow_le_pow_right (by decide) hj
  have hp1 : 1 ≤ (2 : Nat) ^ j := Nat.one_le_two_pow
  have hc : ((2 : Int) ^ j - 1) = ((2 ^ j - 1 : Nat) : Int) := by
    have : ((2 ^ j : Nat) : Int) = (2 : Int) ^ j := by simp
    omega
  show wrapI .i64 ((BitVec.ofInt 64 a &&& BitVec.ofInt 64 (2 ^ j - 1)).toNat : Int) = _
  rw [BitVec.toNat_and, bits_ofInt, bits_ofInt, hc]
  have e1 : (((2 ^ j - 1 : Nat) : Int) % 18446744073709551616).toNat = 2 ^ j - 1 := by omega
  rw [e1, Nat.and_two_pow_sub_one_eq_mod]
  have hdiv : (2 : Nat) ^ j ∣ 18446744073709551616 := by
    have : (18446744073709551616 : Nat) = 2 ^ 64 := by decide
    rw [this]; exact Nat.pow_dvd_pow 2 (by omega)
  have e2 : (((a % 18446744073709551616).toNat % 2 ^ j : Nat) : Int) = a % 2 ^ j := by
    rw [Int.natCast_emod, Int.toNat_of_nonneg (Int.emod_nonneg _ (by decide))]
    have : ((2 ^ j : Nat) : Int) = (2 : Int) ^ j := by simp
    rw [this]
    exact Int.emod_emod_of_dvd a (by rw [← this]; exact Int.natCast_dvd_natCast.2 hdiv)
  rw [e2, wrap_i64]
  have hb : 0 ≤ a % 2 ^ j ∧ a % 2 ^ j < 2 ^ 62 := by
    have hpos : (0 : Int) < 2 ^ j := by have : ((2 ^ j : Nat) : Int) = (2 : Int) ^ j := by simp
                                        omega
    refine ⟨Int.emod_nonneg _ (by omega), ?_⟩
    have h1 := Int.emod_lt_of_pos a hpos
    have h2 : ((2 ^ j : Nat) : Int) = (2 : Int) ^ j := by simp
    have h3 : ((2 ^ 62 : Nat) : Int) = (2 : Int) ^ 62 := by decide
    omega
  have h62 : (2 : Int) ^ 62 = 4611686018427387904 := by decide
  rw [h62] at hb
  generalize a % 2 ^ j = z at hb ⊢
  split <;> omega
theorem mod_form [Val] (x : Sx) : (Sx.bin .and .i64 x (.lit 4095)).eval = (Sx.bin .rem .i64 (.bin .add .i64 (.bin .rem .i64 x (.lit (.ofNat 4096))) (.lit (.ofNat 4096))) (.lit (.ofNat 4096))).eval := by
  show bitsA .i64 (· &&& ·) x.eval 4095 = (wrapI .i64 (x.eval.tmod 4096 + 4096)).tmod 4096
  have h1 := and_mask x.eval 12 (by decide)
  have e1 : ((2 : Int) ^ 12 - 1) = 4095 := by decide
  have e2 : ((2 : Int) ^ 12) = 4096 := by decide
  rw [e1, e2] at h1
  rw [h1, wrap_i64]
  have h2 := tmod_lit x.eval 4096
  have e3 : (((4096 : Nat) : Int)) = 4096 := rfl
  rw [e3] at h2
  rw [h2]
  generalize x.eval = a
  have h3 : ∀ z : Int, 0 ≤ z → z.tmod 4096 = z % 4096 := fun z hz => Int.tmod_eq_emod_of_nonneg hz
  split
  · rename_i h
    rw [if_neg (by omega), h3 _ (by omega)]
    omega
  · rename_i h
    rw [if_neg (by omega), h3 _ (by omega)]
    omega
/-! Paths: decisions of what is not known, one behind the other. -/
abbrev Dcs := List (Bx × Bool)
def pathDec : Dcs → Bx → Option Bool
  | [], _ => none
  | (c, x) :: l, b => bif c.same b then some x else pathDec l b
def isLit : Sx → Option Int
  | .lit n => some n
  | _ => none
def modForm (k : IntKind) (e a b : Sx) : Sx :=
  match k, a, b with
  | .i64, .bin .add .i64 (.bin .rem .i64 x (.lit (.ofNat 4096))) (.lit (.ofNat 4096)), .lit (.ofNat 4096) => .bin .and .i64 x (.lit 4095)
  | _, _, _ => e
def canonS : Sx → Sx
  | .lit n => .lit n
  | .var i => .var i
  | .wrap k a => .wrap k (canonS a)
  | .bin op k a b => match op with
    | .rem => modForm k (.bin .rem k (canonS a) (canonS b)) (canonS a) (canonS b)
    | op => .bin op k (canonS a) (canonS b)
  | .dvar i => .dvar i
  | .slit s => .slit s
  | .pr f a b => .pr f a b
  | .ap f a b c => .ap f a b c
  | .cell x i o => .cell x i o
  | .setc x i o c => .setc x i o c
  | .dlit d => .dlit d
def isSlit : Sx → Option (List UInt8)
  | .slit s => some s
  | _ => none
inductive CB where
  | is (x : Bool)
  | cond (b : Bx) (flip : Bool)
def CB.neg : CB → CB
  | .is x => .is (!x)
  | .cond b f => .cond b (!f)
def canonEq (a b : Sx) : CB := bif a.same b then .is true else match isLit a, isLit b with
  | some n, some m => .is (intB n m)
  | _, _ => .cond (.cmp .eql a b) false
def canonLt (a b : Sx) : CB := match isLit a, isLit b with
  | some n, some m => .is (decide (n < m))
  | _, _ => .cond (.cmp .lss a b) false
def canonLe (a b : Sx) : CB := match isLit b with
  | some n => canonLt a (.lit (n + 1))
  | none => (canonLt b a).neg
def canonSeq (a b : Sx) : CB := bif a.same b then .is true else match isSlit a, isSlit b with
  | some s, some t => .is (u8s s t)
  | _, _ => .cond (.seq a b) false
def canonB : Bx → CB
  | .not b => (canonB b).neg
  | .seq a b => canonSeq a b
  | .cmp op a b => match op with
    | .eql => canonEq (canonS a) (canonS b)
    | .neq => (canonEq (canonS a) (canonS b)).neg
    | .lss => canonLt (canonS a) (canonS b)
    | .geq => (canonLt (canonS a) (canonS b)).neg
    | .leq => canonLe (canonS a) (canonS b)
    | .gtr => (canonLe (canonS a) (canonS b)).neg
    | op => .cond (.cmp op a b) false
def decP (p : Dcs) (b : Bx) : Option Bool := match canonB b with
  | .is x => some x
  | .cond c f => match pathDec p c with
    | some x => some (bif f then !x else x)
    | none => none
def pathCfg (p : Dcs) : Cfg := { Cfg.none with dec := decP p }
section
variable [Val] {P : Program}
def Holds (p : Dcs) : Prop := ∀ c ∈ p, c.1.eval = c.2
theorem Holds.nil : Holds [] := fun _ h => by cases h
theorem Holds.cons {p : Dcs} {b : Bx} {x : Bool} (h : b.eval = x) (k : Holds p) : Holds ((b, x) :: p) := fun c hc => by
  rcases List.mem_cons.1 hc with rfl | hc
  · exact h
  · exact k c hc
theorem Holds.head {p : Dcs} {b : Bx} {x : Bool} (k : Holds ((b, x) :: p)) : b.eval = x := k (b, x) (by simp)
theorem Holds.tail {p : Dcs} {c : Bx × Bool} (k : Holds (c :: p)) : Holds p := fun d hd => k d (by simp [hd])
theorem pathDec_ok {p : Dcs} (h : Holds p) {b : Bx} {x : Bool} (hd : pathDec p b = some x) : b.eval = x := by
  induction p with
  | nil => cases hd
  | cons c p ih =>
    obtain ⟨c, y⟩ := c
    simp only [pathDec, cond_eq_ite] at hd
    split at hd
    · rename_i hs
      simp only [Option.some.injEq] at hd
      subst hd
      rw [← Bx.same_eq hs]
      exact h.head
    · exact ih h.tail hd
def CB.eval : CB → Bool
  | .is x => x
  | .cond b f => bif f then !b.eval else b.eval
theorem CB.neg_eval (c : CB) : c.neg.eval = !c.eval := by
  cases c with
  | is x => rfl
  | cond b f => cases f <;> simp [CB.neg, CB.eval]
omit [Val] in
theorem isLit_some {a : Sx} {n : Int} (h : isLit a = some n) : a = .lit n := by
  cases a <;> simp only [isLit, Option.some.injEq, reduceCtorEq] at h
  rw [h]
theorem canonEq_eval (a b : Sx) : (canonEq a b).eval = (Bx.cmp .eql a b).eval := by
  unfold canonEq
  rw [cond_eq_ite]
  split
  · rename_i h
    rw [Sx.same_eq h]
    simp [CB.eval, Bx.eval, compI]
  · split
    · rename_i x y ha hb
      rw [isLit_some ha, isLit_some hb]
      simp only [CB.eval, Bx.eval, Sx.eval_lit, compI]
      by_cases e : x = y
      · subst e
        have : intB x x = true := by cases x <;> simp [intB]
        simp [this]
      · have : intB x y = false := by
          cases h : intB x y with
          | true => exact absurd (intB_t h) e
          | false => rfl
        simp [this, e]
    · rfl
theorem canonLt_eval (a b : Sx) : (canonLt a b).eval = (Bx.cmp .lss a b).eval := by
  unfold canonLt
  split
  · rename_i n m ha hb
    rw [isLit_some ha, isLit_some hb]
    rfl
  · rfl
theorem canonLe_eval (a b : Sx) : (canonLe a b).eval = (Bx.cmp .leq a b).eval := by
  unfold canonLe
  split
  · rename_i n hb
    rw [isLit_some hb, canonLt_eval]
    simp only [Bx.eval, Sx.eval_lit, compI]
    congr 1
    exact propext Int.lt_add_one_iff
  · rw [CB.neg_eval, canonLt_eval]
    simp only [Bx.eval, compI]
    by_cases h : b.eval < a.eval
    · have : ¬ a.eval ≤ b.eval := by omega
      simp [h, this]
    · have : a.eval ≤ b.eval := by omega
      simp [h, this]
theorem modForm_eval (k : IntKind) (e a b : Sx) (h : e.eval = (Sx.bin .rem k a b).eval) : (modForm k e a b).eval = (Sx.bin .rem k a b).eval := by
  unfold modForm
  split
  · rename_i x
    exact mod_form _
  · exact h
theorem canonS_eval : ∀ e : Sx, (canonS e).eval = e.eval := by
  intro e
  induction e with
  | lit n => rfl
  | var i => rfl
  | wrap k a ih => show wrapI k (canonS a).eval = wrapI k a.eval; rw [ih]
  | bin op k a b iha ihb =>
    have hb : ∀ op, (Sx.bin op k (canonS a) (canonS b)).eval = (Sx.bin op k a b).eval := fun op => by
      show arithI op k (canonS a).eval (canonS b).eval = arithI op k a.eval b.eval
      rw [iha, ihb]
    unfold canonS
    split
    · rw [modForm_eval _ _ _ _ rfl, hb]
    · exact hb _
  | dvar i => rfl
  | slit s => rfl
  | pr f a b => rfl
  | ap f a b c => rfl
  | cell x i o => rfl
  | setc x i o c => rfl
  | dlit d => rfl
omit [Val] in
theorem isSlit_some {a : Sx} {s : List UInt8} (h : isSlit a = some s) : a = .slit s := by
  cases a <;> simp only [isSlit, Option.some.injEq, reduceCtorEq] at h
  rw [h]
omit [Val] in
theorem u8s_beq : ∀ (a b : List UInt8), u8s a b = (a == b) := by
  intro a
  induction a with
  | nil => intro b; cases b <;> rfl
  | cons x a ih =>
    intro b
    cases b with
    | nil => rfl
    | cons y b =>
      simp only [u8s, ih, List.cons_beq_cons]
      by_cases h : x = y
      · subst h; simp
      · have h1 : (x == y) = false := by simpa using h
        have h2 : Nat.beq x.toNat y.toNat = false := by
          cases hb : Nat.beq x.toNat y.toNat with
          | false => rfl
          | true => exact absurd (UInt8.toNat_inj.1 (Nat.eq_of_beq_eq_true hb)) h
        simp [h1, h2]
theorem canonSeq_eval (a b : Sx) : (canonSeq a b).eval = (Bx.seq a b).eval := by
  unfold canonSeq
  rw [cond_eq_ite]
  split
  · rename_i h
    rw [Sx.same_eq h]
    simp [CB.eval, Bx.eval]
  · split
    · rename_i x y ha hb
      rw [isSlit_some ha, isSlit_some hb]
      show u8s x y = (x == y)
      exact u8s_beq x y
    · rfl
theorem canonB_eval : ∀ b : Bx, (canonB b).eval = b.eval := by
  intro b
  induction b with
  | not b ih => show (canonB b).neg.eval = !b.eval; rw [CB.neg_eval, ih]
  | seq a b => exact canonSeq_eval a b
  | cmp op a b =>
    unfold canonB
    split
    · rw [canonEq_eval]; simp only [Bx.eval, canonS_eval]
    · rw [CB.neg_eval, canonEq_eval]; simp only [Bx.eval, canonS_eval, compI]; rfl
    · rw [canonLt_eval]; simp only [Bx.eval, canonS_eval]
    · rw [CB.neg_eval, canonLt_eval]; simp only [Bx.eval, canonS_eval, compI]
      by_cases h : a.eval < b.eval
      · have : ¬ a.eval ≥ b.eval := by omega
        simp [h, this]
      · have : a.eval ≥ b.eval := by omega
        simp [h, this]
    · rw [canonLe_eval]; simp only [Bx.eval, canonS_eval]
    · rw [CB.neg_eval, canonLe_eval]; simp only [Bx.eval, canonS_eval, compI]
      by_cases h : a.eval ≤ b.eval
      · have : ¬ a.eval > b.eval := by omega
        simp [h, this]
      · have : a.eval > b.eval := by omega
        simp [h, this]
    · rfl
theorem decP_ok {p : Dcs} (h : Holds p) {b : Bx} {x : Bool} (hd : decP p b = some x) : b.eval = x := by
  rw [← canonB_eval]
  unfold decP at hd
  split at hd
  · rename_i y hc
    simp only [Option.some.injEq] at hd
    rw [hc]; exact hd
  · rename_i c f hc
    split at hd
    · rename_i y hy
      simp only [Option.some.injEq] at hd
      rw [hc, ← hd]
      show (bif f then !c.eval else c.eval) = _
      rw [pathDec_ok h hy]
    · cases hd
theorem memo_path {p : Dcs} {ms : List Memo} (hms : ∀ m ∈ ms, m.Sound P 0 (pathCfg p)) (hm : P.follows .mixedOrders = true) {n : Nat} {m : Memo}
    (hok : m.ok P { pathCfg p with hk := memoHk 0 (tabM ms) } n 0 (St.empty 0) = true) : m.Sound P 0 (pathCfg p) :=
  memo_sound hms hm rfl rfl rfl (fun i _ => by simp [St.empty, T.get_leaf]) (fun i h => absurd h (Nat.not_lt_zero _)) (fun g k h => by simp [pathCfg, Cfg.none] at h) hok
theorem path_calls {p : Dcs} {f : Nat} {m : Memo} {args' : Array Value} (hsound : m.Sound P 0 (pathCfg p)) (hp : Holds p) (hmf : m.f = f) (hmv : m.v = .bool true) (W : World)
    (ha : VRL (fun _ _ => none) m.args args'.toList) : Calls P f args' W fun e W' => e = .returned (.bool true) ∧ Below W.heap.size W W' := by
  have hi : Inv 0 (pathCfg p) (fun _ => False) (fun _ _ => none) (St.empty 0) W :=
    { wf := ⟨fun _ _ _ _ _ _ h => (by cases h), fun _ _ _ h => (by cases h), fun _ _ _ h => (by cases h)⟩, low := Nat.le_refl _, rep := fun _ h => h.elim,
      gl := fun g n h => by simp [pathCfg, Cfg.none] at h, dom := fun i _ => by simp [St.empty, T.get_leaf], pin := fun e n h => by simp [pathCfg, Cfg.none] at h, dec := fun b v h => decP_ok hp h,
      wrR := fun i h => (by cases h), ro := fun i h => absurd h (Nat.not_lt_zero _), oh := OhOk.none }
  have hret : m.ret 0 (St.empty 0) = .ret (m.v.mv 0 0) { St.empty 0 with heap := putAll 0 0 m.objs (St.empty 0).heap, next := m.n + 0 } := rfl
  have hc := hsound.2 (St.empty 0) (fun _ => False) (fun _ _ => none) W args' hi ha _ _ hret (fun _ _ _ _ => rfl)
  rw [hmf] at hc
  refine hc.mono fun e W' he => ?_
  obtain ⟨φ', v', rfl, hvr, hpost⟩ := he
  have hv' : v' = .bool true := by rw [hmv] at hvr; cases hvr; rfl
  subst hv'
  exact ⟨rfl, hpost.below⟩
end
/-! What operations of 64 bits are, as linear facts. -/
section
variable [Val]
end
end Go.Tw
namespace Go.Tw
open Go.ChangeShapes Go.RowKit
/-! Laws of numbers in groups: what is called with the numbers of one group is known along each of that group's paths. -/
abbrev Entry := Dcs × List Memo
noncomputable def entryOk (P : Program) (ks : List Memo) (n : Nat) (e : Entry) : Bool := e.2.all fun m => m.ok P { pathCfg e.1 with hk := memoHk 0 (tabM ks) } n 0 (St.empty 0)
noncomputable def lawOk (P : Program) (n f : Nat) (args : List AV) (q : Dcs) (ms : List Memo) : Bool :=
  match callN P { pathCfg q with hk := memoHk 0 (tabM ms) } n f args (St.empty 0) with
  | .ret v _ => match v with
    | .bool true => true
    | _ => false
  | _ => false
noncomputable def crossOk (P : Program) (ks : List Memo) (n f : Nat) (args : List AV) (E : List Entry) (e : Entry) : Bool := E.all fun d => lawOk P n f args (e.1 ++ d.1) (e.2 ++ (d.2 ++ ks))
section
variable [Val] {P : Program}
theorem law_calls {q : Dcs} (hq : Holds q) {ms : List Memo} (hms : ∀ m ∈ ms, m.Sound P 0 (pathCfg q)) (hm : P.follows .mixedOrders = true) {n f : Nat} {args : List AV} (h : lawOk P n f args q ms = true) (hpure : pureL args = true)
    {args' : Array Value} (W : World) (ha : VRL (fun _ _ => none) args args'.toList) : Calls P f args' W fun e W' => e = .returned (.bool true) ∧ Below W.heap.size W W' := by
  unfold lawOk at h
  split at h
  · rename_i v τ hc
    split at h
    · have hok : (⟨f, args, .bool true, [], τ.next⟩ : Memo).ok P { pathCfg q with hk := memoHk 0 (tabM ms) } n 0 (St.empty 0) = true := by
        unfold Memo.ok
        rw [hc]
        simp [AV.same, boolB, hpure]
      exact path_calls (memo_path hms hm hok) hq rfl rfl W ha
    · cases h
  · cases h
end
end Go.Tw
namespace Go.Tw
open Go.ChangeShapes Go.RowKit
/-! Code that leaves the world as it was, but for what is new: run piece by piece, with loops by induction. What is not known may be told anew (another Val) from round to round. -/
abbrev noPM : PM := fun _ _ => none
structure PEnv (v : Val) (nt : Nat) (tm : T AV) (a : Act) : Prop where
  size : a.tmps.size = nt
  val : ∀ t x, tm.get t = some x → ∃ x', a.tmps[t]? = some x' ∧ @VR v noPM x x'
  dfs : a.defers = []
def ExitP : AExit → Exit → Prop
  | .normal, .normal => True
  | .exit i, .exit j => i = j
  | .goto i, .goto j => i = j
  | .ret, .ret => True
  | _, _ => False
theorem ExitP.of {v : Val} {φ : PM} {e : AExit} {e' : Exit} (h : @ExitR v φ e e') (hn : ∀ c, e ≠ .panic c) : ExitP e e' := by
  cases e <;> cases e' <;> first | exact h | exact absurd rfl (hn _)
def PureTo (v : Val) (P : Program) (nt : Nat) (c : Code) (tm : T AV) (e : AExit) (tm' : T AV) : Prop :=
  ∀ (a : Act) (cs : List Frame) (w : World), PEnv v nt tm a →
    Runs P none false c (fun e' a' cs' w' => cs' = cs ∧ ExitP e e' ∧ PEnv v nt tm' a' ∧ Frm noPM [] w w') a cs w
def Sub (v : Val) (tm : T AV) (v' : Val) (tm' : T AV) : Prop :=
  ∀ t x, tm'.get t = some x → ∃ y, tm.get t = some y ∧ ∀ φ z, @VR v φ y z → @VR v' noPM x z
noncomputable def envL : List (Nat × AV) → T AV
  | [] => .leaf
  | (t, x) :: l => (envL l).set t x
theorem envL_get : ∀ {l : List (Nat × AV)} {t : Nat} {x : AV}, (envL l).get t = some x → (t, x) ∈ l := by
  intro l
  induction l with
  | nil => intro t x h; simp [envL, T.get_leaf] at h
  | cons p l ih =>
    intro t x h
    obtain ⟨q, y⟩ := p
    simp only [envL] at h
    rw [T.get_set] at h
    split at h
    · rename_i e
      simp only [Option.some.injEq] at h
      subst e; subst h
      simp
    · exact List.mem_cons_of_mem _ (ih h)
noncomputable def subB (tm : T AV) : List (Nat × AV) → Bool
  | [] => true
  | (t, x) :: l => (match tm.get t with
    | some y => y.same x && x.pure
    | none => false) && subB tm l
section
variable {v : Val} {P : Program} {nt : Nat}
end
def exitB : AExit → AExit → Bool
  | .normal, .normal => true
  | .exit i, .exit j => Nat.beq i j
  | .goto i, .goto j => Nat.beq i j
  | .ret, .ret => true
  | _, _ => false
theorem exitB_eq {e e' : AExit} (h : exitB e e' = true) : e = e' ∧ ∀ c, e ≠ .panic c := by
  cases e <;> cases e' <;> simp only [exitB, Bool.false_eq_true] at h <;> first | exact ⟨rfl, fun _ h => by cases h⟩ | exact ⟨by rw [beq_t h], fun _ h => by cases h⟩
noncomputable def runB (x : XR) (e : AExit) (l : List (Nat × AV)) : Bool := match x with
  | .ok e' env _ => exitB e e' && (match env.ds with
    | [] => true
    | _ => false) && (match env.md with
    | none => true
    | _ => false) && subB env.tm l
  | _ => false
end Go.Tw
