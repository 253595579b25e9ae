/-
  A part of the proof that the abstract evaluator is sound for the model's machine. Conditions: those of each theorem, as it states them.
-/
import Derived.Test.YtbbnjiceenjhcaaGreatDoorTwShift
import Derived.ProofKit
set_option linter.all false
namespace Go.Tw
noncomputable section

/-- A call that is known: its function, what it was told (no place among it), what it tells, the objects that it has made, up to which number; as run from a state of which all below R is given. -/
structure Memo where
  f : FuncId
  args : List AV
  v : AV
  objs : List (Nat × Ob)
  n : Nat

mutual
/-- No place. -/
def AV.pure : AV → Bool
  | .ptr .. => false
  | .slc .. => false
  | .map _ => false
  | .yld _ => false
  | .fn _ a b => pureL a && pureL b
  | .iface _ v => v.pure
  | .agg l => pureL l
  | .tup l => pureL l
  | _ => true
def pureL : List AV → Bool
  | [] => true
  | v :: l => v.pure && pureL l
end

section
variable [Val] {φ ψ : PM}
mutual
theorem VR.pure : ∀ {v : AV} {v' : Value}, VR φ v v' → v.pure = true → VR ψ v v'
  | _, _, .bool b, _ => .bool b
  | _, _, .int k n, _ => .int k n
  | _, _, .sym k e, _ => .sym k e
  | _, _, .symb b, _ => .symb b
  | _, _, .sslc a l c h, _ => .sslc a l c h
  | _, _, .sstr s h, _ => .sstr s h
  | _, _, .str s, _ => .str s
  | _, _, .nilp, _ => .nilp
  | _, _, .ptr .., h => by simp [AV.pure] at h
  | _, _, .nils, _ => .nils
  | _, _, .slc .., h => by simp [AV.pure] at h
  | _, _, .nilm, _ => .nilm
  | _, _, .map .., h => by simp [AV.pure] at h
  | _, _, .yld .., h => by simp [AV.pure] at h
  | _, _, .anyp p, _ => .anyp p
  | _, _, .unk v hv, _ => .unk v hv
  | _, _, .fn f a' b' ha hb, h => by
    simp only [AV.pure, Bool.and_eq_true] at h
    exact .fn f a' b' (VRL.pure ha h.1) (VRL.pure hb h.2)
  | _, _, .nilfn, _ => .nilfn
  | _, _, .iface t hv, h => by simp only [AV.pure] at h; exact .iface t (VR.pure hv h)
  | _, _, .nili, _ => .nili
  | _, _, .agg l' hl, h => by simp only [AV.pure] at h; exact .agg l' (VRL.pure hl h)
  | _, _, .tup l' hl, h => by simp only [AV.pure] at h; exact .tup l' (VRL.pure hl h)
theorem VRL.pure : ∀ {l : List AV} {l' : List Value}, VRL φ l l' → pureL l = true → VRL ψ l l'
  | _, _, .nil, _ => .nil
  | _, _, .cons hv ht, h => by
    simp only [pureL, Bool.and_eq_true] at h
    exact .cons (VR.pure hv h.1) (VRL.pure ht h.2)
end
end

def putAll (R d : Nat) : List (Nat × Ob) → T Ob → T Ob
  | [], h => h
  | (k, o) :: l, h => putAll R d l (h.set (k + d) (o.mv R d))

/-- What a known call comes to. -/
def Memo.ret (R : Nat) (m : Memo) (σ : St) : CR :=
  bif Nat.ble R σ.next then
    .ret (m.v.mv R (σ.next - R)) { σ with heap := putAll R (σ.next - R) m.objs σ.heap, next := m.n + (σ.next - R) }
  else .no

/-- Is it as the evaluator says? -/
def Memo.ok (P : Program) (C : Cfg) (n R : Nat) (β : St) (m : Memo) : Bool :=
  match callN P C n m.f m.args β with
  | .ret v τ => v.same m.v && Nat.beq τ.next m.n && Nat.ble R m.n && pureL m.args && m.objs.all (fun p => Nat.ble R p.1 && Nat.blt p.1 m.n && (match τ.heap.get p.1 with
    | some o => o.same p.2
    | none => false))
  | _ => false

def findM (R : Nat) (args : List AV) (σ : St) : List Memo → CR
  | [] => .no
  | m :: l => bif sameL args m.args then m.ret R σ else findM R args σ l

/-- A table of known calls, by their functions. -/
def addM (m : Memo) (t : T (List Memo)) : T (List Memo) := t.set m.f (match t.get m.f with
  | some l => m :: l
  | none => [m])
def tabM : List Memo → T (List Memo)
  | [] => .leaf
  | m :: l => addM m (tabM l)
def memoHk (R : Nat) (t : T (List Memo)) (f : FuncId) (args : List AV) (σ : St) : CR :=
  match t.get f with
  | some l => findM R args σ l
  | none => .no

theorem tabM_mem : ∀ {ms : List Memo} {f : FuncId} {l : List Memo}, (tabM ms).get f = some l → ∀ m ∈ l, m ∈ ms ∧ m.f = f := by
  intro ms
  induction ms with
  | nil => intro f l h; simp [tabM, T.get_leaf] at h
  | cons x ms ih =>
    intro f l h m hm
    simp only [tabM, addM] at h
    rw [T.get_set] at h
    split at h
    · rename_i hf
      simp only [Option.some.injEq] at h
      subst h
      split at hm
      · rename_i l' hl'
        rcases List.mem_cons.1 hm with rfl | hm
        · exact ⟨by simp, hf.symm⟩
        · have := ih hl' m hm
          exact ⟨List.mem_cons_of_mem _ this.1, this.2.trans hf.symm⟩
      · simp only [List.mem_singleton] at hm
        subst hm
        exact ⟨by simp, hf.symm⟩
    · have := ih h m hm
      exact ⟨List.mem_cons_of_mem _ this.1, this.2⟩

theorem findM_mem {R : Nat} {args : List AV} {σ : St} : ∀ {l : List Memo} {r : CR}, findM R args σ l = r → r ≠ .no → ∃ m ∈ l, args = m.args ∧ m.ret R σ = r := by
  intro l
  induction l with
  | nil => intro r h hr; exact absurd h.symm hr
  | cons m l ih =>
    intro r h hr
    simp only [findM, cond_eq_ite] at h
    split at h
    · rename_i hs
      exact ⟨m, by simp, sameL_eq hs, h⟩
    · obtain ⟨m', h1, h2⟩ := ih h hr
      exact ⟨m', List.mem_cons_of_mem _ h1, h2⟩

theorem putAll_get (R d : Nat) : ∀ (l : List (Nat × Ob)) (h : T Ob) (i : Nat), (putAll R d l h).get i = h.get i ∨ ∃ k o, (k, o) ∈ l ∧ i = k + d ∧ (putAll R d l h).get i = some (o.mv R d) := by
  intro l
  induction l with
  | nil => intro h i; exact .inl rfl
  | cons x l ih =>
    intro h i
    obtain ⟨k, o⟩ := x
    simp only [putAll]
    rcases ih (h.set (k + d) (o.mv R d)) i with h1 | ⟨k', o', h1, h2, h3⟩
    · rw [h1, T.get_set]
      split
      · rename_i e; exact .inr ⟨k, o, by simp, e, rfl⟩
      · exact .inl rfl
    · exact .inr ⟨k', o', List.mem_cons_of_mem _ h1, h2, h3⟩

/-- A known call is right. -/
def Memo.Sound [Val] (P : Program) (R : Nat) (C : Cfg) (m : Memo) : Prop :=
  (R ≤ m.n ∧ ∀ k o, (k, o) ∈ m.objs → R ≤ k ∧ k < m.n) ∧
  ∀ (σ : St) (D : Nat → Prop) (φ : PM) (w : World) (args' : Array Value), Inv R C D φ σ w → VRL φ m.args args'.toList → ∀ v σ', m.ret R σ = .ret v σ' → Free φ σ σ' →
    Calls P m.f args' w fun e w' => ∃ φ' v', e = .returned v' ∧ VR φ' v v' ∧ Post R D φ σ w σ' φ' w'

theorem Memo.ret_eq {R : Nat} {m : Memo} {σ : St} {r : CR} (h : m.ret R σ = r) (hr : r ≠ .no) : R ≤ σ.next ∧
    r = .ret (m.v.mv R (σ.next - R)) { σ with heap := putAll R (σ.next - R) m.objs σ.heap, next := m.n + (σ.next - R) } := by
  unfold Memo.ret at h
  rw [cond_eq_ite] at h
  split at h
  · rename_i hle; exact ⟨ble_t hle, h.symm⟩
  · exact absurd h.symm hr

theorem Memo.ret_step {R : Nat} {m : Memo} (hm : R ≤ m.n ∧ ∀ k o, (k, o) ∈ m.objs → R ≤ k ∧ k < m.n) (σ : St) : (m.ret R σ).steps σ := by
  intro σ' hs
  cases hr : m.ret R σ with
  | no => rw [hr] at hs; cases hs
  | pan c τ => have := (Memo.ret_eq hr (by simp)).2; cases this
  | ret v τ =>
    obtain ⟨hle, he⟩ := Memo.ret_eq hr (by simp)
    rw [hr] at hs
    simp only [CR.st, Option.some.injEq] at hs
    subst hs
    simp only [CR.ret.injEq] at he
    obtain ⟨_, rfl⟩ := he
    exact {
      next := by show σ.next ≤ m.n + (σ.next - R); omega
      rd := fun _ h => h
      wr := fun _ h => h
      keep := fun i hi _ => by
        rcases putAll_get R (σ.next - R) m.objs σ.heap i with h | ⟨k, o, h1, h2, _⟩
        · exact h
        · have := hm.2 k o h1; omega
      dom := fun hd i hi => by
        have hi : m.n + (σ.next - R) ≤ i := hi
        rcases putAll_get R (σ.next - R) m.objs σ.heap i with h | ⟨k, o, h1, h2, _⟩
        · exact h.trans (hd i (by omega))
        · have := hm.2 k o h1; omega
      wlt := fun _ i h => .inl h }

section
variable [Val] {P : Program} {R : Nat}

theorem memo_steps {C : Cfg} {ms : List Memo} (hms : ∀ m ∈ ms, m.Sound P R C) : HkSteps { C with hk := memoHk R (tabM ms) } := by
  intro f args σ σ' hs
  cases hr : memoHk R (tabM ms) f args σ with
  | no => simp only [hr] at hs; cases hs
  | pan c τ =>
    unfold memoHk at hr
    split at hr
    · rename_i l hl
      obtain ⟨m, hm, _, h⟩ := findM_mem hr (by simp)
      have := (Memo.ret_eq h (by simp)).2; cases this
    · cases hr
  | ret v τ =>
    have hr' := hr
    unfold memoHk at hr'
    split at hr'
    · rename_i l hl
      obtain ⟨m, hm, _, h⟩ := findM_mem hr' (by simp)
      simp only [hr] at hs
      refine (Memo.ret_step (hms m (tabM_mem hl m hm).1).1 σ) σ' ?_
      rw [h]; exact hs
    · cases hr'

theorem Inv.hk {C : Cfg} {h : FuncId → List AV → St → CR} {D : Nat → Prop} {φ : PM} {σ : St} {w : World} (k : Inv R { C with hk := h } D φ σ w) : Inv R C D φ σ w :=
  ⟨k.wf, k.low, k.rep, k.gl, k.dom, k.pin, k.dec, k.wrR, k.ro⟩
theorem Inv.hk' {C : Cfg} {h : FuncId → List AV → St → CR} {D : Nat → Prop} {φ : PM} {σ : St} {w : World} (k : Inv R C D φ σ w) : Inv R { C with hk := h } D φ σ w :=
  ⟨k.wf, k.low, k.rep, k.gl, k.dom, k.pin, k.dec, k.wrR, k.ro⟩

theorem memo_hkok {C : Cfg} {ms : List Memo} (hms : ∀ m ∈ ms, m.Sound P R C) : HkOk P R { C with hk := memoHk R (tabM ms) } := by
  intro f args σ D φ w args' hi ha
  refine ⟨fun v σ' h hk hf => ?_, fun c σ' h hk hf => ?_⟩
  · have h : memoHk R (tabM ms) f args σ = .ret v σ' := h
    unfold memoHk at h
    split at h
    · rename_i l hl
      obtain ⟨m, hm, he, hret⟩ := findM_mem h (by simp)
      obtain ⟨h1, h2⟩ := tabM_mem hl m hm
      subst he
      rw [← h2]
      exact (hms m h1).2 σ D φ w args' hi.hk ha v σ' hret hf
    · cases h
  · have h : memoHk R (tabM ms) f args σ = .pan c σ' := h
    unfold memoHk at h
    split at h
    · rename_i l hl
      obtain ⟨m, hm, _, h⟩ := findM_mem h (by simp)
      have := (Memo.ret_eq h (by simp)).2; cases this
    · cases h

/-- A call that the evaluator runs from what is given is right wherever it is made. -/
theorem memo_sound {C : Cfg} {ms : List Memo} (hms : ∀ m ∈ ms, m.Sound P R C) (hm : P.follows .mixedOrders = true) {n : Nat} {β : St} {m : Memo}
    (h1 : β.next = R) (_ : β.rd = []) (h3 : β.wr = []) (h4 : ∀ i, R ≤ i → β.heap.get i = none) (h5 : ∀ i, i < R → β.heap.get i = C.base i)
    (hgl : ∀ g k, C.gl g = some k → g < R) (hok : m.ok P { C with hk := memoHk R (tabM ms) } n R β = true) : m.Sound P R C := by
  unfold Memo.ok at hok
  split at hok
  · rename_i v τ hc
    simp only [Bool.and_eq_true] at hok
    obtain ⟨⟨⟨⟨k1, k2⟩, k3⟩, k4⟩, k5⟩ := hok
    have k1 := AV.same_eq k1
    have k2 := beq_t k2
    have k3 := ble_t k3
    have hobj : ∀ k o, (k, o) ∈ m.objs → R ≤ k ∧ k < m.n ∧ τ.heap.get k = some o := by
      intro k o hko
      have := List.all_eq_true.1 k5 (k, o) hko
      simp only [Bool.and_eq_true] at this
      refine ⟨ble_t this.1.1, blt_t this.1.2, ?_⟩
      have h := this.2
      split at h
      · rename_i o' ho'
        rw [ho', Ob.same_eq h]
      · cases h
    refine ⟨⟨k3, fun k o hko => ⟨(hobj k o hko).1, (hobj k o hko).2.1⟩⟩, fun σ D φ w args' hi ha u σ' hr hf => ?_⟩
    obtain ⟨hle, he⟩ := Memo.ret_eq hr (by simp)
    simp only [CR.ret.injEq] at he
    obtain ⟨rfl, rfl⟩ := he
    -- the run from what is given
    have hib : Inv R { C with hk := memoHk R (tabM ms) } (fun i => i < R) (φ.low R) β w := {
      wf := ⟨fun i v e j u f a b c => hi.wf.inj i v e j u f (PM.low_le φ R _ _ _ a) (PM.low_le φ R _ _ _ b) c, fun i v e a => hi.wf.lt i v e (PM.low_le φ R _ _ _ a), fun i v e a => hi.wf.top i v e (PM.low_le φ R _ _ _ a)⟩
      low := by omega
      rep := fun i hi' _ => by rw [h5 i hi']; exact hi.ro i hi'
      gl := fun g k hg => by
        obtain ⟨e, he, hx⟩ := hi.gl g k hg
        exact ⟨e, by rw [PM.low_lt _ (hgl g k hg)]; exact he, hx⟩
      dom := fun i hi' => h4 i (by omega)
      pin := hi.pin
      dec := hi.dec
      wrR := fun i hi' => by rw [h3] at hi'; cases hi'
      ro := fun i hi' => by
        have hll : (φ.low R).low R = φ.low R := by
          funext i v; unfold PM.low; split <;> rfl
        rw [hll]; exact hi.ro i hi' }
    have hkb : Known (fun i => i < R) β τ := fun i _ hn => by rw [h1] at hn; exact hn
    have hfb : Free (φ.low R) β τ := fun i ha' _ v => by
      have : ¬ i < R := by omega
      simp [PM.low, this]
    have hcalls := callN_calls (memo_steps hms) (memo_hkok hms) hm hc hib (ha.pure k4) hkb hfb
    refine hcalls.mono fun e w' hq => ?_
    obtain ⟨φ', v', rfl, hv, hp⟩ := hq
    obtain ⟨l1, l2⟩ := hp.lows (by omega) (fun i hi' => by rw [h3] at hi'; cases hi')
    -- where all lies
    have hlow : ∀ i, i < R → ∀ v, φ' i v = φ i v := by
      intro i hi' v
      have := congrFun (congrFun l2 i) v
      rw [PM.low_lt _ hi', PM.low_lt _ hi', PM.low_lt _ hi'] at this
      exact this
    let φ₂ : PM := fun i v => if σ.next ≤ i ∧ i < m.n + (σ.next - R) then φ' (i - (σ.next - R)) v else φ i v
    have hold : ∀ i, ¬ (σ.next ≤ i ∧ i < m.n + (σ.next - R)) → ∀ v, φ₂ i v = φ i v := fun i hi' v => by show (if _ then _ else _) = _; rw [if_neg hi']
    have hnew : ∀ i, σ.next ≤ i → i < m.n + (σ.next - R) → ∀ v, φ₂ i v = φ' (i - (σ.next - R)) v := fun i a b v => by show (if _ then _ else _) = _; rw [if_pos ⟨a, b⟩]
    have hnone : ∀ i, σ.next ≤ i → i < m.n + (σ.next - R) → ∀ v, φ i v = none := fun i a b v => hf i a b v
    have hmvn : ∀ i, R ≤ i → Tw.mv R (σ.next - R) i = i + (σ.next - R) := by
      intro i hi'
      unfold Tw.mv
      rw [cond_eq_ite, if_neg]
      intro hb
      have := blt_t hb
      omega
    have hmvo : ∀ i, i < R → Tw.mv R (σ.next - R) i = i := by
      intro i hi'
      unfold Tw.mv
      have hb : Nat.blt i R = true := Nat.ble_eq_true_of_le hi'
      rw [hb]; rfl
    have hmvs : ∀ i, R ≤ i → i < m.n → ∀ v, φ₂ (Tw.mv R (σ.next - R) i) v = φ' i v := by
      intro i a b v
      rw [hmvn i a, hnew _ (by omega) (by omega), Nat.add_sub_cancel]
    have hmv : ∀ i v e, φ' i v = some e → φ₂ (Tw.mv R (σ.next - R) i) v = some e := by
      intro i v e he
      rcases Nat.lt_or_ge i R with h | h
      · rw [hmvo i h, hold i (by omega), ← hlow i h]; exact he
      · rcases Nat.lt_or_ge i m.n with h' | h'
        · rw [hmvs i h h']; exact he
        · rw [hp.grow i (.inr (by omega)) (by omega) v] at he
          have hnr : ¬ i < R := by omega
          simp [PM.low, hnr] at he
    -- the new ones lie in new blocks
    have hblk : ∀ k, R ≤ k → ∀ v e, φ' k v = some e → w.heap.size ≤ e.blk := by
      intro k hk v e he
      rcases hp.blk k v e he with ⟨u, f, hfu, _⟩ | h
      · have hnr : ¬ k < R := by omega
        simp [PM.low, hnr] at hfu
      · exact h
    have hkeep : ∀ b, b < w.heap.size → w'.heap[b]? = w.heap[b]? := fun b hb => hp.frm.keep b hb fun j hj v e he => by
      have := l1 j hj
      have hnr : ¬ j < R := by omega
      simp [PM.low, hnr] at he
    have hle2 : φ.le φ₂ := by
      intro i v e he
      by_cases h : σ.next ≤ i ∧ i < m.n + (σ.next - R)
      · rw [hnone i h.1 h.2 v] at he; cases he
      · rw [hold i h]; exact he
    have hsz := hp.frm.size
    refine ⟨φ₂, v', rfl, by rw [← k1]; exact hv.mv hmv, ?_⟩
    exact {
      le := hle2
      grow := fun i _ hn v => hold i hn v
      wrR := fun i h => .inl h
      wf := {
        inj := fun i a e j b f he hfj hbk => by
          by_cases h : σ.next ≤ i ∧ i < m.n + (σ.next - R)
          · rw [hnew i h.1 h.2] at he
            by_cases h' : σ.next ≤ j ∧ j < m.n + (σ.next - R)
            · rw [hnew j h'.1 h'.2] at hfj
              rcases hp.wf.inj _ _ _ _ _ _ he hfj hbk with h3 | h3 <;> omega
            · rw [hold j h'] at hfj
              have h3 := hblk _ (by omega) a e he
              have h4 := hi.wf.lt _ _ _ hfj
              omega
          · rw [hold i h] at he
            by_cases h' : σ.next ≤ j ∧ j < m.n + (σ.next - R)
            · rw [hnew j h'.1 h'.2] at hfj
              have h3 := hblk _ (by omega) b f hfj
              have h4 := hi.wf.lt _ _ _ he
              omega
            · rw [hold j h'] at hfj
              exact hi.wf.inj _ _ _ _ _ _ he hfj hbk
        lt := fun i a e he => by
          by_cases h : σ.next ≤ i ∧ i < m.n + (σ.next - R)
          · rw [hnew i h.1 h.2] at he; exact hp.wf.lt _ _ _ he
          · rw [hold i h] at he; have := hi.wf.lt _ _ _ he; omega
        top := fun i a e he => by
          by_cases h : σ.next ≤ i ∧ i < m.n + (σ.next - R)
          · rw [hnew i h.1 h.2] at he; exact hp.wf.top _ _ _ he
          · rw [hold i h] at he; exact hi.wf.top _ _ _ he }
      blk := fun i a e he => by
        by_cases h : σ.next ≤ i ∧ i < m.n + (σ.next - R)
        · rw [hnew i h.1 h.2] at he; exact .inr (hblk _ (by omega) a e he)
        · rw [hold i h] at he; exact .inl ⟨a, e, he, rfl⟩
      rep := fun i hii => by
        show Rep R φ₂ w' i ((putAll R (σ.next - R) m.objs σ.heap).get i)
        rcases putAll_get R (σ.next - R) m.objs σ.heap i with h | ⟨k, o, hko, hik, h⟩
        · rw [h]
          rcases hii with ⟨hd, hn⟩ | ⟨hn1, _⟩
          · refine (hi.rep i hd hn).frame hle2 (fun v => hold i (by omega) v) fun v e he => hkeep _ (hi.wf.lt _ _ _ he)
          · rw [hi.dom i hn1]; trivial
        · rw [h]
          obtain ⟨q1, q2, q3⟩ := hobj k o hko
          have hrep := hp.rep k (.inr ⟨by omega, by omega⟩)
          rw [q3] at hrep
          have := Rep.mv (d := σ.next - R) hmv q1 (hmvs k q1 q2) hrep
          rw [hmvn k q1, ← hik] at this
          exact this
      frm := ⟨hsz, fun b hb _ => hkeep b hb, hp.frm.os, hp.frm.out, hp.frm.tape⟩ }
  · cases hok

/-- Letters. -/
def strN (l : List Nat) : AV := .str (l.map UInt8.ofNat)

theorem sound_nil {C : Cfg} : ∀ m ∈ ([] : List Memo), m.Sound P R C := fun _ h => by cases h
theorem sound_cons {C : Cfg} {m : Memo} {ms : List Memo} (h : m.Sound P R C) (k : ∀ m ∈ ms, m.Sound P R C) : ∀ x ∈ m :: ms, x.Sound P R C := fun x hx => by
  rcases List.mem_cons.1 hx with rfl | hx
  · exact h
  · exact k x hx

/-- A call of no tables. -/
theorem memo_plain {ms : List Memo} (hms : ∀ m ∈ ms, m.Sound P 0 Cfg.none) (hm : P.follows .mixedOrders = true) {n : Nat} {m : Memo}
    (hok : m.ok P { Cfg.none with hk := memoHk 0 (tabM ms) } n 0 (St.empty 0) = true) : m.Sound P 0 Cfg.none :=
  memo_sound hms hm rfl rfl rfl (fun i _ => by simp [St.empty, T.get_leaf]) (fun i h => absurd h (Nat.not_lt_zero _)) (fun g k h => by simp [Cfg.none] at h) hok

open Go.ChangeShapes Go.RowKit in
/-- A law of no input that is known to be true. -/
theorem closed_memo {H : Type} {enc : TypeId × Value → H} {fn : Func} {s : ChangeSpec} {apart fresh handsOn : Bool} {t : TypeId} {f : Nat} {m : Memo}
    (hsound : m.Sound P 0 Cfg.none) (hmf : m.f = f) (hma : m.args = []) (hmv : m.v = .bool true)
    (ht : P.underlying t = some .bool) (hr : fn.resultTypes = #[t]) (hp : fn.params = #[]) (hv : s.vars = [])
    (hs : s.fn H [] = { results := [.lit (.bool true)], args := [] }) (W : World) :
    Calls P f #[] W fun e W' => ∃ v, e = .returned v ∧ s.post enc P fn apart fresh handsOn false W #[] v W' := by
  have hi : Inv 0 Cfg.none (fun _ => False) (fun _ _ => none) (St.empty 0) W :=
    { wf := ⟨fun _ _ _ _ _ _ h => (by cases h), fun _ _ _ h => (by cases h), fun _ _ _ h => (by cases h)⟩, low := Nat.le_refl _, rep := fun _ h => h.elim,
      gl := fun g n h => by simp [Cfg.none] at h, dom := fun i _ => by simp [St.empty, T.get_leaf], pin := fun e n h => by simp [Cfg.none] at h, dec := fun b v h => by simp [Cfg.none] at h,
      wrR := fun i h => (by cases h), ro := fun i h => absurd h (Nat.not_lt_zero _) }
  have hret : m.ret 0 (St.empty 0) = .ret (m.v.mv 0 0) { St.empty 0 with heap := putAll 0 0 m.objs (St.empty 0).heap, next := m.n + 0 } := rfl
  have hc := hsound.2 (St.empty 0) (fun _ => False) (fun _ _ => none) W #[] hi (by rw [hma]; exact .nil) _ _ hret (fun _ _ _ _ => rfl)
  rw [hmf] at hc
  refine hc.mono fun e W' he => ?_
  obtain ⟨φ', v', rfl, hvr, hpost⟩ := he
  have hv' : v' = .bool true := by rw [hmv] at hvr; cases hvr; rfl
  subst hv'
  refine ⟨_, rfl, [], [], [], [], [], [], ⟨[], [], ?_, ?_, rfl, ?_, ?_⟩, ?_, ?_, ?_, hpost.below.frame _, ?_⟩
  · simp [hp, DataW.TrodAll]
  · simp [hv, DataW.TrodVars]
  · intro b off hb; simp at hb
  · simp
  · rw [hr]
    show DataW.TrodAll enc P W' _ _ handsOn [t] [.bool true] (s.fn H ([] ++ [])).results []
    rw [List.append_nil, hs]
    exact trodAll_mk1 (shut_bool ht true)
  · rw [hp, List.append_nil, hs]
    exact rfl
  · rw [hv, List.append_nil, hs]
    exact rfl
  · intro hb; cases hb
end
end
end Go.Tw
