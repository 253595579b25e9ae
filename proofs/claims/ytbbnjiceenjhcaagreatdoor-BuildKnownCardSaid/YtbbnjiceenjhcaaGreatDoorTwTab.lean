/-
  A part of the proof that the abstract evaluator is sound for the model's machine. Conditions: those of each theorem, as it states them.
-/
import Derived.Test.YtbbnjiceenjhcaaGreatDoorTwMemo
import Derived.Lib.LaidTab
import Derived.Stop.LaidErr
set_option linter.all false
namespace Go.Tw
open Go.ChangeShapes Go.RowKit
noncomputable section

/-! Tables: package variables of which the contents are given. -/

abbrev Tabs := List (Nat × List AV)
def tabAt : Tabs → Nat → Option (List AV)
  | [], _ => none
  | (g, c) :: l, i => bif Nat.beq g i then some c else tabAt l i
def tabCfg (l : Tabs) : Cfg :=
  { Cfg.none with gl := fun g => (match tabAt l g with
      | some c => some c.length
      | none => none), base := fun i => (match tabAt l i with
      | some c => some (.ro c)
      | none => none) }
def tabHeap : Tabs → T Ob → T Ob
  | [], h => h
  | (g, c) :: l, h => (tabHeap l h).set g (.ro c)
def tabSt (R : Nat) (l : Tabs) : St := { heap := tabHeap l .leaf, next := R, rd := [], wr := [] }
def tabLt (R : Nat) : Tabs → Bool
  | [] => true
  | (g, _) :: l => Nat.blt g R && tabLt R l

theorem tabHeap_get : ∀ (l : Tabs) (i : Nat), (tabHeap l .leaf).get i = (match tabAt l i with
    | some c => some (.ro c)
    | none => none) := by
  intro l
  induction l with
  | nil => intro i; rfl
  | cons p l ih =>
    intro i
    obtain ⟨g, c⟩ := p
    simp only [tabHeap, tabAt, cond_eq_ite]
    rw [T.get_set]
    by_cases e : i = g
    · subst e
      simp
    · have : Nat.beq g i = false := by
        cases h : Nat.beq g i with
        | true => exact absurd (beq_t h).symm e
        | false => rfl
      simp [e, this, ih]
theorem tabAt_lt {R : Nat} : ∀ {l : Tabs}, tabLt R l = true → ∀ {i : Nat} {c : List AV}, tabAt l i = some c → i < R := by
  intro l
  induction l with
  | nil => intro _ i c h; cases h
  | cons p l ih =>
    intro hl i c h
    obtain ⟨g, c'⟩ := p
    simp only [tabLt, Bool.and_eq_true] at hl
    simp only [tabAt, cond_eq_ite] at h
    split at h
    · rename_i hb
      rw [← beq_t hb]; exact blt_t hl.1
    · exact ih hl.2 h

section
variable [Val] {P : Program} {R : Nat}

/-- A variable holds what is given. -/
def TabOk (W : World) (p : Nat × List AV) : Prop := ∃ cs t fr, W.heap[p.1]? = some (.cells cs t fr) ∧ VRL (fun _ _ => none) p.2 cs.toList

/-- Where tables lie. -/
def tabPM (l : Tabs) : PM := fun i v => if v = 0 then (match tabAt l i with
  | some c => some ⟨i, 0, 0, c.length, c.length⟩
  | none => none) else none

theorem tabAt_ok {W : World} : ∀ {l : Tabs}, (∀ p ∈ l, TabOk W p) → ∀ {i : Nat} {c : List AV}, tabAt l i = some c → TabOk W (i, c) := by
  intro l
  induction l with
  | nil => intro _ i c h; cases h
  | cons p l ih =>
    intro hl i c h
    obtain ⟨g, c'⟩ := p
    simp only [tabAt, cond_eq_ite] at h
    split at h
    · rename_i hb
      simp only [Option.some.injEq] at h
      subst h
      rw [← beq_t hb]
      exact hl _ (by simp)
    · exact ih (fun p hp => hl p (by simp [hp])) h

theorem tab_rep {W : World} {l : Tabs} (hl : ∀ p ∈ l, TabOk W p) (i : Nat) : Rep R (tabPM l) W i (match tabAt l i with
    | some c => some (.ro c)
    | none => none) := by
  cases h : tabAt l i with
  | none => trivial
  | some c =>
    obtain ⟨cs, t, fr, h1, h2⟩ := tabAt_ok hl h
    have hlen := h2.length
    have h1 : W.heap[i]? = some (.cells cs t fr) := h1
    refine ⟨⟨i, 0, 0, c.length, c.length⟩, cs, t, fr, by simp [tabPM, h], h1, rfl, ?_, ?_⟩
    · have : cs.toList.length = c.length := hlen
      simp only [Array.length_toList] at this
      show 0 + c.length ≤ cs.size
      omega
    · show VRL (tabPM l) c ((cs.toList.drop 0).take c.length)
      have : (cs.toList.drop 0).take c.length = cs.toList := by
        rw [List.drop_zero, List.take_of_length_le (Nat.le_of_eq hlen)]
      rw [this]
      exact h2.mono fun _ _ _ h => by cases h

omit [Val] in
theorem tabPM_some {l : Tabs} {i v : Nat} {e : Ext} (h : tabPM l i v = some e) : v = 0 ∧ ∃ c, tabAt l i = some c ∧ e = ⟨i, 0, 0, c.length, c.length⟩ := by
  unfold tabPM at h
  split at h
  · rename_i hv
    split at h
    · rename_i c hc
      simp only [Option.some.injEq] at h
      exact ⟨hv, c, hc, h.symm⟩
    · cases h
  · cases h

theorem tab_inv {W : World} {l : Tabs} (hlt : tabLt R l = true) (hl : ∀ p ∈ l, TabOk W p) : Inv R (tabCfg l) (fun i => i < R) (tabPM l) (tabSt R l) W where
  wf := ⟨fun i v e j u f he hf hb => by
      obtain ⟨_, c, _, rfl⟩ := tabPM_some he
      obtain ⟨_, d, _, rfl⟩ := tabPM_some hf
      exact .inl hb,
    fun i v e he => by
      obtain ⟨_, c, hc, rfl⟩ := tabPM_some he
      obtain ⟨cs, t, fr, h1, _⟩ := tabAt_ok hl hc
      exact (Array.getElem?_eq_some_iff.1 h1).1,
    fun i v e he => by
      obtain ⟨_, c, _, rfl⟩ := tabPM_some he
      exact Nat.le_refl _⟩
  low := Nat.le_refl _
  rep := fun i _ _ => by
    show Rep R (tabPM l) W i ((tabHeap l .leaf).get i)
    rw [tabHeap_get]
    exact tab_rep hl i
  gl := fun g n h => by
    have h : (match tabAt l g with
      | some c => some c.length
      | none => none) = some n := h
    split at h
    · rename_i c hc
      simp only [Option.some.injEq] at h
      subst h
      exact ⟨⟨g, 0, 0, c.length, c.length⟩, by simp [tabPM, hc], rfl, rfl, rfl, Nat.le_refl _⟩
    · cases h
  dom := fun i hi => by
    show (tabHeap l .leaf).get i = none
    rw [tabHeap_get]
    cases h : tabAt l i with
    | none => rfl
    | some c => have := tabAt_lt hlt h; have hi : R ≤ i := hi; omega
  pin := fun e n h => by cases h
  dec := fun b v h => by cases h
  wrR := fun i h => by cases h
  ro := fun i hi => by
    have hlow : (tabPM l).low R = tabPM l := by
      funext j v
      unfold PM.low
      split
      · rfl
      · rename_i hj
        cases h : tabPM l j v with
        | none => rfl
        | some e =>
          obtain ⟨_, c, hc, _⟩ := tabPM_some h
          exact absurd (tabAt_lt hlt hc) hj
    rw [hlow]
    exact tab_rep hl i

/-- A known call with tables given. -/
theorem memo_tab {l : Tabs} {ms : List Memo} (hms : ∀ m ∈ ms, m.Sound P R (tabCfg l)) (hm : P.follows .mixedOrders = true) (hlt : tabLt R l = true) {n : Nat} {m : Memo}
    (hok : m.ok P { tabCfg l with hk := memoHk R (tabM ms) } n R (tabSt R l) = true) : m.Sound P R (tabCfg l) :=
  memo_sound hms hm rfl rfl rfl (fun i hi => by
      show (tabHeap l .leaf).get i = none
      rw [tabHeap_get]
      cases h : tabAt l i with
      | none => rfl
      | some c => have := tabAt_lt hlt h; omega)
    (fun i _ => tabHeap_get l i) (fun g k h => by
      have h : (match tabAt l g with
        | some c => some c.length
        | none => none) = some k := h
      split at h
      · rename_i c hc; exact tabAt_lt hlt hc
      · cases h) hok

/-- A law of no input, with tables given. -/
theorem closed_tab {H : Type} {enc : TypeId × Value → H} {fn : Func} {s : ChangeSpec} {apart fresh handsOn : Bool} {t : TypeId} {f : Nat} {m : Memo} {l : Tabs}
    (hsound : m.Sound P R (tabCfg l)) (hlt : tabLt R l = true) (hmf : m.f = f) (hma : m.args = []) (hmv : m.v = .bool true)
    (ht : P.underlying t = some .bool) (hr : fn.resultTypes = #[t]) (hp : fn.params = #[]) (hv : s.vars = [])
    (hs : s.fn H [] = { results := [.lit (.bool true)], args := [] }) (W : World) (hl : ∀ p ∈ l, TabOk W p) :
    Calls P f #[] W fun e W' => ∃ v, e = .returned v ∧ s.post enc P fn apart fresh handsOn false W #[] v W' := by
  have hi := tab_inv (R := R) hlt hl
  have hret : ∃ v τ, m.ret R (tabSt R l) = .ret v τ ∧ v = m.v.mv R 0 := by
    have e : (tabSt R l).next - R = 0 := Nat.sub_self R
    have hb : Nat.ble R (tabSt R l).next = true := Nat.ble_eq_true_of_le (Nat.le_refl R)
    have h1 : m.ret R (tabSt R l) = .ret (m.v.mv R ((tabSt R l).next - R)) { tabSt R l with heap := putAll R ((tabSt R l).next - R) m.objs (tabSt R l).heap, next := m.n + ((tabSt R l).next - R) } := by
      unfold Memo.ret
      rw [hb]
      rfl
    exact ⟨_, _, h1, by rw [e]⟩
  obtain ⟨v, τ, hret, hve⟩ := hret
  have hτ := (Memo.ret_eq hret (by simp)).2
  simp only [CR.ret.injEq] at hτ
  have hfree : Free (tabPM l) (tabSt R l) τ := fun i h1 _ v => by
    cases h : tabPM l i v with
    | none => rfl
    | some e =>
      obtain ⟨_, c, hc, _⟩ := tabPM_some h
      have := tabAt_lt hlt hc
      have h1 : R ≤ i := h1
      omega
  have hc := hsound.2 (tabSt R l) (fun i => i < R) (tabPM l) W #[] hi (by rw [hma]; exact .nil) v τ hret hfree
  rw [hmf] at hc
  refine hc.mono fun e W' he => ?_
  obtain ⟨φ', v', rfl, hvr, hpost⟩ := he
  have hv' : v' = .bool true := by
    rw [hve, hmv] at hvr
    have hvr : VR φ' (.bool true) v' := hvr
    cases hvr; rfl
  subst hv'
  have hbelow : Below W.heap.size W W' := ⟨hpost.frm.os, hpost.frm.tape, hpost.frm.out, hpost.frm.size, fun k hk => hpost.frm.keep k hk fun i hiw v e he => by
    exfalso
    have h1 := (hpost.wrR i hiw).resolve_left (by simp [tabSt])
    obtain ⟨_, c, hc, _⟩ := tabPM_some he
    have := tabAt_lt hlt hc
    omega⟩
  refine ⟨_, rfl, [], [], [], [], [], [], ⟨[], [], ?_, ?_, rfl, ?_, ?_⟩, ?_, ?_, ?_, hbelow.frame _, ?_⟩
  · simp [hp, DataW.TrodAll]
  · simp [hv, DataW.TrodVars]
  · intro b off hb; simp at hb
  · simp
  · rw [hr]
    show DataW.TrodAll enc P W' _ _ handsOn [t] [.bool true] (s.fn H ([] ++ [])).results []
    rw [List.append_nil, hs]
    exact trodAll_mk1 (shut_bool ht true)
  · rw [hp, List.append_nil, hs]
    exact rfl
  · rw [hv, List.append_nil, hs]
    exact rfl
  · intro hb; cases hb

/-! From a row's listed variables to tables. -/
omit [Val] in
theorem var_heap {W : World} {n : String} {cs : Array Value} {g : Nat} (h : W.var? P n = some cs) (hg : P.globalNamed n = some g) : ∃ t fr, W.heap[g]? = some (.cells cs t fr) := by
  unfold World.var? at h
  rw [hg] at h
  simp only [Option.bind_some] at h
  split at h
  · rename_i cs' t fr hh
    simp only [Option.some.injEq] at h
    subst h
    exact ⟨t, fr, hh⟩
  · cases h

omit [Val] in
theorem laid_at {W : World} : ∀ {l : List (String × DataW Unit)}, laidMet P l W → ∀ {i : Nat} {n : String} {d : DataW Unit}, l[i]? = some (n, d) → ∃ rest, laidMet P ((n, d) :: rest) W := by
  intro l
  induction l with
  | nil => intro _ i n d h; simp at h
  | cons x l ih =>
    intro hl i n d h
    cases i with
    | zero => simp at h; subst h; exact ⟨l, hl⟩
    | succ i => exact ih hl.tail (by simpa using h)

/-- The numbers of a table. -/
def intsD : DataW Unit → List Int
  | .agg l => l.map fun | .lit (.int _ n) => n | _ => 0
  | _ => []
def intsC (k : IntKind) (l : List Int) : List AV := l.map (.int k)

theorem tab_ints {W : World} {n : String} {k : IntKind} {zs : List Int} {g : Nat} (h : Lib.TabIs P W n k zs) (hg : P.globalNamed n = some g) : TabOk W (g, intsC k zs) := by
  obtain ⟨t, fr, hh⟩ := var_heap h hg
  refine ⟨_, t, fr, hh, ?_⟩
  show VRL _ (zs.map (.int k)) (zs.map fun z => Value.int k z)
  induction zs with
  | nil => exact .nil
  | cons z zs ih =>
    refine .cons (.int _ _) ?_
    clear h hh ih
    induction zs with
    | nil => exact .nil
    | cons y zs ih => exact .cons (.int _ _) ih

theorem tab_err {W : World} {n : String} {tp : TypeId} {a : Addr} {g : Nat} (h : W.var? P n = some #[.iface tp (.pointer (some a))]) (hg : P.globalNamed n = some g) : TabOk W (g, [.iface tp .anyp]) := by
  obtain ⟨t, fr, hh⟩ := var_heap h hg
  exact ⟨_, t, fr, hh, .cons (.iface tp (.anyp _)) .nil⟩
end
end
end Go.Tw
