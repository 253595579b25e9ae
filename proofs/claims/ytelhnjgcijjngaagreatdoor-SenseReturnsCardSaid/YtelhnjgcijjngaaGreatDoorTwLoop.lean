/-
  A part of the proof that the abstract evaluator is sound for the model's machine. Conditions: those of each theorem, as it states them.
-/
import Derived.Test.YtelhnjgcijjngaaGreatDoorTwPath
import Derived.Test.YtelhnjgcijjngaaGreatDoorTwTab
set_option linter.all false
namespace Go.Tw
open Go.ChangeShapes Go.RowKit
/-! Code that leaves the world as it was, but for what is new: run piece by piece, with loops by induction. What is not known may be told anew (another Val) from round to round. -/
abbrev noPM : PM := fun _ _ => none
structure PEnv (v : Val) (nt : Nat) (tm : T AV) (a : Act) : Prop where
  size : a.tmps.size = nt
  val : ∀ t x, tm.get t = some x → ∃ x', a.tmps[t]? = some x' ∧ @VR v noPM x x'
  dfs : a.defers = []
def ExitP : AExit → Exit → Prop
  | .normal, .normal => True
  | .exit i, .exit j => i = j
  | .goto i, .goto j => i = j
  | .ret, .ret => True
  | _, _ => False
def PureTo (v : Val) (P : Program) (nt : Nat) (c : Code) (tm : T AV) (e : AExit) (tm' : T AV) : Prop :=
  ∀ (a : Act) (cs : List Frame) (w : World), PEnv v nt tm a →
    Runs P none false c (fun e' a' cs' w' => cs' = cs ∧ ExitP e e' ∧ PEnv v nt tm' a' ∧ Frm noPM [] w w') a cs w
def Sub (v : Val) (tm : T AV) (v' : Val) (tm' : T AV) : Prop :=
  ∀ t x, tm'.get t = some x → ∃ y, tm.get t = some y ∧ ∀ φ z, @VR v φ y z → @VR v' noPM x z
noncomputable def envL : List (Nat × AV) → T AV
  | [] => .leaf
  | (t, x) :: l => (envL l).set t x
noncomputable def subB (tm : T AV) : List (Nat × AV) → Bool
  | [] => true
  | (t, x) :: l => (match tm.get t with
    | some y => y.same x && x.pure
    | none => false) && subB tm l
section
variable {v : Val} {P : Program} {nt : Nat}
end
def exitB : AExit → AExit → Bool
  | .normal, .normal => true
  | .exit i, .exit j => Nat.beq i j
  | .goto i, .goto j => Nat.beq i j
  | .ret, .ret => true
  | _, _ => false
noncomputable def runB (x : XR) (e : AExit) (l : List (Nat × AV)) : Bool := match x with
  | .ok e' env _ => exitB e e' && (match env.ds with
    | [] => true
    | _ => false) && (match env.md with
    | none => true
    | _ => false) && subB env.tm l
  | _ => false
theorem post_quiet [Val] {R : Nat} {C : Cfg} {D : Nat → Prop} {φ : PM} {σ : St} {w w' : World} (hi : Inv R C D φ σ w) (h : Frm noPM [] w w') : Post R D φ σ w σ φ w' where
  le := φ.le_refl
  grow := fun _ _ _ _ => rfl
  wrR := fun i hi => .inl hi
  wf := ⟨hi.wf.inj, fun i v e he => Nat.lt_of_lt_of_le (hi.wf.lt i v e he) h.size, hi.wf.top⟩
  blk := fun i v e he => .inl ⟨v, e, he, rfl⟩
  rep := fun i hd => by
    rcases hd with ⟨hd, hl⟩ | ⟨h1, h2⟩
    · exact (hi.rep i hd hl).frame φ.le_refl (fun _ => rfl) fun v e he => h.keep e.blk (hi.wf.lt i v e he) fun _ hh => (by cases hh)
    · omega
  frm := ⟨h.size, fun b hb _ => h.keep b hb fun _ hh => (by cases hh), h.os, h.out, h.tape⟩
end Go.Tw
namespace Go.Tw
open Go.ChangeShapes Go.RowKit
noncomputable section
/-! Known calls along paths with tables at hand; calls that leave all as it was. -/
def tabPath (l : Tabs) (p : Dcs) : Cfg := { tabCfg l with dec := decP p }
section
variable [Val] {P : Program} {R : Nat}
theorem inv_dec {C : Cfg} {d d' : Bx → Option Bool} (hd : ∀ b v, d' b = some v → b.eval = v) {D : Nat → Prop} {φ : PM} {σ : St} {w : World} (h : Inv R { C with dec := d } D φ σ w) : Inv R { C with dec := d' } D φ σ w :=
  { wf := h.wf, low := h.low, rep := h.rep, gl := h.gl, dom := h.dom, pin := h.pin, dec := hd, wrR := h.wrR, ro := h.ro, oh := h.oh }
theorem quiet_runH {C : Cfg} {hk : FuncId → List AV → St → CR} (hs : HkSteps { C with hk := hk }) (hh : HkOk P R { C with hk := hk }) (hm : P.follows .mixedOrders = true) {n : Nat} {β : St}
    (h1 : β.next = R) (h3 : β.wr = []) (h4 : ∀ i, R ≤ i → β.heap.get i = none) (h5 : ∀ i, i < R → β.heap.get i = C.base i)
    (hgl : ∀ g k, C.gl g = some k → g < R) {f : FuncId} {args : List AV} {x : AV} {τ : St} (hc : callN P { C with hk := hk } n f args β = .ret x τ) (k4 : pureL args = true) (hx : x.pure = true) (hmv : ∀ d, x.mv R d = x) :
    (⟨f, args, x, [], R⟩ : Memo).Sound P R C := by
  refine ⟨⟨Nat.le_refl _, fun k o hk => (by cases hk)⟩, fun σ D φ w args' hi ha v σ' hr hf => ?_⟩
  have hret : (⟨f, args, x, [], R⟩ : Memo).ret R σ = .ret (x.mv R (σ.next - R)) { σ with heap := putAll R (σ.next - R) [] σ.heap, next := R + (σ.next - R) } := by
    unfold Memo.ret
    rw [Nat.ble_eq_true_of_le hi.low]
    rfl
  rw [hret] at hr
  simp only [CR.ret.injEq] at hr
  obtain ⟨rfl, rfl⟩ := hr
  have hσ : ({ σ with heap := putAll R (σ.next - R) [] σ.heap, next := R + (σ.next - R) } : St) = σ := by
    have := hi.low
    have h2 : R + (σ.next - R) = σ.next := by omega
    cases σ
    simp only at h2
    simp [putAll, h2]
  rw [hσ]
  have hib : Inv R { C with hk := hk } (fun i => i < R) (φ.low R) β w := {
    wf := ⟨fun i v e j u f a b c => hi.wf.inj i v e j u f (PM.low_le φ R _ _ _ a) (PM.low_le φ R _ _ _ b) c, fun i v e a => hi.wf.lt i v e (PM.low_le φ R _ _ _ a), fun i v e a => hi.wf.top i v e (PM.low_le φ R _ _ _ a)⟩
    low := by omega
    rep := fun i hi' _ => by rw [h5 i hi']; exact hi.ro i hi'
    gl := fun g k hg => by
      obtain ⟨e, he, hx⟩ := hi.gl g k hg
      exact ⟨e, by rw [PM.low_lt _ (hgl g k hg)]; exact he, hx⟩
    dom := fun i hi' => h4 i (by omega)
    pin := hi.pin
    dec := hi.dec
    oh := hi.oh
    wrR := fun i hi' => by rw [h3] at hi'; cases hi'
    ro := fun i hi' => by
      have hll : (φ.low R).low R = φ.low R := by
        funext i v; unfold PM.low; split <;> rfl
      rw [hll]; exact hi.ro i hi' }
  have hkb : Known (fun i => i < R) β τ := fun i _ hn => by rw [h1] at hn; exact hn
  have hfb : Free (φ.low R) β τ := fun i ha' _ v => by
    have : ¬ i < R := by omega
    simp [PM.low, this]
  refine (callN_calls hs hh hm hc hib (ha.pure k4) hkb hfb).mono fun e w' hq => ?_
  obtain ⟨φ', v', rfl, hv, hp⟩ := hq
  refine ⟨φ, v', rfl, by rw [hmv]; exact VR.pure hv hx, post_quiet hi ⟨hp.frm.size, fun b hb _ => hp.frm.keep b hb fun i hiw u e he => ?_, hp.frm.os, hp.frm.out, hp.frm.tape⟩⟩
  exfalso
  rcases hp.wrR i hiw with hw | hw
  · rw [h3] at hw; cases hw
  · have : ¬ i < R := by omega
    simp [PM.low, this] at he
theorem quiet_run {C : Cfg} {ms : List Memo} (hms : ∀ m ∈ ms, m.Sound P R C) (hm : P.follows .mixedOrders = true) {n : Nat} {β : St}
    (h1 : β.next = R) (h3 : β.wr = []) (h4 : ∀ i, R ≤ i → β.heap.get i = none) (h5 : ∀ i, i < R → β.heap.get i = C.base i)
    (hgl : ∀ g k, C.gl g = some k → g < R) {f : FuncId} {args : List AV} {x : AV} {τ : St} (hc : callN P { C with hk := memoHk R (tabM ms) } n f args β = .ret x τ) (k4 : pureL args = true) (hx : x.pure = true) (hmv : ∀ d, x.mv R d = x) :
    (⟨f, args, x, [], R⟩ : Memo).Sound P R C := quiet_runH (memo_steps hms) (memo_hkok hms) hm h1 h3 h4 h5 hgl hc k4 hx hmv
theorem quiet_recast {C : Cfg} {f : FuncId} {args : List AV} {x y : AV} (h : (⟨f, args, x, [], R⟩ : Memo).Sound P R C) (hx : ∀ d, x.mv R d = x) (hy : ∀ d, y.mv R d = y) (hv : ∀ φ z, VR φ x z → VR φ y z) :
    (⟨f, args, y, [], R⟩ : Memo).Sound P R C := by
  refine ⟨h.1, fun σ D φ w args' hi ha v σ' hr hf => ?_⟩
  have hret : ∀ x : AV, (⟨f, args, x, [], R⟩ : Memo).ret R σ = .ret (x.mv R (σ.next - R)) { σ with heap := putAll R (σ.next - R) [] σ.heap, next := R + (σ.next - R) } := fun x => by
    unfold Memo.ret
    rw [Nat.ble_eq_true_of_le hi.low]
    rfl
  rw [hret] at hr
  simp only [CR.ret.injEq] at hr
  obtain ⟨rfl, rfl⟩ := hr
  have hs := hret x
  refine (h.2 σ D φ w args' hi ha _ _ hs hf).mono fun e w' he => ?_
  obtain ⟨φ', v', h1, h2, h3⟩ := he
  rw [hx] at h2
  rw [hy]
  exact ⟨φ', v', h1, hv _ _ h2, h3⟩
theorem tab_calls {l : Tabs} {q : Dcs} {f : FuncId} {args : List AV} {b : Bool} (hsound : (⟨f, args, .bool b, [], R⟩ : Memo).Sound P R (tabPath l q)) (hq : Holds q) (hlt : tabLt R l = true) {W : World} (hl : ∀ p ∈ l, TabOk W p)
    {args' : Array Value} (ha : VRL noPM args args'.toList) (hpure : pureL args = true) : Calls P f args' W fun e W' => e = .returned (.bool b) ∧ Below W.heap.size W W' := by
  have hi : Inv R (tabPath l q) (fun i => i < R) (tabPM l) (tabSt R l) W := inv_dec (C := tabCfg l) (d := (tabCfg l).dec) (fun _ _ hd => decP_ok hq hd) (tab_inv hlt hl)
  have e : (tabSt R l).next - R = 0 := Nat.sub_self R
  have hb : Nat.ble R (tabSt R l).next = true := Nat.ble_eq_true_of_le (Nat.le_refl R)
  have hret : (⟨f, args, .bool b, [], R⟩ : Memo).ret R (tabSt R l) = .ret (AV.mv R ((tabSt R l).next - R) (.bool b)) { tabSt R l with heap := putAll R ((tabSt R l).next - R) [] (tabSt R l).heap, next := R + ((tabSt R l).next - R) } := by
    unfold Memo.ret
    rw [hb]
    rfl
  have hfree : Free (tabPM l) (tabSt R l) { tabSt R l with heap := putAll R ((tabSt R l).next - R) [] (tabSt R l).heap, next := R + ((tabSt R l).next - R) } := fun i h1 h2 v => by
    have h1 : R ≤ i := h1
    have h2 : i < R + ((tabSt R l).next - R) := h2
    rw [e] at h2
    omega
  refine (hsound.2 (tabSt R l) (fun i => i < R) (tabPM l) W args' hi (ha.pure hpure) _ _ hret hfree).mono fun e' W' he => ?_
  obtain ⟨φ', v', rfl, hvr, hpost⟩ := he
  have hvr : VR φ' (.bool b) v' := hvr
  cases hvr
  refine ⟨rfl, hpost.frm.os, hpost.frm.tape, hpost.frm.out, hpost.frm.size, fun k hk => hpost.frm.keep k hk fun i hiw v e he => ?_⟩
  exfalso
  rcases hpost.wrR i hiw with h1 | h1
  · cases h1
  · obtain ⟨_, c, hc, _⟩ := tabPM_some he
    have := tabAt_lt hlt hc
    omega
end
end
end Go.Tw
