/-
  A part of the proof that the abstract evaluator is sound for the model's machine. Conditions: those of each theorem, as it states them.
-/
import Derived.Test.YtelhnjgcijjngaaGreatDoorTwLoop
import Derived.Test.YtelhnjgcijjngaaGreatDoorTwK8
set_option linter.all false
set_option linter.unusedSectionVars false
namespace Go.Tw
open Go.ChangeShapes Go.RowKit
noncomputable section
/-! Known calls along paths, with tables at hand and operations on numbers and texts of known length. -/
def isUU : Option AV → Bool
  | some (.sym _ _) => true
  | some (.vstr _) => true
  | some (.opq _ _ _ _ _ _) => true
  | _ => false
def isUS : Option AV → Bool
  | some (.sym _ _) => true
  | some (.vstr _) => true
  | some (.slc _ _ _ _ _ _) => true
  | _ => false
def anyU (ev : Operand → Option AV) : List Operand → Bool
  | [] => false
  | x :: l => bif isUU (ev x) then true else anyU ev l
def gateOps : Op → List Operand := @Op.rec (fun _ => List Operand)
  (fun _ => []) (fun _ => []) (fun _ _ _ => []) (fun _ => []) (fun _ _ => []) (fun _ _ => []) (fun _ _ _ => []) (fun _ _ _ _ => []) (fun _ y1 => [y1]) (fun _ _ _ => []) (fun _ => []) (fun _ => []) (fun y0 => [y0]) (fun _ _ y2 y3 _ => [y2, y3]) (fun _ _ _ => []) (fun _ _ _ => []) (fun _ _ => []) (fun _ _ => []) (fun _ _ _ => []) (fun _ _ => []) (fun _ _ => []) (fun _ _ _ => []) (fun _ y1 _ _ _ => [y1]) (fun _ _ _ => []) (fun _ _ _ => []) (fun _ _ y2 => [y2]) (fun _ y1 y2 => [y1, y2]) (fun _ _ _ _ => []) (fun _ _ _ _ => []) (fun _ _ _ => []) (fun _ _ _ _ => []) (fun _ _ => []) (fun _ _ => []) (fun _ => []) (fun _ _ _ _ => []) (fun _ _ => []) (fun y0 => y0.args.toList) (fun _ => []) (fun _ => []) (fun _ => []) (fun _ _ => []) (fun _ _ _ => []) (fun _ _ => [])
def gateCv : Op → List Operand := @Op.rec (fun _ => List Operand)
  (fun _ => []) (fun _ => []) (fun _ _ _ => []) (fun _ => []) (fun _ _ => []) (fun _ _ => []) (fun _ _ _ => []) (fun _ _ _ _ => []) (fun _ _ => []) (fun _ _ _ => []) (fun _ => []) (fun _ => []) (fun _ => []) (fun _ _ _ _ _ => []) (fun _ _ _ => []) (fun _ _ y2 => [y2]) (fun _ _ => []) (fun _ _ => []) (fun _ _ _ => []) (fun _ _ => []) (fun _ _ => []) (fun _ _ _ => []) (fun _ _ _ _ _ => []) (fun _ _ _ => []) (fun _ _ _ => []) (fun _ _ _ => []) (fun _ _ _ => []) (fun _ _ _ _ => []) (fun _ _ _ _ => []) (fun _ _ _ => []) (fun _ _ _ _ => []) (fun _ _ => []) (fun _ _ => []) (fun _ => []) (fun _ _ _ _ => []) (fun _ _ => []) (fun _ => []) (fun _ => []) (fun _ => []) (fun _ => []) (fun _ _ => []) (fun _ _ _ => []) (fun _ _ => [])
def anyS (ev : Operand → Option AV) : List Operand → Bool
  | [] => false
  | x :: l => bif isUS (ev x) then true else anyS ev l
def gateK (ev : Operand → Option AV) (o : Oper) : Bool := bif anyU ev (gateOps o.op) then true else anyS ev (gateCv o.op)
def kTO1 (P : Program) (dec : Bx → Option Bool) (ev : Operand → Option AV) (o : Oper) (σ : St) : Option OhR := match kSy P dec ev o with
  | some r => some r
  | none => match kBits P dec ev o with
    | some r => some r
    | none => match kTx P dec ev o with
      | some r => some r
      | none => match kTxV P dec ev o σ with
        | some r => some r
        | none => match kIdx P dec ev o with
          | some r => some r
          | none => kTab P dec ev o σ
def kTO (P : Program) (dec : Bx → Option Bool) (ev : Operand → Option AV) (o : Oper) (σ : St) : Option OhR := bif gateK ev o then kTO1 P dec ev o σ else none
theorem kTO_ok [Val] : OhOk kTO := by
  intro P dec hdec R D φ σ w hi ev a hev o r h hnd hk hf
  unfold kTO at h
  rw [cond_eq_ite] at h
  split at h
  · unfold kTO1 at h
    split at h
    · rename_i r' hr
      simp only [Option.some.injEq] at h; subst h
      exact kSy_ok hdec hi hev hr
    split at h
    · rename_i r' hr
      simp only [Option.some.injEq] at h; subst h
      exact kBits_ok hdec hi hev hr hk hf
    split at h
    · rename_i r' hr
      simp only [Option.some.injEq] at h; subst h
      exact kTx_ok hdec hi hev hr hk
    split at h
    · rename_i r' hr
      simp only [Option.some.injEq] at h; subst h
      exact kTxV_ok hdec hi hev hr hk hf
    split at h
    · rename_i r' hr
      simp only [Option.some.injEq] at h; subst h
      exact kIdx_ok hdec hi hev hr hk hf
    exact kTab_ok hdec hi hev h hk
  · cases h
def tabK (l : Tabs) (p : Dcs) : Cfg := { tabCfg l with dec := decP p, oh := kTO }
section
variable [Val] {P : Program} {R : Nat}
theorem inv_as {C : Cfg} {d d' : Bx → Option Bool} {o o' : Program → (Bx → Option Bool) → (Operand → Option AV) → Oper → St → Option OhR} (hd : ∀ b v, d' b = some v → b.eval = v) (ho : OhOk o') {D : Nat → Prop} {φ : PM} {σ : St} {w : World} (h : Inv R { C with dec := d, oh := o } D φ σ w) : Inv R { C with dec := d', oh := o' } D φ σ w :=
  { wf := h.wf, low := h.low, rep := h.rep, gl := h.gl, dom := h.dom, pin := h.pin, dec := hd, wrR := h.wrR, ro := h.ro, oh := ho }
theorem tabK_drop {l : Tabs} {p : Dcs} (q : Dcs) (hp : Holds p) {m : Memo} (h : m.Sound P R (tabK l p)) : m.Sound P R (tabK l q) :=
  ⟨h.1, fun σ D φ w args' hi ha v σ' hr hf => h.2 σ D φ w args' (inv_as (fun _ _ hd => decP_ok hp hd) kTO_ok hi) ha v σ' hr hf⟩
theorem tabK_any {l : Tabs} (q : Dcs) {m : Memo} (h : m.Sound P R (tabCfg l)) : m.Sound P R (tabK l q) :=
  ⟨h.1, fun σ D φ w args' hi ha v σ' hr hf => h.2 σ D φ w args' (inv_as (C := tabCfg l) (d' := fun _ => none) (o' := fun _ _ _ _ _ => none) (fun _ _ hd => (by cases hd)) OhOk.none hi) ha v σ' hr hf⟩
theorem tabK_all {l : Tabs} (q : Dcs) {ms : List Memo} (h : ∀ m ∈ ms, m.Sound P R (tabCfg l)) : ∀ m ∈ ms, m.Sound P R (tabK l q) := fun m hm => tabK_any q (h m hm)
theorem tabK_drops {l : Tabs} {p : Dcs} (q : Dcs) (hp : Holds p) {ms : List Memo} (h : ∀ m ∈ ms, m.Sound P R (tabK l p)) : ∀ m ∈ ms, m.Sound P R (tabK l q) := fun m hm => tabK_drop q hp (h m hm)
def quietB (P : Program) (C : Cfg) (n : Nat) (m : Memo) (β : St) : Bool := match callN P C n m.f m.args β with
  | .ret v _ => v.same m.v && pureL m.args && m.v.pure
  | _ => false
theorem tabK_quiet {l : Tabs} {p : Dcs} {ms : List Memo} (hms : ∀ m ∈ ms, m.Sound P R (tabK l p)) (hm : P.follows .mixedOrders = true) (hlt : tabLt R l = true) {n : Nat} {f : FuncId} {args : List AV} {x : AV}
    (hc : quietB P { tabK l p with hk := memoHk R (tabM ms) } n ⟨f, args, x, [], R⟩ (tabSt R l) = true) (hmv : ∀ d, x.mv R d = x) : (⟨f, args, x, [], R⟩ : Memo).Sound P R (tabK l p) := by
  unfold quietB at hc
  split at hc
  · rename_i v τ hr
    simp only [Bool.and_eq_true] at hc
    have e := AV.same_eq hc.1.1
    subst e
    refine quiet_run hms hm rfl rfl (fun i hi => ?_) (fun i _ => ?_) (fun g k hg => ?_) hr hc.1.2 hc.2 hmv
    · show (tabHeap l .leaf).get i = none
      rw [tabHeap_get]
      cases h : tabAt l i with
      | none => rfl
      | some c => exact absurd (tabAt_lt hlt h) (by omega)
    · show (tabHeap l .leaf).get i = _
      rw [tabHeap_get]
      rfl
    · have hg : (match tabAt l g with
        | some c => some c.length
        | none => none) = some k := hg
      split at hg
      · rename_i c hc
        exact tabAt_lt hlt hc
      · cases hg
  · cases hc
theorem tabK_calls {l : Tabs} {q : Dcs} {f : FuncId} {args : List AV} {b : Bool} (hsound : (⟨f, args, .bool b, [], R⟩ : Memo).Sound P R (tabK l q)) (hq : Holds q) (hlt : tabLt R l = true) {W : World} (hl : ∀ p ∈ l, TabOk W p)
    {args' : Array Value} (ha : VRL noPM args args'.toList) (hpure : pureL args = true) : Calls P f args' W fun e W' => e = .returned (.bool b) ∧ Below W.heap.size W W' :=
  tab_calls (q := q) ⟨hsound.1, fun σ D φ w args' hi ha v σ' hr hf => hsound.2 σ D φ w args' (inv_as (C := tabCfg l) (fun _ _ hd => decP_ok hq hd) kTO_ok hi) ha v σ' hr hf⟩ hq hlt hl ha hpure
end
end
end Go.Tw
/-! Calls of which the outcome is known by a rule, ahead of known calls: one text as another's head. -/
set_option linter.unusedVariables false
set_option linter.unusedSectionVars false
namespace Go.Tw
open Go.ChangeShapes Go.RowKit
noncomputable def hkH (R : Nat) (h : FuncId → List AV → Option AV) (t : T (List Memo)) (f : FuncId) (args : List AV) (σ : St) : CR := match h f args with
  | some v => .ret v σ
  | none => memoHk R t f args σ
def takeRows : Nat → Sx → Option (List Sx)
  | 0, _ => some []
  | _ + 1, .pr 13 _ _ => some []
  | k + 1, .pr 9 (.pr 12 c (.pr 14 _ _)) r => match takeRows k r with
    | some l => some (c :: l)
    | none => none
  | _, _ => none
def takeT (k : Nat) : AV → Option (List Sx)
  | .str s => some ((s.take k).map litC)
  | .vstr (.pr 15 x _) => takeRows k x
  | _ => none
def hpH (dec : Bx → Option Bool) (g : FuncId) (f : FuncId) (args : List AV) : Option AV := bif Nat.beq f g then (match args with
    | [a, .str p] => match takeT p.length a with
      | some l => bif bytY dec l then (match cmpTx dec l (p.map litC) with
        | some x => some (.bool x)
        | none => none) else none
      | none => none
    | _ => none) else none
section
variable [v : Val] {P : Program} {R : Nat}
def HSound (P : Program) (R : Nat) (C : Cfg) (h : FuncId → List AV → Option AV) : Prop := ∀ f args x, h f args = some x → ∀ (σ : St) (D : Nat → Prop) (φ : PM) (w : World) (args' : Array Value), Inv R C D φ σ w → VRL φ args args'.toList →
  Calls P f args' w fun e w' => ∃ v', e = .returned v' ∧ VR φ x v' ∧ Frm noPM [] w w'
theorem hkH_steps {C : Cfg} {h : FuncId → List AV → Option AV} {ms : List Memo} (hms : ∀ m ∈ ms, m.Sound P R C) : HkSteps { C with hk := hkH R h (tabM ms) } := by
  intro f args σ
  show (hkH R h (tabM ms) f args σ).steps σ
  unfold hkH
  split
  · intro σ' hs
    simp only [CR.st, Option.some.injEq] at hs
    subst hs
    exact .refl _
  · exact memo_steps hms f args σ
theorem hkH_ok {C : Cfg} {h : FuncId → List AV → Option AV} (hh : HSound P R C h) {ms : List Memo} (hms : ∀ m ∈ ms, m.Sound P R C) : HkOk P R { C with hk := hkH R h (tabM ms) } := by
  intro f args σ D φ w args' hi ha
  have hm := memo_hkok hms f args σ D φ w args' hi.hk.hk' ha
  refine ⟨fun x σ' hr hk hf => ?_, fun c σ' hr hk hf => ?_⟩
  · have hr : hkH R h (tabM ms) f args σ = .ret x σ' := hr
    unfold hkH at hr
    split at hr
    · rename_i y hy
      simp only [CR.ret.injEq] at hr
      obtain ⟨rfl, rfl⟩ := hr
      refine (hh f args _ hy σ D φ w args' hi.hk ha).mono fun e w' he => ?_
      obtain ⟨v', h1, h2, h3⟩ := he
      exact ⟨φ, v', h1, h2, post_quiet hi h3⟩
    · exact hm.1 x σ' hr hk hf
  · have hr : hkH R h (tabM ms) f args σ = .pan c σ' := hr
    unfold hkH at hr
    split at hr
    · cases hr
    · exact hm.2 c σ' hr hk hf
theorem bytesD_take (l : List (List Dat)) (k : Nat) : (bytesD l).take k = bytesD (l.take k) := by
  simp [bytesD, List.map_take]
theorem takeRows_dat : ∀ {e : Sx} {k : Nat} {l : List Sx}, takeRows k e = some l → e.dat.toL.take k = l.map fun c => [c.dat] := by
  intro e
  induction e with
  | pr f a b iha ihb =>
    intro k l h
    cases k with
    | zero => simp only [takeRows, Option.some.injEq] at h; subst h; simp
    | succ k =>
      unfold takeRows at h
      split at h
      · rename_i hk; cases hk
      · rename_i heq
        cases heq
        simp only [Option.some.injEq] at h
        subst h
        rfl
      · rename_i k' c p q r hk heq
        cases heq
        have : k' = k := by omega
        subst this
        split at h
        · rename_i m hm
          simp only [Option.some.injEq] at h
          subst h
          have := ihb hm
          rw [List.map_cons, ← this]
          rfl
        · cases h
      · cases h
  | _ =>
    intro k l h
    cases k with
    | zero => simp only [takeRows, Option.some.injEq] at h; subst h; simp
    | succ k => simp [takeRows] at h
variable {φ : PM}
theorem takeT_ok {k : Nat} {a : AV} {l : List Sx} {v' : Value} (h : takeT k a = some l) (hv : VR φ a v') : ∃ s : List UInt8, v' = .string ⟨⟨s⟩⟩ ∧ s.take k = l.map u8e := by
  unfold takeT at h
  split at h
  · rename_i s
    simp only [Option.some.injEq] at h
    subst h
    cases hv
    refine ⟨s, rfl, ?_⟩
    rw [List.map_map]
    conv => lhs; rw [← List.map_id (s.take k)]
    exact List.map_congr_left fun b _ => (u8e_lit b).symm
  · rename_i x y
    cases hv with
    | vstr s hs =>
      have hx := takeRows_dat h
      rw [Sx.dat] at hs
      simp only [primD, Dat.str.injEq] at hs
      subst hs
      exact ⟨_, rfl, by rw [bytesD_take, hx, bytesD_map]⟩
  · cases h
def IsHead (P : Program) (g : FuncId) : Prop := ∀ (s p : List UInt8) (w : World), Calls P g #[.string ⟨⟨s⟩⟩, .string ⟨⟨p⟩⟩] w fun e w' => e = .returned (.bool (s.take p.length == p)) ∧ Frm noPM [] w w'
theorem hpH_ok {g : FuncId} (hg : IsHead P g) {C : Cfg} : HSound P R C (hpH C.dec g) := by
  intro f args x h σ D φ w args' hi ha
  have hd := hi.dec
  unfold hpH at h
  rw [cond_eq_ite] at h
  split at h
  · rename_i hb
    have := beq_t hb
    subst this
    split at h
    · rename_i a p
      split at h
      · rename_i l hl
        rw [cond_eq_ite] at h
        split at h
        · rename_i hby
          split at h
          · rename_i y hy
            simp only [Option.some.injEq] at h
            subst h
            obtain ⟨al, hal⟩ : ∃ al : List Value, args' = al.toArray := ⟨args'.toList, by simp⟩
            subst hal
            cases ha with
            | cons h1 h2 => cases h2 with
              | cons h3 h4 =>
                cases h4
                cases h3
                obtain ⟨s, e1, e2⟩ := takeT_ok hl h1
                subst e1
                have hbp : bytY C.dec (p.map litC) = true := by
                  unfold bytY
                  rw [List.all_map, List.all_eq_true]
                  intro b _
                  have := b.toNat_lt
                  have : leZ 0 (b.toNat : Int) = true ∧ leZ (b.toNat : Int) 255 = true := ⟨by show Nat.ble 0 b.toNat = true; rw [Nat.ble_eq]; omega, by show Nat.ble b.toNat 255 = true; rw [Nat.ble_eq]; omega⟩
                  simp [inB, ivY, litC, this.1, this.2]
                have hc := cmpTx_ok hd hby hbp hy
                have hp : (p.map litC).map u8e = p := by
                  rw [List.map_map]
                  conv => rhs; rw [← List.map_id p]
                  exact List.map_congr_left fun b _ => u8e_lit b
                rw [hp, ← e2] at hc
                refine (hg s p w).mono fun e w' he => ?_
                exact ⟨_, he.1, by rw [hc]; exact .bool _, he.2⟩
          · cases h
        · cases h
      · cases h
    · cases h
  · cases h
end
theorem isHead {P : Program} {g : FuncId} (hm : P.follows .mixedOrders = true)
    (h1 : Memo.ok P { pathCfg [(.cmp .lss (sLen (.dvar 0)) (sLen (.dvar 1)), true)] with hk := memoHk 0 (tabM []) } 100000 0 (St.empty 0) ⟨g, [.vstr (.dvar 0), .vstr (.dvar 1)], .bool false, [], 0⟩ = true)
    (h2 : Memo.ok P { pathCfg [(.cmp .lss (sLen (.dvar 0)) (sLen (.dvar 1)), false), (.cmp .lss (sLen (.dvar 1)) (.lit 0), false)] with hk := memoHk 0 (tabM []) } 100000 0 (St.empty 0)
      ⟨g, [.vstr (.dvar 0), .vstr (.dvar 1)], .symb (.seq (.pr 3 (.pr 2 (.dvar 0) (sLen (.dvar 1))) (.lit 0)) (.dvar 1)), [], 0⟩ = true) : IsHead P g := by
  intro s p w
  letI v : Val := { num := fun _ => 0, dat := fun i => match i with
    | 0 => .str s
    | _ => .str p }
  have e0 : (sLen (.dvar 0)).eval = (s.length : Int) := rfl
  have e1 : (sLen (.dvar 1)).eval = (p.length : Int) := rfl
  have ha : VRL noPM [.vstr (.dvar 0), .vstr (.dvar 1)] #[.string ⟨⟨s⟩⟩, .string ⟨⟨p⟩⟩].toList := .cons (.vstr _ rfl) (.cons (.vstr _ rfl) .nil)
  have hi : ∀ q, Holds q → Inv 0 (pathCfg q) (fun _ => False) noPM (St.empty 0) w := fun q hq =>
    { wf := ⟨fun _ _ _ _ _ _ h => (by cases h), fun _ _ _ h => (by cases h), fun _ _ _ h => (by cases h)⟩, low := Nat.le_refl _, rep := fun _ h => h.elim,
      gl := fun g n h => by simp [pathCfg, Cfg.none] at h, dom := fun i _ => by simp [St.empty, T.get_leaf], pin := fun e n h => by simp [pathCfg, Cfg.none] at h, dec := fun b v h => decP_ok hq h,
      wrR := fun i h => (by cases h), ro := fun i h => absurd h (Nat.not_lt_zero _), oh := OhOk.none }
  have key : ∀ q x, Holds q → (⟨g, [.vstr (.dvar 0), .vstr (.dvar 1)], x, [], 0⟩ : Memo).Sound P 0 (pathCfg q) → Calls P g #[.string ⟨⟨s⟩⟩, .string ⟨⟨p⟩⟩] w fun e w' => ∃ φ' v', e = .returned v' ∧ VR φ' (x.mv 0 0) v' ∧ Frm noPM [] w w' := fun q x hq hs =>
    (hs.2 (St.empty 0) (fun _ => False) noPM w _ (hi q hq) ha _ _ rfl (fun i h1 h2 => absurd (Nat.lt_of_le_of_lt h1 h2) (Nat.lt_irrefl _))).mono fun e w' he => by
      obtain ⟨φ', v', k1, k2, k3⟩ := he
      exact ⟨φ', v', k1, k2, k3.frm⟩
  by_cases hl : s.length < p.length
  · refine (key _ _ (.cons (lss_t' (by rw [e0, e1]; omega)) .nil) (memo_path (fun _ h => by cases h) hm h1)).mono fun e w' he => ?_
    obtain ⟨φ', v', rfl, k2, k3⟩ := he
    cases k2
    have : (s.take p.length == p) = false := by
      rw [beq_eq_false_iff_ne]
      intro h
      have := congrArg List.length h
      rw [List.length_take] at this
      omega
    rw [this]
    exact ⟨rfl, k3⟩
  · refine (key _ _ (.cons (lss_f' (by rw [e0, e1]; omega)) (.cons (lss_f' (by rw [e1]; show ¬ (p.length : Int) < 0; omega)) .nil)) (memo_path (fun _ h => by cases h) hm h2)).mono fun e w' he => ?_
    obtain ⟨φ', v', rfl, k2, k3⟩ := he
    cases k2
    refine ⟨?_, k3⟩
    congr 2
section
variable [Val] {P : Program} {R : Nat}
theorem tabH_memo {l : Tabs} {p : Dcs} {h : FuncId → List AV → Option AV} (hh : HSound P R (tabK l p) h) {ms : List Memo} (hms : ∀ m ∈ ms, m.Sound P R (tabK l p)) (hm : P.follows .mixedOrders = true) (hlt : tabLt R l = true) {n : Nat} {m : Memo}
    (hok : m.ok P { tabK l p with hk := hkH R h (tabM ms) } n R (tabSt R l) = true) : m.Sound P R (tabK l p) :=
  memo_soundH (hkH_steps hms) (hkH_ok hh hms) hm rfl rfl rfl (fun i hi => by
      show (tabHeap l .leaf).get i = none
      rw [tabHeap_get]
      cases h : tabAt l i with
      | none => rfl
      | some c => have := tabAt_lt hlt h; omega)
    (fun i _ => tabHeap_get l i) (fun g k h => by
      have h : (match tabAt l g with
        | some c => some c.length
        | none => none) = some k := h
      split at h
      · rename_i c hc; exact tabAt_lt hlt hc
      · cases h) hok
theorem tabH_quiet {l : Tabs} {p : Dcs} {h : FuncId → List AV → Option AV} (hh : HSound P R (tabK l p) h) {ms : List Memo} (hms : ∀ m ∈ ms, m.Sound P R (tabK l p)) (hm : P.follows .mixedOrders = true) (hlt : tabLt R l = true) {n : Nat} {f : FuncId} {args : List AV} {x : AV}
    (hc : quietB P { tabK l p with hk := hkH R h (tabM ms) } n ⟨f, args, x, [], R⟩ (tabSt R l) = true) (hmv : ∀ d, x.mv R d = x) : (⟨f, args, x, [], R⟩ : Memo).Sound P R (tabK l p) := by
  unfold quietB at hc
  split at hc
  · rename_i v τ hr
    simp only [Bool.and_eq_true] at hc
    have e := AV.same_eq hc.1.1
    subst e
    refine quiet_runH (hkH_steps hms) (hkH_ok hh hms) hm rfl rfl (fun i hi => ?_) (fun i _ => ?_) (fun g k hg => ?_) hr hc.1.2 hc.2 hmv
    · show (tabHeap l .leaf).get i = none
      rw [tabHeap_get]
      cases h : tabAt l i with
      | none => rfl
      | some c => exact absurd (tabAt_lt hlt h) (by omega)
    · show (tabHeap l .leaf).get i = _
      rw [tabHeap_get]
      rfl
    · have hg : (match tabAt l g with
        | some c => some c.length
        | none => none) = some k := hg
      split at hg
      · rename_i c hc
        exact tabAt_lt hlt hc
      · cases hg
  · cases hc
end
end Go.Tw
