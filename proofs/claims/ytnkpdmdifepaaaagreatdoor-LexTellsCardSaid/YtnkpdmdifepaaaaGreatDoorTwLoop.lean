/-
  Code that leaves the world as it was, run piece by piece, with loops by induction; known calls with tables at hand. Conditions: those of each theorem.
-/
import Derived.Test.YtnkpdmdifepaaaaGreatDoorTwSym
import Derived.Test.YtnkpdmdifepaaaaGreatDoorTwTab
namespace Go.Tw
open Go.ChangeShapes Go.RowKit

/-! Code that leaves the world as it was, but for what is new: run piece by piece, with loops by induction. What is not known may be told anew (another Val) from round to round. -/
abbrev noPM : PM := fun _ _ => none

/-- A frame's temporaries hold what is told; nothing is put off. -/
structure PEnv (v : Val) (nt : Nat) (tm : T AV) (a : Act) : Prop where
  size : a.tmps.size = nt
  val : ∀ t x, tm.get t = some x → ∃ x', a.tmps[t]? = some x' ∧ @VR v noPM x x'
  dfs : a.defers = []

def ExitP : AExit → Exit → Prop
  | .normal, .normal => True
  | .exit i, .exit j => i = j
  | .goto i, .goto j => i = j
  | .ret, .ret => True
  | _, _ => False
theorem ExitP.of {v : Val} {φ : PM} {e : AExit} {e' : Exit} (h : @ExitR v φ e e') (hn : ∀ c, e ≠ .panic c) : ExitP e e' := by
  cases e <;> cases e' <;> first | exact h | exact absurd rfl (hn _)

/-- Code, from temporaries, comes to an exit with temporaries. -/
def PureTo (v : Val) (P : Program) (nt : Nat) (c : Code) (tm : T AV) (e : AExit) (tm' : T AV) : Prop :=
  ∀ (a : Act) (cs : List Frame) (w : World), PEnv v nt tm a →
    Runs P none false c (fun e' a' cs' w' => cs' = cs ∧ ExitP e e' ∧ PEnv v nt tm' a' ∧ Frm noPM [] w w') a cs w

theorem Frm.none_trans {w w1 w2 : World} (h : Frm noPM [] w w1) (k : Frm noPM [] w1 w2) : Frm noPM [] w w2 :=
  ⟨Nat.le_trans h.size k.size, fun b hb _ => (k.keep b (Nat.lt_of_lt_of_le hb h.size) fun _ hi => (by cases hi)).trans (h.keep b hb fun _ hi => (by cases hi)), k.os.trans h.os, k.out.trans h.out, k.tape.trans h.tape⟩
theorem Frm.none_of {wr : List Nat} {w w' : World} (h : Frm noPM wr w w') : Frm noPM [] w w' :=
  ⟨h.size, fun b hb _ => h.keep b hb fun _ _ _ _ he => (by cases he), h.os, h.out, h.tape⟩

/-- What temporaries tell, told anew. -/
def Sub (v : Val) (tm : T AV) (v' : Val) (tm' : T AV) : Prop :=
  ∀ t x, tm'.get t = some x → ∃ y, tm.get t = some y ∧ ∀ φ z, @VR v φ y z → @VR v' noPM x z
theorem PEnv.sub {v v' : Val} {nt : Nat} {tm tm' : T AV} {a : Act} (h : PEnv v nt tm a) (k : Sub v tm v' tm') : PEnv v' nt tm' a :=
  ⟨h.size, fun t x hx => by
    obtain ⟨y, hy, hz⟩ := k t x hx
    obtain ⟨x', h1, h2⟩ := h.val t y hy
    exact ⟨x', h1, hz _ _ h2⟩, h.dfs⟩

/-- Temporaries by a list. -/
noncomputable def envL : List (Nat × AV) → T AV
  | [] => .leaf
  | (t, x) :: l => (envL l).set t x
theorem envL_get : ∀ {l : List (Nat × AV)} {t : Nat} {x : AV}, (envL l).get t = some x → (t, x) ∈ l := by
  intro l
  induction l with
  | nil => intro t x h; simp [envL, T.get_leaf] at h
  | cons p l ih =>
    intro t x h
    obtain ⟨q, y⟩ := p
    simp only [envL] at h
    rw [T.get_set] at h
    split at h
    · rename_i e
      simp only [Option.some.injEq] at h
      subst e; subst h
      simp
    · exact List.mem_cons_of_mem _ (ih h)
/-- Are these the same there, and no places? -/
noncomputable def subB (tm : T AV) : List (Nat × AV) → Bool
  | [] => true
  | (t, x) :: l => (match tm.get t with
    | some y => y.same x && x.pure
    | none => false) && subB tm l
theorem sub_of_B {v : Val} {tm : T AV} {l : List (Nat × AV)} (h : subB tm l = true) : Sub v tm v (envL l) := by
  intro t x hx
  have hm := envL_get hx
  induction l with
  | nil => cases hm
  | cons p l ih =>
    simp only [subB, Bool.and_eq_true] at h
    rcases List.mem_cons.1 hm with rfl | hm'
    · obtain ⟨h1, _⟩ := h
      simp only at h1
      split at h1
      · rename_i y hy
        simp only [Bool.and_eq_true] at h1
        have e := AV.same_eq h1.1
        subst e
        exact ⟨_, hy, fun φ z hz => VR.pure hz h1.2⟩
      · cases h1
    · have : (envL l).get t = some x ∨ True := .inr trivial
      obtain ⟨_, h2⟩ := h
      clear ih
      revert hm' h2
      clear hm hx this
      induction l with
      | nil => intro hm'; cases hm'
      | cons q l ih2 =>
        intro hm' h2
        simp only [subB, Bool.and_eq_true] at h2
        rcases List.mem_cons.1 hm' with rfl | hm''
        · obtain ⟨h1, _⟩ := h2
          simp only at h1
          split at h1
          · rename_i y hy
            simp only [Bool.and_eq_true] at h1
            have e := AV.same_eq h1.1
            subst e
            exact ⟨_, hy, fun φ z hz => VR.pure hz h1.2⟩
          · cases h1
        · exact ih2 hm'' h2.2
/-- Temporaries told anew, one by one. -/
theorem sub_of {v v' : Val} {tm : T AV} {l : List (Nat × AV)} (h : ∀ p ∈ l, ∃ y, tm.get p.1 = some y ∧ ∀ φ z, @VR v φ y z → @VR v' noPM p.2 z) : Sub v tm v' (envL l) :=
  fun t x hx => h (t, x) (envL_get hx)
theorem told_sym {v v' : Val} {k : IntKind} {e e' : Sx} (h : @Sx.eval v e = @Sx.eval v' e') : ∀ φ z, @VR v φ (.sym k e) z → @VR v' noPM (.sym k e') z := by
  intro φ z hz
  cases hz
  rw [h]
  exact @VR.sym v' _ k e'
theorem told_int {v v' : Val} {k : IntKind} {n : Int} {e' : Sx} (h : n = @Sx.eval v' e') : ∀ φ z, @VR v φ (.int k n) z → @VR v' noPM (.sym k e') z := by
  intro φ z hz
  cases hz
  rw [h]
  exact @VR.sym v' _ k e'
theorem told_str {v v' : Val} {e e' : Sx} (h : @Sx.dat v e = @Sx.dat v' e') : ∀ φ z, @VR v φ (.vstr e) z → @VR v' noPM (.vstr e') z := by
  intro φ z hz
  cases hz with
  | vstr s hs => exact @VR.vstr v' _ e' s (h ▸ hs)
theorem told_const {v v' : Val} {k : IntKind} {n : Int} : ∀ φ z, @VR v φ (.int k n) z → @VR v' noPM (.int k n) z := by
  intro φ z hz
  cases hz
  exact @VR.int v' _ k n
theorem told_bool {v v' : Val} {b : Bool} : ∀ φ z, @VR v φ (.bool b) z → @VR v' noPM (.bool b) z := by
  intro φ z hz
  cases hz
  exact @VR.bool v' _ b
theorem told_lit {v v' : Val} {s : List UInt8} : ∀ φ z, @VR v φ (.str s) z → @VR v' noPM (.str s) z := by
  intro φ z hz
  cases hz
  exact @VR.str v' _ s

section
variable {v : Val} {P : Program} {nt : Nat}

theorem PureTo.weak {c : Code} {tm tm' tm2 : T AV} {e : AExit} (h : PureTo v P nt c tm e tm') (k : Sub v tm' v tm2) : PureTo v P nt c tm e tm2 :=
  fun a cs w ha => (h a cs w ha).mono fun _ _ _ _ q => ⟨q.1, q.2.1, q.2.2.1.sub k, q.2.2.2⟩
theorem PureTo.pre {v' : Val} {c : Code} {tm tm0 tm' : T AV} {e : AExit} (h : PureTo v P nt c tm e tm') (k : Sub v' tm0 v tm) (k' : Sub v tm' v' tm') : PureTo v' P nt c tm0 e tm' :=
  fun a cs w ha => (h a cs w (ha.sub k)).mono fun _ _ _ _ q => ⟨q.1, q.2.1, q.2.2.1.sub k', q.2.2.2⟩

/-- What the evaluator runs. -/
theorem pure_exec {C : Cfg} (hs : HkSteps C) (hh : @HkOk v P 0 C) (hm : P.follows .mixedOrders = true) (hgl : ∀ g, C.gl g = none) (hpin : ∀ e n, C.pin e = some n → @Sx.eval v e = n)
    (hdec : ∀ b x, C.dec b = some x → @Bx.eval v b = x) {n : Nat} {c : Code} {tm tm' : T AV} {e : AExit} {env1 : Env} {σ1 : St}
    (h : exec P C n nt c { tm := tm, ds := [], md := none, rd := false } (St.empty 0) = .ok e env1 σ1) (hn : ∀ c, e ≠ .panic c) (hd : env1.ds = []) (hmd : env1.md = none) (hE : Sub v env1.tm v tm') : PureTo v P nt c tm e tm' := by
  intro a cs w ha
  have hi : @Inv v 0 C (fun _ => False) noPM (St.empty 0) w :=
    { wf := ⟨fun _ _ _ _ _ _ h => (by cases h), fun _ _ _ h => (by cases h), fun _ _ _ h => (by cases h)⟩, low := Nat.le_refl _, rep := fun _ h => h.elim,
      gl := fun g k hg => (by rw [hgl] at hg; cases hg), dom := fun i _ => by simp [St.empty, T.get_leaf], pin := hpin, dec := hdec,
      wrR := fun i h => (by cases h), ro := fun i h => absurd h (Nat.not_lt_zero _) }
  have hf : @FrmR v noPM nt { tm := tm, ds := [], md := none, rd := false } a := ⟨⟨ha.size, ha.val⟩, ha.dfs ▸ .nil⟩
  refine ((@exec_all v P 0 C hs hh hm n).1 nt c _ _ e env1 σ1 (fun _ => False) noPM a cs w none false cs h hi hf ⟨rfl, rfl⟩ rfl (fun i _ hl => absurd hl (Nat.not_lt_zero _)) (fun _ _ _ _ => rfl)).mono fun e' a' cs' w' q => ?_
  obtain ⟨φ', g1, g2, g3, g4, g5⟩ := q
  have hcs : cs' = cs := by
    rw [hmd] at g3
    exact g3.2
  refine ⟨hcs, ExitP.of g1 hn, ⟨g2.ev.size, fun t x hx => ?_, ?_⟩, g5.frm.none_of⟩
  · obtain ⟨y, hy, hz⟩ := hE t x hx
    obtain ⟨x', h1, h2⟩ := g2.ev.val t y hy
    exact ⟨x', h1, hz _ _ h2⟩
  · have := g2.dfs
    rw [hd] at this
    generalize a'.defers = l at this
    cases this
    rfl

theorem PureTo.seq {x y : Code} {tm tm1 tm' : T AV} {e : AExit} (h : PureTo v P nt x tm .normal tm1) (k : PureTo v P nt y tm1 e tm') : PureTo v P nt (.seq x y) tm e tm' := by
  intro a cs w ha
  refine runs_seq ((h a cs w ha).mono fun e1 a1 cs1 w1 q => ?_)
  obtain ⟨rfl, q2, q3, q4⟩ := q
  have : e1 = .normal := by cases e1 <;> simp_all [ExitP]
  subst this
  exact (k a1 _ w1 q3).mono fun e2 a2 cs2 w2 r => ⟨r.1, r.2.1, r.2.2.1, q4.none_trans r.2.2.2⟩
theorem PureTo.seq_out {x y : Code} {tm tm' : T AV} {e : AExit} (h : PureTo v P nt x tm e tm') (hn : e ≠ .normal) : PureTo v P nt (.seq x y) tm e tm' := by
  intro a cs w ha
  refine runs_seq ((h a cs w ha).mono fun e1 a1 cs1 w1 q => ?_)
  have hnn : e1 ≠ .normal := by
    obtain ⟨_, q2, _⟩ := q
    intro h'
    subst h'
    cases e <;> simp_all [ExitP]
  cases e1 with
  | normal => exact absurd rfl hnn
  | _ => exact q
theorem PureTo.block {id : Nat} {x : Code} {tm tm' : T AV} (h : PureTo v P nt x tm (.exit id) tm') : PureTo v P nt (.block id x) tm .normal tm' := by
  intro a cs w ha
  refine runs_block ((h a cs w ha).mono fun e1 a1 cs1 w1 q => ?_)
  obtain ⟨q1, q2, q3⟩ := q
  cases e1 <;> simp only [ExitP] at q2
  subst q2
  simp only [inBlockS, if_true]
  exact ⟨q1, trivial, q3⟩
theorem PureTo.block_out {id : Nat} {x : Code} {tm tm' : T AV} {e : AExit} (h : PureTo v P nt x tm e tm') (hn : e ≠ .exit id) : PureTo v P nt (.block id x) tm e tm' := by
  intro a cs w ha
  refine runs_block ((h a cs w ha).mono fun e1 a1 cs1 w1 q => ?_)
  obtain ⟨q1, q2, q3⟩ := q
  cases e1 with
  | exit j =>
    cases e <;> simp only [ExitP] at q2
    subst q2
    rename_i i
    have : i ≠ id := fun h' => hn (by rw [h'])
    simp only [inBlockS, this, if_false]
    exact ⟨q1, rfl, q3⟩
  | _ => exact ⟨q1, q2, q3⟩
theorem PureTo.scope {x : Code} {tm tm' : T AV} {e : AExit} (h : PureTo v P nt x tm e tm') (hn : ∀ l, e ≠ .goto l) : PureTo v P nt (.scope x) tm e tm' := by
  intro a cs w ha b k hb hkd
  obtain ⟨e1, a1, cs1, w1, q, harr⟩ := h a cs w ha b (.inScope x :: k) hb hkd
  have hng : ∀ l, e1 ≠ .goto l := by
    intro l hl
    subst hl
    obtain ⟨_, q2, _⟩ := q
    cases e <;> simp only [ExitP] at q2
    exact hn _ rfl
  refine ⟨e1, a1, cs1, w1, q, .of_steps (one_wide stepR_scope) ?_⟩
  cases e1 with
  | normal => exact StepsIn.trans harr (one_wide stepR_inScope)
  | exit id =>
    have hx : exitTo id (.inScope x :: k) = exitTo id k := by simp [exitTo]
    exact ⟨fun k' hk' => harr.1 k' (by rw [hx]; exact hk'), fun hr hk' => harr.2 hr (by rw [hx]; exact hk')⟩
  | goto l => exact absurd rfl (hng l)
  | ret => exact harr
  | panic ch => exact harr
  | outgrown => exact harr

end

def exitB : AExit → AExit → Bool
  | .normal, .normal => true
  | .exit i, .exit j => Nat.beq i j
  | .goto i, .goto j => Nat.beq i j
  | .ret, .ret => true
  | _, _ => false
theorem exitB_eq {e e' : AExit} (h : exitB e e' = true) : e = e' ∧ ∀ c, e ≠ .panic c := by
  cases e <;> cases e' <;> simp only [exitB, Bool.false_eq_true] at h <;> first | exact ⟨rfl, fun _ h => by cases h⟩ | exact ⟨by rw [beq_t h], fun _ h => by cases h⟩
/-- Does a run come to that exit, with these temporaries? -/
noncomputable def runB (x : XR) (e : AExit) (l : List (Nat × AV)) : Bool := match x with
  | .ok e' env _ => exitB e e' && (match env.ds with
    | [] => true
    | _ => false) && (match env.md with
    | none => true
    | _ => false) && subB env.tm l
  | _ => false
theorem pure_run {v : Val} {P : Program} {nt : Nat} {p : Dcs} (hp : @Holds v p) {ms : List Memo} (hms : ∀ m ∈ ms, @Memo.Sound v P 0 (pathCfg p) m) (hm : P.follows .mixedOrders = true) {n : Nat} {c : Code} {tm : T AV} {e : AExit} {l : List (Nat × AV)}
    (h : runB (exec P { pathCfg p with hk := memoHk 0 (tabM ms) } n nt c { tm := tm, ds := [], md := none, rd := false } (St.empty 0)) e l = true) : PureTo v P nt c tm e (envL l) := by
  unfold runB at h
  split at h
  · rename_i e' env σ hx
    simp only [Bool.and_eq_true] at h
    obtain ⟨⟨⟨h1, h2⟩, h3⟩, h4⟩ := h
    obtain ⟨rfl, hn⟩ := exitB_eq h1
    have hd : env.ds = [] := by
      split at h2
      · assumption
      · cases h2
    have hmd : env.md = none := by
      split at h3
      · assumption
      · cases h3
    exact pure_exec (v := v) (C := { pathCfg p with hk := memoHk 0 (tabM ms) }) (@memo_steps v P 0 (pathCfg p) ms hms) (@memo_hkok v P 0 (pathCfg p) ms hms) hm (fun _ => rfl) (fun _ _ h => by cases h) (fun _ _ hd => @decP_ok v _ hp _ _ hd) hx hn hd hmd (sub_of_B h4)
  · cases h

/-- A loop, by what each round comes to: what is told anew, or the way out. -/
theorem pure_loop {P : Program} {nt : Nat} {c : Code} {tm : T AV} {I : Val → Prop} {μ : Val → Nat} {eo : Val → AExit} {to : Val → T AV}
    (step : ∀ v, I v → (∃ v' tm1, I v' ∧ μ v' < μ v ∧ PureTo v P nt c tm .normal tm1 ∧ Sub v tm1 v' tm ∧ eo v' = eo v ∧ Sub v' (to v') v (to v)) ∨ (eo v ≠ .normal ∧ PureTo v P nt c tm (eo v) (to v))) :
    ∀ v, I v → PureTo v P nt (.loop c) tm (eo v) (to v) := by
  have key : ∀ n v, I v → μ v ≤ n → ∀ (a : Act) (cs : List Frame) (w : World), PEnv v nt tm a → ∀ (b : Frame) (k : List Item), b.roundOf = none → b.kind = kindOf false →
      ∃ e' a' cs' w', (cs' = cs ∧ ExitP (eo v) e' ∧ PEnv v nt (to v) a' ∧ Frm noPM [] w w') ∧
        ArrivesIn (Machine.fenced P Fence.wide) P (lone (b.atR a (.code c :: .inLoop c :: k)) cs w) b k cs' e' a' w' := by
    intro n
    induction n with
    | zero =>
      intro v hv hn a cs w ha b k hb hkd
      rcases step v hv with ⟨v', tm1, _, hm, _⟩ | ⟨hne, hp⟩
      · omega
      · obtain ⟨e1, a1, cs1, w1, q, harr⟩ := hp a cs w ha b (.inLoop c :: k) hb hkd
        have hnn : e1 ≠ .normal := by
          intro h'
          subst h'
          obtain ⟨_, q2, _⟩ := q
          generalize eo v = e at hne q2
          cases e <;> simp_all [ExitP]
        exact ⟨e1, a1, cs1, w1, q, .pass (x := .inLoop c) rfl (fun _ _ => .inl hnn) harr⟩
    | succ n ih =>
      intro v hv hn a cs w ha b k hb hkd
      rcases step v hv with ⟨v', tm1, hv', hm, hp, hs, he, ht⟩ | ⟨hne, hp⟩
      · obtain ⟨e1, a1, cs1, w1, q, harr⟩ := hp a cs w ha b (.inLoop c :: k) hb hkd
        obtain ⟨rfl, q2, q3, q4⟩ := q
        have : e1 = .normal := by cases e1 <;> simp_all [ExitP]
        subst this
        obtain ⟨e2, a2, cs2, w2, r, harr2⟩ := ih v' hv' (by omega) a1 _ w1 (q3.sub hs) b k hb hkd
        obtain ⟨r1, r2, r3, r4⟩ := r
        exact ⟨e2, a2, cs2, w2, ⟨r1, he ▸ r2, r3.sub ht, q4.none_trans r4⟩, .of_steps (StepsIn.trans harr (one_wide stepR_inLoop)) harr2⟩
      · obtain ⟨e1, a1, cs1, w1, q, harr⟩ := hp a cs w ha b (.inLoop c :: k) hb hkd
        have hnn : e1 ≠ .normal := by
          intro h'
          subst h'
          obtain ⟨_, q2, _⟩ := q
          generalize eo v = e at hne q2
          cases e <;> simp_all [ExitP]
        exact ⟨e1, a1, cs1, w1, q, .pass (x := .inLoop c) rfl (fun _ _ => .inl hnn) harr⟩
  intro v hv a cs w ha b k hb hkd
  obtain ⟨e1, a1, cs1, w1, q, harr⟩ := key (μ v) v hv (Nat.le_refl _) a cs w ha b k hb hkd
  exact ⟨e1, a1, cs1, w1, q, .of_steps (one_wide stepR_loop) harr⟩

/-- A function of one result or more, by its body. -/
theorem pure_calls {v : Val} {P : Program} {f : FuncId} {fn : Func} {c : Code} {args : List AV} {args' : Array Value} {w : World} {tm' : T AV} {e : AExit} {l : List AV} {σ' : St}
    (hf : P.funcs[f]? = some fn) (hb : fn.body = some c) (ha : @VRL v noPM args args'.toList) (hlen : Nat.ble args.length fn.ntmps = true) (h : PureTo v P fn.ntmps c (envOf args 0 .leaf) e tm') (he : e = .ret ∨ e = .normal)
    (hres : resultsA P fn { tm := tm', ds := [], md := none, rd := false } (St.empty 0) fn.results.toList = some (l, σ')) :
    Calls P f args' w fun e w' => ∃ x, e = .returned x ∧ @VR v noPM (given l) x ∧ Frm noPM [] w w' := by
  refine calls_of_runs hf hb fun cs => ?_
  have hen := @enter_env v noPM args args' ha fn.ntmps (ble_t hlen) none false
  refine (h _ cs w ⟨hen.ev.size, hen.ev.val, rfl⟩).mono fun e1 a1 cs1 w1 q => ?_
  obtain ⟨q1, q2, q3, q4⟩ := q
  refine ⟨q1, ?_⟩
  have hi : @Inv v 0 Cfg.none (fun _ => False) noPM (St.empty 0) w1 :=
    { wf := ⟨fun _ _ _ _ _ _ h => (by cases h), fun _ _ _ h => (by cases h), fun _ _ _ h => (by cases h)⟩, low := Nat.le_refl _, rep := fun _ h => h.elim,
      gl := fun g n h => by simp [Cfg.none] at h, dom := fun i _ => by simp [St.empty, T.get_leaf], pin := fun e n h => by simp [Cfg.none] at h, dec := fun b v h => by simp [Cfg.none] at h,
      wrR := fun i h => (by cases h), ro := fun i h => absurd h (Nat.not_lt_zero _) }
  have hev : @EnvR v noPM fn.ntmps { tm := tm', ds := [], md := none, rd := false } a1 := ⟨q3.size, q3.val⟩
  obtain ⟨x, r1, r2, _⟩ := @results_ok v P 0 Cfg.none (fun _ => False) noPM (St.empty 0) w1 fn fn.ntmps _ a1 σ' l hev hi hres (fun i _ hl => absurd hl (Nat.not_lt_zero _))
  have hgo : LeavesInM Fence.wide 0 P fn a1.tmps (fun e w' => ∃ x, e = .returned x ∧ @VR v noPM (given l) x ∧ Frm noPM [] w w') a1.defers .returning w1 := by
    rw [q3.dfs]
    exact ⟨x, r1, x, rfl, r2, q4⟩
  rcases he with rfl | rfl
  · cases e1 <;> simp only [ExitP] at q2; exact hgo
  · cases e1 <;> simp only [ExitP] at q2; exact hgo

/-- What leaves all as it was changes nothing of what is known. -/
theorem post_quiet [Val] {R : Nat} {C : Cfg} {D : Nat → Prop} {φ : PM} {σ : St} {w w' : World} (hi : Inv R C D φ σ w) (h : Frm noPM [] w w') : Post R D φ σ w σ φ w' where
  le := φ.le_refl
  grow := fun _ _ _ _ => rfl
  wrR := fun i hi => .inl hi
  wf := ⟨hi.wf.inj, fun i v e he => Nat.lt_of_lt_of_le (hi.wf.lt i v e he) h.size, hi.wf.top⟩
  blk := fun i v e he => .inl ⟨v, e, he, rfl⟩
  rep := fun i hd => by
    rcases hd with ⟨hd, hl⟩ | ⟨h1, h2⟩
    · exact (hi.rep i hd hl).frame φ.le_refl (fun _ => rfl) fun v e he => h.keep e.blk (hi.wf.lt i v e he) fun _ hh => (by cases hh)
    · omega
  frm := ⟨h.size, fun b hb _ => h.keep b hb fun _ hh => (by cases hh), h.os, h.out, h.tape⟩

/-- A contract of a function that leaves all as it was, as a known call. -/
theorem memo_quiet [Val] {P : Program} {R : Nat} {C : Cfg} {f : FuncId} {args : List AV} {x : AV} (hpure : x.pure = true) (hmv : ∀ d, x.mv R d = x)
    (h : ∀ (φ : PM) (args' : Array Value) (w : World), VRL φ args args'.toList → Calls P f args' w fun e w' => ∃ y, e = .returned y ∧ VR noPM x y ∧ Frm noPM [] w w') :
    (⟨f, args, x, [], R⟩ : Memo).Sound P R C := by
  refine ⟨⟨Nat.le_refl _, fun k o hk => (by cases hk)⟩, fun σ D φ w args' hi ha v σ' hr hf => ?_⟩
  have hret : (⟨f, args, x, [], R⟩ : Memo).ret R σ = .ret (x.mv R (σ.next - R)) { σ with heap := putAll R (σ.next - R) [] σ.heap, next := R + (σ.next - R) } := by
    unfold Memo.ret
    rw [Nat.ble_eq_true_of_le hi.low]
    rfl
  rw [hret] at hr
  simp only [CR.ret.injEq] at hr
  obtain ⟨rfl, rfl⟩ := hr
  have hσ : ({ σ with heap := putAll R (σ.next - R) [] σ.heap, next := R + (σ.next - R) } : St) = σ := by
    have := hi.low
    have h2 : R + (σ.next - R) = σ.next := by omega
    cases σ
    simp only at h2
    simp [putAll, h2]
  rw [hσ]
  refine (h φ args' w ha).mono fun e w' he => ?_
  obtain ⟨y, h1, h2, h3⟩ := he
  exact ⟨φ, y, h1, by rw [hmv]; exact VR.pure h2 hpure, post_quiet hi h3⟩
end Go.Tw
namespace Go.Tw
open Go.ChangeShapes Go.RowKit
noncomputable section

/-! Known calls along paths with tables at hand; calls that leave all as it was. -/
def tabPath (l : Tabs) (p : Dcs) : Cfg := { tabCfg l with dec := decP p }

section
variable [Val] {P : Program} {R : Nat}

theorem inv_dec {C : Cfg} {d d' : Bx → Option Bool} (hd : ∀ b v, d' b = some v → b.eval = v) {D : Nat → Prop} {φ : PM} {σ : St} {w : World} (h : Inv R { C with dec := d } D φ σ w) : Inv R { C with dec := d' } D φ σ w :=
  { wf := h.wf, low := h.low, rep := h.rep, gl := h.gl, dom := h.dom, pin := h.pin, dec := hd, wrR := h.wrR, ro := h.ro }
/-- A known call along a path that is so is one along any. -/
theorem tab_drop {l : Tabs} {p : Dcs} (q : Dcs) (hp : Holds p) {m : Memo} (h : m.Sound P R (tabPath l p)) : m.Sound P R (tabPath l q) :=
  ⟨h.1, fun σ D φ w args' hi ha v σ' hr hf => h.2 σ D φ w args' (inv_dec (fun _ _ hd => decP_ok hp hd) hi) ha v σ' hr hf⟩
theorem tab_any {l : Tabs} (q : Dcs) {m : Memo} (h : m.Sound P R (tabCfg l)) : m.Sound P R (tabPath l q) :=
  ⟨h.1, fun σ D φ w args' hi ha v σ' hr hf => h.2 σ D φ w args' (inv_dec (C := tabCfg l) (d' := fun _ => none) (fun _ _ hd => (by cases hd)) hi) ha v σ' hr hf⟩

/-- A call that the evaluator runs from what is given, and that tells no place, leaves all as it was. -/
theorem quiet_run {C : Cfg} {ms : List Memo} (hms : ∀ m ∈ ms, m.Sound P R C) (hm : P.follows .mixedOrders = true) {n : Nat} {β : St}
    (h1 : β.next = R) (h3 : β.wr = []) (h4 : ∀ i, R ≤ i → β.heap.get i = none) (h5 : ∀ i, i < R → β.heap.get i = C.base i)
    (hgl : ∀ g k, C.gl g = some k → g < R) {f : FuncId} {args : List AV} {x : AV} {τ : St} (hc : callN P { C with hk := memoHk R (tabM ms) } n f args β = .ret x τ) (k4 : pureL args = true) (hx : x.pure = true) (hmv : ∀ d, x.mv R d = x) :
    (⟨f, args, x, [], R⟩ : Memo).Sound P R C := by
  refine ⟨⟨Nat.le_refl _, fun k o hk => (by cases hk)⟩, fun σ D φ w args' hi ha v σ' hr hf => ?_⟩
  have hret : (⟨f, args, x, [], R⟩ : Memo).ret R σ = .ret (x.mv R (σ.next - R)) { σ with heap := putAll R (σ.next - R) [] σ.heap, next := R + (σ.next - R) } := by
    unfold Memo.ret
    rw [Nat.ble_eq_true_of_le hi.low]
    rfl
  rw [hret] at hr
  simp only [CR.ret.injEq] at hr
  obtain ⟨rfl, rfl⟩ := hr
  have hσ : ({ σ with heap := putAll R (σ.next - R) [] σ.heap, next := R + (σ.next - R) } : St) = σ := by
    have := hi.low
    have h2 : R + (σ.next - R) = σ.next := by omega
    cases σ
    simp only at h2
    simp [putAll, h2]
  rw [hσ]
  have hib : Inv R { C with hk := memoHk R (tabM ms) } (fun i => i < R) (φ.low R) β w := {
    wf := ⟨fun i v e j u f a b c => hi.wf.inj i v e j u f (PM.low_le φ R _ _ _ a) (PM.low_le φ R _ _ _ b) c, fun i v e a => hi.wf.lt i v e (PM.low_le φ R _ _ _ a), fun i v e a => hi.wf.top i v e (PM.low_le φ R _ _ _ a)⟩
    low := by omega
    rep := fun i hi' _ => by rw [h5 i hi']; exact hi.ro i hi'
    gl := fun g k hg => by
      obtain ⟨e, he, hx⟩ := hi.gl g k hg
      exact ⟨e, by rw [PM.low_lt _ (hgl g k hg)]; exact he, hx⟩
    dom := fun i hi' => h4 i (by omega)
    pin := hi.pin
    dec := hi.dec
    wrR := fun i hi' => by rw [h3] at hi'; cases hi'
    ro := fun i hi' => by
      have hll : (φ.low R).low R = φ.low R := by
        funext i v; unfold PM.low; split <;> rfl
      rw [hll]; exact hi.ro i hi' }
  have hkb : Known (fun i => i < R) β τ := fun i _ hn => by rw [h1] at hn; exact hn
  have hfb : Free (φ.low R) β τ := fun i ha' _ v => by
    have : ¬ i < R := by omega
    simp [PM.low, this]
  refine (callN_calls (memo_steps hms) (memo_hkok hms) hm hc hib (ha.pure k4) hkb hfb).mono fun e w' hq => ?_
  obtain ⟨φ', v', rfl, hv, hp⟩ := hq
  refine ⟨φ, v', rfl, by rw [hmv]; exact VR.pure hv hx, post_quiet hi ⟨hp.frm.size, fun b hb _ => hp.frm.keep b hb fun i hiw u e he => ?_, hp.frm.os, hp.frm.out, hp.frm.tape⟩⟩
  exfalso
  rcases hp.wrR i hiw with hw | hw
  · rw [h3] at hw; cases hw
  · have : ¬ i < R := by omega
    simp [PM.low, this] at he
/-- What is told may be told in another way. -/
theorem quiet_recast {C : Cfg} {f : FuncId} {args : List AV} {x y : AV} (h : (⟨f, args, x, [], R⟩ : Memo).Sound P R C) (hx : ∀ d, x.mv R d = x) (hy : ∀ d, y.mv R d = y) (hv : ∀ φ z, VR φ x z → VR φ y z) :
    (⟨f, args, y, [], R⟩ : Memo).Sound P R C := by
  refine ⟨h.1, fun σ D φ w args' hi ha v σ' hr hf => ?_⟩
  have hret : ∀ x : AV, (⟨f, args, x, [], R⟩ : Memo).ret R σ = .ret (x.mv R (σ.next - R)) { σ with heap := putAll R (σ.next - R) [] σ.heap, next := R + (σ.next - R) } := fun x => by
    unfold Memo.ret
    rw [Nat.ble_eq_true_of_le hi.low]
    rfl
  rw [hret] at hr
  simp only [CR.ret.injEq] at hr
  obtain ⟨rfl, rfl⟩ := hr
  have hs := hret x
  refine (h.2 σ D φ w args' hi ha _ _ hs hf).mono fun e w' he => ?_
  obtain ⟨φ', v', h1, h2, h3⟩ := he
  rw [hx] at h2
  rw [hy]
  exact ⟨φ', v', h1, hv _ _ h2, h3⟩

/-- The same with tables, along a path. -/
theorem tab_quiet {l : Tabs} {p : Dcs} {ms : List Memo} (hms : ∀ m ∈ ms, m.Sound P R (tabPath l p)) (hm : P.follows .mixedOrders = true) (hlt : tabLt R l = true) {n : Nat} {f : FuncId} {args : List AV} {x : AV} {τ : St}
    (hc : callN P { tabPath l p with hk := memoHk R (tabM ms) } n f args (tabSt R l) = .ret x τ) (k4 : pureL args = true) (hx : x.pure = true) (hmv : ∀ d, x.mv R d = x) : (⟨f, args, x, [], R⟩ : Memo).Sound P R (tabPath l p) := by
  refine quiet_run hms hm rfl rfl (fun i hi => ?_) (fun i _ => ?_) (fun g k hg => ?_) hc k4 hx hmv
  · show (tabHeap l .leaf).get i = none
    rw [tabHeap_get]
    cases h : tabAt l i with
    | none => rfl
    | some c => exact absurd (tabAt_lt hlt h) (by omega)
  · show (tabHeap l .leaf).get i = _
    rw [tabHeap_get]
    rfl
  · simp only [tabPath, tabCfg] at hg
    split at hg
    · rename_i c hc
      exact tabAt_lt hlt hc
    · cases hg
/-- A law that leaves all as it was, with tables, along a path. -/
theorem tab_calls {l : Tabs} {q : Dcs} {f : FuncId} {args : List AV} {b : Bool} (hsound : (⟨f, args, .bool b, [], R⟩ : Memo).Sound P R (tabPath l q)) (hq : Holds q) (hlt : tabLt R l = true) {W : World} (hl : ∀ p ∈ l, TabOk W p)
    {args' : Array Value} (ha : VRL noPM args args'.toList) (hpure : pureL args = true) : Calls P f args' W fun e W' => e = .returned (.bool b) ∧ Below W.heap.size W W' := by
  have hi : Inv R (tabPath l q) (fun i => i < R) (tabPM l) (tabSt R l) W := inv_dec (C := tabCfg l) (d := (tabCfg l).dec) (fun _ _ hd => decP_ok hq hd) (tab_inv hlt hl)
  have e : (tabSt R l).next - R = 0 := Nat.sub_self R
  have hb : Nat.ble R (tabSt R l).next = true := Nat.ble_eq_true_of_le (Nat.le_refl R)
  have hret : (⟨f, args, .bool b, [], R⟩ : Memo).ret R (tabSt R l) = .ret (AV.mv R ((tabSt R l).next - R) (.bool b)) { tabSt R l with heap := putAll R ((tabSt R l).next - R) [] (tabSt R l).heap, next := R + ((tabSt R l).next - R) } := by
    unfold Memo.ret
    rw [hb]
    rfl
  have hfree : Free (tabPM l) (tabSt R l) { tabSt R l with heap := putAll R ((tabSt R l).next - R) [] (tabSt R l).heap, next := R + ((tabSt R l).next - R) } := fun i h1 h2 v => by
    have h1 : R ≤ i := h1
    have h2 : i < R + ((tabSt R l).next - R) := h2
    rw [e] at h2
    omega
  refine (hsound.2 (tabSt R l) (fun i => i < R) (tabPM l) W args' hi (ha.pure hpure) _ _ hret hfree).mono fun e' W' he => ?_
  obtain ⟨φ', v', rfl, hvr, hpost⟩ := he
  have hvr : VR φ' (.bool b) v' := hvr
  cases hvr
  refine ⟨rfl, hpost.frm.os, hpost.frm.tape, hpost.frm.out, hpost.frm.size, fun k hk => hpost.frm.keep k hk fun i hiw v e he => ?_⟩
  exfalso
  rcases hpost.wrR i hiw with h1 | h1
  · cases h1
  · obtain ⟨_, c, hc, _⟩ := tabPM_some he
    have := tabAt_lt hlt hc
    omega
end
end
end Go.Tw
