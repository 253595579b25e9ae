/-
  A part of the proof that the abstract evaluator is sound for the model's machine. Conditions: those of each theorem, as it states them.
-/
import Derived.Test.YtbbnjiceenjhcaaGreatDoorTwDraw
import Derived.OrdersIn
set_option linter.all false
namespace Go.Tw
section
variable [Val]
variable {P : Program} {R : Nat} {C : Cfg}

/-- An operation tells the same from another state, and leaves it alone. -/
def Rec.same (P : Program) (C : Cfg) (ops : Array Oper) (r : Rec) (σ : St) : Prop :=
  ∃ τ, opA P C (r.env.only (tmpsOf ops r.o)) σ.bare r.o = .val r.v τ ∧ τ.wr = [] ∧ τ.next = σ.next ∧ ∀ x ∈ τ.rd, x ∈ r.rd
/-- An operation that only reads an object, and tells the same ahead of another one as behind it. -/
def Rec.floats (P : Program) (C : Cfg) (ops : Array Oper) (x y : Rec) (id : Nat) : Prop :=
  y.wr = [] ∧ y.σ.next = y.σ'.next ∧ (∀ a ∈ y.rd, a = id) ∧ y.same P C ops x.σ ∧ y.same P C ops x.σ' ∧ y.same P C ops y.σ

/-- A region that draws its order, done in the order of the text. -/
structure Region0 (P : Program) (R : Nat) (C : Cfg) (call : Cle → List AV → St → CR) (nt : Nat) (ops : Array Oper) (recs : List Rec) (env env' : Env) (σ σ' : St)
    (D : Nat → Prop) (φ₀ : PM) (w₀ : World) : Prop where
  link : Linked recs env σ env' σ'
  ok : ∀ r ∈ recs, r.fine P C call nt ops
  omap : recs.map (·.o) = ops.toList
  back : ∀ (i : Nat) (o : Oper) (e : Edge), ops[i]? = some o → e ∈ o.after → Region.binds .any e = true → e.on < i
  names : ∀ (i j : Nat) (o p : Oper) (d : Tmp), ops[i]? = some o → ops[j]? = some p → p.dst = some d → d ∈ tmpsOf ops o → i = j ∨ Path ops i j ∨ Path ops j i
  feet : ∀ (i j : Nat) (r s : Rec) (id : Nat), recs[i]? = some r → recs[j]? = some s → r.touch id → (id ∈ s.rd ∨ id ∈ s.wr) → i = j ∨ Path ops i j ∨ Path ops j i ∨ (id ∈ s.rd ∧ r.floats P C ops s id)
  inv : Inv R C D φ₀ σ w₀
  known : Known D σ σ'

theorem Region0.recOf {call : Cle → List AV → St → CR} {nt : Nat} {ops : Array Oper} {recs : List Rec} {env env' : Env} {σ σ' : St} {D : Nat → Prop} {φ₀ : PM} {w₀ : World}
    (h : Region0 P R C call nt ops recs env env' σ σ' D φ₀ w₀) {i : Nat} {o : Oper} (ho : ops[i]? = some o) : ∃ r, recs[i]? = some r ∧ r.o = o := by
  have h1 : (recs.map (·.o))[i]? = some o := by rw [h.omap]; simpa using ho
  rw [List.getElem?_map] at h1
  cases hr : recs[i]? with
  | none => rw [hr] at h1; cases h1
  | some r => rw [hr] at h1; simp at h1; exact ⟨r, rfl, h1⟩
theorem Region0.op {call : Cle → List AV → St → CR} {nt : Nat} {ops : Array Oper} {recs : List Rec} {env env' : Env} {σ σ' : St} {D : Nat → Prop} {φ₀ : PM} {w₀ : World}
    (h : Region0 P R C call nt ops recs env env' σ σ' D φ₀ w₀) {i : Nat} {r : Rec} (hr : recs[i]? = some r) : ops[i]? = some r.o := by
  have h1 : (recs.map (·.o))[i]? = some r.o := by rw [List.getElem?_map, hr]; rfl
  rw [h.omap] at h1; simpa using h1
theorem Region0.len {call : Cle → List AV → St → CR} {nt : Nat} {ops : Array Oper} {recs : List Rec} {env env' : Env} {σ σ' : St} {D : Nat → Prop} {φ₀ : PM} {w₀ : World}
    (h : Region0 P R C call nt ops recs env env' σ σ' D φ₀ w₀) : recs.length = ops.size := by
  have := congrArg List.length h.omap; simpa using this

/-- Some of the operations have been done, in some order. -/
structure Stage (R : Nat) (C : Cfg) (nt : Nat) (ds0 : List Deferred) (ops : Array Oper) (recs : List Rec) (env' : Env) (σ σ' : St) (D : Nat → Prop) (φ₀ : PM) (w₀ : World)
    (listed : Array Bool) (a : Act) (w : World) (φ : PM) : Prop where
  sz : listed.size = ops.size
  cl : Closed ops listed
  wf : WF R φ w
  dfr : a.defers = ds0
  tsz : a.tmps.size = nt
  tmp : ∀ t k, k ≤ recs.length → (∀ j r, recs[j]? = some r → r.o.dst = some t → (listed.getD j false = true ↔ j < k)) →
    ∀ v, (preE recs env' k).tm.get t = some v → ∃ v', a.tmps[t]? = some v' ∧ VR φ v v'
  rep : ∀ id k, k ≤ recs.length → id < (preS recs σ' k).next → (∀ j r, recs[j]? = some r → r.touch id → (listed.getD j false = true ↔ j < k)) → (D id ∨ σ.next ≤ id) →
    Rep R φ w id ((preS recs σ' k).heap.get id)
  fresh : ∀ j r, recs[j]? = some r → listed.getD j false = false → ∀ id, r.σ.next ≤ id → id < r.σ'.next → ∀ v, φ id v = none
  le : φ₀.le φ
  grow : ∀ i, (i ∉ σ'.wr ∨ σ'.next ≤ i) → ¬ (σ.next ≤ i ∧ i < σ'.next) → ∀ v, φ i v = φ₀ i v
  blk : ∀ i v e, φ i v = some e → (∃ u f, φ₀ i u = some f ∧ f.blk = e.blk) ∨ w₀.heap.size ≤ e.blk
  frm : Frm φ₀ σ'.wr w₀ w
  wrR : ∀ j r, recs[j]? = some r → listed.getD j false = true → ∀ x ∈ r.wr, R ≤ x
  ro : ∀ i, i < R → Rep R (φ.low R) w i (C.base i)

variable {call : Cle → List AV → St → CR} {nt : Nat} {ops : Array Oper} {recs : List Rec} {env env' : Env} {σ σ' : St} {D : Nat → Prop} {φ₀ : PM} {w₀ : World}

omit [Val] in
theorem getD_set {listed : Array Bool} {i : Nat} (hi : i < listed.size) (j : Nat) : (listed.setIfInBounds i true).getD j false = if j = i then true else listed.getD j false := by
  simp only [Array.getD_eq_getD_getElem?]
  by_cases e : j = i
  · subst e; simp [hi]
  · rw [Array.getElem?_setIfInBounds_ne (Ne.symm e), if_neg e]

theorem Region0.back' (h : Region0 P R C call nt ops recs env env' σ σ' D φ₀ w₀) {x y : Nat} (p : Path ops x y) : y < x := by
  induction p with
  | one ho he hb => exact h.back _ _ _ ho he hb
  | step ho he hb _ ih => exact Nat.lt_trans ih (h.back _ _ _ ho he hb)

/-- Two operations that touch one object are ordered. -/
theorem Region0.touches (h : Region0 P R C call nt ops recs env env' σ σ' D φ₀ w₀) {i j : Nat} {r s : Rec} (hr : recs[i]? = some r) (hj : recs[j]? = some s) {id : Nat} (ht : r.touch id) (hts : s.touch id)
    (hne : j ≠ i) : Path ops i j ∨ Path ops j i := by
  have hlen : ∀ {k : Nat} {x : Rec}, recs[k]? = some x → k < recs.length := by
    intro k x hk
    rcases Nat.lt_or_ge k recs.length with h' | h'
    · exact h'
    · simp [List.getElem?_eq_none h'] at hk
  have hmono := fun {x k : Nat} (hxk : x ≤ k) (hk : k ≤ recs.length) => pre_mono h.link h.ok hxk hk
  rcases hts with hw | hcr
  · rcases h.feet i j r s id hr hj ht (.inr hw) with e | hpp | hpp | ⟨_, hf⟩
    · exact absurd e.symm hne
    · exact .inl hpp
    · exact .inr hpp
    · rw [hf.1] at hw; cases hw
  · rcases ht with hw | hcr2
    · rcases h.feet j i s r id hj hr (.inr hcr) (.inr hw) with e | hpp | hpp | ⟨_, hf⟩
      · exact absurd e hne
      · exact .inr hpp
      · exact .inl hpp
      · rw [hf.1] at hw; cases hw
    · exfalso
      rcases Nat.lt_or_gt_of_ne hne with hlt | hgt
      · have := (hmono (show j + 1 ≤ i by omega) (Nat.le_of_lt (hlen hr))).1.next
        rw [(h.link.post hj).1, preS_at hr] at this
        omega
      · have := (hmono (show i + 1 ≤ j by omega) (Nat.le_of_lt (hlen hj))).1.next
        rw [(h.link.post hr).1, preS_at hj] at this
        omega

omit [Val] in
/-- The last one below k that touches an object, from i on. -/
theorem last_touch (recs : List Rec) (id i : Nat) : ∀ k, (∀ (j : Nat) (s : Rec), i ≤ j → j < k → recs[j]? = some s → ¬ s.touch id) ∨
    ∃ (m : Nat) (s : Rec), i ≤ m ∧ m < k ∧ recs[m]? = some s ∧ s.touch id ∧ ∀ (j : Nat) (t : Rec), m < j → j < k → recs[j]? = some t → ¬ t.touch id := by
  intro k
  induction k with
  | zero => exact .inl fun j s _ h => absurd h (Nat.not_lt_zero _)
  | succ k ih =>
    by_cases hk : i ≤ k ∧ ∃ s, recs[k]? = some s ∧ s.touch id
    · obtain ⟨h1, s, h2, h3⟩ := hk
      exact .inr ⟨k, s, h1, Nat.lt_succ_self k, h2, h3, fun j t a b => by omega⟩
    · rcases ih with ih | ⟨m, s, h1, h2, h3, h4, h5⟩
      · refine .inl fun j s a b c d => ?_
        by_cases e : j = k
        · subst e; exact hk ⟨a, s, c, d⟩
        · exact ih j s a (by omega) c d
      · refine .inr ⟨m, s, h1, by omega, h3, h4, fun j t a b c d => ?_⟩
        by_cases e : j = k
        · subst e; exact hk ⟨by omega, t, c, d⟩
        · exact h5 j t a (by omega) c d

/-- The operation i is done next. -/
theorem stage_next {ro : Option Nat} {ds0 : List Deferred} (hc : CallOk P R C call) (_hcs : CallSteps call) (h : Region0 P R C call nt ops recs env env' σ σ' D φ₀ w₀) {listed : Array Bool} {a : Act} {w : World} {φ : PM}
    (hs : Stage R C nt ds0 ops recs env' σ σ' D φ₀ w₀ listed a w φ) {i : Nat} {r : Rec} (hr : recs[i]? = some r) (hrk : r.ok P C call nt ops) (hni : listed.getD i false = false)
    (hpre : ∀ e ∈ r.o.after, Region.binds .any e = true → listed.getD e.on false = true) {K : Act → World → Prop} {Q : Exit → Act → World → Prop}
    (hK : ∀ φ' a' w', Stage R C nt ds0 ops recs env' σ σ' D φ₀ w₀ (listed.setIfInBounds i true) a' w' φ' → K a' w') : wpOpIn (wideR ro) 0 P ops Q i K a w := by
  have hop := h.op hr
  have hlen := h.len
  have hilt : i < recs.length := by
    rcases Nat.lt_or_ge i recs.length with h' | h'
    · exact h'
    · simp [List.getElem?_eq_none h'] at hr
  have hils : i < listed.size := by rw [hs.sz, ← hlen]; exact hilt
  obtain ⟨hst, hst2, hst3, hst4⟩ := hrk.step
  obtain ⟨hpostS, hpostE⟩ := h.link.post hr
  have hpS : preS recs σ' i = r.σ := preS_at hr
  have hpE : preE recs env' i = r.env := preE_at hr
  -- what comes before has been done; what comes behind has not
  have hbef : ∀ j, Path ops i j → listed.getD j false = true := by
    intro j p
    cases p with
    | one ho he hb => rw [hop] at ho; simp only [Option.some.injEq] at ho; subst ho; exact hpre _ he hb
    | step ho he hb p => rw [hop] at ho; simp only [Option.some.injEq] at ho; subst ho; exact hs.cl.path p (hpre _ he hb)
  have hback : ∀ {x y : Nat}, Path ops x y → y < x := by
    intro x y p
    induction p with
    | one ho he hb => exact h.back _ _ _ ho he hb
    | step ho he hb _ ih => exact Nat.lt_trans ih (h.back _ _ _ ho he hb)
  have hbehind : ∀ j, Path ops j i → listed.getD j false = false := by
    intro j p
    cases hj : listed.getD j false with
    | false => rfl
    | true => have := hs.cl.path p hj; rw [hni] at this; cases this
  have hord : ∀ j, j ≠ i → (Path ops i j ∨ Path ops j i) → (listed.getD j false = true ↔ j < i) := by
    intro j _ hp
    rcases hp with hp | hp
    · exact ⟨fun _ => hback hp, fun _ => hbef j hp⟩
    · exact ⟨fun hx => (by rw [hbehind j hp] at hx; cases hx), fun hx => absurd (hback hp) (by omega)⟩
  have hself : (listed.getD i false = true ↔ i < i) := by rw [hni]; exact ⟨fun h => (by cases h), fun h => absurd h (Nat.lt_irrefl _)⟩
  have hl' : ∀ j, (listed.setIfInBounds i true).getD j false = if j = i then true else listed.getD j false := getD_set hils
  have hcl' : Closed ops (listed.setIfInBounds i true) := by
    intro j o hj ho e he hb
    rw [hl'] at hj ⊢
    split
    · rfl
    · split at hj
      · rename_i e1; subst e1
        rw [hop] at ho; simp only [Option.some.injEq] at ho; subst ho
        exact hpre e he hb
      · exact hs.cl j o hj ho e he hb
  -- the temporaries that the operation names
  have hnames : ∀ t ∈ tmpsOf ops r.o, ∀ j s, recs[j]? = some s → s.o.dst = some t → (listed.getD j false = true ↔ j < i) := by
    intro t ht j s hj hd
    rcases h.names i j r.o s.o t hop (h.op hj) hd ht with e | hp
    · subst e; exact hself
    · by_cases e : j = i
      · subst e; exact hself
      · exact hord j e hp
  have hE : EnvR φ nt (r.env.only (tmpsOf ops r.o)) a := ⟨hs.tsz, fun t v hv => by
    obtain ⟨h1, h2⟩ := only_spec hv
    exact hs.tmp t i (Nat.le_of_lt hilt) (hnames t h1) v (by rw [hpE]; exact h2)⟩
  -- two operations that write one temporary
  have hwr2 : ∀ t, r.o.dst = some t → ∀ j s, recs[j]? = some s → s.o.dst = some t → j = i ∨ (listed.getD j false = true ↔ j < i) := by
    intro t ht j s hj hd
    exact .inr (hnames t (by simp [tmpsOf, ht]) j s hj hd)
  have hmono := fun {x k : Nat} (hxk : x ≤ k) (hk : k ≤ recs.length) => pre_mono h.link h.ok hxk hk
  -- behind the operation: the temporaries
  have htmp : ∀ (φ' : PM) (v' : Value), φ.le φ' → VR φ' r.v v' → ∀ t k, k ≤ recs.length →
      (∀ j s, recs[j]? = some s → s.o.dst = some t → ((listed.setIfInBounds i true).getD j false = true ↔ j < k)) →
      ∀ v, (preE recs env' k).tm.get t = some v → ∃ u, (a.put r.o.dst v').tmps[t]? = some u ∧ VR φ' v u := by
    intro φ' v' hle hv t k hk hcond v hget
    by_cases hd : r.o.dst = some t
    · have hik : i < k := (hcond i r hr hd).1 (by rw [hl', if_pos rfl])
      have hno : ∀ j s, i + 1 ≤ j → j < k → recs[j]? = some s → s.o.dst ≠ some t := by
        intro j s h1 h2 hj hds
        have h3 := (hcond j s hj hds).2 h2
        rw [hl', if_neg (by omega)] at h3
        have h4 := (hnames t (by simp [tmpsOf, hd]) j s hj hds).1 h3
        omega
      have := (hmono (show i + 1 ≤ k by omega) hk).2.2 t hno
      rw [this, hpostE] at hget
      have hput := hrk.2.1
      unfold putA at hput
      rw [hd] at hput
      simp only [cond_eq_ite] at hput
      split at hput
      · rename_i hb
        have hb := blt_t hb
        simp only [Option.some.injEq] at hput
        rw [← hput] at hget
        rw [T.get_set_same] at hget
        simp only [Option.some.injEq] at hget
        subst hget
        exact ⟨v', by rw [hd]; simp [Act.put, hs.tsz, hb], hv⟩
      · cases hput
    · have hcond' : ∀ j s, recs[j]? = some s → s.o.dst = some t → (listed.getD j false = true ↔ j < k) := by
        intro j s hj hds
        have h1 := hcond j s hj hds
        have hne : j ≠ i := by intro e; subst e; rw [hr] at hj; simp only [Option.some.injEq] at hj; subst hj; exact hd hds
        rwa [hl', if_neg hne] at h1
      obtain ⟨u, u1, u2⟩ := hs.tmp t k hk hcond' v hget
      refine ⟨u, ?_, u2.mono hle⟩
      cases hdd : r.o.dst with
      | none => exact u1
      | some d =>
        have : d ≠ t := fun e => hd (by rw [hdd, e])
        simp only [Act.put]
        rw [Array.getElem?_setIfInBounds_ne this]; exact u1
  unfold wpOpIn
  rw [hop]
  dsimp only
  rw [wantedA_ok h.inv.pin h.inv.dec hE hrk.1]
  have hσ'le : r.σ'.next ≤ σ'.next := by
    have := (hmono (show i + 1 ≤ recs.length by omega) (Nat.le_refl _)).1.next
    rw [hpostS] at this
    have e : preS recs σ' recs.length = σ' := by simp [preS]
    rwa [e] at this
  have hσle : σ.next ≤ r.σ.next := by
    have := (hmono (Nat.zero_le i) (Nat.le_of_lt hilt)).1.next
    rw [h.link.pre.1, hpS] at this
    exact this
  cases hb : r.b with
  | false =>
    simp only [Bool.false_eq_true, if_false]
    obtain ⟨e1, e2, e3, e4⟩ := hrk.2.2.1 hb
    refine ⟨fun _ _ => trivial, hK φ _ w { hs with
      sz := by simpa using hs.sz
      cl := hcl'
      dfr := put_defers.trans hs.dfr
      tsz := by cases r.o.dst <;> simp [Act.put, hs.tsz]
      tmp := htmp φ undef φ.le_refl (by rw [e1]; exact unit_undef φ)
      rep := ?_
      fresh := ?_
      wrR := ?_ }⟩
    rotate_right
    · intro j s hj hls x hx
      rw [hl'] at hls
      split at hls
      · rename_i e; subst e
        rw [hr] at hj; simp only [Option.some.injEq] at hj; subst hj
        rw [e4] at hx; cases hx
      · exact hs.wrR j s hj hls x hx
    · intro id k hk hid hcond hD
      refine hs.rep id k hk hid (fun j s hj ht => ?_) hD
      have h1 := hcond j s hj ht
      have hne : j ≠ i := by
        intro e; subst e; rw [hr] at hj; simp only [Option.some.injEq] at hj; subst hj
        rcases ht with ht | ht
        · rw [e4] at ht; cases ht
        · rw [e2] at ht; omega
      rwa [hl', if_neg hne] at h1
    · intro j s hj hnl
      rw [hl'] at hnl
      split at hnl
      · cases hnl
      · exact hs.fresh j s hj hnl
  | true =>
    simp only [if_true]
    obtain ⟨τ, hrun, hsτ, e1, e2, e3⟩ := hrk.2.2.2 hb
    have hτn : τ.next = r.σ'.next := by rw [e1]; rfl
    have hτh : τ.heap = r.σ'.heap := by rw [e1]; rfl
    have hDk : ∀ id, (id ∈ r.rd ∨ id ∈ r.wr) → D id ∨ σ.next ≤ id := by
      intro id hid
      by_cases hn : id < σ.next
      · left
        refine h.known id ?_ hn
        have hm := (hmono (show i + 1 ≤ recs.length by omega) (Nat.le_refl _)).1
        rw [hpostS, show preS recs σ' recs.length = σ' by simp [preS]] at hm
        exact hid.imp (fun hx => hm.rd _ (hst3 _ hx)) (fun hx => hm.wr _ (hst4 _ hx))
      · exact .inr (Nat.le_of_not_lt hn)
    -- an operation that only reads one object, which others change that may be done before it or behind it
    by_cases hF : ∃ id, id ∈ r.rd ∧ r.wr = [] ∧ r.σ.next = r.σ'.next ∧ (∀ a ∈ r.rd, a = id) ∧ ∃ (j : Nat) (s : Rec), recs[j]? = some s ∧ s.touch id ∧ ¬ (listed.getD j false = true ↔ j < i)
    · obtain ⟨id, hidr, hwr0, hnx0, hone, jf, sf, hjf, htf, hnf⟩ := hF
      have hnt : ∀ x, ¬ r.touch x := by
        intro x hx
        rcases hx with hx | hx
        · rw [hwr0] at hx; cases hx
        · omega
      have hlt' : ∀ {k : Nat} {x : Rec}, recs[k]? = some x → k < recs.length := by
        intro k x hk
        rcases Nat.lt_or_ge k recs.length with h' | h'
        · exact h'
        · simp [List.getElem?_eq_none h'] at hk
      -- those that touch it and are not ordered with this one
      have hun : ∀ (j : Nat) (s : Rec), recs[j]? = some s → s.touch id → ¬ Path ops j i → ¬ Path ops i j → r.same P C ops s.σ ∧ r.same P C ops s.σ' := by
        intro j s hj ht n1 n2
        rcases h.feet j i s r id hj hr ht (.inl hidr) with e | e | e | ⟨_, hf⟩
        · subst e; rw [hr] at hj; simp only [Option.some.injEq] at hj; subst hj; exact absurd ht (hnt id)
        · exact absurd e n1
        · exact absurd e n2
        · exact ⟨hf.2.2.2.1, hf.2.2.2.2.1⟩
      have hfind : ∃ k, k ≤ recs.length ∧ (∀ (j : Nat) (s : Rec), recs[j]? = some s → s.touch id → (listed.getD j false = true ↔ j < k)) ∧
          (k < recs.length → ∃ s, recs[k]? = some s ∧ s.touch id ∧ listed.getD k false = false) := by
        by_cases hall : ∃ k, ∃ s, recs[k]? = some s ∧ s.touch id ∧ listed.getD k false = false
        · have hmin : ∃ k, (∃ s, recs[k]? = some s ∧ s.touch id ∧ listed.getD k false = false) ∧ ∀ j, j < k → ¬ ∃ s, recs[j]? = some s ∧ s.touch id ∧ listed.getD j false = false := by
            obtain ⟨k0, hk0⟩ := hall
            induction k0 using Nat.strongRecOn with
            | _ k0 ih =>
              by_cases hex : ∃ j, j < k0 ∧ ∃ s, recs[j]? = some s ∧ s.touch id ∧ listed.getD j false = false
              · obtain ⟨j, hj, hjs⟩ := hex
                exact ih j hj hjs
              · exact ⟨k0, hk0, fun j hj hjs => hex ⟨j, hj, hjs⟩⟩
          obtain ⟨k, ⟨sk, hk1, hk2, hk3⟩, hk4⟩ := hmin
          refine ⟨k, Nat.le_of_lt (hlt' hk1), fun j s hj ht => ⟨fun hl => ?_, fun hl => ?_⟩, fun _ => ⟨sk, hk1, hk2, hk3⟩⟩
          · rcases Nat.lt_or_ge j k with h' | h'
            · exact h'
            · exfalso
              have hne : j ≠ k := fun e => by subst e; rw [hk3] at hl; cases hl
              rcases h.touches hk1 hj hk2 ht hne with p | p
              · have := h.back' p; omega
              · have := hs.cl.path p hl
                rw [hk3] at this; cases this
          · cases hlj : listed.getD j false with
            | true => rfl
            | false => exact absurd ⟨s, hj, ht, hlj⟩ (hk4 j hl)
        · refine ⟨recs.length, Nat.le_refl _, fun j s hj ht => ⟨fun _ => hlt' hj, fun _ => ?_⟩, fun hx => absurd hx (Nat.lt_irrefl _)⟩
          cases hlj : listed.getD j false with
          | true => rfl
          | false => exact absurd ⟨j, s, hj, ht, hlj⟩ hall
      obtain ⟨k, hk1, hk2, hk3⟩ := hfind
      -- a state in which the object lies so, and from which the operation tells the same
      have hstate : ∃ k', k' ≤ recs.length ∧ (∀ (j : Nat) (s : Rec), recs[j]? = some s → s.touch id → (listed.getD j false = true ↔ j < k')) ∧ r.same P C ops (preS recs σ' k') := by
        rcases Nat.lt_or_ge i k with hik | hik
        · rcases last_touch recs id i k with hno | ⟨m, sm, m1, m2, m3, m4, m5⟩
          · exfalso
            apply hnf
            rw [hk2 jf sf hjf htf]
            constructor
            · intro hlt
              rcases Nat.lt_or_ge jf i with h' | h'
              · exact h'
              · exact absurd htf (hno jf sf h' hlt hjf)
            · intro hlt; omega
          · have hml : listed.getD m false = true := (hk2 m sm m3 m4).2 m2
            have hmi : m ≠ i := fun e => by subst e; rw [hr] at m3; simp only [Option.some.injEq] at m3; subst m3; exact hnt id m4
            have n1 : ¬ Path ops m i := fun p => by have := hbehind m p; rw [hml] at this; cases this
            have n2 : ¬ Path ops i m := fun p => by have := hback p; omega
            refine ⟨m + 1, by have := hlt' m3; omega, fun j s hj ht => ?_, by rw [(h.link.post m3).1]; exact (hun m sm m3 m4 n1 n2).2⟩
            rw [hk2 j s hj ht]
            constructor
            · intro hlt
              rcases Nat.lt_or_ge m j with h' | h'
              · exact absurd ht (m5 j s h' hlt hj)
              · omega
            · intro hlt; omega
        · obtain ⟨sk, g1, g2, g3⟩ := hk3 (by omega)
          have hki : k ≠ i := fun e => by subst e; rw [hr] at g1; simp only [Option.some.injEq] at g1; subst g1; exact hnt id g2
          have n1 : ¬ Path ops k i := fun p => by have := hback p; omega
          have n2 : ¬ Path ops i k := fun p => by have := hbef k p; rw [g3] at this; cases this
          exact ⟨k, hk1, hk2, by rw [preS_at g1]; exact (hun k sk g1 g2 n1 n2).1⟩
      obtain ⟨k', q1, q2, τs, q3, q4, q5, q6⟩ := hstate
      have hbase := (hmono (Nat.zero_le k') q1).1
      rw [h.link.pre.1] at hbase
      have hinv : Inv R C (fun x => x = id) φ (preS recs σ' k').bare w := {
        wf := hs.wf
        low := Nat.le_trans h.inv.low hbase.next
        rep := fun x hx hlt => by
          subst hx
          exact hs.rep x k' q1 hlt q2 (hDk x (.inl hidr))
        gl := fun g n hg => let ⟨e, he, hx⟩ := h.inv.gl g n hg; ⟨e, hs.le _ _ _ he, hx⟩
        dom := hbase.dom h.inv.dom
        pin := h.inv.pin
        dec := h.inv.dec
        wrR := fun i hi => by cases hi
        ro := hs.ro }
      have hsτs : StepA (preS recs σ' k').bare τs := opA_steps (P := P) (C := C) τs (by rw [q3]; rfl)
      have hgrl : ∀ {φ' : PM} {w' : World}, Post R (fun x => x = id) φ (preS recs σ' k').bare w τs φ' w' → ∀ x v, φ' x v = φ x v := by
        intro φ' w' hp x v
        refine hp.grow x (.inl (by rw [q4]; simp)) (fun hc => ?_) v
        have h2 : x < τs.next := hc.2
        rw [q5] at h2
        have h1 : (preS recs σ' k').next ≤ x := hc.1
        omega
      refine in_val hinv hE q3 (fun x hx _ => ?_) (fun x h1 h2 v => ?_) fun φ' v' w' hv hp => hK φ' _ w' {
        sz := by simpa using hs.sz
        cl := hcl'
        wf := hp.wf
        dfr := put_defers.trans hs.dfr
        tsz := by cases r.o.dst <;> simp [Act.put, hs.tsz]
        tmp := htmp φ' v' hp.le hv
        rep := ?_
        fresh := ?_
        le := hs.le.trans hp.le
        grow := ?_
        blk := ?_
        frm := ?_
        wrR := ?_
        ro := (hp.inv hinv hsτs).ro }
      · rcases hx with hx | hx
        · exact hone x (q6 x hx)
        · rw [q4] at hx; cases hx
      · have h2 : x < τs.next := h2
        rw [q5] at h2
        have h1 : (preS recs σ' k').next ≤ x := h1
        omega
      all_goals have hgr := hgrl hp
      · intro x kk hkk hid hcond hD
        refine (hs.rep x kk hkk hid (fun j s hj ht => ?_) hD).frame hp.le (fun v => hgr x v) fun v e he => ?_
        · have h1 := hcond j s hj ht
          have hne : j ≠ i := by intro e; subst e; rw [hr] at hj; simp only [Option.some.injEq] at hj; subst hj; exact hnt x ht
          rwa [hl', if_neg hne] at h1
        · refine hp.frm.keep _ (hs.wf.lt _ _ _ he) fun y hy => ?_
          rw [q4] at hy; cases hy
      · intro j s hj hnl x h1 h2 v
        rw [hl'] at hnl
        split at hnl
        · cases hnl
        · rw [hgr]; exact hs.fresh j s hj hnl x h1 h2 v
      · intro x hx hn v
        rw [hgr]; exact hs.grow x hx hn v
      · intro x v e he
        rw [hgr] at he
        exact hs.blk x v e he
      · exact {
          size := Nat.le_trans hs.frm.size hp.frm.size
          keep := fun b hb hne => by
            rw [hp.frm.keep b (Nat.lt_of_lt_of_le hb hs.frm.size) (fun x hx => by rw [q4] at hx; cases hx)]
            exact hs.frm.keep b hb hne
          os := hp.frm.os.trans hs.frm.os
          out := hp.frm.out.trans hs.frm.out
          tape := hp.frm.tape.trans hs.frm.tape }
      · intro j s hj hls x hx
        rw [hl'] at hls
        split at hls
        · rename_i e; subst e
          rw [hr] at hj; simp only [Option.some.injEq] at hj; subst hj
          rw [hwr0] at hx; cases hx
        · exact hs.wrR j s hj hls x hx
    -- the objects that the operation touches are known
    have hDi : ∀ id, (id ∈ r.rd ∨ id ∈ r.wr) → id < r.σ.next → Rep R φ w id (r.σ.heap.get id) := by
      intro id hid hlt
      have := hs.rep id i (Nat.le_of_lt hilt) (by rw [hpS]; exact hlt) (fun j s hj ht => by
        by_cases e : j = i
        · subst e; exact hself
        rcases h.feet j i s r id hj hr ht hid with e' | hp | hp | ⟨hir, hf⟩
        · exact absurd e' e
        · exact hord j e (.inr hp)
        · exact hord j e (.inl hp)
        · by_cases hc : (listed.getD j false = true ↔ j < i)
          · exact hc
          · exact absurd ⟨id, hir, hf.1, hf.2.1, hf.2.2.1, j, s, hj, ht, hc⟩ hF) (hDk id hid)
      rwa [hpS] at this
    have hinv : Inv R C (fun id => id ∈ r.rd ∨ id ∈ r.wr) φ r.σ.bare w := {
      wf := hs.wf
      low := Nat.le_trans h.inv.low hσle
      rep := fun id hid hlt => hDi id hid hlt
      gl := fun g n hg => let ⟨e, he, hx⟩ := h.inv.gl g n hg; ⟨e, hs.le _ _ _ he, hx⟩
      dom := by
        have := (hmono (Nat.zero_le i) (Nat.le_of_lt hilt)).1
        rw [h.link.pre.1, hpS] at this
        exact this.dom h.inv.dom
      pin := h.inv.pin
      dec := h.inv.dec
      wrR := fun i hi => by cases hi
      ro := hs.ro }
    have hkn : Known (fun id => id ∈ r.rd ∨ id ∈ r.wr) r.σ.bare τ := fun id hid _ => by rw [e2, e3]; exact hid
    have hfr : Free φ r.σ.bare τ := fun id h1 h2 v => hs.fresh i r hr hni id h1 (by rw [← hτn]; exact h2) v
    have hfin : ∀ φ' v' w', VR φ' r.v v' → Post R (fun id => id ∈ r.rd ∨ id ∈ r.wr) φ r.σ.bare w τ φ' w' → K (a.put r.o.dst v') w' := by
      intro φ' v' w' hv hp
      have hwrR : ∀ x ∈ τ.wr, R ≤ x := fun x hx => (hp.wrR x hx).resolve_left (by simp [St.bare])
      have hm := (hmono (show i + 1 ≤ recs.length by omega) (Nat.le_refl _)).1
      rw [hpostS, show preS recs σ' recs.length = σ' by simp [preS]] at hm
      have hwrσ : ∀ x ∈ τ.wr, x ∈ σ'.wr := fun x hx => hm.wr _ (hst4 _ (by rw [e3]; exact hx))
      -- two operations that touch one object are ordered
      have htouch : ∀ id, r.touch id → ∀ j s, recs[j]? = some s → s.touch id → j ≠ i → (listed.getD j false = true ↔ j < i) := fun id ht j s hj hts hne => hord j hne (h.touches hr hj ht hts hne)
      refine hK φ' _ w' {
        sz := by simpa using hs.sz
        cl := hcl'
        wf := hp.wf
        dfr := put_defers.trans hs.dfr
        tsz := by cases r.o.dst <;> simp [Act.put, hs.tsz]
        tmp := htmp φ' v' hp.le hv
        rep := ?_
        fresh := ?_
        le := hs.le.trans hp.le
        grow := ?_
        blk := ?_
        frm := ?_
        wrR := ?_
        ro := (hp.inv hinv hsτ).ro }
      rotate_right
      · intro j s hj hls x hx
        rw [hl'] at hls
        split at hls
        · rename_i e; subst e
          rw [hr] at hj; simp only [Option.some.injEq] at hj; subst hj
          exact hwrR x (by rw [← e3]; exact hx)
        · exact hs.wrR j s hj hls x hx
      · intro id k hk hid hcond hD
        by_cases ht : r.touch id
        · have hik : i < k := (hcond i r hr ht).1 (by rw [hl', if_pos rfl])
          have hno : ∀ j s, i + 1 ≤ j → j < k → recs[j]? = some s → ¬ s.touch id := by
            intro j s h1 h2 hj hts
            have h3 := (hcond j s hj hts).2 h2
            rw [hl', if_neg (by omega)] at h3
            have h4 := (htouch id ht j s hj hts (by omega)).1 h3
            omega
          -- the object is there behind the operation
          have hidn : id < r.σ'.next := by
            rcases ht with hw | hcr
            · rcases Nat.lt_or_ge id r.σ'.next with h' | h'
              · exact h'
              · exfalso
                have : ∀ n, i + 1 + n ≤ k → (preS recs σ' (i + 1 + n)).next ≤ id := by
                  intro n
                  induction n with
                  | zero => intro _; rw [hpostS]; exact h'
                  | succ n ih =>
                    intro hn
                    have ih := ih (by omega)
                    rcases Nat.lt_or_ge id (preS recs σ' (i + 1 + n + 1)).next with h2 | h2
                    · exfalso
                      have hlt : i + 1 + n < recs.length := by omega
                      have hj : recs[i + 1 + n]? = some recs[i + 1 + n] := List.getElem?_eq_getElem hlt
                      rw [preS_at hj] at ih
                      rw [(h.link.post hj).1] at h2
                      exact hno _ _ (by omega) (by omega) hj (.inr ⟨ih, h2⟩)
                    · exact h2
                have := this (k - (i + 1)) (by omega)
                rw [show i + 1 + (k - (i + 1)) = k by omega] at this
                omega
            · exact hcr.2
          have hkeep := (hmono (show i + 1 ≤ k by omega) hk).2.1 id (by rw [hpostS]; exact hidn) hno
          rw [hkeep, hpostS, ← hτh]
          refine hp.rep id ?_
          by_cases hlt : id < r.σ.next
          · left
            refine ⟨?_, hlt⟩
            rcases ht with hw | hcr
            · exact .inr hw
            · omega
          · exact .inr ⟨Nat.le_of_not_lt hlt, by rw [hτn]; exact hidn⟩
        · have hcond' : ∀ j s, recs[j]? = some s → s.touch id → (listed.getD j false = true ↔ j < k) := by
            intro j s hj hts
            have h1 := hcond j s hj hts
            have hne : j ≠ i := by intro e; subst e; rw [hr] at hj; simp only [Option.some.injEq] at hj; subst hj; exact ht hts
            rwa [hl', if_neg hne] at h1
          have hnw : id ∉ τ.wr := fun hw => ht (.inl (by rw [e3]; exact hw))
          refine (hs.rep id k hk hid hcond' hD).frame hp.le (fun v => hp.grow id (.inl hnw) (fun hx => ht (.inr ⟨hx.1, by rw [← hτn]; exact hx.2⟩)) v) fun v e he => ?_
          refine hp.frm.keep _ (hs.wf.lt _ _ _ he) fun x hx u f hf heq => ?_
          rcases hs.wf.inj _ _ _ _ _ _ hf he heq with hh | hh
          · exact hnw (hh ▸ hx)
          · exact absurd hh.1 (Nat.not_lt.2 (hwrR x hx))
      · intro j s hj hnl id h1 h2 v
        rw [hl'] at hnl
        split at hnl
        · cases hnl
        · rename_i hne
          have hjlt : j < recs.length := by
            rcases Nat.lt_or_ge j recs.length with h' | h'
            · exact h'
            · simp [List.getElem?_eq_none h'] at hj
          rw [hp.grow id ?_ ?_ v]
          · exact hs.fresh j s hj hnl id h1 h2 v
          · rcases Nat.lt_or_gt_of_ne hne with hlt | hgt
            · left
              intro hw
              have := (htouch id (.inl (by rw [e3]; exact hw)) j s hj (.inr ⟨h1, h2⟩) hne).2 hlt
              rw [hnl] at this; cases this
            · right
              have := (hmono (show i + 1 ≤ j by omega) (Nat.le_of_lt hjlt)).1.next
              rw [hpostS, preS_at hj] at this
              rw [hτn]; omega
          · intro hx
            have hx2 : id < r.σ'.next := by rw [← hτn]; exact hx.2
            have hx1 : r.σ.next ≤ id := hx.1
            rcases Nat.lt_or_gt_of_ne hne with hlt | hgt
            · have := (hmono (show j + 1 ≤ i by omega) (Nat.le_of_lt hilt)).1.next
              rw [(h.link.post hj).1, hpS] at this
              omega
            · have := (hmono (show i + 1 ≤ j by omega) (Nat.le_of_lt hjlt)).1.next
              rw [hpostS, preS_at hj] at this
              omega
      · intro x hx hn v
        rw [hp.grow x ?_ ?_ v]
        · exact hs.grow x hx hn v
        · rcases hx with hx | hx
          · exact .inl fun hw => hx (hwrσ x hw)
          · right; rw [hτn]; omega
        · intro hc
          have hc2 : x < r.σ'.next := by rw [← hτn]; exact hc.2
          have hc1 : r.σ.next ≤ x := hc.1
          exact hn ⟨by omega, by omega⟩
      · intro x v e he
        rcases hp.blk x v e he with ⟨u, f, hf, hbk⟩ | hbk
        · rcases hs.blk x u f hf with ⟨u', f', hf', hbk'⟩ | hbk'
          · exact .inl ⟨u', f', hf', hbk'.trans hbk⟩
          · exact .inr (hbk ▸ hbk')
        · exact .inr (Nat.le_trans hs.frm.size hbk)
      · exact {
          size := Nat.le_trans hs.frm.size hp.frm.size
          keep := fun b hb hne => by
            rw [hp.frm.keep b (Nat.lt_of_lt_of_le hb hs.frm.size) ?_]
            · exact hs.frm.keep b hb hne
            · intro x hx v e he
              rcases hs.blk x v e he with ⟨u, f, hf, hbf⟩ | hbf
              · rw [← hbf]; exact hne x (hwrσ x hx) u f hf
              · exact fun heq => absurd hb (Nat.not_lt.2 (heq ▸ hbf))
          os := hp.frm.os.trans hs.frm.os
          out := hp.frm.out.trans hs.frm.out
          tape := hp.frm.tape.trans hs.frm.tape }
    rcases hrun with hval | ⟨f, args, τ₀, hcall, hret, hss⟩
    · exact in_val hinv hE hval hkn hfr hfin
    · exact in_call hc hinv hE hcall hret hss hkn hfr hfin
end
end Go.Tw
