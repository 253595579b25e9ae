/-
  A part of the proof that the abstract evaluator is sound for the model's machine. Conditions: those of each theorem, as it states them.
-/
import Derived.Test.YtbbnjiceenjhcaaGreatDoorTwDraw2
set_option linter.all false
namespace Go.Tw
section
variable [Val]
variable {P : Program} {R : Nat} {C : Cfg}
variable {call : Cle → List AV → St → CR} {nt : Nat} {ops : Array Oper} {recs : List Rec} {env env' : Env} {σ σ' : St} {D : Nat → Prop} {φ₀ : PM} {w₀ : World}

/-- How many have not been done. -/
def left (n : Nat) (listed : Array Bool) : Nat := ((List.range n).filter fun i => !listed.getD i false).length

omit [Val] in
theorem left_set {n : Nat} {listed : Array Bool} {i : Nat} (hi : i < n) (hl : i < listed.size) (hf : listed.getD i false = false) : left n (listed.setIfInBounds i true) + 1 = left n listed := by
  unfold left
  have key : ∀ m, (i < m → ((List.range m).filter fun j => !(listed.setIfInBounds i true).getD j false).length + 1 = ((List.range m).filter fun j => !listed.getD j false).length) ∧
      (m ≤ i → ((List.range m).filter fun j => !(listed.setIfInBounds i true).getD j false).length = ((List.range m).filter fun j => !listed.getD j false).length) := by
    intro m
    induction m with
    | zero => exact ⟨fun h => absurd h (Nat.not_lt_zero _), fun _ => rfl⟩
    | succ m ih =>
      simp only [List.range_succ, List.filter_append, List.length_append]
      have hg := getD_set hl m
      refine ⟨fun h => ?_, fun h => ?_⟩
      · by_cases e : m = i
        · subst e
          have := ih.2 (Nat.le_refl _)
          rw [if_pos rfl] at hg
          rw [this]
          simp only [List.filter_cons, List.filter_nil, hg, hf]
          simp
        · have := ih.1 (by omega)
          rw [if_neg e] at hg
          simp only [List.filter_cons, List.filter_nil, hg]
          omega
      · have := ih.2 (by omega)
        rw [if_neg (by omega)] at hg
        simp only [List.filter_cons, List.filter_nil, hg]
        omega
  exact (key n).1 hi

omit [Val] in
theorem left_zero {n : Nat} {listed : Array Bool} (h : left n listed = 0) {i : Nat} (hi : i < n) : listed.getD i false = true := by
  unfold left at h
  have := List.length_eq_zero_iff.1 h
  have := List.filter_eq_nil_iff.1 this i (List.mem_range.2 hi)
  simpa using this

omit [Val] in
theorem getD_tf {listed : Array Bool} {i : Nat} (h : i < listed.size) : listed.getD i true = listed.getD i false := by
  simp [Array.getD_eq_getD_getElem?, h]

omit [Val] in
theorem ready_spec {listed : Array Bool} (hsz : listed.size = ops.size) {i : Nat} (h : i ∈ Region.ready .any ops listed) :
    ∃ o, ops[i]? = some o ∧ i < ops.size ∧ listed.getD i false = false ∧ ∀ e ∈ o.after, Region.binds .any e = true → listed.getD e.on false = true := by
  unfold Region.ready at h
  rw [List.mem_filter] at h
  obtain ⟨h1, h2⟩ := h
  have hi := List.mem_range.1 h1
  rw [Bool.and_eq_true] at h2
  obtain ⟨h3, h4⟩ := h2
  rw [Array.getElem?_eq_getElem hi] at h4
  refine ⟨ops[i], Array.getElem?_eq_getElem hi, hi, ?_, ?_⟩
  · rw [← getD_tf (by omega)]; simpa using h3
  · intro e he hb
    simp only [Option.map_some, Option.getD_some, Array.all_eq_true_iff_forall_mem] at h4
    have := h4 e he
    simpa [hb] using this

theorem ready_nil (h : Region0 P R C call nt ops recs env env' σ σ' D φ₀ w₀) {listed : Array Bool} (hsz : listed.size = ops.size) (hr : Region.ready .any ops listed = []) :
    ∀ i, i < ops.size → listed.getD i false = true := by
  intro i
  induction i using Nat.strongRecOn with
  | _ i ih =>
    intro hi
    cases hl : listed.getD i false with
    | true => rfl
    | false =>
      exfalso
      have hmem : i ∈ Region.ready .any ops listed := by
        unfold Region.ready
        rw [List.mem_filter]
        refine ⟨List.mem_range.2 hi, ?_⟩
        rw [Bool.and_eq_true]
        refine ⟨by rw [getD_tf (by omega), hl]; rfl, ?_⟩
        rw [Array.getElem?_eq_getElem hi]
        simp only [Option.map_some, Option.getD_some, Array.all_eq_true_iff_forall_mem]
        intro e he
        cases hb : Region.binds .any e with
        | false => simp
        | true =>
          have hlt := h.back i _ e (Array.getElem?_eq_getElem hi) he hb
          simp [ih e.on hlt (by omega)]
      rw [hr] at hmem
      cases hmem

omit [Val] in
theorem wr_of : ∀ {recs : List Rec} {env : Env} {σ : St}, Linked recs env σ env' σ' → (∀ r ∈ recs, r.fine P C call nt ops) → ∀ {x : Nat}, x ∈ σ'.wr → x ∈ σ.wr ∨ ∃ (j : Nat) (r : Rec), recs[j]? = some r ∧ x ∈ r.wr := by
  intro recs
  induction recs with
  | nil => intro env σ h _ x hx; obtain ⟨_, rfl⟩ := h; exact .inl hx
  | cons r rs ih =>
    intro env σ h hok x hx
    obtain ⟨_, h2, h3⟩ := h
    rcases ih h3 (fun r hr => hok r (by simp [hr])) hx with hx | ⟨j, s, hj, hx⟩
    · have hr := hok r (by simp)
      rcases hr with hr | ⟨_, _, e2, _, _⟩ | ⟨_, _, _, _, _, _, _, τ, _, _, _, _, e1, _, e3⟩
      · cases hb : r.b with
        | false =>
          obtain ⟨_, e2, _, _⟩ := hr.2.2.1 hb
          rw [e2, h2] at hx
          exact .inl hx
        | true =>
          obtain ⟨τ, _, _, e1, _, e3⟩ := hr.2.2.2 hb
          rw [e1] at hx
          rcases List.mem_append.1 hx with hx | hx
          · exact .inr ⟨0, r, rfl, by rw [e3]; exact hx⟩
          · rw [h2] at hx; exact .inl hx
      · rw [e2, h2] at hx
        exact .inl hx
      · rw [e1] at hx
        rcases List.mem_append.1 hx with hx | hx
        · exact .inr ⟨0, r, rfl, by rw [e3]; exact hx⟩
        · rw [h2] at hx; exact .inl hx
    · exact .inr ⟨j + 1, s, by simpa using hj, hx⟩

omit [Val] in
/-- What is put into temporaries leaves the rest of a frame alone. -/
theorem linked_keep : ∀ {recs : List Rec} {env : Env} {σ : St}, Linked recs env σ env' σ' → (∀ r ∈ recs, r.fine P C call nt ops) → env'.ds = env.ds ∧ env'.md = env.md ∧ env'.rd = env.rd := by
  intro recs
  induction recs with
  | nil => intro env σ h _; obtain ⟨rfl, _⟩ := h; exact ⟨rfl, rfl, rfl⟩
  | cons r rs ih =>
    intro env σ h hok
    obtain ⟨h1, h2, h3⟩ := h
    obtain ⟨p1, p2, p3⟩ := ih h3 (fun r hr => hok r (by simp [hr]))
    have hq : r.env'.ds = r.env.ds ∧ r.env'.md = r.env.md ∧ r.env'.rd = r.env.rd := by
      rcases hok r (by simp) with hr | ⟨_, e, _⟩ | ⟨_, _, e, _⟩
      · exact putA_keep hr.2.1
      · rw [e]; exact ⟨rfl, rfl, rfl⟩
      · rw [e]; exact ⟨rfl, rfl, rfl⟩
    obtain ⟨q1, q2, q3⟩ := hq
    rw [h1] at q1 q2 q3
    exact ⟨p1.trans q1, p2.trans q2, p3.trans q3⟩

/-- All orders come to one end. -/
theorem stage_any {ro : Option Nat} {ds0 : List Deferred} (hc : CallOk P R C call) (hcs : CallSteps call) (h : Region0 P R C call nt ops recs env env' σ σ' D φ₀ w₀)
    (hallok : ∀ (j : Nat) (r : Rec), recs[j]? = some r → r.ok P C call nt ops) {Q : Exit → Act → World → Prop}
    (hQ : ∀ φ' a' w', EnvR φ' nt env' a' → a'.defers = ds0 → Post R D φ₀ σ w₀ σ' φ' w' → Q .normal a' w') :
    ∀ (fuel : Nat) (listed : Array Bool) (a : Act) (w : World) (φ : PM), Stage R C nt ds0 ops recs env' σ σ' D φ₀ w₀ listed a w φ → left ops.size listed = fuel →
      wpAnyIn (wideR ro) 0 P .any ops Q fuel listed a w := by
  have hlen := h.len
  have hend : ∀ (listed : Array Bool) (a : Act) (w : World) (φ : PM), Stage R C nt ds0 ops recs env' σ σ' D φ₀ w₀ listed a w φ → (∀ i, i < ops.size → listed.getD i false = true) → Q .normal a w := by
    intro listed a w φ hs hall
    have hallr : ∀ j r, recs[j]? = some r → (listed.getD j false = true ↔ j < recs.length) := by
      intro j r hj
      have hjlt : j < recs.length := by
        rcases Nat.lt_or_ge j recs.length with h' | h'
        · exact h'
        · simp [List.getElem?_eq_none h'] at hj
      exact ⟨fun _ => hjlt, fun _ => hall j (by omega)⟩
    have eS : preS recs σ' recs.length = σ' := by simp [preS]
    have eE : preE recs env' recs.length = env' := by simp [preE]
    refine hQ φ a w ⟨hs.tsz, fun t v hv => hs.tmp t recs.length (Nat.le_refl _) (fun j r hj _ => hallr j r hj) v (by rw [eE]; exact hv)⟩ hs.dfr {
      le := hs.le
      grow := hs.grow
      wrR := ?_
      wf := hs.wf
      blk := hs.blk
      rep := ?_
      frm := hs.frm }
    · intro x hx
      rcases wr_of h.link h.ok hx with hx | ⟨j, r, hj, hx⟩
      · exact .inl hx
      · exact .inr (hs.wrR j r hj ((hallr j r hj).2 ((hallr j r hj).1 (hall j (by
          have hjlt : j < recs.length := by
            rcases Nat.lt_or_ge j recs.length with h' | h'
            · exact h'
            · simp [List.getElem?_eq_none h'] at hj
          omega)))) x hx)
    · intro id hid
      have hmono := (pre_mono h.link h.ok (Nat.zero_le recs.length) (Nat.le_refl _)).1
      rw [h.link.pre.1, eS] at hmono
      have := hs.rep id recs.length (Nat.le_refl _) (by
        rw [eS]
        rcases hid with ⟨_, h2⟩ | ⟨_, h2⟩
        · exact Nat.lt_of_lt_of_le h2 hmono.next
        · exact h2) (fun j r hj _ => hallr j r hj) (by
        rcases hid with ⟨h1, _⟩ | ⟨h1, _⟩
        · exact .inl h1
        · exact .inr h1)
      rwa [eS] at this
  intro fuel
  induction fuel with
  | zero =>
    intro listed a w φ hs hf
    have hall : ∀ i, i < ops.size → listed.getD i false = true := fun i hi => left_zero hf hi
    refine ⟨?_, hend listed a w φ hs hall⟩
    apply List.eq_nil_iff_forall_not_mem.2
    intro i hi
    obtain ⟨o, _, hlt, hl, _⟩ := ready_spec hs.sz hi
    rw [hall i hlt] at hl
    cases hl
  | succ fuel ih =>
    intro listed a w φ hs hf
    refine ⟨fun hr => hend listed a w φ hs (ready_nil h hs.sz hr), fun i hi => ?_⟩
    obtain ⟨o, ho, hlt, hl, hpre⟩ := ready_spec hs.sz hi
    obtain ⟨r, hr, hro⟩ := h.recOf ho
    refine stage_next hc hcs h hs hr (hallok i r hr) hl (by rw [hro]; exact hpre) fun φ' a' w' hs' => ih _ a' w' φ' hs' ?_
    have := left_set (n := ops.size) hlt (by rw [hs.sz]; exact hlt) hl
    omega

omit [Val] in
theorem get_delT {t : Tmp} {v : AV} : ∀ {l : List Oper} {m : T AV}, (delT l m).get t = some v → m.get t = some v ∧ ∀ o ∈ l, o.dst ≠ some t := by
  intro l
  induction l with
  | nil => intro m h; exact ⟨h, by simp⟩
  | cons o l ih =>
    intro m h
    unfold delT at h
    split at h
    · rename_i d hd
      obtain ⟨h1, h2⟩ := ih h
      rw [T.get_del] at h1
      split at h1
      · cases h1
      · rename_i hne
        exact ⟨h1, fun o' ho' => by
          rcases List.mem_cons.1 ho' with rfl | ho'
          · rw [hd]; simp only [ne_eq, Option.some.injEq]; exact fun e => hne e.symm
          · exact h2 o' ho'⟩
    · rename_i hd
      obtain ⟨h1, h2⟩ := ih h
      exact ⟨h1, fun o' ho' => by
        rcases List.mem_cons.1 ho' with rfl | ho'
        · rw [hd]; simp
        · exact h2 o' ho'⟩

/-- Who has made a number. -/
theorem Region0.maker (h : Region0 P R C call nt ops recs env env' σ σ' D φ₀ w₀) {id a : Nat} : ∀ b, a ≤ b → b ≤ recs.length → (preS recs σ' a).next ≤ id → id < (preS recs σ' b).next →
    ∃ (j : Nat) (r : Rec), a ≤ j ∧ j < b ∧ recs[j]? = some r ∧ r.σ.next ≤ id ∧ id < r.σ'.next := by
  intro b
  induction b with
  | zero => intro hab _ h1 h2; have : a = 0 := by omega
            subst this; omega
  | succ b ih =>
    intro hab hb h1 h2
    by_cases e : a = b + 1
    · subst e; omega
    · have hlt : b < recs.length := by omega
      have hj : recs[b]? = some recs[b] := List.getElem?_eq_getElem hlt
      rw [(h.link.post hj).1] at h2
      rcases Nat.lt_or_ge id (preS recs σ' b).next with h3 | h3
      · obtain ⟨j, r, g1, g2, g3⟩ := ih (by omega) (by omega) h1 h3
        exact ⟨j, r, g1, by omega, g3⟩
      · rw [preS_at hj] at h3
        exact ⟨b, _, by omega, by omega, hj, h3, h2⟩

/-- All orders come to one panic. -/
theorem stage_pan {ro : Option Nat} {ds0 : List Deferred} (hc : CallOk P R C call) (hcs : CallSteps call) (h : Region0 P R C call nt ops recs env env' σ σ' D φ₀ w₀) {ip : Nat} {chain : List (AV × Bool)}
    (hip : ∃ r : Rec, recs[ip]? = some r ∧ r.pans P C call ops chain) (hkind : ∀ (j : Nat) (r : Rec), recs[j]? = some r → j ≠ ip → r.ok P C call nt ops ∨ (r.idle ∧ Path ops j ip))
    {hp : T Ob} (hgone : ∀ (j : Nat) (r : Rec) (id : Nat), recs[j]? = some r → j ≠ ip → r.touch id → ¬ Path ops ip j → σ.next ≤ id ∧ (hp.get id = none ∨ hp.get id = some .dead))
    (hkill : Killed σ.next σ'.heap hp) {Q : Exit → Act → World → Prop}
    (hQ : ∀ φ' a' c' w', EnvR φ' nt { env' with tm := delT ops.toList env'.tm } a' → a'.defers = ds0 → ChainR φ' chain c' → Post R D φ₀ σ w₀ { σ' with heap := hp } φ' w' → Q (.panic c') a' w') :
    ∀ (fuel : Nat) (listed : Array Bool) (a : Act) (w : World) (φ : PM), Stage R C nt ds0 ops recs env' σ σ' D φ₀ w₀ listed a w φ → listed.getD ip false = false → left ops.size listed = fuel →
      wpAnyIn (wideR ro) 0 P .any ops Q fuel listed a w := by
  have hlen := h.len
  obtain ⟨rp, hrp, hpan⟩ := hip
  have hlt : ∀ {k : Nat} {x : Rec}, recs[k]? = some x → k < recs.length := by
    intro k x hk
    rcases Nat.lt_or_ge k recs.length with h' | h'
    · exact h'
    · simp [List.getElem?_eq_none h'] at hk
  have hipl : ip < ops.size := by rw [← hlen]; exact hlt hrp
  have hmono := fun {x k : Nat} (hxk : x ≤ k) (hk : k ≤ recs.length) => pre_mono h.link h.ok hxk hk
  have eS : preS recs σ' recs.length = σ' := by simp [preS]
  have eE : preE recs env' recs.length = env' := by simp [preE]
  -- the panic itself
  have hend : ∀ (listed : Array Bool) (a : Act) (w : World) (φ : PM), Stage R C nt ds0 ops recs env' σ σ' D φ₀ w₀ listed a w φ → listed.getD ip false = false →
      (∀ e ∈ rp.o.after, Region.binds .any e = true → listed.getD e.on false = true) → ∀ (K : Act → World → Prop), wpOpIn (wideR ro) 0 P ops Q ip K a w := by
    intro listed a w φ hs hni hpre K
    have hop := h.op hrp
    have hilt := hlt hrp
    obtain ⟨hb, henv, hwant, f, args, τ₀, τ, hcall, hret, hss, hsτ, e1, e2, e3⟩ := hpan
    obtain ⟨hpostS, hpostE⟩ := h.link.post hrp
    have hpS : preS recs σ' ip = rp.σ := preS_at hrp
    have hpE : preE recs env' ip = rp.env := preE_at hrp
    have hτn : τ.next = rp.σ'.next := by rw [e1]; rfl
    have hτh : τ.heap = rp.σ'.heap := by rw [e1]; rfl
    have hbef : ∀ j, Path ops ip j → listed.getD j false = true := by
      intro j p
      cases p with
      | one ho he hb => rw [hop] at ho; simp only [Option.some.injEq] at ho; subst ho; exact hpre _ he hb
      | step ho he hb p => rw [hop] at ho; simp only [Option.some.injEq] at ho; subst ho; exact hs.cl.path p (hpre _ he hb)
    have hbehind : ∀ j, Path ops j ip → listed.getD j false = false := by
      intro j p
      cases hj : listed.getD j false with
      | false => rfl
      | true => have := hs.cl.path p hj; rw [hni] at this; cases this
    have hord : ∀ j, j ≠ ip → (Path ops ip j ∨ Path ops j ip) → (listed.getD j false = true ↔ j < ip) := by
      intro j _ hp
      rcases hp with hp | hp
      · exact ⟨fun _ => h.back' hp, fun _ => hbef j hp⟩
      · exact ⟨fun hx => (by rw [hbehind j hp] at hx; cases hx), fun hx => absurd (h.back' hp) (by omega)⟩
    have hself : (listed.getD ip false = true ↔ ip < ip) := by rw [hni]; exact ⟨fun h => (by cases h), fun h => absurd h (Nat.lt_irrefl _)⟩
    have hnames : ∀ t ∈ tmpsOf ops rp.o, ∀ (j : Nat) (s : Rec), recs[j]? = some s → s.o.dst = some t → (listed.getD j false = true ↔ j < ip) := by
      intro t ht j s hj hd
      by_cases e : j = ip
      · subst e; exact hself
      rcases h.names ip j rp.o s.o t hop (h.op hj) hd ht with e' | hp
      · exact absurd e'.symm e
      · exact hord j e hp
    have hE : EnvR φ nt (rp.env.only (tmpsOf ops rp.o)) a := ⟨hs.tsz, fun t v hv => by
      obtain ⟨h1, h2⟩ := only_spec hv
      exact hs.tmp t ip (Nat.le_of_lt hilt) (hnames t h1) v (by rw [hpE]; exact h2)⟩
    obtain ⟨hst, hst2, hst3, hst4⟩ := (h.ok rp (List.mem_of_getElem? hrp)).step
    have hm1 := (hmono (show ip + 1 ≤ recs.length by omega) (Nat.le_refl _)).1
    rw [hpostS, eS] at hm1
    have hm0 := (hmono (Nat.zero_le ip) (Nat.le_of_lt hilt)).1
    rw [h.link.pre.1, hpS] at hm0
    -- a float does not panic
    have hnofl : ∀ (s : Rec) (id : Nat), ¬ s.floats P C ops rp id := by
      intro s id hf
      obtain ⟨_, _, _, _, _, τ', q, _⟩ := hf
      rw [hcall] at q; cases q
    have hDi : ∀ id, (id ∈ rp.rd ∨ id ∈ rp.wr) → id < rp.σ.next → Rep R φ w id (rp.σ.heap.get id) := by
      intro id hid hl
      have := hs.rep id ip (Nat.le_of_lt hilt) (by rw [hpS]; exact hl) (fun j s hj ht => by
        by_cases e : j = ip
        · subst e; exact hself
        rcases h.feet j ip s rp id hj hrp ht hid with e' | hp | hp | ⟨_, hf⟩
        · exact absurd e' e
        · exact hord j e (.inr hp)
        · exact hord j e (.inl hp)
        · exact absurd hf (hnofl s id)) (by
        by_cases hn : id < σ.next
        · left
          exact h.known id (hid.imp (fun hx => hm1.rd _ (hst3 _ hx)) (fun hx => hm1.wr _ (hst4 _ hx))) hn
        · exact .inr (Nat.le_of_not_lt hn))
      rwa [hpS] at this
    have hinv : Inv R C (fun id => id ∈ rp.rd ∨ id ∈ rp.wr) φ rp.σ.bare w := {
      wf := hs.wf
      low := Nat.le_trans h.inv.low hm0.next
      rep := fun id hid hl => hDi id hid hl
      gl := fun g n hg => let ⟨e, he, hx⟩ := h.inv.gl g n hg; ⟨e, hs.le _ _ _ he, hx⟩
      dom := hm0.dom h.inv.dom
      pin := h.inv.pin
      dec := h.inv.dec
      wrR := fun i hi => by cases hi
      ro := hs.ro }
    unfold wpOpIn
    rw [hop]
    dsimp only
    rw [wantedA_ok h.inv.pin h.inv.dec hE hwant]
    simp only [if_true]
    refine in_pan hc hinv hE hcall hret hss (fun id hid _ => by rw [e2, e3]; exact hid) (fun id h1 h2 v => hs.fresh ip rp hrp hni id h1 (by rw [← hτn]; exact h2) v) fun φ' c' w' hch hpo => ?_
    have hwrR : ∀ x ∈ τ.wr, R ≤ x := fun x hx => (hpo.wrR x hx).resolve_left (by simp [St.bare])
    have hwrσ : ∀ x ∈ τ.wr, x ∈ σ'.wr := fun x hx => hm1.wr _ (hst4 _ (by rw [e3]; exact hx))
    refine hQ φ' a c' w' ⟨hs.tsz, fun t v hv => ?_⟩ hs.dfr hch {
      le := hs.le.trans hpo.le
      grow := ?_
      wrR := ?_
      wf := hpo.wf
      blk := ?_
      rep := ?_
      frm := ?_ }
    · obtain ⟨g1, g2⟩ := get_delT hv
      obtain ⟨v', k1, k2⟩ := hs.tmp t recs.length (Nat.le_refl _) (fun j r hj hd => by
        have hj2 := h.op hj
        exact absurd hd (g2 r.o (by rw [← Array.getElem?_toList] at hj2; exact List.mem_of_getElem? hj2))) v (by rw [eE]; exact g1)
      exact ⟨v', k1, k2.mono hpo.le⟩
    · intro x hx hn v
      rw [hpo.grow x ?_ ?_ v]
      · exact hs.grow x hx hn v
      · rcases hx with hx | hx
        · exact .inl fun hw => hx (hwrσ x hw)
        · right
          have hx : σ'.next ≤ x := hx
          rw [hτn]; exact Nat.le_trans hm1.next hx
      · intro hcc
        have hc2 : x < rp.σ'.next := by rw [← hτn]; exact hcc.2
        have hc1 : rp.σ.next ≤ x := hcc.1
        exact hn ⟨Nat.le_trans hm0.next hc1, Nat.lt_of_lt_of_le hc2 hm1.next⟩
    · intro x hx
      rcases wr_of h.link h.ok hx with hx | ⟨j, r, hj, hx⟩
      · exact .inl hx
      · by_cases e : j = ip
        · subst e
          rw [hrp] at hj; simp only [Option.some.injEq] at hj; subst hj
          exact .inr (hwrR x (by rw [← e3]; exact hx))
        · by_cases hpa : Path ops ip j
          · exact .inr (hs.wrR j r hj (hbef j hpa) x hx)
          · exact .inr (Nat.le_trans h.inv.low (hgone j r x hj e (.inl hx) hpa).1)
    · intro x v e he
      rcases hpo.blk x v e he with ⟨u, f, hf, hbk⟩ | hbk
      · rcases hs.blk x u f hf with ⟨u', f', hf', hbk'⟩ | hbk'
        · exact .inl ⟨u', f', hf', hbk'.trans hbk⟩
        · exact .inr (hbk ▸ hbk')
      · exact .inr (Nat.le_trans hs.frm.size hbk)
    · intro id hid
      have hid : (D id ∧ id < σ.next) ∨ (σ.next ≤ id ∧ id < σ'.next) := hid
      show Rep R φ' w' id (hp.get id)
      have hidσ : id < σ'.next := by
        rcases hid with ⟨_, g⟩ | ⟨_, g⟩
        · exact Nat.lt_of_lt_of_le g (Nat.le_trans hm0.next (Nat.le_trans hst.next hm1.next))
        · exact g
      by_cases hex : ∃ (j : Nat) (r : Rec), recs[j]? = some r ∧ j ≠ ip ∧ r.touch id ∧ ¬ Path ops ip j
      · obtain ⟨j, r, g1, g2, g3, g4⟩ := hex
        rcases (hgone j r id g1 g2 g3 g4).2 with e | e
        · rw [e]; trivial
        · rw [e]; trivial
      · rcases hkill id with e | ⟨_, _, e⟩
        rotate_left
        · rw [e]; trivial
        rw [e]
        have htl : ∀ (j : Nat) (s : Rec), recs[j]? = some s → s.touch id → j = ip ∨ Path ops ip j := by
          intro j s hj ht
          by_cases e : j = ip
          · exact .inl e
          · by_cases hpa : Path ops ip j
            · exact .inr hpa
            · exact absurd ⟨j, s, hj, e, ht, hpa⟩ hex
        have hnoafter : ∀ (j : Nat) (s : Rec), ip + 1 ≤ j → j < recs.length → recs[j]? = some s → ¬ s.touch id := by
          intro j s h1 _ hj ht
          rcases htl j s hj ht with e | p
          · omega
          · have := h.back' p; omega
        have hidr : id < rp.σ'.next := by
          rcases Nat.lt_or_ge id rp.σ'.next with h' | h'
          · exact h'
          · exfalso
            obtain ⟨j, s, g1, g2, g3, g4⟩ := h.maker (a := ip + 1) recs.length (by omega) (Nat.le_refl _) (by rw [hpostS]; exact h') (by rw [eS]; exact hidσ)
            exact hnoafter j s g1 g2 g3 (.inr g4)
        have hkeep := (hmono (show ip + 1 ≤ recs.length by omega) (Nat.le_refl _)).2.1 id (by rw [hpostS]; exact hidr) hnoafter
        rw [eS, hpostS] at hkeep
        rw [hkeep, ← hτh]
        by_cases ht : rp.touch id
        · refine hpo.rep id ?_
          by_cases hl : id < rp.σ.next
          · left
            refine ⟨?_, hl⟩
            rcases ht with hw | hcr
            · exact .inr hw
            · omega
          · exact .inr ⟨Nat.le_of_not_lt hl, by rw [hτn]; exact hidr⟩
        · have hl : id < rp.σ.next := by
            rcases Nat.lt_or_ge id rp.σ.next with h' | h'
            · exact h'
            · exact absurd (.inr ⟨h', hidr⟩) ht
          have hnw : id ∉ τ.wr := fun hw => ht (.inl (by rw [e3]; exact hw))
          have hsame : τ.heap.get id = rp.σ.heap.get id := by rw [hτh]; exact hst2 id hl (fun hw => ht (.inl hw))
          rw [hsame, ← hpS]
          have hD : D id ∨ σ.next ≤ id := hid.imp (·.1) (·.1)
          refine (hs.rep id ip (Nat.le_of_lt hilt) (by rw [hpS]; exact hl) (fun j s hj hts => ?_) hD).frame hpo.le (fun v => hpo.grow id (.inl hnw) (fun hx => ht (.inr ⟨hx.1, by rw [← hτn]; exact hx.2⟩)) v) fun v e he => ?_
          · rcases htl j s hj hts with e | p
            · subst e; exact hself
            · exact hord j (fun e => by subst e; exact absurd (h.back' p) (Nat.lt_irrefl _)) (.inl p)
          · refine hpo.frm.keep _ (hs.wf.lt _ _ _ he) fun x hx u f hf heq => ?_
            rcases hs.wf.inj _ _ _ _ _ _ hf he heq with hh | hh
            · exact hnw (hh ▸ hx)
            · exact absurd hh.1 (Nat.not_lt.2 (hwrR x hx))
    · exact {
        size := Nat.le_trans hs.frm.size hpo.frm.size
        keep := fun b hb hne => by
          rw [hpo.frm.keep b (Nat.lt_of_lt_of_le hb hs.frm.size) ?_]
          · exact hs.frm.keep b hb hne
          · intro x hx v e he
            rcases hs.blk x v e he with ⟨u, f, hf, hbf⟩ | hbf
            · rw [← hbf]; exact hne x (hwrσ x hx) u f hf
            · exact fun heq => absurd hb (Nat.not_lt.2 (heq ▸ hbf))
        os := hpo.frm.os.trans hs.frm.os
        out := hpo.frm.out.trans hs.frm.out
        tape := hpo.frm.tape.trans hs.frm.tape }
  intro fuel
  induction fuel with
  | zero =>
    intro listed a w φ hs hni hf
    have := left_zero hf hipl
    rw [hni] at this; cases this
  | succ fuel ih =>
    intro listed a w φ hs hni hf
    refine ⟨fun hr => ?_, fun i hi => ?_⟩
    · have := ready_nil h hs.sz hr ip hipl
      rw [hni] at this; cases this
    · obtain ⟨o, ho, hl2, hl, hpre⟩ := ready_spec hs.sz hi
      obtain ⟨r, hr, hro⟩ := h.recOf ho
      by_cases e : i = ip
      · subst e
        rw [hrp] at hr; simp only [Option.some.injEq] at hr; subst hr
        exact hend listed a w φ hs hni (by rw [hro]; exact hpre) _
      · rcases hkind i r hr e with hok | ⟨_, hpa⟩
        · refine stage_next hc hcs h hs hr hok hl (by rw [hro]; exact hpre) fun φ' a' w' hs' => ih _ a' w' φ' hs' ?_ ?_
          · rw [getD_set (by rw [hs.sz]; exact hl2), if_neg (fun x => e x.symm)]; exact hni
          · have := left_set (n := ops.size) hl2 (by rw [hs.sz]; exact hl2) hl
            omega
        · exfalso
          have : listed.getD ip false = true := by
            cases hpa with
            | one ho' he hb => rw [ho] at ho'; simp only [Option.some.injEq] at ho'; subst ho'; exact hpre _ he hb
            | step ho' he hb p => rw [ho] at ho'; simp only [Option.some.injEq] at ho'; subst ho'; exact hs.cl.path p (hpre _ he hb)
          rw [hni] at this; cases this

omit [Val] in
theorem apartL_spec {a b : List Nat} (h : apartL a b = true) {x : Nat} (ha : x ∈ a) (hb : x ∈ b) : False := by
  unfold apartL at h
  have := List.all_eq_true.1 (List.all_eq_true.1 h x ha) x hb
  simp at this
omit [Val] in
theorem outL_spec {lo hi : Nat} {l : List Nat} (h : outL lo hi l = true) {x : Nat} (hx : x ∈ l) (h1 : lo ≤ x) (h2 : x < hi) : False := by
  unfold outL at h
  have := List.all_eq_true.1 h x hx
  rw [Nat.ble_eq_true_of_le h1] at this
  have h3 : Nat.blt x hi = true := Nat.ble_eq_true_of_le h2
  rw [h3] at this
  cases this

/-- A region that draws its order. -/
theorem drawA_ok {ro : Option Nat} (hc : CallOk P R C call) (hcs : CallSteps call) (hm : P.follows .mixedOrders = true) {e : AExit} {a : Act} {id : Nat}
    (h : drawA P C call nt ops env σ = .ok e env' σ') (hi : Inv R C D φ₀ σ w₀) (he : FrmR φ₀ nt env a) (hk : Known D σ σ') (hf : Free φ₀ σ σ') {Q : Exit → Act → World → Prop}
    (hQ : ∀ φ' e' a' w', ExitR φ' e e' → FrmR φ' nt env' a' → env'.md = env.md → env'.rd = env.rd → Post R D φ₀ σ w₀ σ' φ' w' → Q e' a' w') :
    (Code.region id ops true).wpIn (wideR ro) 0 P Q a w₀ := by
  unfold drawA at h
  simp only [cond_eq_ite] at h
  split at h
  · rename_i hdo
    have hdo' := List.all_eq_true.1 (by simpa only [drawOk] using hdo)
    have hz : ∀ (i : Nat) (o : Oper), ops[i]? = some o → (o, i) ∈ ops.toList.zipIdx := by
      intro i o ho
      rw [List.mem_zipIdx_iff_getElem?]
      simpa using ho
    -- the region as records
    have hmk : ∀ (d : DrawR) (σ1 : St), runDraw P C (befOf ops) call nt ops ops.toList 0 [] env σ = d → d.st = some σ1 → feetOk P C (befOf ops) d.fs = true → Known D σ σ1 →
        ∃ recs : List Rec, Region0 P R C call nt ops recs env d.env σ σ1 D φ₀ w₀ ∧ Drawn P C call (befOf ops) nt ops 0 recs d ∧ (∀ (j : Nat) (r : Rec), recs[j]? = some r → r.b = true → r.foot ops j ∈ d.fs) ∧
          (∀ (j : Nat) (r : Rec) (id : Nat), recs[j]? = some r → r.touch id → r.b = true) := by
      intro d σ1 hrd hst hfo hk
      obtain ⟨recs, h1, h2, h3, _, h5⟩ := runDraw_recs hcs _ _ _ _ _ _ _ hrd hst
      have hfine : ∀ r ∈ recs, r.fine P C call nt ops := by
        intro r hr
        obtain ⟨j, hj⟩ := List.getElem?_of_mem hr
        cases d with
        | ok fs e σ => exact .inl (h3 j r hj)
        | no => exact h3.elim
        | pan ip chain fs e σ =>
          obtain ⟨_, ⟨s, g1, g2⟩, g3⟩ := h3
          by_cases e : j = ip
          · subst e
            rw [Nat.sub_zero, hj] at g1; simp only [Option.some.injEq] at g1; subst g1
            exact .inr (.inr ⟨chain, g2⟩)
          · rcases g3 j r hj (by omega) with g | ⟨g, _⟩
            · exact .inl g
            · exact .inr (.inl g)
      have hrb : ∀ (j : Nat) (r : Rec), recs[j]? = some r → r.b = false → r.rd = [] ∧ r.wr = [] ∧ r.σ' = r.σ := by
        intro j r hj hb
        rcases hfine r (List.mem_of_getElem? hj) with g | g | ⟨_, g⟩
        · obtain ⟨_, e2, e3, e4⟩ := g.2.2.1 hb
          exact ⟨e3, e4, e2⟩
        · exact ⟨g.2.2.2.1, g.2.2.2.2, g.2.2.1⟩
        · rw [g.1] at hb; cases hb
      have htb : ∀ (j : Nat) (r : Rec) (id : Nat), recs[j]? = some r → r.touch id → r.b = true := by
        intro j r id hj ht
        cases hb : r.b with
        | true => rfl
        | false =>
          obtain ⟨_, e4, e2⟩ := hrb j r hj hb
          rcases ht with ht | ht
          · rw [e4] at ht; cases ht
          · rw [e2] at ht; omega
      refine ⟨recs, {
        link := h2
        ok := hfine
        omap := h1
        back := by
          intro i o ed ho hed hb
          have := hdo' (o, i) (hz i o ho)
          simp only [Bool.and_eq_true] at this
          have h4 := List.all_eq_true.1 this.1 ed (by simpa using hed)
          rw [hb] at h4
          exact blt_t (by simpa using h4)
        names := by
          intro i j o p d ho hp hpd hdn
          have := hdo' (o, i) (hz i o ho)
          simp only [Bool.and_eq_true] at this
          have h4 := List.all_eq_true.1 this.2 (p, j) (hz j p hp)
          simp only [hpd] at h4
          have hcn : (tmpsOf ops o).contains d = true := by simpa using hdn
          rw [hcn] at h4
          exact orderedB_spec (by simpa using h4)
        feet := by
          intro i j r s x hr hs ht hx
          have hsb : s.b = true := by
            cases hb : s.b with
            | true => rfl
            | false =>
              obtain ⟨e3, e4, _⟩ := hrb j s hs hb
              rw [e3, e4] at hx
              rcases hx with hx | hx <;> cases hx
          have f1 := h5 i r hr (htb i r x hr ht)
          have f2 := h5 j s hs hsb
          simp only [Nat.zero_add] at f1 f2
          have h6 := List.all_eq_true.1 (by simpa only [feetOk] using hfo) _ f1
          dsimp only [Rec.foot] at h6
          have hnot : ¬ ((r.wr.isEmpty && Nat.beq r.σ.next r.σ'.next) = true) := by
            rw [Bool.and_eq_true]
            rintro ⟨g1, g2⟩
            have g2 := beq_t g2
            rcases ht with ht | ht
            · rw [List.isEmpty_iff.1 g1] at ht; cases ht
            · omega
          rw [cond_eq_ite, if_neg hnot] at h6
          have h7 := List.all_eq_true.1 h6 _ f2
          dsimp only [Rec.foot] at h7
          rw [Bool.or_eq_true, Bool.or_eq_true] at h7
          rcases h7 with (h7 | h7) | h7
          · rcases orderedB_spec h7 with g | g | g
            · exact .inl g
            · exact .inr (.inl g)
            · exact .inr (.inr (.inl g))
          · exfalso
            simp only [Bool.and_eq_true] at h7
            obtain ⟨⟨⟨g1, g2⟩, g3⟩, g4⟩ := h7
            rcases ht with ht | ⟨ht1, ht2⟩
            · rcases hx with hx | hx
              · exact apartL_spec g1 ht hx
              · exact apartL_spec g2 ht hx
            · rcases hx with hx | hx
              · exact outL_spec g3 hx ht1 ht2
              · exact outL_spec g4 hx ht1 ht2
          · right; right; right
            unfold Foot.floats at h7
            simp only [Bool.and_eq_true] at h7
            obtain ⟨⟨⟨⟨⟨⟨g1, g2⟩, g3⟩, g4⟩, g5⟩, g6⟩, g7⟩ := h7
            have g1 := List.isEmpty_iff.1 g1
            have hxr : x ∈ s.rd := hx.resolve_right (by rw [g1]; simp)
            have hone : ∀ a ∈ s.rd, a = x := by
              split at g3
              · cases g3
              · rename_i a0 l0 hrd0
                have hall : ∀ y ∈ s.rd, y = a0 := by
                  intro y hy
                  rw [hrd0] at hy
                  rcases List.mem_cons.1 hy with rfl | hy
                  · rfl
                  · exact (beq_t (List.all_eq_true.1 g3 y hy)).symm
                intro a ha
                rw [hall a ha, hall x hxr]
            have hat : ∀ σ0 : St, Foot.at P C (Rec.foot ops j s) σ0 = true → s.same P C ops σ0 := by
              intro σ0 hh
              unfold Foot.at at hh
              split at hh
              · rename_i v τ hv
                simp only [Bool.and_eq_true] at hh
                obtain ⟨⟨⟨k1, k2⟩, k3⟩, k4⟩ := hh
                have k1 := AV.same_eq k1
                subst k1
                refine ⟨τ, hv, List.isEmpty_iff.1 k2, beq_t k3, fun y hy => ?_⟩
                have := List.all_eq_true.1 k4 y hy
                simpa [Rec.foot] using this
              · cases hh
            exact ⟨hxr, g1, beq_t g2, hone, hat _ g5, hat _ g6, hat _ g7⟩
        inv := hi
        known := hk }, h3, fun j r hj hb => by have := h5 j r hj hb; rwa [Nat.zero_add] at this, htb⟩
    have hfalse : ∀ j, (Array.replicate ops.size false).getD j false = false := by
      intro j
      simp only [Array.getD_eq_getD_getElem?]
      by_cases hj : j < ops.size
      · simp [hj]
      · simp [hj]
    have hleft : left ops.size (Array.replicate ops.size false) = ops.size := by
      unfold left
      rw [List.filter_eq_self.2 (fun j _ => by rw [hfalse]; rfl)]
      simp
    -- nothing has been done
    have hstart : ∀ {recs : List Rec} {env1 : Env} {σ1 : St}, Region0 P R C call nt ops recs env env1 σ σ1 D φ₀ w₀ → (∀ i, σ.next ≤ i → i < σ1.next → ∀ v, φ₀ i v = none) →
        Stage R C nt a.defers ops recs env1 σ σ1 D φ₀ w₀ (Array.replicate ops.size false) a w₀.drew φ₀ := by
      intro recs env1 σ1 hreg hfr
      have h2 := hreg.link
      have h3 := hreg.ok
      have hno : ∀ (p : Nat → Rec → Prop) k, k ≤ recs.length → (∀ j r, recs[j]? = some r → p j r → ((Array.replicate ops.size false).getD j false = true ↔ j < k)) →
          ∀ j r, 0 ≤ j → j < k → recs[j]? = some r → ¬ p j r := by
        intro p k _ hcond j r _ hjk hj hp
        have := (hcond j r hj hp).2 hjk
        rw [hfalse] at this; cases this
      exact {
        sz := by simp
        cl := fun j o hj => by rw [hfalse] at hj; cases hj
        wf := hi.drew.wf
        dfr := rfl
        tsz := he.ev.size
        tmp := fun t k hk2 hcond v hv => by
          have := (pre_mono h2 h3 (Nat.zero_le k) hk2).2.2 t (hno (fun j r => r.o.dst = some t) k hk2 hcond)
          rw [this, h2.pre.2] at hv
          exact he.ev.val t v hv
        rep := fun x k hk2 hx hcond hD => by
          have hnt := hno (fun j r => r.touch x) k hk2 hcond
          have hx0 : x < σ.next := by
            rcases Nat.lt_or_ge x σ.next with h' | h'
            · exact h'
            · exfalso
              obtain ⟨j, r, _, g2, g3, g4⟩ := hreg.maker (a := 0) k (Nat.zero_le _) hk2 (by rw [h2.pre.1]; exact h') hx
              exact hnt j r (Nat.zero_le _) g2 g3 (.inr g4)
          have := (pre_mono h2 h3 (Nat.zero_le k) hk2).2.1 x (by rw [h2.pre.1]; exact hx0) hnt
          rw [this, h2.pre.1]
          exact hi.drew.rep x (hD.resolve_right (by omega)) hx0
        fresh := fun j r hj _ x hx1 hx2 v => by
          have hjlt : j < recs.length := by
            rcases Nat.lt_or_ge j recs.length with h' | h'
            · exact h'
            · simp [List.getElem?_eq_none h'] at hj
          have m1 := (pre_mono h2 h3 (Nat.zero_le j) (Nat.le_of_lt hjlt)).1.next
          have m2 := (pre_mono h2 h3 (show j + 1 ≤ recs.length by omega) (Nat.le_refl _)).1.next
          rw [h2.pre.1, preS_at hj] at m1
          rw [(h2.post hj).1, show preS recs σ1 recs.length = σ1 by simp [preS]] at m2
          exact hfr x (by omega) (by omega) v
        le := φ₀.le_refl
        grow := fun _ _ _ _ => rfl
        blk := fun i v e he => .inl ⟨v, e, he, rfl⟩
        frm := ⟨Nat.le_refl _, fun _ _ _ => rfl, rfl, rfl, rfl⟩
        wrR := fun j r hj hl => by rw [hfalse] at hl; cases hl
        ro := hi.drew.ro }
    split at h
    · rename_i fs env1 σ1 hrd
      split at h
      · rename_i hfo
        simp only [XR.ok.injEq] at h
        obtain ⟨rfl, rfl, rfl⟩ := h
        obtain ⟨recs, hreg, hdr, _, _⟩ := hmk _ _ hrd rfl hfo hk
        have hreg : Region0 P R C call nt ops recs env env1 σ σ1 D φ₀ w₀ := hreg
        obtain ⟨kp1, kp2, kp3⟩ := linked_keep hreg.link hreg.ok
        refine wpIn_region_any hm ?_
        exact stage_any hc hcs hreg hdr (fun φ' a' w' g1 g2 g3 => hQ φ' .normal a' w' trivial ⟨g1, by rw [kp1, g2]; exact he.dfs.mono g3.le⟩ kp2 kp3 g3) ops.size _ a w₀.drew φ₀ (hstart hreg hf) hleft
      · cases h
    · rename_i ip chain fs env1 σ1 hrd
      split at h
      · rename_i hfo
        rw [Bool.and_eq_true] at hfo
        simp only [XR.ok.injEq] at h
        obtain ⟨rfl, rfl, rfl⟩ := h
        obtain ⟨recs, hreg, ⟨_, ⟨rp, g1, g2⟩, g3⟩, hft, htb⟩ := hmk _ _ hrd rfl hfo.1 hk
        have hreg : Region0 P R C call nt ops recs env env1 σ σ1 D φ₀ w₀ := hreg
        obtain ⟨kp1, kp2, kp3⟩ := linked_keep hreg.link hreg.ok
        refine wpIn_region_any hm ?_
        refine stage_pan hc hcs hreg ⟨rp, by rw [Nat.sub_zero] at g1; exact g1, g2⟩ (fun j r hj hne => ?_) (fun j r id hj hne ht hpa => ?_) (panKill_killed (befOf ops) ip σ.next fs σ1.heap)
          (fun φ' a' c' w' q1 q2 q3 q4 => hQ φ' (.panic c') a' w' q3 ⟨q1, ?_⟩ kp2 kp3 q4) ops.size _ a w₀.drew φ₀ (hstart hreg hf) (hfalse ip) hleft
        · rcases g3 j r hj (by omega) with g | ⟨g, gb⟩
          · exact .inl g
          · rw [Nat.zero_add] at gb
            exact .inr ⟨g, befOf_spec gb⟩
        · have hfm := hft j r hj (htb j r id hj ht)
          have hbit : ((befOf ops).getD ip 0).testBit j = false := by
            cases hb : ((befOf ops).getD ip 0).testBit j with
            | false => rfl
            | true => exact absurd (befOf_spec hb) hpa
          have hn : σ.next ≤ id := by
            rcases ht with hw | hcr
            · have h4 := List.all_eq_true.1 (show (DrawR.pan ip chain fs env1 σ1).fs.all _ = true by simpa only [panOk, DrawR.fs] using hfo.2) _ hfm
              rw [Bool.or_eq_true, Bool.or_eq_true] at h4
              rcases h4 with (h4 | h4) | h4
              · exact absurd (beq_t h4) hne
              · have h4 : ((befOf ops).getD ip 0).testBit j = true := h4
                rw [hbit] at h4; cases h4
              · exact ble_t (List.all_eq_true.1 h4 id hw)
            · have hjlt : j < recs.length := by
                rcases Nat.lt_or_ge j recs.length with h' | h'
                · exact h'
                · simp [List.getElem?_eq_none h'] at hj
              have m1 := (pre_mono hreg.link hreg.ok (Nat.zero_le j) (Nat.le_of_lt hjlt)).1.next
              rw [hreg.link.pre.1, preS_at hj] at m1
              omega
          exact ⟨hn, panKill_gone hfm hne hbit hn ht⟩
        · show DfsR φ' env1.ds a'.defers
          rw [kp1, q2]; exact he.dfs.mono q4.le
      · cases h
    · cases h
  · cases h
end
end Go.Tw
