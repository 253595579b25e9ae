/-
  A part of the proof that the abstract evaluator is sound for the model's machine. Conditions: those of each theorem, as it states them.
-/
import Derived.Test.YtkddndlkblhldaaGreatTwDraw2
namespace Go.Tw
section
variable [Val]
variable {P : Program} {R : Nat} {C : Cfg}
variable {call : Cle → List AV → St → CR} {nt : Nat} {ops : Array Oper} {recs : List Rec} {env env' : Env} {σ σ' : St} {D : Nat → Prop} {φ₀ : PM} {w₀ : World}

/-- How many have not been done. -/
def left (n : Nat) (listed : Array Bool) : Nat := ((List.range n).filter fun i => !listed.getD i false).length

omit [Val] in
theorem left_set {n : Nat} {listed : Array Bool} {i : Nat} (hi : i < n) (hl : i < listed.size) (hf : listed.getD i false = false) : left n (listed.setIfInBounds i true) + 1 = left n listed := by
  unfold left
  have key : ∀ m, (i < m → ((List.range m).filter fun j => !(listed.setIfInBounds i true).getD j false).length + 1 = ((List.range m).filter fun j => !listed.getD j false).length) ∧
      (m ≤ i → ((List.range m).filter fun j => !(listed.setIfInBounds i true).getD j false).length = ((List.range m).filter fun j => !listed.getD j false).length) := by
    intro m
    induction m with
    | zero => exact ⟨fun h => absurd h (Nat.not_lt_zero _), fun _ => rfl⟩
    | succ m ih =>
      simp only [List.range_succ, List.filter_append, List.length_append]
      have hg := getD_set hl m
      refine ⟨fun h => ?_, fun h => ?_⟩
      · by_cases e : m = i
        · subst e
          have := ih.2 (Nat.le_refl _)
          rw [if_pos rfl] at hg
          rw [this]
          simp only [List.filter_cons, List.filter_nil, hg, hf]
          simp
        · have := ih.1 (by omega)
          rw [if_neg e] at hg
          simp only [List.filter_cons, List.filter_nil, hg]
          omega
      · have := ih.2 (by omega)
        rw [if_neg (by omega)] at hg
        simp only [List.filter_cons, List.filter_nil, hg]
        omega
  exact (key n).1 hi

omit [Val] in
theorem left_zero {n : Nat} {listed : Array Bool} (h : left n listed = 0) {i : Nat} (hi : i < n) : listed.getD i false = true := by
  unfold left at h
  have := List.length_eq_zero_iff.1 h
  have := List.filter_eq_nil_iff.1 this i (List.mem_range.2 hi)
  simpa using this

omit [Val] in
theorem getD_tf {listed : Array Bool} {i : Nat} (h : i < listed.size) : listed.getD i true = listed.getD i false := by
  simp [Array.getD_eq_getD_getElem?, h]

omit [Val] in
theorem ready_spec {listed : Array Bool} (hsz : listed.size = ops.size) {i : Nat} (h : i ∈ Region.ready .any ops listed) :
    ∃ o, ops[i]? = some o ∧ i < ops.size ∧ listed.getD i false = false ∧ ∀ e ∈ o.after, Region.binds .any e = true → listed.getD e.on false = true := by
  unfold Region.ready at h
  rw [List.mem_filter] at h
  obtain ⟨h1, h2⟩ := h
  have hi := List.mem_range.1 h1
  rw [Bool.and_eq_true] at h2
  obtain ⟨h3, h4⟩ := h2
  rw [Array.getElem?_eq_getElem hi] at h4
  refine ⟨ops[i], Array.getElem?_eq_getElem hi, hi, ?_, ?_⟩
  · rw [← getD_tf (by omega)]; simpa using h3
  · intro e he hb
    simp only [Option.map_some, Option.getD_some, Array.all_eq_true_iff_forall_mem] at h4
    have := h4 e he
    simpa [hb] using this

theorem ready_nil (h : Region0 P R C call nt ops recs env env' σ σ' D φ₀ w₀) {listed : Array Bool} (hsz : listed.size = ops.size) (hr : Region.ready .any ops listed = []) :
    ∀ i, i < ops.size → listed.getD i false = true := by
  intro i
  induction i using Nat.strongRecOn with
  | _ i ih =>
    intro hi
    cases hl : listed.getD i false with
    | true => rfl
    | false =>
      exfalso
      have hmem : i ∈ Region.ready .any ops listed := by
        unfold Region.ready
        rw [List.mem_filter]
        refine ⟨List.mem_range.2 hi, ?_⟩
        rw [Bool.and_eq_true]
        refine ⟨by rw [getD_tf (by omega), hl]; rfl, ?_⟩
        rw [Array.getElem?_eq_getElem hi]
        simp only [Option.map_some, Option.getD_some, Array.all_eq_true_iff_forall_mem]
        intro e he
        cases hb : Region.binds .any e with
        | false => simp
        | true =>
          have hlt := h.back i _ e (Array.getElem?_eq_getElem hi) he hb
          simp [ih e.on hlt (by omega)]
      rw [hr] at hmem
      cases hmem

omit [Val] in
theorem wr_of : ∀ {recs : List Rec} {env : Env} {σ : St}, Linked recs env σ env' σ' → (∀ r ∈ recs, r.ok P C call nt ops) → ∀ {x : Nat}, x ∈ σ'.wr → x ∈ σ.wr ∨ ∃ (j : Nat) (r : Rec), recs[j]? = some r ∧ x ∈ r.wr := by
  intro recs
  induction recs with
  | nil => intro env σ h _ x hx; obtain ⟨_, rfl⟩ := h; exact .inl hx
  | cons r rs ih =>
    intro env σ h hok x hx
    obtain ⟨_, h2, h3⟩ := h
    rcases ih h3 (fun r hr => hok r (by simp [hr])) hx with hx | ⟨j, s, hj, hx⟩
    · have hr := hok r (by simp)
      cases hb : r.b with
      | false =>
        obtain ⟨_, e2, _, _⟩ := hr.2.2.1 hb
        rw [e2, h2] at hx
        exact .inl hx
      | true =>
        obtain ⟨τ, _, _, e1, _, e3⟩ := hr.2.2.2 hb
        rw [e1] at hx
        rcases List.mem_append.1 hx with hx | hx
        · exact .inr ⟨0, r, rfl, by rw [e3]; exact hx⟩
        · rw [h2] at hx; exact .inl hx
    · exact .inr ⟨j + 1, s, by simpa using hj, hx⟩

omit [Val] in
/-- What is put into temporaries leaves the rest of a frame alone. -/
theorem linked_keep : ∀ {recs : List Rec} {env : Env} {σ : St}, Linked recs env σ env' σ' → (∀ r ∈ recs, r.ok P C call nt ops) → env'.ds = env.ds ∧ env'.md = env.md ∧ env'.rd = env.rd := by
  intro recs
  induction recs with
  | nil => intro env σ h _; obtain ⟨rfl, _⟩ := h; exact ⟨rfl, rfl, rfl⟩
  | cons r rs ih =>
    intro env σ h hok
    obtain ⟨h1, h2, h3⟩ := h
    obtain ⟨p1, p2, p3⟩ := ih h3 (fun r hr => hok r (by simp [hr]))
    obtain ⟨q1, q2, q3⟩ := putA_keep (hok r (by simp)).2.1
    rw [h1] at q1 q2 q3
    exact ⟨p1.trans q1, p2.trans q2, p3.trans q3⟩

/-- All orders come to one end. -/
theorem stage_any {ro : Option Nat} {ds0 : List Deferred} (hc : CallOk P R C call) (hcs : CallSteps call) (h : Region0 P R C call nt ops recs env env' σ σ' D φ₀ w₀) {Q : Exit → Act → World → Prop}
    (hQ : ∀ φ' a' w', EnvR φ' nt env' a' → a'.defers = ds0 → Post R D φ₀ σ w₀ σ' φ' w' → Q .normal a' w') :
    ∀ (fuel : Nat) (listed : Array Bool) (a : Act) (w : World) (φ : PM), Stage R C nt ds0 ops recs env' σ σ' D φ₀ w₀ listed a w φ → left ops.size listed = fuel →
      wpAnyIn (wideR ro) 0 P .any ops Q fuel listed a w := by
  have hlen := h.len
  have hend : ∀ (listed : Array Bool) (a : Act) (w : World) (φ : PM), Stage R C nt ds0 ops recs env' σ σ' D φ₀ w₀ listed a w φ → (∀ i, i < ops.size → listed.getD i false = true) → Q .normal a w := by
    intro listed a w φ hs hall
    have hallr : ∀ j r, recs[j]? = some r → (listed.getD j false = true ↔ j < recs.length) := by
      intro j r hj
      have hjlt : j < recs.length := by
        rcases Nat.lt_or_ge j recs.length with h' | h'
        · exact h'
        · simp [List.getElem?_eq_none h'] at hj
      exact ⟨fun _ => hjlt, fun _ => hall j (by omega)⟩
    have eS : preS recs σ' recs.length = σ' := by simp [preS]
    have eE : preE recs env' recs.length = env' := by simp [preE]
    refine hQ φ a w ⟨hs.tsz, fun t v hv => hs.tmp t recs.length (Nat.le_refl _) (fun j r hj _ => hallr j r hj) v (by rw [eE]; exact hv)⟩ hs.dfr {
      le := hs.le
      grow := hs.grow
      wrR := ?_
      wf := hs.wf
      blk := hs.blk
      rep := ?_
      frm := hs.frm }
    · intro x hx
      rcases wr_of h.link h.ok hx with hx | ⟨j, r, hj, hx⟩
      · exact .inl hx
      · exact .inr (hs.wrR j r hj ((hallr j r hj).2 ((hallr j r hj).1 (hall j (by
          have hjlt : j < recs.length := by
            rcases Nat.lt_or_ge j recs.length with h' | h'
            · exact h'
            · simp [List.getElem?_eq_none h'] at hj
          omega)))) x hx)
    · intro id hid
      have hmono := (pre_mono h.link h.ok (Nat.zero_le recs.length) (Nat.le_refl _)).1
      rw [h.link.pre.1, eS] at hmono
      have := hs.rep id recs.length (Nat.le_refl _) (by
        rw [eS]
        rcases hid with ⟨_, h2⟩ | ⟨_, h2⟩
        · exact Nat.lt_of_lt_of_le h2 hmono.next
        · exact h2) (fun j r hj _ => hallr j r hj) (by
        rcases hid with ⟨h1, _⟩ | ⟨h1, _⟩
        · exact .inl h1
        · exact .inr h1)
      rwa [eS] at this
  intro fuel
  induction fuel with
  | zero =>
    intro listed a w φ hs hf
    have hall : ∀ i, i < ops.size → listed.getD i false = true := fun i hi => left_zero hf hi
    refine ⟨?_, hend listed a w φ hs hall⟩
    apply List.eq_nil_iff_forall_not_mem.2
    intro i hi
    obtain ⟨o, _, hlt, hl, _⟩ := ready_spec hs.sz hi
    rw [hall i hlt] at hl
    cases hl
  | succ fuel ih =>
    intro listed a w φ hs hf
    refine ⟨fun hr => hend listed a w φ hs (ready_nil h hs.sz hr), fun i hi => ?_⟩
    obtain ⟨o, ho, hlt, hl, hpre⟩ := ready_spec hs.sz hi
    obtain ⟨r, hr, hro⟩ := h.recOf ho
    refine stage_next hc hcs h hs hr hl (by rw [hro]; exact hpre) fun φ' a' w' hs' => ih _ a' w' φ' hs' ?_
    have := left_set (n := ops.size) hlt (by rw [hs.sz]; exact hlt) hl
    omega

omit [Val] in
theorem apartL_spec {a b : List Nat} (h : apartL a b = true) {x : Nat} (ha : x ∈ a) (hb : x ∈ b) : False := by
  unfold apartL at h
  have := List.all_eq_true.1 (List.all_eq_true.1 h x ha) x hb
  simp at this
omit [Val] in
theorem outL_spec {lo hi : Nat} {l : List Nat} (h : outL lo hi l = true) {x : Nat} (hx : x ∈ l) (h1 : lo ≤ x) (h2 : x < hi) : False := by
  unfold outL at h
  have := List.all_eq_true.1 h x hx
  rw [Nat.ble_eq_true_of_le h1] at this
  have h3 : Nat.blt x hi = true := Nat.ble_eq_true_of_le h2
  rw [h3] at this
  cases this

/-- A region that draws its order. -/
theorem drawA_ok {ro : Option Nat} (hc : CallOk P R C call) (hcs : CallSteps call) (hm : P.follows .mixedOrders = true) {e : AExit} {a : Act} {id : Nat}
    (h : drawA P C call nt ops env σ = .ok e env' σ') (hi : Inv R C D φ₀ σ w₀) (he : FrmR φ₀ nt env a) (hk : Known D σ σ') (hf : Free φ₀ σ σ') {Q : Exit → Act → World → Prop}
    (hQ : ∀ φ' e' a' w', ExitR φ' e e' → FrmR φ' nt env' a' → env'.md = env.md → env'.rd = env.rd → Post R D φ₀ σ w₀ σ' φ' w' → Q e' a' w') :
    (Code.region id ops true).wpIn (wideR ro) 0 P Q a w₀ := by
  unfold drawA at h
  simp only [cond_eq_ite] at h
  split at h
  · rename_i hdo
    split at h
    · rename_i fs env1 σ1 hrd
      split at h
      · rename_i hfo
        simp only [XR.ok.injEq] at h
        obtain ⟨rfl, rfl, rfl⟩ := h
        obtain ⟨recs, h1, h2, h3, _, h5⟩ := runDraw_recs hcs _ _ _ _ _ _ _ _ hrd
        have hdo' := List.all_eq_true.1 (by simpa only [drawOk] using hdo)
        have hz : ∀ (i : Nat) (o : Oper), ops[i]? = some o → (o, i) ∈ ops.toList.zipIdx := by
          intro i o ho
          rw [List.mem_zipIdx_iff_getElem?]
          simpa using ho
        have hreg : Region0 P R C call nt ops recs env env1 σ σ1 D φ₀ w₀ := {
          link := h2
          ok := h3
          omap := h1
          back := by
            intro i o ed ho hed hb
            have := hdo' (o, i) (hz i o ho)
            simp only [Bool.and_eq_true] at this
            have h4 := List.all_eq_true.1 this.1 ed (by simpa using hed)
            rw [hb] at h4
            exact blt_t (by simpa using h4)
          names := by
            intro i j o p d ho hp hpd hdn
            have := hdo' (o, i) (hz i o ho)
            simp only [Bool.and_eq_true] at this
            have h4 := List.all_eq_true.1 this.2 (p, j) (hz j p hp)
            simp only [hpd] at h4
            have hcn : (tmpsOf ops o).contains d = true := by simpa using hdn
            rw [hcn] at h4
            exact orderedB_spec (by simpa using h4)
          feet := by
            intro i j r s x hr hs ht hx
            have hrb : r.b = true := by
              cases hb : r.b with
              | true => rfl
              | false =>
                obtain ⟨_, e2, _, e4⟩ := (h3 r (List.mem_of_getElem? hr)).2.2.1 hb
                rcases ht with ht | ht
                · rw [e4] at ht; cases ht
                · rw [e2] at ht; omega
            have hsb : s.b = true := by
              cases hb : s.b with
              | true => rfl
              | false =>
                obtain ⟨_, _, e3, e4⟩ := (h3 s (List.mem_of_getElem? hs)).2.2.1 hb
                rw [e3, e4] at hx
                rcases hx with hx | hx <;> cases hx
            have f1 := h5 i r hr hrb
            have f2 := h5 j s hs hsb
            simp only [Nat.zero_add] at f1 f2
            have h6 := List.all_eq_true.1 (by simpa only [feetOk] using hfo) _ f1
            dsimp only at h6
            have hnot : ¬ ((r.wr.isEmpty && Nat.beq r.σ.next r.σ'.next) = true) := by
              rw [Bool.and_eq_true]
              rintro ⟨g1, g2⟩
              have g2 := beq_t g2
              rcases ht with ht | ht
              · rw [List.isEmpty_iff.1 g1] at ht; cases ht
              · omega
            rw [cond_eq_ite, if_neg hnot] at h6
            have h7 := List.all_eq_true.1 h6 _ f2
            dsimp only at h7
            rw [Bool.or_eq_true] at h7
            rcases h7 with h7 | h7
            · exact orderedB_spec h7
            · exfalso
              simp only [Bool.and_eq_true] at h7
              obtain ⟨⟨⟨g1, g2⟩, g3⟩, g4⟩ := h7
              rcases ht with ht | ⟨ht1, ht2⟩
              · rcases hx with hx | hx
                · exact apartL_spec g1 ht hx
                · exact apartL_spec g2 ht hx
              · rcases hx with hx | hx
                · exact outL_spec g3 hx ht1 ht2
                · exact outL_spec g4 hx ht1 ht2
          inv := hi
          known := hk }
        obtain ⟨kp1, kp2, kp3⟩ := linked_keep h2 h3
        refine wpIn_region_any hm ?_
        have hfalse : ∀ j, (Array.replicate ops.size false).getD j false = false := by
          intro j
          simp only [Array.getD_eq_getD_getElem?]
          by_cases hj : j < ops.size
          · simp [hj]
          · simp [hj]
        have hno : ∀ (p : Nat → Rec → Prop) k, k ≤ recs.length → (∀ j r, recs[j]? = some r → p j r → ((Array.replicate ops.size false).getD j false = true ↔ j < k)) →
            ∀ j r, 0 ≤ j → j < k → recs[j]? = some r → ¬ p j r := by
          intro p k _ hcond j r _ hjk hj hp
          have := (hcond j r hj hp).2 hjk
          rw [hfalse] at this; cases this
        have hleft : left ops.size (Array.replicate ops.size false) = ops.size := by
          unfold left
          rw [List.filter_eq_self.2 (fun j _ => by rw [hfalse]; rfl)]
          simp
        refine stage_any hc hcs hreg (fun φ' a' w' g1 g2 g3 => hQ φ' .normal a' w' trivial ⟨g1, by rw [kp1, g2]; exact he.dfs.mono g3.le⟩ kp2 kp3 g3) ops.size (Array.replicate ops.size false) a w₀.drew φ₀ {
          sz := by simp
          cl := fun j o hj => by rw [hfalse] at hj; cases hj
          wf := hi.drew.wf
          dfr := rfl
          tsz := he.ev.size
          tmp := ?_
          rep := ?_
          fresh := ?_
          le := φ₀.le_refl
          grow := fun _ _ _ _ => rfl
          blk := fun i v e he => .inl ⟨v, e, he, rfl⟩
          frm := ⟨Nat.le_refl _, fun _ _ _ => rfl, rfl, rfl, rfl⟩
          wrR := fun j r hj hl => by rw [hfalse] at hl; cases hl
          ro := hi.drew.ro } hleft
        · intro t k hk2 hcond v hv
          have := (pre_mono h2 h3 (Nat.zero_le k) hk2).2.2 t (hno (fun j r => r.o.dst = some t) k hk2 hcond)
          rw [this, h2.pre.2] at hv
          exact he.ev.val t v hv
        · intro x k hk2 hx hcond hD
          have hnt := hno (fun j r => r.touch x) k hk2 hcond
          have hx0 : x < σ.next := by
            rcases Nat.lt_or_ge x σ.next with h' | h'
            · exact h'
            · exfalso
              have : ∀ n, n ≤ k → (preS recs σ1 n).next ≤ x := by
                intro n
                induction n with
                | zero => intro _; rw [h2.pre.1]; exact h'
                | succ n ih =>
                  intro hn
                  have ih := ih (by omega)
                  rcases Nat.lt_or_ge x (preS recs σ1 (n + 1)).next with g | g
                  · exfalso
                    have hlt : n < recs.length := by omega
                    have hj : recs[n]? = some recs[n] := List.getElem?_eq_getElem hlt
                    rw [preS_at hj] at ih
                    rw [(h2.post hj).1] at g
                    exact hnt _ _ (Nat.zero_le _) (by omega) hj (.inr ⟨ih, g⟩)
                  · exact g
              have := this k (Nat.le_refl _)
              omega
          have := (pre_mono h2 h3 (Nat.zero_le k) hk2).2.1 x (by rw [h2.pre.1]; exact hx0) hnt
          rw [this, h2.pre.1]
          exact hi.drew.rep x (hD.resolve_right (by omega)) hx0
        · intro j r hj _ x hx1 hx2 v
          have hjlt : j < recs.length := by
            rcases Nat.lt_or_ge j recs.length with h' | h'
            · exact h'
            · simp [List.getElem?_eq_none h'] at hj
          have m1 := (pre_mono h2 h3 (Nat.zero_le j) (Nat.le_of_lt hjlt)).1.next
          have m2 := (pre_mono h2 h3 (show j + 1 ≤ recs.length by omega) (Nat.le_refl _)).1.next
          rw [h2.pre.1, preS_at hj] at m1
          rw [(h2.post hj).1, show preS recs σ1 recs.length = σ1 by simp [preS]] at m2
          exact hf x (by omega) (by omega) v
      · cases h
    · cases h
  · cases h
end
end Go.Tw
