/-
  A part of the proof that the abstract evaluator is sound for the model's machine. Conditions: those of each theorem, as it states them.
-/
import Derived.Test.YtbkokbjpbbpllaaGreatTwCon
import Derived.Carry
import Derived.ChangeArms
namespace Go.Tw
open Go.ChangeShapes Go.RowKit
theorem inv_ro {v : Val} {R : Nat} {C : Cfg} {D : Nat → Prop} {φ : PM} {σ : St} {w : World} (hi : @Inv v R C D φ σ w) (i : Nat) (h : i < R) : @Rep v R (φ.low R) w i (C.base i) := hi.ro i h
theorem inv_gl {v : Val} {R : Nat} {C : Cfg} {D : Nat → Prop} {φ : PM} {σ : St} {w : World} (hi : @Inv v R C D φ σ w) (g n : Nat) (h : C.gl g = some n) : ∃ e, φ g 0 = some e ∧ e.blk = g ∧ e.up = 0 ∧ e.dn = 0 ∧ n ≤ e.hi := hi.gl g n h
theorem inv_lt {v : Val} {R : Nat} {C : Cfg} {D : Nat → Prop} {φ : PM} {σ : St} {w : World} (hi : @Inv v R C D φ σ w) {i : Nat} {o : Ob} (h : σ.heap.get i = some o) : i < σ.next := by
  rcases Nat.lt_or_ge i σ.next with h' | h'
  · exact h'
  · rw [hi.dom i h'] at h; cases h
theorem nodup_drop : ∀ {l : List Nat}, nodupB l = true → ∀ n, nodupB (l.drop n) = true := by
  intro l
  induction l with
  | nil => intro h n; simp [nodupB]
  | cons a l ih =>
    intro h n
    cases n with
    | zero => exact h
    | succ n =>
      simp only [nodupB, Bool.and_eq_true] at h
      exact ih h.2 n
theorem inv_wf {v : Val} {R : Nat} {C : Cfg} {D : Nat → Prop} {φ : PM} {σ : St} {w : World} (hi : @Inv v R C D φ σ w) : WF R φ w := hi.wf
theorem inv_low {v : Val} {R : Nat} {C : Cfg} {D : Nat → Prop} {φ : PM} {σ : St} {w : World} (hi : @Inv v R C D φ σ w) : R ≤ σ.next := hi.low
theorem inv_rep {v : Val} {R : Nat} {C : Cfg} {D : Nat → Prop} {φ : PM} {σ : St} {w : World} (hi : @Inv v R C D φ σ w) {i : Nat} (h : D i) (hn : i < σ.next) : @Rep v R φ w i (σ.heap.get i) := hi.rep i h hn
section
variable {v : Val} {P : Program} {R : Nat} {φ : PM} {w : World} {σ : St} {D : Nat → Prop} {gl : Nat → Option Nat} {b : Base}
theorem nodup_get : ∀ {l : List Nat}, nodupB l = true → ∀ {i j x : Nat}, l[i]? = some x → l[j]? = some x → i = j := by
  intro l
  induction l with
  | nil => intro _ i j x h; simp at h
  | cons a l ih =>
    intro h i j x h1 h2
    simp only [nodupB, Bool.and_eq_true, Bool.not_eq_true', List.any_eq_false] at h
    cases i with
    | zero =>
      cases j with
      | zero => rfl
      | succ j =>
        simp only [List.getElem?_cons_zero, Option.some.injEq] at h1; subst h1
        exact absurd (Nat.beq_refl _) (h.1 _ (List.mem_of_getElem? (by simpa using h2)))
    | succ i =>
      cases j with
      | zero =>
        simp only [List.getElem?_cons_zero, Option.some.injEq] at h2; subst h2
        exact absurd (Nat.beq_refl _) (h.1 _ (List.mem_of_getElem? (by simpa using h1)))
      | succ j => exact congrArg (· + 1) (ih h.2 (by simpa using h1) (by simpa using h2))
theorem callPM_some (hb : BaseOk gl b R) {bx : List Nat} {lst : Option Ext} {i u : Nat} {e : Ext} (h : callPM φ R w bx lst i u = some e) :
    (i = gid ∧ ¬ Boxed φ bx lst u ∧ ∃ c t fr, w.heap[u]? = some (.cells c t fr) ∧ e = ⟨u, 0, 0, 0, 0, c.toList⟩) ∨ (i < R ∧ i ≠ gid ∧ φ i u = some e) ∨ (R ≤ i ∧ u = 0 ∧ ∃ id, bx[i - R]? = some id ∧ φ id 0 = some e) ∨ (i = R + bx.length ∧ u = 0 ∧ lst = some e) := by
  unfold callPM at h
  split at h
  · rename_i hg
    split at h
    · cases h
    · rename_i hn
      split at h
      · rename_i c t fr hw
        simp only [Option.some.injEq] at h
        exact .inl ⟨hg, hn, c, t, fr, hw, h.symm⟩
      · cases h
  · rename_i hg
    split at h
    · rename_i hlt; exact .inr (.inl ⟨hlt, hg, h⟩)
    · rename_i hlt
      split at h
      · rename_i hu
        split at h
        · rename_i hi; exact .inr (.inr (.inr ⟨hi, hu, h⟩))
        · split at h
          · rename_i id hid
            exact .inr (.inr (.inl ⟨by omega, hu, id, hid, h⟩))
          · cases h
      · cases h
def LstOk (R : Nat) (φ : PM) (bx : List Nat) (lst : Option Ext) : Prop := ∀ e, lst = some e → (∃ i u f, R ≤ i ∧ i ∉ bx ∧ φ i u = some f ∧ f.blk = e.blk) ∧ e.hi + e.up ≤ e.bsz + e.dn
theorem callPM_wf (hb : BaseOk gl b R) (hwf : WF R φ w) {bx : List Nat} {lst : Option Ext} (hnd : nodupB bx = true) (hR : ∀ i ∈ bx, R ≤ i) (hls : LstOk R φ bx lst) : WF R (callPM φ R w bx lst) w := by
  have hg := hb.gid_lt
  have hlen : ∀ {k id : Nat}, bx[k]? = some id → k < bx.length := fun {k id} h => by
    rcases Nat.lt_or_ge k bx.length with h' | h'
    · exact h'
    · rw [List.getElem?_eq_none h'] at h; cases h
  refine ⟨fun i u e j t f hi hj hbk => ?_, fun i u e h => ?_, fun i u e h => ?_⟩
  · rcases callPM_some hb hi with ⟨rfl, h2, c, ty, fr, h3, rfl⟩ | ⟨h1, h2, h3⟩ | ⟨h1, rfl, id, h2, h3⟩ | ⟨rfl, rfl, h3⟩
    · rcases callPM_some hb hj with ⟨rfl, _⟩ | ⟨g1, _⟩ | ⟨g1, rfl, id, g2, g3⟩ | ⟨rfl, rfl, g3⟩
      · exact .inl rfl
      · exact .inr ⟨hg, g1⟩
      · exact absurd (.inl ⟨id, List.mem_of_getElem? g2, 0, f, g3, hbk.symm⟩) h2
      · exact absurd (.inr ⟨f, g3, hbk.symm⟩) h2
    · rcases callPM_some hb hj with ⟨rfl, _⟩ | ⟨g1, _⟩ | ⟨g1, rfl, id, g2, g3⟩ | ⟨rfl, rfl, g3⟩
      · exact .inr ⟨h1, hg⟩
      · exact .inr ⟨h1, g1⟩
      · have := hR id (List.mem_of_getElem? g2)
        rcases hwf.inj _ _ _ _ _ _ h3 g3 hbk with h | h <;> omega
      · obtain ⟨⟨id, x, g, k1, k2, k3, k4⟩, _⟩ := hls f g3
        rcases hwf.inj _ _ _ _ _ _ h3 k3 (hbk.trans k4.symm) with h | h <;> omega
    · rcases callPM_some hb hj with ⟨rfl, g2, c, ty, fr, g3, rfl⟩ | ⟨g1, g2, g3⟩ | ⟨g1, rfl, id', g2, g3⟩ | ⟨rfl, rfl, g3⟩
      · exact absurd (.inl ⟨id, List.mem_of_getElem? h2, 0, e, h3, hbk⟩) g2
      · have := hR id (List.mem_of_getElem? h2)
        rcases hwf.inj _ _ _ _ _ _ h3 g3 hbk with h | h <;> omega
      · have := hR id (List.mem_of_getElem? h2)
        rcases hwf.inj _ _ _ _ _ _ h3 g3 hbk with h | h
        · subst h
          have := nodup_get hnd h2 g2
          exact .inl (by omega)
        · omega
      · obtain ⟨⟨id', x, g, k1, k2, k3, k4⟩, _⟩ := hls f g3
        have := hR id (List.mem_of_getElem? h2)
        rcases hwf.inj _ _ _ _ _ _ h3 k3 (hbk.trans k4.symm) with h | h
        · rw [← h] at k2; exact absurd (List.mem_of_getElem? h2) k2
        · omega
    · obtain ⟨⟨id', x, g, k1, k2, k3, k4⟩, _⟩ := hls e h3
      rcases callPM_some hb hj with ⟨rfl, g2, c, ty, fr, g3, rfl⟩ | ⟨g1, g2, g3⟩ | ⟨g1, rfl, id, g2, g3⟩ | ⟨rfl, rfl, g3⟩
      · exact absurd (.inr ⟨e, h3, hbk⟩) g2
      · rcases hwf.inj _ _ _ _ _ _ k3 g3 (k4.trans hbk) with h | h <;> omega
      · have := hR id (List.mem_of_getElem? g2)
        rcases hwf.inj _ _ _ _ _ _ k3 g3 (k4.trans hbk) with h | h
        · rw [h] at k2; exact absurd (List.mem_of_getElem? g2) k2
        · omega
      · exact .inl rfl
  · rcases callPM_some hb h with ⟨_, _, c, ty, fr, h3, rfl⟩ | ⟨_, _, h3⟩ | ⟨_, _, id, _, h3⟩ | ⟨_, _, h3⟩
    · exact heap_lt h3
    · exact hwf.lt _ _ _ h3
    · exact hwf.lt _ _ _ h3
    · obtain ⟨⟨id', x, g, k1, k2, k3, k4⟩, _⟩ := hls e h3
      rw [← k4]; exact hwf.lt _ _ _ k3
  · rcases callPM_some hb h with ⟨_, _, c, ty, fr, h3, rfl⟩ | ⟨_, _, h3⟩ | ⟨_, _, id, _, h3⟩ | ⟨_, _, h3⟩
    · exact Nat.le_refl _
    · exact hwf.top _ _ _ h3
    · exact hwf.top _ _ _ h3
    · exact (hls e h3).2
theorem LstOk.le {bx : List Nat} {lst : Option Ext} (h : LstOk R φ bx lst) : ∀ e, lst = some e → ∃ i u f, R ≤ i ∧ φ i u = some f ∧ f.blk = e.blk := fun e he => let ⟨⟨i, u, f, h1, _, h2⟩, _⟩ := h e he; ⟨i, u, f, h1, h2⟩
theorem call_base (hb : BaseOk gl b R) {p : Dcs} {hk : FuncId → List AV → St → CR} (hi : @Inv v R (cfgP gl b p hk) D φ σ w) {bx : List Nat} {lst : Option Ext} (hR : ∀ i ∈ bx, R ≤ i) (hls : LstOk R φ bx lst) (v2 : Val) (i : Nat) (hlt : i < R) : @Rep v2 R ((callPM φ R w bx lst).low R) w i (b.get i) := by
  by_cases hg : i = gid
  · subst hg
    obtain ⟨ver, cid, sh, x, y, t, hgb⟩ := hb.gid_at
    rw [hgb]
    intro n e he
    rw [PM.low_lt _ hlt] at he
    rcases callPM_some hb he with ⟨_, _, c, ty, fr, h3, rfl⟩ | ⟨_, h, _⟩ | ⟨h, _⟩ | ⟨h, _⟩
    · exact ⟨rfl, ty, fr, by simpa using h3⟩
    · exact absurd rfl h
    · omega
    · omega
  · have hr : @Rep v R (φ.low R) w i (b.get i) := inv_ro hi i hlt
    cases hbi : b.get i with
    | none => trivial
    | some o =>
      obtain ⟨c, rfl, hcl⟩ := hb.only i o hbi hg
      rw [hbi] at hr
      obtain ⟨e, cs, t, fr, he, hbk, h1, h2, h3⟩ := hr
      have hle := callPM_le hb hi (w := w) hR hls.le
      have hlel : (φ.low R).le ((callPM φ R w bx lst).low R) := fun j u f hf => by
        have := hle j u f hf
        unfold PM.low at hf ⊢
        split at hf
        · rename_i hj; rw [if_pos hj]; exact this
        · cases hf
      have h4 : @VRL v2 (reMap R [] (φ.low R)) c _ := mAL_ok hcl (fun q hq => by cases hq) h3
      refine ⟨e, cs, t, fr, hlel _ _ _ he, hbk, h1, h2, @VRL.mono v2 _ _ (fun j u f hf => hlel j u f ?_) _ _ h4⟩
      unfold reMap at hf
      split at hf
      · exact hf
      · split at hf
        · simp [fnd] at hf
        · cases hf
theorem binL_get (b : Base) : ∀ (l : List (List AV × TypeId)) (k i : Nat), (putObs b (binL l k)).get i = if k ≤ i ∧ i < k + l.length then (l[i - k]?).map (fun q => Ob.box q.1 q.2) else b.get i := by
  intro l
  induction l with
  | nil => intro k i; simp [binL, putObs]; omega
  | cons q l ih =>
    intro k i
    simp only [binL, putObs]
    rw [T.get_set, ih]
    by_cases h1 : i = k
    · subst h1; rw [if_pos rfl, if_pos (by simp), Nat.sub_self]; rfl
    · rw [if_neg h1]
      by_cases h2 : k + 1 ≤ i ∧ i < k + 1 + l.length
      · rw [if_pos h2, if_pos (by simp; omega), show i - k = (i - (k + 1)) + 1 by omega, List.getElem?_cons_succ]
      · rw [if_neg h2, if_neg (by simp; omega)]
theorem putObs_append (b : Base) : ∀ (l m : List (Nat × Ob)), putObs b (l ++ m) = putObs (putObs b m) l := by
  intro l
  induction l with
  | nil => intro m; rfl
  | cons p l ih => intro m; simp only [List.cons_append, putObs, ih]
theorem linL_get (b : Base) (L : Option Lin) (k i : Nat) : (putObs b (linL L k)).get i = (match L with
  | some L => if i = k then some (.opq 2 0 gid (.slc L.l) L.x L.y [] L.t) else b.get i
  | none => b.get i) := by
  cases L with
  | none => rfl
  | some L =>
    simp only [linL, putObs]
    rw [T.get_set]
theorem call_hold (hb : BaseOk gl b R) {p : Dcs} {hk : FuncId → List AV → St → CR} (hi : @Inv v R (cfgP gl b p hk) D φ σ w) (v2 : Val) {bx : List Nat} {lst : Option Ext} {c : Con} (hnd : nodupB bx = true) (hlen : bx.length = c.bin.length)
    (hR : ∀ i ∈ bx, R ≤ i) (hls : LstOk R φ bx lst) (hl0 : c.lin = none → lst = none) (hbox : ∀ (k i : Nat), bx[k]? = some i → ∃ q, c.bin[k]? = some q ∧ @Rep v2 R (callPM φ R w bx lst) w (R + k) (some (.box q.1 q.2)))
    (hlin : ∀ L, c.lin = some L → @Rep v2 R (callPM φ R w bx lst) w (R + c.bin.length) (some (.opq 2 0 gid (.slc L.l) L.x L.y [] L.t))) :
    Hold v2 gl b R 0 .leaf (c.start b R) { tmps := #[], defers := [] } w (callPM φ R w bx lst) where
  size := rfl
  val := fun t x h => by simp [T.get_leaf] at h
  dfs := rfl
  inv := { wf := callPM_wf hb (inv_wf hi) hnd hR hls, low := by show R ≤ R + c.bin.length + c.nl; omega, rep := fun i _ hn => by
             show @Rep v2 R _ w i ((putObs b (binL c.bin R ++ linL c.lin (R + c.bin.length))).get i)
             rw [putObs_append, binL_get]
             have hn : i < R + c.bin.length + c.nl := hn
             have hbase : i < R → @Rep v2 R (callPM φ R w bx lst) w i (b.get i) := fun hlt => @Rep.frame v2 R _ _ w w i _ (PM.low_le _ _) (fun u => (PM.low_lt _ hlt u).symm) (fun _ _ _ => rfl) (call_base hb hi hR hls v2 i hlt)
             by_cases hlt : R ≤ i ∧ i < R + c.bin.length
             · rw [if_pos hlt]
               have hk : i - R < bx.length := by omega
               obtain ⟨q, h1, h2⟩ := hbox (i - R) _ (List.getElem?_eq_getElem hk)
               rw [h1]
               rw [show R + (i - R) = i by omega] at h2
               exact h2
             · rw [if_neg hlt, linL_get]
               cases hL : c.lin with
               | none =>
                 have : c.nl = 0 := by simp [Con.nl, hL]
                 exact hbase (by omega)
               | some L =>
                 have : c.nl = 1 := by simp [Con.nl, hL]
                 dsimp only
                 split
                 · rename_i he; subst he; exact hlin L hL
                 · exact hbase (by omega)
           gl := fun g n hg => by
             obtain ⟨e, h1, h2⟩ := inv_gl hi g n hg
             exact ⟨e, callPM_le hb hi hR hls.le _ _ _ (by rw [PM.low_lt _ (hb.gl g n hg)]; exact h1), h2⟩
           dom := fun i hn => by
             show (putObs b (binL c.bin R ++ linL c.lin (R + c.bin.length))).get i = none
             have hn : R + c.bin.length + c.nl ≤ i := hn
             rw [putObs_append, binL_get, if_neg (by omega), linL_get]
             cases hL : c.lin with
             | none => exact hb.none i (by omega)
             | some L =>
               have : c.nl = 1 := by simp [Con.nl, hL]
               dsimp only
               rw [if_neg (by omega)]
               exact hb.none i (by omega)
           pin := fun _ _ h => by simp [cfg0] at h
           dec := fun _ _ h => by simp [cfg0] at h
           wrR := fun _ h => (by cases h)
           ro := fun i hlt => call_base hb hi hR hls v2 i hlt
           oh := @kOp_ok v2 }
  free := fun i hn u => by
    have hn : R + c.bin.length + c.nl ≤ i := hn
    cases h : callPM φ R w bx lst i u with
    | none => rfl
    | some e =>
      have := hb.gid_lt
      rcases callPM_some hb h with ⟨rfl, _⟩ | ⟨h1, _⟩ | ⟨_, _, id, h2, _⟩ | ⟨h1, _, h2⟩
      · omega
      · omega
      · rw [List.getElem?_eq_none (by omega)] at h2; cases h2
      · cases hL : c.lin with
        | none => rw [hl0 hL] at h2; cases h2
        | some L =>
          have : c.nl = 1 := by simp [Con.nl, hL]
          omega
  roA := fun v3 i hlt => call_base hb hi hR hls v3 i hlt
  rd := rfl
  wr := rfl
end
theorem preOk_holds {v : Val} {p : Dcs} (hp : @Holds v p) {θ : Nat → Sx} : ∀ {q : Dcs}, preOk (decP p) θ q = true → @Holds (v.at θ) q := by
  intro q
  induction q with
  | nil => intro _; exact @Holds.nil (v.at θ)
  | cons c q ih =>
    intro h
    obtain ⟨bx, x⟩ := c
    simp only [preOk, List.all_cons, Bool.and_eq_true] at h
    obtain ⟨h1, h2⟩ := h
    split at h1
    · rename_i y hy
      have := boolB_eq h1; subst this
      refine @Holds.cons (v.at θ) _ _ _ ?_ (ih h2)
      rw [← Bx.sub_eval]
      exact @decP_ok v _ hp _ _ hy
    · cases h1
theorem flat_at {v v' : Val} {φ ψ : PM} {cid k : Nat} {l : List Sh} {rows : List (List Dat)} {av : AV} {z : Value} (hfl : flatL l = true) (hr : RowsOk l rows) (h : (litRows cid l rows)[k]? = some av) (hz : @VR v φ av z) : @VR v' ψ av z := by
  have hlen := litRows_length cid l rows (rows_len hr)
  have x2 : k < rows.length * l.length := by
    rcases Nat.lt_or_ge k (litRows cid l rows).length with h' | h'
    · omega
    · rw [List.getElem?_eq_none h'] at h; cases h
  have hl0 : 0 < l.length := by
    rcases Nat.eq_zero_or_pos l.length with h | h
    · rw [h] at x2; omega
    · exact h
  have hi' : k / l.length < rows.length := (Nat.div_lt_iff_lt_mul hl0).2 x2
  have hjj : k % l.length < l.length := Nat.mod_lt _ hl0
  have hkk : k = k / l.length * l.length + k % l.length := by rw [Nat.mul_comm]; exact (Nat.div_add_mod k l.length).symm
  have hrow : rows[k / l.length]? = some rows[k / l.length] := List.getElem?_eq_getElem hi'
  have hsj : l[k % l.length]? = some l[k % l.length] := List.getElem?_eq_getElem hjj
  obtain ⟨dd, hdd⟩ : ∃ d, (rows[k / l.length])[k % l.length]? = some d := ⟨_, List.getElem?_eq_getElem (by rw [(hr _ (List.getElem_mem hi')).1]; exact hjj)⟩
  have k1 := litRows_get cid l rows (rows_len hr) (k / l.length) (k % l.length) _ hrow hjj
  rw [← hkk, litRow_get cid l _ _ _ _ hsj hdd, h] at k1
  simp only [Option.some.injEq] at k1; subst k1
  exact lit_flat (List.all_eq_true.1 hfl _ (List.getElem_mem hjj)) hz
theorem con_list {v : Val} {θ : Nat → Sx} {R : Nat} {φ ψ : PM} {w : World} {i j nv cid : Nat} {l : List Sh} {x y : Sx} {t : TypeId} (hfl : flatL l = true) (hj : R ≤ j) (hm : ψ j nv = φ i 0) (hno : ∀ u, nv < u → ψ j u = none)
    (h : @Rep (v.at θ) R φ w i (some (.opq 2 0 cid (.slc l) x y [] t))) : @Rep v R ψ w j (some (.opq 2 nv cid (.slc l) (x.sub θ) (y.sub θ) [] t)) := by
  obtain ⟨l2, rows, hl, hx, hr, hor⟩ := h
  simp only [Sh.slc.injEq] at hl; subst hl
  refine ⟨l, rows, rfl, (Sx.sub_dat v θ x).trans hx, hr, ?_⟩
  rcases hor with ⟨h1, h2, h3, h4, h5⟩ | ⟨h1, ⟨ex, g1, g2⟩, har⟩
  · refine .inl ⟨(Sx.sub_dat v θ y).trans h1, h2, rfl, hj, fun u hu => ?_⟩
    by_cases h : u = nv
    · subst h; rw [hm]; exact h5 0 (Nat.le_refl _)
    · exact hno u (by omega)
  · refine .inr ⟨(Sx.sub_dat v θ y).trans h1, ⟨ex, hm.trans g1, g2⟩, ?_⟩
    rw [List.append_nil] at har ⊢
    obtain ⟨ex2, cs, fl, fh, q1, q2, q3, q4, q5, q6⟩ := @own_block (v.at θ) R φ w _ _ _ _ _ _ har
    rw [g1] at q1; simp only [Option.some.injEq] at q1; subst q1
    refine @ArrRep.single v R _ w j nv _ _ ex cs fl fh hj (hm.trans g1) hno q2 q3 q4 q5 fun k av x1 x2 x3 => ?_
    obtain ⟨z, z1, z2⟩ := q6 k av x1 x2 x3
    exact ⟨z, z1, flat_at hfl hr x3 z2⟩
theorem con_ob {v : Val} {θ : Nat → Sx} {R : Nat} {φ ψ : PM} {w : World} {i j : Nat} {o : Ob} (ho : o.okRes = true) (hj : R ≤ j) (hm : ψ j 0 = φ i 0) (hno : ∀ u, 0 < u → ψ j u = none) (h : @Rep (v.at θ) R φ w i (some o)) : @Rep v R ψ w j (some (o.inst θ)) := by
  unfold Ob.okRes at ho
  split at ho
  · rename_i k ver cid l x y t
    simp only [Bool.and_eq_true] at ho
    have := beq_t ho.1; subst this
    have := beq_t ho.2.2.2; subst this
    exact con_list ho.2.2.1 hj hm hno h
  · cases ho
theorem lin_ok {v v' : Val} {R : Nat} {C : Cfg} {D : Nat → Prop} {φ : PM} {σ : St} {w : World} (hi : @Inv v R C D φ σ w) {L : Lin} {a : AV} {q : LR} (hq : linRes σ L a = some q) (hd : D q.id) (hz0 : ∃ z, @VR v φ a z) (hx : @Sx.dat v q.e = @Sx.dat v' L.x) (hy : @Sx.dat v q.y = @Sx.dat v' L.y) :
    ∃ lst : Option Ext, (∀ e, lst = some e → (∃ u f, φ q.id u = some f ∧ f.blk = e.blk) ∧ e.hi + e.up ≤ e.bsz + e.dn) ∧ (∀ u, q.nv ≤ u → φ q.id u = none) ∧
      ∀ (ψ : PM) (j : Nat), R ≤ j → ψ j 0 = lst → (∀ u, 0 < u → ψ j u = none) → (∀ x' z, @VR v φ a z → @VR v' ψ (.opq 2 j 0 (.slc L.l) x' L.y) z) ∧ @Rep v' R ψ w j (some (.opq 2 0 gid (.slc L.l) L.x L.y [] L.t)) := by
  obtain ⟨hfl, h⟩ := linRes_obj hq
  rcases h with ⟨cap, c, base, lim, since, esz, len, rfl, ho, rfl, ⟨hl0, hn0⟩, hlen, hfull, hcv, hy1, _⟩ | ⟨o, hoo, hol, hot, rfl⟩
  · have hrep := inv_rep hi hd (inv_lt hi ho)
    rw [ho] at hrep
    obtain ⟨hR', h1, h2, h3, h4, h5, h6, h7⟩ := hrep
    have hal : aliveV base since q.nv q.ver := by
      rcases hfull with ⟨h, _⟩ | ⟨ha, hb, _⟩
      · exact .inl h
      · exact .inr ⟨hb, by omega⟩
    obtain ⟨e, cs, fl, fh, he, hb, k1, k2, k3, k4, k5⟩ := h5 q.ver hal
    have hlim : limV base lim q.ver e = c.length := by
      rcases hfull with ⟨ha, hb⟩ | ⟨ha, hb, hc⟩
      · simp [limV, ha, hb]
      · simp only [limV, if_neg hc]; exact h7 _ _ ha hb hc he
    rw [hlim] at k2 k5
    refine ⟨some { e with hi := c.length }, fun e' he' => ?_, h4, fun ψ j hj hψ hno => ⟨fun x' z hz => ?_, ?_⟩⟩
    · simp only [Option.some.injEq] at he'; subst he'
      have := (inv_wf hi).top _ _ _ he
      exact ⟨⟨q.ver, e, he, rfl⟩, by show c.length + e.up ≤ e.bsz + e.dn; omega⟩
    · cases hz with
      | slc ex o cc g1 g2 g3 g4 g5 g6 =>
        rw [he] at g1; simp only [Option.some.injEq] at g1; subst g1
        have hdn : e.dn = 0 := by omega
        obtain ⟨g7, g8⟩ := g6.resolve_left (by omega)
        have ho : o = e.up := by omega
        subst ho
        refine @VR.opq v' _ _ _ _ _ _ _ _ (.inr ⟨?_, L.l, _, cc, len, rfl, hψ, hdn, hlen, g4, g8, rfl⟩)
        rw [← hy, hy1]; rfl
    · have hdn : e.dn = 0 ∨ e.dn ≠ 0 := by omega
      have htop := (inv_wf hi).top _ _ _ he
      by_cases hdn : e.dn = 0
      · have hvrl : @VRL v φ c ((cs.toList.drop e.up).take c.length) := by
          refine @VRL.of_get v φ c _ (by simp; omega) fun k av z a1 a2 => ?_
          have hk : k < c.length := by
            rcases Nat.lt_or_ge k c.length with h | h
            · exact h
            · rw [List.getElem?_eq_none h] at a1; cases a1
          obtain ⟨z', y1, y2⟩ := k5 k av (by omega) hk a1
          rw [List.getElem?_take_of_lt hk, List.getElem?_drop, Array.getElem?_toList, show e.up + k = k + e.up - e.dn by omega, y1] at a2
          simp only [Option.some.injEq] at a2; subst a2
          exact y2
        obtain ⟨rows, r1, r2, r3, r4⟩ := @cvtRows_ok v φ _ _ _ _ _ _ hcv hvrl
        have hll := litRows_length gid L.l rows (rows_len r3)
        refine ⟨L.l, rows, rfl, by rw [← hx]; exact r1, r3, .inr ⟨by rw [← hy, hy1]; rfl, ⟨_, hψ, ?_⟩, ?_⟩⟩
        · rw [List.append_nil, hll, r2]; exact hlen.symm
        · rw [List.append_nil]
          refine @ArrRep.single v' R _ w j 0 _ _ { e with hi := c.length } cs fl fh hj hψ (fun u hu => hno u hu) hb k1 (by rw [hll, r2, hlen]; exact Nat.le_refl _) k4 fun k av x1 x2 x3 => ?_
          obtain ⟨z, y1, y2⟩ := @VRL.get v φ _ _ r4 _ _ x3
          refine ⟨z, ?_, flat_at hfl r3 x3 y2⟩
          have hk : k < c.length := by rw [hll, r2, hlen] at x2; exact x2
          rw [List.getElem?_take_of_lt hk, List.getElem?_drop, Array.getElem?_toList] at y1
          show cs[k + e.up - e.dn]? = some z
          rw [show k + e.up - e.dn = e.up + k by omega]; exact y1
      · exfalso
        obtain ⟨z, hz⟩ := hz0
        cases hz with
        | slc ex o cc g1 g2 g3 g4 g5 g6 =>
          rw [he] at g1; simp only [Option.some.injEq] at g1; subst g1
          exact hdn (by omega)
  · have hi0 := @Inv.inv0 v _ _ _ _ _ _ hi
    obtain ⟨z0, hz0⟩ := hz0
    have hd : D o.id := hd
    have hx : @Sx.dat v o.x = @Sx.dat v' L.x := hx
    have hy : @Sx.dat v o.y = @Sx.dat v' L.y := hy
    obtain ⟨rows, r1, r2, r3⟩ := @own_val v R D φ σ w hi0 _ _ _ hoo hz0 hd
    rcases r3 with ⟨bb, _, y0, rfl, _, hno0⟩ | ⟨ex, cc, _, y1, hφ, hdn, hhi, hc, hbs, har⟩
    · refine ⟨none, fun e he => (by cases he), fun u hu => hno0 u (by have : o.ver + 1 ≤ u := hu; omega), fun ψ j hj hψ hno => ⟨fun x' z hz => ?_, ?_⟩⟩
      · obtain ⟨rows2, _, _, k3⟩ := @own_val v R D φ σ w hi0 _ _ _ hoo hz hd
        rcases k3 with ⟨b2, rfl, _⟩ | ⟨_, _, _, y1, _⟩
        · exact @VR.opq v' _ _ _ _ _ _ _ _ (.inl ⟨hy.symm.trans y0, b2, rfl⟩)
        · rw [y0] at y1; cases y1
      · refine ⟨L.l, [], rfl, hx.symm.trans r1, fun r hr => (by cases hr), .inl ⟨hy.symm.trans y0, rfl, rfl, hj, fun u _ => ?_⟩⟩
        by_cases hu : u = 0
        · subst hu; exact hψ
        · exact hno u (by omega)
    · have hnv : ∀ u, o.ver + 1 ≤ u → φ o.id u = none := har.2.2.2.2.1
      obtain ⟨ex2, cs, fl, fh, q1, q2, q3, q4, q5, q6⟩ := @own_block v R φ w _ _ _ _ _ _ har
      rw [hφ] at q1; simp only [Option.some.injEq] at q1; subst q1
      have hll := litRows_length o.cid o.l rows (rows_len r2)
      have htop := (inv_wf hi).top _ _ _ hφ
      refine ⟨some ex, fun e he => ?_, hnv, fun ψ j hj hψ hno => ⟨fun x' z hz => ?_, ?_⟩⟩
      · simp only [Option.some.injEq] at he; subst he
        exact ⟨⟨o.ver, ex, hφ, rfl⟩, htop⟩
      · obtain ⟨rows2, k1, _, k3⟩ := @own_val v R D φ σ w hi0 _ _ _ hoo hz hd
        rw [r1] at k1; simp only [Dat.lst.injEq] at k1; subst k1
        rcases k3 with ⟨_, _, y0, _⟩ | ⟨e3, c3, rfl, _, p1, p2, p3, p4, p5, _⟩
        · rw [y1] at y0; cases y0
        · rw [hφ] at p1; simp only [Option.some.injEq] at p1; subst p1
          refine @VR.opq v' _ _ _ _ _ _ _ _ (.inr ⟨hy.symm.trans y1, L.l, ex, c3, rows.length, rfl, hψ, hdn, ?_, p4, ?_, rfl⟩)
          · rw [← hol]; exact hhi.symm
          · rw [← hol]; exact p5
      · have hfl' : flatL o.l = true := by rw [hol]; exact hfl
        rw [← hol, ← hot]
        have hl2 := litRows_length gid o.l rows (rows_len r2)
        refine ⟨o.l, rows, rfl, hx.symm.trans r1, r2, .inr ⟨hy.symm.trans y1, ⟨ex, hψ, ?_⟩, ?_⟩⟩
        · rw [List.append_nil, hl2]; exact hhi
        · rw [List.append_nil]
          refine @ArrRep.single v' R _ w j 0 _ _ ex cs fl fh hj hψ (fun u hu => hno u hu) q2 q3 (by rw [hl2, hhi]; exact Nat.le_refl _) q5 fun k av x1 x2 x3 => ?_
          rw [hl2] at x2
          have hk : k < (litRows o.cid o.l rows).length := by rw [hll]; exact x2
          obtain ⟨z, z1, z2⟩ := q6 k _ x1 hk (List.getElem?_eq_getElem hk)
          have hg := @flat_any v v φ φ o.cid gid k o.l rows z hfl' r2 hk z2
          obtain ⟨av2, hav2, hz2⟩ := hg
          rw [x3] at hav2; simp only [Option.some.injEq] at hav2; subst hav2
          exact ⟨z, z1, flat_at hfl' r2 x3 hz2⟩
theorem linAt_base {v : Val} {φ : PM} {x a : AV} {z : Value} {bb : Bool} (h : (bif bb then some x else none) = some a) (hv : @VR v φ x z) : ∃ z', @VR v φ a z' := by
  rw [cond_eq_ite] at h
  split at h
  · simp only [Option.some.injEq] at h; subst h; exact ⟨z, hv⟩
  · cases h
mutual
theorem linAt_val {v : Val} {φ : PM} {lid : Nat} : ∀ {x p a : AV} {z : Value}, linAt lid x p = some a → @VR v φ x z → ∃ z', @VR v φ a z'
  | .agg l, p, a, z, h, hv => by
    cases p <;> simp only [linAt, reduceCtorEq] at h
    cases hv with
    | agg l' g => exact linAtL_val h g
  | .tup l, p, a, z, h, hv => by
    cases p <;> simp only [linAt, reduceCtorEq] at h
    cases hv with
    | tup l' g => exact linAtL_val h g
  | .sym .., p, a, z, h, hv => by
    cases p <;> simp only [linAt, reduceCtorEq] at h
    exact linAt_base h hv
  | .symb .., p, a, z, h, hv => by
    cases p <;> simp only [linAt, reduceCtorEq] at h
    exact linAt_base h hv
  | .vstr .., p, a, z, h, hv => by
    cases p <;> simp only [linAt, reduceCtorEq] at h
    exact linAt_base h hv
  | .opq .., p, a, z, h, hv => by
    cases p <;> simp only [linAt, reduceCtorEq] at h
    exact linAt_base h hv
  | .bool .., p, a, z, h, hv => by
    cases p <;> simp only [linAt, reduceCtorEq] at h
    exact linAt_base h hv
  | .int .., p, a, z, h, hv => by
    cases p <;> simp only [linAt, reduceCtorEq] at h
    exact linAt_base h hv
  | .str .., p, a, z, h, hv => by
    cases p <;> simp only [linAt, reduceCtorEq] at h
    exact linAt_base h hv
  | .nilp, p, a, z, h, hv => by
    cases p <;> simp only [linAt, reduceCtorEq] at h
    exact linAt_base h hv
  | .nils, p, a, z, h, hv => by
    cases p <;> simp only [linAt, reduceCtorEq] at h
    exact linAt_base h hv
  | .nilm, p, a, z, h, hv => by
    cases p <;> simp only [linAt, reduceCtorEq] at h
    exact linAt_base h hv
  | .nilfn, p, a, z, h, hv => by
    cases p <;> simp only [linAt, reduceCtorEq] at h
    exact linAt_base h hv
  | .nili, p, a, z, h, hv => by
    cases p <;> simp only [linAt, reduceCtorEq] at h
    exact linAt_base h hv
  | .ptr .., p, a, z, h, hv => by
    cases p <;> simp only [linAt, reduceCtorEq] at h
    exact linAt_base h hv
  | .slc .., p, a, z, h, hv => by
    cases p <;> simp only [linAt, reduceCtorEq] at h
    exact linAt_base h hv
  | .map .., p, a, z, h, hv => by
    cases p <;> simp only [linAt, reduceCtorEq] at h
    exact linAt_base h hv
  | .yld .., p, a, z, h, hv => by
    cases p <;> simp only [linAt, reduceCtorEq] at h
    exact linAt_base h hv
  | .fn .., p, a, z, h, hv => by
    cases p <;> simp only [linAt, reduceCtorEq] at h
    exact linAt_base h hv
  | .iface .., p, a, z, h, hv => by
    cases p <;> simp only [linAt, reduceCtorEq] at h
    exact linAt_base h hv
  | .sslc .., p, a, z, h, hv => by
    cases p <;> simp only [linAt, reduceCtorEq] at h
    exact linAt_base h hv
  | .sstr .., p, a, z, h, hv => by
    cases p <;> simp only [linAt, reduceCtorEq] at h
    exact linAt_base h hv
  | .anyp, p, a, z, h, hv => by
    cases p <;> simp only [linAt, reduceCtorEq] at h
    exact linAt_base h hv
  | .unk, p, a, z, h, hv => by
    cases p <;> simp only [linAt, reduceCtorEq] at h
    exact linAt_base h hv
theorem linAtL_val {v : Val} {φ : PM} {lid : Nat} : ∀ {x p : List AV} {a : AV} {z : List Value}, linAtL lid x p = some a → @VRL v φ x z → ∃ z', @VR v φ a z'
  | [], p, a, z, h, hv => by cases p <;> simp [linAtL] at h
  | y :: l, p, a, z, h, hv => by
    cases p <;> simp only [linAtL, reduceCtorEq] at h
    cases hv with
    | cons g1 g2 =>
      split at h
      · rename_i a' ha
        simp only [Option.some.injEq] at h; subst h
        exact linAt_val ha g1
      · exact linAtL_val h g2
end
theorem lin_all {v v' : Val} {R : Nat} {C : Cfg} {D : Nat → Prop} {φ : PM} {σ : St} {w : World} (hi : @Inv v R C D φ σ w) {c : Con} {args : List AV} {zs : List Value} {q : Option LR} {lk : Option LA} {e0 : Eqs} (h : linTry R c args σ = some (q, lk, e0)) (he : EqsOk v v' e0) (ha : @VRL v φ args zs) (hd : ∀ i ∈ LR.ids q, i < σ.next → D i) :
    ∃ lst : Option Ext, (∀ e, lst = some e → (∃ i ∈ LR.ids q, ∃ u f, φ i u = some f ∧ f.blk = e.blk) ∧ e.hi + e.up ≤ e.bsz + e.dn) ∧ (∀ q', q = some q' → q'.id < σ.next ∧ D q'.id ∧ (∀ u, q'.nv ≤ u → φ q'.id u = none) ∧ (∀ c t, σ.heap.get q'.id ≠ some (.box c t)) ∧ ∃ L, c.lin = some L ∧ flatL L.l = true) ∧ (c.lin = none → lst = none ∧ q = none) ∧
      (∀ (ψ : PM) , ψ (R + c.bin.length) 0 = lst → (∀ u, 0 < u → ψ (R + c.bin.length) u = none) →
        (∀ qa, lk = some qa → ∀ x' z, @VR v φ qa.act z → @VR v' ψ (.opq 2 qa.lid 0 (.slc qa.l) x' qa.y) z) ∧ (∀ L, c.lin = some L → @Rep v' R ψ w (R + c.bin.length) (some (.opq 2 0 gid (.slc L.l) L.x L.y [] L.t)))) := by
  rcases linTry_ok h with ⟨h1, rfl, rfl, rfl⟩ | ⟨L, a, q', h1, rfl, rfl, rfl, hq, hat⟩
  · exact ⟨none, fun e he => (by cases he), fun q' hq' => (by cases hq'), fun _ => ⟨rfl, rfl⟩, fun ψ _ _ => ⟨fun qa hqa => (by cases hqa), fun L hL => (by rw [h1] at hL; cases hL)⟩⟩
  · obtain ⟨o, ho, hnb⟩ := linRes_get hq
    have hlt := inv_lt hi ho
    have hdd := hd q'.id (by simp [LR.ids]) hlt
    obtain ⟨lst, k1, k2, k3⟩ := lin_ok hi hq hdd (linAtL_val hat ha) (he (q'.e, L.x) (by simp)) (he (q'.y, L.y) (by simp))
    refine ⟨lst, fun e he => ?_, fun q2 hq2 => ?_, fun hn => (by rw [h1] at hn; cases hn), fun ψ hψ hno => ?_⟩
    · obtain ⟨⟨u, f, g1, g2⟩, g3⟩ := k1 e he
      exact ⟨⟨q'.id, by simp [LR.ids], u, f, g1, g2⟩, g3⟩
    · simp only [Option.some.injEq] at hq2; subst hq2
      refine ⟨hlt, hdd, k2, fun c t hc => ?_, L, h1, (linRes_obj hq).1⟩
      rw [ho] at hc; simp only [Option.some.injEq] at hc
      exact hnb c t hc
    · obtain ⟨g1, g2⟩ := k3 ψ (R + c.bin.length) (Nat.le_add_right _ _) hψ hno
      refine ⟨fun qa hqa => ?_, fun L' hL' => ?_⟩
      · simp only [Option.some.injEq] at hqa; subst hqa
        exact g1
      · rw [h1] at hL'; simp only [Option.some.injEq] at hL'; subst hL'
        exact g2
theorem ob_no {v : Val} {R : Nat} {φ : PM} {w : World} {i : Nat} {o : Ob} (ho : o.okRes = true) (h : @Rep v R φ w i (some o)) : ∀ u, 0 < u → φ i u = none := by
  intro u hu
  unfold Ob.okRes at ho
  split at ho
  · rename_i k ver cid l x y t
    simp only [Bool.and_eq_true] at ho
    have := beq_t ho.1; subst this
    have := beq_t ho.2.1; subst this
    have := beq_t ho.2.2.2; subst this
    obtain ⟨l2, rows, hl, hx, hr, hor⟩ := h
    rcases hor with ⟨_, _, _, _, h5⟩ | ⟨_, _, har⟩
    · exact h5 u (Nat.zero_le _)
    · exact har.2.2.2.2.1 u hu
  · cases ho
theorem putLin_at {θ : Nat → Sx} {q : LR} {L : Lin} {h : T Ob} : (putLin θ (some q) (some L) h).get q.id = some (.opq 2 q.nv gid (.slc L.l) (L.ox.sub θ) (L.oy.sub θ) [] L.t) := T.get_set_same _ _ _
def LR.at (q : Option LR) (i u : Nat) : Prop := ∃ q', q = some q' ∧ i = q'.id ∧ u = q'.nv
theorem LR.at_ids {q : Option LR} {i u : Nat} (h : LR.at q i u) : i ∈ LR.ids q := by
  obtain ⟨q', rfl, rfl, _⟩ := h
  simp [LR.ids]
open Classical in
theorem conHk_ok {v : Val} {F : Nat → Dat → Dat → Dat → Dat} {P : Program} {gl : Nat → Option Nat} {b : Base} {R : Nat} {p : Dcs} {cons : List Con} (hb : BaseOk gl b R) (hp : @Holds v p) (hF : v.fn = F) (hcs : ∀ c ∈ cons, c.Sound F P gl b R) :
    @HkOk v P R (cfgP gl b p (conHk R (decP p) cons)) := by
  intro f args σ D φ w args' hi ha
  refine ⟨fun x σ' hret hkn hfr => ?_, fun ch σ' hret => ?_⟩
  · have hret : conHk R (decP p) cons f args σ = .ret x σ' := hret
    rcases conHk_ret (R := R) (dec := decP p) (l := cons) (f := f) (args := args) (σ := σ) with h | ⟨c, hc, rfl, h1, h2⟩
    · rw [h] at hret; cases hret
    · obtain ⟨ids, q, lk, e0, e, rd, e2, rd2, l, g0, hnd, hnx, k1, k1', k2, k3, k4, k5, hlq, k6⟩ := try_ret h1
      rw [h2, k6] at hret
      obtain ⟨hbl, hbk⟩ := boxArgs_box k1'
      have hboxed : ∀ i ∈ ids, R ≤ i ∧ ∃ c t, σ.heap.get i = some (.box c t) := fun i hi' => by
        obtain ⟨k, hk, rfl⟩ := List.getElem_of_mem hi'
        obtain ⟨g1, c2, b2, _, _, _, g3, _⟩ := hbk k _ (List.getElem?_eq_getElem hk)
        exact ⟨g1, c2, _, g3⟩
      simp only [Con.ret, CR.ret.injEq] at hret
      obtain ⟨rfl, rfl⟩ := hret
      generalize hθ : nameAt l = θ at *
      have heq : EqsOk v (v.at θ) (e0 ++ (e ++ e2)) := namesOf_ok k2 k3
      have hrdk : ∀ i ∈ ids.take c.nr ++ (rd ++ rd2), i < σ.next → D i := fun i hi' hn => hkn i (.inl (lgAll_rd _ σ i hi')) hn
      have hwrk : ∀ i ∈ ids.drop c.nr ++ LR.ids q, i < σ.next → D i := fun i hi' hn => hkn i (.inr ((wrAll_mem _ _ _).2 (.inl hi'))) hn
      obtain ⟨lst, hl1, hl2, hl3, hl4⟩ := lin_all (v' := v.at θ) hi g0 heq.app.1 ha fun i hi' hn => hwrk i (List.mem_append_right _ hi') hn
      have hgR := hb.gid_lt
      have hnb : ids.length = c.bin.length := hbl
      have hcl0 : callPM φ R w ids lst (R + c.bin.length) 0 = lst := by
        have hg : R + c.bin.length ≠ gid := by omega
        have hn : ¬ R + c.bin.length < R := by omega
        simp [callPM, hg, hn, hnb]
      have hclu : ∀ u, 0 < u → callPM φ R w ids lst (R + c.bin.length) u = none := fun u hu => by
        have hg : R + c.bin.length ≠ gid := by omega
        have hn : ¬ R + c.bin.length < R := by omega
        have hu : ¬ u = 0 := by omega
        simp [callPM, hg, hn, hu]
      obtain ⟨hlk, hlin⟩ := hl4 (callPM φ R w ids lst) hcl0 hclu
      have hlsR : ∀ e, lst = some e → ∃ i u f, R ≤ i ∧ i ∈ LR.ids q ∧ φ i u = some f ∧ f.blk = e.blk := fun e he => by
        obtain ⟨⟨i, h1, u, f, h2, h3⟩, _⟩ := hl1 e he
        exact ⟨i, u, f, (hlq i h1).1, h1, h2, h3⟩
      have hnbx : ∀ i ∈ LR.ids q, i ∉ ids := fun i hi' hm => by
        obtain ⟨_, c2, t2, h⟩ := hboxed i hm
        cases q with
        | none => cases hi'
        | some q' =>
          simp only [LR.ids, List.mem_singleton] at hi'; subst hi'
          exact (hl2 q' rfl).2.2.2.1 c2 t2 h
      have hLst : LstOk R φ ids lst := fun e he => by
        obtain ⟨⟨i, h1, u, f, h2, h3⟩, h4⟩ := hl1 e he
        exact ⟨⟨i, u, f, (hlq i h1).1, hnbx i h1, h2, h3⟩, h4⟩
      have hrd' : ∀ i ∈ rd ++ rd2, i ∉ LR.ids q ∧ (i < σ.next → D i) := fun i hi' => ⟨fun hm => (hlq i hm).2 hi', fun hn => hrdk i (List.mem_append_right _ hi') hn⟩
      have hargs : @VRL (v.at θ) (callPM φ R w ids lst) c.args args'.toList := pAL_ok hb hi hboxed hlsR hlk k1 heq.app.2.app.1 ha fun i hi' => hrd' i (by simp [hi'])
      simp only [Con.ok, Bool.and_eq_true] at k5
      obtain ⟨k5, k5a, k5b, k5c, k5d, k5e⟩ := k5
      have k5a := List.all_eq_true.1 k5a
      have k5b := beq_t k5b
      have k5c := ble_t k5c
      have k5d := List.all_eq_true.1 k5d
      have k5e : c.nl = 0 ∨ c.objs.length = 0 := by
        simp only [Bool.or_eq_true] at k5e
        exact k5e.imp beq_t beq_t
      have hnl : c.objs.length ≠ 0 → lst = none ∧ q = none := fun h => hl3 (by
        have h0 := k5e.resolve_right h
        cases hL : c.lin with
        | none => rfl
        | some L => simp [Con.nl, hL] at h0)
      have hwf := inv_wf hi
      have hlt : ∀ i ∈ ids, i < σ.next := fun i hi' => by
        obtain ⟨_, c2, t2, h⟩ := hboxed i hi'
        exact inv_lt hi h
      have hidsD : ∀ i ∈ ids, D i := fun i hi' => by
        rw [← List.take_append_drop c.nr ids] at hi'
        rcases List.mem_append.1 hi' with h | h
        · exact hrdk i (by simp [h]) (hlt i (List.mem_of_mem_take h))
        · exact hwrk i (by simp [h]) (hlt i (List.mem_of_mem_drop h))
      have hbrep : ∀ (k i : Nat), ids[k]? = some i → ∃ q, c.bin[k]? = some q ∧ @Rep (v.at θ) R (callPM φ R w ids lst) w (R + k) (some (.box q.1 q.2)) := fun k i hk => by
        obtain ⟨g1, c2, b2, e', rd', g2, g3, g4, g5, g6⟩ := hbk k i hk
        have hm := List.mem_of_getElem? hk
        have hr := inv_rep hi (hidsD i hm) (hlt i hm)
        rw [g3] at hr
        obtain ⟨hR, ex, cs, fl, fh, q1, q2, q3, q4, q5, q6, q7, q8⟩ := hr
        have hvr : @VRL (v.at θ) (callPM φ R w ids lst) b2.1 cs.toList := pAL_ok hb hi hboxed hlsR (lk := none) (fun _ h => (by cases h)) g4 (fun z hz => heq.app.2.app.2 z (g5 z hz)) q7 fun j hj => hrd' j (by simp [g6 j hj])
        have hl1 := @VRL.length (v.at θ) _ _ _ hvr
        have hl2 := @VRL.length v _ _ _ q7
        have hll : b2.1.length = c2.length := by omega
        refine ⟨b2, g2, by omega, ex, cs, fl, fh, ?_, q2, q3, q4, by rw [hll]; exact q5, by rw [hll]; exact q6, hvr, by rw [hll]; exact q8⟩
        have hg : R + k ≠ gid := by omega
        have hn : ¬ R + k < R := by omega
        have hkl : k < ids.length := by
          rcases Nat.lt_or_ge k ids.length with h | h
          · exact h
          · rw [List.getElem?_eq_none h] at hk; cases hk
        have hne : ¬ R + k = R + ids.length := by omega
        simp only [callPM, if_neg hg, if_neg hn, if_true, if_neg hne, Nat.add_sub_cancel_left, hk]
        exact q1
      refine (hcs c hc (v.at θ) hF (preOk_holds hp k4) w (callPM φ R w ids lst) args' (call_hold hb hi _ hnd hbl (fun i hi' => (hboxed i hi').1) hLst (fun h => (hl3 h).1) hbrep hlin) hargs).mono fun e' w' qq => ?_
      obtain ⟨φ1, y, rfl, hy, htr, hwf1, hob, hbo, hlo⟩ := qq
      let N := R + c.bin.length + c.nl
      have hN : N = R + c.bin.length + c.nl := rfl
      let d := σ.next - N
      have hd : d = σ.next - N := rfl
      have hid : R + c.bin.length + c.nl ≤ σ.next := hnx
      let ψ : PM := fun i u => if σ.next ≤ i ∧ i < σ.next + c.objs.length then φ1 (i - d) u else if LR.at q i u then φ1 (R + c.bin.length) 0 else φ i u
      have hqlt : ∀ i ∈ LR.ids q, i < σ.next ∧ D i := fun i hi' => by
        cases q with
        | none => cases hi'
        | some q' =>
          simp only [LR.ids, List.mem_singleton] at hi'; subst hi'
          exact ⟨(hl2 q' rfl).1, (hl2 q' rfl).2.1⟩
      have hatn : ∀ i u, LR.at q i u → ∀ t, u ≤ t → φ i t = none := fun i u h t ht => by
        obtain ⟨q', rfl, rfl, rfl⟩ := h
        exact (hl2 q' rfl).2.2.1 t ht
      have hold : ∀ i u, i < σ.next → i ∉ LR.ids q → ψ i u = φ i u := fun i u hi hq => by
        have h1 : ¬ (σ.next ≤ i ∧ i < σ.next + c.objs.length) := by omega
        have h2 : ¬ LR.at q i u := fun h => hq (LR.at_ids h)
        simp [ψ, h1, h2]
      have hnew : ∀ i, N ≤ i → i < N + c.objs.length → ∀ u, ψ (i + d) u = φ1 i u := fun i h1 h2 u => by
        have h3 : σ.next ≤ i + d ∧ i + d < σ.next + c.objs.length := by omega
        have h4 : i + d - d = i := by omega
        simp [ψ, h3, h4]
      have hboxφ : ∀ (k i : Nat), ids[k]? = some i → callPM φ R w ids lst (R + k) 0 = φ i 0 := fun k i hk => by
        have hg : R + k ≠ gid := by omega
        have hn : ¬ R + k < R := by omega
        have hkl : k < ids.length := by
          rcases Nat.lt_or_ge k ids.length with h | h
          · exact h
          · rw [List.getElem?_eq_none h] at hk; cases hk
        have hne : ¬ R + k = R + ids.length := by omega
        simp only [callPM, if_neg hg, if_neg hn, if_true, if_neg hne, Nat.add_sub_cancel_left, hk]
      have hown : ∀ j u f, R ≤ j → callPM φ R w ids lst j u = some f → (∃ k i, ids[k]? = some i ∧ j = R + k ∧ u = 0 ∧ φ i 0 = some f) ∨ (j = R + c.bin.length ∧ lst = some f) := fun j u f hj hf => by
        rcases callPM_some hb hf with ⟨rfl, _⟩ | ⟨h1, _⟩ | ⟨h1, h2, id, h3, h4⟩ | ⟨h1, _, h2⟩
        · omega
        · omega
        · exact .inl ⟨j - R, id, h3, by omega, h2, h4⟩
        · exact .inr ⟨by omega, h2⟩
      have hkeep : ∀ bb, bb < w.heap.size → (∀ i ∈ ids, ∀ f, φ i 0 = some f → f.blk ≠ bb) → (∀ i ∈ LR.ids q, ∀ u f, φ i u = some f → f.blk ≠ bb) → w'.heap[bb]? = w.heap[bb]? := fun bb hbb hne hne2 => htr.keep bb hbb fun j u f hRj hf => by
        rcases hown j u f hRj hf with ⟨k, i, h1, _, _, h4⟩ | ⟨_, h4⟩
        · exact hne i (List.mem_of_getElem? h1) f h4
        · obtain ⟨⟨i, g1, u', f', g2, g3⟩, _⟩ := hl1 f h4
          rw [← g3]; exact hne2 i g1 u' f' g2
      have hkl : ∀ (k i : Nat), ids[k]? = some i → k < ids.length := fun k i hk => by
        rcases Nat.lt_or_ge k ids.length with h | h
        · exact h
        · rw [List.getElem?_eq_none h] at hk; cases hk
      have hpin : ∀ (k i : Nat) (f : Ext), ids[k]? = some i → φ i 0 = some f → φ1 (R + k) 0 = some f := fun k i f hk hf => by
        have := hkl k i hk
        exact htr.pin (R + k) f (by omega) (by omega) ((hboxφ k i hk).trans hf)
      have hro : ∀ (k i : Nat) (f : Ext), ids[k]? = some i → k < c.nr → φ i 0 = some f → w'.heap[f.blk]? = w.heap[f.blk]? := fun k i f hk hkn hf =>
        htr.ro (R + k) f (by omega) (by omega) ((hboxφ k i hk).trans hf)
      have hboxsome : ∀ i ∈ ids, ∃ f, φ i 0 = some f := fun i hi' => by
        obtain ⟨_, c2, t2, h⟩ := hboxed i hi'
        have hr := inv_rep hi (hidsD i hi') (hlt i hi')
        rw [h] at hr
        obtain ⟨_, ex, _, _, _, q1, _⟩ := hr
        exact ⟨ex, q1⟩
      have hblk : ∀ i u f, R + c.bin.length ≤ i → φ1 i u = some f → (∃ j ∈ LR.ids q, ∃ t g, lst = some f ∨ φ j t = some g ∧ g.blk = f.blk) ∧ lst ≠ none ∨ w.heap.size ≤ f.blk := fun i u f hRi hf => by
        rcases htr.own i u f (by omega) hf with ⟨j, t, g, h1, h2, h3⟩ | h
        · rcases hown j t g h1 h2 with ⟨k, id, g1, g2, g3, g4⟩ | ⟨_, g4⟩
          · exfalso
            have hp := hpin k id g g1 g4
            have := hkl k id g1
            rcases hwf1.inj _ _ _ _ _ _ hp hf h3 with h | h <;> omega
          · obtain ⟨⟨id, q1, u', f', q2, q3⟩, _⟩ := hl1 g g4
            exact .inl ⟨⟨id, q1, u', f', .inr ⟨q2, q3.trans h3⟩⟩, by rw [g4]; exact fun h => by cases h⟩
        · exact .inr h
      have hfresh : ∀ i u f, N ≤ i → i < N + c.objs.length → φ1 i u = some f → w.heap.size ≤ f.blk := fun i u f hRi hRi2 hf => by
        rcases hblk i u f (by omega) hf with ⟨_, h⟩ | h
        · exact absurd (hnl (by omega)).1 h
        · exact h
      have hlist : ∀ f, φ1 (R + c.bin.length) 0 = some f → (∃ j ∈ LR.ids q, ∃ t g, φ j t = some g ∧ g.blk = f.blk) ∨ w.heap.size ≤ f.blk := fun f hf => by
        rcases hblk _ _ f (Nat.le_refl _) hf with ⟨⟨j, h1, t, g, h2⟩, _⟩ | h
        · rcases h2 with h2 | h2
          · obtain ⟨⟨id, q1, u', f', q2, q3⟩, _⟩ := hl1 f h2
            exact .inl ⟨id, q1, u', f', q2, q3⟩
          · exact .inl ⟨j, h1, t, g, h2⟩
        · exact .inr h
      have hψ : ∀ i u f, ψ i u = some f → (φ i u = some f) ∨ (σ.next ≤ i ∧ i < σ.next + c.objs.length ∧ φ1 (i - d) u = some f ∧ N ≤ i - d ∧ i - d < N + c.objs.length) ∨ (LR.at q i u ∧ φ1 (R + c.bin.length) 0 = some f) := fun i u f hf => by
        by_cases h : σ.next ≤ i ∧ i < σ.next + c.objs.length
        · simp only [ψ, h, and_self, if_true] at hf
          exact .inr (.inl ⟨h.1, h.2, hf, by omega, by omega⟩)
        · simp only [ψ, h, if_false] at hf
          by_cases h2 : LR.at q i u
          · simp only [h2, if_true] at hf
            exact .inr (.inr ⟨h2, hf⟩)
          · simp only [h2, if_false] at hf
            exact .inl hf
      have hle : φ.le ψ := fun i u f hf => by
        by_cases h : σ.next ≤ i ∧ i < σ.next + c.objs.length
        · have := hfr i h.1 h.2 u
          rw [this] at hf; cases hf
        · by_cases h2 : LR.at q i u
          · rw [hatn i u h2 u (Nat.le_refl _)] at hf; cases hf
          · simp [ψ, h, h2, hf]
      have hlkok : LkOk (R + c.bin.length) (R + c.bin.length + c.nl + c.objs.length) d (c.lkOf R q) φ1 ψ := fun i e h1 h2 he => by
        cases q with
        | none =>
          have hnl0 : c.nl = 0 := by
            rcases linTry_ok g0 with ⟨h, _⟩ | ⟨_, _, _, _, h, _⟩
            · simp [Con.nl, h]
            · cases h
          exact (hnew i (by omega) (by omega) 0).trans he
        | some q' =>
          obtain ⟨L, hL, _⟩ := (hl2 q' rfl).2.2.2.2
          have hnl1 : c.nl = 1 := by simp [Con.nl, hL]
          dsimp only [Con.lkOf]
          split
          · rename_i hq'
            have h1 : ¬ (σ.next ≤ q'.id ∧ q'.id < σ.next + c.objs.length) := by have := (hl2 q' rfl).1; omega
            have h2 : LR.at (some q') q'.id q'.nv := ⟨q', rfl, rfl, rfl⟩
            simp only [ψ, h1, h2, if_true, if_false]
            rw [← hq']; exact he
          · exact (hnew i (by omega) (by omega) 0).trans he
      have hinst : ∀ {l : List AV} {l' : List Value}, okResL (R + c.bin.length) (R + c.bin.length + c.nl + c.objs.length) l = true → @VRL (v.at θ) φ1 l l' → @VRL v ψ (instL θ d (c.lkOf R q) l) l' := fun h1 h2 =>
        instL_ok hlkok h1 h2
      refine ⟨ψ, y, rfl, inst_ok hlkok k5 hy, ?_⟩
      have hlg := lgAll_heap (ids.take c.nr ++ (rd ++ rd2)) σ
      have hwr : ∀ i, i ∈ wrAll (ids.drop c.nr ++ LR.ids q) σ.wr ↔ (i ∈ ids.drop c.nr ∨ i ∈ LR.ids q) ∨ i ∈ σ.wr := fun i => by rw [wrAll_mem, List.mem_append]
      exact {
        le := hle
        grow := fun i hx hn u => by
          have hn : ¬ (σ.next ≤ i ∧ i < σ.next + c.objs.length) := hn
          have h2 : ¬ LR.at q i u := fun h => by
            rcases hx with h' | h'
            · exact h' ((hwr i).2 (.inl (.inr (LR.at_ids h))))
            · have h' : σ.next + c.objs.length ≤ i := h'
              have := (hqlt i (LR.at_ids h)).1
              omega
          simp [ψ, hn, h2]
        wrR := fun i hi' => by
          rcases (hwr i).1 hi' with (h | h) | h
          · exact .inr (hboxed i (List.mem_of_mem_drop h)).1
          · exact .inr (hlq i h).1
          · exact .inl h
        wf := by
          have one : ∀ i u f j t g, LR.at q i u → φ1 (R + c.bin.length) 0 = some f → φ j t = some g → f.blk = g.blk → i = j := fun i u f j t g h1 h2 h3 h4 => by
            rcases hlist f h2 with ⟨j', k1, t', g', k2, k3⟩ | h
            · have hj' : j' = i := by
                obtain ⟨q', rfl, rfl, _⟩ := h1
                simpa [LR.ids] using k1
              subst hj'
              rcases hwf.inj _ _ _ _ _ _ k2 h3 (k3.trans h4) with h | h
              · exact h
              · have := (hlq _ k1).1; omega
            · have := hwf.lt _ _ _ h3
              omega
          refine ⟨fun i u f j t g hf hg hbk => ?_, fun i u f hf => ?_, fun i u f hf => ?_⟩
          · rcases hψ _ _ _ hf with h1 | ⟨a1, a2, a3, a4, a5⟩ | ⟨a1, a2⟩
            · rcases hψ _ _ _ hg with h2 | ⟨b1, b2, b3, b4, b5⟩ | ⟨b1, b2⟩
              · exact hwf.inj _ _ _ _ _ _ h1 h2 hbk
              · have := hwf.lt _ _ _ h1
                have := hfresh _ _ _ b4 b5 b3
                omega
              · exact .inl (one _ _ _ _ _ _ b1 b2 h1 hbk.symm).symm
            · rcases hψ _ _ _ hg with h2 | ⟨b1, b2, b3, b4, b5⟩ | ⟨b1, b2⟩
              · have := hwf.lt _ _ _ h2
                have := hfresh _ _ _ a4 a5 a3
                omega
              · rcases hwf1.inj _ _ _ _ _ _ a3 b3 hbk with h | h
                · exact .inl (by omega)
                · omega
              · obtain ⟨q', rfl, _⟩ := b1
                exact absurd (hnl (by omega)).2 (fun h => by cases h)
            · rcases hψ _ _ _ hg with h2 | ⟨b1, b2, b3, b4, b5⟩ | ⟨b1, b2⟩
              · exact .inl (one _ _ _ _ _ _ a1 a2 h2 hbk)
              · obtain ⟨q', rfl, _⟩ := a1
                exact absurd (hnl (by omega)).2 (fun h => by cases h)
              · obtain ⟨q', rfl, rfl, _⟩ := a1
                obtain ⟨q2, h, rfl, _⟩ := b1
                simp only [Option.some.injEq] at h; subst h
                exact .inl rfl
          · rcases hψ _ _ _ hf with h1 | ⟨a1, a2, a3, a4⟩ | ⟨a1, a2⟩
            · exact Nat.lt_of_lt_of_le (hwf.lt _ _ _ h1) htr.size
            · exact hwf1.lt _ _ _ a3
            · exact hwf1.lt _ _ _ a2
          · rcases hψ _ _ _ hf with h1 | ⟨a1, a2, a3, a4⟩ | ⟨a1, a2⟩
            · exact hwf.top _ _ _ h1
            · exact hwf1.top _ _ _ a3
            · exact hwf1.top _ _ _ a2
        blk := fun i u f hf => by
          rcases hψ _ _ _ hf with h1 | ⟨a1, a2, a3, a4, a5⟩ | ⟨a1, a2⟩
          · exact .inl ⟨u, f, h1, rfl⟩
          · exact .inr (hfresh _ _ _ a4 a5 a3)
          · rcases hlist f a2 with ⟨j, k1, t, g, k2, k3⟩ | h
            · have hj : j = i := by
                obtain ⟨q', rfl, rfl, _⟩ := a1
                simpa [LR.ids] using k1
              subst hj
              exact .inl ⟨t, g, k2, k3⟩
            · exact .inr h
        rep := fun i hi' => by
          show @Rep v R ψ w' i ((addObs θ c.objs σ.next (putLin θ q c.lin (putBoxes θ d (c.lkOf R q) (ids.drop c.nr) (c.bout.drop c.nr) (c.bin.drop c.nr) σ.heap))).get i)
          rw [addObs_get]
          rcases hi' with ⟨hdd, hn⟩ | ⟨h1, h2⟩
          · rw [if_neg (by omega)]
            by_cases hql : i ∈ LR.ids q
            · cases hqq : q with
              | none => rw [hqq] at hql; cases hql
              | some q' =>
                subst hqq
                simp only [LR.ids, List.mem_singleton] at hql; subst hql
                obtain ⟨L, hL, hfl⟩ := (hl2 q' rfl).2.2.2.2
                rw [hL, putLin_at]
                refine con_list hfl (hlq _ (by simp [LR.ids])).1 ?_ (fun u hu => ?_) (hlo L hL)
                · have h1 : ¬ (σ.next ≤ q'.id ∧ q'.id < σ.next + c.objs.length) := by omega
                  have h2 : LR.at (some q') q'.id q'.nv := ⟨q', rfl, rfl, rfl⟩
                  simp only [ψ, h1, h2, if_true, if_false]
                · have h1 : ¬ (σ.next ≤ q'.id ∧ q'.id < σ.next + c.objs.length) := by omega
                  have h2 : ¬ LR.at (some q') q'.id u := fun ⟨q2, h, _, h3⟩ => by
                    simp only [Option.some.injEq] at h; subst h; omega
                  simp only [ψ, h1, h2, if_false]
                  exact (hl2 q' rfl).2.2.1 u (by omega)
            · rw [putLin_get _ _ _ _ _ hql]
              by_cases hmem : i ∈ ids.drop c.nr
              · obtain ⟨k, hk, hki⟩ := List.getElem_of_mem hmem
                have hk' : (ids.drop c.nr)[k]? = some i := by rw [List.getElem?_eq_getElem hk, hki]
                have hk'' : ids[c.nr + k]? = some i := by rw [List.getElem?_drop] at hk'; exact hk'
                have hkl := hkl _ _ hk''
                have hbk1 : c.bout[c.nr + k]? = some c.bout[c.nr + k] := List.getElem?_eq_getElem (by omega)
                have hbk2 : c.bin[c.nr + k]? = some c.bin[c.nr + k] := List.getElem?_eq_getElem (by omega)
                have hnd2 : nodupB (ids.drop c.nr) = true := nodup_drop hnd c.nr
                rw [putBoxes_at θ d _ _ _ _ _ k i _ _ hnd2 hk' (by rw [List.getElem?_drop]; exact hbk1) (by rw [List.getElem?_drop]; exact hbk2)]
                have hr := hbo (c.nr + k) _ _ hbk1 hbk2
                obtain ⟨hR, ex, cs, fl, fh, q1, q2, q3, q4, q5, q6, q7, q8⟩ := hr
                obtain ⟨f, hf⟩ := hboxsome i (List.mem_of_mem_drop hmem)
                have := hpin _ _ f hk'' hf
                rw [this] at q1; simp only [Option.some.injEq] at q1; subst q1
                have hok := k5d _ (List.mem_of_getElem? (show (c.bout.drop c.nr)[k]? = _ by rw [List.getElem?_drop]; exact hbk1))
                have hvr := hinst hok q7
                have hl1 := @VRL.length v _ _ _ hvr
                have hl2 := @VRL.length (v.at θ) _ _ _ q7
                have hll : (instL θ d (c.lkOf R q) c.bout[c.nr + k]).length = c.bout[c.nr + k].length := by omega
                exact ⟨(hboxed i (List.mem_of_mem_drop hmem)).1, f, cs, fl, fh, (hold i 0 hn hql).trans hf, q2, q3, q4, by rw [hll]; exact q5, by rw [hll]; exact q6, hvr, by rw [hll]; exact q8⟩
              · rw [putBoxes_get _ _ _ _ _ _ _ _ hmem]
                refine @Rep.frame v R φ ψ w w' i _ hle (fun u => hold i u hn hql) (fun u f hf => ?_) (inv_rep hi hdd hn)
                by_cases hin : ∃ j ∈ ids, ∃ g, φ j 0 = some g ∧ g.blk = f.blk
                · obtain ⟨j, hj, g, hg, hgb⟩ := hin
                  obtain ⟨k, hk, rfl⟩ := List.getElem_of_mem hj
                  have hk' : ids[k]? = some ids[k] := List.getElem?_eq_getElem hk
                  by_cases hkn : k < c.nr
                  · rw [← hgb]; exact hro k _ g hk' hkn hg
                  · exfalso
                    have hjd : ids[k] ∈ ids.drop c.nr := List.mem_of_getElem? (show (ids.drop c.nr)[k - c.nr]? = some ids[k] by rw [List.getElem?_drop, show c.nr + (k - c.nr) = k by omega]; exact hk')
                    rcases hwf.inj _ _ _ _ _ _ hg hf hgb with h | h
                    · rw [h] at hjd; exact hmem hjd
                    · have := (hboxed _ hj).1; omega
                · refine hkeep _ (hwf.lt _ _ _ hf) (fun j hj g hg hgb => hin ⟨j, hj, g, hg, hgb⟩) fun j hj t g hg hgb => ?_
                  rcases hwf.inj _ _ _ _ _ _ hg hf hgb with h | h
                  · rw [h] at hj; exact hql hj
                  · have := (hlq _ hj).1; omega
          · have h2 : i < σ.next + c.objs.length := h2
            rw [if_pos ⟨h1, h2⟩]
            have hk : i - σ.next < c.objs.length := by omega
            rw [List.getElem?_eq_getElem hk]
            have hrep := hob (i - σ.next) _ (List.getElem?_eq_getElem hk)
            have hlow := inv_low hi
            have hok := k5a _ (List.getElem_mem hk)
            have hpm : ∀ u, ψ i u = φ1 (R + c.bin.length + c.nl + (i - σ.next)) u := fun u => by
              have := hnew (N + (i - σ.next)) (by omega) (by omega) u
              rw [show N + (i - σ.next) + d = i by omega] at this
              exact this
            exact con_ob hok (by omega) (hpm 0) (fun u hu => (hpm u).trans (ob_no hok hrep u hu)) hrep
        frm := ⟨htr.size, fun bb hbb hne => by
          by_cases hin : ∃ j ∈ ids, ∃ g, φ j 0 = some g ∧ g.blk = bb
          · obtain ⟨j, hj, g, hg, hgb⟩ := hin
            obtain ⟨k, hk, rfl⟩ := List.getElem_of_mem hj
            have hk' : ids[k]? = some ids[k] := List.getElem?_eq_getElem hk
            by_cases hkn : k < c.nr
            · rw [← hgb]; exact hro k _ g hk' hkn hg
            · exfalso
              have hjd : ids[k] ∈ ids.drop c.nr := List.mem_of_getElem? (show (ids.drop c.nr)[k - c.nr]? = some ids[k] by rw [List.getElem?_drop, show c.nr + (k - c.nr) = k by omega]; exact hk')
              exact hne _ ((hwr _).2 (.inl (.inl hjd))) 0 g hg hgb
          · exact hkeep bb hbb (fun j hj g hg hgb => hin ⟨j, hj, g, hg, hgb⟩) fun j hj t g hg hgb => hne _ ((hwr _).2 (.inl (.inr hj))) t g hg hgb, htr.os, htr.out, htr.tape⟩ }
  · exfalso
    have hret : conHk R (decP p) cons f args σ = .pan ch σ' := hret
    rcases conHk_ret (R := R) (dec := decP p) (l := cons) (f := f) (args := args) (σ := σ) with h | ⟨c, hc, _, h1, h2⟩
    · rw [h] at hret; cases hret
    · obtain ⟨ids, q, lk, e0, e, rd, e2, rd2, l, _, _, _, _, _, _, _, _, _, _, k6⟩ := try_ret h1
      rw [h2, k6] at hret
      simp [Con.ret] at hret
end Go.Tw
namespace Go.Tw
open Go.ChangeShapes Go.RowKit
/-! A contract, by its function's body. -/
noncomputable def objL : List Ob → Nat → List (Nat × Ob)
  | [], _ => []
  | o :: l, i => (i, o) :: objL l (i + 1)
noncomputable def bloutL : List (List AV × TypeId) → List (List AV) → List (List AV × TypeId)
  | q :: l, c :: m => (c, q.2) :: bloutL l m
  | _, _ => []
noncomputable def loutL (L : Option Lin) (i : Nat) : List (Nat × Ob) := match L with
  | some L => [(i, .opq 2 0 gid (.slc L.l) L.ox L.oy [] L.t)]
  | none => []
noncomputable def Con.out (R : Nat) (c : Con) : List (Nat × Ob) := binL (bloutL c.bin c.bout) R ++ (loutL c.lin (R + c.bin.length) ++ objL c.objs (R + c.bin.length + c.nl))
theorem loutL_get (b : Base) (L : Option Lin) (k i : Nat) : (putObs b (loutL L k)).get i = (match L with
  | some L => if i = k then some (.opq 2 0 gid (.slc L.l) L.ox L.oy [] L.t) else b.get i
  | none => b.get i) := by
  cases L with
  | none => rfl
  | some L =>
    simp only [loutL, putObs]
    rw [T.get_set]
theorem objL_get (b : Base) : ∀ (l : List Ob) (k i : Nat), (putObs b (objL l k)).get i = if k ≤ i ∧ i < k + l.length then l[i - k]? else b.get i := by
  intro l
  induction l with
  | nil => intro k i; simp [objL, putObs]; omega
  | cons q l ih =>
    intro k i
    simp only [objL, putObs]
    rw [T.get_set, ih]
    by_cases h1 : i = k
    · subst h1; rw [if_pos rfl, if_pos (by simp), Nat.sub_self]; rfl
    · rw [if_neg h1]
      by_cases h2 : k + 1 ≤ i ∧ i < k + 1 + l.length
      · rw [if_pos h2, if_pos (by simp; omega), show i - k = (i - (k + 1)) + 1 by omega, List.getElem?_cons_succ]
      · rw [if_neg h2, if_neg (by simp; omega)]
theorem bloutL_get : ∀ {l : List (List AV × TypeId)} {m : List (List AV)} {k : Nat} {q : List AV × TypeId} {c : List AV}, l[k]? = some q → m[k]? = some c → (bloutL l m)[k]? = some (c, q.2) := by
  intro l
  induction l with
  | nil => intro m k q c h; simp at h
  | cons a l ih =>
    intro m k q c h1 h2
    cases m with
    | nil => simp at h2
    | cons d m =>
      cases k with
      | zero => simp only [List.getElem?_cons_zero, Option.some.injEq] at h1 h2; subst h1; subst h2; rfl
      | succ k => simp only [List.getElem?_cons_succ] at h1 h2; simp only [bloutL, List.getElem?_cons_succ]; exact ih h1 h2
theorem bloutL_length : ∀ {l : List (List AV × TypeId)} {m : List (List AV)}, m.length = l.length → (bloutL l m).length = l.length := by
  intro l
  induction l with
  | nil => intro m _; cases m <;> rfl
  | cons a l ih =>
    intro m h
    cases m with
    | nil => simp at h
    | cons d m => simp only [bloutL, List.length_cons]; rw [ih (by simpa using h)]
theorem hold_rep {v : Val} {gl : Nat → Option Nat} {b : Base} {R nt : Nat} {tm : T AV} {σ : St} {a : Act} {w : World} {φ : PM} (h : Hold v gl b R nt tm σ a w φ) {i : Nat} {o : Ob} (ho : σ.heap.get i = some o) (hi : i < σ.next) : @Rep v R φ w i (some o) := ho ▸ h.rep hi
theorem con_sound {F : Nat → Dat → Dat → Dat → Dat} {P : Program} {gl : Nat → Option Nat} {b : Base} {R : Nat} {c : Con} {fn : Func} {code : Code} (hf : P.funcs[c.f]? = some fn) (hbody : fn.body = some code) (hlen : Nat.ble c.args.length fn.ntmps = true)
    (hbo : Nat.beq c.bout.length c.bin.length = true)
    (h : ∀ v : Val, v.fn = F → @Holds v c.pre → ∃ e tm' l σ'', (e = .ret ∨ e = .normal) ∧
      HTo v P gl b R c.nr c.bin.length fn.ntmps code (envOf c.args 0 .leaf) (c.start b R) e (envL tm') (toldSt b (c.out R) (R + c.bin.length + c.nl + c.objs.length)) ∧
      resultsA P fn { tm := envL tm', ds := [], md := none, rd := false } (toldSt b (c.out R) (R + c.bin.length + c.nl + c.objs.length)) fn.results.toList = some (l, σ'') ∧ given l = c.res) : c.Sound F P gl b R := by
  intro v hF hp w φ args' hh ha
  obtain ⟨e, tm', l, σ'', he, hto, hres, hgl⟩ := h v hF hp
  have hbo := beq_t hbo
  refine calls_of_runs hf hbody fun cs => ?_
  have hen := @enter_env v φ c.args args' ha fn.ntmps (ble_t hlen) none false
  refine (hto _ cs w φ ⟨hen.ev.size, hen.ev.val, rfl, hh.inv, hh.free, hh.roA, hh.rd, hh.wr⟩).mono fun e1 a1 cs1 w1 q => ?_
  obtain ⟨q1, q2, φ1, q3, q4⟩ := q
  refine ⟨q1, ?_⟩
  have hev : @EnvR v φ1 fn.ntmps { tm := envL tm', ds := [], md := none, rd := false } a1 := ⟨q3.size, q3.val⟩
  obtain ⟨x, r1, r2, _⟩ := @results_ok v P R (cfg0 gl b) (fun _ => True) φ1 _ w1 fn fn.ntmps _ a1 σ'' l hev q3.inv hres (fun i _ _ => trivial)
  rw [hgl] at r2
  have hobj : ∀ k o, c.objs[k]? = some o → @Rep v R φ1 w1 (R + c.bin.length + c.nl + k) (some o) := fun k o hk => by
    have hkl : k < c.objs.length := by
      rcases Nat.lt_or_ge k c.objs.length with h | h
      · exact h
      · rw [List.getElem?_eq_none h] at hk; cases hk
    refine hold_rep q3 ?_ (by show R + c.bin.length + c.nl + k < R + c.bin.length + c.nl + c.objs.length; omega)
    show (putObs b (c.out R)).get _ = _
    unfold Con.out
    rw [putObs_append, binL_get, if_neg (by rw [bloutL_length hbo]; omega), putObs_append, loutL_get]
    have hgo : (putObs b (objL c.objs (R + c.bin.length + c.nl))).get (R + c.bin.length + c.nl + k) = some o := by
      rw [objL_get, if_pos (by omega), show R + c.bin.length + c.nl + k - (R + c.bin.length + c.nl) = k by omega]
      exact hk
    cases hL : c.lin with
    | none => exact hgo
    | some L =>
      have : c.nl = 1 := by simp [Con.nl, hL]
      dsimp only
      rw [if_neg (by omega)]
      exact hgo
  have hbox : ∀ k l q, c.bout[k]? = some l → c.bin[k]? = some q → @Rep v R φ1 w1 (R + k) (some (.box l q.2)) := fun k l q h1 h2 => by
    have hkl : k < c.bin.length := by
      rcases Nat.lt_or_ge k c.bin.length with h | h
      · exact h
      · rw [List.getElem?_eq_none h] at h2; cases h2
    refine hold_rep q3 ?_ (by show R + k < R + c.bin.length + c.nl + c.objs.length; omega)
    show (putObs b (c.out R)).get _ = _
    unfold Con.out
    rw [putObs_append, binL_get, if_pos (by rw [bloutL_length hbo]; omega), show R + k - R = k by omega, bloutL_get h2 h1]
    rfl
  have hlin : ∀ L, c.lin = some L → @Rep v R φ1 w1 (R + c.bin.length) (some (.opq 2 0 gid (.slc L.l) L.ox L.oy [] L.t)) := fun L hL => by
    have hn : c.nl = 1 := by simp [Con.nl, hL]
    refine hold_rep q3 ?_ (by show R + c.bin.length < R + c.bin.length + c.nl + c.objs.length; omega)
    show (putObs b (c.out R)).get _ = _
    unfold Con.out
    rw [putObs_append, binL_get, if_neg (by rw [bloutL_length hbo]; omega), putObs_append, loutL_get, hL]
    dsimp only
    rw [if_pos rfl]
  have hgo : LeavesInM Fence.wide 0 P fn a1.tmps (fun e w' => ∃ φ' x, e = .returned x ∧ @VR v φ' c.res x ∧ Trans R c.nr c.bin.length φ w φ' w' ∧ WF R φ' w' ∧ (∀ k o, c.objs[k]? = some o → @Rep v R φ' w' (R + c.bin.length + c.nl + k) (some o)) ∧
      (∀ k l q, c.bout[k]? = some l → c.bin[k]? = some q → @Rep v R φ' w' (R + k) (some (.box l q.2))) ∧ ∀ L, c.lin = some L → @Rep v R φ' w' (R + c.bin.length) (some (.opq 2 0 gid (.slc L.l) L.ox L.oy [] L.t))) a1.defers .returning w1 := by
    rw [q3.dfs]
    exact ⟨x, r1, φ1, x, rfl, r2, q4, q3.wf, hobj, hbox, hlin⟩
  rcases he with rfl | rfl
  · cases e1 <;> simp only [ExitP] at q2; exact hgo
  · cases e1 <;> simp only [ExitP] at q2; exact hgo
end Go.Tw
namespace Go.Tw
/-! What is handed in, as data. -/
noncomputable section
end
def pcW (w : World) (b : Nat) (s : List Value) : Prop := ∃ t fr, w.heap[b]? = some (.cells s.toArray t fr)
theorem mapM_get {α β : Type} {f : α → Option β} : ∀ {l : List α} {r : List β}, l.mapM f = some r → r.length = l.length ∧ ∀ (i : Nat) (x : α), l[i]? = some x → ∃ y, r[i]? = some y ∧ f x = some y := by
  intro l
  induction l with
  | nil => intro r h; simp at h; subst h; exact ⟨rfl, fun i x h => by simp at h⟩
  | cons a l ih =>
    intro r h
    rw [List.mapM_cons] at h
    cases ha : f a with
    | none => simp [ha] at h
    | some y =>
      cases hl : l.mapM f with
      | none => simp [ha, hl] at h
      | some s =>
        simp [ha, hl] at h
        subst h
        obtain ⟨h1, h2⟩ := ih hl
        refine ⟨by simp [h1], fun i x hi => ?_⟩
        cases i with
        | zero => simp at hi; subst hi; exact ⟨y, rfl, ha⟩
        | succ i => simp at hi; obtain ⟨z, h3, h4⟩ := h2 i x hi; exact ⟨z, by simpa using h3, h4⟩
def RowR (pc : Nat → List Value → Prop) (l : List Sh) (row : List Dat) (cs : List Value) : Prop :=
  row.length = l.length ∧ cs.length = l.length ∧ ∀ (j : Nat) (s : Sh) (d : Dat) (v : Value), l[j]? = some s → row[j]? = some d → cs[j]? = some v → GC pc s d v
theorem RowR.one {pc : Nat → List Value → Prop} {s : Sh} {d : Dat} {v : Value} (h : GC pc s d v) : RowR pc [s] [d] [v] := by
  refine ⟨rfl, rfl, fun j s' d' v' h1 h2 h3 => ?_⟩
  cases j with
  | zero => simp at h1 h2 h3; subst h1; subst h2; subst h3; exact h
  | succ j => simp at h1
theorem RowR.append {pc : Nat → List Value → Prop} {l m : List Sh} {r q : List Dat} {a b : List Value} (h : RowR pc l r a) (k : RowR pc m q b) : RowR pc (l ++ m) (r ++ q) (a ++ b) := by
  obtain ⟨h1, h2, h3⟩ := h
  obtain ⟨k1, k2, k3⟩ := k
  refine ⟨by simp [h1, k1], by simp [h2, k2], fun j s d v e1 e2 e3 => ?_⟩
  by_cases hj : j < l.length
  · rw [List.getElem?_append_left hj] at e1
    rw [List.getElem?_append_left (by omega)] at e2 e3
    exact h3 j s d v e1 e2 e3
  · rw [List.getElem?_append_right (by omega)] at e1 e2 e3
    rw [h1] at e2; rw [h2] at e3
    exact k3 _ s d v e1 e2 e3
theorem shFs_ok {H : Type} {enc : TypeId × Value → H} {P : Program} {w : World} {held : Bool} {fuel : Nat} {sh : TypeId → Option (List Sh)}
    (ih : ∀ t l cs d ps, sh t = some l → DataW.trod enc P w 0 (fun _ => true) held fuel t cs = some (d, ps) → cs.length = P.cellsOf t → ∃ row, RowR (pcW w) l row cs)
    (hsz : ∀ t l, sh t = some l → P.cellsOf t = l.length) (cs : List Value) : ∀ (fs : List Field) (o : Nat) (l : List Sh), shFs sh fs o = some l → cs.length = o + l.length →
    (∀ f ∈ fs, ∃ x, DataW.trod enc P w 0 (fun _ => true) held fuel f.type ((cs.drop f.offset).take (P.cellsOf f.type)) = some x) → ∃ row, RowR (pcW w) l row (cs.drop o) := by
  intro fs
  induction fs with
  | nil =>
    intro o l h hl _
    simp only [shFs, Option.some.injEq] at h; subst h
    simp only [List.length_nil, Nat.add_zero] at hl
    exact ⟨[], rfl, by simp; omega, fun j s d v h => by simp at h⟩
  | cons f fs ihf =>
    intro o l h hl hm
    simp only [shFs] at h
    split at h
    · rename_i a ha
      rw [cond_eq_ite] at h
      split at h
      · rename_i hb
        have hb := beq_t hb
        split at h
        · rename_i r hr
          simp only [Option.some.injEq] at h; subst h
          obtain ⟨x, h1⟩ := hm f (by simp)
          have hsa := hsz _ _ ha
          rw [hb, hsa] at h1
          simp only [List.length_append] at hl
          obtain ⟨row1, q1⟩ := ih _ _ _ x.1 x.2 ha h1 (by simp [hsa]; omega)
          obtain ⟨row2, q2⟩ := ihf (o + a.length) r hr (by omega) fun g hg => hm g (by simp [hg])
          refine ⟨row1 ++ row2, ?_⟩
          have := q1.append q2
          rwa [← List.drop_drop, List.take_append_drop] at this
        · cases h
      · cases h
    · cases h
theorem trod_row {H : Type} {enc : TypeId × Value → H} {P : Program} {w : World} {held : Bool} : ∀ (n fuel : Nat) (t : TypeId) (l : List Sh) (cs : List Value) (d : DataW H) (ps : List MemPlace), shOf P n t = some l →
    DataW.trod enc P w 0 (fun _ => true) held fuel t cs = some (d, ps) → ∃ row, RowR (pcW w) l row cs := by
  intro n
  induction n with
  | zero => intro fuel t l cs d ps h; simp [shOf] at h
  | succ n ih =>
    intro fuel t l cs d ps h hd
    cases fuel with
    | zero => simp [DataW.trod] at hd
    | succ fuel =>
      simp only [shOf] at h
      split at h
      · rename_i k hu
        simp only [Option.some.injEq] at h; subst h
        obtain ⟨m, rfl, _⟩ := DataW.trod_int hu hd
        exact ⟨[.int m], .one (.int k (.int m))⟩
      · rename_i hu
        simp only [Option.some.injEq] at h; subst h
        obtain ⟨b, rfl, _⟩ := DataW.trod_bool hu hd
        refine ⟨[.int (b2i b)], .one ?_⟩
        have : GC (pcW w) .bool (.int (b2i b)) (.bool ((Dat.int (b2i b)).toI != 0)) := .bool _
        cases b <;> exact this
      · rename_i hu
        simp only [Option.some.injEq] at h; subst h
        obtain ⟨s, rfl, _⟩ := DataW.trod_string hu hd
        refine ⟨[.str s.data.toList], .one ?_⟩
        obtain ⟨⟨s⟩⟩ := s
        exact .str s
      · rename_i e hu
        split at h
        · rename_i le hle
          simp only [cond_eq_ite, Bool.and_eq_true] at h
          split at h
          · rename_i hb
            have hce := beq_t hb.1
            have hl0 := blt_t hb.2
            simp only [Option.some.injEq] at h; subst h
            rcases DataW.trod_slice hu hd with ⟨rfl, _⟩ | ⟨a, len, cap, elems, rest, m, _, rfl, _, _, hlc, _, hlen, hget, _⟩
            · exact ⟨[.lst []], .one (.none le none 0)⟩
            · skip
              · skip
                · skip
                  by_cases hz : len = 0
                  · subst hz
                    exact ⟨[.lst []], .one (.none le (some a) cap)⟩
                  · have key : ∀ i, i < len → ∃ cs row, w.cells? 0 (a.add (i * le.length)) le.length = some cs ∧ RowR (pcW w) le row cs := by
                      intro i hi
                      have hy := hget i hi
                      rw [hce, List.getElem?_eq_getElem (by omega)] at hy
                      cases hc : w.cells? 0 (a.add (i * le.length)) le.length with
                      | none => rw [hc] at hy; cases hy
                      | some cs =>
                        rw [hc] at hy
                        obtain ⟨row, hr⟩ := ih _ e le cs _ _ hle hy
                        exact ⟨cs, row, rfl, hr⟩
                    have hcell : ∀ i, i < len → ∃ cs, w.cells? 0 (a.add (i * le.length)) le.length = some cs := fun i hi => let ⟨cs, _, h, _⟩ := key i hi; ⟨cs, h⟩
                    have hcells : ∀ i cs, w.cells? 0 (a.add (i * le.length)) le.length = some cs → ∀ j, j < le.length → ∃ v, cs[j]? = some v ∧ w.cell? ((a.add (i * le.length)).add j) = some v := by
                      intro i cs hc j hj
                      unfold World.cells? at hc
                      rw [if_pos (Nat.zero_le _)] at hc
                      obtain ⟨_, h2⟩ := mapM_get hc
                      exact h2 j j (by simp [hj])
                    -- the block
                    obtain ⟨c0, hc0⟩ := hcell 0 (by omega)
                    obtain ⟨v0, _, hv0⟩ := hcells 0 c0 hc0 0 hl0
                    have ha0 : (a.add (0 * le.length)).add 0 = a := by simp [Addr.add]
                    rw [ha0] at hv0
                    unfold World.cell? at hv0
                    split at hv0
                    · rename_i blk bt fr hblk
                      split at hv0
                      · cases hv0
                      · rename_i hsp
                        obtain ⟨ab, ao, asp⟩ := a
                        have hsp : asp = none := by cases asp <;> simp_all
                        subst hsp
                        let rows : List (List Dat) := (List.range len).map fun i => if h : i < len then (key i h).choose_spec.choose else []
                        have hrl : rows.length = len := by simp [rows]
                        have hrow : ∀ i (h : i < len), rows[i]? = some (key i h).choose_spec.choose := fun i h => by simp [rows, h]
                        have hcellat : ∀ i (h : i < len) j, j < le.length → ∃ v, (key i h).choose[j]? = some v ∧ blk.toList[ao + i * le.length + j]? = some v := by
                          intro i h j hj
                          obtain ⟨hc, _⟩ := (key i h).choose_spec.choose_spec
                          obtain ⟨v, h1, h2⟩ := hcells i _ hc j hj
                          refine ⟨v, h1, ?_⟩
                          rw [add_off, add_off] at h2
                          simp only [World.cell?, hblk, Option.isSome_none, Bool.false_eq_true, if_false] at h2
                          rw [Array.getElem?_toList]; exact h2
                        have hg : GC (pcW w) (.slc le) (.lst rows) (.slice (some ⟨ab, ao, none⟩) rows.length cap) := by
                          refine .slc ab blk.toList ao cap (fun i j => (blk.toList[ao + i * le.length + j]?).getD undef) ⟨bt, fr, by simpa using hblk⟩ (by omega) (fun i row hr => ?_) (fun i j hi hj => ?_) (fun i row j s x hr hs hx => ?_)
                          · have hi : i < len := by
                              rcases Nat.lt_or_ge i len with h | h
                              · exact h
                              · rw [List.getElem?_eq_none (by omega)] at hr; cases hr
                            rw [hrow i hi] at hr
                            simp only [Option.some.injEq] at hr; subst hr
                            exact (key i hi).choose_spec.choose_spec.2.1
                          · obtain ⟨v, _, h2⟩ := hcellat i (by omega) j hj
                            rw [h2]; rfl
                          · have hi : i < len := by
                              rcases Nat.lt_or_ge i len with h | h
                              · exact h
                              · rw [List.getElem?_eq_none (by omega)] at hr; cases hr
                            rw [hrow i hi] at hr
                            simp only [Option.some.injEq] at hr; subst hr
                            have hj : j < le.length := by
                              rcases Nat.lt_or_ge j le.length with h | h
                              · exact h
                              · rw [List.getElem?_eq_none h] at hs; cases hs
                            obtain ⟨v, h1, h2⟩ := hcellat i hi j hj
                            rw [h2]
                            exact (key i hi).choose_spec.choose_spec.2.2.2 j s x v hs hx h1
                        rw [hrl] at hg
                        exact ⟨[.lst rows], .one hg⟩
                    · cases hv0
          · cases h
        · cases h
      · rename_i fs hu
        split at h
        · rename_i l' hl'
          rw [cond_eq_ite] at h
          split at h
          · rename_i hb
            have hb := beq_t hb
            simp only [Option.some.injEq] at h; subst h
            obtain ⟨xs, m, _, _, hcl, hxl, hxs⟩ := DataW.trod_struct hu hd
            have := shFs_ok (enc := enc) (held := held) (fuel := m) (w := w) (P := P) (sh := fun t => match shOf P n t with
              | some l => bif Nat.beq (P.cellsOf t) l.length then some l else none
              | none => none) (fun t l cs d ps h1 h2 _ => by
                split at h1
                · rename_i l3 hl3
                  rw [cond_eq_ite] at h1
                  split at h1
                  · simp only [Option.some.injEq] at h1; subst h1
                    exact ih m t _ cs d ps hl3 h2
                  · cases h1
                · cases h1) (fun t l h1 => by
                split at h1
                · rw [cond_eq_ite] at h1
                  split at h1
                  · rename_i hbb
                    simp only [Option.some.injEq] at h1; subst h1
                    exact beq_t hbb
                  · cases h1
                · cases h1) cs fs.toList 0 l' hl' (by omega) (fun f hf => by
                obtain ⟨i, hi, rfl⟩ := List.getElem_of_mem hf
                have := hxs i fs.toList[i] (by rw [← Array.getElem?_toList, List.getElem?_eq_getElem hi])
                rw [List.getElem?_eq_getElem (by rw [hxl]; simpa using hi)] at this
                exact ⟨_, this⟩)
            simpa using this
          · cases h
        · cases h
      · cases h
end Go.Tw
namespace Go.Tw
open Go.ChangeShapes Go.RowKit
/-! Code from what is told under names to what is told under other names. -/
def HT (P : Program) (gl : Nat → Option Nat) (b : Base) (R nr nb nt : Nat) (v : Val) (c : Code) (tm : T AV) (σ : St) (e : AExit) (v' : Val) (tm' : T AV) (σ' : St) : Prop :=
  ∀ (a : Act) (cs : List Frame) (w : World) (φ : PM), Hold v gl b R nt tm σ a w φ →
    Runs P none false c (fun e' a' cs' w' => cs' = cs ∧ ExitP e e' ∧ ∃ φ', Hold v' gl b R nt tm' σ' a' w' φ' ∧ Trans R nr nb φ w φ' w') a cs w
section
variable {P : Program} {gl : Nat → Option Nat} {b : Base} {R nr nb nt : Nat} {v v1 v2 : Val}
theorem HTo.ht (hrb : nr ≤ nb) {c : Code} {tm tm1 tm2 : T AV} {σ σ1 σ2 : St} {e : AExit} (h : HTo v P gl b R nr nb nt c tm σ e tm1 σ1) (k : Retell gl b R nr nb v tm1 σ1 v2 tm2 σ2) : HT P gl b R nr nb nt v c tm σ e v2 tm2 σ2 :=
  fun a cs w φ ha => (h a cs w φ ha).mono fun _ _ _ _ ⟨q1, q2, φ1, q3, q4⟩ => by
    obtain ⟨φ2, r1, r2⟩ := k _ _ _ _ q3
    exact ⟨q1, q2, φ2, r1, q4.trans hrb r2⟩
theorem HT.retell (hrb : nr ≤ nb) {c : Code} {tm tm1 tm2 : T AV} {σ σ1 σ2 : St} {e : AExit} (h : HT P gl b R nr nb nt v c tm σ e v1 tm1 σ1) (k : Retell gl b R nr nb v1 tm1 σ1 v2 tm2 σ2) : HT P gl b R nr nb nt v c tm σ e v2 tm2 σ2 :=
  fun a cs w φ ha => (h a cs w φ ha).mono fun _ _ _ _ ⟨q1, q2, φ1, q3, q4⟩ => by
    obtain ⟨φ2, r1, r2⟩ := k _ _ _ _ q3
    exact ⟨q1, q2, φ2, r1, q4.trans hrb r2⟩
theorem HT.seq (hrb : nr ≤ nb) {x y : Code} {tm tm1 tm2 : T AV} {σ σ1 σ2 : St} {e : AExit} (h : HT P gl b R nr nb nt v x tm σ .normal v1 tm1 σ1) (k : HT P gl b R nr nb nt v1 y tm1 σ1 e v2 tm2 σ2) : HT P gl b R nr nb nt v (.seq x y) tm σ e v2 tm2 σ2 := by
  intro a cs w φ ha
  refine runs_seq ((h a cs w φ ha).mono fun e1 a1 cs1 w1 q => ?_)
  obtain ⟨rfl, q2, φ1, q3, q4⟩ := q
  have : e1 = .normal := by cases e1 <;> simp_all [ExitP]
  subst this
  exact (k a1 _ w1 φ1 q3).mono fun e2 a2 cs2 w2 ⟨r1, r2, φ2, r3, r4⟩ => ⟨r1, r2, φ2, r3, q4.trans hrb r4⟩
theorem HT.seq_out {x y : Code} {tm tm2 : T AV} {σ σ2 : St} {e : AExit} (h : HT P gl b R nr nb nt v x tm σ e v2 tm2 σ2) (hn : e ≠ .normal) : HT P gl b R nr nb nt v (.seq x y) tm σ e v2 tm2 σ2 := by
  intro a cs w φ ha
  refine runs_seq ((h a cs w φ ha).mono fun e1 a1 cs1 w1 q => ?_)
  have hnn : e1 ≠ .normal := by
    obtain ⟨_, q2, _⟩ := q
    intro h'
    subst h'
    cases e <;> simp_all [ExitP]
  cases e1 with
  | normal => exact absurd rfl hnn
  | _ => exact q
theorem HT.block {id : Nat} {x : Code} {tm tm2 : T AV} {σ σ2 : St} (h : HT P gl b R nr nb nt v x tm σ (.exit id) v2 tm2 σ2) : HT P gl b R nr nb nt v (.block id x) tm σ .normal v2 tm2 σ2 := by
  intro a cs w φ ha
  refine runs_block ((h a cs w φ ha).mono fun e1 a1 cs1 w1 q => ?_)
  obtain ⟨q1, q2, q3⟩ := q
  cases e1 <;> simp only [ExitP] at q2
  subst q2
  simp only [inBlockS, if_true]
  exact ⟨q1, trivial, q3⟩
theorem HT.block_out {id : Nat} {x : Code} {tm tm2 : T AV} {σ σ2 : St} {e : AExit} (h : HT P gl b R nr nb nt v x tm σ e v2 tm2 σ2) (hn : e ≠ .exit id) : HT P gl b R nr nb nt v (.block id x) tm σ e v2 tm2 σ2 := by
  intro a cs w φ ha
  refine runs_block ((h a cs w φ ha).mono fun e1 a1 cs1 w1 q => ?_)
  obtain ⟨q1, q2, q3⟩ := q
  cases e1 with
  | exit j =>
    cases e <;> simp only [ExitP] at q2
    subst q2
    rename_i i
    have : i ≠ id := fun h' => hn (by rw [h'])
    simp only [inBlockS, this, if_false]
    exact ⟨q1, rfl, q3⟩
  | _ => exact ⟨q1, q2, q3⟩
theorem HT.loop (hrb : nr ≤ nb) {c : Code} {tm to : T AV} {σ so : St} {e : AExit} {vo : Val} : ∀ (n : Nat) (V : Nat → Val), (∀ k, k < n → HT P gl b R nr nb nt (V k) c tm σ .normal (V (k + 1)) tm σ) → HT P gl b R nr nb nt (V n) c tm σ e vo to so → e ≠ .normal →
    HT P gl b R nr nb nt (V 0) (.loop c) tm σ e vo to so := by
  have key : ∀ (n : Nat) (V : Nat → Val), (∀ k, k < n → HT P gl b R nr nb nt (V k) c tm σ .normal (V (k + 1)) tm σ) → HT P gl b R nr nb nt (V n) c tm σ e vo to so → e ≠ .normal →
      ∀ (a : Act) (cs : List Frame) (w : World) (φ : PM), Hold (V 0) gl b R nt tm σ a w φ → ∀ (bf : Frame) (k : List Item), bf.roundOf = none → bf.kind = kindOf false →
      ∃ e' a' cs' w', (cs' = cs ∧ ExitP e e' ∧ ∃ φ', Hold vo gl b R nt to so a' w' φ' ∧ Trans R nr nb φ w φ' w') ∧
        ArrivesIn (Machine.fenced P Fence.wide) P (lone (bf.atR a (.code c :: .inLoop c :: k)) cs w) bf k cs' e' a' w' := by
    intro n
    induction n with
    | zero =>
      intro V _ hx hne a cs w φ ha bf k hb hkd
      obtain ⟨e1, a1, cs1, w1, q, harr⟩ := hx a cs w φ ha bf (.inLoop c :: k) hb hkd
      have hnn : e1 ≠ .normal := by
        intro h'
        subst h'
        obtain ⟨_, q2, _⟩ := q
        cases e <;> simp_all [ExitP]
      exact ⟨e1, a1, cs1, w1, q, .pass (x := .inLoop c) rfl (fun _ _ => .inl hnn) harr⟩
    | succ n ih =>
      intro V hs hx hne a cs w φ ha bf k hb hkd
      obtain ⟨e1, a1, cs1, w1, q, harr⟩ := hs 0 (by omega) a cs w φ ha bf (.inLoop c :: k) hb hkd
      obtain ⟨rfl, q2, φ1, q3, q4⟩ := q
      have : e1 = .normal := by cases e1 <;> simp_all [ExitP]
      subst this
      obtain ⟨e2, a2, cs2, w2, r, harr2⟩ := ih (fun k => V (k + 1)) (fun k hk => hs (k + 1) (by omega)) hx hne a1 _ w1 φ1 q3 bf k hb hkd
      obtain ⟨s1, s2, φ3, s3, s4⟩ := r
      exact ⟨e2, a2, cs2, w2, ⟨s1, s2, φ3, s3, q4.trans hrb s4⟩, .of_steps (StepsIn.trans harr (one_wide stepR_inLoop)) harr2⟩
  intro n V hs hx hne a cs w φ ha bf k hb hkd
  obtain ⟨e1, a1, cs1, w1, q, harr⟩ := key n V hs hx hne a cs w φ ha bf k hb hkd
  exact ⟨e1, a1, cs1, w1, q, .of_steps (one_wide stepR_loop) harr⟩
theorem HT.run (hb : BaseOk gl b R) (hrb : nr ≤ nb) {p : Dcs} (hp : @Holds v p) {hk : FuncId → List AV → St → CR} (hs : HkSteps (cfgP gl b p hk)) (hh : @HkOk v P R (cfgP gl b p hk))
    (hm : P.follows .mixedOrders = true) {n : Nat} {c : Code} {tm : T AV} {σ : St} {e : AExit} {ρ : List RE} {tm' : List (Nat × AV)} {objs' : List (Nat × Ob)} {nx' : Nat} {E : Eqs}
    (h : runHB R nr nb (exec P (cfgP gl b p hk) n nt c { tm := tm, ds := [], md := none, rd := false } σ) e ρ tm' objs' nx' E = true) (hE : EqsOk v v2 E) : HT P gl b R nr nb nt v c tm σ e v2 (envL tm') (toldSt b objs' nx') := by
  obtain ⟨tm1, σ1, h1, h2⟩ := heap_run hb hp hs hh hm h
  exact h1.ht hrb (h2 v2 hE)
end
end Go.Tw
