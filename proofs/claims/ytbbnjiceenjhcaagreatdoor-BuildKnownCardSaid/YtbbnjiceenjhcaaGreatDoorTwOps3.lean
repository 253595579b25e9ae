/-
  A part of the proof that the abstract evaluator is sound for the model's machine. Conditions: those of each theorem, as it states them.
-/
import Derived.Test.YtbbnjiceenjhcaaGreatDoorTwOps2
set_option linter.all false
namespace Go.Tw
section
variable [Val]
variable {P : Program} {R : Nat} {C : Cfg} {D : Nat → Prop} {φ : PM} {σ : St} {w : World}

omit [Val] in
theorem splice_get {α : Type} {l vs : List α} {off : Nat} (h : off + vs.length ≤ l.length) (x : Nat) :
    (splice l off vs)[x]? = if x < off then l[x]? else if x < off + vs.length then vs[x - off]? else l[x]? := by
  rw [splice_eq]
  have h1 : (l.take off).length = off := by simp; omega
  split
  · rename_i hx
    rw [List.append_assoc, List.getElem?_append_left (by omega), List.getElem?_take_of_lt hx]
  · rename_i hx
    rw [List.append_assoc, List.getElem?_append_right (by omega), h1]
    split
    · rename_i hy
      rw [List.getElem?_append_left (by omega)]
    · rename_i hy
      rw [List.getElem?_append_right (by omega), List.getElem?_drop]
      congr 1
      omega

omit [Val] in
theorem take_drop_take {α : Type} (l : List α) {L a n : Nat} (h : a + n ≤ L) : ((l.take L).drop a).take n = (l.drop a).take n := by
  rw [List.drop_take, List.take_take]
  congr 1
  omega

/-- What a version of an object shows lies in its block. -/
theorem view_rep {id ver : Nat} {o : Ob} {c : List AV} {e : Ext} (hr : Rep R φ w id (some o)) (hv : o.view ver = some c) (he : φ id ver = some e) :
    ∃ cs t fr, w.heap[e.blk]? = some (.cells cs t fr) ∧ ∀ off n l q, e.dn ≤ off → off + n ≤ e.hi → cut c off n = some l → q + e.dn = off + e.up →
      (n = 0 ∨ q + n ≤ cs.size) ∧ VRL φ l ((cs.toList.drop q).take n) := by
  cases o with
  | box b bt =>
    simp only [Ob.view, cond_eq_ite] at hv
    split at hv
    · rename_i hb
      have := beq_t hb; subst this
      simp only [Option.some.injEq] at hv; subst hv
      obtain ⟨hR, e', cs, fl, fh, he', hb, h1, h2, h3, h4, h5, _⟩ := hr
      rw [he] at he'; simp only [Option.some.injEq] at he'; subst he'
      refine ⟨cs, bt, _, hb, fun off n l q a1 a2 a3 a4 => ?_⟩
      obtain ⟨rfl, _⟩ := cut_ok a3
      have : q = off := by omega
      subst this
      have hl := h5.length
      exact ⟨.inr (by simp at hl; omega), (h5.drop q).take n⟩
    · cases hv
  | ro b =>
    simp only [Ob.view, cond_eq_ite] at hv
    split at hv
    · rename_i hb
      have := beq_t hb; subst this
      simp only [Option.some.injEq] at hv; subst hv
      obtain ⟨e', cs, t, fr, he', hb, h1, h2, h3⟩ := hr
      rw [he] at he'; simp only [Option.some.injEq] at he'; subst he'
      refine ⟨cs, t, fr, hb, fun off n l q a1 a2 a3 a4 => ?_⟩
      obtain ⟨rfl, hn⟩ := cut_ok a3
      have hq : q = e.up + off := by omega
      subst hq
      by_cases hn0 : n = 0
      · subst hn0; exact ⟨.inl rfl, by simp; exact .nil⟩
      have hlen : off + n ≤ b.length := by simp at hn; omega
      refine ⟨.inr (by omega), ?_⟩
      have := (h3.drop off).take n
      rw [take_drop_take _ hlen, List.drop_drop] at this
      exact this
    · cases hv
  | arr b base lim since nv et =>
    have ha : aliveV base since nv ver ∧ (∃ L, L = limV base lim ver e ∧ ∀ off n l, off + n ≤ e.hi → cut c off n = some l → n ≠ 0 → off + n ≤ L ∧ l = (b.drop off).take n ∧ l.length = n) := by
      simp only [Ob.view, cond_eq_ite, Bool.and_eq_true] at hv
      split at hv
      · rename_i hb
        have := beq_t hb; subst this
        simp only [Option.some.injEq] at hv; subst hv
        refine ⟨.inl rfl, _, rfl, fun off n l h1 h2 h3 => ?_⟩
        obtain ⟨rfl, hn⟩ := cut_ok h2
        have : off + n ≤ lim := by simp at hn; omega
        exact ⟨by simpa [limV] using this, take_drop_take _ this, hn⟩
      · rename_i hb
        have hb : ver ≠ base := fun h => hb (by simp [h])
        split at hv
        · rename_i hc
          simp only [Option.some.injEq] at hv; subst hv
          refine ⟨.inr ⟨ble_t hc.1, blt_t hc.2⟩, _, rfl, fun off n l h1 h2 h3 => ?_⟩
          obtain ⟨rfl, hn⟩ := cut_ok h2
          exact ⟨by simpa [limV, hb] using h1, rfl, hn⟩
        · cases hv
    obtain ⟨hal, L, hL, hcut⟩ := ha
    obtain ⟨hR, g1, g2, g3, g4, g5, g6, _⟩ := hr
    obtain ⟨e', cs, fl, fh, he', hb, k1, k2, k3, k4, k5⟩ := g5 ver hal
    rw [he] at he'; simp only [Option.some.injEq] at he'; subst he'
    refine ⟨cs, et, _, hb, fun off n l q a1 a2 a3 a4 => ?_⟩
    by_cases hn0 : n = 0
    · subst hn0
      obtain ⟨rfl, _⟩ := cut_ok a3
      exact ⟨.inl rfl, by simp; exact .nil⟩
    obtain ⟨h1, h2, h3⟩ := hcut off n l a2 a3 hn0
    rw [← hL] at k2 k3 k5
    have key : ∀ i v, i < n → l[i]? = some v → ∃ v', cs[q + i]? = some v' ∧ VR φ v v' := by
      intro i v hi hv
      rw [h2, List.getElem?_take_of_lt hi, List.getElem?_drop] at hv
      obtain ⟨v', y1, y2⟩ := k5 (off + i) v (by omega) (by omega) hv
      refine ⟨v', ?_, y2⟩
      rw [show q + i = off + i + e.up - e.dn by omega]
      exact y1
    have hsz : q + n ≤ cs.size := by
      have hlast : n - 1 < l.length := by omega
      obtain ⟨v', y1, _⟩ := key (n - 1) l[n - 1] (by omega) (List.getElem?_eq_getElem hlast)
      have : q + (n - 1) < cs.size := by
        rcases Nat.lt_or_ge (q + (n - 1)) cs.size with h | h
        · exact h
        · simp [Array.getElem?_eq_none h] at y1
      omega
    refine ⟨.inr hsz, VRL.of_get (by simp; omega) fun i v v' hv hv' => ?_⟩
    have hi : i < n := by
      rcases Nat.lt_or_ge i l.length with h | h
      · omega
      · simp [List.getElem?_eq_none h] at hv
    obtain ⟨u, y1, y2⟩ := key i v hi hv
    rw [List.getElem?_take_of_lt hi, List.getElem?_drop] at hv'
    have : cs[q + i]? = some v' := by simpa using hv'
    rw [y1] at this
    simp only [Option.some.injEq] at this
    subst this
    exact y2
  | map es k => simp [Ob.view] at hv
  | iter s p => simp [Ob.view] at hv
  | miter => simp [Ob.view] at hv
  | dead => simp [Ob.view] at hv
  | dfr => simp [Ob.view] at hv
  | loop => simp [Ob.view] at hv

theorem Inv.lt (hi : Inv R C D φ σ w) {id : Nat} {o : Ob} (h : σ.heap.get id = some o) : id < σ.next := by
  rcases Nat.lt_or_ge id σ.next with h' | h'
  · exact h'
  · rw [hi.dom id h'] at h; cases h
theorem Inv.at (hi : Inv R C D φ σ w) {id : Nat} {o : Ob} (h : σ.heap.get id = some o) (hd : D id) : Rep R φ w id (some o) := h ▸ hi.rep id hd (hi.lt h)

/-- The invariant where only what was read is more. -/
theorem Inv.same {τ : St} (hi : Inv R C D φ σ w) (h1 : τ.heap = σ.heap) (h2 : τ.next = σ.next) (h3 : τ.wr = σ.wr) : Inv R C D φ τ w :=
  ⟨hi.wf, by rw [h2]; exact hi.low, fun i hd' hn' => by rw [h1]; rw [h2] at hn'; exact hi.rep i hd' hn', hi.gl, fun i hn' => by rw [h1]; rw [h2] at hn'; exact hi.dom i hn', hi.pin, hi.dec, by rw [h3]; exact hi.wrR, hi.ro⟩

theorem Post.from {τ σ' : St} {φ' : PM} {w' : World} (hp : Post R D φ τ w σ' φ' w') (h2 : τ.next = σ.next) (hw : τ.wr = σ.wr) : Post R D φ σ w σ' φ' w' where
  le := hp.le
  grow := fun i h1 h3 => hp.grow i h1 (by rw [h2]; exact h3)
  wrR := fun i h => by rw [← hw]; exact hp.wrR i h
  wf := hp.wf
  blk := hp.blk
  rep := fun i h => hp.rep i (by rw [h2]; exact h)
  frm := hp.frm

/-- Reading cells. -/
theorem readN_run (hi : Inv R C D φ σ w) {id ver off hi' n q : Nat} {l : List AV} {e : Ext} (h : readN σ id ver off hi' n = some l) (hd : D id) (he : φ id ver = some e)
    (h1 : e.dn ≤ off) (h2 : hi' ≤ e.hi) (h3 : q + e.dn = off + e.up) :
    ∃ arr : Array Value, (∀ w₂ : World, w₂.heap = w.heap → (loadCells ⟨e.blk, q, none⟩ n).run P w₂ = .ok arr w₂) ∧ VRL φ l arr.toList ∧ l.length = n ∧ (n = 1 → ∃ v, arr = #[v] ∧ w.cell? ⟨e.blk, q, none⟩ = some v) := by
  obtain ⟨ha, o, c, ho, hv, hc⟩ := readN_ok h
  obtain ⟨cs, t, fr, hb, hall⟩ := view_rep (hi.at ho hd) hv he
  obtain ⟨hn, hl⟩ := hall off n l q h1 (by omega) hc h3
  have hlen := (cut_ok hc).2
  by_cases hn0 : n = 0
  · subst hn0
    refine ⟨#[], fun _ _ => by simp [loadCells, loadCellsFrom], ?_, hlen, by omega⟩
    have : l = [] := List.length_eq_zero_iff.1 hlen
    subst this; exact .nil
  · have hn := hn.resolve_left hn0
    refine ⟨_, fun w₂ h₂ => run_loadCells_row (by rw [h₂]; exact hb) hn, by simpa using hl, hlen, fun h1 => ?_⟩
    subst h1
    have hq : q < cs.size := by omega
    refine ⟨cs[q], ?_, by rw [cell_row hb, Array.getElem?_eq_getElem hq]⟩
    have hq' : q < cs.toList.length := by simpa using hq
    rw [List.drop_eq_getElem_cons hq']
    simp

theorem loadA_ok (hi : Inv R C D φ σ w) {t : TypeId} {a v : AV} {a' : Value} {σ' : St} (h : loadA P t a σ = some (v, σ')) (ha : VR φ a a') (hk : Known D σ σ') :
    ∃ v', (Instr.loadAt t a').run P w = .ok v' w ∧ VR φ v v' ∧ Post R D φ σ w σ' φ w := by
  unfold loadA at h
  split at h
  · rename_i id ver off top
    cases ha with
    | ptr e q he hd hh ho =>
      split at h
      · rename_i hagg
        split at h
        · rename_i n hn
          split at h
          · rename_i l hl
            simp only [Option.some.injEq, Prod.mk.injEq] at h
            obtain ⟨rfl, rfl⟩ := h
            obtain ⟨_, o, c, hoo, _⟩ := readN_ok hl
            have hdd : D id := hk id (.inl (mem_addL.2 (.inl rfl))) (hi.lt hoo)
            obtain ⟨arr, r1, r2, _⟩ := readN_run (P := P) hi hl hdd he hd hh ho
            exact ⟨.agg arr, by simp [Instr.loadAt, Instr.sureAddr, loadVar, run_aggT hagg, run_szOf hn, r1 w rfl], .agg _ r2, .same hi rfl rfl rfl⟩
          · cases h
        · cases h
      · rename_i hagg
        split at h
        · rename_i v0 hl
          simp only [Option.some.injEq, Prod.mk.injEq] at h
          obtain ⟨rfl, rfl⟩ := h
          obtain ⟨_, o, c, hoo, _⟩ := readN_ok hl
          have hdd : D id := hk id (.inl (mem_addL.2 (.inl rfl))) (hi.lt hoo)
          obtain ⟨arr, r1, r2, _, r3⟩ := readN_run (P := P) hi hl hdd he hd hh ho
          obtain ⟨v', rfl, hc⟩ := r3 rfl
          cases r2 with
          | cons hv _ =>
            exact ⟨v', by simp [Instr.loadAt, Instr.sureAddr, loadVar, run_aggT hagg, hc], hv, .same hi rfl rfl rfl⟩
        · cases h
      · cases h
  · cases h

theorem arr_write {id ver off q L nv et fl fh : Nat} {c c1 : List AV} {vs : List AV} {vs' : List Value} {e : Ext} {cs : Array Value}
    (hR : R ≤ id) (hv : VRL φ vs vs') (hone : ∀ v ∈ vs', v.oneCell' = true) (he : φ id ver = some e) (h1 : e.dn ≤ off) (h3 : q + e.dn = off + e.up)
    (hbk : w.heap[e.blk]? = some (.cells cs et (fl, fh))) (k1 : cs.size = e.bsz) (k2 : L ≤ e.hi) (k4 : fl = fh ∨ e.bsz ≤ fl)
    (k5 : ∀ x a, e.dn ≤ x → x < L → c[x]? = some a → ∃ a', cs[x + e.up - e.dn]? = some a' ∧ VR φ a a') (hc1 : c1.length = L) (hcc : ∀ x, x < L → c1[x]? = c[x]?)
    (hn : 0 < vs.length) (hoff : off + vs.length ≤ L) (hver : ver < nv) (hnv : ∀ v, nv ≤ v → φ id v = none) :
    ∃ ob, (storeCells ⟨e.blk, q, none⟩ vs').run P w = .ok () (wset w e.blk ob) ∧ Rep R φ (wset w e.blk ob) id (some (.arr (splice c1 off vs) ver L nv nv et)) := by
  have hlen := hv.length
  have hcov : ∀ x, e.dn ≤ x → x < L → x + e.up - e.dn < cs.size := by
    intro x x1 x2
    have hx : c1[x]? = some c1[x] := List.getElem?_eq_getElem (by omega)
    rw [hcc x x2] at hx
    obtain ⟨a', y1, _⟩ := k5 x _ x1 x2 hx
    rcases Nat.lt_or_ge (x + e.up - e.dn) cs.size with h | h
    · exact h
    · simp [Array.getElem?_eq_none h] at y1
  have hqs : q + vs'.length ≤ cs.size := by
    have := hcov (off + vs.length - 1) (by omega) (by omega); omega
  have hst := run_storeCells_row (P := P) (k := q) vs' 0 cs w hbk (by simpa using hqs) hone (by
    intro y y1 y2 ⟨y3, y4⟩
    simp only [Nat.add_zero] at y1 y2
    omega)
  have hsp : (cs.toList.take (q + 0) ++ vs' ++ cs.toList.drop (q + 0 + vs'.length)) = splice cs.toList q vs' := by simp [splice_eq]
  rw [hsp] at hst
  have hqs' : q + vs'.length ≤ cs.toList.length := by simpa using hqs
  have hoff' : off + vs.length ≤ c1.length := by omega
  refine ⟨_, hst, hR, ?_, hver, Nat.le_refl _, hnv, ?_, ?_, ?_⟩
  · rw [splice_length hoff', hc1]; exact Nat.le_refl _
  · intro v hal
    have hv' : v = ver := hal.resolve_right (by omega)
    subst hv'
    refine ⟨e, _, fl, fh, he, wset_same _ _ _ (heap_lt hbk), ?_, ?_, ?_, k4, ?_⟩
    · have := splice_length hqs'
      simp only [List.size_toArray]
      rw [this]; simpa using k1
    · simpa [limV] using k2
    · rw [splice_length hoff', hc1]; simp [limV]
    · intro x a x1 x2 hx
      have x2 : x < L := by simpa [limV] using x2
      rw [splice_get hoff'] at hx
      have hy : (splice cs.toList q vs').toArray[x + e.up - e.dn]? = (splice cs.toList q vs')[x + e.up - e.dn]? := by simp
      rw [hy, splice_get hqs']
      by_cases c1' : x < off
      · rw [if_pos c1', hcc x x2] at hx
        rw [if_pos (by omega)]
        obtain ⟨a', y1, y2⟩ := k5 x a x1 x2 hx
        exact ⟨a', by simpa using y1, y2⟩
      · rw [if_neg c1'] at hx
        rw [if_neg (by omega)]
        by_cases c2' : x < off + vs.length
        · rw [if_pos c2'] at hx
          rw [if_pos (by omega)]
          obtain ⟨a', y1, y2⟩ := hv.get hx
          exact ⟨a', by rw [show x + e.up - e.dn - q = x - off by omega]; exact y1, y2⟩
        · rw [if_neg c2', hcc x x2] at hx
          rw [if_neg (by omega)]
          obtain ⟨a', y1, y2⟩ := k5 x a x1 x2 hx
          exact ⟨a', by simpa using y1, y2⟩
  · intro v₁ v₂ e₁ e₂ a1 a2 b1 b2 _
    have h1 : v₁ = ver := a1.resolve_right (by omega)
    have h2 : v₂ = ver := a2.resolve_right (by omega)
    subst h1; subst h2
    rw [b1] at b2
    simp only [Option.some.injEq] at b2
    subst b2
    exact ⟨rfl, rfl⟩
  · intro v e' a1 a2 _ _
    omega

/-- Writing cells. -/
theorem write_rep (hi : Inv R C D φ σ w) {id ver off q : Nat} {o o' : Ob} {vs : List AV} {vs' : List Value} {e : Ext} (ho : σ.heap.get id = some o) (hd : D id)
    (h : o.write ver off vs = some o') (hf : vs.all AV.flat = true) (hv : VRL φ vs vs') (he : φ id ver = some e) (h1 : e.dn ≤ off) (h3 : q + e.dn = off + e.up) :
    R ≤ id ∧ ∃ ob, (storeCells ⟨e.blk, q, none⟩ vs').run P w = .ok () (wset w e.blk ob) ∧ Rep R φ (wset w e.blk ob) id (some o') := by
  have hr := hi.at ho hd
  have hlen := hv.length
  have hone : ∀ v ∈ vs', v.oneCell' = true := by
    intro v hm
    obtain ⟨i, hi', rfl⟩ := List.getElem_of_mem hm
    have hlt : i < vs.length := by omega
    obtain ⟨v', y1, y2⟩ := hv.get (List.getElem?_eq_getElem hlt)
    rw [List.getElem?_eq_getElem hi'] at y1
    simp only [Option.some.injEq] at y1
    rw [y1]
    exact y2.oneCell (List.all_eq_true.1 hf _ (List.getElem_mem hlt))
  cases o with
  | box c bt =>
    simp only [Ob.write, cond_eq_ite, Bool.and_eq_true] at h
    split at h
    · rename_i hb
      have hv0 := beq_t hb.1; subst hv0
      have hle := ble_t hb.2
      simp only [Option.some.injEq] at h; subst h
      obtain ⟨hR, e', cs, fl, fh, he', hbk, g1, g2, g3, g4, g5, g6⟩ := hr
      rw [he] at he'; simp only [Option.some.injEq] at he'; subst he'
      have hq : q = off := by omega
      subst hq
      have hcl := g5.length
      have hst := run_storeCells_row (P := P) (k := q) vs' 0 cs w hbk (by simp at hcl; omega) hone (by intro y _ _ ⟨y1, y2⟩; omega)
      refine ⟨hR, _, hst, hR, e, _, fl, fh, he, wset_same _ _ _ (heap_lt hbk), g1, g2, ?_, ?_, ?_, ?_⟩
      · rw [splice_length hle]; exact g3
      · rw [splice_length hle]; exact g4
      · have := g5.splice hv q
        simpa using this
      · rw [splice_length hle]; exact g6
    · cases h
  | arr c base lim since nv et =>
    obtain ⟨hR, g1, g2, g3, g4, g5, g6, g7⟩ := hr
    simp only [Ob.write, cond_eq_ite, Bool.and_eq_true] at h
    split at h
    · rename_i hfn
      have hn := blt_t hfn
      split at h
      · rename_i hbb
        have hbb := beq_t hbb; subst hbb
        split at h
        · rename_i hb
          have hb1 := ble_t hb.1
          have hb2 := ble_t hb.2
          simp only [Option.some.injEq] at h; subst h
          obtain ⟨e', cs, fl, fh, he', hbk, k1, k2, k3, k4, k5⟩ := g5 ver (.inl rfl)
          rw [he] at he'; simp only [Option.some.injEq] at he'; subst he'
          have hL : limV ver lim ver e = lim := by simp [limV]
          rw [hL] at k2 k3 k5
          exact ⟨hR, arr_write hR hv hone he h1 h3 hbk k1 k2 k4 k5 (by simp; omega) (fun x hx => List.getElem?_take_of_lt hx) hn hb1 g2 g4⟩
        · cases h
      · rename_i hbb
        have hbb : ver ≠ base := fun h => hbb (by simp [h])
        split at h
        · rename_i hb
          have hb1 := beq_t hb.1
          have hb2 := ble_t hb.2
          split at h
          · rename_i hb3
            have hb3 := ble_t hb3
            simp only [Option.some.injEq] at h; subst h
            obtain ⟨e', cs, fl, fh, he', hbk, k1, k2, k3, k4, k5⟩ := g5 ver (.inr ⟨hb2, by omega⟩)
            rw [he] at he'; simp only [Option.some.injEq] at he'; subst he'
            have hL : limV base lim ver e = c.length := by simp only [limV, if_neg hbb]; exact g7 ver e hb1 hb2 hbb he
            rw [hL] at k2 k3 k5
            exact ⟨hR, arr_write hR hv hone he h1 h3 hbk k1 k2 k4 k5 rfl (fun _ _ => rfl) hn hb3 (by omega) g4⟩
          · cases h
        · cases h
    · cases h
  | ro c => simp [Ob.write] at h
  | map es k => simp [Ob.write] at h
  | iter s p => simp [Ob.write] at h
  | miter => simp [Ob.write] at h
  | dead => simp [Ob.write] at h
  | dfr => simp [Ob.write] at h
  | loop => simp [Ob.write] at h

/-- Writing cells. -/
theorem writeN_run (hi : Inv R C D φ σ w) {id ver off hi' q : Nat} {vs : List AV} {vs' : List Value} {e : Ext} {σ' : St} (h : writeN σ id ver off hi' vs = some σ') (hk : Known D σ σ')
    (hv : VRL φ vs vs') (he : φ id ver = some e) (h1 : e.dn ≤ off) (h3 : q + e.dn = off + e.up) :
    ∃ w', (storeCells ⟨e.blk, q, none⟩ vs').run P w = .ok () w' ∧ Post R D φ σ w σ' φ w' := by
  obtain ⟨ha, hf, o, o', ho, hw, rfl⟩ := writeN_ok h
  have hlt := hi.lt ho
  have hd : D id := hk id (.inr (mem_addL.2 (.inl rfl))) hlt
  obtain ⟨hR, ob, r1, r2⟩ := write_rep (P := P) hi ho hd hw hf hv he h1 h3
  exact ⟨_, r1, .change hi hR hlt he r2⟩

theorem storeA_ok (hi : Inv R C D φ σ w) {t : TypeId} {a v : AV} {a' v' : Value} {σ' : St} (h : storeA P t a v σ = some σ') (ha : VR φ a a') (hv : VR φ v v') (hk : Known D σ σ') :
    ∃ w', (Instr.storeAt t a' v').run P w = .ok () w' ∧ Post R D φ σ w σ' φ w' := by
  unfold storeA at h
  split at h
  · rename_i id ver off top
    cases ha with
    | ptr e q he hd hh ho =>
      split at h
      · rename_i n hn
        simp only [cond_eq_ite] at h
        split at h
        · rename_i hb
          have hb := beq_t hb
          have hvc := hv.cells
          have hl := hvc.length
          have hsz : v'.cells.size = n := by simpa [hb] using hl
          obtain ⟨w', r1, r2⟩ := writeN_run (P := P) hi h hk hvc he hd ho
          exact ⟨w', by simp [Instr.storeAt, Instr.sureAddr, storeVar, run_szOf hn, hsz, r1], r2⟩
        · cases h
      · cases h
  · cases h
end
end Go.Tw
