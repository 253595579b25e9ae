/-
  A part of the proof that the abstract evaluator is sound for the model's machine. Conditions: those of each theorem, as it states them.
-/
import Derived.Test.YtbkokbjpbbpllaaGreatTwK2
namespace Go.Tw
noncomputable section
/-! Appending to lists of one's own. -/
section
variable [Val] {P : Program} {R : Nat} {D : Nat → Prop} {φ : PM} {σ : St} {w : World} {dec : Bx → Option Bool}
theorem ArrRep.single {id ver t : Nat} {c : List AV} {e : Ext} {cs : Array Value} {fl fh : Nat} (hR : R ≤ id) (he : φ id ver = some e) (hno : ∀ v, ver < v → φ id v = none) (hb : w.heap[e.blk]? = some (.cells cs t (fl, fh)))
    (hs : cs.size = e.bsz) (hl : c.length ≤ e.hi) (hf : fl = fh ∨ e.bsz ≤ fl) (hc : ∀ x a, e.dn ≤ x → x < c.length → c[x]? = some a → ∃ a', cs[x + e.up - e.dn]? = some a' ∧ VR φ a a') : ArrRep R φ w id c ver c.length (ver + 1) (ver + 1) t := by
  have hal : ∀ v, aliveV ver (ver + 1) (ver + 1) v → v = ver := fun v hv => by
    rcases hv with h | h
    · exact h
    · omega
  refine ⟨hR, Nat.le_refl _, by omega, Nat.le_refl _, fun v hv => hno v (by omega), fun v hv => ?_, fun v₁ v₂ e₁ e₂ a1 a2 b1 b2 _ => ?_, fun v e' h1 h2 => by omega⟩
  · have := hal v hv; subst this
    have hlm : limV v c.length v e = c.length := by simp [limV]
    refine ⟨e, cs, fl, fh, he, hb, hs, ?_, ?_, hf, ?_⟩ <;> rw [hlm]
    · exact hl
    · exact Nat.le_refl _
    · exact hc
  · have := hal v₁ a1; subst this
    have := hal v₂ a2; subst this
    rw [b1] at b2; simp only [Option.some.injEq] at b2; subst b2
    exact ⟨rfl, rfl⟩
theorem ArrRep.renew {id base lim since nv t : Nat} {c : List AV} (h : ArrRep R φ w id c base lim since (nv + 1) t) (hs : since ≤ nv) (hb : nv ≠ base) : ArrRep R φ w id c nv c.length (nv + 1) (nv + 1) t ∧ ∃ e, φ id nv = some e ∧ e.hi = c.length := by
  obtain ⟨hR, h1, h2, h3, h4, h5, h6, h7⟩ := h
  obtain ⟨e, cs, fl, fh, he, hbk, k1, k2, k3, k4, k5⟩ := h5 nv (.inr ⟨hs, by omega⟩)
  have hhi := h7 nv e rfl hs hb he
  have hlm : limV base lim nv e = e.hi := by simp [limV, hb]
  rw [hlm] at k5
  exact ⟨.single hR he (fun v hv => h4 v (by omega)) hbk k1 (by omega) k4 (fun x a x1 x2 x3 => k5 x a x1 (by omega) x3), e, he, hhi⟩
def SrcR (P : Program) (φ : PM) (w : World) (e : TypeId) (ti : TypeInfo) (u : TypeId) (cid : Nat) (l : List Sh) (x2 : Sx) (x' : Value) (rows : List (List Dat)) : Prop :=
  x2.dat = .lst rows ∧ RowsOk l rows ∧ ∃ arr : Array Value, VRL φ (litRows cid l rows) arr.toList ∧ AppR P e ti u rows.length x' arr w
theorem Post.put0 {φ' : PM} {w' : World} {id : Nat} {o : Ob} (hi : Inv0 R D φ σ w) (hR : R ≤ id) (hlt : id < σ.next) (hle : φ.le φ') (hwf : WF R φ' w')
    (hgrow : ∀ i, i ≠ id → ∀ v, φ' i v = φ i v) (hblk : ∀ v e, φ' id v = some e → (∃ u f, φ id u = some f ∧ f.blk = e.blk) ∨ w.heap.size ≤ e.blk)
    (hfrm : Frm φ [id] w w') (hrep : Rep R φ' w' id (some o)) : Post R D φ σ w (σ.put id o) φ' w' := .put hi.inv hR hlt hle hwf hgrow hblk hfrm hrep
theorem Post.recast {φ' : PM} {w' : World} {id : Nat} {o oc oc' : Ob} (hd : D id) (hlt : id < σ.next) (h : Post R D φ { σ with heap := σ.heap.set id oc } w (St.put { σ with heap := σ.heap.set id oc } id oc') φ' w')
    (hr : Rep R φ' w' id (some oc') → Rep R φ' w' id (some o)) : Post R D φ σ w (σ.put id o) φ' w' where
  le := h.le
  grow := h.grow
  wrR := h.wrR
  wf := h.wf
  blk := h.blk
  rep := fun i hi => by
    by_cases e : i = id
    · subst e
      have := h.rep i (.inl ⟨hd, hlt⟩)
      simp only [St.put, T.get_set_same] at this ⊢
      exact hr this
    · have := h.rep i hi
      simp only [St.put] at this ⊢
      rw [T.get_set_ne _ _ e] at this ⊢
      rw [T.get_set_ne _ _ e] at this
      exact this
  frm := h.frm
theorem Inv0.recast (hi : Inv0 R D φ σ w) {id : Nat} {oc : Ob} (hlt : id < σ.next) (hr : Rep R φ w id (some oc)) : Inv0 R D φ { σ with heap := σ.heap.set id oc } w where
  wf := hi.wf
  wrR := hi.wrR
  low := hi.low
  rep := fun i hd hn => by
    by_cases e : i = id
    · subst e; simp only [T.get_set_same]; exact hr
    · simp only [T.get_set_ne _ _ e]; exact hi.rep i hd hn
  dom := fun i hn => by
    have : i ≠ id := by
      have : σ.next ≤ i := hn
      omega
    simp only [T.get_set_ne _ _ this]; exact hi.dom i hn
theorem own_append (hi : Inv0 R D φ σ w) {t u ty e : TypeId} {ti : TypeInfo} {z' : Value} {a : AV} {a' x' : Value} {o : Own} {x2 y' : Sx} {rows2 : List (List Dat)}
    (hoo : ownOf σ a = some o) (ha : VR φ a a') (hd : D o.id) (ht : P.underlying t = some (.slice e)) (hti : P.info? e = some ti) (hsz : ti.size = o.l.length)
    (rz : ∀ w, (zeroValue e).run P w = .ok z' w) (hzs : z'.cells.size = o.l.length) (het : o.t = e) (hsrc : SrcR P φ w e ti u o.cid o.l x2 x' rows2)
    (hb1 : ∀ rows, o.x.dat = .lst rows → rows.length ≤ 1000000000) (hb2 : rows2.length ≤ 1000000000) (hbw : ti.bytes ≤ 16384) (hy : y'.dat = .int (b2i (decide (o.y.dat.toI ≠ 0 ∨ rows2 ≠ [])))) :
    ∃ φ' w' v', (Builtin.append_ #[t, u] ty #[a', x']).run P w = .ok v' w' ∧ VR φ' (.opq 2 o.id (o.ver + 1) (.slc o.l) (.lit 0) y') v' ∧
      Post R D φ σ w (σ.put o.id (.opq 2 (o.ver + 1) o.cid (.slc o.l) (.pr 9 o.x x2) y' [] o.t)) φ' w' := by
  obtain ⟨z, _, ho, hl0⟩ := ownOf_ok hoo
  obtain ⟨rows, hx, hr, hor⟩ := own_val hi hoo ha hd
  obtain ⟨hx2, hr2, arr, hv2, hap⟩ := hsrc
  have hlt := hi.lt ho
  have hrows := hb1 rows hx
  have hxx : (Sx.pr 9 o.x x2).dat = .lst (rows ++ rows2) := by
    show Dat.lst (o.x.dat.toL ++ x2.dat.toL) = _
    rw [hx, hx2]; rfl
  have hrr : RowsOk o.l (rows ++ rows2) := fun r hm => by
    rcases List.mem_append.1 hm with h | h
    · exact hr r h
    · exact hr2 r h
  have hl2 := litRows_length o.cid o.l rows2 (rows_len hr2)
  have hl1 := litRows_length o.cid o.l rows (rows_len hr)
  have harr : arr.size = rows2.length * o.l.length := by have := hv2.length; simp [hl2] at this; exact this
  have hbig : ∀ n : Nat, n ≤ 2000000000 → (2 * n + 1024) * ti.bytes ≤ 70368744177664 := fun n hn => by
    have : (2 * n + 1024) * ti.bytes ≤ 4000001024 * 16384 := Nat.mul_le_mul (by omega) hbw
    omega
  rcases hor with ⟨b, rfl, y0, rfl, hR, hno⟩ | ⟨ex, c, rfl, y1, he, hdn, hhi, hc, hbs, har⟩
  · by_cases h2 : rows2 = []
    · subst h2
      have hy0 : y'.dat = .int 0 := by rw [hy, y0]; rfl
      have : arr = #[] := by apply Array.eq_empty_of_size_eq_zero; simpa using harr
      subst this
      refine ⟨φ, w, .slice b 0 0, run_append_fits (w' := w) ht hti hap (Nat.le_refl _) (by cases b <;> rfl), .opq _ (.inl ⟨hy0, b, rfl⟩), .put0 hi hR hlt φ.le_refl hi.wf (fun _ _ _ => rfl) (fun v e he => .inl ⟨v, e, he, rfl⟩) (.refl _ _ _) ?_⟩
      exact ⟨o.l, [], rfl, hxx, hrr, .inl ⟨hy0, rfl, rfl, hR, fun v hv => hno v (by omega)⟩⟩
    · have hn0 : rows2.length ≠ 0 := fun h => h2 (List.length_eq_zero_iff.1 h)
      have hy1 : y'.dat = .int 1 := by rw [hy]; simp [h2, b2i]
      obtain ⟨c', hc', hrun⟩ := run_append_grows (ty := ty) (base := b) (sLen := 0) (sCap := 0) (n := rows2.length) (old := #[]) ht hti hap rz (by omega) (by cases b <;> simp [Builtin.firstCells, loadCells, loadCellsFrom]) (by omega) (not_big (by omega) (hbig _ (by omega)))
      have hwd : WF R φ w.drew := ⟨hi.wf.inj, hi.wf.lt, hi.wf.top⟩
      have hcs : (#[] ++ arr ++ Builtin.zeroCells z'.cells (c' - (0 + rows2.length)) : Array Value).size = c' * o.l.length := by
        rw [Array.size_append, Array.size_append, zeroCells_size, hzs, harr]
        have e1 : rows2.length * o.l.length + (c' - (0 + rows2.length)) * o.l.length = c' * o.l.length := by rw [← Nat.add_mul]; congr 1; omega
        simpa using e1
      have hle' : rows2.length * o.l.length ≤ c' * o.l.length := Nat.mul_le_mul_right _ (by omega)
      generalize hcsd : (#[] ++ arr ++ Builtin.zeroCells z'.cells (c' - (0 + rows2.length)) : Array Value) = cs at hcs hrun
      have hget : ∀ k, k < rows2.length * o.l.length → cs[k]? = arr[k]? := fun k hk => by
        rw [← hcsd, Array.empty_append, Array.getElem?_append_left (by omega)]
      let ex : Ext := ⟨w.heap.size, 0, 0, rows2.length * o.l.length, c' * o.l.length, []⟩
      have hle := φ.le_ins ex (hno (o.ver + 1) (by omega))
      refine ⟨φ.ins o.id (o.ver + 1) ex, _, _, hrun, .opq _ (.inr ⟨hy1, o.l, ex, c', rows2.length, rfl, PM.ins_same _ _ _ _, rfl, rfl, by omega, by simp [ex], ?_⟩), ?_⟩
      · simp [ex]
      · have hid : ∀ i, i ≠ o.id → ∀ v, φ.ins o.id (o.ver + 1) ex i v = φ i v := fun i h v => φ.ins_id ex h v
        have htop : ex.hi + ex.up ≤ ex.bsz + ex.dn := by show rows2.length * o.l.length + 0 ≤ c' * o.l.length + 0; omega
        have hi2 : Inv0 R D φ σ w.drew := hi.inv.drew.inv0
        refine Post.drew (.put0 hi2 hR hlt hle (hwd.alloc _ rfl htop) hid (fun v f hf => ?_) ⟨by rw [World.size_alloc]; omega, fun b' hb' _ => alloc_old _ _ hb', rfl, rfl, rfl⟩ ?_)
        · unfold PM.ins at hf
          split at hf
          · simp only [Option.some.injEq] at hf; subst hf; exact .inr (Nat.le_refl _)
          · exact .inl ⟨v, f, hf, rfl⟩
        · refine ⟨o.l, [] ++ rows2, rfl, hxx, hrr, .inr ⟨hy1, ⟨ex, PM.ins_same _ _ _ _, ?_⟩, ?_⟩⟩
          · rw [List.append_nil, List.nil_append, hl2]
          · rw [List.append_nil, List.nil_append, het]
            refine .single hR (PM.ins_same _ _ _ _) (fun v hv => by rw [PM.ins_ver _ _ (by omega)]; exact hno v (by omega)) (alloc_new _ _) (by simpa using hcs) (by rw [hl2]; exact Nat.le_refl _) (.inl rfl) fun x a _ x2 x3 => ?_
            rw [hl2] at x2
            obtain ⟨a', q1, q2⟩ := hv2.get x3
            refine ⟨a', ?_, q2.mono hle⟩
            show cs[x + 0 - 0]? = some a'
            rw [Nat.add_zero, Nat.sub_zero, hget x x2]
            simpa using q1
  · have hR := har.1
    have hno : ∀ v, o.ver + 1 ≤ v → φ o.id v = none := har.2.2.2.2.1
    have hy1 : y'.dat = .int 1 := by rw [hy, y1]; simp [Dat.toI, b2i]
    by_cases h2 : rows2 = []
    · subst h2
      have : arr = #[] := by apply Array.eq_empty_of_size_eq_zero; simpa using harr
      subst this
      have hst : (storeCells ((⟨ex.blk, ex.up, none⟩ : Addr).add (rows.length * ti.size)) (#[] : Array Value).toList).run P w = .ok () w := rfl
      have hrun := run_append_fits (ty := ty) (w' := w) (base := some ⟨ex.blk, ex.up, none⟩) (sLen := rows.length) (sCap := c) ht hti hap (by simpa using hc) hst
      have hle := φ.le_ins ex (hno (o.ver + 1) (Nat.le_refl _))
      refine ⟨φ.ins o.id (o.ver + 1) ex, w, _, hrun, .opq _ (.inr ⟨hy1, o.l, ex, c, rows.length, rfl, PM.ins_same _ _ _ _, hdn, hhi.symm, hc, hbs, rfl⟩), ?_⟩
      refine .put0 hi hR hlt hle (hi.wf.ver he hR rfl (hi.wf.top _ _ _ he)) (fun i h v => φ.ins_id ex h v) (fun v f hf => ?_) (.refl _ _ _) ?_
      · unfold PM.ins at hf
        split at hf
        · simp only [Option.some.injEq] at hf; subst hf; exact .inl ⟨o.ver, ex, he, rfl⟩
        · exact .inl ⟨v, f, hf, rfl⟩
      · obtain ⟨e3, cs, fl, fh, he3, hb, k1, k2, k4, k5⟩ := own_block har
        rw [he] at he3; simp only [Option.some.injEq] at he3; subst he3
        refine ⟨o.l, rows ++ [], rfl, hxx, hrr, .inr ⟨hy1, ⟨ex, PM.ins_same _ _ _ _, ?_⟩, ?_⟩⟩
        · rw [List.append_nil, List.append_nil, hl1]; exact hhi
        · rw [List.append_nil, List.append_nil]
          exact .single hR (PM.ins_same _ _ _ _) (fun v hv => by rw [PM.ins_ver _ _ (by omega)]; exact hno v (by omega)) hb k1 k2 k4 fun x a x1 x2 x3 => let ⟨a', q1, q2⟩ := k5 x a x1 x2 x3; ⟨a', q1, q2.mono hle⟩
    · have hn0 : rows2.length ≠ 0 := fun h => h2 (List.length_eq_zero_iff.1 h)
      have hi2 := hi.recast hlt (oc := .arr (litRows o.cid o.l rows) o.ver (litRows o.cid o.l rows).length (o.ver + 1) (o.ver + 1) o.t) har
      have hlim : limV o.ver (litRows o.cid o.l rows).length o.ver ex = (litRows o.cid o.l rows).length := by simp [limV]
      obtain ⟨φ', w', v', q1, q2, q3⟩ := append_any (P := P) (ty := ty) (u := u) (x' := x') (arr := arr) (new := litRows o.cid o.l rows2) (σ := { σ with heap := σ.heap.set o.id (.arr (litRows o.cid o.l rows) o.ver (litRows o.cid o.l rows).length (o.ver + 1) (o.ver + 1) o.t) })
        (id := o.id) (ver := o.ver) (off := 0) (len := rows.length) (base := o.ver) (lim := (litRows o.cid o.l rows).length) (since := o.ver + 1) (base' := o.ver) (lim' := 0) (since' := o.ver + 1) (nv := o.ver + 1) (et := o.t) (o := ex.up) (cc := c) (c := litRows o.cid o.l rows) (ex := ex)
        hi2.inv ht hti hsz rz hzs hap hv2 hl2 (litRows_flat _ _ _) hn0 (T.get_set_same _ _ _) hd he (by omega) hc (.inr ⟨by omega, by omega⟩) (hbig _ (by omega)) (by omega) (.inl rfl) (by rw [hlim, hl1]; omega) het
        (by
          intro v hv
          rcases hv with rfl | ⟨h1, h2⟩
          · exact .inr ⟨.inl rfl, by omega, fun f _ => by simp [limV]⟩
          · exact .inl (by omega)) (by omega) (by omega) (Nat.zero_le _) (by omega)
      rw [Nat.zero_add, ← hl1, List.take_length, ← litRows_append] at q3
      refine ⟨φ', w', v', q1, ?_, Post.recast hd hlt q3 fun hrep => ?_⟩
      · have hrep := q3.rep o.id (.inl ⟨hd, hlt⟩)
        simp only [St.put, T.get_set_same] at hrep
        have hrep : ArrRep R φ' w' o.id (litRows o.cid o.l (rows ++ rows2)) o.ver 0 (o.ver + 1) (o.ver + 1 + 1) o.t := hrep
        obtain ⟨_, e2, he2, hh2⟩ := hrep.renew (Nat.le_refl _) (by omega)
        cases q2 with
        | slc ex2 o2 c2 g1 g2 g3 g4 g5 g6 =>
          rw [he2] at g1; simp only [Option.some.injEq] at g1; subst g1
          rcases g6 with g6 | ⟨g6, g7⟩
          · omega
          · have : o2 = e2.up := by omega
            subst this
            refine .opq _ (.inr ⟨hy1, o.l, _, c2, rows.length + rows2.length, rfl, he2, by omega, ?_, g4, g7, rfl⟩)
            rw [hh2, litRows_length _ _ _ (rows_len hrr), List.length_append]
      · have hrep : ArrRep R φ' w' o.id (litRows o.cid o.l (rows ++ rows2)) o.ver 0 (o.ver + 1) (o.ver + 1 + 1) o.t := hrep
        obtain ⟨r1, e2, he2, hh2⟩ := hrep.renew (Nat.le_refl _) (by omega)
        refine ⟨o.l, rows ++ rows2, rfl, hxx, hrr, .inr ⟨hy1, ⟨e2, he2, ?_⟩, ?_⟩⟩
        · rw [List.append_nil]; exact hh2
        · rw [List.append_nil]; exact r1
theorem Post.mk0 {o : Ob} (hi : Inv0 R D φ σ w) (hrep : Rep R φ w σ.next (some o)) : Post R D φ σ w (σ.mk' o) φ w where
  le := φ.le_refl
  grow := fun _ _ _ _ => rfl
  wrR := fun _ h => .inl h
  wf := hi.wf
  blk := fun i v e he => .inl ⟨v, e, he, rfl⟩
  rep := fun i h => by
    by_cases e : i = σ.next
    · subst e; simpa [St.mk', T.get_set_same] using hrep
    · have : (σ.mk' o).heap.get i = σ.heap.get i := T.get_set_ne _ _ e
      rw [this]
      have hl : i < σ.next := by
        rcases h with ⟨_, h⟩ | ⟨h1, h2⟩
        · exact h
        · simp only [St.mk'] at h2; omega
      have hd : D i := by
        rcases h with ⟨h, _⟩ | ⟨h1, h2⟩
        · exact h
        · omega
      exact hi.rep i hd hl
  frm := .refl _ _ _
theorem own_new (hi : Inv0 R D φ σ w) {t u ty e : TypeId} {ti : TypeInfo} {z' : Value} {b : Option Addr} {x' : Value} {cid : Nat} {l : List Sh} {x2 y' : Sx} {rows2 : List (List Dat)}
    (hfree : ∀ v, φ σ.next v = none) (ht : P.underlying t = some (.slice e)) (hti : P.info? e = some ti) (_hsz : ti.size = l.length)
    (rz : ∀ w, (zeroValue e).run P w = .ok z' w) (hzs : z'.cells.size = l.length) (hsrc : SrcR P φ w e ti u cid l x2 x' rows2)
    (hb2 : rows2.length ≤ 1000000000) (hbw : ti.bytes ≤ 16384) (hy : y'.dat = .int (b2i (decide (rows2 ≠ [])))) :
    ∃ φ' w' v', (Builtin.append_ #[t, u] ty #[.slice b 0 0, x']).run P w = .ok v' w' ∧ VR φ' (.opq 2 σ.next 0 (.slc l) (.lit 0) y') v' ∧
      Post R D φ σ w (σ.mk' (.opq 2 0 cid (.slc l) x2 y' [] e)) φ' w' := by
  obtain ⟨hx2, hr2, arr, hv2, hap⟩ := hsrc
  have hl2 := litRows_length cid l rows2 (rows_len hr2)
  have harr : arr.size = rows2.length * l.length := by have := hv2.length; simp [hl2] at this; exact this
  have hbig : ∀ n : Nat, n ≤ 2000000000 → (2 * n + 1024) * ti.bytes ≤ 70368744177664 := fun n hn => by
    have : (2 * n + 1024) * ti.bytes ≤ 4000001024 * 16384 := Nat.mul_le_mul (by omega) hbw
    omega
  by_cases h2 : rows2 = []
  · subst h2
    have hy0 : y'.dat = .int 0 := by rw [hy]; rfl
    have : arr = #[] := by apply Array.eq_empty_of_size_eq_zero; simpa using harr
    subst this
    refine ⟨φ, w, .slice b 0 0, run_append_fits (w' := w) ht hti hap (Nat.le_refl _) (by cases b <;> rfl), .opq _ (.inl ⟨hy0, b, rfl⟩), .mk0 hi ?_⟩
    exact ⟨l, [], rfl, hx2, hr2, .inl ⟨hy0, rfl, rfl, hi.low, fun v _ => hfree v⟩⟩
  · have hn0 : rows2.length ≠ 0 := fun h => h2 (List.length_eq_zero_iff.1 h)
    have hy1 : y'.dat = .int 1 := by rw [hy]; simp [h2, b2i]
    obtain ⟨c', hc', hrun⟩ := run_append_grows (ty := ty) (base := b) (sLen := 0) (sCap := 0) (n := rows2.length) (old := #[]) ht hti hap rz (by omega) (by cases b <;> simp [Builtin.firstCells, loadCells, loadCellsFrom]) (by omega) (not_big (by omega) (hbig _ (by omega)))
    have hcs : (#[] ++ arr ++ Builtin.zeroCells z'.cells (c' - (0 + rows2.length)) : Array Value).size = c' * l.length := by
      rw [Array.size_append, Array.size_append, zeroCells_size, hzs, harr]
      have e1 : rows2.length * l.length + (c' - (0 + rows2.length)) * l.length = c' * l.length := by rw [← Nat.add_mul]; congr 1; omega
      simpa using e1
    have hle' : rows2.length * l.length ≤ c' * l.length := Nat.mul_le_mul_right _ (by omega)
    generalize hcsd : (#[] ++ arr ++ Builtin.zeroCells z'.cells (c' - (0 + rows2.length)) : Array Value) = cs at hcs hrun
    have hget : ∀ k, k < rows2.length * l.length → cs[k]? = arr[k]? := fun k hk => by
      rw [← hcsd, Array.empty_append, Array.getElem?_append_left (by omega)]
    let ex : Ext := ⟨w.heap.size, 0, 0, rows2.length * l.length, c' * l.length, []⟩
    have hle := φ.le_ins ex (hfree 0)
    have hi2 : Inv0 R D φ σ w.drew := hi.inv.drew.inv0
    have htop : ex.hi + ex.up ≤ ex.bsz + ex.dn := by show rows2.length * l.length + 0 ≤ c' * l.length + 0; omega
    refine ⟨φ.ins σ.next 0 ex, _, _, hrun, .opq _ (.inr ⟨hy1, l, ex, c', rows2.length, rfl, PM.ins_same _ _ _ _, rfl, rfl, by omega, by simp [ex], ?_⟩), Post.drew (.new hi2.inv hfree rfl htop ?_)⟩
    · simp [ex]
    · refine ⟨l, rows2, rfl, hx2, hr2, .inr ⟨hy1, ⟨ex, PM.ins_same _ _ _ _, ?_⟩, ?_⟩⟩
      · rw [List.append_nil, hl2]
      · rw [List.append_nil]
        refine .single hi.low (PM.ins_same _ _ _ _) (fun v hv => by rw [PM.ins_ver _ _ (by omega)]; exact hfree v) (alloc_new _ _) (by simpa using hcs) (by rw [hl2]; exact Nat.le_refl _) (.inl rfl) fun x a _ x2 x3 => ?_
        rw [hl2] at x2
        obtain ⟨a', q1, q2⟩ := hv2.get x3
        refine ⟨a', ?_, q2.mono hle⟩
        show cs[x + 0 - 0]? = some a'
        rw [Nat.add_zero, Nat.sub_zero, hget x x2]
        simpa using q1
end
section
variable (P : Program) (dec : Bx → Option Bool) (σ : St)
structure Src where
  x : Sx
  rd : List Nat
  some : Bool
def smallS (x : Sx) : Bool := isT dec (.cmp .leq (lenS x) (.lit 1000000000))
def srcOf (cid : Nat) (l : List Sh) (v : AV) : Option Src := match v with
  | .opq k id2 _ (.slc l2) x2 _ => bif Nat.beq k 0 then
      (bif (Nat.beq id2 cid || Nat.beq id2 gid || flatL l) && (Sh.sameL l l2 && (frzOk σ id2 && smallS dec x2)) then Option.some ⟨x2, frzRd id2, false⟩ else none)
    else (match ownOf σ v with
      | Option.some o => bif (Nat.beq o.cid cid || flatL l) && (Sh.sameL l o.l && smallS dec o.x) then Option.some ⟨o.x, [o.id], false⟩ else none
      | none => none)
  | v => match lenOfA v with
    | Option.some n => match firstA l.length n v σ with
      | Option.some (cs, _) => match cvtRows cid l n cs with
        | Option.some e => bif Nat.ble n 1000000000 then Option.some ⟨e, (match v with
            | .slc id _ _ _ _ _ => [id]
            | _ => []), Nat.blt 0 n⟩ else none
        | none => none
      | none => none
    | none => none
def cidOf (v : AV) : Option (Nat × List Sh) := match v with
  | .opq k id2 _ (.slc l2) _ _ => bif Nat.beq k 0 then Option.some (id2, l2) else (match ownOf σ v with
    | Option.some o => Option.some (o.cid, o.l)
    | none => none)
  | _ => none
def orY (a : Sx) (b : Bool) (x : Sx) : Sx := bif b then .lit 1 else match a with
  | .lit (.ofNat 1) => .lit 1
  | a => .pr 28 a (.pr 29 x (.lit 0))
def emptyA : AV → Bool
  | .nils => true
  | .slc _ _ _ 0 (Option.some 0) _ => true
  | _ => false
def kAppend (ts : List TypeId) (args : List AV) : Option OhR := match ts, args with
  | [st, u], [s, x] => match P.underlying st with
    | Option.some (.slice e) => match szOf P e, byOf P e, zeroOf P e, zerosA P u with
      | Option.some size, Option.some bw, Option.some z, Option.some false =>
        bif Nat.beq z.cells.length size && Nat.ble bw 16384 then
          (bif emptyA s then (match cidOf σ x with
            | Option.some (cid, l) => bif Nat.beq size l.length && Nat.blt 0 size then (match srcOf dec σ cid l x with
              | Option.some r => Option.some ⟨.opq 2 σ.next 0 (.slc l) (.lit 0) (.pr 29 r.x (.lit 0)), r.rd, none, Option.some (.opq 2 0 cid (.slc l) r.x (.pr 29 r.x (.lit 0)) [] e)⟩
              | none => none) else none
            | none => none)
          else match ownOf σ s with
            | Option.some o => bif Nat.beq size o.l.length && Nat.beq o.t e && smallS dec o.x then (match srcOf dec σ o.cid o.l x with
              | Option.some r => Option.some ⟨.opq 2 o.id (o.ver + 1) (.slc o.l) (.lit 0) (orY o.y r.some r.x), r.rd, Option.some (o.id, .opq 2 (o.ver + 1) o.cid (.slc o.l) (.pr 9 o.x r.x) (orY o.y r.some r.x) [] o.t), none⟩
              | none => none) else none
            | none => none)
        else none
      | _, _, _, _ => none
    | _ => none
  | _, _ => none
end
section
variable [Val] {P : Program} {R : Nat} {D : Nat → Prop} {φ : PM} {σ : St} {w : World} {dec : Bx → Option Bool}
theorem smallS_ok (hdec : ∀ b v, dec b = some v → b.eval = v) {x : Sx} {rows : List (List Dat)} (h : smallS dec x = true) (hx : x.dat = .lst rows) : rows.length ≤ 1000000000 := by
  have := hdec _ _ (isT_ok h)
  simp only [Bx.eval, compI, decide_eq_true_eq, lenS_eval hx] at this
  have : (rows.length : Int) ≤ 1000000000 := this
  omega
theorem gc_rows {id : Nat} {l : List Sh} {rows : List (List Dat)} {a : Option Addr} {n c : Nat} (h : GC (Pict φ id) (.slc l) (.lst rows) (.slice a n c)) (hi : Inv0 R D φ σ w) (hf : frzOk σ id = true) (hk : Known D σ (lgAll (frzRd id) σ)) :
    n = rows.length ∧ RowsOk l rows ∧ ∃ arr : Array Value, VRL φ (litRows id l rows) arr.toList ∧ ∀ w₂ : World, w₂.heap = w.heap → (Builtin.firstCells l.length n (.slice a n c)).run P w₂ = .ok arr w₂ := by
  obtain ⟨rows', hx, rfl, hc, hor⟩ := h.inv_slc
  simp only [Dat.lst.injEq] at hx; subst hx
  refine ⟨rfl, ?_, ?_⟩
  · intro r hr
    obtain ⟨i, hi', rfl⟩ := List.getElem_of_mem hr
    have hg := List.getElem?_eq_getElem hi'
    rcases hor with h0 | ⟨b, s, o, vf, _, hp, hl, hs, hgc⟩
    · omega
    · exact ⟨hl _ _ hg, fun j s' d h1 h2 => (hgc _ _ _ _ _ hg h1 h2).cellOk⟩
  · rcases hor with h0 | ⟨b, s, o, vf, rfl, hp, hl, hs, hgc⟩
    · have := List.length_eq_zero_iff.1 h0; subst this
      refine ⟨#[], .nil, fun w₂ _ => ?_⟩
      cases a <;> simp [Builtin.firstCells, loadCells, loadCellsFrom]
    · obtain ⟨bt, fr, hblk⟩ := frz_pict hi hf hk hp
      have hll : ∀ r ∈ rows, r.length = l.length := fun r hr => by
        obtain ⟨i, hi', rfl⟩ := List.getElem_of_mem hr
        exact hl _ _ (List.getElem?_eq_getElem hi')
      have hlen := litRows_length id l rows hll
      have hget : ∀ k, k < rows.length * l.length → ∃ v, s[o + k]? = some v ∧ ∃ av, (litRows id l rows)[k]? = some av ∧ VR φ av v := by
        intro k hk
        have hl0 : 0 < l.length := by
          rcases Nat.eq_zero_or_pos l.length with h | h
          · rw [h] at hk; omega
          · exact h
        have hi' : k / l.length < rows.length := (Nat.div_lt_iff_lt_mul hl0).2 hk
        have hj : k % l.length < l.length := Nat.mod_lt _ hl0
        have hkk : k = k / l.length * l.length + k % l.length := by rw [Nat.mul_comm]; exact (Nat.div_add_mod k l.length).symm
        have hrow : rows[k / l.length]? = some rows[k / l.length] := List.getElem?_eq_getElem hi'
        have hsj : l[k % l.length]? = some l[k % l.length] := List.getElem?_eq_getElem hj
        obtain ⟨d, hd⟩ : ∃ d, (rows[k / l.length])[k % l.length]? = some d := ⟨_, List.getElem?_eq_getElem (by rw [hl _ _ hrow]; exact hj)⟩
        refine ⟨vf (k / l.length) (k % l.length), ?_, litAV id l[k % l.length] d, ?_, (hgc _ _ _ _ _ hrow hsj hd).lit⟩
        · have := hs (k / l.length) (k % l.length) hi' hj
          rw [Nat.add_assoc, ← hkk] at this; exact this
        · have := litRows_get id l rows hll (k / l.length) (k % l.length) _ hrow hj
          rw [← hkk, litRow_get id l _ _ _ _ hsj hd] at this
          exact this
      have hsz : rows.length * l.length = 0 ∨ o + rows.length * l.length ≤ s.length := by
        rcases Nat.eq_zero_or_pos (rows.length * l.length) with h | h
        · exact .inl h
        · obtain ⟨v, hv, _⟩ := hget (rows.length * l.length - 1) (by omega)
          rcases Nat.lt_or_ge (o + (rows.length * l.length - 1)) s.length with h' | h'
          · right; omega
          · rw [List.getElem?_eq_none h'] at hv; cases hv
      rcases hsz with hz | hsz
      · refine ⟨#[], ?_, fun w₂ _ => ?_⟩
        · have : litRows id l rows = [] := List.length_eq_zero_iff.1 (by omega)
          rw [this]; exact .nil
        · simp [Builtin.firstCells, hz, loadCells, loadCellsFrom]
      · refine ⟨((s.drop o).take (rows.length * l.length)).toArray, ?_, fun w₂ hw => ?_⟩
        · refine VRL.of_get (by simp [hlen]; omega) fun k av v h1 h2 => ?_
          have hk' : k < rows.length * l.length := by
            rcases Nat.lt_or_ge k (rows.length * l.length) with h | h
            · exact h
            · rw [List.getElem?_eq_none (by omega)] at h1; cases h1
          obtain ⟨v', q1, av', q2, q3⟩ := hget k hk'
          rw [q2] at h1; simp only [Option.some.injEq] at h1; subst h1
          have h2 : ((s.drop o).take (rows.length * l.length))[k]? = some v := by simpa using h2
          rw [List.getElem?_take_of_lt hk', List.getElem?_drop, q1] at h2
          simp only [Option.some.injEq] at h2; subst h2
          exact q3
        · have := run_loadCells_row (P := P) (w := w₂) (b := b) (k := o) (n := rows.length * l.length) (by rw [hw]; exact hblk) (by simpa using hsz)
          simpa [Builtin.firstCells] using this
theorem own_first (hi : Inv0 R D φ σ w) {a : AV} {a' : Value} {o : Own} (h : ownOf σ a = some o) (ha : VR φ a a') (hd : D o.id) : ∃ rows b c, a' = .slice b rows.length c ∧ o.x.dat = .lst rows ∧ RowsOk o.l rows ∧
    ∃ arr : Array Value, VRL φ (litRows o.cid o.l rows) arr.toList ∧ ∀ w₂ : World, w₂.heap = w.heap → (Builtin.firstCells o.l.length rows.length a').run P w₂ = .ok arr w₂ := by
  obtain ⟨rows, hx, hr, hor⟩ := own_val hi h ha hd
  have hlen := litRows_length o.cid o.l rows (rows_len hr)
  rcases hor with ⟨b, rfl, _, rfl, _⟩ | ⟨e, c, rfl, _, he, hdn, hhi, hc, hbs, har⟩
  · refine ⟨[], b, 0, rfl, hx, hr, #[], .nil, fun w₂ _ => ?_⟩
    cases b <;> simp [Builtin.firstCells, loadCells, loadCellsFrom]
  · refine ⟨rows, _, c, rfl, hx, hr, ?_⟩
    obtain ⟨e3, cs, fl, fh, he3, hb, k1, k2, k4, k5⟩ := own_block har
    rw [he] at he3; simp only [Option.some.injEq] at he3; subst he3
    have hm := Nat.mul_le_mul_right o.l.length hc
    have hsz : e.up + rows.length * o.l.length ≤ cs.size := by omega
    refine ⟨((cs.toList.drop e.up).take (rows.length * o.l.length)).toArray, ?_, fun w₂ hw => ?_⟩
    · refine VRL.of_get (by simp [hlen]; omega) fun k av v h1 h2 => ?_
      have hk' : k < rows.length * o.l.length := by
        rcases Nat.lt_or_ge k (rows.length * o.l.length) with h | h
        · exact h
        · rw [List.getElem?_eq_none (by omega)] at h1; cases h1
      obtain ⟨v', q1, q2⟩ := k5 k av (by omega) (by omega) h1
      have h2 : ((cs.toList.drop e.up).take (rows.length * o.l.length))[k]? = some v := by simpa using h2
      rw [List.getElem?_take_of_lt hk', List.getElem?_drop, Array.getElem?_toList, show e.up + k = k + e.up - e.dn by omega, q1] at h2
      simp only [Option.some.injEq] at h2; subst h2
      exact q2
    · have := run_loadCells_row (P := P) (w := w₂) (b := e.blk) (k := e.up) (n := rows.length * o.l.length) (by rw [hw]; exact hb) hsz
      simpa [Builtin.firstCells] using this
theorem srcOf_ok (hi : Inv0 R D φ σ w) (hdec : ∀ b v, dec b = some v → b.eval = v) {cid : Nat} {l : List Sh} {v : AV} {x' : Value} {r : Src} {e u : TypeId} {ti : TypeInfo} (h : srcOf dec σ cid l v = some r) (hv : VR φ v x') (hk : Known D σ (lgAll r.rd σ))
    (hu : zerosA P u = some false) (hsz : ti.size = l.length) : ∃ rows, SrcR P φ w e ti u cid l r.x x' rows ∧ rows.length ≤ 1000000000 ∧ (r.some = true → rows ≠ []) := by
  have hud : ∃ d, P.underlying u = some d ∧ ∀ k, d ≠ .int k := by
    unfold zerosA at hu
    split at hu
    · cases hu
    · rename_i d hne hu2
      exact ⟨_, hu2, fun k hk => hne k hk⟩
    · cases hu
  obtain ⟨d, hu2, hd⟩ := hud
  unfold srcOf at h
  split at h
  · rename_i k id2 ver l2 x2 y
    rw [cond_eq_ite] at h
    split at h
    · rename_i hb
      have := beq_t hb; subst this
      simp only [cond_eq_ite, Bool.and_eq_true, Bool.or_eq_true] at h
      split at h
      · rename_i hb
        obtain ⟨b1, b2, b3, b4⟩ := hb
        have := Sh.sameL_eq b2; subst this
        simp only [Option.some.injEq] at h; subst h
        cases hv with
        | opq v hkv =>
          obtain ⟨l', a, n, c, hl, rfl, hg⟩ := hkv
          simp only [Sh.slc.injEq] at hl; subst hl
          obtain ⟨rows, hx, _⟩ := hg.inv_slc
          have hg' := hg
          rw [hx] at hg'
          obtain ⟨rfl, hr, arr, q1, q2⟩ := gc_rows (P := P) hg' hi b3 hk
          have hlit : litRows id2 l rows = litRows cid l rows ∨ id2 = gid := by
            rcases b1 with (b1 | b1) | b1
            · have := beq_t b1; subst this; exact .inl rfl
            · exact .inr (beq_t b1)
            · exact .inl (litRows_any b1 rows)
          have hvr : VRL φ (litRows cid l rows) arr.toList := by
            rcases hlit with h | rfl
            · rw [← h]; exact q1
            · have hg2 : GC (Pict φ cid) (.slc l) (.lst rows) (.slice a rows.length c) := hg'.mono fun _ _ hp => hp.gid cid
              refine VRL.of_get (by
                have h1 := q1.length
                rw [litRows_length _ _ _ (rows_len hr)] at h1 ⊢
                exact h1.symm) fun k av v h1 h2 => ?_
              have hlen := litRows_length cid l rows (rows_len hr)
              have hk' : k < rows.length * l.length := by
                rcases Nat.lt_or_ge k (rows.length * l.length) with h | h
                · exact h
                · rw [List.getElem?_eq_none (by omega)] at h1; cases h1
              have hl0 : 0 < l.length := by
                rcases Nat.eq_zero_or_pos l.length with h | h
                · rw [h] at hk'; omega
                · exact h
              have hi' : k / l.length < rows.length := (Nat.div_lt_iff_lt_mul hl0).2 hk'
              have hj : k % l.length < l.length := Nat.mod_lt _ hl0
              have hkk : k = k / l.length * l.length + k % l.length := by rw [Nat.mul_comm]; exact (Nat.div_add_mod k l.length).symm
              have hrow : rows[k / l.length]? = some rows[k / l.length] := List.getElem?_eq_getElem hi'
              have hsj : l[k % l.length]? = some l[k % l.length] := List.getElem?_eq_getElem hj
              obtain ⟨dd, hdd⟩ : ∃ d, (rows[k / l.length])[k % l.length]? = some d := ⟨_, List.getElem?_eq_getElem (by rw [(hr _ (List.getElem_mem hi')).1]; exact hj)⟩
              have g1 := litRows_get cid l rows (rows_len hr) (k / l.length) (k % l.length) _ hrow hj
              rw [← hkk, litRow_get cid l _ _ _ _ hsj hdd, h1] at g1
              simp only [Option.some.injEq] at g1; subst g1
              have g2 := litRows_get gid l rows (rows_len hr) (k / l.length) (k % l.length) _ hrow hj
              rw [← hkk, litRow_get gid l _ _ _ _ hsj hdd] at g2
              obtain ⟨v', y1, y2⟩ := q1.get g2
              rw [h2] at y1; simp only [Option.some.injEq] at y1; subst y1
              generalize l[k % l.length] = sj at y2
              cases sj with
              | int k => exact y2
              | bool => exact y2
              | str => exact y2
              | slc ll =>
                have y2 : VR φ (.opq 0 gid 0 (.slc ll) (.dlit dd) (.lit 0)) v := y2
                cases y2 with
                | opq v hkv =>
                  obtain ⟨l', a, n, c, hl, rfl, hg⟩ := hkv
                  exact .opq _ ⟨l', a, n, c, hl, rfl, hg.mono fun _ _ hp => hp.gid cid⟩
          exact ⟨rows, ⟨hx, hr, arr, hvr, .inl ⟨d, hu2, hd, rfl, by rw [hsz]; exact q2 w rfl, by rw [hsz]; exact q2 _ rfl⟩⟩, smallS_ok hdec b4 hx, fun h => by cases h⟩
      · cases h
    · split at h
      · rename_i o hoo
        simp only [cond_eq_ite, Bool.and_eq_true, Bool.or_eq_true] at h
        split at h
        · rename_i hb
          obtain ⟨b1, b2, b3⟩ := hb
          have := Sh.sameL_eq b2; subst this
          simp only [Option.some.injEq] at h; subst h
          obtain ⟨z, _, ho, _⟩ := ownOf_ok hoo
          obtain ⟨rows, b, c, rfl, hx, hr, arr, q1, q2⟩ := own_first (P := P) hi hoo hv (hk o.id (.inl (lgAll_rd _ _ _ (by simp))) (hi.lt ho))
          have hlit : litRows o.cid o.l rows = litRows cid o.l rows := by
            rcases b1 with b1 | b1
            · rw [beq_t b1]
            · exact litRows_any b1 rows
          exact ⟨rows, ⟨hx, hr, arr, hlit ▸ q1, .inl ⟨d, hu2, hd, rfl, by rw [hsz]; exact q2 w rfl, by rw [hsz]; exact q2 _ rfl⟩⟩, smallS_ok hdec b3 hx, fun h => by cases h⟩
        · cases h
      · cases h
  · rename_i v hnv
    split at h
    · rename_i n hn
      split at h
      · rename_i cs τ hfst
        split at h
        · rename_i ex hex
          rw [cond_eq_ite] at h
          split at h
          · rename_i hb
            have hb := ble_t hb
            simp only [Option.some.injEq] at h; subst h
            have hkτ : Known D σ τ := fun i hi' hl => hk i (by
              unfold firstA at hfst
              rcases hi' with hi' | hi'
              · left
                cases v <;> simp only [cond_eq_ite] at hfst <;> (try (repeat' split at hfst)) <;> (try (cases hfst; done)) <;>
                  (simp only [Option.some.injEq, Prod.mk.injEq] at hfst; obtain ⟨_, rfl⟩ := hfst) <;>
                  first
                  | exact (lgAll_step _ σ).rd i hi'
                  | (rcases mem_addL.1 hi' with rfl | h'
                     · exact lgAll_rd _ _ _ (by simp)
                     · exact (lgAll_step _ σ).rd i h')
              · right
                cases v <;> simp only [cond_eq_ite] at hfst <;> (try (repeat' split at hfst)) <;> (try (cases hfst; done)) <;>
                  (simp only [Option.some.injEq, Prod.mk.injEq] at hfst; obtain ⟨_, rfl⟩ := hfst) <;>
                  exact (lgAll_step _ σ).wr i hi') hl
            obtain ⟨arr, q1, q2, q3, _⟩ := firstA_ok (P := P) hi.inv hfst hv hkτ
            obtain ⟨rows, g1, g2, g3, g4⟩ := cvtRows_ok hex q2
            subst g2
            exact ⟨rows, ⟨g1, g3, arr, g4, .inl ⟨d, hu2, hd, lenOfA_ok hn hv w, by rw [hsz]; exact q1 w rfl, by rw [hsz]; exact q1 _ rfl⟩⟩, hb, fun h => by
              have := blt_t h
              intro h0; rw [h0] at this; simp at this⟩
          · cases h
        · cases h
      · cases h
    · cases h
end
end
end Go.Tw
namespace Go.Tw
/-! Something unknown behind a known array. -/
section
variable [Val] {P : Program} {R : Nat} {D : Nat → Prop} {φ : PM} {σ : St} {w : World} {dec : Bx → Option Bool}
theorem turn_arr {φ' : PM} {w' : World} {id nv t : Nat} {l : List Sh} {len : Nat} {c : List AV} {ec x2 : Sx} {rows2 : List (List Dat)} (hfl : flatL l = true) (hcv : cvtRows gid l len c = some ec) (hlen : len * l.length = c.length)
    (hx2 : x2.dat = .lst rows2) (hr2 : RowsOk l rows2) {e2 : Ext} (he2 : φ' id nv = some e2) (hh2 : e2.hi = (c ++ litRows gid l rows2).length) (hdn : e2.dn = 0)
    (h : ArrRep R φ' w' id (c ++ litRows gid l rows2) nv (c ++ litRows gid l rows2).length (nv + 1) (nv + 1) t) : Rep R φ' w' id (some (.opq 2 nv gid (.slc l) (.pr 9 ec x2) (.lit 1) [] t)) := by
  obtain ⟨hR, h1, h2, h3, h4, h5, h6, h7⟩ := h
  obtain ⟨e, cs, fl, fh, he, hb, k1, k2, k3, k4, k5⟩ := h5 nv (.inl rfl)
  rw [he2] at he; simp only [Option.some.injEq] at he; subst he
  have hlm : limV nv (c ++ litRows gid l rows2).length nv e2 = (c ++ litRows gid l rows2).length := by simp [limV]
  rw [hlm] at k2 k5
  have hvrl : VRL φ' c ((cs.toList.drop e2.up).take c.length) := by
    have hget : ∀ k, k < c.length → ∃ a', cs[e2.up + k]? = some a' ∧ VR φ' (c[k]?.getD .unk) a' := fun k hk => by
      have hav : (c ++ litRows gid l rows2)[k]? = some (c[k]?.getD .unk) := by
        rw [List.getElem?_append_left hk, List.getElem?_eq_getElem hk]; rfl
      obtain ⟨a', y1, y2⟩ := k5 k _ (by omega) (by rw [List.length_append]; omega) hav
      exact ⟨a', by rw [← y1]; congr 1; omega, y2⟩
    have hsz : c.length = 0 ∨ e2.up + c.length ≤ cs.size := by
      rcases Nat.eq_zero_or_pos c.length with h | h
      · exact .inl h
      · obtain ⟨a', y1, _⟩ := hget (c.length - 1) (by omega)
        rcases Nat.lt_or_ge (e2.up + (c.length - 1)) cs.size with h' | h'
        · right; omega
        · rw [Array.getElem?_eq_none h'] at y1; cases y1
    refine VRL.of_get (by simp; omega) fun k av z a1 a2 => ?_
    have hk : k < c.length := by
      rcases Nat.lt_or_ge k c.length with h | h
      · exact h
      · rw [List.getElem?_eq_none h] at a1; cases a1
    obtain ⟨a', y1, y2⟩ := hget k hk
    rw [List.getElem?_take_of_lt hk, List.getElem?_drop, Array.getElem?_toList, y1] at a2
    simp only [Option.some.injEq] at a2; subst a2
    rw [a1] at y2; exact y2
  obtain ⟨rows, r1, r2, r3, r4⟩ := cvtRows_ok hcv hvrl
  have hl1 := litRows_length gid l rows (rows_len r3)
  have hxx : (Sx.pr 9 ec x2).dat = .lst (rows ++ rows2) := by
    show Dat.lst (ec.dat.toL ++ x2.dat.toL) = _
    rw [r1, hx2]; rfl
  have hrr : RowsOk l (rows ++ rows2) := fun r hm => by
    rcases List.mem_append.1 hm with h | h
    · exact r3 r h
    · exact hr2 r h
  have hcl : (litRows gid l rows).length = c.length := by rw [hl1, r2, hlen]
  refine ⟨l, rows ++ rows2, rfl, hxx, hrr, .inr ⟨rfl, ⟨e2, he2, ?_⟩, ?_⟩⟩
  · rw [List.append_nil, litRows_append, List.length_append, hcl, hh2, List.length_append]
  · rw [List.append_nil, litRows_append]
    refine .single hR he2 (fun v hv => h4 v (by omega)) hb k1 (by rw [List.length_append, hcl, ← List.length_append]; exact k2) k4 fun k av x1 x2' x3 => ?_
    rw [List.length_append, hcl] at x2'
    by_cases hk : k < c.length
    · rw [List.getElem?_append_left (by omega)] at x3
      obtain ⟨z, y1, y2⟩ := r4.get x3
      rw [List.getElem?_take_of_lt hk, List.getElem?_drop, Array.getElem?_toList] at y1
      exact ⟨z, by rw [← y1]; congr 1; omega, y2⟩
    · rw [List.getElem?_append_right (by omega), hcl] at x3
      exact k5 k av x1 (by rw [List.length_append]; omega) (by rw [List.getElem?_append_right (by omega)]; exact x3)
theorem Post.reput {φ' : PM} {w' : World} {id : Nat} {o oc' : Ob} (hd : D id) (hlt : id < σ.next) (h : Post R D φ σ w (σ.put id oc') φ' w')
    (hr : Rep R φ' w' id (some oc') → Rep R φ' w' id (some o)) : Post R D φ σ w (σ.put id o) φ' w' where
  le := h.le
  grow := h.grow
  wrR := h.wrR
  wf := h.wf
  blk := h.blk
  rep := fun i hi => by
    by_cases e : i = id
    · subst e
      have := h.rep i (.inl ⟨hd, hlt⟩)
      simp only [St.put, T.get_set_same] at this ⊢
      exact hr this
    · have := h.rep i hi
      simp only [St.put] at this ⊢
      rw [T.get_set_ne _ _ e] at this ⊢
      exact this
  frm := h.frm
theorem arr_append (hi : Inv0 R D φ σ w) {t u ty e : TypeId} {ti : TypeInfo} {z' : Value} {a' x' : Value} {id ver len base lim since nv : Nat} {cap : Option Nat} {l : List Sh} {c : List AV} {ec x2 : Sx} {rows2 : List (List Dat)}
    (ho : σ.heap.get id = some (.arr c base lim since nv e)) (hfull : (ver = base ∧ lim = c.length) ∨ (ver + 1 = nv ∧ since ≤ ver ∧ ver ≠ base)) (hlen : len * l.length = c.length) (hl0 : 0 < len) (hw0 : 0 < l.length) (hcv : cvtRows gid l len c = some ec) (hfl : flatL l = true)
    (ha : VR φ (.slc id ver 0 len cap l.length) a') (hd : D id) (ht : P.underlying t = some (.slice e)) (hti : P.info? e = some ti) (hsz : ti.size = l.length)
    (rz : ∀ w, (zeroValue e).run P w = .ok z' w) (hzs : z'.cells.size = l.length) (hsrc : SrcR P φ w e ti u gid l x2 x' rows2)
    (hb1 : len ≤ 1000000000) (hb2 : rows2.length ≤ 1000000000) (hbw : ti.bytes ≤ 16384) :
    ∃ φ' w' v', (Builtin.append_ #[t, u] ty #[a', x']).run P w = .ok v' w' ∧ VR φ' (.opq 2 id nv (.slc l) (.lit 0) (.lit 1)) v' ∧
      Post R D φ σ w (σ.put id (.opq 2 nv gid (.slc l) (.pr 9 ec x2) (.lit 1) [] e)) φ' w' := by
  obtain ⟨hx2, hr2, arr, hv2, hap⟩ := hsrc
  have hlt := hi.lt ho
  have hl2 := litRows_length gid l rows2 (rows_len hr2)
  have harr : arr.size = rows2.length * l.length := by have := hv2.length; simp [hl2] at this; exact this
  have hbig : ∀ n : Nat, n ≤ 2000000000 → (2 * n + 1024) * ti.bytes ≤ 70368744177664 := fun n hn => by
    have : (2 * n + 1024) * ti.bytes ≤ 4000001024 * 16384 := Nat.mul_le_mul (by omega) hbw
    omega
  have hrep := hi.rep id hd hlt
  rw [ho] at hrep
  obtain ⟨hR, p1, p2, p3, hno, p5, p6, p7⟩ := hrep
  have hal : aliveV base since nv ver := by
    rcases hfull with ⟨h, _⟩ | ⟨h1, h2, _⟩
    · exact .inl h
    · exact .inr ⟨h2, by omega⟩
  have hvn : ver < nv := by
    rcases hal with h | h
    · omega
    · omega
  obtain ⟨ex0, cs, fl, fh, he0, hb, k1, k2, k3, k4, k5⟩ := p5 ver hal
  have hlim : limV base lim ver ex0 = c.length := by
    rcases hfull with ⟨ha, hb⟩ | ⟨ha, hb, hc⟩
    · simp [limV, ha, hb]
    · simp only [limV, if_neg hc]; exact p7 _ _ ha hb hc he0
  cases ha with
  | slc ex o cc g1 g2 g3 g4 g5 g6 =>
    rw [he0] at g1; simp only [Option.some.injEq] at g1; subst g1
    have hdn : ex0.dn = 0 := by omega
    obtain ⟨g7, g8⟩ := g6.resolve_left (by omega)
    have hoe : o = ex0.up := by omega
    subst hoe
    by_cases h2 : rows2 = []
    · subst h2
      have : arr = #[] := by apply Array.eq_empty_of_size_eq_zero; simpa using harr
      subst this
      have hst : (storeCells ((⟨ex0.blk, ex0.up, none⟩ : Addr).add (len * ti.size)) (#[] : Array Value).toList).run P w = .ok () w := rfl
      have hrun := run_append_fits (ty := ty) (w' := w) (base := some ⟨ex0.blk, ex0.up, none⟩) (sLen := len) (sCap := cc) ht hti hap (by simpa using g4) hst
      rw [hlim] at k2 k5
      have htop := hi.wf.top _ _ _ he0
      let ex : Ext := { ex0 with hi := c.length }
      have hle := φ.le_ins ex (hno nv (Nat.le_refl _))
      refine ⟨φ.ins id nv ex, w, _, hrun, .opq _ (.inr ⟨rfl, l, ex, cc, len, rfl, PM.ins_same _ _ _ _, hdn, hlen, g4, g8, rfl⟩), ?_⟩
      refine .put0 hi hR hlt hle (hi.wf.ver he0 hR rfl (by show c.length + ex0.up ≤ ex0.bsz + ex0.dn; omega)) (fun i h v => φ.ins_id ex h v) (fun v f hf => ?_) (.refl _ _ _) ?_
      · unfold PM.ins at hf
        split at hf
        · simp only [Option.some.injEq] at hf; subst hf; exact .inl ⟨ver, ex0, he0, rfl⟩
        · exact .inl ⟨v, f, hf, rfl⟩
      · refine turn_arr hfl hcv hlen hx2 hr2 (PM.ins_same _ _ _ _) (by simp [litRows, ex]) hdn ?_
        have hz : c ++ litRows gid l [] = c := by simp [litRows]
        rw [hz]
        exact .single hR (PM.ins_same _ _ _ _) (fun v hv => by rw [PM.ins_ver _ _ (by omega)]; exact hno v (by omega)) hb k1 (Nat.le_refl _) k4 fun x a x1 x2 x3 => let ⟨a', q1, q2⟩ := k5 x a x1 x2 x3; ⟨a', q1, q2.mono hle⟩
    · have hn0 : rows2.length ≠ 0 := fun h => h2 (List.length_eq_zero_iff.1 h)
      obtain ⟨φ', w', v', q1, q2, q3⟩ := append_any (P := P) (ty := ty) (u := u) (x' := x') (arr := arr) (new := litRows gid l rows2)
        (id := id) (ver := ver) (off := 0) (len := len) (base := base) (lim := lim) (since := since) (base' := ver) (lim' := 0) (since' := nv) (nv := nv) (et := e) (o := ex0.up) (cc := cc) (c := c) (ex := ex0)
        hi.inv ht hti hsz rz hzs hap hv2 hl2 (litRows_flat _ _ _) hn0 ho hd he0 (by omega) g4 (.inr ⟨by omega, g8⟩) (hbig _ (by omega)) (by omega) hal (by rw [hlim]; omega) rfl
        (by
          intro v hv
          rcases hv with rfl | ⟨h1, h2⟩
          · exact .inr ⟨hal, by omega, fun f _ => by simp [limV]⟩
          · exact .inl (by omega)) (by omega) (by omega) (Nat.zero_le _) (by omega)
      rw [Nat.zero_add, hlen, List.take_length] at q3
      have hrep := q3.rep id (.inl ⟨hd, hlt⟩)
      simp only [St.put, T.get_set_same] at hrep
      have hrep : ArrRep R φ' w' id (c ++ litRows gid l rows2) ver 0 nv (nv + 1) e := hrep
      obtain ⟨r1, e2, he2, hh2⟩ := hrep.renew (Nat.le_refl _) (by omega)
      cases q2 with
      | slc ex2 o2 c2 y1 y2 y3 y4 y5 y6 =>
        rw [he2] at y1; simp only [Option.some.injEq] at y1; subst y1
        rcases y6 with y6 | ⟨y6, y7⟩
        · omega
        · have : o2 = e2.up := by omega
          subst this
          refine ⟨φ', w', _, q1, .opq _ (.inr ⟨rfl, l, e2, c2, len + rows2.length, rfl, he2, by omega, ?_, y4, y7, rfl⟩), Post.reput hd hlt q3 fun _ => turn_arr hfl hcv hlen hx2 hr2 he2 hh2 (by omega) r1⟩
          · rw [hh2, List.length_append, hl2, Nat.add_mul, hlen]
end
noncomputable def kArrApp (P : Program) (dec : Bx → Option Bool) (σ : St) (ts : List TypeId) (s x : AV) : Option OhR := match ts, s, x with
  | [st, u], .slc id ver off len _ esz, .opq k xi xv (.slc l) xx xy => match P.underlying st, σ.heap.get id with
    | some (.slice e), some (.arr c base lim since nv t) => match szOf P e, byOf P e, zeroOf P e, zerosA P u with
      | some size, some bw, some z, some false =>
        bif Nat.beq z.cells.length size && (Nat.ble bw 16384 && (Nat.beq size l.length && (Nat.beq esz l.length && (Nat.beq off 0 && (Nat.blt 0 len && (Nat.blt 0 l.length && (Nat.beq (len * l.length) c.length && (flatL l && (Nat.beq t e && (Nat.ble len 1000000000 && ((Nat.beq ver base && Nat.beq lim c.length) || (Nat.beq (ver + 1) nv && (Nat.ble since ver && !Nat.beq ver base)))))))))))))
          then (match srcOf dec σ gid l (.opq k xi xv (.slc l) xx xy), cvtRows gid l len c with
            | some q, some ec => some ⟨.opq 2 id nv (.slc l) (.lit 0) (.lit 1), q.rd, some (id, .opq 2 nv gid (.slc l) (.pr 9 ec q.x) (.lit 1) [] e), none⟩
            | _, _ => none) else none
      | _, _, _, _ => none
    | _, _ => none
  | _, _, _ => none
theorem kArrApp_ok [Val] {P : Program} {R : Nat} {D : Nat → Prop} {φ : PM} {σ : St} {w : World} {dec : Bx → Option Bool} (hi : Inv0 R D φ σ w) (hdec : ∀ b v, dec b = some v → b.eval = v) {ts : List TypeId} {s x : AV} {ts' : Array TypeId} {args' : Array Value} {ty : TypeId} {r : OhR} (h : kArrApp P dec σ ts s x = some r)
    (hts : ts'.toList = ts) (hargs : VRL φ [s, x] args'.toList) (hk : Known D σ (r.to σ)) :
    ∃ φ' w' v', (Builtin.append_ ts' ty args').run P w = .ok v' w' ∧ VR φ' r.v v' ∧ Post R D φ σ w (r.to σ) φ' w' := by
  obtain ⟨s', x', hargs2, hs, hx⟩ := hargs.two
  subst hargs2
  unfold kArrApp at h
  split at h
  · rename_i st u id ver off len cap esz k xi xv l xx xy
    have hts2 : ts' = #[st, u] := by apply Array.ext'; simpa using hts
    subst hts2
    split at h
    · rename_i e c base lim since nv t hu ho
      split at h
      · rename_i size bw z h1 h2 h3 h4
        simp only [cond_eq_ite, Bool.and_eq_true, Bool.or_eq_true, Bool.not_eq_true'] at h
        split at h
        · rename_i hb
          obtain ⟨b1, b2, b3, b4, b5, b6, b7, b8, b9, b10, b11, b12⟩ := hb
          have hz := beq_t b1
          have hbw := ble_t b2
          have hsl := beq_t b3
          have := beq_t b4; subst this
          have := beq_t b5; subst this
          have := beq_t b10; subst this
          obtain ⟨ti, z', hti, hsz, hbw', rz, vz, hzs⟩ := info_of h1 h2 h3 hz
          split at h
          · rename_i q ec hq hec
            simp only [Option.some.injEq] at h; subst h
            have hto : ((⟨.opq 2 id nv (.slc l) (.lit 0) (.lit 1), q.rd, some (id, .opq 2 nv gid (.slc l) (.pr 9 ec q.x) (.lit 1) [] t), none⟩ : OhR).to σ) = (lgAll q.rd σ).put id (.opq 2 nv gid (.slc l) (.pr 9 ec q.x) (.lit 1) [] t) := by
              unfold OhR.to
              have : (lgAll q.rd σ).heap.get id = some (.arr c base lim since nv t) := by rw [(lgAll_heap q.rd σ).1]; exact ho
              simp only [this]
            rw [hto] at hk ⊢
            have hkq : Known D σ (lgAll q.rd σ) := fun i h hl => hk i (h.imp (fun h => h) (fun h => mem_addL.2 (.inr h))) hl
            obtain ⟨rows2, hsrc, hs1, _⟩ := srcOf_ok (P := P) (e := t) (u := u) (ti := ti) hi hdec hq hx hkq h4 (by omega)
            have hd : D id := hk id (.inr (mem_addL.2 (.inl rfl))) (hi.lt ho)
            have hfull : (ver = base ∧ lim = c.length) ∨ (ver + 1 = nv ∧ since ≤ ver ∧ ver ≠ base) := by
              rcases b12 with ⟨c1, c2⟩ | ⟨c1, c2, c3⟩
              · exact .inl ⟨beq_t c1, beq_t c2⟩
              · exact .inr ⟨beq_t c1, ble_t c2, fun h => by simp [h] at c3⟩
            have hir : Inv0 R D φ (lgAll q.rd σ) w := by
              obtain ⟨h1, h2, h3⟩ := lgAll_heap q.rd σ
              exact ⟨hi.wf, by rw [h3]; exact hi.wrR, by rw [h2]; exact hi.low, fun i hd hn => by rw [h1]; rw [h2] at hn; exact hi.rep i hd hn, fun i hn => by rw [h1]; rw [h2] at hn; exact hi.dom i hn⟩
            obtain ⟨φ', w', v', p1, p2, p3⟩ := arr_append (P := P) (ty := ty) (u := u) (x' := x') (x2 := q.x) hir (by rw [(lgAll_heap q.rd σ).1]; exact ho) hfull (beq_t b8) (blt_t b6) (blt_t b7) hec b9 hs hd hu hti (by omega) rz (by omega) hsrc (ble_t b11) hs1 (by omega)
            exact ⟨φ', w', v', p1, p2, p3.from (lgAll_heap q.rd σ).2.1 (lgAll_heap q.rd σ).2.2⟩
          · cases h
        · cases h
      · cases h
    · cases h
  · cases h
end Go.Tw
