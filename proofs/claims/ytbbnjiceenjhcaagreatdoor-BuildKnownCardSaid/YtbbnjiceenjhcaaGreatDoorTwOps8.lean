/-
  A part of the proof that the abstract evaluator is sound for the model's machine. Conditions: those of each theorem, as it states them.
-/
import Derived.Test.YtbbnjiceenjhcaaGreatDoorTwOps7
set_option linter.all false
namespace Go.Tw
section
variable [Val]
variable {P : Program} {R : Nat} {C : Cfg} {D : Nat → Prop} {φ : PM} {σ : St} {w : World}

omit [Val] in
theorem zeroCells_size (z : Array Value) (n : Nat) : (Builtin.zeroCells z n).size = n * z.size := by simp [Builtin.zeroCells]

omit [Val] in
theorem WF.ver (h : WF R φ w) {id ver nv : Nat} {e e' : Ext} (he : φ id ver = some e) (hR : R ≤ id) (hb : e'.blk = e.blk) (ht : e'.hi + e'.up ≤ e'.bsz + e'.dn) : WF R (φ.ins id nv e') w where
  inj := fun i u f j s g hf hg hbk => by
    unfold PM.ins at hf hg
    split at hf <;> split at hg
    · rename_i h1 h2; exact .inl (h1.1.trans h2.1.symm)
    · rename_i h1 h2
      simp only [Option.some.injEq] at hf; subst hf
      rcases h.inj _ _ _ _ _ _ he hg (hb.symm.trans hbk) with h3 | h3
      · exact .inl (h1.1.trans h3)
      · exact absurd h3.1 (Nat.not_lt.2 hR)
    · rename_i h1 h2
      simp only [Option.some.injEq] at hg; subst hg
      rcases h.inj _ _ _ _ _ _ hf he (hbk.trans hb) with h3 | h3
      · exact .inl (h3.trans h2.1.symm)
      · exact absurd h3.2 (Nat.not_lt.2 hR)
    · exact h.inj _ _ _ _ _ _ hf hg hbk
  lt := fun i u f hf => by
    unfold PM.ins at hf
    split at hf
    · simp only [Option.some.injEq] at hf; subst hf; rw [hb]; exact h.lt _ _ _ he
    · exact h.lt _ _ _ hf
  top := fun i u f hf => by
    unfold PM.ins at hf
    split at hf
    · simp only [Option.some.injEq] at hf; subst hf; exact ht
    · exact h.top _ _ _ hf

/-- What the versions that stay alive behind an append know. -/
def Stays (φ : PM) (id base lim since base' lim' since' nv E : Nat) : Prop :=
  ∀ v, aliveV base' since' (nv + 1) v → v = nv ∨ (aliveV base since nv v ∧ v ≠ nv ∧ ∀ e, φ id v = some e → limV base' lim' v e ≤ E ∧ limV base' lim' v e ≤ limV base lim v e)

/-- Cells put behind, in place. -/
theorem append_place {id ver base lim since base' lim' since' nv et off E q m : Nat} {c new : List AV} {arr : Array Value} {e : Ext} {cs : Array Value} {fl fh : Nat}
    (hr : Rep R φ w id (some (.arr c base lim since nv et))) (hal : aliveV base since nv ver) (he : φ id ver = some e) (hbk : w.heap[e.blk]? = some (.cells cs et (fl, fh)))
    (hE : E ≤ limV base lim ver e) (_hdn : e.dn ≤ off) (_hoE : off ≤ E) (hq : q + e.dn = E + e.up) (hn : VRL φ new arr.toList) (hm : new.length = m)
    (hone : ∀ v ∈ arr.toList, v.oneCell' = true) (hroom : q + m ≤ e.bsz) (hst : Stays φ id base lim since base' lim' since' nv E)
    (hb' : base' < nv + 1) (hs' : since' ≤ nv + 1) (hl' : lim' ≤ E) (hbn : base' ≠ nv) :
    (storeCells ⟨e.blk, q, none⟩ arr.toList).run P w = .ok () (wset w e.blk (.cells (splice cs.toList q arr.toList).toArray et (fl, fh))) ∧
    Rep R (φ.ins id nv { e with hi := E + m }) (wset w e.blk (.cells (splice cs.toList q arr.toList).toArray et (fl, fh))) id (some (.arr (c.take E ++ new) base' lim' since' (nv + 1) et)) := by
  obtain ⟨hR, g1, g2, g3, g4, g5, g6, g7⟩ := hr
  obtain ⟨e', cs', fl', fh', he', hbk', k1, k2, k3, k4, k5⟩ := g5 ver hal
  rw [he] at he'; simp only [Option.some.injEq] at he'; subst he'
  rw [hbk] at hbk'; simp only [Option.some.injEq, Obj.cells.injEq, Prod.mk.injEq, true_and] at hbk'
  obtain ⟨rfl, rfl, rfl⟩ := hbk'
  have hlen := hn.length
  have hal' : arr.toList.length = m := by omega
  have hEc : E ≤ c.length := Nat.le_trans hE k3
  have hst1 := run_storeCells_row (P := P) (k := q) arr.toList 0 cs w hbk (by rw [hal', k1]; simpa using hroom) hone (by
    intro y y1 y2 ⟨y3, y4⟩
    rw [hal'] at y2
    omega)
  have hsp : (cs.toList.take (q + 0) ++ arr.toList ++ cs.toList.drop (q + 0 + arr.toList.length)) = splice cs.toList q arr.toList := by simp [splice_eq]
  rw [hsp] at hst1
  have hqs : q + arr.toList.length ≤ cs.toList.length := by rw [hal']; simp; omega
  have hclen : (c.take E ++ new).length = E + m := by simp; omega
  have hget : ∀ x, x < E → (c.take E ++ new)[x]? = c[x]? := by
    intro x hx
    rw [List.getElem?_append_left (by simp; omega), List.getElem?_take_of_lt hx]
  have hget2 : ∀ x, E ≤ x → (c.take E ++ new)[x]? = new[x - E]? := by
    intro x hx
    rw [List.getElem?_append_right (by simp; omega)]
    congr 1
    simp; omega
  have hcs : ∀ y, y < q → (splice cs.toList q arr.toList).toArray[y]? = cs[y]? := by
    intro y hy
    have : (splice cs.toList q arr.toList).toArray[y]? = (splice cs.toList q arr.toList)[y]? := by simp
    rw [this, splice_get hqs, if_pos hy]; simp
  have hcs2 : ∀ y, q ≤ y → y < q + m → (splice cs.toList q arr.toList).toArray[y]? = arr.toList[y - q]? := by
    intro y hy hy2
    have : (splice cs.toList q arr.toList).toArray[y]? = (splice cs.toList q arr.toList)[y]? := by simp
    rw [this, splice_get hqs, if_neg (by omega), if_pos (by omega)]
  have hsize : (splice cs.toList q arr.toList).toArray.size = cs.size := by
    have := splice_length hqs
    simp only [List.size_toArray, this]; simp
  have hle : φ.le (φ.ins id nv { e with hi := E + m }) := φ.le_ins _ (g4 nv (Nat.le_refl _))
  have hother : ∀ v, v ≠ nv → φ.ins id nv { e with hi := E + m } id v = φ id v := fun v hv => φ.ins_ver _ hv id
  refine ⟨hst1, hR, by rw [hclen]; omega, hb', hs', fun v hv => by rw [hother v (by omega)]; exact g4 v (by omega), ?_, ?_, ?_⟩
  · intro v hv
    rcases hst v hv with rfl | ⟨hav, hne, hlim⟩
    · refine ⟨_, _, fl, fh, PM.ins_same _ _ _ _, wset_same _ _ _ (heap_lt hbk), ?_, ?_, ?_, k4, ?_⟩
      · rw [hsize]; exact k1
      · simp [limV, Ne.symm hbn]
      · rw [hclen]; simp [limV, Ne.symm hbn]
      · intro x a x1 x2 hx
        have x2 : x < E + m := by simpa [limV, Ne.symm hbn] using x2
        by_cases hxE : x < E
        · rw [hget x hxE] at hx
          obtain ⟨a', y1, y2⟩ := k5 x a x1 (by omega) hx
          have x1' : e.dn ≤ x := x1
          refine ⟨a', ?_, y2.mono hle⟩
          show (splice cs.toList q arr.toList).toArray[x + e.up - e.dn]? = some a'
          rw [hcs _ (by omega)]; exact y1
        · rw [hget2 x (by omega)] at hx
          obtain ⟨a', y1, y2⟩ := hn.get hx
          refine ⟨a', ?_, y2.mono hle⟩
          have x1' : e.dn ≤ x := x1
          show (splice cs.toList q arr.toList).toArray[x + e.up - e.dn]? = some a'
          rw [hcs2 _ (by omega) (by omega), show x + e.up - e.dn - q = x - E by omega]
          exact y1
    · obtain ⟨f, fs, ffl, ffh, hf, hfb, m1, m2, m3, m4, m5⟩ := g5 v hav
      obtain ⟨hl1, hl2⟩ := hlim f hf
      by_cases hb : f.blk = e.blk
      · obtain ⟨hu, hd⟩ := g6 v ver f e hav hal hf he hb
        have hfb' := hfb
        rw [hb, hbk] at hfb'
        simp only [Option.some.injEq, Obj.cells.injEq, Prod.mk.injEq, true_and] at hfb'
        obtain ⟨rfl, rfl, rfl⟩ := hfb'
        refine ⟨f, _, fl, fh, (hother v hne).trans hf, by rw [hb]; exact wset_same _ _ _ (heap_lt hbk), ?_, ?_, ?_, m4, ?_⟩
        · rw [hsize]; exact m1
        · omega
        · rw [hclen]; omega
        · intro x a x1 x2 hx
          rw [hget x (by omega)] at hx
          obtain ⟨a', y1, y2⟩ := m5 x a x1 (by omega) hx
          exact ⟨a', by rw [hcs _ (by omega)]; exact y1, y2.mono hle⟩
      · refine ⟨f, fs, ffl, ffh, (hother v hne).trans hf, by rw [wset_other _ _ _ hb]; exact hfb, m1, ?_, ?_, m4, ?_⟩
        · omega
        · rw [hclen]; omega
        · intro x a x1 x2 hx
          rw [hget x (by omega)] at hx
          obtain ⟨a', y1, y2⟩ := m5 x a x1 (by omega) hx
          exact ⟨a', y1, y2.mono hle⟩
  · intro v₁ v₂ e₁ e₂ a1 a2 b1 b2 hbb
    rcases hst v₁ a1 with rfl | ⟨h1, n1, _⟩
    · rcases hst v₂ a2 with rfl | ⟨h2, n2, _⟩
      · rw [b1] at b2; simp only [Option.some.injEq] at b2; subst b2; exact ⟨rfl, rfl⟩
      · rw [PM.ins_same] at b1; simp only [Option.some.injEq] at b1; subst b1
        rw [hother v₂ n2] at b2
        obtain ⟨h3, h4⟩ := g6 ver v₂ e e₂ hal h2 he b2 hbb
        exact ⟨h3, h4⟩
    · rcases hst v₂ a2 with rfl | ⟨h2, n2, _⟩
      · rw [PM.ins_same] at b2; simp only [Option.some.injEq] at b2; subst b2
        rw [hother v₁ n1] at b1
        exact g6 v₁ ver e₁ e h1 hal b1 he hbb
      · rw [hother v₁ n1] at b1
        rw [hother v₂ n2] at b2
        exact g6 v₁ v₂ e₁ e₂ h1 h2 b1 b2 hbb
  · intro v f h1 h2 h3 h4
    have : v = nv := by omega
    subst this
    rw [PM.ins_same] at h4; simp only [Option.some.injEq] at h4; subst h4
    exact hclen.symm

/-- Cells put behind, in a new block. -/
theorem append_grown {id ver base lim since base' lim' since' nv et off E m : Nat} {c new : List AV} {arr old rest : Array Value} {e : Ext}
    (hwf : WF R φ w) (hr : Rep R φ w id (some (.arr c base lim since nv et))) (hal : aliveV base since nv ver) (he : φ id ver = some e)
    (hE : E ≤ limV base lim ver e) (hoE : off ≤ E) (hn : VRL φ new arr.toList) (hm : new.length = m)
    (hold : VRL φ ((c.drop off).take (E - off)) old.toList) (hst : Stays φ id base lim since base' lim' since' nv E)
    (hb' : base' < nv + 1) (hs' : since' ≤ nv + 1) (hl' : lim' ≤ E) (hbn : base' ≠ nv) :
    Rep R (φ.ins id nv ⟨w.heap.size, 0, off, E + m, (old ++ arr ++ rest).size⟩) (w.alloc (.cells (old ++ arr ++ rest) et)) id (some (.arr (c.take E ++ new) base' lim' since' (nv + 1) et)) := by
  obtain ⟨hR, g1, g2, g3, g4, g5, g6, g7⟩ := hr
  obtain ⟨e', cs, fl, fh, he', hbk, k1, k2, k3, k4, k5⟩ := g5 ver hal
  rw [he] at he'; simp only [Option.some.injEq] at he'; subst he'
  have hlen := hn.length
  have hlo := hold.length
  have hEc : E ≤ c.length := Nat.le_trans hE k3
  have hlo' : old.toList.length = E - off := by rw [hlo]; simp; omega
  have hclen : (c.take E ++ new).length = E + m := by simp; omega
  have hget : ∀ x, x < E → (c.take E ++ new)[x]? = c[x]? := by
    intro x hx
    rw [List.getElem?_append_left (by simp; omega), List.getElem?_take_of_lt hx]
  have hget2 : ∀ x, E ≤ x → (c.take E ++ new)[x]? = new[x - E]? := by
    intro x hx
    rw [List.getElem?_append_right (by simp; omega)]
    congr 1
    simp; omega
  have hle : φ.le (φ.ins id nv ⟨w.heap.size, 0, off, E + m, (old ++ arr ++ rest).size⟩) := φ.le_ins _ (g4 nv (Nat.le_refl _))
  have hother : ∀ v, v ≠ nv → φ.ins id nv ⟨w.heap.size, 0, off, E + m, (old ++ arr ++ rest).size⟩ id v = φ id v := fun v hv => φ.ins_ver _ hv id
  refine ⟨hR, by rw [hclen]; omega, hb', hs', fun v hv => by rw [hother v (by omega)]; exact g4 v (by omega), ?_, ?_, ?_⟩
  · intro v hv
    rcases hst v hv with rfl | ⟨hav, hne, hlim⟩
    · refine ⟨_, old ++ arr ++ rest, 0, 0, PM.ins_same _ _ _ _, alloc_new _ _, rfl, ?_, ?_, ?_, ?_⟩
      · simp [limV, Ne.symm hbn]
      · rw [hclen]; simp [limV, Ne.symm hbn]
      · exact .inl rfl
      · intro x a x1 x2 hx
        have x1 : off ≤ x := x1
        have x2 : x < E + m := by simpa [limV, Ne.symm hbn] using x2
        have hpos : (old ++ arr ++ rest)[x + 0 - off]? = (old.toList ++ arr.toList ++ rest.toList)[x - off]? := by
          rw [← Array.getElem?_toList]; simp
        show ∃ a', (old ++ arr ++ rest)[x + 0 - off]? = some a' ∧ _
        rw [hpos]
        by_cases hxE : x < E
        · rw [hget x hxE] at hx
          have hx' : ((c.drop off).take (E - off))[x - off]? = some a := by
            rw [List.getElem?_take_of_lt (by omega), List.getElem?_drop, show off + (x - off) = x by omega]; exact hx
          obtain ⟨a', y1, y2⟩ := hold.get hx'
          refine ⟨a', ?_, y2.mono hle⟩
          rw [List.append_assoc, List.getElem?_append_left (by omega)]; exact y1
        · rw [hget2 x (by omega)] at hx
          obtain ⟨a', y1, y2⟩ := hn.get hx
          refine ⟨a', ?_, y2.mono hle⟩
          rw [List.append_assoc, List.getElem?_append_right (by omega), hlo', List.getElem?_append_left (by omega), show x - off - (E - off) = x - E by omega]; exact y1
    · obtain ⟨f, fs, ffl, ffh, hf, hfb, m1, m2, m3, m4, m5⟩ := g5 v hav
      obtain ⟨hl1, hl2⟩ := hlim f hf
      refine ⟨f, fs, ffl, ffh, (hother v hne).trans hf, by rw [alloc_old _ _ (hwf.lt _ _ _ hf)]; exact hfb, m1, ?_, ?_, m4, ?_⟩
      · omega
      · rw [hclen]; omega
      · intro x a x1 x2 hx
        rw [hget x (by omega)] at hx
        obtain ⟨a', y1, y2⟩ := m5 x a x1 (by omega) hx
        exact ⟨a', y1, y2.mono hle⟩
  · intro v₁ v₂ e₁ e₂ a1 a2 b1 b2 hbb
    rcases hst v₁ a1 with rfl | ⟨h1, n1, _⟩
    · rcases hst v₂ a2 with rfl | ⟨h2, n2, _⟩
      · rw [b1] at b2; simp only [Option.some.injEq] at b2; subst b2; exact ⟨rfl, rfl⟩
      · rw [PM.ins_same] at b1; simp only [Option.some.injEq] at b1; subst b1
        rw [hother v₂ n2] at b2
        exact absurd (hwf.lt _ _ _ b2) (by rw [← hbb]; exact Nat.lt_irrefl _)
    · rcases hst v₂ a2 with rfl | ⟨h2, n2, _⟩
      · rw [PM.ins_same] at b2; simp only [Option.some.injEq] at b2; subst b2
        rw [hother v₁ n1] at b1
        exact absurd (hwf.lt _ _ _ b1) (by rw [hbb]; exact Nat.lt_irrefl _)
      · rw [hother v₁ n1] at b1
        rw [hother v₂ n2] at b2
        exact g6 v₁ v₂ e₁ e₂ h1 h2 b1 b2 hbb
  · intro v f h1 h2 h3 h4
    have : v = nv := by omega
    subst this
    rw [PM.ins_same] at h4; simp only [Option.some.injEq] at h4; subst h4
    exact hclen.symm

/-- An append that grows, into an object of its own. -/
theorem append_new (hi : Inv R C D φ σ w) {size n sLen sCap : Nat} {new old : List AV} {x' z' : Value} {base : Option Addr} {t u ty e : TypeId} {ti : TypeInfo} {arr oldr : Array Value}
    (ht : P.underlying t = some (.slice e)) (hti : P.info? e = some ti) (_hsz : ti.size = size)
    (rz : ∀ w, (zeroValue e).run P w = .ok z' w) (hzs : z'.cells.size = size)
    (ha : AppR P e ti u n x' arr w) (hnew : VRL φ new arr.toList) (hlen : new.length = n * size) (hold : VRL φ old oldr.toList) (holen : old.length = sLen * size)
    (hor : (Builtin.firstCells ti.size sLen (.slice base sLen sCap)).run P w.drew = .ok oldr w.drew) (hg : ¬ sLen + n ≤ sCap) (hb : (2 * (sLen + n) + 1024) * ti.bytes ≤ 70368744177664)
    (hb2 : sLen + n ≤ 1099511627776) (hf : ∀ v, φ σ.next v = none) :
    ∃ φ' w' v', (Builtin.append_ #[t, u] ty #[.slice base sLen sCap, x']).run P w = .ok v' w' ∧ VR φ' (.slc σ.next 0 0 (sLen + n) none size) v' ∧ Post R D φ σ w (newArr e (old ++ new) σ) φ' w' := by
  obtain ⟨c, hc, hr⟩ := run_append_grows (ty := ty) ht hti ha rz hg hor (by omega) (not_big (by omega) hb)
  have h1 := hnew.length
  have h2 := hold.length
  have hls : (old ++ new).length = (sLen + n) * size := by rw [List.length_append, hlen, holen, Nat.add_mul]
  have hcs : (oldr ++ arr ++ Builtin.zeroCells z'.cells (c - (sLen + n))).size = c * size := by
    have e1 : oldr.size = sLen * size := by simpa [holen] using h2
    have e2 : arr.size = n * size := by simpa [hlen] using h1
    rw [Array.size_append, Array.size_append, zeroCells_size, hzs, e1, e2, ← Nat.add_mul, ← Nat.add_mul]
    congr 1; omega
  have hle : (sLen + n) * size ≤ c * size := Nat.mul_le_mul_right _ hc
  have hpost := new_arr hi.drew (c := old ++ new) (cs := oldr ++ arr ++ Builtin.zeroCells z'.cells (c - (sLen + n))) (fl := 0) (fh := 0) e hf (fun ψ hψ => by
    have := (hold.append hnew).mono hψ
    have h3 : (oldr ++ arr ++ Builtin.zeroCells z'.cells (c - (sLen + n))).toList.take (old ++ new).length = oldr.toList ++ arr.toList := by
      rw [Array.toList_append, Array.toList_append, List.take_append_of_le_length (by simp only [List.length_append]; omega), List.take_of_length_le (by simp only [List.length_append]; omega)]
    rw [h3]; exact this) (by rw [hls, hcs]; exact hle) (.inl rfl)
  refine ⟨_, _, _, hr, ?_, hpost.drew⟩
  refine .slc _ 0 c (PM.ins_same _ _ _ _) (Nat.le_refl _) (by simp only [hls]; omega) hc (fun k hk => (by cases hk)) (.inr ⟨rfl, by simp only [hcs]; omega⟩)

/-- An append to what may or may not have room: the versions that stay. -/
theorem append_any (hi : Inv R C D φ σ w) {size n : Nat} {new : List AV} {x' z' : Value} {t u ty e : TypeId} {ti : TypeInfo} {arr : Array Value}
    {id ver off len base lim since base' lim' since' nv et o cc : Nat} {c : List AV} {ex : Ext}
    (ht : P.underlying t = some (.slice e)) (hti : P.info? e = some ti) (hsz : ti.size = size)
    (rz : ∀ w, (zeroValue e).run P w = .ok z' w) (hzs : z'.cells.size = size)
    (ha : AppR P e ti u n x' arr w) (hnew : VRL φ new arr.toList) (hlen : new.length = n * size) (hflat : new.all AV.flat = true) (hn0 : n ≠ 0)
    (ho : σ.heap.get id = some (.arr c base lim since nv et)) (hd : D id) (he : φ id ver = some ex) (hdn : ex.dn ≤ off) (hl : len ≤ cc)
    (hoo : cc = 0 ∨ (o + ex.dn = off + ex.up ∧ o + cc * size ≤ ex.bsz)) (hb : (2 * (len + n) + 1024) * ti.bytes ≤ 70368744177664) (hb2 : len + n ≤ 1099511627776)
    (hal : aliveV base since nv ver) (hE : off + len * size ≤ limV base lim ver ex) (hfz : et = e)
    (hst : Stays φ id base lim since base' lim' since' nv (off + len * size)) (hb' : base' < nv + 1) (hs' : since' ≤ nv + 1) (hl' : lim' ≤ off + len * size) (hbn : base' ≠ nv) :
    ∃ φ' w' v', (Builtin.append_ #[t, u] ty #[.slice (some ⟨ex.blk, o, none⟩) len cc, x']).run P w = .ok v' w' ∧ VR φ' (.slc id nv off (len + n) none size) v' ∧
      Post R D φ σ w (σ.put id (.arr (c.take (off + len * size) ++ new) base' lim' since' (nv + 1) et)) φ' w' := by
  have hrep := hi.at ho hd
  have hrep' := hrep
  obtain ⟨hR, g1, g2, g3, g4, g5, g6, g7⟩ := hrep'
  subst hfz
  obtain ⟨e', cs, fl, fh, he', hbk, k1, k2, k3, k4, k5⟩ := g5 ver hal
  rw [he] at he'; simp only [Option.some.injEq] at he'; subst he'
  have h1 := hnew.length
  have harr : arr.size = n * size := by simpa [hlen] using h1
  have hlt := hi.lt ho
  have hmul : (len + n) * size = len * size + n * size := Nat.add_mul _ _ _
  have hEc : off + len * size ≤ c.length := Nat.le_trans hE k3
  by_cases hfit : len + n ≤ cc
  · have hcc0 : cc ≠ 0 := by omega
    obtain ⟨ho1, ho2⟩ := hoo.resolve_left hcc0
    have hm2 := Nat.mul_le_mul_right size hfit
    have hone : ∀ v ∈ arr.toList, v.oneCell' = true := by
      intro v hm
      obtain ⟨j, hj, rfl⟩ := List.getElem_of_mem hm
      have hjl : j < new.length := by omega
      obtain ⟨v', y1, y2⟩ := hnew.get (List.getElem?_eq_getElem hjl)
      rw [List.getElem?_eq_getElem hj] at y1
      simp only [Option.some.injEq] at y1
      rw [y1]
      exact y2.oneCell (List.all_eq_true.1 hflat _ (List.getElem_mem hjl))
    obtain ⟨r1, r2⟩ := append_place (P := P) (q := o + len * size) (m := n * size) hrep hal he hbk hE hdn (by omega) (by omega) hnew hlen hone (by omega) hst hb' hs' hl' hbn
    refine ⟨φ.ins id nv { ex with hi := off + len * size + n * size }, _, .slice (some ⟨ex.blk, o, none⟩) (len + n) cc, run_append_fits ht hti ha hfit (by
      show (storeCells ((⟨ex.blk, o, none⟩ : Addr).add (len * ti.size)) arr.toList).run P w = _
      rw [add_off, hsz]; exact r1), ?_, ?_⟩
    · exact .slc { ex with hi := off + len * size + n * size } o cc (PM.ins_same _ _ _ _) hdn (by simp only; omega) hfit (fun k hk => (by cases hk)) (.inr ⟨ho1, ho2⟩)
    · have hle := φ.le_ins { ex with hi := off + len * size + n * size } (g4 nv (Nat.le_refl _))
      refine .put hi hR hlt hle ((hi.wf.ver (e' := { ex with hi := off + len * size + n * size }) he hR rfl (by show off + len * size + n * size + ex.up ≤ ex.bsz + ex.dn; omega)).wset _ _) (fun i h v => φ.ins_id _ h v) (fun v f hf => ?_) (.wset he _) r2
      unfold PM.ins at hf
      split at hf
      · simp only [Option.some.injEq] at hf; subst hf; exact .inl ⟨ver, ex, he, rfl⟩
      · exact .inl ⟨v, f, hf, rfl⟩
  · have hold : ∃ oldr : Array Value, (Builtin.firstCells ti.size len (.slice (some ⟨ex.blk, o, none⟩) len cc)).run P w.drew = .ok oldr w.drew ∧ VRL φ ((c.drop off).take (off + len * size - off)) oldr.toList := by
      have hsub : off + len * size - off = len * size := by omega
      rw [hsub, hsz]
      by_cases hz : len * size = 0
      · refine ⟨#[], by simp [Builtin.firstCells, hz, loadCells, loadCellsFrom], ?_⟩
        rw [hz]; simp; exact .nil
      · have hcc0 : cc ≠ 0 := by
          intro h0
          have : len = 0 := by omega
          subst this; simp at hz
        obtain ⟨ho1, ho2⟩ := hoo.resolve_left hcc0
        have hbk' : w.drew.heap[ex.blk]? = some (.cells cs et (fl, fh)) := hbk
        have hm2 := Nat.mul_le_mul_right size hl
        refine ⟨((cs.toList.drop o).take (len * size)).toArray, by simpa [Builtin.firstCells] using run_loadCells_row (P := P) hbk' (by omega), ?_⟩
        refine VRL.of_get (by simp; omega) fun i v v' hv hv' => ?_
        have hi' : i < len * size := by
          rcases Nat.lt_or_ge i (len * size) with h | h
          · exact h
          · rw [List.getElem?_eq_none (by simp; omega)] at hv; cases hv
        rw [List.getElem?_take_of_lt hi', List.getElem?_drop] at hv
        obtain ⟨v'', y1, y2⟩ := k5 (off + i) v (by omega) (by omega) hv
        have hv2 : cs[o + i]? = some v' := by
          have : ((cs.toList.drop o).take (len * size))[i]? = some v' := by simpa using hv'
          rw [List.getElem?_take_of_lt hi', List.getElem?_drop] at this
          simpa using this
        rw [show off + i + ex.up - ex.dn = o + i by omega, hv2] at y1
        simp only [Option.some.injEq] at y1; subst y1
        exact y2
    obtain ⟨oldr, hor, hol⟩ := hold
    obtain ⟨c', hc', hr⟩ := run_append_grows (ty := ty) ht hti ha rz hfit hor (by omega) (not_big (by omega) hb)
    have hrep2 : Rep R φ w.drew id (some (.arr c base lim since nv et)) := hrep.frame φ.le_refl (fun _ => rfl) (fun _ _ _ => rfl)
    have hrg := append_grown (rest := Builtin.zeroCells z'.cells (c' - (len + n))) (m := n * size) (hi.drew (C := C)).wf hrep2 hal he hE (by omega) hnew hlen hol hst hb' hs' hl' hbn
    have hols := hol.length
    have hosz : oldr.size = len * size := by
      have : oldr.toList.length = _ := hols
      simp at this; omega
    have hcs : (oldr ++ arr ++ Builtin.zeroCells z'.cells (c' - (len + n))).size = c' * size := by
      rw [Array.size_append, Array.size_append, zeroCells_size, hzs, hosz, harr, ← Nat.add_mul, ← Nat.add_mul]
      congr 1; omega
    have hm3 := Nat.mul_le_mul_right size hc'
    have htop : off + len * size + n * size + 0 ≤ (oldr ++ arr ++ Builtin.zeroCells z'.cells (c' - (len + n))).size + off := by rw [hcs]; omega
    refine ⟨φ.ins id nv ⟨w.drew.heap.size, 0, off, off + len * size + n * size, (oldr ++ arr ++ Builtin.zeroCells z'.cells (c' - (len + n))).size⟩, _, _, hr, ?_, ?_⟩
    rotate_left
    · refine Post.drew (.put hi.drew hR hlt (φ.le_ins _ (g4 nv (Nat.le_refl _))) ((hi.drew (C := C)).wf.alloc _ rfl htop) (fun i h v => φ.ins_id _ h v) (fun v f hf => ?_) ?_ hrg)
      · unfold PM.ins at hf
        split at hf
        · simp only [Option.some.injEq] at hf; subst hf; exact .inr (Nat.le_refl _)
        · exact .inl ⟨v, f, hf, rfl⟩
      · exact ⟨by rw [World.size_alloc]; omega, fun b hb _ => alloc_old _ _ hb, rfl, rfl, rfl⟩
    · exact .slc _ 0 c' (PM.ins_same _ _ _ _) (Nat.le_refl _) (by show off + (len + n) * size ≤ off + len * size + n * size; omega) hc' (fun k hk => (by cases hk)) (.inr ⟨by show 0 + off = off + 0; omega, by simp only [hcs]; omega⟩)

/-- An append, done. -/
theorem appendTo_ok (hi : Inv R C D φ σ w) {size bw n : Nat} {s v : AV} {new : List AV} {σ' : St} {s' x' z' : Value} {t u ty e : TypeId} {ti : TypeInfo} {arr : Array Value}
    (h : appendTo e size bw s n new σ = some (v, σ')) (hs : VR φ s s') (ht : P.underlying t = some (.slice e)) (hti : P.info? e = some ti) (hsz : ti.size = size) (hbw : ti.bytes = bw)
    (rz : ∀ w, (zeroValue e).run P w = .ok z' w) (hzs : z'.cells.size = size)
    (ha : AppR P e ti u n x' arr w) (hnew : VRL φ new arr.toList) (hlen : new.length = n * size) (hk : Known D σ σ') (hf : Free φ σ σ') :
    ∃ φ' w' v', (Builtin.append_ #[t, u] ty #[s', x']).run P w = .ok v' w' ∧ VR φ' v v' ∧ Post R D φ σ w σ' φ' w' := by
  have harr := hnew.length
  have harr' : arr.size = n * size := by simpa [hlen] using harr
  unfold appendTo at h
  split at h
  · cases hs
    simp only [cond_eq_ite, Bool.and_eq_true] at h
    split at h
    · rename_i hn
      have hn := beq_t hn; subst hn
      simp only [Option.some.injEq, Prod.mk.injEq] at h; obtain ⟨rfl, rfl⟩ := h
      exact ⟨φ, w, .slice none 0 0, run_append_fits ht hti ha (Nat.le_refl _) rfl, .nils, .same hi rfl rfl rfl⟩
    · rename_i hn
      have hn0 : n ≠ 0 := fun h0 => hn (by simp [h0])
      split at h
      · rename_i hb
        have hb1 := ble_t hb.1
        have hb2 := ble_t hb.2
        simp only [Option.some.injEq, Prod.mk.injEq] at h; obtain ⟨rfl, rfl⟩ := h
        have := append_new (sLen := 0) (sCap := 0) (base := none) (old := []) (oldr := #[]) (ty := ty) hi ht hti hsz rz hzs ha hnew hlen .nil (by simp) rfl (by omega) (by rw [hbw]; simpa using hb1) (by omega) (hf.at)
        simpa using this
      · cases h
  · rename_i id ver off len cap esz
    cases hs with
    | slc ex o c he hd hh hl hc ho =>
      simp only [cond_eq_ite, Bool.and_eq_true] at h
      split at h
      · rename_i hbe
        have hbe := beq_t hbe; subst hbe
        split at h
        · rename_i hn
          have hn := beq_t hn; subst hn
          simp only [Option.some.injEq, Prod.mk.injEq] at h; obtain ⟨rfl, rfl⟩ := h
          refine ⟨φ, w, .slice (some ⟨ex.blk, o, none⟩) (len + 0) c, run_append_fits ht hti ha hl ?_, .slc ex o c he hd hh hl hc ho, .same hi rfl rfl rfl⟩
          have : arr = #[] := by apply Array.eq_empty_of_size_eq_zero; omega
          subst this
          rfl
        · rename_i hn
          have hn0 : n ≠ 0 := fun h0 => hn (by simp [h0])
          split at h
          · rename_i hb
            have hb1 := ble_t hb.1
            have hb2 := ble_t hb.2
            rw [← hbw] at hb1
            split at h
            · rename_i c0
              have hcc := (hc _ rfl)
              obtain ⟨rfl, hchi⟩ := hcc
              split at h
              · rename_i hfit
                have hfit := ble_t hfit
                split at h
                · rename_i τ hw
                  simp only [Option.some.injEq, Prod.mk.injEq] at h; obtain ⟨rfl, rfl⟩ := h
                  obtain ⟨ho1, ho2⟩ := ho.resolve_left (by omega)
                  obtain ⟨w', r1, r2⟩ := writeN_run (P := P) (q := o + len * esz) hi hw hk hnew he (by omega) (by omega)
                  have hmm := Nat.mul_le_mul_right esz hfit
                  refine ⟨φ, w', .slice (some ⟨ex.blk, o, none⟩) (len + n) c0, run_append_fits ht hti ha hfit (by
                    show (storeCells ((⟨ex.blk, o, none⟩ : Addr).add (len * ti.size)) arr.toList).run P w = _
                    rw [add_off, hsz]; exact r1), .slc ex o c0 he hd (by omega) hfit hc ho, r2⟩
                · cases h
              · rename_i hfit
                have hfit : ¬ len + n ≤ c0 := fun h => hfit (Nat.ble_eq_true_of_le h)
                split at h
                · rename_i old τ hfst
                  simp only [Option.some.injEq, Prod.mk.injEq] at h; obtain ⟨rfl, rfl⟩ := h
                  have hτ : Known D σ τ := fun i hi' hn' => hk i hi' hn'
                  obtain ⟨oldr, q1, q2, q3, q4, q5, q6⟩ := firstA_ok (P := P) hi hfst (.slc (cap := some c0) ex o c0 he hd hh hl hc ho) hτ
                  have hiτ : Inv R C D φ τ w := ⟨hi.wf, by rw [q5]; exact hi.low, fun i hd' hn' => by rw [q4]; rw [q5] at hn'; exact hi.rep i hd' hn', hi.gl, fun i hn' => by rw [q4]; rw [q5] at hn'; exact hi.dom i hn', hi.pin, hi.dec, by rw [q6]; exact hi.wrR, hi.ro⟩
                  have hfτ : ∀ v, φ τ.next v = none := fun v => by rw [q5]; exact hf σ.next (Nat.le_refl _) (by simp only [newArr, St.mk']; rw [q5]; omega) v
                  obtain ⟨φ', w', v', p1, p2, p3⟩ := append_new (ty := ty) hiτ ht hti hsz rz hzs ha hnew hlen q2 q3 (by rw [hsz]; exact q1 _ rfl) hfit hb1 hb2 hfτ
                  refine ⟨φ', w', v', p1, p2, ?_⟩
                  have hsame := Post.same (σ' := τ) hi q4 q5 q6
                  have hpost : Post R (More D σ) φ τ w (newArr e (old ++ new) τ) φ' w' := {
                    le := p3.le, grow := p3.grow, wrR := p3.wrR, wf := p3.wf, blk := p3.blk
                    rep := fun i hii => p3.rep i (by
                      rcases hii with ⟨hd', hn'⟩ | h2
                      · exact .inl ⟨hd'.resolve_right (by rw [q5] at hn'; omega), hn'⟩
                      · exact .inr h2)
                    frm := p3.frm }
                  exact hsame.trans hpost (firstA_step hfst) (.mk' _ _)
                · cases h
            · split at h
              · rename_i c1 base lim since nv et hob
                split at h
                · rename_i hflat
                  have het := beq_t hflat.2
                  subst het
                  replace hflat := hflat.1
                  have hlt := hi.lt hob
                  have hdd : D id := by
                    have hmem : id ∈ σ'.wr := by
                      repeat' split at h
                      all_goals first | (cases h; done) | (simp only [Option.some.injEq, Prod.mk.injEq] at h; obtain ⟨_, rfl⟩ := h; exact mem_addL.2 (.inl rfl))
                    exact hk id (.inr hmem) hlt
                  obtain ⟨hR, g1, g2, g3, g4, g5, g6, g7⟩ := hi.at hob hdd
                  split at h
                  · rename_i hbv
                    have hbv := beq_t hbv; subst hbv
                    split at h
                    · rename_i hbb
                      have e1 := beq_t hbb.1.1
                      have e2 := beq_t hbb.1.2
                      have e3 := beq_t hbb.2
                      have e4 : et = et := rfl
                      simp only [Option.some.injEq, Prod.mk.injEq] at h; obtain ⟨rfl, rfl⟩ := h
                      have hL : limV ver lim ver ex = lim := by simp [limV]
                      have := append_any (ty := ty) (base' := ver) (lim' := lim) (since' := since) hi ht hti hsz rz hzs ha hnew hlen hflat hn0 hob hdd he hd hl ho hb1 hb2 (.inl rfl) (by rw [hL]; omega) e4
                        (by
                          intro v hv
                          rcases hv with rfl | ⟨h1, h2⟩
                          · exact .inr ⟨.inl rfl, by omega, fun f _ => by simp only [limV, if_true]; omega⟩
                          · exact .inl (by omega)) (by omega) (by omega) (by omega) (by omega)
                      rwa [e2, List.take_length] at this
                    · split at h
                      · rename_i hbb
                        have e1 := ble_t hbb.1
                        have e2 : et = et := rfl
                        have e3 := ble_t hbb.2
                        simp only [Option.some.injEq, Prod.mk.injEq] at h; obtain ⟨rfl, rfl⟩ := h
                        have hL : limV ver lim ver ex = lim := by simp [limV]
                        exact append_any (ty := ty) (base' := ver) (lim' := off + len * esz) (since' := nv) hi ht hti hsz rz hzs ha hnew hlen hflat hn0 hob hdd he hd hl ho hb1 hb2 (.inl rfl) (by rw [hL]; omega) e2
                          (by
                            intro v hv
                            rcases hv with rfl | ⟨h1, h2⟩
                            · exact .inr ⟨.inl rfl, by omega, fun f _ => by simp only [limV, if_true]; omega⟩
                            · exact .inl (by omega)) (by omega) (by omega) (Nat.le_refl _) (by omega)
                      · cases h
                  · rename_i hbv
                    have hbv : ver ≠ base := fun h0 => hbv (by simp [h0])
                    split at h
                    · rename_i hbb
                      have e1 := beq_t hbb.1
                      have e2 := ble_t hbb.2
                      have e3 : et = et := rfl
                      have hL : limV base lim ver ex = c1.length := by simp only [limV, if_neg hbv]; exact g7 ver ex e1 e2 hbv he
                      split at h
                      · rename_i e4
                        have e4 := beq_t e4
                        simp only [Option.some.injEq, Prod.mk.injEq] at h; obtain ⟨rfl, rfl⟩ := h
                        have := append_any (ty := ty) (base' := base) (lim' := lim) (since' := since) hi ht hti hsz rz hzs ha hnew hlen hflat hn0 hob hdd he hd hl ho hb1 hb2 (.inr ⟨e2, by omega⟩) (by rw [hL]; omega) e3
                          (by
                            intro v hv
                            by_cases hvn : v = nv
                            · exact .inl hvn
                            · refine .inr ⟨?_, hvn, fun f hf' => ⟨?_, Nat.le_refl _⟩⟩
                              · rcases hv with rfl | ⟨h1, h2⟩
                                · exact .inl rfl
                                · exact .inr ⟨h1, by omega⟩
                              · have hva : aliveV base since nv v := by
                                  rcases hv with rfl | ⟨h1, h2⟩
                                  · exact .inl rfl
                                  · exact .inr ⟨h1, by omega⟩
                                obtain ⟨f', _, _, _, hf2, _, _, _, m3, _, _⟩ := g5 v hva
                                rw [hf'] at hf2; simp only [Option.some.injEq] at hf2; subst hf2
                                omega) (by omega) (by omega) (by omega) (by omega)
                        rwa [e4, List.take_length] at this
                      · split at h
                        · rename_i e4
                          have e4 := ble_t e4
                          simp only [Option.some.injEq, Prod.mk.injEq] at h; obtain ⟨rfl, rfl⟩ := h
                          exact append_any (ty := ty) (base' := ver) (lim' := off + len * esz) (since' := nv) hi ht hti hsz rz hzs ha hnew hlen hflat hn0 hob hdd he hd hl ho hb1 hb2 (.inr ⟨e2, by omega⟩) (by rw [hL]; omega) e3
                            (by
                              intro v hv
                              rcases hv with rfl | ⟨h1, h2⟩
                              · refine .inr ⟨.inr ⟨e2, by omega⟩, by omega, fun f hf' => ?_⟩
                                rw [he] at hf'; simp only [Option.some.injEq] at hf'; subst hf'
                                rw [hL]
                                simp only [limV, if_true]
                                omega
                              · exact .inl (by omega)) (by omega) (by omega) (Nat.le_refl _) (by omega)
                        · cases h
                    · cases h
                · cases h
              · cases h
          · cases h
      · cases h
  · cases h
end
end Go.Tw
