/-
  A part of the proof that the abstract evaluator is sound for the model's machine. Conditions: those of each theorem, as it states them.
-/
import Derived.Test.YtbkokbjpbbpllaaGreatTwOps13
namespace Go.Tw
noncomputable section
/-! Operations of lists that are given: their length, a place in a row, its cells, a part. -/
def lenS (x : Sx) : Sx := .pr 7 x (.lit 0)
def cellAV (id : Nat) : Sh → Sx → AV
  | .int k, e => .sym k e
  | .bool, e => .symb (.cmp .neq e (.lit 0))
  | .str, e => .vstr e
  | .slc l, e => .opq 0 id 0 (.slc l) e (.lit 0)
def cellsAV (id : Nat) (x i : Sx) : List Sh → Nat → List AV
  | [], _ => []
  | s :: l, off => cellAV id s (.cell x i off) :: cellsAV id x i l (off + 1)
def frz (σ : St) (id : Nat) : Bool := match σ.heap.get id with
  | some (.opq k _ _ _ _ _ _ _) => Nat.beq k 0
  | _ => false
def frzRd (id : Nat) : List Nat := bif Nat.beq id gid then [gid] else [id, gid]
def frzOk (σ : St) (id : Nat) : Bool := frz σ id && frz σ gid
def OhR.one (v : AV) : Option OhR := some ⟨v, [], none, none⟩
def OhR.rdo (v : AV) (l : List Nat) : Option OhR := some ⟨v, l, none, none⟩
section
variable (P : Program) (dec : Bx → Option Bool) (ev : Operand → Option AV) (σ : St)
def k0Len (t : TypeId) (a : AV) : Option OhR := match a, P.underlying t with
  | .opq k _ _ _ x _, some (.slice _) => bif Nat.beq k 0 then OhR.one (.sym .i64 (lenS x)) else none
  | _, _ => none
def k0Index (t : TypeId) (a i : AV) : Option OhR := match a, P.underlying t, sxOf i with
  | .opq k id _ (.slc l) x _, some (.slice e), some (_, n) => match szOf P e with
    | some s => bif Nat.beq k 0 && (Nat.beq s l.length && Nat.blt 0 s && (isT dec (.cmp .geq n (.lit 0)) && isT dec (.cmp .lss n (lenS x)))) then OhR.one (.opq 1 id 0 (.slc l) x n) else none
    | none => none
  | _, _, _ => none
def k0Field (t : TypeId) (a : AV) (f : Nat) : Option OhR := match a, P.underlying t with
  | .opq k id off (.slc l) x n, some (.struct fs) => match fs[f]? with
    | some fd => match szOf P fd.type with
      | some s => bif Nat.beq k 1 && (Nat.blt 0 s && Nat.ble (off + fd.offset) l.length) then OhR.one (.opq 1 id (off + fd.offset) (.slc l) x n) else none
      | none => none
    | none => none
  | _, _ => none
def k0Load (t : TypeId) (a : AV) : Option OhR := match a, aggT P t with
  | .opq k id off (.slc l) x n, some false => match l[off]? with
    | some s => bif Nat.beq k 1 && frzOk σ id then OhR.rdo (cellAV id s (.cell x n off)) (frzRd id) else none
    | none => none
  | .opq k id off (.slc l) x n, some true => match szOf P t with
    | some s => bif Nat.beq k 1 && (Nat.ble (off + s) l.length && frzOk σ id) then OhR.rdo (.agg (cellsAV id x n ((l.drop off).take s) off)) (frzRd id) else none
    | none => none
  | _, _ => none
def k0Slice (t : TypeId) (a : AV) (lo hi mx : Option AV) : Option OhR := match a, P.underlying t, mx with
  | .opq k id _ (.slc l) x _, some (.slice e), none => match szOf P e, bndS (.lit 0) lo, bndS (lenS x) hi with
    | some s, some p, some q => bif Nat.beq k 0 && (Nat.beq s l.length && (isT dec (.cmp .geq p (.lit 0)) && isT dec (.cmp .leq p q) && isT dec (.cmp .leq q (lenS x)))) then OhR.one (.opq 0 id 0 (.slc l) (.pr 11 (.pr 10 x q) p) (.lit 0)) else none
    | _, _, _ => none
  | _, _, _ => none
def k0Nil (a : AV) : Option OhR := match a with
  | .opq k id off sh x n => bif Nat.beq k 1 then OhR.one (.opq k id off sh x n) else none
  | _ => none
def k0Op (o : Oper) : Option OhR := match o.op with
  | .call c => match c.callee, c.argTypes.toList, c.args.toList with
    | .builtin .len, t :: _, [a] => match ev a with
      | some v => k0Len P t v
      | none => none
    | _, _, _ => none
  | .indexAddr t a i => match ev a, ev i with
    | some v, some n => k0Index P dec t v n
    | _, _ => none
  | .fieldAddr t a f => match ev a with
    | some v => k0Field P t v f
    | none => none
  | .load t a => match ev a with
    | some v => k0Load P σ t v
    | none => none
  | .nilCheck a => match ev a with
    | some v => k0Nil v
    | none => none
  | .slice t a lo hi mx => match ev a with
    | some (.opq k id ver sh x y) => match (match lo with
        | none => some none
        | some q => (ev q).map some), (match hi with
        | none => some none
        | some q => (ev q).map some), mx with
      | some lo, some hi, none => k0Slice P dec t (.opq k id ver sh x y) lo hi none
      | _, _, _ => none
    | _ => none
  | _ => none
end
section
variable [Val] {P : Program} {R : Nat} {D : Nat → Prop} {φ : PM} {σ : St} {w : World} {dec : Bx → Option Bool}
theorem Inv0.inv (h : Inv0 R D φ σ w) : Inv R { Cfg.none with base := fun _ => none } D φ σ w :=
  { wf := h.wf, low := h.low, rep := h.rep, gl := fun _ _ h => by simp [Cfg.none] at h, dom := h.dom, pin := fun _ _ h => by simp [Cfg.none] at h, dec := fun _ _ h => by simp [Cfg.none] at h, wrR := h.wrR, ro := fun _ _ => trivial, oh := OhOk.none }
theorem Inv0.lt (h : Inv0 R D φ σ w) {id : Nat} {o : Ob} (ho : σ.heap.get id = some o) : id < σ.next := by
  rcases Nat.lt_or_ge id σ.next with h1 | h1
  · exact h1
  · rw [h.dom id h1] at ho; cases ho
theorem Inv0.at (h : Inv0 R D φ σ w) {id : Nat} {o : Ob} (ho : σ.heap.get id = some o) (hd : D id) : Rep R φ w id (some o) := ho ▸ h.rep id hd (h.lt ho)
theorem Post.same0 {σ' : St} (hi : Inv0 R D φ σ w) (hh : σ'.heap = σ.heap) (hn : σ'.next = σ.next) (hw : σ'.wr = σ.wr) : Post R D φ σ w σ' φ w where
  le := φ.le_refl
  grow := fun _ _ _ _ => rfl
  wrR := fun i hi => .inl (hw ▸ hi)
  wf := hi.wf
  blk := fun i v e he => .inl ⟨v, e, he, rfl⟩
  rep := fun i h => by
    rcases h with ⟨hd, hl⟩ | ⟨h1, h2⟩
    · rw [hh]; exact hi.rep i hd hl
    · omega
  frm := .refl _ _ _
omit [Val] in
theorem lgAll_rd : ∀ (l : List Nat) (σ : St), ∀ i ∈ l, i ∈ (lgAll l σ).rd := by
  intro l
  induction l with
  | nil => intro σ i h; cases h
  | cons a l ih =>
    intro σ i h
    rcases List.mem_cons.1 h with rfl | h
    · exact (lgAll_step l (σ.lgR i)).rd i (mem_addL.2 (.inl rfl))
    · exact ih _ i h
theorem Post.read (hi : Inv0 R D φ σ w) (l : List Nat) : Post R D φ σ w (lgAll l σ) φ w :=
  .same0 hi (lgAll_heap l σ).1 (lgAll_heap l σ).2.1 (lgAll_heap l σ).2.2
theorem frz_pict (hi : Inv0 R D φ σ w) {id b : Nat} {s : List Value} (hf : frzOk σ id = true) (hk : Known D σ (lgAll (frzRd id) σ)) (hp : Pict φ id b s) : ∃ t fr, w.heap[b]? = some (.cells s.toArray t fr) := by
  obtain ⟨j, n, e, hj, he, rfl, rfl⟩ := hp
  have hj' : frz σ j = true ∧ j ∈ frzRd id := by
    simp only [frzOk, Bool.and_eq_true] at hf
    unfold frzRd
    rw [cond_eq_ite]
    rcases hj with rfl | rfl
    · refine ⟨hf.2, ?_⟩
      split <;> simp
    · refine ⟨hf.1, ?_⟩
      split
      · rename_i h; rw [beq_t h]; simp
      · simp
  obtain ⟨h1, h2⟩ := hj'
  unfold frz at h1
  split at h1
  · rename_i k a b c d e' f g ho
    have := beq_t h1; subst this
    have hd : D j := hk j (.inl (lgAll_rd _ _ _ h2)) (hi.lt ho)
    exact (hi.at ho hd n e he).2
  · cases h1
theorem lenS_eval {x : Sx} {rows : List (List Dat)} (h : x.dat = .lst rows) : (lenS x).eval = rows.length := by
  simp [Sx.eval, lenS, Sx.dat, primD, h, Dat.toL, Dat.toI]
omit [Val] in
theorem GC.inv_slc {pc : Nat → List Value → Prop} {l : List Sh} {x : Dat} {a : Option Addr} {n c : Nat} (h : GC pc (.slc l) x (.slice a n c)) : ∃ rows, x = .lst rows ∧ n = rows.length ∧ n ≤ c ∧ (n = 0 ∨
    ∃ b s o, ∃ vf : Nat → Nat → Value, a = some ⟨b, o, Option.none⟩ ∧ pc b s ∧ (∀ (i : Nat) (row : List Dat), rows[i]? = some row → row.length = l.length) ∧ (∀ (i j : Nat), i < rows.length → j < l.length → s[o + i * l.length + j]? = some (vf i j)) ∧
      (∀ (i : Nat) (row : List Dat) (j : Nat) (s : Sh) (d : Dat), rows[i]? = some row → l[j]? = some s → row[j]? = some d → GC pc s d (vf i j))) := by
  cases h with
  | none a c => exact ⟨[], rfl, rfl, Nat.zero_le _, .inl rfl⟩
  | slc b s o c vf hp hc hl hs hg => exact ⟨_, rfl, rfl, hc, .inr ⟨b, s, o, vf, rfl, hp, hl, hs, hg⟩⟩
theorem cellAV_ok {id : Nat} {s : Sh} {e : Sx} {v : Value} (h : GC (Pict φ id) s e.dat v) : VR φ (cellAV id s e) v := by
  generalize hd : e.dat = d at h
  cases h with
  | int k d => subst hd; exact .sym k e
  | bool d => subst hd; exact .symb (.cmp .neq e (.lit 0))
  | str s => exact .vstr s hd
  | none l a c =>
    refine .opq _ ?_
    exact ⟨l, a, 0, c, rfl, rfl, hd ▸ .none l a c⟩
  | slc b s o c vf hp hc hl hs hg =>
    refine .opq _ ?_
    exact ⟨_, _, _, _, rfl, rfl, hd ▸ .slc b s o c vf hp hc hl hs hg⟩
theorem k0Len_ok (hi : Inv0 R D φ σ w) {t ty : TypeId} {a : AV} {a' : Value} {ts : Array TypeId} {r : OhR} (h : k0Len P t a = some r) (ha : VR φ a a') (ht : ts[0]? = some t) :
    ∃ v', (Builtin.len_ ts ty #[a']).run P w = .ok v' w ∧ VR φ r.v v' ∧ Post R D φ σ w (r.to σ) φ w := by
  unfold k0Len at h
  split at h
  · rename_i k id ver sh x y e hu
    rw [cond_eq_ite] at h
    split at h
    · rename_i hk
      have := beq_t hk; subst this
      simp only [OhR.one, Option.some.injEq] at h; subst h
      cases ha with
      | opq v hv =>
        obtain ⟨l, a, n, c, rfl, rfl, hg⟩ := hv
        obtain ⟨rows, hx, rfl, _, _⟩ := hg.inv_slc
        refine ⟨goInt rows.length, by simp [Builtin.len_, ht, run_und hu], ?_, .same0 hi rfl rfl rfl⟩
        show VR φ _ (.int .i64 _)
        rw [← lenS_eval hx]
        exact .sym _ _
    · cases h
  · cases h
theorem k0Index_ok (hi : Inv0 R D φ σ w) (hdec : ∀ b v, dec b = some v → b.eval = v) {t : TypeId} {a i : AV} {a' i' : Value} {r : OhR} (h : k0Index P dec t a i = some r) (ha : VR φ a a') (hin : VR φ i i') :
    ∃ v', (Instr.indexAt t a' i').run P w = .ok v' w ∧ VR φ r.v v' ∧ Post R D φ σ w (r.to σ) φ w := by
  unfold k0Index at h
  split at h
  · rename_i k id ver l x y e kk n hu hn
    split at h
    · rename_i s hs
      simp only [cond_eq_ite, Bool.and_eq_true] at h
      split at h
      · rename_i hb
        obtain ⟨b0, ⟨b1, b2⟩, b3, b4⟩ := hb
        have := beq_t b0; subst this
        have := beq_t b1; subst this
        have b2 := blt_t b2
        simp only [OhR.one, Option.some.injEq] at h; subst h
        have hiv : i' = .int kk n.eval := sxOf_ok hn hin
        subst hiv
        cases ha with
        | opq v hv =>
          obtain ⟨l', a, m, c, hl', rfl, hg⟩ := hv
          simp only [Sh.slc.injEq] at hl'; subst hl'
          obtain ⟨rows, hx, rfl, hc, hor⟩ := hg.inv_slc
          have g1 := hdec _ _ (isT_ok b3)
          have g2 := hdec _ _ (isT_ok b4)
          simp only [Bx.eval, compI, decide_eq_true_eq, lenS_eval hx] at g1 g2
          have g1 : 0 ≤ n.eval := g1
          have hlt : n.eval.toNat < rows.length := by omega
          rcases hor with h0 | ⟨b, s, o, vf, rfl, hp, hl, hs', hgc⟩
          · omega
          · refine ⟨.pointer (some ⟨b, o + n.eval.toNat * l.length, none⟩), ?_, .opq _ ?_, .same0 hi rfl rfl rfl⟩
            · have hc : (0 : Int) ≤ n.eval ∧ n.eval < (rows.length : Int) := ⟨g1, g2⟩
              simp only [Instr.indexAt, Sem.run_bind, asIntOf, Sem.run_pure, Result.andThen_ok, run_und hu]
              rw [if_pos hc]
              simp [run_szOf hs, add_off]
            · have hr : rows[n.eval.toNat]? = some rows[n.eval.toNat] := List.getElem?_eq_getElem hlt
              refine ⟨l, rows[n.eval.toNat], b, s, o + n.eval.toNat * l.length, vf n.eval.toNat, rfl, g1, ?_, hl _ _ hr, Nat.zero_le _, hp, fun j hj => ?_, fun j s' d h1 h2 => hgc _ _ _ _ _ hr h1 h2, rfl⟩
              · rw [hx]; exact hr
              · exact hs' _ _ hlt hj
      · cases h
    · cases h
  · cases h
theorem k0Field_ok (hi : Inv0 R D φ σ w) {t : TypeId} {a : AV} {a' : Value} {f : Nat} {r : OhR} (h : k0Field P t a f = some r) (ha : VR φ a a') :
    ∃ v', (Instr.fieldAt t a' f).run P w = .ok v' w ∧ VR φ r.v v' ∧ Post R D φ σ w (r.to σ) φ w := by
  unfold k0Field at h
  split at h
  · rename_i k id off l x n fs hu
    split at h
    · rename_i fd hf
      split at h
      · rename_i s hs
        simp only [cond_eq_ite, Bool.and_eq_true] at h
        split at h
        · rename_i hb
          obtain ⟨b0, b1, b2⟩ := hb
          have := beq_t b0; subst this
          have b1 := blt_t b1
          have b2 := ble_t b2
          simp only [OhR.one, Option.some.injEq] at h; subst h
          cases ha with
          | opq v hv =>
            obtain ⟨l', row, b, s', o, vf, hl', h1, h2, h3, h4, h5, h6, h7, rfl⟩ := hv
            simp only [Sh.slc.injEq] at hl'; subst hl'
            refine ⟨.pointer (some ⟨b, o + (off + fd.offset), none⟩), ?_, .opq _ ⟨l, row, b, s', o, vf, rfl, h1, h2, h3, b2, h5, h6, h7, rfl⟩, .same0 hi rfl rfl rfl⟩
            have hn1 : s ≠ 0 := by omega
            simp [Instr.fieldAt, Instr.sureAddr, run_und hu, hf, fieldPlace, run_szOf hs, hn1, add_off, Nat.add_assoc]
        · cases h
      · cases h
    · cases h
  · cases h
theorem cellsAV_ok {id : Nat} {x n : Sx} {row : List Dat} (h1 : 0 ≤ n.eval) (h2 : x.dat.toL[n.eval.toNat]? = some row) {vf : Nat → Value} : ∀ (l : List Sh) (off : Nat),
    (∀ j < l.length, ∃ d, row[off + j]? = some d) → (∀ (j : Nat) (s : Sh) (d : Dat), l[j]? = some s → row[off + j]? = some d → GC (Pict φ id) s d (vf (off + j))) → VRL φ (cellsAV id x n l off) ((List.range l.length).map fun j => vf (off + j)) := by
  intro l
  induction l with
  | nil => intro off _ _; exact .nil
  | cons s l ih =>
    intro off ha hg
    rw [List.length_cons, List.range_succ_eq_map, List.map_cons, List.map_map]
    refine .cons ?_ ?_
    · obtain ⟨d, hd⟩ := ha 0 (by simp)
      refine cellAV_ok ?_
      have : (Sx.cell x n off).dat = d := by
        show (x.dat.cell n.dat.toI off) = d
        have h2' : x.dat.toL[n.dat.toI.toNat]? = some row := h2
        simp only [Nat.add_zero] at hd
        simp [Dat.cell, Dat.row, h2', hd]
      rw [this]
      exact hg 0 s d rfl hd
    · have := ih (off + 1) (fun j hj => by
        obtain ⟨d, hd⟩ := ha (j + 1) (by simp; omega)
        exact ⟨d, by rw [← hd]; congr 1; omega⟩) (fun j s d a b => by
        have := hg (j + 1) s d (by simpa using a) (by rw [← b]; congr 1; omega)
        rw [show off + 1 + j = off + (j + 1) by omega]; exact this)
      have e : ((fun j => vf (off + j)) ∘ Nat.succ) = fun j => vf (off + 1 + j) := by
        funext j; show vf (off + (j + 1)) = _; congr 1; omega
      rw [e]; exact this
theorem k0Load_ok (hi : Inv0 R D φ σ w) {t : TypeId} {a : AV} {a' : Value} {r : OhR} (h : k0Load P σ t a = some r) (ha : VR φ a a') (hk : Known D σ (r.to σ)) :
    ∃ v', (Instr.loadAt t a').run P w = .ok v' w ∧ VR φ r.v v' ∧ Post R D φ σ w (r.to σ) φ w := by
  unfold k0Load at h
  split at h
  · rename_i k id off l x n hagg
    split at h
    · rename_i s hs
      simp only [cond_eq_ite, Bool.and_eq_true] at h
      split at h
      · rename_i hb
        have := beq_t hb.1; subst this
        simp only [OhR.rdo, Option.some.injEq] at h; subst h
        cases ha with
        | opq v hv =>
          obtain ⟨l', row, b, s', o, vf, hl', h1, h2, h3, h4, h5, h6, h7, rfl⟩ := hv
          simp only [Sh.slc.injEq] at hl'; subst hl'
          obtain ⟨bt, fr, hblk⟩ := frz_pict hi hb.2 hk h5
          have hlt : off < l.length := by
            rcases Nat.lt_or_ge off l.length with h | h
            · exact h
            · rw [List.getElem?_eq_none h] at hs; cases hs
          have hrow : row[off]? = some row[off] := List.getElem?_eq_getElem (by omega)
          refine ⟨vf off, ?_, cellAV_ok ?_, Post.read hi _⟩
          · have hc : w.cell? ⟨b, o + off, none⟩ = some (vf off) := by rw [cell_row hblk, ← h6 off hlt]; simp
            simp [Instr.loadAt, Instr.sureAddr, loadVar, run_aggT hagg, hc]
          · have : (Sx.cell x n off).dat = row[off] := by
              show (x.dat.cell n.dat.toI off) = _
              have h2' : x.dat.toL[n.dat.toI.toNat]? = some row := h2
              simp [Dat.cell, Dat.row, h2', hrow]
            rw [this]
            exact h7 off s _ hs hrow
      · cases h
    · cases h
  · rename_i k id off l x n hagg
    split at h
    · rename_i s hs
      simp only [cond_eq_ite, Bool.and_eq_true] at h
      split at h
      · rename_i hb
        have := beq_t hb.1; subst this
        have hle := ble_t hb.2.1
        simp only [OhR.rdo, Option.some.injEq] at h; subst h
        cases ha with
        | opq v hv =>
          obtain ⟨l', row, b, s', o, vf, hl', h1, h2, h3, h4, h5, h6, h7, rfl⟩ := hv
          simp only [Sh.slc.injEq] at hl'; subst hl'
          obtain ⟨bt, fr, hblk⟩ := frz_pict hi hb.2.2 hk h5
          have hlen : ((l.drop off).take s).length = s := by simp; omega
          by_cases hs0 : s = 0
          · subst hs0
            refine ⟨.agg #[], ?_, ?_, Post.read hi _⟩
            · simp [Instr.loadAt, Instr.sureAddr, loadVar, run_aggT hagg, run_szOf hs, loadCells, loadCellsFrom]
            · simp only [List.take_zero, cellsAV]
              exact .agg _ .nil
          have hlast := h6 (off + s - 1) (by omega)
          have hsz : o + off + s ≤ s'.toArray.size := by
            rcases Nat.lt_or_ge (o + (off + s - 1)) s'.length with h | h
            · simp; omega
            · rw [List.getElem?_eq_none h] at hlast; cases hlast
          refine ⟨.agg (((s'.drop (o + off)).take s).toArray), ?_, ?_, Post.read hi _⟩
          · have := run_loadCells_row (P := P) (k := o + off) (n := s) hblk hsz
            simp only [] at this
            simp [Instr.loadAt, Instr.sureAddr, loadVar, run_aggT hagg, run_szOf hs, this]
          · refine .agg _ ?_
            have hg := cellsAV_ok (φ := φ) (id := id) (x := x) (n := n) h1 h2 (vf := vf) ((l.drop off).take s) off (fun j hj => by
              rw [hlen] at hj
              exact ⟨_, List.getElem?_eq_getElem (by omega)⟩) (fun j s₂ d a b => by
              have hj : j < s := by
                rcases Nat.lt_or_ge j s with h | h
                · exact h
                · rw [List.getElem?_eq_none (by omega)] at a; cases a
              rw [List.getElem?_take_of_lt hj, List.getElem?_drop] at a
              exact h7 _ _ _ a b)
            have e : (((s'.drop (o + off)).take s).toArray).toList = (List.range ((l.drop off).take s).length).map fun j => vf (off + j) := by
              rw [hlen]
              apply List.ext_getElem?
              intro j
              by_cases hj : j < s
              · rw [List.getElem?_map, List.getElem?_range hj]
                show ((s'.drop (o + off)).take s)[j]? = some (vf (off + j))
                rw [List.getElem?_take_of_lt hj, List.getElem?_drop, ← h6 (off + j) (by omega)]
                congr 1; omega
              · rw [List.getElem?_eq_none (by simp; omega), List.getElem?_eq_none (by simp; omega)]
            rw [e]; exact hg
      · cases h
    · cases h
  · cases h
theorem k0Slice_ok (hi : Inv0 R D φ σ w) (hdec : ∀ b v, dec b = some v → b.eval = v) {t : TypeId} {a : AV} {a' : Value} {lo hi' : Option AV} {lo' hi'' : Option Value} {r : OhR} (h : k0Slice P dec t a lo hi' none = some r) (ha : VR φ a a')
    (h1 : VRO φ lo lo') (h2 : VRO φ hi' hi'') : ∃ v', (Instr.sliceAt t a' lo' hi'' none).run P w = .ok v' w ∧ VR φ r.v v' ∧ Post R D φ σ w (r.to σ) φ w := by
  unfold k0Slice at h
  split at h
  · rename_i k id ver l x y e hu hmx
    split at h
    · rename_i s p q hs hp hq
      simp only [cond_eq_ite, Bool.and_eq_true] at h
      split at h
      · rename_i hb
        obtain ⟨b0, b1, ⟨b2, b3⟩, b4⟩ := hb
        have := beq_t b0; subst this
        have := beq_t b1; subst this
        simp only [OhR.one, Option.some.injEq] at h; subst h
        cases ha with
        | opq v hv =>
          obtain ⟨l', a, len, c, hl', rfl, hg⟩ := hv
          simp only [Sh.slc.injEq] at hl'; subst hl'
          obtain ⟨rows, hx, rfl, hc, hor⟩ := hg.inv_slc
          have g1 := hdec _ _ (isT_ok b2)
          have g2 := hdec _ _ (isT_ok b3)
          have g3 := hdec _ _ (isT_ok b4)
          simp only [Bx.eval, compI, decide_eq_true_eq, lenS_eval hx] at g1 g2 g3
          have g1 : 0 ≤ p.eval := g1
          obtain ⟨n, hn⟩ : ∃ n : Nat, p.eval = n := ⟨p.eval.toNat, by omega⟩
          obtain ⟨m, hm⟩ : ∃ m : Nat, q.eval = m := ⟨q.eval.toNat, by omega⟩
          have hnm : n ≤ m := by omega
          have hms : m ≤ rows.length := by omega
          have hbnd : ∃ lo2 hi2, boundsA rows.length none lo2 hi2 none = some (n, m, none) ∧ VRO φ lo2 lo' ∧ VRO φ hi2 hi'' := by
            rcases bndS_ok hq h2 with ⟨_, rfl, rfl⟩ | ⟨_, k2, rfl⟩
            · rw [lenS_eval hx] at hm
              have hm : rows.length = m := by omega
              rcases bndS_ok hp h1 with ⟨_, rfl, rfl⟩ | ⟨_, k1, rfl⟩
              · have hn : n = 0 := by
                  have : (Sx.lit 0).eval = 0 := rfl
                  omega
                subst hn
                exact ⟨none, none, by simp [boundsA, bndM, bndH, bndL, hm], trivial, trivial⟩
              · refine ⟨some (.int k1 (n : Int)), none, ?_, ?_, trivial⟩
                · simp [boundsA, bndM, bndH, bndL, bnd, hm]
                  rw [upto_nat hnm]
                · rw [hn]; exact .int _ _
            · rcases bndS_ok hp h1 with ⟨_, rfl, rfl⟩ | ⟨_, k1, rfl⟩
              · have hn : n = 0 := by
                  have : (Sx.lit 0).eval = 0 := rfl
                  omega
                subst hn
                refine ⟨none, some (.int k2 (m : Int)), ?_, trivial, ?_⟩
                · simp [boundsA, bndM, bndH, bndL, bnd, topOf, upto_nat hms]
                · rw [hm]; exact .int _ _
              · refine ⟨some (.int k1 (n : Int)), some (.int k2 (m : Int)), ?_, ?_, ?_⟩
                · simp [boundsA, bndM, bndH, bndL, bnd, topOf, upto_nat hms, upto_nat hnm]
                · rw [hn]; exact .int _ _
                · rw [hm]; exact .int _ _
          obtain ⟨lo2, hi2, hbd, v1, v2⟩ := hbnd
          obtain ⟨M, r1, r2, r3, r4, r5, r6⟩ := boundsA_ok (P := P) (φ := φ) (b := true) hbd v1 v2 (lo' := lo') (hi' := hi'') (mx' := none) trivial (c := c) (fun k hk => by cases hk) hc
          have hd : (Sx.pr 11 (.pr 10 x q) p).dat = .lst ((rows.take m).drop n) := by
            show Dat.lst (((x.dat.toL.take q.dat.toI.toNat)).drop p.dat.toI.toNat) = _
            have e1 : q.dat.toI = (m : Int) := hm
            have e2 : p.dat.toI = (n : Int) := hn
            rw [hx, e1, e2, Int.toNat_natCast, Int.toNat_natCast]
            rfl
          have hlen : ((rows.take m).drop n).length = m - n := by simp; omega
          have hcl : M = c := (r6 rfl).1
          subst hcl
          by_cases hz : m - n = 0
          · have hrl : (rows.take m).drop n = [] := List.length_eq_zero_iff.1 (by omega)
            have hrun : ∃ b', (Instr.sliceAt t (.slice a rows.length M) lo' hi'' none).run P w = .ok (.slice b' (m - n) (M - n)) w := by
              refine ⟨if M = n then a else a.map (·.add (n * l.length)), ?_⟩
              simp only [Instr.sliceAt, Instr.slice, Sem.run_bind, run_und hu, Result.andThen_ok, r1, run_szOf hs, Sem.run_pure]
            obtain ⟨b', hrun⟩ := hrun
            refine ⟨_, hrun, .opq _ ⟨l, b', m - n, M - n, rfl, rfl, ?_⟩, .same0 hi rfl rfl rfl⟩
            rw [hd, hrl, hz]
            exact .none l b' _
          · rcases hor with h0 | ⟨b, sn, o, vf, rfl, hpc, hll, hss, hgc⟩
            · omega
            · have hne : M ≠ n := by omega
              have hrun : (Instr.sliceAt t (.slice (some ⟨b, o, none⟩) rows.length M) lo' hi'' none).run P w = .ok (.slice (some ⟨b, o + n * l.length, none⟩) (m - n) (M - n)) w := by
                simp only [Instr.sliceAt, Instr.slice, Sem.run_bind, run_und hu, Result.andThen_ok, r1, run_szOf hs, Sem.run_pure]
                rw [if_neg hne]
                simp [add_off]
              refine ⟨_, hrun, .opq _ ⟨l, _, m - n, M - n, rfl, rfl, ?_⟩, .same0 hi rfl rfl rfl⟩
              rw [hd, ← hlen]
              have hget : ∀ i, ((rows.take m).drop n)[i]? = if n + i < m then rows[n + i]? else none := by
                intro i
                rw [List.getElem?_drop, List.getElem?_take]
              have hin : ∀ i, i < m - n → n + i < m := fun i hi => by omega
              refine .slc b sn (o + n * l.length) (M - n) (fun i j => vf (n + i) j) hpc (by omega) (fun i row hr => ?_) (fun i j hi hj => ?_) (fun i row j s d hr h3 h4 => ?_)
              · rw [hget] at hr
                split at hr
                · exact hll _ _ hr
                · cases hr
              · rw [hlen] at hi
                have := hss (n + i) j (by omega) hj
                rw [show o + n * l.length + i * l.length + j = o + (n + i) * l.length + j by rw [Nat.add_mul]; omega]
                exact this
              · rw [hget] at hr
                split at hr
                · exact hgc _ _ _ _ _ hr h3 h4
                · cases hr
      · cases h
    · cases h
  · cases h
theorem k0Op_ok (hdec : ∀ b v, dec b = some v → b.eval = v) (hi : Inv0 R D φ σ w) {ev : Operand → Option AV} {a : Operand → Value} (hev : ∀ x v, ev x = some v → VR φ v (a x)) {o : Oper} {r : OhR}
    (h : k0Op P dec ev σ o = some r) (hk : Known D σ (r.to σ)) :
    ∃ φ' w' n v', (execOp a o).run P w = .ok n w' ∧ (n = .value v' ∨ (n = .skip ∧ v' = undef)) ∧ VR φ' r.v v' ∧ Post R D φ σ w (r.to σ) φ' w' := by
  unfold k0Op at h
  split at h
  · rename_i c ho
    split at h
    · rename_i t ts x hc hts hargs
      split at h
      · rename_i v hv
        have ht0 : c.argTypes[0]? = some t := by rw [← Array.getElem?_toList, hts]; rfl
        obtain ⟨v', h1, h2, h3⟩ := k0Len_ok (P := P) (ty := o.type) (ts := c.argTypes) hi h (hev _ _ hv) ht0
        refine ⟨φ, w, .value v', v', ?_, .inl rfl, h2, h3⟩
        have ha : Array.map a c.args = #[a x] := by apply Array.ext'; simp [hargs]
        have hr : (do pure (Next.value (← Builtin.len_ c.argTypes o.type #[a x])) : Sem Next).run P w = .ok (.value v') w := by simp [h1]
        simp [execOp, ho, resolve, hc, invoke, ha, builtin, h1]
      · cases h
    · cases h
  · rename_i t x i ho
    split at h
    · rename_i v n hv hn
      obtain ⟨v', h1, h2, h3⟩ := k0Index_ok (P := P) hi hdec h (hev _ _ hv) (hev _ _ hn)
      exact ⟨φ, w, .value v', v', by simp [execOp, ho, h1], .inl rfl, h2, h3⟩
    · cases h
  · rename_i t x f ho
    split at h
    · rename_i v hv
      obtain ⟨v', h1, h2, h3⟩ := k0Field_ok (P := P) hi h (hev _ _ hv)
      exact ⟨φ, w, .value v', v', by simp [execOp, ho, h1], .inl rfl, h2, h3⟩
    · cases h
  · rename_i t x ho
    split at h
    · rename_i v hv
      obtain ⟨v', h1, h2, h3⟩ := k0Load_ok (P := P) hi h (hev _ _ hv) hk
      exact ⟨φ, w, .value v', v', by simp [execOp, ho, h1], .inl rfl, h2, h3⟩
    · cases h
  · rename_i x ho
    split at h
    · rename_i v hv
      unfold k0Nil at h
      split at h
      · rename_i k id off sh y n
        rw [cond_eq_ite] at h
        split at h
        · rename_i hb
          have := beq_t hb; subst this
          simp only [OhR.one, Option.some.injEq] at h; subst h
          have hvr := hev _ _ hv
          have hvr' := hvr
          cases hvr' with
          | opq v' hkv =>
            obtain ⟨l', row, b, s', oo, vf, hl', h1, h2, h3, h4, h5, h6, h7, h8⟩ := hkv
            refine ⟨φ, w, .value (a x), a x, ?_, .inl rfl, hvr, .same0 hi rfl rfl rfl⟩
            simp [execOp, ho, h8]
        · cases h
      · cases h
    · cases h
  · rename_i t x lo hi' mx ho
    split at h
    · rename_i k id ver sh y z hv
      split at h
      · rename_i lo1 hi1 hlo hhi
        have hvo : ∀ {q : Option Operand} {q1 : Option AV}, (match q with
            | none => some none
            | some q => (ev q).map some) = some q1 → VRO φ q1 (q.map a) := by
          intro q q1 hq
          cases q with
          | none => simp only [Option.some.injEq] at hq; subst hq; trivial
          | some q =>
            simp only at hq
            cases he : ev q with
            | none => rw [he] at hq; cases hq
            | some u => rw [he] at hq; simp only [Option.map_some, Option.some.injEq] at hq; subst hq; exact hev _ _ he
        obtain ⟨v', h1, h2, h3⟩ := k0Slice_ok (P := P) hi hdec h (hev _ _ hv) (hvo hlo) (hvo hhi)
        exact ⟨φ, w, .value v', v', by simp [execOp, ho, h1], .inl rfl, h2, h3⟩
      · cases h
    · cases h
  · cases h
end
end
end Go.Tw
