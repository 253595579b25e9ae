/-
  A part of the proof that the abstract evaluator is sound for the model's machine. Conditions: those of each theorem, as it states them.
-/
import Derived.Test.YtgcpcgaigbnniaaGreatTwD
set_option linter.all false
set_option linter.unusedSectionVars false
namespace Go.Tw
noncomputable section
/-! Operations of lists that are given: their length, a place in a row, its cells, a part. -/
def lenS (x : Sx) : Sx := .pr 7 x (.lit 0)
def cellAV (id : Nat) : Sh → Sx → AV
  | .int k, e => .sym k e
  | .bool, e => .symb (.cmp .neq e (.lit 0))
  | .str, e => .vstr e
  | .slc l, e => .opq 0 id 0 (.slc l) e (.lit 0)
def cellsAV (id : Nat) (x i : Sx) : List Sh → Nat → List AV
  | [], _ => []
  | s :: l, off => cellAV id s (.cell x i off) :: cellsAV id x i l (off + 1)
def frz (σ : St) (id : Nat) : Bool := match σ.heap.get id with
  | some (.opq k _ _ _ _ _ _ _) => Nat.beq k 0
  | _ => false
def frzRd (id : Nat) : List Nat := bif Nat.beq id gid then [gid] else [id, gid]
def frzOk (σ : St) (id : Nat) : Bool := frz σ id && frz σ gid
def OhR.one (v : AV) : Option OhR := some ⟨v, [], none, none⟩
def OhR.rdo (v : AV) (l : List Nat) : Option OhR := some ⟨v, l, none, none⟩
section
variable (P : Program) (dec : Bx → Option Bool) (ev : Operand → Option AV) (σ : St)
def k0Len (t : TypeId) (a : AV) : Option OhR := match a, P.underlying t with
  | .opq k _ _ _ x _, some (.slice _) => bif Nat.beq k 0 then OhR.one (.sym .i64 (lenS x)) else none
  | _, _ => none
def k0Index (t : TypeId) (a i : AV) : Option OhR := match a, P.underlying t, sxOf i with
  | .opq k id _ (.slc l) x _, some (.slice e), some (_, n) => match szOf P e with
    | some s => bif Nat.beq k 0 && (Nat.beq s l.length && Nat.blt 0 s && (isT dec (.cmp .geq n (.lit 0)) && isT dec (.cmp .lss n (lenS x)))) then OhR.one (.opq 1 id 0 (.slc l) x n) else none
    | none => none
  | _, _, _ => none
def k0Field (t : TypeId) (a : AV) (f : Nat) : Option OhR := match a, P.underlying t with
  | .opq k id off (.slc l) x n, some (.struct fs) => match fs[f]? with
    | some fd => match szOf P fd.type with
      | some s => bif Nat.beq k 1 && (Nat.blt 0 s && Nat.ble (off + fd.offset) l.length) then OhR.one (.opq 1 id (off + fd.offset) (.slc l) x n) else none
      | none => none
    | none => none
  | _, _ => none
def k0Load (t : TypeId) (a : AV) : Option OhR := match a, aggT P t with
  | .opq k id off (.slc l) x n, some false => match l[off]? with
    | some s => bif Nat.beq k 1 && frzOk σ id then OhR.rdo (cellAV id s (.cell x n off)) (frzRd id) else none
    | none => none
  | .opq k id off (.slc l) x n, some true => match szOf P t with
    | some s => bif Nat.beq k 1 && (Nat.ble (off + s) l.length && frzOk σ id) then OhR.rdo (.agg (cellsAV id x n ((l.drop off).take s) off)) (frzRd id) else none
    | none => none
  | _, _ => none
def k0Slice (t : TypeId) (a : AV) (lo hi mx : Option AV) : Option OhR := match a, P.underlying t, mx with
  | .opq k id _ (.slc l) x _, some (.slice e), none => match szOf P e, bndS (.lit 0) lo, bndS (lenS x) hi with
    | some s, some p, some q => bif Nat.beq k 0 && (Nat.beq s l.length && (isT dec (.cmp .geq p (.lit 0)) && isT dec (.cmp .leq p q) && isT dec (.cmp .leq q (lenS x)))) then OhR.one (.opq 0 id 0 (.slc l) (.pr 11 (.pr 10 x q) p) (.lit 0)) else none
    | _, _, _ => none
  | _, _, _ => none
def k0Nil (a : AV) : Option OhR := match a with
  | .opq k id off sh x n => bif Nat.beq k 1 then OhR.one (.opq k id off sh x n) else none
  | _ => none
def k0Op (o : Oper) : Option OhR := match o.op with
  | .call c => match c.callee, c.argTypes.toList, c.args.toList with
    | .builtin .len, t :: _, [a] => match ev a with
      | some v => k0Len P t v
      | none => none
    | _, _, _ => none
  | .indexAddr t a i => match ev a, ev i with
    | some v, some n => k0Index P dec t v n
    | _, _ => none
  | .fieldAddr t a f => match ev a with
    | some v => k0Field P t v f
    | none => none
  | .load t a => match ev a with
    | some v => k0Load P σ t v
    | none => none
  | .nilCheck a => match ev a with
    | some v => k0Nil v
    | none => none
  | .slice t a lo hi mx => match ev a with
    | some (.opq k id ver sh x y) => match (match lo with
        | none => some none
        | some q => (ev q).map some), (match hi with
        | none => some none
        | some q => (ev q).map some), mx with
      | some lo, some hi, none => k0Slice P dec t (.opq k id ver sh x y) lo hi none
      | _, _, _ => none
    | _ => none
  | _ => none
end
section
variable [Val] {P : Program} {R : Nat} {D : Nat → Prop} {φ : PM} {σ : St} {w : World} {dec : Bx → Option Bool}
theorem Inv0.inv (h : Inv0 R D φ σ w) : Inv R { Cfg.none with base := fun _ => none } D φ σ w :=
  { wf := h.wf, low := h.low, rep := h.rep, gl := fun _ _ h => by simp [Cfg.none] at h, dom := h.dom, pin := fun _ _ h => by simp [Cfg.none] at h, dec := fun _ _ h => by simp [Cfg.none] at h, wrR := h.wrR, ro := fun _ _ => trivial, oh := OhOk.none }
theorem Inv0.lt (h : Inv0 R D φ σ w) {id : Nat} {o : Ob} (ho : σ.heap.get id = some o) : id < σ.next := by
  rcases Nat.lt_or_ge id σ.next with h1 | h1
  · exact h1
  · rw [h.dom id h1] at ho; cases ho
theorem Inv0.at (h : Inv0 R D φ σ w) {id : Nat} {o : Ob} (ho : σ.heap.get id = some o) (hd : D id) : Rep R φ w id (some o) := ho ▸ h.rep id hd (h.lt ho)
theorem Post.same0 {σ' : St} (hi : Inv0 R D φ σ w) (hh : σ'.heap = σ.heap) (hn : σ'.next = σ.next) (hw : σ'.wr = σ.wr) : Post R D φ σ w σ' φ w where
  le := φ.le_refl
  grow := fun _ _ _ _ => rfl
  wrR := fun i hi => .inl (hw ▸ hi)
  wf := hi.wf
  blk := fun i v e he => .inl ⟨v, e, he, rfl⟩
  rep := fun i h => by
    rcases h with ⟨hd, hl⟩ | ⟨h1, h2⟩
    · rw [hh]; exact hi.rep i hd hl
    · omega
  frm := .refl _ _ _
omit [Val] in
theorem lgAll_rd : ∀ (l : List Nat) (σ : St), ∀ i ∈ l, i ∈ (lgAll l σ).rd := by
  intro l
  induction l with
  | nil => intro σ i h; cases h
  | cons a l ih =>
    intro σ i h
    rcases List.mem_cons.1 h with rfl | h
    · exact (lgAll_step l (σ.lgR i)).rd i (mem_addL.2 (.inl rfl))
    · exact ih _ i h
end
end
end Go.Tw
namespace Go.Tw
noncomputable section
/-! Lists of one's own, of which neither the cells nor how many there are is known. -/
def flatSh : Sh → Bool
  | .slc _ => false
  | _ => true
def flatL (l : List Sh) : Bool := l.all flatSh
section lists
theorem litRow_length (c : Nat) : ∀ (l : List Sh) (r : List Dat), r.length = l.length → (litRow c l r).length = l.length := by
  intro l
  induction l with
  | nil => intro r _; cases r <;> rfl
  | cons s l ih =>
    intro r h
    cases r with
    | nil => simp at h
    | cons d r => simp [litRow, ih r (by simpa using h)]
theorem litRow_get (c : Nat) : ∀ (l : List Sh) (r : List Dat) (j : Nat) (s : Sh) (d : Dat), l[j]? = some s → r[j]? = some d → (litRow c l r)[j]? = some (litAV c s d) := by
  intro l
  induction l with
  | nil => intro r j s d h; simp at h
  | cons x l ih =>
    intro r j s d h1 h2
    cases r with
    | nil => simp at h2
    | cons y r =>
      cases j with
      | zero => simp at h1 h2; subst h1; subst h2; rfl
      | succ j => simp only [List.getElem?_cons_succ] at h1 h2; simp only [litRow, List.getElem?_cons_succ]; exact ih r j s d h1 h2
theorem litRows_cons (c : Nat) (l : List Sh) (r : List Dat) (rows : List (List Dat)) : litRows c l (r :: rows) = litRow c l r ++ litRows c l rows := by simp [litRows]
theorem litRows_length (c : Nat) (l : List Sh) : ∀ rows : List (List Dat), (∀ r ∈ rows, r.length = l.length) → (litRows c l rows).length = rows.length * l.length := by
  intro rows
  induction rows with
  | nil => intro _; simp [litRows]
  | cons r rows ih =>
    intro h
    rw [litRows_cons, List.length_append, litRow_length c l r (h r (by simp)), ih fun r hr => h r (by simp [hr]), List.length_cons, Nat.add_mul]
    omega
theorem litRows_get (c : Nat) (l : List Sh) : ∀ (rows : List (List Dat)), (∀ r ∈ rows, r.length = l.length) → ∀ (i j : Nat) (r : List Dat), rows[i]? = some r → j < l.length → (litRows c l rows)[i * l.length + j]? = (litRow c l r)[j]? := by
  intro rows
  induction rows with
  | nil => intro _ i j r h; simp at h
  | cons x rows ih =>
    intro h i j r hr hj
    have hx := litRow_length c l x (h x (by simp))
    rw [litRows_cons]
    cases i with
    | zero =>
      simp only [List.getElem?_cons_zero, Option.some.injEq] at hr; subst hr
      rw [Nat.zero_mul, Nat.zero_add, List.getElem?_append_left (by omega)]
    | succ i =>
      rw [List.getElem?_append_right (by rw [hx, Nat.add_mul]; omega), hx]
      rw [show (i + 1) * l.length + j - l.length = i * l.length + j by rw [Nat.add_mul]; omega]
      exact ih (fun r hr => h r (by simp [hr])) i j r (by simpa using hr) hj
end lists
def bxS : Bx → Sx
  | .cmp op a b => match op with
    | .eql => .pr 20 a b
    | .neq => .pr 21 a b
    | .lss => .pr 22 a b
    | .leq => .pr 23 a b
    | .gtr => .pr 24 a b
    | .geq => .pr 25 a b
    | _ => .lit 0
  | .not b => .pr 26 (bxS b) (.lit 0)
  | .seq a b => .pr 27 a b
theorem bxS_dat [Val] : ∀ b : Bx, (bxS b).dat = .int (b2i b.eval) := by
  intro b
  induction b with
  | cmp op a b => cases op <;> rfl
  | not b ih =>
    show Dat.int (b2i (!((bxS b).dat.toI != 0))) = .int (b2i (!b.eval))
    rw [ih]
    cases b.eval <;> rfl
  | seq a b => rfl
def cvt (cid : Nat) : Sh → AV → Option Sx
  | .int k, .sym k' e => bif Nat.beq (kindN k) (kindN k') then some e else none
  | .int k, .int k' n => bif Nat.beq (kindN k) (kindN k') then some (.lit n) else none
  | .bool, .bool b => some (.lit (b2i b))
  | .bool, .symb b => some (bxS b)
  | .str, .vstr e => some e
  | .str, .str s => some (.slit s)
  | .slc _, .nils => some (.pr 13 (.lit 0) (.lit 0))
  | .slc l, .opq k id _ sh e _ => bif Nat.beq k 0 && ((Nat.beq id cid || Nat.beq id gid) && sh.same (.slc l)) then some e else none
  | _, _ => none
def cvtRow (cid : Nat) : List Sh → List AV → Option Sx
  | [], [] => some (.pr 14 (.lit 0) (.lit 0))
  | s :: l, v :: r => match cvt cid s v, cvtRow cid l r with
    | some a, some b => some (.pr 12 a b)
    | _, _ => none
  | _, _ => none
def cvtRows (cid : Nat) (l : List Sh) : Nat → List AV → Option Sx
  | 0, [] => some (.pr 13 (.lit 0) (.lit 0))
  | 0, _ => none
  | n + 1, cs => match cut cs 0 l.length, cvtRows cid l n (dropR cs l.length) with
    | some r, some y => match cvtRow cid l r with
      | some x => some (.pr 9 x y)
      | none => none
    | _, _ => none
section
variable [Val] {P : Program} {R : Nat} {D : Nat → Prop} {φ : PM} {σ : St} {w : World} {dec : Bx → Option Bool}
omit [Val] in
theorem Pict.gid {b : Nat} {s : List Value} (c : Nat) (h : Pict φ gid b s) : Pict φ c b s := by
  obtain ⟨j, n, e, hj, h⟩ := h
  exact ⟨j, n, e, .inl (hj.elim id id), h⟩
theorem cvt_ok {cid : Nat} {s : Sh} {a : AV} {v : Value} {e : Sx} (h : cvt cid s a = some e) (hv : VR φ a v) : VR φ (litAV cid s e.dat) v ∧ CellOk s e.dat := by
  unfold cvt at h
  split at h
  · rw [cond_eq_ite] at h
    split at h
    · rename_i hk
      have := kindN_inj (beq_t hk); subst this
      simp only [Option.some.injEq] at h; subst h
      cases hv
      exact ⟨.int _ _, trivial⟩
    · cases h
  · rw [cond_eq_ite] at h
    split at h
    · rename_i hk
      have := kindN_inj (beq_t hk); subst this
      simp only [Option.some.injEq] at h; subst h
      cases hv
      exact ⟨.int _ _, trivial⟩
    · cases h
  · rename_i b
    simp only [Option.some.injEq] at h; subst h
    cases hv
    refine ⟨?_, trivial⟩
    show VR φ (.bool (b2i b != 0)) (.bool b)
    cases b <;> exact .bool _
  · rename_i b
    simp only [Option.some.injEq] at h; subst h
    cases hv
    refine ⟨?_, trivial⟩
    show VR φ (.bool ((bxS b).dat.toI != 0)) (.bool b.eval)
    rw [bxS_dat]
    cases b.eval <;> exact .bool _
  · rename_i e'
    simp only [Option.some.injEq] at h; subst h
    cases hv with
    | vstr s hs => rw [hs]; exact ⟨.str s, s, rfl⟩
  · rename_i s
    simp only [Option.some.injEq] at h; subst h
    cases hv
    exact ⟨.str s, s, rfl⟩
  · rename_i l
    simp only [Option.some.injEq] at h; subst h
    cases hv
    exact ⟨.opq _ ⟨l, none, 0, 0, rfl, rfl, .none l none 0⟩, trivial⟩
  · rename_i l k id ver sh e' y
    simp only [cond_eq_ite, Bool.and_eq_true, Bool.or_eq_true] at h
    split at h
    · rename_i hb
      simp only [Option.some.injEq] at h; subst h
      obtain ⟨b0, b1, b2⟩ := hb
      have := beq_t b0; subst this
      have := Sh.same_eq b2; subst this
      refine ⟨?_, trivial⟩
      cases hv with
      | opq v hk =>
        obtain ⟨l', a, n, c, hl, rfl, hg⟩ := hk
        simp only [Sh.slc.injEq] at hl; subst hl
        refine .opq _ ⟨l, a, n, c, rfl, rfl, ?_⟩
        rcases b1 with b1 | b1
        · have := beq_t b1; subst this; exact hg
        · have := beq_t b1; subst this; exact hg.mono fun _ _ hp => hp.gid cid
    · cases h
  · cases h
theorem cvtRow_ok {cid : Nat} : ∀ {l : List Sh} {r : List AV} {r' : List Value} {e : Sx}, cvtRow cid l r = some e → VRL φ r r' → ∃ row, e.dat = .lst [row] ∧ row.length = l.length ∧ VRL φ (litRow cid l row) r' ∧
    ∀ (j : Nat) (s : Sh) (d : Dat), l[j]? = some s → row[j]? = some d → CellOk s d := by
  intro l
  induction l with
  | nil =>
    intro r r' e h hv
    cases r with
    | nil =>
      simp only [cvtRow, Option.some.injEq] at h; subst h
      cases hv
      exact ⟨[], rfl, rfl, .nil, fun j s d h => by simp at h⟩
    | cons v r => simp [cvtRow] at h
  | cons s l ih =>
    intro r r' e h hv
    cases r with
    | nil => simp [cvtRow] at h
    | cons v r =>
      simp only [cvtRow] at h
      split at h
      · rename_i a b ha hb
        simp only [Option.some.injEq] at h; subst h
        cases hv with
        | cons h1 h2 =>
          obtain ⟨row, e1, e2, e3, e4⟩ := ih hb h2
          obtain ⟨c1, c2⟩ := cvt_ok ha h1
          refine ⟨a.dat :: row, ?_, by simp [e2], .cons c1 e3, fun j s' d h1 h2 => ?_⟩
          · show Dat.lst [a.dat :: b.dat.one] = _
            rw [e1]; rfl
          · cases j with
            | zero => simp only [List.getElem?_cons_zero, Option.some.injEq] at h1 h2; subst h1; subst h2; exact c2
            | succ j => exact e4 j s' d (by simpa using h1) (by simpa using h2)
      · cases h
theorem cvtRows_ok {cid : Nat} {l : List Sh} : ∀ {n : Nat} {cs : List AV} {cs' : List Value} {e : Sx}, cvtRows cid l n cs = some e → VRL φ cs cs' → ∃ rows, e.dat = .lst rows ∧ rows.length = n ∧ RowsOk l rows ∧ VRL φ (litRows cid l rows) cs' := by
  intro n
  induction n with
  | zero =>
    intro cs cs' e h hv
    cases cs with
    | nil =>
      simp only [cvtRows, Option.some.injEq] at h; subst h
      cases hv
      exact ⟨[], rfl, rfl, (fun r hr => absurd hr (by simp)), .nil⟩
    | cons => simp [cvtRows] at h
  | succ n ih =>
    intro cs cs' e h hv
    simp only [cvtRows] at h
    split at h
    · rename_i r y hr hy
      split at h
      · rename_i x hx
        simp only [Option.some.injEq] at h; subst h
        obtain ⟨c1, c2⟩ := cut_ok hr
        have hdrop : dropR cs l.length = cs.drop l.length := by
          have : cut cs l.length (cs.drop l.length).length = cut cs l.length (cs.drop l.length).length := rfl
          exact dropR_eq cs l.length
        rw [hdrop] at hy
        simp only [List.drop_zero] at c1
        subst c1
        have hv1 := hv.take l.length
        have hv2 := hv.drop l.length
        obtain ⟨row, e1, e2, e3, e4⟩ := cvtRow_ok hx hv1
        obtain ⟨rows, g1, g2, g3, g4⟩ := ih hy hv2
        refine ⟨row :: rows, ?_, by simp [g2], fun q hq => ?_, ?_⟩
        · show Dat.lst (x.dat.toL ++ y.dat.toL) = _
          rw [e1, g1]; rfl
        · rcases List.mem_cons.1 hq with rfl | hq
          · exact ⟨e2, e4⟩
          · exact g3 q hq
        · rw [litRows_cons]
          have := e3.append g4
          rwa [List.take_append_drop] at this
      · cases h
    · cases h
theorem own_block {id ver cid t : Nat} {l : List Sh} {rows : List (List Dat)} (h : ArrRep R φ w id (litRows cid l rows) ver (litRows cid l rows).length (ver + 1) (ver + 1) t) :
    ∃ e cs fl fh, φ id ver = some e ∧ w.heap[e.blk]? = some (.cells cs t (fl, fh)) ∧ cs.size = e.bsz ∧ (litRows cid l rows).length ≤ e.hi ∧ (fl = fh ∨ e.bsz ≤ fl) ∧
      (∀ x a, e.dn ≤ x → x < (litRows cid l rows).length → (litRows cid l rows)[x]? = some a → ∃ a', cs[x + e.up - e.dn]? = some a' ∧ VR φ a a') := by
  obtain ⟨hR, h1, h2, h3, h4, h5, h6, h7⟩ := h
  obtain ⟨e, cs, fl, fh, he, hb, k1, k2, k3, k4, k5⟩ := h5 ver (.inl rfl)
  have hl : limV ver (litRows cid l rows).length ver e = (litRows cid l rows).length := by simp [limV]
  rw [hl] at k2 k5
  exact ⟨e, cs, fl, fh, he, hb, k1, k2, k4, k5⟩
end
section
variable (P : Program) (dec : Bx → Option Bool) (ev : Operand → Option AV) (σ : St)
structure Own where
  id : Nat
  ver : Nat
  cid : Nat
  l : List Sh
  x : Sx
  y : Sx
  t : TypeId
def ownOf : AV → Option Own
  | .opq k id ver (.slc l) _ y => match σ.heap.get id with
    | some (.opq k' ver' cid (.slc l') x y' [] t) => bif Nat.blt 0 l'.length && Nat.beq k 2 && (Nat.beq k' 2 && (Nat.beq ver ver' && (Sh.sameL l l' && y.same y'))) then some ⟨id, ver, cid, l, x, y, t⟩ else none
    | _ => none
  | _ => none
def ownAt (id ver : Nat) (l : List Sh) : Option Own := match σ.heap.get id with
  | some (.opq k' ver' cid (.slc l') x y' [] t) => bif Nat.blt 0 l'.length && Nat.beq k' 2 && (Nat.beq ver ver' && Sh.sameL l l') then some ⟨id, ver, cid, l, x, y', t⟩ else none
  | _ => none
def k2Len (t : TypeId) (a : AV) : Option OhR := match ownOf σ a, P.underlying t with
  | some o, some (.slice _) => OhR.rdo (.sym .i64 (lenS o.x)) [o.id]
  | _, _ => none
def k2Index (t : TypeId) (a i : AV) : Option OhR := match ownOf σ a, P.underlying t, sxOf i with
  | some o, some (.slice e), some (_, n) => match szOf P e with
    | some s => bif Nat.beq s o.l.length && Nat.blt 0 s && (isT dec (.cmp .geq n (.lit 0)) && isT dec (.cmp .lss n (lenS o.x))) then OhR.rdo (.opq 3 o.id o.ver (.slc o.l) (.lit 0) n) [o.id] else none
    | none => none
  | _, _, _ => none
def k3Field (t : TypeId) (a : AV) (f : Nat) : Option OhR := match a, P.underlying t with
  | .opq k id ver (.slc l) (.lit (.ofNat off)) n, some (.struct fs) => match fs[f]? with
    | some fd => match szOf P fd.type with
      | some s => bif Nat.beq k 3 && (Nat.blt 0 s && Nat.ble (off + fd.offset) l.length) then OhR.one (.opq 3 id ver (.slc l) (.lit (.ofNat (off + fd.offset))) n) else none
      | none => none
    | none => none
  | _, _ => none
def k3Load (t : TypeId) (a : AV) : Option OhR := match a with
  | .opq k id ver (.slc l) (.lit (.ofNat off)) n => match ownAt σ id ver l with
    | some o => match aggT P t with
      | some false => match l[off]? with
        | some s => bif Nat.beq k 3 then OhR.rdo (cellAV o.cid s (.cell o.x n off)) [id] else none
        | none => none
      | some true => match szOf P t with
        | some s => bif Nat.beq k 3 && (Nat.blt 0 s && Nat.ble (off + s) l.length) then OhR.rdo (.agg (cellsAV o.cid o.x n ((l.drop off).take s) off)) [id] else none
        | none => none
      | none => none
    | none => none
  | _ => none
def k3Nil (a : AV) : Option OhR := match a with
  | .opq k id off sh x n => bif Nat.beq k 3 then OhR.one (.opq k id off sh x n) else none
  | _ => none
end
section
variable [Val] {P : Program} {R : Nat} {D : Nat → Prop} {φ : PM} {σ : St} {w : World} {dec : Bx → Option Bool}
omit [Val] in
theorem ownOf_ok {a : AV} {o : Own} (h : ownOf σ a = some o) : ∃ z, a = .opq 2 o.id o.ver (.slc o.l) z o.y ∧ σ.heap.get o.id = some (.opq 2 o.ver o.cid (.slc o.l) o.x o.y [] o.t) ∧ 0 < o.l.length := by
  unfold ownOf at h
  split at h
  · rename_i k id ver l z y
    split at h
    · rename_i k' ver' cid l' x y' t ho
      simp only [cond_eq_ite, Bool.and_eq_true] at h
      split at h
      · rename_i hb
        obtain ⟨⟨b0, b1⟩, b2, b3, b4, b5⟩ := hb
        have b0 := blt_t b0
        simp only [Option.some.injEq] at h; subst h
        have := beq_t b1; subst this
        have := beq_t b2; subst this
        have := beq_t b3; subst this
        have := Sh.sameL_eq b4; subst this
        have := Sx.same_eq b5; subst this
        exact ⟨z, rfl, ho, b0⟩
      · cases h
    · cases h
  · cases h
theorem own_rep (hi : Inv0 R D φ σ w) {id ver cid t : Nat} {l : List Sh} {x y : Sx} (ho : σ.heap.get id = some (.opq 2 ver cid (.slc l) x y [] t)) (hd : D id) :
    ∃ rows, x.dat = .lst rows ∧ RowsOk l rows ∧ ((y.dat = .int 0 ∧ rows = [] ∧ R ≤ id ∧ ∀ v, ver ≤ v → φ id v = none) ∨
      (y.dat = .int 1 ∧ (∃ e, φ id ver = some e ∧ e.hi = (litRows cid l rows).length) ∧ ArrRep R φ w id (litRows cid l rows) ver (litRows cid l rows).length (ver + 1) (ver + 1) t)) := by
  obtain ⟨l', rows, hl, hx, hr, h⟩ := hi.at ho hd
  simp only [Sh.slc.injEq] at hl; subst hl
  refine ⟨rows, hx, hr, ?_⟩
  rcases h with ⟨h1, h2, h3, h4, h5⟩ | ⟨h1, h2, h3⟩
  · exact .inl ⟨h1, h2, h4, h5⟩
  · rw [List.append_nil] at h2 h3
    exact .inr ⟨h1, h2, h3⟩
omit [Val] in
theorem rows_len {l : List Sh} {rows : List (List Dat)} (h : RowsOk l rows) : ∀ r ∈ rows, r.length = l.length := fun r hr => (h r hr).1
theorem own_val (hi : Inv0 R D φ σ w) {a : AV} {a' : Value} {o : Own} (h : ownOf σ a = some o) (ha : VR φ a a') (hd : D o.id) : ∃ rows, o.x.dat = .lst rows ∧ RowsOk o.l rows ∧
    ((∃ b, a' = .slice b 0 0 ∧ o.y.dat = .int 0 ∧ rows = [] ∧ R ≤ o.id ∧ ∀ v, o.ver ≤ v → φ o.id v = none) ∨
     (∃ e c, a' = .slice (some ⟨e.blk, e.up, none⟩) rows.length c ∧ o.y.dat = .int 1 ∧ φ o.id o.ver = some e ∧ e.dn = 0 ∧ e.hi = rows.length * o.l.length ∧ rows.length ≤ c ∧ e.up + c * o.l.length ≤ e.bsz ∧
        ArrRep R φ w o.id (litRows o.cid o.l rows) o.ver (litRows o.cid o.l rows).length (o.ver + 1) (o.ver + 1) o.t)) := by
  obtain ⟨z, rfl, ho, hl0⟩ := ownOf_ok h
  obtain ⟨rows, hx, hr, hor⟩ := own_rep hi ho hd
  refine ⟨rows, hx, hr, ?_⟩
  cases ha with
  | opq v hv =>
    rcases hv with ⟨y0, b, rfl⟩ | ⟨y1, l', e', c, n, hl, he, hdn, hn, hc, hbs, rfl⟩
    · rcases hor with ⟨h1, h2, h3, h4⟩ | ⟨h1, _⟩
      · exact .inl ⟨b, rfl, h1, h2, h3, h4⟩
      · rw [y0] at h1; cases h1
    · rcases hor with ⟨h1, _⟩ | ⟨_, ⟨e2, he2, hh⟩, har⟩
      · rw [y1] at h1; cases h1
      · simp only [Sh.slc.injEq] at hl; subst hl
        rw [he] at he2; simp only [Option.some.injEq] at he2; subst he2
        rw [litRows_length _ _ _ (rows_len hr)] at hh
        have : n = rows.length := Nat.eq_of_mul_eq_mul_right hl0 (hn.trans hh)
        subst this
        exact .inr ⟨e', c, rfl, y1, he, hdn, hh, hc, hbs, har⟩
end
end
end Go.Tw
namespace Go.Tw
open Go
noncomputable section
section
variable [Val] {P : Program} {R : Nat} {D : Nat → Prop} {φ : PM} {σ : St} {w : World} {dec : Bx → Option Bool}
theorem ArrRep.single {id ver t : Nat} {c : List AV} {e : Ext} {cs : Array Value} {fl fh : Nat} (hR : R ≤ id) (he : φ id ver = some e) (hno : ∀ v, ver < v → φ id v = none) (hb : w.heap[e.blk]? = some (.cells cs t (fl, fh)))
    (hs : cs.size = e.bsz) (hl : c.length ≤ e.hi) (hf : fl = fh ∨ e.bsz ≤ fl) (hc : ∀ x a, e.dn ≤ x → x < c.length → c[x]? = some a → ∃ a', cs[x + e.up - e.dn]? = some a' ∧ VR φ a a') : ArrRep R φ w id c ver c.length (ver + 1) (ver + 1) t := by
  have hal : ∀ v, aliveV ver (ver + 1) (ver + 1) v → v = ver := fun v hv => by
    rcases hv with h | h
    · exact h
    · omega
  refine ⟨hR, Nat.le_refl _, by omega, Nat.le_refl _, fun v hv => hno v (by omega), fun v hv => ?_, fun v₁ v₂ e₁ e₂ a1 a2 b1 b2 _ => ?_, fun v e' h1 h2 => by omega⟩
  · have := hal v hv; subst this
    have hlm : limV v c.length v e = c.length := by simp [limV]
    refine ⟨e, cs, fl, fh, he, hb, hs, ?_, ?_, hf, ?_⟩ <;> rw [hlm]
    · exact hl
    · exact Nat.le_refl _
    · exact hc
  · have := hal v₁ a1; subst this
    have := hal v₂ a2; subst this
    rw [b1] at b2; simp only [Option.some.injEq] at b2; subst b2
    exact ⟨rfl, rfl⟩
end
def shI : List Sh := [.int .i64]
def isShI : List Sh → Bool
  | [.int k] => Nat.beq (kindN k) (kindN .i64)
  | _ => false
theorem isShI_eq {l : List Sh} (h : isShI l = true) : l = shI := by
  unfold isShI at h
  split at h
  · rename_i k
    rw [kindN_inj (beq_t h)]; rfl
  · cases h
def Ent (cid : Nat) (es : List (AV × AV × Nat)) (rows : List (List Dat)) : Prop := es.map (fun e => (e.1, e.2.1)) = rows.map (litEnt cid shI false)
theorem litEnt_two (cid : Nat) (r : List Dat) (h : r.length = 2) : litEnt cid shI false r = (.int .i64 (rowK r), .int .i64 (rowV r)) := by
  match r, h with
  | [a, b], _ => rfl
end
end Go.Tw
