/-
  A part of the proof that the abstract evaluator is sound for the model's machine. Conditions: those of each theorem, as it states them.
-/
import Derived.Test.YtbkokbjpbbpllaaGreatTwK0
namespace Go.Tw
noncomputable section
/-! Lists of one's own, of which neither the cells nor how many there are is known. -/
def flatSh : Sh → Bool
  | .slc _ => false
  | _ => true
def flatL (l : List Sh) : Bool := l.all flatSh
section lists
theorem litRow_length (c : Nat) : ∀ (l : List Sh) (r : List Dat), r.length = l.length → (litRow c l r).length = l.length := by
  intro l
  induction l with
  | nil => intro r _; cases r <;> rfl
  | cons s l ih =>
    intro r h
    cases r with
    | nil => simp at h
    | cons d r => simp [litRow, ih r (by simpa using h)]
theorem litRow_get (c : Nat) : ∀ (l : List Sh) (r : List Dat) (j : Nat) (s : Sh) (d : Dat), l[j]? = some s → r[j]? = some d → (litRow c l r)[j]? = some (litAV c s d) := by
  intro l
  induction l with
  | nil => intro r j s d h; simp at h
  | cons x l ih =>
    intro r j s d h1 h2
    cases r with
    | nil => simp at h2
    | cons y r =>
      cases j with
      | zero => simp at h1 h2; subst h1; subst h2; rfl
      | succ j => simp only [List.getElem?_cons_succ] at h1 h2; simp only [litRow, List.getElem?_cons_succ]; exact ih r j s d h1 h2
theorem litRows_nil (c : Nat) (l : List Sh) : litRows c l [] = [] := rfl
theorem litRows_cons (c : Nat) (l : List Sh) (r : List Dat) (rows : List (List Dat)) : litRows c l (r :: rows) = litRow c l r ++ litRows c l rows := by simp [litRows]
theorem litRows_append (c : Nat) (l : List Sh) (a b : List (List Dat)) : litRows c l (a ++ b) = litRows c l a ++ litRows c l b := by simp [litRows]
theorem litRows_length (c : Nat) (l : List Sh) : ∀ rows : List (List Dat), (∀ r ∈ rows, r.length = l.length) → (litRows c l rows).length = rows.length * l.length := by
  intro rows
  induction rows with
  | nil => intro _; simp [litRows]
  | cons r rows ih =>
    intro h
    rw [litRows_cons, List.length_append, litRow_length c l r (h r (by simp)), ih fun r hr => h r (by simp [hr]), List.length_cons, Nat.add_mul]
    omega
theorem litRows_get (c : Nat) (l : List Sh) : ∀ (rows : List (List Dat)), (∀ r ∈ rows, r.length = l.length) → ∀ (i j : Nat) (r : List Dat), rows[i]? = some r → j < l.length → (litRows c l rows)[i * l.length + j]? = (litRow c l r)[j]? := by
  intro rows
  induction rows with
  | nil => intro _ i j r h; simp at h
  | cons x rows ih =>
    intro h i j r hr hj
    have hx := litRow_length c l x (h x (by simp))
    rw [litRows_cons]
    cases i with
    | zero =>
      simp only [List.getElem?_cons_zero, Option.some.injEq] at hr; subst hr
      rw [Nat.zero_mul, Nat.zero_add, List.getElem?_append_left (by omega)]
    | succ i =>
      rw [List.getElem?_append_right (by rw [hx, Nat.add_mul]; omega), hx]
      rw [show (i + 1) * l.length + j - l.length = i * l.length + j by rw [Nat.add_mul]; omega]
      exact ih (fun r hr => h r (by simp [hr])) i j r (by simpa using hr) hj
theorem litAV_flat (c : Nat) (s : Sh) (d : Dat) : (litAV c s d).flat = true := by cases s <;> rfl
theorem litRow_flat (c : Nat) : ∀ (l : List Sh) (r : List Dat), (litRow c l r).all AV.flat = true := by
  intro l
  induction l with
  | nil => intro r; rfl
  | cons s l ih =>
    intro r
    cases r with
    | nil => rfl
    | cons d r => simp [litRow, litAV_flat, ih r]
theorem litRows_flat (c : Nat) (l : List Sh) (rows : List (List Dat)) : (litRows c l rows).all AV.flat = true := by
  induction rows with
  | nil => rfl
  | cons r rows ih => rw [litRows_cons, List.all_append, litRow_flat, ih]; rfl
theorem litAV_any {c c' : Nat} {s : Sh} (h : flatSh s = true) (d : Dat) : litAV c s d = litAV c' s d := by cases s <;> first | rfl | simp [flatSh] at h
theorem litRow_any {c c' : Nat} : ∀ {l : List Sh}, flatL l = true → ∀ r, litRow c l r = litRow c' l r := by
  intro l
  induction l with
  | nil => intro _ r; cases r <;> rfl
  | cons s l ih =>
    intro h r
    simp only [flatL, List.all_cons, Bool.and_eq_true] at h
    cases r with
    | nil => rfl
    | cons d r => simp [litRow, litAV_any (c := c) (c' := c') h.1, ih h.2 r]
theorem litRows_any {c c' : Nat} {l : List Sh} (h : flatL l = true) (rows : List (List Dat)) : litRows c l rows = litRows c' l rows := by
  unfold litRows
  congr 1
  exact List.map_congr_left fun r _ => litRow_any h r
end lists
def bxS : Bx → Sx
  | .cmp op a b => match op with
    | .eql => .pr 20 a b
    | .neq => .pr 21 a b
    | .lss => .pr 22 a b
    | .leq => .pr 23 a b
    | .gtr => .pr 24 a b
    | .geq => .pr 25 a b
    | _ => .lit 0
  | .not b => .pr 26 (bxS b) (.lit 0)
  | .seq a b => .pr 27 a b
theorem bxS_dat [Val] : ∀ b : Bx, (bxS b).dat = .int (b2i b.eval) := by
  intro b
  induction b with
  | cmp op a b => cases op <;> rfl
  | not b ih =>
    show Dat.int (b2i (!((bxS b).dat.toI != 0))) = .int (b2i (!b.eval))
    rw [ih]
    cases b.eval <;> rfl
  | seq a b => rfl
def cvt (cid : Nat) : Sh → AV → Option Sx
  | .int k, .sym k' e => bif Nat.beq (kindN k) (kindN k') then some e else none
  | .int k, .int k' n => bif Nat.beq (kindN k) (kindN k') then some (.lit n) else none
  | .bool, .bool b => some (.lit (b2i b))
  | .bool, .symb b => some (bxS b)
  | .str, .vstr e => some e
  | .str, .str s => some (.slit s)
  | .slc _, .nils => some (.pr 13 (.lit 0) (.lit 0))
  | .slc l, .opq k id _ sh e _ => bif Nat.beq k 0 && ((Nat.beq id cid || Nat.beq id gid) && sh.same (.slc l)) then some e else none
  | _, _ => none
def cvtRow (cid : Nat) : List Sh → List AV → Option Sx
  | [], [] => some (.pr 14 (.lit 0) (.lit 0))
  | s :: l, v :: r => match cvt cid s v, cvtRow cid l r with
    | some a, some b => some (.pr 12 a b)
    | _, _ => none
  | _, _ => none
def cvtRows (cid : Nat) (l : List Sh) : Nat → List AV → Option Sx
  | 0, [] => some (.pr 13 (.lit 0) (.lit 0))
  | 0, _ => none
  | n + 1, cs => match cut cs 0 l.length, cvtRows cid l n (dropR cs l.length) with
    | some r, some y => match cvtRow cid l r with
      | some x => some (.pr 9 x y)
      | none => none
    | _, _ => none
section
variable [Val] {P : Program} {R : Nat} {D : Nat → Prop} {φ : PM} {σ : St} {w : World} {dec : Bx → Option Bool}
omit [Val] in
theorem GC.cellOk {pc : Nat → List Value → Prop} {s : Sh} {d : Dat} {v : Value} (h : GC pc s d v) : CellOk s d := by
  cases h with
  | int => trivial
  | bool => trivial
  | str s => exact ⟨s, rfl⟩
  | none => trivial
  | slc => trivial
theorem GC.lit {id : Nat} {s : Sh} {d : Dat} {v : Value} (h : GC (Pict φ id) s d v) : VR φ (litAV id s d) v := by
  cases h with
  | int k d => exact .int k _
  | bool d => exact .bool _
  | str s => exact .str s
  | none l a c => exact .opq _ ⟨l, a, 0, c, rfl, rfl, .none l a c⟩
  | slc b s o c vf hp hc hl hs hg => exact .opq _ ⟨_, _, _, _, rfl, rfl, .slc b s o c vf hp hc hl hs hg⟩
omit [Val] in
theorem Pict.gid {b : Nat} {s : List Value} (c : Nat) (h : Pict φ gid b s) : Pict φ c b s := by
  obtain ⟨j, n, e, hj, h⟩ := h
  exact ⟨j, n, e, .inl (hj.elim id id), h⟩
theorem cvt_ok {cid : Nat} {s : Sh} {a : AV} {v : Value} {e : Sx} (h : cvt cid s a = some e) (hv : VR φ a v) : VR φ (litAV cid s e.dat) v ∧ CellOk s e.dat := by
  unfold cvt at h
  split at h
  · rw [cond_eq_ite] at h
    split at h
    · rename_i hk
      have := kindN_inj (beq_t hk); subst this
      simp only [Option.some.injEq] at h; subst h
      cases hv
      exact ⟨.int _ _, trivial⟩
    · cases h
  · rw [cond_eq_ite] at h
    split at h
    · rename_i hk
      have := kindN_inj (beq_t hk); subst this
      simp only [Option.some.injEq] at h; subst h
      cases hv
      exact ⟨.int _ _, trivial⟩
    · cases h
  · rename_i b
    simp only [Option.some.injEq] at h; subst h
    cases hv
    refine ⟨?_, trivial⟩
    show VR φ (.bool (b2i b != 0)) (.bool b)
    cases b <;> exact .bool _
  · rename_i b
    simp only [Option.some.injEq] at h; subst h
    cases hv
    refine ⟨?_, trivial⟩
    show VR φ (.bool ((bxS b).dat.toI != 0)) (.bool b.eval)
    rw [bxS_dat]
    cases b.eval <;> exact .bool _
  · rename_i e'
    simp only [Option.some.injEq] at h; subst h
    cases hv with
    | vstr s hs => rw [hs]; exact ⟨.str s, s, rfl⟩
  · rename_i s
    simp only [Option.some.injEq] at h; subst h
    cases hv
    exact ⟨.str s, s, rfl⟩
  · rename_i l
    simp only [Option.some.injEq] at h; subst h
    cases hv
    exact ⟨.opq _ ⟨l, none, 0, 0, rfl, rfl, .none l none 0⟩, trivial⟩
  · rename_i l k id ver sh e' y
    simp only [cond_eq_ite, Bool.and_eq_true, Bool.or_eq_true] at h
    split at h
    · rename_i hb
      simp only [Option.some.injEq] at h; subst h
      obtain ⟨b0, b1, b2⟩ := hb
      have := beq_t b0; subst this
      have := Sh.same_eq b2; subst this
      refine ⟨?_, trivial⟩
      cases hv with
      | opq v hk =>
        obtain ⟨l', a, n, c, hl, rfl, hg⟩ := hk
        simp only [Sh.slc.injEq] at hl; subst hl
        refine .opq _ ⟨l, a, n, c, rfl, rfl, ?_⟩
        rcases b1 with b1 | b1
        · have := beq_t b1; subst this; exact hg
        · have := beq_t b1; subst this; exact hg.mono fun _ _ hp => hp.gid cid
    · cases h
  · cases h
theorem cvtRow_ok {cid : Nat} : ∀ {l : List Sh} {r : List AV} {r' : List Value} {e : Sx}, cvtRow cid l r = some e → VRL φ r r' → ∃ row, e.dat = .lst [row] ∧ row.length = l.length ∧ VRL φ (litRow cid l row) r' ∧
    ∀ (j : Nat) (s : Sh) (d : Dat), l[j]? = some s → row[j]? = some d → CellOk s d := by
  intro l
  induction l with
  | nil =>
    intro r r' e h hv
    cases r with
    | nil =>
      simp only [cvtRow, Option.some.injEq] at h; subst h
      cases hv
      exact ⟨[], rfl, rfl, .nil, fun j s d h => by simp at h⟩
    | cons v r => simp [cvtRow] at h
  | cons s l ih =>
    intro r r' e h hv
    cases r with
    | nil => simp [cvtRow] at h
    | cons v r =>
      simp only [cvtRow] at h
      split at h
      · rename_i a b ha hb
        simp only [Option.some.injEq] at h; subst h
        cases hv with
        | cons h1 h2 =>
          obtain ⟨row, e1, e2, e3, e4⟩ := ih hb h2
          obtain ⟨c1, c2⟩ := cvt_ok ha h1
          refine ⟨a.dat :: row, ?_, by simp [e2], .cons c1 e3, fun j s' d h1 h2 => ?_⟩
          · show Dat.lst [a.dat :: b.dat.one] = _
            rw [e1]; rfl
          · cases j with
            | zero => simp only [List.getElem?_cons_zero, Option.some.injEq] at h1 h2; subst h1; subst h2; exact c2
            | succ j => exact e4 j s' d (by simpa using h1) (by simpa using h2)
      · cases h
theorem cvtRows_ok {cid : Nat} {l : List Sh} : ∀ {n : Nat} {cs : List AV} {cs' : List Value} {e : Sx}, cvtRows cid l n cs = some e → VRL φ cs cs' → ∃ rows, e.dat = .lst rows ∧ rows.length = n ∧ RowsOk l rows ∧ VRL φ (litRows cid l rows) cs' := by
  intro n
  induction n with
  | zero =>
    intro cs cs' e h hv
    cases cs with
    | nil =>
      simp only [cvtRows, Option.some.injEq] at h; subst h
      cases hv
      exact ⟨[], rfl, rfl, (fun r hr => absurd hr (by simp)), .nil⟩
    | cons => simp [cvtRows] at h
  | succ n ih =>
    intro cs cs' e h hv
    simp only [cvtRows] at h
    split at h
    · rename_i r y hr hy
      split at h
      · rename_i x hx
        simp only [Option.some.injEq] at h; subst h
        obtain ⟨c1, c2⟩ := cut_ok hr
        have hdrop : dropR cs l.length = cs.drop l.length := by
          have : cut cs l.length (cs.drop l.length).length = cut cs l.length (cs.drop l.length).length := rfl
          exact dropR_eq cs l.length
        rw [hdrop] at hy
        simp only [List.drop_zero] at c1
        subst c1
        have hv1 := hv.take l.length
        have hv2 := hv.drop l.length
        obtain ⟨row, e1, e2, e3, e4⟩ := cvtRow_ok hx hv1
        obtain ⟨rows, g1, g2, g3, g4⟩ := ih hy hv2
        refine ⟨row :: rows, ?_, by simp [g2], fun q hq => ?_, ?_⟩
        · show Dat.lst (x.dat.toL ++ y.dat.toL) = _
          rw [e1, g1]; rfl
        · rcases List.mem_cons.1 hq with rfl | hq
          · exact ⟨e2, e4⟩
          · exact g3 q hq
        · rw [litRows_cons]
          have := e3.append g4
          rwa [List.take_append_drop] at this
      · cases h
    · cases h
theorem lit_cell {cid : Nat} {s : Sh} {e : Sx} {v : Value} (hc : CellOk s e.dat) (h : VR φ (litAV cid s e.dat) v) : VR φ (cellAV cid s e) v := by
  cases s with
  | int k =>
    have h : VR φ (.int k e.dat.toI) v := h
    cases h
    exact .sym k e
  | bool =>
    have h : VR φ (.bool (e.dat.toI != 0)) v := h
    cases h
    exact .symb (.cmp .neq e (.lit 0))
  | str =>
    obtain ⟨t, ht⟩ := hc
    rw [ht] at h
    have h : VR φ (.str t) v := h
    cases h
    exact .vstr t ht
  | slc l =>
    have h : VR φ (.opq 0 cid 0 (.slc l) (.dlit e.dat) (.lit 0)) v := h
    cases h with
    | opq v hk => exact .opq v hk
theorem own_block {id ver cid t : Nat} {l : List Sh} {rows : List (List Dat)} (h : ArrRep R φ w id (litRows cid l rows) ver (litRows cid l rows).length (ver + 1) (ver + 1) t) :
    ∃ e cs fl fh, φ id ver = some e ∧ w.heap[e.blk]? = some (.cells cs t (fl, fh)) ∧ cs.size = e.bsz ∧ (litRows cid l rows).length ≤ e.hi ∧ (fl = fh ∨ e.bsz ≤ fl) ∧
      (∀ x a, e.dn ≤ x → x < (litRows cid l rows).length → (litRows cid l rows)[x]? = some a → ∃ a', cs[x + e.up - e.dn]? = some a' ∧ VR φ a a') := by
  obtain ⟨hR, h1, h2, h3, h4, h5, h6, h7⟩ := h
  obtain ⟨e, cs, fl, fh, he, hb, k1, k2, k3, k4, k5⟩ := h5 ver (.inl rfl)
  have hl : limV ver (litRows cid l rows).length ver e = (litRows cid l rows).length := by simp [limV]
  rw [hl] at k2 k5
  exact ⟨e, cs, fl, fh, he, hb, k1, k2, k4, k5⟩
end
section
variable (P : Program) (dec : Bx → Option Bool) (ev : Operand → Option AV) (σ : St)
structure Own where
  id : Nat
  ver : Nat
  cid : Nat
  l : List Sh
  x : Sx
  y : Sx
  t : TypeId
def ownOf : AV → Option Own
  | .opq k id ver (.slc l) _ y => match σ.heap.get id with
    | some (.opq k' ver' cid (.slc l') x y' [] t) => bif Nat.blt 0 l'.length && Nat.beq k 2 && (Nat.beq k' 2 && (Nat.beq ver ver' && (Sh.sameL l l' && y.same y'))) then some ⟨id, ver, cid, l, x, y, t⟩ else none
    | _ => none
  | _ => none
def ownAt (id ver : Nat) (l : List Sh) : Option Own := match σ.heap.get id with
  | some (.opq k' ver' cid (.slc l') x y' [] t) => bif Nat.blt 0 l'.length && Nat.beq k' 2 && (Nat.beq ver ver' && Sh.sameL l l') then some ⟨id, ver, cid, l, x, y', t⟩ else none
  | _ => none
def k2Len (t : TypeId) (a : AV) : Option OhR := match ownOf σ a, P.underlying t with
  | some o, some (.slice _) => OhR.rdo (.sym .i64 (lenS o.x)) [o.id]
  | _, _ => none
def k2Index (t : TypeId) (a i : AV) : Option OhR := match ownOf σ a, P.underlying t, sxOf i with
  | some o, some (.slice e), some (_, n) => match szOf P e with
    | some s => bif Nat.beq s o.l.length && Nat.blt 0 s && (isT dec (.cmp .geq n (.lit 0)) && isT dec (.cmp .lss n (lenS o.x))) then OhR.rdo (.opq 3 o.id o.ver (.slc o.l) (.lit 0) n) [o.id] else none
    | none => none
  | _, _, _ => none
def k3Field (t : TypeId) (a : AV) (f : Nat) : Option OhR := match a, P.underlying t with
  | .opq k id ver (.slc l) (.lit (.ofNat off)) n, some (.struct fs) => match fs[f]? with
    | some fd => match szOf P fd.type with
      | some s => bif Nat.beq k 3 && (Nat.blt 0 s && Nat.ble (off + fd.offset) l.length) then OhR.one (.opq 3 id ver (.slc l) (.lit (.ofNat (off + fd.offset))) n) else none
      | none => none
    | none => none
  | _, _ => none
def k3Load (t : TypeId) (a : AV) : Option OhR := match a with
  | .opq k id ver (.slc l) (.lit (.ofNat off)) n => match ownAt σ id ver l with
    | some o => match aggT P t with
      | some false => match l[off]? with
        | some s => bif Nat.beq k 3 then OhR.rdo (cellAV o.cid s (.cell o.x n off)) [id] else none
        | none => none
      | some true => match szOf P t with
        | some s => bif Nat.beq k 3 && (Nat.blt 0 s && Nat.ble (off + s) l.length) then OhR.rdo (.agg (cellsAV o.cid o.x n ((l.drop off).take s) off)) [id] else none
        | none => none
      | none => none
    | none => none
  | _ => none
def k3Nil (a : AV) : Option OhR := match a with
  | .opq k id off sh x n => bif Nat.beq k 3 then OhR.one (.opq k id off sh x n) else none
  | _ => none
end
section
variable [Val] {P : Program} {R : Nat} {D : Nat → Prop} {φ : PM} {σ : St} {w : World} {dec : Bx → Option Bool}
omit [Val] in
theorem ownOf_ok {a : AV} {o : Own} (h : ownOf σ a = some o) : ∃ z, a = .opq 2 o.id o.ver (.slc o.l) z o.y ∧ σ.heap.get o.id = some (.opq 2 o.ver o.cid (.slc o.l) o.x o.y [] o.t) ∧ 0 < o.l.length := by
  unfold ownOf at h
  split at h
  · rename_i k id ver l z y
    split at h
    · rename_i k' ver' cid l' x y' t ho
      simp only [cond_eq_ite, Bool.and_eq_true] at h
      split at h
      · rename_i hb
        obtain ⟨⟨b0, b1⟩, b2, b3, b4, b5⟩ := hb
        have b0 := blt_t b0
        simp only [Option.some.injEq] at h; subst h
        have := beq_t b1; subst this
        have := beq_t b2; subst this
        have := beq_t b3; subst this
        have := Sh.sameL_eq b4; subst this
        have := Sx.same_eq b5; subst this
        exact ⟨z, rfl, ho, b0⟩
      · cases h
    · cases h
  · cases h
omit [Val] in
theorem ownAt_ok {id ver : Nat} {l : List Sh} {o : Own} (h : ownAt σ id ver l = some o) : o.id = id ∧ o.ver = ver ∧ o.l = l ∧ σ.heap.get id = some (.opq 2 ver o.cid (.slc l) o.x o.y [] o.t) ∧ 0 < l.length := by
  unfold ownAt at h
  split at h
  · rename_i k' ver' cid l' x y' t ho
    simp only [cond_eq_ite, Bool.and_eq_true] at h
    split at h
    · rename_i hb
      obtain ⟨⟨b0, b2⟩, b3, b4⟩ := hb
      have b0 := blt_t b0
      simp only [Option.some.injEq] at h; subst h
      have := beq_t b2; subst this
      have := beq_t b3; subst this
      have := Sh.sameL_eq b4; subst this
      exact ⟨rfl, rfl, rfl, ho, b0⟩
    · cases h
  · cases h
theorem own_rep (hi : Inv0 R D φ σ w) {id ver cid t : Nat} {l : List Sh} {x y : Sx} (ho : σ.heap.get id = some (.opq 2 ver cid (.slc l) x y [] t)) (hd : D id) :
    ∃ rows, x.dat = .lst rows ∧ RowsOk l rows ∧ ((y.dat = .int 0 ∧ rows = [] ∧ R ≤ id ∧ ∀ v, ver ≤ v → φ id v = none) ∨
      (y.dat = .int 1 ∧ (∃ e, φ id ver = some e ∧ e.hi = (litRows cid l rows).length) ∧ ArrRep R φ w id (litRows cid l rows) ver (litRows cid l rows).length (ver + 1) (ver + 1) t)) := by
  obtain ⟨l', rows, hl, hx, hr, h⟩ := hi.at ho hd
  simp only [Sh.slc.injEq] at hl; subst hl
  refine ⟨rows, hx, hr, ?_⟩
  rcases h with ⟨h1, h2, h3, h4, h5⟩ | ⟨h1, h2, h3⟩
  · exact .inl ⟨h1, h2, h4, h5⟩
  · rw [List.append_nil] at h2 h3
    exact .inr ⟨h1, h2, h3⟩
omit [Val] in
theorem rows_len {l : List Sh} {rows : List (List Dat)} (h : RowsOk l rows) : ∀ r ∈ rows, r.length = l.length := fun r hr => (h r hr).1
omit [Val] in
theorem known_one {r : Nat} {l : List Nat} {v : AV} (hk : Known D σ ((⟨v, l, none, none⟩ : OhR).to σ)) (hl : r ∈ l) (hlt : r < σ.next) : D r := hk r (.inl (lgAll_rd l σ r hl)) hlt
theorem own_val (hi : Inv0 R D φ σ w) {a : AV} {a' : Value} {o : Own} (h : ownOf σ a = some o) (ha : VR φ a a') (hd : D o.id) : ∃ rows, o.x.dat = .lst rows ∧ RowsOk o.l rows ∧
    ((∃ b, a' = .slice b 0 0 ∧ o.y.dat = .int 0 ∧ rows = [] ∧ R ≤ o.id ∧ ∀ v, o.ver ≤ v → φ o.id v = none) ∨
     (∃ e c, a' = .slice (some ⟨e.blk, e.up, none⟩) rows.length c ∧ o.y.dat = .int 1 ∧ φ o.id o.ver = some e ∧ e.dn = 0 ∧ e.hi = rows.length * o.l.length ∧ rows.length ≤ c ∧ e.up + c * o.l.length ≤ e.bsz ∧
        ArrRep R φ w o.id (litRows o.cid o.l rows) o.ver (litRows o.cid o.l rows).length (o.ver + 1) (o.ver + 1) o.t)) := by
  obtain ⟨z, rfl, ho, hl0⟩ := ownOf_ok h
  obtain ⟨rows, hx, hr, hor⟩ := own_rep hi ho hd
  refine ⟨rows, hx, hr, ?_⟩
  cases ha with
  | opq v hv =>
    rcases hv with ⟨y0, b, rfl⟩ | ⟨y1, l', e', c, n, hl, he, hdn, hn, hc, hbs, rfl⟩
    · rcases hor with ⟨h1, h2, h3, h4⟩ | ⟨h1, _⟩
      · exact .inl ⟨b, rfl, h1, h2, h3, h4⟩
      · rw [y0] at h1; cases h1
    · rcases hor with ⟨h1, _⟩ | ⟨_, ⟨e2, he2, hh⟩, har⟩
      · rw [y1] at h1; cases h1
      · simp only [Sh.slc.injEq] at hl; subst hl
        rw [he] at he2; simp only [Option.some.injEq] at he2; subst he2
        rw [litRows_length _ _ _ (rows_len hr)] at hh
        have : n = rows.length := Nat.eq_of_mul_eq_mul_right hl0 (hn.trans hh)
        subst this
        exact .inr ⟨e', c, rfl, y1, he, hdn, hh, hc, hbs, har⟩
theorem k2Len_ok (hi : Inv0 R D φ σ w) {t ty : TypeId} {a : AV} {a' : Value} {ts : Array TypeId} {r : OhR} (h : k2Len P σ t a = some r) (ha : VR φ a a') (hk : Known D σ (r.to σ)) (ht : ts[0]? = some t) :
    ∃ v', (Builtin.len_ ts ty #[a']).run P w = .ok v' w ∧ VR φ r.v v' ∧ Post R D φ σ w (r.to σ) φ w := by
  unfold k2Len at h
  split at h
  · rename_i o e hoo hu
    simp only [OhR.rdo, Option.some.injEq] at h; subst h
    obtain ⟨z, _, ho, _⟩ := ownOf_ok hoo
    obtain ⟨rows, hx, hr, hor⟩ := own_val hi hoo ha (known_one hk (by simp) (hi.lt ho))
    have hlen : ∃ b c, a' = .slice b rows.length c := by
      rcases hor with ⟨b, rfl, _, rfl, _⟩ | ⟨e, c, rfl, _⟩
      · exact ⟨b, 0, rfl⟩
      · exact ⟨_, c, rfl⟩
    obtain ⟨b, c, rfl⟩ := hlen
    refine ⟨goInt rows.length, by simp [Builtin.len_, ht, run_und hu], ?_, Post.read hi _⟩
    show VR φ _ (.int .i64 _)
    rw [← lenS_eval hx]
    exact .sym _ _
  · cases h
theorem k2Index_ok (hi : Inv0 R D φ σ w) (hdec : ∀ b v, dec b = some v → b.eval = v) {t : TypeId} {a i : AV} {a' i' : Value} {r : OhR} (h : k2Index P dec σ t a i = some r) (ha : VR φ a a') (hin : VR φ i i') (hk : Known D σ (r.to σ)) :
    ∃ v', (Instr.indexAt t a' i').run P w = .ok v' w ∧ VR φ r.v v' ∧ Post R D φ σ w (r.to σ) φ w := by
  unfold k2Index at h
  split at h
  · rename_i o e kk n hoo hu hn
    split at h
    · rename_i s hs
      simp only [cond_eq_ite, Bool.and_eq_true] at h
      split at h
      · rename_i hb
        obtain ⟨⟨b1, b2⟩, b3, b4⟩ := hb
        have := beq_t b1; subst this
        simp only [OhR.rdo, Option.some.injEq] at h; subst h
        have hiv : i' = .int kk n.eval := sxOf_ok hn hin
        subst hiv
        obtain ⟨z, _, ho, hl0⟩ := ownOf_ok hoo
        obtain ⟨rows, hx, hr, hor⟩ := own_val hi hoo ha (known_one hk (by simp) (hi.lt ho))
        have g1 := hdec _ _ (isT_ok b3)
        have g2 := hdec _ _ (isT_ok b4)
        simp only [Bx.eval, compI, decide_eq_true_eq, lenS_eval hx] at g1 g2
        have g1 : 0 ≤ n.eval := g1
        have hlt : n.eval.toNat < rows.length := by omega
        rcases hor with ⟨b, rfl, _, rfl, _⟩ | ⟨e', c, rfl, y1, he, hdn, hh, hc, hbs, har⟩
        · simp at hlt
        · refine ⟨.pointer (some ⟨e'.blk, e'.up + n.eval.toNat * o.l.length, none⟩), ?_, .opq _ ?_, Post.read hi _⟩
          · have hc : (0 : Int) ≤ n.eval ∧ n.eval < (rows.length : Int) := ⟨g1, g2⟩
            simp only [Instr.indexAt, Sem.run_bind, asIntOf, Sem.run_pure, Result.andThen_ok, run_und hu]
            rw [if_pos hc]
            simp [run_szOf hs, add_off]
          · refine ⟨o.l, e', rfl, he, hdn, g1, ?_, by simp [Sx.dat, Dat.toI], by simp [Sx.dat, Dat.toI], ?_⟩
            · rw [hh]; exact Nat.mul_le_mul_right _ hlt
            · simp [Sx.dat, Dat.toI, Sx.eval]
      · cases h
    · cases h
  · cases h
theorem k3Field_ok (hi : Inv0 R D φ σ w) {t : TypeId} {a : AV} {a' : Value} {f : Nat} {r : OhR} (h : k3Field P t a f = some r) (ha : VR φ a a') :
    ∃ v', (Instr.fieldAt t a' f).run P w = .ok v' w ∧ VR φ r.v v' ∧ Post R D φ σ w (r.to σ) φ w := by
  unfold k3Field at h
  split at h
  · rename_i k id ver l off n fs hu
    split at h
    · rename_i fd hf
      split at h
      · rename_i s hs
        simp only [cond_eq_ite, Bool.and_eq_true] at h
        split at h
        · rename_i hb
          obtain ⟨b0, b1, b2⟩ := hb
          have := beq_t b0; subst this
          have b1 := blt_t b1
          have b2 := ble_t b2
          simp only [OhR.one, Option.some.injEq] at h; subst h
          cases ha with
          | opq v hv =>
            obtain ⟨l', e, hl', he, h1, h3, h4, h5, h6, rfl⟩ := hv
            simp only [Sh.slc.injEq] at hl'; subst hl'
            have hoff : (Sx.lit (.ofNat off)).dat.toI.toNat = off := rfl
            refine ⟨.pointer (some ⟨e.blk, e.up + (n.dat.toI.toNat * l.length + (off + fd.offset)), none⟩), ?_, .opq _ ⟨l, e, rfl, he, h1, h3, h4, Int.natCast_nonneg _, b2, rfl⟩, .same0 hi rfl rfl rfl⟩
            have hn1 : s ≠ 0 := by omega
            have hadd : (⟨e.blk, e.up + (n.dat.toI.toNat * l.length + (Sx.lit (.ofNat off)).dat.toI.toNat), none⟩ : Addr).add fd.offset = ⟨e.blk, e.up + (n.dat.toI.toNat * l.length + (off + fd.offset)), none⟩ := by rw [add_off, hoff, Nat.add_assoc, Nat.add_assoc]
            simp [Instr.fieldAt, Instr.sureAddr, run_und hu, hf, fieldPlace, run_szOf hs, hn1]
            exact hadd
        · cases h
      · cases h
    · cases h
  · cases h
theorem k3Load_ok (hi : Inv0 R D φ σ w) {t : TypeId} {a : AV} {a' : Value} {r : OhR} (h : k3Load P σ t a = some r) (ha : VR φ a a') (hk : Known D σ (r.to σ)) :
    ∃ v', (Instr.loadAt t a').run P w = .ok v' w ∧ VR φ r.v v' ∧ Post R D φ σ w (r.to σ) φ w := by
  unfold k3Load at h
  split at h
  · rename_i k id ver l off n
    split at h
    · rename_i o hoo
      obtain ⟨rfl, rfl, rfl, ho, hl0⟩ := ownAt_ok hoo
      have key : ∀ (off s : Nat), off + s ≤ o.l.length → D o.id → KV3 φ o.id o.ver (.slc o.l) (Sx.lit (Int.ofNat off)).dat n.dat a' → ∃ (e : Ext) (cs : Array Value) (t : TypeId) (fr : Nat × Nat), a' = .pointer (some ⟨e.blk, e.up + (n.dat.toI.toNat * o.l.length + off), none⟩) ∧ w.heap[e.blk]? = some (.cells cs t fr) ∧
          e.up + (n.dat.toI.toNat * o.l.length + off) + s ≤ cs.size ∧ ∀ j, j < s → ∃ sh v, o.l[off + j]? = some sh ∧ cs[e.up + (n.dat.toI.toNat * o.l.length + (off + j))]? = some v ∧ VR φ (cellAV o.cid sh (.cell o.x n (off + j))) v := by
        intro off s hle hd hv
        obtain ⟨l', e, hl', he, h1, h3, h4, h5, h6, rfl⟩ := hv
        simp only [Sh.slc.injEq] at hl'; subst hl'
        obtain ⟨rows, hx, hr, hor⟩ := own_rep hi ho hd
        rcases hor with ⟨_, _, _, hno⟩ | ⟨_, ⟨e2, he2, hh⟩, har⟩
        · rw [hno _ (Nat.le_refl _)] at he; cases he
        · rw [he] at he2; simp only [Option.some.injEq] at he2; subst he2
          have hlen := litRows_length o.cid o.l rows (rows_len hr)
          rw [hlen] at hh
          rw [hh] at h4
          have hlt : n.dat.toI.toNat < rows.length := by
            have := Nat.le_of_mul_le_mul_right h4 hl0
            omega
          obtain ⟨e3, cs, fl, fh, he3, hb, k1, k2, k4, k5⟩ := own_block har
          rw [he] at he3; simp only [Option.some.injEq] at he3; subst he3
          have hrow : rows[n.dat.toI.toNat]? = some rows[n.dat.toI.toNat] := List.getElem?_eq_getElem hlt
          have hmem := hr _ (List.getElem_mem hlt)
          have htop := hi.wf.top _ _ _ he
          refine ⟨e, cs, _, _, rfl, hb, ?_, fun j hj => ?_⟩
          · have : n.dat.toI.toNat * o.l.length + o.l.length ≤ rows.length * o.l.length := by
              have := h4; rw [Nat.add_mul] at this; omega
            omega
          · have hjl : off + j < o.l.length := by omega
            have hs' : o.l[off + j]? = some o.l[off + j] := List.getElem?_eq_getElem hjl
            have hd' : (rows[n.dat.toI.toNat])[off + j]? = some (rows[n.dat.toI.toNat])[off + j] := List.getElem?_eq_getElem (by rw [hmem.1]; exact hjl)
            have hg := litRows_get o.cid o.l rows (rows_len hr) _ (off + j) _ hrow hjl
            rw [litRow_get o.cid o.l _ _ _ _ hs' hd'] at hg
            have hpos : n.dat.toI.toNat * o.l.length + (off + j) < (litRows o.cid o.l rows).length := by
              rw [hlen]
              have := h4; rw [Nat.add_mul] at this; omega
            obtain ⟨v, y1, y2⟩ := k5 _ _ (by omega) hpos hg
            refine ⟨o.l[off + j], v, hs', by rw [← y1]; congr 1; omega, lit_cell ?_ ?_⟩
            · have : (Sx.cell o.x n (off + j)).dat = (rows[n.dat.toI.toNat])[off + j] := by
                show (o.x.dat.cell n.dat.toI (off + j)) = _
                simp [Dat.cell, Dat.row, hx, Dat.toL, hrow, hd']
              rw [this]; exact hmem.2 _ _ _ hs' hd'
            · have : (Sx.cell o.x n (off + j)).dat = (rows[n.dat.toI.toNat])[off + j] := by
                show (o.x.dat.cell n.dat.toI (off + j)) = _
                simp [Dat.cell, Dat.row, hx, Dat.toL, hrow, hd']
              rw [this]; exact y2
      split at h
      · rename_i hagg
        split at h
        · rename_i s hs
          simp only [cond_eq_ite] at h
          split at h
          · rename_i hb
            have := beq_t hb; subst this
            simp only [OhR.rdo, Option.some.injEq] at h; subst h
            have hoff : off < o.l.length := by
              rcases Nat.lt_or_ge off o.l.length with h | h
              · exact h
              · rw [List.getElem?_eq_none h] at hs; cases hs
            cases ha with
            | opq v hv =>
              obtain ⟨e, cs, bt, fr, rfl, hblk, hsz, hall⟩ := key off 1 (by omega) (known_one hk (by simp) (hi.lt ho)) hv
              obtain ⟨sh, v, q1, q2, q3⟩ := hall 0 (by omega)
              rw [Nat.add_zero] at q1 q2 q3
              rw [hs] at q1; simp only [Option.some.injEq] at q1; subst q1
              refine ⟨v, ?_, q3, Post.read hi _⟩
              have hc : w.cell? ⟨e.blk, e.up + (n.dat.toI.toNat * o.l.length + off), none⟩ = some v := by rw [cell_row hblk]; exact q2
              simp [Instr.loadAt, Instr.sureAddr, loadVar, run_aggT hagg, hc]
          · cases h
        · cases h
      · rename_i hagg
        split at h
        · rename_i s hs
          simp only [cond_eq_ite, Bool.and_eq_true] at h
          split at h
          · rename_i hb
            have := beq_t hb.1; subst this
            have hle := ble_t hb.2.2
            simp only [OhR.rdo, Option.some.injEq] at h; subst h
            cases ha with
            | opq v hv =>
              obtain ⟨e, cs, bt, fr, rfl, hblk, hsz, hall⟩ := key off s hle (known_one hk (by simp) (hi.lt ho)) hv
              have hrun := run_loadCells_row (P := P) (k := e.up + (n.dat.toI.toNat * o.l.length + off)) (n := s) hblk hsz
              refine ⟨.agg ((cs.toList.drop (e.up + (n.dat.toI.toNat * o.l.length + off))).take s).toArray, by simp [Instr.loadAt, Instr.sureAddr, loadVar, run_aggT hagg, run_szOf hs, hrun], .agg _ ?_, Post.read hi _⟩
              have hcl : ∀ (m : Nat) (l : List Sh) (off : Nat) (vs : List Value), l.length = m → vs.length = m → (∀ j sh v, l[j]? = some sh → vs[j]? = some v → VR φ (cellAV o.cid sh (.cell o.x n (off + j))) v) → VRL φ (cellsAV o.cid o.x n l off) vs := by
                intro m
                induction m with
                | zero =>
                  intro l off vs h1 h2 _
                  have := List.length_eq_zero_iff.1 h1; subst this
                  have := List.length_eq_zero_iff.1 h2; subst this
                  exact .nil
                | succ m ih =>
                  intro l off vs h1 h2 h3
                  cases l with
                  | nil => simp at h1
                  | cons sh l =>
                    cases vs with
                    | nil => simp at h2
                    | cons v vs =>
                      refine .cons (h3 0 sh v rfl rfl) (ih l (off + 1) vs (by simpa using h1) (by simpa using h2) fun j sh' v' a b => ?_)
                      have := h3 (j + 1) sh' v' (by simpa using a) (by simpa using b)
                      rwa [show off + 1 + j = off + (j + 1) by omega]
              refine hcl s _ off _ (by simp; omega) (by simp; omega) fun j sh v a b => ?_
              have hj : j < s := by
                rcases Nat.lt_or_ge j s with h | h
                · exact h
                · rw [List.getElem?_eq_none (by simp; omega)] at a; cases a
              obtain ⟨sh', v', q1, q2, q3⟩ := hall j hj
              rw [List.getElem?_take_of_lt hj, List.getElem?_drop, q1] at a
              simp only [Option.some.injEq] at a; subst a
              have b : ((cs.toList.drop (e.up + (n.dat.toI.toNat * o.l.length + off))).take s)[j]? = some v := by simpa using b
              rw [List.getElem?_take_of_lt hj, List.getElem?_drop, Array.getElem?_toList, show e.up + (n.dat.toI.toNat * o.l.length + off) + j = e.up + (n.dat.toI.toNat * o.l.length + (off + j)) by omega, q2] at b
              simp only [Option.some.injEq] at b; subst b
              exact q3
          · cases h
        · cases h
      · cases h
    · cases h
  · cases h
end
end
end Go.Tw
