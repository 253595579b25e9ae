/-
  A part of the proof that the abstract evaluator is sound for the model's machine. Conditions: those of each theorem, as it states them.
-/
import Derived.Test.YtelhnjgcijjngaaGreatDoorTwK7
set_option linter.all false
/-! Texts of known length, of which not all bytes are known. -/
set_option linter.unusedVariables false
set_option linter.unusedSimpArgs false
set_option linter.unusedSectionVars false
namespace Go.Tw
open Go
def rowsC : Sx → Option (List Sx)
  | .pr 13 _ _ => some []
  | .pr 9 (.pr 12 c (.pr 14 _ _)) r => match rowsC r with
    | some l => some (c :: l)
    | none => none
  | _ => none
def litC (b : UInt8) : Sx := .lit b.toNat
def txtOf : AV → Option (List Sx)
  | .str s => some (s.map litC)
  | .vstr (.pr 15 x _) => rowsC x
  | _ => none
def rowsS : List Sx → Sx
  | [] => .pr 13 (.lit 0) (.lit 0)
  | c :: l => .pr 9 (.pr 12 c (.pr 14 (.lit 0) (.lit 0))) (rowsS l)
def byteL (c : Sx) : Option UInt8 := match c with
  | .lit (.ofNat n) => bif Nat.blt n 256 then some (UInt8.ofNat n) else none
  | _ => none
def allL : List Sx → Option (List UInt8)
  | [] => some []
  | c :: l => match byteL c with
    | some b => match allL l with
      | some m => some (b :: m)
      | none => none
    | none => none
def mkTxt (l : List Sx) : AV := match allL l with
  | some s => .str s
  | none => .vstr (.pr 15 (rowsS l) (.lit 0))
variable [v : Val]
def u8e (c : Sx) : UInt8 := UInt8.ofNat c.eval.toNat
theorem rowsC_dat : ∀ {e : Sx} {l : List Sx}, rowsC e = some l → e.dat = .lst (l.map fun c => [c.dat]) := by
  intro e
  induction e with
  | pr f a b iha ihb =>
    intro l h
    unfold rowsC at h
    split at h
    · rename_i heq
      cases heq
      simp only [Option.some.injEq] at h
      subst h
      rfl
    · rename_i c p q r heq
      cases heq
      split at h
      · rename_i m hm
        simp only [Option.some.injEq] at h
        subst h
        have := ihb hm
        rw [Sx.dat, this]
        rfl
      · cases h
    · cases h
  | _ => intro l h; simp [rowsC] at h
theorem rowsS_dat : ∀ (l : List Sx), (rowsS l).dat = .lst (l.map fun c => [c.dat])
  | [] => rfl
  | c :: l => by
    rw [rowsS, Sx.dat, rowsS_dat l]
    rfl
theorem bytesD_map (l : List Sx) : bytesD (l.map fun c => [c.dat]) = l.map u8e := by
  simp [bytesD, u8e, Sx.eval]
theorem u8e_lit (b : UInt8) : u8e (litC b) = b := by
  simp [u8e, litC, Sx.eval_lit]
variable {φ : PM}
theorem txtOf_ok {a : AV} {l : List Sx} {v' : Value} (h : txtOf a = some l) (hv : VR φ a v') : v' = .string ⟨⟨l.map u8e⟩⟩ := by
  unfold txtOf at h
  split at h
  · rename_i s
    simp only [Option.some.injEq] at h
    subst h
    cases hv
    have : (s.map litC).map u8e = s := by
      rw [List.map_map]
      conv => rhs; rw [← List.map_id s]
      exact List.map_congr_left fun b _ => u8e_lit b
    rw [this]
  · rename_i x y
    cases hv with
    | vstr s hs =>
      have hx := rowsC_dat h
      rw [Sx.dat, hx] at hs
      simp only [primD, Dat.toL, bytesD_map] at hs
      cases hs
      rfl
  · cases h
theorem byteL_ok {c : Sx} {b : UInt8} (h : byteL c = some b) : u8e c = b := by
  unfold byteL at h
  split at h
  · simp only [cond_eq_ite] at h
    split at h
    · simp only [Option.some.injEq] at h
      subst h
      rfl
    · cases h
  · cases h
theorem allL_ok : ∀ {l : List Sx} {s : List UInt8}, allL l = some s → l.map u8e = s
  | [], s, h => by simp only [allL, Option.some.injEq] at h; subst h; rfl
  | c :: l, s, h => by
    unfold allL at h
    split at h
    · rename_i b hb
      split at h
      · rename_i m hm
        simp only [Option.some.injEq] at h
        subst h
        rw [List.map_cons, byteL_ok hb, allL_ok hm]
      · cases h
    · cases h
theorem mkTxt_ok (l : List Sx) : VR φ (mkTxt l) (.string ⟨⟨l.map u8e⟩⟩) := by
  unfold mkTxt
  split
  · rename_i s hs
    rw [allL_ok hs]
    exact .str s
  · refine .vstr _ ?_
    rw [Sx.dat, rowsS_dat]
    simp only [primD, Dat.toL, bytesD_map]
def isTV : AV → Bool
  | .vstr _ => true
  | _ => false
def cmpTx (dec : Bx → Option Bool) : List Sx → List Sx → Option Bool
  | [], [] => some true
  | a :: l, b :: m => match decY dec (.cmp .eql a b) with
    | some true => cmpTx dec l m
    | some false => some false
    | none => none
  | _, _ => some false
def bytY (dec : Bx → Option Bool) (l : List Sx) : Bool := l.all fun c => inB dec 0 255 c
variable {dec : Bx → Option Bool}
theorem u8e_inj (hdec : ∀ b x, dec b = some x → b.eval = x) {a b : Sx} (ha : inB dec 0 255 a = true) (hb : inB dec 0 255 b = true) : u8e a = u8e b ↔ a.eval = b.eval := by
  have h1 := inB_ok hdec ha
  have h2 := inB_ok hdec hb
  unfold u8e
  constructor
  · intro h
    have h3 := congrArg UInt8.toNat h
    simp only [UInt8.toNat_ofNat'] at h3
    omega
  · intro h
    rw [h]
theorem cmpTx_ok (hdec : ∀ b x, dec b = some x → b.eval = x) : ∀ {l m : List Sx} {x : Bool}, bytY dec l = true → bytY dec m = true → cmpTx dec l m = some x → (l.map u8e == m.map u8e) = x
  | [], [], x, _, _, h => by simp only [cmpTx, Option.some.injEq] at h; subst h; rfl
  | a :: l, b :: m, x, hl, hm, h => by
    simp only [bytY, List.all_cons, Bool.and_eq_true] at hl hm
    unfold cmpTx at h
    have hi := u8e_inj hdec hl.1 hm.1
    split at h
    · rename_i hd
      have := decY_ok hdec _ _ hd
      simp only [Bx.eval, compI, beq_iff_eq] at this
      have ih := cmpTx_ok hdec hl.2 hm.2 h
      rw [List.map_cons, List.map_cons, hi.mpr this]
      simpa using ih
    · rename_i hd
      simp only [Option.some.injEq] at h
      subst h
      have := decY_ok hdec _ _ hd
      simp only [Bx.eval, compI, beq_eq_false_iff_ne] at this
      have hne : u8e a ≠ u8e b := fun e => this (hi.mp e)
      simp [hne]
    · cases h
  | [], b :: m, x, _, _, h => by simp only [cmpTx, Option.some.injEq] at h; subst h; rfl
  | a :: l, [], x, _, _, h => by simp only [cmpTx, Option.some.injEq] at h; subst h; rfl
def kTxB (dec : Bx → Option Bool) (op : BinOp) (a b : AV) : Option AV :=
  bif isTV a || isTV b then (match txtOf a, txtOf b with
    | some l, some m => match op with
      | .add => bif Nat.ble (l.length + m.length) 4611686018427387904 then some (mkTxt (l ++ m)) else none
      | .eql => bif bytY dec l && bytY dec m then (match cmpTx dec l m with
        | some x => some (.bool x)
        | none => none) else none
      | .neq => bif bytY dec l && bytY dec m then (match cmpTx dec l m with
        | some x => some (.bool (!x))
        | none => none) else none
      | _ => none
    | _, _ => none) else none
def kTxI (P : Program) (dec : Bx → Option Bool) (t : TypeId) (a i : AV) : Option AV := match txtOf a, i, P.underlying t with
  | some l, .int _ (.ofNat n), some .string => match l[n]? with
    | some c => bif isTV a && inB dec 0 255 c then some (outY dec (.sym .u8 c)) else none
    | none => none
  | _, _, _ => none
variable {P : Program}
theorem kTxB_ok (hdec : ∀ b x, dec b = some x → b.eval = x) {op : BinOp} {t : TypeId} {a b r : AV} {a' b' : Value} (h : kTxB dec op a b = some r) (ha : VR φ a a') (hb : VR φ b b') :
    ∃ v', (∀ w, (binOp op t a' b').run P w = .ok v' w) ∧ VR φ r v' := by
  unfold kTxB at h
  simp only [cond_eq_ite] at h
  split at h
  · split at h
    · rename_i l m hl hm
      have e1 := txtOf_ok hl ha
      have e2 := txtOf_ok hm hb
      subst e1
      subst e2
      split at h
      · split at h
        · rename_i hc
          simp only [Option.some.injEq] at h
          subst h
          have hbin : binA P dec .add t (.str (l.map u8e)) (.str (m.map u8e)) = some (.str (l.map u8e ++ m.map u8e)) := by
            simp [binA, isSym, hc]
          obtain ⟨v', g1, g2⟩ := binA_ok (P := P) (φ := φ) hdec hbin (.str _) (.str _)
          refine ⟨v', g1, ?_⟩
          cases g2
          rw [← List.map_append]
          exact mkTxt_ok (l ++ m)
        · cases h
      · split at h
        · rename_i hc
          simp only [Bool.and_eq_true] at hc
          split at h
          · rename_i x hx
            simp only [Option.some.injEq] at h
            subst h
            have hbin : binA P dec .eql t (.str (l.map u8e)) (.str (m.map u8e)) = some (.bool x) := by
              simp [binA, isSym, cmpTx_ok hdec hc.1 hc.2 hx]
            exact binA_ok (P := P) (φ := φ) hdec hbin (.str _) (.str _)
          · cases h
        · cases h
      · split at h
        · rename_i hc
          simp only [Bool.and_eq_true] at hc
          split at h
          · rename_i x hx
            simp only [Option.some.injEq] at h
            subst h
            have hbin : binA P dec .neq t (.str (l.map u8e)) (.str (m.map u8e)) = some (.bool (!x)) := by
              simp [binA, isSym, cmpTx_ok hdec hc.1 hc.2 hx]
            exact binA_ok (P := P) (φ := φ) hdec hbin (.str _) (.str _)
          · cases h
        · cases h
      · cases h
    · cases h
  · cases h
theorem kTxI_ok (hdec : ∀ b x, dec b = some x → b.eval = x) {t : TypeId} {a i r : AV} {a' i' : Value} (h : kTxI P dec t a i = some r) (ha : VR φ a a') (hi : VR φ i i') :
    ∃ v', (∀ w, (Instr.index t a' i').run P w = .ok v' w) ∧ VR φ r v' := by
  unfold kTxI at h
  split at h
  · rename_i l k n hl hu
    split at h
    · rename_i c hc
      simp only [cond_eq_ite] at h
      split at h
      · rename_i hb
        simp only [Bool.and_eq_true] at hb
        simp only [Option.some.injEq] at h
        subst h
        have e1 := txtOf_ok hl ha
        subst e1
        have hix : indexA P dec t (.str (l.map u8e)) (.int k (.ofNat n)) = some (.int .u8 (u8e c).toNat) := by
          simp [indexA, hu, List.getElem?_map, hc]
        obtain ⟨v', g1, g2⟩ := indexA_ok (P := P) (φ := φ) hdec hix (.str _) hi
        refine ⟨v', g1, ?_⟩
        cases g2
        have hr := inB_ok hdec hb.2
        have : ((u8e c).toNat : Int) = c.eval := by
          unfold u8e
          simp only [UInt8.toNat_ofNat']
          omega
        rw [this]
        exact outY_ok hdec (.sym .u8 c)
      · cases h
    · cases h
  · cases h
def oEv (ev : Operand → Option AV) : Option Operand → Option (Option AV)
  | none => some none
  | some q => match ev q with
    | some v => some (some v)
    | none => none
def kTxL (P : Program) (t : TypeId) (a : AV) : Option AV := match txtOf a, P.underlying t with
  | some l, some .string => bif isTV a then some (goI l.length) else none
  | _, _ => none
def kTxS (P : Program) (t : TypeId) (a : AV) (lo hi : Option AV) : Option AV := match txtOf a, P.underlying t with
  | some l, some .string => bif isTV a then (match boundsA l.length (some l.length) lo hi none with
    | some (x, y, _) => some (mkTxt ((l.drop x).take (y - x)))
    | none => none) else none
  | _, _ => none
def kTx (P : Program) (dec : Bx → Option Bool) (ev : Operand → Option AV) (o : Oper) : Option OhR := match o.op with
  | .binOp op t x y _ => match ev x, ev y with
    | some a, some b => bif eqGuardA P op t x y a b then (match kTxB dec op a b with
      | some r => OhR.one r
      | none => none) else none
    | _, _ => none
  | .index t x i => match ev x, ev i with
    | some a, some b => match kTxI P dec t a b with
      | some r => OhR.one r
      | none => none
    | _, _ => none
  | .slice t x lo hi none => match ev x, oEv ev lo, oEv ev hi with
    | some a, some l, some h => match kTxS P t a l h with
      | some r => OhR.one r
      | none => none
    | _, _, _ => none
  | .call c => match c.callee, c.argTypes.toList, c.args.toList with
    | .builtin .len, t :: _, [x] => match ev x with
      | some a => match kTxL P t a with
        | some r => OhR.one r
        | none => none
      | none => none
    | _, _, _ => none
  | _ => none
variable {R : Nat} {D : Nat → Prop} {σ : St} {w : World}
theorem kTxS_ok (hdec : ∀ b x, dec b = some x → b.eval = x) (hwf : WF R φ w) {t : TypeId} {a r : AV} {lo hi : Option AV} {a' : Value} {lo' hi' : Option Value} (h : kTxS P t a lo hi = some r) (ha : VR φ a a') (h1 : VRO φ lo lo') (h2 : VRO φ hi hi') :
    ∃ v', (Instr.sliceAt t a' lo' hi' none).run P w = .ok v' w ∧ VR φ r v' := by
  unfold kTxS at h
  split at h
  · rename_i l hl hu
    simp only [cond_eq_ite] at h
    split at h
    · split at h
      · rename_i x y z hb
        simp only [Option.some.injEq] at h
        subst h
        have e1 := txtOf_ok hl ha
        subst e1
        have hs : sliceA P dec t (.str (l.map u8e)) lo hi none = some (.str (((l.map u8e).drop x).take (y - x))) := by
          simp [sliceA, hu, hb]
        obtain ⟨v', g1, g2⟩ := sliceA_ok (P := P) (mx' := none) hwf hdec hs (.str _) h1 h2 trivial
        refine ⟨v', g1, ?_⟩
        cases g2
        rw [← List.map_drop, ← List.map_take]
        exact mkTxt_ok _
      · cases h
    · cases h
  · cases h
theorem oEv_ok {ev : Operand → Option AV} {a : Operand → Value} (hev : ∀ x v, ev x = some v → VR φ v (a x)) {o : Option Operand} {r : Option AV} (h : oEv ev o = some r) : VRO φ r (o.map a) := by
  unfold oEv at h
  split at h
  · simp only [Option.some.injEq] at h
    subst h
    trivial
  · split at h
    · rename_i hq
      simp only [Option.some.injEq] at h
      subst h
      exact hev _ _ hq
    · cases h
theorem kTx_ok (hdec : ∀ b v, dec b = some v → b.eval = v) (hi : Inv0 R D φ σ w)
    {ev : Operand → Option AV} {a : Operand → Value} (hev : ∀ x v, ev x = some v → VR φ v (a x)) {o : Oper} {r : OhR} (h : kTx P dec ev o = some r) (hk : Known D σ (r.to σ)) :
    ∃ φ' w' n v', (execOp a o).run P w = .ok n w' ∧ (n = .value v' ∨ (n = .skip ∧ v' = undef)) ∧ VR φ' r.v v' ∧ Post R D φ σ w (r.to σ) φ' w' := by
  unfold kTx at h
  split at h
  · rename_i op t x y ty ho
    split at h
    · rename_i av bv hav hbv
      simp only [cond_eq_ite] at h
      split at h
      · rename_i hg
        split at h
        · rename_i rv hr
          simp only [OhR.one, Option.some.injEq] at h; subst h
          obtain ⟨v', h1, h2⟩ := kTxB_ok (P := P) (t := t) hdec hr (hev _ _ hav) (hev _ _ hbv)
          exact ⟨φ, w, .value v', v', by simp [execOp, ho, eqGuardA_ok hg (hev _ _ hav) (hev _ _ hbv), h1], .inl rfl, h2, .same0 hi rfl rfl rfl⟩
        · cases h
      · cases h
    · cases h
  · rename_i t x i ho
    split at h
    · rename_i av bv hav hbv
      split at h
      · rename_i rv hr
        simp only [OhR.one, Option.some.injEq] at h; subst h
        obtain ⟨v', h1, h2⟩ := kTxI_ok (P := P) hdec hr (hev _ _ hav) (hev _ _ hbv)
        exact ⟨φ, w, .value v', v', by simp [execOp, ho, h1], .inl rfl, h2, .same0 hi rfl rfl rfl⟩
      · cases h
    · cases h
  · rename_i t x lo hi' ho
    split at h
    · rename_i av lv hv hav hlv hhv
      split at h
      · rename_i rv hr
        simp only [OhR.one, Option.some.injEq] at h; subst h
        obtain ⟨v', h1, h2⟩ := kTxS_ok (P := P) (w := w) hdec hi.wf hr (hev _ _ hav) (oEv_ok hev hlv) (oEv_ok hev hhv)
        exact ⟨φ, w, .value v', v', by simp [execOp, ho, h1], .inl rfl, h2, .same0 hi rfl rfl rfl⟩
      · cases h
    · cases h
  · rename_i c ho
    split at h
    · rename_i t ts x hc hts hargs
      split at h
      · rename_i av hav
        split at h
        · rename_i rv hr
          simp only [OhR.one, Option.some.injEq] at h; subst h
          unfold kTxL at hr
          split at hr
          · rename_i l hl hu
            simp only [cond_eq_ite] at hr
            split at hr
            · simp only [Option.some.injEq] at hr
              subst hr
              have ht0 : c.argTypes[0]? = some t := by rw [← Array.getElem?_toList, hts]; rfl
              have e1 := txtOf_ok hl (hev _ _ hav)
              have hlen : lenA P t (.str (l.map u8e)) σ = some (goI l.length, σ) := by simp [lenA, hu]
              obtain ⟨v', h1, h2, h3⟩ := lenA_ok (P := P) (φ := φ) (D := D) (w := w) (ty := o.type) (ts := c.argTypes) hi.inv hlen (.str _) hk ht0
              refine ⟨φ, w, .value v', v', ?_, .inl rfl, h2, h3⟩
              have ha : Array.map a c.args = #[a x] := by apply Array.ext'; simp [hargs]
              simp [execOp, ho, resolve, hc, invoke, ha, builtin, e1, h1]
            · cases hr
          · cases hr
        · cases h
      · cases h
    · cases h
  · cases h
end Go.Tw
/-! Texts of known length as bytes, and back. -/
set_option linter.unusedVariables false
set_option linter.unusedSimpArgs false
set_option linter.unusedSectionVars false
namespace Go.Tw
open Go
variable [v : Val] {P : Program} {R : Nat} {D : Nat → Prop} {φ φ' : PM} {σ : St} {w w' : World} {dec : Bx → Option Bool}
theorem Post.remk {o o' : Ob} (h : Post R D φ σ w (σ.mk' o) φ' w') (hr : Rep R φ' w' σ.next (some o) → Rep R φ' w' σ.next (some o')) : Post R D φ σ w (σ.mk' o') φ' w' where
  le := h.le
  grow := h.grow
  wrR := h.wrR
  wf := h.wf
  blk := h.blk
  rep := fun i hi => by
    have h0 := h.rep i hi
    by_cases e : i = σ.next
    · subst e
      have g : ∀ o : Ob, (σ.mk' o).heap.get σ.next = some o := fun o => by simp [St.mk', T.get_set]
      rw [g] at h0 ⊢
      exact hr h0
    · have g : ∀ o : Ob, (σ.mk' o).heap.get i = σ.heap.get i := fun o => by
        simp only [St.mk', T.get_set]
        rw [if_neg (by first | exact e | exact fun h => e h.symm)]
      rw [g] at h0 ⊢
      exact h0
  frm := h.frm
theorem Rep.recell {id base lim since nv : Nat} {et : TypeId} {c c' : List AV} (hl : c'.length = c.length) (hc : ∀ (x : Nat) (a : AV), c'[x]? = some a → ∃ a0, c[x]? = some a0 ∧ ∀ a', VR φ a0 a' → VR φ a a')
    (h : Rep R φ w id (some (.arr c base lim since nv et))) : Rep R φ w id (some (.arr c' base lim since nv et)) := by
  obtain ⟨h1, h2, h3, h4, h5, h6, h7, h8⟩ := h
  refine ⟨h1, by omega, h3, h4, h5, fun v hv => ?_, h7, fun v e q1 q2 q3 q4 => by rw [hl]; exact h8 v e q1 q2 q3 q4⟩
  obtain ⟨e, cs, fl, fh, g1, g2, g3, g4, g5, g6, g7⟩ := h6 v hv
  refine ⟨e, cs, fl, fh, g1, g2, g3, g4, by rw [hl]; exact g5, g6, fun x a x1 x2 x3 => ?_⟩
  obtain ⟨a0, hc0, hca⟩ := hc x a x3
  obtain ⟨a', k1, k2⟩ := g7 x a0 x1 x2 hc0
  exact ⟨a', k1, hca a' k2⟩
def byteC (c : Sx) : AV := match c with
  | .lit n => .int .u8 n
  | c => .sym .u8 c
theorem byteC_vr (c : Sx) : VR φ (byteC c) (.int .u8 c.eval) := by
  unfold byteC
  split
  · exact .int _ _
  · exact .sym _ _
def kTxC (P : Program) (dec : Bx → Option Bool) (σ : St) (s d : TypeId) (a : AV) : Option OhR := match txtOf a, P.underlying s, P.underlying d with
  | some l, some _, some (.slice e) => match P.underlying e, szOf P e with
    | some (.int .u8), some 1 => bif isTV a && bytY dec l then some ⟨.slc σ.next 0 0 l.length none 1, [], none, some (.arr (l.map byteC) 0 l.length 1 1 e)⟩ else none
    | _, _ => none
  | _, _, _ => none
theorem kTxC_ok (hdec : ∀ b x, dec b = some x → b.eval = x) (hi : Inv0 R D φ σ w) {s d : TypeId} {a : AV} {a' : Value} {r : OhR} (h : kTxC P dec σ s d a = some r) (ha : VR φ a a') (hk : Known D σ (r.to σ)) (hf : Free φ σ (r.to σ)) :
    ∃ φ' w' v', (convert s d a').run P w = .ok v' w' ∧ VR φ' r.v v' ∧ Post R D φ σ w (r.to σ) φ' w' := by
  unfold kTxC at h
  split at h
  · rename_i l us e hl hs hd
    split at h
    · rename_i hu hsz
      simp only [cond_eq_ite] at h
      split at h
      · rename_i hc
        simp only [Bool.and_eq_true] at hc
        simp only [Option.some.injEq] at h
        subst h
        have e1 := txtOf_ok hl ha
        subst e1
        have hb := hc.2
        have hcv : convA P s d (.str (l.map u8e)) σ = some (.slc σ.next 0 0 (l.map u8e).length none 1, σ.mk' (.arr ((l.map u8e).map fun b => .int .u8 b.toNat) 0 (l.map u8e).length 1 1 e)) := by
          unfold convA
          cases us <;> simp [hs, hd, hu, hsz]
        obtain ⟨φ', w', v', g1, g2, g3⟩ := convA_ok (P := P) hi.inv hcv (.str _) hk hf
        refine ⟨φ', w', v', g1, by simpa using g2, ?_⟩
        rw [List.length_map] at g3
        refine g3.remk fun hrep => ?_
        refine hrep.recell (by simp) fun x c hx => ?_
        rw [List.getElem?_map] at hx
        cases hlx : l[x]? with
        | none => rw [hlx] at hx; cases hx
        | some c0 =>
          rw [hlx] at hx
          simp only [Option.map_some, Option.some.injEq] at hx
          subst hx
          refine ⟨.int .u8 (u8e c0).toNat, by simp [hlx], fun a' hv => ?_⟩
          cases hv
          have hmem : c0 ∈ l := List.mem_of_getElem? hlx
          have hr := inB_ok hdec (List.all_eq_true.mp hb c0 hmem)
          have : ((u8e c0).toNat : Int) = c0.eval := by
            unfold u8e
            simp only [UInt8.toNat_ofNat']
            omega
          rw [this]
          exact byteC_vr c0
      · cases h
    · cases h
  · cases h
def u8c : AV → Option Sx
  | .int .u8 n => some (.lit n)
  | .sym .u8 e => some e
  | _ => none
def u8cs : List AV → Option (List Sx)
  | [] => some []
  | c :: l => match u8c c with
    | some e => match u8cs l with
      | some m => some (e :: m)
      | none => none
    | none => none
theorem u8c_ok {a : AV} {e : Sx} {a' : Value} (h : u8c a = some e) (ha : VR φ a a') : a' = .int .u8 e.eval := by
  unfold u8c at h
  split at h
  · simp only [Option.some.injEq] at h; subst h; cases ha; rfl
  · simp only [Option.some.injEq] at h; subst h; cases ha; rfl
  · cases h
theorem u8cs_ok : ∀ {cs : List AV} {l : List Sx} {cs' : List Value}, u8cs cs = some l → VRL φ cs cs' → cs' = (l.map Sx.eval).map (Value.int .u8)
  | [], l, cs', h, hv => by simp only [u8cs, Option.some.injEq] at h; subst h; cases hv; rfl
  | c :: cs, l, cs', h, hv => by
    unfold u8cs at h
    split at h
    · rename_i e he
      split at h
      · rename_i m hm
        simp only [Option.some.injEq] at h
        subst h
        cases hv with
        | cons h1 h2 =>
          rw [u8c_ok he h1, u8cs_ok hm h2]
          rfl
      · cases h
    · cases h
noncomputable def kTxD (P : Program) (σ : St) (s d : TypeId) (a : AV) : Option OhR := match P.underlying s, P.underlying d, a with
  | some (.slice e), some .string, .slc id ver off len _ esz => match P.underlying e with
    | some (.int .u8) => bif Nat.beq esz 1 && Nat.blt 0 len then (match readN σ id ver off (off + len) len with
      | some cs => match u8cs cs with
        | some l => some ⟨mkTxt l, [id], none, none⟩
        | none => none
      | none => none) else none
    | _ => none
  | _, _, _ => none
theorem kTxD_ok (hi : Inv0 R D φ σ w) {s d : TypeId} {a : AV} {a' : Value} {r : OhR} (h : kTxD P σ s d a = some r) (hx : VR φ a a') (hk : Known D σ (r.to σ)) :
    ∃ φ' w' v', (convert s d a').run P w = .ok v' w' ∧ VR φ' r.v v' ∧ Post R D φ σ w (r.to σ) φ' w' := by
  unfold kTxD at h
  split at h
  · rename_i e id ver off len cap esz hs hd
    split at h
    · rename_i hu
      simp only [cond_eq_ite] at h
      split at h
      · rename_i hbe
        simp only [Bool.and_eq_true] at hbe
        have hbe1 := beq_t hbe.1; subst hbe1
        have hlp := blt_t hbe.2
        split at h
        · rename_i cs hcs
          split at h
          · rename_i l hl'
            simp only [Option.some.injEq] at h; subst h
            cases hx with
            | slc ex o c he hdn hh hl hc ho =>
              obtain ⟨_, ob, _, hob, _⟩ := readN_ok hcs
              have hdd : D id := hk id (.inl (mem_addL.2 (.inl rfl))) (hi.lt hob)
              obtain ⟨ho1, _⟩ := ho.resolve_left (by omega)
              obtain ⟨arr, r1, r2, r3, _⟩ := readN_run (P := P) hi.inv hcs hdd he hdn (by omega) ho1
              have e1 := u8cs_ok hl' r2
              have harr : arr = ((l.map Sx.eval).map (Value.int .u8)).toArray := by apply Array.ext'; simpa using e1
              refine ⟨φ, w, .string ⟨⟨l.map u8e⟩⟩, ?_, mkTxt_ok l, .read hi [id]⟩
              have := run_bytesToString (P := P) w ⟨ex.blk, o, none⟩ len c (l.map Sx.eval) (by rw [← harr]; exact r1 w rfl)
              rw [foldl_push] at this
              simp only [convert, Sem.run_bind, run_und hs, run_und hd, run_und hu, Result.andThen_ok]
              have hmap : (l.map Sx.eval).map (fun n => UInt8.ofNat n.toNat) = l.map u8e := by rw [List.map_map]; rfl
              rw [hmap] at this
              simpa using this
          · cases h
        · cases h
      · cases h
    · cases h
  · cases h
noncomputable def kTxV (P : Program) (dec : Bx → Option Bool) (ev : Operand → Option AV) (o : Oper) (σ : St) : Option OhR := match o.op with
  | .convert s d x => match ev x with
    | some a => match kTxC P dec σ s d a with
      | some r => some r
      | none => kTxD P σ s d a
    | none => none
  | _ => none
theorem kTxV_ok (hdec : ∀ b v, dec b = some v → b.eval = v) (hi : Inv0 R D φ σ w)
    {ev : Operand → Option AV} {a : Operand → Value} (hev : ∀ x v, ev x = some v → VR φ v (a x)) {o : Oper} {r : OhR} (h : kTxV P dec ev o σ = some r) (hk : Known D σ (r.to σ)) (hf : Free φ σ (r.to σ)) :
    ∃ φ' w' n v', (execOp a o).run P w = .ok n w' ∧ (n = .value v' ∨ (n = .skip ∧ v' = undef)) ∧ VR φ' r.v v' ∧ Post R D φ σ w (r.to σ) φ' w' := by
  unfold kTxV at h
  split at h
  · rename_i s d x ho
    split at h
    · rename_i av hav
      have hall : ∃ φ' w' v', (convert s d (a x)).run P w = .ok v' w' ∧ VR φ' r.v v' ∧ Post R D φ σ w (r.to σ) φ' w' := by
        split at h
        · rename_i r' hr
          simp only [Option.some.injEq] at h; subst h
          exact kTxC_ok hdec hi hr (hev _ _ hav) hk hf
        · exact kTxD_ok hi h (hev _ _ hav) hk
      obtain ⟨φ', w', v', h1, h2, h3⟩ := hall
      exact ⟨φ', w', .value v', v', by simp [execOp, ho, h1], .inl rfl, h2, h3⟩
    · cases h
  · cases h
end Go.Tw
/-! A byte looked for in a text of known length; a table's cell at a number that is not known. -/
set_option linter.unusedVariables false
set_option linter.unusedSimpArgs false
set_option linter.unusedSectionVars false
namespace Go.Tw
open Go
def findTxt (dec : Bx → Option Bool) (c : Sx) : List Sx → Nat → Option (Option Nat)
  | [], _ => some none
  | a :: l, i => match decY dec (.cmp .eql c a) with
    | some true => some (some i)
    | some false => findTxt dec c l (i + 1)
    | none => none
def idxY (nm : String) (dec : Bx → Option Bool) (l : List Sx) (c : Sx) : Option AV :=
  if nm = "internal/bytealg.IndexByteString" then (bif bytY dec l && inB dec 0 255 c then (match findTxt dec c l 0 with
    | some (some n) => some (goI n)
    | some none => some (.int .i64 (-1))
    | none => none) else none) else none
def isUY : AV → Bool
  | .sym _ _ => true
  | .vstr _ => true
  | _ => false
section
variable (P : Program) (dec : Bx → Option Bool) (ev : Operand → Option AV)
def kIdx (o : Oper) : Option OhR := match o.op with
  | .call c => match c.callee, c.args.toList with
    | .value f, [x, y] => match ev f, ev x, ev y with
      | some (.fn (.func g) [] []), some a, some b => bif isUY a || isUY b then (match P.funcs[g]?, txtOf a, u8c b with
        | some fn, some l, some e => if fn.body.isNone = true ∧ fn.origin = "" then (match idxY fn.name dec l e with
          | some v => OhR.one v
          | none => none) else none
        | _, _, _ => none) else none
      | _, _, _ => none
    | _, _ => none
  | _ => none
noncomputable def alikeT (σ : St) (id ver off lo : Nat) (n : Nat) : Option AV := match readN σ id ver (off + lo) (off + lo + n) n with
  | some (v :: l) => bif l.all (fun w => v.same w) then some v else none
  | _ => none
noncomputable def kTab (o : Oper) (σ : St) : Option OhR := match o.op with
  | .indexAddr t x i => match ev x, ev i with
    | some (.ptr id ver off hi), some (.sym k c) => match P.underlying t, ivY dec c with
      | some (.array n e), some (.ofNat a, .ofNat b) => match szOf P e with
        | some s => bif Nat.beq s 1 && (Nat.blt b n && Nat.ble (off + (b + 1)) hi) then OhR.one (.opq 6 id ver .bool c (.lit off)) else none
        | none => none
      | _, _ => none
    | _, _ => none
  | .nilCheck x => match ev x with
    | some (.opq k id ver sh c y) => bif Nat.beq k 6 then OhR.one (.opq k id ver sh c y) else none
    | _ => none
  | .load t x => match ev x with
    | some (.opq k id ver _ c (.lit (.ofNat off))) => bif Nat.beq k 6 then (match aggT P t, ivY dec c with
      | some false, some (.ofNat a, .ofNat b) => match alikeT σ id ver off a (b + 1 - a) with
        | some v => some ⟨v, [id], none, none⟩
        | none => none
      | _, _ => none) else none
    | _ => none
  | _ => none
end
variable [Val] {P : Program} {R : Nat} {D : Nat → Prop} {φ : PM} {σ : St} {w : World} {dec : Bx → Option Bool}
theorem findTxt_ok (hdec : ∀ b x, dec b = some x → b.eval = x) {c : Sx} (hc : inB dec 0 255 c = true) : ∀ {l : List Sx} {i : Nat} {r : Option Nat}, bytY dec l = true → findTxt dec c l i = some r →
    (∀ n, r = some n → ∃ j : Nat, n = i + j ∧ (l.map u8e)[j]? = some (u8e c) ∧ ∀ k : Nat, k < j → (l.map u8e)[k]? ≠ some (u8e c)) ∧ (r = none → ∀ k : Nat, (l.map u8e)[k]? ≠ some (u8e c))
  | [], i, r, _, h => by
    simp only [findTxt, Option.some.injEq] at h
    subst h
    exact ⟨fun n h => (by cases h), fun _ k => by simp⟩
  | a :: l, i, r, hb, h => by
    simp only [bytY, List.all_cons, Bool.and_eq_true] at hb
    unfold findTxt at h
    have hi := u8e_inj hdec hc hb.1
    split at h
    · rename_i hd
      have := decY_ok hdec _ _ hd
      simp only [Bx.eval, compI, beq_iff_eq] at this
      simp only [Option.some.injEq] at h
      subst h
      refine ⟨fun n hn => ?_, fun hn => (by cases hn)⟩
      simp only [Option.some.injEq] at hn
      subst hn
      refine ⟨0, rfl, ?_, fun k hk => absurd hk (Nat.not_lt_zero k)⟩
      simp [hi.mpr this]
    · rename_i hd
      have := decY_ok hdec _ _ hd
      simp only [Bx.eval, compI, beq_eq_false_iff_ne] at this
      have hne : u8e a ≠ u8e c := fun e => this (hi.mp e.symm)
      obtain ⟨h1, h2⟩ := findTxt_ok hdec hc hb.2 h
      refine ⟨fun n hn => ?_, fun hn k => ?_⟩
      · obtain ⟨j, e1, e2, e3⟩ := h1 n hn
        refine ⟨j + 1, by omega, by simpa using e2, fun k hk => ?_⟩
        cases k with
        | zero => simpa using hne
        | succ k => simpa using e3 k (by omega)
      · cases k with
        | zero => simpa using hne
        | succ k => simpa using h2 hn k
    · cases h
omit [Val] in
theorem byteAt {s : List UInt8} {i : Nat} (h : i < s.length) : (⟨⟨s⟩⟩ : ByteArray)[i]! = s[i] := by
  have hs : i < (⟨⟨s⟩⟩ : ByteArray).size := h
  rw [getElem!_pos _ i hs]
  rfl
omit [Val] in
theorem findByteA_some {s : List UInt8} {c : UInt8} {j : Nat} (h : s[j]? = some c) (hk : ∀ k : Nat, k < j → s[k]? ≠ some c) : findByteA s c = some j := by
  have hj : j < s.length := by
    rcases Nat.lt_or_ge j s.length with h' | h'
    · exact h'
    · rw [List.getElem?_eq_none h'] at h; cases h
  unfold findByteA
  rw [List.find?_range_eq_some]
  refine ⟨?_, List.mem_range.2 hj, fun k hkj => ?_⟩
  · rw [byteAt hj]
    rw [List.getElem?_eq_getElem hj, Option.some.injEq] at h
    simp [h]
  · have hkl : k < s.length := by omega
    rw [byteAt hkl]
    have := hk k hkj
    rw [List.getElem?_eq_getElem hkl] at this
    simpa using this
omit [Val] in
theorem findByteA_none {s : List UInt8} {c : UInt8} (hk : ∀ k : Nat, s[k]? ≠ some c) : findByteA s c = none := by
  unfold findByteA
  rw [List.find?_range_eq_none]
  intro k hkl
  rw [byteAt hkl]
  have := hk k
  rw [List.getElem?_eq_getElem hkl] at this
  simpa using this
theorem idxY_ok (hdec : ∀ b x, dec b = some x → b.eval = x) {g : FuncId} {fn : Func} {l : List Sx} {c : Sx} {v : AV} (hf : P.funcs[g]? = some fn) (hb : fn.body = none) (ho : fn.origin = "")
    (h : idxY fn.name dec l c = some v) : ∃ n, c.eval = Int.ofNat n ∧ n < 256 ∧ v = .int .i64 (match findByteA (l.map u8e) (u8e c) with
      | some i => (i : Int)
      | none => -1) ∧ callVA P (.fn (.func g) [] []) [.str (l.map u8e), .int .u8 (.ofNat n)] σ = .val v σ := by
  unfold idxY at h
  simp only [cond_eq_ite] at h
  split at h
  · rename_i hn
    split at h
    · rename_i hbc
      simp only [Bool.and_eq_true] at hbc
      have q1 := inB_ok hdec hbc.2
      obtain ⟨n, hn1⟩ := Int.eq_ofNat_of_zero_le q1.1
      have hu : u8e c = n.toUInt8 := by simp [u8e, hn1]
      have hv : v = .int .i64 (match findByteA (l.map u8e) (u8e c) with
          | some i => (i : Int)
          | none => -1) := by
        split at h
        · rename_i m hm
          simp only [Option.some.injEq] at h
          subst h
          obtain ⟨j, e1, e2, e3⟩ := (findTxt_ok hdec hbc.2 hbc.1 hm).1 m rfl
          rw [findByteA_some e2 e3]
          simp [goI, e1]
        · rename_i hm
          simp only [Option.some.injEq] at h
          subst h
          rw [findByteA_none ((findTxt_ok hdec hbc.2 hbc.1 hm).2 rfl)]
        · cases h
      refine ⟨n, hn1, by omega, hv, ?_⟩
      simp only [callVA, callFA, hf, hb, ho, List.nil_append, List.append_nil, if_true]
      have hname : externA fn.name (slRes P fn) [.str (l.map u8e), .int .u8 (.ofNat n)] σ = (match findByteA (l.map u8e) n.toUInt8 with
          | some i => .val (goI i) σ
          | none => .val (.int .i64 (-1)) σ) := by
        rw [hn]
        rfl
      refine hname.trans ?_
      rw [hv, hu]
      cases findByteA (l.map u8e) n.toUInt8 <;> rfl
    · cases h
  · cases h
theorem kIdx_ok (hdec : ∀ b v, dec b = some v → b.eval = v) (hi : Inv0 R D φ σ w)
    {ev : Operand → Option AV} {a : Operand → Value} (hev : ∀ x v, ev x = some v → VR φ v (a x)) {o : Oper} {r : OhR} (h : kIdx P dec ev o = some r) (hk : Known D σ (r.to σ)) (hfr : Free φ σ (r.to σ)) :
    ∃ φ' w' n v', (execOp a o).run P w = .ok n w' ∧ (n = .value v' ∨ (n = .skip ∧ v' = undef)) ∧ VR φ' r.v v' ∧ Post R D φ σ w (r.to σ) φ' w' := by
  unfold kIdx at h
  split at h
  · rename_i c ho
    split at h
    · rename_i f x y hc hargs
      split at h
      · rename_i g av bv hf hx hy
        simp only [cond_eq_ite] at h
        split at h
        · split at h
          · rename_i fn l e hfn hl he
            split at h
            · rename_i hcond
              obtain ⟨hb, hor⟩ := hcond
              have hb : fn.body = none := by simpa using hb
              split at h
              · rename_i v hv
                simp only [OhR.one, Option.some.injEq] at h; subst h
                obtain ⟨n, hn, _, _, hcall⟩ := idxY_ok (σ := σ) hdec hfn hb hor hv
                have ex := txtOf_ok hl (hev _ _ hx)
                have ey := u8c_ok he (hev _ _ hy)
                have ha : Array.map a c.args = #[a x, a y] := by apply Array.ext'; simp [hargs]
                have hargs' : VRL φ [.str (l.map u8e), .int .u8 (.ofNat n)] (Array.map a c.args).toList := by
                  rw [ha, ex, ey, hn]
                  exact .cons (.str _) (.cons (.int _ _) .nil)
                have := callVA_ok (P := P) hi.inv (hev _ _ hf) hargs' (fun σ' h => by rw [hcall] at h; simp only [OR.st, Option.some.injEq] at h; subst h; exact hk) (fun σ' h => by rw [hcall] at h; simp only [OR.st, Option.some.injEq] at h; subst h; exact hfr)
                rw [hcall] at this
                obtain ⟨φ', w', nn, v', g1, g2, g3, g4⟩ := this
                have hx : execOp a o = (do let d ← Deferred.ofValue (a f) (Array.map a c.args); invoke d.target d.args) := by simp [execOp, ho, resolve, hc]
                exact ⟨φ', w', nn, v', by rw [hx]; exact g1, g2, g3, g4⟩
              · cases h
            · cases h
          · cases h
        · cases h
      · cases h
    · cases h
  · cases h
omit [Val] in
theorem alikeT_ok {id ver off lo n : Nat} {v : AV} (h : alikeT σ id ver off lo n = some v) : ∀ j, lo ≤ j → j < lo + n → readN σ id ver (off + j) (off + j + 1) 1 = some [v] := by
  unfold alikeT at h
  split at h
  · rename_i x l hr
    simp only [cond_eq_ite] at h
    split at h
    · rename_i hall
      simp only [Option.some.injEq] at h
      subst h
      intro j h1 h2
      obtain ⟨_, o, c, ho, hv, hcut⟩ := readN_ok hr
      obtain ⟨e1, e2⟩ := cut_ok hcut
      have hx : ∀ (i : Nat) (y : AV), (x :: l)[i]? = some y → y = x := by
        intro i y hy
        cases i with
        | zero => simpa using hy.symm
        | succ i =>
          simp only [List.getElem?_cons_succ] at hy
          have := List.all_eq_true.1 hall y (List.mem_of_getElem? hy)
          exact (AV.same_eq this).symm
      obtain ⟨k, rfl⟩ : ∃ k, j = lo + k := ⟨j - lo, by omega⟩
      have hk : k < (x :: l).length := by omega
      have hck : c[off + (lo + k)]? = some x := by
        have h3 : (x :: l)[k]? = some (x :: l)[k] := List.getElem?_eq_getElem hk
        have h4 := hx k _ h3
        rw [h4, e1, List.getElem?_take_of_lt (by omega), List.getElem?_drop] at h3
        rw [← h3]; congr 1; omega
      have hdrop : c.drop (off + (lo + k)) = x :: c.drop (off + (lo + k) + 1) := by
        have hlt : off + (lo + k) < c.length := by
          rcases Nat.lt_or_ge (off + (lo + k)) c.length with h' | h'
          · exact h'
          · rw [List.getElem?_eq_none h'] at hck; cases hck
        rw [List.drop_eq_getElem_cons hlt]
        rw [List.getElem?_eq_getElem hlt, Option.some.injEq] at hck
        rw [hck]
      have hble : Nat.ble (off + (lo + k) + 1) (off + (lo + k) + 1) = true := (by rw [Nat.ble_eq]; exact Nat.le_refl _)
      simp only [readN, hble, cond_true, ho, hv, cut, dropR_eq, hdrop]
      cases c.drop (off + (lo + k) + 1) <;> rfl
    · cases h
  · cases h
theorem kTab_ok (hdec : ∀ b v, dec b = some v → b.eval = v) (hi : Inv0 R D φ σ w)
    {ev : Operand → Option AV} {a : Operand → Value} (hev : ∀ x v, ev x = some v → VR φ v (a x)) {o : Oper} {r : OhR} (h : kTab P dec ev o σ = some r) (hk : Known D σ (r.to σ)) :
    ∃ φ' w' n v', (execOp a o).run P w = .ok n w' ∧ (n = .value v' ∨ (n = .skip ∧ v' = undef)) ∧ VR φ' r.v v' ∧ Post R D φ σ w (r.to σ) φ' w' := by
  unfold kTab at h
  split at h
  · rename_i t x i ho
    split at h
    · rename_i id ver off hi' k c hx hin
      split at h
      · rename_i n e p q hu hiv
        split at h
        · rename_i s hs
          simp only [cond_eq_ite] at h
          split at h
          · rename_i hb
            simp only [Bool.and_eq_true] at hb
            have b1 := beq_t hb.1; subst b1
            have b2 := blt_t hb.2.1
            have b3 := ble_t hb.2.2
            simp only [OhR.one, Option.some.injEq] at h; subst h
            have hr := ivY_ok hdec _ _ _ hiv
            obtain ⟨m, hm⟩ := Int.eq_ofNat_of_zero_le (show 0 ≤ c.eval by have := hr.1; simp only [Int.ofNat_eq_natCast] at this; omega)
            have hmq : m ≤ q := by have := hr.2; rw [hm] at this; simp only [Int.ofNat_eq_natCast] at this; omega
            have hiv' := hev _ _ hin
            generalize hai : a i = i' at hiv'
            cases hiv'
            have hix : indexAddrA P t (.ptr id ver off hi') (.int k c.eval) = some (.ptr id ver (off + m) (off + (m + 1))) := by
              have hidx : idx c.eval n = some m := by
                rw [hm]
                simp only [idx]
                have : Nat.blt m n = true := (by rw [Nat.blt_eq]; omega)
                simp [this]
              have : Nat.ble (off + (m + 1)) hi' = true := (by rw [Nat.ble_eq]; omega)
              simp only [indexAddrA, hu, hs, hidx, this, cond_true, Nat.mul_one]
            obtain ⟨v', g1, g2⟩ := indexAddrA_ok (P := P) (φ := φ) hix (hev _ _ hx) (.int _ _)
            refine ⟨φ, w, .value v', v', by simp [execOp, ho, hai, g1], .inl rfl, ?_, .same0 hi rfl rfl rfl⟩
            cases g2 with
            | ptr ex oo he hd hh hoo =>
              refine .opq _ ⟨ex, oo, he, ?_, ?_, ?_, rfl⟩
              all_goals
                have e1 : (Sx.lit (off : Int)).dat.toI.toNat = off := rfl
                have e2 : c.dat.toI.toNat = m := by
                  show c.eval.toNat = m
                  rw [hm]; rfl
                rw [e1, e2]
                omega
          · cases h
        · cases h
      · cases h
    · cases h
  · rename_i x ho
    split at h
    · rename_i k id ver sh c y hv
      rw [cond_eq_ite] at h
      split at h
      · rename_i hb
        have := beq_t hb; subst this
        simp only [OhR.one, Option.some.injEq] at h; subst h
        have hvr := hev _ _ hv
        have hvr' := hvr
        cases hvr' with
        | opq v' hkv =>
          obtain ⟨e, oo, h1, h2, h3, h4, h8⟩ := hkv
          refine ⟨φ, w, .value (a x), a x, ?_, .inl rfl, hvr, .same0 hi rfl rfl rfl⟩
          simp [execOp, ho, h8]
      · cases h
    · cases h
  · rename_i t x ho
    split at h
    · rename_i k id ver sh c off hv
      rw [cond_eq_ite] at h
      split at h
      · rename_i hb
        have := beq_t hb; subst this
        split at h
        · rename_i p q hagg hiv
          split at h
          · rename_i v hal
            simp only [Option.some.injEq] at h; subst h
            have hr := ivY_ok hdec _ _ _ hiv
            obtain ⟨m, hm⟩ := Int.eq_ofNat_of_zero_le (show 0 ≤ c.eval by have := hr.1; simp only [Int.ofNat_eq_natCast] at this; omega)
            have hmq : m ≤ q := by have := hr.2; rw [hm] at this; simp only [Int.ofNat_eq_natCast] at this; omega
            have hmp : p ≤ m := by have := hr.1; rw [hm] at this; simp only [Int.ofNat_eq_natCast] at this; omega
            have hrd := alikeT_ok hal m hmp (by omega)
            have hld : loadA P t (.ptr id ver (off + m) (off + m + 1)) σ = some (v, σ.lgR id) := by
              simp [loadA, hagg, hrd]
            have hvr : VR φ (.ptr id ver (off + m) (off + m + 1)) (a x) := by
              have hvr := hev _ _ hv
              generalize a x = ax at hvr
              cases hvr with
              | opq v' hkv =>
                obtain ⟨e, oo, h1, h2, h3, h4, h8⟩ := hkv
                have e1 : (Sx.lit (Int.ofNat off)).dat.toI.toNat = off := rfl
                have e2 : c.dat.toI.toNat = m := by
                  show c.eval.toNat = m
                  rw [hm]; rfl
                rw [e1, e2] at h2 h3 h4
                rw [h8]
                exact .ptr e oo h1 (by omega) (by omega) (by omega)
            obtain ⟨v', g1, g2, g3⟩ := loadA_ok (P := P) hi.inv hld hvr hk
            exact ⟨φ, w, .value v', v', by simp [execOp, ho, g1], .inl rfl, g2, g3⟩
          · cases h
        · cases h
      · cases h
    · cases h
  · cases h
end Go.Tw
