/-
  A part of the proof that the abstract evaluator is sound for the model's machine. Conditions: those of each theorem, as it states them.
-/
import Derived.Test.YtbkokbjpbbpllaaGreatTwK3
namespace Go.Tw
/-! Given lists of which the path says how many there are. -/
section
variable (P : Program) (dec : Bx → Option Bool) (ev : Operand → Option AV) (σ : St)
noncomputable def decLen (x : Sx) : Nat → Option Nat
  | 0 => none
  | n + 1 => bif isT dec (.not (.not (.cmp .eql (lenS x) (.lit n)))) then some n else decLen x n
noncomputable def kLenD (t : TypeId) (a : AV) : Option OhR := match a, P.underlying t with
  | .opq k _ _ _ x _, some (.slice _) => bif Nat.beq k 0 then (match decLen dec x 10 with
    | some n => OhR.one (.int .i64 n)
    | none => none) else none
  | _, _ => none
noncomputable def expRows (id : Nat) (x : Sx) (l : List Sh) : Nat → Nat → List AV
  | 0, _ => []
  | n + 1, k => cellsAV id x (.lit k) l 0 ++ expRows id x l n (k + 1)
noncomputable def expTo (e : TypeId) (size bw : Nat) (s : AV) (n : Nat) (new : List AV) (rd : List Nat) (σ : St) : Option OhR := match appendTo e size bw s n new (lgAll rd σ) with
  | some (v, σ') => bif Nat.beq n 0 then (match s with
      | .nils => some ⟨v, rd, none, none⟩
      | .slc _ _ _ _ _ _ => some ⟨v, rd, none, none⟩
      | _ => none) else (match s with
      | .nils => some ⟨v, rd, none, some (.arr new 0 new.length 1 1 e)⟩
      | .slc id _ _ _ none _ => match σ'.heap.get id with
        | some o => some ⟨v, rd, some (id, o), none⟩
        | none => none
      | _ => none)
  | none => none
noncomputable def kExp (ts : List TypeId) (s x : AV) : Option OhR := match ts, x with
  | [st, u], .opq k xi _ (.slc l) xx _ => match P.underlying st with
    | some (.slice e) => match szOf P e, byOf P e, zeroOf P e, zerosA P u with
      | some size, some bw, some z, some false =>
        bif Nat.beq k 0 && (Nat.beq z.cells.length size && (Nat.beq size l.length && (Nat.blt 0 size && (flatL l && frzOk σ xi)))) then (match decLen dec xx 10 with
          | some n => expTo e size bw s n (expRows gid xx l n 0) (frzRd xi) σ
          | none => none) else none
      | _, _, _, _ => none
    | _ => none
  | _, _ => none
noncomputable def kDec (o : Oper) : Option OhR := match o.op with
  | .call c => match c.callee, c.argTypes.toList, c.args.toList with
    | .builtin .len, t :: _, [a] => match ev a with
      | some v => kLenD P dec t v
      | none => none
    | .builtin .append, ts, [a, b] => match ev a, ev b with
      | some s, some x => kExp P dec σ ts s x
      | _, _ => none
    | _, _, _ => none
  | _ => none
end
section
variable [Val] {P : Program} {R : Nat} {D : Nat → Prop} {φ : PM} {σ : St} {w : World} {dec : Bx → Option Bool}
theorem decLen_ok (hdec : ∀ b v, dec b = some v → b.eval = v) {x : Sx} {rows : List (List Dat)} (hx : x.dat = .lst rows) : ∀ {m n : Nat}, decLen dec x m = some n → rows.length = n := by
  intro m
  induction m with
  | zero => intro n h; cases h
  | succ m ih =>
    intro n h
    simp only [decLen, cond_eq_ite] at h
    split at h
    · rename_i hb
      simp only [Option.some.injEq] at h; subst h
      have := hdec _ _ (isT_ok hb)
      simp only [Bx.eval, compI, Bool.not_not, lenS_eval hx, Sx.eval_lit, beq_iff_eq] at this
      omega
    · exact ih h
theorem kLenD_ok (hi : Inv0 R D φ σ w) (hdec : ∀ b v, dec b = some v → b.eval = v) {t ty : TypeId} {a : AV} {a' : Value} {ts : Array TypeId} {r : OhR} (h : kLenD P dec t a = some r) (ha : VR φ a a') (ht : ts[0]? = some t) :
    ∃ v', (Builtin.len_ ts ty #[a']).run P w = .ok v' w ∧ VR φ r.v v' ∧ Post R D φ σ w (r.to σ) φ w := by
  unfold kLenD at h
  split at h
  · rename_i k id ver sh x y e hu
    rw [cond_eq_ite] at h
    split at h
    · rename_i hk
      have := beq_t hk; subst this
      split at h
      · rename_i n hn
        simp only [OhR.one, Option.some.injEq] at h; subst h
        cases ha with
        | opq v hv =>
          obtain ⟨l, a, n', c, rfl, rfl, hg⟩ := hv
          obtain ⟨rows, hx, rfl, _, _⟩ := hg.inv_slc
          have hl := decLen_ok hdec hx hn; subst hl
          exact ⟨goInt rows.length, by simp [Builtin.len_, ht, run_und hu], .int _ _, .same0 hi rfl rfl rfl⟩
      · cases h
    · cases h
  · cases h
omit [Val] in
theorem cellsAV_length (id : Nat) (x i : Sx) : ∀ (l : List Sh) (off : Nat), (cellsAV id x i l off).length = l.length := by
  intro l
  induction l with
  | nil => intro off; rfl
  | cons s l ih => intro off; simp [cellsAV, ih]
omit [Val] in
theorem expRows_length (id : Nat) (x : Sx) (l : List Sh) : ∀ n k, (expRows id x l n k).length = n * l.length := by
  intro n
  induction n with
  | zero => intro k; simp [expRows]
  | succ n ih => intro k; rw [expRows, List.length_append, cellsAV_length, ih, Nat.add_mul]; omega
omit [Val] in
theorem appendTo_none {e : TypeId} {size bw n : Nat} {id ver off len esz : Nat} {new : List AV} {σ σ' : St} {v : AV} (h : appendTo e size bw (.slc id ver off len none esz) n new σ = some (v, σ')) (hn : Nat.beq n 0 = false) : ∃ o o0, σ.heap.get id = some o0 ∧ σ' = σ.put id o := by
  unfold appendTo at h
  simp only [cond_eq_ite, hn, Bool.false_eq_true, if_false] at h
  split at h
  · split at h
    · split at h
      · rename_i c base lim since nv et ho
        split at h
        · split at h
          · split at h
            · simp only [Option.some.injEq, Prod.mk.injEq] at h; exact ⟨_, _, ho, h.2.symm⟩
            · split at h
              · simp only [Option.some.injEq, Prod.mk.injEq] at h; exact ⟨_, _, ho, h.2.symm⟩
              · cases h
          · split at h
            · split at h
              · simp only [Option.some.injEq, Prod.mk.injEq] at h; exact ⟨_, _, ho, h.2.symm⟩
              · split at h
                · simp only [Option.some.injEq, Prod.mk.injEq] at h; exact ⟨_, _, ho, h.2.symm⟩
                · cases h
            · cases h
        · cases h
      · cases h
    · cases h
  · cases h
omit [Val] in
theorem expTo_eq {e : TypeId} {size bw n : Nat} {s : AV} {new : List AV} {rd : List Nat} {r : OhR} (h : expTo e size bw s n new rd σ = some r) : appendTo e size bw s n new (lgAll rd σ) = some (r.v, r.to σ) := by
  unfold expTo at h
  split at h
  · rename_i v σ' ha
    rw [cond_eq_ite] at h
    split at h
    · rename_i hn
      have hn := beq_t hn; subst hn
      split at h
      · simp only [Option.some.injEq] at h; subst h
        rw [ha]
        simp [appendTo] at ha
        simp [OhR.to, ha]
      · simp only [Option.some.injEq] at h; subst h
        rw [ha]
        simp only [appendTo, cond_eq_ite] at ha
        split at ha
        · simp only [Nat.beq_refl, if_true, Option.some.injEq, Prod.mk.injEq] at ha
          simp [OhR.to, ha.2]
        · cases ha
      · cases h
    · rename_i hn
      have hn : Nat.beq n 0 = false := Bool.eq_false_iff.2 hn
      split at h
      · simp only [Option.some.injEq] at h; subst h
        rw [ha]
        simp only [appendTo, cond_eq_ite, hn, Bool.false_eq_true, if_false] at ha
        split at ha
        · simp only [Option.some.injEq, Prod.mk.injEq] at ha
          rw [← ha.2]; rfl
        · cases ha
      · split at h
        · rename_i o ho
          simp only [Option.some.injEq] at h; subst h
          obtain ⟨o1, o0, h1, h2⟩ := appendTo_none ha hn
          rw [ha]
          subst h2
          simp only [St.put, T.get_set_same, Option.some.injEq] at ho
          subst ho
          unfold OhR.to
          simp [h1]
        · cases h
      · cases h
  · cases h
omit [Val] in
theorem expTo_rd {e : TypeId} {size bw n : Nat} {s : AV} {new : List AV} {rd : List Nat} {r : OhR} (h : expTo e size bw s n new rd σ = some r) : r.rd = rd := by
  unfold expTo at h
  split at h
  · rw [cond_eq_ite] at h
    split at h
    · split at h <;> simp only [Option.some.injEq, reduceCtorEq] at h <;> subst h <;> rfl
    · split at h
      · simp only [Option.some.injEq] at h; subst h; rfl
      · split at h <;> simp only [Option.some.injEq, reduceCtorEq] at h <;> subst h <;> rfl
      · cases h
  · cases h
omit [Val] in
theorem OhR.to_step1 (r : OhR) (σ : St) : StepA (lgAll r.rd σ) (r.to σ) := by
  unfold OhR.to
  generalize lgAll r.rd σ = σ1
  have h2 : StepA σ1 (match r.put with
    | some (id, o) => match σ1.heap.get id with
      | some _ => σ1.put id o
      | none => σ1
    | none => σ1) := by
    split
    · split
      · exact .put _ _ (by assumption)
      · exact .refl _
    · exact .refl _
  dsimp only
  split
  · exact h2.trans (.mk' _ _)
  · exact h2
theorem Inv0.read1 (hi : Inv0 R D φ σ w) (l : List Nat) : Inv0 R D φ (lgAll l σ) w := by
  obtain ⟨h1, h2, h3⟩ := lgAll_heap l σ
  exact ⟨hi.wf, by rw [h3]; exact hi.wrR, by rw [h2]; exact hi.low, fun i hd hn => by rw [h1]; rw [h2] at hn; exact hi.rep i hd hn, fun i hn => by rw [h1]; rw [h2] at hn; exact hi.dom i hn⟩
theorem VRL.split2 : ∀ {a b : List AV} {l : List Value}, VRL φ (a ++ b) l → ∃ a' b', l = a' ++ b' ∧ VRL φ a a' ∧ VRL φ b b'
  | [], b, l, h => ⟨[], l, rfl, .nil, h⟩
  | x :: a, b, l, h => by
    cases h with
    | cons h1 h2 =>
      obtain ⟨a', b', rfl, h3, h4⟩ := VRL.split2 h2
      exact ⟨_ :: a', b', rfl, .cons h1 h3, h4⟩
theorem expRow_ok {cid : Nat} {x i : Sx} : ∀ {l : List Sh} {row : List Dat} {off : Nat} {r : List Value}, flatL l = true → row.length = l.length → (∀ (j : Nat) (s : Sh) (d : Dat), l[j]? = some s → row[j]? = some d → CellOk s d) →
    (∀ (j : Nat) (d : Dat), row[j]? = some d → (Sx.cell x i (off + j)).dat = d) → VRL φ (litRow cid l row) r → VRL φ (cellsAV gid x i l off) r := by
  intro l
  induction l with
  | nil =>
    intro row off r _ hl _ _ h
    cases row with
    | nil => cases h; exact .nil
    | cons a b => simp at hl
  | cons s l ih =>
    intro row off r hf hl hc hd h
    cases row with
    | nil => simp at hl
    | cons d row =>
      simp only [flatL, List.all_cons, Bool.and_eq_true] at hf
      simp only [litRow] at h
      cases h with
      | cons h1 h2 =>
        have hd0 := hd 0 d rfl
        refine .cons ?_ (ih (off := off + 1) (by simpa [flatL] using hf.2) (by simpa using hl) (fun j s d g1 g2 => hc (j + 1) s d (by simpa using g1) (by simpa using g2)) (fun j d g => by rw [show off + 1 + j = off + (j + 1) by omega]; exact hd (j + 1) d (by simpa using g)) h2)
        have hd0 : (Sx.cell x i off).dat = d := by simpa using hd0
        rw [litAV_any (c' := gid) hf.1] at h1
        rw [← hd0] at h1
        exact lit_cell (by rw [hd0]; exact hc 0 s d rfl rfl) h1
theorem expRows_ok {cid : Nat} {x : Sx} {l : List Sh} {rows : List (List Dat)} {arr : List Value} (hf : flatL l = true) (hx : x.dat = .lst rows) (hr : RowsOk l rows) (h : VRL φ (litRows cid l rows) arr) : VRL φ (expRows gid x l rows.length 0) arr := by
  have key : ∀ (rs : List (List Dat)) (k : Nat) (arr : List Value), rows.drop k = rs → VRL φ (litRows cid l rs) arr → VRL φ (expRows gid x l rs.length k) arr := by
    intro rs
    induction rs with
    | nil => intro k arr _ h; rw [litRows_nil] at h; exact h
    | cons r rs ih =>
      intro k arr hd h
      have hk : rows[k]? = some r := by
        have := congrArg (fun t => t[0]?) hd
        simpa using this
      have hdr : rows.drop (k + 1) = rs := by
        have : (rows.drop k).drop 1 = rs := by rw [hd]; rfl
        rw [List.drop_drop] at this; exact this
      rw [litRows_cons] at h
      obtain ⟨a1, a2, rfl, h1, h2⟩ := VRL.split2 h
      rw [List.length_cons, expRows]
      have hrm : r ∈ rows := List.mem_of_getElem? hk
      refine (expRow_ok hf (hr r hrm).1 (hr r hrm).2 (fun j d hj => ?_) h1).append (ih (k + 1) a2 hdr h2)
      show Dat.cell x.dat (Dat.toI (Dat.int (k : Int))) (0 + j) = d
      rw [hx]
      show (match (Dat.row (.lst rows) (k : Int))[0 + j]? with
        | some c => c
        | none => .int 0) = d
      have : Dat.row (.lst rows) (k : Int) = r := by simp [Dat.row, Dat.toL, hk]
      rw [this, Nat.zero_add, hj]
  exact key rows 0 arr rfl h
theorem kExp_ok (hi : Inv0 R D φ σ w) (hdec : ∀ b v, dec b = some v → b.eval = v) {ts : List TypeId} {s x : AV} {ts' : Array TypeId} {args' : Array Value} {ty : TypeId} {r : OhR} (h : kExp P dec σ ts s x = some r)
    (hts : ts'.toList = ts) (hargs : VRL φ [s, x] args'.toList) (hk : Known D σ (r.to σ)) (hf : Free φ σ (r.to σ)) :
    ∃ φ' w' v', (Builtin.append_ ts' ty args').run P w = .ok v' w' ∧ VR φ' r.v v' ∧ Post R D φ σ w (r.to σ) φ' w' := by
  obtain ⟨s', x', hargs2, hs, hx⟩ := hargs.two
  subst hargs2
  unfold kExp at h
  split at h
  · rename_i st u k xi xv l xx xy
    have hts2 : ts' = #[st, u] := by apply Array.ext'; simpa using hts
    subst hts2
    split at h
    · rename_i e hu
      split at h
      · rename_i size bw z h1 h2 h3 h4
        simp only [cond_eq_ite, Bool.and_eq_true] at h
        split at h
        · rename_i hb
          obtain ⟨b0, b1, b2, b3, b4, b5⟩ := hb
          have := beq_t b0; subst this
          have hz := beq_t b1
          have hsl := beq_t b2
          obtain ⟨ti, z', hti, hsz, hbw', rz, vz, hzs⟩ := info_of h1 h2 h3 hz
          split at h
          · rename_i n hn
            have hud : ∃ d, P.underlying u = some d ∧ ∀ k, d ≠ .int k := by
              unfold zerosA at h4
              split at h4
              · cases h4
              · rename_i d hne hu2
                exact ⟨_, hu2, fun k hk => hne k hk⟩
              · cases h4
            obtain ⟨d, hu2, hd⟩ := hud
            have hap := expTo_eq h
            have hrd := expTo_rd h
            cases hx with
            | opq v hkv =>
              obtain ⟨l', a, n', c, hl, rfl, hg⟩ := hkv
              simp only [Sh.slc.injEq] at hl; subst hl
              obtain ⟨rows, hxx, _⟩ := hg.inv_slc
              have hlr := decLen_ok hdec hxx hn; subst hlr
              have hg' := hg
              rw [hxx] at hg'
              have hst := OhR.to_step1 r σ
              have hkq : Known D σ (lgAll (frzRd xi) σ) := fun i h hl => hk i (h.imp (fun h => hst.rd i (hrd.symm ▸ h)) (fun h => hst.wr i (hrd.symm ▸ h))) hl
              obtain ⟨rfl, hr, arr, q1, q2⟩ := gc_rows (P := P) hg' hi b5 hkq
              have hvr : VRL φ (expRows gid xx l rows.length 0) arr.toList := expRows_ok b4 hxx hr q1
              have hi2 := hi.read1 (frzRd xi)
              obtain ⟨φ', w', v', p1, p2, p3⟩ := appendTo_ok (P := P) (ty := ty) (u := u) hi2.inv hap hs hu hti hsz hbw' rz hzs (.inl ⟨d, hu2, hd, rfl, by rw [hsz, hsl]; exact q2 w rfl, by rw [hsz, hsl]; exact q2 _ rfl⟩) hvr (by rw [expRows_length, hsl]) (fun i h hl => hk i h (by rw [(lgAll_heap _ σ).2.1] at hl; exact hl)) (fun i h1 h2 v => hf i (by rw [(lgAll_heap _ σ).2.1] at h1; exact h1) h2 v)
              exact ⟨φ', w', v', p1, p2, p3.from (lgAll_heap _ σ).2.1 (lgAll_heap _ σ).2.2⟩
          · cases h
        · cases h
      · cases h
    · cases h
  · cases h
end
end Go.Tw
namespace Go.Tw
/-! A whole row of a list of one's own, written over. -/
noncomputable def cvtL (cid : Nat) : List Sh → List AV → Option (List Sx)
  | [], v => match v with
    | [] => some []
    | _ => none
  | s :: l, v => match v with
    | a :: r => match cvt cid s a, cvtL cid l r with
      | some e, some es => some (e :: es)
      | _, _ => none
    | [] => none
def setRow (x n : Sx) : Nat → List Sx → Sx
  | _, [] => x
  | j, c :: cs => .setc (setRow x n (j + 1) cs) n j c
section
variable (P : Program) (ev : Operand → Option AV) (σ : St)
noncomputable def k3Store (t : TypeId) (a v : AV) : Option OhR := match a with
  | .opq k id ver (.slc l) (.lit (.ofNat off)) n => match ownAt σ id ver l, szOf P t with
    | some o, some s => match cvtL o.cid l v.cells with
      | some cs => bif Nat.beq k 3 && (Nat.beq off 0 && Nat.beq s l.length) then some ⟨.tup [], [], some (id, .opq 2 ver o.cid (.slc l) (setRow o.x n 0 cs) o.y [] o.t), none⟩ else none
      | none => none
    | _, _ => none
  | _ => none
noncomputable def kSt (o : Oper) : Option OhR := match o.op with
  | .store t a x => match ev a, ev x with
    | some a, some v => k3Store P σ t a v
    | _, _ => none
  | _ => none
end
section
variable [Val] {P : Program} {R : Nat} {D : Nat → Prop} {φ : PM} {σ : St} {w : World}
theorem cvtL_ok {cid : Nat} : ∀ {l : List Sh} {r : List AV} {r' : List Value} {es : List Sx}, cvtL cid l r = some es → VRL φ r r' → es.length = l.length ∧ VRL φ (litRow cid l (es.map Sx.dat)) r' ∧
    ∀ (j : Nat) (s : Sh) (d : Dat), l[j]? = some s → (es.map Sx.dat)[j]? = some d → CellOk s d
  | [], r, r', es, h, hv => by
    cases r with
    | nil =>
      simp only [cvtL, Option.some.injEq] at h; subst h
      cases hv
      exact ⟨rfl, .nil, fun j s d h => by simp at h⟩
    | cons a r => simp [cvtL] at h
  | s :: l, r, r', es, h, hv => by
    cases r with
    | nil => simp [cvtL] at h
    | cons a r =>
      simp only [cvtL] at h
      split at h
      · rename_i e es' he hes
        simp only [Option.some.injEq] at h; subst h
        cases hv with
        | cons h1 h2 =>
          obtain ⟨g1, g2⟩ := cvt_ok he h1
          obtain ⟨k1, k2, k3⟩ := cvtL_ok hes h2
          refine ⟨by simp [k1], .cons g1 k2, fun j s' d a b => ?_⟩
          cases j with
          | zero => simp at a b; subst a; subst b; exact g2
          | succ j => exact k3 j s' d (by simpa using a) (by simpa using b)
      · cases h
omit [Val] in
theorem litRows_take (cid : Nat) (l : List Sh) {rows : List (List Dat)} (hr : ∀ r ∈ rows, r.length = l.length) (k : Nat) (hk : k ≤ rows.length) : (litRows cid l rows).take (k * l.length) = litRows cid l (rows.take k) := by
  have h1 : litRows cid l rows = litRows cid l (rows.take k) ++ litRows cid l (rows.drop k) := by rw [← litRows_append, List.take_append_drop]
  have h2 : (litRows cid l (rows.take k)).length = k * l.length := by
    rw [litRows_length cid l _ (fun r h => hr r (List.mem_of_mem_take h)), List.length_take, Nat.min_eq_left hk]
  rw [h1, ← h2, List.take_left]
omit [Val] in
theorem litRows_drop (cid : Nat) (l : List Sh) {rows : List (List Dat)} (hr : ∀ r ∈ rows, r.length = l.length) (k : Nat) (hk : k ≤ rows.length) : (litRows cid l rows).drop (k * l.length) = litRows cid l (rows.drop k) := by
  have h1 : litRows cid l rows = litRows cid l (rows.take k) ++ litRows cid l (rows.drop k) := by rw [← litRows_append, List.take_append_drop]
  have h2 : (litRows cid l (rows.take k)).length = k * l.length := by
    rw [litRows_length cid l _ (fun r h => hr r (List.mem_of_mem_take h)), List.length_take, Nat.min_eq_left hk]
  rw [h1, ← h2, List.drop_left]
omit [Val] in
theorem litRows_set (cid : Nat) (l : List Sh) {rows : List (List Dat)} (hr : ∀ r ∈ rows, r.length = l.length) {k : Nat} (hk : k < rows.length) {ds : List Dat} (hd : ds.length = l.length) :
    litRows cid l (rows.set k ds) = splice (litRows cid l rows) (k * l.length) (litRow cid l ds) := by
  rw [splice_eq, litRow_length cid l ds hd, litRows_take cid l hr k (by omega), show k * l.length + l.length = (k + 1) * l.length by rw [Nat.add_mul]; omega, litRows_drop cid l hr (k + 1) (by omega),
    List.set_eq_take_append_cons_drop, if_pos hk, litRows_append, litRows_cons, List.append_assoc]
theorem setRow_dat {x n : Sx} {rows : List (List Dat)} (hx : x.dat = .lst rows) {r : List Dat} (hr : rows[n.dat.toI.toNat]? = some r) : ∀ {cs : List Sx} {j : Nat}, j + cs.length ≤ r.length →
    (setRow x n j cs).dat = .lst (rows.set n.dat.toI.toNat (r.take j ++ cs.map Sx.dat ++ r.drop (j + cs.length)))
  | [], j, h => by
    have hk : n.dat.toI.toNat < rows.length := by
      rcases Nat.lt_or_ge n.dat.toI.toNat rows.length with h | h
      · exact h
      · rw [List.getElem?_eq_none h] at hr; cases hr
    have : rows.set n.dat.toI.toNat r = rows := by
      have := List.getElem?_eq_getElem hk
      rw [hr] at this; simp only [Option.some.injEq] at this; rw [this]
      exact List.set_getElem_self hk
    simp [setRow, hx, this]
  | c :: cs, j, h => by
    have hk : n.dat.toI.toNat < rows.length := by
      rcases Nat.lt_or_ge n.dat.toI.toNat rows.length with h | h
      · exact h
      · rw [List.getElem?_eq_none h] at hr; cases hr
    have hlen : j + 1 + cs.length ≤ r.length := by simp only [List.length_cons] at h; omega
    have ih := setRow_dat hx hr (cs := cs) (j := j + 1) hlen
    show Dat.setc (setRow x n (j + 1) cs).dat n.dat.toI j c.dat = _
    rw [ih]
    change Dat.lst ((rows.set n.dat.toI.toNat (r.take (j + 1) ++ cs.map Sx.dat ++ r.drop (j + 1 + cs.length))).modify n.dat.toI.toNat fun r => r.set j c.dat) = _
    congr 1
    apply List.ext_getElem?
    intro i
    rw [List.getElem?_modify]
    by_cases hi : n.dat.toI.toNat = i
    · subst hi
      rw [List.getElem?_set_self hk, List.getElem?_set_self hk]
      simp only [if_true, Option.map_eq_map, Option.map_some, Option.some.injEq]
      have ht : r.take (j + 1) = r.take j ++ [r[j]'(by omega)] := by
        rw [List.take_add_one, List.getElem?_eq_getElem (by omega)]; rfl
      have hl : (r.take j).length = j := by rw [List.length_take]; omega
      rw [ht, List.append_assoc, List.append_assoc, List.set_append_right _ _ (by omega), hl, Nat.sub_self]
      simp only [List.singleton_append, List.cons_append, List.nil_append, List.set_cons_zero, List.map_cons, List.length_cons, List.append_assoc]
      rw [show j + 1 + cs.length = j + (cs.length + 1) by omega]
    · rw [List.getElem?_set_ne hi, List.getElem?_set_ne hi]
      simp [hi]
theorem k3Store_ok (hi : Inv0 R D φ σ w) {t : TypeId} {a v : AV} {a' v' : Value} {r : OhR} (h : k3Store P σ t a v = some r) (ha : VR φ a a') (hv : VR φ v v') (hk : Known D σ (r.to σ)) :
    r.v = .tup [] ∧ ∃ w', (Instr.storeAt t a' v').run P w = .ok () w' ∧ Post R D φ σ w (r.to σ) φ w' := by
  unfold k3Store at h
  split at h
  · rename_i k id ver l off n
    split at h
    · rename_i o s hoo hs
      split at h
      · rename_i cs hcs
        simp only [cond_eq_ite, Bool.and_eq_true] at h
        split at h
        · rename_i hb
          obtain ⟨b1, b2, b3⟩ := hb
          have := beq_t b1; subst this
          have := beq_t b2; subst this
          have := beq_t b3; subst this
          simp only [Option.some.injEq] at h; subst h
          refine ⟨rfl, ?_⟩
          obtain ⟨rfl, rfl, rfl, ho, hl0⟩ := ownAt_ok hoo
          have hto : ((⟨.tup [], [], some (o.id, .opq 2 o.ver o.cid (.slc o.l) (setRow o.x n 0 cs) o.y [] o.t), none⟩ : OhR).to σ) = σ.put o.id (.opq 2 o.ver o.cid (.slc o.l) (setRow o.x n 0 cs) o.y [] o.t) := by
            unfold OhR.to lgAll
            simp only [ho]
          rw [hto] at hk ⊢
          have hlt := hi.lt ho
          have hd : D o.id := hk o.id (.inr (mem_addL.2 (.inl rfl))) hlt
          cases ha with
          | opq _ hv3 =>
            obtain ⟨l', e, hl', he, hdn, h0, h4, h5, h6, rfl⟩ := hv3
            simp only [Sh.slc.injEq] at hl'; subst hl'
            obtain ⟨rows, hx, hr, hor⟩ := own_rep hi ho hd
            rcases hor with ⟨_, _, _, hno⟩ | ⟨y1, ⟨e2, he2, hh⟩, har⟩
            · rw [hno _ (Nat.le_refl _)] at he; cases he
            · rw [he] at he2; simp only [Option.some.injEq] at he2; subst he2
              have hlen := litRows_length o.cid o.l rows (rows_len hr)
              rw [hlen] at hh
              rw [hh] at h4
              have hkl : n.dat.toI.toNat < rows.length := by
                have := Nat.le_of_mul_le_mul_right h4 hl0
                omega
              have hrow : rows[n.dat.toI.toNat]? = some rows[n.dat.toI.toNat] := List.getElem?_eq_getElem hkl
              have hrl := (hr _ (List.getElem_mem hkl)).1
              obtain ⟨k1, k2, k3⟩ := cvtL_ok hcs hv.cells
              have hdl : (cs.map Sx.dat).length = o.l.length := by simp [k1]
              have hsd : (setRow o.x n 0 cs).dat = .lst (rows.set n.dat.toI.toNat (cs.map Sx.dat)) := by
                rw [setRow_dat hx hrow (by omega)]
                congr 2
                rw [List.take_zero, List.nil_append, Nat.zero_add, k1, ← hrl, List.drop_length, List.append_nil]
              have hls := litRows_set o.cid o.l (rows_len hr) hkl hdl
              have hvl := litRow_length o.cid o.l (cs.map Sx.dat) hdl
              have hrr : RowsOk o.l (rows.set n.dat.toI.toNat (cs.map Sx.dat)) := fun q hq => by
                rcases List.mem_or_eq_of_mem_set hq with h | rfl
                · exact hr q h
                · exact ⟨hdl, k3⟩
              let oc : Ob := .arr (litRows o.cid o.l rows) o.ver (litRows o.cid o.l rows).length (o.ver + 1) (o.ver + 1) o.t
              have hi2 : Inv0 R D φ { σ with heap := σ.heap.set o.id oc } w := hi.recast hlt har
              have hle : n.dat.toI.toNat * o.l.length + o.l.length ≤ rows.length * o.l.length := by
                rw [Nat.add_mul] at h4; omega
              have hwr : writeN { σ with heap := σ.heap.set o.id oc } o.id o.ver (n.dat.toI.toNat * o.l.length) (litRows o.cid o.l rows).length (litRow o.cid o.l (cs.map Sx.dat)) =
                  some (St.put { σ with heap := σ.heap.set o.id oc } o.id (.arr (litRows o.cid o.l (rows.set n.dat.toI.toNat (cs.map Sx.dat))) o.ver (litRows o.cid o.l rows).length (o.ver + 1) (o.ver + 1) o.t)) := by
                unfold writeN
                simp only [T.get_set_same, oc, Ob.write, cond_eq_ite]
                rw [if_pos (by rw [litRow_flat, hvl, hlen]; simp [Nat.ble_eq]; exact hle), if_pos (by rw [hvl]; simp [Nat.blt, Nat.ble_eq]; omega), if_pos (Nat.beq_refl _), if_pos (by rw [hvl, hlen]; simp [Nat.ble_eq]; exact hle), List.take_length, ← hls]
              obtain ⟨w', r1, r2⟩ := writeN_run (P := P) hi2.inv hwr (fun i h hl => hk i h hl) k2 he (by omega) (q := e.up + n.dat.toI.toNat * o.l.length) (by omega)
              refine ⟨w', ?_, Post.recast hd hlt r2 fun hrep => ?_⟩
              · have hsz : v'.cells.size = o.l.length := by
                  have := k2.length; rw [hvl] at this; simpa using this
                have hq : e.up + (n.dat.toI.toNat * o.l.length + ((Sx.lit (Int.ofNat 0)).dat.toI).toNat) = e.up + n.dat.toI.toNat * o.l.length := by
                  have : ((Sx.lit (Int.ofNat 0)).dat.toI).toNat = 0 := rfl
                  omega
                rw [hq]
                simp [Instr.storeAt, Instr.sureAddr, storeVar, run_szOf hs, hsz, r1]
              · have hl2 : (litRows o.cid o.l (rows.set n.dat.toI.toNat (cs.map Sx.dat))).length = (litRows o.cid o.l rows).length := by
                  rw [litRows_length _ _ _ (rows_len hrr), hlen, List.length_set]
                refine ⟨o.l, _, rfl, hsd, hrr, .inr ⟨y1, ⟨e, he, ?_⟩, ?_⟩⟩
                · rw [List.append_nil, hl2, hh, hlen]
                · rw [List.append_nil, hl2]; exact hrep
        · cases h
      · cases h
    · cases h
  · cases h
end
end Go.Tw
namespace Go.Tw
noncomputable section
section
variable [Val] {P : Program} {R : Nat} {D : Nat → Prop} {φ : PM} {σ : St} {w : World} {dec : Bx → Option Bool}
theorem Inv0.read (hi : Inv0 R D φ σ w) (l : List Nat) : Inv0 R D φ (lgAll l σ) w := by
  obtain ⟨h1, h2, h3⟩ := lgAll_heap l σ
  exact ⟨hi.wf, by rw [h3]; exact hi.wrR, by rw [h2]; exact hi.low, fun i hd hn => by rw [h1]; rw [h2] at hn; exact hi.rep i hd hn, fun i hn => by rw [h1]; rw [h2] at hn; exact hi.dom i hn⟩
omit [Val] in
theorem ownOf_read (l : List Nat) (a : AV) : ownOf (lgAll l σ) a = ownOf σ a := by
  unfold ownOf
  rw [(lgAll_heap l σ).1]
omit [Val] in
theorem OhR.to_put {v : AV} {l : List Nat} {id : Nat} {o o' : Ob} (h : σ.heap.get id = some o') : (⟨v, l, some (id, o), none⟩ : OhR).to σ = (lgAll l σ).put id o := by
  unfold OhR.to
  have : (lgAll l σ).heap.get id = some o' := by rw [(lgAll_heap l σ).1]; exact h
  simp only [this]
theorem orY_dat {a : Sx} {b : Bool} {x : Sx} {rows2 : List (List Dat)} (hx : x.dat = .lst rows2) (ha : a.dat = .int 0 ∨ a.dat = .int 1) (hb : b = true → rows2 ≠ []) : (orY a b x).dat = .int (b2i (decide (a.dat.toI ≠ 0 ∨ rows2 ≠ []))) := by
  unfold orY
  rw [cond_eq_ite]
  split
  · rename_i h
    have := hb h
    simp [Sx.dat, this, b2i]
  · split
    · simp [Sx.dat, b2i, Dat.toI]
    · rename_i hne
      show Dat.int (b2i (a.dat.toI != 0 || (Sx.pr 29 x (.lit 0)).dat.toI != 0)) = _
      have : (Sx.pr 29 x (.lit 0)).dat = .int (b2i (decide (rows2 ≠ []))) := by
        show Dat.int (b2i (decide (x.dat.toL.length ≠ 0))) = _
        rw [hx]
        simp [Dat.toL]
      rw [this]
      rcases ha with h | h <;> rw [h] <;> by_cases h2 : rows2 = [] <;> simp [h2, b2i, Dat.toI]
theorem kAppend_ok (hi : Inv0 R D φ σ w) (hdec : ∀ b v, dec b = some v → b.eval = v) {ts : List TypeId} {args : List AV} {ts' : Array TypeId} {args' : Array Value} {ty : TypeId} {r : OhR} (h : kAppend P dec σ ts args = some r)
    (hts : ts'.toList = ts) (hargs : VRL φ args args'.toList) (hk : Known D σ (r.to σ)) (hf : Free φ σ (r.to σ)) :
    ∃ φ' w' v', (Builtin.append_ ts' ty args').run P w = .ok v' w' ∧ VR φ' r.v v' ∧ Post R D φ σ w (r.to σ) φ' w' := by
  unfold kAppend at h
  split at h
  · rename_i st u s x
    have hts2 : ts' = #[st, u] := by apply Array.ext'; simpa using hts
    subst hts2
    obtain ⟨s', x', hargs2, hs, hx⟩ := hargs.two
    subst hargs2
    split at h
    · rename_i e hu
      split at h
      · rename_i size bw z h1 h2 h3 h4
        simp only [cond_eq_ite, Bool.and_eq_true] at h
        split at h
        · rename_i hb
          have hz := beq_t hb.1
          have hbw := ble_t hb.2
          obtain ⟨ti, z', hti, hsz, hbw', rz, vz, hzs⟩ := info_of h1 h2 h3 hz
          split at h
          · rename_i hem
            split at h
            · rename_i cid l hcid
              split at h
              · rename_i hb2
                have hsl := beq_t hb2.1
                split at h
                · rename_i q hq
                  simp only [Option.some.injEq] at h; subst h
                  have hto : ∀ v, ((⟨v, q.rd, none, some (.opq 2 0 cid (.slc l) q.x (.pr 29 q.x (.lit 0)) [] e)⟩ : OhR).to σ) = (lgAll q.rd σ).mk' (.opq 2 0 cid (.slc l) q.x (.pr 29 q.x (.lit 0)) [] e) := fun v => rfl
                  rw [hto] at hk hf ⊢
                  have hkq : Known D σ (lgAll q.rd σ) := fun i h hl => hk i h hl
                  obtain ⟨rows2, hsrc, hs1, hs2⟩ := srcOf_ok (P := P) (e := e) (u := u) (ti := ti) hi hdec hq hx hkq h4 (by omega)
                  have hb0 : ∃ b, s' = .slice b 0 0 := by
                    unfold emptyA at hem
                    split at hem
                    · cases hs; exact ⟨none, rfl⟩
                    · cases hs with
                      | slc ex o c he hd hh hl hc ho =>
                        have := (hc 0 rfl).1
                        subst this
                        exact ⟨_, rfl⟩
                    · cases hem
                  obtain ⟨b, rfl⟩ := hb0
                  have hnx : (lgAll q.rd σ).next = σ.next := (lgAll_heap q.rd σ).2.1
                  have hfree : ∀ v, φ (lgAll q.rd σ).next v = none := fun v => hf _ (by omega) (by simp [St.mk']) v
                  have hy : (Sx.pr 29 q.x (.lit 0)).dat = .int (b2i (decide (rows2 ≠ []))) := by
                    show Dat.int (b2i (decide (q.x.dat.toL.length ≠ 0))) = _
                    rw [hsrc.1]
                    simp [Dat.toL]
                  obtain ⟨φ', w', v', p1, p2, p3⟩ := own_new (P := P) (ty := ty) (u := u) (b := b) (x' := x') (cid := cid) (x2 := q.x) (hi.read q.rd) hfree hu hti (by omega) rz (by omega) hsrc hs1 (by omega) hy
                  rw [hnx] at p2
                  exact ⟨φ', w', v', p1, p2, p3.from hnx (lgAll_heap q.rd σ).2.2⟩
                · cases h
              · cases h
            · cases h
          · split at h
            · rename_i o hoo
              split at h
              · rename_i hb2
                have hsl := beq_t hb2.1.1
                have het := beq_t hb2.1.2
                split at h
                · rename_i q hq
                  simp only [Option.some.injEq] at h; subst h
                  obtain ⟨z0, _, ho, hl0⟩ := ownOf_ok hoo
                  rw [OhR.to_put ho] at hk hf ⊢
                  have hkq : Known D σ (lgAll q.rd σ) := fun i h hl => hk i (h.imp (fun h => h) (fun h => mem_addL.2 (.inr h))) hl
                  obtain ⟨rows2, hsrc, hs1, hs2⟩ := srcOf_ok (P := P) (e := e) (u := u) (ti := ti) hi hdec hq hx hkq h4 (by omega)
                  have hd : D o.id := hk o.id (.inr (mem_addL.2 (.inl rfl))) (hi.lt ho)
                  obtain ⟨rows, hxd, hr, hor⟩ := own_val hi hoo hs hd
                  have hyy : o.y.dat = .int 0 ∨ o.y.dat = .int 1 := by
                    rcases hor with ⟨_, _, h, _⟩ | ⟨_, _, _, h, _⟩
                    · exact .inl h
                    · exact .inr h
                  obtain ⟨φ', w', v', p1, p2, p3⟩ := own_append (P := P) (ty := ty) (u := u) (x' := x') (x2 := q.x) (y' := orY o.y q.some q.x) (hi.read q.rd) (by rw [ownOf_read]; exact hoo) hs hd hu hti (by omega) rz (by omega) het hsrc
                    (fun rows hx => smallS_ok hdec hb2.2 hx) hs1 (by omega) (orY_dat hsrc.1 hyy hs2)
                  exact ⟨φ', w', v', p1, p2, p3.from (lgAll_heap q.rd σ).2.1 (lgAll_heap q.rd σ).2.2⟩
                · cases h
              · cases h
            · cases h
        · cases h
      · cases h
    · cases h
  · cases h
end
def k2Slice (P : Program) (dec : Bx → Option Bool) (σ : St) (t : TypeId) (a : AV) (hi : AV) : Option OhR := match ownOf σ a, P.underlying t, sxOf hi with
  | some o, some (.slice e), some (_, q) => match szOf P e with
    | some s => bif Nat.beq s o.l.length && (isT dec (.cmp .geq q (.lit 0)) && isT dec (.cmp .leq q (lenS o.x))) then some ⟨.opq 2 o.id (o.ver + 1) (.slc o.l) (.lit 0) o.y, [], some (o.id, .opq 2 (o.ver + 1) o.cid (.slc o.l) (.pr 10 o.x q) o.y [] o.t), none⟩ else none
    | none => none
  | _, _, _ => none
theorem take_pre (c : Nat) (l : List Sh) (rows : List (List Dat)) (n k : Nat) (a : AV) (h : (litRows c l (rows.take n))[k]? = some a) : (litRows c l rows)[k]? = some a := by
  have e : litRows c l rows = litRows c l (rows.take n) ++ litRows c l (rows.drop n) := by rw [← litRows_append, List.take_append_drop]
  have hk : k < (litRows c l (rows.take n)).length := by
    rcases Nat.lt_or_ge k (litRows c l (rows.take n)).length with h' | h'
    · exact h'
    · rw [List.getElem?_eq_none h'] at h; cases h
  rw [e, List.getElem?_append_left hk]; exact h
theorem k2Slice_ok [Val] {P : Program} {R : Nat} {D : Nat → Prop} {φ : PM} {σ : St} {w : World} {dec : Bx → Option Bool} (hi : Inv0 R D φ σ w) (hdec : ∀ b v, dec b = some v → b.eval = v) {t : TypeId} {a q : AV} {a' q' : Value} {r : OhR} (h : k2Slice P dec σ t a q = some r) (ha : VR φ a a') (hq : VR φ q q')
    (hk : Known D σ (r.to σ)) : ∃ φ' w' v', (Instr.sliceAt t a' none (some q') none).run P w = .ok v' w' ∧ VR φ' r.v v' ∧ Post R D φ σ w (r.to σ) φ' w' := by
  unfold k2Slice at h
  split at h
  · rename_i o e kk q hoo hu hqs
    split at h
    · rename_i s hs
      simp only [cond_eq_ite, Bool.and_eq_true] at h
      split at h
      · rename_i hb
        obtain ⟨b1, b2, b3⟩ := hb
        have := beq_t b1; subst this
        simp only [Option.some.injEq] at h; subst h
        obtain ⟨z, _, ho, hl0⟩ := ownOf_ok hoo
        have hlt := hi.lt ho
        rw [OhR.to_put ho] at hk ⊢
        have hd : D o.id := hk o.id (.inr (mem_addL.2 (.inl rfl))) hlt
        obtain ⟨rows, hx, hr, hor⟩ := own_val hi hoo ha hd
        have hqv : q' = .int kk q.eval := sxOf_ok hqs hq
        subst hqv
        have g1 := hdec _ _ (isT_ok b2)
        have g2 := hdec _ _ (isT_ok b3)
        simp only [Bx.eval, compI, decide_eq_true_eq, lenS_eval hx] at g1 g2
        have g1 : 0 ≤ q.eval := g1
        obtain ⟨m, hm⟩ : ∃ m : Nat, q.eval = m := ⟨q.eval.toNat, by omega⟩
        have hms : m ≤ rows.length := by omega
        have hxx : (Sx.pr 10 o.x q).dat = .lst (rows.take m) := by
          show Dat.lst (o.x.dat.toL.take q.dat.toI.toNat) = _
          have e1 : q.dat.toI = (m : Int) := hm
          rw [hx, e1, Int.toNat_natCast]; rfl
        have hrr : RowsOk o.l (rows.take m) := fun r h => hr r (List.mem_of_mem_take h)
        have hrun : ∀ (b : Option Addr) (c : Nat), rows.length ≤ c → (Instr.sliceAt t (.slice b rows.length c) none (some (.int kk q.eval)) none).run P w = .ok (.slice b m c) w := by
          intro b c hc
          have hbd : boundsA rows.length none none (some (.int kk (m : Int))) none = some (0, m, none) := by simp [boundsA, bndM, bndH, bndL, bnd, topOf, upto_nat hms]
          have hv2 : VRO φ (some (.int kk (m : Int))) (some (.int kk q.eval)) := by rw [hm]; exact .int _ _
          obtain ⟨M, r1, r2, r3, r4, r5, r6⟩ := boundsA_ok (P := P) (φ := φ) (b := true) hbd (lo' := none) trivial hv2 (hi' := some (.int kk q.eval)) (mx' := none) trivial (c := c) (fun k hk => by cases hk) hc
          have hM : M = c := (r6 rfl).1
          subst hM
          simp only [Instr.sliceAt, Instr.slice, Sem.run_bind, run_und hu, Result.andThen_ok, r1, run_szOf hs, Sem.run_pure, Nat.sub_zero, Nat.zero_mul]
          congr 2
          split
          · rfl
          · cases b with
            | none => rfl
            | some a => simp [Addr.add]
        rcases hor with ⟨b, rfl, y0, rfl, hR, hno⟩ | ⟨ex, c, rfl, y1, he, hdn, hhi, hc, hbs, har⟩
        · have hm0 : m = 0 := by simpa using hms
          subst hm0
          refine ⟨φ, w, _, hrun b 0 (Nat.le_refl _), .opq _ (.inl ⟨y0, b, rfl⟩), (Post.put0 (hi.read []) hR hlt φ.le_refl hi.wf (fun _ _ _ => rfl) (fun v e he => .inl ⟨v, e, he, rfl⟩) (.refl _ _ _) ?_)⟩
          exact ⟨o.l, [], rfl, by simpa using hxx, by simpa using hrr, .inl ⟨y0, rfl, rfl, hR, fun v hv => hno v (by omega)⟩⟩
        · have hR := har.1
          have hno : ∀ v, o.ver + 1 ≤ v → φ o.id v = none := har.2.2.2.2.1
          have hmul := Nat.mul_le_mul_right o.l.length hms
          have htp := hi.wf.top _ _ _ he
          let ex' : Ext := { ex with hi := m * o.l.length }
          have hle := φ.le_ins (v := o.ver + 1) ex' (hno (o.ver + 1) (Nat.le_refl _))
          refine ⟨φ.ins o.id (o.ver + 1) ex', w, _, hrun _ c hc, .opq _ (.inr ⟨y1, o.l, ex', c, m, rfl, PM.ins_same _ _ _ _, hdn, rfl, by omega, hbs, rfl⟩),
            (Post.put0 (hi.read []) hR hlt hle (hi.wf.ver (e' := ex') he hR rfl (by show m * o.l.length + ex.up ≤ ex.bsz + ex.dn; omega)) (fun i h v => φ.ins_id ex' h v) (fun v f hf => ?_) (.refl _ _ _) ?_)⟩
          · unfold PM.ins at hf
            split at hf
            · simp only [Option.some.injEq] at hf; subst hf; exact .inl ⟨o.ver, ex, he, rfl⟩
            · exact .inl ⟨v, f, hf, rfl⟩
          · obtain ⟨e3, cs, fl, fh, he3, hb, k1, k2, k4, k5⟩ := own_block har
            rw [he] at he3; simp only [Option.some.injEq] at he3; subst he3
            have hlen := litRows_length o.cid o.l (rows.take m) (rows_len hrr)
            have hlm : (rows.take m).length = m := by simp; omega
            rw [hlm] at hlen
            refine ⟨o.l, rows.take m, rfl, hxx, hrr, .inr ⟨y1, ⟨ex', PM.ins_same _ _ _ _, ?_⟩, ?_⟩⟩
            · rw [List.append_nil, hlen]
            · rw [List.append_nil]
              refine .single hR (PM.ins_same _ _ _ _) (fun v hv => by rw [PM.ins_ver _ _ (by omega)]; exact hno v (by omega)) hb k1 (by rw [hlen]; exact Nat.le_refl _) k4 fun x a x1 x2 x3 => ?_
              have hx' : x < (litRows o.cid o.l rows).length := by rw [litRows_length _ _ _ (rows_len hr)]; omega
              obtain ⟨a', q1, q2⟩ := k5 x a x1 hx' (take_pre _ _ _ _ _ _ x3)
              exact ⟨a', q1, q2.mono hle⟩
      · cases h
    · cases h
  · cases h
def kZeros (P : Program) (dec : Bx → Option Bool) (σ : St) (l : List Sh) (ts : List TypeId) (s x : AV) : Option OhR := match ts, x with
  | [st, u], .sym _ n => match P.underlying st with
    | some (.slice e) => match szOf P e, byOf P e, zeroOf P e, zerosA P u with
      | some size, some bw, some z, some true => match cvtRow gid l z.cells with
        | some r => bif Nat.beq z.cells.length size && (Nat.beq l.length size && (Nat.ble bw 16384 && (emptyA s && (isT dec (.cmp .geq n (.lit 0)) && isT dec (.cmp .leq n (.lit 1000000000)))))) then
            some ⟨.opq 2 σ.next 0 (.slc l) (.lit 0) (.pr 29 (.pr 18 n r) (.lit 0)), [], none, some (.opq 2 0 gid (.slc l) (.pr 18 n r) (.pr 29 (.pr 18 n r) (.lit 0)) [] e)⟩ else none
        | none => none
      | _, _, _, _ => none
    | _ => none
  | _, _ => none
theorem kZeros_ok [Val] {P : Program} {R : Nat} {D : Nat → Prop} {φ : PM} {σ : St} {w : World} {dec : Bx → Option Bool} (hi : Inv0 R D φ σ w) (hdec : ∀ b v, dec b = some v → b.eval = v) {l : List Sh} {ts : List TypeId} {s x : AV} {s' x' : Value} {ts' : Array TypeId} {ty : TypeId} {r : OhR}
    (h : kZeros P dec σ l ts s x = some r) (hts : ts'.toList = ts) (hs : VR φ s s') (hx : VR φ x x') (hf : Free φ σ (r.to σ)) :
    ∃ φ' w' v', (Builtin.append_ ts' ty #[s', x']).run P w = .ok v' w' ∧ VR φ' r.v v' ∧ Post R D φ σ w (r.to σ) φ' w' := by
  unfold kZeros at h
  split at h
  · rename_i st u k n
    have hts2 : ts' = #[st, u] := by apply Array.ext'; simpa using hts
    subst hts2
    split at h
    · rename_i e hu
      split at h
      · rename_i size bw z h1 h2 h3 h4
        split at h
        · rename_i rr hrr
          simp only [cond_eq_ite, Bool.and_eq_true] at h
          split at h
          · rename_i hb
            obtain ⟨b1, b2, b3, b4, b5, b6⟩ := hb
            have hz := beq_t b1
            have hl := beq_t b2
            have hbw := ble_t b3
            simp only [Option.some.injEq] at h; subst h
            obtain ⟨ti, z', hti, hsz, hbw', rz, vz, hzs⟩ := info_of h1 h2 h3 hz
            have g1 := hdec _ _ (isT_ok b5)
            have g2 := hdec _ _ (isT_ok b6)
            simp only [Bx.eval, compI, decide_eq_true_eq] at g1 g2
            have g1 : 0 ≤ n.eval := g1
            have g2 : n.eval ≤ 1000000000 := g2
            obtain ⟨m, hm⟩ : ∃ m : Nat, n.eval = m := ⟨n.eval.toNat, by omega⟩
            have hui : ∃ ik, P.underlying u = some (.int ik) := by
              unfold zerosA at h4
              split at h4
              · rename_i ik hu2; exact ⟨ik, hu2⟩
              · cases h4
              · cases h4
            obtain ⟨ik, hu2⟩ := hui
            have hxv : x' = .int k n.eval := by cases hx; rfl
            subst hxv
            have hvz := (vz φ).cells
            obtain ⟨row, e1, e2, e3, e4⟩ := cvtRow_ok hrr hvz
            have hd : (Sx.pr 18 n rr).dat = .lst (List.replicate m row) := by
              show Dat.lst (List.replicate n.dat.toI.toNat rr.dat.one) = _
              have e5 : n.dat.toI = (m : Int) := hm
              rw [e5, Int.toNat_natCast, e1]; rfl
            have hro : RowsOk l (List.replicate m row) := fun r hr => by
              have := List.eq_of_mem_replicate hr
              subst this
              exact ⟨e2, e4⟩
            have harr : VRL φ (repl m z.cells) ((if m * ti.size = 0 then #[] else Builtin.zeroCells z'.cells m : Array Value)).toList := by
              split
              · rename_i h0
                have : repl m z.cells = [] := by
                  apply List.length_eq_zero_iff.1
                  rw [repl_length, hz, ← hsz, h0]
                rw [this]; exact .nil
              · rename_i h0
                have := makeSlice_cells vz hz φ z'.cells (c := m) (fun _ => rfl)
                rw [← hzs] at this
                exact this
            have hlit : ∀ (j : Nat) (vs : List Value), VRL φ (repl j z.cells) vs → VRL φ (litRows gid l (List.replicate j row)) vs := by
              intro j
              induction j with
              | zero => intro vs h; cases h; exact .nil
              | succ j ih =>
                intro vs h
                rw [List.replicate_succ, litRows_cons]
                simp only [repl] at h
                have h5 := h.take z.cells.length
                have h6 := h.drop z.cells.length
                rw [List.take_left] at h5
                rw [List.drop_left] at h6
                obtain ⟨row', f1, f2, f3, f4⟩ := cvtRow_ok hrr h5
                rw [e1] at f1
                simp only [Dat.lst.injEq, List.cons.injEq, and_true] at f1
                subst f1
                have := f3.append (ih _ h6)
                rwa [List.take_append_drop] at this
            have hb0 : ∃ b, s' = .slice b 0 0 := by
              unfold emptyA at b4
              split at b4
              · cases hs; exact ⟨none, rfl⟩
              · cases hs with
                | slc ex o c he hd hh hl hc ho =>
                  have := (hc 0 rfl).1
                  subst this
                  exact ⟨_, rfl⟩
              · cases b4
            obtain ⟨b, rfl⟩ := hb0
            have hto : ∀ v ob, ((⟨v, [], none, some ob⟩ : OhR).to σ) = σ.mk' ob := fun v ob => rfl
            rw [hto] at hf ⊢
            have hfree : ∀ v, φ σ.next v = none := fun v => hf _ (Nat.le_refl _) (by simp [St.mk']) v
            have hy : (Sx.pr 29 (.pr 18 n rr) (.lit 0)).dat = .int (b2i (decide (List.replicate m row ≠ []))) := by
              show Dat.int (b2i (decide ((Sx.pr 18 n rr).dat.toL.length ≠ 0))) = _
              rw [hd]
              simp [Dat.toL]
            have hbm : m * ti.bytes ≤ 70368744177664 := by
              have : m * ti.bytes ≤ 1000000000 * 16384 := Nat.mul_le_mul (by omega) (by omega)
              omega
            have hsrc : SrcR P φ w e ti u gid l (.pr 18 n rr) (.int k n.eval) (List.replicate m row) :=
              ⟨hd, hro, _, hlit m _ harr, .inr ⟨ik, k, z', hu2, by rw [hm]; simp, by simp; omega, by simpa using hbm, rz, by simp⟩⟩
            exact own_new (P := P) (ty := ty) (u := u) (b := b) (cid := gid) (x2 := .pr 18 n rr) hi hfree hu hti (by omega) rz (by omega) hsrc (by simp; omega) (by omega) hy
          · cases h
        · cases h
      · cases h
    · cases h
  · cases h
def shFs (sh : TypeId → Option (List Sh)) : List Field → Nat → Option (List Sh)
  | [], _ => some []
  | f :: l, o => match sh f.type with
    | some a => bif Nat.beq f.offset o then (match shFs sh l (o + a.length) with
      | some r => some (a ++ r)
      | none => none) else none
    | none => none
def shOf (P : Program) : Nat → TypeId → Option (List Sh)
  | 0, _ => none
  | n + 1, t => match P.underlying t with
    | some (.int k) => some [.int k]
    | some .bool => some [.bool]
    | some .string => some [.str]
    | some (.slice e) => match shOf P n e with
      | some l => bif Nat.beq (P.cellsOf e) l.length && Nat.blt 0 l.length then some [.slc l] else none
      | none => none
    | some (.struct fs) => match shFs (fun t => match shOf P n t with
        | some l => bif Nat.beq (P.cellsOf t) l.length then some l else none
        | none => none) fs.toList 0 with
      | some l => bif Nat.beq (P.cellsOf t) l.length then some l else none
      | none => none
    | _ => none
def kList (P : Program) (dec : Bx → Option Bool) (ev : Operand → Option AV) (o : Oper) (σ : St) : Option OhR := match o.op with
  | .call c => match c.callee, c.argTypes.toList, c.args.toList with
    | .builtin .len, t :: _, [a] => match ev a with
      | some v => k2Len P σ t v
      | none => none
    | .builtin .append, ts, [a, b] => match ev a, ev b with
      | some s, some x => match x with
        | .sym _ _ => match ts with
          | st :: _ => match P.underlying st with
            | some (.slice e) => match shOf P 8 e with
              | some l => kZeros P dec σ l ts s x
              | none => none
            | _ => none
          | [] => none
        | x => match kAppend P dec σ ts [s, x] with
          | some r => some r
          | none => kArrApp P dec σ ts s x
      | _, _ => none
    | _, _, _ => none
  | .indexAddr t a i => match ev a, ev i with
    | some v, some n => k2Index P dec σ t v n
    | _, _ => none
  | .fieldAddr t a f => match ev a with
    | some v => k3Field P t v f
    | none => none
  | .load t a => match ev a with
    | some v => k3Load P σ t v
    | none => none
  | .nilCheck a => match ev a with
    | some v => k3Nil v
    | none => none
  | .slice t a none (some h) none => match ev a, ev h with
    | some v, some q => k2Slice P dec σ t v q
    | _, _ => none
  | _ => none
def kOp (P : Program) (dec : Bx → Option Bool) (ev : Operand → Option AV) (o : Oper) (σ : St) : Option OhR := match kDec P dec ev σ o with
  | some r => some r
  | none => match kSt P ev σ o with
    | some r => some r
    | none => match k0Op P dec ev σ o with
      | some r => some r
      | none => kList P dec ev o σ
theorem kDec_ok [Val] {P : Program} {R : Nat} {D : Nat → Prop} {φ : PM} {σ : St} {w : World} {dec : Bx → Option Bool} (hdec : ∀ b v, dec b = some v → b.eval = v) (hi : Inv0 R D φ σ w)
    {ev : Operand → Option AV} {a : Operand → Value} (hev : ∀ x v, ev x = some v → VR φ v (a x)) {o : Oper} {r : OhR} (h : kDec P dec ev σ o = some r) (hk : Known D σ (r.to σ)) (hf : Free φ σ (r.to σ)) :
    ∃ φ' w' n v', (execOp a o).run P w = .ok n w' ∧ (n = .value v' ∨ (n = .skip ∧ v' = undef)) ∧ VR φ' r.v v' ∧ Post R D φ σ w (r.to σ) φ' w' := by
  unfold kDec at h
  split at h
  · rename_i c ho
    split at h
    · rename_i t ts x hc hts hargs
      split at h
      · rename_i v hv
        have ht0 : c.argTypes[0]? = some t := by rw [← Array.getElem?_toList, hts]; rfl
        obtain ⟨v', h1, h2, h3⟩ := kLenD_ok (P := P) (ty := o.type) (ts := c.argTypes) hi hdec h (hev _ _ hv) ht0
        refine ⟨φ, w, .value v', v', ?_, .inl rfl, h2, h3⟩
        have ha : Array.map a c.args = #[a x] := by apply Array.ext'; simp [hargs]
        simp [execOp, ho, resolve, hc, invoke, ha, builtin, h1]
      · cases h
    · rename_i x y hc hargs
      split at h
      · rename_i s xx hs hxx
        obtain ⟨φ', w', v', h1, h2, h3⟩ := kExp_ok (P := P) (ty := o.type) (ts' := c.argTypes) (args' := #[a x, a y]) hi hdec h rfl (.cons (hev _ _ hs) (.cons (hev _ _ hxx) .nil)) hk hf
        refine ⟨φ', w', .value v', v', ?_, .inl rfl, h2, h3⟩
        have ha : Array.map a c.args = #[a x, a y] := by apply Array.ext'; simp [hargs]
        simp [execOp, ho, resolve, hc, invoke, ha, builtin, h1]
      · cases h
    · cases h
  · cases h
theorem kOp_ok [Val] : OhOk kOp := by
  intro P dec hdec R D φ σ w hi ev a hev o r h hnd hk hf
  unfold kOp at h
  split at h
  · rename_i r' hr
    simp only [Option.some.injEq] at h; subst h
    exact kDec_ok hdec hi hev hr hk hf
  split at h
  · rename_i r' hr
    simp only [Option.some.injEq] at h; subst h
    unfold kSt at hr
    split at hr
    · rename_i t x y ho
      split at hr
      · rename_i av vv hav hvv
        obtain ⟨hrv, w', h1, h2⟩ := k3Store_ok (P := P) hi hr (hev _ _ hav) (hev _ _ hvv) hk
        refine ⟨φ, w', .skip, undef, ?_, .inr ⟨rfl, rfl⟩, ?_, h2⟩
        · simp [execOp, ho, h1]
        · rw [hrv]; exact .tup _ .nil
      · cases hr
    · cases hr
  split at h
  · rename_i r' hr
    simp only [Option.some.injEq] at h; subst h
    exact k0Op_ok hdec hi hev hr hk
  · unfold kList at h
    split at h
    · rename_i c ho
      split at h
      · rename_i t ts x hc hts hargs
        split at h
        · rename_i v hv
          have ht0 : c.argTypes[0]? = some t := by rw [← Array.getElem?_toList, hts]; rfl
          obtain ⟨v', h1, h2, h3⟩ := k2Len_ok (P := P) (ty := o.type) (ts := c.argTypes) hi h (hev _ _ hv) hk ht0
          refine ⟨φ, w, .value v', v', ?_, .inl rfl, h2, h3⟩
          have ha : Array.map a c.args = #[a x] := by apply Array.ext'; simp [hargs]
          simp [execOp, ho, resolve, hc, invoke, ha, builtin, h1]
        · cases h
      · rename_i x y hc hargs
        split at h
        · rename_i s xx hs hxx
          have hall : ∃ φ' w' v', (Builtin.append_ c.argTypes o.type #[a x, a y]).run P w = .ok v' w' ∧ VR φ' r.v v' ∧ Post R D φ σ w (r.to σ) φ' w' := by
            split at h
            · split at h
              · split at h
                · split at h
                  · exact kZeros_ok (P := P) (ty := o.type) (ts' := c.argTypes) hi hdec h (by first | rfl | assumption) (hev _ _ hs) (hev _ _ hxx) hf
                  · cases h
                · cases h
              · cases h
            · split at h
              · rename_i r2 hr2
                simp only [Option.some.injEq] at h; subst h
                exact kAppend_ok (P := P) (ty := o.type) (ts' := c.argTypes) (args' := #[a x, a y]) hi hdec hr2 rfl (.cons (hev _ _ hs) (.cons (hev _ _ hxx) .nil)) hk hf
              · exact kArrApp_ok (P := P) (ty := o.type) (ts' := c.argTypes) (args' := #[a x, a y]) hi hdec h rfl (.cons (hev _ _ hs) (.cons (hev _ _ hxx) .nil)) hk
          obtain ⟨φ', w', v', h1, h2, h3⟩ := hall
          refine ⟨φ', w', .value v', v', ?_, .inl rfl, h2, h3⟩
          have ha : Array.map a c.args = #[a x, a y] := by apply Array.ext'; simp [hargs]
          simp [execOp, ho, resolve, hc, invoke, ha, builtin, h1]
        · cases h
      · cases h
    · rename_i t x i ho
      split at h
      · rename_i v n hv hn
        obtain ⟨v', h1, h2, h3⟩ := k2Index_ok (P := P) hi hdec h (hev _ _ hv) (hev _ _ hn) hk
        exact ⟨φ, w, .value v', v', by simp [execOp, ho, h1], .inl rfl, h2, h3⟩
      · cases h
    · rename_i t x f ho
      split at h
      · rename_i v hv
        obtain ⟨v', h1, h2, h3⟩ := k3Field_ok (P := P) hi h (hev _ _ hv)
        exact ⟨φ, w, .value v', v', by simp [execOp, ho, h1], .inl rfl, h2, h3⟩
      · cases h
    · rename_i t x ho
      split at h
      · rename_i v hv
        obtain ⟨v', h1, h2, h3⟩ := k3Load_ok (P := P) hi h (hev _ _ hv) hk
        exact ⟨φ, w, .value v', v', by simp [execOp, ho, h1], .inl rfl, h2, h3⟩
      · cases h
    · rename_i x ho
      split at h
      · rename_i v hv
        unfold k3Nil at h
        split at h
        · rename_i k id off sh y n
          rw [cond_eq_ite] at h
          split at h
          · rename_i hb
            have := beq_t hb; subst this
            simp only [OhR.one, Option.some.injEq] at h; subst h
            have hvr := hev _ _ hv
            have hvr' := hvr
            cases hvr' with
            | opq v' hkv =>
              obtain ⟨l', e, hl', he, h1, h3, h4, h5, h6, h8⟩ := hkv
              refine ⟨φ, w, .value (a x), a x, ?_, .inl rfl, hvr, .same0 hi rfl rfl rfl⟩
              simp [execOp, ho, h8]
          · cases h
        · cases h
      · cases h
    · rename_i t x hx ho
      split at h
      · rename_i v q hv hq
        obtain ⟨φ', w', v', h1, h2, h3⟩ := k2Slice_ok (P := P) hi hdec h (hev _ _ hv) (hev _ _ hq) hk
        exact ⟨φ', w', .value v', v', by simp [execOp, ho, h1], .inl rfl, h2, h3⟩
      · cases h
    · cases h
end
end Go.Tw
