/-
  A part of the proof that the abstract evaluator is sound for the model's machine. Conditions: those of each theorem, as it states them.
-/
import Derived.Test.YtbbnjiceenjhcaaGreatDoorTwPrim
import Derived.Laws.StructEq
import Derived.ChangeKeysEq
set_option linter.all false
namespace Go.Tw
section
variable [Val]
variable {P : Program} {φ : PM} {w : World}

omit [Val] in
theorem run_und {t : TypeId} {d : TypeDesc} (h : P.underlying t = some d) (w : World) : (underlying t).run P w = .ok d w := run_underlying h w
omit [Val] in
theorem run_szOf {t : TypeId} {n : Nat} (h : szOf P t = some n) (w : World) : (sizeOf t).run P w = .ok n w := by
  unfold szOf at h
  split at h
  · rename_i i hi
    simp only [Option.some.injEq] at h; subst h
    simp [sizeOf, typeInfo, hi]
  · cases h
omit [Val] in
theorem run_byOf {t : TypeId} {n : Nat} (h : byOf P t = some n) : ∃ i, (∀ w, (typeInfo t).run P w = .ok i w) ∧ i.bytes = n := by
  unfold byOf at h
  split at h
  · rename_i i hi
    simp only [Option.some.injEq] at h; subst h
    exact ⟨i, fun w => by simp [typeInfo, hi], rfl⟩
  · cases h
omit [Val] in
theorem run_info {t : TypeId} {i : TypeInfo} (h : P.info? t = some i) (w : World) : (typeInfo t).run P w = .ok i w := by simp [typeInfo, h]
theorem run_zero {t : TypeId} {z : AV} (h : zeroOf P t = some z) : ∃ v, (∀ w, (zeroValue t).run P w = .ok v w) ∧ ∀ φ, VR φ z v := by
  unfold zeroOf at h
  split at h
  · rename_i i hi
    split at h
    · rename_i v hv
      exact ⟨v, fun w => by simp [zeroValue, typeInfo, hi, hv], fun φ => absV_ok _ _ _ h⟩
    · cases h
  · cases h
omit [Val] in
theorem run_aggT {t : TypeId} {b : Bool} (h : aggT P t = some b) (w : World) : (isAgg t).run P w = .ok b w := by
  unfold aggT at h
  split at h
  · rename_i hu; simp only [Option.some.injEq] at h; subst h; simp [isAgg, run_und hu]
  · rename_i hu; simp only [Option.some.injEq] at h; subst h; simp [isAgg, run_und hu]
  · rename_i d hn1 hn2 hu
    simp only [Option.some.injEq] at h; subst h
    simp only [isAgg, Sem.run_bind, run_und hu, Result.andThen_ok]
    cases d <;> first
      | rfl
      | exact (hn1 _ rfl).elim
      | exact (hn2 _ _ rfl).elim
  · cases h

omit [Val] in
theorem cut_ok {l r : List AV} {off n : Nat} (h : cut l off n = some r) : r = (l.drop off).take n ∧ r.length = n := by
  have := takeR_some _ _ _ h
  rw [dropR_eq] at this
  exact this

omit [Val] in
theorem wrapI_eq (k : IntKind) (n : Int) : wrapI k n = k.wrap n := by
  cases n with
  | ofNat m =>
    simp only [wrapI, cond_eq_ite]
    split
    · rename_i h
      have h := ble_t h
      cases k <;> simp only [maxN] at h <;> simp [IntKind.wrap, IntKind.bits, IntKind.signed] <;> omega
    · rfl
  | negSucc m =>
    simp only [wrapI, cond_eq_ite, Bool.and_eq_true]
    split
    · rename_i h
      have h2 := ble_t h.2
      have h1 := h.1
      obtain ⟨n, hn⟩ : ∃ n : Int, n = Int.negSucc m := ⟨_, rfl⟩
      have hn' : n = -(m : Int) - 1 := by omega
      rw [← hn]
      clear hn h
      cases k <;> simp only [maxN] at h2 <;> simp [IntKind.signed] at h1 <;> simp [IntKind.wrap, IntKind.bits, IntKind.signed] <;> omega
    · rfl

theorem partA_ok {t : TypeId} {cs : List AV} {cs' : Array Value} {off : Nat} {v : AV} (h : partA P t cs off = some v) (hc : VRL φ cs cs'.toList) :
    ∃ v', (∀ w, (part t cs' off).run P w = .ok v' w) ∧ VR φ v v' := by
  unfold partA at h
  split at h
  · rename_i n ha hs
    split at h
    · rename_i l hl
      simp only [Option.some.injEq] at h; subst h
      obtain ⟨rfl, _⟩ := cut_ok hl
      refine ⟨.agg (cs'.extract off (off + n)), fun w => by simp [part, run_aggT ha, run_szOf hs], .agg _ ?_⟩
      have := (hc.drop off).take n
      simpa [Array.toList_extract, List.take_drop] using this
    · cases h
  · rename_i ha
    obtain ⟨v', h1, h2⟩ := hc.get h
    refine ⟨v', fun w => ?_, h2⟩
    have h1 : cs'[off]? = some v' := by simpa using h1
    simp [part, run_aggT ha, h1]
  · cases h

variable {dec : Bx → Option Bool}
theorem eqFs_ok {d : Nat} {xs ys : List AV} {xs' ys' : Array Value} (hx : VRL φ xs xs'.toList) (hy : VRL φ ys ys'.toList)
    (ih : ∀ (t : TypeId) (x y : AV) (x' y' : Value) (b : Bool), eqA P dec d t x y = some b → VR φ x x' → VR φ y y' → ∀ w, (Op.equalIn d t x' y').run P w = .ok b w) :
    ∀ (fs : List Field) (b : Bool), eqFs P (eqA P dec d) xs ys fs = some b → ∀ w, (Op.eqFields d xs' ys' fs).run P w = .ok b w := by
  intro fs
  induction fs with
  | nil => intro b h w; simp only [eqFs, Option.some.injEq] at h; subst h; rfl
  | cons f fs ihf =>
    intro b h w
    simp only [eqFs] at h
    simp only [Op.eqFields, Sem.run_ite]
    split at h
    · rename_i hn
      rw [if_pos hn]
      split at h
      · rename_i a c ha hc
        obtain ⟨a', ra, va⟩ := partA_ok (φ := φ) ha hx
        obtain ⟨c', rc, vc⟩ := partA_ok (φ := φ) hc hy
        simp only [Sem.run_bind, ra, rc, Result.andThen_ok]
        split at h
        · rename_i he
          simp only [ih _ _ _ _ _ _ he va vc, Result.andThen_ok]
          simpa using ihf b h w
        · rename_i he
          simp only [Option.some.injEq] at h; subst h
          simp [ih _ _ _ _ _ _ he va vc]
        · cases h
      · cases h
    · rename_i hn
      rw [if_neg hn]
      exact ihf b h w

omit [Val] in
theorem str_beq (a b : List UInt8) : ((⟨⟨a⟩⟩ : ByteArray) == ⟨⟨b⟩⟩) = (a == b) := by
  rw [beq_toListBytes, ByteArray.toList_eq, ByteArray.toList_eq]


theorem sxOf_ok {x : AV} {x' : Value} {k : IntKind} {e : Sx} (h : sxOf x = some (k, e)) (hx : VR φ x x') : x' = .int k e.eval := by
  unfold sxOf at h
  split at h
  · simp only [Option.some.injEq, Prod.mk.injEq] at h; obtain ⟨rfl, rfl⟩ := h; cases hx; rfl
  · simp only [Option.some.injEq, Prod.mk.injEq] at h; obtain ⟨rfl, rfl⟩ := h; cases hx; rfl
  · cases h
theorem bxOf_ok (hdec : ∀ b v, dec b = some v → b.eval = v) {x : AV} {x' : Value} {b : Bool} (h : bxOf dec x = some b) (hx : VR φ x x') : x' = .bool b := by
  unfold bxOf at h
  split at h
  · simp only [Option.some.injEq] at h; subst h; cases hx; rfl
  · cases hx; rw [hdec _ _ h]
  · cases h

theorem eqS_ok (hdec : ∀ b v, dec b = some v → b.eval = v) {d : Nat} {t : TypeId} {u : TypeDesc} (hu : P.underlying t = some u) {x y : AV} {x' y' : Value} {b : Bool}
    (h : eqS dec u x y = some b) (hx : VR φ x x') (hy : VR φ y y') (w : World) : (Op.equalIn (d + 1) t x' y').run P w = .ok b w := by
  unfold eqS at h
  split at h
  · split at h
    · rename_i k a k' b' h1 h2
      have e1 := sxOf_ok h1 hx
      have e2 := sxOf_ok h2 hy
      subst e1; subst e2
      split at h
      · rename_i hk
        subst hk
        simp only [cond_eq_ite] at h
        split at h
        · rename_i hs
          simp only [Option.some.injEq] at h; subst h
          rw [Sx.same_eq hs]
          simp [Op.equalIn, run_und hu]
        · have := hdec _ _ h
          simp only [Bx.eval, compI] at this
          simp [Op.equalIn, run_und hu, this]
      · cases h
    · cases h
  · split at h
    · rename_i a b' h1 h2
      have e1 := bxOf_ok hdec h1 hx
      have e2 := bxOf_ok hdec h2 hy
      subst e1; subst e2
      simp only [Option.some.injEq] at h; subst h
      simp [Op.equalIn, run_und hu]
    · cases h
  · cases h

omit [Val] in
theorem szOf_cells {e : TypeId} {s : Nat} (h : szOf P e = some s) : ∃ i, P.info? e = some i ∧ P.cellsOf e = s := by
  unfold szOf at h
  split at h
  · rename_i i hi
    simp only [Option.some.injEq] at h
    refine ⟨i, hi, ?_⟩
    simp [Program.cellsOf, hi, h]
  · cases h

theorem eqEs_ok {d : Nat} {e : TypeId} {s : Nat} {xs ys : List AV} {xs' ys' : Array Value} (hx : VRL φ xs xs'.toList) (hy : VRL φ ys ys'.toList)
    (ih : ∀ (t : TypeId) (x y : AV) (x' y' : Value) (b : Bool), eqA P dec d t x y = some b → VR φ x x' → VR φ y y' → ∀ w, (Op.equalIn d t x' y').run P w = .ok b w) :
    ∀ (k i : Nat) (b : Bool), eqEs P (eqA P dec d) e s xs ys k i = some b → ∀ w, (Op.eqItems d e s xs' ys' (List.range' i k)).run P w = .ok b w := by
  intro k
  induction k with
  | zero => intro i b h w; simp only [eqEs, Option.some.injEq] at h; subst h; rfl
  | succ k ihk =>
    intro i b h w
    simp only [eqEs] at h
    split at h
    · rename_i a c ha hc
      obtain ⟨a', ra, va⟩ := partA_ok (φ := φ) ha hx
      obtain ⟨c', rc, vc⟩ := partA_ok (φ := φ) hc hy
      simp only [List.range'_succ, Op.eqItems, Sem.run_bind, ra, rc, Result.andThen_ok]
      split at h
      · rename_i he
        simp only [ih _ _ _ _ _ _ he va vc, Result.andThen_ok]
        simpa using ihk (i + 1) b h w
      · rename_i he
        simp only [Option.some.injEq] at h; subst h
        simp [ih _ _ _ _ _ _ he va vc]
      · cases h
    · cases h

set_option maxHeartbeats 2000000 in
theorem eqA_ok (hdec : ∀ b v, dec b = some v → b.eval = v) : ∀ (d : Nat) (t : TypeId) (x y : AV) (x' y' : Value) (b : Bool), eqA P dec d t x y = some b → VR φ x x' → VR φ y y' →
    ∀ w, (Op.equalIn d t x' y').run P w = .ok b w := by
  intro d
  induction d with
  | zero => intro t x y x' y' b h; simp [eqA] at h
  | succ d ih =>
    intro t x y x' y' b h hx hy w
    simp only [eqA] at h
    split at h
    · cases h
    · rename_i u hu
      simp only [cond_eq_ite] at h
      split at h
      · exact eqS_ok hdec hu h hx hy w
      rename_i hns
      split at h
      case h_13 fs xs ys =>
        split at h
        · cases h
        · rename_i hst
          cases hx with
          | agg xs' hxs =>
            cases hy with
            | agg ys' hys =>
              rw [run_equalIn_struct w d t xs' ys' (by simp [Program.fieldsOf, hu]) (by simpa using hst)]
              simp only [Program.fieldsOf, hu]
              exact eqFs_ok hxs hys ih _ _ h w
      case h_12 ms tx vx ty vy =>
        cases hx with
        | iface _ hvx =>
          cases hy with
          | iface _ hvy =>
            split at h
            · rename_i hne
              simp only [Option.some.injEq] at h; subst h
              simp [Op.equalIn, run_und hu, hne]
            · rename_i heq
              have heq : tx = ty := by simpa using heq
              subst heq
              split at h
              · rename_i i hi
                split at h
                · rename_i hc
                  simp only [Op.equalIn, Sem.run_bind, run_und hu, Result.andThen_ok]
                  simp [run_info hi, hc, ih _ _ _ _ _ _ h hvx hvy]
                · cases h
              · cases h
      case h_2 k a k' b' =>
        cases hx; cases hy
        split at h
        · rename_i hk
          simp only [Option.some.injEq] at h; subst h; subst hk
          simp [Op.equalIn, run_und hu]
        · cases h
      case h_3 a b' =>
        cases hx; cases hy
        simp only [Option.some.injEq] at h; subst h
        simp [Op.equalIn, run_und hu, str_beq]
      case h_5 e i v o _ i' v' o' _ =>
        cases hx with
        | ptr e1 p he hd hh ho =>
          cases hy with
          | ptr e2 q he' hd' hh' ho' =>
            split at h
            · rename_i m hs
              split at h
              · rename_i hb
                rw [Bool.and_eq_true] at hb
                have e1 := beq_t hb.1
                have e2 := beq_t hb.2
                subst e1; subst e2
                rw [he] at he'
                simp only [Option.some.injEq] at he'
                subst he'
                simp only [Option.some.injEq] at h
                have : (p = q) ↔ (o = o') := by omega
                rw [← h]
                have hb' : (({ block := e1.blk, off := p, spot := none } : Addr) == { block := e1.blk, off := q, spot := none }) = Nat.beq o o' := by
                  rw [Bool.eq_iff_iff]
                  simp [this]
                simp only [Op.equalIn, Sem.run_bind, run_und hu, Result.andThen_ok, run_szOf hs]
                simp [sameAddr, hb']
              · cases h
            · cases h
      case h_6 n e xs ys =>
        cases hx with
        | agg xs' hxs =>
          cases hy with
          | agg ys' hys =>
            split at h
            · rename_i s hs
              obtain ⟨i, hi, hc⟩ := szOf_cells hs
              rw [run_equalIn_array w d xs' ys' hu hi, hc, List.range_eq_range']
              exact eqEs_ok hxs hys ih _ _ _ h w
            · cases h
      all_goals (first | (cases h; done) | (simp only [Option.some.injEq] at h; subst h; cases hx; cases hy; simp [Op.equalIn, run_und hu]))

omit [Val] in
theorem eqA_known {d : Nat} {t : TypeId} {x y : AV} {b : Bool} (h : eqA P dec d t x y = some b) (hs : (isSym x || isSym y) = false) :
    x ≠ .unk ∧ y ≠ .unk ∧ x ≠ .anyp ∧ y ≠ .anyp ∧ (∀ e, x ≠ .sslc e) ∧ (∀ e, y ≠ .sslc e) ∧ (∀ e, x ≠ .sstr e) ∧ (∀ e, y ≠ .sstr e) := by
  cases d with
  | zero => simp [eqA] at h
  | succ d =>
    simp only [eqA] at h
    split at h
    · cases h
    · simp only [hs, cond_false] at h
      refine ⟨?_, ?_, ?_, ?_, fun e => ?_, fun e => ?_, fun e => ?_, fun e => ?_⟩ <;> (rintro rfl; split at h <;> simp_all)

omit [Val] in
theorem bytesLt_eq : ∀ (a b : List UInt8), bytesLt a b = Op.bytesLess a b := by
  intro a
  induction a with
  | nil => intro b; cases b <;> simp [bytesLt, Op.bytesLess]
  | cons x a ih => intro b; cases b <;> simp [bytesLt, Op.bytesLess, ih]

theorem symOp_ok {op : BinOp} {t : TypeId} {x y v : AV} {x' y' : Value} (h : symOp op x y = some v) (hx : VR φ x x') (hy : VR φ y y') :
    ∃ v', (∀ w, (binOp op t x' y').run P w = .ok v' w) ∧ VR φ v v' := by
  unfold symOp at h
  split at h
  · rename_i k a k' b h1 h2
    have e1 := sxOf_ok h1 hx
    have e2 := sxOf_ok h2 hy
    subst e1; subst e2
    unfold symBin at h
    split at h
    · split at h
      · rename_i n
        simp only [Option.some.injEq] at h; subst h
        refine ⟨_, fun w => ?_, .sym _ _⟩
        have hb : ¬ ((n : Int) < 0) := by omega
        simp [binOp, Op.shift, Sx.eval, arithI, wrapI_eq, hb]
      · cases h
    · split at h
      · rename_i n
        simp only [Option.some.injEq] at h; subst h
        refine ⟨_, fun w => ?_, .sym _ _⟩
        have hb : ¬ ((n : Int) < 0) := by omega
        simp [binOp, Op.shift, Sx.eval, arithI, hb]
      · cases h
    · rename_i g1 g2
      split at h
      · cases h
      · rename_i hk
        have hk : k = k' := by simpa using hk
        subst hk
        split at h
        · split at h
          · rename_i n
            split at h
            · cases h
            · rename_i hn
              simp only [Option.some.injEq] at h; subst h
              refine ⟨_, fun w => ?_, .sym _ _⟩
              simp [binOp, Op.intDiv, Sx.eval, arithI, hn, wrapI_eq]
          · cases h
        · split at h
          · rename_i n
            split at h
            · cases h
            · rename_i hn
              simp only [Option.some.injEq] at h; subst h
              refine ⟨_, fun w => ?_, .sym _ _⟩
              simp [binOp, Op.intDiv, Sx.eval, arithI, hn]
          · cases h
        · simp only [Option.some.injEq] at h; subst h; refine ⟨_, fun w => ?_, .sym _ _⟩; simp [binOp, Op.intArith, Sx.eval, arithI, wrapI_eq]
        · simp only [Option.some.injEq] at h; subst h; refine ⟨_, fun w => ?_, .sym _ _⟩; simp [binOp, Op.intArith, Sx.eval, arithI, wrapI_eq]
        · simp only [Option.some.injEq] at h; subst h; refine ⟨_, fun w => ?_, .sym _ _⟩; simp [binOp, Op.intArith, Sx.eval, arithI, wrapI_eq]
        · simp only [Option.some.injEq] at h; subst h; refine ⟨_, fun w => ?_, .sym _ _⟩; simp [binOp, Op.intBits, Sx.eval, arithI, bitsA, wrapI_eq]
        · simp only [Option.some.injEq] at h; subst h; refine ⟨_, fun w => ?_, .sym _ _⟩; simp [binOp, Op.intBits, Sx.eval, arithI, bitsA, wrapI_eq]
        · simp only [Option.some.injEq] at h; subst h; refine ⟨_, fun w => ?_, .sym _ _⟩; simp [binOp, Op.intBits, Sx.eval, arithI, bitsA, wrapI_eq]
        · simp only [Option.some.injEq] at h; subst h; refine ⟨_, fun w => ?_, .sym _ _⟩; simp [binOp, Op.intBits, Sx.eval, arithI, bitsA, wrapI_eq]
        · simp only [Option.some.injEq, cond_eq_ite] at h
          split at h
          · rename_i hs
            subst h
            rw [Sx.same_eq hs]
            exact ⟨_, fun w => by simp [binOp, Op.intCmp], .bool _⟩
          · subst h
            refine ⟨_, fun w => ?_, .symb _⟩
            simp [binOp, Op.intCmp, Bx.eval, compI]
        · simp only [Option.some.injEq, cond_eq_ite] at h
          split at h
          · rename_i hs
            subst h
            rw [Sx.same_eq hs]
            exact ⟨_, fun w => by simp [binOp, Op.intCmp], .bool _⟩
          · subst h
            refine ⟨_, fun w => ?_, .symb _⟩
            simp [binOp, Op.intCmp, Bx.eval, compI]
        · simp only [Option.some.injEq] at h; subst h; refine ⟨_, fun w => ?_, .symb _⟩; simp [binOp, Op.intCmp, Bx.eval, compI]
        · simp only [Option.some.injEq] at h; subst h; refine ⟨_, fun w => ?_, .symb _⟩; simp [binOp, Op.intCmp, Bx.eval, compI]
        · simp only [Option.some.injEq] at h; subst h; refine ⟨_, fun w => ?_, .symb _⟩; simp [binOp, Op.intCmp, Bx.eval, compI]
        · simp only [Option.some.injEq] at h; subst h; refine ⟨_, fun w => ?_, .symb _⟩; simp [binOp, Op.intCmp, Bx.eval, compI]
        · cases h
  · cases h

theorem binA_ok (hdec : ∀ b v, dec b = some v → b.eval = v) {op : BinOp} {t : TypeId} {x y v : AV} {x' y' : Value} (h : binA P dec op t x y = some v) (hx : VR φ x x') (hy : VR φ y y') :
    ∃ v', (∀ w, (binOp op t x' y').run P w = .ok v' w) ∧ VR φ v v' := by
  unfold binA at h
  simp only [cond_eq_ite] at h
  split at h
  · exact symOp_ok h hx hy
  rename_i hsy
  replace hsy : (isSym x || isSym y) = false := Bool.not_eq_true _ ▸ hsy
  split at h
  · rename_i k a k' b
    cases hx; cases hy
    split at h
    · simp only [decide_eq_true_eq] at h
      split at h
      · cases h
      · rename_i hb
        simp only [Option.some.injEq] at h; subst h
        refine ⟨_, fun w => ?_, .int _ _⟩
        simp [binOp, Op.shift, hb, wrapI_eq]
    · simp only [decide_eq_true_eq] at h
      split at h
      · cases h
      · rename_i hb
        simp only [Option.some.injEq] at h; subst h
        refine ⟨_, fun w => ?_, .int _ _⟩
        simp [binOp, Op.shift, hb]
    · rename_i h1 h2
      split at h
      · cases h
      · rename_i hk
        have hk : k = k' := by simpa using hk
        subst hk
        cases op <;> simp only [] at h <;> first
          | exact absurd rfl h1
          | exact absurd rfl h2
          | (simp only [Option.some.injEq] at h; subst h; refine ⟨_, fun w => ?_, .int _ _⟩; simp [binOp, Op.intArith, wrapI_eq]; done)
          | (simp only [Option.some.injEq] at h; subst h; refine ⟨_, fun w => ?_, .int _ _⟩; simp [binOp, Op.intBits, bitsA, wrapI_eq]; done)
          | (simp only [Option.some.injEq] at h; subst h; refine ⟨_, fun w => ?_, .bool _⟩; simp [binOp, Op.intCmp]; done)
          | (by_cases hb : b = 0 <;> simp only [hb, if_true, if_false, reduceCtorEq] at h; simp only [Option.some.injEq] at h; subst h; refine ⟨_, fun w => ?_, .int _ _⟩; simp [binOp, Op.intDiv, hb, wrapI_eq])
  · rename_i a b
    cases hx; cases hy
    split at h
    · split at h
      · rename_i hl
        have hl := ble_t hl
        simp only [Option.some.injEq] at h; subst h
        refine ⟨.string ⟨⟨a ++ b⟩⟩, fun w => ?_, .str _⟩
        have h1 : ¬ (((a.length + b.length : Nat) : Int) > IntKind.i64.max) := by simp [IntKind.max, IntKind.bits, IntKind.signed]; omega
        have h2 : (⟨⟨a⟩⟩ : ByteArray) ++ ⟨⟨b⟩⟩ = ⟨⟨a ++ b⟩⟩ := by
          apply ByteArray.ext
          simp
        have h3 : (⟨⟨a⟩⟩ : ByteArray).size = a.length := rfl
        have h4 : (⟨⟨b⟩⟩ : ByteArray).size = b.length := rfl
        simp only [binOp, Op.stringOp, h3, h4, if_neg h1, h2]
        rfl
      · cases h
    all_goals first
      | (cases h; done)
      | (simp only [Option.some.injEq] at h; subst h; refine ⟨_, fun w => ?_, .bool _⟩; simp [binOp, Op.stringOp, ByteArray.toList_eq, bytesLt_eq]; done)
  · rename_i hn1 hn2
    split at h
    · split at h
      · rename_i b he
        simp only [Option.some.injEq] at h; subst h
        refine ⟨.bool b, fun w => ?_, .bool _⟩
        have := eqA_ok hdec _ _ _ _ _ _ _ he hx hy w
        obtain ⟨u1, u2, u3, u4, u5, u6, u7, u8⟩ := eqA_known he hsy
        cases hx <;> cases hy <;> first
          | exact absurd rfl u1
          | exact absurd rfl u2
          | exact absurd rfl u3
          | exact absurd rfl u4
          | exact absurd rfl (u5 _)
          | exact absurd rfl (u6 _)
          | exact absurd rfl (u7 _)
          | exact absurd rfl (u8 _)
          | (simp [isSym] at hsy; done)
          | exact absurd rfl (hn1 _ _ _ _ · rfl)
          | (simp [binOp, Op.equal, Op.maxDepth, this]; done)
          | (exfalso; exact hn1 _ _ _ _ rfl rfl)
          | (exfalso; exact hn2 _ _ rfl rfl)
      · cases h
    · split at h
      · rename_i b he
        simp only [Option.some.injEq] at h; subst h
        refine ⟨.bool (!b), fun w => ?_, .bool _⟩
        have := eqA_ok hdec _ _ _ _ _ _ _ he hx hy w
        obtain ⟨u1, u2, u3, u4, u5, u6, u7, u8⟩ := eqA_known he hsy
        cases hx <;> cases hy <;> first
          | exact absurd rfl u1
          | exact absurd rfl u2
          | exact absurd rfl u3
          | exact absurd rfl u4
          | exact absurd rfl (u5 _)
          | exact absurd rfl (u6 _)
          | exact absurd rfl (u7 _)
          | exact absurd rfl (u8 _)
          | (simp [isSym] at hsy; done)
          | (simp [binOp, Op.equal, Op.maxDepth, this]; done)
          | (exfalso; exact hn1 _ _ _ _ rfl rfl)
          | (exfalso; exact hn2 _ _ rfl rfl)
      · cases h
    · cases h

theorem eqG_ok {op : BinOp} {t : TypeId} {x y : Operand} {a b : AV} {a' b' : Value} (hop : op = .eql ∨ op = .neq) (h : eqG P t x y a b = true) (ha : VR φ a a') (hb : VR φ b b') (w : World) :
    (eqGuard op t x y a' b').run P w = .ok () w := by
  unfold eqG at h
  split at h
  · cases ha; cases hb
    by_cases hc : (Region.isConst x || Region.isConst y) = true
    · rcases hop with rfl | rfl <;> cases x <;> cases y <;> simp_all [eqGuard, Region.isConst]
    · rw [Bool.not_eq_true] at hc
      rw [hc, Bool.false_or] at h
      split at h
      · rename_i ms hu
        have hd : ∀ d, (Op.eqGuardIn (d + 1) t .nilIface .nilIface).run P w = .ok false w := fun d => by simp [Op.eqGuardIn, run_und hu, h]
        have he : (Op.eqGuardIn Op.maxDepth t .nilIface .nilIface).run P w = .ok false w := hd 9999
        clear hd
        rcases hop with rfl | rfl <;> cases x <;> cases y <;> simp_all [eqGuard, Region.isConst]
      · cases h
  · cases h
  · cases h
  · cases ha; cases hb
    rcases hop with rfl | rfl <;> simp_all [eqGuard]
  · rename_i hn1 hn3 hn4 hn2
    rcases hop with rfl | rfl <;> cases ha <;> cases hb <;> first
      | (simp [eqGuard]; done)
      | (exfalso; exact hn1 rfl rfl)
      | (exfalso; exact hn2 _ _ rfl rfl)
      | (exfalso; exact hn3 rfl)
      | (exfalso; exact hn4 rfl)
      | (exfalso; exact hn4 rfl rfl)
      | (exfalso; exact hn1 rfl)
theorem eqGuardA_ok {op : BinOp} {t : TypeId} {x y : Operand} {a b : AV} {a' b' : Value} (h : eqGuardA P op t x y a b = true) (ha : VR φ a a') (hb : VR φ b b') (w : World) :
    (eqGuard op t x y a' b').run P w = .ok () w := by
  unfold eqGuardA at h
  split at h
  · exact eqG_ok (.inl rfl) h ha hb w
  · exact eqG_ok (.inr rfl) h ha hb w
  · cases op <;> simp_all [eqGuard]

theorem unA_ok {op : UnOp} {x v : AV} {x' : Value} (h : unA op x = some v) (hx : VR φ x x') :
    ∃ v', (∀ w, (Op.unary op x').run P w = .ok v' w) ∧ VR φ v v' := by
  unfold unA at h
  split at h
  · cases hx; simp only [Option.some.injEq] at h; subst h
    exact ⟨_, fun w => by simp [Op.unary, Op.intArith, wrapI_eq], .int _ _⟩
  · cases hx; simp only [Option.some.injEq] at h; subst h
    exact ⟨_, fun w => by simp [Op.unary, Op.intBits, bitsA, wrapI_eq], .int _ _⟩
  · cases hx; simp only [Option.some.injEq] at h; subst h
    exact ⟨_, fun w => by simp [Op.unary], .bool _⟩
  · cases hx; simp only [Option.some.injEq] at h; subst h
    exact ⟨_, fun w => by simp [Op.unary, Op.intArith, Sx.eval, arithI, wrapI_eq], .sym _ _⟩
  · cases hx; simp only [Option.some.injEq] at h; subst h
    exact ⟨_, fun w => by simp [Op.unary, Op.intBits, Sx.eval, arithI, bitsA, wrapI_eq], .sym _ _⟩
  · cases hx; simp only [Option.some.injEq] at h; subst h
    exact ⟨_, fun w => by simp [Op.unary, Bx.eval], .symb _⟩
  · cases h
end
end Go.Tw
