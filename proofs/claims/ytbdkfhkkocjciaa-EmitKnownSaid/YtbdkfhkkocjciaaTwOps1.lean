/-
  A part of the proof that the abstract evaluator is sound for the model's machine. Conditions: those of each theorem, as it states them.
-/
import Derived.Test.YtbdkfhkkocjciaaTwPrim
import Derived.Laws.StructEq
namespace Go.Tw
section
variable {P : Program} {φ : PM} {w : World}

theorem run_und {t : TypeId} {d : TypeDesc} (h : P.underlying t = some d) (w : World) : (underlying t).run P w = .ok d w := run_underlying h w
theorem run_szOf {t : TypeId} {n : Nat} (h : szOf P t = some n) (w : World) : (sizeOf t).run P w = .ok n w := by
  unfold szOf at h
  split at h
  · rename_i i hi
    simp only [Option.some.injEq] at h; subst h
    simp [sizeOf, typeInfo, hi]
  · cases h
theorem run_byOf {t : TypeId} {n : Nat} (h : byOf P t = some n) : ∃ i, (∀ w, (typeInfo t).run P w = .ok i w) ∧ i.bytes = n := by
  unfold byOf at h
  split at h
  · rename_i i hi
    simp only [Option.some.injEq] at h; subst h
    exact ⟨i, fun w => by simp [typeInfo, hi], rfl⟩
  · cases h
theorem run_info {t : TypeId} {i : TypeInfo} (h : P.info? t = some i) (w : World) : (typeInfo t).run P w = .ok i w := by simp [typeInfo, h]
theorem run_zero {t : TypeId} {z : AV} (h : zeroOf P t = some z) : ∃ v, (∀ w, (zeroValue t).run P w = .ok v w) ∧ ∀ φ, VR φ z v := by
  unfold zeroOf at h
  split at h
  · rename_i i hi
    split at h
    · rename_i v hv
      exact ⟨v, fun w => by simp [zeroValue, typeInfo, hi, hv], fun φ => absV_ok _ _ _ h⟩
    · cases h
  · cases h
theorem run_aggT {t : TypeId} {b : Bool} (h : aggT P t = some b) (w : World) : (isAgg t).run P w = .ok b w := by
  unfold aggT at h
  split at h
  · rename_i hu; simp only [Option.some.injEq] at h; subst h; simp [isAgg, run_und hu]
  · rename_i hu; simp only [Option.some.injEq] at h; subst h; simp [isAgg, run_und hu]
  · rename_i d hn1 hn2 hu
    simp only [Option.some.injEq] at h; subst h
    simp only [isAgg, Sem.run_bind, run_und hu, Result.andThen_ok]
    cases d <;> first
      | rfl
      | exact (hn1 _ rfl).elim
      | exact (hn2 _ _ rfl).elim
  · cases h

theorem cut_ok {l r : List AV} {off n : Nat} (h : cut l off n = some r) : r = (l.drop off).take n ∧ r.length = n := by
  unfold cut at h
  simp only [cond_eq_ite] at h
  split at h
  · rename_i hb
    simp only [Option.some.injEq] at h
    exact ⟨h.symm, by rw [← h]; exact beq_t hb⟩
  · cases h

theorem wrapI_eq (k : IntKind) (n : Int) : wrapI k n = k.wrap n := by
  cases n with
  | ofNat m =>
    simp only [wrapI, cond_eq_ite]
    split
    · rename_i h
      have h := ble_t h
      cases k <;> simp only [maxN] at h <;> simp [IntKind.wrap, IntKind.bits, IntKind.signed] <;> omega
    · rfl
  | negSucc m =>
    simp only [wrapI, cond_eq_ite, Bool.and_eq_true]
    split
    · rename_i h
      have h2 := ble_t h.2
      have h1 := h.1
      obtain ⟨n, hn⟩ : ∃ n : Int, n = Int.negSucc m := ⟨_, rfl⟩
      have hn' : n = -(m : Int) - 1 := by omega
      rw [← hn]
      clear hn h
      cases k <;> simp only [maxN] at h2 <;> simp [IntKind.signed] at h1 <;> simp [IntKind.wrap, IntKind.bits, IntKind.signed] <;> omega
    · rfl

theorem partA_ok {t : TypeId} {cs : List AV} {cs' : Array Value} {off : Nat} {v : AV} (h : partA P t cs off = some v) (hc : VRL φ cs cs'.toList) :
    ∃ v', (∀ w, (part t cs' off).run P w = .ok v' w) ∧ VR φ v v' := by
  unfold partA at h
  split at h
  · rename_i n ha hs
    split at h
    · rename_i l hl
      simp only [Option.some.injEq] at h; subst h
      obtain ⟨rfl, _⟩ := cut_ok hl
      refine ⟨.agg (cs'.extract off (off + n)), fun w => by simp [part, run_aggT ha, run_szOf hs], .agg _ ?_⟩
      have := (hc.drop off).take n
      simpa [Array.toList_extract, List.take_drop] using this
    · cases h
  · rename_i ha
    obtain ⟨v', h1, h2⟩ := hc.get h
    refine ⟨v', fun w => ?_, h2⟩
    have h1 : cs'[off]? = some v' := by simpa using h1
    simp [part, run_aggT ha, h1]
  · cases h

theorem eqFs_ok {d : Nat} {xs ys : List AV} {xs' ys' : Array Value} (hx : VRL φ xs xs'.toList) (hy : VRL φ ys ys'.toList)
    (ih : ∀ (t : TypeId) (x y : AV) (x' y' : Value) (b : Bool), eqA P d t x y = some b → VR φ x x' → VR φ y y' → ∀ w, (Op.equalIn d t x' y').run P w = .ok b w) :
    ∀ (fs : List Field) (b : Bool), eqFs P (eqA P d) xs ys fs = some b → ∀ w, (Op.eqFields d xs' ys' fs).run P w = .ok b w := by
  intro fs
  induction fs with
  | nil => intro b h w; simp only [eqFs, Option.some.injEq] at h; subst h; rfl
  | cons f fs ihf =>
    intro b h w
    simp only [eqFs] at h
    simp only [Op.eqFields, Sem.run_ite]
    split at h
    · rename_i hn
      rw [if_pos hn]
      split at h
      · rename_i a c ha hc
        obtain ⟨a', ra, va⟩ := partA_ok (φ := φ) ha hx
        obtain ⟨c', rc, vc⟩ := partA_ok (φ := φ) hc hy
        simp only [Sem.run_bind, ra, rc, Result.andThen_ok]
        split at h
        · rename_i he
          simp only [ih _ _ _ _ _ _ he va vc, Result.andThen_ok]
          simpa using ihf b h w
        · rename_i he
          simp only [Option.some.injEq] at h; subst h
          simp [ih _ _ _ _ _ _ he va vc]
        · cases h
      · cases h
    · rename_i hn
      rw [if_neg hn]
      exact ihf b h w

theorem str_beq (a b : List UInt8) : ((⟨⟨a⟩⟩ : ByteArray) == ⟨⟨b⟩⟩) = (a == b) := by
  rw [beq_toListBytes, ByteArray.toList_eq, ByteArray.toList_eq]

theorem eqA_ok : ∀ (d : Nat) (t : TypeId) (x y : AV) (x' y' : Value) (b : Bool), eqA P d t x y = some b → VR φ x x' → VR φ y y' → ∀ w, (Op.equalIn d t x' y').run P w = .ok b w := by
  intro d
  induction d with
  | zero => intro t x y x' y' b h; simp [eqA] at h
  | succ d ih =>
    intro t x y x' y' b h hx hy w
    simp only [eqA] at h
    split at h
    · cases h
    · rename_i u hu
      split at h
      case h_11 fs xs ys =>
        simp only [cond_eq_ite] at h
        split at h
        · cases h
        · rename_i hst
          cases hx with
          | agg xs' hxs =>
            cases hy with
            | agg ys' hys =>
              rw [run_equalIn_struct w d t xs' ys' (by simp [Program.fieldsOf, hu]) (by simpa using hst)]
              simp only [Program.fieldsOf, hu]
              exact eqFs_ok hxs hys ih _ _ h w
      case h_10 ms tx vx ty vy =>
        cases hx with
        | iface _ hvx =>
          cases hy with
          | iface _ hvy =>
            split at h
            · rename_i hne
              simp only [Option.some.injEq] at h; subst h
              simp [Op.equalIn, run_und hu, hne]
            · rename_i heq
              have heq : tx = ty := by simpa using heq
              subst heq
              split at h
              · rename_i i hi
                simp only [cond_eq_ite] at h
                split at h
                · rename_i hc
                  simp only [Op.equalIn, Sem.run_bind, run_und hu, Result.andThen_ok]
                  simp [run_info hi, hc, ih _ _ _ _ _ _ h hvx hvy]
                · cases h
              · cases h
      case h_2 k a k' b' =>
        cases hx; cases hy
        split at h
        · rename_i hk
          simp only [Option.some.injEq] at h; subst h; subst hk
          simp [Op.equalIn, run_und hu]
        · cases h
      case h_3 a b' =>
        cases hx; cases hy
        simp only [Option.some.injEq] at h; subst h
        simp [Op.equalIn, run_und hu, str_beq]
      all_goals (first | (cases h; done) | (simp only [Option.some.injEq] at h; subst h; cases hx; cases hy; simp [Op.equalIn, run_und hu]))

theorem bytesLt_eq : ∀ (a b : List UInt8), bytesLt a b = Op.bytesLess a b := by
  intro a
  induction a with
  | nil => intro b; cases b <;> simp [bytesLt, Op.bytesLess]
  | cons x a ih => intro b; cases b <;> simp [bytesLt, Op.bytesLess, ih]

theorem binA_ok {op : BinOp} {t : TypeId} {x y v : AV} {x' y' : Value} (h : binA P op t x y = some v) (hx : VR φ x x') (hy : VR φ y y') :
    ∃ v', (∀ w, (binOp op t x' y').run P w = .ok v' w) ∧ VR φ v v' := by
  unfold binA at h
  split at h
  · rename_i k a k' b
    cases hx; cases hy
    split at h
    · simp only [cond_eq_ite, decide_eq_true_eq] at h
      split at h
      · cases h
      · rename_i hb
        simp only [Option.some.injEq] at h; subst h
        refine ⟨_, fun w => ?_, .int _ _⟩
        simp [binOp, Op.shift, hb, wrapI_eq]
    · simp only [cond_eq_ite, decide_eq_true_eq] at h
      split at h
      · cases h
      · rename_i hb
        simp only [Option.some.injEq] at h; subst h
        refine ⟨_, fun w => ?_, .int _ _⟩
        simp [binOp, Op.shift, hb]
    · rename_i h1 h2
      split at h
      · cases h
      · rename_i hk
        have hk : k = k' := by simpa using hk
        subst hk
        cases op <;> simp only [] at h <;> first
          | exact absurd rfl h1
          | exact absurd rfl h2
          | (simp only [Option.some.injEq] at h; subst h; refine ⟨_, fun w => ?_, .int _ _⟩; simp [binOp, Op.intArith, wrapI_eq]; done)
          | (simp only [Option.some.injEq] at h; subst h; refine ⟨_, fun w => ?_, .int _ _⟩; simp [binOp, Op.intBits, bitsA, wrapI_eq]; done)
          | (simp only [Option.some.injEq] at h; subst h; refine ⟨_, fun w => ?_, .bool _⟩; simp [binOp, Op.intCmp]; done)
          | (by_cases hb : b = 0 <;> simp only [hb, if_true, if_false, reduceCtorEq] at h; simp only [Option.some.injEq] at h; subst h; refine ⟨_, fun w => ?_, .int _ _⟩; simp [binOp, Op.intDiv, hb, wrapI_eq])
  · rename_i a b
    cases hx; cases hy
    split at h
    · simp only [cond_eq_ite] at h
      split at h
      · rename_i hl
        have hl := ble_t hl
        simp only [Option.some.injEq] at h; subst h
        refine ⟨.string ⟨⟨a ++ b⟩⟩, fun w => ?_, .str _⟩
        have h1 : ¬ (((a.length + b.length : Nat) : Int) > IntKind.i64.max) := by simp [IntKind.max, IntKind.bits, IntKind.signed]; omega
        have h2 : (⟨⟨a⟩⟩ : ByteArray) ++ ⟨⟨b⟩⟩ = ⟨⟨a ++ b⟩⟩ := by
          apply ByteArray.ext
          simp
        have h3 : (⟨⟨a⟩⟩ : ByteArray).size = a.length := rfl
        have h4 : (⟨⟨b⟩⟩ : ByteArray).size = b.length := rfl
        simp only [binOp, Op.stringOp, h3, h4, if_neg h1, h2]
        rfl
      · cases h
    all_goals first
      | (cases h; done)
      | (simp only [Option.some.injEq] at h; subst h; refine ⟨_, fun w => ?_, .bool _⟩; simp [binOp, Op.stringOp, ByteArray.toList_eq, bytesLt_eq]; done)
  · rename_i hn1 hn2
    split at h
    · split at h
      · rename_i b he
        simp only [Option.some.injEq] at h; subst h
        refine ⟨.bool b, fun w => ?_, .bool _⟩
        have := eqA_ok _ _ _ _ _ _ _ he hx hy w
        cases hx <;> cases hy <;> first
          | exact absurd rfl (hn1 _ _ _ _ · rfl)
          | (simp [binOp, Op.equal, Op.maxDepth, this]; done)
          | (exfalso; exact hn1 _ _ _ _ rfl rfl)
          | (exfalso; exact hn2 _ _ rfl rfl)
      · cases h
    · split at h
      · rename_i b he
        simp only [Option.some.injEq] at h; subst h
        refine ⟨.bool (!b), fun w => ?_, .bool _⟩
        have := eqA_ok _ _ _ _ _ _ _ he hx hy w
        cases hx <;> cases hy <;> first
          | (simp [binOp, Op.equal, Op.maxDepth, this]; done)
          | (exfalso; exact hn1 _ _ _ _ rfl rfl)
          | (exfalso; exact hn2 _ _ rfl rfl)
      · cases h
    · cases h

theorem eqG_ok {op : BinOp} {t : TypeId} {x y : Operand} {a b : AV} {a' b' : Value} (hop : op = .eql ∨ op = .neq) (h : eqG P t x y a b = true) (ha : VR φ a a') (hb : VR φ b b') (w : World) :
    (eqGuard op t x y a' b').run P w = .ok () w := by
  unfold eqG at h
  split at h
  · cases ha; cases hb
    rcases hop with rfl | rfl <;> cases x <;> cases y <;> simp_all [eqGuard, Region.isConst]
  · cases ha; cases hb
    rcases hop with rfl | rfl <;> simp_all [eqGuard]
  · rename_i hn1 hn2
    rcases hop with rfl | rfl <;> cases ha <;> cases hb <;> first
      | (simp [eqGuard]; done)
      | (exfalso; exact hn1 rfl rfl)
      | (exfalso; exact hn2 _ _ rfl rfl)
theorem eqGuardA_ok {op : BinOp} {t : TypeId} {x y : Operand} {a b : AV} {a' b' : Value} (h : eqGuardA P op t x y a b = true) (ha : VR φ a a') (hb : VR φ b b') (w : World) :
    (eqGuard op t x y a' b').run P w = .ok () w := by
  unfold eqGuardA at h
  split at h
  · exact eqG_ok (.inl rfl) h ha hb w
  · exact eqG_ok (.inr rfl) h ha hb w
  · cases op <;> simp_all [eqGuard]

theorem unA_ok {op : UnOp} {x v : AV} {x' : Value} (h : unA op x = some v) (hx : VR φ x x') :
    ∃ v', (∀ w, (Op.unary op x').run P w = .ok v' w) ∧ VR φ v v' := by
  unfold unA at h
  split at h
  · cases hx; simp only [Option.some.injEq] at h; subst h
    exact ⟨_, fun w => by simp [Op.unary, Op.intArith, wrapI_eq], .int _ _⟩
  · cases hx; simp only [Option.some.injEq] at h; subst h
    exact ⟨_, fun w => by simp [Op.unary, Op.intBits, bitsA, wrapI_eq], .int _ _⟩
  · cases hx; simp only [Option.some.injEq] at h; subst h
    exact ⟨_, fun w => by simp [Op.unary], .bool _⟩
  · cases h
end
end Go.Tw
