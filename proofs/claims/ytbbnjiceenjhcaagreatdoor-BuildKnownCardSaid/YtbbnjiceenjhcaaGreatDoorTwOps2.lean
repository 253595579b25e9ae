/-
  A part of the proof that the abstract evaluator is sound for the model's machine. Conditions: those of each theorem, as it states them.
-/
import Derived.Test.YtbbnjiceenjhcaaGreatDoorTwOps1
set_option linter.all false
namespace Go.Tw
section
variable [Val]
variable {P : Program} {R : Nat} {C : Cfg} {D : Nat → Prop} {φ : PM} {σ : St} {w : World}

/-- A function's temporaries. -/
structure EnvR (φ : PM) (nt : Nat) (env : Env) (a : Act) : Prop where
  size : a.tmps.size = nt
  val : ∀ t v, env.tm.get t = some v → ∃ v', a.tmps[t]? = some v' ∧ VR φ v v'

theorem EnvR.mono {φ ψ : PM} {nt : Nat} {env : Env} {a : Act} (h : EnvR φ nt env a) (k : φ.le ψ) : EnvR ψ nt env a :=
  ⟨h.size, fun t v hv => let ⟨v', h1, h2⟩ := h.val t v hv; ⟨v', h1, h2.mono k⟩⟩

theorem res_ok (hp : ∀ e n, C.pin e = some n → e.eval = n) (hd : ∀ b v, C.dec b = some v → b.eval = v) {v : AV} {v' : Value} (h : VR φ v v') : VR φ (C.res v) v' := by
  unfold Cfg.res
  split
  · split
    · rename_i hq
      cases h
      rw [hp _ _ hq]
      exact .int _ _
    · exact h
  · split
    · rename_i hq
      cases h
      rw [hd _ _ hq]
      exact .bool _
    · exact h
  · exact h

theorem evalO_ok {nt : Nat} {env : Env} {a : Act} (he : EnvR φ nt env a) (hi : Inv R C D φ σ w) {x : Operand} {v : AV} (h : evalO C env x = some v) : VR φ v (a.eval x) := by
  cases x with
  | tmp t =>
    simp only [evalO] at h
    split at h
    · rename_i u hu
      simp only [Option.some.injEq] at h; subst h
      obtain ⟨v', h1, h2⟩ := he.val t u hu
      simpa [Act.eval, h1] using res_ok hi.pin hi.dec h2
    · cases h
  | const c => exact absV_ok _ _ _ h
  | global g =>
    simp only [evalO] at h
    split at h
    · rename_i n hn
      simp only [Option.some.injEq] at h; subst h
      obtain ⟨e, h1, h2, h3, h4, h5⟩ := hi.gl g n hn
      have := VR.ptr (φ := φ) (id := g) (ver := 0) (off := 0) (hi := n) e 0 h1 (by omega) h5 (by omega)
      rw [h2] at this
      exact this
    · cases h
  | func f =>
    simp only [evalO, Option.some.injEq] at h; subst h
    exact .fn _ _ _ .nil .nil

theorem evalL_ok {nt : Nat} {env : Env} {a : Act} (he : EnvR φ nt env a) (hi : Inv R C D φ σ w) : ∀ {l : List Operand} {r : List AV}, evalL C env l = some r → VRL φ r (l.map a.eval) := by
  intro l
  induction l with
  | nil => intro r h; simp only [evalL, Option.some.injEq] at h; subst h; exact .nil
  | cons x l ih =>
    intro r h
    simp only [evalL] at h
    split at h
    · rename_i v hv
      split at h
      · rename_i r' hr
        simp only [Option.some.injEq] at h; subst h
        exact .cons (evalO_ok he hi hv) (ih hr)
      · cases h
    · cases h

/-- Options of values. -/
def VRO (φ : PM) : Option AV → Option Value → Prop
  | none, none => True
  | some v, some v' => VR φ v v'
  | _, _ => False

theorem evalOpt_ok {nt : Nat} {env : Env} {a : Act} (he : EnvR φ nt env a) (hi : Inv R C D φ σ w) {x : Option Operand} {r : Option AV} (h : evalOpt C env x = some r) : VRO φ r (x.map a.eval) := by
  cases x with
  | none => simp only [evalOpt, Option.some.injEq] at h; subst h; trivial
  | some x =>
    simp only [evalOpt] at h
    split at h
    · rename_i v hv
      simp only [Option.some.injEq] at h; subst h
      exact evalO_ok he hi hv
    · cases h

/-- Parts of a composite. -/
inductive PR (φ : PM) : List (Nat × AV) → List (Nat × Value) → Prop
  | nil : PR φ [] []
  | cons {i : Nat} {v : AV} {v' : Value} {l : List (Nat × AV)} {l' : List (Nat × Value)} (h : VR φ v v') (t : PR φ l l') : PR φ ((i, v) :: l) ((i, v') :: l')

theorem evalParts_ok {nt : Nat} {env : Env} {a : Act} (he : EnvR φ nt env a) (hi : Inv R C D φ σ w) : ∀ {l : List (Nat × Operand)} {r : List (Nat × AV)}, evalParts C env l = some r →
    PR φ r (l.map fun p => (p.1, a.eval p.2)) := by
  intro l
  induction l with
  | nil => intro r h; simp only [evalParts, Option.some.injEq] at h; subst h; exact .nil
  | cons x l ih =>
    intro r h
    obtain ⟨i, x⟩ := x
    simp only [evalParts] at h
    split at h
    · rename_i v hv
      split at h
      · rename_i r' hr
        simp only [Option.some.injEq] at h; subst h
        exact .cons (evalO_ok he hi hv) (ih hr)
      · cases h
    · cases h

omit [Val] in
theorem foldl_set (vs : List Value) : ∀ (k off : Nat) (cs : Array Value), off + k + vs.length ≤ cs.size →
    ((vs.zipIdx k).foldl (fun cs (c, j) => cs.setIfInBounds (off + j) c) cs) = (cs.toList.take (off + k) ++ vs ++ cs.toList.drop (off + k + vs.length)).toArray := by
  induction vs with
  | nil => intro k off cs _; simp
  | cons v vs ih =>
    intro k off cs h
    simp only [List.zipIdx_cons, List.foldl_cons]
    rw [ih (k + 1) off (cs.setIfInBounds (off + k) v) (by simp at h ⊢; omega)]
    congr 1
    have hk : off + k < cs.toList.length := by simp at h ⊢; omega
    simp only [Array.toList_setIfInBounds, List.length_cons]
    rw [show off + (k + 1) = off + k + 1 by omega, List.take_set, List.drop_set_of_lt (by omega)]
    rw [List.take_succ_eq_append_getElem hk, List.set_append_right _ _ (by simp; omega)]
    have e1 : (cs.toList.take (off + k)).length = off + k := by simp at hk ⊢; omega
    rw [e1, Nat.sub_self, show off + k + 1 + vs.length = off + k + (vs.length + 1) by omega]
    simp

theorem VRL.splice {l vs : List AV} {l' vs' : List Value} (h : VRL φ l l') (k : VRL φ vs vs') (off : Nat) :
    VRL φ (splice l off vs) (l'.take off ++ vs' ++ l'.drop (off + vs'.length)) := by
  rw [splice_eq, k.length]
  exact ((h.take off).append k).append (h.drop _)

omit [Val] in
theorem splice_length {α : Type} {l vs : List α} {off : Nat} (h : off + vs.length ≤ l.length) : (splice l off vs).length = l.length := by
  simp [splice_eq]; omega

theorem fillA_ok {place : Nat → Option (Nat × Nat)} : ∀ {ps : List (Nat × AV)} {ps' : List (Nat × Value)} {cs r : List AV} {cs' : Array Value}, PR φ ps ps' → VRL φ cs cs'.toList →
    fillA place cs ps = some r → ∃ r', Instr.fill place cs' ps' = some r' ∧ VRL φ r r'.toList ∧ r.length = cs.length := by
  intro ps
  induction ps with
  | nil =>
    intro ps' cs r cs' hp hc h
    cases hp
    simp only [fillA, Option.some.injEq] at h; subst h
    exact ⟨cs', rfl, hc, rfl⟩
  | cons p ps ih =>
    intro ps' cs r cs' hp hc h
    cases hp with
    | cons hv ht =>
      rename_i i v v' l'
      simp only [fillA] at h
      split at h
      · cases h
      · rename_i off size hpl
        simp only [cond_eq_ite, Bool.and_eq_true] at h
        split at h
        · rename_i hb
          have h1 := beq_t hb.1
          have h2 := ble_t hb.2
          have hvc := hv.cells
          have hl1 := hvc.length
          have hl2 := hc.length
          have e1 : v'.cells.size = size := by simpa [h1] using hl1
          have e2 : cs'.size = cs.length := by simpa using hl2
          have hnot : ¬ (v'.cells.size ≠ size || decide (off + v'.cells.size > cs'.size)) = true := by simp; omega
          simp only [Instr.fill, hpl, if_neg hnot]
          have hset := foldl_set v'.cells.toList 0 off cs' (by simp; omega)
          have hz : v'.cells.zipIdx.foldl (fun cs (x : Value × Nat) => cs.setIfInBounds (off + x.2) x.1) cs' = (v'.cells.toList.zipIdx 0).foldl (fun cs (x : Value × Nat) => cs.setIfInBounds (off + x.2) x.1) cs' := by
            rw [← Array.foldl_toList]; simp
          obtain ⟨r', g1, g2, g3⟩ := ih (cs' := v'.cells.zipIdx.foldl (fun cs (x : Value × Nat) => cs.setIfInBounds (off + x.2) x.1) cs') ht (by
            rw [hz, hset]
            have := hc.splice hvc off
            simpa using this) h
          exact ⟨r', g1, g2, g3.trans (splice_length (by rw [h1]; exact h2))⟩
        · cases h

omit [Val] in
theorem placesA_ok : ∀ {fs : List Field} {ps : List (Nat × Nat)}, placesA P fs = some ps → ∀ w, (fs.mapM fun f => do pure (f.offset, ← sizeOf f.type) : Sem (List (Nat × Nat))).run P w = .ok ps w := by
  intro fs
  induction fs with
  | nil => intro ps h w; simp only [placesA, Option.some.injEq] at h; subst h; rfl
  | cons f fs ih =>
    intro ps h w
    simp only [placesA] at h
    split at h
    · rename_i n r hn hr
      simp only [Option.some.injEq] at h; subst h
      simp only [List.mapM_cons, Sem.run_bind, run_szOf hn, Result.andThen_ok, ih hr, Sem.run_pure]
    · cases h

theorem buildA_ok {t : TypeId} {ps : List (Nat × AV)} {ps' : Array (Nat × Value)} {v : AV} (hp : PR φ ps ps'.toList) (h : buildA P t ps = some v) :
    ∃ v', (∀ w, (Instr.build t ps').run P w = .ok v' w) ∧ VR φ v v' := by
  unfold buildA at h
  split at h
  · rename_i z hz
    obtain ⟨z', rz, vz⟩ := run_zero hz
    split at h
    · rename_i fs hu
      split at h
      · rename_i pl hpl
        split at h
        · rename_i l hl
          simp only [Option.some.injEq] at h; subst h
          obtain ⟨r', h1, h2, _⟩ := fillA_ok hp (vz φ).cells hl
          refine ⟨.agg r', fun w => ?_, .agg _ h2⟩
          have hm := placesA_ok hpl w
          simp only [Instr.build, Sem.run_bind, rz, run_und hu, Result.andThen_ok]
          rw [Array.mapM_eq_mapM_toList]
          simp only [Sem.run_map, hm, Result.andThen_ok]
          simp [h1]
        · cases h
      · cases h
    · rename_i n e hu
      split at h
      · rename_i s hs
        split at h
        · rename_i l hl
          simp only [Option.some.injEq] at h; subst h
          obtain ⟨r', h1, h2, _⟩ := fillA_ok hp (vz φ).cells hl
          refine ⟨.agg r', fun w => ?_, .agg _ h2⟩
          simp only [Instr.build, Sem.run_bind, rz, run_und hu, Result.andThen_ok, run_szOf hs]
          simp [h1]
        · cases h
      · cases h
    · cases h
  · cases h

theorem extractA_ok {x v : AV} {x' : Value} {i : Nat} (h : extractA x i = some v) (hx : VR φ x x') : ∃ v', (∀ w, (Instr.extract x' i).run P w = .ok v' w) ∧ VR φ v v' := by
  unfold extractA at h
  split at h
  · cases hx with
    | tup l' hl =>
      obtain ⟨v', h1, h2⟩ := hl.get h
      have h1 : l'[i]? = some v' := by simpa using h1
      exact ⟨v', fun w => by simp [Instr.extract, h1], h2⟩
  · cases h

theorem fieldA_ok {t : TypeId} {x v : AV} {x' : Value} {f : Nat} (h : fieldA P t x f = some v) (hx : VR φ x x') : ∃ v', (∀ w, (Instr.field t x' f).run P w = .ok v' w) ∧ VR φ v v' := by
  unfold fieldA at h
  split at h
  · rename_i fs cs hu
    cases hx with
    | agg cs' hc =>
      split at h
      · rename_i fd hf
        obtain ⟨v', h1, h2⟩ := partA_ok (φ := φ) h hc
        exact ⟨v', fun w => by simp [Instr.field, run_und hu, hf, asAgg, h1], h2⟩
      · cases h
  · cases h

omit [Val] in
theorem idx_ok {i : Int} {n k : Nat} (h : idx i n = some k) : i = (k : Int) ∧ k < n := by
  unfold idx at h
  split at h
  · simp only [cond_eq_ite] at h
    split at h
    · rename_i hb
      simp only [Option.some.injEq] at h; subst h
      exact ⟨rfl, blt_t hb⟩
    · cases h
  · cases h
omit [Val] in
theorem upto_ok {i : Int} {n k : Nat} (h : upto i n = some k) : i = (k : Int) ∧ k ≤ n := by
  unfold upto at h
  split at h
  · simp only [cond_eq_ite] at h
    split at h
    · rename_i hb
      simp only [Option.some.injEq] at h; subst h
      exact ⟨rfl, ble_t hb⟩
    · cases h
  · cases h

theorem indexA_ok {t : TypeId} {x i v : AV} {x' i' : Value} (h : indexA P t x i = some v) (hx : VR φ x x') (hi : VR φ i i') : ∃ v', (∀ w, (Instr.index t x' i').run P w = .ok v' w) ∧ VR φ v v' := by
  unfold indexA at h
  split at h
  · rename_i k i
    cases hi
    split at h
    · rename_i n e cs hu
      cases hx with
      | agg cs' hc =>
        split at h
        · rename_i s k hs hk
          obtain ⟨rfl, hlt⟩ := idx_ok hk
          obtain ⟨v', h1, h2⟩ := partA_ok (φ := φ) h hc
          refine ⟨v', fun w => ?_, h2⟩
          have hc : (0 : Int) ≤ (k : Int) ∧ (k : Int) < (n : Int) := by omega
          simp only [Instr.index, Sem.run_bind, asIntOf, Sem.run_pure, Result.andThen_ok, run_und hu]
          rw [if_pos hc]
          simp [run_szOf hs, h1]
        · cases h
    · rename_i l hu
      cases hx
      split at h
      · rename_i k
        split at h
        · rename_i b hb
          simp only [Option.some.injEq] at h; subst h
          refine ⟨_, fun w => ?_, .int _ _⟩
          have hb' : (⟨⟨l⟩⟩ : ByteArray)[k]? = some b := by
            have hlt : k < l.length := by
              rcases Nat.lt_or_ge k l.length with h | h
              · exact h
              · simp [List.getElem?_eq_none h] at hb
            rw [List.getElem?_eq_getElem hlt] at hb
            simp only [Option.some.injEq] at hb
            have hsz : k < (⟨⟨l⟩⟩ : ByteArray).size := hlt
            rw [getElem?_pos (⟨⟨l⟩⟩ : ByteArray) k hsz]
            exact congrArg some hb
          simp [Instr.index, asIntOf, run_und hu, hb']
        · cases h
      · cases h
    · cases h
  · cases h

theorem indexAddrA_ok {t : TypeId} {x i v : AV} {x' i' : Value} (h : indexAddrA P t x i = some v) (hx : VR φ x x') (hi : VR φ i i') :
    ∃ v', (∀ w, (Instr.indexAt t x' i').run P w = .ok v' w) ∧ VR φ v v' := by
  unfold indexAddrA at h
  split at h
  · rename_i k i
    cases hi
    split at h
    · rename_i n e id ver off top hu
      cases hx with
      | ptr ex o he hd hh ho =>
        split at h
        · rename_i s k hs hk
          simp only [cond_eq_ite] at h
          split at h
          · rename_i hb
            have hb := ble_t hb
            simp only [Option.some.injEq] at h; subst h
            obtain ⟨rfl, hlt⟩ := idx_ok hk
            refine ⟨.pointer (some ⟨ex.blk, o + k * s, none⟩), fun w => ?_, .ptr ex (o + k * s) he (by omega) (by omega) (by omega)⟩
            have hc : (0 : Int) ≤ (k : Int) ∧ (k : Int) < (n : Int) := by omega
            simp only [Instr.indexAt, Instr.sureAddr, Sem.run_bind, asIntOf, Sem.run_pure, Result.andThen_ok, run_und hu]
            rw [if_pos hc]
            simp [run_szOf hs, add_off]
          · cases h
        · cases h
    · rename_i e id ver off len cap esz hu
      cases hx with
      | slc ex o c he hd hh hl hc ho =>
        split at h
        · rename_i s k hs hk
          simp only [cond_eq_ite] at h
          split at h
          · rename_i hb
            have hb := beq_t hb
            subst hb
            simp only [Option.some.injEq] at h; subst h
            obtain ⟨rfl, hlt⟩ := idx_ok hk
            have hc0 : c ≠ 0 := by omega
            obtain ⟨ho1, ho2⟩ := ho.resolve_left hc0
            have hm : (k + 1) * s ≤ len * s := Nat.mul_le_mul_right s (by omega)
            refine ⟨.pointer (some ⟨ex.blk, o + k * s, none⟩), fun w => ?_, .ptr ex (o + k * s) he (by omega) (by omega) (by omega)⟩
            have hc : (0 : Int) ≤ (k : Int) ∧ (k : Int) < (len : Int) := by omega
            simp only [Instr.indexAt, Sem.run_bind, asIntOf, Sem.run_pure, Result.andThen_ok, run_und hu]
            rw [if_pos hc]
            simp [run_szOf hs, add_off]
          · cases h
        · cases h
    · cases h
  · cases h

theorem fieldAddrA_ok {t : TypeId} {x v : AV} {x' : Value} {f : Nat} (h : fieldAddrA P t x f = some v) (hx : VR φ x x') :
    ∃ v', (∀ w, (Instr.fieldAt t x' f).run P w = .ok v' w) ∧ VR φ v v' := by
  unfold fieldAddrA at h
  split at h
  · rename_i id ver off top
    cases hx with
    | ptr ex o he hd hh ho =>
      split at h
      · rename_i fs hu
        split at h
        · rename_i fd hf
          split at h
          · rename_i n hn
            simp only [cond_eq_ite] at h
            split at h
            · cases h
            · rename_i hn0
              split at h
              · rename_i hb
                have hb := ble_t hb
                simp only [Option.some.injEq] at h; subst h
                refine ⟨.pointer (some ⟨ex.blk, o + fd.offset, none⟩), fun w => ?_, .ptr ex _ he (by omega) hh (by omega)⟩
                have hn1 : n ≠ 0 := by simpa using hn0
                simp [Instr.fieldAt, Instr.sureAddr, run_und hu, hf, fieldPlace, run_szOf hn, hn1, add_off]
              · cases h
          · cases h
        · cases h
      · cases h
  · cases h
end
end Go.Tw
