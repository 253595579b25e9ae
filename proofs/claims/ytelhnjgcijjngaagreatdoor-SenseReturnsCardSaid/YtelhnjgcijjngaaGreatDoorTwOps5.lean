/-
  A part of the proof that the abstract evaluator is sound for the model's machine. Conditions: those of each theorem, as it states them.
-/
import Derived.Test.YtelhnjgcijjngaaGreatDoorTwOps4
import Derived.Laws.BytesString
set_option linter.all false
namespace Go.Tw
section
variable [Val]
variable {P : Program} {R : Nat} {C : Cfg} {D : Nat → Prop} {φ : PM} {σ : St} {w : World}
omit [Val] in
theorem plainKey_desc {t : TypeId} {d : TypeDesc} (h : plainKey P t = some d) : P.underlying t = some d ∧ ((∃ k, d = .int k) ∨ d = .string ∨ d = .bool) := by
  unfold plainKey at h
  split at h <;> first
    | (cases h; done)
    | (simp only [Option.some.injEq] at h; subst h; rename_i hu; exact ⟨hu, by simp⟩)
omit [Val] in
theorem keyFits_desc {t : TypeId} {k : AV} (h : keyFits P t k = true) : ∃ d, P.underlying t = some d ∧ ((∃ k, d = .int k) ∨ d = .string ∨ d = .bool) ∧
    ((∃ j n ik, d = .int ik ∧ k = .int j n) ∨ (∃ s, d = .string ∧ k = .str s) ∨ (∃ b, d = .bool ∧ k = .bool b)) := by
  unfold keyFits at h
  split at h
  · rename_i hk; obtain ⟨a, b⟩ := plainKey_desc hk; exact ⟨_, a, b, .inl ⟨_, _, _, rfl, rfl⟩⟩
  · rename_i hk; obtain ⟨a, b⟩ := plainKey_desc hk; exact ⟨_, a, b, .inr (.inl ⟨_, rfl, rfl⟩)⟩
  · rename_i hk; obtain ⟨a, b⟩ := plainKey_desc hk; exact ⟨_, a, b, .inr (.inr ⟨_, rfl, rfl⟩)⟩
  · cases h
theorem checkKey_suc {t : TypeId} {k : AV} {k' : Value} (h : keyFits P t k = true) (hk : VR φ k k') (b : Bool) (w : World) (n : Nat) : (Instr.checkKey b (n + 1) t k').run P w = .ok () w := by
  obtain ⟨d, hu, _, hc⟩ := keyFits_desc h
  rcases hc with ⟨j, n, ik, rfl, rfl⟩ | ⟨s, rfl, rfl⟩ | ⟨b, rfl, rfl⟩ <;> cases hk <;> simp only [Instr.checkKey, Sem.run_bind, run_und hu, Result.andThen_ok] <;> rfl
theorem checkKey_ok {t : TypeId} {k : AV} {k' : Value} (h : keyFits P t k = true) (hk : VR φ k k') (b : Bool) (w : World) : (Instr.checkKey b 10000 t k').run P w = .ok () w :=
  checkKey_suc h hk b w 9999
theorem sameKey_ok {d : TypeDesc} {x y : AV} {x' y' : Value} {b : Bool} (h : sameKey x y = some b) (hx : VR φ x x') (hy : VR φ y y')
    (hd : (∃ j n ik, d = .int ik ∧ x = .int j n) ∨ (∃ s, d = .string ∧ x = .str s) ∨ (∃ b, d = .bool ∧ x = .bool b)) : Instr.sameNow d x' y' = some b := by
  rcases hd with ⟨j, n, ik, rfl, rfl⟩ | ⟨s, rfl, rfl⟩ | ⟨c, rfl, rfl⟩
  · cases hx
    cases hy <;> simp only [sameKey, reduceCtorEq] at h
    simpa [Instr.sameNow] using h
  · cases hx
    cases hy <;> simp only [sameKey, reduceCtorEq] at h
    simpa [Instr.sameNow, str_beq] using h
  · cases hx
    cases hy <;> simp only [sameKey, reduceCtorEq] at h
    simpa [Instr.sameNow] using h
theorem findA_ok {d : TypeDesc} {k : AV} {k' : Value} (hk : VR φ k k')
    (hd : (∃ j n ik, d = .int ik ∧ k = .int j n) ∨ (∃ s, d = .string ∧ k = .str s) ∨ (∃ b, d = .bool ∧ k = .bool b)) :
    ∀ {es : List (AV × AV × Nat)} {es' : List MapEntry} {i : Nat} {r : Option (Nat × AV)}, ER φ es es' → findA k es i = some r →
      (r = none → Instr.findNow d k' es' i = some none) ∧ (∀ j v, r = some (j, v) → ∃ v', Instr.findNow d k' es' i = some (some (j, v')) ∧ VR φ v v' ∧ i ≤ j ∧
        ∃ q n, es[j - i]? = some (q, v, n) ∧ sameKey k q = some true) := by
  intro es
  induction es with
  | nil =>
    intro es' i r he h
    cases he
    simp only [findA, Option.some.injEq] at h; subst h
    exact ⟨fun _ => rfl, fun j v h => (by cases h)⟩
  | cons p es ih =>
    intro es' i r he h
    cases he with
    | cons hk' hv ht =>
      rename_i q v n q' v' l'
      simp only [findA] at h
      split at h
      · rename_i hs
        simp only [Option.some.injEq] at h; subst h
        refine ⟨fun h => (by cases h), fun j u h => ?_⟩
        simp only [Option.some.injEq, Prod.mk.injEq] at h
        obtain ⟨rfl, rfl⟩ := h
        refine ⟨v', ?_, hv, Nat.le_refl _, q, n, by simp, hs⟩
        simp only [Instr.findNow, sameKey_ok hs hk hk' hd]
      · rename_i hs
        obtain ⟨h1, h2⟩ := ih ht h
        refine ⟨fun hr => ?_, fun j u hr => ?_⟩
        · simp only [Instr.findNow, sameKey_ok hs hk hk' hd]; exact h1 hr
        · obtain ⟨u', g1, g2, g3, q0, n0, g4, g5⟩ := h2 j u hr
          refine ⟨u', ?_, g2, by omega, q0, n0, ?_, g5⟩
          · simp only [Instr.findNow, sameKey_ok hs hk hk' hd]; exact g1
          · rw [show j - i = j - (i + 1) + 1 by omega]; simpa using g4
      · cases h
theorem lookupA_ok (hi : Inv R C D φ σ w) {t : TypeId} {x k v : AV} {x' k' : Value} {ok : Bool} {σ' : St} (h : lookupA P t x k ok σ = some (v, σ')) (hx : VR φ x x') (hk : VR φ k k')
    (hkn : Known D σ σ') : ∃ v', (Instr.lookup t x' k' ok).run P w = .ok v' w ∧ VR φ v v' ∧ Post R D φ σ w σ' φ w := by
  unfold lookupA at h
  split at h
  · rename_i kt et hu
    simp only [cond_eq_ite] at h
    split at h
    · rename_i hfit
      obtain ⟨d, hku, _, hd⟩ := keyFits_desc hfit
      split at h
      · cases h
      · rename_i es τ he
        have key : ∀ (es' : Array MapEntry), ER φ es es'.toList → ((∃ j u', Instr.findNow d k' es'.toList 0 = some (some (j, u')) ∧ VR φ v (if ok then .tuple #[u', .bool true] else u')) ∨
            (Instr.findNow d k' es'.toList 0 = some none ∧ ∃ z', (∀ w, (zeroValue et).run P w = .ok z' w) ∧ VR φ v (if ok then .tuple #[z', .bool false] else z'))) ∧ σ' = τ := by
          intro es' her
          split at h
          · cases h
          · rename_i j u hf
            obtain ⟨_, h2⟩ := findA_ok hk hd her hf
            obtain ⟨u', g1, g2, _⟩ := h2 j u rfl
            simp only [Option.some.injEq, Prod.mk.injEq] at h
            obtain ⟨rfl, rfl⟩ := h
            refine ⟨.inl ⟨j, u', g1, ?_⟩, rfl⟩
            cases ok
            · exact g2
            · exact .tup _ (.cons g2 (.cons (.bool _) .nil))
          · rename_i hf
            obtain ⟨h1, _⟩ := findA_ok hk hd her hf
            have g1 := h1 rfl
            split at h
            · rename_i z hz
              obtain ⟨z', rz, vz⟩ := run_zero hz
              simp only [Option.some.injEq, Prod.mk.injEq] at h
              obtain ⟨rfl, rfl⟩ := h
              refine ⟨.inr ⟨g1, z', rz, ?_⟩, rfl⟩
              cases ok
              · exact vz φ
              · exact .tup _ (.cons (vz φ) (.cons (.bool _) .nil))
            · cases h
        split at he
        · cases hx
          simp only [Option.some.injEq, Prod.mk.injEq] at he
          obtain ⟨rfl, rfl⟩ := he
          obtain ⟨hr, rfl⟩ := key #[] .nil
          rcases hr with ⟨j, u', g1, r2⟩ | ⟨g1, z', rz, r2⟩
          · refine ⟨_, ?_, r2, .same hi rfl rfl rfl⟩
            have g1 : Instr.findNow d k' [] 0 = some (some (j, u')) := by simpa using g1
            simp [Instr.lookup, run_und hu, checkKey_ok hfit hk, Instr.findKey, run_und hku, g1]
          · refine ⟨_, ?_, r2, .same hi rfl rfl rfl⟩
            have g1 : Instr.findNow d k' [] 0 = some none := by simpa using g1
            simp [Instr.lookup, run_und hu, checkKey_ok hfit hk, Instr.findKey, run_und hku, g1, rz]
        · rename_i id
          cases hx with
          | map e hee =>
            split at he
            · rename_i es0 clock ho
              simp only [Option.some.injEq, Prod.mk.injEq] at he
              obtain ⟨rfl, rfl⟩ := he
              have hlt := hi.lt ho
              have hd' : D id := by
                have hmem : id ∈ σ'.rd := by
                  split at h
                  · cases h
                  · simp only [Option.some.injEq, Prod.mk.injEq] at h; obtain ⟨_, rfl⟩ := h; exact mem_addL.2 (.inl rfl)
                  · split at h
                    · simp only [Option.some.injEq, Prod.mk.injEq] at h; obtain ⟨_, rfl⟩ := h; exact mem_addL.2 (.inl rfl)
                    · cases h
                exact hkn id (.inl hmem) hlt
              obtain ⟨hR, e', es', he', hb, her⟩ := hi.at ho hd'
              rw [hee] at he'; simp only [Option.some.injEq] at he'; subst he'
              obtain ⟨hr, rfl⟩ := key es' her
              rcases hr with ⟨j, u', g1, r2⟩ | ⟨g1, z', rz, r2⟩
              · exact ⟨_, by simp [Instr.lookup, run_und hu, run_getObj hb, checkKey_ok hfit hk, Instr.findKey, run_und hku, g1], r2, .same hi rfl rfl rfl⟩
              · exact ⟨_, by simp [Instr.lookup, run_und hu, run_getObj hb, checkKey_ok hfit hk, Instr.findKey, run_und hku, g1, rz], r2, .same hi rfl rfl rfl⟩
            · cases he
        · cases he
    · cases h
  · cases h
theorem ER.length {es : List (AV × AV × Nat)} {es' : List MapEntry} (h : ER φ es es') : es'.length = es.length := by
  induction h with
  | nil => rfl
  | cons _ _ _ ih => simp [ih]
theorem ER.get {es : List (AV × AV × Nat)} {es' : List MapEntry} (h : ER φ es es') {i : Nat} {q v : AV} {n : Nat} (hi : es[i]? = some (q, v, n)) :
    ∃ e, es'[i]? = some e ∧ VR φ q e.key ∧ VR φ v e.val ∧ e.born = n := by
  induction h generalizing i with
  | nil => simp at hi
  | cons h1 h2 _ ih =>
    cases i with
    | zero => simp at hi; obtain ⟨rfl, rfl, rfl⟩ := hi; exact ⟨_, rfl, h1, h2, rfl⟩
    | succ i => simpa using ih (by simpa using hi)
theorem ER.mod {es : List (AV × AV × Nat)} {es' : List MapEntry} (h : ER φ es es') {k v : AV} {k' v' : Value} (hk : VR φ k k') (hv : VR φ v v') :
    ∀ i, ER φ (modE i (fun e => (k, v, e.2.2)) es) (es'.modify i fun e => { e with key := k', val := v' }) := by
  induction h with
  | nil => intro i; cases i <;> exact .nil
  | cons h1 h2 ht ih =>
    intro i
    cases i with
    | zero => exact .cons hk hv ht
    | succ i => simpa [modE] using ER.cons h1 h2 (ih i)
theorem sameBits_ok {x y : AV} {x' y' : Value} (h : sameKey x y = some true) (hx : VR φ x x') (hy : VR φ y y') : Instr.sameBits 10000 y' x' = true := by
  cases hx <;> cases hy <;> simp only [sameKey, reduceCtorEq, Option.some.injEq, beq_iff_eq] at h
  · subst h; simp [Instr.sameBits]
  · split at h
    · rename_i hk; simp only [Option.some.injEq, beq_iff_eq] at h; subst h; subst hk; simp [Instr.sameBits]
    · cases h
  · subst h; simp [Instr.sameBits, str_beq]
theorem updateA_ok (hi : Inv R C D φ σ w) {t : TypeId} {x k v : AV} {x' k' v' : Value} {σ' : St} (h : updateA P t x k v σ = some σ') (hx : VR φ x x') (hk : VR φ k k') (hv : VR φ v v')
    (hkn : Known D σ σ') : ∃ w', (Instr.mapUpdate t x' k' v').run P w = .ok () w' ∧ Post R D φ σ w σ' φ w' := by
  unfold updateA at h
  split at h
  · rename_i kt et id hu
    cases hx with
    | map e he =>
      simp only [cond_eq_ite] at h
      split at h
      · rename_i hfit
        obtain ⟨d, hku, _, hd⟩ := keyFits_desc hfit
        split at h
        · rename_i es clock ho
          have hlt := hi.lt ho
          have hdd : D id := by
            have hmem : id ∈ σ'.wr := by
              split at h
              · cases h
              · simp only [Option.some.injEq] at h; subst h; exact mem_addL.2 (.inl rfl)
              · simp only [Option.some.injEq] at h; subst h; exact mem_addL.2 (.inl rfl)
            exact hkn id (.inr hmem) hlt
          obtain ⟨hR, e', es', he', hb, her⟩ := hi.at ho hdd
          rw [he] at he'; simp only [Option.some.injEq] at he'; subst he'
          split at h
          · cases h
          · rename_i i u hf
            obtain ⟨_, h2⟩ := findA_ok hk hd her hf
            obtain ⟨u', g1, g2, _, q, n, g4, g5⟩ := h2 i u rfl
            simp only [Nat.sub_zero] at g4
            obtain ⟨me, m1, m2, m3, m4⟩ := her.get g4
            simp only [Option.some.injEq] at h; subst h
            have hm1 : es'[i]? = some me := by simpa using m1
            refine ⟨wset w e.blk (.map (es'.modify i fun e => { e with key := k', val := v' }) clock), ?_, ?_⟩
            · simp [Instr.mapUpdate, run_und hu, run_getObj hb, checkKey_ok hfit hk, Instr.findKey, run_und hku, g1, hm1, Instr.keyThatStays, sameBits_ok g5 hk m2, run_setObj hb]
            · refine .change hi hR hlt he ⟨hR, e, _, he, wset_same _ _ _ (heap_lt hb), ?_⟩
              have := her.mod hk hv i
              simpa using this
          · rename_i hf
            obtain ⟨h1, _⟩ := findA_ok hk hd her hf
            have g1 := h1 rfl
            simp only [Option.some.injEq] at h; subst h
            refine ⟨wset w e.blk (.map (es'.push { key := k', val := v', born := clock }) (clock + 1)), ?_, ?_⟩
            · simp [Instr.mapUpdate, run_und hu, run_getObj hb, checkKey_ok hfit hk, Instr.findKey, run_und hku, g1, run_setObj hb]
            · refine .change hi hR hlt he ⟨hR, e, _, he, wset_same _ _ _ (heap_lt hb), ?_⟩
              have := her.append (.cons hk hv .nil : ER φ [(k, v, clock)] [{ key := k', val := v', born := clock }])
              simpa using this
        · cases h
      · cases h
  · cases h
theorem lenA_ok (hi : Inv R C D φ σ w) {t ty : TypeId} {x v : AV} {x' : Value} {ts : Array TypeId} {σ' : St} (h : lenA P t x σ = some (v, σ')) (hx : VR φ x x') (hkn : Known D σ σ') (ht : ts[0]? = some t) :
    ∃ v', (Builtin.len_ ts ty #[x']).run P w = .ok v' w ∧ VR φ v v' ∧ Post R D φ σ w σ' φ w := by
  unfold lenA at h
  split at h
  case h_1 s hu =>
    simp only [Option.some.injEq, Prod.mk.injEq] at h; obtain ⟨rfl, rfl⟩ := h
    cases hx
    exact ⟨goInt s.length, by simp [Builtin.len_, ht, run_und hu]; rfl, .int _ _, .same hi rfl rfl rfl⟩
  case h_2 ex hu =>
    simp only [Option.some.injEq, Prod.mk.injEq] at h; obtain ⟨rfl, rfl⟩ := h
    cases hx with
    | sstr s hs =>
      refine ⟨goInt s.size, by simp [Builtin.len_, ht, run_und hu], ?_, .same hi rfl rfl rfl⟩
      show VR φ _ (.int .i64 _)
      rw [hs]; exact .sym _ _
  case h_3 ex hu =>
    simp only [Option.some.injEq, Prod.mk.injEq] at h; obtain ⟨rfl, rfl⟩ := h
    cases hx with
    | vstr s hs =>
      refine ⟨goInt s.length, by simp [Builtin.len_, ht, run_und hu]; rfl, ?_, .same hi rfl rfl rfl⟩
      show VR φ _ (.int .i64 _)
      rw [← sLen_eval hs]; exact .sym _ _
  case h_4 e ex hu =>
    simp only [Option.some.injEq, Prod.mk.injEq] at h; obtain ⟨rfl, rfl⟩ := h
    cases hx with
    | sslc a n c hs =>
      refine ⟨goInt n, by simp [Builtin.len_, ht, run_und hu], ?_, .same hi rfl rfl rfl⟩
      show VR φ _ (.int .i64 _)
      rw [hs]; exact .sym _ _
  case h_5 n e hu =>
    simp only [Option.some.injEq, Prod.mk.injEq] at h; obtain ⟨rfl, rfl⟩ := h
    exact ⟨goInt n, by simp [Builtin.len_, ht, run_und hu], .int _ _, .same hi rfl rfl rfl⟩
  case h_6 a hu =>
    split at h
    · rename_i n e hu2
      simp only [Option.some.injEq, Prod.mk.injEq] at h
      obtain ⟨rfl, rfl⟩ := h
      exact ⟨goInt n, by simp [Builtin.len_, ht, run_und hu, run_und hu2], .int _ _, .same hi rfl rfl rfl⟩
    · cases h
  case h_7 n _ _ hu =>
    simp only [Option.some.injEq, Prod.mk.injEq] at h; obtain ⟨rfl, rfl⟩ := h
    cases hx
    exact ⟨goInt n, by simp [Builtin.len_, ht, run_und hu], .int _ _, .same hi rfl rfl rfl⟩
  case h_8 hu =>
    simp only [Option.some.injEq, Prod.mk.injEq] at h; obtain ⟨rfl, rfl⟩ := h
    cases hx
    exact ⟨goInt 0, by simp [Builtin.len_, ht, run_und hu], .int _ _, .same hi rfl rfl rfl⟩
  case h_9 hu =>
    simp only [Option.some.injEq, Prod.mk.injEq] at h; obtain ⟨rfl, rfl⟩ := h
    cases hx
    exact ⟨goInt 0, by simp [Builtin.len_, ht, run_und hu], .int _ _, .same hi rfl rfl rfl⟩
  case h_10 k e id hu =>
    split at h
    · rename_i es clock ho
      simp only [Option.some.injEq, Prod.mk.injEq] at h
      obtain ⟨rfl, rfl⟩ := h
      cases hx with
      | map ex he =>
        have hd : D id := hkn id (.inl (mem_addL.2 (.inl rfl))) (hi.lt ho)
        obtain ⟨hR, e', es', he', hb, her⟩ := hi.at ho hd
        rw [he] at he'; simp only [Option.some.injEq] at he'; subst he'
        refine ⟨goInt es'.size, by simp [Builtin.len_, ht, run_und hu, run_getObj hb], ?_, .same hi rfl rfl rfl⟩
        have := her.length
        have hs : es'.size = es.length := by simpa using this
        rw [hs]; exact .int _ _
    · cases h
  case h_11 => cases h
theorem capA_ok {t ty : TypeId} {x v : AV} {x' : Value} {ts : Array TypeId} (h : capA P t x = some v) (hx : VR φ x x') (ht : ts[0]? = some t) (w : World) :
    ∃ v', (Builtin.cap_ ts ty #[x']).run P w = .ok v' w ∧ VR φ v v' := by
  unfold capA at h
  split at h
  · rename_i hu
    simp only [Option.some.injEq] at h; subst h
    exact ⟨goInt _, by simp [Builtin.cap_, ht, run_und hu], .int _ _⟩
  · rename_i hu
    split at h
    · rename_i hu2
      simp only [Option.some.injEq] at h; subst h
      exact ⟨goInt _, by simp [Builtin.cap_, ht, run_und hu, run_und hu2], .int _ _⟩
    · cases h
  · rename_i hu
    cases hx with
    | slc e o c he hd hh hl hc ho =>
      simp only [Option.some.injEq] at h; subst h
      have := (hc _ rfl).1
      subst this
      exact ⟨goInt _, by simp [Builtin.cap_, ht, run_und hu], .int _ _⟩
  · rename_i hu
    cases hx
    simp only [Option.some.injEq] at h; subst h
    exact ⟨goInt _, by simp [Builtin.cap_, ht, run_und hu], .int _ _⟩
  · cases h
end
end Go.Tw
namespace Go.Tw
section
variable [Val]
variable {P : Program} {R : Nat} {C : Cfg} {D : Nat → Prop} {φ : PM} {σ : St} {w : World}
omit [Val] in
theorem sliceBound_run {ik : IntKind} {i : Int} {y k : Nat} (h : upto i y = some k) (code : BoundsCode) (w : World) : (Instr.sliceBound (.int ik i) y code).run P w = .ok k w := by
  obtain ⟨rfl, hk⟩ := upto_ok h
  have hc : (0 : Int) ≤ (k : Int) ∧ (k : Int) ≤ (y : Int) := by omega
  simp only [Instr.sliceBound, asIntOf, Sem.run_bind, Sem.run_pure, Result.andThen_ok]
  rw [if_pos hc]
  simp
theorem bnd_ok {v : AV} {v' : Value} {y k : Nat} (h : bnd v y = some k) (hv : VR φ v v') : k ≤ y ∧ ∀ (z : Nat), k ≤ z → ∀ code w, (Instr.sliceBound v' z code).run P w = .ok k w := by
  unfold bnd at h
  split at h
  · cases hv
    obtain ⟨rfl, hk⟩ := upto_ok h
    refine ⟨hk, fun z hz code w => sliceBound_run ?_ code w⟩
    show (bif Nat.ble k z then some k else none) = some k
    rw [Nat.ble_eq_true_of_le hz]; rfl
  · cases h
theorem boundsA_ok {len l h c : Nat} {cap m : Option Nat} {lo hi mx : Option AV} {lo' hi' mx' : Option Value} {b : Bool} (hb : boundsA len cap lo hi mx = some (l, h, m))
    (h1 : VRO φ lo lo') (h2 : VRO φ hi hi') (h3 : VRO φ mx mx') (hc : ∀ k, cap = some k → k = c) (hl : len ≤ c) :
    ∃ M, (∀ w, (Instr.sliceBounds b len c lo' hi' mx').run P w = .ok (l, h, M) w) ∧ l ≤ h ∧ h ≤ M ∧ M ≤ c ∧ (∀ k, m = some k → M = k ∧ (cap = none → k ≤ len)) ∧
      (m = none → M = c ∧ cap = none ∧ h ≤ len) := by
  unfold boundsA at hb
  split at hb
  · cases hb
  rename_i m0 hm0
  split at hb
  · cases hb
  rename_i h0 hh0
  split at hb
  · cases hb
  rename_i l0 hl0
  simp only [Option.some.injEq, Prod.mk.injEq] at hb
  obtain ⟨rfl, rfl, rfl⟩ := hb
  have hM : ∃ M, (∀ w, ((match mx' with
        | some v => Instr.sliceBound v c (if b then .slice3Acap else .slice3Alen)
        | none => pure c) : Sem Nat).run P w = .ok M w) ∧ M ≤ c ∧ (∀ k, m0 = some k → M = k ∧ (cap = none → k ≤ len)) ∧ (m0 = none → M = c ∧ cap = none) ∧ (mx = none → m0 = cap) := by
    unfold bndM at hm0
    split at hm0
    · simp only [Option.some.injEq] at hm0; subst hm0
      cases mx' with
      | some _ => exact h3.elim
      | none => exact ⟨c, fun _ => rfl, Nat.le_refl _, fun k hk => ⟨(hc k hk).symm, fun h0 => by rw [hk] at h0; cases h0⟩, fun h0 => ⟨rfl, h0⟩, fun _ => rfl⟩
    · rename_i v
      split at hm0
      · rename_i k hk
        simp only [Option.some.injEq] at hm0; subst hm0
        cases mx' with
        | none => exact h3.elim
        | some v' =>
          obtain ⟨hk1, hk2⟩ := bnd_ok (P := P) hk h3
          have hkc : k ≤ c := by
            cases cap with
            | none => exact Nat.le_trans hk1 hl
            | some c0 => rw [← hc c0 rfl]; exact hk1
          refine ⟨k, fun w => hk2 c hkc _ w, hkc, fun k' hk' => ?_, fun h0 => (by cases h0), fun h0 => (by cases h0)⟩
          simp only [Option.some.injEq] at hk'; subst hk'
          exact ⟨rfl, fun h0 => by subst h0; exact hk1⟩
      · cases hm0
  obtain ⟨M, r1, hMc, hm1, hm2, hm3⟩ := hM
  have htop : ∀ k, k ≤ topOf m0 len → k ≤ M ∧ (m0 = none → k ≤ len) := by
    intro k hk
    cases hm : m0 with
    | none => rw [hm] at hk; exact ⟨by rw [(hm2 hm).1]; exact Nat.le_trans hk hl, fun _ => hk⟩
    | some k0 => rw [hm] at hk; exact ⟨by rw [(hm1 k0 hm).1]; exact hk, fun h => (by cases h)⟩
  have hH : (∀ w, ((match hi', mx' with
        | some v, some _ => Instr.sliceBound v M .slice3B
        | some v, none => Instr.sliceBound v M (if b then .sliceAcap else .sliceAlen)
        | none, none => pure len
        | none, some _ => stuck "Slice: max without high") : Sem Nat).run P w = .ok h0 w) ∧ h0 ≤ M ∧ (m0 = none → h0 ≤ len) := by
    unfold bndH at hh0
    split at hh0
    · rename_i v
      cases hi' with
      | none => exact h2.elim
      | some v' =>
        obtain ⟨hk1, hk2⟩ := bnd_ok (P := P) hh0 h2
        obtain ⟨g1, g2⟩ := htop _ hk1
        cases mx' with
        | none => exact ⟨fun w => hk2 M g1 _ w, g1, g2⟩
        | some _ => exact ⟨fun w => hk2 M g1 _ w, g1, g2⟩
    · cases hi' with
      | some _ => exact h2.elim
      | none =>
        split at hh0
        · simp only [Option.some.injEq] at hh0; subst hh0
          cases mx' with
          | some _ => exact h3.elim
          | none =>
            refine ⟨fun _ => rfl, ?_, fun _ => Nat.le_refl _⟩
            have hmc := hm3 rfl
            cases hm : m0 with
            | none => rw [(hm2 hm).1]; exact hl
            | some k0 => rw [(hm1 k0 hm).1, hc k0 (hmc ▸ hm)]; exact hl
        · cases hh0
  obtain ⟨r2, hHM, hHl⟩ := hH
  have hL : (∀ w, ((match lo' with
        | some v => Instr.sliceBound v h0 (if mx'.isSome then .slice3C else .sliceB)
        | none => pure 0) : Sem Nat).run P w = .ok l0 w) ∧ l0 ≤ h0 := by
    unfold bndL at hl0
    split at hl0
    · simp only [Option.some.injEq] at hl0; subst hl0
      cases lo' with
      | some _ => exact h1.elim
      | none => exact ⟨fun _ => rfl, Nat.zero_le _⟩
    · cases lo' with
      | none => exact h1.elim
      | some v' =>
        obtain ⟨hk1, hk2⟩ := bnd_ok (P := P) hl0 h1
        exact ⟨fun w => hk2 h0 hk1 _ w, hk1⟩
  obtain ⟨r3, hle⟩ := hL
  refine ⟨M, fun w => ?_, hle, hHM, hMc, hm1, fun h0 => ⟨(hm2 h0).1, (hm2 h0).2, hHl h0⟩⟩
  have q1 := r1 w
  have q2 := r2 w
  have q3 := r3 w
  clear r1 r2 r3
  cases mx' <;> cases hi' <;> cases lo' <;> dsimp only at q1 q2 q3 <;> (try simp only [Sem.run_pure, Result.ok.injEq, and_true] at q1) <;>
    (try simp only [Sem.run_pure, run_stuck, reduceCtorEq, Result.ok.injEq, and_true] at q2) <;> (try simp only [Sem.run_pure, Result.ok.injEq, and_true, Option.isSome_none, Option.isSome_some, Bool.false_eq_true, if_false, if_true] at q3) <;>
    (try subst q1) <;> (try subst q2) <;> (try subst q3) <;> simp [Instr.sliceBounds, *]
omit [Val] in
theorem str_extract (s : List UInt8) (l h : Nat) : (⟨⟨s⟩⟩ : ByteArray).extract l h = ⟨⟨(s.drop l).take (h - l)⟩⟩ := by
  apply ByteArray.ext
  simp [List.extract_eq_take_drop]
theorem bndS_ok {d e : Sx} {v : Option AV} {v' : Option Value} (h : bndS d v = some e) (hv : VRO φ v v') :
    (v = none ∧ v' = none ∧ e = d) ∨ (v ≠ none ∧ ∃ k, v' = some (.int k e.eval)) := by
  unfold bndS at h
  split at h
  · simp only [Option.some.injEq] at h; subst h
    cases v' with
    | none => exact .inl ⟨rfl, rfl, rfl⟩
    | some _ => exact hv.elim
  · split at h
    · rename_i x k e' he
      simp only [Option.some.injEq] at h; subst h
      cases v' with
      | none => exact hv.elim
      | some y => exact .inr ⟨by simp, k, by rw [sxOf_ok he hv]⟩
    · cases h
omit [Val] in
theorem upto_nat {n m : Nat} (h : n ≤ m) : upto (n : Int) m = some n := by
  show (bif Nat.ble n m then some n else none) = some n
  rw [Nat.ble_eq_true_of_le h]; rfl
theorem partS_ok {dec : Bx → Option Bool} (hdec : ∀ b v, dec b = some v → b.eval = v) {e : Sx} {v : AV} {lo hi : Option AV} {lo' hi' : Option Value} (h : partS dec e lo hi = some v)
    {s : List UInt8} (hs : e.dat = .str s) {t : TypeId} (hu : P.underlying t = some .string) (h1 : VRO φ lo lo') (h2 : VRO φ hi hi') :
    ∃ v', (Instr.sliceAt t (.string ⟨⟨s⟩⟩) lo' hi' none).run P w = .ok v' w ∧ VR φ v v' := by
  unfold partS at h
  split at h
  · rename_i l hh hl hhh
    simp only [cond_eq_ite, Bool.and_eq_true] at h
    split at h
    · rename_i hb
      simp only [Option.some.injEq] at h; subst h
      have g1 := hdec _ _ (isT_ok hb.1.1)
      have g2 := hdec _ _ (isT_ok hb.1.2)
      have g3 := hdec _ _ (isT_ok hb.2)
      simp only [Bx.eval, compI, decide_eq_true_eq, sLen_eval hs] at g1 g2 g3
      have g1 : 0 ≤ l.eval := g1
      obtain ⟨n, hn⟩ : ∃ n : Nat, l.eval = n := ⟨l.eval.toNat, by omega⟩
      obtain ⟨m, hm⟩ : ∃ m : Nat, hh.eval = m := ⟨hh.eval.toNat, by omega⟩
      have hnm : n ≤ m := by omega
      have hms : m ≤ s.length := by omega
      have hbnd : ∃ lo2 hi2, boundsA s.length (some s.length) lo2 hi2 none = some (n, m, some s.length) ∧ VRO φ lo2 lo' ∧ VRO φ hi2 hi' := by
        rcases bndS_ok hhh h2 with ⟨_, rfl, rfl⟩ | ⟨_, k2, rfl⟩
        · rw [sLen_eval hs] at hm
          have hm : s.length = m := by omega
          rcases bndS_ok hl h1 with ⟨_, rfl, rfl⟩ | ⟨_, k1, rfl⟩
          · have hn : n = 0 := by
              have : (Sx.lit 0).eval = 0 := rfl
              omega
            subst hn
            exact ⟨none, none, by simp [boundsA, bndM, bndH, bndL, hm], trivial, trivial⟩
          · refine ⟨some (.int k1 (n : Int)), none, ?_, ?_, trivial⟩
            · simp [boundsA, bndM, bndH, bndL, bnd, hm]
              rw [upto_nat hnm]
            · rw [hn]; exact .int _ _
        · rcases bndS_ok hl h1 with ⟨_, rfl, rfl⟩ | ⟨_, k1, rfl⟩
          · have hn : n = 0 := by
              have : (Sx.lit 0).eval = 0 := rfl
              omega
            subst hn
            refine ⟨none, some (.int k2 (m : Int)), ?_, trivial, ?_⟩
            · simp [boundsA, bndM, bndH, bndL, bnd, topOf, upto_nat hms]
            · rw [hm]; exact .int _ _
          · refine ⟨some (.int k1 (n : Int)), some (.int k2 (m : Int)), ?_, ?_, ?_⟩
            · simp [boundsA, bndM, bndH, bndL, bnd, topOf, upto_nat hms, upto_nat hnm]
            · rw [hn]; exact .int _ _
            · rw [hm]; exact .int _ _
      obtain ⟨lo2, hi2, hbd, v1, v2⟩ := hbnd
      obtain ⟨M, r1, r2, r3, r4, r5, r6⟩ := boundsA_ok (P := P) (φ := φ) (b := false) hbd v1 v2 (lo' := lo') (hi' := hi') (mx' := none) trivial (fun k hk => by simpa using hk.symm) (Nat.le_refl _)
      refine ⟨.string ⟨⟨(s.drop n).take (m - n)⟩⟩, ?_, .vstr _ ?_⟩
      · have hsz : (⟨⟨s⟩⟩ : ByteArray).size = s.length := rfl
        simp only [Instr.sliceAt, Instr.slice, Sem.run_bind, run_und hu, Result.andThen_ok, hsz]
        simp [r1, str_extract]
      · show Dat.str (((e.dat.toS.take hh.dat.toI.toNat)).drop l.dat.toI.toNat) = _
        have e1 : hh.dat.toI = (m : Int) := hm
        have e2 : l.dat.toI = (n : Int) := hn
        rw [hs, e1, e2, Int.toNat_natCast, Int.toNat_natCast]
        show Dat.str ((s.take m).drop n) = _
        rw [List.drop_take]
    · cases h
  · cases h
theorem sliceA_ok (hwf : WF R φ w) {dec : Bx → Option Bool} (hdec : ∀ b v, dec b = some v → b.eval = v) {t : TypeId} {x v : AV} {lo hi mx : Option AV} {x' : Value} {lo' hi' mx' : Option Value} (h : sliceA P dec t x lo hi mx = some v) (hx : VR φ x x')
    (h1 : VRO φ lo lo') (h2 : VRO φ hi hi') (h3 : VRO φ mx mx') : ∃ v', (Instr.sliceAt t x' lo' hi' mx').run P w = .ok v' w ∧ VR φ v v' := by
  unfold sliceA at h
  split at h
  · rename_i e hu
    cases hx with
    | vstr s hs =>
      split at h
      · cases h
      · have h3' : mx' = none := by
          cases mx' with
          | none => rfl
          | some _ => exact h3.elim
        subst h3'
        exact partS_ok hdec h hs hu h1 h2
  · rename_i s hu
    cases hx
    split at h
    · cases h
    · split at h
      · rename_i l hh m hb
        simp only [Option.some.injEq] at h; subst h
        have h3' : mx' = none := by
          cases mx' with
          | none => rfl
          | some _ => exact h3.elim
        subst h3'
        obtain ⟨M, r1, r2, r3, r4, r5, r6⟩ := boundsA_ok (P := P) (φ := φ) (b := false) hb h1 h2 (lo' := lo') (hi' := hi') (mx' := none) trivial (fun k hk => by simpa using hk.symm) (Nat.le_refl _)
        refine ⟨.string ⟨⟨(s.drop l).take (hh - l)⟩⟩, ?_, .str _⟩
        have hsz : (⟨⟨s⟩⟩ : ByteArray).size = s.length := rfl
        simp only [Instr.sliceAt, Instr.slice, Sem.run_bind, run_und hu, Result.andThen_ok, hsz]
        simp [r1, str_extract]
      · cases h
  · rename_i e hu
    cases hx
    split at h
    · rename_i s l hh m hs hb
      simp only [Option.some.injEq] at h; subst h
      obtain ⟨M, r1, r2, r3, r4, r5, r6⟩ := boundsA_ok (P := P) (φ := φ) (b := true) hb h1 h2 h3 (c := 0) (fun k hk => by simpa using hk.symm) (Nat.le_refl _)
      have : M = 0 := by omega
      subst this
      have : hh = 0 := by omega
      subst this
      have : l = 0 := by omega
      subst this
      refine ⟨.slice none 0 0, ?_, .nils⟩
      simp only [Instr.sliceAt, Instr.slice, Sem.run_bind, run_und hu, Result.andThen_ok, r1, run_szOf hs]
      simp
    · cases h
  · rename_i e id ver off len cap esz hu
    cases hx with
    | slc ex o c he hd hh hl hc ho =>
      split at h
      · rename_i s l hi0 m hs hb
        simp only [cond_eq_ite] at h
        split at h
        · rename_i hbe
          have hbe := beq_t hbe; subst hbe
          obtain ⟨M, r1, r2, r3, r4, r5, r6⟩ := boundsA_ok (P := P) (φ := φ) (b := true) hb h1 h2 h3 (c := c) (fun k hk => (hc k hk).1) hl
          have hrun : (Instr.sliceAt t (.slice (some ⟨ex.blk, o, none⟩) len c) lo' hi' mx').run P w =
              .ok (.slice (some (if M = l then ⟨ex.blk, o, none⟩ else ⟨ex.blk, o + l * s, none⟩)) (hi0 - l) (M - l)) w := by
            simp only [Instr.sliceAt, Instr.slice, Sem.run_bind, run_und hu, Result.andThen_ok, r1, run_szOf hs, Sem.run_pure]
            split
            · rename_i hM; simp
            · rename_i hM; simp [add_off]
          refine ⟨_, hrun, ?_⟩
          cases m with
          | some m =>
            obtain ⟨rfl, hcl⟩ := r5 m rfl
            simp only [Option.some.injEq] at h; subst h
            have hMhi : off + M * s ≤ ex.hi := by
              cases cap with
              | none =>
                have := Nat.mul_le_mul_right s (hcl rfl)
                omega
              | some k =>
                have hk := hc k rfl
                have := Nat.mul_le_mul_right s (show M ≤ k by omega)
                omega
            by_cases hM : M = l
            · subst hM
              have : hi0 = M := by omega
              subst this
              simp only [if_true, Nat.sub_self]
              rw [if_pos (Nat.beq_refl hi0)]
              exact .slc ex o 0 he hd (by omega) (Nat.le_refl _) (fun k hk => by simp only [Option.some.injEq] at hk; subst hk; exact ⟨rfl, by omega⟩) (.inl rfl)
            · rw [if_neg hM]
              rw [if_neg (fun h => hM (beq_t h))]
              have hc0 : c ≠ 0 := by omega
              obtain ⟨ho1, ho2⟩ := ho.resolve_left hc0
              have e1 : l * s + (hi0 - l) * s = hi0 * s := by rw [← Nat.add_mul]; congr 1; omega
              have e2 : l * s + (M - l) * s = M * s := by rw [← Nat.add_mul]; congr 1; omega
              have e3 := Nat.mul_le_mul_right s r3
              have e4 := Nat.mul_le_mul_right s r4
              refine .slc ex (o + l * s) (M - l) he (by omega) (by omega) (by omega) (fun k hk => ?_) (.inr ⟨by omega, by omega⟩)
              simp only [Option.some.injEq] at hk; subst hk
              exact ⟨rfl, by omega⟩
          | none =>
            obtain ⟨rfl, hcn, hhl⟩ := r6 rfl
            simp only [Option.some.injEq] at h; subst h
            have e1 : l * s + (hi0 - l) * s = hi0 * s := by rw [← Nat.add_mul]; congr 1; omega
            have e3 := Nat.mul_le_mul_right s hhl
            by_cases hM : M = l
            · subst hM
              have : hi0 = M := by omega
              subst this
              simp only [if_true, Nat.sub_self]
              exact .slc ex o 0 he (by omega) (by omega) (Nat.le_refl _) (fun k hk => by cases hk) (.inl rfl)
            · rw [if_neg hM]
              have hc0 : M ≠ 0 := by omega
              obtain ⟨ho1, ho2⟩ := ho.resolve_left hc0
              have e2 : l * s + (M - l) * s = M * s := by rw [← Nat.add_mul]; congr 1; omega
              exact .slc ex (o + l * s) (M - l) he (by omega) (by omega) (by omega) (fun k hk => by cases hk) (.inr ⟨by omega, by omega⟩)
        · cases h
      · cases h
  · rename_i n e id ver off top hu
    cases hx with
    | ptr ex o he hd hh ho =>
      split at h
      · rename_i s l hi0 m hs hb
        simp only [cond_eq_ite] at h
        split at h
        · rename_i hbe
          have hbe := ble_t hbe
          simp only [Option.some.injEq] at h; subst h
          obtain ⟨M, r1, r2, r3, r4, r5, r6⟩ := boundsA_ok (P := P) (φ := φ) (b := false) hb h1 h2 h3 (c := n) (fun k hk => by simpa using hk.symm) (Nat.le_refl _)
          obtain ⟨rfl, _⟩ := r5 m rfl
          have hrun : (Instr.sliceAt t (.pointer (some ⟨ex.blk, o, none⟩)) lo' hi' mx').run P w =
              .ok (.slice (some (if M = l then ⟨ex.blk, o, none⟩ else ⟨ex.blk, o + l * s, none⟩)) (hi0 - l) (M - l)) w := by
            simp only [Instr.sliceAt, Instr.sureAddr, Sem.run_bind, run_und hu, Result.andThen_ok, r1, run_szOf hs, Sem.run_pure, add_off]
          refine ⟨_, hrun, ?_⟩
          have htop := hwf.top _ _ _ he
          have e3 := Nat.mul_le_mul_right s r3
          have e4 := Nat.mul_le_mul_right s r4
          by_cases hM : M = l
          · subst hM
            have : hi0 = M := by omega
            subst this
            simp only [if_true, Nat.sub_self]
            rw [if_pos (Nat.beq_refl hi0)]
            exact .slc ex o 0 he hd (by omega) (Nat.le_refl _) (fun k hk => by simp only [Option.some.injEq] at hk; subst hk; exact ⟨rfl, by omega⟩) (.inl rfl)
          · rw [if_neg hM]
            rw [if_neg (fun h => hM (beq_t h))]
            have e1 : l * s + (hi0 - l) * s = hi0 * s := by rw [← Nat.add_mul]; congr 1; omega
            have e2 : l * s + (M - l) * s = M * s := by rw [← Nat.add_mul]; congr 1; omega
            refine .slc ex (o + l * s) (M - l) he (by omega) (by omega) (by omega) (fun k hk => ?_) (.inr ⟨by omega, by omega⟩)
            simp only [Option.some.injEq] at hk; subst hk
            exact ⟨rfl, by omega⟩
        · cases h
      · cases h
  · cases h
end
end Go.Tw
namespace Go.Tw
section
variable [Val]
variable {P : Program} {R : Nat} {C : Cfg} {D : Nat → Prop} {φ : PM} {σ : St} {w : World}
theorem firstA_ok (hi : Inv R C D φ σ w) {size n : Nat} {x : AV} {x' : Value} {l : List AV} {σ' : St} (h : firstA size n x σ = some (l, σ')) (hx : VR φ x x') (hk : Known D σ σ') :
    ∃ arr : Array Value, (∀ w₂ : World, w₂.heap = w.heap → (Builtin.firstCells size n x').run P w₂ = .ok arr w₂) ∧ VRL φ l arr.toList ∧ l.length = n * size ∧ σ'.heap = σ.heap ∧ σ'.next = σ.next ∧ σ'.wr = σ.wr := by
  unfold firstA at h
  split at h
  · simp only [cond_eq_ite] at h
    split at h
    · rename_i hn
      have hn := beq_t hn; subst hn
      simp only [Option.some.injEq, Prod.mk.injEq] at h; obtain ⟨rfl, rfl⟩ := h
      cases hx
      exact ⟨#[], fun _ _ => rfl, .nil, by simp, rfl, rfl, rfl⟩
    · cases h
  · rename_i id ver off len cap esz
    simp only [cond_eq_ite, Bool.and_eq_true] at h
    split at h
    · rename_i hb
      have hb1 := beq_t hb.1; subst hb1
      have hb2 := ble_t hb.2
      cases hx with
      | slc e o c he hd hh hl hc ho =>
        split at h
        · rename_i hn
          have hn := beq_t hn; subst hn
          simp only [Option.some.injEq, Prod.mk.injEq] at h; obtain ⟨rfl, rfl⟩ := h
          exact ⟨#[], fun _ _ => by simp [Builtin.firstCells, loadCells, loadCellsFrom], .nil, by simp, rfl, rfl, rfl⟩
        · rename_i hn
          have hn0 : n ≠ 0 := fun h0 => hn (by simp [h0])
          split at h
          · rename_i l0 hl0
            simp only [Option.some.injEq, Prod.mk.injEq] at h; obtain ⟨rfl, rfl⟩ := h
            obtain ⟨_, ob, _, hob, _⟩ := readN_ok hl0
            have hdd : D id := hk id (.inl (mem_addL.2 (.inl rfl))) (hi.lt hob)
            have hm := Nat.mul_le_mul_right esz hb2
            obtain ⟨ho1, _⟩ := ho.resolve_left (by omega)
            obtain ⟨arr, r1, r2, r3, _⟩ := readN_run (P := P) hi hl0 hdd he hd (by omega) ho1
            exact ⟨arr, fun w₂ h₂ => by simpa [Builtin.firstCells] using r1 w₂ h₂, r2, r3, rfl, rfl, rfl⟩
          · cases h
    · cases h
  · rename_i s
    simp only [cond_eq_ite, Bool.and_eq_true] at h
    split at h
    · rename_i hb
      have hb1 := beq_t hb.1; subst hb1
      have hb2 := ble_t hb.2
      simp only [Option.some.injEq, Prod.mk.injEq] at h; obtain ⟨rfl, rfl⟩ := h
      cases hx
      refine ⟨((s.take n).map fun b => Value.int .u8 b.toNat).toArray, fun _ _ => ?_, by simpa using VRL.map_u8 (s.take n), by simp; omega, rfl, rfl, rfl⟩
      simp only [Builtin.firstCells, str_extract, List.drop_zero, Nat.sub_zero, Sem.run_pure]
      simp
    · cases h
  · cases h
theorem lenOfA_ok {x : AV} {x' : Value} {n : Nat} (h : lenOfA x = some n) (hx : VR φ x x') (w : World) : (Builtin.lenOf x').run P w = .ok n w := by
  unfold lenOfA at h
  split at h <;> first
    | (cases h; done)
    | (simp only [Option.some.injEq] at h; subst h; cases hx; rfl)
omit [Val] in
theorem nextslicecap_le (need old : Nat) (h : old < need) : Builtin.nextslicecap need old ≤ 2 * need + 1024 := by
  unfold Builtin.nextslicecap
  split
  · omega
  · split
    · omega
    · simp only [Builtin.growBy]
      repeat' split
      all_goals omega
omit [Val] in
theorem not_big {need sCap bw : Nat} (hn : sCap < need) (h : (2 * need + 1024) * bw ≤ 70368744177664) : ¬ (Builtin.nextslicecap need sCap * bw > 2 ^ 48) := by
  have h1 := nextslicecap_le need sCap hn
  have h2 := Nat.mul_le_mul_right bw h1
  have : (2 : Nat) ^ 48 = 281474976710656 := by decide
  omega
def AppR (P : Program) (e : TypeId) (i : TypeInfo) (u : TypeId) (n : Nat) (x : Value) (arr : Array Value) (w : World) : Prop :=
  (∃ d, P.underlying u = some d ∧ (∀ k, d ≠ .int k) ∧ (Builtin.lenOf x).run P w = .ok n w ∧ (Builtin.firstCells i.size n x).run P w = .ok arr w ∧ (Builtin.firstCells i.size n x).run P w.drew = .ok arr w.drew) ∨
  (∃ k k' z, P.underlying u = some (.int k) ∧ x = .int k' (Int.ofNat n) ∧ n ≤ 1099511627776 ∧ n * i.bytes ≤ 70368744177664 ∧ (∀ w, (zeroValue e).run P w = .ok z w) ∧
    arr = if n * i.size = 0 then #[] else Builtin.zeroCells z.cells n)
omit [Val] in
theorem run_append_fits {t u ty e : TypeId} {i : TypeInfo} {base : Option Addr} {sLen sCap n : Nat} {x : Value} {arr : Array Value} {w' : World}
    (ht : P.underlying t = some (.slice e)) (hi : P.info? e = some i) (ha : AppR P e i u n x arr w) (hle : sLen + n ≤ sCap)
    (hst : ((match base with | some a => storeCells (a.add (sLen * i.size)) arr.toList | none => pure ()) : Sem Unit).run P w = .ok () w') :
    (Builtin.append_ #[t, u] ty #[.slice base sLen sCap, x]).run P w = .ok (.slice base (sLen + n) sCap) w' := by
  have hsz : ∀ w, (sizeOf e).run P w = .ok i.size w := fun w => by simp [sizeOf, typeInfo, hi]
  have hti : ∀ w, (typeInfo e).run P w = .ok i w := fun w => by simp [typeInfo, hi]
  have a0 : (#[Value.slice base sLen sCap, x] : Array Value)[0]? = some (.slice base sLen sCap) := rfl
  have a1 : (#[Value.slice base sLen sCap, x] : Array Value)[1]? = some x := rfl
  have t0 : (#[t, u] : Array TypeId)[0]? = some t := rfl
  have t1 : (#[t, u] : Array TypeId)[1]? = some u := rfl
  unfold Builtin.append_
  rw [a0, a1, t0, t1]
  simp -zeta only [Sem.run_bind, run_und ht, hsz, Result.andThen_ok]
  extract_lets jq jp
  rcases ha with ⟨d, hu, hd, hl, hf, _⟩ | ⟨k, k', z, hu, rfl, hn1, hn2, hz, rfl⟩
  · rw [Sem.run_bind, run_und hu]
    simp -zeta only [Result.andThen_ok, Sem.run_bind, Sem.run_pure]
    simp -zeta only [jp]
    extract_lets jn
    rw [if_neg (by simp), Sem.run_bind, hl]
    simp -zeta only [Result.andThen_ok]
    simp -zeta only [jn]
    extract_lets app need
    rw [if_pos hle]
    have hap : Sem.run P app w = .ok arr w := hf
    rw [Sem.run_bind, hap]
    simp -zeta only [Result.andThen_ok]
    cases base with
    | none =>
      have hw : w = w' := by simpa using hst
      subst hw
      rfl
    | some a =>
      have hst' : (storeCells (a.add (sLen * i.size)) arr.toList).run P w = .ok () w' := hst
      have hb : ∀ (f : Unit → Sem Value), (storeCells (a.add (sLen * i.size)) arr.toList >>= f).run P w = (f ()).run P w' := fun f => by
        rw [Sem.run_bind, hst']; rfl
      exact hb _
  · rw [Sem.run_bind, run_und hu]
    simp -zeta only [Result.andThen_ok, Sem.run_bind, Sem.run_pure]
    simp -zeta only [jp]
    extract_lets jn
    rw [if_pos trivial, Sem.run_bind]
    simp -zeta only [asInt, asIntOf, Sem.run_bind, Sem.run_pure, Result.andThen_ok]
    extract_lets l jm jl
    have hwl : l = Int.ofNat n := wrap_ofNat (by omega)
    rw [if_neg (by rw [hwl]; exact Int.not_lt.2 (Int.natCast_nonneg n))]
    simp -zeta only [jl]
    rw [Sem.run_bind, hti]
    simp -zeta only [Result.andThen_ok]
    have hmul : (Int.ofNat n) * (i.bytes : Int) ≤ 70368744177664 := by
      show ((n * i.bytes : Nat) : Int) ≤ ((70368744177664 : Nat) : Int)
      exact Int.ofNat_le.2 hn2
    have h48 : ¬ (l * (i.bytes : Int) > 2 ^ 48) := by
      have : (2 : Int) ^ 48 = 281474976710656 := by decide
      rw [hwl]; omega
    rw [if_neg h48]
    simp -zeta only [jm]
    rw [Sem.run_bind, Sem.run_pure]
    simp -zeta only [Result.andThen_ok]
    have hln : l.toNat = n := by rw [hwl]; rfl
    rw [hln]
    simp -zeta only [jn]
    extract_lets app need
    rw [if_pos hle]
    have hap : Sem.run P app w = .ok (if n * i.size = 0 then #[] else Builtin.zeroCells z.cells n) w := by
      show Sem.run P (if (!true) = true then _ else _) w = _
      rw [if_neg (by simp)]
      split
      · rfl
      · simp [hz]
    rw [Sem.run_bind, hap]
    simp -zeta only [Result.andThen_ok]
    cases base with
    | none =>
      have hw : w = w' := by simpa using hst
      subst hw
      rfl
    | some a =>
      have hst' : (storeCells (a.add (sLen * i.size)) (if n * i.size = 0 then #[] else Builtin.zeroCells z.cells n).toList).run P w = .ok () w' := hst
      have hb : ∀ (f : Unit → Sem Value), (storeCells (a.add (sLen * i.size)) (if n * i.size = 0 then #[] else Builtin.zeroCells z.cells n : Array Value).toList >>= f).run P w = (f ()).run P w' := fun f => by
        rw [Sem.run_bind, hst']; rfl
      exact hb _
omit [Val] in
theorem run_append_grows {t u ty e : TypeId} {i : TypeInfo} {base : Option Addr} {sLen sCap n : Nat} {x z : Value} {arr old : Array Value}
    (ht : P.underlying t = some (.slice e)) (hi : P.info? e = some i) (ha : AppR P e i u n x arr w) (hz : ∀ w, (zeroValue e).run P w = .ok z w) (hg : ¬ sLen + n ≤ sCap)
    (hold : (Builtin.firstCells i.size sLen (.slice base sLen sCap)).run P w.drew = .ok old w.drew)
    (hs1 : sLen + n ≤ 9223372036854775807) (hs2 : ¬ (Builtin.nextslicecap (sLen + n) sCap * i.bytes > 2 ^ 48)) :
    ∃ c, sLen + n ≤ c ∧ (Builtin.append_ #[t, u] ty #[.slice base sLen sCap, x]).run P w =
      .ok (.slice (some ⟨w.heap.size, 0, none⟩) (sLen + n) c) (w.drew.alloc (.cells (old ++ arr ++ Builtin.zeroCells z.cells (c - (sLen + n))) e)) := by
  refine ⟨(Question.appendCap (sLen + n) sCap e).cut (w.tape w.drawn (.appendCap (sLen + n) sCap e)), by simp [Question.cut], ?_⟩
  have hsz : ∀ w, (sizeOf e).run P w = .ok i.size w := fun w => by simp [sizeOf, typeInfo, hi]
  have hti : ∀ w, (typeInfo e).run P w = .ok i w := fun w => by simp [typeInfo, hi]
  have a0 : (#[Value.slice base sLen sCap, x] : Array Value)[0]? = some (.slice base sLen sCap) := rfl
  have a1 : (#[Value.slice base sLen sCap, x] : Array Value)[1]? = some x := rfl
  have t0 : (#[t, u] : Array TypeId)[0]? = some t := rfl
  have t1 : (#[t, u] : Array TypeId)[1]? = some u := rfl
  have hmax : ¬ ((((sLen + n : Nat) : Int) > IntKind.i64.max)) := by
    have : IntKind.i64.max = 9223372036854775807 := by decide
    rw [this]; omega
  have hchoose : (choose (.appendCap (sLen + n) sCap e)).run P w = .ok ((Question.appendCap (sLen + n) sCap e).cut (w.tape w.drawn (.appendCap (sLen + n) sCap e))) w.drew := by
    simp [Question.forced]
  generalize (Question.appendCap (sLen + n) sCap e).cut (w.tape w.drawn (.appendCap (sLen + n) sCap e)) = c at hchoose ⊢
  unfold Builtin.append_
  rw [a0, a1, t0, t1]
  simp -zeta only [Sem.run_bind, run_und ht, hsz, Result.andThen_ok]
  extract_lets jq jp
  rcases ha with ⟨d, hu, hd, hl, _, hf⟩ | ⟨k, k', z', hu, rfl, hn1, hn2, hz', rfl⟩
  · rw [Sem.run_bind, run_und hu]
    simp -zeta only [Result.andThen_ok, Sem.run_bind, Sem.run_pure]
    simp -zeta only [jp]
    extract_lets jn
    rw [if_neg (by simp), Sem.run_bind, hl]
    simp -zeta only [Result.andThen_ok]
    simp -zeta only [jn]
    extract_lets app need j1 jy jx
    have hneed : need = sLen + n := rfl
    rw [if_neg hg, Sem.run_bind, hti]
    simp -zeta only [Result.andThen_ok]
    rw [if_neg (fun h => hmax h.1)]
    simp -zeta only [jx]
    rw [Sem.run_bind, hti]
    simp -zeta only [Result.andThen_ok]
    rw [if_neg hs2]
    simp -zeta only [jy]
    rw [Sem.run_bind, hneed, hchoose]
    have hap : Sem.run P app w.drew = .ok arr w.drew := hf
    simp [hti, hold, hap, hz, newRow]
  · rw [Sem.run_bind, run_und hu]
    simp -zeta only [Result.andThen_ok, Sem.run_bind, Sem.run_pure]
    simp -zeta only [jp]
    extract_lets jn
    rw [if_pos trivial, Sem.run_bind]
    simp -zeta only [asInt, asIntOf, Sem.run_bind, Sem.run_pure, Result.andThen_ok]
    extract_lets l jm jl
    have hwl : l = Int.ofNat n := wrap_ofNat (by omega)
    rw [if_neg (by rw [hwl]; exact Int.not_lt.2 (Int.natCast_nonneg n))]
    simp -zeta only [jl]
    rw [Sem.run_bind, hti]
    simp -zeta only [Result.andThen_ok]
    have hmul : (Int.ofNat n) * (i.bytes : Int) ≤ 70368744177664 := by
      show ((n * i.bytes : Nat) : Int) ≤ ((70368744177664 : Nat) : Int)
      exact Int.ofNat_le.2 hn2
    have h48 : ¬ (l * (i.bytes : Int) > 2 ^ 48) := by
      have : (2 : Int) ^ 48 = 281474976710656 := by decide
      rw [hwl]; omega
    rw [if_neg h48]
    simp -zeta only [jm]
    rw [Sem.run_bind, Sem.run_pure]
    simp -zeta only [Result.andThen_ok]
    have hln : l.toNat = n := by rw [hwl]; rfl
    rw [hln]
    simp -zeta only [jn]
    extract_lets app need j1 jy jx
    have hneed : need = sLen + n := rfl
    rw [if_neg hg, Sem.run_bind, hti]
    simp -zeta only [Result.andThen_ok]
    rw [if_neg (fun h => hmax h.1)]
    simp -zeta only [jx]
    rw [Sem.run_bind, hti]
    simp -zeta only [Result.andThen_ok]
    rw [if_neg hs2]
    simp -zeta only [jy]
    rw [Sem.run_bind, hneed, hchoose]
    have hap : Sem.run P app w.drew = .ok (if n * i.size = 0 then #[] else Builtin.zeroCells z'.cells n) w.drew := by
      show Sem.run P (if (!true) = true then _ else _) w.drew = _
      rw [if_neg (by simp)]
      split
      · rfl
      · simp [hz']
    simp [hti, hold, hap, hz, newRow]
end
end Go.Tw
