/-
  A part of the proof that the abstract evaluator is sound for the model's machine. Conditions: those of each theorem, as it states them.
-/
import Derived.Test.YtbbnjiceenjhcaaGreatDoorTwOps4
set_option linter.all false
namespace Go.Tw
section
variable [Val]
variable {P : Program} {R : Nat} {C : Cfg} {D : Nat → Prop} {φ : PM} {σ : St} {w : World}

omit [Val] in
theorem plainKey_desc {t : TypeId} {d : TypeDesc} (h : plainKey P t = some d) : P.underlying t = some d ∧ ((∃ k, d = .int k) ∨ d = .string ∨ d = .bool) := by
  unfold plainKey at h
  split at h <;> first
    | (cases h; done)
    | (simp only [Option.some.injEq] at h; subst h; rename_i hu; exact ⟨hu, by simp⟩)

omit [Val] in
theorem keyFits_desc {t : TypeId} {k : AV} (h : keyFits P t k = true) : ∃ d, P.underlying t = some d ∧ ((∃ k, d = .int k) ∨ d = .string ∨ d = .bool) ∧
    ((∃ j n ik, d = .int ik ∧ k = .int j n) ∨ (∃ s, d = .string ∧ k = .str s) ∨ (∃ b, d = .bool ∧ k = .bool b)) := by
  unfold keyFits at h
  split at h
  · rename_i hk; obtain ⟨a, b⟩ := plainKey_desc hk; exact ⟨_, a, b, .inl ⟨_, _, _, rfl, rfl⟩⟩
  · rename_i hk; obtain ⟨a, b⟩ := plainKey_desc hk; exact ⟨_, a, b, .inr (.inl ⟨_, rfl, rfl⟩)⟩
  · rename_i hk; obtain ⟨a, b⟩ := plainKey_desc hk; exact ⟨_, a, b, .inr (.inr ⟨_, rfl, rfl⟩)⟩
  · cases h

theorem checkKey_suc {t : TypeId} {k : AV} {k' : Value} (h : keyFits P t k = true) (hk : VR φ k k') (b : Bool) (w : World) (n : Nat) : (Instr.checkKey b (n + 1) t k').run P w = .ok () w := by
  obtain ⟨d, hu, _, hc⟩ := keyFits_desc h
  rcases hc with ⟨j, n, ik, rfl, rfl⟩ | ⟨s, rfl, rfl⟩ | ⟨b, rfl, rfl⟩ <;> cases hk <;> simp only [Instr.checkKey, Sem.run_bind, run_und hu, Result.andThen_ok] <;> rfl
theorem checkKey_ok {t : TypeId} {k : AV} {k' : Value} (h : keyFits P t k = true) (hk : VR φ k k') (b : Bool) (w : World) : (Instr.checkKey b 10000 t k').run P w = .ok () w :=
  checkKey_suc h hk b w 9999

theorem sameKey_ok {d : TypeDesc} {x y : AV} {x' y' : Value} {b : Bool} (h : sameKey x y = some b) (hx : VR φ x x') (hy : VR φ y y')
    (hd : (∃ j n ik, d = .int ik ∧ x = .int j n) ∨ (∃ s, d = .string ∧ x = .str s) ∨ (∃ b, d = .bool ∧ x = .bool b)) : Instr.sameNow d x' y' = some b := by
  rcases hd with ⟨j, n, ik, rfl, rfl⟩ | ⟨s, rfl, rfl⟩ | ⟨c, rfl, rfl⟩
  · cases hx
    cases hy <;> simp only [sameKey, reduceCtorEq] at h
    simpa [Instr.sameNow] using h
  · cases hx
    cases hy <;> simp only [sameKey, reduceCtorEq] at h
    simpa [Instr.sameNow, str_beq] using h
  · cases hx
    cases hy <;> simp only [sameKey, reduceCtorEq] at h
    simpa [Instr.sameNow] using h

theorem findA_ok {d : TypeDesc} {k : AV} {k' : Value} (hk : VR φ k k')
    (hd : (∃ j n ik, d = .int ik ∧ k = .int j n) ∨ (∃ s, d = .string ∧ k = .str s) ∨ (∃ b, d = .bool ∧ k = .bool b)) :
    ∀ {es : List (AV × AV × Nat)} {es' : List MapEntry} {i : Nat} {r : Option (Nat × AV)}, ER φ es es' → findA k es i = some r →
      (r = none → Instr.findNow d k' es' i = some none) ∧ (∀ j v, r = some (j, v) → ∃ v', Instr.findNow d k' es' i = some (some (j, v')) ∧ VR φ v v' ∧ i ≤ j ∧
        ∃ q n, es[j - i]? = some (q, v, n) ∧ sameKey k q = some true) := by
  intro es
  induction es with
  | nil =>
    intro es' i r he h
    cases he
    simp only [findA, Option.some.injEq] at h; subst h
    exact ⟨fun _ => rfl, fun j v h => (by cases h)⟩
  | cons p es ih =>
    intro es' i r he h
    cases he with
    | cons hk' hv ht =>
      rename_i q v n q' v' l'
      simp only [findA] at h
      split at h
      · rename_i hs
        simp only [Option.some.injEq] at h; subst h
        refine ⟨fun h => (by cases h), fun j u h => ?_⟩
        simp only [Option.some.injEq, Prod.mk.injEq] at h
        obtain ⟨rfl, rfl⟩ := h
        refine ⟨v', ?_, hv, Nat.le_refl _, q, n, by simp, hs⟩
        simp only [Instr.findNow, sameKey_ok hs hk hk' hd]
      · rename_i hs
        obtain ⟨h1, h2⟩ := ih ht h
        refine ⟨fun hr => ?_, fun j u hr => ?_⟩
        · simp only [Instr.findNow, sameKey_ok hs hk hk' hd]; exact h1 hr
        · obtain ⟨u', g1, g2, g3, q0, n0, g4, g5⟩ := h2 j u hr
          refine ⟨u', ?_, g2, by omega, q0, n0, ?_, g5⟩
          · simp only [Instr.findNow, sameKey_ok hs hk hk' hd]; exact g1
          · rw [show j - i = j - (i + 1) + 1 by omega]; simpa using g4
      · cases h

theorem lookupA_ok (hi : Inv R C D φ σ w) {t : TypeId} {x k v : AV} {x' k' : Value} {ok : Bool} {σ' : St} (h : lookupA P t x k ok σ = some (v, σ')) (hx : VR φ x x') (hk : VR φ k k')
    (hkn : Known D σ σ') : ∃ v', (Instr.lookup t x' k' ok).run P w = .ok v' w ∧ VR φ v v' ∧ Post R D φ σ w σ' φ w := by
  unfold lookupA at h
  split at h
  · rename_i kt et hu
    simp only [cond_eq_ite] at h
    split at h
    · rename_i hfit
      obtain ⟨d, hku, _, hd⟩ := keyFits_desc hfit
      split at h
      · cases h
      · rename_i es τ he
        have key : ∀ (es' : Array MapEntry), ER φ es es'.toList → ((∃ j u', Instr.findNow d k' es'.toList 0 = some (some (j, u')) ∧ VR φ v (if ok then .tuple #[u', .bool true] else u')) ∨
            (Instr.findNow d k' es'.toList 0 = some none ∧ ∃ z', (∀ w, (zeroValue et).run P w = .ok z' w) ∧ VR φ v (if ok then .tuple #[z', .bool false] else z'))) ∧ σ' = τ := by
          intro es' her
          split at h
          · cases h
          · rename_i j u hf
            obtain ⟨_, h2⟩ := findA_ok hk hd her hf
            obtain ⟨u', g1, g2, _⟩ := h2 j u rfl
            simp only [Option.some.injEq, Prod.mk.injEq] at h
            obtain ⟨rfl, rfl⟩ := h
            refine ⟨.inl ⟨j, u', g1, ?_⟩, rfl⟩
            cases ok
            · exact g2
            · exact .tup _ (.cons g2 (.cons (.bool _) .nil))
          · rename_i hf
            obtain ⟨h1, _⟩ := findA_ok hk hd her hf
            have g1 := h1 rfl
            split at h
            · rename_i z hz
              obtain ⟨z', rz, vz⟩ := run_zero hz
              simp only [Option.some.injEq, Prod.mk.injEq] at h
              obtain ⟨rfl, rfl⟩ := h
              refine ⟨.inr ⟨g1, z', rz, ?_⟩, rfl⟩
              cases ok
              · exact vz φ
              · exact .tup _ (.cons (vz φ) (.cons (.bool _) .nil))
            · cases h
        split at he
        · cases hx
          simp only [Option.some.injEq, Prod.mk.injEq] at he
          obtain ⟨rfl, rfl⟩ := he
          obtain ⟨hr, rfl⟩ := key #[] .nil
          rcases hr with ⟨j, u', g1, r2⟩ | ⟨g1, z', rz, r2⟩
          · refine ⟨_, ?_, r2, .same hi rfl rfl rfl⟩
            have g1 : Instr.findNow d k' [] 0 = some (some (j, u')) := by simpa using g1
            simp [Instr.lookup, run_und hu, checkKey_ok hfit hk, Instr.findKey, run_und hku, g1]
          · refine ⟨_, ?_, r2, .same hi rfl rfl rfl⟩
            have g1 : Instr.findNow d k' [] 0 = some none := by simpa using g1
            simp [Instr.lookup, run_und hu, checkKey_ok hfit hk, Instr.findKey, run_und hku, g1, rz]
        · rename_i id
          cases hx with
          | map e hee =>
            split at he
            · rename_i es0 clock ho
              simp only [Option.some.injEq, Prod.mk.injEq] at he
              obtain ⟨rfl, rfl⟩ := he
              have hlt := hi.lt ho
              have hd' : D id := by
                have hmem : id ∈ σ'.rd := by
                  split at h
                  · cases h
                  · simp only [Option.some.injEq, Prod.mk.injEq] at h; obtain ⟨_, rfl⟩ := h; exact mem_addL.2 (.inl rfl)
                  · split at h
                    · simp only [Option.some.injEq, Prod.mk.injEq] at h; obtain ⟨_, rfl⟩ := h; exact mem_addL.2 (.inl rfl)
                    · cases h
                exact hkn id (.inl hmem) hlt
              obtain ⟨hR, e', es', he', hb, her⟩ := hi.at ho hd'
              rw [hee] at he'; simp only [Option.some.injEq] at he'; subst he'
              obtain ⟨hr, rfl⟩ := key es' her
              rcases hr with ⟨j, u', g1, r2⟩ | ⟨g1, z', rz, r2⟩
              · exact ⟨_, by simp [Instr.lookup, run_und hu, run_getObj hb, checkKey_ok hfit hk, Instr.findKey, run_und hku, g1], r2, .same hi rfl rfl rfl⟩
              · exact ⟨_, by simp [Instr.lookup, run_und hu, run_getObj hb, checkKey_ok hfit hk, Instr.findKey, run_und hku, g1, rz], r2, .same hi rfl rfl rfl⟩
            · cases he
        · cases he
    · cases h
  · cases h

theorem ER.length {es : List (AV × AV × Nat)} {es' : List MapEntry} (h : ER φ es es') : es'.length = es.length := by
  induction h with
  | nil => rfl
  | cons _ _ _ ih => simp [ih]
theorem ER.get {es : List (AV × AV × Nat)} {es' : List MapEntry} (h : ER φ es es') {i : Nat} {q v : AV} {n : Nat} (hi : es[i]? = some (q, v, n)) :
    ∃ e, es'[i]? = some e ∧ VR φ q e.key ∧ VR φ v e.val ∧ e.born = n := by
  induction h generalizing i with
  | nil => simp at hi
  | cons h1 h2 _ ih =>
    cases i with
    | zero => simp at hi; obtain ⟨rfl, rfl, rfl⟩ := hi; exact ⟨_, rfl, h1, h2, rfl⟩
    | succ i => simpa using ih (by simpa using hi)

theorem ER.mod {es : List (AV × AV × Nat)} {es' : List MapEntry} (h : ER φ es es') {k v : AV} {k' v' : Value} (hk : VR φ k k') (hv : VR φ v v') :
    ∀ i, ER φ (modE i (fun e => (k, v, e.2.2)) es) (es'.modify i fun e => { e with key := k', val := v' }) := by
  induction h with
  | nil => intro i; cases i <;> exact .nil
  | cons h1 h2 ht ih =>
    intro i
    cases i with
    | zero => exact .cons hk hv ht
    | succ i => simpa [modE] using ER.cons h1 h2 (ih i)

theorem sameBits_ok {x y : AV} {x' y' : Value} (h : sameKey x y = some true) (hx : VR φ x x') (hy : VR φ y y') : Instr.sameBits 10000 y' x' = true := by
  cases hx <;> cases hy <;> simp only [sameKey, reduceCtorEq, Option.some.injEq, beq_iff_eq] at h
  · subst h; simp [Instr.sameBits]
  · split at h
    · rename_i hk; simp only [Option.some.injEq, beq_iff_eq] at h; subst h; subst hk; simp [Instr.sameBits]
    · cases h
  · subst h; simp [Instr.sameBits, str_beq]

theorem updateA_ok (hi : Inv R C D φ σ w) {t : TypeId} {x k v : AV} {x' k' v' : Value} {σ' : St} (h : updateA P t x k v σ = some σ') (hx : VR φ x x') (hk : VR φ k k') (hv : VR φ v v')
    (hkn : Known D σ σ') : ∃ w', (Instr.mapUpdate t x' k' v').run P w = .ok () w' ∧ Post R D φ σ w σ' φ w' := by
  unfold updateA at h
  split at h
  · rename_i kt et id hu
    cases hx with
    | map e he =>
      simp only [cond_eq_ite] at h
      split at h
      · rename_i hfit
        obtain ⟨d, hku, _, hd⟩ := keyFits_desc hfit
        split at h
        · rename_i es clock ho
          have hlt := hi.lt ho
          have hdd : D id := by
            have hmem : id ∈ σ'.wr := by
              split at h
              · cases h
              · simp only [Option.some.injEq] at h; subst h; exact mem_addL.2 (.inl rfl)
              · simp only [Option.some.injEq] at h; subst h; exact mem_addL.2 (.inl rfl)
            exact hkn id (.inr hmem) hlt
          obtain ⟨hR, e', es', he', hb, her⟩ := hi.at ho hdd
          rw [he] at he'; simp only [Option.some.injEq] at he'; subst he'
          split at h
          · cases h
          · rename_i i u hf
            obtain ⟨_, h2⟩ := findA_ok hk hd her hf
            obtain ⟨u', g1, g2, _, q, n, g4, g5⟩ := h2 i u rfl
            simp only [Nat.sub_zero] at g4
            obtain ⟨me, m1, m2, m3, m4⟩ := her.get g4
            simp only [Option.some.injEq] at h; subst h
            have hm1 : es'[i]? = some me := by simpa using m1
            refine ⟨wset w e.blk (.map (es'.modify i fun e => { e with key := k', val := v' }) clock), ?_, ?_⟩
            · simp [Instr.mapUpdate, run_und hu, run_getObj hb, checkKey_ok hfit hk, Instr.findKey, run_und hku, g1, hm1, Instr.keyThatStays, sameBits_ok g5 hk m2, run_setObj hb]
            · refine .change hi hR hlt he ⟨hR, e, _, he, wset_same _ _ _ (heap_lt hb), ?_⟩
              have := her.mod hk hv i
              simpa using this
          · rename_i hf
            obtain ⟨h1, _⟩ := findA_ok hk hd her hf
            have g1 := h1 rfl
            simp only [Option.some.injEq] at h; subst h
            refine ⟨wset w e.blk (.map (es'.push { key := k', val := v', born := clock }) (clock + 1)), ?_, ?_⟩
            · simp [Instr.mapUpdate, run_und hu, run_getObj hb, checkKey_ok hfit hk, Instr.findKey, run_und hku, g1, run_setObj hb]
            · refine .change hi hR hlt he ⟨hR, e, _, he, wset_same _ _ _ (heap_lt hb), ?_⟩
              have := her.append (.cons hk hv .nil : ER φ [(k, v, clock)] [{ key := k', val := v', born := clock }])
              simpa using this
        · cases h
      · cases h
  · cases h

theorem lenA_ok (hi : Inv R C D φ σ w) {t ty : TypeId} {x v : AV} {x' : Value} {ts : Array TypeId} {σ' : St} (h : lenA P t x σ = some (v, σ')) (hx : VR φ x x') (hkn : Known D σ σ') (ht : ts[0]? = some t) :
    ∃ v', (Builtin.len_ ts ty #[x']).run P w = .ok v' w ∧ VR φ v v' ∧ Post R D φ σ w σ' φ w := by
  unfold lenA at h
  split at h
  case h_1 s hu =>
    simp only [Option.some.injEq, Prod.mk.injEq] at h; obtain ⟨rfl, rfl⟩ := h
    cases hx
    exact ⟨goInt s.length, by simp [Builtin.len_, ht, run_und hu]; rfl, .int _ _, .same hi rfl rfl rfl⟩
  case h_2 ex hu =>
    simp only [Option.some.injEq, Prod.mk.injEq] at h; obtain ⟨rfl, rfl⟩ := h
    cases hx with
    | sstr s hs =>
      refine ⟨goInt s.size, by simp [Builtin.len_, ht, run_und hu], ?_, .same hi rfl rfl rfl⟩
      show VR φ _ (.int .i64 _)
      rw [hs]; exact .sym _ _
  case h_3 e ex hu =>
    simp only [Option.some.injEq, Prod.mk.injEq] at h; obtain ⟨rfl, rfl⟩ := h
    cases hx with
    | sslc a n c hs =>
      refine ⟨goInt n, by simp [Builtin.len_, ht, run_und hu], ?_, .same hi rfl rfl rfl⟩
      show VR φ _ (.int .i64 _)
      rw [hs]; exact .sym _ _
  case h_4 n e hu =>
    simp only [Option.some.injEq, Prod.mk.injEq] at h; obtain ⟨rfl, rfl⟩ := h
    exact ⟨goInt n, by simp [Builtin.len_, ht, run_und hu], .int _ _, .same hi rfl rfl rfl⟩
  case h_5 a hu =>
    split at h
    · rename_i n e hu2
      simp only [Option.some.injEq, Prod.mk.injEq] at h
      obtain ⟨rfl, rfl⟩ := h
      exact ⟨goInt n, by simp [Builtin.len_, ht, run_und hu, run_und hu2], .int _ _, .same hi rfl rfl rfl⟩
    · cases h
  case h_6 n _ _ hu =>
    simp only [Option.some.injEq, Prod.mk.injEq] at h; obtain ⟨rfl, rfl⟩ := h
    cases hx
    exact ⟨goInt n, by simp [Builtin.len_, ht, run_und hu], .int _ _, .same hi rfl rfl rfl⟩
  case h_7 hu =>
    simp only [Option.some.injEq, Prod.mk.injEq] at h; obtain ⟨rfl, rfl⟩ := h
    cases hx
    exact ⟨goInt 0, by simp [Builtin.len_, ht, run_und hu], .int _ _, .same hi rfl rfl rfl⟩
  case h_8 hu =>
    simp only [Option.some.injEq, Prod.mk.injEq] at h; obtain ⟨rfl, rfl⟩ := h
    cases hx
    exact ⟨goInt 0, by simp [Builtin.len_, ht, run_und hu], .int _ _, .same hi rfl rfl rfl⟩
  case h_9 k e id hu =>
    split at h
    · rename_i es clock ho
      simp only [Option.some.injEq, Prod.mk.injEq] at h
      obtain ⟨rfl, rfl⟩ := h
      cases hx with
      | map ex he =>
        have hd : D id := hkn id (.inl (mem_addL.2 (.inl rfl))) (hi.lt ho)
        obtain ⟨hR, e', es', he', hb, her⟩ := hi.at ho hd
        rw [he] at he'; simp only [Option.some.injEq] at he'; subst he'
        refine ⟨goInt es'.size, by simp [Builtin.len_, ht, run_und hu, run_getObj hb], ?_, .same hi rfl rfl rfl⟩
        have := her.length
        have hs : es'.size = es.length := by simpa using this
        rw [hs]; exact .int _ _
    · cases h
  case h_10 => cases h

theorem capA_ok {t ty : TypeId} {x v : AV} {x' : Value} {ts : Array TypeId} (h : capA P t x = some v) (hx : VR φ x x') (ht : ts[0]? = some t) (w : World) :
    ∃ v', (Builtin.cap_ ts ty #[x']).run P w = .ok v' w ∧ VR φ v v' := by
  unfold capA at h
  split at h
  · rename_i hu
    simp only [Option.some.injEq] at h; subst h
    exact ⟨goInt _, by simp [Builtin.cap_, ht, run_und hu], .int _ _⟩
  · rename_i hu
    split at h
    · rename_i hu2
      simp only [Option.some.injEq] at h; subst h
      exact ⟨goInt _, by simp [Builtin.cap_, ht, run_und hu, run_und hu2], .int _ _⟩
    · cases h
  · rename_i hu
    cases hx with
    | slc e o c he hd hh hl hc ho =>
      simp only [Option.some.injEq] at h; subst h
      have := (hc _ rfl).1
      subst this
      exact ⟨goInt _, by simp [Builtin.cap_, ht, run_und hu], .int _ _⟩
  · rename_i hu
    cases hx
    simp only [Option.some.injEq] at h; subst h
    exact ⟨goInt _, by simp [Builtin.cap_, ht, run_und hu], .int _ _⟩
  · cases h
end
end Go.Tw
