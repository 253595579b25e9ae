/-
  A part of the proof that the abstract evaluator is sound for the model's machine. Conditions: those of each theorem, as it states them.
-/
import Derived.Test.YtbbnjiceenjhcaaGreatDoorTwOps6
set_option linter.all false
namespace Go.Tw
section
variable [Val]
variable {P : Program} {R : Nat} {C : Cfg} {D : Nat → Prop} {φ : PM} {σ : St} {w : World}

theorem firstA_ok (hi : Inv R C D φ σ w) {size n : Nat} {x : AV} {x' : Value} {l : List AV} {σ' : St} (h : firstA size n x σ = some (l, σ')) (hx : VR φ x x') (hk : Known D σ σ') :
    ∃ arr : Array Value, (∀ w₂ : World, w₂.heap = w.heap → (Builtin.firstCells size n x').run P w₂ = .ok arr w₂) ∧ VRL φ l arr.toList ∧ l.length = n * size ∧ σ'.heap = σ.heap ∧ σ'.next = σ.next ∧ σ'.wr = σ.wr := by
  unfold firstA at h
  split at h
  · simp only [cond_eq_ite] at h
    split at h
    · rename_i hn
      have hn := beq_t hn; subst hn
      simp only [Option.some.injEq, Prod.mk.injEq] at h; obtain ⟨rfl, rfl⟩ := h
      cases hx
      exact ⟨#[], fun _ _ => rfl, .nil, by simp, rfl, rfl, rfl⟩
    · cases h
  · rename_i id ver off len cap esz
    simp only [cond_eq_ite, Bool.and_eq_true] at h
    split at h
    · rename_i hb
      have hb1 := beq_t hb.1; subst hb1
      have hb2 := ble_t hb.2
      cases hx with
      | slc e o c he hd hh hl hc ho =>
        split at h
        · rename_i hn
          have hn := beq_t hn; subst hn
          simp only [Option.some.injEq, Prod.mk.injEq] at h; obtain ⟨rfl, rfl⟩ := h
          exact ⟨#[], fun _ _ => by simp [Builtin.firstCells, loadCells, loadCellsFrom], .nil, by simp, rfl, rfl, rfl⟩
        · rename_i hn
          have hn0 : n ≠ 0 := fun h0 => hn (by simp [h0])
          split at h
          · rename_i l0 hl0
            simp only [Option.some.injEq, Prod.mk.injEq] at h; obtain ⟨rfl, rfl⟩ := h
            obtain ⟨_, ob, _, hob, _⟩ := readN_ok hl0
            have hdd : D id := hk id (.inl (mem_addL.2 (.inl rfl))) (hi.lt hob)
            have hm := Nat.mul_le_mul_right esz hb2
            obtain ⟨ho1, _⟩ := ho.resolve_left (by omega)
            obtain ⟨arr, r1, r2, r3, _⟩ := readN_run (P := P) hi hl0 hdd he hd (by omega) ho1
            exact ⟨arr, fun w₂ h₂ => by simpa [Builtin.firstCells] using r1 w₂ h₂, r2, r3, rfl, rfl, rfl⟩
          · cases h
    · cases h
  · rename_i s
    simp only [cond_eq_ite, Bool.and_eq_true] at h
    split at h
    · rename_i hb
      have hb1 := beq_t hb.1; subst hb1
      have hb2 := ble_t hb.2
      simp only [Option.some.injEq, Prod.mk.injEq] at h; obtain ⟨rfl, rfl⟩ := h
      cases hx
      refine ⟨((s.take n).map fun b => Value.int .u8 b.toNat).toArray, fun _ _ => ?_, by simpa using VRL.map_u8 (s.take n), by simp; omega, rfl, rfl, rfl⟩
      simp only [Builtin.firstCells, str_extract, List.drop_zero, Nat.sub_zero, Sem.run_pure]
      simp
    · cases h
  · cases h

theorem lenOfA_ok {x : AV} {x' : Value} {n : Nat} (h : lenOfA x = some n) (hx : VR φ x x') (w : World) : (Builtin.lenOf x').run P w = .ok n w := by
  unfold lenOfA at h
  split at h <;> first
    | (cases h; done)
    | (simp only [Option.some.injEq] at h; subst h; cases hx; rfl)

omit [Val] in
theorem nextslicecap_le (need old : Nat) (h : old < need) : Builtin.nextslicecap need old ≤ 2 * need + 1024 := by
  unfold Builtin.nextslicecap
  split
  · omega
  · split
    · omega
    · simp only [Builtin.growBy]
      repeat' split
      all_goals omega

omit [Val] in
theorem not_big {need sCap bw : Nat} (hn : sCap < need) (h : (2 * need + 1024) * bw ≤ 70368744177664) : ¬ (Builtin.nextslicecap need sCap * bw > 2 ^ 48) := by
  have h1 := nextslicecap_le need sCap hn
  have h2 := Nat.mul_le_mul_right bw h1
  have : (2 : Nat) ^ 48 = 281474976710656 := by decide
  omega

/-- What is appended: the cells of n elements. -/
def AppR (P : Program) (e : TypeId) (i : TypeInfo) (u : TypeId) (n : Nat) (x : Value) (arr : Array Value) (w : World) : Prop :=
  (∃ d, P.underlying u = some d ∧ (∀ k, d ≠ .int k) ∧ (Builtin.lenOf x).run P w = .ok n w ∧ (Builtin.firstCells i.size n x).run P w = .ok arr w ∧ (Builtin.firstCells i.size n x).run P w.drew = .ok arr w.drew) ∨
  (∃ k k' z, P.underlying u = some (.int k) ∧ x = .int k' (Int.ofNat n) ∧ n ≤ 1099511627776 ∧ n * i.bytes ≤ 70368744177664 ∧ (∀ w, (zeroValue e).run P w = .ok z w) ∧
    arr = if n * i.size = 0 then #[] else Builtin.zeroCells z.cells n)

omit [Val] in
theorem run_append_fits {t u ty e : TypeId} {i : TypeInfo} {base : Option Addr} {sLen sCap n : Nat} {x : Value} {arr : Array Value} {w' : World}
    (ht : P.underlying t = some (.slice e)) (hi : P.info? e = some i) (ha : AppR P e i u n x arr w) (hle : sLen + n ≤ sCap)
    (hst : ((match base with | some a => storeCells (a.add (sLen * i.size)) arr.toList | none => pure ()) : Sem Unit).run P w = .ok () w') :
    (Builtin.append_ #[t, u] ty #[.slice base sLen sCap, x]).run P w = .ok (.slice base (sLen + n) sCap) w' := by
  have hsz : ∀ w, (sizeOf e).run P w = .ok i.size w := fun w => by simp [sizeOf, typeInfo, hi]
  have hti : ∀ w, (typeInfo e).run P w = .ok i w := fun w => by simp [typeInfo, hi]
  have a0 : (#[Value.slice base sLen sCap, x] : Array Value)[0]? = some (.slice base sLen sCap) := rfl
  have a1 : (#[Value.slice base sLen sCap, x] : Array Value)[1]? = some x := rfl
  have t0 : (#[t, u] : Array TypeId)[0]? = some t := rfl
  have t1 : (#[t, u] : Array TypeId)[1]? = some u := rfl
  unfold Builtin.append_
  rw [a0, a1, t0, t1]
  simp -zeta only [Sem.run_bind, run_und ht, hsz, Result.andThen_ok]
  extract_lets jq jp
  rcases ha with ⟨d, hu, hd, hl, hf, _⟩ | ⟨k, k', z, hu, rfl, hn1, hn2, hz, rfl⟩
  · rw [Sem.run_bind, run_und hu]
    simp -zeta only [Result.andThen_ok, Sem.run_bind, Sem.run_pure]
    simp -zeta only [jp]
    extract_lets jn
    rw [if_neg (by simp), Sem.run_bind, hl]
    simp -zeta only [Result.andThen_ok]
    simp -zeta only [jn]
    extract_lets app need
    rw [if_pos hle]
    have hap : Sem.run P app w = .ok arr w := hf
    rw [Sem.run_bind, hap]
    simp -zeta only [Result.andThen_ok]
    cases base with
    | none =>
      have hw : w = w' := by simpa using hst
      subst hw
      rfl
    | some a =>
      have hst' : (storeCells (a.add (sLen * i.size)) arr.toList).run P w = .ok () w' := hst
      have hb : ∀ (f : Unit → Sem Value), (storeCells (a.add (sLen * i.size)) arr.toList >>= f).run P w = (f ()).run P w' := fun f => by
        rw [Sem.run_bind, hst']; rfl
      exact hb _
  · rw [Sem.run_bind, run_und hu]
    simp -zeta only [Result.andThen_ok, Sem.run_bind, Sem.run_pure]
    simp -zeta only [jp]
    extract_lets jn
    rw [if_pos trivial, Sem.run_bind]
    simp -zeta only [asInt, asIntOf, Sem.run_bind, Sem.run_pure, Result.andThen_ok]
    extract_lets l jm jl
    have hwl : l = Int.ofNat n := wrap_ofNat (by omega)
    rw [if_neg (by rw [hwl]; exact Int.not_lt.2 (Int.natCast_nonneg n))]
    simp -zeta only [jl]
    rw [Sem.run_bind, hti]
    simp -zeta only [Result.andThen_ok]
    have hmul : (Int.ofNat n) * (i.bytes : Int) ≤ 70368744177664 := by
      show ((n * i.bytes : Nat) : Int) ≤ ((70368744177664 : Nat) : Int)
      exact Int.ofNat_le.2 hn2
    have h48 : ¬ (l * (i.bytes : Int) > 2 ^ 48) := by
      have : (2 : Int) ^ 48 = 281474976710656 := by decide
      rw [hwl]; omega
    rw [if_neg h48]
    simp -zeta only [jm]
    rw [Sem.run_bind, Sem.run_pure]
    simp -zeta only [Result.andThen_ok]
    have hln : l.toNat = n := by rw [hwl]; rfl
    rw [hln]
    simp -zeta only [jn]
    extract_lets app need
    rw [if_pos hle]
    have hap : Sem.run P app w = .ok (if n * i.size = 0 then #[] else Builtin.zeroCells z.cells n) w := by
      show Sem.run P (if (!true) = true then _ else _) w = _
      rw [if_neg (by simp)]
      split
      · rfl
      · simp [hz]
    rw [Sem.run_bind, hap]
    simp -zeta only [Result.andThen_ok]
    cases base with
    | none =>
      have hw : w = w' := by simpa using hst
      subst hw
      rfl
    | some a =>
      have hst' : (storeCells (a.add (sLen * i.size)) (if n * i.size = 0 then #[] else Builtin.zeroCells z.cells n).toList).run P w = .ok () w' := hst
      have hb : ∀ (f : Unit → Sem Value), (storeCells (a.add (sLen * i.size)) (if n * i.size = 0 then #[] else Builtin.zeroCells z.cells n : Array Value).toList >>= f).run P w = (f ()).run P w' := fun f => by
        rw [Sem.run_bind, hst']; rfl
      exact hb _

omit [Val] in
theorem run_append_grows {t u ty e : TypeId} {i : TypeInfo} {base : Option Addr} {sLen sCap n : Nat} {x z : Value} {arr old : Array Value}
    (ht : P.underlying t = some (.slice e)) (hi : P.info? e = some i) (ha : AppR P e i u n x arr w) (hz : ∀ w, (zeroValue e).run P w = .ok z w) (hg : ¬ sLen + n ≤ sCap)
    (hold : (Builtin.firstCells i.size sLen (.slice base sLen sCap)).run P w.drew = .ok old w.drew)
    (hs1 : sLen + n ≤ 9223372036854775807) (hs2 : ¬ (Builtin.nextslicecap (sLen + n) sCap * i.bytes > 2 ^ 48)) :
    ∃ c, sLen + n ≤ c ∧ (Builtin.append_ #[t, u] ty #[.slice base sLen sCap, x]).run P w =
      .ok (.slice (some ⟨w.heap.size, 0, none⟩) (sLen + n) c) (w.drew.alloc (.cells (old ++ arr ++ Builtin.zeroCells z.cells (c - (sLen + n))) e)) := by
  refine ⟨(Question.appendCap (sLen + n) sCap e).cut (w.tape w.drawn (.appendCap (sLen + n) sCap e)), by simp [Question.cut], ?_⟩
  have hsz : ∀ w, (sizeOf e).run P w = .ok i.size w := fun w => by simp [sizeOf, typeInfo, hi]
  have hti : ∀ w, (typeInfo e).run P w = .ok i w := fun w => by simp [typeInfo, hi]
  have a0 : (#[Value.slice base sLen sCap, x] : Array Value)[0]? = some (.slice base sLen sCap) := rfl
  have a1 : (#[Value.slice base sLen sCap, x] : Array Value)[1]? = some x := rfl
  have t0 : (#[t, u] : Array TypeId)[0]? = some t := rfl
  have t1 : (#[t, u] : Array TypeId)[1]? = some u := rfl
  have hmax : ¬ ((((sLen + n : Nat) : Int) > IntKind.i64.max)) := by
    have : IntKind.i64.max = 9223372036854775807 := by decide
    rw [this]; omega
  have hchoose : (choose (.appendCap (sLen + n) sCap e)).run P w = .ok ((Question.appendCap (sLen + n) sCap e).cut (w.tape w.drawn (.appendCap (sLen + n) sCap e))) w.drew := by
    simp [Question.forced]
  generalize (Question.appendCap (sLen + n) sCap e).cut (w.tape w.drawn (.appendCap (sLen + n) sCap e)) = c at hchoose ⊢
  unfold Builtin.append_
  rw [a0, a1, t0, t1]
  simp -zeta only [Sem.run_bind, run_und ht, hsz, Result.andThen_ok]
  extract_lets jq jp
  rcases ha with ⟨d, hu, hd, hl, _, hf⟩ | ⟨k, k', z', hu, rfl, hn1, hn2, hz', rfl⟩
  · rw [Sem.run_bind, run_und hu]
    simp -zeta only [Result.andThen_ok, Sem.run_bind, Sem.run_pure]
    simp -zeta only [jp]
    extract_lets jn
    rw [if_neg (by simp), Sem.run_bind, hl]
    simp -zeta only [Result.andThen_ok]
    simp -zeta only [jn]
    extract_lets app need j1 jy jx
    have hneed : need = sLen + n := rfl
    rw [if_neg hg, Sem.run_bind, hti]
    simp -zeta only [Result.andThen_ok]
    rw [if_neg (fun h => hmax h.1)]
    simp -zeta only [jx]
    rw [Sem.run_bind, hti]
    simp -zeta only [Result.andThen_ok]
    rw [if_neg hs2]
    simp -zeta only [jy]
    rw [Sem.run_bind, hneed, hchoose]
    have hap : Sem.run P app w.drew = .ok arr w.drew := hf
    simp [hti, hold, hap, hz, newRow]
  · rw [Sem.run_bind, run_und hu]
    simp -zeta only [Result.andThen_ok, Sem.run_bind, Sem.run_pure]
    simp -zeta only [jp]
    extract_lets jn
    rw [if_pos trivial, Sem.run_bind]
    simp -zeta only [asInt, asIntOf, Sem.run_bind, Sem.run_pure, Result.andThen_ok]
    extract_lets l jm jl
    have hwl : l = Int.ofNat n := wrap_ofNat (by omega)
    rw [if_neg (by rw [hwl]; exact Int.not_lt.2 (Int.natCast_nonneg n))]
    simp -zeta only [jl]
    rw [Sem.run_bind, hti]
    simp -zeta only [Result.andThen_ok]
    have hmul : (Int.ofNat n) * (i.bytes : Int) ≤ 70368744177664 := by
      show ((n * i.bytes : Nat) : Int) ≤ ((70368744177664 : Nat) : Int)
      exact Int.ofNat_le.2 hn2
    have h48 : ¬ (l * (i.bytes : Int) > 2 ^ 48) := by
      have : (2 : Int) ^ 48 = 281474976710656 := by decide
      rw [hwl]; omega
    rw [if_neg h48]
    simp -zeta only [jm]
    rw [Sem.run_bind, Sem.run_pure]
    simp -zeta only [Result.andThen_ok]
    have hln : l.toNat = n := by rw [hwl]; rfl
    rw [hln]
    simp -zeta only [jn]
    extract_lets app need j1 jy jx
    have hneed : need = sLen + n := rfl
    rw [if_neg hg, Sem.run_bind, hti]
    simp -zeta only [Result.andThen_ok]
    rw [if_neg (fun h => hmax h.1)]
    simp -zeta only [jx]
    rw [Sem.run_bind, hti]
    simp -zeta only [Result.andThen_ok]
    rw [if_neg hs2]
    simp -zeta only [jy]
    rw [Sem.run_bind, hneed, hchoose]
    have hap : Sem.run P app w.drew = .ok (if n * i.size = 0 then #[] else Builtin.zeroCells z'.cells n) w.drew := by
      show Sem.run P (if (!true) = true then _ else _) w.drew = _
      rw [if_neg (by simp)]
      split
      · rfl
      · simp [hz']
    simp [hti, hold, hap, hz, newRow]
end
end Go.Tw
