/-
  A part of the proof that the abstract evaluator is sound for the model's machine. Conditions: those of each theorem, as it states them.
-/
import Derived.Test.YtbbnjiceenjhcaaGreatDoorTwOps5
import Derived.Laws.BytesString
set_option linter.all false
namespace Go.Tw
section
variable [Val]
variable {P : Program} {R : Nat} {C : Cfg} {D : Nat → Prop} {φ : PM} {σ : St} {w : World}

omit [Val] in
theorem sliceBound_run {ik : IntKind} {i : Int} {y k : Nat} (h : upto i y = some k) (code : BoundsCode) (w : World) : (Instr.sliceBound (.int ik i) y code).run P w = .ok k w := by
  obtain ⟨rfl, hk⟩ := upto_ok h
  have hc : (0 : Int) ≤ (k : Int) ∧ (k : Int) ≤ (y : Int) := by omega
  simp only [Instr.sliceBound, asIntOf, Sem.run_bind, Sem.run_pure, Result.andThen_ok]
  rw [if_pos hc]
  simp

theorem bnd_ok {v : AV} {v' : Value} {y k : Nat} (h : bnd v y = some k) (hv : VR φ v v') : k ≤ y ∧ ∀ (z : Nat), k ≤ z → ∀ code w, (Instr.sliceBound v' z code).run P w = .ok k w := by
  unfold bnd at h
  split at h
  · cases hv
    obtain ⟨rfl, hk⟩ := upto_ok h
    refine ⟨hk, fun z hz code w => sliceBound_run ?_ code w⟩
    show (bif Nat.ble k z then some k else none) = some k
    rw [Nat.ble_eq_true_of_le hz]; rfl
  · cases h

theorem boundsA_ok {len l h c : Nat} {cap m : Option Nat} {lo hi mx : Option AV} {lo' hi' mx' : Option Value} {b : Bool} (hb : boundsA len cap lo hi mx = some (l, h, m))
    (h1 : VRO φ lo lo') (h2 : VRO φ hi hi') (h3 : VRO φ mx mx') (hc : ∀ k, cap = some k → k = c) (hl : len ≤ c) :
    ∃ M, (∀ w, (Instr.sliceBounds b len c lo' hi' mx').run P w = .ok (l, h, M) w) ∧ l ≤ h ∧ h ≤ M ∧ M ≤ c ∧ (∀ k, m = some k → M = k ∧ (cap = none → k ≤ len)) ∧
      (m = none → M = c ∧ cap = none ∧ h ≤ len) := by
  unfold boundsA at hb
  split at hb
  · cases hb
  rename_i m0 hm0
  split at hb
  · cases hb
  rename_i h0 hh0
  split at hb
  · cases hb
  rename_i l0 hl0
  simp only [Option.some.injEq, Prod.mk.injEq] at hb
  obtain ⟨rfl, rfl, rfl⟩ := hb
  have hM : ∃ M, (∀ w, ((match mx' with
        | some v => Instr.sliceBound v c (if b then .slice3Acap else .slice3Alen)
        | none => pure c) : Sem Nat).run P w = .ok M w) ∧ M ≤ c ∧ (∀ k, m0 = some k → M = k ∧ (cap = none → k ≤ len)) ∧ (m0 = none → M = c ∧ cap = none) ∧ (mx = none → m0 = cap) := by
    unfold bndM at hm0
    split at hm0
    · simp only [Option.some.injEq] at hm0; subst hm0
      cases mx' with
      | some _ => exact h3.elim
      | none => exact ⟨c, fun _ => rfl, Nat.le_refl _, fun k hk => ⟨(hc k hk).symm, fun h0 => by rw [hk] at h0; cases h0⟩, fun h0 => ⟨rfl, h0⟩, fun _ => rfl⟩
    · rename_i v
      split at hm0
      · rename_i k hk
        simp only [Option.some.injEq] at hm0; subst hm0
        cases mx' with
        | none => exact h3.elim
        | some v' =>
          obtain ⟨hk1, hk2⟩ := bnd_ok (P := P) hk h3
          have hkc : k ≤ c := by
            cases cap with
            | none => exact Nat.le_trans hk1 hl
            | some c0 => rw [← hc c0 rfl]; exact hk1
          refine ⟨k, fun w => hk2 c hkc _ w, hkc, fun k' hk' => ?_, fun h0 => (by cases h0), fun h0 => (by cases h0)⟩
          simp only [Option.some.injEq] at hk'; subst hk'
          exact ⟨rfl, fun h0 => by subst h0; exact hk1⟩
      · cases hm0
  obtain ⟨M, r1, hMc, hm1, hm2, hm3⟩ := hM
  have htop : ∀ k, k ≤ topOf m0 len → k ≤ M ∧ (m0 = none → k ≤ len) := by
    intro k hk
    cases hm : m0 with
    | none => rw [hm] at hk; exact ⟨by rw [(hm2 hm).1]; exact Nat.le_trans hk hl, fun _ => hk⟩
    | some k0 => rw [hm] at hk; exact ⟨by rw [(hm1 k0 hm).1]; exact hk, fun h => (by cases h)⟩
  have hH : (∀ w, ((match hi', mx' with
        | some v, some _ => Instr.sliceBound v M .slice3B
        | some v, none => Instr.sliceBound v M (if b then .sliceAcap else .sliceAlen)
        | none, none => pure len
        | none, some _ => stuck "Slice: max without high") : Sem Nat).run P w = .ok h0 w) ∧ h0 ≤ M ∧ (m0 = none → h0 ≤ len) := by
    unfold bndH at hh0
    split at hh0
    · rename_i v
      cases hi' with
      | none => exact h2.elim
      | some v' =>
        obtain ⟨hk1, hk2⟩ := bnd_ok (P := P) hh0 h2
        obtain ⟨g1, g2⟩ := htop _ hk1
        cases mx' with
        | none => exact ⟨fun w => hk2 M g1 _ w, g1, g2⟩
        | some _ => exact ⟨fun w => hk2 M g1 _ w, g1, g2⟩
    · cases hi' with
      | some _ => exact h2.elim
      | none =>
        split at hh0
        · simp only [Option.some.injEq] at hh0; subst hh0
          cases mx' with
          | some _ => exact h3.elim
          | none =>
            refine ⟨fun _ => rfl, ?_, fun _ => Nat.le_refl _⟩
            have hmc := hm3 rfl
            cases hm : m0 with
            | none => rw [(hm2 hm).1]; exact hl
            | some k0 => rw [(hm1 k0 hm).1, hc k0 (hmc ▸ hm)]; exact hl
        · cases hh0
  obtain ⟨r2, hHM, hHl⟩ := hH
  have hL : (∀ w, ((match lo' with
        | some v => Instr.sliceBound v h0 (if mx'.isSome then .slice3C else .sliceB)
        | none => pure 0) : Sem Nat).run P w = .ok l0 w) ∧ l0 ≤ h0 := by
    unfold bndL at hl0
    split at hl0
    · simp only [Option.some.injEq] at hl0; subst hl0
      cases lo' with
      | some _ => exact h1.elim
      | none => exact ⟨fun _ => rfl, Nat.zero_le _⟩
    · cases lo' with
      | none => exact h1.elim
      | some v' =>
        obtain ⟨hk1, hk2⟩ := bnd_ok (P := P) hl0 h1
        exact ⟨fun w => hk2 h0 hk1 _ w, hk1⟩
  obtain ⟨r3, hle⟩ := hL
  refine ⟨M, fun w => ?_, hle, hHM, hMc, hm1, fun h0 => ⟨(hm2 h0).1, (hm2 h0).2, hHl h0⟩⟩
  have q1 := r1 w
  have q2 := r2 w
  have q3 := r3 w
  clear r1 r2 r3
  cases mx' <;> cases hi' <;> cases lo' <;> dsimp only at q1 q2 q3 <;> (try simp only [Sem.run_pure, Result.ok.injEq, and_true] at q1) <;>
    (try simp only [Sem.run_pure, run_stuck, reduceCtorEq, Result.ok.injEq, and_true] at q2) <;> (try simp only [Sem.run_pure, Result.ok.injEq, and_true, Option.isSome_none, Option.isSome_some, Bool.false_eq_true, if_false, if_true] at q3) <;>
    (try subst q1) <;> (try subst q2) <;> (try subst q3) <;> simp [Instr.sliceBounds, *]

omit [Val] in
theorem str_extract (s : List UInt8) (l h : Nat) : (⟨⟨s⟩⟩ : ByteArray).extract l h = ⟨⟨(s.drop l).take (h - l)⟩⟩ := by
  apply ByteArray.ext
  simp [List.extract_eq_take_drop]

theorem sliceA_ok (hwf : WF R φ w) {t : TypeId} {x v : AV} {lo hi mx : Option AV} {x' : Value} {lo' hi' mx' : Option Value} (h : sliceA P t x lo hi mx = some v) (hx : VR φ x x')
    (h1 : VRO φ lo lo') (h2 : VRO φ hi hi') (h3 : VRO φ mx mx') : ∃ v', (Instr.sliceAt t x' lo' hi' mx').run P w = .ok v' w ∧ VR φ v v' := by
  unfold sliceA at h
  split at h
  · rename_i s hu
    cases hx
    split at h
    · cases h
    · split at h
      · rename_i l hh m hb
        simp only [Option.some.injEq] at h; subst h
        have h3' : mx' = none := by
          cases mx' with
          | none => rfl
          | some _ => exact h3.elim
        subst h3'
        obtain ⟨M, r1, r2, r3, r4, r5, r6⟩ := boundsA_ok (P := P) (φ := φ) (b := false) hb h1 h2 (lo' := lo') (hi' := hi') (mx' := none) trivial (fun k hk => by simpa using hk.symm) (Nat.le_refl _)
        refine ⟨.string ⟨⟨(s.drop l).take (hh - l)⟩⟩, ?_, .str _⟩
        have hsz : (⟨⟨s⟩⟩ : ByteArray).size = s.length := rfl
        simp only [Instr.sliceAt, Instr.slice, Sem.run_bind, run_und hu, Result.andThen_ok, hsz]
        simp [r1, str_extract]
      · cases h
  · rename_i e hu
    cases hx
    split at h
    · rename_i s l hh m hs hb
      simp only [Option.some.injEq] at h; subst h
      obtain ⟨M, r1, r2, r3, r4, r5, r6⟩ := boundsA_ok (P := P) (φ := φ) (b := true) hb h1 h2 h3 (c := 0) (fun k hk => by simpa using hk.symm) (Nat.le_refl _)
      have : M = 0 := by omega
      subst this
      have : hh = 0 := by omega
      subst this
      have : l = 0 := by omega
      subst this
      refine ⟨.slice none 0 0, ?_, .nils⟩
      simp only [Instr.sliceAt, Instr.slice, Sem.run_bind, run_und hu, Result.andThen_ok, r1, run_szOf hs]
      simp
    · cases h
  · rename_i e id ver off len cap esz hu
    cases hx with
    | slc ex o c he hd hh hl hc ho =>
      split at h
      · rename_i s l hi0 m hs hb
        simp only [cond_eq_ite] at h
        split at h
        · rename_i hbe
          have hbe := beq_t hbe; subst hbe
          obtain ⟨M, r1, r2, r3, r4, r5, r6⟩ := boundsA_ok (P := P) (φ := φ) (b := true) hb h1 h2 h3 (c := c) (fun k hk => (hc k hk).1) hl
          have hrun : (Instr.sliceAt t (.slice (some ⟨ex.blk, o, none⟩) len c) lo' hi' mx').run P w =
              .ok (.slice (some (if M = l then ⟨ex.blk, o, none⟩ else ⟨ex.blk, o + l * s, none⟩)) (hi0 - l) (M - l)) w := by
            simp only [Instr.sliceAt, Instr.slice, Sem.run_bind, run_und hu, Result.andThen_ok, r1, run_szOf hs, Sem.run_pure]
            split
            · rename_i hM; simp
            · rename_i hM; simp [add_off]
          refine ⟨_, hrun, ?_⟩
          cases m with
          | some m =>
            obtain ⟨rfl, hcl⟩ := r5 m rfl
            simp only [Option.some.injEq] at h; subst h
            have hMhi : off + M * s ≤ ex.hi := by
              cases cap with
              | none =>
                have := Nat.mul_le_mul_right s (hcl rfl)
                omega
              | some k =>
                have hk := hc k rfl
                have := Nat.mul_le_mul_right s (show M ≤ k by omega)
                omega
            by_cases hM : M = l
            · subst hM
              have : hi0 = M := by omega
              subst this
              simp only [if_true, Nat.sub_self]
              rw [if_pos (Nat.beq_refl hi0)]
              exact .slc ex o 0 he hd (by omega) (Nat.le_refl _) (fun k hk => by simp only [Option.some.injEq] at hk; subst hk; exact ⟨rfl, by omega⟩) (.inl rfl)
            · rw [if_neg hM]
              rw [if_neg (fun h => hM (beq_t h))]
              have hc0 : c ≠ 0 := by omega
              obtain ⟨ho1, ho2⟩ := ho.resolve_left hc0
              have e1 : l * s + (hi0 - l) * s = hi0 * s := by rw [← Nat.add_mul]; congr 1; omega
              have e2 : l * s + (M - l) * s = M * s := by rw [← Nat.add_mul]; congr 1; omega
              have e3 := Nat.mul_le_mul_right s r3
              have e4 := Nat.mul_le_mul_right s r4
              refine .slc ex (o + l * s) (M - l) he (by omega) (by omega) (by omega) (fun k hk => ?_) (.inr ⟨by omega, by omega⟩)
              simp only [Option.some.injEq] at hk; subst hk
              exact ⟨rfl, by omega⟩
          | none =>
            obtain ⟨rfl, hcn, hhl⟩ := r6 rfl
            simp only [Option.some.injEq] at h; subst h
            have e1 : l * s + (hi0 - l) * s = hi0 * s := by rw [← Nat.add_mul]; congr 1; omega
            have e3 := Nat.mul_le_mul_right s hhl
            by_cases hM : M = l
            · subst hM
              have : hi0 = M := by omega
              subst this
              simp only [if_true, Nat.sub_self]
              exact .slc ex o 0 he (by omega) (by omega) (Nat.le_refl _) (fun k hk => by cases hk) (.inl rfl)
            · rw [if_neg hM]
              have hc0 : M ≠ 0 := by omega
              obtain ⟨ho1, ho2⟩ := ho.resolve_left hc0
              have e2 : l * s + (M - l) * s = M * s := by rw [← Nat.add_mul]; congr 1; omega
              exact .slc ex (o + l * s) (M - l) he (by omega) (by omega) (by omega) (fun k hk => by cases hk) (.inr ⟨by omega, by omega⟩)
        · cases h
      · cases h
  · rename_i n e id ver off top hu
    cases hx with
    | ptr ex o he hd hh ho =>
      split at h
      · rename_i s l hi0 m hs hb
        simp only [cond_eq_ite] at h
        split at h
        · rename_i hbe
          have hbe := ble_t hbe
          simp only [Option.some.injEq] at h; subst h
          obtain ⟨M, r1, r2, r3, r4, r5, r6⟩ := boundsA_ok (P := P) (φ := φ) (b := false) hb h1 h2 h3 (c := n) (fun k hk => by simpa using hk.symm) (Nat.le_refl _)
          obtain ⟨rfl, _⟩ := r5 m rfl
          have hrun : (Instr.sliceAt t (.pointer (some ⟨ex.blk, o, none⟩)) lo' hi' mx').run P w =
              .ok (.slice (some (if M = l then ⟨ex.blk, o, none⟩ else ⟨ex.blk, o + l * s, none⟩)) (hi0 - l) (M - l)) w := by
            simp only [Instr.sliceAt, Instr.sureAddr, Sem.run_bind, run_und hu, Result.andThen_ok, r1, run_szOf hs, Sem.run_pure, add_off]
          refine ⟨_, hrun, ?_⟩
          have htop := hwf.top _ _ _ he
          have e3 := Nat.mul_le_mul_right s r3
          have e4 := Nat.mul_le_mul_right s r4
          by_cases hM : M = l
          · subst hM
            have : hi0 = M := by omega
            subst this
            simp only [if_true, Nat.sub_self]
            rw [if_pos (Nat.beq_refl hi0)]
            exact .slc ex o 0 he hd (by omega) (Nat.le_refl _) (fun k hk => by simp only [Option.some.injEq] at hk; subst hk; exact ⟨rfl, by omega⟩) (.inl rfl)
          · rw [if_neg hM]
            rw [if_neg (fun h => hM (beq_t h))]
            have e1 : l * s + (hi0 - l) * s = hi0 * s := by rw [← Nat.add_mul]; congr 1; omega
            have e2 : l * s + (M - l) * s = M * s := by rw [← Nat.add_mul]; congr 1; omega
            refine .slc ex (o + l * s) (M - l) he (by omega) (by omega) (by omega) (fun k hk => ?_) (.inr ⟨by omega, by omega⟩)
            simp only [Option.some.injEq] at hk; subst hk
            exact ⟨rfl, by omega⟩
        · cases h
      · cases h
  · cases h
end
end Go.Tw
