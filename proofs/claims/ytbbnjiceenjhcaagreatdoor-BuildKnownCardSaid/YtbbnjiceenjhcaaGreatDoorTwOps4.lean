/-
  A part of the proof that the abstract evaluator is sound for the model's machine. Conditions: those of each theorem, as it states them.
-/
import Derived.Test.YtbbnjiceenjhcaaGreatDoorTwOps3
set_option linter.all false
namespace Go.Tw
section
variable [Val]
variable {P : Program} {R : Nat} {C : Cfg} {D : Nat → Prop} {φ : PM} {σ : St} {w : World}

omit [Val] in
theorem Free.at {o : Ob} (hf : Free φ σ (σ.mk' o)) (v : Nat) : φ σ.next v = none := hf σ.next (Nat.le_refl _) (by simp [St.mk']) v

/-- A new row of cells. -/
theorem new_box (hi : Inv R C D φ σ w) {c : List AV} {cs : Array Value} (t : TypeId) (hf : ∀ v, φ σ.next v = none) (hc : ∀ ψ, φ.le ψ → VRL ψ c cs.toList) :
    Post R D φ σ w (σ.mk' (.box c t)) (φ.ins σ.next 0 ⟨w.heap.size, 0, 0, c.length, c.length⟩) (w.alloc (.cells cs t)) :=
  .new hi hf rfl (Nat.le_refl _) ⟨hi.low, ⟨w.heap.size, 0, 0, c.length, c.length⟩, cs, 0, 0, PM.ins_same _ _ _ _, alloc_new _ _, rfl, rfl, rfl, rfl, hc _ (φ.le_ins _ (hf 0)),
    .inl rfl⟩

/-- A new row of cells that may grow; fr: what is frozen of it lies behind it. -/
theorem new_arr (hi : Inv R C D φ σ w) {c : List AV} {cs : Array Value} (t : TypeId) {fl fh : Nat} (hf : ∀ v, φ σ.next v = none) (hc : ∀ ψ, φ.le ψ → VRL ψ c (cs.toList.take c.length))
    (hl : c.length ≤ cs.size) (hfr : fl = fh ∨ cs.size ≤ fl) :
    Post R D φ σ w (newArr t c σ) (φ.ins σ.next 0 ⟨w.heap.size, 0, 0, c.length, cs.size⟩) (w.alloc (.cells cs t (fl, fh))) := by
  have hle := φ.le_ins ⟨w.heap.size, 0, 0, c.length, cs.size⟩ (hf 0)
  refine .new hi hf rfl (by simpa using hl) ⟨hi.low, Nat.le_refl _, Nat.one_pos, Nat.le_refl _, ?_, ?_, ?_, ?_⟩
  · intro v hv
    rw [PM.ins_ver _ _ (by omega)]
    exact hf v
  · intro v hv
    have hv0 : v = 0 := hv.resolve_right (by omega)
    subst hv0
    refine ⟨_, cs, fl, fh, PM.ins_same _ _ _ _, alloc_new _ _, rfl, by simp [limV], by simp [limV], ?_, ?_⟩
    · exact hfr
    · intro x a x1 x2 hx
      have x2 : x < c.length := by simpa [limV] using x2
      obtain ⟨a', y1, y2⟩ := (hc _ hle).get hx
      rw [List.getElem?_take_of_lt x2] at y1
      exact ⟨a', by simpa using y1, y2⟩
  · intro v₁ v₂ e₁ e₂ a1 a2 b1 b2 _
    have h1 : v₁ = 0 := a1.resolve_right (by omega)
    have h2 : v₂ = 0 := a2.resolve_right (by omega)
    subst h1; subst h2
    rw [b1] at b2
    simp only [Option.some.injEq] at b2
    subst b2
    exact ⟨rfl, rfl⟩
  · intro v e a1 a2 _ _; omega

theorem VRL.const {z : AV} {z' : Value} (h : ∀ φ, VR φ z z') : ∀ ψ, VRL ψ z.cells z'.cells.toList := fun ψ => (h ψ).cells

theorem alloc_ok (hi : Inv R C D φ σ w) {t : TypeId} {z : AV} (h : zeroOf P t = some z) (hf : ∀ v, φ σ.next v = none) :
    ∃ φ' w' v', (Instr.alloc t true (.tuple #[])).run P w = .ok v' w' ∧ VR φ' (.ptr σ.next 0 0 z.cells.length) v' ∧ Post R D φ σ w (σ.mk' (.box z.cells t)) φ' w' := by
  obtain ⟨z', rz, vz⟩ := run_zero h
  refine ⟨_, _, .pointer (some ⟨w.heap.size, 0, none⟩), ?_, ?_, new_box hi t hf fun ψ _ => VRL.const vz ψ⟩
  · simp [Instr.alloc, rz, newVar, newRow]
  · exact .ptr ⟨w.heap.size, 0, 0, z.cells.length, z.cells.length⟩ 0 (PM.ins_same _ _ _ _) (Nat.le_refl _) (Nat.le_refl _) rfl

theorem box_ok (hi : Inv R C D φ σ w) {t : TypeId} {v : AV} {v' : Value} (hv : VR φ v v') (hf : ∀ v, φ σ.next v = none) :
    ∃ φ' w' p, (Instr.box t v').run P w = .ok p w' ∧ VR φ' (.ptr σ.next 0 0 v.cells.length) p ∧ Post R D φ σ w (σ.mk' (.box v.cells t)) φ' w' := by
  refine ⟨_, _, .pointer (some ⟨w.heap.size, 0, none⟩), ?_, ?_, new_box hi t hf fun ψ hψ => (hv.mono hψ).cells⟩
  · simp [Instr.box, newVar, newRow]
  · exact .ptr ⟨w.heap.size, 0, 0, v.cells.length, v.cells.length⟩ 0 (PM.ins_same _ _ _ _) (Nat.le_refl _) (Nat.le_refl _) rfl

omit [Val] in
theorem repl_length (n : Nat) (z : List AV) : (repl n z).length = n * z.length := by
  induction n with
  | zero => simp [repl]
  | succ n ih => simp [repl, ih, Nat.succ_mul]; omega

omit [Val] in
/-- The cells of so many zeros. -/
theorem zeros_list (z : Array Value) (n : Nat) (hz : z.size ≠ 0 ∨ n = 0) : ((Array.range (n * z.size)).map (fun i => z[i % z.size]!)).toList = (List.replicate n z.toList).flatten := by
  induction n with
  | zero => simp
  | succ n ih =>
    have hz0 : z.size ≠ 0 := hz.resolve_right (by omega)
    have ih := ih (.inl hz0)
    rw [List.replicate_succ', List.flatten_concat, ← ih]
    simp only [Array.toList_map, Array.toList_range, Nat.succ_mul]
    rw [List.range_add, List.map_append]
    congr 1
    rw [List.map_map]
    apply List.ext_getElem?
    intro i
    simp only [List.getElem?_map]
    by_cases hi : i < z.size
    · rw [List.getElem?_range hi]
      simp [Nat.mod_eq_of_lt hi, hi]
    · rw [List.getElem?_eq_none (by simp; omega), List.getElem?_eq_none (by simp; omega)]
      rfl

theorem makeSlice_cells {z : AV} {z' : Value} {size c : Nat} (vz : ∀ φ, VR φ z z') (hz : z.cells.length = size) (ψ : PM) (x : Array Value) (hx : c * size ≠ 0 → x = z'.cells) :
    VRL ψ (repl c z.cells) ((Array.range (c * size)).map (fun i => x[i % x.size]!)).toList := by
  have hl := (VRL.const vz ψ).length
  have hsz : z'.cells.size = size := by simpa [hz] using hl
  by_cases h0 : c * size = 0
  · rw [h0]
    have : repl c z.cells = [] := by
      apply List.length_eq_zero_iff.1
      rw [repl_length, hz, h0]
    rw [this]
    simp
    exact .nil
  · rw [hx h0, ← hsz, zeros_list _ _ (.inl (by intro h; rw [hsz] at h; simp [h] at h0))]
    exact (VRL.const vz ψ).repl c

omit [Val] in
theorem wrap_ofNat {n : Nat} (h : n ≤ 9223372036854775807) : IntKind.i64.wrap (Int.ofNat n) = Int.ofNat n := by
  rw [← wrapI_eq]
  show (bif Nat.ble n (maxN .i64) then Int.ofNat n else IntKind.i64.wrap (Int.ofNat n)) = Int.ofNat n
  rw [show Nat.ble n (maxN .i64) = true from Nat.ble_eq_true_of_le h]
  rfl

theorem makeSliceA_ok (hi : Inv R C D φ σ w) {t : TypeId} {l c v : AV} {l' c' : Value} {σ' : St} (h : makeSliceA P t l c σ = some (v, σ')) (hl : VR φ l l') (hc : VR φ c c')
    (hf : Free φ σ σ') : ∃ φ' w' v', (Instr.makeSlice t l' c').run P w = .ok v' w' ∧ VR φ' v v' ∧ Post R D φ σ w σ' φ' w' := by
  unfold makeSliceA at h
  split at h
  · rename_i e k1 l k2 c hu
    cases hl; cases hc
    split at h
    · rename_i size bw z hs hb hz
      simp only [cond_eq_ite, Bool.and_eq_true] at h
      split at h
      · rename_i hcd
        simp only [Option.some.injEq, Prod.mk.injEq] at h
        obtain ⟨rfl, rfl⟩ := h
        have h1 := ble_t hcd.1.1.1
        have h2 := ble_t hcd.1.1.2
        have h3 := ble_t hcd.1.2
        have h4 := beq_t hcd.2
        obtain ⟨z', rz, vz⟩ := run_zero hz
        obtain ⟨ti, rt, hbw⟩ := run_byOf hb
        have hwl : IntKind.i64.wrap (Int.ofNat l) = Int.ofNat l := wrap_ofNat (by omega)
        have hwc : IntKind.i64.wrap (Int.ofNat c) = Int.ofNat c := wrap_ofNat (by omega)
        have hmul : (ti.bytes : Int) * (Int.ofNat c) ≤ 70368744177664 := by
          rw [hbw]
          show ((bw * c : Nat) : Int) ≤ ((70368744177664 : Nat) : Int)
          exact Int.ofNat_le.2 h3
        have hnot : ¬ (((decide ((Int.ofNat c) < 0) || decide ((ti.bytes : Int) * (Int.ofNat c) > 2 ^ 48)) || decide ((Int.ofNat l) < 0) || decide ((Int.ofNat l) > (Int.ofNat c))) = true) := by
          simp only [Bool.or_eq_true, decide_eq_true_eq, not_or]
          have e1 : Int.ofNat c = (c : Int) := rfl
          have e2 : Int.ofNat l = (l : Int) := rfl
          rw [e1] at hmul
          rw [e1, e2]
          refine ⟨⟨⟨by omega, ?_⟩, by omega⟩, by omega⟩
          have : (2 : Int) ^ 48 = 281474976710656 := by decide
          omega
        have hcells : ∀ x : Array Value, (c * size ≠ 0 → x = z'.cells) → ∀ ψ, φ.le ψ → VRL ψ (repl c z.cells) ((Array.range (c * size)).map (fun i => x[i % x.size]!)).toList :=
          fun x hx ψ _ => makeSlice_cells vz h4 ψ x hx
        have hlen : (repl c z.cells).length = c * size := by rw [repl_length, h4]
        have hls : l * size ≤ c * size := Nat.mul_le_mul_right _ h1
        by_cases h0 : c * size = 0
        · refine ⟨_, _, .slice (some ⟨w.heap.size, 0, none⟩) l c, ?_, ?_, new_box hi e hf.at (hcells #[] (fun h => absurd h0 h))⟩
          · simp only [Instr.makeSlice, Sem.run_bind, run_und hu, Result.andThen_ok, asInt, asIntOf, Sem.run_pure, rt, hwl, hwc]
            rw [if_neg hnot]
            simp [run_szOf hs, h0, newRow]
          · refine .slc ⟨w.heap.size, 0, 0, _, _⟩ 0 c (PM.ins_same _ _ _ _) (Nat.le_refl _) (by simp only [hlen]; omega) h1 (by simp [hlen]) (.inr ⟨rfl, by simp only [hlen]; omega⟩)
        · refine ⟨_, _, .slice (some ⟨w.heap.size, 0, none⟩) l c, ?_, ?_, new_box hi e hf.at (hcells z'.cells (fun _ => rfl))⟩
          · simp only [Instr.makeSlice, Sem.run_bind, run_und hu, Result.andThen_ok, asInt, asIntOf, Sem.run_pure, rt, hwl, hwc]
            rw [if_neg hnot]
            simp [run_szOf hs, h0, newRow, rz]
          · refine .slc ⟨w.heap.size, 0, 0, _, _⟩ 0 c (PM.ins_same _ _ _ _) (Nat.le_refl _) (by simp only [hlen]; omega) h1 (by simp [hlen]) (.inr ⟨rfl, by simp only [hlen]; omega⟩)
      · cases h
    · cases h
  · cases h

theorem buildSliceA_ok (hi : Inv R C D φ σ w) {t : TypeId} {n : Nat} {ps : List (Nat × AV)} {ps' : Array (Nat × Value)} {v : AV} {σ' : St} (h : buildSliceA P t n ps σ = some (v, σ'))
    (hp : PR φ ps ps'.toList) (hf : Free φ σ σ') : ∃ φ' w' v', (Instr.buildSlice t n ps').run P w = .ok v' w' ∧ VR φ' v v' ∧ Post R D φ σ w σ' φ' w' := by
  unfold buildSliceA at h
  split at h
  · rename_i e hu
    split at h
    · rename_i s z hs hz
      simp only [cond_eq_ite, Bool.and_eq_true] at h
      split at h
      · rename_i hb
        have h1 := ble_t hb.1
        have h2 := beq_t hb.2
        split at h
        · rename_i l hl
          simp only [Option.some.injEq, Prod.mk.injEq] at h
          obtain ⟨rfl, rfl⟩ := h
          obtain ⟨z', rz, vz⟩ := run_zero hz
          have hnot : ¬ (n * s > 2 ^ 24) := by omega
          have key : ∀ x : Array Value, (n * s ≠ 0 → x = z'.cells) → ∃ r', Instr.fill (fun i => some (i * s, s)) ((Array.range (n * s)).map (fun i => x[i % x.size]!)) ps'.toList = some r' ∧ VRL φ l r'.toList ∧ l.length = n * s := by
            intro x hx
            obtain ⟨r', g1, g2, g3⟩ := fillA_ok hp (makeSlice_cells vz h2 φ x hx) hl
            exact ⟨r', g1, g2, by rw [g3, repl_length, h2]⟩
          by_cases h0 : n * s = 0
          · obtain ⟨r', g1, g2, g3⟩ := key #[] (fun h => absurd h0 h)
            refine ⟨_, _, .slice (some ⟨w.heap.size, 0, none⟩) n n, ?_, ?_, new_box hi e hf.at (fun ψ hψ => g2.mono hψ)⟩
            · simp only [Instr.buildSlice, Sem.run_bind, run_und hu, Result.andThen_ok, run_szOf hs]
              rw [if_neg hnot]
              simp only [Sem.run_bind, Sem.run_pure, Result.andThen_ok, h0, if_true]
              rw [h0] at g1
              simp only [g1]
              simp [newRow]
            · refine .slc ⟨w.heap.size, 0, 0, _, _⟩ 0 n (PM.ins_same _ _ _ _) (Nat.le_refl _) (by simp only [g3]; omega) (Nat.le_refl _) (by simp [g3]) (.inr ⟨rfl, by simp only [g3]; omega⟩)
          · obtain ⟨r', g1, g2, g3⟩ := key z'.cells (fun _ => rfl)
            refine ⟨_, _, .slice (some ⟨w.heap.size, 0, none⟩) n n, ?_, ?_, new_box hi e hf.at (fun ψ hψ => g2.mono hψ)⟩
            · simp only [Instr.buildSlice, Sem.run_bind, run_und hu, Result.andThen_ok, run_szOf hs]
              rw [if_neg hnot]
              simp only [Sem.run_bind, Sem.run_pure, Result.andThen_ok, h0, if_false, rz]
              simp only [g1]
              simp [newRow]
            · refine .slc ⟨w.heap.size, 0, 0, _, _⟩ 0 n (PM.ins_same _ _ _ _) (Nat.le_refl _) (by simp only [g3]; omega) (Nat.le_refl _) (by simp [g3]) (.inr ⟨rfl, by simp only [g3]; omega⟩)
        · cases h
      · cases h
    · cases h
  · cases h

theorem makeMap_ok (hi : Inv R C D φ σ w) (t : TypeId) (hf : ∀ v, φ σ.next v = none) :
    ∃ φ' w' v', (Instr.makeMap t none).run P w = .ok v' w' ∧ VR φ' (.map σ.next) v' ∧ Post R D φ σ w (σ.mk' (.map [] 0)) φ' w' := by
  refine ⟨φ.ins σ.next 0 ⟨w.heap.size, 0, 0, 0, 0⟩, w.alloc (.map #[] 0), .map (some w.heap.size), ?_, ?_, ?_⟩
  · simp [Instr.makeMap]
  · exact .map ⟨w.heap.size, 0, 0, 0, 0⟩ (PM.ins_same _ _ _ _)
  · exact .new hi hf rfl (Nat.le_refl _) ⟨hi.low, _, #[], PM.ins_same _ _ _ _, alloc_new _ _, .nil⟩

theorem makeMapR_ok (hi : Inv R C D φ σ w) {t k e : TypeId} {ik : IntKind} {n : Int} (hu : P.underlying t = some (.map k e)) (hf : ∀ v, φ σ.next v = none) :
    ∃ φ' w' v', (Instr.makeMap t (some (.int ik n))).run P w = .ok v' w' ∧ VR φ' (.map σ.next) v' ∧ Post R D φ σ w (σ.mk' (.map [] 0)) φ' w' := by
  refine ⟨φ.ins σ.next 0 ⟨w.heap.size, 0, 0, 0, 0⟩, w.alloc (.map #[] 0), .map (some w.heap.size), ?_, ?_, ?_⟩
  · simp [Instr.makeMap, run_und hu, asInt, asIntOf]
  · exact .map ⟨w.heap.size, 0, 0, 0, 0⟩ (PM.ins_same _ _ _ _)
  · exact .new hi hf rfl (Nat.le_refl _) ⟨hi.low, _, #[], PM.ins_same _ _ _ _, alloc_new _ _, .nil⟩

omit [Val] in
theorem run_getObj {b : Nat} {o : Obj} (h : w.heap[b]? = some o) (hn : ∀ c t f, o ≠ .cells c t f) : (getObj b).run P w = .ok o w := by
  cases o <;> first | (simp only [getObj, Sem.run, h]; done) | exact absurd rfl (hn _ _ _)
omit [Val] in
theorem run_setObj {b : Nat} {o o' : Obj} (h : w.heap[b]? = some o) (hn : ∀ c t f, o ≠ .cells c t f) : (setObj b o').run P w = .ok () (wset w b o') := by
  simp only [setObj, Sem.run, h]
  cases o <;> first | rfl | exact absurd rfl (hn _ _ _)

theorem rangeA_ok (hi : Inv R C D φ σ w) {t : TypeId} {x v : AV} {x' : Value} {σ' : St} (h : rangeA P t x σ = some (v, σ')) (hx : VR φ x x') (hk : Known D σ σ') (hf : Free φ σ σ') :
    ∃ φ' w' v', (Instr.range t x').run P w = .ok v' w' ∧ VR φ' v v' ∧ Post R D φ σ w σ' φ' w' := by
  unfold rangeA at h
  split at h
  · rename_i s hu
    simp only [Option.some.injEq, Prod.mk.injEq] at h
    obtain ⟨rfl, rfl⟩ := h
    cases hx
    refine ⟨φ.ins σ.next 0 ⟨w.heap.size, 0, 0, 0, 0⟩, w.alloc (.stringIter ⟨⟨s⟩⟩ 0), .pointer (some ⟨w.heap.size, 0, none⟩), ?_, ?_, ?_⟩
    · simp [Instr.range, run_und hu]
    · exact .ptr ⟨w.heap.size, 0, 0, 0, 0⟩ 0 (PM.ins_same _ _ _ _) (Nat.le_refl _) (Nat.le_refl _) rfl
    · exact .new hi hf.at rfl (Nat.le_refl _) ⟨hi.low, _, PM.ins_same _ _ _ _, alloc_new _ _, rfl, rfl⟩
  · rename_i hu
    simp only [Option.some.injEq, Prod.mk.injEq] at h
    obtain ⟨rfl, rfl⟩ := h
    cases hx
    refine ⟨φ.ins σ.next 0 ⟨w.heap.size, 0, 0, 0, 0⟩, w.alloc (.mapIter none 0 #[] 0), .pointer (some ⟨w.heap.size, 0, none⟩), ?_, ?_, ?_⟩
    · simp [Instr.range, run_und hu]
    · exact .ptr ⟨w.heap.size, 0, 0, 0, 0⟩ 0 (PM.ins_same _ _ _ _) (Nat.le_refl _) (Nat.le_refl _) rfl
    · exact .new hi hf.at rfl (Nat.le_refl _) ⟨hi.low, _, none, PM.ins_same _ _ _ _, alloc_new _ _, rfl, rfl, trivial⟩
  · rename_i id hu
    split at h
    · rename_i es clock ho
      simp only [Option.some.injEq, Prod.mk.injEq] at h
      obtain ⟨rfl, rfl⟩ := h
      have hlt := hi.lt ho
      have hd : D id := hk id (.inl (mem_addL.2 (.inl rfl))) hlt
      obtain ⟨hR, e, es', he, hb, her⟩ := hi.at ho hd
      cases hx with
      | map e' he' =>
        rw [he] at he'; simp only [Option.some.injEq] at he'; subst he'
        have hi2 : Inv R C D φ (σ.lgR id) w := hi.same rfl rfl rfl
        have hf2 : ∀ v, φ (σ.lgR id).next v = none := fun v => hf σ.next (Nat.le_refl _) (Nat.lt_succ_self _) v
        refine ⟨φ.ins σ.next 0 ⟨w.heap.size, 0, 0, 0, 0⟩, w.alloc (.mapIter (some e.blk) clock #[] clock), .pointer (some ⟨w.heap.size, 0, none⟩), ?_, ?_, ?_⟩
        · simp [Instr.range, run_und hu, run_getObj hb]
        · exact .ptr ⟨w.heap.size, 0, 0, 0, 0⟩ 0 (PM.ins_same _ _ _ _) (Nat.le_refl _) (Nat.le_refl _) rfl
        · have hp : Post R D φ (σ.lgR id) w ((σ.lgR id).mk' (.miter (some id) clock [] clock)) (φ.ins σ.next 0 ⟨w.heap.size, 0, 0, 0, 0⟩) (w.alloc (.mapIter (some e.blk) clock #[] clock)) :=
            .new hi2 hf2 rfl (Nat.le_refl _) ⟨hi.low, _, some e.blk, PM.ins_same _ _ _ _, alloc_new _ _, rfl, rfl, e, φ.le_ins _ (hf2 0) _ _ _ he, rfl⟩
          exact hp.from rfl rfl
    · cases h
  · cases h

theorem ER.filter {l : List (AV × AV × Nat)} {l' : List MapEntry} (q : Nat → Bool) (h : ER φ l l') : ER φ (l.filter fun e => q e.2.2) (l'.filter fun e => q e.born) := by
  induction h with
  | nil => exact .nil
  | cons hk hv _ ih =>
    rename_i n _ _ _ _ _
    simp only [List.filter_cons]
    split
    · exact .cons hk hv ih
    · exact ih
theorem ER.append {l m : List (AV × AV × Nat)} {l' m' : List MapEntry} (h : ER φ l l') (k : ER φ m m') : ER φ (l ++ m) (l' ++ m') := by
  induction h with
  | nil => exact k
  | cons hk hv _ ih => exact .cons hk hv ih
theorem ER.all {l : List (AV × AV × Nat)} {l' : List MapEntry} (q : Nat → Bool) (h : ER φ l l') : l.all (fun e => q e.2.2) = l'.all (fun e => q e.born) := by
  induction h with
  | nil => rfl
  | cons _ _ _ ih => simp only [List.all_cons, ih]
theorem ER.isEmpty {l : List (AV × AV × Nat)} {l' : List MapEntry} (h : ER φ l l') : l.isEmpty = l'.isEmpty := by cases h <;> rfl
theorem ER.getC {l : List (AV × AV × Nat)} {l' : List MapEntry} (h : ER φ l l') {i : Nat} {e' : MapEntry} (hi : l'[i]? = some e') :
    ∃ e, l[i]? = some e ∧ VR φ e.1 e'.key ∧ VR φ e.2.1 e'.val ∧ e.2.2 = e'.born := by
  induction h generalizing i with
  | nil => simp at hi
  | cons hk hv _ ih =>
    cases i with
    | zero => simp at hi; subst hi; exact ⟨_, rfl, hk, hv, rfl⟩
    | succ i => simp at hi; obtain ⟨e, h1, h2⟩ := ih hi; exact ⟨e, by simpa using h1, h2⟩
theorem ER.find {l : List (AV × AV × Nat)} {l' : List MapEntry} (h : ER φ l l') {b : Nat} {e : AV × AV × Nat} (hf : l.find? (fun e => Nat.beq e.2.2 b) = some e) :
    ∃ e', l'.find? (fun e => e.born == b) = some e' ∧ VR φ e.1 e'.key ∧ VR φ e.2.1 e'.val := by
  induction h with
  | nil => simp at hf
  | cons hk hv _ ih =>
    rename_i n _ _ _ _ _
    simp only [List.find?_cons] at hf ⊢
    cases hb : Nat.beq n b with
    | true =>
      rw [hb] at hf
      simp only [Option.some.injEq] at hf
      subst hf
      have : (n == b) = true := by rw [beq_t hb]; simp
      rw [this]
      exact ⟨_, rfl, hk, hv⟩
    | false =>
      rw [hb] at hf
      have : (n == b) = false := by simp [beq_f hb]
      rw [this]
      exact ih hf

omit [Val] in
theorem choose_next (n : Nat) (hn : 0 < n) (w : World) : ∃ (j : Nat) (w1 : World), j < n ∧ (w1 = w ∨ w1 = w.drew) ∧ (choose (Question.mapNext n)).run P w = .ok j w1 := by
  by_cases hf : n ≤ 1
  · exact ⟨0, w, by omega, Or.inl rfl, by simp [choose, Sem.run, Question.forced, hf]⟩
  · exact ⟨_, w.drew, Nat.mod_lt _ (by omega), Or.inr rfl, by
      simp only [choose, Sem.run, Question.forced, decide_eq_true_eq, hf, if_false, Question.cut]
      rfl⟩

/-- The candidates of a map's iterator, in the model's own words. -/
def candsOf (es : Array MapEntry) (since : Nat) (seen : Array Nat) : Array (Option MapEntry) :=
  let left := es.filter fun e => !seen.contains e.born
  let old := left.filter (·.born < since)
  let new := left.filter (·.born ≥ since)
  (if old.isEmpty then #[none] else #[]) ++ (old ++ new).map some

theorem mcands_ok {es : List (AV × AV × Nat)} {es' : Array MapEntry} (h : ER φ es es'.toList) {since last : Nat} {seen : List Nat} {l : List (Option (AV × AV × Nat))} (hm : mcands es since seen last = some l) :
    (!seen.toArray.isEmpty && !es'.isEmpty && es'.all (·.born ≥ last)) = false ∧ l.length = (candsOf es' since seen.toArray).size ∧ 0 < l.length ∧
    ∀ (j : Nat) (c' : Option MapEntry), (candsOf es' since seen.toArray)[j]? = some c' → ∃ c, l[j]? = some c ∧
      (match c, c' with
       | none, none => True
       | some e, some e' => VR φ e.1 e'.key ∧ VR φ e.2.1 e'.val ∧ e.2.2 = e'.born
       | _, _ => False) := by
  unfold mcands at hm
  rw [cond_eq_ite] at hm
  split at hm
  · cases hm
  · rename_i hu
    simp only [Option.some.injEq] at hm
    subst hm
    have h1 : (!seen.toArray.isEmpty && !es'.isEmpty && es'.all (·.born ≥ last)) = false := by
      rw [Bool.not_eq_true] at hu
      rw [← hu]
      congr 1
      · congr 1
        · cases seen <;> rfl
        · rw [h.isEmpty]; congr 1; rw [← Array.isEmpty_toList]
      · rw [← Array.all_toList]
        refine Eq.trans ?_ (h.all (fun b => Nat.ble last b)).symm
        congr 1
        funext e
        by_cases hb : last ≤ e.born
        · rw [Nat.ble_eq_true_of_le hb]; simpa using hb
        · have : Nat.ble last e.born = false := by
            cases hx : Nat.ble last e.born with
            | true => exact absurd (ble_t hx) hb
            | false => rfl
          rw [this]; simpa using hb
    have hl := h.filter (fun b => !seen.contains b)
    have ho := hl.filter (fun b => Nat.blt b since)
    have hn := hl.filter (fun b => !Nat.blt b since)
    have e1 : (candsOf es' since seen.toArray).toList = (if ((es'.toList.filter fun e => !seen.contains e.born).filter fun e => Nat.blt e.born since).isEmpty then [none] else []) ++
        (((es'.toList.filter fun e => !seen.contains e.born).filter fun e => Nat.blt e.born since) ++ ((es'.toList.filter fun e => !seen.contains e.born).filter fun e => !Nat.blt e.born since)).map some := by
      have q1 : (fun e : MapEntry => decide (e.born < since)) = fun e => Nat.blt e.born since := by
        funext e
        by_cases hb : e.born < since
        · have : Nat.blt e.born since = true := Nat.ble_eq_true_of_le hb
          rw [this]; simpa using hb
        · have : Nat.blt e.born since = false := by
            cases hx : Nat.blt e.born since with
            | true => exact absurd (blt_t hx) hb
            | false => rfl
          rw [this]; simpa using hb
      have q2 : (fun e : MapEntry => decide (e.born ≥ since)) = fun e => !Nat.blt e.born since := by
        funext e
        by_cases hb : e.born < since
        · have : Nat.blt e.born since = true := Nat.ble_eq_true_of_le hb
          rw [this]; simp; omega
        · have : Nat.blt e.born since = false := by
            cases hx : Nat.blt e.born since with
            | true => exact absurd (blt_t hx) hb
            | false => rfl
          rw [this]; simp; omega
      unfold candsOf
      simp only [q1, q2]
      rw [Array.toList_append, Array.toList_map, Array.toList_append]
      congr 1
      · rw [← Array.isEmpty_toList]
        simp only [Array.toList_filter, List.contains_toArray]
        split <;> rfl
      · simp only [Array.toList_filter, List.contains_toArray]
    generalize ((es'.toList.filter fun e => !seen.contains e.born).filter fun e => Nat.blt e.born since) = O' at ho e1
    generalize ((es'.toList.filter fun e => !seen.contains e.born).filter fun e => !Nat.blt e.born since) = N' at hn e1
    have hgo : ∀ (O N : List (AV × AV × Nat)), ER φ O O' → ER φ N N' →
        ((bif O.isEmpty then [none] else []) ++ (O ++ N).map some).length = (candsOf es' since seen.toArray).size ∧ 0 < ((bif O.isEmpty then [none] else []) ++ (O ++ N).map some).length ∧
        ∀ (j : Nat) (c' : Option MapEntry), (candsOf es' since seen.toArray)[j]? = some c' → ∃ c, ((bif O.isEmpty then [none] else []) ++ (O ++ N).map some)[j]? = some c ∧
          (match c, c' with
           | none, none => True
           | some e, some e' => VR φ e.1 e'.key ∧ VR φ e.2.1 e'.val ∧ e.2.2 = e'.born
           | _, _ => False) := by
      intro O N hO hN
      have hlen : ∀ {a : List (AV × AV × Nat)} {b : List MapEntry}, ER φ a b → a.length = b.length := by
        intro a b h
        induction h with
        | nil => rfl
        | cons _ _ _ ih => simp [ih]
      have hsz : (candsOf es' since seen.toArray).size = (candsOf es' since seen.toArray).toList.length := rfl
      rw [hsz, e1]
      refine ⟨?_, ?_, fun j c' hj => ?_⟩
      · rw [hO.isEmpty]
        cases O'.isEmpty <;> simp [hlen hO, hlen hN]
      · cases hO
        · simp
        · simp
      · rw [← Array.getElem?_toList, e1] at hj
        cases hOO : O'.isEmpty with
        | true =>
          rw [hOO] at hj
          rw [hO.isEmpty, hOO]
          simp only [if_true, cond_true] at hj ⊢
          cases j with
          | zero => simp at hj; subst hj; exact ⟨none, rfl, trivial⟩
          | succ j =>
            simp only [List.singleton_append, List.getElem?_cons_succ, List.getElem?_map, Option.map_eq_some_iff] at hj ⊢
            obtain ⟨e', h2, rfl⟩ := hj
            obtain ⟨e, g1, g2⟩ := (hO.append hN).getC h2
            exact ⟨some e, ⟨e, g1, rfl⟩, g2⟩
        | false =>
          rw [hOO] at hj
          rw [hO.isEmpty, hOO]
          simp only [Bool.false_eq_true, if_false, cond_false, List.nil_append, List.getElem?_map, Option.map_eq_some_iff] at hj ⊢
          obtain ⟨e', h2, rfl⟩ := hj
          obtain ⟨e, g1, g2⟩ := (hO.append hN).getC h2
          exact ⟨some e, ⟨e, g1, rfl⟩, g2⟩
    exact ⟨h1, hgo _ _ ho hn⟩

omit [Val] in
theorem mcands_ne {es : List (AV × AV × Nat)} {since last : Nat} {seen : List Nat} {l : List (Option (AV × AV × Nat))} (h : mcands es since seen last = some l) : l ≠ [] := by
  unfold mcands at h
  rw [cond_eq_ite] at h
  split at h
  · cases h
  · simp only [Option.some.injEq] at h
    subst h
    generalize List.filter (fun e : AV × AV × Nat => Nat.blt e.2.2 since) (List.filter (fun e => !seen.contains e.2.2) es) = O
    cases O <;> simp

/-- A map's iterator comes to one of its candidates. -/
theorem mnextA_ok (hi : Inv R C D φ σ w) {x : AV} {x' : Value} {t : TypeId} {l : List (AV × St)} (h : mnextA x σ = some l) (hx : VR φ x x') (hk : ∀ p ∈ l, Known D σ p.2) :
    ∃ p ∈ l, ∃ w' v', (Instr.next x' false t).run P w = .ok v' w' ∧ VR φ p.1 v' ∧ Post R D φ σ w p.2 φ w' := by
  unfold mnextA at h
  split at h
  · rename_i id
    split at h
    · rename_i since seen last ho
      simp only [Option.some.injEq] at h
      subst h
      have hlt := hi.lt ho
      have hd : D id := hk _ (List.mem_singleton.2 rfl) id (.inl (mem_addL.2 (.inl rfl))) hlt
      obtain ⟨hR, e, m', he, hb, hup, hdn, hm⟩ := hi.at ho hd
      cases m' with
      | some m' => exact hm.elim
      | none =>
        cases hx with
        | ptr e' o he' hd' hh' ho' =>
          rw [he] at he'; simp only [Option.some.injEq] at he'; subst he'
          have : o = 0 := by omega
          subst this
          refine ⟨_, List.mem_singleton.2 rfl, w, .tuple #[.bool false], ?_, .tup _ (.cons (.bool _) .nil), .same hi rfl rfl rfl⟩
          simp [Instr.next, run_getObj hb]
    · rename_i m since seen last ho
      split at h
      · rename_i es clock hmo
        split at h
        · rename_i cs hcs
          simp only [Option.some.injEq] at h
          subst h
          have hlt := hi.lt ho
          have hltm := hi.lt hmo
          -- both are known
          have hne : cs ≠ [] := mcands_ne hcs
          obtain ⟨c0, hc0⟩ := List.exists_mem_of_ne_nil _ hne
          have hk0 := hk _ (List.mem_map_of_mem hc0)
          have hd : D id := by
            cases c0 with
            | none => exact hk0 id (.inl (mem_addL.2 (.inr (mem_addL.2 (.inl rfl))))) hlt
            | some c => exact hk0 id (.inr (mem_addL.2 (.inl rfl))) hlt
          have hdm : D m := by
            cases c0 with
            | none => exact hk0 m (.inl (mem_addL.2 (.inl rfl))) hltm
            | some c => exact hk0 m (.inl (mem_addL.2 (.inl rfl))) hltm
          obtain ⟨hR, e, m', he, hb, hup, hdn, hm⟩ := hi.at ho hd
          obtain ⟨hRm, em, es', hem, hbm, her⟩ := hi.at hmo hdm
          cases m' with
          | none => exact hm.elim
          | some m' =>
            obtain ⟨f, hf, hfb⟩ := hm
            rw [hem] at hf; simp only [Option.some.injEq] at hf; subst hf
            subst hfb
            obtain ⟨g1, g2, g3, g4⟩ := mcands_ok her hcs
            obtain ⟨j, w1, hj, hw1, hch⟩ := choose_next (P := P) (candsOf es' since seen.toArray).size (by omega) w
            obtain ⟨c, hc1, hc2⟩ := g4 j _ (Array.getElem?_eq_getElem hj)
            cases hx with
            | ptr e' o he' hd' hh' ho' =>
              rw [he] at he'; simp only [Option.some.injEq] at he'; subst he'
              have : o = 0 := by omega
              subst this
              have hb1 : w1.heap[e.blk]? = some (.mapIter (some em.blk) since seen.toArray last) := by rcases hw1 with rfl | rfl <;> exact hb
              have hi1 : Inv R C D φ σ w1 := by
                rcases hw1 with rfl | rfl
                · exact hi
                · exact hi.drew
              have hpost : ∀ {σ' : St} {w' : World}, Post R D φ σ w1 σ' φ w' → Post R D φ σ w σ' φ w' := by
                intro σ' w' hp
                rcases hw1 with rfl | rfl
                · exact hp
                · exact hp.drew
              have hmem : c ∈ cs := List.mem_of_getElem? hc1
              have hbody : ∀ (r : Result Value), (match (candsOf es' since seen.toArray)[j]? with
                  | some (some e1) => (do
                    setObj e.blk (.mapIter (some em.blk) since (seen.toArray.push e1.born) clock)
                    pure (Value.tuple #[.bool true, e1.key, e1.val]) : Sem Value)
                  | some none => pure (Value.tuple #[.bool false])
                  | none => stuck "Next: no such candidate").run P w1 = r → (Instr.next (.pointer (some ⟨e.blk, 0, none⟩)) false t).run P w = r := by
                intro r hr
                simp only [Instr.next, Sem.run_bind, run_getObj hb (by simp), run_getObj hbm (by simp), Result.andThen_ok]
                rw [g1]
                simp only [Bool.false_eq_true, if_false]
                rw [Sem.run_bind]
                change ((choose (Question.mapNext (candsOf es' since seen.toArray).size)).run P w).andThen (fun a w' => Sem.run P (match (candsOf es' since seen.toArray)[a]? with
                  | some (some e1) => (do
                    setObj e.blk (.mapIter (some em.blk) since (seen.toArray.push e1.born) clock)
                    pure (Value.tuple #[.bool true, e1.key, e1.val]) : Sem Value)
                  | some none => pure (Value.tuple #[.bool false])
                  | none => stuck "Next: no such candidate") w') = r
                rw [hch]
                exact hr
              cases hcc : (candsOf es' since seen.toArray)[j] with
              | none =>
                rw [hcc] at hc2
                cases c with
                | some c => exact hc2.elim
                | none =>
                  refine ⟨_, List.mem_map_of_mem hmem, w1, .tuple #[.bool false], hbody _ ?_, .tup _ (.cons (.bool _) .nil), hpost (.same hi1 rfl rfl rfl)⟩
                  rw [Array.getElem?_eq_getElem hj, hcc]
                  simp
              | some e1 =>
                rw [hcc] at hc2
                cases c with
                | none => exact hc2.elim
                | some c =>
                  obtain ⟨k1, k2, k3⟩ := hc2
                  obtain ⟨ck, cv, cb⟩ := c
                  dsimp only at k1 k2 k3
                  subst k3
                  have hi2 : Inv R C D φ (σ.lgR m) w1 := hi1.same rfl rfl rfl
                  refine ⟨_, List.mem_map_of_mem hmem, wset w1 e.blk (.mapIter (some em.blk) since (seen.toArray.push e1.born) clock), .tuple #[.bool true, e1.key, e1.val], hbody _ ?_,
                    .tup _ (.cons (.bool _) (.cons k1 (.cons k2 .nil))), hpost (Post.from (τ := σ.lgR m) ?_ rfl rfl)⟩
                  · rw [Array.getElem?_eq_getElem hj, hcc]
                    simp [run_setObj hb1 (by simp)]
                  · refine .change hi2 hR hlt he ⟨hR, e, some em.blk, he, ?_, hup, hdn, em, hem, rfl⟩
                    rw [wset_same _ _ _ (heap_lt hb1)]
                    simp
        · cases h
      · cases h
    · cases h
  · cases h

/-- The entry that a map's iterator came to. -/
theorem entryA_ok (hi : Inv R C D φ σ w) {x v : AV} {x' : Value} {σ' : St} (h : entryA x σ = some (v, σ')) (hx : VR φ x x') (hk : Known D σ σ') :
    ∃ v', (Instr.entry x').run P w = .ok v' w ∧ VR φ v v' ∧ Post R D φ σ w σ' φ w := by
  unfold entryA at h
  split at h
  · rename_i id
    split at h
    · rename_i m since seen last ho
      split at h
      · rename_i b es clock hb hmo
        rw [cond_eq_ite] at h
        split at h
        · rename_i hcl
          have hcl := beq_t hcl
          subst hcl
          split at h
          · rename_i e0 hf0
            simp only [Option.some.injEq, Prod.mk.injEq] at h
            obtain ⟨rfl, rfl⟩ := h
            have hd : D id := hk id (.inl (mem_addL.2 (.inr (mem_addL.2 (.inl rfl))))) (hi.lt ho)
            have hdm : D m := hk m (.inl (mem_addL.2 (.inl rfl))) (hi.lt hmo)
            obtain ⟨hR, e, m', he, hbl, hup, hdn, hm⟩ := hi.at ho hd
            obtain ⟨hRm, em, es', hem, hbm, her⟩ := hi.at hmo hdm
            cases m' with
            | none => exact hm.elim
            | some m' =>
              obtain ⟨f, hf, hfb⟩ := hm
              rw [hem] at hf; simp only [Option.some.injEq] at hf; subst hf
              subst hfb
              obtain ⟨e', g1, g2, g3⟩ := her.find hf0
              cases hx with
              | ptr e'' o he' hd' hh' ho' =>
                rw [he] at he'; simp only [Option.some.injEq] at he'; subst he'
                have : o = 0 := by omega
                subst this
                refine ⟨.tuple #[e'.key, e'.val], ?_, .tup _ (.cons g2 (.cons g3 .nil)), .same hi rfl rfl rfl⟩
                have hbk : seen.toArray.back? = some b := by simpa using hb
                have hfd : es'.find? (fun e => e.born == b) = some e' := by rw [← Array.find?_toList]; exact g1
                simp [Instr.entry, run_getObj hbl, run_getObj hbm, hbk, hfd]
          · cases h
        · cases h
      · cases h
    · cases h
  · cases h

/-- A map or a slice is cleared. -/
theorem clearA_ok (hi : Inv R C D φ σ w) {ts : Array TypeId} {t ty : TypeId} {x : AV} {x' : Value} {σ' : St} (h : clearA P t x σ = some σ') (hx : VR φ x x') (ht : ts[0]? = some t) (hk : Known D σ σ') :
    ∃ w', (Builtin.clear_ ts ty #[x']).run P w = .ok (.tuple #[]) w' ∧ Post R D φ σ w σ' φ w' := by
  unfold clearA at h
  split at h
  · rename_i u hu
    simp only [Option.some.injEq] at h
    subst h
    cases hx
    exact ⟨w, by simp [Builtin.clear_, ht, run_und hu], .same hi rfl rfl rfl⟩
  · rename_i u hu
    simp only [Option.some.injEq] at h
    subst h
    cases hx
    exact ⟨w, by simp [Builtin.clear_, ht, run_und hu], .same hi rfl rfl rfl⟩
  · rename_i u id hu
    split at h
    · rename_i es clock ho
      simp only [Option.some.injEq] at h
      subst h
      have hlt := hi.lt ho
      have hd : D id := hk id (.inr (mem_addL.2 (.inl rfl))) hlt
      obtain ⟨hR, e, es', he, hb, her⟩ := hi.at ho hd
      cases hx with
      | map e' he' =>
        rw [he] at he'; simp only [Option.some.injEq] at he'; subst he'
        refine ⟨wset w e.blk (.map #[] clock), ?_, .change hi hR hlt he ⟨hR, e, #[], he, wset_same _ _ _ (heap_lt hb), .nil⟩⟩
        simp [Builtin.clear_, ht, run_und hu, run_getObj hb, run_setObj hb]
    · cases h
  · rename_i e id ver off len cap esz hu
    rw [cond_eq_ite] at h
    cases hx with
    | slc ex q c he hd hh hl hc hoo =>
      split at h
      · rename_i h0
        have h0 := beq_t h0
        subst h0
        simp only [Option.some.injEq] at h
        subst h
        exact ⟨w, by simp [Builtin.clear_, ht, run_und hu], .same hi rfl rfl rfl⟩
      · rename_i h0
        have h0 : len ≠ 0 := fun e0 => h0 (by subst e0; rfl)
        split at h
        · rename_i z hz
          rw [cond_eq_ite] at h
          split at h
          · rename_i hsz
            have hsz := beq_t hsz
            obtain ⟨z', rz, vz⟩ := run_zero hz
            have hq := (hoo.resolve_left (by omega)).1
            have hzl : z'.cells.size = esz := by
              have := (VRL.const vz (fun _ _ => none)).length
              simpa [hsz] using this
            have hcells : VRL φ (repl len z.cells) (Builtin.zeroCells z'.cells len).toList := by
              have := makeSlice_cells (c := len) (size := esz) vz hsz φ z'.cells (fun _ => rfl)
              simpa [Builtin.zeroCells, hzl] using this
            obtain ⟨w', r1, r2⟩ := writeN_run (P := P) hi h hk hcells he hd hq
            refine ⟨w', ?_, r2⟩
            cases len with
            | zero => exact absurd rfl h0
            | succ n => simp [Builtin.clear_, ht, run_und hu, rz, r1]
          · cases h
        · cases h
  · cases h

theorem nextA_ok (hi : Inv R C D φ σ w) {x v : AV} {x' : Value} {b : Bool} {t : TypeId} {σ' : St} (h : nextA x b σ = some (v, σ')) (hx : VR φ x x') (hk : Known D σ σ') :
    ∃ w' v', (Instr.next x' b t).run P w = .ok v' w' ∧ VR φ v v' ∧ Post R D φ σ w σ' φ w' := by
  unfold nextA at h
  split at h
  · rename_i id
    split at h
    · rename_i s pos ho
      have hlt := hi.lt ho
      have hd : D id := by
        simp only [cond_eq_ite] at h
        split at h
        · simp only [Option.some.injEq, Prod.mk.injEq] at h
          obtain ⟨_, rfl⟩ := h
          exact hk id (.inr (mem_addL.2 (.inl rfl))) hlt
        · simp only [Option.some.injEq, Prod.mk.injEq] at h
          obtain ⟨_, rfl⟩ := h
          exact hk id (.inl (mem_addL.2 (.inl rfl))) hlt
      obtain ⟨hR, e, he, hb, hup, hdn⟩ := hi.at ho hd
      cases hx with
      | ptr e' o he' hd' hh' ho' =>
        rw [he] at he'; simp only [Option.some.injEq] at he'; subst he'
        have : o = 0 := by omega
        subst this
        simp only [cond_eq_ite] at h
        split at h
        · rename_i hp
          have hp := blt_t hp
          simp only [Option.some.injEq, Prod.mk.injEq] at h
          obtain ⟨rfl, rfl⟩ := h
          have hp' : pos < (⟨⟨s⟩⟩ : ByteArray).size := hp
          refine ⟨wset w e.blk (.stringIter ⟨⟨s⟩⟩ (pos + (Utf8.decode ⟨⟨s⟩⟩ pos).2)), .tuple #[.bool true, goInt pos, .int .i32 (Utf8.decode ⟨⟨s⟩⟩ pos).1], ?_,
            .tup _ (.cons (.bool _) (.cons (.int _ _) (.cons (.int _ _) .nil))), ?_⟩
          rotate_left
          · exact .change (ob := .stringIter ⟨⟨s⟩⟩ (pos + (Utf8.decode ⟨⟨s⟩⟩ pos).2)) hi hR hlt he ⟨hR, e, he, wset_same _ _ _ (heap_lt hb), hup, hdn⟩
          · simp only [Instr.next, Sem.run_bind, run_getObj hb (by simp), Result.andThen_ok]
            rw [if_pos hp']
            simp [run_setObj hb (by simp)]
        · rename_i hp
          have hp : ¬ pos < (⟨⟨s⟩⟩ : ByteArray).size := fun h => hp (by exact Nat.ble_eq_true_of_le h)
          simp only [Option.some.injEq, Prod.mk.injEq] at h
          obtain ⟨rfl, rfl⟩ := h
          refine ⟨w, .tuple #[.bool false], ?_, .tup _ (.cons (.bool _) .nil), .same hi rfl rfl rfl⟩
          simp only [Instr.next, Sem.run_bind, run_getObj hb (by simp), Result.andThen_ok]
          rw [if_neg hp]
          simp
    · cases h
  · cases h
end
end Go.Tw
