/-
  A part of the proof that the abstract evaluator is sound for the model's machine. Conditions: those of each theorem, as it states them.
-/
import Derived.Test.YtkddndlkblhldaaGreatTwOps3
namespace Go.Tw
section
variable [Val]
variable {P : Program} {R : Nat} {C : Cfg} {D : Nat → Prop} {φ : PM} {σ : St} {w : World}

omit [Val] in
theorem Free.at {o : Ob} (hf : Free φ σ (σ.mk' o)) (v : Nat) : φ σ.next v = none := hf σ.next (Nat.le_refl _) (by simp [St.mk']) v

/-- A new row of cells. -/
theorem new_box (hi : Inv R C D φ σ w) {c : List AV} {cs : Array Value} (t : TypeId) (hf : ∀ v, φ σ.next v = none) (hc : ∀ ψ, φ.le ψ → VRL ψ c cs.toList) :
    Post R D φ σ w (σ.mk' (.box c t)) (φ.ins σ.next 0 ⟨w.heap.size, 0, 0, c.length, c.length⟩) (w.alloc (.cells cs t)) :=
  .new hi hf rfl (Nat.le_refl _) ⟨hi.low, ⟨w.heap.size, 0, 0, c.length, c.length⟩, cs, 0, 0, PM.ins_same _ _ _ _, alloc_new _ _, rfl, rfl, rfl, rfl, hc _ (φ.le_ins _ (hf 0)),
    .inl rfl⟩

/-- A new row of cells that may grow; fr: what is frozen of it lies behind it. -/
theorem new_arr (hi : Inv R C D φ σ w) {c : List AV} {cs : Array Value} (t : TypeId) {fl fh : Nat} (hf : ∀ v, φ σ.next v = none) (hc : ∀ ψ, φ.le ψ → VRL ψ c (cs.toList.take c.length))
    (hl : c.length ≤ cs.size) (hfr : fl = fh ∨ cs.size ≤ fl) :
    Post R D φ σ w (newArr t c σ) (φ.ins σ.next 0 ⟨w.heap.size, 0, 0, c.length, cs.size⟩) (w.alloc (.cells cs t (fl, fh))) := by
  have hle := φ.le_ins ⟨w.heap.size, 0, 0, c.length, cs.size⟩ (hf 0)
  refine .new hi hf rfl (by simpa using hl) ⟨hi.low, Nat.le_refl _, Nat.one_pos, Nat.le_refl _, ?_, ?_, ?_, ?_⟩
  · intro v hv
    rw [PM.ins_ver _ _ (by omega)]
    exact hf v
  · intro v hv
    have hv0 : v = 0 := hv.resolve_right (by omega)
    subst hv0
    refine ⟨_, cs, fl, fh, PM.ins_same _ _ _ _, alloc_new _ _, rfl, by simp [limV], by simp [limV], ?_, ?_⟩
    · exact hfr
    · intro x a x1 x2 hx
      have x2 : x < c.length := by simpa [limV] using x2
      obtain ⟨a', y1, y2⟩ := (hc _ hle).get hx
      rw [List.getElem?_take_of_lt x2] at y1
      exact ⟨a', by simpa using y1, y2⟩
  · intro v₁ v₂ e₁ e₂ a1 a2 b1 b2 _
    have h1 : v₁ = 0 := a1.resolve_right (by omega)
    have h2 : v₂ = 0 := a2.resolve_right (by omega)
    subst h1; subst h2
    rw [b1] at b2
    simp only [Option.some.injEq] at b2
    subst b2
    exact ⟨rfl, rfl⟩
  · intro v e a1 a2 _ _; omega

theorem VRL.const {z : AV} {z' : Value} (h : ∀ φ, VR φ z z') : ∀ ψ, VRL ψ z.cells z'.cells.toList := fun ψ => (h ψ).cells

theorem alloc_ok (hi : Inv R C D φ σ w) {t : TypeId} {z : AV} (h : zeroOf P t = some z) (hf : ∀ v, φ σ.next v = none) :
    ∃ φ' w' v', (Instr.alloc t true (.tuple #[])).run P w = .ok v' w' ∧ VR φ' (.ptr σ.next 0 0 z.cells.length) v' ∧ Post R D φ σ w (σ.mk' (.box z.cells t)) φ' w' := by
  obtain ⟨z', rz, vz⟩ := run_zero h
  refine ⟨_, _, .pointer (some ⟨w.heap.size, 0, none⟩), ?_, ?_, new_box hi t hf fun ψ _ => VRL.const vz ψ⟩
  · simp [Instr.alloc, rz, newVar, newRow]
  · exact .ptr ⟨w.heap.size, 0, 0, z.cells.length, z.cells.length⟩ 0 (PM.ins_same _ _ _ _) (Nat.le_refl _) (Nat.le_refl _) rfl

theorem box_ok (hi : Inv R C D φ σ w) {t : TypeId} {v : AV} {v' : Value} (hv : VR φ v v') (hf : ∀ v, φ σ.next v = none) :
    ∃ φ' w' p, (Instr.box t v').run P w = .ok p w' ∧ VR φ' (.ptr σ.next 0 0 v.cells.length) p ∧ Post R D φ σ w (σ.mk' (.box v.cells t)) φ' w' := by
  refine ⟨_, _, .pointer (some ⟨w.heap.size, 0, none⟩), ?_, ?_, new_box hi t hf fun ψ hψ => (hv.mono hψ).cells⟩
  · simp [Instr.box, newVar, newRow]
  · exact .ptr ⟨w.heap.size, 0, 0, v.cells.length, v.cells.length⟩ 0 (PM.ins_same _ _ _ _) (Nat.le_refl _) (Nat.le_refl _) rfl

omit [Val] in
theorem repl_length (n : Nat) (z : List AV) : (repl n z).length = n * z.length := by
  induction n with
  | zero => simp [repl]
  | succ n ih => simp [repl, ih, Nat.succ_mul]; omega

omit [Val] in
/-- The cells of so many zeros. -/
theorem zeros_list (z : Array Value) (n : Nat) (hz : z.size ≠ 0 ∨ n = 0) : ((Array.range (n * z.size)).map (fun i => z[i % z.size]!)).toList = (List.replicate n z.toList).flatten := by
  induction n with
  | zero => simp
  | succ n ih =>
    have hz0 : z.size ≠ 0 := hz.resolve_right (by omega)
    have ih := ih (.inl hz0)
    rw [List.replicate_succ', List.flatten_concat, ← ih]
    simp only [Array.toList_map, Array.toList_range, Nat.succ_mul]
    rw [List.range_add, List.map_append]
    congr 1
    rw [List.map_map]
    apply List.ext_getElem?
    intro i
    simp only [List.getElem?_map]
    by_cases hi : i < z.size
    · rw [List.getElem?_range hi]
      simp [Nat.mod_eq_of_lt hi, hi]
    · rw [List.getElem?_eq_none (by simp; omega), List.getElem?_eq_none (by simp; omega)]
      rfl

theorem makeSlice_cells {z : AV} {z' : Value} {size c : Nat} (vz : ∀ φ, VR φ z z') (hz : z.cells.length = size) (ψ : PM) (x : Array Value) (hx : c * size ≠ 0 → x = z'.cells) :
    VRL ψ (repl c z.cells) ((Array.range (c * size)).map (fun i => x[i % x.size]!)).toList := by
  have hl := (VRL.const vz ψ).length
  have hsz : z'.cells.size = size := by simpa [hz] using hl
  by_cases h0 : c * size = 0
  · rw [h0]
    have : repl c z.cells = [] := by
      apply List.length_eq_zero_iff.1
      rw [repl_length, hz, h0]
    rw [this]
    simp
    exact .nil
  · rw [hx h0, ← hsz, zeros_list _ _ (.inl (by intro h; rw [hsz] at h; simp [h] at h0))]
    exact (VRL.const vz ψ).repl c

omit [Val] in
theorem wrap_ofNat {n : Nat} (h : n ≤ 9223372036854775807) : IntKind.i64.wrap (Int.ofNat n) = Int.ofNat n := by
  rw [← wrapI_eq]
  show (bif Nat.ble n (maxN .i64) then Int.ofNat n else IntKind.i64.wrap (Int.ofNat n)) = Int.ofNat n
  rw [show Nat.ble n (maxN .i64) = true from Nat.ble_eq_true_of_le h]
  rfl

theorem makeSliceA_ok (hi : Inv R C D φ σ w) {t : TypeId} {l c v : AV} {l' c' : Value} {σ' : St} (h : makeSliceA P t l c σ = some (v, σ')) (hl : VR φ l l') (hc : VR φ c c')
    (hf : Free φ σ σ') : ∃ φ' w' v', (Instr.makeSlice t l' c').run P w = .ok v' w' ∧ VR φ' v v' ∧ Post R D φ σ w σ' φ' w' := by
  unfold makeSliceA at h
  split at h
  · rename_i e k1 l k2 c hu
    cases hl; cases hc
    split at h
    · rename_i size bw z hs hb hz
      simp only [cond_eq_ite, Bool.and_eq_true] at h
      split at h
      · rename_i hcd
        simp only [Option.some.injEq, Prod.mk.injEq] at h
        obtain ⟨rfl, rfl⟩ := h
        have h1 := ble_t hcd.1.1.1
        have h2 := ble_t hcd.1.1.2
        have h3 := ble_t hcd.1.2
        have h4 := beq_t hcd.2
        obtain ⟨z', rz, vz⟩ := run_zero hz
        obtain ⟨ti, rt, hbw⟩ := run_byOf hb
        have hwl : IntKind.i64.wrap (Int.ofNat l) = Int.ofNat l := wrap_ofNat (by omega)
        have hwc : IntKind.i64.wrap (Int.ofNat c) = Int.ofNat c := wrap_ofNat (by omega)
        have hmul : (ti.bytes : Int) * (Int.ofNat c) ≤ 70368744177664 := by
          rw [hbw]
          show ((bw * c : Nat) : Int) ≤ ((70368744177664 : Nat) : Int)
          exact Int.ofNat_le.2 h3
        have hnot : ¬ (((decide ((Int.ofNat c) < 0) || decide ((ti.bytes : Int) * (Int.ofNat c) > 2 ^ 48)) || decide ((Int.ofNat l) < 0) || decide ((Int.ofNat l) > (Int.ofNat c))) = true) := by
          simp only [Bool.or_eq_true, decide_eq_true_eq, not_or]
          have e1 : Int.ofNat c = (c : Int) := rfl
          have e2 : Int.ofNat l = (l : Int) := rfl
          rw [e1] at hmul
          rw [e1, e2]
          refine ⟨⟨⟨by omega, ?_⟩, by omega⟩, by omega⟩
          have : (2 : Int) ^ 48 = 281474976710656 := by decide
          omega
        have hcells : ∀ x : Array Value, (c * size ≠ 0 → x = z'.cells) → ∀ ψ, φ.le ψ → VRL ψ (repl c z.cells) ((Array.range (c * size)).map (fun i => x[i % x.size]!)).toList :=
          fun x hx ψ _ => makeSlice_cells vz h4 ψ x hx
        have hlen : (repl c z.cells).length = c * size := by rw [repl_length, h4]
        have hls : l * size ≤ c * size := Nat.mul_le_mul_right _ h1
        by_cases h0 : c * size = 0
        · refine ⟨_, _, .slice (some ⟨w.heap.size, 0, none⟩) l c, ?_, ?_, new_box hi e hf.at (hcells #[] (fun h => absurd h0 h))⟩
          · simp only [Instr.makeSlice, Sem.run_bind, run_und hu, Result.andThen_ok, asInt, asIntOf, Sem.run_pure, rt, hwl, hwc]
            rw [if_neg hnot]
            simp [run_szOf hs, h0, newRow]
          · refine .slc ⟨w.heap.size, 0, 0, _, _⟩ 0 c (PM.ins_same _ _ _ _) (Nat.le_refl _) (by simp only [hlen]; omega) h1 (by simp [hlen]) (.inr ⟨rfl, by simp only [hlen]; omega⟩)
        · refine ⟨_, _, .slice (some ⟨w.heap.size, 0, none⟩) l c, ?_, ?_, new_box hi e hf.at (hcells z'.cells (fun _ => rfl))⟩
          · simp only [Instr.makeSlice, Sem.run_bind, run_und hu, Result.andThen_ok, asInt, asIntOf, Sem.run_pure, rt, hwl, hwc]
            rw [if_neg hnot]
            simp [run_szOf hs, h0, newRow, rz]
          · refine .slc ⟨w.heap.size, 0, 0, _, _⟩ 0 c (PM.ins_same _ _ _ _) (Nat.le_refl _) (by simp only [hlen]; omega) h1 (by simp [hlen]) (.inr ⟨rfl, by simp only [hlen]; omega⟩)
      · cases h
    · cases h
  · cases h

theorem buildSliceA_ok (hi : Inv R C D φ σ w) {t : TypeId} {n : Nat} {ps : List (Nat × AV)} {ps' : Array (Nat × Value)} {v : AV} {σ' : St} (h : buildSliceA P t n ps σ = some (v, σ'))
    (hp : PR φ ps ps'.toList) (hf : Free φ σ σ') : ∃ φ' w' v', (Instr.buildSlice t n ps').run P w = .ok v' w' ∧ VR φ' v v' ∧ Post R D φ σ w σ' φ' w' := by
  unfold buildSliceA at h
  split at h
  · rename_i e hu
    split at h
    · rename_i s z hs hz
      simp only [cond_eq_ite, Bool.and_eq_true] at h
      split at h
      · rename_i hb
        have h1 := ble_t hb.1
        have h2 := beq_t hb.2
        split at h
        · rename_i l hl
          simp only [Option.some.injEq, Prod.mk.injEq] at h
          obtain ⟨rfl, rfl⟩ := h
          obtain ⟨z', rz, vz⟩ := run_zero hz
          have hnot : ¬ (n * s > 2 ^ 24) := by omega
          have key : ∀ x : Array Value, (n * s ≠ 0 → x = z'.cells) → ∃ r', Instr.fill (fun i => some (i * s, s)) ((Array.range (n * s)).map (fun i => x[i % x.size]!)) ps'.toList = some r' ∧ VRL φ l r'.toList ∧ l.length = n * s := by
            intro x hx
            obtain ⟨r', g1, g2, g3⟩ := fillA_ok hp (makeSlice_cells vz h2 φ x hx) hl
            exact ⟨r', g1, g2, by rw [g3, repl_length, h2]⟩
          by_cases h0 : n * s = 0
          · obtain ⟨r', g1, g2, g3⟩ := key #[] (fun h => absurd h0 h)
            refine ⟨_, _, .slice (some ⟨w.heap.size, 0, none⟩) n n, ?_, ?_, new_box hi e hf.at (fun ψ hψ => g2.mono hψ)⟩
            · simp only [Instr.buildSlice, Sem.run_bind, run_und hu, Result.andThen_ok, run_szOf hs]
              rw [if_neg hnot]
              simp only [Sem.run_bind, Sem.run_pure, Result.andThen_ok, h0, if_true]
              rw [h0] at g1
              simp only [g1]
              simp [newRow]
            · refine .slc ⟨w.heap.size, 0, 0, _, _⟩ 0 n (PM.ins_same _ _ _ _) (Nat.le_refl _) (by simp only [g3]; omega) (Nat.le_refl _) (by simp [g3]) (.inr ⟨rfl, by simp only [g3]; omega⟩)
          · obtain ⟨r', g1, g2, g3⟩ := key z'.cells (fun _ => rfl)
            refine ⟨_, _, .slice (some ⟨w.heap.size, 0, none⟩) n n, ?_, ?_, new_box hi e hf.at (fun ψ hψ => g2.mono hψ)⟩
            · simp only [Instr.buildSlice, Sem.run_bind, run_und hu, Result.andThen_ok, run_szOf hs]
              rw [if_neg hnot]
              simp only [Sem.run_bind, Sem.run_pure, Result.andThen_ok, h0, if_false, rz]
              simp only [g1]
              simp [newRow]
            · refine .slc ⟨w.heap.size, 0, 0, _, _⟩ 0 n (PM.ins_same _ _ _ _) (Nat.le_refl _) (by simp only [g3]; omega) (Nat.le_refl _) (by simp [g3]) (.inr ⟨rfl, by simp only [g3]; omega⟩)
        · cases h
      · cases h
    · cases h
  · cases h

theorem makeMap_ok (hi : Inv R C D φ σ w) (t : TypeId) (hf : ∀ v, φ σ.next v = none) :
    ∃ φ' w' v', (Instr.makeMap t none).run P w = .ok v' w' ∧ VR φ' (.map σ.next) v' ∧ Post R D φ σ w (σ.mk' (.map [] 0)) φ' w' := by
  refine ⟨φ.ins σ.next 0 ⟨w.heap.size, 0, 0, 0, 0⟩, w.alloc (.map #[] 0), .map (some w.heap.size), ?_, ?_, ?_⟩
  · simp [Instr.makeMap]
  · exact .map ⟨w.heap.size, 0, 0, 0, 0⟩ (PM.ins_same _ _ _ _)
  · exact .new hi hf rfl (Nat.le_refl _) ⟨hi.low, _, #[], PM.ins_same _ _ _ _, alloc_new _ _, .nil⟩

theorem makeMapR_ok (hi : Inv R C D φ σ w) {t k e : TypeId} {ik : IntKind} {n : Int} (hu : P.underlying t = some (.map k e)) (hf : ∀ v, φ σ.next v = none) :
    ∃ φ' w' v', (Instr.makeMap t (some (.int ik n))).run P w = .ok v' w' ∧ VR φ' (.map σ.next) v' ∧ Post R D φ σ w (σ.mk' (.map [] 0)) φ' w' := by
  refine ⟨φ.ins σ.next 0 ⟨w.heap.size, 0, 0, 0, 0⟩, w.alloc (.map #[] 0), .map (some w.heap.size), ?_, ?_, ?_⟩
  · simp [Instr.makeMap, run_und hu, asInt, asIntOf]
  · exact .map ⟨w.heap.size, 0, 0, 0, 0⟩ (PM.ins_same _ _ _ _)
  · exact .new hi hf rfl (Nat.le_refl _) ⟨hi.low, _, #[], PM.ins_same _ _ _ _, alloc_new _ _, .nil⟩

omit [Val] in
theorem run_getObj {b : Nat} {o : Obj} (h : w.heap[b]? = some o) (hn : ∀ c t f, o ≠ .cells c t f) : (getObj b).run P w = .ok o w := by
  cases o <;> first | (simp only [getObj, Sem.run, h]; done) | exact absurd rfl (hn _ _ _)
omit [Val] in
theorem run_setObj {b : Nat} {o o' : Obj} (h : w.heap[b]? = some o) (hn : ∀ c t f, o ≠ .cells c t f) : (setObj b o').run P w = .ok () (wset w b o') := by
  simp only [setObj, Sem.run, h]
  cases o <;> first | rfl | exact absurd rfl (hn _ _ _)

theorem rangeA_ok (hi : Inv R C D φ σ w) {t : TypeId} {x v : AV} {x' : Value} {σ' : St} (h : rangeA P t x σ = some (v, σ')) (hx : VR φ x x') (hf : Free φ σ σ') :
    ∃ φ' w' v', (Instr.range t x').run P w = .ok v' w' ∧ VR φ' v v' ∧ Post R D φ σ w σ' φ' w' := by
  unfold rangeA at h
  split at h
  · rename_i s hu
    simp only [Option.some.injEq, Prod.mk.injEq] at h
    obtain ⟨rfl, rfl⟩ := h
    cases hx
    refine ⟨φ.ins σ.next 0 ⟨w.heap.size, 0, 0, 0, 0⟩, w.alloc (.stringIter ⟨⟨s⟩⟩ 0), .pointer (some ⟨w.heap.size, 0, none⟩), ?_, ?_, ?_⟩
    · simp [Instr.range, run_und hu]
    · exact .ptr ⟨w.heap.size, 0, 0, 0, 0⟩ 0 (PM.ins_same _ _ _ _) (Nat.le_refl _) (Nat.le_refl _) rfl
    · exact .new hi hf.at rfl (Nat.le_refl _) ⟨hi.low, _, PM.ins_same _ _ _ _, alloc_new _ _, rfl, rfl⟩
  · cases h

theorem nextA_ok (hi : Inv R C D φ σ w) {x v : AV} {x' : Value} {b : Bool} {t : TypeId} {σ' : St} (h : nextA x b σ = some (v, σ')) (hx : VR φ x x') (hk : Known D σ σ') :
    ∃ w' v', (Instr.next x' b t).run P w = .ok v' w' ∧ VR φ v v' ∧ Post R D φ σ w σ' φ w' := by
  unfold nextA at h
  split at h
  · rename_i id
    split at h
    · rename_i s pos ho
      have hlt := hi.lt ho
      have hd : D id := by
        simp only [cond_eq_ite] at h
        split at h
        · simp only [Option.some.injEq, Prod.mk.injEq] at h
          obtain ⟨_, rfl⟩ := h
          exact hk id (.inr (mem_addL.2 (.inl rfl))) hlt
        · simp only [Option.some.injEq, Prod.mk.injEq] at h
          obtain ⟨_, rfl⟩ := h
          exact hk id (.inl (mem_addL.2 (.inl rfl))) hlt
      obtain ⟨hR, e, he, hb, hup, hdn⟩ := hi.at ho hd
      cases hx with
      | ptr e' o he' hd' hh' ho' =>
        rw [he] at he'; simp only [Option.some.injEq] at he'; subst he'
        have : o = 0 := by omega
        subst this
        simp only [cond_eq_ite] at h
        split at h
        · rename_i hp
          have hp := blt_t hp
          simp only [Option.some.injEq, Prod.mk.injEq] at h
          obtain ⟨rfl, rfl⟩ := h
          have hp' : pos < (⟨⟨s⟩⟩ : ByteArray).size := hp
          refine ⟨wset w e.blk (.stringIter ⟨⟨s⟩⟩ (pos + (Utf8.decode ⟨⟨s⟩⟩ pos).2)), .tuple #[.bool true, goInt pos, .int .i32 (Utf8.decode ⟨⟨s⟩⟩ pos).1], ?_,
            .tup _ (.cons (.bool _) (.cons (.int _ _) (.cons (.int _ _) .nil))), ?_⟩
          rotate_left
          · exact .change (ob := .stringIter ⟨⟨s⟩⟩ (pos + (Utf8.decode ⟨⟨s⟩⟩ pos).2)) hi hR hlt he ⟨hR, e, he, wset_same _ _ _ (heap_lt hb), hup, hdn⟩
          · simp only [Instr.next, Sem.run_bind, run_getObj hb (by simp), Result.andThen_ok]
            rw [if_pos hp']
            simp [run_setObj hb (by simp)]
        · rename_i hp
          have hp : ¬ pos < (⟨⟨s⟩⟩ : ByteArray).size := fun h => hp (by exact Nat.ble_eq_true_of_le h)
          simp only [Option.some.injEq, Prod.mk.injEq] at h
          obtain ⟨rfl, rfl⟩ := h
          refine ⟨w, .tuple #[.bool false], ?_, .tup _ (.cons (.bool _) .nil), .same hi rfl rfl rfl⟩
          simp only [Instr.next, Sem.run_bind, run_getObj hb (by simp), Result.andThen_ok]
          rw [if_neg hp]
          simp
    · cases h
  · cases h
end
end Go.Tw
