/-
  A part of the proof that the abstract evaluator is sound for the model's machine. Conditions: those of each theorem, as it states them.
-/
import Derived.Test.YtgcpcgaigbnniaaGreatTwB
import Derived.Laws.BytesString
set_option linter.all false
namespace Go.Tw
section
variable [Val]
variable {P : Program} {R : Nat} {C : Cfg} {D : Nat → Prop} {φ : PM} {σ : St} {w : World}
omit [Val] in
theorem Free.at {o : Ob} (hf : Free φ σ (σ.mk' o)) (v : Nat) : φ σ.next v = none := hf σ.next (Nat.le_refl _) (by simp [St.mk']) v
theorem new_box (hi : Inv R C D φ σ w) {c : List AV} {cs : Array Value} (t : TypeId) (hf : ∀ v, φ σ.next v = none) (hc : ∀ ψ, φ.le ψ → VRL ψ c cs.toList) :
    Post R D φ σ w (σ.mk' (.box c t)) (φ.ins σ.next 0 ⟨w.heap.size, 0, 0, c.length, c.length, []⟩) (w.alloc (.cells cs t)) :=
  .new hi hf rfl (Nat.le_refl _) ⟨hi.low, ⟨w.heap.size, 0, 0, c.length, c.length, []⟩, cs, 0, 0, PM.ins_same _ _ _ _, alloc_new _ _, rfl, rfl, rfl, rfl, hc _ (φ.le_ins _ (hf 0)),
    .inl rfl⟩
theorem new_arr (hi : Inv R C D φ σ w) {c : List AV} {cs : Array Value} (t : TypeId) {fl fh : Nat} (hf : ∀ v, φ σ.next v = none) (hc : ∀ ψ, φ.le ψ → VRL ψ c (cs.toList.take c.length))
    (hl : c.length ≤ cs.size) (hfr : fl = fh ∨ cs.size ≤ fl) :
    Post R D φ σ w (newArr t c σ) (φ.ins σ.next 0 ⟨w.heap.size, 0, 0, c.length, cs.size, []⟩) (w.alloc (.cells cs t (fl, fh))) := by
  have hle := φ.le_ins ⟨w.heap.size, 0, 0, c.length, cs.size, []⟩ (hf 0)
  refine .new hi hf rfl (by simpa using hl) ⟨hi.low, Nat.le_refl _, Nat.one_pos, Nat.le_refl _, ?_, ?_, ?_, ?_⟩
  · intro v hv
    rw [PM.ins_ver _ _ (by omega)]
    exact hf v
  · intro v hv
    have hv0 : v = 0 := hv.resolve_right (by omega)
    subst hv0
    refine ⟨_, cs, fl, fh, PM.ins_same _ _ _ _, alloc_new _ _, rfl, by simp [limV], by simp [limV], ?_, ?_⟩
    · exact hfr
    · intro x a x1 x2 hx
      have x2 : x < c.length := by simpa [limV] using x2
      obtain ⟨a', y1, y2⟩ := (hc _ hle).get hx
      rw [List.getElem?_take_of_lt x2] at y1
      exact ⟨a', by simpa using y1, y2⟩
  · intro v₁ v₂ e₁ e₂ a1 a2 b1 b2 _
    have h1 : v₁ = 0 := a1.resolve_right (by omega)
    have h2 : v₂ = 0 := a2.resolve_right (by omega)
    subst h1; subst h2
    rw [b1] at b2
    simp only [Option.some.injEq] at b2
    subst b2
    exact ⟨rfl, rfl⟩
  · intro v e a1 a2 _ _; omega
theorem VRL.const {z : AV} {z' : Value} (h : ∀ φ, VR φ z z') : ∀ ψ, VRL ψ z.cells z'.cells.toList := fun ψ => (h ψ).cells
theorem alloc_ok (hi : Inv R C D φ σ w) {t : TypeId} {z : AV} (h : zeroOf P t = some z) (hf : ∀ v, φ σ.next v = none) :
    ∃ φ' w' v', (Instr.alloc t true (.tuple #[])).run P w = .ok v' w' ∧ VR φ' (.ptr σ.next 0 0 z.cells.length) v' ∧ Post R D φ σ w (σ.mk' (.box z.cells t)) φ' w' := by
  obtain ⟨z', rz, vz⟩ := run_zero h
  refine ⟨_, _, .pointer (some ⟨w.heap.size, 0, none⟩), ?_, ?_, new_box hi t hf fun ψ _ => VRL.const vz ψ⟩
  · simp [Instr.alloc, rz, newVar, newRow]
  · exact .ptr ⟨w.heap.size, 0, 0, z.cells.length, z.cells.length, []⟩ 0 (PM.ins_same _ _ _ _) (Nat.le_refl _) (Nat.le_refl _) rfl
theorem box_ok (hi : Inv R C D φ σ w) {t : TypeId} {v : AV} {v' : Value} (hv : VR φ v v') (hf : ∀ v, φ σ.next v = none) :
    ∃ φ' w' p, (Instr.box t v').run P w = .ok p w' ∧ VR φ' (.ptr σ.next 0 0 v.cells.length) p ∧ Post R D φ σ w (σ.mk' (.box v.cells t)) φ' w' := by
  refine ⟨_, _, .pointer (some ⟨w.heap.size, 0, none⟩), ?_, ?_, new_box hi t hf fun ψ hψ => (hv.mono hψ).cells⟩
  · simp [Instr.box, newVar, newRow]
  · exact .ptr ⟨w.heap.size, 0, 0, v.cells.length, v.cells.length, []⟩ 0 (PM.ins_same _ _ _ _) (Nat.le_refl _) (Nat.le_refl _) rfl
omit [Val] in
theorem repl_length (n : Nat) (z : List AV) : (repl n z).length = n * z.length := by
  induction n with
  | zero => simp [repl]
  | succ n ih => simp [repl, ih, Nat.succ_mul]; omega
omit [Val] in
theorem zeros_list (z : Array Value) (n : Nat) (hz : z.size ≠ 0 ∨ n = 0) : ((Array.range (n * z.size)).map (fun i => z[i % z.size]!)).toList = (List.replicate n z.toList).flatten := by
  induction n with
  | zero => simp
  | succ n ih =>
    have hz0 : z.size ≠ 0 := hz.resolve_right (by omega)
    have ih := ih (.inl hz0)
    rw [List.replicate_succ', List.flatten_concat, ← ih]
    simp only [Array.toList_map, Array.toList_range, Nat.succ_mul]
    rw [List.range_add, List.map_append]
    congr 1
    rw [List.map_map]
    apply List.ext_getElem?
    intro i
    simp only [List.getElem?_map]
    by_cases hi : i < z.size
    · rw [List.getElem?_range hi]
      simp [Nat.mod_eq_of_lt hi, hi]
    · rw [List.getElem?_eq_none (by simp; omega), List.getElem?_eq_none (by simp; omega)]
      rfl
theorem makeSlice_cells {z : AV} {z' : Value} {size c : Nat} (vz : ∀ φ, VR φ z z') (hz : z.cells.length = size) (ψ : PM) (x : Array Value) (hx : c * size ≠ 0 → x = z'.cells) :
    VRL ψ (repl c z.cells) ((Array.range (c * size)).map (fun i => x[i % x.size]!)).toList := by
  have hl := (VRL.const vz ψ).length
  have hsz : z'.cells.size = size := by simpa [hz] using hl
  by_cases h0 : c * size = 0
  · rw [h0]
    have : repl c z.cells = [] := by
      apply List.length_eq_zero_iff.1
      rw [repl_length, hz, h0]
    rw [this]
    simp
    exact .nil
  · rw [hx h0, ← hsz, zeros_list _ _ (.inl (by intro h; rw [hsz] at h; simp [h] at h0))]
    exact (VRL.const vz ψ).repl c
omit [Val] in
theorem wrap_ofNat {n : Nat} (h : n ≤ 9223372036854775807) : IntKind.i64.wrap (Int.ofNat n) = Int.ofNat n := by
  rw [← wrapI_eq]
  show (bif Nat.ble n (maxN .i64) then Int.ofNat n else IntKind.i64.wrap (Int.ofNat n)) = Int.ofNat n
  rw [show Nat.ble n (maxN .i64) = true from Nat.ble_eq_true_of_le h]
  rfl
theorem makeSliceA_ok (hi : Inv R C D φ σ w) {t : TypeId} {l c v : AV} {l' c' : Value} {σ' : St} (h : makeSliceA P t l c σ = some (v, σ')) (hl : VR φ l l') (hc : VR φ c c')
    (hf : Free φ σ σ') : ∃ φ' w' v', (Instr.makeSlice t l' c').run P w = .ok v' w' ∧ VR φ' v v' ∧ Post R D φ σ w σ' φ' w' := by
  unfold makeSliceA at h
  split at h
  · rename_i e k1 l k2 c hu
    cases hl; cases hc
    split at h
    · rename_i size bw z hs hb hz
      simp only [cond_eq_ite, Bool.and_eq_true] at h
      split at h
      · rename_i hcd
        simp only [Option.some.injEq, Prod.mk.injEq] at h
        obtain ⟨rfl, rfl⟩ := h
        have h1 := ble_t hcd.1.1.1
        have h2 := ble_t hcd.1.1.2
        have h3 := ble_t hcd.1.2
        have h4 := beq_t hcd.2
        obtain ⟨z', rz, vz⟩ := run_zero hz
        obtain ⟨ti, rt, hbw⟩ := run_byOf hb
        have hwl : IntKind.i64.wrap (Int.ofNat l) = Int.ofNat l := wrap_ofNat (by omega)
        have hwc : IntKind.i64.wrap (Int.ofNat c) = Int.ofNat c := wrap_ofNat (by omega)
        have hmul : (ti.bytes : Int) * (Int.ofNat c) ≤ 70368744177664 := by
          rw [hbw]
          show ((bw * c : Nat) : Int) ≤ ((70368744177664 : Nat) : Int)
          exact Int.ofNat_le.2 h3
        have hnot : ¬ (((decide ((Int.ofNat c) < 0) || decide ((ti.bytes : Int) * (Int.ofNat c) > 2 ^ 48)) || decide ((Int.ofNat l) < 0) || decide ((Int.ofNat l) > (Int.ofNat c))) = true) := by
          simp only [Bool.or_eq_true, decide_eq_true_eq, not_or]
          have e1 : Int.ofNat c = (c : Int) := rfl
          have e2 : Int.ofNat l = (l : Int) := rfl
          rw [e1] at hmul
          rw [e1, e2]
          refine ⟨⟨⟨by omega, ?_⟩, by omega⟩, by omega⟩
          have : (2 : Int) ^ 48 = 281474976710656 := by decide
          omega
        have hcells : ∀ x : Array Value, (c * size ≠ 0 → x = z'.cells) → ∀ ψ, φ.le ψ → VRL ψ (repl c z.cells) ((Array.range (c * size)).map (fun i => x[i % x.size]!)).toList :=
          fun x hx ψ _ => makeSlice_cells vz h4 ψ x hx
        have hlen : (repl c z.cells).length = c * size := by rw [repl_length, h4]
        have hls : l * size ≤ c * size := Nat.mul_le_mul_right _ h1
        by_cases h0 : c * size = 0
        · refine ⟨_, _, .slice (some ⟨w.heap.size, 0, none⟩) l c, ?_, ?_, new_box hi e hf.at (hcells #[] (fun h => absurd h0 h))⟩
          · simp only [Instr.makeSlice, Sem.run_bind, run_und hu, Result.andThen_ok, asInt, asIntOf, Sem.run_pure, rt, hwl, hwc]
            rw [if_neg hnot]
            simp [run_szOf hs, h0, newRow]
          · refine .slc ⟨w.heap.size, 0, 0, _, _, []⟩ 0 c (PM.ins_same _ _ _ _) (Nat.le_refl _) (by simp only [hlen]; omega) h1 (by simp [hlen]) (.inr ⟨rfl, by simp only [hlen]; omega⟩)
        · refine ⟨_, _, .slice (some ⟨w.heap.size, 0, none⟩) l c, ?_, ?_, new_box hi e hf.at (hcells z'.cells (fun _ => rfl))⟩
          · simp only [Instr.makeSlice, Sem.run_bind, run_und hu, Result.andThen_ok, asInt, asIntOf, Sem.run_pure, rt, hwl, hwc]
            rw [if_neg hnot]
            simp [run_szOf hs, h0, newRow, rz]
          · refine .slc ⟨w.heap.size, 0, 0, _, _, []⟩ 0 c (PM.ins_same _ _ _ _) (Nat.le_refl _) (by simp only [hlen]; omega) h1 (by simp [hlen]) (.inr ⟨rfl, by simp only [hlen]; omega⟩)
      · cases h
    · cases h
  · cases h
theorem buildSliceA_ok (hi : Inv R C D φ σ w) {t : TypeId} {n : Nat} {ps : List (Nat × AV)} {ps' : Array (Nat × Value)} {v : AV} {σ' : St} (h : buildSliceA P t n ps σ = some (v, σ'))
    (hp : PR φ ps ps'.toList) (hf : Free φ σ σ') : ∃ φ' w' v', (Instr.buildSlice t n ps').run P w = .ok v' w' ∧ VR φ' v v' ∧ Post R D φ σ w σ' φ' w' := by
  unfold buildSliceA at h
  split at h
  · rename_i e hu
    split at h
    · rename_i s z hs hz
      simp only [cond_eq_ite, Bool.and_eq_true] at h
      split at h
      · rename_i hb
        have h1 := ble_t hb.1
        have h2 := beq_t hb.2
        split at h
        · rename_i l hl
          simp only [Option.some.injEq, Prod.mk.injEq] at h
          obtain ⟨rfl, rfl⟩ := h
          obtain ⟨z', rz, vz⟩ := run_zero hz
          have hnot : ¬ (n * s > 2 ^ 24) := by omega
          have key : ∀ x : Array Value, (n * s ≠ 0 → x = z'.cells) → ∃ r', Instr.fill (fun i => some (i * s, s)) ((Array.range (n * s)).map (fun i => x[i % x.size]!)) ps'.toList = some r' ∧ VRL φ l r'.toList ∧ l.length = n * s := by
            intro x hx
            obtain ⟨r', g1, g2, g3⟩ := fillA_ok hp (makeSlice_cells vz h2 φ x hx) hl
            exact ⟨r', g1, g2, by rw [g3, repl_length, h2]⟩
          by_cases h0 : n * s = 0
          · obtain ⟨r', g1, g2, g3⟩ := key #[] (fun h => absurd h0 h)
            refine ⟨_, _, .slice (some ⟨w.heap.size, 0, none⟩) n n, ?_, ?_, new_box hi e hf.at (fun ψ hψ => g2.mono hψ)⟩
            · simp only [Instr.buildSlice, Sem.run_bind, run_und hu, Result.andThen_ok, run_szOf hs]
              rw [if_neg hnot]
              simp only [Sem.run_bind, Sem.run_pure, Result.andThen_ok, h0, if_true]
              rw [h0] at g1
              simp only [g1]
              simp [newRow]
            · refine .slc ⟨w.heap.size, 0, 0, _, _, []⟩ 0 n (PM.ins_same _ _ _ _) (Nat.le_refl _) (by simp only [g3]; omega) (Nat.le_refl _) (by simp [g3]) (.inr ⟨rfl, by simp only [g3]; omega⟩)
          · obtain ⟨r', g1, g2, g3⟩ := key z'.cells (fun _ => rfl)
            refine ⟨_, _, .slice (some ⟨w.heap.size, 0, none⟩) n n, ?_, ?_, new_box hi e hf.at (fun ψ hψ => g2.mono hψ)⟩
            · simp only [Instr.buildSlice, Sem.run_bind, run_und hu, Result.andThen_ok, run_szOf hs]
              rw [if_neg hnot]
              simp only [Sem.run_bind, Sem.run_pure, Result.andThen_ok, h0, if_false, rz]
              simp only [g1]
              simp [newRow]
            · refine .slc ⟨w.heap.size, 0, 0, _, _, []⟩ 0 n (PM.ins_same _ _ _ _) (Nat.le_refl _) (by simp only [g3]; omega) (Nat.le_refl _) (by simp [g3]) (.inr ⟨rfl, by simp only [g3]; omega⟩)
        · cases h
      · cases h
    · cases h
  · cases h
theorem makeMap_ok (hi : Inv R C D φ σ w) (t : TypeId) (hf : ∀ v, φ σ.next v = none) :
    ∃ φ' w' v', (Instr.makeMap t none).run P w = .ok v' w' ∧ VR φ' (.map σ.next) v' ∧ Post R D φ σ w (σ.mk' (.map [] 0)) φ' w' := by
  refine ⟨φ.ins σ.next 0 ⟨w.heap.size, 0, 0, 0, 0, []⟩, w.alloc (.map #[] 0), .map (some w.heap.size), ?_, ?_, ?_⟩
  · simp [Instr.makeMap]
  · exact .map ⟨w.heap.size, 0, 0, 0, 0, []⟩ (PM.ins_same _ _ _ _)
  · exact .new hi hf rfl (Nat.le_refl _) ⟨hi.low, _, #[], PM.ins_same _ _ _ _, alloc_new _ _, .nil⟩
theorem makeMapR_ok (hi : Inv R C D φ σ w) {t k e : TypeId} {ik : IntKind} {n : Int} (hu : P.underlying t = some (.map k e)) (hf : ∀ v, φ σ.next v = none) :
    ∃ φ' w' v', (Instr.makeMap t (some (.int ik n))).run P w = .ok v' w' ∧ VR φ' (.map σ.next) v' ∧ Post R D φ σ w (σ.mk' (.map [] 0)) φ' w' := by
  refine ⟨φ.ins σ.next 0 ⟨w.heap.size, 0, 0, 0, 0, []⟩, w.alloc (.map #[] 0), .map (some w.heap.size), ?_, ?_, ?_⟩
  · simp [Instr.makeMap, run_und hu, asInt, asIntOf]
  · exact .map ⟨w.heap.size, 0, 0, 0, 0, []⟩ (PM.ins_same _ _ _ _)
  · exact .new hi hf rfl (Nat.le_refl _) ⟨hi.low, _, #[], PM.ins_same _ _ _ _, alloc_new _ _, .nil⟩
omit [Val] in
theorem run_getObj {b : Nat} {o : Obj} (h : w.heap[b]? = some o) (hn : ∀ c t f, o ≠ .cells c t f) : (getObj b).run P w = .ok o w := by
  cases o <;> first | (simp only [getObj, Sem.run, h]; done) | exact absurd rfl (hn _ _ _)
omit [Val] in
theorem run_setObj {b : Nat} {o o' : Obj} (h : w.heap[b]? = some o) (hn : ∀ c t f, o ≠ .cells c t f) : (setObj b o').run P w = .ok () (wset w b o') := by
  simp only [setObj, Sem.run, h]
  cases o <;> first | rfl | exact absurd rfl (hn _ _ _)
theorem rangeA_ok (hi : Inv R C D φ σ w) {t : TypeId} {x v : AV} {x' : Value} {σ' : St} (h : rangeA P t x σ = some (v, σ')) (hx : VR φ x x') (hk : Known D σ σ') (hf : Free φ σ σ') :
    ∃ φ' w' v', (Instr.range t x').run P w = .ok v' w' ∧ VR φ' v v' ∧ Post R D φ σ w σ' φ' w' := by
  unfold rangeA at h
  split at h
  · rename_i s hu
    simp only [Option.some.injEq, Prod.mk.injEq] at h
    obtain ⟨rfl, rfl⟩ := h
    cases hx
    refine ⟨φ.ins σ.next 0 ⟨w.heap.size, 0, 0, 0, 0, []⟩, w.alloc (.stringIter ⟨⟨s⟩⟩ 0), .pointer (some ⟨w.heap.size, 0, none⟩), ?_, ?_, ?_⟩
    · simp [Instr.range, run_und hu]
    · exact .ptr ⟨w.heap.size, 0, 0, 0, 0, []⟩ 0 (PM.ins_same _ _ _ _) (Nat.le_refl _) (Nat.le_refl _) rfl
    · exact .new hi hf.at rfl (Nat.le_refl _) ⟨hi.low, _, PM.ins_same _ _ _ _, alloc_new _ _, rfl, rfl⟩
  · rename_i hu
    simp only [Option.some.injEq, Prod.mk.injEq] at h
    obtain ⟨rfl, rfl⟩ := h
    cases hx
    refine ⟨φ.ins σ.next 0 ⟨w.heap.size, 0, 0, 0, 0, []⟩, w.alloc (.mapIter none 0 #[] 0), .pointer (some ⟨w.heap.size, 0, none⟩), ?_, ?_, ?_⟩
    · simp [Instr.range, run_und hu]
    · exact .ptr ⟨w.heap.size, 0, 0, 0, 0, []⟩ 0 (PM.ins_same _ _ _ _) (Nat.le_refl _) (Nat.le_refl _) rfl
    · exact .new hi hf.at rfl (Nat.le_refl _) ⟨hi.low, _, none, PM.ins_same _ _ _ _, alloc_new _ _, rfl, rfl, trivial⟩
  · rename_i id hu
    split at h
    · rename_i es clock ho
      simp only [Option.some.injEq, Prod.mk.injEq] at h
      obtain ⟨rfl, rfl⟩ := h
      have hlt := hi.lt ho
      have hd : D id := hk id (.inl (mem_addL.2 (.inl rfl))) hlt
      obtain ⟨hR, e, es', he, hb, her⟩ := hi.at ho hd
      cases hx with
      | map e' he' =>
        rw [he] at he'; simp only [Option.some.injEq] at he'; subst he'
        have hi2 : Inv R C D φ (σ.lgR id) w := hi.same rfl rfl rfl
        have hf2 : ∀ v, φ (σ.lgR id).next v = none := fun v => hf σ.next (Nat.le_refl _) (Nat.lt_succ_self _) v
        refine ⟨φ.ins σ.next 0 ⟨w.heap.size, 0, 0, 0, 0, []⟩, w.alloc (.mapIter (some e.blk) clock #[] clock), .pointer (some ⟨w.heap.size, 0, none⟩), ?_, ?_, ?_⟩
        · simp [Instr.range, run_und hu, run_getObj hb]
        · exact .ptr ⟨w.heap.size, 0, 0, 0, 0, []⟩ 0 (PM.ins_same _ _ _ _) (Nat.le_refl _) (Nat.le_refl _) rfl
        · have hp : Post R D φ (σ.lgR id) w ((σ.lgR id).mk' (.miter (some id) clock [] clock)) (φ.ins σ.next 0 ⟨w.heap.size, 0, 0, 0, 0, []⟩) (w.alloc (.mapIter (some e.blk) clock #[] clock)) :=
            .new hi2 hf2 rfl (Nat.le_refl _) ⟨hi.low, _, some e.blk, PM.ins_same _ _ _ _, alloc_new _ _, rfl, rfl, e, φ.le_ins _ (hf2 0) _ _ _ he, rfl⟩
          exact hp.from rfl rfl
    · cases h
  · cases h
theorem ER.filter {l : List (AV × AV × Nat)} {l' : List MapEntry} (q : Nat → Bool) (h : ER φ l l') : ER φ (l.filter fun e => q e.2.2) (l'.filter fun e => q e.born) := by
  induction h with
  | nil => exact .nil
  | cons hk hv _ ih =>
    rename_i n _ _ _ _ _
    simp only [List.filter_cons]
    split
    · exact .cons hk hv ih
    · exact ih
theorem ER.append {l m : List (AV × AV × Nat)} {l' m' : List MapEntry} (h : ER φ l l') (k : ER φ m m') : ER φ (l ++ m) (l' ++ m') := by
  induction h with
  | nil => exact k
  | cons hk hv _ ih => exact .cons hk hv ih
theorem ER.all {l : List (AV × AV × Nat)} {l' : List MapEntry} (q : Nat → Bool) (h : ER φ l l') : l.all (fun e => q e.2.2) = l'.all (fun e => q e.born) := by
  induction h with
  | nil => rfl
  | cons _ _ _ ih => simp only [List.all_cons, ih]
theorem ER.isEmpty {l : List (AV × AV × Nat)} {l' : List MapEntry} (h : ER φ l l') : l.isEmpty = l'.isEmpty := by cases h <;> rfl
theorem ER.getC {l : List (AV × AV × Nat)} {l' : List MapEntry} (h : ER φ l l') {i : Nat} {e' : MapEntry} (hi : l'[i]? = some e') :
    ∃ e, l[i]? = some e ∧ VR φ e.1 e'.key ∧ VR φ e.2.1 e'.val ∧ e.2.2 = e'.born := by
  induction h generalizing i with
  | nil => simp at hi
  | cons hk hv _ ih =>
    cases i with
    | zero => simp at hi; subst hi; exact ⟨_, rfl, hk, hv, rfl⟩
    | succ i => simp at hi; obtain ⟨e, h1, h2⟩ := ih hi; exact ⟨e, by simpa using h1, h2⟩
theorem ER.find {l : List (AV × AV × Nat)} {l' : List MapEntry} (h : ER φ l l') {b : Nat} {e : AV × AV × Nat} (hf : l.find? (fun e => Nat.beq e.2.2 b) = some e) :
    ∃ e', l'.find? (fun e => e.born == b) = some e' ∧ VR φ e.1 e'.key ∧ VR φ e.2.1 e'.val := by
  induction h with
  | nil => simp at hf
  | cons hk hv _ ih =>
    rename_i n _ _ _ _ _
    simp only [List.find?_cons] at hf ⊢
    cases hb : Nat.beq n b with
    | true =>
      rw [hb] at hf
      simp only [Option.some.injEq] at hf
      subst hf
      have : (n == b) = true := by rw [beq_t hb]; simp
      rw [this]
      exact ⟨_, rfl, hk, hv⟩
    | false =>
      rw [hb] at hf
      have : (n == b) = false := by simp [beq_f hb]
      rw [this]
      exact ih hf
omit [Val] in
theorem choose_next (n : Nat) (hn : 0 < n) (w : World) : ∃ (j : Nat) (w1 : World), j < n ∧ (w1 = w ∨ w1 = w.drew) ∧ (choose (Question.mapNext n)).run P w = .ok j w1 := by
  by_cases hf : n ≤ 1
  · exact ⟨0, w, by omega, Or.inl rfl, by simp [choose, Sem.run, Question.forced, hf]⟩
  · exact ⟨_, w.drew, Nat.mod_lt _ (by omega), Or.inr rfl, by
      simp only [choose, Sem.run, Question.forced, decide_eq_true_eq, hf, if_false, Question.cut]
      rfl⟩
def candsOf (es : Array MapEntry) (since : Nat) (seen : Array Nat) : Array (Option MapEntry) :=
  let left := es.filter fun e => !seen.contains e.born
  let old := left.filter (·.born < since)
  let new := left.filter (·.born ≥ since)
  (if old.isEmpty then #[none] else #[]) ++ (old ++ new).map some
theorem mcands_ok {es : List (AV × AV × Nat)} {es' : Array MapEntry} (h : ER φ es es'.toList) {since last : Nat} {seen : List Nat} {l : List (Option (AV × AV × Nat))} (hm : mcands es since seen last = some l) :
    (!seen.toArray.isEmpty && !es'.isEmpty && es'.all (·.born ≥ last)) = false ∧ l.length = (candsOf es' since seen.toArray).size ∧ 0 < l.length ∧
    ∀ (j : Nat) (c' : Option MapEntry), (candsOf es' since seen.toArray)[j]? = some c' → ∃ c, l[j]? = some c ∧
      (match c, c' with
       | none, none => True
       | some e, some e' => VR φ e.1 e'.key ∧ VR φ e.2.1 e'.val ∧ e.2.2 = e'.born
       | _, _ => False) := by
  unfold mcands at hm
  rw [cond_eq_ite] at hm
  split at hm
  · cases hm
  · rename_i hu
    simp only [Option.some.injEq] at hm
    subst hm
    have h1 : (!seen.toArray.isEmpty && !es'.isEmpty && es'.all (·.born ≥ last)) = false := by
      rw [Bool.not_eq_true] at hu
      rw [← hu]
      congr 1
      · congr 1
        · cases seen <;> rfl
        · rw [h.isEmpty]; congr 1; rw [← Array.isEmpty_toList]
      · rw [← Array.all_toList]
        refine Eq.trans ?_ (h.all (fun b => Nat.ble last b)).symm
        congr 1
        funext e
        by_cases hb : last ≤ e.born
        · rw [Nat.ble_eq_true_of_le hb]; simpa using hb
        · have : Nat.ble last e.born = false := by
            cases hx : Nat.ble last e.born with
            | true => exact absurd (ble_t hx) hb
            | false => rfl
          rw [this]; simpa using hb
    have hl := h.filter (fun b => !seen.contains b)
    have ho := hl.filter (fun b => Nat.blt b since)
    have hn := hl.filter (fun b => !Nat.blt b since)
    have e1 : (candsOf es' since seen.toArray).toList = (if ((es'.toList.filter fun e => !seen.contains e.born).filter fun e => Nat.blt e.born since).isEmpty then [none] else []) ++
        (((es'.toList.filter fun e => !seen.contains e.born).filter fun e => Nat.blt e.born since) ++ ((es'.toList.filter fun e => !seen.contains e.born).filter fun e => !Nat.blt e.born since)).map some := by
      have q1 : (fun e : MapEntry => decide (e.born < since)) = fun e => Nat.blt e.born since := by
        funext e
        by_cases hb : e.born < since
        · have : Nat.blt e.born since = true := Nat.ble_eq_true_of_le hb
          rw [this]; simpa using hb
        · have : Nat.blt e.born since = false := by
            cases hx : Nat.blt e.born since with
            | true => exact absurd (blt_t hx) hb
            | false => rfl
          rw [this]; simpa using hb
      have q2 : (fun e : MapEntry => decide (e.born ≥ since)) = fun e => !Nat.blt e.born since := by
        funext e
        by_cases hb : e.born < since
        · have : Nat.blt e.born since = true := Nat.ble_eq_true_of_le hb
          rw [this]; simp; omega
        · have : Nat.blt e.born since = false := by
            cases hx : Nat.blt e.born since with
            | true => exact absurd (blt_t hx) hb
            | false => rfl
          rw [this]; simp; omega
      unfold candsOf
      simp only [q1, q2]
      rw [Array.toList_append, Array.toList_map, Array.toList_append]
      congr 1
      · rw [← Array.isEmpty_toList]
        simp only [Array.toList_filter, List.contains_toArray]
        split <;> rfl
      · simp only [Array.toList_filter, List.contains_toArray]
    generalize ((es'.toList.filter fun e => !seen.contains e.born).filter fun e => Nat.blt e.born since) = O' at ho e1
    generalize ((es'.toList.filter fun e => !seen.contains e.born).filter fun e => !Nat.blt e.born since) = N' at hn e1
    have hgo : ∀ (O N : List (AV × AV × Nat)), ER φ O O' → ER φ N N' →
        ((bif O.isEmpty then [none] else []) ++ (O ++ N).map some).length = (candsOf es' since seen.toArray).size ∧ 0 < ((bif O.isEmpty then [none] else []) ++ (O ++ N).map some).length ∧
        ∀ (j : Nat) (c' : Option MapEntry), (candsOf es' since seen.toArray)[j]? = some c' → ∃ c, ((bif O.isEmpty then [none] else []) ++ (O ++ N).map some)[j]? = some c ∧
          (match c, c' with
           | none, none => True
           | some e, some e' => VR φ e.1 e'.key ∧ VR φ e.2.1 e'.val ∧ e.2.2 = e'.born
           | _, _ => False) := by
      intro O N hO hN
      have hlen : ∀ {a : List (AV × AV × Nat)} {b : List MapEntry}, ER φ a b → a.length = b.length := by
        intro a b h
        induction h with
        | nil => rfl
        | cons _ _ _ ih => simp [ih]
      have hsz : (candsOf es' since seen.toArray).size = (candsOf es' since seen.toArray).toList.length := rfl
      rw [hsz, e1]
      refine ⟨?_, ?_, fun j c' hj => ?_⟩
      · rw [hO.isEmpty]
        cases O'.isEmpty <;> simp [hlen hO, hlen hN]
      · cases hO
        · simp
        · simp
      · rw [← Array.getElem?_toList, e1] at hj
        cases hOO : O'.isEmpty with
        | true =>
          rw [hOO] at hj
          rw [hO.isEmpty, hOO]
          simp only [if_true, cond_true] at hj ⊢
          cases j with
          | zero => simp at hj; subst hj; exact ⟨none, rfl, trivial⟩
          | succ j =>
            simp only [List.singleton_append, List.getElem?_cons_succ, List.getElem?_map, Option.map_eq_some_iff] at hj ⊢
            obtain ⟨e', h2, rfl⟩ := hj
            obtain ⟨e, g1, g2⟩ := (hO.append hN).getC h2
            exact ⟨some e, ⟨e, g1, rfl⟩, g2⟩
        | false =>
          rw [hOO] at hj
          rw [hO.isEmpty, hOO]
          simp only [Bool.false_eq_true, if_false, cond_false, List.nil_append, List.getElem?_map, Option.map_eq_some_iff] at hj ⊢
          obtain ⟨e', h2, rfl⟩ := hj
          obtain ⟨e, g1, g2⟩ := (hO.append hN).getC h2
          exact ⟨some e, ⟨e, g1, rfl⟩, g2⟩
    exact ⟨h1, hgo _ _ ho hn⟩
omit [Val] in
theorem mcands_ne {es : List (AV × AV × Nat)} {since last : Nat} {seen : List Nat} {l : List (Option (AV × AV × Nat))} (h : mcands es since seen last = some l) : l ≠ [] := by
  unfold mcands at h
  rw [cond_eq_ite] at h
  split at h
  · cases h
  · simp only [Option.some.injEq] at h
    subst h
    generalize List.filter (fun e : AV × AV × Nat => Nat.blt e.2.2 since) (List.filter (fun e => !seen.contains e.2.2) es) = O
    cases O <;> simp
theorem mnextA_ok (hi : Inv R C D φ σ w) {x : AV} {x' : Value} {t : TypeId} {l : List (AV × St)} (h : mnextA x σ = some l) (hx : VR φ x x') (hk : ∀ p ∈ l, Known D σ p.2) :
    ∃ p ∈ l, ∃ w' v', (Instr.next x' false t).run P w = .ok v' w' ∧ VR φ p.1 v' ∧ Post R D φ σ w p.2 φ w' := by
  unfold mnextA at h
  split at h
  · rename_i id
    split at h
    · rename_i since seen last ho
      simp only [Option.some.injEq] at h
      subst h
      have hlt := hi.lt ho
      have hd : D id := hk _ (List.mem_singleton.2 rfl) id (.inl (mem_addL.2 (.inl rfl))) hlt
      obtain ⟨hR, e, m', he, hb, hup, hdn, hm⟩ := hi.at ho hd
      cases m' with
      | some m' => exact hm.elim
      | none =>
        cases hx with
        | ptr e' o he' hd' hh' ho' =>
          rw [he] at he'; simp only [Option.some.injEq] at he'; subst he'
          have : o = 0 := by omega
          subst this
          refine ⟨_, List.mem_singleton.2 rfl, w, .tuple #[.bool false], ?_, .tup _ (.cons (.bool _) .nil), .same hi rfl rfl rfl⟩
          simp [Instr.next, run_getObj hb]
    · rename_i m since seen last ho
      split at h
      · rename_i es clock hmo
        split at h
        · rename_i cs hcs
          simp only [Option.some.injEq] at h
          subst h
          have hlt := hi.lt ho
          have hltm := hi.lt hmo
          -- both are known
          have hne : cs ≠ [] := mcands_ne hcs
          obtain ⟨c0, hc0⟩ := List.exists_mem_of_ne_nil _ hne
          have hk0 := hk _ (List.mem_map_of_mem hc0)
          have hd : D id := by
            cases c0 with
            | none => exact hk0 id (.inl (mem_addL.2 (.inr (mem_addL.2 (.inl rfl))))) hlt
            | some c => exact hk0 id (.inr (mem_addL.2 (.inl rfl))) hlt
          have hdm : D m := by
            cases c0 with
            | none => exact hk0 m (.inl (mem_addL.2 (.inl rfl))) hltm
            | some c => exact hk0 m (.inl (mem_addL.2 (.inl rfl))) hltm
          obtain ⟨hR, e, m', he, hb, hup, hdn, hm⟩ := hi.at ho hd
          obtain ⟨hRm, em, es', hem, hbm, her⟩ := hi.at hmo hdm
          cases m' with
          | none => exact hm.elim
          | some m' =>
            obtain ⟨f, hf, hfb⟩ := hm
            rw [hem] at hf; simp only [Option.some.injEq] at hf; subst hf
            subst hfb
            obtain ⟨g1, g2, g3, g4⟩ := mcands_ok her hcs
            obtain ⟨j, w1, hj, hw1, hch⟩ := choose_next (P := P) (candsOf es' since seen.toArray).size (by omega) w
            obtain ⟨c, hc1, hc2⟩ := g4 j _ (Array.getElem?_eq_getElem hj)
            cases hx with
            | ptr e' o he' hd' hh' ho' =>
              rw [he] at he'; simp only [Option.some.injEq] at he'; subst he'
              have : o = 0 := by omega
              subst this
              have hb1 : w1.heap[e.blk]? = some (.mapIter (some em.blk) since seen.toArray last) := by rcases hw1 with rfl | rfl <;> exact hb
              have hi1 : Inv R C D φ σ w1 := by
                rcases hw1 with rfl | rfl
                · exact hi
                · exact hi.drew
              have hpost : ∀ {σ' : St} {w' : World}, Post R D φ σ w1 σ' φ w' → Post R D φ σ w σ' φ w' := by
                intro σ' w' hp
                rcases hw1 with rfl | rfl
                · exact hp
                · exact hp.drew
              have hmem : c ∈ cs := List.mem_of_getElem? hc1
              have hbody : ∀ (r : Result Value), (match (candsOf es' since seen.toArray)[j]? with
                  | some (some e1) => (do
                    setObj e.blk (.mapIter (some em.blk) since (seen.toArray.push e1.born) clock)
                    pure (Value.tuple #[.bool true, e1.key, e1.val]) : Sem Value)
                  | some none => pure (Value.tuple #[.bool false])
                  | none => stuck "Next: no such candidate").run P w1 = r → (Instr.next (.pointer (some ⟨e.blk, 0, none⟩)) false t).run P w = r := by
                intro r hr
                simp only [Instr.next, Sem.run_bind, run_getObj hb (by simp), run_getObj hbm (by simp), Result.andThen_ok]
                rw [g1]
                simp only [Bool.false_eq_true, if_false]
                rw [Sem.run_bind]
                change ((choose (Question.mapNext (candsOf es' since seen.toArray).size)).run P w).andThen (fun a w' => Sem.run P (match (candsOf es' since seen.toArray)[a]? with
                  | some (some e1) => (do
                    setObj e.blk (.mapIter (some em.blk) since (seen.toArray.push e1.born) clock)
                    pure (Value.tuple #[.bool true, e1.key, e1.val]) : Sem Value)
                  | some none => pure (Value.tuple #[.bool false])
                  | none => stuck "Next: no such candidate") w') = r
                rw [hch]
                exact hr
              cases hcc : (candsOf es' since seen.toArray)[j] with
              | none =>
                rw [hcc] at hc2
                cases c with
                | some c => exact hc2.elim
                | none =>
                  refine ⟨_, List.mem_map_of_mem hmem, w1, .tuple #[.bool false], hbody _ ?_, .tup _ (.cons (.bool _) .nil), hpost (.same hi1 rfl rfl rfl)⟩
                  rw [Array.getElem?_eq_getElem hj, hcc]
                  simp
              | some e1 =>
                rw [hcc] at hc2
                cases c with
                | none => exact hc2.elim
                | some c =>
                  obtain ⟨k1, k2, k3⟩ := hc2
                  obtain ⟨ck, cv, cb⟩ := c
                  dsimp only at k1 k2 k3
                  subst k3
                  have hi2 : Inv R C D φ (σ.lgR m) w1 := hi1.same rfl rfl rfl
                  refine ⟨_, List.mem_map_of_mem hmem, wset w1 e.blk (.mapIter (some em.blk) since (seen.toArray.push e1.born) clock), .tuple #[.bool true, e1.key, e1.val], hbody _ ?_,
                    .tup _ (.cons (.bool _) (.cons k1 (.cons k2 .nil))), hpost (Post.from (τ := σ.lgR m) ?_ rfl rfl)⟩
                  · rw [Array.getElem?_eq_getElem hj, hcc]
                    simp [run_setObj hb1 (by simp)]
                  · refine .change hi2 hR hlt he ⟨hR, e, some em.blk, he, ?_, hup, hdn, em, hem, rfl⟩
                    rw [wset_same _ _ _ (heap_lt hb1)]
                    simp
        · cases h
      · cases h
    · cases h
  · cases h
theorem entryA_ok (hi : Inv R C D φ σ w) {x v : AV} {x' : Value} {σ' : St} (h : entryA x σ = some (v, σ')) (hx : VR φ x x') (hk : Known D σ σ') :
    ∃ v', (Instr.entry x').run P w = .ok v' w ∧ VR φ v v' ∧ Post R D φ σ w σ' φ w := by
  unfold entryA at h
  split at h
  · rename_i id
    split at h
    · rename_i m since seen last ho
      split at h
      · rename_i b es clock hb hmo
        rw [cond_eq_ite] at h
        split at h
        · rename_i hcl
          have hcl := beq_t hcl
          subst hcl
          split at h
          · rename_i e0 hf0
            simp only [Option.some.injEq, Prod.mk.injEq] at h
            obtain ⟨rfl, rfl⟩ := h
            have hd : D id := hk id (.inl (mem_addL.2 (.inr (mem_addL.2 (.inl rfl))))) (hi.lt ho)
            have hdm : D m := hk m (.inl (mem_addL.2 (.inl rfl))) (hi.lt hmo)
            obtain ⟨hR, e, m', he, hbl, hup, hdn, hm⟩ := hi.at ho hd
            obtain ⟨hRm, em, es', hem, hbm, her⟩ := hi.at hmo hdm
            cases m' with
            | none => exact hm.elim
            | some m' =>
              obtain ⟨f, hf, hfb⟩ := hm
              rw [hem] at hf; simp only [Option.some.injEq] at hf; subst hf
              subst hfb
              obtain ⟨e', g1, g2, g3⟩ := her.find hf0
              cases hx with
              | ptr e'' o he' hd' hh' ho' =>
                rw [he] at he'; simp only [Option.some.injEq] at he'; subst he'
                have : o = 0 := by omega
                subst this
                refine ⟨.tuple #[e'.key, e'.val], ?_, .tup _ (.cons g2 (.cons g3 .nil)), .same hi rfl rfl rfl⟩
                have hbk : seen.toArray.back? = some b := by simpa using hb
                have hfd : es'.find? (fun e => e.born == b) = some e' := by rw [← Array.find?_toList]; exact g1
                simp [Instr.entry, run_getObj hbl, run_getObj hbm, hbk, hfd]
          · cases h
        · cases h
      · cases h
    · cases h
  · cases h
theorem clearA_ok (hi : Inv R C D φ σ w) {ts : Array TypeId} {t ty : TypeId} {x : AV} {x' : Value} {σ' : St} (h : clearA P t x σ = some σ') (hx : VR φ x x') (ht : ts[0]? = some t) (hk : Known D σ σ') :
    ∃ w', (Builtin.clear_ ts ty #[x']).run P w = .ok (.tuple #[]) w' ∧ Post R D φ σ w σ' φ w' := by
  unfold clearA at h
  split at h
  · rename_i u hu
    simp only [Option.some.injEq] at h
    subst h
    cases hx
    exact ⟨w, by simp [Builtin.clear_, ht, run_und hu], .same hi rfl rfl rfl⟩
  · rename_i u hu
    simp only [Option.some.injEq] at h
    subst h
    cases hx
    exact ⟨w, by simp [Builtin.clear_, ht, run_und hu], .same hi rfl rfl rfl⟩
  · rename_i u id hu
    split at h
    · rename_i es clock ho
      simp only [Option.some.injEq] at h
      subst h
      have hlt := hi.lt ho
      have hd : D id := hk id (.inr (mem_addL.2 (.inl rfl))) hlt
      obtain ⟨hR, e, es', he, hb, her⟩ := hi.at ho hd
      cases hx with
      | map e' he' =>
        rw [he] at he'; simp only [Option.some.injEq] at he'; subst he'
        refine ⟨wset w e.blk (.map #[] clock), ?_, .change hi hR hlt he ⟨hR, e, #[], he, wset_same _ _ _ (heap_lt hb), .nil⟩⟩
        simp [Builtin.clear_, ht, run_und hu, run_getObj hb, run_setObj hb]
    · cases h
  · rename_i e id ver off len cap esz hu
    rw [cond_eq_ite] at h
    cases hx with
    | slc ex q c he hd hh hl hc hoo =>
      split at h
      · rename_i h0
        have h0 := beq_t h0
        subst h0
        simp only [Option.some.injEq] at h
        subst h
        exact ⟨w, by simp [Builtin.clear_, ht, run_und hu], .same hi rfl rfl rfl⟩
      · rename_i h0
        have h0 : len ≠ 0 := fun e0 => h0 (by subst e0; rfl)
        split at h
        · rename_i z hz
          rw [cond_eq_ite] at h
          split at h
          · rename_i hsz
            have hsz := beq_t hsz
            obtain ⟨z', rz, vz⟩ := run_zero hz
            have hq := (hoo.resolve_left (by omega)).1
            have hzl : z'.cells.size = esz := by
              have := (VRL.const vz (fun _ _ => none)).length
              simpa [hsz] using this
            have hcells : VRL φ (repl len z.cells) (Builtin.zeroCells z'.cells len).toList := by
              have := makeSlice_cells (c := len) (size := esz) vz hsz φ z'.cells (fun _ => rfl)
              simpa [Builtin.zeroCells, hzl] using this
            obtain ⟨w', r1, r2⟩ := writeN_run (P := P) hi h hk hcells he hd hq
            refine ⟨w', ?_, r2⟩
            cases len with
            | zero => exact absurd rfl h0
            | succ n => simp [Builtin.clear_, ht, run_und hu, rz, r1]
          · cases h
        · cases h
  · cases h
theorem nextA_ok (hi : Inv R C D φ σ w) {x v : AV} {x' : Value} {b : Bool} {t : TypeId} {σ' : St} (h : nextA x b σ = some (v, σ')) (hx : VR φ x x') (hk : Known D σ σ') :
    ∃ w' v', (Instr.next x' b t).run P w = .ok v' w' ∧ VR φ v v' ∧ Post R D φ σ w σ' φ w' := by
  unfold nextA at h
  split at h
  · rename_i id
    split at h
    · rename_i s pos ho
      have hlt := hi.lt ho
      have hd : D id := by
        simp only [cond_eq_ite] at h
        split at h
        · simp only [Option.some.injEq, Prod.mk.injEq] at h
          obtain ⟨_, rfl⟩ := h
          exact hk id (.inr (mem_addL.2 (.inl rfl))) hlt
        · simp only [Option.some.injEq, Prod.mk.injEq] at h
          obtain ⟨_, rfl⟩ := h
          exact hk id (.inl (mem_addL.2 (.inl rfl))) hlt
      obtain ⟨hR, e, he, hb, hup, hdn⟩ := hi.at ho hd
      cases hx with
      | ptr e' o he' hd' hh' ho' =>
        rw [he] at he'; simp only [Option.some.injEq] at he'; subst he'
        have : o = 0 := by omega
        subst this
        simp only [cond_eq_ite] at h
        split at h
        · rename_i hp
          have hp := blt_t hp
          simp only [Option.some.injEq, Prod.mk.injEq] at h
          obtain ⟨rfl, rfl⟩ := h
          have hp' : pos < (⟨⟨s⟩⟩ : ByteArray).size := hp
          refine ⟨wset w e.blk (.stringIter ⟨⟨s⟩⟩ (pos + (Utf8.decode ⟨⟨s⟩⟩ pos).2)), .tuple #[.bool true, goInt pos, .int .i32 (Utf8.decode ⟨⟨s⟩⟩ pos).1], ?_,
            .tup _ (.cons (.bool _) (.cons (.int _ _) (.cons (.int _ _) .nil))), ?_⟩
          rotate_left
          · exact .change (ob := .stringIter ⟨⟨s⟩⟩ (pos + (Utf8.decode ⟨⟨s⟩⟩ pos).2)) hi hR hlt he ⟨hR, e, he, wset_same _ _ _ (heap_lt hb), hup, hdn⟩
          · simp only [Instr.next, Sem.run_bind, run_getObj hb (by simp), Result.andThen_ok]
            rw [if_pos hp']
            simp [run_setObj hb (by simp)]
        · rename_i hp
          have hp : ¬ pos < (⟨⟨s⟩⟩ : ByteArray).size := fun h => hp (by exact Nat.ble_eq_true_of_le h)
          simp only [Option.some.injEq, Prod.mk.injEq] at h
          obtain ⟨rfl, rfl⟩ := h
          refine ⟨w, .tuple #[.bool false], ?_, .tup _ (.cons (.bool _) .nil), .same hi rfl rfl rfl⟩
          simp only [Instr.next, Sem.run_bind, run_getObj hb (by simp), Result.andThen_ok]
          rw [if_neg hp]
          simp
    · cases h
  · cases h
end
end Go.Tw
namespace Go.Tw
section
variable [Val]
variable {P : Program} {R : Nat} {C : Cfg} {D : Nat → Prop} {φ : PM} {σ : St} {w : World}
omit [Val] in
theorem plainKey_desc {t : TypeId} {d : TypeDesc} (h : plainKey P t = some d) : P.underlying t = some d ∧ ((∃ k, d = .int k) ∨ d = .string ∨ d = .bool) := by
  unfold plainKey at h
  split at h <;> first
    | (cases h; done)
    | (simp only [Option.some.injEq] at h; subst h; rename_i hu; exact ⟨hu, by simp⟩)
omit [Val] in
theorem keyFits_desc {t : TypeId} {k : AV} (h : keyFits P t k = true) : ∃ d, P.underlying t = some d ∧ ((∃ k, d = .int k) ∨ d = .string ∨ d = .bool) ∧
    ((∃ j n ik, d = .int ik ∧ k = .int j n) ∨ (∃ s, d = .string ∧ k = .str s) ∨ (∃ b, d = .bool ∧ k = .bool b)) := by
  unfold keyFits at h
  split at h
  · rename_i hk; obtain ⟨a, b⟩ := plainKey_desc hk; exact ⟨_, a, b, .inl ⟨_, _, _, rfl, rfl⟩⟩
  · rename_i hk; obtain ⟨a, b⟩ := plainKey_desc hk; exact ⟨_, a, b, .inr (.inl ⟨_, rfl, rfl⟩)⟩
  · rename_i hk; obtain ⟨a, b⟩ := plainKey_desc hk; exact ⟨_, a, b, .inr (.inr ⟨_, rfl, rfl⟩)⟩
  · cases h
theorem checkKey_suc {t : TypeId} {k : AV} {k' : Value} (h : keyFits P t k = true) (hk : VR φ k k') (b : Bool) (w : World) (n : Nat) : (Instr.checkKey b (n + 1) t k').run P w = .ok () w := by
  obtain ⟨d, hu, _, hc⟩ := keyFits_desc h
  rcases hc with ⟨j, n, ik, rfl, rfl⟩ | ⟨s, rfl, rfl⟩ | ⟨b, rfl, rfl⟩ <;> cases hk <;> simp only [Instr.checkKey, Sem.run_bind, run_und hu, Result.andThen_ok] <;> rfl
theorem checkKey_ok {t : TypeId} {k : AV} {k' : Value} (h : keyFits P t k = true) (hk : VR φ k k') (b : Bool) (w : World) : (Instr.checkKey b 10000 t k').run P w = .ok () w :=
  checkKey_suc h hk b w 9999
theorem sameKey_ok {d : TypeDesc} {x y : AV} {x' y' : Value} {b : Bool} (h : sameKey x y = some b) (hx : VR φ x x') (hy : VR φ y y')
    (hd : (∃ j n ik, d = .int ik ∧ x = .int j n) ∨ (∃ s, d = .string ∧ x = .str s) ∨ (∃ b, d = .bool ∧ x = .bool b)) : Instr.sameNow d x' y' = some b := by
  rcases hd with ⟨j, n, ik, rfl, rfl⟩ | ⟨s, rfl, rfl⟩ | ⟨c, rfl, rfl⟩
  · cases hx
    cases hy <;> simp only [sameKey, reduceCtorEq] at h
    simpa [Instr.sameNow] using h
  · cases hx
    cases hy <;> simp only [sameKey, reduceCtorEq] at h
    simpa [Instr.sameNow, str_beq] using h
  · cases hx
    cases hy <;> simp only [sameKey, reduceCtorEq] at h
    simpa [Instr.sameNow] using h
theorem findA_ok {d : TypeDesc} {k : AV} {k' : Value} (hk : VR φ k k')
    (hd : (∃ j n ik, d = .int ik ∧ k = .int j n) ∨ (∃ s, d = .string ∧ k = .str s) ∨ (∃ b, d = .bool ∧ k = .bool b)) :
    ∀ {es : List (AV × AV × Nat)} {es' : List MapEntry} {i : Nat} {r : Option (Nat × AV)}, ER φ es es' → findA k es i = some r →
      (r = none → Instr.findNow d k' es' i = some none) ∧ (∀ j v, r = some (j, v) → ∃ v', Instr.findNow d k' es' i = some (some (j, v')) ∧ VR φ v v' ∧ i ≤ j ∧
        ∃ q n, es[j - i]? = some (q, v, n) ∧ sameKey k q = some true) := by
  intro es
  induction es with
  | nil =>
    intro es' i r he h
    cases he
    simp only [findA, Option.some.injEq] at h; subst h
    exact ⟨fun _ => rfl, fun j v h => (by cases h)⟩
  | cons p es ih =>
    intro es' i r he h
    cases he with
    | cons hk' hv ht =>
      rename_i q v n q' v' l'
      simp only [findA] at h
      split at h
      · rename_i hs
        simp only [Option.some.injEq] at h; subst h
        refine ⟨fun h => (by cases h), fun j u h => ?_⟩
        simp only [Option.some.injEq, Prod.mk.injEq] at h
        obtain ⟨rfl, rfl⟩ := h
        refine ⟨v', ?_, hv, Nat.le_refl _, q, n, by simp, hs⟩
        simp only [Instr.findNow, sameKey_ok hs hk hk' hd]
      · rename_i hs
        obtain ⟨h1, h2⟩ := ih ht h
        refine ⟨fun hr => ?_, fun j u hr => ?_⟩
        · simp only [Instr.findNow, sameKey_ok hs hk hk' hd]; exact h1 hr
        · obtain ⟨u', g1, g2, g3, q0, n0, g4, g5⟩ := h2 j u hr
          refine ⟨u', ?_, g2, by omega, q0, n0, ?_, g5⟩
          · simp only [Instr.findNow, sameKey_ok hs hk hk' hd]; exact g1
          · rw [show j - i = j - (i + 1) + 1 by omega]; simpa using g4
      · cases h
theorem lookupA_ok (hi : Inv R C D φ σ w) {t : TypeId} {x k v : AV} {x' k' : Value} {ok : Bool} {σ' : St} (h : lookupA P t x k ok σ = some (v, σ')) (hx : VR φ x x') (hk : VR φ k k')
    (hkn : Known D σ σ') : ∃ v', (Instr.lookup t x' k' ok).run P w = .ok v' w ∧ VR φ v v' ∧ Post R D φ σ w σ' φ w := by
  unfold lookupA at h
  split at h
  · rename_i kt et hu
    simp only [cond_eq_ite] at h
    split at h
    · rename_i hfit
      obtain ⟨d, hku, _, hd⟩ := keyFits_desc hfit
      split at h
      · cases h
      · rename_i es τ he
        have key : ∀ (es' : Array MapEntry), ER φ es es'.toList → ((∃ j u', Instr.findNow d k' es'.toList 0 = some (some (j, u')) ∧ VR φ v (if ok then .tuple #[u', .bool true] else u')) ∨
            (Instr.findNow d k' es'.toList 0 = some none ∧ ∃ z', (∀ w, (zeroValue et).run P w = .ok z' w) ∧ VR φ v (if ok then .tuple #[z', .bool false] else z'))) ∧ σ' = τ := by
          intro es' her
          split at h
          · cases h
          · rename_i j u hf
            obtain ⟨_, h2⟩ := findA_ok hk hd her hf
            obtain ⟨u', g1, g2, _⟩ := h2 j u rfl
            simp only [Option.some.injEq, Prod.mk.injEq] at h
            obtain ⟨rfl, rfl⟩ := h
            refine ⟨.inl ⟨j, u', g1, ?_⟩, rfl⟩
            cases ok
            · exact g2
            · exact .tup _ (.cons g2 (.cons (.bool _) .nil))
          · rename_i hf
            obtain ⟨h1, _⟩ := findA_ok hk hd her hf
            have g1 := h1 rfl
            split at h
            · rename_i z hz
              obtain ⟨z', rz, vz⟩ := run_zero hz
              simp only [Option.some.injEq, Prod.mk.injEq] at h
              obtain ⟨rfl, rfl⟩ := h
              refine ⟨.inr ⟨g1, z', rz, ?_⟩, rfl⟩
              cases ok
              · exact vz φ
              · exact .tup _ (.cons (vz φ) (.cons (.bool _) .nil))
            · cases h
        split at he
        · cases hx
          simp only [Option.some.injEq, Prod.mk.injEq] at he
          obtain ⟨rfl, rfl⟩ := he
          obtain ⟨hr, rfl⟩ := key #[] .nil
          rcases hr with ⟨j, u', g1, r2⟩ | ⟨g1, z', rz, r2⟩
          · refine ⟨_, ?_, r2, .same hi rfl rfl rfl⟩
            have g1 : Instr.findNow d k' [] 0 = some (some (j, u')) := by simpa using g1
            simp [Instr.lookup, run_und hu, checkKey_ok hfit hk, Instr.findKey, run_und hku, g1]
          · refine ⟨_, ?_, r2, .same hi rfl rfl rfl⟩
            have g1 : Instr.findNow d k' [] 0 = some none := by simpa using g1
            simp [Instr.lookup, run_und hu, checkKey_ok hfit hk, Instr.findKey, run_und hku, g1, rz]
        · rename_i id
          cases hx with
          | map e hee =>
            split at he
            · rename_i es0 clock ho
              simp only [Option.some.injEq, Prod.mk.injEq] at he
              obtain ⟨rfl, rfl⟩ := he
              have hlt := hi.lt ho
              have hd' : D id := by
                have hmem : id ∈ σ'.rd := by
                  split at h
                  · cases h
                  · simp only [Option.some.injEq, Prod.mk.injEq] at h; obtain ⟨_, rfl⟩ := h; exact mem_addL.2 (.inl rfl)
                  · split at h
                    · simp only [Option.some.injEq, Prod.mk.injEq] at h; obtain ⟨_, rfl⟩ := h; exact mem_addL.2 (.inl rfl)
                    · cases h
                exact hkn id (.inl hmem) hlt
              obtain ⟨hR, e', es', he', hb, her⟩ := hi.at ho hd'
              rw [hee] at he'; simp only [Option.some.injEq] at he'; subst he'
              obtain ⟨hr, rfl⟩ := key es' her
              rcases hr with ⟨j, u', g1, r2⟩ | ⟨g1, z', rz, r2⟩
              · exact ⟨_, by simp [Instr.lookup, run_und hu, run_getObj hb, checkKey_ok hfit hk, Instr.findKey, run_und hku, g1], r2, .same hi rfl rfl rfl⟩
              · exact ⟨_, by simp [Instr.lookup, run_und hu, run_getObj hb, checkKey_ok hfit hk, Instr.findKey, run_und hku, g1, rz], r2, .same hi rfl rfl rfl⟩
            · cases he
        · cases he
    · cases h
  · cases h
theorem ER.length {es : List (AV × AV × Nat)} {es' : List MapEntry} (h : ER φ es es') : es'.length = es.length := by
  induction h with
  | nil => rfl
  | cons _ _ _ ih => simp [ih]
theorem ER.get {es : List (AV × AV × Nat)} {es' : List MapEntry} (h : ER φ es es') {i : Nat} {q v : AV} {n : Nat} (hi : es[i]? = some (q, v, n)) :
    ∃ e, es'[i]? = some e ∧ VR φ q e.key ∧ VR φ v e.val ∧ e.born = n := by
  induction h generalizing i with
  | nil => simp at hi
  | cons h1 h2 _ ih =>
    cases i with
    | zero => simp at hi; obtain ⟨rfl, rfl, rfl⟩ := hi; exact ⟨_, rfl, h1, h2, rfl⟩
    | succ i => simpa using ih (by simpa using hi)
theorem ER.mod {es : List (AV × AV × Nat)} {es' : List MapEntry} (h : ER φ es es') {k v : AV} {k' v' : Value} (hk : VR φ k k') (hv : VR φ v v') :
    ∀ i, ER φ (modE i (fun e => (k, v, e.2.2)) es) (es'.modify i fun e => { e with key := k', val := v' }) := by
  induction h with
  | nil => intro i; cases i <;> exact .nil
  | cons h1 h2 ht ih =>
    intro i
    cases i with
    | zero => exact .cons hk hv ht
    | succ i => simpa [modE] using ER.cons h1 h2 (ih i)
theorem sameBits_ok {x y : AV} {x' y' : Value} (h : sameKey x y = some true) (hx : VR φ x x') (hy : VR φ y y') : Instr.sameBits 10000 y' x' = true := by
  cases hx <;> cases hy <;> simp only [sameKey, reduceCtorEq, Option.some.injEq, beq_iff_eq] at h
  · subst h; simp [Instr.sameBits]
  · split at h
    · rename_i hk; simp only [Option.some.injEq, beq_iff_eq] at h; subst h; subst hk; simp [Instr.sameBits]
    · cases h
  · subst h; simp [Instr.sameBits, str_beq]
theorem updateA_ok (hi : Inv R C D φ σ w) {t : TypeId} {x k v : AV} {x' k' v' : Value} {σ' : St} (h : updateA P t x k v σ = some σ') (hx : VR φ x x') (hk : VR φ k k') (hv : VR φ v v')
    (hkn : Known D σ σ') : ∃ w', (Instr.mapUpdate t x' k' v').run P w = .ok () w' ∧ Post R D φ σ w σ' φ w' := by
  unfold updateA at h
  split at h
  · rename_i kt et id hu
    cases hx with
    | map e he =>
      simp only [cond_eq_ite] at h
      split at h
      · rename_i hfit
        obtain ⟨d, hku, _, hd⟩ := keyFits_desc hfit
        split at h
        · rename_i es clock ho
          have hlt := hi.lt ho
          have hdd : D id := by
            have hmem : id ∈ σ'.wr := by
              split at h
              · cases h
              · simp only [Option.some.injEq] at h; subst h; exact mem_addL.2 (.inl rfl)
              · simp only [Option.some.injEq] at h; subst h; exact mem_addL.2 (.inl rfl)
            exact hkn id (.inr hmem) hlt
          obtain ⟨hR, e', es', he', hb, her⟩ := hi.at ho hdd
          rw [he] at he'; simp only [Option.some.injEq] at he'; subst he'
          split at h
          · cases h
          · rename_i i u hf
            obtain ⟨_, h2⟩ := findA_ok hk hd her hf
            obtain ⟨u', g1, g2, _, q, n, g4, g5⟩ := h2 i u rfl
            simp only [Nat.sub_zero] at g4
            obtain ⟨me, m1, m2, m3, m4⟩ := her.get g4
            simp only [Option.some.injEq] at h; subst h
            have hm1 : es'[i]? = some me := by simpa using m1
            refine ⟨wset w e.blk (.map (es'.modify i fun e => { e with key := k', val := v' }) clock), ?_, ?_⟩
            · simp [Instr.mapUpdate, run_und hu, run_getObj hb, checkKey_ok hfit hk, Instr.findKey, run_und hku, g1, hm1, Instr.keyThatStays, sameBits_ok g5 hk m2, run_setObj hb]
            · refine .change hi hR hlt he ⟨hR, e, _, he, wset_same _ _ _ (heap_lt hb), ?_⟩
              have := her.mod hk hv i
              simpa using this
          · rename_i hf
            obtain ⟨h1, _⟩ := findA_ok hk hd her hf
            have g1 := h1 rfl
            simp only [Option.some.injEq] at h; subst h
            refine ⟨wset w e.blk (.map (es'.push { key := k', val := v', born := clock }) (clock + 1)), ?_, ?_⟩
            · simp [Instr.mapUpdate, run_und hu, run_getObj hb, checkKey_ok hfit hk, Instr.findKey, run_und hku, g1, run_setObj hb]
            · refine .change hi hR hlt he ⟨hR, e, _, he, wset_same _ _ _ (heap_lt hb), ?_⟩
              have := her.append (.cons hk hv .nil : ER φ [(k, v, clock)] [{ key := k', val := v', born := clock }])
              simpa using this
        · cases h
      · cases h
  · cases h
theorem lenA_ok (hi : Inv R C D φ σ w) {t ty : TypeId} {x v : AV} {x' : Value} {ts : Array TypeId} {σ' : St} (h : lenA P t x σ = some (v, σ')) (hx : VR φ x x') (hkn : Known D σ σ') (ht : ts[0]? = some t) :
    ∃ v', (Builtin.len_ ts ty #[x']).run P w = .ok v' w ∧ VR φ v v' ∧ Post R D φ σ w σ' φ w := by
  unfold lenA at h
  split at h
  case h_1 s hu =>
    simp only [Option.some.injEq, Prod.mk.injEq] at h; obtain ⟨rfl, rfl⟩ := h
    cases hx
    exact ⟨goInt s.length, by simp [Builtin.len_, ht, run_und hu]; rfl, .int _ _, .same hi rfl rfl rfl⟩
  case h_2 ex hu =>
    simp only [Option.some.injEq, Prod.mk.injEq] at h; obtain ⟨rfl, rfl⟩ := h
    cases hx with
    | sstr s hs =>
      refine ⟨goInt s.size, by simp [Builtin.len_, ht, run_und hu], ?_, .same hi rfl rfl rfl⟩
      show VR φ _ (.int .i64 _)
      rw [hs]; exact .sym _ _
  case h_3 ex hu =>
    simp only [Option.some.injEq, Prod.mk.injEq] at h; obtain ⟨rfl, rfl⟩ := h
    cases hx with
    | vstr s hs =>
      refine ⟨goInt s.length, by simp [Builtin.len_, ht, run_und hu]; rfl, ?_, .same hi rfl rfl rfl⟩
      show VR φ _ (.int .i64 _)
      rw [← sLen_eval hs]; exact .sym _ _
  case h_4 e ex hu =>
    simp only [Option.some.injEq, Prod.mk.injEq] at h; obtain ⟨rfl, rfl⟩ := h
    cases hx with
    | sslc a n c hs =>
      refine ⟨goInt n, by simp [Builtin.len_, ht, run_und hu], ?_, .same hi rfl rfl rfl⟩
      show VR φ _ (.int .i64 _)
      rw [hs]; exact .sym _ _
  case h_5 n e hu =>
    simp only [Option.some.injEq, Prod.mk.injEq] at h; obtain ⟨rfl, rfl⟩ := h
    exact ⟨goInt n, by simp [Builtin.len_, ht, run_und hu], .int _ _, .same hi rfl rfl rfl⟩
  case h_6 a hu =>
    split at h
    · rename_i n e hu2
      simp only [Option.some.injEq, Prod.mk.injEq] at h
      obtain ⟨rfl, rfl⟩ := h
      exact ⟨goInt n, by simp [Builtin.len_, ht, run_und hu, run_und hu2], .int _ _, .same hi rfl rfl rfl⟩
    · cases h
  case h_7 n _ _ hu =>
    simp only [Option.some.injEq, Prod.mk.injEq] at h; obtain ⟨rfl, rfl⟩ := h
    cases hx
    exact ⟨goInt n, by simp [Builtin.len_, ht, run_und hu], .int _ _, .same hi rfl rfl rfl⟩
  case h_8 hu =>
    simp only [Option.some.injEq, Prod.mk.injEq] at h; obtain ⟨rfl, rfl⟩ := h
    cases hx
    exact ⟨goInt 0, by simp [Builtin.len_, ht, run_und hu], .int _ _, .same hi rfl rfl rfl⟩
  case h_9 hu =>
    simp only [Option.some.injEq, Prod.mk.injEq] at h; obtain ⟨rfl, rfl⟩ := h
    cases hx
    exact ⟨goInt 0, by simp [Builtin.len_, ht, run_und hu], .int _ _, .same hi rfl rfl rfl⟩
  case h_10 k e id hu =>
    split at h
    · rename_i es clock ho
      simp only [Option.some.injEq, Prod.mk.injEq] at h
      obtain ⟨rfl, rfl⟩ := h
      cases hx with
      | map ex he =>
        have hd : D id := hkn id (.inl (mem_addL.2 (.inl rfl))) (hi.lt ho)
        obtain ⟨hR, e', es', he', hb, her⟩ := hi.at ho hd
        rw [he] at he'; simp only [Option.some.injEq] at he'; subst he'
        refine ⟨goInt es'.size, by simp [Builtin.len_, ht, run_und hu, run_getObj hb], ?_, .same hi rfl rfl rfl⟩
        have := her.length
        have hs : es'.size = es.length := by simpa using this
        rw [hs]; exact .int _ _
    · cases h
  case h_11 => cases h
theorem capA_ok {t ty : TypeId} {x v : AV} {x' : Value} {ts : Array TypeId} (h : capA P t x = some v) (hx : VR φ x x') (ht : ts[0]? = some t) (w : World) :
    ∃ v', (Builtin.cap_ ts ty #[x']).run P w = .ok v' w ∧ VR φ v v' := by
  unfold capA at h
  split at h
  · rename_i hu
    simp only [Option.some.injEq] at h; subst h
    exact ⟨goInt _, by simp [Builtin.cap_, ht, run_und hu], .int _ _⟩
  · rename_i hu
    split at h
    · rename_i hu2
      simp only [Option.some.injEq] at h; subst h
      exact ⟨goInt _, by simp [Builtin.cap_, ht, run_und hu, run_und hu2], .int _ _⟩
    · cases h
  · rename_i hu
    cases hx with
    | slc e o c he hd hh hl hc ho =>
      simp only [Option.some.injEq] at h; subst h
      have := (hc _ rfl).1
      subst this
      exact ⟨goInt _, by simp [Builtin.cap_, ht, run_und hu], .int _ _⟩
  · rename_i hu
    cases hx
    simp only [Option.some.injEq] at h; subst h
    exact ⟨goInt _, by simp [Builtin.cap_, ht, run_und hu], .int _ _⟩
  · cases h
end
end Go.Tw
namespace Go.Tw
section
variable [Val]
variable {P : Program} {R : Nat} {C : Cfg} {D : Nat → Prop} {φ : PM} {σ : St} {w : World}
omit [Val] in
theorem sliceBound_run {ik : IntKind} {i : Int} {y k : Nat} (h : upto i y = some k) (code : BoundsCode) (w : World) : (Instr.sliceBound (.int ik i) y code).run P w = .ok k w := by
  obtain ⟨rfl, hk⟩ := upto_ok h
  have hc : (0 : Int) ≤ (k : Int) ∧ (k : Int) ≤ (y : Int) := by omega
  simp only [Instr.sliceBound, asIntOf, Sem.run_bind, Sem.run_pure, Result.andThen_ok]
  rw [if_pos hc]
  simp
theorem bnd_ok {v : AV} {v' : Value} {y k : Nat} (h : bnd v y = some k) (hv : VR φ v v') : k ≤ y ∧ ∀ (z : Nat), k ≤ z → ∀ code w, (Instr.sliceBound v' z code).run P w = .ok k w := by
  unfold bnd at h
  split at h
  · cases hv
    obtain ⟨rfl, hk⟩ := upto_ok h
    refine ⟨hk, fun z hz code w => sliceBound_run ?_ code w⟩
    show (bif Nat.ble k z then some k else none) = some k
    rw [Nat.ble_eq_true_of_le hz]; rfl
  · cases h
theorem boundsA_ok {len l h c : Nat} {cap m : Option Nat} {lo hi mx : Option AV} {lo' hi' mx' : Option Value} {b : Bool} (hb : boundsA len cap lo hi mx = some (l, h, m))
    (h1 : VRO φ lo lo') (h2 : VRO φ hi hi') (h3 : VRO φ mx mx') (hc : ∀ k, cap = some k → k = c) (hl : len ≤ c) :
    ∃ M, (∀ w, (Instr.sliceBounds b len c lo' hi' mx').run P w = .ok (l, h, M) w) ∧ l ≤ h ∧ h ≤ M ∧ M ≤ c ∧ (∀ k, m = some k → M = k ∧ (cap = none → k ≤ len)) ∧
      (m = none → M = c ∧ cap = none ∧ h ≤ len) := by
  unfold boundsA at hb
  split at hb
  · cases hb
  rename_i m0 hm0
  split at hb
  · cases hb
  rename_i h0 hh0
  split at hb
  · cases hb
  rename_i l0 hl0
  simp only [Option.some.injEq, Prod.mk.injEq] at hb
  obtain ⟨rfl, rfl, rfl⟩ := hb
  have hM : ∃ M, (∀ w, ((match mx' with
        | some v => Instr.sliceBound v c (if b then .slice3Acap else .slice3Alen)
        | none => pure c) : Sem Nat).run P w = .ok M w) ∧ M ≤ c ∧ (∀ k, m0 = some k → M = k ∧ (cap = none → k ≤ len)) ∧ (m0 = none → M = c ∧ cap = none) ∧ (mx = none → m0 = cap) := by
    unfold bndM at hm0
    split at hm0
    · simp only [Option.some.injEq] at hm0; subst hm0
      cases mx' with
      | some _ => exact h3.elim
      | none => exact ⟨c, fun _ => rfl, Nat.le_refl _, fun k hk => ⟨(hc k hk).symm, fun h0 => by rw [hk] at h0; cases h0⟩, fun h0 => ⟨rfl, h0⟩, fun _ => rfl⟩
    · rename_i v
      split at hm0
      · rename_i k hk
        simp only [Option.some.injEq] at hm0; subst hm0
        cases mx' with
        | none => exact h3.elim
        | some v' =>
          obtain ⟨hk1, hk2⟩ := bnd_ok (P := P) hk h3
          have hkc : k ≤ c := by
            cases cap with
            | none => exact Nat.le_trans hk1 hl
            | some c0 => rw [← hc c0 rfl]; exact hk1
          refine ⟨k, fun w => hk2 c hkc _ w, hkc, fun k' hk' => ?_, fun h0 => (by cases h0), fun h0 => (by cases h0)⟩
          simp only [Option.some.injEq] at hk'; subst hk'
          exact ⟨rfl, fun h0 => by subst h0; exact hk1⟩
      · cases hm0
  obtain ⟨M, r1, hMc, hm1, hm2, hm3⟩ := hM
  have htop : ∀ k, k ≤ topOf m0 len → k ≤ M ∧ (m0 = none → k ≤ len) := by
    intro k hk
    cases hm : m0 with
    | none => rw [hm] at hk; exact ⟨by rw [(hm2 hm).1]; exact Nat.le_trans hk hl, fun _ => hk⟩
    | some k0 => rw [hm] at hk; exact ⟨by rw [(hm1 k0 hm).1]; exact hk, fun h => (by cases h)⟩
  have hH : (∀ w, ((match hi', mx' with
        | some v, some _ => Instr.sliceBound v M .slice3B
        | some v, none => Instr.sliceBound v M (if b then .sliceAcap else .sliceAlen)
        | none, none => pure len
        | none, some _ => stuck "Slice: max without high") : Sem Nat).run P w = .ok h0 w) ∧ h0 ≤ M ∧ (m0 = none → h0 ≤ len) := by
    unfold bndH at hh0
    split at hh0
    · rename_i v
      cases hi' with
      | none => exact h2.elim
      | some v' =>
        obtain ⟨hk1, hk2⟩ := bnd_ok (P := P) hh0 h2
        obtain ⟨g1, g2⟩ := htop _ hk1
        cases mx' with
        | none => exact ⟨fun w => hk2 M g1 _ w, g1, g2⟩
        | some _ => exact ⟨fun w => hk2 M g1 _ w, g1, g2⟩
    · cases hi' with
      | some _ => exact h2.elim
      | none =>
        split at hh0
        · simp only [Option.some.injEq] at hh0; subst hh0
          cases mx' with
          | some _ => exact h3.elim
          | none =>
            refine ⟨fun _ => rfl, ?_, fun _ => Nat.le_refl _⟩
            have hmc := hm3 rfl
            cases hm : m0 with
            | none => rw [(hm2 hm).1]; exact hl
            | some k0 => rw [(hm1 k0 hm).1, hc k0 (hmc ▸ hm)]; exact hl
        · cases hh0
  obtain ⟨r2, hHM, hHl⟩ := hH
  have hL : (∀ w, ((match lo' with
        | some v => Instr.sliceBound v h0 (if mx'.isSome then .slice3C else .sliceB)
        | none => pure 0) : Sem Nat).run P w = .ok l0 w) ∧ l0 ≤ h0 := by
    unfold bndL at hl0
    split at hl0
    · simp only [Option.some.injEq] at hl0; subst hl0
      cases lo' with
      | some _ => exact h1.elim
      | none => exact ⟨fun _ => rfl, Nat.zero_le _⟩
    · cases lo' with
      | none => exact h1.elim
      | some v' =>
        obtain ⟨hk1, hk2⟩ := bnd_ok (P := P) hl0 h1
        exact ⟨fun w => hk2 h0 hk1 _ w, hk1⟩
  obtain ⟨r3, hle⟩ := hL
  refine ⟨M, fun w => ?_, hle, hHM, hMc, hm1, fun h0 => ⟨(hm2 h0).1, (hm2 h0).2, hHl h0⟩⟩
  have q1 := r1 w
  have q2 := r2 w
  have q3 := r3 w
  clear r1 r2 r3
  cases mx' <;> cases hi' <;> cases lo' <;> dsimp only at q1 q2 q3 <;> (try simp only [Sem.run_pure, Result.ok.injEq, and_true] at q1) <;>
    (try simp only [Sem.run_pure, run_stuck, reduceCtorEq, Result.ok.injEq, and_true] at q2) <;> (try simp only [Sem.run_pure, Result.ok.injEq, and_true, Option.isSome_none, Option.isSome_some, Bool.false_eq_true, if_false, if_true] at q3) <;>
    (try subst q1) <;> (try subst q2) <;> (try subst q3) <;> simp [Instr.sliceBounds, *]
omit [Val] in
theorem str_extract (s : List UInt8) (l h : Nat) : (⟨⟨s⟩⟩ : ByteArray).extract l h = ⟨⟨(s.drop l).take (h - l)⟩⟩ := by
  apply ByteArray.ext
  simp [List.extract_eq_take_drop]
theorem bndS_ok {d e : Sx} {v : Option AV} {v' : Option Value} (h : bndS d v = some e) (hv : VRO φ v v') :
    (v = none ∧ v' = none ∧ e = d) ∨ (v ≠ none ∧ ∃ k, v' = some (.int k e.eval)) := by
  unfold bndS at h
  split at h
  · simp only [Option.some.injEq] at h; subst h
    cases v' with
    | none => exact .inl ⟨rfl, rfl, rfl⟩
    | some _ => exact hv.elim
  · split at h
    · rename_i x k e' he
      simp only [Option.some.injEq] at h; subst h
      cases v' with
      | none => exact hv.elim
      | some y => exact .inr ⟨by simp, k, by rw [sxOf_ok he hv]⟩
    · cases h
omit [Val] in
theorem upto_nat {n m : Nat} (h : n ≤ m) : upto (n : Int) m = some n := by
  show (bif Nat.ble n m then some n else none) = some n
  rw [Nat.ble_eq_true_of_le h]; rfl
theorem partS_ok {dec : Bx → Option Bool} (hdec : ∀ b v, dec b = some v → b.eval = v) {e : Sx} {v : AV} {lo hi : Option AV} {lo' hi' : Option Value} (h : partS dec e lo hi = some v)
    {s : List UInt8} (hs : e.dat = .str s) {t : TypeId} (hu : P.underlying t = some .string) (h1 : VRO φ lo lo') (h2 : VRO φ hi hi') :
    ∃ v', (Instr.sliceAt t (.string ⟨⟨s⟩⟩) lo' hi' none).run P w = .ok v' w ∧ VR φ v v' := by
  unfold partS at h
  split at h
  · rename_i l hh hl hhh
    simp only [cond_eq_ite, Bool.and_eq_true] at h
    split at h
    · rename_i hb
      simp only [Option.some.injEq] at h; subst h
      have g1 := hdec _ _ (isT_ok hb.1.1)
      have g2 := hdec _ _ (isT_ok hb.1.2)
      have g3 := hdec _ _ (isT_ok hb.2)
      simp only [Bx.eval, compI, decide_eq_true_eq, sLen_eval hs] at g1 g2 g3
      have g1 : 0 ≤ l.eval := g1
      obtain ⟨n, hn⟩ : ∃ n : Nat, l.eval = n := ⟨l.eval.toNat, by omega⟩
      obtain ⟨m, hm⟩ : ∃ m : Nat, hh.eval = m := ⟨hh.eval.toNat, by omega⟩
      have hnm : n ≤ m := by omega
      have hms : m ≤ s.length := by omega
      have hbnd : ∃ lo2 hi2, boundsA s.length (some s.length) lo2 hi2 none = some (n, m, some s.length) ∧ VRO φ lo2 lo' ∧ VRO φ hi2 hi' := by
        rcases bndS_ok hhh h2 with ⟨_, rfl, rfl⟩ | ⟨_, k2, rfl⟩
        · rw [sLen_eval hs] at hm
          have hm : s.length = m := by omega
          rcases bndS_ok hl h1 with ⟨_, rfl, rfl⟩ | ⟨_, k1, rfl⟩
          · have hn : n = 0 := by
              have : (Sx.lit 0).eval = 0 := rfl
              omega
            subst hn
            exact ⟨none, none, by simp [boundsA, bndM, bndH, bndL, hm], trivial, trivial⟩
          · refine ⟨some (.int k1 (n : Int)), none, ?_, ?_, trivial⟩
            · simp [boundsA, bndM, bndH, bndL, bnd, hm]
              rw [upto_nat hnm]
            · rw [hn]; exact .int _ _
        · rcases bndS_ok hl h1 with ⟨_, rfl, rfl⟩ | ⟨_, k1, rfl⟩
          · have hn : n = 0 := by
              have : (Sx.lit 0).eval = 0 := rfl
              omega
            subst hn
            refine ⟨none, some (.int k2 (m : Int)), ?_, trivial, ?_⟩
            · simp [boundsA, bndM, bndH, bndL, bnd, topOf, upto_nat hms]
            · rw [hm]; exact .int _ _
          · refine ⟨some (.int k1 (n : Int)), some (.int k2 (m : Int)), ?_, ?_, ?_⟩
            · simp [boundsA, bndM, bndH, bndL, bnd, topOf, upto_nat hms, upto_nat hnm]
            · rw [hn]; exact .int _ _
            · rw [hm]; exact .int _ _
      obtain ⟨lo2, hi2, hbd, v1, v2⟩ := hbnd
      obtain ⟨M, r1, r2, r3, r4, r5, r6⟩ := boundsA_ok (P := P) (φ := φ) (b := false) hbd v1 v2 (lo' := lo') (hi' := hi') (mx' := none) trivial (fun k hk => by simpa using hk.symm) (Nat.le_refl _)
      refine ⟨.string ⟨⟨(s.drop n).take (m - n)⟩⟩, ?_, .vstr _ ?_⟩
      · have hsz : (⟨⟨s⟩⟩ : ByteArray).size = s.length := rfl
        simp only [Instr.sliceAt, Instr.slice, Sem.run_bind, run_und hu, Result.andThen_ok, hsz]
        simp [r1, str_extract]
      · show Dat.str (((e.dat.toS.take hh.dat.toI.toNat)).drop l.dat.toI.toNat) = _
        have e1 : hh.dat.toI = (m : Int) := hm
        have e2 : l.dat.toI = (n : Int) := hn
        rw [hs, e1, e2, Int.toNat_natCast, Int.toNat_natCast]
        show Dat.str ((s.take m).drop n) = _
        rw [List.drop_take]
    · cases h
  · cases h
theorem sliceA_ok (hwf : WF R φ w) {dec : Bx → Option Bool} (hdec : ∀ b v, dec b = some v → b.eval = v) {t : TypeId} {x v : AV} {lo hi mx : Option AV} {x' : Value} {lo' hi' mx' : Option Value} (h : sliceA P dec t x lo hi mx = some v) (hx : VR φ x x')
    (h1 : VRO φ lo lo') (h2 : VRO φ hi hi') (h3 : VRO φ mx mx') : ∃ v', (Instr.sliceAt t x' lo' hi' mx').run P w = .ok v' w ∧ VR φ v v' := by
  unfold sliceA at h
  split at h
  · rename_i e hu
    cases hx with
    | vstr s hs =>
      split at h
      · cases h
      · have h3' : mx' = none := by
          cases mx' with
          | none => rfl
          | some _ => exact h3.elim
        subst h3'
        exact partS_ok hdec h hs hu h1 h2
  · rename_i s hu
    cases hx
    split at h
    · cases h
    · split at h
      · rename_i l hh m hb
        simp only [Option.some.injEq] at h; subst h
        have h3' : mx' = none := by
          cases mx' with
          | none => rfl
          | some _ => exact h3.elim
        subst h3'
        obtain ⟨M, r1, r2, r3, r4, r5, r6⟩ := boundsA_ok (P := P) (φ := φ) (b := false) hb h1 h2 (lo' := lo') (hi' := hi') (mx' := none) trivial (fun k hk => by simpa using hk.symm) (Nat.le_refl _)
        refine ⟨.string ⟨⟨(s.drop l).take (hh - l)⟩⟩, ?_, .str _⟩
        have hsz : (⟨⟨s⟩⟩ : ByteArray).size = s.length := rfl
        simp only [Instr.sliceAt, Instr.slice, Sem.run_bind, run_und hu, Result.andThen_ok, hsz]
        simp [r1, str_extract]
      · cases h
  · rename_i e hu
    cases hx
    split at h
    · rename_i s l hh m hs hb
      simp only [Option.some.injEq] at h; subst h
      obtain ⟨M, r1, r2, r3, r4, r5, r6⟩ := boundsA_ok (P := P) (φ := φ) (b := true) hb h1 h2 h3 (c := 0) (fun k hk => by simpa using hk.symm) (Nat.le_refl _)
      have : M = 0 := by omega
      subst this
      have : hh = 0 := by omega
      subst this
      have : l = 0 := by omega
      subst this
      refine ⟨.slice none 0 0, ?_, .nils⟩
      simp only [Instr.sliceAt, Instr.slice, Sem.run_bind, run_und hu, Result.andThen_ok, r1, run_szOf hs]
      simp
    · cases h
  · rename_i e id ver off len cap esz hu
    cases hx with
    | slc ex o c he hd hh hl hc ho =>
      split at h
      · rename_i s l hi0 m hs hb
        simp only [cond_eq_ite] at h
        split at h
        · rename_i hbe
          have hbe := beq_t hbe; subst hbe
          obtain ⟨M, r1, r2, r3, r4, r5, r6⟩ := boundsA_ok (P := P) (φ := φ) (b := true) hb h1 h2 h3 (c := c) (fun k hk => (hc k hk).1) hl
          have hrun : (Instr.sliceAt t (.slice (some ⟨ex.blk, o, none⟩) len c) lo' hi' mx').run P w =
              .ok (.slice (some (if M = l then ⟨ex.blk, o, none⟩ else ⟨ex.blk, o + l * s, none⟩)) (hi0 - l) (M - l)) w := by
            simp only [Instr.sliceAt, Instr.slice, Sem.run_bind, run_und hu, Result.andThen_ok, r1, run_szOf hs, Sem.run_pure]
            split
            · rename_i hM; simp
            · rename_i hM; simp [add_off]
          refine ⟨_, hrun, ?_⟩
          cases m with
          | some m =>
            obtain ⟨rfl, hcl⟩ := r5 m rfl
            simp only [Option.some.injEq] at h; subst h
            have hMhi : off + M * s ≤ ex.hi := by
              cases cap with
              | none =>
                have := Nat.mul_le_mul_right s (hcl rfl)
                omega
              | some k =>
                have hk := hc k rfl
                have := Nat.mul_le_mul_right s (show M ≤ k by omega)
                omega
            by_cases hM : M = l
            · subst hM
              have : hi0 = M := by omega
              subst this
              simp only [if_true, Nat.sub_self]
              rw [if_pos (Nat.beq_refl hi0)]
              exact .slc ex o 0 he hd (by omega) (Nat.le_refl _) (fun k hk => by simp only [Option.some.injEq] at hk; subst hk; exact ⟨rfl, by omega⟩) (.inl rfl)
            · rw [if_neg hM]
              rw [if_neg (fun h => hM (beq_t h))]
              have hc0 : c ≠ 0 := by omega
              obtain ⟨ho1, ho2⟩ := ho.resolve_left hc0
              have e1 : l * s + (hi0 - l) * s = hi0 * s := by rw [← Nat.add_mul]; congr 1; omega
              have e2 : l * s + (M - l) * s = M * s := by rw [← Nat.add_mul]; congr 1; omega
              have e3 := Nat.mul_le_mul_right s r3
              have e4 := Nat.mul_le_mul_right s r4
              refine .slc ex (o + l * s) (M - l) he (by omega) (by omega) (by omega) (fun k hk => ?_) (.inr ⟨by omega, by omega⟩)
              simp only [Option.some.injEq] at hk; subst hk
              exact ⟨rfl, by omega⟩
          | none =>
            obtain ⟨rfl, hcn, hhl⟩ := r6 rfl
            simp only [Option.some.injEq] at h; subst h
            have e1 : l * s + (hi0 - l) * s = hi0 * s := by rw [← Nat.add_mul]; congr 1; omega
            have e3 := Nat.mul_le_mul_right s hhl
            by_cases hM : M = l
            · subst hM
              have : hi0 = M := by omega
              subst this
              simp only [if_true, Nat.sub_self]
              exact .slc ex o 0 he (by omega) (by omega) (Nat.le_refl _) (fun k hk => by cases hk) (.inl rfl)
            · rw [if_neg hM]
              have hc0 : M ≠ 0 := by omega
              obtain ⟨ho1, ho2⟩ := ho.resolve_left hc0
              have e2 : l * s + (M - l) * s = M * s := by rw [← Nat.add_mul]; congr 1; omega
              exact .slc ex (o + l * s) (M - l) he (by omega) (by omega) (by omega) (fun k hk => by cases hk) (.inr ⟨by omega, by omega⟩)
        · cases h
      · cases h
  · rename_i n e id ver off top hu
    cases hx with
    | ptr ex o he hd hh ho =>
      split at h
      · rename_i s l hi0 m hs hb
        simp only [cond_eq_ite] at h
        split at h
        · rename_i hbe
          have hbe := ble_t hbe
          simp only [Option.some.injEq] at h; subst h
          obtain ⟨M, r1, r2, r3, r4, r5, r6⟩ := boundsA_ok (P := P) (φ := φ) (b := false) hb h1 h2 h3 (c := n) (fun k hk => by simpa using hk.symm) (Nat.le_refl _)
          obtain ⟨rfl, _⟩ := r5 m rfl
          have hrun : (Instr.sliceAt t (.pointer (some ⟨ex.blk, o, none⟩)) lo' hi' mx').run P w =
              .ok (.slice (some (if M = l then ⟨ex.blk, o, none⟩ else ⟨ex.blk, o + l * s, none⟩)) (hi0 - l) (M - l)) w := by
            simp only [Instr.sliceAt, Instr.sureAddr, Sem.run_bind, run_und hu, Result.andThen_ok, r1, run_szOf hs, Sem.run_pure, add_off]
          refine ⟨_, hrun, ?_⟩
          have htop := hwf.top _ _ _ he
          have e3 := Nat.mul_le_mul_right s r3
          have e4 := Nat.mul_le_mul_right s r4
          by_cases hM : M = l
          · subst hM
            have : hi0 = M := by omega
            subst this
            simp only [if_true, Nat.sub_self]
            rw [if_pos (Nat.beq_refl hi0)]
            exact .slc ex o 0 he hd (by omega) (Nat.le_refl _) (fun k hk => by simp only [Option.some.injEq] at hk; subst hk; exact ⟨rfl, by omega⟩) (.inl rfl)
          · rw [if_neg hM]
            rw [if_neg (fun h => hM (beq_t h))]
            have e1 : l * s + (hi0 - l) * s = hi0 * s := by rw [← Nat.add_mul]; congr 1; omega
            have e2 : l * s + (M - l) * s = M * s := by rw [← Nat.add_mul]; congr 1; omega
            refine .slc ex (o + l * s) (M - l) he (by omega) (by omega) (by omega) (fun k hk => ?_) (.inr ⟨by omega, by omega⟩)
            simp only [Option.some.injEq] at hk; subst hk
            exact ⟨rfl, by omega⟩
        · cases h
      · cases h
  · cases h
end
end Go.Tw
namespace Go.Tw
section
variable [Val]
variable {P : Program} {R : Nat} {C : Cfg} {D : Nat → Prop} {φ : PM} {σ : St} {w : World}
theorem firstA_ok (hi : Inv R C D φ σ w) {size n : Nat} {x : AV} {x' : Value} {l : List AV} {σ' : St} (h : firstA size n x σ = some (l, σ')) (hx : VR φ x x') (hk : Known D σ σ') :
    ∃ arr : Array Value, (∀ w₂ : World, w₂.heap = w.heap → (Builtin.firstCells size n x').run P w₂ = .ok arr w₂) ∧ VRL φ l arr.toList ∧ l.length = n * size ∧ σ'.heap = σ.heap ∧ σ'.next = σ.next ∧ σ'.wr = σ.wr := by
  unfold firstA at h
  split at h
  · simp only [cond_eq_ite] at h
    split at h
    · rename_i hn
      have hn := beq_t hn; subst hn
      simp only [Option.some.injEq, Prod.mk.injEq] at h; obtain ⟨rfl, rfl⟩ := h
      cases hx
      exact ⟨#[], fun _ _ => rfl, .nil, by simp, rfl, rfl, rfl⟩
    · cases h
  · rename_i id ver off len cap esz
    simp only [cond_eq_ite, Bool.and_eq_true] at h
    split at h
    · rename_i hb
      have hb1 := beq_t hb.1; subst hb1
      have hb2 := ble_t hb.2
      cases hx with
      | slc e o c he hd hh hl hc ho =>
        split at h
        · rename_i hn
          have hn := beq_t hn; subst hn
          simp only [Option.some.injEq, Prod.mk.injEq] at h; obtain ⟨rfl, rfl⟩ := h
          exact ⟨#[], fun _ _ => by simp [Builtin.firstCells, loadCells, loadCellsFrom], .nil, by simp, rfl, rfl, rfl⟩
        · rename_i hn
          have hn0 : n ≠ 0 := fun h0 => hn (by simp [h0])
          split at h
          · rename_i l0 hl0
            simp only [Option.some.injEq, Prod.mk.injEq] at h; obtain ⟨rfl, rfl⟩ := h
            obtain ⟨_, ob, _, hob, _⟩ := readN_ok hl0
            have hdd : D id := hk id (.inl (mem_addL.2 (.inl rfl))) (hi.lt hob)
            have hm := Nat.mul_le_mul_right esz hb2
            obtain ⟨ho1, _⟩ := ho.resolve_left (by omega)
            obtain ⟨arr, r1, r2, r3, _⟩ := readN_run (P := P) hi hl0 hdd he hd (by omega) ho1
            exact ⟨arr, fun w₂ h₂ => by simpa [Builtin.firstCells] using r1 w₂ h₂, r2, r3, rfl, rfl, rfl⟩
          · cases h
    · cases h
  · rename_i s
    simp only [cond_eq_ite, Bool.and_eq_true] at h
    split at h
    · rename_i hb
      have hb1 := beq_t hb.1; subst hb1
      have hb2 := ble_t hb.2
      simp only [Option.some.injEq, Prod.mk.injEq] at h; obtain ⟨rfl, rfl⟩ := h
      cases hx
      refine ⟨((s.take n).map fun b => Value.int .u8 b.toNat).toArray, fun _ _ => ?_, by simpa using VRL.map_u8 (s.take n), by simp; omega, rfl, rfl, rfl⟩
      simp only [Builtin.firstCells, str_extract, List.drop_zero, Nat.sub_zero, Sem.run_pure]
      simp
    · cases h
  · cases h
theorem lenOfA_ok {x : AV} {x' : Value} {n : Nat} (h : lenOfA x = some n) (hx : VR φ x x') (w : World) : (Builtin.lenOf x').run P w = .ok n w := by
  unfold lenOfA at h
  split at h <;> first
    | (cases h; done)
    | (simp only [Option.some.injEq] at h; subst h; cases hx; rfl)
omit [Val] in
theorem nextslicecap_le (need old : Nat) (h : old < need) : Builtin.nextslicecap need old ≤ 2 * need + 1024 := by
  unfold Builtin.nextslicecap
  split
  · omega
  · split
    · omega
    · simp only [Builtin.growBy]
      repeat' split
      all_goals omega
omit [Val] in
theorem not_big {need sCap bw : Nat} (hn : sCap < need) (h : (2 * need + 1024) * bw ≤ 70368744177664) : ¬ (Builtin.nextslicecap need sCap * bw > 2 ^ 48) := by
  have h1 := nextslicecap_le need sCap hn
  have h2 := Nat.mul_le_mul_right bw h1
  have : (2 : Nat) ^ 48 = 281474976710656 := by decide
  omega
def AppR (P : Program) (e : TypeId) (i : TypeInfo) (u : TypeId) (n : Nat) (x : Value) (arr : Array Value) (w : World) : Prop :=
  (∃ d, P.underlying u = some d ∧ (∀ k, d ≠ .int k) ∧ (Builtin.lenOf x).run P w = .ok n w ∧ (Builtin.firstCells i.size n x).run P w = .ok arr w ∧ (Builtin.firstCells i.size n x).run P w.drew = .ok arr w.drew) ∨
  (∃ k k' z, P.underlying u = some (.int k) ∧ x = .int k' (Int.ofNat n) ∧ n ≤ 1099511627776 ∧ n * i.bytes ≤ 70368744177664 ∧ (∀ w, (zeroValue e).run P w = .ok z w) ∧
    arr = if n * i.size = 0 then #[] else Builtin.zeroCells z.cells n)
omit [Val] in
theorem run_append_fits {t u ty e : TypeId} {i : TypeInfo} {base : Option Addr} {sLen sCap n : Nat} {x : Value} {arr : Array Value} {w' : World}
    (ht : P.underlying t = some (.slice e)) (hi : P.info? e = some i) (ha : AppR P e i u n x arr w) (hle : sLen + n ≤ sCap)
    (hst : ((match base with | some a => storeCells (a.add (sLen * i.size)) arr.toList | none => pure ()) : Sem Unit).run P w = .ok () w') :
    (Builtin.append_ #[t, u] ty #[.slice base sLen sCap, x]).run P w = .ok (.slice base (sLen + n) sCap) w' := by
  have hsz : ∀ w, (sizeOf e).run P w = .ok i.size w := fun w => by simp [sizeOf, typeInfo, hi]
  have hti : ∀ w, (typeInfo e).run P w = .ok i w := fun w => by simp [typeInfo, hi]
  have a0 : (#[Value.slice base sLen sCap, x] : Array Value)[0]? = some (.slice base sLen sCap) := rfl
  have a1 : (#[Value.slice base sLen sCap, x] : Array Value)[1]? = some x := rfl
  have t0 : (#[t, u] : Array TypeId)[0]? = some t := rfl
  have t1 : (#[t, u] : Array TypeId)[1]? = some u := rfl
  unfold Builtin.append_
  rw [a0, a1, t0, t1]
  simp -zeta only [Sem.run_bind, run_und ht, hsz, Result.andThen_ok]
  extract_lets jq jp
  rcases ha with ⟨d, hu, hd, hl, hf, _⟩ | ⟨k, k', z, hu, rfl, hn1, hn2, hz, rfl⟩
  · rw [Sem.run_bind, run_und hu]
    simp -zeta only [Result.andThen_ok, Sem.run_bind, Sem.run_pure]
    simp -zeta only [jp]
    extract_lets jn
    rw [if_neg (by simp), Sem.run_bind, hl]
    simp -zeta only [Result.andThen_ok]
    simp -zeta only [jn]
    extract_lets app need
    rw [if_pos hle]
    have hap : Sem.run P app w = .ok arr w := hf
    rw [Sem.run_bind, hap]
    simp -zeta only [Result.andThen_ok]
    cases base with
    | none =>
      have hw : w = w' := by simpa using hst
      subst hw
      rfl
    | some a =>
      have hst' : (storeCells (a.add (sLen * i.size)) arr.toList).run P w = .ok () w' := hst
      have hb : ∀ (f : Unit → Sem Value), (storeCells (a.add (sLen * i.size)) arr.toList >>= f).run P w = (f ()).run P w' := fun f => by
        rw [Sem.run_bind, hst']; rfl
      exact hb _
  · rw [Sem.run_bind, run_und hu]
    simp -zeta only [Result.andThen_ok, Sem.run_bind, Sem.run_pure]
    simp -zeta only [jp]
    extract_lets jn
    rw [if_pos trivial, Sem.run_bind]
    simp -zeta only [asInt, asIntOf, Sem.run_bind, Sem.run_pure, Result.andThen_ok]
    extract_lets l jm jl
    have hwl : l = Int.ofNat n := wrap_ofNat (by omega)
    rw [if_neg (by rw [hwl]; exact Int.not_lt.2 (Int.natCast_nonneg n))]
    simp -zeta only [jl]
    rw [Sem.run_bind, hti]
    simp -zeta only [Result.andThen_ok]
    have hmul : (Int.ofNat n) * (i.bytes : Int) ≤ 70368744177664 := by
      show ((n * i.bytes : Nat) : Int) ≤ ((70368744177664 : Nat) : Int)
      exact Int.ofNat_le.2 hn2
    have h48 : ¬ (l * (i.bytes : Int) > 2 ^ 48) := by
      have : (2 : Int) ^ 48 = 281474976710656 := by decide
      rw [hwl]; omega
    rw [if_neg h48]
    simp -zeta only [jm]
    rw [Sem.run_bind, Sem.run_pure]
    simp -zeta only [Result.andThen_ok]
    have hln : l.toNat = n := by rw [hwl]; rfl
    rw [hln]
    simp -zeta only [jn]
    extract_lets app need
    rw [if_pos hle]
    have hap : Sem.run P app w = .ok (if n * i.size = 0 then #[] else Builtin.zeroCells z.cells n) w := by
      show Sem.run P (if (!true) = true then _ else _) w = _
      rw [if_neg (by simp)]
      split
      · rfl
      · simp [hz]
    rw [Sem.run_bind, hap]
    simp -zeta only [Result.andThen_ok]
    cases base with
    | none =>
      have hw : w = w' := by simpa using hst
      subst hw
      rfl
    | some a =>
      have hst' : (storeCells (a.add (sLen * i.size)) (if n * i.size = 0 then #[] else Builtin.zeroCells z.cells n).toList).run P w = .ok () w' := hst
      have hb : ∀ (f : Unit → Sem Value), (storeCells (a.add (sLen * i.size)) (if n * i.size = 0 then #[] else Builtin.zeroCells z.cells n : Array Value).toList >>= f).run P w = (f ()).run P w' := fun f => by
        rw [Sem.run_bind, hst']; rfl
      exact hb _
omit [Val] in
theorem run_append_grows {t u ty e : TypeId} {i : TypeInfo} {base : Option Addr} {sLen sCap n : Nat} {x z : Value} {arr old : Array Value}
    (ht : P.underlying t = some (.slice e)) (hi : P.info? e = some i) (ha : AppR P e i u n x arr w) (hz : ∀ w, (zeroValue e).run P w = .ok z w) (hg : ¬ sLen + n ≤ sCap)
    (hold : (Builtin.firstCells i.size sLen (.slice base sLen sCap)).run P w.drew = .ok old w.drew)
    (hs1 : sLen + n ≤ 9223372036854775807) (hs2 : ¬ (Builtin.nextslicecap (sLen + n) sCap * i.bytes > 2 ^ 48)) :
    ∃ c, sLen + n ≤ c ∧ (Builtin.append_ #[t, u] ty #[.slice base sLen sCap, x]).run P w =
      .ok (.slice (some ⟨w.heap.size, 0, none⟩) (sLen + n) c) (w.drew.alloc (.cells (old ++ arr ++ Builtin.zeroCells z.cells (c - (sLen + n))) e)) := by
  refine ⟨(Question.appendCap (sLen + n) sCap e).cut (w.tape w.drawn (.appendCap (sLen + n) sCap e)), by simp [Question.cut], ?_⟩
  have hsz : ∀ w, (sizeOf e).run P w = .ok i.size w := fun w => by simp [sizeOf, typeInfo, hi]
  have hti : ∀ w, (typeInfo e).run P w = .ok i w := fun w => by simp [typeInfo, hi]
  have a0 : (#[Value.slice base sLen sCap, x] : Array Value)[0]? = some (.slice base sLen sCap) := rfl
  have a1 : (#[Value.slice base sLen sCap, x] : Array Value)[1]? = some x := rfl
  have t0 : (#[t, u] : Array TypeId)[0]? = some t := rfl
  have t1 : (#[t, u] : Array TypeId)[1]? = some u := rfl
  have hmax : ¬ ((((sLen + n : Nat) : Int) > IntKind.i64.max)) := by
    have : IntKind.i64.max = 9223372036854775807 := by decide
    rw [this]; omega
  have hchoose : (choose (.appendCap (sLen + n) sCap e)).run P w = .ok ((Question.appendCap (sLen + n) sCap e).cut (w.tape w.drawn (.appendCap (sLen + n) sCap e))) w.drew := by
    simp [Question.forced]
  generalize (Question.appendCap (sLen + n) sCap e).cut (w.tape w.drawn (.appendCap (sLen + n) sCap e)) = c at hchoose ⊢
  unfold Builtin.append_
  rw [a0, a1, t0, t1]
  simp -zeta only [Sem.run_bind, run_und ht, hsz, Result.andThen_ok]
  extract_lets jq jp
  rcases ha with ⟨d, hu, hd, hl, _, hf⟩ | ⟨k, k', z', hu, rfl, hn1, hn2, hz', rfl⟩
  · rw [Sem.run_bind, run_und hu]
    simp -zeta only [Result.andThen_ok, Sem.run_bind, Sem.run_pure]
    simp -zeta only [jp]
    extract_lets jn
    rw [if_neg (by simp), Sem.run_bind, hl]
    simp -zeta only [Result.andThen_ok]
    simp -zeta only [jn]
    extract_lets app need j1 jy jx
    have hneed : need = sLen + n := rfl
    rw [if_neg hg, Sem.run_bind, hti]
    simp -zeta only [Result.andThen_ok]
    rw [if_neg (fun h => hmax h.1)]
    simp -zeta only [jx]
    rw [Sem.run_bind, hti]
    simp -zeta only [Result.andThen_ok]
    rw [if_neg hs2]
    simp -zeta only [jy]
    rw [Sem.run_bind, hneed, hchoose]
    have hap : Sem.run P app w.drew = .ok arr w.drew := hf
    simp [hti, hold, hap, hz, newRow]
  · rw [Sem.run_bind, run_und hu]
    simp -zeta only [Result.andThen_ok, Sem.run_bind, Sem.run_pure]
    simp -zeta only [jp]
    extract_lets jn
    rw [if_pos trivial, Sem.run_bind]
    simp -zeta only [asInt, asIntOf, Sem.run_bind, Sem.run_pure, Result.andThen_ok]
    extract_lets l jm jl
    have hwl : l = Int.ofNat n := wrap_ofNat (by omega)
    rw [if_neg (by rw [hwl]; exact Int.not_lt.2 (Int.natCast_nonneg n))]
    simp -zeta only [jl]
    rw [Sem.run_bind, hti]
    simp -zeta only [Result.andThen_ok]
    have hmul : (Int.ofNat n) * (i.bytes : Int) ≤ 70368744177664 := by
      show ((n * i.bytes : Nat) : Int) ≤ ((70368744177664 : Nat) : Int)
      exact Int.ofNat_le.2 hn2
    have h48 : ¬ (l * (i.bytes : Int) > 2 ^ 48) := by
      have : (2 : Int) ^ 48 = 281474976710656 := by decide
      rw [hwl]; omega
    rw [if_neg h48]
    simp -zeta only [jm]
    rw [Sem.run_bind, Sem.run_pure]
    simp -zeta only [Result.andThen_ok]
    have hln : l.toNat = n := by rw [hwl]; rfl
    rw [hln]
    simp -zeta only [jn]
    extract_lets app need j1 jy jx
    have hneed : need = sLen + n := rfl
    rw [if_neg hg, Sem.run_bind, hti]
    simp -zeta only [Result.andThen_ok]
    rw [if_neg (fun h => hmax h.1)]
    simp -zeta only [jx]
    rw [Sem.run_bind, hti]
    simp -zeta only [Result.andThen_ok]
    rw [if_neg hs2]
    simp -zeta only [jy]
    rw [Sem.run_bind, hneed, hchoose]
    have hap : Sem.run P app w.drew = .ok (if n * i.size = 0 then #[] else Builtin.zeroCells z'.cells n) w.drew := by
      show Sem.run P (if (!true) = true then _ else _) w.drew = _
      rw [if_neg (by simp)]
      split
      · rfl
      · simp [hz']
    simp [hti, hold, hap, hz, newRow]
end
end Go.Tw
namespace Go.Tw
section
variable [Val]
variable {P : Program} {R : Nat} {C : Cfg} {D : Nat → Prop} {φ : PM} {σ : St} {w : World}
omit [Val] in
theorem zeroCells_size (z : Array Value) (n : Nat) : (Builtin.zeroCells z n).size = n * z.size := by simp [Builtin.zeroCells]
omit [Val] in
theorem WF.ver (h : WF R φ w) {id ver nv : Nat} {e e' : Ext} (he : φ id ver = some e) (hR : R ≤ id) (hb : e'.blk = e.blk) (ht : e'.hi + e'.up ≤ e'.bsz + e'.dn) : WF R (φ.ins id nv e') w where
  inj := fun i u f j s g hf hg hbk => by
    unfold PM.ins at hf hg
    split at hf <;> split at hg
    · rename_i h1 h2; exact .inl (h1.1.trans h2.1.symm)
    · rename_i h1 h2
      simp only [Option.some.injEq] at hf; subst hf
      rcases h.inj _ _ _ _ _ _ he hg (hb.symm.trans hbk) with h3 | h3
      · exact .inl (h1.1.trans h3)
      · exact absurd h3.1 (Nat.not_lt.2 hR)
    · rename_i h1 h2
      simp only [Option.some.injEq] at hg; subst hg
      rcases h.inj _ _ _ _ _ _ hf he (hbk.trans hb) with h3 | h3
      · exact .inl (h3.trans h2.1.symm)
      · exact absurd h3.2 (Nat.not_lt.2 hR)
    · exact h.inj _ _ _ _ _ _ hf hg hbk
  lt := fun i u f hf => by
    unfold PM.ins at hf
    split at hf
    · simp only [Option.some.injEq] at hf; subst hf; rw [hb]; exact h.lt _ _ _ he
    · exact h.lt _ _ _ hf
  top := fun i u f hf => by
    unfold PM.ins at hf
    split at hf
    · simp only [Option.some.injEq] at hf; subst hf; exact ht
    · exact h.top _ _ _ hf
def Stays (φ : PM) (id base lim since base' lim' since' nv E : Nat) : Prop :=
  ∀ v, aliveV base' since' (nv + 1) v → v = nv ∨ (aliveV base since nv v ∧ v ≠ nv ∧ ∀ e, φ id v = some e → limV base' lim' v e ≤ E ∧ limV base' lim' v e ≤ limV base lim v e)
theorem append_place {id ver base lim since base' lim' since' nv et off E q m : Nat} {c new : List AV} {arr : Array Value} {e : Ext} {cs : Array Value} {fl fh : Nat}
    (hr : Rep R φ w id (some (.arr c base lim since nv et))) (hal : aliveV base since nv ver) (he : φ id ver = some e) (hbk : w.heap[e.blk]? = some (.cells cs et (fl, fh)))
    (hE : E ≤ limV base lim ver e) (_hdn : e.dn ≤ off) (_hoE : off ≤ E) (hq : q + e.dn = E + e.up) (hn : VRL φ new arr.toList) (hm : new.length = m)
    (hone : ∀ v ∈ arr.toList, v.oneCell' = true) (hroom : q + m ≤ e.bsz) (hst : Stays φ id base lim since base' lim' since' nv E)
    (hb' : base' < nv + 1) (hs' : since' ≤ nv + 1) (hl' : lim' ≤ E) (hbn : base' ≠ nv) :
    (storeCells ⟨e.blk, q, none⟩ arr.toList).run P w = .ok () (wset w e.blk (.cells (splice cs.toList q arr.toList).toArray et (fl, fh))) ∧
    Rep R (φ.ins id nv { e with hi := E + m }) (wset w e.blk (.cells (splice cs.toList q arr.toList).toArray et (fl, fh))) id (some (.arr (c.take E ++ new) base' lim' since' (nv + 1) et)) := by
  obtain ⟨hR, g1, g2, g3, g4, g5, g6, g7⟩ := hr
  obtain ⟨e', cs', fl', fh', he', hbk', k1, k2, k3, k4, k5⟩ := g5 ver hal
  rw [he] at he'; simp only [Option.some.injEq] at he'; subst he'
  rw [hbk] at hbk'; simp only [Option.some.injEq, Obj.cells.injEq, Prod.mk.injEq, true_and] at hbk'
  obtain ⟨rfl, rfl, rfl⟩ := hbk'
  have hlen := hn.length
  have hal' : arr.toList.length = m := by omega
  have hEc : E ≤ c.length := Nat.le_trans hE k3
  have hst1 := run_storeCells_row (P := P) (k := q) arr.toList 0 cs w hbk (by rw [hal', k1]; simpa using hroom) hone (by
    intro y y1 y2 ⟨y3, y4⟩
    rw [hal'] at y2
    omega)
  have hsp : (cs.toList.take (q + 0) ++ arr.toList ++ cs.toList.drop (q + 0 + arr.toList.length)) = splice cs.toList q arr.toList := by simp [splice_eq]
  rw [hsp] at hst1
  have hqs : q + arr.toList.length ≤ cs.toList.length := by rw [hal']; simp; omega
  have hclen : (c.take E ++ new).length = E + m := by simp; omega
  have hget : ∀ x, x < E → (c.take E ++ new)[x]? = c[x]? := by
    intro x hx
    rw [List.getElem?_append_left (by simp; omega), List.getElem?_take_of_lt hx]
  have hget2 : ∀ x, E ≤ x → (c.take E ++ new)[x]? = new[x - E]? := by
    intro x hx
    rw [List.getElem?_append_right (by simp; omega)]
    congr 1
    simp; omega
  have hcs : ∀ y, y < q → (splice cs.toList q arr.toList).toArray[y]? = cs[y]? := by
    intro y hy
    have : (splice cs.toList q arr.toList).toArray[y]? = (splice cs.toList q arr.toList)[y]? := by simp
    rw [this, splice_get hqs, if_pos hy]; simp
  have hcs2 : ∀ y, q ≤ y → y < q + m → (splice cs.toList q arr.toList).toArray[y]? = arr.toList[y - q]? := by
    intro y hy hy2
    have : (splice cs.toList q arr.toList).toArray[y]? = (splice cs.toList q arr.toList)[y]? := by simp
    rw [this, splice_get hqs, if_neg (by omega), if_pos (by omega)]
  have hsize : (splice cs.toList q arr.toList).toArray.size = cs.size := by
    have := splice_length hqs
    simp only [List.size_toArray, this]; simp
  have hle : φ.le (φ.ins id nv { e with hi := E + m }) := φ.le_ins _ (g4 nv (Nat.le_refl _))
  have hother : ∀ v, v ≠ nv → φ.ins id nv { e with hi := E + m } id v = φ id v := fun v hv => φ.ins_ver _ hv id
  refine ⟨hst1, hR, by rw [hclen]; omega, hb', hs', fun v hv => by rw [hother v (by omega)]; exact g4 v (by omega), ?_, ?_, ?_⟩
  · intro v hv
    rcases hst v hv with rfl | ⟨hav, hne, hlim⟩
    · refine ⟨_, _, fl, fh, PM.ins_same _ _ _ _, wset_same _ _ _ (heap_lt hbk), ?_, ?_, ?_, k4, ?_⟩
      · rw [hsize]; exact k1
      · simp [limV, Ne.symm hbn]
      · rw [hclen]; simp [limV, Ne.symm hbn]
      · intro x a x1 x2 hx
        have x2 : x < E + m := by simpa [limV, Ne.symm hbn] using x2
        by_cases hxE : x < E
        · rw [hget x hxE] at hx
          obtain ⟨a', y1, y2⟩ := k5 x a x1 (by omega) hx
          have x1' : e.dn ≤ x := x1
          refine ⟨a', ?_, y2.mono hle⟩
          show (splice cs.toList q arr.toList).toArray[x + e.up - e.dn]? = some a'
          rw [hcs _ (by omega)]; exact y1
        · rw [hget2 x (by omega)] at hx
          obtain ⟨a', y1, y2⟩ := hn.get hx
          refine ⟨a', ?_, y2.mono hle⟩
          have x1' : e.dn ≤ x := x1
          show (splice cs.toList q arr.toList).toArray[x + e.up - e.dn]? = some a'
          rw [hcs2 _ (by omega) (by omega), show x + e.up - e.dn - q = x - E by omega]
          exact y1
    · obtain ⟨f, fs, ffl, ffh, hf, hfb, m1, m2, m3, m4, m5⟩ := g5 v hav
      obtain ⟨hl1, hl2⟩ := hlim f hf
      by_cases hb : f.blk = e.blk
      · obtain ⟨hu, hd⟩ := g6 v ver f e hav hal hf he hb
        have hfb' := hfb
        rw [hb, hbk] at hfb'
        simp only [Option.some.injEq, Obj.cells.injEq, Prod.mk.injEq, true_and] at hfb'
        obtain ⟨rfl, rfl, rfl⟩ := hfb'
        refine ⟨f, _, fl, fh, (hother v hne).trans hf, by rw [hb]; exact wset_same _ _ _ (heap_lt hbk), ?_, ?_, ?_, m4, ?_⟩
        · rw [hsize]; exact m1
        · omega
        · rw [hclen]; omega
        · intro x a x1 x2 hx
          rw [hget x (by omega)] at hx
          obtain ⟨a', y1, y2⟩ := m5 x a x1 (by omega) hx
          exact ⟨a', by rw [hcs _ (by omega)]; exact y1, y2.mono hle⟩
      · refine ⟨f, fs, ffl, ffh, (hother v hne).trans hf, by rw [wset_other _ _ _ hb]; exact hfb, m1, ?_, ?_, m4, ?_⟩
        · omega
        · rw [hclen]; omega
        · intro x a x1 x2 hx
          rw [hget x (by omega)] at hx
          obtain ⟨a', y1, y2⟩ := m5 x a x1 (by omega) hx
          exact ⟨a', y1, y2.mono hle⟩
  · intro v₁ v₂ e₁ e₂ a1 a2 b1 b2 hbb
    rcases hst v₁ a1 with rfl | ⟨h1, n1, _⟩
    · rcases hst v₂ a2 with rfl | ⟨h2, n2, _⟩
      · rw [b1] at b2; simp only [Option.some.injEq] at b2; subst b2; exact ⟨rfl, rfl⟩
      · rw [PM.ins_same] at b1; simp only [Option.some.injEq] at b1; subst b1
        rw [hother v₂ n2] at b2
        obtain ⟨h3, h4⟩ := g6 ver v₂ e e₂ hal h2 he b2 hbb
        exact ⟨h3, h4⟩
    · rcases hst v₂ a2 with rfl | ⟨h2, n2, _⟩
      · rw [PM.ins_same] at b2; simp only [Option.some.injEq] at b2; subst b2
        rw [hother v₁ n1] at b1
        exact g6 v₁ ver e₁ e h1 hal b1 he hbb
      · rw [hother v₁ n1] at b1
        rw [hother v₂ n2] at b2
        exact g6 v₁ v₂ e₁ e₂ h1 h2 b1 b2 hbb
  · intro v f h1 h2 h3 h4
    have : v = nv := by omega
    subst this
    rw [PM.ins_same] at h4; simp only [Option.some.injEq] at h4; subst h4
    exact hclen.symm
theorem append_grown {id ver base lim since base' lim' since' nv et off E m : Nat} {c new : List AV} {arr old rest : Array Value} {e : Ext}
    (hwf : WF R φ w) (hr : Rep R φ w id (some (.arr c base lim since nv et))) (hal : aliveV base since nv ver) (he : φ id ver = some e)
    (hE : E ≤ limV base lim ver e) (hoE : off ≤ E) (hn : VRL φ new arr.toList) (hm : new.length = m)
    (hold : VRL φ ((c.drop off).take (E - off)) old.toList) (hst : Stays φ id base lim since base' lim' since' nv E)
    (hb' : base' < nv + 1) (hs' : since' ≤ nv + 1) (hl' : lim' ≤ E) (hbn : base' ≠ nv) :
    Rep R (φ.ins id nv ⟨w.heap.size, 0, off, E + m, (old ++ arr ++ rest).size, []⟩) (w.alloc (.cells (old ++ arr ++ rest) et)) id (some (.arr (c.take E ++ new) base' lim' since' (nv + 1) et)) := by
  obtain ⟨hR, g1, g2, g3, g4, g5, g6, g7⟩ := hr
  obtain ⟨e', cs, fl, fh, he', hbk, k1, k2, k3, k4, k5⟩ := g5 ver hal
  rw [he] at he'; simp only [Option.some.injEq] at he'; subst he'
  have hlen := hn.length
  have hlo := hold.length
  have hEc : E ≤ c.length := Nat.le_trans hE k3
  have hlo' : old.toList.length = E - off := by rw [hlo]; simp; omega
  have hclen : (c.take E ++ new).length = E + m := by simp; omega
  have hget : ∀ x, x < E → (c.take E ++ new)[x]? = c[x]? := by
    intro x hx
    rw [List.getElem?_append_left (by simp; omega), List.getElem?_take_of_lt hx]
  have hget2 : ∀ x, E ≤ x → (c.take E ++ new)[x]? = new[x - E]? := by
    intro x hx
    rw [List.getElem?_append_right (by simp; omega)]
    congr 1
    simp; omega
  have hle : φ.le (φ.ins id nv ⟨w.heap.size, 0, off, E + m, (old ++ arr ++ rest).size, []⟩) := φ.le_ins _ (g4 nv (Nat.le_refl _))
  have hother : ∀ v, v ≠ nv → φ.ins id nv ⟨w.heap.size, 0, off, E + m, (old ++ arr ++ rest).size, []⟩ id v = φ id v := fun v hv => φ.ins_ver _ hv id
  refine ⟨hR, by rw [hclen]; omega, hb', hs', fun v hv => by rw [hother v (by omega)]; exact g4 v (by omega), ?_, ?_, ?_⟩
  · intro v hv
    rcases hst v hv with rfl | ⟨hav, hne, hlim⟩
    · refine ⟨_, old ++ arr ++ rest, 0, 0, PM.ins_same _ _ _ _, alloc_new _ _, rfl, ?_, ?_, ?_, ?_⟩
      · simp [limV, Ne.symm hbn]
      · rw [hclen]; simp [limV, Ne.symm hbn]
      · exact .inl rfl
      · intro x a x1 x2 hx
        have x1 : off ≤ x := x1
        have x2 : x < E + m := by simpa [limV, Ne.symm hbn] using x2
        have hpos : (old ++ arr ++ rest)[x + 0 - off]? = (old.toList ++ arr.toList ++ rest.toList)[x - off]? := by
          rw [← Array.getElem?_toList]; simp
        show ∃ a', (old ++ arr ++ rest)[x + 0 - off]? = some a' ∧ _
        rw [hpos]
        by_cases hxE : x < E
        · rw [hget x hxE] at hx
          have hx' : ((c.drop off).take (E - off))[x - off]? = some a := by
            rw [List.getElem?_take_of_lt (by omega), List.getElem?_drop, show off + (x - off) = x by omega]; exact hx
          obtain ⟨a', y1, y2⟩ := hold.get hx'
          refine ⟨a', ?_, y2.mono hle⟩
          rw [List.append_assoc, List.getElem?_append_left (by omega)]; exact y1
        · rw [hget2 x (by omega)] at hx
          obtain ⟨a', y1, y2⟩ := hn.get hx
          refine ⟨a', ?_, y2.mono hle⟩
          rw [List.append_assoc, List.getElem?_append_right (by omega), hlo', List.getElem?_append_left (by omega), show x - off - (E - off) = x - E by omega]; exact y1
    · obtain ⟨f, fs, ffl, ffh, hf, hfb, m1, m2, m3, m4, m5⟩ := g5 v hav
      obtain ⟨hl1, hl2⟩ := hlim f hf
      refine ⟨f, fs, ffl, ffh, (hother v hne).trans hf, by rw [alloc_old _ _ (hwf.lt _ _ _ hf)]; exact hfb, m1, ?_, ?_, m4, ?_⟩
      · omega
      · rw [hclen]; omega
      · intro x a x1 x2 hx
        rw [hget x (by omega)] at hx
        obtain ⟨a', y1, y2⟩ := m5 x a x1 (by omega) hx
        exact ⟨a', y1, y2.mono hle⟩
  · intro v₁ v₂ e₁ e₂ a1 a2 b1 b2 hbb
    rcases hst v₁ a1 with rfl | ⟨h1, n1, _⟩
    · rcases hst v₂ a2 with rfl | ⟨h2, n2, _⟩
      · rw [b1] at b2; simp only [Option.some.injEq] at b2; subst b2; exact ⟨rfl, rfl⟩
      · rw [PM.ins_same] at b1; simp only [Option.some.injEq] at b1; subst b1
        rw [hother v₂ n2] at b2
        exact absurd (hwf.lt _ _ _ b2) (by rw [← hbb]; exact Nat.lt_irrefl _)
    · rcases hst v₂ a2 with rfl | ⟨h2, n2, _⟩
      · rw [PM.ins_same] at b2; simp only [Option.some.injEq] at b2; subst b2
        rw [hother v₁ n1] at b1
        exact absurd (hwf.lt _ _ _ b1) (by rw [hbb]; exact Nat.lt_irrefl _)
      · rw [hother v₁ n1] at b1
        rw [hother v₂ n2] at b2
        exact g6 v₁ v₂ e₁ e₂ h1 h2 b1 b2 hbb
  · intro v f h1 h2 h3 h4
    have : v = nv := by omega
    subst this
    rw [PM.ins_same] at h4; simp only [Option.some.injEq] at h4; subst h4
    exact hclen.symm
theorem append_new (hi : Inv R C D φ σ w) {size n sLen sCap : Nat} {new old : List AV} {x' z' : Value} {base : Option Addr} {t u ty e : TypeId} {ti : TypeInfo} {arr oldr : Array Value}
    (ht : P.underlying t = some (.slice e)) (hti : P.info? e = some ti) (_hsz : ti.size = size)
    (rz : ∀ w, (zeroValue e).run P w = .ok z' w) (hzs : z'.cells.size = size)
    (ha : AppR P e ti u n x' arr w) (hnew : VRL φ new arr.toList) (hlen : new.length = n * size) (hold : VRL φ old oldr.toList) (holen : old.length = sLen * size)
    (hor : (Builtin.firstCells ti.size sLen (.slice base sLen sCap)).run P w.drew = .ok oldr w.drew) (hg : ¬ sLen + n ≤ sCap) (hb : (2 * (sLen + n) + 1024) * ti.bytes ≤ 70368744177664)
    (hb2 : sLen + n ≤ 1099511627776) (hf : ∀ v, φ σ.next v = none) :
    ∃ φ' w' v', (Builtin.append_ #[t, u] ty #[.slice base sLen sCap, x']).run P w = .ok v' w' ∧ VR φ' (.slc σ.next 0 0 (sLen + n) none size) v' ∧ Post R D φ σ w (newArr e (old ++ new) σ) φ' w' := by
  obtain ⟨c, hc, hr⟩ := run_append_grows (ty := ty) ht hti ha rz hg hor (by omega) (not_big (by omega) hb)
  have h1 := hnew.length
  have h2 := hold.length
  have hls : (old ++ new).length = (sLen + n) * size := by rw [List.length_append, hlen, holen, Nat.add_mul]
  have hcs : (oldr ++ arr ++ Builtin.zeroCells z'.cells (c - (sLen + n))).size = c * size := by
    have e1 : oldr.size = sLen * size := by simpa [holen] using h2
    have e2 : arr.size = n * size := by simpa [hlen] using h1
    rw [Array.size_append, Array.size_append, zeroCells_size, hzs, e1, e2, ← Nat.add_mul, ← Nat.add_mul]
    congr 1; omega
  have hle : (sLen + n) * size ≤ c * size := Nat.mul_le_mul_right _ hc
  have hpost := new_arr hi.drew (c := old ++ new) (cs := oldr ++ arr ++ Builtin.zeroCells z'.cells (c - (sLen + n))) (fl := 0) (fh := 0) e hf (fun ψ hψ => by
    have := (hold.append hnew).mono hψ
    have h3 : (oldr ++ arr ++ Builtin.zeroCells z'.cells (c - (sLen + n))).toList.take (old ++ new).length = oldr.toList ++ arr.toList := by
      rw [Array.toList_append, Array.toList_append, List.take_append_of_le_length (by simp only [List.length_append]; omega), List.take_of_length_le (by simp only [List.length_append]; omega)]
    rw [h3]; exact this) (by rw [hls, hcs]; exact hle) (.inl rfl)
  refine ⟨_, _, _, hr, ?_, hpost.drew⟩
  refine .slc _ 0 c (PM.ins_same _ _ _ _) (Nat.le_refl _) (by simp only [hls]; omega) hc (fun k hk => (by cases hk)) (.inr ⟨rfl, by simp only [hcs]; omega⟩)
theorem append_any (hi : Inv R C D φ σ w) {size n : Nat} {new : List AV} {x' z' : Value} {t u ty e : TypeId} {ti : TypeInfo} {arr : Array Value}
    {id ver off len base lim since base' lim' since' nv et o cc : Nat} {c : List AV} {ex : Ext}
    (ht : P.underlying t = some (.slice e)) (hti : P.info? e = some ti) (hsz : ti.size = size)
    (rz : ∀ w, (zeroValue e).run P w = .ok z' w) (hzs : z'.cells.size = size)
    (ha : AppR P e ti u n x' arr w) (hnew : VRL φ new arr.toList) (hlen : new.length = n * size) (hflat : new.all AV.flat = true) (hn0 : n ≠ 0)
    (ho : σ.heap.get id = some (.arr c base lim since nv et)) (hd : D id) (he : φ id ver = some ex) (hdn : ex.dn ≤ off) (hl : len ≤ cc)
    (hoo : cc = 0 ∨ (o + ex.dn = off + ex.up ∧ o + cc * size ≤ ex.bsz)) (hb : (2 * (len + n) + 1024) * ti.bytes ≤ 70368744177664) (hb2 : len + n ≤ 1099511627776)
    (hal : aliveV base since nv ver) (hE : off + len * size ≤ limV base lim ver ex) (hfz : et = e)
    (hst : Stays φ id base lim since base' lim' since' nv (off + len * size)) (hb' : base' < nv + 1) (hs' : since' ≤ nv + 1) (hl' : lim' ≤ off + len * size) (hbn : base' ≠ nv) :
    ∃ φ' w' v', (Builtin.append_ #[t, u] ty #[.slice (some ⟨ex.blk, o, none⟩) len cc, x']).run P w = .ok v' w' ∧ VR φ' (.slc id nv off (len + n) none size) v' ∧
      Post R D φ σ w (σ.put id (.arr (c.take (off + len * size) ++ new) base' lim' since' (nv + 1) et)) φ' w' := by
  have hrep := hi.at ho hd
  have hrep' := hrep
  obtain ⟨hR, g1, g2, g3, g4, g5, g6, g7⟩ := hrep'
  subst hfz
  obtain ⟨e', cs, fl, fh, he', hbk, k1, k2, k3, k4, k5⟩ := g5 ver hal
  rw [he] at he'; simp only [Option.some.injEq] at he'; subst he'
  have h1 := hnew.length
  have harr : arr.size = n * size := by simpa [hlen] using h1
  have hlt := hi.lt ho
  have hmul : (len + n) * size = len * size + n * size := Nat.add_mul _ _ _
  have hEc : off + len * size ≤ c.length := Nat.le_trans hE k3
  by_cases hfit : len + n ≤ cc
  · have hcc0 : cc ≠ 0 := by omega
    obtain ⟨ho1, ho2⟩ := hoo.resolve_left hcc0
    have hm2 := Nat.mul_le_mul_right size hfit
    have hone : ∀ v ∈ arr.toList, v.oneCell' = true := by
      intro v hm
      obtain ⟨j, hj, rfl⟩ := List.getElem_of_mem hm
      have hjl : j < new.length := by omega
      obtain ⟨v', y1, y2⟩ := hnew.get (List.getElem?_eq_getElem hjl)
      rw [List.getElem?_eq_getElem hj] at y1
      simp only [Option.some.injEq] at y1
      rw [y1]
      exact y2.oneCell (List.all_eq_true.1 hflat _ (List.getElem_mem hjl))
    obtain ⟨r1, r2⟩ := append_place (P := P) (q := o + len * size) (m := n * size) hrep hal he hbk hE hdn (by omega) (by omega) hnew hlen hone (by omega) hst hb' hs' hl' hbn
    refine ⟨φ.ins id nv { ex with hi := off + len * size + n * size }, _, .slice (some ⟨ex.blk, o, none⟩) (len + n) cc, run_append_fits ht hti ha hfit (by
      show (storeCells ((⟨ex.blk, o, none⟩ : Addr).add (len * ti.size)) arr.toList).run P w = _
      rw [add_off, hsz]; exact r1), ?_, ?_⟩
    · exact .slc { ex with hi := off + len * size + n * size } o cc (PM.ins_same _ _ _ _) hdn (by simp only; omega) hfit (fun k hk => (by cases hk)) (.inr ⟨ho1, ho2⟩)
    · have hle := φ.le_ins { ex with hi := off + len * size + n * size } (g4 nv (Nat.le_refl _))
      refine .put hi hR hlt hle ((hi.wf.ver (e' := { ex with hi := off + len * size + n * size }) he hR rfl (by show off + len * size + n * size + ex.up ≤ ex.bsz + ex.dn; omega)).wset _ _) (fun i h v => φ.ins_id _ h v) (fun v f hf => ?_) (.wset he _) r2
      unfold PM.ins at hf
      split at hf
      · simp only [Option.some.injEq] at hf; subst hf; exact .inl ⟨ver, ex, he, rfl⟩
      · exact .inl ⟨v, f, hf, rfl⟩
  · have hold : ∃ oldr : Array Value, (Builtin.firstCells ti.size len (.slice (some ⟨ex.blk, o, none⟩) len cc)).run P w.drew = .ok oldr w.drew ∧ VRL φ ((c.drop off).take (off + len * size - off)) oldr.toList := by
      have hsub : off + len * size - off = len * size := by omega
      rw [hsub, hsz]
      by_cases hz : len * size = 0
      · refine ⟨#[], by simp [Builtin.firstCells, hz, loadCells, loadCellsFrom], ?_⟩
        rw [hz]; simp; exact .nil
      · have hcc0 : cc ≠ 0 := by
          intro h0
          have : len = 0 := by omega
          subst this; simp at hz
        obtain ⟨ho1, ho2⟩ := hoo.resolve_left hcc0
        have hbk' : w.drew.heap[ex.blk]? = some (.cells cs et (fl, fh)) := hbk
        have hm2 := Nat.mul_le_mul_right size hl
        refine ⟨((cs.toList.drop o).take (len * size)).toArray, by simpa [Builtin.firstCells] using run_loadCells_row (P := P) hbk' (by omega), ?_⟩
        refine VRL.of_get (by simp; omega) fun i v v' hv hv' => ?_
        have hi' : i < len * size := by
          rcases Nat.lt_or_ge i (len * size) with h | h
          · exact h
          · rw [List.getElem?_eq_none (by simp; omega)] at hv; cases hv
        rw [List.getElem?_take_of_lt hi', List.getElem?_drop] at hv
        obtain ⟨v'', y1, y2⟩ := k5 (off + i) v (by omega) (by omega) hv
        have hv2 : cs[o + i]? = some v' := by
          have : ((cs.toList.drop o).take (len * size))[i]? = some v' := by simpa using hv'
          rw [List.getElem?_take_of_lt hi', List.getElem?_drop] at this
          simpa using this
        rw [show off + i + ex.up - ex.dn = o + i by omega, hv2] at y1
        simp only [Option.some.injEq] at y1; subst y1
        exact y2
    obtain ⟨oldr, hor, hol⟩ := hold
    obtain ⟨c', hc', hr⟩ := run_append_grows (ty := ty) ht hti ha rz hfit hor (by omega) (not_big (by omega) hb)
    have hrep2 : Rep R φ w.drew id (some (.arr c base lim since nv et)) := hrep.frame φ.le_refl (fun _ => rfl) (fun _ _ _ => rfl)
    have hrg := append_grown (rest := Builtin.zeroCells z'.cells (c' - (len + n))) (m := n * size) (hi.drew (C := C)).wf hrep2 hal he hE (by omega) hnew hlen hol hst hb' hs' hl' hbn
    have hols := hol.length
    have hosz : oldr.size = len * size := by
      have : oldr.toList.length = _ := hols
      simp at this; omega
    have hcs : (oldr ++ arr ++ Builtin.zeroCells z'.cells (c' - (len + n))).size = c' * size := by
      rw [Array.size_append, Array.size_append, zeroCells_size, hzs, hosz, harr, ← Nat.add_mul, ← Nat.add_mul]
      congr 1; omega
    have hm3 := Nat.mul_le_mul_right size hc'
    have htop : off + len * size + n * size + 0 ≤ (oldr ++ arr ++ Builtin.zeroCells z'.cells (c' - (len + n))).size + off := by rw [hcs]; omega
    refine ⟨φ.ins id nv ⟨w.drew.heap.size, 0, off, off + len * size + n * size, (oldr ++ arr ++ Builtin.zeroCells z'.cells (c' - (len + n))).size, []⟩, _, _, hr, ?_, ?_⟩
    rotate_left
    · refine Post.drew (.put hi.drew hR hlt (φ.le_ins _ (g4 nv (Nat.le_refl _))) ((hi.drew (C := C)).wf.alloc _ rfl htop) (fun i h v => φ.ins_id _ h v) (fun v f hf => ?_) ?_ hrg)
      · unfold PM.ins at hf
        split at hf
        · simp only [Option.some.injEq] at hf; subst hf; exact .inr (Nat.le_refl _)
        · exact .inl ⟨v, f, hf, rfl⟩
      · exact ⟨by rw [World.size_alloc]; omega, fun b hb _ => alloc_old _ _ hb, rfl, rfl, rfl⟩
    · exact .slc _ 0 c' (PM.ins_same _ _ _ _) (Nat.le_refl _) (by show off + (len + n) * size ≤ off + len * size + n * size; omega) hc' (fun k hk => (by cases hk)) (.inr ⟨by show 0 + off = off + 0; omega, by simp only [hcs]; omega⟩)
theorem appendTo_ok (hi : Inv R C D φ σ w) {size bw n : Nat} {s v : AV} {new : List AV} {σ' : St} {s' x' z' : Value} {t u ty e : TypeId} {ti : TypeInfo} {arr : Array Value}
    (h : appendTo e size bw s n new σ = some (v, σ')) (hs : VR φ s s') (ht : P.underlying t = some (.slice e)) (hti : P.info? e = some ti) (hsz : ti.size = size) (hbw : ti.bytes = bw)
    (rz : ∀ w, (zeroValue e).run P w = .ok z' w) (hzs : z'.cells.size = size)
    (ha : AppR P e ti u n x' arr w) (hnew : VRL φ new arr.toList) (hlen : new.length = n * size) (hk : Known D σ σ') (hf : Free φ σ σ') :
    ∃ φ' w' v', (Builtin.append_ #[t, u] ty #[s', x']).run P w = .ok v' w' ∧ VR φ' v v' ∧ Post R D φ σ w σ' φ' w' := by
  have harr := hnew.length
  have harr' : arr.size = n * size := by simpa [hlen] using harr
  unfold appendTo at h
  split at h
  · cases hs
    simp only [cond_eq_ite, Bool.and_eq_true] at h
    split at h
    · rename_i hn
      have hn := beq_t hn; subst hn
      simp only [Option.some.injEq, Prod.mk.injEq] at h; obtain ⟨rfl, rfl⟩ := h
      exact ⟨φ, w, .slice none 0 0, run_append_fits ht hti ha (Nat.le_refl _) rfl, .nils, .same hi rfl rfl rfl⟩
    · rename_i hn
      have hn0 : n ≠ 0 := fun h0 => hn (by simp [h0])
      split at h
      · rename_i hb
        have hb1 := ble_t hb.1
        have hb2 := ble_t hb.2
        simp only [Option.some.injEq, Prod.mk.injEq] at h; obtain ⟨rfl, rfl⟩ := h
        have := append_new (sLen := 0) (sCap := 0) (base := none) (old := []) (oldr := #[]) (ty := ty) hi ht hti hsz rz hzs ha hnew hlen .nil (by simp) rfl (by omega) (by rw [hbw]; simpa using hb1) (by omega) (hf.at)
        simpa using this
      · cases h
  · rename_i id ver off len cap esz
    cases hs with
    | slc ex o c he hd hh hl hc ho =>
      simp only [cond_eq_ite, Bool.and_eq_true] at h
      split at h
      · rename_i hbe
        have hbe := beq_t hbe; subst hbe
        split at h
        · rename_i hn
          have hn := beq_t hn; subst hn
          simp only [Option.some.injEq, Prod.mk.injEq] at h; obtain ⟨rfl, rfl⟩ := h
          refine ⟨φ, w, .slice (some ⟨ex.blk, o, none⟩) (len + 0) c, run_append_fits ht hti ha hl ?_, .slc ex o c he hd hh hl hc ho, .same hi rfl rfl rfl⟩
          have : arr = #[] := by apply Array.eq_empty_of_size_eq_zero; omega
          subst this
          rfl
        · rename_i hn
          have hn0 : n ≠ 0 := fun h0 => hn (by simp [h0])
          split at h
          · rename_i hb
            have hb1 := ble_t hb.1
            have hb2 := ble_t hb.2
            rw [← hbw] at hb1
            split at h
            · rename_i c0
              have hcc := (hc _ rfl)
              obtain ⟨rfl, hchi⟩ := hcc
              split at h
              · rename_i hfit
                have hfit := ble_t hfit
                split at h
                · rename_i τ hw
                  simp only [Option.some.injEq, Prod.mk.injEq] at h; obtain ⟨rfl, rfl⟩ := h
                  obtain ⟨ho1, ho2⟩ := ho.resolve_left (by omega)
                  obtain ⟨w', r1, r2⟩ := writeN_run (P := P) (q := o + len * esz) hi hw hk hnew he (by omega) (by omega)
                  have hmm := Nat.mul_le_mul_right esz hfit
                  refine ⟨φ, w', .slice (some ⟨ex.blk, o, none⟩) (len + n) c0, run_append_fits ht hti ha hfit (by
                    show (storeCells ((⟨ex.blk, o, none⟩ : Addr).add (len * ti.size)) arr.toList).run P w = _
                    rw [add_off, hsz]; exact r1), .slc ex o c0 he hd (by omega) hfit hc ho, r2⟩
                · cases h
              · rename_i hfit
                have hfit : ¬ len + n ≤ c0 := fun h => hfit (Nat.ble_eq_true_of_le h)
                split at h
                · rename_i old τ hfst
                  simp only [Option.some.injEq, Prod.mk.injEq] at h; obtain ⟨rfl, rfl⟩ := h
                  have hτ : Known D σ τ := fun i hi' hn' => hk i hi' hn'
                  obtain ⟨oldr, q1, q2, q3, q4, q5, q6⟩ := firstA_ok (P := P) hi hfst (.slc (cap := some c0) ex o c0 he hd hh hl hc ho) hτ
                  have hiτ : Inv R C D φ τ w := ⟨hi.wf, by rw [q5]; exact hi.low, fun i hd' hn' => by rw [q4]; rw [q5] at hn'; exact hi.rep i hd' hn', hi.gl, fun i hn' => by rw [q4]; rw [q5] at hn'; exact hi.dom i hn', hi.pin, hi.dec, by rw [q6]; exact hi.wrR, hi.ro, hi.oh⟩
                  have hfτ : ∀ v, φ τ.next v = none := fun v => by rw [q5]; exact hf σ.next (Nat.le_refl _) (by simp only [newArr, St.mk']; rw [q5]; omega) v
                  obtain ⟨φ', w', v', p1, p2, p3⟩ := append_new (ty := ty) hiτ ht hti hsz rz hzs ha hnew hlen q2 q3 (by rw [hsz]; exact q1 _ rfl) hfit hb1 hb2 hfτ
                  refine ⟨φ', w', v', p1, p2, ?_⟩
                  have hsame := Post.same (σ' := τ) hi q4 q5 q6
                  have hpost : Post R (More D σ) φ τ w (newArr e (old ++ new) τ) φ' w' := {
                    le := p3.le, grow := p3.grow, wrR := p3.wrR, wf := p3.wf, blk := p3.blk
                    rep := fun i hii => p3.rep i (by
                      rcases hii with ⟨hd', hn'⟩ | h2
                      · exact .inl ⟨hd'.resolve_right (by rw [q5] at hn'; omega), hn'⟩
                      · exact .inr h2)
                    frm := p3.frm }
                  exact hsame.trans hpost (firstA_step hfst) (.mk' _ _)
                · cases h
            · split at h
              · rename_i c1 base lim since nv et hob
                split at h
                · rename_i hflat
                  have het := beq_t hflat.2
                  subst het
                  replace hflat := hflat.1
                  have hlt := hi.lt hob
                  have hdd : D id := by
                    have hmem : id ∈ σ'.wr := by
                      repeat' split at h
                      all_goals first | (cases h; done) | (simp only [Option.some.injEq, Prod.mk.injEq] at h; obtain ⟨_, rfl⟩ := h; exact mem_addL.2 (.inl rfl))
                    exact hk id (.inr hmem) hlt
                  obtain ⟨hR, g1, g2, g3, g4, g5, g6, g7⟩ := hi.at hob hdd
                  split at h
                  · rename_i hbv
                    have hbv := beq_t hbv; subst hbv
                    split at h
                    · rename_i hbb
                      have e1 := beq_t hbb.1.1
                      have e2 := beq_t hbb.1.2
                      have e3 := beq_t hbb.2
                      have e4 : et = et := rfl
                      simp only [Option.some.injEq, Prod.mk.injEq] at h; obtain ⟨rfl, rfl⟩ := h
                      have hL : limV ver lim ver ex = lim := by simp [limV]
                      have := append_any (ty := ty) (base' := ver) (lim' := lim) (since' := since) hi ht hti hsz rz hzs ha hnew hlen hflat hn0 hob hdd he hd hl ho hb1 hb2 (.inl rfl) (by rw [hL]; omega) e4
                        (by
                          intro v hv
                          rcases hv with rfl | ⟨h1, h2⟩
                          · exact .inr ⟨.inl rfl, by omega, fun f _ => by simp only [limV, if_true]; omega⟩
                          · exact .inl (by omega)) (by omega) (by omega) (by omega) (by omega)
                      rwa [e2, List.take_length] at this
                    · split at h
                      · rename_i hbb
                        have e1 := ble_t hbb.1
                        have e2 : et = et := rfl
                        have e3 := ble_t hbb.2
                        simp only [Option.some.injEq, Prod.mk.injEq] at h; obtain ⟨rfl, rfl⟩ := h
                        have hL : limV ver lim ver ex = lim := by simp [limV]
                        exact append_any (ty := ty) (base' := ver) (lim' := off + len * esz) (since' := nv) hi ht hti hsz rz hzs ha hnew hlen hflat hn0 hob hdd he hd hl ho hb1 hb2 (.inl rfl) (by rw [hL]; omega) e2
                          (by
                            intro v hv
                            rcases hv with rfl | ⟨h1, h2⟩
                            · exact .inr ⟨.inl rfl, by omega, fun f _ => by simp only [limV, if_true]; omega⟩
                            · exact .inl (by omega)) (by omega) (by omega) (Nat.le_refl _) (by omega)
                      · cases h
                  · rename_i hbv
                    have hbv : ver ≠ base := fun h0 => hbv (by simp [h0])
                    split at h
                    · rename_i hbb
                      have e1 := beq_t hbb.1
                      have e2 := ble_t hbb.2
                      have e3 : et = et := rfl
                      have hL : limV base lim ver ex = c1.length := by simp only [limV, if_neg hbv]; exact g7 ver ex e1 e2 hbv he
                      split at h
                      · rename_i e4
                        have e4 := beq_t e4
                        simp only [Option.some.injEq, Prod.mk.injEq] at h; obtain ⟨rfl, rfl⟩ := h
                        have := append_any (ty := ty) (base' := base) (lim' := lim) (since' := since) hi ht hti hsz rz hzs ha hnew hlen hflat hn0 hob hdd he hd hl ho hb1 hb2 (.inr ⟨e2, by omega⟩) (by rw [hL]; omega) e3
                          (by
                            intro v hv
                            by_cases hvn : v = nv
                            · exact .inl hvn
                            · refine .inr ⟨?_, hvn, fun f hf' => ⟨?_, Nat.le_refl _⟩⟩
                              · rcases hv with rfl | ⟨h1, h2⟩
                                · exact .inl rfl
                                · exact .inr ⟨h1, by omega⟩
                              · have hva : aliveV base since nv v := by
                                  rcases hv with rfl | ⟨h1, h2⟩
                                  · exact .inl rfl
                                  · exact .inr ⟨h1, by omega⟩
                                obtain ⟨f', _, _, _, hf2, _, _, _, m3, _, _⟩ := g5 v hva
                                rw [hf'] at hf2; simp only [Option.some.injEq] at hf2; subst hf2
                                omega) (by omega) (by omega) (by omega) (by omega)
                        rwa [e4, List.take_length] at this
                      · split at h
                        · rename_i e4
                          have e4 := ble_t e4
                          simp only [Option.some.injEq, Prod.mk.injEq] at h; obtain ⟨rfl, rfl⟩ := h
                          exact append_any (ty := ty) (base' := ver) (lim' := off + len * esz) (since' := nv) hi ht hti hsz rz hzs ha hnew hlen hflat hn0 hob hdd he hd hl ho hb1 hb2 (.inr ⟨e2, by omega⟩) (by rw [hL]; omega) e3
                            (by
                              intro v hv
                              rcases hv with rfl | ⟨h1, h2⟩
                              · refine .inr ⟨.inr ⟨e2, by omega⟩, by omega, fun f hf' => ?_⟩
                                rw [he] at hf'; simp only [Option.some.injEq] at hf'; subst hf'
                                rw [hL]
                                simp only [limV, if_true]
                                omega
                              · exact .inl (by omega)) (by omega) (by omega) (Nat.le_refl _) (by omega)
                        · cases h
                    · cases h
                · cases h
              · cases h
          · cases h
      · cases h
  · cases h
end
end Go.Tw
