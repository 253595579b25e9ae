/-
  A part of the proof that the abstract evaluator is sound for the model's machine. Conditions: those of each theorem, as it states them.
-/
import Derived.Test.YtbbnjiceenjhcaaGreatDoorTwOps9
set_option linter.all false
namespace Go.Tw
section
variable [Val]
variable {P : Program} {R : Nat} {C : Cfg} {D : Nat → Prop} {φ : PM} {σ : St} {w : World}

theorem copyA_ok (hi : Inv R C D φ σ w) {ts : List TypeId} {args : List AV} {ts' : Array TypeId} {args' : Array Value} {ty : TypeId} {v : AV} {σ' : St} (h : copyA P ts args σ = some (v, σ'))
    (hts : ts'.toList = ts) (hargs : VRL φ args args'.toList) (hk : Known D σ σ') :
    ∃ w' v', (Builtin.copy_ ts' ty args').run P w = .ok v' w' ∧ VR φ v v' ∧ Post R D φ σ w σ' φ w' := by
  unfold copyA at h
  split at h
  · rename_i dt tl d x
    obtain ⟨d', x', hargs2, hd, hx⟩ := hargs.two
    subst hargs2
    have ht0 : ts'[0]? = some dt := by rw [← Array.getElem?_toList, hts]; rfl
    split at h
    · rename_i e dl xl hu hdl hxl
      split at h
      · rename_i size hs
        dsimp only at h
        have hlx := lenOfA_ok (P := P) hxl hx
        split at h
        · rename_i new τ hfst
          have hkτ : Known D σ τ := by
            have hst : StepA τ σ' := by
              simp only [cond_eq_ite] at h
              repeat' split at h
              all_goals first
                | (cases h; done)
                | (rename_i hw; simp only [Option.some.injEq, Prod.mk.injEq] at h; obtain ⟨_, rfl⟩ := h; exact writeN_step hw)
                | (simp only [Option.some.injEq, Prod.mk.injEq] at h; obtain ⟨_, rfl⟩ := h; exact .refl _)
            exact hk.mono hst
          obtain ⟨arr, q1, q2, q3, q4, q5, q6⟩ := firstA_ok (P := P) hi hfst hx hkτ
          have hl := q2.length
          split at h
          · cases hd
            simp only [Option.some.injEq, Prod.mk.injEq] at h; obtain ⟨rfl, rfl⟩ := h
            have hdl0 : dl = 0 := by simpa [lenOfA] using hdl.symm
            subst hdl0
            refine ⟨w, goInt 0, ?_, .int _ _, .same hi q4 q5 q6⟩
            have q1' := q1 w rfl
            have hm0 : Nat.min xl 0 = 0 := Nat.min_zero xl
            simp only [hm0] at q1'
            simp [Builtin.copy_, ht0, run_und hu, hlx, run_szOf hs, q1']
          · rename_i id ver off len cap esz
            cases hd with
            | slc ex o c he hdn hh hl' hc ho =>
              have hdl0 : dl = len := by simpa [lenOfA] using hdl.symm
              subst hdl0
              simp only [cond_eq_ite] at h
              split at h
              · rename_i hbe
                have hbe := beq_t hbe; subst hbe
                split at h
                · rename_i hn0
                  have hn0 := beq_t hn0
                  simp only [Option.some.injEq, Prod.mk.injEq] at h; obtain ⟨rfl, rfl⟩ := h
                  have harr : arr = #[] := by
                    apply Array.eq_empty_of_size_eq_zero
                    have : arr.toList.length = _ := hl
                    rw [q3, hn0] at this
                    simpa using this
                  subst harr
                  refine ⟨w, goInt 0, ?_, .int _ _, .same hi q4 q5 q6⟩
                  have q1' := q1 w rfl
                  rw [hn0] at q1'
                  simp [Builtin.copy_, ht0, run_und hu, hlx, run_szOf hs, hn0, q1', storeCells]
                · rename_i hn0
                  have hn0 : Nat.min xl dl ≠ 0 := fun h0 => hn0 (by rw [h0]; rfl)
                  split at h
                  · rename_i τ' hw
                    simp only [Option.some.injEq, Prod.mk.injEq] at h; obtain ⟨rfl, rfl⟩ := h
                    have hmin : Nat.min xl dl ≤ dl := Nat.min_le_right _ _
                    obtain ⟨ho1, _⟩ := ho.resolve_left (by omega)
                    obtain ⟨w', r1, r2⟩ := writeN_run (P := P) (hi.same q4 q5 q6) hw (fun i hi' hn' => hk i hi' (by rw [← q5]; exact hn')) q2 he hdn ho1
                    refine ⟨w', goInt (Nat.min xl dl), ?_, .int _ _, r2.from q5 q6⟩
                    simp [Builtin.copy_, ht0, run_und hu, hlx, run_szOf hs, q1 w rfl, r1]
                  · cases h
              · cases h
          · cases h
        · cases h
      · cases h
    · cases h
  · cases h

theorem mapM_u8 {cs : List AV} {bs : List UInt8} {cs' : List Value} (hv : VRL φ cs cs')
    (h : cs.mapM (fun | AV.int .u8 n => some (UInt8.ofNat n.toNat) | _ => none) = some bs) :
    ∃ ns : List Int, cs' = ns.map (Value.int .u8) ∧ bs = ns.map (fun n => UInt8.ofNat n.toNat) := by
  induction cs generalizing bs cs' with
  | nil => cases hv; simp at h; subst h; exact ⟨[], rfl, rfl⟩
  | cons c cs ih =>
    cases hv with
    | cons h1 h2 =>
      rw [List.mapM_cons] at h
      cases h1 <;> try (simp at h; done)
      rename_i k n
      cases k <;> try (simp at h; done)
      simp only [Option.bind_eq_bind, Option.bind_some] at h
      cases hm : cs.mapM (fun | AV.int .u8 n => some (UInt8.ofNat n.toNat) | _ => none) with
      | none => rw [hm] at h; simp at h
      | some r =>
        rw [hm] at h
        simp only [Option.bind_some, Option.pure_def, Option.some.injEq] at h
        obtain ⟨ns, e1, e2⟩ := ih h2 hm
        exact ⟨n :: ns, by rw [e1]; rfl, by rw [← h, e2]; rfl⟩

omit [Val] in
theorem foldl_push (ns : List Int) : ∀ (b : ByteArray), ns.foldl (fun r n => r.push (UInt8.ofNat n.toNat)) b = ⟨⟨b.data.toList ++ ns.map (fun n => UInt8.ofNat n.toNat)⟩⟩ := by
  induction ns with
  | nil => intro b; apply ByteArray.ext; simp
  | cons n ns ih =>
    intro b
    rw [List.foldl_cons, ih]
    apply ByteArray.ext
    simp [ByteArray.push]

omit [Val] in
theorem freeze_alloc (w : World) (cs : Array Value) (t : TypeId) (k : Nat) :
    (w.alloc (.cells cs t)).freeze { block := w.heap.size, off := k } 1 = w.alloc (.cells cs t (k, k + 1)) := by
  unfold World.freeze
  rw [if_neg (by decide)]
  show ({ w.alloc (.cells cs t) with heap := _ } : World) = { w with heap := w.heap.push (.cells cs t (k, k + 1)) }
  have : (w.alloc (.cells cs t)).heap = w.heap.push (.cells cs t) := rfl
  simp only [this]
  congr 1
  apply Array.ext (by simp)
  intro i h1 h2
  simp at h1
  rw [Array.getElem_modify]
  by_cases e : w.heap.size = i
  · subst e; simp
  · rw [if_neg e, Array.getElem_push_lt (by omega), Array.getElem_push_lt (by omega)]

omit [Val] in
theorem freeze_row {w : World} {b : Nat} {cs : Array Value} {t : TypeId} {fl fh : Nat} (h : w.heap[b]? = some (.cells cs t (fl, fh))) (k n : Nat) (hn : n ≠ 0) :
    ∃ gl gh, w.freeze { block := b, off := k } n = wset w b (.cells cs t (gl, gh)) ∧ ((fl = fh ∧ gl = k ∧ gh = k + n) ∨ (fl ≠ fh ∧ gl = min fl k ∧ gh = max fh (k + n))) := by
  refine ⟨(if fl == fh then (k, k + n) else (min fl k, max fh (k + n))).1, (if fl == fh then (k, k + n) else (min fl k, max fh (k + n))).2, ?_, ?_⟩
  rotate_left
  · by_cases h : fl = fh
    · subst h; exact .inl ⟨rfl, by simp, by simp⟩
    · exact .inr ⟨h, by simp [h], by simp [h]⟩
  have hb := heap_lt h
  have hx : w.heap[b] = .cells cs t (fl, fh) := by rw [Array.getElem?_eq_getElem hb] at h; simpa using h
  unfold World.freeze
  rw [if_neg hn]
  simp only [wset]
  congr 1
  apply Array.ext (by simp)
  intro i h1 h2
  simp at h1
  rw [Array.getElem_modify, Array.getElem_setIfInBounds]
  by_cases e : b = i
  · subst e; simp [hx]
  · simp [e]
  · exact h1

theorem convA_ok (hi : Inv R C D φ σ w) {src dst : TypeId} {x v : AV} {x' : Value} {σ' : St} (h : convA P src dst x σ = some (v, σ')) (hx : VR φ x x') (hk : Known D σ σ') (hf : Free φ σ σ') :
    ∃ φ' w' v', (convert src dst x').run P w = .ok v' w' ∧ VR φ' v v' ∧ Post R D φ σ w σ' φ' w' := by
  unfold convA at h
  split at h
  · rename_i k _ n hs hd
    simp only [Option.some.injEq, Prod.mk.injEq] at h; obtain ⟨rfl, rfl⟩ := h
    cases hx
    exact ⟨φ, w, .int k (k.wrap n), by simp [convert, run_und hs, run_und hd, Conv.intToInt], by rw [wrapI_eq]; exact .int _ _, .same hi rfl rfl rfl⟩
  · rename_i k _ e hs hd
    simp only [Option.some.injEq, Prod.mk.injEq] at h; obtain ⟨rfl, rfl⟩ := h
    cases hx
    refine ⟨φ, w, .int k (k.wrap e.eval), by simp [convert, run_und hs, run_und hd, Conv.intToInt], ?_, .same hi rfl rfl rfl⟩
    rw [← wrapI_eq]; exact .sym k (.wrap k e)
  · rename_i n hs hd
    simp only [Option.some.injEq, Prod.mk.injEq] at h; obtain ⟨rfl, rfl⟩ := h
    cases hx
    exact ⟨φ, w, .string (Utf8.encode n), by simp [convert, run_und hs, run_und hd, Conv.intToString], .str _, .same hi rfl rfl rfl⟩
  · rename_i s hs hd
    simp only [Option.some.injEq, Prod.mk.injEq] at h; obtain ⟨rfl, rfl⟩ := h
    cases hx
    exact ⟨φ, w, .string ⟨⟨s⟩⟩, by simp [convert, run_und hs, run_und hd], .str _, .same hi rfl rfl rfl⟩
  · rename_i se e id ver off len cap esz hs hd
    split at h
    · rename_i c t hu ho
      simp only [cond_eq_ite, Bool.and_eq_true] at h
      split at h
      · rename_i hb
        have e1 := beq_t hb.1
        have e2 := beq_t hb.2
        subst e1; subst e2
        simp only [Option.some.injEq, Prod.mk.injEq] at h; obtain ⟨rfl, rfl⟩ := h
        cases hx with
        | slc ex o c' he hdn hh hl hc hoo =>
          have hdd : D id := hk id (.inr (mem_addL.2 (.inl rfl))) (hi.lt ho)
          obtain ⟨hR, e', cs, fl, fh, he', hbk, g1, g2, g3, g4, g5, g6⟩ := hi.at ho hdd
          rw [he] at he'; simp only [Option.some.injEq] at he'; subst he'
          have hsz : cs.size = c.length := by have := g5.length; simpa using this
          obtain ⟨gl, gh, hfz, hgl⟩ := freeze_row hbk cs.size 1 (by decide)
          refine ⟨φ, wset w ex.blk (.cells cs t (gl, gh)), .slice (some ⟨ex.blk, o, none⟩) len c', ?_, .slc ex o c' he hdn hh hl hc hoo, ?_⟩
          rotate_left
          · exact .change (ob := .cells cs t (gl, gh)) hi hR (hi.lt ho) he
              ⟨hR, ex, cs, _, _, he, wset_same _ _ _ (heap_lt hbk), g1, g2, g3, g4, g5, by
                omega⟩
          · have hsh : w.shape? ex.blk = some (t, cs.size) := by simp only [World.shape?, hbk]
            have hse : se = e := by rw [hs] at hd; simpa using hd
            subst hse
            simp only [convert, Sem.run_bind, run_und hs, run_und hu, Result.andThen_ok, beq_self_eq_true, markStringish, run_shape, hsh, run_freeze, hfz, Sem.run_pure]
      · cases h
    · cases h
  · rename_i e hs hd
    simp only [Option.some.injEq, Prod.mk.injEq] at h; obtain ⟨rfl, rfl⟩ := h
    cases hx
    exact ⟨φ, w, .pointer none, by simp [convert, run_und hs, run_und hd, Conv.unsafePointer], .nilp, .same hi rfl rfl rfl⟩
  · rename_i t id ver off hi' hs hd
    split at h
    · rename_i c bt n ho hz
      simp only [cond_eq_ite, Bool.and_eq_true] at h
      split at h
      · rename_i hb
        have e1 := beq_t hb.1
        have e2 := blt_t hb.2
        subst e1
        simp only [Option.some.injEq, Prod.mk.injEq] at h; obtain ⟨rfl, rfl⟩ := h
        cases hx with
        | ptr ex o he hdn hh hoo =>
          have hdd : D id := hk id (.inl (mem_addL.2 (.inl rfl))) (hi.lt ho)
          obtain ⟨hR, e', cs, fl, fh, he', hbk, g1, g2, g3, g4, g5, g6⟩ := hi.at ho hdd
          rw [he] at he'; simp only [Option.some.injEq] at he'; subst he'
          have hsz : cs.size = c.length := by have := g5.length; simpa using this
          have hsh : w.shape? ex.blk = some (bt, cs.size) := by simp only [World.shape?, hbk]
          have hge : ¬ (cs.size ≤ o) := by omega
          refine ⟨φ, w, .pointer (some ⟨ex.blk, o, none⟩), ?_, .ptr ex o he hdn hh hoo, .same hi rfl rfl rfl⟩
          simp [convert, run_und hs, run_und hd, Conv.unsafePointer, Conv.seenAt, viewAt, cellsIn, hsh, run_szOf hz, hge]
      · cases h
    · cases h
  · rename_i e hs hd
    simp only [Option.some.injEq, Prod.mk.injEq] at h; obtain ⟨rfl, rfl⟩ := h
    cases hx
    exact ⟨φ, w, .pointer none, by simp [convert, run_und hs, run_und hd, Conv.unsafePointer], .nilp, .same hi rfl rfl rfl⟩
  · rename_i u id ver off hi' hs hd
    split at h
    · rename_i c bt nz ho hz
      simp only [cond_eq_ite, Bool.and_eq_true] at h
      split at h
      · rename_i hb
        have e1 := beq_t hb.1
        have e2 := hb.2
        subst e1
        simp only [Option.some.injEq, Prod.mk.injEq] at h; obtain ⟨rfl, rfl⟩ := h
        cases hx with
        | ptr ex o he hdn hh hoo =>
          have hdd : D id := hk id (.inl (mem_addL.2 (.inl rfl))) (hi.lt ho)
          obtain ⟨hR, e', cs, fl, fh, he', hbk, g1, g2, g3, g4, g5, g6⟩ := hi.at ho hdd
          rw [he] at he'; simp only [Option.some.injEq] at he'; subst he'
          have hsz : cs.size = c.length := by have := g5.length; simpa using this
          have hsh : w.shape? ex.blk = some (bt, cs.size) := by simp only [World.shape?, hbk]
          have hoff : o = off := by omega
          subst hoff
          rw [← hsz] at e2
          refine ⟨φ, w, .pointer (some ⟨ex.blk, o, none⟩), ?_, .ptr ex o he hdn hh hoo, .same hi rfl rfl rfl⟩
          simp only [convert, Sem.run_bind, run_und hs, run_und hd, Result.andThen_ok, Conv.unsafePointer, Conv.seenAt, viewAt, run_shape, hsh, Option.isSome_some, if_true, Sem.run_pure, run_szOf hz, variablesAt, run_program]
          simp [e2]
      · cases h
    · cases h
  · rename_i e s hs hd
    split at h
    · rename_i hu he
      simp only [Option.some.injEq, Prod.mk.injEq] at h; obtain ⟨rfl, rfl⟩ := h
      cases hx
      have hcap : s.length ≤ (Question.appendCap s.length 0 e).cut (w.tape w.drawn (.appendCap s.length 0 e)) := by simp [Question.cut]
      have hch : (choose (.appendCap s.length 0 e)).run P w = .ok ((Question.appendCap s.length 0 e).cut (w.tape w.drawn (.appendCap s.length 0 e))) w.drew := by
        simp [Question.forced]
      generalize (Question.appendCap s.length 0 e).cut (w.tape w.drawn (.appendCap s.length 0 e)) = c at hcap hch
      have hsz : (⟨⟨s⟩⟩ : ByteArray).size = s.length := rfl
      obtain ⟨cs, hcs⟩ : ∃ cs : Array Value, cs = (⟨⟨s⟩⟩ : ByteArray).data.map (fun b => Value.int .u8 b.toNat) ++ Array.replicate (c - s.length) (.int .u8 0) := ⟨_, rfl⟩
      have hcsz : cs.size = c := by rw [hcs]; simp; omega
      have hpost := new_arr hi.drew (c := s.map fun b => AV.int .u8 b.toNat) (cs := cs) (fl := cs.size) (fh := cs.size + 1) e hf.at (fun ψ _ => by
        have h3 : cs.toList.take (s.map fun b => AV.int .u8 b.toNat).length = s.map fun b => Value.int .u8 b.toNat := by
          rw [hcs]; simp
        rw [h3]; exact VRL.map_u8 s) (by rw [hcsz]; simpa using hcap) (.inr (Nat.le_refl _))
      have hlen : (s.map fun b => AV.int .u8 b.toNat).length = s.length := by simp
      have heq : newArr e (s.map fun b => AV.int .u8 b.toNat) σ = σ.mk' (.arr (s.map fun b => .int .u8 b.toNat) 0 s.length 1 1 e) := by simp [newArr]
      rw [heq] at hpost
      refine ⟨_, _, .slice (some ⟨w.heap.size, 0, none⟩) s.length c, ?_, ?_, hpost.drew⟩
      · simp only [convert, Sem.run_bind, run_und hs, run_und hd, run_und hu, Result.andThen_ok, Conv.stringToBytes, hsz, hch]
        rw [← hcs]
        simp only [newRow, Sem.run_bind, run_newObj, Result.andThen_ok, Sem.run_pure, markStringish, run_shape]
        have hsh : (w.drew.alloc (.cells cs e)).shape? w.drew.heap.size = some (e, cs.size) := by
          simp only [World.shape?, alloc_new]
        have hal : ({ w.drew with heap := w.drew.heap.push (.cells cs e) } : World) = w.drew.alloc (.cells cs e) := rfl
        have hfz := freeze_alloc w.drew cs e cs.size
        simp only [hal, hsh, run_freeze, Result.andThen_ok]
        rw [hfz]
        rfl
      · refine .slc _ 0 c (PM.ins_same _ _ _ _) (Nat.le_refl _) (by simp only [hlen]; omega) hcap (fun k hk => (by cases hk)) (.inr ⟨rfl, by simp only [hcsz]; omega⟩)
    · cases h
  · rename_i e hs hd
    split at h
    · rename_i hu
      simp only [Option.some.injEq, Prod.mk.injEq] at h; obtain ⟨rfl, rfl⟩ := h
      cases hx
      exact ⟨φ, w, .string ByteArray.empty, by simp [convert, run_und hs, run_und hd, run_und hu, Conv.bytesToString], .str _, .same hi rfl rfl rfl⟩
    · cases h
  · rename_i e id ver off len cap esz hs hd
    split at h
    · rename_i hu
      simp only [cond_eq_ite] at h
      split at h
      · rename_i hbe
        have hbe := beq_t hbe; subst hbe
        split at h
        · rename_i cs hcs
          split at h
          · rename_i bs hbs
            simp only [Option.some.injEq, Prod.mk.injEq] at h; obtain ⟨rfl, rfl⟩ := h
            cases hx with
            | slc ex o c he hdn hh hl hc ho =>
              obtain ⟨_, ob, _, hob, _⟩ := readN_ok hcs
              have hdd : D id := hk id (.inl (mem_addL.2 (.inl rfl))) (hi.lt hob)
              by_cases hl0 : len = 0
              · subst hl0
                have hcs0 : cs = [] := by
                  obtain ⟨_, ob, c1, _, _, hcut⟩ := readN_ok hcs
                  exact List.length_eq_zero_iff.1 (cut_ok hcut).2
                subst hcs0
                simp at hbs; subst hbs
                refine ⟨φ, w, .string ByteArray.empty, ?_, .str _, .same hi rfl rfl rfl⟩
                have := run_bytesToString (P := P) w ⟨ex.blk, o, none⟩ 0 c [] (by simp [loadCells, loadCellsFrom])
                simp only [convert, Sem.run_bind, run_und hs, run_und hd, run_und hu, Result.andThen_ok]
                simpa using this
              · obtain ⟨ho1, _⟩ := ho.resolve_left (by omega)
                obtain ⟨arr, r1, r2, r3, _⟩ := readN_run (P := P) hi hcs hdd he hdn (by omega) ho1
                obtain ⟨ns, e1, e2⟩ := mapM_u8 r2 hbs
                have harr : arr = (ns.map (Value.int .u8)).toArray := by apply Array.ext'; simpa using e1
                refine ⟨φ, w, .string ⟨⟨bs⟩⟩, ?_, .str _, .same hi rfl rfl rfl⟩
                have := run_bytesToString (P := P) w ⟨ex.blk, o, none⟩ len c ns (by rw [← harr]; exact r1 w rfl)
                rw [foldl_push] at this
                simp only [convert, Sem.run_bind, run_und hs, run_und hd, run_und hu, Result.andThen_ok]
                rw [e2]
                simpa using this
          · cases h
        · cases h
      · cases h
    · cases h
  · cases h
end
end Go.Tw
