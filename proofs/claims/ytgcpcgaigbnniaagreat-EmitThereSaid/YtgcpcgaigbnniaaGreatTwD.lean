/-
  A part of the proof that the abstract evaluator is sound for the model's machine. Conditions: those of each theorem, as it states them.
-/
import Derived.Test.YtgcpcgaigbnniaaGreatTwC
import GoSem.Dispatch
import Derived.Laws.LoneSync
import Derived.Lib.UnsafeStr
set_option linter.all false
namespace Go.Tw
section
variable [Val]
variable {P : Program} {R : Nat} {C : Cfg} {D : Nat → Prop} {φ : PM} {σ : St} {w : World}
theorem VRL.one {a : AV} {l : Array Value} (h : VRL φ [a] l.toList) : ∃ a', l = #[a'] ∧ VR φ a a' := by
  generalize hl : l.toList = l0 at h
  cases h with
  | cons h1 h2 => cases h2; exact ⟨_, by apply Array.ext'; simpa using hl, h1⟩
theorem VRL.two {a b : AV} {l : Array Value} (h : VRL φ [a, b] l.toList) : ∃ a' b', l = #[a', b'] ∧ VR φ a a' ∧ VR φ b b' := by
  generalize hl : l.toList = l0 at h
  cases h with
  | cons h1 h2 => cases h2 with
    | cons h3 h4 => cases h4; exact ⟨_, _, by apply Array.ext'; simpa using hl, h1, h3⟩
theorem info_of {e : TypeId} {size bw : Nat} {z : AV} (h1 : szOf P e = some size) (h2 : byOf P e = some bw) (h3 : zeroOf P e = some z) (hz : z.cells.length = size) :
    ∃ ti z', P.info? e = some ti ∧ ti.size = size ∧ ti.bytes = bw ∧ (∀ w, (zeroValue e).run P w = .ok z' w) ∧ (∀ φ, VR φ z z') ∧ z'.cells.size = size := by
  unfold szOf at h1
  split at h1
  · rename_i i hi
    simp only [Option.some.injEq] at h1
    unfold byOf at h2
    rw [hi] at h2
    simp only [Option.some.injEq] at h2
    obtain ⟨z', rz, vz⟩ := run_zero h3
    have hl := (VRL.const vz (fun _ _ => none)).length
    exact ⟨i, z', hi, h1, h2, rz, vz, by simpa [hz] using hl⟩
  · cases h1
theorem appendA_ok (hi : Inv R C D φ σ w) {ts : List TypeId} {args : List AV} {ts' : Array TypeId} {args' : Array Value} {ty : TypeId} {v : AV} {σ' : St} (h : appendA P ts args σ = some (v, σ'))
    (hts : ts'.toList = ts) (hargs : VRL φ args args'.toList) (hk : Known D σ σ') (hf : Free φ σ σ') :
    ∃ φ' w' v', (Builtin.append_ ts' ty args').run P w = .ok v' w' ∧ VR φ' v v' ∧ Post R D φ σ w σ' φ' w' := by
  unfold appendA at h
  split at h
  · rename_i st u s x
    have hts2 : ts' = #[st, u] := by apply Array.ext'; simpa using hts
    subst hts2
    obtain ⟨s', x', hargs2, hs, hx⟩ := hargs.two
    subst hargs2
    split at h
    · rename_i e hu
      split at h
      · rename_i size bw z h1 h2 h3
        simp only [cond_eq_ite] at h
        split at h
        · rename_i hz
          have hz := beq_t hz
          obtain ⟨ti, z', hti, hsz, hbw, rz, vz, hzs⟩ := info_of h1 h2 h3 hz
          split at h
          · rename_i hzero
            split at h
            · rename_i k n
              simp only [Bool.and_eq_true] at h
              split at h
              · rename_i hb
                have hb1 := ble_t hb.1
                have hb2 := ble_t hb.2
                have hui : ∃ ik, P.underlying u = some (.int ik) := by
                  unfold zerosA at hzero
                  split at hzero
                  · rename_i ik hu2; exact ⟨ik, hu2⟩
                  · cases hzero
                  · cases hzero
                obtain ⟨ik, hu2⟩ := hui
                cases hx
                have harr : VRL φ (repl n z.cells) ((if n * ti.size = 0 then #[] else Builtin.zeroCells z'.cells n : Array Value)).toList := by
                  split
                  · rename_i h0
                    have : repl n z.cells = [] := by
                      apply List.length_eq_zero_iff.1
                      rw [repl_length, hz, ← hsz, h0]
                    rw [this]; exact .nil
                  · rename_i h0
                    have := makeSlice_cells vz hz φ z'.cells (c := n) (fun _ => rfl)
                    rw [← hzs] at this
                    exact this
                exact appendTo_ok (u := u) hi h hs hu hti hsz hbw rz hzs (.inr ⟨ik, k, z', hu2, rfl, hb1, by rw [hbw]; exact hb2, rz, rfl⟩) harr (by rw [repl_length, hz]) hk hf
              · cases h
            · cases h
          · rename_i hzero
            have hud : ∃ d, P.underlying u = some d ∧ ∀ k, d ≠ .int k := by
              unfold zerosA at hzero
              split at hzero
              · cases hzero
              · rename_i d hne hu2
                exact ⟨_, hu2, fun k hk => hne k hk⟩
              · cases hzero
            obtain ⟨d, hu2, hd⟩ := hud
            split at h
            · rename_i n hn
              split at h
              · rename_i new τ hfst
                have hst := appendTo_step h
                have hkτ : Known D σ τ := hk.mono hst
                obtain ⟨arr, q1, q2, q3, q4, q5, q6⟩ := firstA_ok (P := P) hi hfst hx hkτ
                have hfree : Free φ τ σ' := fun i h1 h2 => hf i (by rw [← q5]; exact h1) h2
                obtain ⟨φ', w', v', p1, p2, p3⟩ := appendTo_ok (u := u) (ty := ty) (x' := x') (hi.same q4 q5 q6) h hs hu hti hsz hbw rz hzs
                  (.inl ⟨d, hu2, hd, lenOfA_ok hn hx w, by rw [hsz]; exact q1 w rfl, by rw [hsz]; exact q1 _ rfl⟩) q2 q3 (fun i hi' hn' => hk i hi' (by rw [← q5]; exact hn')) hfree
                exact ⟨φ', w', v', p1, p2, p3.from q5 q6⟩
              · cases h
            · cases h
          · cases h
        · cases h
      · cases h
    · cases h
  · cases h
end
end Go.Tw
namespace Go.Tw
section
variable [Val]
variable {P : Program} {R : Nat} {C : Cfg} {D : Nat → Prop} {φ : PM} {σ : St} {w : World}
theorem copyA_ok (hi : Inv R C D φ σ w) {ts : List TypeId} {args : List AV} {ts' : Array TypeId} {args' : Array Value} {ty : TypeId} {v : AV} {σ' : St} (h : copyA P ts args σ = some (v, σ'))
    (hts : ts'.toList = ts) (hargs : VRL φ args args'.toList) (hk : Known D σ σ') :
    ∃ w' v', (Builtin.copy_ ts' ty args').run P w = .ok v' w' ∧ VR φ v v' ∧ Post R D φ σ w σ' φ w' := by
  unfold copyA at h
  split at h
  · rename_i dt tl d x
    obtain ⟨d', x', hargs2, hd, hx⟩ := hargs.two
    subst hargs2
    have ht0 : ts'[0]? = some dt := by rw [← Array.getElem?_toList, hts]; rfl
    split at h
    · rename_i e dl xl hu hdl hxl
      split at h
      · rename_i size hs
        dsimp only at h
        have hlx := lenOfA_ok (P := P) hxl hx
        split at h
        · rename_i new τ hfst
          have hkτ : Known D σ τ := by
            have hst : StepA τ σ' := by
              simp only [cond_eq_ite] at h
              repeat' split at h
              all_goals first
                | (cases h; done)
                | (rename_i hw; simp only [Option.some.injEq, Prod.mk.injEq] at h; obtain ⟨_, rfl⟩ := h; exact writeN_step hw)
                | (simp only [Option.some.injEq, Prod.mk.injEq] at h; obtain ⟨_, rfl⟩ := h; exact .refl _)
            exact hk.mono hst
          obtain ⟨arr, q1, q2, q3, q4, q5, q6⟩ := firstA_ok (P := P) hi hfst hx hkτ
          have hl := q2.length
          split at h
          · cases hd
            simp only [Option.some.injEq, Prod.mk.injEq] at h; obtain ⟨rfl, rfl⟩ := h
            have hdl0 : dl = 0 := by simpa [lenOfA] using hdl.symm
            subst hdl0
            refine ⟨w, goInt 0, ?_, .int _ _, .same hi q4 q5 q6⟩
            have q1' := q1 w rfl
            have hm0 : Nat.min xl 0 = 0 := Nat.min_zero xl
            simp only [hm0] at q1'
            simp [Builtin.copy_, ht0, run_und hu, hlx, run_szOf hs, q1']
          · rename_i id ver off len cap esz
            cases hd with
            | slc ex o c he hdn hh hl' hc ho =>
              have hdl0 : dl = len := by simpa [lenOfA] using hdl.symm
              subst hdl0
              simp only [cond_eq_ite] at h
              split at h
              · rename_i hbe
                have hbe := beq_t hbe; subst hbe
                split at h
                · rename_i hn0
                  have hn0 := beq_t hn0
                  simp only [Option.some.injEq, Prod.mk.injEq] at h; obtain ⟨rfl, rfl⟩ := h
                  have harr : arr = #[] := by
                    apply Array.eq_empty_of_size_eq_zero
                    have : arr.toList.length = _ := hl
                    rw [q3, hn0] at this
                    simpa using this
                  subst harr
                  refine ⟨w, goInt 0, ?_, .int _ _, .same hi q4 q5 q6⟩
                  have q1' := q1 w rfl
                  rw [hn0] at q1'
                  simp [Builtin.copy_, ht0, run_und hu, hlx, run_szOf hs, hn0, q1', storeCells]
                · rename_i hn0
                  have hn0 : Nat.min xl dl ≠ 0 := fun h0 => hn0 (by rw [h0]; rfl)
                  split at h
                  · rename_i τ' hw
                    simp only [Option.some.injEq, Prod.mk.injEq] at h; obtain ⟨rfl, rfl⟩ := h
                    have hmin : Nat.min xl dl ≤ dl := Nat.min_le_right _ _
                    obtain ⟨ho1, _⟩ := ho.resolve_left (by omega)
                    obtain ⟨w', r1, r2⟩ := writeN_run (P := P) (hi.same q4 q5 q6) hw (fun i hi' hn' => hk i hi' (by rw [← q5]; exact hn')) q2 he hdn ho1
                    refine ⟨w', goInt (Nat.min xl dl), ?_, .int _ _, r2.from q5 q6⟩
                    simp [Builtin.copy_, ht0, run_und hu, hlx, run_szOf hs, q1 w rfl, r1]
                  · cases h
              · cases h
          · cases h
        · cases h
      · cases h
    · cases h
  · cases h
theorem mapM_u8 {cs : List AV} {bs : List UInt8} {cs' : List Value} (hv : VRL φ cs cs')
    (h : cs.mapM (fun | AV.int .u8 n => some (UInt8.ofNat n.toNat) | _ => none) = some bs) :
    ∃ ns : List Int, cs' = ns.map (Value.int .u8) ∧ bs = ns.map (fun n => UInt8.ofNat n.toNat) := by
  induction cs generalizing bs cs' with
  | nil => cases hv; simp at h; subst h; exact ⟨[], rfl, rfl⟩
  | cons c cs ih =>
    cases hv with
    | cons h1 h2 =>
      rw [List.mapM_cons] at h
      cases h1 <;> try (simp at h; done)
      rename_i k n
      cases k <;> try (simp at h; done)
      simp only [Option.bind_eq_bind, Option.bind_some] at h
      cases hm : cs.mapM (fun | AV.int .u8 n => some (UInt8.ofNat n.toNat) | _ => none) with
      | none => rw [hm] at h; simp at h
      | some r =>
        rw [hm] at h
        simp only [Option.bind_some, Option.pure_def, Option.some.injEq] at h
        obtain ⟨ns, e1, e2⟩ := ih h2 hm
        exact ⟨n :: ns, by rw [e1]; rfl, by rw [← h, e2]; rfl⟩
omit [Val] in
theorem foldl_push (ns : List Int) : ∀ (b : ByteArray), ns.foldl (fun r n => r.push (UInt8.ofNat n.toNat)) b = ⟨⟨b.data.toList ++ ns.map (fun n => UInt8.ofNat n.toNat)⟩⟩ := by
  induction ns with
  | nil => intro b; apply ByteArray.ext; simp
  | cons n ns ih =>
    intro b
    rw [List.foldl_cons, ih]
    apply ByteArray.ext
    simp [ByteArray.push]
omit [Val] in
theorem freeze_alloc (w : World) (cs : Array Value) (t : TypeId) (k : Nat) :
    (w.alloc (.cells cs t)).freeze { block := w.heap.size, off := k } 1 = w.alloc (.cells cs t (k, k + 1)) := by
  unfold World.freeze
  rw [if_neg (by decide)]
  show ({ w.alloc (.cells cs t) with heap := _ } : World) = { w with heap := w.heap.push (.cells cs t (k, k + 1)) }
  have : (w.alloc (.cells cs t)).heap = w.heap.push (.cells cs t) := rfl
  simp only [this]
  congr 1
  apply Array.ext (by simp)
  intro i h1 h2
  simp at h1
  rw [Array.getElem_modify]
  by_cases e : w.heap.size = i
  · subst e; simp
  · rw [if_neg e, Array.getElem_push_lt (by omega), Array.getElem_push_lt (by omega)]
omit [Val] in
theorem freeze_row {w : World} {b : Nat} {cs : Array Value} {t : TypeId} {fl fh : Nat} (h : w.heap[b]? = some (.cells cs t (fl, fh))) (k n : Nat) (hn : n ≠ 0) :
    ∃ gl gh, w.freeze { block := b, off := k } n = wset w b (.cells cs t (gl, gh)) ∧ ((fl = fh ∧ gl = k ∧ gh = k + n) ∨ (fl ≠ fh ∧ gl = min fl k ∧ gh = max fh (k + n))) := by
  refine ⟨(if fl == fh then (k, k + n) else (min fl k, max fh (k + n))).1, (if fl == fh then (k, k + n) else (min fl k, max fh (k + n))).2, ?_, ?_⟩
  rotate_left
  · by_cases h : fl = fh
    · subst h; exact .inl ⟨rfl, by simp, by simp⟩
    · exact .inr ⟨h, by simp [h], by simp [h]⟩
  have hb := heap_lt h
  have hx : w.heap[b] = .cells cs t (fl, fh) := by rw [Array.getElem?_eq_getElem hb] at h; simpa using h
  unfold World.freeze
  rw [if_neg hn]
  simp only [wset]
  congr 1
  apply Array.ext (by simp)
  intro i h1 h2
  simp at h1
  rw [Array.getElem_modify, Array.getElem_setIfInBounds]
  by_cases e : b = i
  · subst e; simp [hx]
  · simp [e]
  · exact h1
theorem convA_ok (hi : Inv R C D φ σ w) {src dst : TypeId} {x v : AV} {x' : Value} {σ' : St} (h : convA P src dst x σ = some (v, σ')) (hx : VR φ x x') (hk : Known D σ σ') (hf : Free φ σ σ') :
    ∃ φ' w' v', (convert src dst x').run P w = .ok v' w' ∧ VR φ' v v' ∧ Post R D φ σ w σ' φ' w' := by
  unfold convA at h
  split at h
  · rename_i k _ n hs hd
    simp only [Option.some.injEq, Prod.mk.injEq] at h; obtain ⟨rfl, rfl⟩ := h
    cases hx
    exact ⟨φ, w, .int k (k.wrap n), by simp [convert, run_und hs, run_und hd, Conv.intToInt], by rw [wrapI_eq]; exact .int _ _, .same hi rfl rfl rfl⟩
  · rename_i k _ e hs hd
    simp only [Option.some.injEq, Prod.mk.injEq] at h; obtain ⟨rfl, rfl⟩ := h
    cases hx
    refine ⟨φ, w, .int k (k.wrap e.eval), by simp [convert, run_und hs, run_und hd, Conv.intToInt], ?_, .same hi rfl rfl rfl⟩
    rw [← wrapI_eq]; exact .sym k (.wrap k e)
  · rename_i n hs hd
    simp only [Option.some.injEq, Prod.mk.injEq] at h; obtain ⟨rfl, rfl⟩ := h
    cases hx
    exact ⟨φ, w, .string (Utf8.encode n), by simp [convert, run_und hs, run_und hd, Conv.intToString], .str _, .same hi rfl rfl rfl⟩
  · rename_i s hs hd
    simp only [Option.some.injEq, Prod.mk.injEq] at h; obtain ⟨rfl, rfl⟩ := h
    cases hx
    exact ⟨φ, w, .string ⟨⟨s⟩⟩, by simp [convert, run_und hs, run_und hd], .str _, .same hi rfl rfl rfl⟩
  · rename_i e hs hd
    simp only [Option.some.injEq, Prod.mk.injEq] at h; obtain ⟨rfl, rfl⟩ := h
    cases hx with
    | vstr s hs' => exact ⟨φ, w, .string ⟨⟨s⟩⟩, by simp [convert, run_und hs, run_und hd], .vstr s hs', .same hi rfl rfl rfl⟩
  · rename_i se e id ver off len cap esz hs hd
    split at h
    · rename_i c t hu ho
      simp only [cond_eq_ite, Bool.and_eq_true] at h
      split at h
      · rename_i hb
        have e1 := beq_t hb.1
        have e2 := beq_t hb.2
        subst e1; subst e2
        simp only [Option.some.injEq, Prod.mk.injEq] at h; obtain ⟨rfl, rfl⟩ := h
        cases hx with
        | slc ex o c' he hdn hh hl hc hoo =>
          have hdd : D id := hk id (.inr (mem_addL.2 (.inl rfl))) (hi.lt ho)
          obtain ⟨hR, e', cs, fl, fh, he', hbk, g1, g2, g3, g4, g5, g6⟩ := hi.at ho hdd
          rw [he] at he'; simp only [Option.some.injEq] at he'; subst he'
          have hsz : cs.size = c.length := by have := g5.length; simpa using this
          obtain ⟨gl, gh, hfz, hgl⟩ := freeze_row hbk cs.size 1 (by decide)
          refine ⟨φ, wset w ex.blk (.cells cs t (gl, gh)), .slice (some ⟨ex.blk, o, none⟩) len c', ?_, .slc ex o c' he hdn hh hl hc hoo, ?_⟩
          rotate_left
          · exact .change (ob := .cells cs t (gl, gh)) hi hR (hi.lt ho) he
              ⟨hR, ex, cs, _, _, he, wset_same _ _ _ (heap_lt hbk), g1, g2, g3, g4, g5, by
                omega⟩
          · have hsh : w.shape? ex.blk = some (t, cs.size) := by simp only [World.shape?, hbk]
            have hse : se = e := by rw [hs] at hd; simpa using hd
            subst hse
            simp only [convert, Sem.run_bind, run_und hs, run_und hu, Result.andThen_ok, beq_self_eq_true, markStringish, run_shape, hsh, run_freeze, hfz, Sem.run_pure]
      · cases h
    · cases h
  · rename_i e hs hd
    simp only [Option.some.injEq, Prod.mk.injEq] at h; obtain ⟨rfl, rfl⟩ := h
    cases hx
    exact ⟨φ, w, .pointer none, by simp [convert, run_und hs, run_und hd, Conv.unsafePointer], .nilp, .same hi rfl rfl rfl⟩
  · rename_i t id ver off hi' hs hd
    split at h
    · rename_i c bt n ho hz
      simp only [cond_eq_ite, Bool.and_eq_true] at h
      split at h
      · rename_i hb
        have e1 := beq_t hb.1
        have e2 := blt_t hb.2
        subst e1
        simp only [Option.some.injEq, Prod.mk.injEq] at h; obtain ⟨rfl, rfl⟩ := h
        cases hx with
        | ptr ex o he hdn hh hoo =>
          have hdd : D id := hk id (.inl (mem_addL.2 (.inl rfl))) (hi.lt ho)
          obtain ⟨hR, e', cs, fl, fh, he', hbk, g1, g2, g3, g4, g5, g6⟩ := hi.at ho hdd
          rw [he] at he'; simp only [Option.some.injEq] at he'; subst he'
          have hsz : cs.size = c.length := by have := g5.length; simpa using this
          have hsh : w.shape? ex.blk = some (bt, cs.size) := by simp only [World.shape?, hbk]
          have hge : ¬ (cs.size ≤ o) := by omega
          refine ⟨φ, w, .pointer (some ⟨ex.blk, o, none⟩), ?_, .ptr ex o he hdn hh hoo, .same hi rfl rfl rfl⟩
          simp [convert, run_und hs, run_und hd, Conv.unsafePointer, Conv.seenAt, viewAt, cellsIn, hsh, run_szOf hz, hge]
      · cases h
    · cases h
  · rename_i e hs hd
    simp only [Option.some.injEq, Prod.mk.injEq] at h; obtain ⟨rfl, rfl⟩ := h
    cases hx
    exact ⟨φ, w, .pointer none, by simp [convert, run_und hs, run_und hd, Conv.unsafePointer], .nilp, .same hi rfl rfl rfl⟩
  · rename_i u id ver off hi' hs hd
    split at h
    · rename_i c bt nz ho hz
      simp only [cond_eq_ite, Bool.and_eq_true] at h
      split at h
      · rename_i hb
        have e1 := beq_t hb.1
        have e2 := hb.2
        subst e1
        simp only [Option.some.injEq, Prod.mk.injEq] at h; obtain ⟨rfl, rfl⟩ := h
        cases hx with
        | ptr ex o he hdn hh hoo =>
          have hdd : D id := hk id (.inl (mem_addL.2 (.inl rfl))) (hi.lt ho)
          obtain ⟨hR, e', cs, fl, fh, he', hbk, g1, g2, g3, g4, g5, g6⟩ := hi.at ho hdd
          rw [he] at he'; simp only [Option.some.injEq] at he'; subst he'
          have hsz : cs.size = c.length := by have := g5.length; simpa using this
          have hsh : w.shape? ex.blk = some (bt, cs.size) := by simp only [World.shape?, hbk]
          have hoff : o = off := by omega
          subst hoff
          rw [← hsz] at e2
          refine ⟨φ, w, .pointer (some ⟨ex.blk, o, none⟩), ?_, .ptr ex o he hdn hh hoo, .same hi rfl rfl rfl⟩
          simp only [convert, Sem.run_bind, run_und hs, run_und hd, Result.andThen_ok, Conv.unsafePointer, Conv.seenAt, viewAt, run_shape, hsh, Option.isSome_some, if_true, Sem.run_pure, run_szOf hz, variablesAt, run_program]
          simp [e2]
      · cases h
    · cases h
  · rename_i e s hs hd
    split at h
    · rename_i hu he
      simp only [Option.some.injEq, Prod.mk.injEq] at h; obtain ⟨rfl, rfl⟩ := h
      cases hx
      have hcap : s.length ≤ (Question.appendCap s.length 0 e).cut (w.tape w.drawn (.appendCap s.length 0 e)) := by simp [Question.cut]
      have hch : (choose (.appendCap s.length 0 e)).run P w = .ok ((Question.appendCap s.length 0 e).cut (w.tape w.drawn (.appendCap s.length 0 e))) w.drew := by
        simp [Question.forced]
      generalize (Question.appendCap s.length 0 e).cut (w.tape w.drawn (.appendCap s.length 0 e)) = c at hcap hch
      have hsz : (⟨⟨s⟩⟩ : ByteArray).size = s.length := rfl
      obtain ⟨cs, hcs⟩ : ∃ cs : Array Value, cs = (⟨⟨s⟩⟩ : ByteArray).data.map (fun b => Value.int .u8 b.toNat) ++ Array.replicate (c - s.length) (.int .u8 0) := ⟨_, rfl⟩
      have hcsz : cs.size = c := by rw [hcs]; simp; omega
      have hpost := new_arr hi.drew (c := s.map fun b => AV.int .u8 b.toNat) (cs := cs) (fl := cs.size) (fh := cs.size + 1) e hf.at (fun ψ _ => by
        have h3 : cs.toList.take (s.map fun b => AV.int .u8 b.toNat).length = s.map fun b => Value.int .u8 b.toNat := by
          rw [hcs]; simp
        rw [h3]; exact VRL.map_u8 s) (by rw [hcsz]; simpa using hcap) (.inr (Nat.le_refl _))
      have hlen : (s.map fun b => AV.int .u8 b.toNat).length = s.length := by simp
      have heq : newArr e (s.map fun b => AV.int .u8 b.toNat) σ = σ.mk' (.arr (s.map fun b => .int .u8 b.toNat) 0 s.length 1 1 e) := by simp [newArr]
      rw [heq] at hpost
      refine ⟨_, _, .slice (some ⟨w.heap.size, 0, none⟩) s.length c, ?_, ?_, hpost.drew⟩
      · simp only [convert, Sem.run_bind, run_und hs, run_und hd, run_und hu, Result.andThen_ok, Conv.stringToBytes, hsz, hch]
        rw [← hcs]
        simp only [newRow, Sem.run_bind, run_newObj, Result.andThen_ok, Sem.run_pure, markStringish, run_shape]
        have hsh : (w.drew.alloc (.cells cs e)).shape? w.drew.heap.size = some (e, cs.size) := by
          simp only [World.shape?, alloc_new]
        have hal : ({ w.drew with heap := w.drew.heap.push (.cells cs e) } : World) = w.drew.alloc (.cells cs e) := rfl
        have hfz := freeze_alloc w.drew cs e cs.size
        simp only [hal, hsh, run_freeze, Result.andThen_ok]
        rw [hfz]
        rfl
      · refine .slc _ 0 c (PM.ins_same _ _ _ _) (Nat.le_refl _) (by simp only [hlen]; omega) hcap (fun k hk => (by cases hk)) (.inr ⟨rfl, by simp only [hcsz]; omega⟩)
    · cases h
  · rename_i e hs hd
    split at h
    · rename_i hu
      simp only [Option.some.injEq, Prod.mk.injEq] at h; obtain ⟨rfl, rfl⟩ := h
      cases hx
      exact ⟨φ, w, .string ByteArray.empty, by simp [convert, run_und hs, run_und hd, run_und hu, Conv.bytesToString], .str _, .same hi rfl rfl rfl⟩
    · cases h
  · rename_i e id ver off len cap esz hs hd
    split at h
    · rename_i hu
      simp only [cond_eq_ite] at h
      split at h
      · rename_i hbe
        have hbe := beq_t hbe; subst hbe
        split at h
        · rename_i cs hcs
          split at h
          · rename_i bs hbs
            simp only [Option.some.injEq, Prod.mk.injEq] at h; obtain ⟨rfl, rfl⟩ := h
            cases hx with
            | slc ex o c he hdn hh hl hc ho =>
              obtain ⟨_, ob, _, hob, _⟩ := readN_ok hcs
              have hdd : D id := hk id (.inl (mem_addL.2 (.inl rfl))) (hi.lt hob)
              by_cases hl0 : len = 0
              · subst hl0
                have hcs0 : cs = [] := by
                  obtain ⟨_, ob, c1, _, _, hcut⟩ := readN_ok hcs
                  exact List.length_eq_zero_iff.1 (cut_ok hcut).2
                subst hcs0
                simp at hbs; subst hbs
                refine ⟨φ, w, .string ByteArray.empty, ?_, .str _, .same hi rfl rfl rfl⟩
                have := run_bytesToString (P := P) w ⟨ex.blk, o, none⟩ 0 c [] (by simp [loadCells, loadCellsFrom])
                simp only [convert, Sem.run_bind, run_und hs, run_und hd, run_und hu, Result.andThen_ok]
                simpa using this
              · obtain ⟨ho1, _⟩ := ho.resolve_left (by omega)
                obtain ⟨arr, r1, r2, r3, _⟩ := readN_run (P := P) hi hcs hdd he hdn (by omega) ho1
                obtain ⟨ns, e1, e2⟩ := mapM_u8 r2 hbs
                have harr : arr = (ns.map (Value.int .u8)).toArray := by apply Array.ext'; simpa using e1
                refine ⟨φ, w, .string ⟨⟨bs⟩⟩, ?_, .str _, .same hi rfl rfl rfl⟩
                have := run_bytesToString (P := P) w ⟨ex.blk, o, none⟩ len c ns (by rw [← harr]; exact r1 w rfl)
                rw [foldl_push] at this
                simp only [convert, Sem.run_bind, run_und hs, run_und hd, run_und hu, Result.andThen_ok]
                rw [e2]
                simpa using this
          · cases h
        · cases h
      · cases h
    · cases h
  · cases h
end
end Go.Tw
namespace Go.Tw
section
variable [Val]
variable {P : Program} {R : Nat} {C : Cfg} {D : Nat → Prop} {φ : PM} {σ : St} {w : World}
omit [Val] in
theorem least_some (p : String → Bool) (g : String → String) (ms : List String) (h : ms ≠ []) :
    ∃ m, (Instr.least (ms.partition p).2 <|> Instr.least ((ms.partition p).1.map g)) = some m := by
  rw [List.partition_eq_filter_filter]
  cases he : ms.filter (not ∘ p) with
  | cons y ys => exact ⟨_, rfl⟩
  | nil =>
    cases hu : ms.filter p with
    | cons y ys => exact ⟨_, rfl⟩
    | nil =>
      exfalso
      apply h
      apply List.eq_nil_iff_forall_not_mem.2
      intro x hx
      have h1 := List.filter_eq_nil_iff.1 hu x hx
      have h2 := List.filter_eq_nil_iff.1 he x hx
      simp at h1 h2
      rw [h1] at h2; cases h2
omit [Val] in
theorem missing_ok {want : List (String × TypeId)} {got : List Method} {want' : Array (String × TypeId)} {got' : Array Method} (h1 : want'.toList = want) (h2 : got'.toList = got) :
    (hasMethods want got = true → Instr.missingMethod want' got' = none) ∧ (hasMethods want got = false → ∃ m, Instr.missingMethod want' got' = some m) := by
  subst h1; subst h2
  have key : ∀ l : List (String × TypeId), (l.filter fun (name, sig) => !got'.any fun m => m.name == name && m.sig == sig) = [] ↔ hasMethods l got'.toList = true := by
    intro l
    simp only [hasMethods, List.filter_eq_nil_iff, List.all_eq_true, ← Array.any_toList]
    constructor
    · intro h x hx
      have := h x hx
      simpa using this
    · intro h x hx
      have := h x hx
      simpa using this
  constructor
  · intro h
    have := (key want'.toList).2 h
    simp only [Instr.missingMethod, this]
    rfl
  · intro h
    have hne : (want'.toList.filter fun (name, sig) => !got'.any fun m => m.name == name && m.sig == sig) ≠ [] := by
      intro h0
      rw [(key _).1 h0] at h; cases h
    exact least_some _ _ _ (by simpa using hne)
theorem assertA_ok {x v : AV} {x' : Value} {xt t : TypeId} {ok : Bool} (h : assertA P x t ok = some v) (hx : VR φ x x') :
    ∃ v', (∀ w, (Instr.typeAssert x' xt t ok).run P w = .ok v' w) ∧ VR φ v v' := by
  unfold assertA at h
  have hfail : ∀ z, zeroOf P t = some z → ∃ z', (∀ w, (zeroValue t).run P w = .ok z' w) ∧ VR φ (.tup [z, .bool false]) (.tuple #[z', .bool false]) := by
    intro z hz
    obtain ⟨z', rz, vz⟩ := run_zero hz
    exact ⟨z', rz, .tup _ (.cons (vz φ) (.cons (.bool _) .nil))⟩
  split at h
  · rename_i ms hu
    cases hx
    simp only [cond_eq_ite] at h
    split at h
    · rename_i hok
      subst hok
      split at h
      · rename_i z hz
        simp only [Option.some.injEq] at h; subst h
        obtain ⟨z', rz, vz⟩ := hfail z hz
        exact ⟨_, fun w => by simp [Instr.typeAssert, run_und hu, rz], vz⟩
      · cases h
    · cases h
  · rename_i want ti u hu
    cases hx with
    | iface _ hv =>
      split at h
      · rename_i i hi
        obtain ⟨m1, m2⟩ := missing_ok (want' := want) (got' := i.methods) rfl rfl
        simp only [cond_eq_ite] at h
        split at h
        · rename_i hm
          have hmiss := m1 hm
          simp only [Option.some.injEq] at h; subst h
          cases ok
          · exact ⟨_, fun w => by simp [Instr.typeAssert, run_und hu, run_info hi, hmiss], .iface _ hv⟩
          · exact ⟨_, fun w => by simp [Instr.typeAssert, run_und hu, run_info hi, hmiss], .tup _ (.cons (.iface _ hv) (.cons (.bool _) .nil))⟩
        · rename_i hm
          obtain ⟨mm, hmiss⟩ := m2 (by simpa using hm)
          split at h
          · rename_i hok
            subst hok
            split at h
            · rename_i z hz
              simp only [Option.some.injEq] at h; subst h
              obtain ⟨z', rz, vz⟩ := hfail z hz
              exact ⟨_, fun w => by simp [Instr.typeAssert, run_und hu, run_info hi, hmiss, rz], vz⟩
            · cases h
          · cases h
      · cases h
  · rename_i d hn1 hu
    cases hx
    simp only [cond_eq_ite] at h
    split at h
    · rename_i hok
      subst hok
      split at h
      · rename_i z hz
        simp only [Option.some.injEq] at h; subst h
        obtain ⟨z', rz, vz⟩ := hfail z hz
        refine ⟨_, fun w => ?_, vz⟩
        simp only [Instr.typeAssert, Sem.run_bind, run_und hu, Result.andThen_ok]
        cases d <;> first
          | (simp [rz]; done)
          | exact absurd rfl (hn1 _)
          | (exfalso; exact hn1 _ rfl)
      · cases h
    · cases h
  · rename_i d ti u hn1 hu
    cases hx with
    | iface _ hv =>
      simp only [cond_eq_ite] at h
      split at h
      · rename_i hb
        have hb := beq_t hb; subst hb
        simp only [Option.some.injEq] at h; subst h
        cases ok
        · refine ⟨_, fun w => ?_, hv⟩
          simp only [Instr.typeAssert, Sem.run_bind, run_und hu, Result.andThen_ok]
          cases d <;> first
            | (simp; done)
            | (exfalso; exact hn1 _ rfl)
        · refine ⟨_, fun w => ?_, .tup _ (.cons hv (.cons (.bool _) .nil))⟩
          simp only [Instr.typeAssert, Sem.run_bind, run_und hu, Result.andThen_ok]
          cases d <;> first
            | (simp; done)
            | (exfalso; exact hn1 _ rfl)
      · rename_i hb
        have hb : ti ≠ t := fun h0 => hb (by simp [h0])
        split at h
        · rename_i hok
          subst hok
          split at h
          · rename_i z hz
            simp only [Option.some.injEq] at h; subst h
            obtain ⟨z', rz, vz⟩ := hfail z hz
            refine ⟨_, fun w => ?_, vz⟩
            simp only [Instr.typeAssert, Sem.run_bind, run_und hu, Result.andThen_ok]
            cases d <;> first
              | (simp [rz, hb]; done)
              | (exfalso; exact hn1 _ rfl)
          · cases h
        · cases h
  · cases h
def DfR (φ : PM) : ADef → Deferred → Prop
  | .call f l, d => ∃ cap ar : Array Value, d = { target := .fn (.func f) cap, args := ar } ∧ VRL φ l (ar.toList ++ cap.toList)
  | .mark id, d => ∃ e ar, φ id 0 = some e ∧ d = { target := .collected e.blk, args := ar }
theorem DfR.mono {φ ψ : PM} (h : φ.le ψ) {d : ADef} {d' : Deferred} (k : DfR φ d d') : DfR ψ d d' := by
  cases d with
  | call f l => obtain ⟨cap, ar, h1, h2⟩ := k; exact ⟨cap, ar, h1, h2.mono h⟩
  | mark id => obtain ⟨e, ar, h1, h2⟩ := k; exact ⟨e, ar, h _ _ _ h1, h2⟩
def Leads (P : Program) (φ : PM) (s : Sem Next) (w w' : World) (args' : Array Value) : Cle → Prop
  | .fn f => s.run P w = .ok (.enter f args') w'
  | .yld id => w' = w ∧ ∃ e, φ id 0 = some e ∧ s.run P w = (Instr.yield e.blk args').run P w
def OpOk (P : Program) (R : Nat) (D : Nat → Prop) (φ : PM) (σ : St) (w : World) (s : Sem Next) : OR → Prop
  | .val v σ' => ∃ φ' w' n v', s.run P w = .ok n w' ∧ (n = .value v' ∨ (n = .skip ∧ v' = undef)) ∧ VR φ' v v' ∧ Post R D φ σ w σ' φ' w'
  | .pan v σ' => ∃ φ' w' v', s.run P w = .halt (.panic v') w' ∧ VR φ' v v' ∧ Post R D φ σ w σ' φ' w'
  | .call f args σ' => ∃ φ' w' args', Leads P φ' s w w' args' f ∧ VRL φ' args args'.toList ∧ Post R D φ σ w σ' φ' w'
  | .dfr d σ' => ∃ φ' w' d', s.run P w = .ok (.defer d') w' ∧ DfR φ' d d' ∧ Post R D φ σ w σ' φ' w'
  | .rcv σ' => s.run P w = .ok .recover w ∧ Post R D φ σ w σ' φ w
  | .no => True
theorem OpOk.ofV {s : Sem Value} {v : AV} {σ' : St} (h : ∃ φ' w' v', s.run P w = .ok v' w' ∧ VR φ' v v' ∧ Post R D φ σ w σ' φ' w') :
    OpOk P R D φ σ w (do pure (.value (← s))) (.val v σ') := by
  obtain ⟨φ', w', v', h1, h2, h3⟩ := h
  exact ⟨φ', w', .value v', v', by simp [h1], .inl rfl, h2, h3⟩
theorem OpOk.ofP (hi : Inv R C D φ σ w) {s : Sem Value} {r : Option AV} (h : ∀ v, r = some v → ∃ v', s.run P w = .ok v' w ∧ VR φ v v') :
    OpOk P R D φ σ w (do pure (.value (← s))) (OR.of r σ) := by
  cases r with
  | none => trivial
  | some v => obtain ⟨v', h1, h2⟩ := h v rfl; exact .ofV ⟨φ, w, v', h1, h2, .same hi rfl rfl rfl⟩
theorem OpOk.ofS {s : Sem Value} {r : Option (AV × St)} (h : ∀ v σ', r = some (v, σ') → ∃ φ' w' v', s.run P w = .ok v' w' ∧ VR φ' v v' ∧ Post R D φ σ w σ' φ' w') :
    OpOk P R D φ σ w (do pure (.value (← s))) (OR.ofS r) := by
  cases r with
  | none => trivial
  | some p => obtain ⟨v, τ⟩ := p; exact .ofV (h v τ rfl)
theorem OpOk.ofU {s : Sem Unit} {r : Option St} (h : ∀ σ', r = some σ' → ∃ w', s.run P w = .ok () w' ∧ Post R D φ σ w σ' φ w') :
    OpOk P R D φ σ w (do s; pure .skip) (OR.ofU r) := by
  cases r with
  | none => trivial
  | some τ =>
    obtain ⟨w', h1, h2⟩ := h τ rfl
    exact ⟨φ, w', .skip, undef, by simp [h1], .inr ⟨rfl, rfl⟩, .tup _ .nil, h2⟩
omit [Val] in
theorem findNext_count {fn : Func} (h : fn.name = "internal/bytealg.CountString") (ho : fn.origin = "") : Extern.findNext fn = none := by
  unfold Extern.findNext; rw [h, ho]; rfl
omit [Val] in
theorem find_count {fn : Func} (h : fn.name = "internal/bytealg.CountString") (ho : fn.origin = "") : Extern.find fn = some Extern.BytealgCount.count := by
  unfold Extern.find; rw [h, ho]; rfl
omit [Val] in
theorem findNext_index {fn : Func} (h : fn.name = "internal/bytealg.IndexByteString") (ho : fn.origin = "") : Extern.findNext fn = none := by
  unfold Extern.findNext; rw [h, ho]; rfl
omit [Val] in
theorem find_index {fn : Func} (h : fn.name = "internal/bytealg.IndexByteString") (ho : fn.origin = "") : Extern.find fn = some Extern.BytealgIndexByte.indexByte := by
  unfold Extern.find; rw [h, ho]; rfl
omit [Val] in
theorem run_extern {f : FuncId} {fn : Func} {e : Array Value → Sem Value} {args : Array Value} (hf : P.funcs[f]? = some fn) (hn : fn.name ≠ "runtime.NumGoroutine") (hb : fn.body = none)
    (h1 : Extern.findNext fn = none) (h2 : Extern.find fn = some e) : (callFunc f args).run P w = (do pure (.value (← e args)) : Sem Next).run P w := by
  have hn' : (fn.name == "runtime.NumGoroutine") = false := by simpa using hn
  simp only [callFunc, Sem.run_bind, run_program, Result.andThen_ok, hf, hn', hb, h1, h2]
  simp
theorem OpOk.ext {f : FuncId} {fn : Func} {e : Array Value → Sem Value} {args : Array Value} (hf : P.funcs[f]? = some fn) (hn : fn.name ≠ "runtime.NumGoroutine") (hb : fn.body = none)
    (h1 : Extern.findNext fn = none) (h2 : Extern.find fn = some e) {v : AV} {σ' : St} (h : ∃ φ' w' v', (e args).run P w = .ok v' w' ∧ VR φ' v v' ∧ Post R D φ σ w σ' φ' w') :
    OpOk P R D φ σ w (callFunc f args) (.val v σ') := by
  obtain ⟨φ', w', v', g1, g2, g3⟩ := h
  refine ⟨φ', w', .value v', v', ?_, .inl rfl, g2, g3⟩
  rw [run_extern hf hn hb h1 h2, Sem.run_bind, g1]
  rfl
omit [Val] in
theorem find_row {fn : Func} {n : String} (h : fn.name = n) (ho : fn.origin = "") : Extern.findNext fn = Extern.findNext { fn with name := n, origin := "" } ∧
    Extern.find fn = Extern.find { fn with name := n, origin := "" } := by
  subst h
  rw [← ho]
  exact ⟨rfl, rfl⟩
omit [Val] in
theorem storeCells_one {a : Addr} {v : Value} {w w' : World} (hs : a.spot = none) (h : (storeCells a [v] 0).run P w = .ok () w') {u : Value} (hc : w.cell? a = some u) :
    w.frozen? a = false ∧ (∀ m, (store a v m).run P w = .ok () w') := by
  have ha : a.add 0 = a := by
    obtain ⟨b, o, s⟩ := a
    simp only at hs; subst hs
    exact add_off b o 0
  simp only [storeCells, ha, Sem.run_bind] at h
  cases hf : w.frozen? a with
  | true =>
    exfalso
    cases v <;> simp [store, Sem.run, hc, hf, Result.andThen] at h
  | false =>
    refine ⟨rfl, fun m => ?_⟩
    cases v <;> simp [store, Sem.run, hc, hf, Result.andThen] at h ⊢ <;> exact h
theorem atomicA_ok (hi : Inv R C D φ σ w) {n : Nat} {k : IntKind} {args : List AV} {args' : Array Value} {v : AV} {σ' : St} (h : atomicA n k args σ = .val v σ') (ha : VRL φ args args'.toList)
    (hk : Known D σ σ') : ∃ w' v', (match n with
      | 0 => Extern.Atomic.loadT (.int k) args'
      | 1 => Extern.Atomic.storeT args'
      | 3 => Extern.Atomic.casT (.int k) args'
      | 4 => Extern.Atomic.swapT (.int k) args'
      | _ => Extern.Atomic.update (Op.intArith .add) k true args').run P w = .ok v' w' ∧ VR φ v v' ∧ Post R D φ σ w σ' φ w' := by
  unfold atomicA at h
  split at h
  · rename_i id ver off hi' rest
    split at h
    · rename_i k' old hr
      split at h
      · cases h
      · rename_i hkk
        have hkk : k = k' := by simpa using hkk
        subst hkk
        obtain ⟨_, ob, _, hob, _⟩ := readN_ok hr
        obtain ⟨args', rfl⟩ : ∃ l : List Value, args' = l.toArray := ⟨args'.toList, by simp⟩
        cases ha with
        | cons hp hrest =>
          cases hp with
          | ptr ex q he hd hh hoo =>
            have hlt := hi.lt hob
            -- what is read
            have hread : D id → w.cell? ⟨ex.blk, q, none⟩ = some (.int k old) := by
              intro hdd
              obtain ⟨arr, _, r2, _, r4⟩ := readN_run (P := P) hi hr hdd he hd hh hoo
              obtain ⟨v', rfl, hc⟩ := r4 rfl
              cases r2 with
              | cons hv _ => cases hv; exact hc
            have hwrite : ∀ (x : AV) (x' : Value) (τ : St), writeN σ id ver off hi' [x] = some τ → VR φ x x' → D id → Known D σ τ →
                ∃ w', w.frozen? ⟨ex.blk, q, none⟩ = false ∧ (∀ m, (store ⟨ex.blk, q, none⟩ x' m).run P w = .ok () w') ∧ Post R D φ σ w τ φ w' := by
              intro x x' τ hw hx hdd hkn
              obtain ⟨w', g1, g2⟩ := writeN_run (P := P) hi hw hkn (.cons hx .nil) he hd hoo
              obtain ⟨c1, c2⟩ := storeCells_one rfl g1 (hread hdd)
              exact ⟨w', c1, c2, g2⟩
            have hdW : ∀ (x : AV) (τ : St), writeN σ id ver off hi' [x] = some τ → Known D σ τ → D id := by
              intro x τ hw hkn
              obtain ⟨_, _, o, o', ho, _, hτ⟩ := writeN_ok hw
              exact hkn id (.inr (by rw [hτ]; exact mem_addL.2 (.inl rfl))) hlt
            have hrd : ∀ {m : Mode}, D id → (Extern.Atomic.read (.int k) ⟨ex.blk, q, none⟩).run P w = .ok (.int k old) w := by
              intro m hdd
              simp [Extern.Atomic.read, hread hdd]
            split at h
            · cases hrest
              simp only [OR.val.injEq] at h
              obtain ⟨rfl, rfl⟩ := h
              have hdd : D id := hk id (.inl (mem_addL.2 (.inl rfl))) hlt
              refine ⟨w, .int k old, ?_, .int _ _, .same hi rfl rfl rfl⟩
              change Sem.run P (do Extern.Atomic.read (.int k) (← asAddr (.pointer (some ⟨ex.blk, q, none⟩)))) w = _
              simp [asAddr, hrd (m := .atomic) hdd]
            · cases hrest with
              | @cons ax x' _ _ hx hnil =>
                cases hnil
                split at h
                · rename_i τ hw
                  simp only [OR.val.injEq] at h
                  obtain ⟨rfl, rfl⟩ := h
                  obtain ⟨w', _, c2, c3⟩ := hwrite _ _ _ hw hx (hdW _ _ hw hk) hk
                  refine ⟨w', .tuple #[], ?_, .tup _ .nil, c3⟩
                  change Sem.run P (do
                    store (← asAddr (.pointer (some ⟨ex.blk, q, none⟩))) x' .atomic
                    pure Extern.Atomic.none_) w = _
                  simp only [Sem.run_bind, asAddr, Sem.run_pure, Result.andThen_ok, c2, Extern.Atomic.none_]
                · cases h
            · rename_i ky y
              cases hrest with
              | @cons ax x' _ _ hx hnil =>
                cases hnil
                cases hx
                split at h
                · rename_i τ hw
                  simp only [OR.val.injEq] at h
                  obtain ⟨rfl, rfl⟩ := h
                  have hdd := hdW _ _ hw hk
                  obtain ⟨w', _, c2, c3⟩ := hwrite _ (.int k (k.wrap (old + y))) _ hw (by rw [← wrapI_eq]; exact .int _ _) hdd hk
                  refine ⟨w', .int k (k.wrap (old + y)), ?_, by rw [← wrapI_eq]; exact .int _ _, c3⟩
                  change Sem.run P (do
                    let a ← asAddr (.pointer (some ⟨ex.blk, q, none⟩))
                    let o ← Extern.Atomic.read (.int k) a
                    let n ← Op.intArith .add k (← asInt o) (← asInt (.int ky y))
                    store a n .atomic
                    pure (if true then n else o)) w = _
                  simp only [Sem.run_bind, asAddr, Sem.run_pure, Result.andThen_ok, hrd (m := .atomic) hdd, Op.intArith, asInt, asIntOf, c2, if_true]
                · cases h
            · rename_i kx x vv
              cases hrest with
              | @cons ax x' _ _ hx hrest2 =>
                cases hrest2 with
                | @cons ay y' _ _ hy hnil =>
                  cases hnil
                  cases hx
                  split at h
                  · rename_i τ hw
                    obtain ⟨_, _, o, o', ho, _, hτ⟩ := writeN_ok hw
                    split at h
                    · rename_i hox
                      simp only [OR.val.injEq] at h
                      obtain ⟨rfl, rfl⟩ := h
                      have hdd := hdW _ _ hw hk
                      obtain ⟨w', c1, c2, c3⟩ := hwrite _ _ _ hw hy hdd hk
                      refine ⟨w', .bool true, ?_, .bool _, c3⟩
                      have hsh := World.shape?_isSome_of_cell? (hread hdd)
                      change (Sem.run P (do
                        let a' ← asAddr (.pointer (some ⟨ex.blk, q, none⟩))
                        if ← Extern.Atomic.touchesFrozen a' then unsupported (.unsafePointer "a write to bytes that a string shares")
                        let eq ← match Extern.Atomic.T.int k, ← Extern.Atomic.read (.int k) a', Value.int kx x with
                          | _, .int _ x, .int _ y => pure (x == y)
                          | .ptr, .pointer x, .pointer y => samePointer x y
                          | .int _, .pointer (some _), .int _ 0 | .int _, .int _ 0, .pointer (some _) => pure false
                          | .int _, .pointer (some _), _ | .int _, _, .pointer (some _) => unsupported .addressObserved
                          | _, _, _ => stuck "atomic.CompareAndSwap: old is no T"
                        if eq then store a' y' .atomic
                        pure (Value.bool eq)) w) = _
                      simp only [Extern.Atomic.touchesFrozen, viewAt, run_shape, hsh, c1, Sem.run_bind, asAddr, Sem.run_pure, Result.andThen_ok, hrd (m := .atomic) hdd, hox, if_true, run_frozen, Bool.false_eq_true, if_false, beq_self_eq_true, c2]
                    · rename_i hox
                      simp only [OR.val.injEq] at h
                      obtain ⟨rfl, rfl⟩ := h
                      have hdd : D id := hk id (.inl (mem_addL.2 (.inl rfl))) hlt
                      have hkτ : Known D σ τ := by
                        intro i hii hn
                        rw [hτ] at hii
                        rcases hii with h1 | h1
                        · exact hk i (.inl (mem_addL.2 (.inr h1))) hn
                        · rcases mem_addL.1 h1 with rfl | h2
                          · exact hdd
                          · exact hk i (.inr h2) hn
                      obtain ⟨w', c1, c2, c3⟩ := hwrite _ _ _ hw hy hdd hkτ
                      refine ⟨w, .bool false, ?_, .bool _, .same hi rfl rfl rfl⟩
                      have hsh := World.shape?_isSome_of_cell? (hread hdd)
                      change (Sem.run P (do
                        let a' ← asAddr (.pointer (some ⟨ex.blk, q, none⟩))
                        if ← Extern.Atomic.touchesFrozen a' then unsupported (.unsafePointer "a write to bytes that a string shares")
                        let eq ← match Extern.Atomic.T.int k, ← Extern.Atomic.read (.int k) a', Value.int kx x with
                          | _, .int _ x, .int _ y => pure (x == y)
                          | .ptr, .pointer x, .pointer y => samePointer x y
                          | .int _, .pointer (some _), .int _ 0 | .int _, .int _ 0, .pointer (some _) => pure false
                          | .int _, .pointer (some _), _ | .int _, _, .pointer (some _) => unsupported .addressObserved
                          | _, _, _ => stuck "atomic.CompareAndSwap: old is no T"
                        if eq then store a' y' .atomic
                        pure (Value.bool eq)) w) = _
                      simp [Extern.Atomic.touchesFrozen, viewAt, hsh, c1, asAddr, hrd (m := .atomic) hdd, hox]
                  · cases h
            · cases hrest with
              | @cons ax x' _ _ hx hnil =>
                cases hnil
                split at h
                · rename_i τ hw
                  simp only [OR.val.injEq] at h
                  obtain ⟨rfl, rfl⟩ := h
                  have hdd := hdW _ _ hw hk
                  obtain ⟨w', _, c2, c3⟩ := hwrite _ _ _ hw hx hdd hk
                  refine ⟨w', .int k old, ?_, .int _ _, c3⟩
                  change Sem.run P (do
                    let a ← asAddr (.pointer (some ⟨ex.blk, q, none⟩))
                    let o ← Extern.Atomic.read (.int k) a
                    store a x' .atomic
                    pure o) w = _
                  simp only [Sem.run_bind, asAddr, Sem.run_pure, Result.andThen_ok, hrd (m := .atomic) hdd, c2]
                · cases h
            · cases h
    · cases h
  · cases h
omit [Val] in
theorem digits_size : ∀ (n t : Nat) (acc : Array Value), (Extern.BytealgMakeNoZero.digits n t acc).size = acc.size + n := by
  intro n
  induction n with
  | zero => intro t acc; rfl
  | succ n ih => intro t acc; simp only [Extern.BytealgMakeNoZero.digits, ih, Array.size_push]; omega
omit [Val] in
theorem digits_one : ∀ (n t : Nat) (acc : Array Value), (∀ v ∈ acc.toList, v.oneCell' = true) → ∀ v ∈ (Extern.BytealgMakeNoZero.digits n t acc).toList, v.oneCell' = true := by
  intro n
  induction n with
  | zero => intro t acc h; exact h
  | succ n ih =>
    intro t acc h
    refine ih _ _ ?_
    intro v hv
    simp only [Array.toList_push, List.mem_append, List.mem_singleton] at hv
    rcases hv with hv | rfl
    · exact h v hv
    · rfl
theorem makeNoZero_ok (hi : Inv R C D φ σ w) {ps rs : Array TypeId} {rt elem : TypeId} {n : Nat} (hrt : rs[0]? = some rt) (hu : P.underlying rt = some (.slice elem)) (hn : n ≤ 1099511627776)
    (hf : ∀ v, φ σ.next v = none) :
    ∃ φ' w' v', (Extern.BytealgMakeNoZero.makeNoZero ps rs #[.int .i64 (Int.ofNat n)]).run P w = .ok v' w' ∧ VR φ' (.slc σ.next 0 0 n none 1) v' ∧
      Post R D φ σ w (σ.mk' (.arr (List.replicate n .unk) 0 n 1 1 elem)) φ' w' := by
  have hcap : n ≤ (Question.appendCap n 0 elem).cut (w.tape w.drawn (.appendCap n 0 elem)) := by simp [Question.cut]
  have hch : (choose (.appendCap n 0 elem)).run P w = .ok ((Question.appendCap n 0 elem).cut (w.tape w.drawn (.appendCap n 0 elem))) w.drew := by
    simp [Question.forced]
  generalize (Question.appendCap n 0 elem).cut (w.tape w.drawn (.appendCap n 0 elem)) = c at hcap hch
  obtain ⟨bs, hbs⟩ : ∃ b, (choose (.extern "internal/bytealg.MakeNoZero.bytes" 0)).run P w.drew = .ok b w.drew.drew := ⟨_, by simp [Question.forced]; exact ⟨rfl, rfl⟩⟩
  obtain ⟨cs, hcs⟩ : ∃ cs, cs = Extern.BytealgMakeNoZero.digits c bs #[] := ⟨_, rfl⟩
  have hcsz : cs.size = c := by rw [hcs, digits_size]; simp
  have hone : ∀ v ∈ cs.toList, v.oneCell' = true := by rw [hcs]; exact digits_one _ _ _ (by simp)
  have hpost := new_arr hi.drew.drew (c := List.replicate n AV.unk) (cs := cs) (fl := 0) (fh := 0) elem hf (fun ψ _ => by
    refine VRL.of_get (by simp; omega) fun i v v' h1 h2 => ?_
    have hi' : i < n := by
      rcases Nat.lt_or_ge i n with h | h
      · exact h
      · rw [List.getElem?_eq_none (by simpa using h)] at h1; cases h1
    rw [List.getElem?_replicate_of_lt hi'] at h1
    simp only [Option.some.injEq] at h1; subst h1
    have hm : v' ∈ cs.toList := List.mem_of_mem_take (List.mem_of_getElem? h2)
    exact .unk v' (hone v' hm)) (by simp; omega) (.inl rfl)
  have heq : newArr elem (List.replicate n AV.unk) σ = σ.mk' (.arr (List.replicate n .unk) 0 n 1 1 elem) := by simp [newArr]
  rw [heq] at hpost
  refine ⟨_, _, .slice (some ⟨w.heap.size, 0, none⟩) n c, ?_, ?_, hpost.drew.drew⟩
  · have hnot : ¬ ((decide ((Int.ofNat n) < 0) || decide ((Int.ofNat n) > 2 ^ 48)) = true) := by
      simp only [Bool.or_eq_true, decide_eq_true_eq, not_or]
      have e2 : Int.ofNat n = (n : Int) := rfl
      have : (2 : Int) ^ 48 = 281474976710656 := by decide
      rw [e2]
      omega
    have hroom : ∀ w : World, (askRoom c).run P w = .ok () w := by
      intro w
      unfold askRoom
      split <;> rfl
    change Sem.run P (do
      let some t := rs[0]? | stuck "bytealg.MakeNoZero: no result type"
      let .slice elem ← underlying t | stuck "bytealg.MakeNoZero: slice type expected"
      if (Int.ofNat n) < 0 || (Int.ofNat n) > 2 ^ 48 then runtimePanic (.error "makeslice: len out of range")
      let cap ← choose (.appendCap (Int.ofNat n).toNat 0 elem)
      askRoom cap
      let bytes ← choose (.extern "internal/bytealg.MakeNoZero.bytes" 0)
      let a ← newRow elem (Extern.BytealgMakeNoZero.digits cap bytes #[])
      pure (Value.slice (some a) (Int.ofNat n).toNat cap)) w = _
    have htn : (Int.ofNat n).toNat = n := rfl
    simp only [hrt, Sem.run_bind, run_und hu, Result.andThen_ok, htn]
    rw [if_neg hnot]
    simp only [Sem.run_bind, Sem.run_pure, Result.andThen_ok, hch, hroom, hbs, ← hcs, newRow, run_newObj]
    rfl
  · refine .slc _ 0 c (PM.ins_same _ _ _ _) (Nat.le_refl _) (by simp) hcap (fun k hk => (by cases hk)) (.inr ⟨rfl, by simp only [hcsz]; omega⟩)
omit [Val] in
theorem three_run (nm : String) (x y c : Nat) (hc : ¬ (1 < c)) : (Extern.MathBitsCarry.three nm #[.int .u64 (Int.ofNat x), .int .u64 (Int.ofNat y), .int .u64 (Int.ofNat c)]).run P w = .ok (x, y, c) w := by
  change Sem.run P (do
    let c' := (← asInt (.int .u64 (Int.ofNat c))).toNat
    if c' > 1 then unsupported (.noEntry ("extern/math/bits." ++ nm ++ ": a carry that is neither 0 nor 1"))
    pure ((← asInt (.int .u64 (Int.ofNat x))).toNat, (← asInt (.int .u64 (Int.ofNat y))).toNat, c')) w = _
  have hc2 : (c : Int) ≤ 1 := by omega
  simp [asInt, asIntOf, hc2]
theorem externA_ok (hi : Inv R C D φ σ w) {f : FuncId} {fn : Func} {args : List AV} {args' : Array Value} (hf : P.funcs[f]? = some fn) (hb : fn.body = none) (ho : fn.origin = "")
    (ha : VRL φ args args'.toList) (hk : ∀ σ', (externA fn.name (slRes P fn) args σ).st = some σ' → Known D σ σ')
    (hfr : ∀ σ', (externA fn.name (slRes P fn) args σ).st = some σ' → Free φ σ σ') : OpOk P R D φ σ w (callFunc f args') (externA fn.name (slRes P fn) args σ) := by
  by_cases n1 : fn.name = "internal/bytealg.CountString"
  · have heq : ∀ x, x = externA fn.name (slRes P fn) args σ → x = (match (generalizing := false) args with
        | [.str s, .int .u8 c] => .val (.int .i64 (countA s c.toNat.toUInt8)) σ
        | [.vstr e, .int .u8 c] => .val (.sym .i64 (.pr 5 e (.lit c))) σ
        | _ => .no) := by intro x hx; rw [hx]; unfold externA; rw [if_pos n1]; try rfl
    rw [heq _ rfl]
    split
    · rename_i s c
      obtain ⟨s', c', e1, v1, v2⟩ := ha.two
      subst e1
      cases v1; cases v2
      exact .ext hf (by rw [n1]; decide) hb (findNext_count n1 ho) (find_count n1 ho) ⟨φ, w, _, rfl, .int _ _, .same hi rfl rfl rfl⟩
    · rename_i e c
      obtain ⟨s', c', e1, v1, v2⟩ := ha.two
      subst e1
      cases v2
      cases v1 with
      | vstr s hs =>
        refine .ext hf (by rw [n1]; decide) hb (findNext_count n1 ho) (find_count n1 ho) ⟨φ, w, .int .i64 (countA s c.toNat.toUInt8), rfl, ?_, .same hi rfl rfl rfl⟩
        have he : (Sx.pr 5 e (.lit c)).eval = countA s c.toNat.toUInt8 := by
          show countA e.dat.toS _ = _
          rw [hs]; rfl
        rw [← he]; exact .sym _ _
    · trivial
  by_cases n2 : fn.name = "internal/bytealg.IndexByteString"
  · have heq : ∀ x, x = externA fn.name (slRes P fn) args σ → x = (match (generalizing := false) args with
        | [.str s, .int .u8 c] => match findByteA s c.toNat.toUInt8 with
          | some i => .val (goI i) σ
          | none => .val (.int .i64 (-1)) σ
        | _ => .no) := by intro x hx; rw [hx]; unfold externA; rw [if_neg n1, if_pos n2]; try rfl
    rw [heq _ rfl]
    split
    · rename_i s c
      obtain ⟨s', c', e1, v1, v2⟩ := ha.two
      subst e1
      cases v1; cases v2
      split
      · rename_i i hfi
        refine .ext hf (by rw [n2]; decide) hb (findNext_index n2 ho) (find_index n2 ho) ⟨φ, w, goInt i, ?_, .int _ _, .same hi rfl rfl rfl⟩
        show Sem.run P (match findByteA s c.toNat.toUInt8 with | some i => pure (goInt i) | none => pure (goInt (-1))) w = _
        rw [hfi]; rfl
      · rename_i hfi
        refine .ext hf (by rw [n2]; decide) hb (findNext_index n2 ho) (find_index n2 ho) ⟨φ, w, goInt (-1), ?_, .int _ _, .same hi rfl rfl rfl⟩
        show Sem.run P (match findByteA s c.toNat.toUInt8 with | some i => pure (goInt i) | none => pure (goInt (-1))) w = _
        rw [hfi]; rfl
    · trivial
  by_cases n3 : fn.name = "internal/abi.NoEscape"
  · have heq : ∀ x, x = externA fn.name (slRes P fn) args σ → x = (match (generalizing := false) args with
        | [x] => .val x σ
        | _ => .no) := by intro x hx; rw [hx]; unfold externA; rw [if_neg n1, if_neg n2, if_pos n3]; try rfl
    rw [heq _ rfl]
    obtain ⟨f1, f2⟩ := find_row n3 ho
    split
    · obtain ⟨x', e1, v1⟩ := ha.one
      subst e1
      exact .ext hf (by rw [n3]; decide) hb f1 f2 ⟨φ, w, x', rfl, v1, .same hi rfl rfl rfl⟩
    · trivial
  by_cases n4 : fn.name = "internal/bytealg.MakeNoZero"
  · have heq : ∀ x, x = externA fn.name (slRes P fn) args σ → x = (match (generalizing := false) args with
        | [.int .i64 (.ofNat n)] => match slRes P fn with
          | some e => bif Nat.ble n 1099511627776 then .val (.slc σ.next 0 0 n none 1) (σ.mk' (.arr (List.replicate n .unk) 0 n 1 1 e)) else .no
          | none => .no
        | _ => .no) := by intro x hx; rw [hx]; unfold externA; rw [if_neg n1, if_neg n2, if_neg n3, if_pos n4]; try rfl
    rw [heq _ rfl] at hfr ⊢
    obtain ⟨f1, f2⟩ := find_row n4 ho
    split
    · rename_i n
      cases hn2 : slRes P fn with
      | none => trivial
      | some el =>
        rw [hn2] at hfr
        simp only [cond_eq_ite] at hfr ⊢
        split
        · rename_i hn
          have hfree : Free φ σ (σ.mk' (.arr (List.replicate n .unk) 0 n 1 1 el)) := hfr _ (by rw [if_pos hn]; rfl)
          have hn1 := ble_t hn
          obtain ⟨x', e1, v1⟩ := ha.one
          subst e1
          cases v1
          unfold slRes at hn2
          split at hn2
          · rename_i rt hrt
            split at hn2
            · rename_i elem hu
              simp only [Option.some.injEq] at hn2
              subst hn2
              exact .ext hf (by rw [n4]; decide) hb f1 f2 (makeNoZero_ok hi hrt hu hn1 hfree.at)
            · cases hn2
          · cases hn2
        · trivial
    · trivial
  by_cases n5 : fn.name = "internal/race.Disable" ∨ fn.name = "internal/race.Enable"
  · have heq : ∀ x, x = externA fn.name (slRes P fn) args σ → x = .val unit σ := by intro x hx; rw [hx]; unfold externA; rw [if_neg n1, if_neg n2, if_neg n3, if_neg n4, if_pos n5]; try rfl
    rw [heq _ rfl]
    rcases n5 with hname | hname
    · obtain ⟨f1, f2⟩ := find_row hname ho
      exact .ext hf (by rw [hname]; decide) hb f1 f2 ⟨φ, w, .tuple #[], rfl, .tup _ .nil, .same hi rfl rfl rfl⟩
    · obtain ⟨f1, f2⟩ := find_row hname ho
      exact .ext hf (by rw [hname]; decide) hb f1 f2 ⟨φ, w, .tuple #[], rfl, .tup _ .nil, .same hi rfl rfl rfl⟩
  by_cases n6 : fn.name = "internal/race.Acquire" ∨ fn.name = "internal/race.Release" ∨ fn.name = "internal/race.ReleaseMerge" ∨ fn.name = "internal/race.Read" ∨ fn.name = "internal/race.Write"
  · have heq : ∀ x, x = externA fn.name (slRes P fn) args σ → x = (match (generalizing := false) args with
        | .ptr .. :: _ => .val unit σ
        | _ => .no) := by intro x hx; rw [hx]; unfold externA; rw [if_neg n1, if_neg n2, if_neg n3, if_neg n4, if_neg n5, if_pos n6]; try rfl
    rw [heq _ rfl]
    split
    · obtain ⟨l, rfl⟩ : ∃ l : List Value, args' = l.toArray := ⟨args'.toList, by simp⟩
      have ha' : ∃ a rest, l = .pointer (some a) :: rest := by
        cases ha with
        | cons hp hrest => cases hp; exact ⟨_, _, rfl⟩
      obtain ⟨a, rest, rfl⟩ := ha'
      have hm : ∀ m : Addr → Mark, (Extern.Race.marked m (Value.pointer (some a) :: rest).toArray).run P w = .ok (.tuple #[]) w := by
        intro m
        simp [Extern.Race.marked, Extern.Race.at_, Extern.Race.none_]
      rcases n6 with hname | hname | hname | hname | hname <;>
        (obtain ⟨f1, f2⟩ := find_row hname ho
         exact .ext hf (by rw [hname]; decide) hb f1 f2 ⟨φ, w, .tuple #[], hm _, .tup _ .nil, .same hi rfl rfl rfl⟩)
    · trivial
  by_cases n7 : fn.name = "math/bits.Add64"
  · have heq : ∀ x, x = externA fn.name (slRes P fn) args σ → x = (match (generalizing := false) args with
        | [.int .u64 (.ofNat x), .int .u64 (.ofNat y), .int .u64 (.ofNat c)] => bif Nat.ble c 1 then .val (.tup [.int .u64 (Int.ofNat ((x + y + c) % 18446744073709551616)), .int .u64 (Int.ofNat ((x + y + c) / 18446744073709551616))]) σ else .no
        | _ => .no) := by intro x hx; rw [hx]; unfold externA; rw [if_neg n1, if_neg n2, if_neg n3, if_neg n4, if_neg n5, if_neg n6, if_pos n7]; try rfl
    rw [heq _ rfl]
    obtain ⟨f1, f2⟩ := find_row n7 ho
    split
    · rename_i x y c
      rw [cond_eq_ite]
      split
      · rename_i hc
        have hc := ble_t hc
        obtain ⟨l, rfl⟩ : ∃ l : List Value, args' = l.toArray := ⟨args'.toList, by simp⟩
        have hl : l = [.int .u64 (Int.ofNat x), .int .u64 (Int.ofNat y), .int .u64 (Int.ofNat c)] := by
          cases ha with
          | cons h1 h2 => cases h2 with
            | cons h3 h4 => cases h4 with
              | cons h5 h6 => cases h6; cases h1; cases h3; cases h5; rfl
        subst hl
        have hc1 : ¬ (1 < c) := by omega
        exact .ext hf (by rw [n7]; decide) hb f1 f2 ⟨φ, w, .tuple #[.int .u64 (Int.ofNat ((x + y + c) % 18446744073709551616)), .int .u64 (Int.ofNat ((x + y + c) / 18446744073709551616))],
          by
            show (Extern.MathBitsCarry.three "Add64" #[.int .u64 (Int.ofNat x), .int .u64 (Int.ofNat y), .int .u64 (Int.ofNat c)] >>= fun p => pure (Extern.MathBitsCarry.pair ((p.1 + p.2.1 + p.2.2) % Extern.MathBitsCarry.m64) ((p.1 + p.2.1 + p.2.2) / Extern.MathBitsCarry.m64))).run P w = _
            rw [Sem.run_bind, three_run _ _ _ _ hc1]
            rfl, .tup _ (.cons (.int _ _) (.cons (.int _ _) .nil)), .same hi rfl rfl rfl⟩
      · trivial
    · trivial
  by_cases n8 : fn.name = "math/bits.Sub64"
  · have heq : ∀ x, x = externA fn.name (slRes P fn) args σ → x = (match (generalizing := false) args with
        | [.int .u64 (.ofNat x), .int .u64 (.ofNat y), .int .u64 (.ofNat c)] => bif Nat.ble c 1 then .val (.tup [.int .u64 (Int.ofNat ((x + 18446744073709551616 - y - c) % 18446744073709551616)), .int .u64 (bif Nat.blt x (y + c) then 1 else 0)]) σ else .no
        | _ => .no) := by intro x hx; rw [hx]; unfold externA; rw [if_neg n1, if_neg n2, if_neg n3, if_neg n4, if_neg n5, if_neg n6, if_neg n7, if_pos n8]; try rfl
    rw [heq _ rfl]
    obtain ⟨f1, f2⟩ := find_row n8 ho
    split
    · rename_i x y c
      rw [cond_eq_ite]
      split
      · rename_i hc
        have hc := ble_t hc
        obtain ⟨l, rfl⟩ : ∃ l : List Value, args' = l.toArray := ⟨args'.toList, by simp⟩
        have hl : l = [.int .u64 (Int.ofNat x), .int .u64 (Int.ofNat y), .int .u64 (Int.ofNat c)] := by
          cases ha with
          | cons h1 h2 => cases h2 with
            | cons h3 h4 => cases h4 with
              | cons h5 h6 => cases h6; cases h1; cases h3; cases h5; rfl
        subst hl
        have hc1 : ¬ (1 < c) := by omega
        have hb2 : (bif Nat.blt x (y + c) then (1 : Int) else 0) = Int.ofNat (if x < y + c then 1 else 0) := by
          by_cases h : x < y + c
          · have : Nat.blt x (y + c) = true := Nat.ble_eq_true_of_le h
            rw [this, if_pos h]; rfl
          · have : Nat.blt x (y + c) = false := by
              cases hx : Nat.blt x (y + c) with
              | true => exact absurd (blt_t hx) h
              | false => rfl
            rw [this, if_neg h]; rfl
        rw [hb2]
        exact .ext hf (by rw [n8]; decide) hb f1 f2 ⟨φ, w, .tuple #[.int .u64 (Int.ofNat ((x + 18446744073709551616 - y - c) % 18446744073709551616)), .int .u64 (Int.ofNat (if x < y + c then 1 else 0))],
          by
            show (Extern.MathBitsCarry.three "Sub64" #[.int .u64 (Int.ofNat x), .int .u64 (Int.ofNat y), .int .u64 (Int.ofNat c)] >>= fun p => pure (Extern.MathBitsCarry.pair ((p.1 + Extern.MathBitsCarry.m64 - p.2.1 - p.2.2) % Extern.MathBitsCarry.m64) (if p.1 < p.2.1 + p.2.2 then 1 else 0))).run P w = _
            rw [Sem.run_bind, three_run _ _ _ _ hc1]
            rfl, .tup _ (.cons (.int _ _) (.cons (.int _ _) .nil)), .same hi rfl rfl rfl⟩
      · trivial
    · trivial
  have heq : ∀ x, x = externA fn.name (slRes P fn) args σ → x = (match (generalizing := false) atomics.find? (·.1 == fn.name) with
      | some (_, what, k) => atomicA what k args σ
      | none => .no) := by intro x hx; rw [hx]; unfold externA; rw [if_neg n1, if_neg n2, if_neg n3, if_neg n4, if_neg n5, if_neg n6, if_neg n7, if_neg n8]; try rfl
  rw [heq _ rfl] at hk ⊢
  cases hfind : atomics.find? (·.1 == fn.name) with
  | none => trivial
  | some p =>
    obtain ⟨nm, what, k⟩ := p
    rw [hfind] at hk
    dsimp only at hk ⊢
    have hmem := List.mem_of_find?_eq_some hfind
    have hnm : fn.name = nm := by
      have h0 := List.find?_some hfind
      have h1 : nm = fn.name := by simpa using h0
      exact h1.symm
    cases hat : atomicA what k args σ with
    | val v σ' =>
      have hkn : Known D σ σ' := hk σ' (by rw [hat]; rfl)
      obtain ⟨w', v', g1, g2, g3⟩ := atomicA_ok (P := P) hi hat ha hkn
      obtain ⟨f1, f2⟩ := find_row hnm ho
      simp only [atomics, List.mem_cons, Prod.mk.injEq, List.not_mem_nil, or_false] at hmem
      rcases hmem with ⟨rfl, rfl, rfl⟩ | ⟨rfl, rfl, rfl⟩ | ⟨rfl, rfl, rfl⟩ | ⟨rfl, rfl, rfl⟩ | ⟨rfl, rfl, rfl⟩ | ⟨rfl, rfl, rfl⟩ | ⟨rfl, rfl, rfl⟩ | ⟨rfl, rfl, rfl⟩ | ⟨rfl, rfl, rfl⟩ | ⟨rfl, rfl, rfl⟩ | ⟨rfl, rfl, rfl⟩ | ⟨rfl, rfl, rfl⟩ |
          ⟨rfl, rfl, rfl⟩ | ⟨rfl, rfl, rfl⟩ | ⟨rfl, rfl, rfl⟩ | ⟨rfl, rfl, rfl⟩ | ⟨rfl, rfl, rfl⟩ | ⟨rfl, rfl, rfl⟩ | ⟨rfl, rfl, rfl⟩ | ⟨rfl, rfl, rfl⟩ <;>
        exact .ext hf (by rw [hnm]; decide) hb f1 f2 ⟨φ, w', v', g1, g2, g3⟩
    | no => trivial
    | _ =>
      exfalso
      unfold atomicA at hat
      repeat' split at hat
      all_goals cases hat
theorem callFA_ok (hi : Inv R C D φ σ w) {f : FuncId} {args : List AV} {args' : Array Value} (ha : VRL φ args args'.toList) (hk : ∀ σ', (callFA P f args σ).st = some σ' → Known D σ σ')
    (hfr : ∀ σ', (callFA P f args σ).st = some σ' → Free φ σ σ') : OpOk P R D φ σ w (callFunc f args') (callFA P f args σ) := by
  unfold callFA at hk hfr ⊢
  cases hf : P.funcs[f]? with
  | none => trivial
  | some fn =>
    rw [hf] at hk hfr
    dsimp only at hk hfr ⊢
    cases hb : fn.body with
    | some c =>
      dsimp only
      split
      · trivial
      · rename_i hn
        refine ⟨φ, w, args', ?_, ha, .same hi rfl rfl rfl⟩
        show (callFunc f args').run P w = _
        simp [callFunc, hf, hn, hb]
    | none =>
      rw [hb] at hk hfr
      dsimp only at hk hfr ⊢
      split
      · rename_i ho
        rw [if_pos ho] at hk hfr
        exact externA_ok hi hf hb ho ha hk hfr
      · trivial
end
end Go.Tw
namespace Go.Tw
section
variable [Val]
variable {P : Program} {R : Nat} {C : Cfg} {D : Nat → Prop} {φ : PM} {σ : St} {w : World}
theorem methodA_ok (hi : Inv R C D φ σ w) {t : TypeId} {v r : AV} {v' : Value} {name : String} {f : FuncId} {σ' : St} (h : methodA P t v name σ = some (f, r, σ')) (hv : VR φ v v') (hk : Known D σ σ') (n : Nat) :
    ∃ r', (method (n + 1) t v' name).run P w = .ok (f, r') w ∧ VR φ r r' ∧ Post R D φ σ w σ' φ w ∧ σ'.heap = σ.heap ∧ σ'.next = σ.next ∧ σ'.wr = σ.wr := by
  unfold methodA at h
  split at h
  · rename_i i hi'
    split at h
    · rename_i m hm
      split at h
      · rename_i f' hp hfn
        have hp' : m.path = #[] := by apply Array.ext'; simpa using hp
        split at h
        · rename_i e hu
          simp only [Option.some.injEq, Prod.mk.injEq] at h; obtain ⟨rfl, rfl, rfl⟩ := h
          refine ⟨v', ?_, hv, .same hi rfl rfl rfl, rfl, rfl, rfl⟩
          simp [method, run_info hi', hm, hp', follow, hfn, receiverAt, run_und hu, Place.get]
        · cases h
      · rename_i f' hp hfn
        have hp' : m.path = #[] := by apply Array.ext'; simpa using hp
        split at h
        · rename_i e hu
          split at h
          · rename_i x τ hl
            simp only [Option.some.injEq, Prod.mk.injEq] at h; obtain ⟨rfl, rfl, rfl⟩ := h
            obtain ⟨x', r1, r2, r3⟩ := loadA_ok (P := P) hi hl hv hk
            have hs : τ.heap = σ.heap ∧ τ.next = σ.next ∧ τ.wr = σ.wr := by
              unfold loadA at hl
              repeat' split at hl
              all_goals (first | (cases hl; done) | (simp only [Option.some.injEq, Prod.mk.injEq] at hl; obtain ⟨_, rfl⟩ := hl; exact ⟨rfl, rfl, rfl⟩))
            have hptr : ∃ a, v' = .pointer (some a) := by
              unfold loadA at hl
              split at hl
              · cases hv; exact ⟨_, rfl⟩
              · cases hl
            obtain ⟨a, rfl⟩ := hptr
            refine ⟨x', ?_, r2, r3, hs⟩
            have r1' : (loadVar e a).run P w = .ok x' w := by simpa [Instr.loadAt, Instr.sureAddr] using r1
            have hwr : ∀ s m, Builtin.ssaWrapNilChk_ #[t] t #[.pointer (some a), .string s, .string m] = pure (.pointer (some a)) := fun _ _ => rfl
            simp [method, run_info hi', hm, hp', follow, hfn, receiverAt, run_und hu, Place.get, strVal, hwr, asAddr, r1']
          · cases h
        · rename_i d hn hu
          simp only [Option.some.injEq, Prod.mk.injEq] at h; obtain ⟨rfl, rfl, rfl⟩ := h
          refine ⟨v', ?_, hv, .same hi rfl rfl rfl, rfl, rfl, rfl⟩
          cases d <;> first
            | (simp [method, run_info hi', hm, hp', follow, hfn, receiverAt, run_und hu, Place.get]; done)
            | (exfalso; exact hn _ rfl)
        · cases h
      · cases h
    · cases h
  · cases h
theorem OpOk.from {τ : St} {s : Sem Next} {r : OR} (h : OpOk P R D φ τ w s r) (h2 : τ.next = σ.next) (hw : τ.wr = σ.wr) : OpOk P R D φ σ w s r := by
  cases r with
  | val v σ' => obtain ⟨φ', w', n, v', h1, h3, h4, h5⟩ := h; exact ⟨φ', w', n, v', h1, h3, h4, h5.from h2 hw⟩
  | pan v σ' => obtain ⟨φ', w', v', h1, h3, h4⟩ := h; exact ⟨φ', w', v', h1, h3, h4.from h2 hw⟩
  | call f l σ' => obtain ⟨φ', w', l', h1, h3, h4⟩ := h; exact ⟨φ', w', l', h1, h3, h4.from h2 hw⟩
  | dfr d σ' => obtain ⟨φ', w', d', h1, h3, h4⟩ := h; exact ⟨φ', w', d', h1, h3, h4.from h2 hw⟩
  | rcv σ' => exact ⟨h.1, h.2.from h2 hw⟩
  | no => trivial
theorem OpOk.congr {s s' : Sem Next} {r : OR} (h : OpOk P R D φ σ w s r) (he : s'.run P w = s.run P w) : OpOk P R D φ σ w s' r := by
  cases r with
  | val v σ' => simp only [OpOk] at h ⊢; rw [he]; exact h
  | pan v σ' => simp only [OpOk] at h ⊢; rw [he]; exact h
  | dfr d σ' => simp only [OpOk] at h ⊢; rw [he]; exact h
  | rcv σ' => simp only [OpOk] at h ⊢; rw [he]; exact h
  | no => trivial
  | call f l σ' =>
    obtain ⟨φ', w', l', h1, h3, h4⟩ := h
    refine ⟨φ', w', l', ?_, h3, h4⟩
    cases f with
    | fn f => exact he.trans h1
    | yld id => obtain ⟨e1, e, g1, g2⟩ := h1; exact ⟨e1, e, g1, he.trans g2⟩
omit [Val] in
theorem Known.frm {σ τ σ' : St} (h : Known D σ σ') (h2 : τ.next = σ.next) : Known D τ σ' := fun i hi hn => h i hi (by rw [← h2]; exact hn)
omit [Val] in
theorem Free.frm {σ τ σ' : St} (h : Free φ σ σ') (h2 : τ.next = σ.next) : Free φ τ σ' := fun i h1 h3 => h i (by rw [← h2]; exact h1) h3
theorem callMA_ok (hi : Inv R C D φ σ w) {recv : AV} {recv' : Value} {name : String} {args : List AV} {args' : Array Value} (hr : VR φ recv recv') (ha : VRL φ args args'.toList)
    (hk : ∀ σ', (callMA P recv name args σ).st = some σ' → Known D σ σ') (hfr : ∀ σ', (callMA P recv name args σ).st = some σ' → Free φ σ σ') :
    OpOk P R D φ σ w (callMethod recv' name args') (callMA P recv name args σ) := by
  unfold callMA at hk hfr ⊢
  split
  · rename_i t v
    cases hr with
    | iface _ hv =>
      rename_i v'
      split
      · rename_i f r τ hm
        dsimp only at hk hfr
        rw [hm] at hk hfr
        dsimp only at hk hfr
        have hfs := callFA_steps (P := P) (f := f) (args := r :: args) (StepA.refl τ)
        cases hst : (callFA P f (r :: args) τ).st with
        | none =>
          cases hcf : callFA P f (r :: args) τ <;> rw [hcf] at hst <;> first | trivial | cases hst
        | some σ' =>
          have hkn := hk σ' hst
          have hkτ : Known D σ τ := hkn.mono (hfs σ' hst)
          obtain ⟨r', q1, q2, q3, q4, q5, q6⟩ := methodA_ok (P := P) hi hm hv hkτ (P.types.size + 99)
          have := callFA_ok (P := P) (hi.same q4 q5 q6) (f := f) (args := r :: args) (args' := #[r'] ++ args') (by simpa using VRL.cons q2 ha)
            (fun σ' h => (hk σ' h).frm q5) (fun σ' h => (hfr σ' h).frm q5)
          refine (this.from (σ := σ) q5 q6).congr ?_
          have q1' : (method (P.types.size + Made.depth) t v' name).run P w = .ok (f, r') w := q1
          simp only [callMethod, Sem.run_bind, run_program, Result.andThen_ok, q1']
      · trivial
  · trivial
theorem VRL.arr {l : List AV} {l' : List Value} (h : VRL φ l l') : VRL φ l l'.toArray.toList := by simpa using h
omit [Val] in
theorem run_dv {fv : Value} {f : Fn} {a' b' args' : Array Value} (w : World) (hfv : fv = .func f a' b') :
    (do let d ← Deferred.ofValue fv args'; invoke d.target d.args : Sem Next).run P w = (invoke (.fn f b') (a' ++ args')).run P w := by
  subst hfv
  rfl
theorem callVA_ok (hi : Inv R C D φ σ w) {f : AV} {f' : Value} {args : List AV} {args' : Array Value} (hf : VR φ f f') (ha : VRL φ args args'.toList)
    (hk : ∀ σ', (callVA P f args σ).st = some σ' → Known D σ σ') (hfr : ∀ σ', (callVA P f args σ).st = some σ' → Free φ σ σ') :
    OpOk P R D φ σ w (do let d ← Deferred.ofValue f' args'; invoke d.target d.args) (callVA P f args σ) := by
  unfold callVA at hk hfr ⊢
  split
  · rename_i fi first captured
    cases hf with
    | fn _ a' b' h1 h2 =>
      have := callFA_ok (P := P) hi (f := fi) (args := first ++ args ++ captured) (args' := a' ++ args' ++ b') (by simpa using (h1.append ha).append h2) hk hfr
      exact this
  · rename_i id
    cases hf with
    | yld e he =>
      refine ⟨φ, w, args', ⟨rfl, e, he, ?_⟩, ha, .same hi rfl rfl rfl⟩
      rw [run_dv w rfl]
      simp [invoke]
  · rename_i name first captured
    cases hf with
    | fn _ a' b' h1 h2 =>
      split
      · rename_i recv rest hfr'
        have hall := h1.append ha
        rw [hfr'] at hall
        obtain ⟨l, hl⟩ : ∃ l, l = a'.toList ++ args'.toList := ⟨_, rfl⟩
        rw [← hl] at hall
        cases hall with
        | cons hv ht =>
          rename_i v' l'
          have harr : a' ++ args' = (v' :: l').toArray := by apply Array.ext'; simpa using hl.symm
          dsimp only at hk hfr
          rw [hfr'] at hk hfr
          dsimp only at hk hfr
          refine (callMA_ok (P := P) hi (name := name) (args' := l'.toArray) hv ht.arr hk hfr).congr ?_
          simp only [Deferred.ofValue, Sem.run_bind, Sem.run_pure, Result.andThen_ok, invoke]
          rw [harr]
          simp
      · trivial
  · rename_i t name first captured
    cases hf with
    | fn _ a' b' h1 h2 =>
      split
      · rename_i recv rest hfr'
        have hall := h1.append ha
        rw [hfr'] at hall
        obtain ⟨l, hl⟩ : ∃ l, l = a'.toList ++ args'.toList := ⟨_, rfl⟩
        rw [← hl] at hall
        cases hall with
        | cons hv ht =>
          rename_i v' l'
          have harr : a' ++ args' = (v' :: l').toArray := by apply Array.ext'; simpa using hl.symm
          dsimp only at hk hfr
          rw [hfr'] at hk hfr
          dsimp only at hk hfr
          split
          · rename_i ms hu
            rw [hu] at hk hfr
            dsimp only at hk hfr
            refine (callMA_ok (P := P) hi (name := name) (args' := l'.toArray) hv ht.arr hk hfr).congr ?_
            simp only [Deferred.ofValue, Sem.run_bind, Sem.run_pure, Result.andThen_ok, invoke]
            rw [harr]
            simp [run_und hu]
          · rename_i d hn hu
            rw [hu] at hk hfr
            have hk' : ∀ σ', (callMA P (.iface t recv) name rest σ).st = some σ' → Known D σ σ' := fun σ' hs => hk σ' (by
              cases d <;> first | exact hs | (exfalso; exact hn _ rfl))
            have hfr'' : ∀ σ', (callMA P (.iface t recv) name rest σ).st = some σ' → Free φ σ σ' := fun σ' hs => hfr σ' (by
              cases d <;> first | exact hs | (exfalso; exact hn _ rfl))
            refine (callMA_ok (P := P) hi (name := name) (args' := l'.toArray) (.iface t hv) ht.arr hk' hfr'').congr ?_
            simp only [Deferred.ofValue, Sem.run_bind, Sem.run_pure, Result.andThen_ok, invoke]
            rw [harr]
            cases d <;> first
              | (simp [run_und hu]; done)
              | (exfalso; exact hn _ rfl)
          · trivial
      · trivial
  · rename_i t path fi pointer first captured
    cases hf with
    | fn _ a' b' h1 h2 =>
      split
      · rename_i recv rest hfr'
        have hall := h1.append ha
        rw [hfr'] at hall
        obtain ⟨l, hl⟩ : ∃ l, l = a'.toList ++ args'.toList := ⟨_, rfl⟩
        rw [← hl] at hall
        cases hall with
        | cons hv ht =>
          rename_i v' l'
          have harr : a' ++ args' = (v' :: l').toArray := by apply Array.ext'; simpa using hl.symm
          dsimp only at hk hfr
          rw [hfr'] at hk hfr
          dsimp only at hk hfr
          have hgo : ∀ (r' : Value) (τ : St) (r : AV), (receiverVia t v' path pointer).run P w = .ok r' w → VR φ r r' → τ.heap = σ.heap → τ.next = σ.next → τ.wr = σ.wr →
              (∀ σ', (callFA P fi (r :: rest) τ).st = some σ' → Known D σ σ') → (∀ σ', (callFA P fi (r :: rest) τ).st = some σ' → Free φ σ σ') →
              OpOk P R D φ σ w (do let d ← Deferred.ofValue (.func (.via t path fi pointer) a' b') args'; invoke d.target d.args) (callFA P fi (r :: rest) τ) := by
            intro r' τ r hr hvr e1 e2 e3 k1 k2
            have := (callFA_ok (P := P) (hi.same e1 e2 e3) (f := fi) (args := r :: rest) (args' := #[r'] ++ l'.toArray) (by simpa using VRL.cons hvr ht)
              (fun σ' h => (k1 σ' h).frm e2) (fun σ' h => (k2 σ' h).frm e2)).from (σ := σ) e2 e3
            refine this.congr ?_
            simp only [Deferred.ofValue, Sem.run_bind, Sem.run_pure, Result.andThen_ok, invoke]
            rw [harr]
            simp [hr]
          split
          · rename_i e hp hu
            have hp' : path = #[] := by apply Array.ext'; simpa using hp
            subst hp'
            rw [hu] at hk hfr
            exact hgo v' σ recv (by simp [receiverVia, follow, receiverAt, run_und hu, Place.get]) hv rfl rfl rfl hk hfr
          · rename_i e hp hu
            have hp' : path = #[] := by apply Array.ext'; simpa using hp
            subst hp'
            rw [hu] at hk hfr
            dsimp only at hk hfr
            split
            · rename_i x τ hl2
              rw [hl2] at hk hfr
              dsimp only at hk hfr
              have hs : τ.heap = σ.heap ∧ τ.next = σ.next ∧ τ.wr = σ.wr := by
                unfold loadA at hl2
                repeat' split at hl2
                all_goals (first | (cases hl2; done) | (simp only [Option.some.injEq, Prod.mk.injEq] at hl2; obtain ⟨_, rfl⟩ := hl2; exact ⟨rfl, rfl, rfl⟩))
              cases hst : (callFA P fi (x :: rest) τ).st with
              | none =>
                cases hcf : callFA P fi (x :: rest) τ <;> rw [hcf] at hst <;> first | trivial | cases hst
              | some σ' =>
                have hkτ : Known D σ τ := (hk σ' hst).mono (callFA_steps (P := P) (StepA.refl τ) σ' hst)
                obtain ⟨x', r1, r2, r3⟩ := loadA_ok (P := P) hi hl2 hv hkτ
                have hptr : ∃ a, v' = .pointer (some a) := by
                  unfold loadA at hl2
                  split at hl2
                  · cases hv; exact ⟨_, rfl⟩
                  · cases hl2
                obtain ⟨a, rfl⟩ := hptr
                have r1' : (loadVar e a).run P w = .ok x' w := by simpa [Instr.loadAt, Instr.sureAddr] using r1
                exact hgo x' τ x (by simp [receiverVia, follow, receiverAt, run_und hu, Place.get, asAddr, r1']) r2 hs.1 hs.2.1 hs.2.2 hk hfr
            · trivial
          · rename_i d hn1 hp hu
            have hp' : path = #[] := by apply Array.ext'; simpa using hp
            subst hp'
            rw [hu] at hk hfr
            refine hgo v' σ recv ?_ hv rfl rfl rfl (fun σ' hs => hk σ' ?_) (fun σ' hs => hfr σ' ?_)
            · cases d <;> first
                | (simp [receiverVia, follow, receiverAt, run_und hu, Place.get]; done)
                | (exfalso; exact hn1 _ rfl)
            · cases d <;> first | exact hs | (exfalso; exact hn1 _ rfl)
            · cases d <;> first | exact hs | (exfalso; exact hn1 _ rfl)
          · trivial
      · trivial
  · trivial
end
end Go.Tw
namespace Go.Tw
section
variable [Val]
variable {P : Program} {R : Nat} {C : Cfg} {D : Nat → Prop} {φ : PM} {σ : St} {w : World}
omit [Val] in
theorem ofS_st {r : Option (AV × St)} {v : AV} {σ' : St} (h : r = some (v, σ')) : (OR.ofS r).st = some σ' := by subst h; rfl
omit [Val] in
theorem ofU_st {r : Option St} {σ' : St} (h : r = some σ') : (OR.ofU r).st = some σ' := by subst h; rfl
theorem ER.erase {es : List (AV × AV × Nat)} {es' : List MapEntry} (h : ER φ es es') : ∀ i, ER φ (es.eraseIdx i) (es'.eraseIdx i) := by
  induction h with
  | nil => intro i; cases i <;> exact .nil
  | cons h1 h2 ht ih =>
    intro i
    cases i with
    | zero => exact ht
    | succ i => exact .cons h1 h2 (ih i)
omit [Val] in
theorem run_loadBytes' {w : World} : ∀ (ns : List Int) (a : Addr) (acc : ByteArray), (∀ j n, ns[j]? = some n → w.cell? (a.add j) = some (.int .u8 n)) →
    (loadBytes a acc ns.length).run P w = .ok (ns.foldl (fun r n => r.push (UInt8.ofNat n.toNat)) acc) w
  | [], a, acc, _ => by simp [loadBytes]
  | x :: l, a, acc, h => by
    have h0 : w.cell? a = some (.int .u8 x) := by
      have := h 0 x rfl
      simpa [Addr.add] using this
    have ih := run_loadBytes' l (a.add 1) (acc.push (UInt8.ofNat x.toNat)) (fun j y hy => by
      have := h (j + 1) y (by simpa using hy)
      have e : (a.add 1).add j = a.add (j + 1) := by
        unfold Addr.add
        by_cases hj : j = 0
        · subst hj; simp
        · simp [hj]; omega
      rw [e]; exact this)
    have hx : x.toNat.toUInt8 = UInt8.ofNat x.toNat := rfl
    simp only [List.length_cons, loadBytes, Sem.run_bind, run_load, h0, Result.andThen, hx]
    rw [ih]
    rfl
omit [Val] in
theorem liesAt_off {e : TypeId} (hc : P.cellsOf e = 1) (count off n : Nat) (hn : off + n ≤ count) : liesAt P P.depth e count off e n = true := by
  have hd : P.depth = (2 * (P.types.size + Made.depth) + 1) + 1 := rfl
  rw [hd]
  simp only [liesAt, Bool.or_eq_true]
  left
  rw [hd]
  simp [rowAt, hc, hn, sameLayout, Nat.mod_one]
omit [Val] in
theorem view_alive {c cs : List AV} {base lim since nv et ver : Nat} (h : (Ob.arr c base lim since nv et).view ver = some cs) : aliveV base since nv ver := by
  simp only [Ob.view, cond_eq_ite, Bool.and_eq_true] at h
  split at h
  · rename_i hb
    exact .inl (beq_t hb)
  · split at h
    · rename_i hc
      exact .inr ⟨ble_t hc.1, blt_t hc.2⟩
    · cases h
theorem rep_row {id ver : Nat} {o : Ob} {c : List AV} {t : TypeId} {e : Ext} (hr : Rep R φ w id (some o)) (hv : o.view ver = some c) (ht : o.rowTy = some t) (he : φ id ver = some e) :
    R ≤ id ∧ ∃ cs fl fh, w.heap[e.blk]? = some (.cells cs t (fl, fh)) := by
  cases o with
  | box b bt =>
    simp only [Ob.rowTy, Option.some.injEq] at ht; subst ht
    obtain ⟨hR, e', cs, fl, fh, he', hb, _⟩ := hr
    have : ver = 0 := by
      simp only [Ob.view, cond_eq_ite] at hv
      split at hv
      · rename_i hb; exact beq_t hb
      · cases hv
    subst this
    rw [he] at he'; simp only [Option.some.injEq] at he'; subst he'
    exact ⟨hR, cs, fl, fh, hb⟩
  | arr b base lim since nv et =>
    simp only [Ob.rowTy, Option.some.injEq] at ht; subst ht
    obtain ⟨hR, g1, g2, g3, g4, g5, g6, g7⟩ := hr
    obtain ⟨e', cs, fl, fh, he', hb, _⟩ := g5 ver (view_alive hv)
    rw [he] at he'; simp only [Option.some.injEq] at he'; subst he'
    exact ⟨hR, cs, fl, fh, hb⟩
  | _ => simp [Ob.rowTy] at ht
theorem unsafeString_ok (hi : Inv R C D φ σ w) {ts : Array TypeId} {ty pt e : TypeId} {id ver off hi' n q : Nat} {o : Ob} {cs : List AV} {bs : List UInt8} {k : IntKind} {ex : Ext}
    (ht0 : ts[0]? = some pt) (hu : P.underlying pt = some (.pointer e)) (hs : szOf P e = some 1) (hr : readN σ id ver off (o.wide hi') n = some cs) (ho : σ.heap.get id = some o) (hty : o.rowTy = some e)
    (hn0 : 0 < n) (hn1 : n ≤ 1099511627776) (hbs : cs.mapM (fun | AV.int .u8 n => some (UInt8.ofNat n.toNat) | _ => none) = some bs)
    (he : φ id ver = some ex) (hd : ex.dn ≤ off) (hh : hi' ≤ ex.hi) (hoo : q + ex.dn = off + ex.up) (hkn : Known D σ (σ.put id .dead)) :
    ∃ φ' w' v', (Builtin.unsafeString_ ts ty #[.pointer (some ⟨ex.blk, q, none⟩), .int k (Int.ofNat n)]).run P w = .ok v' w' ∧ VR φ' (.str bs) v' ∧ Post R D φ σ w (σ.put id .dead) φ' w' := by
  have hlt := hi.lt ho
  have hdd : D id := hkn id (.inr (mem_addL.2 (.inl rfl))) hlt
  obtain ⟨ha, o', c', ho', hv, hcut⟩ := readN_ok hr
  rw [ho] at ho'; simp only [Option.some.injEq] at ho'; subst ho'
  have hrep := hi.at ho hdd
  have hh : o.wide hi' ≤ ex.hi := by
    cases o with
    | box c t =>
      have h0 : ver = 0 := by
        simp only [Ob.view, cond_eq_ite] at hv
        split at hv
        · rename_i hb; exact beq_t hb
        · cases hv
      subst h0
      obtain ⟨_, e', _, _, _, he', _, _, _, k3, _⟩ := hrep
      rw [he] at he'; simp only [Option.some.injEq] at he'; subst he'
      exact Nat.le_of_eq k3.symm
    | _ => exact hh
  obtain ⟨rs, t, fr, hb, hall⟩ := view_rep hrep hv he
  obtain ⟨hn, hl⟩ := hall off n cs q hd (by omega) hcut hoo
  have hqn := hn.resolve_left (by omega)
  obtain ⟨hR, rs', fl, fh, hb'⟩ := rep_row hrep hv hty he
  rw [hb] at hb'; simp only [Option.some.injEq, Obj.cells.injEq] at hb'
  obtain ⟨rfl, rfl, rfl⟩ := hb'
  obtain ⟨ns, e1, e2⟩ := mapM_u8 hl hbs
  have hlen : ns.length = n := by
    have := congrArg List.length e1
    simp at this; omega
  obtain ⟨i, hin, hce⟩ := szOf_cells hs
  obtain ⟨gl, gh, hfz, _⟩ := freeze_row hb q n (by omega)
  have hlb := run_loadBytes' (P := P) (w := w) ns ⟨ex.blk, q, none⟩ .empty (fun j m hj => by
    rw [add_off, cell_row hb]
    have hjl : j < ns.length := by
      rcases Nat.lt_or_ge j ns.length with h | h
      · exact h
      · rw [List.getElem?_eq_none h] at hj; cases hj
    have h1 : ((rs.toList.drop q).take n)[j]? = some (.int .u8 m) := by rw [e1]; simp [hj]
    rw [List.getElem?_take_of_lt (by omega), List.getElem?_drop] at h1
    simpa using h1)
  rw [hlen, foldl_push] at hlb
  have hlies := liesAt_off (P := P) hce (rs.size / P.cellsOf t) q n (by rw [hce]; simpa using hqn)
  have hsh : w.shape? ex.blk = some (t, rs.size) := by simp only [World.shape?, hb]
  refine ⟨φ, wset w ex.blk (.cells rs t (gl, gh)), .string ⟨⟨bs⟩⟩, ?_, .str _, .change hi hR hlt he trivial⟩
  have hmax : IntKind.i64.max = 9223372036854775807 := rfl
  change Sem.run P (do
    let n ← asInt (.int k (Int.ofNat n))
    let some pt := ts[0]? | stuck "unsafe.String: no argument types"
    if n < 0 then runtimePanic (.error "unsafe.String: len out of range")
    if n > IntKind.i64.max then unsupported (.unsafePointer "String: a length above the largest int")
    if n = 0 then pure (Value.string .empty)
    else if ← variablesAt ⟨ex.blk, q, none⟩ (← elemOf pt) n.toNat then do
      let s ← loadBytes ⟨ex.blk, q, none⟩ .empty n.toNat
      freeze ⟨ex.blk, q, none⟩ n.toNat
      pure (Value.string s)
    else unsupported (.unsafePointer "String: not so many bytes at ptr")) w = _
  have c1 : ¬ ((n : Int) < 0) := by omega
  have c2 : ¬ ((9223372036854775807 : Int) < (n : Int)) := by omega
  have c4 : n ≠ 0 := by omega
  simp [asInt, asIntOf, ht0, hmax, c1, c2, c4, variablesAt, hsh, elemOf, run_und hu, hlies, hlb, hfz, e2]
theorem minL_fold {k : IntKind} : ∀ {l : List AV} {l' : List Value} {x : Int} {v : AV}, minL k x l = some v → VRL φ l l' → ∃ n, v = .int k n ∧ ∀ w, (l'.foldlM Builtin.min2 (Value.int k x)).run P w = .ok (.int k n) w := by
  intro l
  induction l with
  | nil =>
    intro l' x v h hl
    simp only [minL, Option.some.injEq] at h
    subst h
    cases hl
    exact ⟨x, rfl, fun w => by simp⟩
  | cons y l ih =>
    intro l' x v h hl
    cases hl with
    | cons hy ht =>
      cases y with
      | int k' y =>
        cases hy
        simp only [minL] at h
        obtain ⟨n, h1, h2⟩ := ih h ht
        exact ⟨n, h1, fun w => by simp [List.foldlM_cons, Builtin.min2, h2 w]⟩
      | _ => simp [minL] at h
theorem minL_ok {ts : Array TypeId} {ty : TypeId} {k : IntKind} {x : Int} {l : List AV} {args' : Array Value} {v : AV} (h : minL k x l = some v) (ha : VRL φ (.int k x :: l) args'.toList) (w : World) :
    ∃ v', (Builtin.min_ ts ty args').run P w = .ok v' w ∧ VR φ v v' := by
  generalize hl : args'.toList = l0 at ha
  cases ha with
  | cons hx ht =>
    cases hx
    obtain ⟨n, rfl, h2⟩ := minL_fold (P := P) h ht
    exact ⟨_, by simp [Builtin.min_, hl, h2 w], .int _ _⟩
theorem maxL_fold {k : IntKind} : ∀ {l : List AV} {l' : List Value} {x : Int} {v : AV}, maxL k x l = some v → VRL φ l l' → ∃ n, v = .int k n ∧ ∀ w, (l'.foldlM Builtin.max2 (Value.int k x)).run P w = .ok (.int k n) w := by
  intro l
  induction l with
  | nil =>
    intro l' x v h hl
    simp only [maxL, Option.some.injEq] at h
    subst h
    cases hl
    exact ⟨x, rfl, fun w => by simp⟩
  | cons y l ih =>
    intro l' x v h hl
    cases hl with
    | cons hy ht =>
      cases y with
      | int k' y =>
        cases hy
        simp only [maxL] at h
        obtain ⟨n, h1, h2⟩ := ih h ht
        exact ⟨n, h1, fun w => by simp [List.foldlM_cons, Builtin.max2, h2 w]⟩
      | _ => simp [maxL] at h
theorem maxL_ok {ts : Array TypeId} {ty : TypeId} {k : IntKind} {x : Int} {l : List AV} {args' : Array Value} {v : AV} (h : maxL k x l = some v) (ha : VRL φ (.int k x :: l) args'.toList) (w : World) :
    ∃ v', (Builtin.max_ ts ty args').run P w = .ok v' w ∧ VR φ v v' := by
  generalize hl : args'.toList = l0 at ha
  cases ha with
  | cons hx ht =>
    cases hx
    obtain ⟨n, rfl, h2⟩ := maxL_fold (P := P) h ht
    exact ⟨_, by simp [Builtin.max_, hl, h2 w], .int _ _⟩
theorem pickS_fold {dec : Bx → Option Bool} (hdec : ∀ b v, dec b = some v → b.eval = v) {k : IntKind} {mx : Bool} : ∀ {l : List AV} {l' : List Value} {x : Sx} {v : AV}, pickS dec mx k x l = some v → VRL φ l l' →
    ∃ e, v = .sym k e ∧ ∀ w, (l'.foldlM (if mx then Builtin.max2 else Builtin.min2) (Value.int k x.eval)).run P w = .ok (.int k e.eval) w := by
  intro l
  induction l with
  | nil =>
    intro l' x v h hl
    simp only [pickS, Option.some.injEq] at h
    subst h
    cases hl
    exact ⟨x, rfl, fun w => by simp⟩
  | cons y l ih =>
    intro l' x v h hl
    cases hl with
    | cons hy ht =>
      simp only [pickS] at h
      split at h
      · rename_i k' e he
        have hy := sxOf_ok he hy
        subst hy
        split at h
        · rename_i hk
          subst hk
          split at h
          · rename_i hd
            obtain ⟨n, h1, h2⟩ := ih h ht
            have hd := hdec _ _ hd
            refine ⟨n, h1, fun w => ?_⟩
            cases mx
            · simp only [cond_false, Bx.eval, compI, decide_eq_true_eq] at hd
              have h2 := h2 w
              simp only [Bool.false_eq_true, if_false] at h2
              simp [List.foldlM_cons, Builtin.min2, hd, h2]
            · simp only [cond_true, Bx.eval, compI, decide_eq_true_eq] at hd
              have h2 := h2 w
              simp only [if_true] at h2
              have hd : x.eval < e.eval := hd
              simp [List.foldlM_cons, Builtin.max2, hd, h2]
          · rename_i hd
            obtain ⟨n, h1, h2⟩ := ih h ht
            have hd := hdec _ _ hd
            refine ⟨n, h1, fun w => ?_⟩
            cases mx
            · simp only [cond_false, Bx.eval, compI, decide_eq_false_iff_not] at hd
              have h2 := h2 w
              simp only [Bool.false_eq_true, if_false] at h2
              simp [List.foldlM_cons, Builtin.min2, hd, h2]
            · simp only [cond_true, Bx.eval, compI, decide_eq_false_iff_not] at hd
              have h2 := h2 w
              simp only [if_true] at h2
              have hd : ¬ x.eval < e.eval := hd
              simp [List.foldlM_cons, Builtin.max2, hd, h2]
          · cases h
        · cases h
      · cases h
theorem pickS_min {dec : Bx → Option Bool} (hdec : ∀ b v, dec b = some v → b.eval = v) {ts : Array TypeId} {ty : TypeId} {k : IntKind} {x : Sx} {y : AV} {l : List AV} {args' : Array Value} {v : AV} (h : pickS dec false k x l = some v)
    (hy : sxOf y = some (k, x)) (ha : VRL φ (y :: l) args'.toList) (w : World) : ∃ v', (Builtin.min_ ts ty args').run P w = .ok v' w ∧ VR φ v v' := by
  generalize hl : args'.toList = l0 at ha
  cases ha with
  | cons hx ht =>
    have hx := sxOf_ok hy hx
    subst hx
    obtain ⟨n, rfl, h2⟩ := pickS_fold (P := P) hdec h ht
    have h2 := h2 w
    simp only [Bool.false_eq_true, if_false] at h2
    exact ⟨_, by simp [Builtin.min_, hl, h2], .sym _ _⟩
theorem pickS_max {dec : Bx → Option Bool} (hdec : ∀ b v, dec b = some v → b.eval = v) {ts : Array TypeId} {ty : TypeId} {k : IntKind} {x : Sx} {y : AV} {l : List AV} {args' : Array Value} {v : AV} (h : pickS dec true k x l = some v)
    (hy : sxOf y = some (k, x)) (ha : VRL φ (y :: l) args'.toList) (w : World) : ∃ v', (Builtin.max_ ts ty args').run P w = .ok v' w ∧ VR φ v v' := by
  generalize hl : args'.toList = l0 at ha
  cases ha with
  | cons hx ht =>
    have hx := sxOf_ok hy hx
    subst hx
    obtain ⟨n, rfl, h2⟩ := pickS_fold (P := P) hdec h ht
    have h2 := h2 w
    simp only [if_true] at h2
    exact ⟨_, by simp [Builtin.max_, hl, h2], .sym _ _⟩
theorem builtinA_ok (hi : Inv R C D φ σ w) {b : Builtin} {ts : Array TypeId} {ty : TypeId} {cs : Array Bool} {args : List AV} {args' : Array Value} (ha : VRL φ args args'.toList)
    (hk : ∀ σ', (builtinA P C.dec b ts.toList args σ).st = some σ' → Known D σ σ') (hf : ∀ σ', (builtinA P C.dec b ts.toList args σ).st = some σ' → Free φ σ σ') :
    OpOk P R D φ σ w (builtin b ts ty cs args') (builtinA P C.dec b ts.toList args σ) := by
  unfold builtinA at hk hf ⊢
  split
  · exact .ofS fun v σ' h => appendA_ok hi h rfl ha (hk σ' (ofS_st h)) (hf σ' (ofS_st h))
  · exact .ofS fun v σ' h => let ⟨w', v', h1, h2, h3⟩ := copyA_ok hi h rfl ha (hk σ' (ofS_st h)); ⟨φ, w', v', h1, h2, h3⟩
  · split
    · rename_i t tl x hts
      obtain ⟨x', rfl, hx⟩ := ha.one
      have ht0 : ts[0]? = some t := by rw [← Array.getElem?_toList, hts]; rfl
      refine .ofS fun v σ' h => ?_
      obtain ⟨v', h1, h2, h3⟩ := lenA_ok (P := P) (ty := ty) hi h hx (hk σ' (by simp only [hts]; exact ofS_st h)) ht0
      exact ⟨φ, w, v', h1, h2, h3⟩
    · trivial
  · split
    · rename_i t tl x hts
      obtain ⟨x', rfl, hx⟩ := ha.one
      have ht0 : ts[0]? = some t := by rw [← Array.getElem?_toList, hts]; rfl
      exact .ofP hi fun v h => capA_ok (ty := ty) h hx ht0 w
    · trivial
  · split
    · rw [cond_eq_ite]
      split
      · exact .ofP hi fun v h => pickS_min (ts := ts) (ty := ty) hi.dec h rfl ha w
      · exact .ofP hi fun v h => minL_ok (ts := ts) (ty := ty) h ha w
    · exact .ofP hi fun v h => pickS_min (ts := ts) (ty := ty) hi.dec h rfl ha w
    · trivial
  · split
    · rw [cond_eq_ite]
      split
      · exact .ofP hi fun v h => pickS_max (ts := ts) (ty := ty) hi.dec h rfl ha w
      · exact .ofP hi fun v h => maxL_ok (ts := ts) (ty := ty) h ha w
    · exact .ofP hi fun v h => pickS_max (ts := ts) (ty := ty) hi.dec h rfl ha w
    · trivial
  · exact ⟨rfl, .same hi rfl rfl rfl⟩
  · split
    · rename_i t tl id k hts
      obtain ⟨x', y', rfl, hx, hy⟩ := ha.two
      have ht0 : ts[0]? = some t := by rw [← Array.getElem?_toList, hts]; rfl
      split
      · rename_i kt et es clock hu ho
        simp only [cond_eq_ite]
        split
        · rename_i hfit
          cases hfi : findA k es 0 with
          | none => trivial
          | some r =>
            have hkn : Known D σ (σ.put id (.map (match r with | some (i, _) => es.eraseIdx i | none => es) clock)) := by
              have := hk (σ.put id (.map (match r with | some (i, _) => es.eraseIdx i | none => es) clock)) (by
                simp only [hts, hu, ho, hfit, cond_true, hfi]
                cases r with
                | none => rfl
                | some p => rfl)
              exact this
            have hlt := hi.lt ho
            have hdd : D id := hkn id (.inr (mem_addL.2 (.inl rfl))) hlt
            obtain ⟨hR, e, es', he, hb, her⟩ := hi.at ho hdd
            obtain ⟨d, hku, _, hd⟩ := keyFits_desc hfit
            cases hx with
            | map e2 he2 =>
              rw [he] at he2; simp only [Option.some.injEq] at he2; subst he2
              obtain ⟨h1, h2⟩ := findA_ok hy hd her hfi
              cases r with
              | none =>
                have g1 := h1 rfl
                refine .ofV ⟨φ, wset w e.blk (.map es' clock), .tuple #[], ?_, .tup _ .nil, ?_⟩
                · simp [Builtin.delete_, ht0, run_und hu, run_getObj hb, checkKey_ok hfit hy, Instr.findKey, run_und hku, g1, run_setObj hb]
                · exact .change hi hR hlt he ⟨hR, e, _, he, wset_same _ _ _ (heap_lt hb), her⟩
              | some p =>
                obtain ⟨i, v⟩ := p
                obtain ⟨v', g1, _⟩ := h2 i v rfl
                refine .ofV ⟨φ, wset w e.blk (.map (es'.eraseIdxIfInBounds i) clock), .tuple #[], ?_, .tup _ .nil, ?_⟩
                · simp [Builtin.delete_, ht0, run_und hu, run_getObj hb, checkKey_ok hfit hy, Instr.findKey, run_und hku, g1, run_setObj hb]
                · refine .change hi hR hlt he ⟨hR, e, _, he, wset_same _ _ _ (heap_lt hb), ?_⟩
                  have := her.erase i
                  simpa using this
        · trivial
      · trivial
    · trivial
  · split
    · rename_i t tl x hts
      obtain ⟨x', rfl, hx⟩ := ha.one
      have ht0 : ts[0]? = some t := by rw [← Array.getElem?_toList, hts]; rfl
      rw [hts] at hk
      dsimp only at hk
      cases hc : clearA P t x σ with
      | none => trivial
      | some σ' =>
        obtain ⟨w', r1, r2⟩ := clearA_ok (P := P) (ty := ty) hi hc hx ht0 (hk σ' (by rw [hc]; rfl))
        exact .ofV (σ' := σ') ⟨φ, w', .tuple #[], r1, .tup _ .nil, r2⟩
    · trivial
  · split
    · obtain ⟨x', rfl, hx⟩ := ha.one
      cases hx
      exact .ofV ⟨φ, w, _, rfl, .nilp, .same hi rfl rfl rfl⟩
    · rename_i id ver off len cap esz
      obtain ⟨x', rfl, hx⟩ := ha.one
      simp only [cond_eq_ite, Bool.and_eq_true]
      split
      · rename_i hb
        have hl0 := blt_t hb.1
        have he0 := blt_t hb.2
        cases hx with
        | slc ex o c he hd hh hl hc hoo =>
          have hc0 : c ≠ 0 := by omega
          obtain ⟨ho1, ho2⟩ := hoo.resolve_left hc0
          have hle : len * 1 ≤ len * esz := Nat.mul_le_mul_left _ he0
          exact .ofV ⟨φ, w, _, Lib.run_unsafeSliceData_row w _ _ _ _ _ hc0, .ptr ex o he hd (by omega) ho1, .same hi rfl rfl rfl⟩
      · trivial
    · trivial
  · split
    · obtain ⟨x', y', rfl, hx, hy⟩ := ha.two
      cases hx; cases hy
      cases hts : ts.toList with
      | nil => trivial
      | cons pt tl =>
        have ht0 : ts[0]? = some pt := by rw [← Array.getElem?_toList, hts]; rfl
        refine .ofV ⟨φ, w, .string .empty, ?_, .str [], .same hi rfl rfl rfl⟩
        rename_i k
        have hmax : IntKind.i64.max = 9223372036854775807 := rfl
        change Sem.run P (do
          let n ← asInt (.int k 0)
          let some pt := ts[0]? | stuck "unsafe.String: no argument types"
          if n < 0 then runtimePanic (.error "unsafe.String: len out of range")
          if n > IntKind.i64.max then unsupported (.unsafePointer "String: a length above the largest int")
          if n = 0 then pure (Value.string .empty)
          else runtimePanic (.error "unsafe.String: ptr is nil and len is not zero")) w = _
        simp [asInt, asIntOf, ht0, hmax]
    · rename_i id ver off hi' k n
      obtain ⟨x', y', rfl, hx, hy⟩ := ha.two
      cases hts : ts.toList with
      | nil => trivial
      | cons pt tl =>
        have ht0 : ts[0]? = some pt := by rw [← Array.getElem?_toList, hts]; rfl
        rw [hts] at hk
        dsimp only at hk ⊢
        split
        · rename_i e o hu ho
          split
          · rename_i cs et hr hs hty
            simp only [cond_eq_ite]
            split
            · rename_i hb
              simp only [Bool.and_eq_true] at hb
              have hee := beq_t hb.1.1
              have hn0 := blt_t hb.1.2
              have hn1 := ble_t hb.2
              subst hee
              split
              · rename_i bs hbs
                cases hx with
                | ptr ex q he hd hh hoo =>
                  cases hy
                  refine .ofV (unsafeString_ok hi ht0 hu hs hr ho hty hn0 hn1 hbs he hd hh hoo (hk _ ?_))
                  have hbb : (Nat.beq e e && Nat.blt 0 n && n.ble 1099511627776) = true := by rw [hb.1.1, hb.1.2, hb.2]; rfl
                  simp only [hu, hr, ho, hs, hty, hbs]
                  rw [hbb]
                  rfl
              · trivial
            · trivial
          · trivial
        · trivial
    · trivial
  · trivial
theorem nilCheck_run {ρ : Operand → Value} {o : Oper} {x : Operand} (ho : o.op = .nilCheck x) {v : AV} (hv : VR φ v (ρ x)) (h : nilOk v = true) : (execOp ρ o).run P w = .ok (.value (ρ x)) w := by
  unfold execOp
  simp only [ho]
  generalize ρ x = v' at hv
  cases hv <;> first
    | rfl
    | (simp [nilOk] at h; done)
    | skip
  rename_i f a' b' _ _ ha hb
  cases f <;> first
    | rfl
    | (simp [nilOk] at h; done)
set_option maxHeartbeats 2000000 in
theorem opB_ok (hi : Inv R C D φ σ w) {nt : Nat} {env : Env} {a : Act} {o : Oper} (he : EnvR φ nt env a)
    (hk : ∀ σ', (opB P C env σ o).st = some σ' → Known D σ σ') (hf : ∀ σ', (opB P C env σ o).st = some σ' → Free φ σ σ') :
    OpOk P R D φ σ w (execOp a.eval o) (opB P C env σ o) := by
  have hO : ∀ {x : Operand} {v : AV}, evalO C env x = some v → VR φ v (a.eval x) := fun h => evalO_ok he hi h
  simp only [opB_eq] at hk hf ⊢
  unfold opB0 at hk hf ⊢
  unfold execOp
  cases ho : o.op <;> simp only [ho] at hk hf ⊢
  case move x =>
    cases hx : evalO C env x with
    | none => trivial
    | some v => exact ⟨φ, w, _, _, rfl, .inl rfl, hO hx, .same hi rfl rfl rfl⟩
  case assign x =>
    cases hx : evalO C env x with
    | none => trivial
    | some v => exact ⟨φ, w, _, _, rfl, .inl rfl, hO hx, .same hi rfl rfl rfl⟩
  case pick c x y =>
    split
    · rename_i hc
      have hc' := hO hc
      cases hx : evalO C env x with
      | none => trivial
      | some v =>
        generalize a.eval c = cv at hc'
        cases hc'
        exact ⟨φ, w, .value (a.eval x), _, by simp [asBool], .inl rfl, hO hx, .same hi rfl rfl rfl⟩
    · rename_i hc
      have hc' := hO hc
      cases hx : evalO C env y with
      | none => trivial
      | some v =>
        generalize a.eval c = cv at hc'
        cases hc'
        exact ⟨φ, w, .value (a.eval y), _, by simp [asBool], .inl rfl, hO hx, .same hi rfl rfl rfl⟩
    · trivial
  case alloc t =>
    split
    · rename_i z hz
      have hfr : Free φ σ (σ.mk' (.box z.cells t)) := hf _ (by simp only [hz]; rfl)
      exact .ofV (alloc_ok hi hz hfr.at)
    · trivial
  case box t x =>
    split
    · rename_i v hv
      have hfr : Free φ σ (σ.mk' (.box v.cells t)) := hf _ (by simp only [hv]; rfl)
      exact .ofV (box_ok hi (hO hv) hfr.at)
    · trivial
  case build t ps =>
    split
    · rename_i l hl
      have hpr := evalParts_ok he hi hl
      refine .ofP hi fun v h => ?_
      obtain ⟨v', h1, h2⟩ := buildA_ok (ps' := ps.map fun (i, x) => (i, a.eval x)) (by simpa using hpr) h
      exact ⟨v', h1 w, h2⟩
    · trivial
  case buildSlice t n ps =>
    split
    · rename_i l hl
      have hpr := evalParts_ok he hi hl
      refine .ofS fun v σ' h => ?_
      have hfr : Free φ σ σ' := hf σ' (by simp only [hl]; exact ofS_st h)
      have hpr' : PR φ l (ps.map fun (i, x) => (i, a.eval x)).toList := by simpa using hpr
      exact buildSliceA_ok hi h hpr' hfr
    · trivial
  case load t x =>
    split
    · rename_i v hv
      refine .ofS fun u σ' h => ?_
      obtain ⟨v', h1, h2, h3⟩ := loadA_ok (P := P) hi h (hO hv) (hk σ' (by simp only [hv]; exact ofS_st h))
      exact ⟨φ, w, v', h1, h2, h3⟩
    · trivial
  case store t x y =>
    split
    · rename_i p v hp hv
      exact .ofU fun σ' h => storeA_ok (P := P) hi h (hO hp) (hO hv) (hk σ' (by simp only [hp, hv]; exact ofU_st h))
    · trivial
  case nilCheck x =>
    cases hv : evalO C env x with
    | none => trivial
    | some v =>
      simp only [cond_eq_ite]
      by_cases hok : nilOk v = true
      · rw [if_pos hok]
        have hrun := nilCheck_run (P := P) (w := w) ho (hO hv) hok
        simp only [execOp, ho] at hrun
        exact ⟨φ, w, _, _, hrun, .inl rfl, hO hv, .same hi rfl rfl rfl⟩
      · rw [if_neg hok]; trivial
  case binOp op t x y yt =>
    split
    · rename_i p q hp hq
      simp only [cond_eq_ite]
      split
      · rename_i hg
        refine .ofP hi fun v h => ?_
        obtain ⟨v', h1, h2⟩ := binA_ok (P := P) hi.dec h (hO hp) (hO hq)
        exact ⟨v', by simp [eqGuardA_ok hg (hO hp) (hO hq), h1], h2⟩
      · trivial
    · trivial
  case unOp op t x =>
    split
    · rename_i p hp
      refine .ofP hi fun v h => ?_
      obtain ⟨v', h1, h2⟩ := unA_ok (P := P) h (hO hp)
      exact ⟨v', h1 w, h2⟩
    · trivial
  case convert s d x =>
    split
    · rename_i p hp
      exact .ofS fun v σ' h => convA_ok hi h (hO hp) (hk σ' (by simp only [hp]; exact ofS_st h)) (hf σ' (by simp only [hp]; exact ofS_st h))
    · trivial
  case makeInterface t x =>
    split
    · trivial
    · rename_i v d hn hv hu
      refine .ofV ⟨φ, w, .iface t (a.eval x), ?_, .iface t (hO hv), .same hi rfl rfl rfl⟩
      simp only [Instr.makeInterface, Sem.run_bind, run_und hu, Result.andThen_ok]
      cases d <;> first
        | rfl
        | (exfalso; exact hn _ _ hv hu)
        | (exfalso; exact hn _ rfl)
    · trivial
  case makeFunc f p q =>
    split
    · rename_i l m hl hm
      have h1 := evalL_ok he hi hl
      have h2 := evalL_ok he hi hm
      exact .ofV ⟨φ, w, .func f (p.map a.eval) (q.map a.eval), rfl, .fn _ _ _ (by simpa using h1) (by simpa using h2), .same hi rfl rfl rfl⟩
    · trivial
  case makeMap t r =>
    cases r with
    | none =>
      have hfr : Free φ σ (σ.mk' (.map [] 0)) := hf _ rfl
      exact .ofV (makeMap_ok hi t hfr.at)
    | some x =>
      dsimp only at hf ⊢
      split
      · rename_i k n _ _ hx hu
        have hfr : Free φ σ (σ.mk' (.map [] 0)) := hf _ (by simp only [hx, hu]; rfl)
        have hvr := hO hx
        show OpOk P R D φ σ w (do pure (.value (← Instr.makeMap t (some (a.eval x))))) _
        generalize a.eval x = xv at hvr
        cases hvr
        exact .ofV (makeMapR_ok hi hu hfr.at)
      · trivial
  case makeSlice t x y =>
    split
    · rename_i l c hl hc
      exact .ofS fun v σ' h => makeSliceA_ok hi h (hO hl) (hO hc) (hf σ' (by simp only [hl, hc]; exact ofS_st h))
    · trivial
  case slice t x lo hi' mx =>
    split
    · rename_i x1 lo1 hi1 mx1 hx hlo hhi hmx
      refine .ofP hi fun v h => ?_
      exact sliceA_ok hi.wf hi.dec h (hO hx) (evalOpt_ok he hi hlo) (evalOpt_ok he hi hhi) (evalOpt_ok he hi hmx)
    · trivial
  case fieldAddr t x f =>
    split
    · rename_i p hp
      refine .ofP hi fun v h => ?_
      obtain ⟨v', h1, h2⟩ := fieldAddrA_ok (P := P) h (hO hp)
      exact ⟨v', h1 w, h2⟩
    · trivial
  case field t x f =>
    split
    · rename_i p hp
      refine .ofP hi fun v h => ?_
      obtain ⟨v', h1, h2⟩ := fieldA_ok (P := P) h (hO hp)
      exact ⟨v', h1 w, h2⟩
    · trivial
  case indexAddr t x i =>
    split
    · rename_i p q hp hq
      refine .ofP hi fun v h => ?_
      obtain ⟨v', h1, h2⟩ := indexAddrA_ok (P := P) h (hO hp) (hO hq)
      exact ⟨v', h1 w, h2⟩
    · trivial
  case index t x i =>
    split
    · rename_i p q hp hq
      refine .ofP hi fun v h => ?_
      obtain ⟨v', h1, h2⟩ := indexA_ok (P := P) hi.dec h (hO hp) (hO hq)
      exact ⟨v', h1 w, h2⟩
    · trivial
  case lookup t x k ok =>
    split
    · rename_i p q hp hq
      refine .ofS fun v σ' h => ?_
      obtain ⟨v', h1, h2, h3⟩ := lookupA_ok (P := P) hi h (hO hp) (hO hq) (hk σ' (by simp only [hp, hq]; exact ofS_st h))
      exact ⟨φ, w, v', h1, h2, h3⟩
    · trivial
  case mapUpdate t m k x =>
    split
    · rename_i p q r hp hq hr
      exact .ofU fun σ' h => updateA_ok (P := P) hi h (hO hp) (hO hq) (hO hr) (hk σ' (by simp only [hp, hq, hr]; exact ofU_st h))
    · trivial
  case insert t m k x =>
    split
    · rename_i p q r hp hq hr
      exact .ofU fun σ' h => updateA_ok (P := P) hi h (hO hp) (hO hq) (hO hr) (hk σ' (by simp only [hp, hq, hr]; exact ofU_st h))
    · trivial
  case range t x =>
    split
    · rename_i p hp
      exact .ofS fun v σ' h => rangeA_ok hi h (hO hp) (hk σ' (by simp only [hp]; exact ofS_st h)) (hf σ' (by simp only [hp]; exact ofS_st h))
    · trivial
  case next it s =>
    split
    · rename_i p hp
      refine .ofS fun v σ' h => ?_
      obtain ⟨w', v', h1, h2, h3⟩ := nextA_ok (P := P) (t := o.type) hi h (hO hp) (hk σ' (by simp only [hp]; exact ofS_st h))
      exact ⟨φ, w', v', h1, h2, h3⟩
    · trivial
  case entry it =>
    split
    · rename_i p hp
      refine .ofS fun v σ' h => ?_
      obtain ⟨v', h1, h2, h3⟩ := entryA_ok (P := P) hi h (hO hp) (hk σ' (by simp only [hp]; exact ofS_st h))
      exact ⟨φ, w, v', h1, h2, h3⟩
    · trivial
  case typeAssert x xt t ok =>
    split
    · rename_i p hp
      refine .ofP hi fun v h => ?_
      obtain ⟨v', h1, h2⟩ := assertA_ok (P := P) (xt := xt) h (hO hp)
      exact ⟨v', h1 w, h2⟩
    · trivial
  case extract x i =>
    split
    · rename_i p hp
      refine .ofP hi fun v h => ?_
      obtain ⟨v', h1, h2⟩ := extractA_ok (P := P) h (hO hp)
      exact ⟨v', h1 w, h2⟩
    · trivial
  case call c =>
    split
    · trivial
    · rename_i args hargs
      have hav := evalL_ok he hi hargs
      have hav' : VRL φ args (c.args.map a.eval).toList := by simpa using hav
      split
      · rename_i b hb
        refine (builtinA_ok (ty := o.type) (cs := c.args.map fun | .const _ => true | _ => false) hi hav' (fun σ' h => hk σ' (by simp only [hargs, hb]; exact h)) (fun σ' h => hf σ' (by simp only [hargs, hb]; exact h))).congr ?_
        simp [resolve, hb, invoke]
        rfl
      · rename_i r name hb
        split
        · rename_i recv hrecv
          refine (callMA_ok hi (hO hrecv) hav' (fun σ' h => hk σ' (by simp only [hargs, hb, hrecv]; exact h)) (fun σ' h => hf σ' (by simp only [hargs, hb, hrecv]; exact h))).congr ?_
          have e1 : (#[a.eval r] ++ Array.map a.eval c.args)[0]? = some (a.eval r) := by simp [Array.getElem?_append]
          have e2 : (Array.map a.eval c.args).extract 0 c.args.size = Array.map a.eval c.args := by apply Array.ext'; simp; exact List.take_of_length_le (by simp)
          simp [resolve, hb, invoke, e1, e2]
        · trivial
      · rename_i f hb
        split
        · rename_i fv hfv
          refine (callVA_ok hi (hO hfv) hav' (fun σ' h => hk σ' (by simp only [hargs, hb, hfv]; exact h)) (fun σ' h => hf σ' (by simp only [hargs, hb, hfv]; exact h))).congr ?_
          simp [resolve, hb]
        · trivial
  case panic x =>
    split
    · rename_i v hv
      unfold panicA
      split
      · rename_i t u
        have hvr := hO hv
        generalize a.eval x = xv at hvr
        cases hvr with
        | iface _ h2 =>
          exact ⟨φ, w, _, by simp [Instr.panic], .iface _ h2, .same hi rfl rfl rfl⟩
      · trivial
    · trivial
  case defer c =>
    split
    · rename_i f args hc hargs
      have hav := evalL_ok he hi hargs
      split
      · rename_i g first captured hfv
        have hvr := hO hfv
        obtain ⟨fv, hfe⟩ : ∃ fv, fv = a.eval f := ⟨_, rfl⟩
        rw [← hfe] at hvr
        cases hvr with
        | fn _ a' b' h1 h2 =>
          refine ⟨φ, w, { target := .fn (.func g) b', args := a' ++ c.args.map a.eval }, ?_, ⟨b', a' ++ c.args.map a.eval, rfl, ?_⟩, .same hi rfl rfl rfl⟩
          · simp [resolve, hc, ← hfe, Deferred.ofValue]
          · have h3 : VRL φ args (c.args.map a.eval).toList := by simpa using hav
            have := (h1.append h3).append h2
            simpa using this
      · trivial
    · trivial
  all_goals trivial
theorem opA_ok (hi : Inv R C D φ σ w) {nt : Nat} {env : Env} {a : Act} {o : Oper} (he : EnvR φ nt env a)
    (hk : ∀ σ', (opA P C env σ o).st = some σ' → Known D σ σ') (hf : ∀ σ', (opA P C env σ o).st = some σ' → Free φ σ σ') :
    OpOk P R D φ σ w (execOp a.eval o) (opA P C env σ o) := by
  rcases opA_cases (P := P) (C := C) env σ o with h | ⟨r, hr, hnd, h⟩ <;> rw [h] at hk hf ⊢
  · exact opB_ok hi he hk hf
  · exact hi.oh P C.dec hi.dec R D φ σ w hi.inv0 (evalO C env) a.eval (fun x v hx => evalO_ok he hi hx) o r hr hnd (hk _ rfl) (hf _ rfl)
end
end Go.Tw
