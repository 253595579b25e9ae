/-
  A part of the proof that the abstract evaluator is sound for the model's machine. Conditions: those of each theorem, as it states them.
-/
import Derived.Test.YtbbnjiceenjhcaaGreatDoorTwOps12
import Derived.Lib.UnsafeStr
set_option linter.all false
namespace Go.Tw
section
variable [Val]
variable {P : Program} {R : Nat} {C : Cfg} {D : Nat → Prop} {φ : PM} {σ : St} {w : World}

omit [Val] in
theorem ofS_st {r : Option (AV × St)} {v : AV} {σ' : St} (h : r = some (v, σ')) : (OR.ofS r).st = some σ' := by subst h; rfl
omit [Val] in
theorem ofU_st {r : Option St} {σ' : St} (h : r = some σ') : (OR.ofU r).st = some σ' := by subst h; rfl

omit [Val] in
theorem two_list {α : Type} {l : List α} {l' : Array α} {a b : α} (h : l'.toList = l) (hl : l = [a, b]) : l' = #[a, b] := by
  apply Array.ext'; rw [h, hl]

theorem ER.erase {es : List (AV × AV × Nat)} {es' : List MapEntry} (h : ER φ es es') : ∀ i, ER φ (es.eraseIdx i) (es'.eraseIdx i) := by
  induction h with
  | nil => intro i; cases i <;> exact .nil
  | cons h1 h2 ht ih =>
    intro i
    cases i with
    | zero => exact ht
    | succ i => exact .cons h1 h2 (ih i)

omit [Val] in
theorem run_loadBytes' {w : World} : ∀ (ns : List Int) (a : Addr) (acc : ByteArray), (∀ j n, ns[j]? = some n → w.cell? (a.add j) = some (.int .u8 n)) →
    (loadBytes a acc ns.length).run P w = .ok (ns.foldl (fun r n => r.push (UInt8.ofNat n.toNat)) acc) w
  | [], a, acc, _ => by simp [loadBytes]
  | x :: l, a, acc, h => by
    have h0 : w.cell? a = some (.int .u8 x) := by
      have := h 0 x rfl
      simpa [Addr.add] using this
    have ih := run_loadBytes' l (a.add 1) (acc.push (UInt8.ofNat x.toNat)) (fun j y hy => by
      have := h (j + 1) y (by simpa using hy)
      have e : (a.add 1).add j = a.add (j + 1) := by
        unfold Addr.add
        by_cases hj : j = 0
        · subst hj; simp
        · simp [hj]; omega
      rw [e]; exact this)
    have hx : x.toNat.toUInt8 = UInt8.ofNat x.toNat := rfl
    simp only [List.length_cons, loadBytes, Sem.run_bind, run_load, h0, Result.andThen, hx]
    rw [ih]
    rfl

omit [Val] in
theorem liesAt_off {e : TypeId} (hc : P.cellsOf e = 1) (count off n : Nat) (hn : off + n ≤ count) : liesAt P P.depth e count off e n = true := by
  have hd : P.depth = (2 * (P.types.size + Made.depth) + 1) + 1 := rfl
  rw [hd]
  simp only [liesAt, Bool.or_eq_true]
  left
  rw [hd]
  simp [rowAt, hc, hn, sameLayout, Nat.mod_one]

omit [Val] in
theorem view_alive {c cs : List AV} {base lim since nv et ver : Nat} (h : (Ob.arr c base lim since nv et).view ver = some cs) : aliveV base since nv ver := by
  simp only [Ob.view, cond_eq_ite, Bool.and_eq_true] at h
  split at h
  · rename_i hb
    exact .inl (beq_t hb)
  · split at h
    · rename_i hc
      exact .inr ⟨ble_t hc.1, blt_t hc.2⟩
    · cases h

theorem rep_row {id ver : Nat} {o : Ob} {c : List AV} {t : TypeId} {e : Ext} (hr : Rep R φ w id (some o)) (hv : o.view ver = some c) (ht : o.rowTy = some t) (he : φ id ver = some e) :
    R ≤ id ∧ ∃ cs fl fh, w.heap[e.blk]? = some (.cells cs t (fl, fh)) := by
  cases o with
  | box b bt =>
    simp only [Ob.rowTy, Option.some.injEq] at ht; subst ht
    obtain ⟨hR, e', cs, fl, fh, he', hb, _⟩ := hr
    have : ver = 0 := by
      simp only [Ob.view, cond_eq_ite] at hv
      split at hv
      · rename_i hb; exact beq_t hb
      · cases hv
    subst this
    rw [he] at he'; simp only [Option.some.injEq] at he'; subst he'
    exact ⟨hR, cs, fl, fh, hb⟩
  | arr b base lim since nv et =>
    simp only [Ob.rowTy, Option.some.injEq] at ht; subst ht
    obtain ⟨hR, g1, g2, g3, g4, g5, g6, g7⟩ := hr
    obtain ⟨e', cs, fl, fh, he', hb, _⟩ := g5 ver (view_alive hv)
    rw [he] at he'; simp only [Option.some.injEq] at he'; subst he'
    exact ⟨hR, cs, fl, fh, hb⟩
  | _ => simp [Ob.rowTy] at ht

theorem unsafeString_ok (hi : Inv R C D φ σ w) {ts : Array TypeId} {ty pt e : TypeId} {id ver off hi' n q : Nat} {o : Ob} {cs : List AV} {bs : List UInt8} {k : IntKind} {ex : Ext}
    (ht0 : ts[0]? = some pt) (hu : P.underlying pt = some (.pointer e)) (hs : szOf P e = some 1) (hr : readN σ id ver off (o.wide hi') n = some cs) (ho : σ.heap.get id = some o) (hty : o.rowTy = some e)
    (hn0 : 0 < n) (hn1 : n ≤ 1099511627776) (hbs : cs.mapM (fun | AV.int .u8 n => some (UInt8.ofNat n.toNat) | _ => none) = some bs)
    (he : φ id ver = some ex) (hd : ex.dn ≤ off) (hh : hi' ≤ ex.hi) (hoo : q + ex.dn = off + ex.up) (hkn : Known D σ (σ.put id .dead)) :
    ∃ φ' w' v', (Builtin.unsafeString_ ts ty #[.pointer (some ⟨ex.blk, q, none⟩), .int k (Int.ofNat n)]).run P w = .ok v' w' ∧ VR φ' (.str bs) v' ∧ Post R D φ σ w (σ.put id .dead) φ' w' := by
  have hlt := hi.lt ho
  have hdd : D id := hkn id (.inr (mem_addL.2 (.inl rfl))) hlt
  obtain ⟨ha, o', c', ho', hv, hcut⟩ := readN_ok hr
  rw [ho] at ho'; simp only [Option.some.injEq] at ho'; subst ho'
  have hrep := hi.at ho hdd
  have hh : o.wide hi' ≤ ex.hi := by
    cases o with
    | box c t =>
      have h0 : ver = 0 := by
        simp only [Ob.view, cond_eq_ite] at hv
        split at hv
        · rename_i hb; exact beq_t hb
        · cases hv
      subst h0
      obtain ⟨_, e', _, _, _, he', _, _, _, k3, _⟩ := hrep
      rw [he] at he'; simp only [Option.some.injEq] at he'; subst he'
      exact Nat.le_of_eq k3.symm
    | _ => exact hh
  obtain ⟨rs, t, fr, hb, hall⟩ := view_rep hrep hv he
  obtain ⟨hn, hl⟩ := hall off n cs q hd (by omega) hcut hoo
  have hqn := hn.resolve_left (by omega)
  obtain ⟨hR, rs', fl, fh, hb'⟩ := rep_row hrep hv hty he
  rw [hb] at hb'; simp only [Option.some.injEq, Obj.cells.injEq] at hb'
  obtain ⟨rfl, rfl, rfl⟩ := hb'
  obtain ⟨ns, e1, e2⟩ := mapM_u8 hl hbs
  have hlen : ns.length = n := by
    have := congrArg List.length e1
    simp at this; omega
  obtain ⟨i, hin, hce⟩ := szOf_cells hs
  obtain ⟨gl, gh, hfz, _⟩ := freeze_row hb q n (by omega)
  have hlb := run_loadBytes' (P := P) (w := w) ns ⟨ex.blk, q, none⟩ .empty (fun j m hj => by
    rw [add_off, cell_row hb]
    have hjl : j < ns.length := by
      rcases Nat.lt_or_ge j ns.length with h | h
      · exact h
      · rw [List.getElem?_eq_none h] at hj; cases hj
    have h1 : ((rs.toList.drop q).take n)[j]? = some (.int .u8 m) := by rw [e1]; simp [hj]
    rw [List.getElem?_take_of_lt (by omega), List.getElem?_drop] at h1
    simpa using h1)
  rw [hlen, foldl_push] at hlb
  have hlies := liesAt_off (P := P) hce (rs.size / P.cellsOf t) q n (by rw [hce]; simpa using hqn)
  have hsh : w.shape? ex.blk = some (t, rs.size) := by simp only [World.shape?, hb]
  refine ⟨φ, wset w ex.blk (.cells rs t (gl, gh)), .string ⟨⟨bs⟩⟩, ?_, .str _, .change hi hR hlt he trivial⟩
  have hmax : IntKind.i64.max = 9223372036854775807 := rfl
  change Sem.run P (do
    let n ← asInt (.int k (Int.ofNat n))
    let some pt := ts[0]? | stuck "unsafe.String: no argument types"
    if n < 0 then runtimePanic (.error "unsafe.String: len out of range")
    if n > IntKind.i64.max then unsupported (.unsafePointer "String: a length above the largest int")
    if n = 0 then pure (Value.string .empty)
    else if ← variablesAt ⟨ex.blk, q, none⟩ (← elemOf pt) n.toNat then do
      let s ← loadBytes ⟨ex.blk, q, none⟩ .empty n.toNat
      freeze ⟨ex.blk, q, none⟩ n.toNat
      pure (Value.string s)
    else unsupported (.unsafePointer "String: not so many bytes at ptr")) w = _
  have c1 : ¬ ((n : Int) < 0) := by omega
  have c2 : ¬ ((9223372036854775807 : Int) < (n : Int)) := by omega
  have c4 : n ≠ 0 := by omega
  simp [asInt, asIntOf, ht0, hmax, c1, c2, c4, variablesAt, hsh, elemOf, run_und hu, hlies, hlb, hfz, e2]

theorem minL_fold {k : IntKind} : ∀ {l : List AV} {l' : List Value} {x : Int} {v : AV}, minL k x l = some v → VRL φ l l' → ∃ n, v = .int k n ∧ ∀ w, (l'.foldlM Builtin.min2 (Value.int k x)).run P w = .ok (.int k n) w := by
  intro l
  induction l with
  | nil =>
    intro l' x v h hl
    simp only [minL, Option.some.injEq] at h
    subst h
    cases hl
    exact ⟨x, rfl, fun w => by simp⟩
  | cons y l ih =>
    intro l' x v h hl
    cases hl with
    | cons hy ht =>
      cases y with
      | int k' y =>
        cases hy
        simp only [minL] at h
        obtain ⟨n, h1, h2⟩ := ih h ht
        exact ⟨n, h1, fun w => by simp [List.foldlM_cons, Builtin.min2, h2 w]⟩
      | _ => simp [minL] at h
theorem minL_ok {ts : Array TypeId} {ty : TypeId} {k : IntKind} {x : Int} {l : List AV} {args' : Array Value} {v : AV} (h : minL k x l = some v) (ha : VRL φ (.int k x :: l) args'.toList) (w : World) :
    ∃ v', (Builtin.min_ ts ty args').run P w = .ok v' w ∧ VR φ v v' := by
  generalize hl : args'.toList = l0 at ha
  cases ha with
  | cons hx ht =>
    cases hx
    obtain ⟨n, rfl, h2⟩ := minL_fold (P := P) h ht
    exact ⟨_, by simp [Builtin.min_, hl, h2 w], .int _ _⟩
theorem maxL_fold {k : IntKind} : ∀ {l : List AV} {l' : List Value} {x : Int} {v : AV}, maxL k x l = some v → VRL φ l l' → ∃ n, v = .int k n ∧ ∀ w, (l'.foldlM Builtin.max2 (Value.int k x)).run P w = .ok (.int k n) w := by
  intro l
  induction l with
  | nil =>
    intro l' x v h hl
    simp only [maxL, Option.some.injEq] at h
    subst h
    cases hl
    exact ⟨x, rfl, fun w => by simp⟩
  | cons y l ih =>
    intro l' x v h hl
    cases hl with
    | cons hy ht =>
      cases y with
      | int k' y =>
        cases hy
        simp only [maxL] at h
        obtain ⟨n, h1, h2⟩ := ih h ht
        exact ⟨n, h1, fun w => by simp [List.foldlM_cons, Builtin.max2, h2 w]⟩
      | _ => simp [maxL] at h
theorem maxL_ok {ts : Array TypeId} {ty : TypeId} {k : IntKind} {x : Int} {l : List AV} {args' : Array Value} {v : AV} (h : maxL k x l = some v) (ha : VRL φ (.int k x :: l) args'.toList) (w : World) :
    ∃ v', (Builtin.max_ ts ty args').run P w = .ok v' w ∧ VR φ v v' := by
  generalize hl : args'.toList = l0 at ha
  cases ha with
  | cons hx ht =>
    cases hx
    obtain ⟨n, rfl, h2⟩ := maxL_fold (P := P) h ht
    exact ⟨_, by simp [Builtin.max_, hl, h2 w], .int _ _⟩

theorem builtinA_ok (hi : Inv R C D φ σ w) {b : Builtin} {ts : Array TypeId} {ty : TypeId} {cs : Array Bool} {args : List AV} {args' : Array Value} (ha : VRL φ args args'.toList)
    (hk : ∀ σ', (builtinA P b ts.toList args σ).st = some σ' → Known D σ σ') (hf : ∀ σ', (builtinA P b ts.toList args σ).st = some σ' → Free φ σ σ') :
    OpOk P R D φ σ w (builtin b ts ty cs args') (builtinA P b ts.toList args σ) := by
  unfold builtinA at hk hf ⊢
  split
  · exact .ofS fun v σ' h => appendA_ok hi h rfl ha (hk σ' (ofS_st h)) (hf σ' (ofS_st h))
  · exact .ofS fun v σ' h => let ⟨w', v', h1, h2, h3⟩ := copyA_ok hi h rfl ha (hk σ' (ofS_st h)); ⟨φ, w', v', h1, h2, h3⟩
  · split
    · rename_i t tl x hts
      obtain ⟨x', rfl, hx⟩ := ha.one
      have ht0 : ts[0]? = some t := by rw [← Array.getElem?_toList, hts]; rfl
      refine .ofS fun v σ' h => ?_
      obtain ⟨v', h1, h2, h3⟩ := lenA_ok (P := P) (ty := ty) hi h hx (hk σ' (by simp only [hts]; exact ofS_st h)) ht0
      exact ⟨φ, w, v', h1, h2, h3⟩
    · trivial
  · split
    · rename_i t tl x hts
      obtain ⟨x', rfl, hx⟩ := ha.one
      have ht0 : ts[0]? = some t := by rw [← Array.getElem?_toList, hts]; rfl
      exact .ofP hi fun v h => capA_ok (ty := ty) h hx ht0 w
    · trivial
  · split
    · exact .ofP hi fun v h => minL_ok (ts := ts) (ty := ty) h ha w
    · trivial
  · split
    · exact .ofP hi fun v h => maxL_ok (ts := ts) (ty := ty) h ha w
    · trivial
  · exact ⟨rfl, .same hi rfl rfl rfl⟩
  · split
    · rename_i t tl id k hts
      obtain ⟨x', y', rfl, hx, hy⟩ := ha.two
      have ht0 : ts[0]? = some t := by rw [← Array.getElem?_toList, hts]; rfl
      split
      · rename_i kt et es clock hu ho
        simp only [cond_eq_ite]
        split
        · rename_i hfit
          cases hfi : findA k es 0 with
          | none => trivial
          | some r =>
            have hkn : Known D σ (σ.put id (.map (match r with | some (i, _) => es.eraseIdx i | none => es) clock)) := by
              have := hk (σ.put id (.map (match r with | some (i, _) => es.eraseIdx i | none => es) clock)) (by
                simp only [hts, hu, ho, hfit, cond_true, hfi]
                cases r with
                | none => rfl
                | some p => rfl)
              exact this
            have hlt := hi.lt ho
            have hdd : D id := hkn id (.inr (mem_addL.2 (.inl rfl))) hlt
            obtain ⟨hR, e, es', he, hb, her⟩ := hi.at ho hdd
            obtain ⟨d, hku, _, hd⟩ := keyFits_desc hfit
            cases hx with
            | map e2 he2 =>
              rw [he] at he2; simp only [Option.some.injEq] at he2; subst he2
              obtain ⟨h1, h2⟩ := findA_ok hy hd her hfi
              cases r with
              | none =>
                have g1 := h1 rfl
                refine .ofV ⟨φ, wset w e.blk (.map es' clock), .tuple #[], ?_, .tup _ .nil, ?_⟩
                · simp [Builtin.delete_, ht0, run_und hu, run_getObj hb, checkKey_ok hfit hy, Instr.findKey, run_und hku, g1, run_setObj hb]
                · exact .change hi hR hlt he ⟨hR, e, _, he, wset_same _ _ _ (heap_lt hb), her⟩
              | some p =>
                obtain ⟨i, v⟩ := p
                obtain ⟨v', g1, _⟩ := h2 i v rfl
                refine .ofV ⟨φ, wset w e.blk (.map (es'.eraseIdxIfInBounds i) clock), .tuple #[], ?_, .tup _ .nil, ?_⟩
                · simp [Builtin.delete_, ht0, run_und hu, run_getObj hb, checkKey_ok hfit hy, Instr.findKey, run_und hku, g1, run_setObj hb]
                · refine .change hi hR hlt he ⟨hR, e, _, he, wset_same _ _ _ (heap_lt hb), ?_⟩
                  have := her.erase i
                  simpa using this
        · trivial
      · trivial
    · trivial
  · split
    · rename_i t tl x hts
      obtain ⟨x', rfl, hx⟩ := ha.one
      have ht0 : ts[0]? = some t := by rw [← Array.getElem?_toList, hts]; rfl
      rw [hts] at hk
      dsimp only at hk
      cases hc : clearA P t x σ with
      | none => trivial
      | some σ' =>
        obtain ⟨w', r1, r2⟩ := clearA_ok (P := P) (ty := ty) hi hc hx ht0 (hk σ' (by rw [hc]; rfl))
        exact .ofV (σ' := σ') ⟨φ, w', .tuple #[], r1, .tup _ .nil, r2⟩
    · trivial
  · split
    · obtain ⟨x', rfl, hx⟩ := ha.one
      cases hx
      exact .ofV ⟨φ, w, _, rfl, .nilp, .same hi rfl rfl rfl⟩
    · rename_i id ver off len cap esz
      obtain ⟨x', rfl, hx⟩ := ha.one
      simp only [cond_eq_ite, Bool.and_eq_true]
      split
      · rename_i hb
        have hl0 := blt_t hb.1
        have he0 := blt_t hb.2
        cases hx with
        | slc ex o c he hd hh hl hc hoo =>
          have hc0 : c ≠ 0 := by omega
          obtain ⟨ho1, ho2⟩ := hoo.resolve_left hc0
          have hle : len * 1 ≤ len * esz := Nat.mul_le_mul_left _ he0
          exact .ofV ⟨φ, w, _, Lib.run_unsafeSliceData_row w _ _ _ _ _ hc0, .ptr ex o he hd (by omega) ho1, .same hi rfl rfl rfl⟩
      · trivial
    · trivial
  · split
    · obtain ⟨x', y', rfl, hx, hy⟩ := ha.two
      cases hx; cases hy
      cases hts : ts.toList with
      | nil => trivial
      | cons pt tl =>
        have ht0 : ts[0]? = some pt := by rw [← Array.getElem?_toList, hts]; rfl
        refine .ofV ⟨φ, w, .string .empty, ?_, .str [], .same hi rfl rfl rfl⟩
        rename_i k
        have hmax : IntKind.i64.max = 9223372036854775807 := rfl
        change Sem.run P (do
          let n ← asInt (.int k 0)
          let some pt := ts[0]? | stuck "unsafe.String: no argument types"
          if n < 0 then runtimePanic (.error "unsafe.String: len out of range")
          if n > IntKind.i64.max then unsupported (.unsafePointer "String: a length above the largest int")
          if n = 0 then pure (Value.string .empty)
          else runtimePanic (.error "unsafe.String: ptr is nil and len is not zero")) w = _
        simp [asInt, asIntOf, ht0, hmax]
    · rename_i id ver off hi' k n
      obtain ⟨x', y', rfl, hx, hy⟩ := ha.two
      cases hts : ts.toList with
      | nil => trivial
      | cons pt tl =>
        have ht0 : ts[0]? = some pt := by rw [← Array.getElem?_toList, hts]; rfl
        rw [hts] at hk
        dsimp only at hk ⊢
        split
        · rename_i e o hu ho
          split
          · rename_i cs et hr hs hty
            simp only [cond_eq_ite]
            split
            · rename_i hb
              simp only [Bool.and_eq_true] at hb
              have hee := beq_t hb.1.1
              have hn0 := blt_t hb.1.2
              have hn1 := ble_t hb.2
              subst hee
              split
              · rename_i bs hbs
                cases hx with
                | ptr ex q he hd hh hoo =>
                  cases hy
                  refine .ofV (unsafeString_ok hi ht0 hu hs hr ho hty hn0 hn1 hbs he hd hh hoo (hk _ ?_))
                  have hbb : (Nat.beq e e && Nat.blt 0 n && n.ble 1099511627776) = true := by rw [hb.1.1, hb.1.2, hb.2]; rfl
                  simp only [hu, hr, ho, hs, hty, hbs]
                  rw [hbb]
                  rfl
              · trivial
            · trivial
          · trivial
        · trivial
    · trivial
  · trivial

theorem nilCheck_run {ρ : Operand → Value} {o : Oper} {x : Operand} (ho : o.op = .nilCheck x) {v : AV} (hv : VR φ v (ρ x)) (h : nilOk v = true) : (execOp ρ o).run P w = .ok (.value (ρ x)) w := by
  unfold execOp
  simp only [ho]
  generalize ρ x = v' at hv
  cases hv <;> first
    | rfl
    | (simp [nilOk] at h; done)
    | skip
  rename_i f a' b' _ _ ha hb
  cases f <;> first
    | rfl
    | (simp [nilOk] at h; done)

set_option maxHeartbeats 2000000 in
theorem opA_ok (hi : Inv R C D φ σ w) {nt : Nat} {env : Env} {a : Act} {o : Oper} (he : EnvR φ nt env a)
    (hk : ∀ σ', (opA P C env σ o).st = some σ' → Known D σ σ') (hf : ∀ σ', (opA P C env σ o).st = some σ' → Free φ σ σ') :
    OpOk P R D φ σ w (execOp a.eval o) (opA P C env σ o) := by
  have hO : ∀ {x : Operand} {v : AV}, evalO C env x = some v → VR φ v (a.eval x) := fun h => evalO_ok he hi h
  unfold opA at hk hf ⊢
  unfold execOp
  cases ho : o.op <;> simp only [ho] at hk hf ⊢
  case move x =>
    cases hx : evalO C env x with
    | none => trivial
    | some v => exact ⟨φ, w, _, _, rfl, .inl rfl, hO hx, .same hi rfl rfl rfl⟩
  case assign x =>
    cases hx : evalO C env x with
    | none => trivial
    | some v => exact ⟨φ, w, _, _, rfl, .inl rfl, hO hx, .same hi rfl rfl rfl⟩
  case pick c x y =>
    split
    · rename_i hc
      have hc' := hO hc
      cases hx : evalO C env x with
      | none => trivial
      | some v =>
        generalize a.eval c = cv at hc'
        cases hc'
        exact ⟨φ, w, .value (a.eval x), _, by simp [asBool], .inl rfl, hO hx, .same hi rfl rfl rfl⟩
    · rename_i hc
      have hc' := hO hc
      cases hx : evalO C env y with
      | none => trivial
      | some v =>
        generalize a.eval c = cv at hc'
        cases hc'
        exact ⟨φ, w, .value (a.eval y), _, by simp [asBool], .inl rfl, hO hx, .same hi rfl rfl rfl⟩
    · trivial
  case alloc t =>
    split
    · rename_i z hz
      have hfr : Free φ σ (σ.mk' (.box z.cells t)) := hf _ (by simp only [hz]; rfl)
      exact .ofV (alloc_ok hi hz hfr.at)
    · trivial
  case box t x =>
    split
    · rename_i v hv
      have hfr : Free φ σ (σ.mk' (.box v.cells t)) := hf _ (by simp only [hv]; rfl)
      exact .ofV (box_ok hi (hO hv) hfr.at)
    · trivial
  case build t ps =>
    split
    · rename_i l hl
      have hpr := evalParts_ok he hi hl
      refine .ofP hi fun v h => ?_
      obtain ⟨v', h1, h2⟩ := buildA_ok (ps' := ps.map fun (i, x) => (i, a.eval x)) (by simpa using hpr) h
      exact ⟨v', h1 w, h2⟩
    · trivial
  case buildSlice t n ps =>
    split
    · rename_i l hl
      have hpr := evalParts_ok he hi hl
      refine .ofS fun v σ' h => ?_
      have hfr : Free φ σ σ' := hf σ' (by simp only [hl]; exact ofS_st h)
      have hpr' : PR φ l (ps.map fun (i, x) => (i, a.eval x)).toList := by simpa using hpr
      exact buildSliceA_ok hi h hpr' hfr
    · trivial
  case load t x =>
    split
    · rename_i v hv
      refine .ofS fun u σ' h => ?_
      obtain ⟨v', h1, h2, h3⟩ := loadA_ok (P := P) hi h (hO hv) (hk σ' (by simp only [hv]; exact ofS_st h))
      exact ⟨φ, w, v', h1, h2, h3⟩
    · trivial
  case store t x y =>
    split
    · rename_i p v hp hv
      exact .ofU fun σ' h => storeA_ok (P := P) hi h (hO hp) (hO hv) (hk σ' (by simp only [hp, hv]; exact ofU_st h))
    · trivial
  case nilCheck x =>
    cases hv : evalO C env x with
    | none => trivial
    | some v =>
      simp only [cond_eq_ite]
      by_cases hok : nilOk v = true
      · rw [if_pos hok]
        have hrun := nilCheck_run (P := P) (w := w) ho (hO hv) hok
        simp only [execOp, ho] at hrun
        exact ⟨φ, w, _, _, hrun, .inl rfl, hO hv, .same hi rfl rfl rfl⟩
      · rw [if_neg hok]; trivial
  case binOp op t x y yt =>
    split
    · rename_i p q hp hq
      simp only [cond_eq_ite]
      split
      · rename_i hg
        refine .ofP hi fun v h => ?_
        obtain ⟨v', h1, h2⟩ := binA_ok (P := P) hi.dec h (hO hp) (hO hq)
        exact ⟨v', by simp [eqGuardA_ok hg (hO hp) (hO hq), h1], h2⟩
      · trivial
    · trivial
  case unOp op t x =>
    split
    · rename_i p hp
      refine .ofP hi fun v h => ?_
      obtain ⟨v', h1, h2⟩ := unA_ok (P := P) h (hO hp)
      exact ⟨v', h1 w, h2⟩
    · trivial
  case convert s d x =>
    split
    · rename_i p hp
      exact .ofS fun v σ' h => convA_ok hi h (hO hp) (hk σ' (by simp only [hp]; exact ofS_st h)) (hf σ' (by simp only [hp]; exact ofS_st h))
    · trivial
  case makeInterface t x =>
    split
    · trivial
    · rename_i v d hn hv hu
      refine .ofV ⟨φ, w, .iface t (a.eval x), ?_, .iface t (hO hv), .same hi rfl rfl rfl⟩
      simp only [Instr.makeInterface, Sem.run_bind, run_und hu, Result.andThen_ok]
      cases d <;> first
        | rfl
        | (exfalso; exact hn _ _ hv hu)
        | (exfalso; exact hn _ rfl)
    · trivial
  case makeFunc f p q =>
    split
    · rename_i l m hl hm
      have h1 := evalL_ok he hi hl
      have h2 := evalL_ok he hi hm
      exact .ofV ⟨φ, w, .func f (p.map a.eval) (q.map a.eval), rfl, .fn _ _ _ (by simpa using h1) (by simpa using h2), .same hi rfl rfl rfl⟩
    · trivial
  case makeMap t r =>
    cases r with
    | none =>
      have hfr : Free φ σ (σ.mk' (.map [] 0)) := hf _ rfl
      exact .ofV (makeMap_ok hi t hfr.at)
    | some x =>
      dsimp only at hf ⊢
      split
      · rename_i k n _ _ hx hu
        have hfr : Free φ σ (σ.mk' (.map [] 0)) := hf _ (by simp only [hx, hu]; rfl)
        have hvr := hO hx
        show OpOk P R D φ σ w (do pure (.value (← Instr.makeMap t (some (a.eval x))))) _
        generalize a.eval x = xv at hvr
        cases hvr
        exact .ofV (makeMapR_ok hi hu hfr.at)
      · trivial
  case makeSlice t x y =>
    split
    · rename_i l c hl hc
      exact .ofS fun v σ' h => makeSliceA_ok hi h (hO hl) (hO hc) (hf σ' (by simp only [hl, hc]; exact ofS_st h))
    · trivial
  case slice t x lo hi' mx =>
    split
    · rename_i x1 lo1 hi1 mx1 hx hlo hhi hmx
      refine .ofP hi fun v h => ?_
      exact sliceA_ok hi.wf h (hO hx) (evalOpt_ok he hi hlo) (evalOpt_ok he hi hhi) (evalOpt_ok he hi hmx)
    · trivial
  case fieldAddr t x f =>
    split
    · rename_i p hp
      refine .ofP hi fun v h => ?_
      obtain ⟨v', h1, h2⟩ := fieldAddrA_ok (P := P) h (hO hp)
      exact ⟨v', h1 w, h2⟩
    · trivial
  case field t x f =>
    split
    · rename_i p hp
      refine .ofP hi fun v h => ?_
      obtain ⟨v', h1, h2⟩ := fieldA_ok (P := P) h (hO hp)
      exact ⟨v', h1 w, h2⟩
    · trivial
  case indexAddr t x i =>
    split
    · rename_i p q hp hq
      refine .ofP hi fun v h => ?_
      obtain ⟨v', h1, h2⟩ := indexAddrA_ok (P := P) h (hO hp) (hO hq)
      exact ⟨v', h1 w, h2⟩
    · trivial
  case index t x i =>
    split
    · rename_i p q hp hq
      refine .ofP hi fun v h => ?_
      obtain ⟨v', h1, h2⟩ := indexA_ok (P := P) h (hO hp) (hO hq)
      exact ⟨v', h1 w, h2⟩
    · trivial
  case lookup t x k ok =>
    split
    · rename_i p q hp hq
      refine .ofS fun v σ' h => ?_
      obtain ⟨v', h1, h2, h3⟩ := lookupA_ok (P := P) hi h (hO hp) (hO hq) (hk σ' (by simp only [hp, hq]; exact ofS_st h))
      exact ⟨φ, w, v', h1, h2, h3⟩
    · trivial
  case mapUpdate t m k x =>
    split
    · rename_i p q r hp hq hr
      exact .ofU fun σ' h => updateA_ok (P := P) hi h (hO hp) (hO hq) (hO hr) (hk σ' (by simp only [hp, hq, hr]; exact ofU_st h))
    · trivial
  case insert t m k x =>
    split
    · rename_i p q r hp hq hr
      exact .ofU fun σ' h => updateA_ok (P := P) hi h (hO hp) (hO hq) (hO hr) (hk σ' (by simp only [hp, hq, hr]; exact ofU_st h))
    · trivial
  case range t x =>
    split
    · rename_i p hp
      exact .ofS fun v σ' h => rangeA_ok hi h (hO hp) (hk σ' (by simp only [hp]; exact ofS_st h)) (hf σ' (by simp only [hp]; exact ofS_st h))
    · trivial
  case next it s =>
    split
    · rename_i p hp
      refine .ofS fun v σ' h => ?_
      obtain ⟨w', v', h1, h2, h3⟩ := nextA_ok (P := P) (t := o.type) hi h (hO hp) (hk σ' (by simp only [hp]; exact ofS_st h))
      exact ⟨φ, w', v', h1, h2, h3⟩
    · trivial
  case entry it =>
    split
    · rename_i p hp
      refine .ofS fun v σ' h => ?_
      obtain ⟨v', h1, h2, h3⟩ := entryA_ok (P := P) hi h (hO hp) (hk σ' (by simp only [hp]; exact ofS_st h))
      exact ⟨φ, w, v', h1, h2, h3⟩
    · trivial
  case typeAssert x xt t ok =>
    split
    · rename_i p hp
      refine .ofP hi fun v h => ?_
      obtain ⟨v', h1, h2⟩ := assertA_ok (P := P) (xt := xt) h (hO hp)
      exact ⟨v', h1 w, h2⟩
    · trivial
  case extract x i =>
    split
    · rename_i p hp
      refine .ofP hi fun v h => ?_
      obtain ⟨v', h1, h2⟩ := extractA_ok (P := P) h (hO hp)
      exact ⟨v', h1 w, h2⟩
    · trivial
  case call c =>
    split
    · trivial
    · rename_i args hargs
      have hav := evalL_ok he hi hargs
      have hav' : VRL φ args (c.args.map a.eval).toList := by simpa using hav
      split
      · rename_i b hb
        refine (builtinA_ok (ty := o.type) (cs := c.args.map fun | .const _ => true | _ => false) hi hav' (fun σ' h => hk σ' (by simp only [hargs, hb]; exact h)) (fun σ' h => hf σ' (by simp only [hargs, hb]; exact h))).congr ?_
        simp [resolve, hb, invoke]
        rfl
      · rename_i r name hb
        split
        · rename_i recv hrecv
          refine (callMA_ok hi (hO hrecv) hav' (fun σ' h => hk σ' (by simp only [hargs, hb, hrecv]; exact h)) (fun σ' h => hf σ' (by simp only [hargs, hb, hrecv]; exact h))).congr ?_
          have e1 : (#[a.eval r] ++ Array.map a.eval c.args)[0]? = some (a.eval r) := by simp [Array.getElem?_append]
          have e2 : (Array.map a.eval c.args).extract 0 c.args.size = Array.map a.eval c.args := by apply Array.ext'; simp; exact List.take_of_length_le (by simp)
          simp [resolve, hb, invoke, e1, e2]
        · trivial
      · rename_i f hb
        split
        · rename_i fv hfv
          refine (callVA_ok hi (hO hfv) hav' (fun σ' h => hk σ' (by simp only [hargs, hb, hfv]; exact h)) (fun σ' h => hf σ' (by simp only [hargs, hb, hfv]; exact h))).congr ?_
          simp [resolve, hb]
        · trivial
  case panic x =>
    split
    · rename_i v hv
      unfold panicA
      split
      · rename_i t u
        have hvr := hO hv
        generalize a.eval x = xv at hvr
        cases hvr with
        | iface _ h2 =>
          exact ⟨φ, w, _, by simp [Instr.panic], .iface _ h2, .same hi rfl rfl rfl⟩
      · trivial
    · trivial
  case defer c =>
    split
    · rename_i f args hc hargs
      have hav := evalL_ok he hi hargs
      split
      · rename_i g first captured hfv
        have hvr := hO hfv
        obtain ⟨fv, hfe⟩ : ∃ fv, fv = a.eval f := ⟨_, rfl⟩
        rw [← hfe] at hvr
        cases hvr with
        | fn _ a' b' h1 h2 =>
          refine ⟨φ, w, { target := .fn (.func g) b', args := a' ++ c.args.map a.eval }, ?_, ⟨b', a' ++ c.args.map a.eval, rfl, ?_⟩, .same hi rfl rfl rfl⟩
          · simp [resolve, hc, ← hfe, Deferred.ofValue]
          · have h3 : VRL φ args (c.args.map a.eval).toList := by simpa using hav
            have := (h1.append h3).append h2
            simpa using this
      · trivial
    · trivial
  all_goals trivial
end
end Go.Tw
