/-
  A part of the proof that the abstract evaluator is sound for the model's machine. Conditions: those of each theorem, as it states them.
-/
import Derived.Test.YtbdkfhkkocjciaaTwOps12
namespace Go.Tw
section
variable {P : Program} {R : Nat} {C : Cfg} {D : Nat → Prop} {φ : PM} {σ : St} {w : World}

theorem ofS_st {r : Option (AV × St)} {v : AV} {σ' : St} (h : r = some (v, σ')) : (OR.ofS r).st = some σ' := by subst h; rfl
theorem ofU_st {r : Option St} {σ' : St} (h : r = some σ') : (OR.ofU r).st = some σ' := by subst h; rfl

theorem two_list {α : Type} {l : List α} {l' : Array α} {a b : α} (h : l'.toList = l) (hl : l = [a, b]) : l' = #[a, b] := by
  apply Array.ext'; rw [h, hl]

theorem builtinA_ok (hi : Inv R C D φ σ w) {b : Builtin} {ts : Array TypeId} {ty : TypeId} {cs : Array Bool} {args : List AV} {args' : Array Value} (ha : VRL φ args args'.toList)
    (hk : ∀ σ', (builtinA P b ts.toList args σ).st = some σ' → Known D σ σ') (hf : ∀ σ', (builtinA P b ts.toList args σ).st = some σ' → Free φ σ σ') :
    OpOk P R D φ σ w (builtin b ts ty cs args') (builtinA P b ts.toList args σ) := by
  unfold builtinA at hk hf ⊢
  split
  · exact .ofS fun v σ' h => appendA_ok hi h rfl ha (hk σ' (ofS_st h)) (hf σ' (ofS_st h))
  · exact .ofS fun v σ' h => let ⟨w', v', h1, h2, h3⟩ := copyA_ok hi h rfl ha (hk σ' (ofS_st h)); ⟨φ, w', v', h1, h2, h3⟩
  · split
    · rename_i t tl x hts
      obtain ⟨x', rfl, hx⟩ := ha.one
      have ht0 : ts[0]? = some t := by rw [← Array.getElem?_toList, hts]; rfl
      refine .ofS fun v σ' h => ?_
      obtain ⟨v', h1, h2, h3⟩ := lenA_ok (P := P) (ty := ty) hi h hx (hk σ' (by simp only [hts]; exact ofS_st h)) ht0
      exact ⟨φ, w, v', h1, h2, h3⟩
    · trivial
  · split
    · rename_i t tl x hts
      obtain ⟨x', rfl, hx⟩ := ha.one
      have ht0 : ts[0]? = some t := by rw [← Array.getElem?_toList, hts]; rfl
      exact .ofP hi fun v h => capA_ok (ty := ty) h hx ht0 w
    · trivial
  · split
    · obtain ⟨x', y', rfl, hx, hy⟩ := ha.two
      cases hx; cases hy
      exact .ofV ⟨φ, w, _, by simp [Builtin.min_, Builtin.min2], .int _ _, .same hi rfl rfl rfl⟩
    · trivial
  · split
    · obtain ⟨x', y', rfl, hx, hy⟩ := ha.two
      cases hx; cases hy
      exact .ofV ⟨φ, w, _, by simp [Builtin.max_, Builtin.max2], .int _ _, .same hi rfl rfl rfl⟩
    · trivial
  · trivial

theorem OpOk.congr {s s' : Sem Next} {r : OR} (h : OpOk P R D φ σ w s r) (he : s'.run P w = s.run P w) : OpOk P R D φ σ w s' r := by
  cases r <;> simp only [OpOk] at h ⊢ <;> (try rw [he]) <;> exact h

theorem nilCheck_run {ρ : Operand → Value} {o : Oper} {x : Operand} (ho : o.op = .nilCheck x) {v : AV} (hv : VR φ v (ρ x)) (h : nilOk v = true) : (execOp ρ o).run P w = .ok (.value (ρ x)) w := by
  unfold execOp
  simp only [ho]
  generalize ρ x = v' at hv
  cases hv <;> first
    | rfl
    | (simp [nilOk] at h; done)
    | skip
  rename_i f a' b' _ _ ha hb
  cases f <;> first
    | rfl
    | (simp [nilOk] at h; done)

set_option maxHeartbeats 2000000 in
theorem opA_ok (hi : Inv R C D φ σ w) {nt : Nat} {env : Env} {a : Act} {o : Oper} (he : EnvR φ nt env a)
    (hk : ∀ σ', (opA P C env σ o).st = some σ' → Known D σ σ') (hf : ∀ σ', (opA P C env σ o).st = some σ' → Free φ σ σ') :
    OpOk P R D φ σ w (execOp a.eval o) (opA P C env σ o) := by
  have hO : ∀ {x : Operand} {v : AV}, evalO C env x = some v → VR φ v (a.eval x) := fun h => evalO_ok he hi h
  unfold opA at hk hf ⊢
  unfold execOp
  cases ho : o.op <;> simp only [ho] at hk hf ⊢
  case move x =>
    cases hx : evalO C env x with
    | none => trivial
    | some v => exact ⟨φ, w, _, _, rfl, .inl rfl, hO hx, .same hi rfl rfl rfl⟩
  case assign x =>
    cases hx : evalO C env x with
    | none => trivial
    | some v => exact ⟨φ, w, _, _, rfl, .inl rfl, hO hx, .same hi rfl rfl rfl⟩
  case pick c x y =>
    split
    · rename_i hc
      have hc' := hO hc
      cases hx : evalO C env x with
      | none => trivial
      | some v =>
        generalize a.eval c = cv at hc'
        cases hc'
        exact ⟨φ, w, .value (a.eval x), _, by simp [asBool], .inl rfl, hO hx, .same hi rfl rfl rfl⟩
    · rename_i hc
      have hc' := hO hc
      cases hx : evalO C env y with
      | none => trivial
      | some v =>
        generalize a.eval c = cv at hc'
        cases hc'
        exact ⟨φ, w, .value (a.eval y), _, by simp [asBool], .inl rfl, hO hx, .same hi rfl rfl rfl⟩
    · trivial
  case alloc t =>
    split
    · rename_i z hz
      have hfr : Free φ σ (σ.mk' (.box z.cells)) := hf _ (by simp only [hz]; rfl)
      exact .ofV (alloc_ok hi hz hfr.at)
    · trivial
  case box t x =>
    split
    · rename_i v hv
      have hfr : Free φ σ (σ.mk' (.box v.cells)) := hf _ (by simp only [hv]; rfl)
      exact .ofV (box_ok hi (hO hv) hfr.at)
    · trivial
  case build t ps =>
    split
    · rename_i l hl
      have hpr := evalParts_ok he hi hl
      refine .ofP hi fun v h => ?_
      obtain ⟨v', h1, h2⟩ := buildA_ok (ps' := ps.map fun (i, x) => (i, a.eval x)) (by simpa using hpr) h
      exact ⟨v', h1 w, h2⟩
    · trivial
  case buildSlice t n ps =>
    split
    · rename_i l hl
      have hpr := evalParts_ok he hi hl
      refine .ofS fun v σ' h => ?_
      have hfr : Free φ σ σ' := hf σ' (by simp only [hl]; exact ofS_st h)
      have hpr' : PR φ l (ps.map fun (i, x) => (i, a.eval x)).toList := by simpa using hpr
      exact buildSliceA_ok hi h hpr' hfr
    · trivial
  case load t x =>
    split
    · rename_i v hv
      refine .ofS fun u σ' h => ?_
      obtain ⟨v', h1, h2, h3⟩ := loadA_ok (P := P) hi h (hO hv) (hk σ' (by simp only [hv]; exact ofS_st h))
      exact ⟨φ, w, v', h1, h2, h3⟩
    · trivial
  case store t x y =>
    split
    · rename_i p v hp hv
      exact .ofU fun σ' h => storeA_ok (P := P) hi h (hO hp) (hO hv) (hk σ' (by simp only [hp, hv]; exact ofU_st h))
    · trivial
  case nilCheck x =>
    cases hv : evalO C env x with
    | none => trivial
    | some v =>
      simp only [cond_eq_ite]
      by_cases hok : nilOk v = true
      · rw [if_pos hok]
        have hrun := nilCheck_run (P := P) (w := w) ho (hO hv) hok
        simp only [execOp, ho] at hrun
        exact ⟨φ, w, _, _, hrun, .inl rfl, hO hv, .same hi rfl rfl rfl⟩
      · rw [if_neg hok]; trivial
  case binOp op t x y yt =>
    split
    · rename_i p q hp hq
      simp only [cond_eq_ite]
      split
      · rename_i hg
        refine .ofP hi fun v h => ?_
        obtain ⟨v', h1, h2⟩ := binA_ok (P := P) h (hO hp) (hO hq)
        exact ⟨v', by simp [eqGuardA_ok hg (hO hp) (hO hq), h1], h2⟩
      · trivial
    · trivial
  case unOp op t x =>
    split
    · rename_i p hp
      refine .ofP hi fun v h => ?_
      obtain ⟨v', h1, h2⟩ := unA_ok (P := P) h (hO hp)
      exact ⟨v', h1 w, h2⟩
    · trivial
  case convert s d x =>
    split
    · rename_i p hp
      exact .ofS fun v σ' h => convA_ok hi h (hO hp) (hk σ' (by simp only [hp]; exact ofS_st h)) (hf σ' (by simp only [hp]; exact ofS_st h))
    · trivial
  case makeInterface t x =>
    split
    · trivial
    · rename_i v d hn hv hu
      refine .ofV ⟨φ, w, .iface t (a.eval x), ?_, .iface t (hO hv), .same hi rfl rfl rfl⟩
      simp only [Instr.makeInterface, Sem.run_bind, run_und hu, Result.andThen_ok]
      cases d <;> first
        | rfl
        | (exfalso; exact hn _ _ hv hu)
        | (exfalso; exact hn _ rfl)
    · trivial
  case makeFunc f p q =>
    split
    · rename_i l m hl hm
      have h1 := evalL_ok he hi hl
      have h2 := evalL_ok he hi hm
      exact .ofV ⟨φ, w, .func f (p.map a.eval) (q.map a.eval), rfl, .fn _ _ _ (by simpa using h1) (by simpa using h2), .same hi rfl rfl rfl⟩
    · trivial
  case makeMap t r =>
    cases r with
    | none =>
      have hfr : Free φ σ (σ.mk' (.map [] 0)) := hf _ rfl
      exact .ofV (makeMap_ok hi t hfr.at)
    | some x =>
      dsimp only at hf ⊢
      split
      · rename_i k n _ _ hx hu
        have hfr : Free φ σ (σ.mk' (.map [] 0)) := hf _ (by simp only [hx, hu]; rfl)
        have hvr := hO hx
        show OpOk P R D φ σ w (do pure (.value (← Instr.makeMap t (some (a.eval x))))) _
        generalize a.eval x = xv at hvr
        cases hvr
        exact .ofV (makeMapR_ok hi hu hfr.at)
      · trivial
  case makeSlice t x y =>
    split
    · rename_i l c hl hc
      exact .ofS fun v σ' h => makeSliceA_ok hi h (hO hl) (hO hc) (hf σ' (by simp only [hl, hc]; exact ofS_st h))
    · trivial
  case slice t x lo hi' mx =>
    split
    · rename_i x1 lo1 hi1 mx1 hx hlo hhi hmx
      refine .ofP hi fun v h => ?_
      exact sliceA_ok hi.wf h (hO hx) (evalOpt_ok he hi hlo) (evalOpt_ok he hi hhi) (evalOpt_ok he hi hmx)
    · trivial
  case fieldAddr t x f =>
    split
    · rename_i p hp
      refine .ofP hi fun v h => ?_
      obtain ⟨v', h1, h2⟩ := fieldAddrA_ok (P := P) h (hO hp)
      exact ⟨v', h1 w, h2⟩
    · trivial
  case field t x f =>
    split
    · rename_i p hp
      refine .ofP hi fun v h => ?_
      obtain ⟨v', h1, h2⟩ := fieldA_ok (P := P) h (hO hp)
      exact ⟨v', h1 w, h2⟩
    · trivial
  case indexAddr t x i =>
    split
    · rename_i p q hp hq
      refine .ofP hi fun v h => ?_
      obtain ⟨v', h1, h2⟩ := indexAddrA_ok (P := P) h (hO hp) (hO hq)
      exact ⟨v', h1 w, h2⟩
    · trivial
  case index t x i =>
    split
    · rename_i p q hp hq
      refine .ofP hi fun v h => ?_
      obtain ⟨v', h1, h2⟩ := indexA_ok (P := P) h (hO hp) (hO hq)
      exact ⟨v', h1 w, h2⟩
    · trivial
  case lookup t x k ok =>
    split
    · rename_i p q hp hq
      refine .ofS fun v σ' h => ?_
      obtain ⟨v', h1, h2, h3⟩ := lookupA_ok (P := P) hi h (hO hp) (hO hq) (hk σ' (by simp only [hp, hq]; exact ofS_st h))
      exact ⟨φ, w, v', h1, h2, h3⟩
    · trivial
  case mapUpdate t m k x =>
    split
    · rename_i p q r hp hq hr
      exact .ofU fun σ' h => updateA_ok (P := P) hi h (hO hp) (hO hq) (hO hr) (hk σ' (by simp only [hp, hq, hr]; exact ofU_st h))
    · trivial
  case insert t m k x =>
    split
    · rename_i p q r hp hq hr
      exact .ofU fun σ' h => updateA_ok (P := P) hi h (hO hp) (hO hq) (hO hr) (hk σ' (by simp only [hp, hq, hr]; exact ofU_st h))
    · trivial
  case range t x =>
    split
    · rename_i p hp
      exact .ofS fun v σ' h => rangeA_ok hi h (hO hp) (hf σ' (by simp only [hp]; exact ofS_st h))
    · trivial
  case next it s =>
    split
    · rename_i p hp
      refine .ofS fun v σ' h => ?_
      obtain ⟨w', v', h1, h2, h3⟩ := nextA_ok (P := P) (t := o.type) hi h (hO hp) (hk σ' (by simp only [hp]; exact ofS_st h))
      exact ⟨φ, w', v', h1, h2, h3⟩
    · trivial
  case typeAssert x xt t ok =>
    split
    · rename_i p hp
      refine .ofP hi fun v h => ?_
      obtain ⟨v', h1, h2⟩ := assertA_ok (P := P) (xt := xt) h (hO hp)
      exact ⟨v', h1 w, h2⟩
    · trivial
  case extract x i =>
    split
    · rename_i p hp
      refine .ofP hi fun v h => ?_
      obtain ⟨v', h1, h2⟩ := extractA_ok (P := P) h (hO hp)
      exact ⟨v', h1 w, h2⟩
    · trivial
  case call c =>
    split
    · trivial
    · rename_i args hargs
      have hav := evalL_ok he hi hargs
      have hav' : VRL φ args (c.args.map a.eval).toList := by simpa using hav
      split
      · rename_i b hb
        refine (builtinA_ok (ty := o.type) (cs := c.args.map fun | .const _ => true | _ => false) hi hav' (fun σ' h => hk σ' (by simp only [hargs, hb]; exact h)) (fun σ' h => hf σ' (by simp only [hargs, hb]; exact h))).congr ?_
        simp [resolve, hb, invoke]
        rfl
      · rename_i r name hb
        split
        · rename_i recv hrecv
          refine (callMA_ok hi (hO hrecv) hav' (fun σ' h => hk σ' (by simp only [hargs, hb, hrecv]; exact h))).congr ?_
          have e1 : (#[a.eval r] ++ Array.map a.eval c.args)[0]? = some (a.eval r) := by simp [Array.getElem?_append]
          have e2 : (Array.map a.eval c.args).extract 0 c.args.size = Array.map a.eval c.args := by apply Array.ext'; simp; exact List.take_of_length_le (by simp)
          simp [resolve, hb, invoke, e1, e2]
        · trivial
      · rename_i f hb
        split
        · rename_i fv hfv
          refine (callVA_ok hi (hO hfv) hav' (fun σ' h => hk σ' (by simp only [hargs, hb, hfv]; exact h))).congr ?_
          simp [resolve, hb]
        · trivial
  case panic x =>
    split
    · rename_i v hv
      unfold panicA
      split
      · rename_i t u
        have hvr := hO hv
        generalize a.eval x = xv at hvr
        cases hvr with
        | iface _ h2 =>
          exact ⟨φ, w, _, by simp [Instr.panic], .iface _ h2, .same hi rfl rfl rfl⟩
      · trivial
    · trivial
  all_goals trivial
end
end Go.Tw
