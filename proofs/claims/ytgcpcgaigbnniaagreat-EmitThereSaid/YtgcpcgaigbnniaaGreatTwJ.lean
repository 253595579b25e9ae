/-
  A part of the proof that the abstract evaluator is sound for the model's machine. Conditions: those of each theorem, as it states them.
-/
import Derived.Test.YtgcpcgaigbnniaaGreatTwH
import Derived.Test.YtgcpcgaigbnniaaGreatTwI
set_option linter.all false
/-! Operations on numbers of known bounds. -/
set_option linter.unusedVariables false
set_option linter.unusedSimpArgs false
set_option linter.unusedSectionVars false
namespace Go.Tw
open Go
def isNY : AV → Bool
  | .sym _ _ => true
  | _ => false
def eqB (dec : Bx → Option Bool) : Bx → Option Bool
  | .cmp op a b => match op with
    | .eql => bif eqM a b || eqN dec a b then some true else none
    | .neq => bif eqM a b || eqN dec a b then some false else none
    | _ => none
  | _ => none
def constM : Sx → Option Int
  | .bin .sub k a b => match linM (.bin .sub k a b) with
    | (_, n) => bif eqM (.bin .sub k a b) (.wrap k (.lit n)) then some (wrapI k n) else none
  | _ => none
def outY (dec : Bx → Option Bool) : AV → AV
  | .sym k e => match smpG dec e with
    | .lit n => .int k n
    | e' => match constM e' with
      | some n => .int k n
      | none => .sym k e'
  | .symb b => match decY (qd dec) b with
    | some x => .bool x
    | none => match eqB dec b with
      | some x => .bool x
      | none => .symb b
  | v => v
section
variable (P : Program) (dec : Bx → Option Bool) (ev : Operand → Option AV)
noncomputable def kSy (o : Oper) : Option OhR := match o.op with
  | .binOp op t x y _ => match ev x, ev y with
    | some a, some b => bif (isNY a || isNY b) && eqGuardA P op t x y a b then (match binA P (decY dec) op t a b with
      | some r => OhR.one (outY dec r)
      | none => none) else none
    | _, _ => none
  | .convert s d x => match ev x with
    | some (.sym _ e) => match P.underlying s, P.underlying d with
      | some _, some (.int k) => OhR.one (outY dec (.sym k (.wrap k e)))
      | _, _ => none
    | _ => none
  | _ => none
end
variable [Val] {P : Program} {R : Nat} {D : Nat → Prop} {φ : PM} {σ : St} {w : World} {dec : Bx → Option Bool}
theorem eqB_ok (hdec : ∀ b x, dec b = some x → b.eval = x) {b : Bx} {x : Bool} (h : eqB dec b = some x) : b.eval = x := by
  unfold eqB at h
  split at h
  · rename_i op a c
    have hor : (eqM a c || eqN dec a c) = true → a.eval = c.eval := fun h => by
      rcases Bool.or_eq_true _ _ ▸ h with h | h
      · exact eqM_ok h
      · exact eqN_ok hdec h
    split at h
    · rw [cond_eq_ite] at h
      split at h
      · rename_i he
        simp only [Option.some.injEq] at h
        subst h
        simp [Bx.eval, compI, hor he]
      · cases h
    · rw [cond_eq_ite] at h
      split at h
      · rename_i he
        simp only [Option.some.injEq] at h
        subst h
        simp [Bx.eval, compI, hor he]
      · cases h
    · cases h
  · cases h
theorem constM_ok {e : Sx} {n : Int} (h : constM e = some n) : e.eval = n := by
  unfold constM at h
  split at h
  · split at h
    rw [cond_eq_ite] at h
    split at h
    · rename_i he
      simp only [Option.some.injEq] at h; subst h
      rw [eqM_ok he, Sx.eval_wrap, Sx.eval_lit]
    · cases h
  · cases h
theorem outY_ok (hdec : ∀ b x, dec b = some x → b.eval = x) {v : AV} {v' : Value} (h : VR φ v v') : VR φ (outY dec v) v' := by
  unfold outY
  split
  · rename_i k e
    cases h
    have hs := smpG_ok hdec e
    split
    · rename_i n hn
      rw [hn, Sx.eval_lit] at hs
      rw [← hs]
      exact .int _ _
    · split
      · rename_i n hc
        have hc := constM_ok hc
        rw [← hs, hc]
        exact .int _ _
      · rw [← hs]
        exact .sym _ _
  · rename_i b
    cases h
    split
    · rename_i x hx
      rw [decY_ok (qd_ok hdec) _ _ hx]
      exact .bool _
    · split
      · rename_i x hx
        rw [eqB_ok hdec hx]
        exact .bool _
      · exact .symb _
  · exact h
theorem kSy_ok (hdec : ∀ b v, dec b = some v → b.eval = v) (hi : Inv0 R D φ σ w)
    {ev : Operand → Option AV} {a : Operand → Value} (hev : ∀ x v, ev x = some v → VR φ v (a x)) {o : Oper} {r : OhR} (h : kSy P dec ev o = some r) :
    ∃ φ' w' n v', (execOp a o).run P w = .ok n w' ∧ (n = .value v' ∨ (n = .skip ∧ v' = undef)) ∧ VR φ' r.v v' ∧ Post R D φ σ w (r.to σ) φ' w' := by
  unfold kSy at h
  split at h
  · rename_i op t x y ty ho
    split at h
    · rename_i av bv hav hbv
      simp only [cond_eq_ite] at h
      split at h
      · rename_i hg
        simp only [Bool.and_eq_true] at hg
        split at h
        · rename_i rv hr
          simp only [OhR.one, Option.some.injEq] at h; subst h
          obtain ⟨v', h1, h2⟩ := binA_ok (P := P) (decY_ok hdec) hr (hev _ _ hav) (hev _ _ hbv)
          exact ⟨φ, w, .value v', v', by simp [execOp, ho, eqGuardA_ok hg.2 (hev _ _ hav) (hev _ _ hbv), h1], .inl rfl, outY_ok hdec h2, .same0 hi rfl rfl rfl⟩
        · cases h
      · cases h
    · cases h
  · rename_i s d x ho
    split at h
    · rename_i k0 e hx
      split at h
      · rename_i _ k hs hd
        simp only [OhR.one, Option.some.injEq] at h; subst h
        have hv := hev _ _ hx
        generalize hax : a x = x' at hv
        cases hv
        have hr : VR φ (outY dec (.sym k (.wrap k e))) (.int k (k.wrap e.eval)) := outY_ok hdec (by rw [← wrapI_eq]; exact .sym k (.wrap k e))
        exact ⟨φ, w, .value (.int k (k.wrap e.eval)), _, by simp [execOp, ho, hax, convert, run_und hs, run_und hd, Conv.intToInt], .inl rfl, hr, .same0 hi rfl rfl rfl⟩
      · cases h
    · cases h
  · cases h
end Go.Tw
/-! bits.Add64 and bits.Sub64 of numbers of known bounds. -/
set_option linter.unusedVariables false
set_option linter.unusedSimpArgs false
set_option linter.unusedSectionVars false
namespace Go.Tw
open Go
def u64c : AV → Option Sx
  | .int k n => bif isU64 k then some (.lit n) else none
  | .sym k e => bif isU64 k then some e else none
  | _ => none
def noOver (dec : Bx → Option Bool) (x y : Sx) : Bool := match ivY dec x, ivY dec y with
  | some (l1, h1), some (l2, h2) => leZ 0 l1 && leZ 0 l2 && leZ (h1 + h2) 18446744073709551615
  | _, _ => false
def inU (dec : Bx → Option Bool) (x : Sx) : Bool := inB dec 0 18446744073709551615 x
def bitsY (dec : Bx → Option Bool) (nm : String) (x y : Sx) : Option AV :=
  if nm = "math/bits.Add64" then (bif noOver dec x y then some (.tup [outY dec (.sym .u64 (.bin .add .u64 x y)), .int .u64 0]) else none)
  else if nm = "math/bits.Sub64" then (bif inU dec x && inU dec y then (match decY dec (.cmp .lss x y) with
    | some k => some (.tup [outY dec (.sym .u64 (.bin .sub .u64 x y)), .int .u64 (bif k then 1 else 0)])
    | none => none) else none)
  else none
section
variable (P : Program) (dec : Bx → Option Bool) (ev : Operand → Option AV)
def kBits (o : Oper) : Option OhR := match o.op with
  | .call c => match c.callee, c.args.toList with
    | .value f, [x, y, z] => match ev f, ev x, ev y, ev z with
      | some (.fn (.func g) [] []), some a, some b, some (.int .u64 cc) => match P.funcs[g]?, u64c a, u64c b with
        | some fn, some xs, some ys => if fn.body.isNone = true ∧ fn.origin = "" ∧ cc = 0 then (match bitsY dec fn.name xs ys with
          | some v => OhR.one v
          | none => none) else none
        | _, _, _ => none
      | _, _, _, _ => none
    | _, _ => none
  | _ => none
end
variable [Val] {P : Program} {R : Nat} {D : Nat → Prop} {φ : PM} {σ : St} {w : World} {dec : Bx → Option Bool}
theorem u64c_ok {a : AV} {e : Sx} {a' : Value} (h : u64c a = some e) (ha : VR φ a a') : a' = .int .u64 e.eval := by
  unfold u64c at h
  split at h
  · rename_i k n
    simp only [cond_eq_ite] at h
    split at h
    · rename_i hk
      simp only [Option.some.injEq] at h
      subst h
      cases ha
      cases k <;> simp only [isU64, reduceCtorEq] at hk
      rfl
    · cases h
  · rename_i k e'
    simp only [cond_eq_ite] at h
    split at h
    · rename_i hk
      simp only [Option.some.injEq] at h
      subst h
      cases ha
      cases k <;> simp only [isU64, reduceCtorEq] at hk
      rfl
    · cases h
  · cases h
theorem tup2_inv {k1 k2 : IntKind} {n1 n2 : Int} {v' : Value} (h : VR φ (.tup [.int k1 n1, .int k2 n2]) v') : v' = .tuple #[.int k1 n1, .int k2 n2] := by
  cases h with
  | tup l' hl =>
    obtain ⟨l, rfl⟩ : ∃ l : List Value, l' = l.toArray := ⟨l'.toList, by simp⟩
    cases hl with
    | cons h1 h2 => cases h2 with
      | cons h3 h4 => cases h4; cases h1; cases h3; rfl
theorem bitsY_ok (hdec : ∀ b x, dec b = some x → b.eval = x) {P : Program} {g : FuncId} {fn : Func} {x y : Sx} {v : AV} (hf : P.funcs[g]? = some fn) (hb : fn.body = none) (ho : fn.origin = "")
    (h : bitsY dec fn.name x y = some v) : ∃ n m r1 r2, x.eval = Int.ofNat n ∧ y.eval = Int.ofNat m ∧ callVA P (.fn (.func g) [] []) [.int .u64 (.ofNat n), .int .u64 (.ofNat m), .int .u64 (.ofNat 0)] σ = .val (.tup [.int .u64 r1, .int .u64 r2]) σ ∧
      ∀ ψ : PM, VR ψ v (.tuple #[.int .u64 r1, .int .u64 r2]) := by
  unfold bitsY at h
  simp only [cond_eq_ite] at h
  split at h
  · rename_i hn
    split at h
    · rename_i hno
      simp only [Option.some.injEq] at h
      subst h
      unfold noOver at hno
      split at hno
      · rename_i l1 h1 l2 h2 i1 i2
        simp only [Bool.and_eq_true] at hno
        have p1 := leZ_le hno.1.1
        have p2 := leZ_le hno.1.2
        have p3 := leZ_le hno.2
        have q1 := ivY_ok hdec _ _ _ i1
        have q2 := ivY_ok hdec _ _ _ i2
        obtain ⟨n, hn1⟩ := Int.eq_ofNat_of_zero_le (show 0 ≤ x.eval by omega)
        obtain ⟨m, hm1⟩ := Int.eq_ofNat_of_zero_le (show 0 ≤ y.eval by omega)
        have hs : n + m + 0 < 18446744073709551616 := by omega
        refine ⟨n, m, Int.ofNat ((n + m + 0) % 18446744073709551616), Int.ofNat ((n + m + 0) / 18446744073709551616), hn1, hm1, ?_, ?_⟩
        · have hname : externA fn.name (slRes P fn) [.int .u64 (.ofNat n), .int .u64 (.ofNat m), .int .u64 (.ofNat 0)] σ = .val (.tup [.int .u64 (Int.ofNat ((n + m + 0) % 18446744073709551616)), .int .u64 (Int.ofNat ((n + m + 0) / 18446744073709551616))]) σ := by
            rw [hn]
            rfl
          simp only [callVA, callFA, hf, hb, ho, List.nil_append, List.append_nil, if_true]
          exact hname
        · have e1 : (n + m + 0) % 18446744073709551616 = n + m := by omega
          have e2 : (n + m + 0) / 18446744073709551616 = 0 := by omega
          rw [e1, e2]
          intro ψ
          refine .tup _ (.cons ?_ (.cons (.int _ _) .nil))
          refine outY_ok hdec ?_
          have : (Sx.bin .add .u64 x y).eval = Int.ofNat (n + m) := by
            rw [Sx.eval_bin, hn1, hm1]
            have : wrapI .u64 ((n : Int) + (m : Int)) = (n : Int) + (m : Int) := wrap_in (k := .u64) (by simp only [kLo]; omega) (by simp only [kHi]; omega)
            simp only [arithI]
            rw [this]
            rfl
          rw [← this]
          exact .sym _ _
      · cases hno
    · cases h
  · split at h
    · rename_i hn0 hn
      split at h
      · rename_i hu
        simp only [Bool.and_eq_true] at hu
        have q1 := inB_ok hdec hu.1
        have q2 := inB_ok hdec hu.2
        split at h
        · rename_i k hk
          simp only [Option.some.injEq] at h
          subst h
          have hlt := decY_ok hdec _ _ hk
          obtain ⟨n, hn1⟩ := Int.eq_ofNat_of_zero_le q1.1
          obtain ⟨m, hm1⟩ := Int.eq_ofNat_of_zero_le q2.1
          refine ⟨n, m, Int.ofNat ((n + 18446744073709551616 - m - 0) % 18446744073709551616), (bif Nat.blt n (m + 0) then 1 else 0), hn1, hm1, ?_, ?_⟩
          · have hname : externA fn.name (slRes P fn) [.int .u64 (.ofNat n), .int .u64 (.ofNat m), .int .u64 (.ofNat 0)] σ = .val (.tup [.int .u64 (Int.ofNat ((n + 18446744073709551616 - m - 0) % 18446744073709551616)), .int .u64 (bif Nat.blt n (m + 0) then 1 else 0)]) σ := by
              rw [hn]
              rfl
            simp only [callVA, callFA, hf, hb, ho, List.nil_append, List.append_nil, if_true]
            exact hname
          · have hkb : Nat.blt n (m + 0) = k := by
              rw [← hlt]
              simp only [Bx.eval, compI, hn1, hm1]
              rw [Bool.eq_iff_iff]
              simp [Nat.blt]
              omega
            rw [hkb, cond_eq_ite]
            intro ψ
            refine .tup _ (.cons ?_ (.cons (.int _ _) .nil))
            refine outY_ok hdec ?_
            have : (Sx.bin .sub .u64 x y).eval = Int.ofNat ((n + 18446744073709551616 - m - 0) % 18446744073709551616) := by
              rw [Sx.eval_bin, hn1, hm1]
              simp only [arithI]
              rw [wrap_u64]
              simp only [Int.ofNat_eq_natCast]
              omega
            rw [← this]
            exact .sym _ _
        · cases h
      · cases h
    · cases h
theorem kBits_ok (hdec : ∀ b v, dec b = some v → b.eval = v) (hi : Inv0 R D φ σ w)
    {ev : Operand → Option AV} {a : Operand → Value} (hev : ∀ x v, ev x = some v → VR φ v (a x)) {o : Oper} {r : OhR} (h : kBits P dec ev o = some r) (hk : Known D σ (r.to σ)) (hfr : Free φ σ (r.to σ)) :
    ∃ φ' w' n v', (execOp a o).run P w = .ok n w' ∧ (n = .value v' ∨ (n = .skip ∧ v' = undef)) ∧ VR φ' r.v v' ∧ Post R D φ σ w (r.to σ) φ' w' := by
  unfold kBits at h
  split at h
  · rename_i c ho
    split at h
    · rename_i f x y z hc hargs
      split at h
      · rename_i g av bv cc hf hx hy hz
        split at h
        · rename_i fn xs ys hfn hxs hys
          split at h
          · rename_i hcond
            obtain ⟨hb, hor, rfl⟩ := hcond
            have hb : fn.body = none := by simpa using hb
            split at h
            · rename_i v hv
              simp only [OhR.one, Option.some.injEq] at h; subst h
              obtain ⟨n, m, r1, r2, hn, hm, hcall, hvr⟩ := bitsY_ok (σ := σ) hdec hfn hb hor hv
              have ex := u64c_ok hxs (hev _ _ hx)
              have ey := u64c_ok hys (hev _ _ hy)
              have ez := hev _ _ hz
              generalize hza : a z = z' at ez
              cases ez
              have ha : Array.map a c.args = #[a x, a y, a z] := by apply Array.ext'; simp [hargs]
              have hargs' : VRL φ [.int .u64 (.ofNat n), .int .u64 (.ofNat m), .int .u64 (.ofNat 0)] (Array.map a c.args).toList := by
                rw [ha, ex, ey, hn, hm, hza]
                exact .cons (.int _ _) (.cons (.int _ _) (.cons (.int _ _) .nil))
              have := callVA_ok (P := P) hi.inv (hev _ _ hf) hargs' (fun σ' h => by rw [hcall] at h; simp only [OR.st, Option.some.injEq] at h; subst h; exact hk) (fun σ' h => by rw [hcall] at h; simp only [OR.st, Option.some.injEq] at h; subst h; exact hfr)
              rw [hcall] at this
              obtain ⟨φ', w', nn, v', g1, g2, g3, g4⟩ := this
              have e := tup2_inv g3
              subst e
              have hx : execOp a o = (do let d ← Deferred.ofValue (a f) (Array.map a c.args); invoke d.target d.args) := by simp [execOp, ho, resolve, hc]
              exact ⟨φ', w', nn, _, by rw [hx]; exact g1, g2, hvr φ', g4⟩
            · cases h
          · cases h
        · cases h
      · cases h
    · cases h
  · cases h
end Go.Tw
set_option linter.unusedVariables false
set_option linter.unusedSimpArgs false
set_option linter.unusedSectionVars false
namespace Go.Tw
open Go
section
variable (P : Program) (dec : Bx → Option Bool) (ev : Operand → Option AV)
noncomputable def alikeT (σ : St) (id ver off lo : Nat) (n : Nat) : Option AV := match readN σ id ver (off + lo) (off + lo + n) n with
  | some (v :: l) => bif l.all (fun w => v.same w) then some v else none
  | _ => none
noncomputable def kTab (o : Oper) (σ : St) : Option OhR := match o.op with
  | .indexAddr t x i => match ev x, ev i with
    | some (.ptr id ver off hi), some (.sym k c) => match P.underlying t, ivY dec c with
      | some (.array n e), some (.ofNat a, .ofNat b) => match szOf P e with
        | some s => bif Nat.beq s 1 && (Nat.blt b n && Nat.ble (off + (b + 1)) hi) then OhR.one (.opq 6 id ver .bool c (.lit off)) else none
        | none => none
      | _, _ => none
    | _, _ => none
  | .nilCheck x => match ev x with
    | some (.opq k id ver sh c y) => bif Nat.beq k 6 then OhR.one (.opq k id ver sh c y) else none
    | _ => none
  | .load t x => match ev x with
    | some (.opq k id ver _ c (.lit (.ofNat off))) => bif Nat.beq k 6 then (match aggT P t, ivY dec c with
      | some false, some (.ofNat a, .ofNat b) => match alikeT σ id ver off a (b + 1 - a) with
        | some v => some ⟨v, [id], none, none⟩
        | none => none
      | _, _ => none) else none
    | _ => none
  | _ => none
end
variable [Val] {P : Program} {R : Nat} {D : Nat → Prop} {φ : PM} {σ : St} {w : World} {dec : Bx → Option Bool}
omit [Val] in
theorem alikeT_ok {id ver off lo n : Nat} {v : AV} (h : alikeT σ id ver off lo n = some v) : ∀ j, lo ≤ j → j < lo + n → readN σ id ver (off + j) (off + j + 1) 1 = some [v] := by
  unfold alikeT at h
  split at h
  · rename_i x l hr
    simp only [cond_eq_ite] at h
    split at h
    · rename_i hall
      simp only [Option.some.injEq] at h
      subst h
      intro j h1 h2
      obtain ⟨_, o, c, ho, hv, hcut⟩ := readN_ok hr
      obtain ⟨e1, e2⟩ := cut_ok hcut
      have hx : ∀ (i : Nat) (y : AV), (x :: l)[i]? = some y → y = x := by
        intro i y hy
        cases i with
        | zero => simpa using hy.symm
        | succ i =>
          simp only [List.getElem?_cons_succ] at hy
          have := List.all_eq_true.1 hall y (List.mem_of_getElem? hy)
          exact (AV.same_eq this).symm
      obtain ⟨k, rfl⟩ : ∃ k, j = lo + k := ⟨j - lo, by omega⟩
      have hk : k < (x :: l).length := by omega
      have hck : c[off + (lo + k)]? = some x := by
        have h3 : (x :: l)[k]? = some (x :: l)[k] := List.getElem?_eq_getElem hk
        have h4 := hx k _ h3
        rw [h4, e1, List.getElem?_take_of_lt (by omega), List.getElem?_drop] at h3
        rw [← h3]; congr 1; omega
      have hdrop : c.drop (off + (lo + k)) = x :: c.drop (off + (lo + k) + 1) := by
        have hlt : off + (lo + k) < c.length := by
          rcases Nat.lt_or_ge (off + (lo + k)) c.length with h' | h'
          · exact h'
          · rw [List.getElem?_eq_none h'] at hck; cases hck
        rw [List.drop_eq_getElem_cons hlt]
        rw [List.getElem?_eq_getElem hlt, Option.some.injEq] at hck
        rw [hck]
      have hble : Nat.ble (off + (lo + k) + 1) (off + (lo + k) + 1) = true := (by rw [Nat.ble_eq]; exact Nat.le_refl _)
      simp only [readN, hble, cond_true, ho, hv, cut, dropR_eq, hdrop]
      cases c.drop (off + (lo + k) + 1) <;> rfl
    · cases h
  · cases h
theorem kTab_ok (hdec : ∀ b v, dec b = some v → b.eval = v) (hi : Inv0 R D φ σ w)
    {ev : Operand → Option AV} {a : Operand → Value} (hev : ∀ x v, ev x = some v → VR φ v (a x)) {o : Oper} {r : OhR} (h : kTab P dec ev o σ = some r) (hk : Known D σ (r.to σ)) :
    ∃ φ' w' n v', (execOp a o).run P w = .ok n w' ∧ (n = .value v' ∨ (n = .skip ∧ v' = undef)) ∧ VR φ' r.v v' ∧ Post R D φ σ w (r.to σ) φ' w' := by
  unfold kTab at h
  split at h
  · rename_i t x i ho
    split at h
    · rename_i id ver off hi' k c hx hin
      split at h
      · rename_i n e p q hu hiv
        split at h
        · rename_i s hs
          simp only [cond_eq_ite] at h
          split at h
          · rename_i hb
            simp only [Bool.and_eq_true] at hb
            have b1 := beq_t hb.1; subst b1
            have b2 := blt_t hb.2.1
            have b3 := ble_t hb.2.2
            simp only [OhR.one, Option.some.injEq] at h; subst h
            have hr := ivY_ok hdec _ _ _ hiv
            obtain ⟨m, hm⟩ := Int.eq_ofNat_of_zero_le (show 0 ≤ c.eval by have := hr.1; simp only [Int.ofNat_eq_natCast] at this; omega)
            have hmq : m ≤ q := by have := hr.2; rw [hm] at this; simp only [Int.ofNat_eq_natCast] at this; omega
            have hiv' := hev _ _ hin
            generalize hai : a i = i' at hiv'
            cases hiv'
            have hix : indexAddrA P t (.ptr id ver off hi') (.int k c.eval) = some (.ptr id ver (off + m) (off + (m + 1))) := by
              have hidx : idx c.eval n = some m := by
                rw [hm]
                simp only [idx]
                have : Nat.blt m n = true := (by rw [Nat.blt_eq]; omega)
                simp [this]
              have : Nat.ble (off + (m + 1)) hi' = true := (by rw [Nat.ble_eq]; omega)
              simp only [indexAddrA, hu, hs, hidx, this, cond_true, Nat.mul_one]
            obtain ⟨v', g1, g2⟩ := indexAddrA_ok (P := P) (φ := φ) hix (hev _ _ hx) (.int _ _)
            refine ⟨φ, w, .value v', v', by simp [execOp, ho, hai, g1], .inl rfl, ?_, .same0 hi rfl rfl rfl⟩
            cases g2 with
            | ptr ex oo he hd hh hoo =>
              refine .opq _ ⟨ex, oo, he, ?_, ?_, ?_, rfl⟩
              all_goals
                have e1 : (Sx.lit (off : Int)).dat.toI.toNat = off := rfl
                have e2 : c.dat.toI.toNat = m := by
                  show c.eval.toNat = m
                  rw [hm]; rfl
                rw [e1, e2]
                omega
          · cases h
        · cases h
      · cases h
    · cases h
  · rename_i x ho
    split at h
    · rename_i k id ver sh c y hv
      rw [cond_eq_ite] at h
      split at h
      · rename_i hb
        have := beq_t hb; subst this
        simp only [OhR.one, Option.some.injEq] at h; subst h
        have hvr := hev _ _ hv
        have hvr' := hvr
        cases hvr' with
        | opq v' hkv =>
          obtain ⟨e, oo, h1, h2, h3, h4, h8⟩ := hkv
          refine ⟨φ, w, .value (a x), a x, ?_, .inl rfl, hvr, .same0 hi rfl rfl rfl⟩
          simp [execOp, ho, h8]
      · cases h
    · cases h
  · rename_i t x ho
    split at h
    · rename_i k id ver sh c off hv
      rw [cond_eq_ite] at h
      split at h
      · rename_i hb
        have := beq_t hb; subst this
        split at h
        · rename_i p q hagg hiv
          split at h
          · rename_i v hal
            simp only [Option.some.injEq] at h; subst h
            have hr := ivY_ok hdec _ _ _ hiv
            obtain ⟨m, hm⟩ := Int.eq_ofNat_of_zero_le (show 0 ≤ c.eval by have := hr.1; simp only [Int.ofNat_eq_natCast] at this; omega)
            have hmq : m ≤ q := by have := hr.2; rw [hm] at this; simp only [Int.ofNat_eq_natCast] at this; omega
            have hmp : p ≤ m := by have := hr.1; rw [hm] at this; simp only [Int.ofNat_eq_natCast] at this; omega
            have hrd := alikeT_ok hal m hmp (by omega)
            have hld : loadA P t (.ptr id ver (off + m) (off + m + 1)) σ = some (v, σ.lgR id) := by
              simp [loadA, hagg, hrd]
            have hvr : VR φ (.ptr id ver (off + m) (off + m + 1)) (a x) := by
              have hvr := hev _ _ hv
              generalize a x = ax at hvr
              cases hvr with
              | opq v' hkv =>
                obtain ⟨e, oo, h1, h2, h3, h4, h8⟩ := hkv
                have e1 : (Sx.lit (Int.ofNat off)).dat.toI.toNat = off := rfl
                have e2 : c.dat.toI.toNat = m := by
                  show c.eval.toNat = m
                  rw [hm]; rfl
                rw [e1, e2] at h2 h3 h4
                rw [h8]
                exact .ptr e oo h1 (by omega) (by omega) (by omega)
            obtain ⟨v', g1, g2, g3⟩ := loadA_ok (P := P) hi.inv hld hvr hk
            exact ⟨φ, w, .value v', v', by simp [execOp, ho, g1], .inl rfl, g2, g3⟩
          · cases h
        · cases h
      · cases h
    · cases h
  · cases h
end Go.Tw
/-! Cells of an object by a number that is not known: what is written there, and what is read. -/
set_option linter.unusedVariables false
set_option linter.unusedSimpArgs false
set_option linter.unusedSectionVars false
namespace Go.Tw
open Go
def selT (i : Sx) (n : Nat) (a b : Sx) : Sx := .cell (.pr 9 (.pr 12 b (.pr 14 (.lit 0) (.lit 0))) (.pr 12 a (.pr 14 (.lit 0) (.lit 0)))) (.pr 20 i (.lit (.ofNat n))) 0
def selOf : Sx → Option (Sx × Nat × Sx × Sx)
  | .cell (.pr 9 (.pr 12 b (.pr 14 _ _)) (.pr 12 a (.pr 14 _ _))) (.pr 20 i (.lit (.ofNat n))) 0 => some (i, n, a, b)
  | _ => none
def selS (i : Sx) (n : Nat) (a b : Sx) : Sx := match selOf b with
  | some (i', n', _, b') => bif i'.same i && Nat.beq n' n then selT i n a b' else selT i n a b
  | none => selT i n a b
def symC : AV → Option (IntKind × Sx)
  | .int k n => some (k, .lit n)
  | .sym k e => some (k, e)
  | _ => none
def kindB (k k' : IntKind) : Bool := Nat.beq (kindN k) (kindN k')
def updL (i : Sx) (k : IntKind) (e : Sx) (off p q : Nat) : Nat → List AV → Option (List AV)
  | _, [] => some []
  | j, c :: l => match updL i k e off p q (j + 1) l with
    | none => none
    | some l' => bif Nat.ble (off + p) j && Nat.ble j (off + q) then (match symC c with
      | some (k', b) => bif kindB k k' then some (.sym k (selS i (j - off) e b) :: l') else none
      | none => none) else some (c :: l')
def selAt (i : Sx) (n : Nat) : AV → Option (IntKind × Sx)
  | .sym k e => match selOf e with
    | some (i', n', a, _) => bif i'.same i && Nat.beq n' n then some (k, a) else none
    | none => none
  | _ => none
def selAll (i : Sx) (k : IntKind) (a : Sx) : Nat → List AV → Bool
  | _, [] => true
  | n, c :: l => (match selAt i n c with
    | some (k', a') => kindB k k' && a'.same a
    | none => false) && selAll i k a (n + 1) l
def selD (dec : Bx → Option Bool) : AV → Option AV
  | .sym k e => match selOf e with
    | some (i, n, a, b) => match decY (qd dec) (.cmp .eql i (.lit (.ofNat n))) with
      | some true => some (outY dec (.sym k a))
      | some false => some (outY dec (.sym k b))
      | none => none
    | none => none
  | _ => none
section
variable (P : Program) (dec : Bx → Option Bool) (ev : Operand → Option AV)
noncomputable def kArr (o : Oper) (σ : St) : Option OhR := match o.op with
  | .store t a x => match ev a, ev x with
    | some (.opq kk id ver _ c (.lit (.ofNat off))), some v => bif Nat.beq kk 6 && Nat.beq ver 0 then (match szOf P t, ivY dec c, symC v, σ.heap.get id with
      | some s, some (.ofNat p, .ofNat q), some (k, e), some (.box cells ty) => bif Nat.beq s 1 && Nat.blt (off + q) cells.length then (match updL c k e off p q 0 cells with
        | some cells' => some ⟨.tup [], [], some (id, .box cells' ty), none⟩
        | none => none) else none
      | _, _, _, _ => none) else none
    | _, _ => none
  | .load t x => match ev x with
    | some (.opq kk id ver _ c (.lit (.ofNat off))) => bif Nat.beq kk 6 then (match aggT P t, ivY dec c with
      | some false, some (.ofNat p, .ofNat q) => match readN σ id ver (off + p) (off + p + (q + 1 - p)) (q + 1 - p) with
        | some (w :: l) => match selAt c p w with
          | some (k, a) => bif selAll c k a (p + 1) l then some ⟨outY dec (.sym k a), [id], none, none⟩ else none
          | none => none
        | _ => none
      | _, _ => none) else none
    | some (.ptr id ver off hi) => match loadA P t (.ptr id ver off hi) σ with
      | some (w, _) => match selD dec w with
        | some v => some ⟨v, [id], none, none⟩
        | none => none
      | none => none
    | _ => none
  | _ => none
end
variable [v : Val] {P : Program} {R : Nat} {D : Nat → Prop} {φ φ' : PM} {σ : St} {w w' : World} {dec : Bx → Option Bool}
theorem Post.retold {id : Nat} {o o' : Ob} (h : Post R D φ σ w (σ.put id o) φ' w') (hr : Rep R φ' w' id (some o) → Rep R φ' w' id (some o')) : Post R D φ σ w (σ.put id o') φ' w' where
  le := h.le
  grow := h.grow
  wrR := h.wrR
  wf := h.wf
  blk := h.blk
  rep := fun i hi => by
    have h0 := h.rep i hi
    by_cases e : i = id
    · subst e
      have g : ∀ o : Ob, (σ.put i o).heap.get i = some o := fun o => by simp [St.put, T.get_set]
      rw [g] at h0 ⊢
      exact hr h0
    · have g : ∀ o : Ob, (σ.put id o).heap.get i = σ.heap.get i := fun o => by
        simp only [St.put, T.get_set]
        rw [if_neg (by first | exact e | exact fun h => e h.symm)]
      rw [g] at h0 ⊢
      exact h0
  frm := h.frm
theorem cell_sel (i a b x y z t : Sx) (n : Nat) : (Sx.cell (.pr 9 (.pr 12 b (.pr 14 x y)) (.pr 12 a (.pr 14 z t))) (.pr 20 i (.lit (.ofNat n))) 0).eval = if i.eval = (n : Int) then a.eval else b.eval := by
  show (Dat.cell (.lst ([[b.dat]] ++ [[a.dat]])) (b2i (i.dat.toI == (n : Int))) 0).toI = _
  by_cases h : i.eval = (n : Int)
  · have : (i.dat.toI == (n : Int)) = true := by rw [beq_iff_eq]; exact h
    rw [this, if_pos h]
    rfl
  · have : (i.dat.toI == (n : Int)) = false := by rw [beq_eq_false_iff_ne]; exact h
    rw [this, if_neg h]
    rfl
theorem selT_eval (i a b : Sx) (n : Nat) : (selT i n a b).eval = if i.eval = (n : Int) then a.eval else b.eval := cell_sel _ _ _ _ _ _ _ _
theorem selOf_eval {e i a b : Sx} {n : Nat} (h : selOf e = some (i, n, a, b)) : e.eval = if i.eval = (n : Int) then a.eval else b.eval := by
  unfold selOf at h
  split at h
  · simp only [Option.some.injEq, Prod.mk.injEq] at h
    obtain ⟨rfl, rfl, rfl, rfl⟩ := h
    exact cell_sel _ _ _ _ _ _ _ _
  · cases h
theorem selS_eval (i a b : Sx) (n : Nat) : (selS i n a b).eval = if i.eval = (n : Int) then a.eval else b.eval := by
  unfold selS
  split
  · rename_i i' n' a' b' hb
    rw [cond_eq_ite]
    split
    · rename_i hc
      simp only [Bool.and_eq_true] at hc
      have e1 := Sx.same_eq hc.1
      have e2 := beq_t hc.2
      subst e1; subst e2
      rw [selT_eval, selOf_eval hb]
      split <;> rfl
    · exact selT_eval _ _ _ _
  · exact selT_eval _ _ _ _
theorem symC_ok {a : AV} {k : IntKind} {e : Sx} {a' : Value} (h : symC a = some (k, e)) (ha : VR φ a a') : a' = .int k e.eval := by
  unfold symC at h
  split at h
  · simp only [Option.some.injEq, Prod.mk.injEq] at h
    obtain ⟨rfl, rfl⟩ := h
    cases ha; rfl
  · simp only [Option.some.injEq, Prod.mk.injEq] at h
    obtain ⟨rfl, rfl⟩ := h
    cases ha; rfl
  · cases h
theorem kindB_eq {k k' : IntKind} (h : kindB k k' = true) : k = k' := by
  have := beq_t h
  cases k <;> cases k' <;> first | rfl | (simp [kindN] at this)
theorem updL_ok {i : Sx} {k : IntKind} {e : Sx} {off p q m : Nat} (hi : i.eval = (m : Int)) (hp : p ≤ m) (hq : m ≤ q) : ∀ {l l' : List AV} {j : Nat}, updL i k e off p q j l = some l' →
    l'.length = l.length ∧ ∀ (x : Nat) (a' : AV), l'[x]? = some a' → ∃ a0, l[x]? = some a0 ∧ (x + j ≠ off + m → ∀ y, VR φ a0 y → VR φ a' y) ∧ (x + j = off + m → VR φ a' (.int k e.eval))
  | [], l', j, h => by
    simp only [updL, Option.some.injEq] at h
    subst h
    exact ⟨rfl, fun x a' hx => by cases hx⟩
  | c :: l, l', j, h => by
    unfold updL at h
    split at h
    · cases h
    · rename_i l2 hl2
      obtain ⟨h1, h2⟩ := updL_ok hi hp hq hl2
      simp only [cond_eq_ite] at h
      split at h
      · rename_i hb
        simp only [Bool.and_eq_true] at hb
        have b1 := ble_t hb.1
        have b2 := ble_t hb.2
        split at h
        · rename_i k' b hc
          split at h
          · rename_i hk
            have := kindB_eq hk
            subst this
            simp only [Option.some.injEq] at h
            subst h
            refine ⟨by simp [h1], fun x a' hx => ?_⟩
            cases x with
            | zero =>
              simp only [List.getElem?_cons_zero, Option.some.injEq] at hx
              subst hx
              have hs := selS_eval i e b (j - off)
              refine ⟨c, rfl, fun hne y hy => ?_, fun he => ?_⟩
              · have := symC_ok hc hy
                subst this
                rw [if_neg (by rw [hi]; omega)] at hs
                rw [← hs]
                exact .sym _ _
              · rw [if_pos (by rw [hi]; omega)] at hs
                rw [← hs]
                exact .sym _ _
            | succ x =>
              simp only [List.getElem?_cons_succ] at hx ⊢
              obtain ⟨a0, g1, g2, g3⟩ := h2 x a' hx
              exact ⟨a0, g1, fun hne => g2 (by omega), fun he => g3 (by omega)⟩
          · cases h
        · cases h
      · rename_i hb
        simp only [Option.some.injEq] at h
        subst h
        refine ⟨by simp [h1], fun x a' hx => ?_⟩
        cases x with
        | zero =>
          simp only [List.getElem?_cons_zero, Option.some.injEq] at hx
          subst hx
          refine ⟨c, rfl, fun _ y hy => hy, fun he => ?_⟩
          exfalso
          apply hb
          simp only [Bool.and_eq_true]
          exact ⟨by rw [Nat.ble_eq]; omega, by rw [Nat.ble_eq]; omega⟩
        | succ x =>
          simp only [List.getElem?_cons_succ] at hx ⊢
          obtain ⟨a0, g1, g2, g3⟩ := h2 x a' hx
          exact ⟨a0, g1, fun hne => g2 (by omega), fun he => g3 (by omega)⟩
theorem kv6_ptr {id ver off m : Nat} {sh : Sh} {c : Sx} {a' : Value} (hm : c.eval = (m : Int)) (h : VR φ (.opq 6 id ver sh c (.lit (.ofNat off))) a') : VR φ (.ptr id ver (off + m) (off + m + 1)) a' := by
  cases h with
  | opq v' hkv =>
    obtain ⟨e, oo, h1, h2, h3, h4, rfl⟩ := hkv
    have e1 : (Sx.lit (Int.ofNat off)).dat.toI.toNat = off := rfl
    have e2 : c.dat.toI.toNat = m := by
      show c.eval.toNat = m
      rw [hm]; rfl
    rw [e1, e2] at h2 h3 h4
    exact .ptr e oo h1 (by omega) (by omega) (by omega)
theorem iv_nat (hdec : ∀ b x, dec b = some x → b.eval = x) {c : Sx} {p q : Nat} (h : ivY dec c = some (.ofNat p, .ofNat q)) : ∃ m : Nat, c.eval = (m : Int) ∧ p ≤ m ∧ m ≤ q := by
  have hr := ivY_ok hdec _ _ _ h
  obtain ⟨m, hm⟩ := Int.eq_ofNat_of_zero_le (show 0 ≤ c.eval by have := hr.1; simp only [Int.ofNat_eq_natCast] at this; omega)
  refine ⟨m, hm, ?_, ?_⟩
  · have := hr.1; rw [hm] at this; simp only [Int.ofNat_eq_natCast] at this; omega
  · have := hr.2; rw [hm] at this; simp only [Int.ofNat_eq_natCast] at this; omega
theorem selAt_ok {i : Sx} {n : Nat} {c : AV} {k : IntKind} {a : Sx} {y : Value} (h : selAt i n c = some (k, a)) (hi : i.eval = (n : Int)) (hy : VR φ c y) : y = .int k a.eval := by
  unfold selAt at h
  split at h
  · rename_i k' e
    split at h
    · rename_i i' n' a' b' hs
      rw [cond_eq_ite] at h
      split at h
      · rename_i hc
        simp only [Bool.and_eq_true] at hc
        have e1 := Sx.same_eq hc.1
        have e2 := beq_t hc.2
        subst e1; subst e2
        simp only [Option.some.injEq, Prod.mk.injEq] at h
        obtain ⟨rfl, rfl⟩ := h
        cases hy
        rw [selOf_eval hs, if_pos hi]
      · cases h
    · cases h
  · cases h
theorem selAll_ok {i : Sx} {k : IntKind} {a : Sx} : ∀ {l : List AV} {n : Nat}, selAll i k a n l = true → ∀ (x : Nat) (c : AV), l[x]? = some c → selAt i (n + x) c = some (k, a)
  | [], _, _, x, c, hx => by cases hx
  | c :: l, n, h, x, c', hx => by
    simp only [selAll, Bool.and_eq_true] at h
    cases x with
    | zero =>
      simp only [List.getElem?_cons_zero, Option.some.injEq] at hx
      subst hx
      have h1 := h.1
      split at h1
      · rename_i k' a' hs
        simp only [Bool.and_eq_true] at h1
        have e1 := kindB_eq h1.1
        have e2 := Sx.same_eq h1.2
        subst e1; subst e2
        exact hs
      · cases h1
    | succ x =>
      have := selAll_ok h.2 x c' (by simpa using hx)
      rw [← this]; congr 1; omega
theorem selD_ok (hdec : ∀ b x, dec b = some x → b.eval = x) {c r : AV} {y : Value} (h : selD dec c = some r) (hy : VR φ c y) : VR φ r y := by
  unfold selD at h
  split at h
  · rename_i k e
    split at h
    · rename_i i n a b hs
      have he := selOf_eval hs
      cases hy
      split at h
      · rename_i hd
        have := decY_ok (qd_ok hdec) _ _ hd
        simp only [Bx.eval, compI, beq_iff_eq, Sx.eval_lit] at this
        simp only [Option.some.injEq] at h
        subst h
        rw [if_pos (show i.eval = (n : Int) from this)] at he
        rw [he]
        exact outY_ok hdec (.sym _ _)
      · rename_i hd
        have := decY_ok (qd_ok hdec) _ _ hd
        simp only [Bx.eval, compI, beq_eq_false_iff_ne, Sx.eval_lit] at this
        simp only [Option.some.injEq] at h
        subst h
        rw [if_neg (show ¬ i.eval = (n : Int) from this)] at he
        rw [he]
        exact outY_ok hdec (.sym _ _)
      · cases h
    · cases h
  · cases h
omit v in
theorem cut_get {c l : List AV} {off n : Nat} (h : cut c off n = some l) {x : Nat} {a : AV} (hx : l[x]? = some a) : cut c (off + x) 1 = some [a] := by
  obtain ⟨e1, e2⟩ := cut_ok h
  have hxl : x < l.length := by
    rcases Nat.lt_or_ge x l.length with h' | h'
    · exact h'
    · rw [List.getElem?_eq_none h'] at hx; cases hx
  have hc : c[off + x]? = some a := by
    rw [e1, List.getElem?_take_of_lt (by omega), List.getElem?_drop] at hx
    exact hx
  have hlt : off + x < c.length := by
    rcases Nat.lt_or_ge (off + x) c.length with h' | h'
    · exact h'
    · rw [List.getElem?_eq_none h'] at hc; cases hc
  have hdrop : c.drop (off + x) = a :: c.drop (off + x + 1) := by
    rw [List.drop_eq_getElem_cons hlt]
    rw [List.getElem?_eq_getElem hlt, Option.some.injEq] at hc
    rw [hc]
  unfold cut
  rw [dropR_eq, hdrop]
  cases c.drop (off + x + 1) <;> rfl
omit v in
theorem readN_get {id ver off n : Nat} {l : List AV} (h : readN σ id ver off (off + n) n = some l) {x : Nat} {a : AV} (hx : l[x]? = some a) : readN σ id ver (off + x) (off + x + 1) 1 = some [a] := by
  obtain ⟨_, o, c, ho, hv, hcut⟩ := readN_ok h
  have hble : Nat.ble (off + x + 1) (off + x + 1) = true := by rw [Nat.ble_eq]; exact Nat.le_refl _
  simp only [readN, hble, cond_true, ho, hv, cut_get hcut hx]
omit v in
theorem loadA_st {t : TypeId} {id ver off hi : Nat} {c1 : AV} {σ1 : St} (h : loadA P t (.ptr id ver off hi) σ = some (c1, σ1)) : σ1 = σ.lgR id := by
  simp only [loadA] at h
  repeat' split at h
  all_goals first
    | (cases h; done)
    | (simp only [Option.some.injEq, Prod.mk.injEq] at h; exact h.2.symm)
theorem kArr_ok (hdec : ∀ b v, dec b = some v → b.eval = v) (hi : Inv0 R D φ σ w)
    {ev : Operand → Option AV} {a : Operand → Value} (hev : ∀ x v, ev x = some v → VR φ v (a x)) {o : Oper} {r : OhR} (h : kArr P dec ev o σ = some r) (hk : Known D σ (r.to σ)) :
    ∃ φ' w' n v', (execOp a o).run P w = .ok n w' ∧ (n = .value v' ∨ (n = .skip ∧ v' = undef)) ∧ VR φ' r.v v' ∧ Post R D φ σ w (r.to σ) φ' w' := by
  unfold kArr at h
  split at h
  · rename_i t pa px ho
    split at h
    · rename_i kk id ver sh c off vv hpa hpx
      rw [cond_eq_ite] at h
      split at h
      · rename_i hb
        simp only [Bool.and_eq_true] at hb
        have b1 := beq_t hb.1
        have b2 := beq_t hb.2
        subst b1; subst b2
        split at h
        · rename_i s p q k e cells ty hsz hiv hsym hob
          rw [cond_eq_ite] at h
          split at h
          · rename_i hc
            simp only [Bool.and_eq_true] at hc
            have c1 := beq_t hc.1
            have c2 := blt_t hc.2
            subst c1
            split at h
            · rename_i cells' hupd
              simp only [Option.some.injEq] at h
              subst h
              obtain ⟨m, hm, hp, hq⟩ := iv_nat hdec hiv
              have hvv := symC_ok hsym (hev _ _ hpx)
              have hflat : vv.cells = [vv] ∧ vv.flat = true := by
                unfold symC at hsym
                split at hsym <;> first | exact ⟨rfl, rfl⟩ | cases hsym
              have hto : ∀ c' : List AV, ((⟨.tup [], [], some (id, .box c' ty), none⟩ : OhR).to σ) = σ.put id (.box c' ty) := fun c' => by
                unfold OhR.to lgAll
                simp only [hob]
              rw [hto] at hk ⊢
              have hst : storeA P t (.ptr id 0 (off + m) (off + m + 1)) vv σ = some (σ.put id (.box (splice cells (off + m) [vv]) ty)) := by
                have g1 : Nat.ble (off + m + 1) (off + m + 1) = true := by rw [Nat.ble_eq]; exact Nat.le_refl _
                have g2 : Nat.ble (off + m + 1) cells.length = true := by rw [Nat.ble_eq]; omega
                simp [storeA, hsz, hflat.1, writeN, hflat.2, hob, Ob.write, g1, g2]
              obtain ⟨w', r1, r2⟩ := storeA_ok (P := P) hi.inv hst (kv6_ptr hm (hev _ _ hpa)) (hev _ _ hpx) (fun i hh hl => hk i hh hl)
              refine ⟨φ, w', .skip, undef, ?_, .inr ⟨rfl, rfl⟩, ?_, r2.retold fun hrep => ?_⟩
              · simp [execOp, ho, r1]
              · exact .tup _ .nil
              · obtain ⟨hR, ee, cs, fl, fh, k1, k2, k3, k4, k5, k6, k7, k8⟩ := hrep
                obtain ⟨u1, u2⟩ := updL_ok (φ := φ) hm hp hq hupd
                have hsl : (splice cells (off + m) [vv]).length = cells.length := splice_length (by simp; omega)
                refine ⟨hR, ee, cs, fl, fh, k1, k2, k3, k4, by rw [u1, ← hsl]; exact k5, by rw [u1, ← hsl]; exact k6, ?_, by rw [u1, ← hsl]; exact k8⟩
                refine VRL.of_get (by rw [u1, ← hsl]; exact k7.length.symm) fun x a1 y hx hy => ?_
                obtain ⟨a0, g1, g2, g3⟩ := u2 x a1 hx
                have hg := splice_get (l := cells) (vs := [vv]) (off := off + m) (by simp; omega) x
                by_cases hxe : x = off + m
                · have : (splice cells (off + m) [vv])[x]? = some vv := by
                    rw [hg, if_neg (by omega), if_pos (by simp; omega)]
                    simp [hxe]
                  obtain ⟨y', hy', hvr⟩ := k7.get this
                  rw [hy] at hy'
                  simp only [Option.some.injEq] at hy'
                  subst hy'
                  have := symC_ok hsym hvr
                  subst this
                  exact g3 (by omega)
                · have : (splice cells (off + m) [vv])[x]? = some a0 := by
                    rw [hg]
                    split
                    · exact g1
                    · rw [if_neg (by simp; omega)]; exact g1
                  obtain ⟨y', hy', hvr⟩ := k7.get this
                  rw [hy] at hy'
                  simp only [Option.some.injEq] at hy'
                  subst hy'
                  exact g2 (by omega) _ hvr
            · cases h
          · cases h
        · cases h
      · cases h
    · cases h
  · rename_i t x ho
    split at h
    · rename_i kk id ver sh c off hx
      rw [cond_eq_ite] at h
      split at h
      · rename_i hb
        have b1 := beq_t hb
        subst b1
        split at h
        · rename_i p q hagg hiv
          split at h
          · rename_i c0 l hrd
            split at h
            · rename_i k e hs0
              rw [cond_eq_ite] at h
              split at h
              · rename_i hall
                simp only [Option.some.injEq] at h
                subst h
                obtain ⟨m, hm, hp, hq⟩ := iv_nat hdec hiv
                obtain ⟨u, hu⟩ : ∃ u, m = p + u := ⟨m - p, by omega⟩
                have hlen := (cut_ok (readN_ok hrd).2.choose_spec.choose_spec.2.2).2
                have hget : ∃ c1, (c0 :: l)[u]? = some c1 := ⟨_, List.getElem?_eq_getElem (by omega)⟩
                obtain ⟨c1, hc1⟩ := hget
                have hsel : selAt c m c1 = some (k, e) := by
                  cases u with
                  | zero =>
                    simp only [List.getElem?_cons_zero, Option.some.injEq] at hc1
                    subst hc1
                    rw [hu]; exact hs0
                  | succ u =>
                    have := selAll_ok hall u c1 (by simpa using hc1)
                    rw [← this, hu]; congr 1; omega
                have hr1 := readN_get hrd hc1
                have hld : loadA P t (.ptr id ver (off + m) (off + m + 1)) σ = some (c1, σ.lgR id) := by
                  rw [show off + m = off + p + u by omega]
                  simp [loadA, hagg, hr1]
                obtain ⟨v', g1, g2, g3⟩ := loadA_ok (P := P) hi.inv hld (kv6_ptr hm (hev _ _ hx)) hk
                have := selAt_ok hsel hm g2
                subst this
                exact ⟨φ, w, .value _, _, by simp [execOp, ho, g1], .inl rfl, outY_ok hdec (.sym _ _), g3⟩
              · cases h
            · cases h
          · cases h
        · cases h
      · cases h
    · rename_i id ver off hi' hx
      split at h
      · rename_i c1 σ1 hld
        split at h
        · rename_i v1 hs
          simp only [Option.some.injEq] at h
          subst h
          have hσ : σ1 = σ.lgR id := loadA_st hld
          subst hσ
          obtain ⟨v', g1, g2, g3⟩ := loadA_ok (P := P) hi.inv hld (hev _ _ hx) hk
          exact ⟨φ, w, .value v', v', by simp [execOp, ho, g1], .inl rfl, selD_ok hdec hs g2, g3⟩
        · cases h
      · cases h
    · cases h
  · cases h
end Go.Tw
namespace Go.Tw
noncomputable section
def kOp (P : Program) (dec : Bx → Option Bool) (ev : Operand → Option AV) (o : Oper) (σ : St) : Option OhR := match kSy P dec ev o with
  | some r => some r
  | none => match kBits P dec ev o with
    | some r => some r
    | none => match kTab P dec ev o σ with
      | some r => some r
      | none => kArr P dec ev o σ
theorem kOp_ok [Val] : OhOk kOp := by
  intro P dec hdec R D φ σ w hi ev a hev o r h hnd hk hf
  unfold kOp at h
  split at h
  · rename_i r' hr
    simp only [Option.some.injEq] at h; subst h
    exact kSy_ok hdec hi hev hr
  split at h
  · rename_i r' hr
    simp only [Option.some.injEq] at h; subst h
    exact kBits_ok hdec hi hev hr hk hf
  split at h
  · rename_i r' hr
    simp only [Option.some.injEq] at h; subst h
    exact kTab_ok hdec hi hev hr hk
  exact kArr_ok hdec hi hev h hk
end
end Go.Tw
