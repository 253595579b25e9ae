/-
  A part of the proof that the abstract evaluator is sound for the model's machine. Conditions: those of each theorem, as it states them.
-/
import Derived.Test.YtelhnjgcijjngaaGreatDoorTwOps13
import Derived.Test.YtelhnjgcijjngaaGreatDoorTwY
set_option linter.all false
set_option linter.unusedSectionVars false
namespace Go.Tw
noncomputable section
/-! Operations of lists that are given: their length, a place in a row, its cells, a part. -/
def lenS (x : Sx) : Sx := .pr 7 x (.lit 0)
def cellAV (id : Nat) : Sh → Sx → AV
  | .int k, e => .sym k e
  | .bool, e => .symb (.cmp .neq e (.lit 0))
  | .str, e => .vstr e
  | .slc l, e => .opq 0 id 0 (.slc l) e (.lit 0)
def cellsAV (id : Nat) (x i : Sx) : List Sh → Nat → List AV
  | [], _ => []
  | s :: l, off => cellAV id s (.cell x i off) :: cellsAV id x i l (off + 1)
def frz (σ : St) (id : Nat) : Bool := match σ.heap.get id with
  | some (.opq k _ _ _ _ _ _ _) => Nat.beq k 0
  | _ => false
def frzRd (id : Nat) : List Nat := bif Nat.beq id gid then [gid] else [id, gid]
def frzOk (σ : St) (id : Nat) : Bool := frz σ id && frz σ gid
def OhR.one (v : AV) : Option OhR := some ⟨v, [], none, none⟩
def OhR.rdo (v : AV) (l : List Nat) : Option OhR := some ⟨v, l, none, none⟩
section
variable (P : Program) (dec : Bx → Option Bool) (ev : Operand → Option AV) (σ : St)
def k0Len (t : TypeId) (a : AV) : Option OhR := match a, P.underlying t with
  | .opq k _ _ _ x _, some (.slice _) => bif Nat.beq k 0 then OhR.one (.sym .i64 (lenS x)) else none
  | _, _ => none
def k0Index (t : TypeId) (a i : AV) : Option OhR := match a, P.underlying t, sxOf i with
  | .opq k id _ (.slc l) x _, some (.slice e), some (_, n) => match szOf P e with
    | some s => bif Nat.beq k 0 && (Nat.beq s l.length && Nat.blt 0 s && (isT dec (.cmp .geq n (.lit 0)) && isT dec (.cmp .lss n (lenS x)))) then OhR.one (.opq 1 id 0 (.slc l) x n) else none
    | none => none
  | _, _, _ => none
def k0Field (t : TypeId) (a : AV) (f : Nat) : Option OhR := match a, P.underlying t with
  | .opq k id off (.slc l) x n, some (.struct fs) => match fs[f]? with
    | some fd => match szOf P fd.type with
      | some s => bif Nat.beq k 1 && (Nat.blt 0 s && Nat.ble (off + fd.offset) l.length) then OhR.one (.opq 1 id (off + fd.offset) (.slc l) x n) else none
      | none => none
    | none => none
  | _, _ => none
def k0Load (t : TypeId) (a : AV) : Option OhR := match a, aggT P t with
  | .opq k id off (.slc l) x n, some false => match l[off]? with
    | some s => bif Nat.beq k 1 && frzOk σ id then OhR.rdo (cellAV id s (.cell x n off)) (frzRd id) else none
    | none => none
  | .opq k id off (.slc l) x n, some true => match szOf P t with
    | some s => bif Nat.beq k 1 && (Nat.ble (off + s) l.length && frzOk σ id) then OhR.rdo (.agg (cellsAV id x n ((l.drop off).take s) off)) (frzRd id) else none
    | none => none
  | _, _ => none
def k0Slice (t : TypeId) (a : AV) (lo hi mx : Option AV) : Option OhR := match a, P.underlying t, mx with
  | .opq k id _ (.slc l) x _, some (.slice e), none => match szOf P e, bndS (.lit 0) lo, bndS (lenS x) hi with
    | some s, some p, some q => bif Nat.beq k 0 && (Nat.beq s l.length && (isT dec (.cmp .geq p (.lit 0)) && isT dec (.cmp .leq p q) && isT dec (.cmp .leq q (lenS x)))) then OhR.one (.opq 0 id 0 (.slc l) (.pr 11 (.pr 10 x q) p) (.lit 0)) else none
    | _, _, _ => none
  | _, _, _ => none
def k0Nil (a : AV) : Option OhR := match a with
  | .opq k id off sh x n => bif Nat.beq k 1 then OhR.one (.opq k id off sh x n) else none
  | _ => none
def k0Op (o : Oper) : Option OhR := match o.op with
  | .call c => match c.callee, c.argTypes.toList, c.args.toList with
    | .builtin .len, t :: _, [a] => match ev a with
      | some v => k0Len P t v
      | none => none
    | _, _, _ => none
  | .indexAddr t a i => match ev a, ev i with
    | some v, some n => k0Index P dec t v n
    | _, _ => none
  | .fieldAddr t a f => match ev a with
    | some v => k0Field P t v f
    | none => none
  | .load t a => match ev a with
    | some v => k0Load P σ t v
    | none => none
  | .nilCheck a => match ev a with
    | some v => k0Nil v
    | none => none
  | .slice t a lo hi mx => match ev a with
    | some (.opq k id ver sh x y) => match (match lo with
        | none => some none
        | some q => (ev q).map some), (match hi with
        | none => some none
        | some q => (ev q).map some), mx with
      | some lo, some hi, none => k0Slice P dec t (.opq k id ver sh x y) lo hi none
      | _, _, _ => none
    | _ => none
  | _ => none
end
section
variable [Val] {P : Program} {R : Nat} {D : Nat → Prop} {φ : PM} {σ : St} {w : World} {dec : Bx → Option Bool}
theorem Inv0.inv (h : Inv0 R D φ σ w) : Inv R { Cfg.none with base := fun _ => none } D φ σ w :=
  { wf := h.wf, low := h.low, rep := h.rep, gl := fun _ _ h => by simp [Cfg.none] at h, dom := h.dom, pin := fun _ _ h => by simp [Cfg.none] at h, dec := fun _ _ h => by simp [Cfg.none] at h, wrR := h.wrR, ro := fun _ _ => trivial, oh := OhOk.none }
theorem Inv0.lt (h : Inv0 R D φ σ w) {id : Nat} {o : Ob} (ho : σ.heap.get id = some o) : id < σ.next := by
  rcases Nat.lt_or_ge id σ.next with h1 | h1
  · exact h1
  · rw [h.dom id h1] at ho; cases ho
theorem Post.same0 {σ' : St} (hi : Inv0 R D φ σ w) (hh : σ'.heap = σ.heap) (hn : σ'.next = σ.next) (hw : σ'.wr = σ.wr) : Post R D φ σ w σ' φ w where
  le := φ.le_refl
  grow := fun _ _ _ _ => rfl
  wrR := fun i hi => .inl (hw ▸ hi)
  wf := hi.wf
  blk := fun i v e he => .inl ⟨v, e, he, rfl⟩
  rep := fun i h => by
    rcases h with ⟨hd, hl⟩ | ⟨h1, h2⟩
    · rw [hh]; exact hi.rep i hd hl
    · omega
  frm := .refl _ _ _
theorem Post.read (hi : Inv0 R D φ σ w) (l : List Nat) : Post R D φ σ w (lgAll l σ) φ w :=
  .same0 hi (lgAll_heap l σ).1 (lgAll_heap l σ).2.1 (lgAll_heap l σ).2.2
end
end
end Go.Tw
/-! Operations on numbers of known bounds. -/
set_option linter.unusedVariables false
set_option linter.unusedSimpArgs false
set_option linter.unusedSectionVars false
namespace Go.Tw
open Go
def isNY : AV → Bool
  | .sym _ _ => true
  | _ => false
def outY (dec : Bx → Option Bool) : AV → AV
  | .sym k e => match smpZ dec e with
    | .lit n => .int k n
    | e' => .sym k e'
  | .symb b => match decY (qd dec) b with
    | some x => .bool x
    | none => .symb b
  | v => v
section
variable (P : Program) (dec : Bx → Option Bool) (ev : Operand → Option AV)
noncomputable def kSy (o : Oper) : Option OhR := match o.op with
  | .binOp op t x y _ => match ev x, ev y with
    | some a, some b => bif (isNY a || isNY b) && eqGuardA P op t x y a b then (match binA P (decY dec) op t a b with
      | some r => OhR.one (outY dec r)
      | none => none) else none
    | _, _ => none
  | .convert s d x => match ev x with
    | some (.sym _ e) => match P.underlying s, P.underlying d with
      | some _, some (.int k) => OhR.one (outY dec (.sym k (.wrap k e)))
      | _, _ => none
    | _ => none
  | _ => none
end
variable [Val] {P : Program} {R : Nat} {D : Nat → Prop} {φ : PM} {σ : St} {w : World} {dec : Bx → Option Bool}
theorem outY_ok (hdec : ∀ b x, dec b = some x → b.eval = x) {v : AV} {v' : Value} (h : VR φ v v') : VR φ (outY dec v) v' := by
  unfold outY
  split
  · rename_i k e
    cases h
    have hs := smpZ_ok hdec e
    split
    · rename_i n hn
      rw [hn, Sx.eval_lit] at hs
      rw [← hs]
      exact .int _ _
    · rw [← hs]
      exact .sym _ _
  · rename_i b
    cases h
    split
    · rename_i x hx
      rw [decY_ok (qd_ok hdec) _ _ hx]
      exact .bool _
    · exact .symb _
  · exact h
theorem kSy_ok (hdec : ∀ b v, dec b = some v → b.eval = v) (hi : Inv0 R D φ σ w)
    {ev : Operand → Option AV} {a : Operand → Value} (hev : ∀ x v, ev x = some v → VR φ v (a x)) {o : Oper} {r : OhR} (h : kSy P dec ev o = some r) :
    ∃ φ' w' n v', (execOp a o).run P w = .ok n w' ∧ (n = .value v' ∨ (n = .skip ∧ v' = undef)) ∧ VR φ' r.v v' ∧ Post R D φ σ w (r.to σ) φ' w' := by
  unfold kSy at h
  split at h
  · rename_i op t x y ty ho
    split at h
    · rename_i av bv hav hbv
      simp only [cond_eq_ite] at h
      split at h
      · rename_i hg
        simp only [Bool.and_eq_true] at hg
        split at h
        · rename_i rv hr
          simp only [OhR.one, Option.some.injEq] at h; subst h
          obtain ⟨v', h1, h2⟩ := binA_ok (P := P) (decY_ok hdec) hr (hev _ _ hav) (hev _ _ hbv)
          exact ⟨φ, w, .value v', v', by simp [execOp, ho, eqGuardA_ok hg.2 (hev _ _ hav) (hev _ _ hbv), h1], .inl rfl, outY_ok hdec h2, .same0 hi rfl rfl rfl⟩
        · cases h
      · cases h
    · cases h
  · rename_i s d x ho
    split at h
    · rename_i k0 e hx
      split at h
      · rename_i _ k hs hd
        simp only [OhR.one, Option.some.injEq] at h; subst h
        have hv := hev _ _ hx
        generalize hax : a x = x' at hv
        cases hv
        have hr : VR φ (outY dec (.sym k (.wrap k e))) (.int k (k.wrap e.eval)) := outY_ok hdec (by rw [← wrapI_eq]; exact .sym k (.wrap k e))
        exact ⟨φ, w, .value (.int k (k.wrap e.eval)), _, by simp [execOp, ho, hax, convert, run_und hs, run_und hd, Conv.intToInt], .inl rfl, hr, .same0 hi rfl rfl rfl⟩
      · cases h
    · cases h
  · cases h
end Go.Tw
/-! bits.Add64 and bits.Sub64 of numbers of known bounds. -/
set_option linter.unusedVariables false
set_option linter.unusedSimpArgs false
set_option linter.unusedSectionVars false
namespace Go.Tw
open Go
def u64c : AV → Option Sx
  | .int k n => bif isU64 k then some (.lit n) else none
  | .sym k e => bif isU64 k then some e else none
  | _ => none
def noOver (dec : Bx → Option Bool) (x y : Sx) : Bool := match ivY dec x, ivY dec y with
  | some (l1, h1), some (l2, h2) => leZ 0 l1 && leZ 0 l2 && leZ (h1 + h2) 18446744073709551615
  | _, _ => false
def inU (dec : Bx → Option Bool) (x : Sx) : Bool := inB dec 0 18446744073709551615 x
def bitsY (dec : Bx → Option Bool) (nm : String) (x y : Sx) : Option AV :=
  if nm = "math/bits.Add64" then (bif noOver dec x y then some (.tup [outY dec (.sym .u64 (.bin .add .u64 x y)), .int .u64 0]) else none)
  else if nm = "math/bits.Sub64" then (bif inU dec x && inU dec y then (match decY dec (.cmp .lss x y) with
    | some k => some (.tup [outY dec (.sym .u64 (.bin .sub .u64 x y)), .int .u64 (bif k then 1 else 0)])
    | none => none) else none)
  else none
section
variable (P : Program) (dec : Bx → Option Bool) (ev : Operand → Option AV)
def kBits (o : Oper) : Option OhR := match o.op with
  | .call c => match c.callee, c.args.toList with
    | .value f, [x, y, z] => match ev f, ev x, ev y, ev z with
      | some (.fn (.func g) [] []), some a, some b, some (.int .u64 cc) => match P.funcs[g]?, u64c a, u64c b with
        | some fn, some xs, some ys => if fn.body.isNone = true ∧ fn.origin = "" ∧ cc = 0 then (match bitsY dec fn.name xs ys with
          | some v => OhR.one v
          | none => none) else none
        | _, _, _ => none
      | _, _, _, _ => none
    | _, _ => none
  | _ => none
end
variable [Val] {P : Program} {R : Nat} {D : Nat → Prop} {φ : PM} {σ : St} {w : World} {dec : Bx → Option Bool}
theorem u64c_ok {a : AV} {e : Sx} {a' : Value} (h : u64c a = some e) (ha : VR φ a a') : a' = .int .u64 e.eval := by
  unfold u64c at h
  split at h
  · rename_i k n
    simp only [cond_eq_ite] at h
    split at h
    · rename_i hk
      simp only [Option.some.injEq] at h
      subst h
      cases ha
      cases k <;> simp only [isU64, reduceCtorEq] at hk
      rfl
    · cases h
  · rename_i k e'
    simp only [cond_eq_ite] at h
    split at h
    · rename_i hk
      simp only [Option.some.injEq] at h
      subst h
      cases ha
      cases k <;> simp only [isU64, reduceCtorEq] at hk
      rfl
    · cases h
  · cases h
theorem tup2_inv {k1 k2 : IntKind} {n1 n2 : Int} {v' : Value} (h : VR φ (.tup [.int k1 n1, .int k2 n2]) v') : v' = .tuple #[.int k1 n1, .int k2 n2] := by
  cases h with
  | tup l' hl =>
    obtain ⟨l, rfl⟩ : ∃ l : List Value, l' = l.toArray := ⟨l'.toList, by simp⟩
    cases hl with
    | cons h1 h2 => cases h2 with
      | cons h3 h4 => cases h4; cases h1; cases h3; rfl
theorem bitsY_ok (hdec : ∀ b x, dec b = some x → b.eval = x) {P : Program} {g : FuncId} {fn : Func} {x y : Sx} {v : AV} (hf : P.funcs[g]? = some fn) (hb : fn.body = none) (ho : fn.origin = "")
    (h : bitsY dec fn.name x y = some v) : ∃ n m r1 r2, x.eval = Int.ofNat n ∧ y.eval = Int.ofNat m ∧ callVA P (.fn (.func g) [] []) [.int .u64 (.ofNat n), .int .u64 (.ofNat m), .int .u64 (.ofNat 0)] σ = .val (.tup [.int .u64 r1, .int .u64 r2]) σ ∧
      ∀ ψ : PM, VR ψ v (.tuple #[.int .u64 r1, .int .u64 r2]) := by
  unfold bitsY at h
  simp only [cond_eq_ite] at h
  split at h
  · rename_i hn
    split at h
    · rename_i hno
      simp only [Option.some.injEq] at h
      subst h
      unfold noOver at hno
      split at hno
      · rename_i l1 h1 l2 h2 i1 i2
        simp only [Bool.and_eq_true] at hno
        have p1 := leZ_le hno.1.1
        have p2 := leZ_le hno.1.2
        have p3 := leZ_le hno.2
        have q1 := ivY_ok hdec _ _ _ i1
        have q2 := ivY_ok hdec _ _ _ i2
        obtain ⟨n, hn1⟩ := Int.eq_ofNat_of_zero_le (show 0 ≤ x.eval by omega)
        obtain ⟨m, hm1⟩ := Int.eq_ofNat_of_zero_le (show 0 ≤ y.eval by omega)
        have hs : n + m + 0 < 18446744073709551616 := by omega
        refine ⟨n, m, Int.ofNat ((n + m + 0) % 18446744073709551616), Int.ofNat ((n + m + 0) / 18446744073709551616), hn1, hm1, ?_, ?_⟩
        · have hname : externA fn.name (slRes P fn) [.int .u64 (.ofNat n), .int .u64 (.ofNat m), .int .u64 (.ofNat 0)] σ = .val (.tup [.int .u64 (Int.ofNat ((n + m + 0) % 18446744073709551616)), .int .u64 (Int.ofNat ((n + m + 0) / 18446744073709551616))]) σ := by
            rw [hn]
            rfl
          simp only [callVA, callFA, hf, hb, ho, List.nil_append, List.append_nil, if_true]
          exact hname
        · have e1 : (n + m + 0) % 18446744073709551616 = n + m := by omega
          have e2 : (n + m + 0) / 18446744073709551616 = 0 := by omega
          rw [e1, e2]
          intro ψ
          refine .tup _ (.cons ?_ (.cons (.int _ _) .nil))
          refine outY_ok hdec ?_
          have : (Sx.bin .add .u64 x y).eval = Int.ofNat (n + m) := by
            rw [Sx.eval_bin, hn1, hm1]
            have : wrapI .u64 ((n : Int) + (m : Int)) = (n : Int) + (m : Int) := wrap_in (k := .u64) (by simp only [kLo]; omega) (by simp only [kHi]; omega)
            simp only [arithI]
            rw [this]
            rfl
          rw [← this]
          exact .sym _ _
      · cases hno
    · cases h
  · split at h
    · rename_i hn0 hn
      split at h
      · rename_i hu
        simp only [Bool.and_eq_true] at hu
        have q1 := inB_ok hdec hu.1
        have q2 := inB_ok hdec hu.2
        split at h
        · rename_i k hk
          simp only [Option.some.injEq] at h
          subst h
          have hlt := decY_ok hdec _ _ hk
          obtain ⟨n, hn1⟩ := Int.eq_ofNat_of_zero_le q1.1
          obtain ⟨m, hm1⟩ := Int.eq_ofNat_of_zero_le q2.1
          refine ⟨n, m, Int.ofNat ((n + 18446744073709551616 - m - 0) % 18446744073709551616), (bif Nat.blt n (m + 0) then 1 else 0), hn1, hm1, ?_, ?_⟩
          · have hname : externA fn.name (slRes P fn) [.int .u64 (.ofNat n), .int .u64 (.ofNat m), .int .u64 (.ofNat 0)] σ = .val (.tup [.int .u64 (Int.ofNat ((n + 18446744073709551616 - m - 0) % 18446744073709551616)), .int .u64 (bif Nat.blt n (m + 0) then 1 else 0)]) σ := by
              rw [hn]
              rfl
            simp only [callVA, callFA, hf, hb, ho, List.nil_append, List.append_nil, if_true]
            exact hname
          · have hkb : Nat.blt n (m + 0) = k := by
              rw [← hlt]
              simp only [Bx.eval, compI, hn1, hm1]
              rw [Bool.eq_iff_iff]
              simp [Nat.blt]
              omega
            rw [hkb, cond_eq_ite]
            intro ψ
            refine .tup _ (.cons ?_ (.cons (.int _ _) .nil))
            refine outY_ok hdec ?_
            have : (Sx.bin .sub .u64 x y).eval = Int.ofNat ((n + 18446744073709551616 - m - 0) % 18446744073709551616) := by
              rw [Sx.eval_bin, hn1, hm1]
              simp only [arithI]
              rw [wrap_u64]
              simp only [Int.ofNat_eq_natCast]
              omega
            rw [← this]
            exact .sym _ _
        · cases h
      · cases h
    · cases h
theorem kBits_ok (hdec : ∀ b v, dec b = some v → b.eval = v) (hi : Inv0 R D φ σ w)
    {ev : Operand → Option AV} {a : Operand → Value} (hev : ∀ x v, ev x = some v → VR φ v (a x)) {o : Oper} {r : OhR} (h : kBits P dec ev o = some r) (hk : Known D σ (r.to σ)) (hfr : Free φ σ (r.to σ)) :
    ∃ φ' w' n v', (execOp a o).run P w = .ok n w' ∧ (n = .value v' ∨ (n = .skip ∧ v' = undef)) ∧ VR φ' r.v v' ∧ Post R D φ σ w (r.to σ) φ' w' := by
  unfold kBits at h
  split at h
  · rename_i c ho
    split at h
    · rename_i f x y z hc hargs
      split at h
      · rename_i g av bv cc hf hx hy hz
        split at h
        · rename_i fn xs ys hfn hxs hys
          split at h
          · rename_i hcond
            obtain ⟨hb, hor, rfl⟩ := hcond
            have hb : fn.body = none := by simpa using hb
            split at h
            · rename_i v hv
              simp only [OhR.one, Option.some.injEq] at h; subst h
              obtain ⟨n, m, r1, r2, hn, hm, hcall, hvr⟩ := bitsY_ok (σ := σ) hdec hfn hb hor hv
              have ex := u64c_ok hxs (hev _ _ hx)
              have ey := u64c_ok hys (hev _ _ hy)
              have ez := hev _ _ hz
              generalize hza : a z = z' at ez
              cases ez
              have ha : Array.map a c.args = #[a x, a y, a z] := by apply Array.ext'; simp [hargs]
              have hargs' : VRL φ [.int .u64 (.ofNat n), .int .u64 (.ofNat m), .int .u64 (.ofNat 0)] (Array.map a c.args).toList := by
                rw [ha, ex, ey, hn, hm, hza]
                exact .cons (.int _ _) (.cons (.int _ _) (.cons (.int _ _) .nil))
              have := callVA_ok (P := P) hi.inv (hev _ _ hf) hargs' (fun σ' h => by rw [hcall] at h; simp only [OR.st, Option.some.injEq] at h; subst h; exact hk) (fun σ' h => by rw [hcall] at h; simp only [OR.st, Option.some.injEq] at h; subst h; exact hfr)
              rw [hcall] at this
              obtain ⟨φ', w', nn, v', g1, g2, g3, g4⟩ := this
              have e := tup2_inv g3
              subst e
              have hx : execOp a o = (do let d ← Deferred.ofValue (a f) (Array.map a c.args); invoke d.target d.args) := by simp [execOp, ho, resolve, hc]
              exact ⟨φ', w', nn, _, by rw [hx]; exact g1, g2, hvr φ', g4⟩
            · cases h
          · cases h
        · cases h
      · cases h
    · cases h
  · cases h
end Go.Tw
