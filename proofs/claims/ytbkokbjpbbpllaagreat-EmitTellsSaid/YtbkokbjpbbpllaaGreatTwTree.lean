/-
  A part of the proof that the abstract evaluator is sound for the model's machine. Conditions: those of each theorem, as it states them.
-/
import Derived.Test.YtbkokbjpbbpllaaGreatTwCon3
namespace Go.Tw
open Go.ChangeShapes Go.RowKit
/-! Trees of decisions: what comes of a piece of code, path by path, checked by one run of the kernel; a function told by such a tree. -/
inductive ST where
  | leaf (l : List Sx)
  | ask (b : Bx) (t e : ST)
  | none
inductive DT where
  | leaf
  | ask (b : Bx) (t e : DT)
  | dead (i : Nat)
def ST.val (v : Val) : ST → Nat → Dat
  | .leaf l, i => match l[i]? with
    | some e => @Sx.dat v e
    | Option.none => .int 0
  | .ask b t e, i => bif @Bx.eval v b then t.val v i else e.val v i
  | .none, _ => .int 0
noncomputable def ST.at (dec : Bx → Option Bool) : ST → Option (List Sx)
  | .leaf l => some l
  | .ask b t e => match dec b with
    | some x => bif x then t.at dec else e.at dec
    | Option.none => Option.none
  | .none => Option.none
noncomputable def rhoAuto (R : Nat) (tm : T AV) : List (Nat × AV) → List RE
  | [] => []
  | (t, x) :: l => match x, tm.get t with
    | .opq _ id' _ _ _ _, some (.opq _ id ver _ _ _) => bif Nat.ble R id' then { idn := id', ido := id, ver := ver } :: rhoAuto R tm l else rhoAuto R tm l
    | .opq _ id' _ _ _ _, some (.slc id ver _ len _ esz) => bif Nat.ble R id' && Nat.blt 0 len then { idn := id', ido := id, ver := ver, n := len * esz, t := t } :: rhoAuto R tm l else rhoAuto R tm l
    | _, _ => rhoAuto R tm l
noncomputable def treeOk (R nr : Nat) (e e' : AExit) (env : Env) (σ : St) : Bool := exitB e e' && σ.wr.all (fun i => Nat.ble (R + nr) i) && (match env.ds with
  | [] => true
  | _ => false) && (match env.md with
  | none => true
  | _ => false)
noncomputable def treeLeaf (R nr nb : Nat) (x : XR) (e : AExit) (tm' : List (Nat × AV)) (objs' : List (Nat × Ob)) (nx' : Nat) : Option Eqs := match x with
  | .ok e' env σ => bif treeOk R nr e e' env σ then mAll R nb (rhoAuto R env.tm tm') env.tm σ.bare tm' objs' nx' else none
  | _ => none
noncomputable def fitE (cmp : Sx → Sx → Bool) : Eqs → List Sx → List Sx → Bool
  | [], _, tg => match tg with
    | [] => true
    | _ => false
  | (a, t) :: E, l, tg => match l, tg with
    | x :: l, t' :: tg => cmp a x && t.same t' && fitE cmp E l tg
    | _, _ => false
noncomputable def deadOk (cores : List Dcs) (i : Nat) (p : Dcs) : Bool := match cores[i]? with
  | some c => c.all fun q => match decP p q.1 with
    | some x => boolB x q.2
    | none => false
  | none => false
noncomputable def DT.chk (cmp : Sx → Sx → Bool) (fin : Dcs → Option Eqs) (sp : ST) (tg : List Sx) (cores : List Dcs) : DT → Dcs → Bool
  | .leaf, p => match sp.at (decP p), fin p with
    | some l, some E => fitE cmp E l tg
    | _, _ => false
  | .ask b t f, p => t.chk cmp fin sp tg cores ((b, true) :: p) && f.chk cmp fin sp tg cores ((b, false) :: p)
  | .dead i, p => deadOk cores i p
section
variable {v v2 : Val}
theorem ST.at_val {dec : Bx → Option Bool} (hdec : ∀ b x, dec b = some x → @Bx.eval v b = x) : ∀ {sp : ST} {l : List Sx}, sp.at dec = some l → ∀ i, sp.val v i = (match l[i]? with
    | some e => @Sx.dat v e
    | Option.none => .int 0)
  | .leaf l, l', h, i => by
    simp only [ST.at, Option.some.injEq] at h; subst h; rfl
  | .ask b t e, l', h, i => by
    simp only [ST.at] at h
    split at h
    · rename_i x hx
      have := hdec _ _ hx
      simp only [ST.val, this]
      cases x with
      | true => exact ST.at_val hdec h i
      | false => exact ST.at_val hdec h i
    · cases h
  | .none, l', h, i => by cases h
theorem fitE_ok {cmp : Sx → Sx → Bool} (hcmp : ∀ a b, cmp a b = true → @Sx.dat v a = @Sx.dat v b) : ∀ {E : Eqs} {l tg : List Sx}, fitE cmp E l tg = true → (∀ (i : Nat) (t : Sx), tg[i]? = some t → @Sx.dat v2 t = (match l[i]? with
    | some e => @Sx.dat v e
    | Option.none => .int 0)) → EqsOk v v2 E
  | [], l, tg, _, _ => fun _ h => by cases h
  | (a, t) :: E, l, tg, h, k => by
    cases l with
    | nil => simp [fitE] at h
    | cons x l =>
      cases tg with
      | nil => simp [fitE] at h
      | cons t' tg =>
        simp only [fitE, Bool.and_eq_true] at h
        obtain ⟨⟨h1, h2⟩, h3⟩ := h
        have := Sx.same_eq h2; subst this
        refine List.forall_mem_cons.2 ⟨?_, fitE_ok hcmp h3 fun i u hu => k (i + 1) u (by simpa using hu)⟩
        have := k 0 t rfl
        exact (hcmp _ _ h1).trans this.symm
theorem deadOk_ok {cores : List Dcs} {i : Nat} {p : Dcs} (h : deadOk cores i p = true) (hp : @Holds v p) : ∃ c ∈ cores, @Holds v c := by
  unfold deadOk at h
  split at h
  · rename_i c hc
    refine ⟨c, List.mem_of_getElem? hc, fun q hq => ?_⟩
    have := List.all_eq_true.1 h q hq
    split at this
    · rename_i x hx
      rw [@decP_ok v _ hp _ _ hx]
      exact boolB_eq this
    · cases this
  · cases h
end
theorem HT.leaf {P : Program} {gl : Nat → Option Nat} {b : Base} {R nr nb nt : Nat} {v v2 : Val} (hb : BaseOk gl b R) (hrb : nr ≤ nb) {p : Dcs} (hp : @Holds v p) {hk : FuncId → List AV → St → CR} (hs : HkSteps (cfgP gl b p hk)) (hh : @HkOk v P R (cfgP gl b p hk))
    (hm : P.follows .mixedOrders = true) {n : Nat} {c : Code} {tm : T AV} {σ : St} {e : AExit} {tm' : List (Nat × AV)} {objs' : List (Nat × Ob)} {nx' : Nat} {E : Eqs}
    (h : treeLeaf R nr nb (exec P (cfgP gl b p hk) n nt c { tm := tm, ds := [], md := none, rd := false } σ) e tm' objs' nx' = some E) (hE : EqsOk v v2 E) : HT P gl b R nr nb nt v c tm σ e v2 (envL tm') (toldSt b objs' nx') := by
  unfold treeLeaf at h
  split at h
  · rename_i e' env σ' hx
    rw [cond_eq_ite] at h
    split at h
    · rename_i hg
      simp only [treeOk, Bool.and_eq_true] at hg
      obtain ⟨⟨⟨h1, h0⟩, h2⟩, h3⟩ := hg
      obtain ⟨rfl, hn⟩ := exitB_eq h1
      have hd : env.ds = [] := by
        split at h2
        · assumption
        · cases h2
      have hmd : env.md = none := by
        split at h3
        · assumption
        · cases h3
      exact (heap_exec hp hs hh hm hx hn hd hmd (fun i hi => ble_t (List.all_eq_true.1 h0 i hi))).ht hrb (retell_ok hb h hE)
    · cases h
  · cases h
theorem DT.ok {P : Program} {gl : Nat → Option Nat} {b : Base} {R nr nb nt : Nat} {v v2 : Val} (hb : BaseOk gl b R) (hrb : nr ≤ nb) {F : Nat → Dat → Dat → Dat → Dat} (hF : v.fn = F) {cons : List Con} (hc : ∀ c ∈ cons, c.Sound F P gl b R)
    (hm : P.follows .mixedOrders = true) {n : Nat} {c : Code} {l : List (Nat × AV)} {o : List (Nat × Ob)} {nx : Nat} {e : AExit} {l' : List (Nat × AV)} {o' : List (Nat × Ob)} {nx' : Nat}
    {cmp : Sx → Sx → Bool} (hcmp : ∀ a b, cmp a b = true → @Sx.dat v a = @Sx.dat v b) {sp : ST} {tg : List Sx} {cores : List Dcs} (hsp : ∀ (i : Nat) (t : Sx), tg[i]? = some t → @Sx.dat v2 t = sp.val v i) (hcores : ∀ c ∈ cores, ¬ @Holds v c) :
    ∀ {t : DT} {p : Dcs}, t.chk cmp (fun p => treeLeaf R nr nb (exec P (cfgP gl b p (conHk R (decP p) cons)) n nt c { tm := envL l, ds := [], md := none, rd := false } (toldSt b o nx)) e l' o' nx') sp tg cores p = true → @Holds v p →
      HT P gl b R nr nb nt v c (envL l) (toldSt b o nx) e v2 (envL l') (toldSt b o' nx')
  | .leaf, p, h, hp => by
    simp only [DT.chk] at h
    split at h
    · rename_i pl E h1 h2
      exact HT.leaf hb hrb hp (conHk_steps cons) (conHk_ok hb hp hF hc) hm h2 (fitE_ok hcmp h fun i t ht => (hsp i t ht).trans (ST.at_val (fun b x hx => @decP_ok v _ hp _ _ hx) h1 i))
    · cases h
  | .ask q t f, p, h, hp => by
    simp only [DT.chk, Bool.and_eq_true] at h
    cases hq : @Bx.eval v q with
    | true => exact DT.ok hb hrb hF hc hm hcmp hsp hcores h.1 (@Holds.cons v _ _ _ hq hp)
    | false => exact DT.ok hb hrb hF hc hm hcmp hsp hcores h.2 (@Holds.cons v _ _ _ hq hp)
  | .dead i, p, h, hp => by
    obtain ⟨c, h1, h2⟩ := deadOk_ok h hp
    exact absurd h2 (hcores c h1)
theorem HT.pre {P : Program} {gl : Nat → Option Nat} {b : Base} {R nr nb nt : Nat} {v0 v v2 : Val} (hrb : nr ≤ nb) {c : Code} {tm0 tm tm2 : T AV} {σ0 σ σ2 : St} {e : AExit} (k : Retell gl b R nr nb v0 tm0 σ0 v tm σ) (h : HT P gl b R nr nb nt v c tm σ e v2 tm2 σ2) :
    HT P gl b R nr nb nt v0 c tm0 σ0 e v2 tm2 σ2 := by
  intro a cs w φ ha
  obtain ⟨φ1, r1, r2⟩ := k _ _ _ _ ha
  refine (h a cs w φ1 r1).mono fun _ _ _ _ ⟨q1, q2, φ2, q3, q4⟩ => ⟨q1, q2, φ2, q3, r2.trans hrb q4⟩
/-! Data of lists, piece by piece: fa tells rows of two numbers, fb the same behind a list. -/
def flatX (fa fb : Nat) : Sx → List Sx
  | .pr f a b => bif Nat.beq f 9 then flatX fa fb a ++ flatX fa fb b else bif Nat.beq f 13 then [] else [.pr f a b]
  | .ap f a b c => bif Nat.beq f fb then flatX fa fb c ++ [.ap fa a b (.lit 0)] else [.ap f a b c]
  | .lit n => [.lit n]
  | .var i => [.var i]
  | .bin op k a b => [.bin op k a b]
  | .wrap k a => [.wrap k a]
  | .dvar i => [.dvar i]
  | .slit s => [.slit s]
  | .cell x i o => [.cell x i o]
  | .setc x i o c => [.setc x i o c]
  | .dlit d => [.dlit d]
def isLs (fa fb : Nat) : Sx → Bool
  | .pr f _ _ => Nat.beq f 9 || Nat.beq f 13
  | .ap f _ _ _ => Nat.beq f fa || Nat.beq f fb
  | _ => false
def sameSs : List Sx → List Sx → Bool
  | [], l => match l with
    | [] => true
    | _ => false
  | a :: l, m => match m with
    | b :: m => a.same b && sameSs l m
    | [] => false
def cmpX (fa fb : Nat) (a b : Sx) : Bool := bif a.same b then true else isLs fa fb a && (isLs fa fb b && sameSs (flatX fa fb a) (flatX fa fb b))
section
variable {v : Val} {fa fb : Nat}
theorem sameSs_eq : ∀ {l m : List Sx}, sameSs l m = true → l = m
  | [], m, h => by cases m <;> simp_all [sameSs]
  | a :: l, m, h => by
    cases m with
    | nil => simp [sameSs] at h
    | cons b m =>
      simp only [sameSs, Bool.and_eq_true] at h
      rw [Sx.same_eq h.1, sameSs_eq h.2]
theorem flatX_ok (hb : ∀ a b c, v.fn fb a b c = .lst (c.toL ++ (v.fn fa a b (.int 0)).toL)) : ∀ e : Sx, (@Sx.dat v e).toL = (flatX fa fb e).flatMap fun x => (@Sx.dat v x).toL := by
  intro e
  induction e with
  | pr f a b ih1 ih2 =>
    simp only [flatX, cond_eq_ite]
    split
    · rename_i h
      have := beq_t h; subst this
      rw [List.flatMap_append, ← ih1, ← ih2]; rfl
    · split
      · rename_i h
        have := beq_t h; subst this; rfl
      · simp
  | ap f a b c _ _ ih3 =>
    simp only [flatX, cond_eq_ite]
    split
    · rename_i h
      have := beq_t h; subst this
      rw [List.flatMap_append, ← ih3]
      simp only [Sx.dat, hb, List.flatMap_cons, List.flatMap_nil, List.append_nil, Dat.toL]
    · simp
  | _ => simp [flatX]
theorem isLs_ok (ha : ∀ a b c, v.fn fa a b c = .lst (v.fn fa a b c).toL) (hb : ∀ a b c, v.fn fb a b c = .lst (c.toL ++ (v.fn fa a b (.int 0)).toL)) {e : Sx} (h : isLs fa fb e = true) : @Sx.dat v e = .lst (@Sx.dat v e).toL := by
  cases e <;> simp only [isLs, Bool.false_eq_true, Bool.or_eq_true] at h
  · rcases h with h | h <;> (have := beq_t h; subst this; rfl)
  · rcases h with h | h <;> (have := beq_t h; subst this)
    · exact ha _ _ _
    · simp only [Sx.dat, hb, Dat.toL]
theorem cmpX_ok (ha : ∀ a b c, v.fn fa a b c = .lst (v.fn fa a b c).toL) (hb : ∀ a b c, v.fn fb a b c = .lst (c.toL ++ (v.fn fa a b (.int 0)).toL)) (a b : Sx) (h : cmpX fa fb a b = true) : @Sx.dat v a = @Sx.dat v b := by
  unfold cmpX at h
  rw [cond_eq_ite] at h
  split at h
  · rename_i hs; rw [Sx.same_eq hs]
  · simp only [Bool.and_eq_true] at h
    rw [isLs_ok ha hb h.1, isLs_ok ha hb h.2.1, flatX_ok hb a, flatX_ok hb b, sameSs_eq h.2.2]
end
def lenMax (fa fb n : Nat) : Sx → Option Nat
  | .pr f a b => bif Nat.beq f 9 then (match lenMax fa fb n a, lenMax fa fb n b with
      | some x, some y => some (x + y)
      | _, _ => none) else bif Nat.beq f 12 then some 1 else bif Nat.beq f 13 then some 0 else none
  | .ap f _ _ c => bif Nat.beq f fa then some n else bif Nat.beq f fb then (match lenMax fa fb n c with
      | some x => some (x + n)
      | none => none) else none
  | _ => none
theorem lenMax_ok {v : Val} {fa fb n : Nat} (hb : ∀ a b c, v.fn fb a b c = .lst (c.toL ++ (v.fn fa a b (.int 0)).toL)) (hn : ∀ a b c, (v.fn fa a b c).toL.length ≤ n) : ∀ {e : Sx} {m : Nat}, lenMax fa fb n e = some m → (@Sx.dat v e).toL.length ≤ m := by
  intro e
  induction e with
  | pr f a b ih1 ih2 =>
    intro m h
    simp only [lenMax, cond_eq_ite] at h
    split at h
    · rename_i hf
      have := beq_t hf; subst this
      split at h
      · rename_i x y hx hy
        simp only [Option.some.injEq] at h; subst h
        have h1 := ih1 hx
        have h2 := ih2 hy
        show ((@Sx.dat v a).toL ++ (@Sx.dat v b).toL).length ≤ _
        rw [List.length_append]; omega
      · cases h
    · split at h
      · rename_i hf
        have := beq_t hf; subst this
        simp only [Option.some.injEq] at h; subst h
        exact Nat.le_refl _
      · split at h
        · rename_i hf
          have := beq_t hf; subst this
          simp only [Option.some.injEq] at h; subst h
          exact Nat.le_refl _
        · cases h
  | ap f a b c _ _ ih3 =>
    intro m h
    simp only [lenMax, cond_eq_ite] at h
    split at h
    · rename_i hf
      have := beq_t hf; subst this
      simp only [Option.some.injEq] at h; subst h
      exact hn _ _ _
    · split at h
      · rename_i hf
        have := beq_t hf; subst this
        split at h
        · rename_i x hx
          simp only [Option.some.injEq] at h; subst h
          have h1 := ih3 hx
          have h2 := hn (@Sx.dat v a) (@Sx.dat v b) (.int 0)
          have e1 : @Sx.dat v (.ap f a b c) = .lst ((@Sx.dat v c).toL ++ (v.fn fa (@Sx.dat v a) (@Sx.dat v b) (.int 0)).toL) := hb _ _ _
          rw [e1]
          simp only [Dat.toL, List.length_append] at h1 h2 ⊢
          omega
        · cases h
      · cases h
  | _ => intro m h; simp [lenMax] at h
/-! What a tree speaks of. -/
def Sx.okB (nv nf : Nat) : Sx → Bool
  | .lit _ => true
  | .var _ => false
  | .bin _ _ a b => a.okB nv nf && b.okB nv nf
  | .wrap _ a => a.okB nv nf
  | .dvar i => Nat.blt i nv
  | .slit _ => true
  | .pr _ a b => a.okB nv nf && b.okB nv nf
  | .ap f a b c => Nat.blt f nf && (a.okB nv nf && (b.okB nv nf && c.okB nv nf))
  | .cell x i _ => x.okB nv nf && i.okB nv nf
  | .setc x i _ c => x.okB nv nf && (i.okB nv nf && c.okB nv nf)
  | .dlit _ => true
def Bx.okB (nv nf : Nat) : Bx → Bool
  | .cmp _ a b => a.okB nv nf && b.okB nv nf
  | .not b => b.okB nv nf
  | .seq a b => a.okB nv nf && b.okB nv nf
def ST.okB (nv nf : Nat) : ST → Bool
  | .leaf l => l.all (Sx.okB nv nf)
  | .ask b t e => b.okB nv nf && (t.okB nv nf && e.okB nv nf)
  | .none => true
section
variable {v v2 : Val} {nv nf : Nat}
theorem Sx.okB_dat (hd : ∀ i, i < nv → v.dat i = v2.dat i) (hf : ∀ f, f < nf → v.fn f = v2.fn f) : ∀ {e : Sx}, e.okB nv nf = true → @Sx.dat v e = @Sx.dat v2 e := by
  intro e
  induction e with
  | lit n => intro _; rfl
  | var i => intro h; cases h
  | bin op k a b ih1 ih2 => intro h; simp only [Sx.okB, Bool.and_eq_true] at h; simp only [Sx.dat, ih1 h.1, ih2 h.2]
  | wrap k a ih => intro h; simp only [Sx.okB] at h; simp only [Sx.dat, ih h]
  | dvar i => intro h; exact hd i (blt_t h)
  | slit s => intro _; rfl
  | pr f a b ih1 ih2 => intro h; simp only [Sx.okB, Bool.and_eq_true] at h; simp only [Sx.dat, ih1 h.1, ih2 h.2]
  | ap f a b c ih1 ih2 ih3 => intro h; simp only [Sx.okB, Bool.and_eq_true] at h; simp only [Sx.dat, ih1 h.2.1, ih2 h.2.2.1, ih3 h.2.2.2]; rw [hf f (blt_t h.1)]
  | cell x i o ih1 ih2 => intro h; simp only [Sx.okB, Bool.and_eq_true] at h; simp only [Sx.dat, ih1 h.1, ih2 h.2]
  | setc x i o c ih1 ih2 ih3 => intro h; simp only [Sx.okB, Bool.and_eq_true] at h; simp only [Sx.dat, ih1 h.1, ih2 h.2.1, ih3 h.2.2]
  | dlit d => intro _; rfl
theorem Bx.okB_eval (hd : ∀ i, i < nv → v.dat i = v2.dat i) (hf : ∀ f, f < nf → v.fn f = v2.fn f) : ∀ {b : Bx}, b.okB nv nf = true → @Bx.eval v b = @Bx.eval v2 b := by
  intro b
  induction b with
  | cmp op a c => intro h; simp only [Bx.okB, Bool.and_eq_true] at h; simp only [Bx.eval, Sx.eval, Sx.okB_dat hd hf h.1, Sx.okB_dat hd hf h.2]
  | not b ih => intro h; simp only [Bx.okB] at h; simp only [Bx.eval, ih h]
  | seq a c => intro h; simp only [Bx.okB, Bool.and_eq_true] at h; simp only [Bx.eval, Sx.okB_dat hd hf h.1, Sx.okB_dat hd hf h.2]
theorem ST.okB_val (hd : ∀ i, i < nv → v.dat i = v2.dat i) (hf : ∀ f, f < nf → v.fn f = v2.fn f) (i : Nat) : ∀ {t : ST}, t.okB nv nf = true → t.val v i = t.val v2 i
  | .leaf l, h => by
    simp only [ST.val]
    cases hi : l[i]? with
    | none => rfl
    | some e => exact Sx.okB_dat hd hf (List.all_eq_true.1 h e (List.mem_of_getElem? hi))
  | .ask b t e, h => by
    simp only [ST.okB, Bool.and_eq_true] at h
    simp only [ST.val, Bx.okB_eval hd hf h.1, ST.okB_val hd hf i h.2.1, ST.okB_val hd hf i h.2.2]
  | .none, _ => rfl
end
def ST.intAt (i : Nat) : ST → Bool
  | .leaf l => match l[i]? with
    | some e => intS? e
    | Option.none => true
  | .ask _ t e => t.intAt i && e.intAt i
  | .none => true
theorem intS_int {v : Val} {e : Sx} (h : intS? e = true) : @Sx.dat v e = .int (@Sx.dat v e).toI := by
  cases e <;> simp only [intS?, Bool.false_eq_true] at h
  · rfl
  · have := beq_t h; subst this; rfl
theorem ST.intAt_ok {v : Val} {i : Nat} : ∀ {t : ST}, t.intAt i = true → t.val v i = .int (t.val v i).toI
  | .leaf l, h => by
    simp only [ST.intAt] at h
    simp only [ST.val]
    cases hi : l[i]? with
    | none => rfl
    | some e => rw [hi] at h; exact intS_int h
  | .ask b t e, h => by
    simp only [ST.intAt, Bool.and_eq_true] at h
    simp only [ST.val]
    cases @Bx.eval v b with
    | true => exact ST.intAt_ok h.1
    | false => exact ST.intAt_ok h.2
  | .none, _ => rfl
end Go.Tw
namespace Go.Tw
/-! Which cores a tree uses. -/
def DT.deadsIn (q : Nat → Prop) : DT → Prop
  | .leaf => True
  | .ask _ t e => t.deadsIn q ∧ e.deadsIn q
  | .dead i => q i
theorem deadOk_at {v : Val} {cores : List Dcs} {i : Nat} {p : Dcs} (h : deadOk cores i p = true) (hp : @Holds v p) : ∃ c, cores[i]? = some c ∧ @Holds v c := by
  unfold deadOk at h
  split at h
  · rename_i c hc
    refine ⟨c, hc, fun q hq => ?_⟩
    have := List.all_eq_true.1 h q hq
    split at this
    · rename_i x hx
      rw [@decP_ok v _ hp _ _ hx]
      exact boolB_eq this
    · cases this
  · cases h
theorem DT.ok2 {P : Program} {gl : Nat → Option Nat} {b : Base} {R nr nb nt : Nat} {v v2 : Val} (hb : BaseOk gl b R) (hrb : nr ≤ nb) {F : Nat → Dat → Dat → Dat → Dat} (hF : v.fn = F) {cons : List Con} (hc : ∀ c ∈ cons, c.Sound F P gl b R)
    (hm : P.follows .mixedOrders = true) {n : Nat} {c : Code} {l : List (Nat × AV)} {o : List (Nat × Ob)} {nx : Nat} {e : AExit} {l' : List (Nat × AV)} {o' : List (Nat × Ob)} {nx' : Nat}
    {cmp : Sx → Sx → Bool} (hcmp : ∀ a b, cmp a b = true → @Sx.dat v a = @Sx.dat v b) {sp : ST} {tg : List Sx} {cores : List Dcs} (hsp : ∀ (i : Nat) (t : Sx), tg[i]? = some t → @Sx.dat v2 t = sp.val v i) :
    ∀ {t : DT} {p : Dcs}, t.deadsIn (fun i => ∀ c, cores[i]? = some c → ¬ @Holds v c) → t.chk cmp (fun p => treeLeaf R nr nb (exec P (cfgP gl b p (conHk R (decP p) cons)) n nt c { tm := envL l, ds := [], md := none, rd := false } (toldSt b o nx)) e l' o' nx') sp tg cores p = true → @Holds v p →
      HT P gl b R nr nb nt v c (envL l) (toldSt b o nx) e v2 (envL l') (toldSt b o' nx')
  | .leaf, p, _, h, hp => by
    simp only [DT.chk] at h
    split at h
    · rename_i pl E h1 h2
      exact HT.leaf hb hrb hp (conHk_steps cons) (conHk_ok hb hp hF hc) hm h2 (fitE_ok hcmp h fun i t ht => (hsp i t ht).trans (ST.at_val (fun b x hx => @decP_ok v _ hp _ _ hx) h1 i))
    · cases h
  | .ask q t f, p, hd, h, hp => by
    simp only [DT.chk, Bool.and_eq_true] at h
    cases hq : @Bx.eval v q with
    | true => exact DT.ok2 hb hrb hF hc hm hcmp hsp hd.1 h.1 (@Holds.cons v _ _ _ hq hp)
    | false => exact DT.ok2 hb hrb hF hc hm hcmp hsp hd.2 h.2 (@Holds.cons v _ _ _ hq hp)
  | .dead i, p, hd, h, hp => by
    obtain ⟨c, h1, h2⟩ := deadOk_at h hp
    exact absurd h2 (hd c h1)
def ST.eqAt (i j : Nat) : ST → Bool
  | .leaf l => match l[i]?, l[j]? with
    | some a, some b => a.same b
    | _, _ => false
  | .ask _ t e => t.eqAt i j && e.eqAt i j
  | .none => true
theorem ST.eqAt_ok {v : Val} {i j : Nat} : ∀ {t : ST}, t.eqAt i j = true → t.val v i = t.val v j
  | .leaf l, h => by
    simp only [ST.eqAt] at h
    simp only [ST.val]
    cases hi : l[i]? with
    | none => rw [hi] at h; simp at h
    | some a => cases hj : l[j]? with
      | none => rw [hi, hj] at h; simp at h
      | some b => rw [hi, hj] at h; rw [Sx.same_eq h]
  | .ask b t e, h => by
    simp only [ST.eqAt, Bool.and_eq_true] at h
    simp only [ST.val, ST.eqAt_ok h.1, ST.eqAt_ok h.2]
  | .none, _ => rfl
end Go.Tw
