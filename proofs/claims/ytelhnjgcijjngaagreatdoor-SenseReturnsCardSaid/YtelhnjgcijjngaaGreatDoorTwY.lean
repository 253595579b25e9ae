/-
  A part of the proof that the abstract evaluator is sound for the model's machine. Conditions: those of each theorem, as it states them.
-/
import Derived.Test.YtelhnjgcijjngaaGreatDoorTwPath
set_option linter.all false
/-! Numbers that are not known, in bounds: what is known of them, and simpler terms for them. -/
set_option linter.unusedVariables false
set_option linter.unusedSimpArgs false
set_option linter.unusedSectionVars false
namespace Go.Tw
open Go
def leZ : Int → Int → Bool
  | .ofNat a, .ofNat b => Nat.ble a b
  | .negSucc _, .ofNat _ => true
  | .ofNat _, .negSucc _ => false
  | .negSucc a, .negSucc b => Nat.ble b a
theorem leZ_le {a b : Int} (h : leZ a b = true) : a ≤ b := by
  cases a <;> cases b <;> simp only [leZ, reduceCtorEq] at h
  · have := Nat.le_of_ble_eq_true h; simp only [Int.ofNat_eq_natCast]; omega
  · simp only [Int.ofNat_eq_natCast]; omega
  · have := Nat.le_of_ble_eq_true h; omega
theorem intB_eq {a b : Int} (h : intB a b = true) : a = b := by
  cases a <;> cases b <;> simp only [intB, reduceCtorEq] at h
  · rw [Nat.eq_of_beq_eq_true h]
  · rw [Nat.eq_of_beq_eq_true h]
def kLo : IntKind → Int
  | .i8 => -128 | .i16 => -32768 | .i32 => -2147483648 | .i64 => -9223372036854775808 | _ => 0
def kHi : IntKind → Int
  | .i8 => 127 | .i16 => 32767 | .i32 => 2147483647 | .i64 => 9223372036854775807
  | .u8 => 255 | .u16 => 65535 | .u32 => 4294967295 | .u64 => 18446744073709551615
theorem wrap_in {k : IntKind} {n : Int} (h1 : kLo k ≤ n) (h2 : n ≤ kHi k) : wrapI k n = n := by
  rw [wrapI_eq]
  cases k <;> simp only [kLo, kHi] at h1 h2 <;> simp only [IntKind.wrap, IntKind.bits, IntKind.signed] <;> simp <;> (try split) <;> omega
theorem wrap_bounds (k : IntKind) (n : Int) : kLo k ≤ wrapI k n ∧ wrapI k n ≤ kHi k := by
  rw [wrapI_eq]
  cases k <;> simp only [kLo, kHi] <;> simp only [IntKind.wrap, IntKind.bits, IntKind.signed] <;> simp <;> (try split) <;> omega
theorem wrap_shift {k : IntKind} {l n h : Int} (h1 : l ≤ n) (h2 : n ≤ h) (e : wrapI k h - wrapI k l = h - l) : wrapI k n = wrapI k l + (n - l) := by
  rw [wrapI_eq, wrapI_eq] at *
  cases k <;> simp only [IntKind.wrap, IntKind.bits, IntKind.signed] at * <;> simp at * <;> (try split at e) <;> (try split at e) <;> (try split) <;> (try split) <;> omega
abbrev Iv := Option (Int × Int)
def ivW (k : IntKind) (l h : Int) : Iv := match wrapI k l, wrapI k h with
  | l', h' => bif intB (h' - l') (h - l) then some (l', h') else none
def InIv (r : Iv) (n : Int) : Prop := ∀ l h, r = some (l, h) → l ≤ n ∧ n ≤ h
theorem ivW_ok {k : IntKind} {l h n : Int} (h1 : l ≤ n) (h2 : n ≤ h) : InIv (ivW k l h) (wrapI k n) := by
  intro a b e
  unfold ivW at e
  simp only [cond_eq_ite] at e
  split at e
  · rename_i hb
    simp only [Option.some.injEq, Prod.mk.injEq] at e
    obtain ⟨rfl, rfl⟩ := e
    have := wrap_shift (k := k) h1 h2 (intB_eq hb)
    have := intB_eq hb
    omega
  · cases e
def ivBin (op : BinOp) (k : IntKind) (l1 h1 l2 h2 : Int) : Iv := match op with
  | .add => ivW k (l1 + l2) (h1 + h2)
  | .sub => ivW k (l1 - h2) (h1 - l2)
  | .mul => bif leZ 0 l1 && leZ 0 l2 then ivW k (l1 * l2) (h1 * h2) else none
  | .quo => bif leZ 0 l1 && leZ 1 l2 && intB l2 h2 then ivW k (l1.tdiv l2) (h1.tdiv l2) else none
  | .rem => bif leZ 0 l1 && leZ 1 l2 && intB l2 h2 then (bif leZ (h1 + 1) l2 then some (l1, h1) else some (0, l2 - 1)) else bif leZ 1 l2 && intB l2 h2 then some (1 - l2, l2 - 1) else none
  | .shl => bif intB l2 h2 then ivW k (l1 * 2 ^ (min l2.toNat k.bits)) (h1 * 2 ^ (min l2.toNat k.bits)) else none
  | .shr => bif intB l2 h2 then some (l1.fdiv (2 ^ (min l2.toNat k.bits)), h1.fdiv (2 ^ (min l2.toNat k.bits))) else none
  | .and => bif leZ 0 l1 && leZ 0 l2 && (leZ h1 (kHi k) && leZ h2 (kHi k)) then some (0, min h1 h2) else bif leZ 0 l2 && leZ h2 (kHi k) then some (0, h2) else none
  | _ => none
theorem fdiv_mono {a b p : Int} (hp : 0 < p) (h : a ≤ b) : a.fdiv p ≤ b.fdiv p := by
  rw [Int.fdiv_eq_ediv_of_nonneg _ (by omega), Int.fdiv_eq_ediv_of_nonneg _ (by omega)]
  exact Int.ediv_le_ediv hp h
theorem tdiv_mono {a b p : Int} (ha : 0 ≤ a) (hp : 0 < p) (h : a ≤ b) : a.tdiv p ≤ b.tdiv p := by
  rw [Int.tdiv_eq_ediv_of_nonneg ha, Int.tdiv_eq_ediv_of_nonneg (by omega)]
  exact Int.ediv_le_ediv hp h
theorem ivBin_ok {op : BinOp} {k : IntKind} {l1 h1 l2 h2 a b : Int} (ha1 : l1 ≤ a) (ha2 : a ≤ h1) (hb1 : l2 ≤ b) (hb2 : b ≤ h2) : InIv (ivBin op k l1 h1 l2 h2) (arithI op k a b) := by
  unfold ivBin arithI
  split <;> (try simp only [cond_eq_ite])
  · exact ivW_ok (by omega) (by omega)
  · exact ivW_ok (by omega) (by omega)
  · split
    · rename_i h
      simp only [Bool.and_eq_true] at h
      have p1 := leZ_le h.1
      have p2 := leZ_le h.2
      exact ivW_ok (Int.mul_le_mul ha1 hb1 p2 (by omega)) (Int.mul_le_mul ha2 hb2 (by omega) (by omega))
    · intro _ _ e; cases e
  · split
    · rename_i h
      simp only [Bool.and_eq_true] at h
      have p1 := leZ_le h.1.1
      have p2 := leZ_le h.1.2
      have p3 := intB_eq h.2
      have : b = l2 := by omega
      subst this
      exact ivW_ok (tdiv_mono p1 (by omega) ha1) (tdiv_mono (by omega) (by omega) ha2)
    · intro _ _ e; cases e
  · split
    · rename_i h
      simp only [Bool.and_eq_true] at h
      have p1 := leZ_le h.1.1
      have p2 := leZ_le h.1.2
      have p3 := intB_eq h.2
      have : b = l2 := by omega
      subst this
      have q : a.tmod b = a % b := Int.tmod_eq_emod_of_nonneg (by omega)
      split
      · rename_i h3
        have p4 := leZ_le h3
        intro _ _ e
        simp only [Option.some.injEq, Prod.mk.injEq] at e
        obtain ⟨rfl, rfl⟩ := e
        rw [q, Int.emod_eq_of_lt (by omega) (by omega)]
        exact ⟨ha1, ha2⟩
      · intro _ _ e
        simp only [Option.some.injEq, Prod.mk.injEq] at e
        obtain ⟨rfl, rfl⟩ := e
        rw [q]
        have := Int.emod_nonneg a (show b ≠ 0 by omega)
        have := Int.emod_lt_of_pos a (show 0 < b by omega)
        omega
    · split
      · rename_i h
        simp only [Bool.and_eq_true] at h
        have p2 := leZ_le h.1
        have p3 := intB_eq h.2
        have : b = l2 := by omega
        subst this
        intro _ _ e
        simp only [Option.some.injEq, Prod.mk.injEq] at e
        obtain ⟨rfl, rfl⟩ := e
        have q1 := Int.tmod_lt_of_pos a (show 0 < b by omega)
        have q2 := Int.lt_tmod_of_pos a (show 0 < b by omega)
        omega
      · intro _ _ e; cases e
  · split
    · rename_i h
      have p3 := intB_eq h
      have : b = l2 := by omega
      subst this
      have hp : (0 : Int) ≤ 2 ^ (min b.toNat k.bits) := Int.le_of_lt (Int.pow_pos (by omega))
      exact ivW_ok (Int.mul_le_mul_of_nonneg_right ha1 hp) (Int.mul_le_mul_of_nonneg_right ha2 hp)
    · intro _ _ e; cases e
  · split
    · rename_i h
      have p3 := intB_eq h
      have : b = l2 := by omega
      subst this
      intro _ _ e
      simp only [Option.some.injEq, Prod.mk.injEq] at e
      obtain ⟨rfl, rfl⟩ := e
      have hp : (0 : Int) < 2 ^ (min b.toNat k.bits) := Int.pow_pos (by omega)
      exact ⟨fdiv_mono hp ha1, fdiv_mono hp ha2⟩
    · intro _ _ e; cases e
  · have hof : ∀ n : Int, 0 ≤ n → n ≤ kHi k → ((BitVec.ofInt k.bits n).toNat : Int) = n := by
      intro n n1 n2
      rw [BitVec.toNat_ofInt]
      rw [Int.toNat_of_nonneg (Int.emod_nonneg _ (by have := Nat.two_pow_pos k.bits; omega))]
      refine Int.emod_eq_of_lt (by omega) ?_
      cases k <;> simp only [kHi, IntKind.bits] at * <;> omega
    have hle : ((BitVec.ofInt k.bits a) &&& (BitVec.ofInt k.bits b)).toNat ≤ (BitVec.ofInt k.bits b).toNat := by
      rw [BitVec.toNat_and]; exact Nat.and_le_right
    have hle2 : ((BitVec.ofInt k.bits a) &&& (BitVec.ofInt k.bits b)).toNat ≤ (BitVec.ofInt k.bits a).toNat := by
      rw [BitVec.toNat_and]; exact Nat.and_le_left
    have hlo : kLo k ≤ 0 := by cases k <;> simp [kLo]
    split
    · rename_i h
      simp only [Bool.and_eq_true] at h
      have p1 := leZ_le h.1.1
      have p2 := leZ_le h.1.2
      have p3 := leZ_le h.2.1
      have p4 := leZ_le h.2.2
      intro _ _ e
      simp only [Option.some.injEq, Prod.mk.injEq] at e
      obtain ⟨rfl, rfl⟩ := e
      unfold bitsA
      have ha := hof a (by omega) (by omega)
      have hb := hof b (by omega) (by omega)
      have := Int.ofNat_le.mpr hle
      have := Int.ofNat_le.mpr hle2
      have hle' : (((BitVec.ofInt k.bits a) &&& (BitVec.ofInt k.bits b)).toNat : Int) ≤ b := by omega
      have hle2' : (((BitVec.ofInt k.bits a) &&& (BitVec.ofInt k.bits b)).toNat : Int) ≤ a := by omega
      simp only []
      rw [wrap_in (by omega) (by omega)]
      omega
    · split
      · rename_i h
        simp only [Bool.and_eq_true] at h
        have p1 := leZ_le h.1
        have p2 := leZ_le h.2
        intro _ _ e
        simp only [Option.some.injEq, Prod.mk.injEq] at e
        obtain ⟨rfl, rfl⟩ := e
        unfold bitsA
        have hb := hof b (by omega) (by omega)
        have hle' : (((BitVec.ofInt k.bits a) &&& (BitVec.ofInt k.bits b)).toNat : Int) ≤ b := by
          have := Int.ofNat_le.mpr hle
          omega
        simp only []
        rw [wrap_in (by omega) (by omega)]
        omega
      · intro _ _ e; cases e
  · intro _ _ e; cases e
def qd (dec : Bx → Option Bool) (b : Bx) : Option Bool := dec (.not (.not b))
def upY (dec : Bx → Option Bool) (e : Sx) : List Int → Option Int
  | [] => none
  | t :: l => match qd dec (.cmp .lss e (.lit t)) with
    | some true => some (t - 1)
    | _ => upY dec e l
def loY (dec : Bx → Option Bool) (e : Sx) : List Int → Option Int
  | [] => none
  | t :: l => match qd dec (.cmp .lss e (.lit t)) with
    | some false => some t
    | _ => loY dec e l
def thsU : List Int := [1, 10, 100, 1000, 10000]
def thsL : List Int := [1000, 100, 10, 1, 0]
def atomY (dec : Bx → Option Bool) (e : Sx) : Iv := match upY dec e thsU with
  | some h => match loY dec e thsL with
    | some l => some (l, h)
    | none => none
  | none => none
variable [v : Val] {dec : Bx → Option Bool}
omit v in
theorem lss_lit [Val] {e : Sx} {t : Int} : (Bx.cmp .lss e (.lit t)).eval = decide (e.eval < t) := by
  rfl
theorem qd_ok (hdec : ∀ b x, dec b = some x → b.eval = x) : ∀ b x, qd dec b = some x → b.eval = x := by
  intro b x h
  have := hdec _ _ h
  simpa [Bx.eval] using this
theorem upY_ok (hdec : ∀ b x, dec b = some x → b.eval = x) {e : Sx} : ∀ {l : List Int} {h : Int}, upY dec e l = some h → e.eval ≤ h
  | t :: l, h, hh => by
    unfold upY at hh
    split at hh
    · rename_i hd
      simp only [Option.some.injEq] at hh
      have := qd_ok hdec _ _ hd
      rw [lss_lit] at this
      have := of_decide_eq_true this
      omega
    · exact upY_ok hdec hh
theorem loY_ok (hdec : ∀ b x, dec b = some x → b.eval = x) {e : Sx} : ∀ {l : List Int} {h : Int}, loY dec e l = some h → h ≤ e.eval
  | t :: l, h, hh => by
    unfold loY at hh
    split at hh
    · rename_i hd
      simp only [Option.some.injEq] at hh
      have := qd_ok hdec _ _ hd
      rw [lss_lit] at this
      have := of_decide_eq_false this
      omega
    · exact loY_ok hdec hh
theorem atomY_ok (hdec : ∀ b x, dec b = some x → b.eval = x) {e : Sx} : InIv (atomY dec e) e.eval := by
  intro l h hh
  unfold atomY at hh
  split at hh
  · rename_i h1
    split at hh
    · rename_i h2
      simp only [Option.some.injEq, Prod.mk.injEq] at hh
      obtain ⟨rfl, rfl⟩ := hh
      exact ⟨loY_ok hdec h2, upY_ok hdec h1⟩
    · cases hh
  · cases hh
def ivOp (dec : Bx → Option Bool) (op : BinOp) (k : IntKind) (l1 h1 l2 h2 : Int) (a b : Sx) : Iv := match op with
  | .sub => bif leZ 0 (l1 - h2) || leZ (h1 - l2) (-1) then ivBin .sub k l1 h1 l2 h2 else match qd dec (.cmp .lss a b) with
    | some true => ivW k (l1 - h2) (-1)
    | some false => ivW k 0 (h1 - l2)
    | none => ivBin .sub k l1 h1 l2 h2
  | op => ivBin op k l1 h1 l2 h2
theorem ivOp_ok (hdec : ∀ b x, dec b = some x → b.eval = x) {op : BinOp} {k : IntKind} {l1 h1 l2 h2 : Int} {a b : Sx} (ha1 : l1 ≤ a.eval) (ha2 : a.eval ≤ h1) (hb1 : l2 ≤ b.eval) (hb2 : b.eval ≤ h2) :
    InIv (ivOp dec op k l1 h1 l2 h2 a b) (arithI op k a.eval b.eval) := by
  unfold ivOp
  split
  · simp only [cond_eq_ite]
    split
    · exact ivBin_ok ha1 ha2 hb1 hb2
    · split
      · rename_i hd
        have := of_decide_eq_true (show decide (a.eval < b.eval) = true from qd_ok hdec _ _ hd)
        exact ivW_ok (by omega) (by omega)
      · rename_i hd
        have := of_decide_eq_false (show decide (a.eval < b.eval) = false from qd_ok hdec _ _ hd)
        exact ivW_ok (by omega) (by omega)
      · exact ivBin_ok ha1 ha2 hb1 hb2
  · exact ivBin_ok ha1 ha2 hb1 hb2
def ivY (dec : Bx → Option Bool) : Sx → Iv
  | .lit n => some (n, n)
  | .wrap k a => match ivY dec a with
    | some (l, h) => match ivW k l h with
      | some r => some r
      | none => some (kLo k, kHi k)
    | none => some (kLo k, kHi k)
  | .bin op k a b => match ivY dec a with
    | some (l1, h1) => match ivY dec b with
      | some (l2, h2) => ivOp dec op k l1 h1 l2 h2 a b
      | none => none
    | none => none
  | .dvar i => atomY dec (.dvar i)
  | .pr f a b => atomY dec (.pr f a b)
  | _ => none
theorem ivY_ok (hdec : ∀ b x, dec b = some x → b.eval = x) : ∀ (e : Sx), InIv (ivY dec e) e.eval
  | .lit n => fun l h e => by simp only [ivY, Option.some.injEq, Prod.mk.injEq] at e; rw [Sx.eval_lit]; omega
  | .wrap k a => fun l h e => by
    simp only [ivY] at e
    rw [Sx.eval_wrap]
    split at e
    · rename_i h1
      have := ivY_ok hdec a _ _ h1
      split at e
      · rename_i h2
        simp only [Option.some.injEq] at e
        subst e
        exact ivW_ok this.1 this.2 _ _ h2
      · simp only [Option.some.injEq, Prod.mk.injEq] at e
        obtain ⟨rfl, rfl⟩ := e
        exact wrap_bounds _ _
    · simp only [Option.some.injEq, Prod.mk.injEq] at e
      obtain ⟨rfl, rfl⟩ := e
      exact wrap_bounds _ _
  | .bin op k a b => fun l h e => by
    simp only [ivY] at e
    split at e
    · rename_i h1
      have p1 := ivY_ok hdec a _ _ h1
      split at e
      · rename_i h2
        have p2 := ivY_ok hdec b _ _ h2
        rw [Sx.eval_bin]
        exact ivOp_ok hdec p1.1 p1.2 p2.1 p2.2 _ _ e
      · cases e
    · cases e
  | .dvar i => atomY_ok hdec
  | .pr f a b => atomY_ok hdec
  | .var _ => fun l h e => by cases e
  | .slit _ => fun l h e => by cases e
  | .ap _ _ _ _ => fun l h e => by cases e
  | .cell _ _ _ => fun l h e => by cases e
  | .setc _ _ _ _ => fun l h e => by cases e
  | .dlit _ => fun l h e => by cases e
def cmpY (op : BinOp) (l1 h1 l2 h2 : Int) : Option Bool := match op with
  | .lss => bif leZ (h1 + 1) l2 then some true else bif leZ h2 l1 then some false else none
  | .eql => bif leZ (h1 + 1) l2 || leZ (h2 + 1) l1 then some false else bif intB l1 h1 && intB l2 h2 && intB l1 l2 then some true else none
  | .neq => bif leZ (h1 + 1) l2 || leZ (h2 + 1) l1 then some true else bif intB l1 h1 && intB l2 h2 && intB l1 l2 then some false else none
  | .leq => bif leZ h1 l2 then some true else bif leZ (h2 + 1) l1 then some false else none
  | .gtr => bif leZ (h2 + 1) l1 then some true else bif leZ h1 l2 then some false else none
  | .geq => bif leZ h2 l1 then some true else bif leZ (h1 + 1) l2 then some false else none
  | _ => none
omit v in
theorem cmpY_ok {op : BinOp} {l1 h1 l2 h2 a b : Int} {x : Bool} (ha1 : l1 ≤ a) (ha2 : a ≤ h1) (hb1 : l2 ≤ b) (hb2 : b ≤ h2) (h : cmpY op l1 h1 l2 h2 = some x) : compI op a b = x := by
  unfold cmpY at h
  unfold compI
  split at h <;> (try (cases h; done)) <;> simp only [cond_eq_ite] at h <;> (split at h)
  all_goals (try (split at h))
  all_goals (simp only [Option.some.injEq, reduceCtorEq] at h)
  all_goals (subst h)
  all_goals (simp only [Bool.and_eq_true, Bool.or_eq_true] at *)
  all_goals first
    | (rename_i q; have := leZ_le q; simp; omega)
    | (rename_i q; rcases q with q | q <;> have := leZ_le q <;> simp <;> omega)
    | (rename_i q; obtain ⟨⟨q1, q2⟩, q3⟩ := q; have := intB_eq q1; have := intB_eq q2; have := intB_eq q3; simp; omega)
def inB (dec : Bx → Option Bool) (l h : Int) (e : Sx) : Bool := match ivY dec e with
  | some (l', h') => leZ l l' && leZ h' h
  | none => false
theorem inB_ok (hdec : ∀ b x, dec b = some x → b.eval = x) {a b : Int} {e : Sx} (h : inB dec a b e = true) : a ≤ e.eval ∧ e.eval ≤ b := by
  unfold inB at h
  split at h
  · rename_i hi
    simp only [Bool.and_eq_true] at h
    have := ivY_ok hdec _ _ _ hi
    have := leZ_le h.1
    have := leZ_le h.2
    omega
  · cases h
def cmpD (dec : Bx → Option Bool) (op : BinOp) (a b : Sx) : Option Bool := match ivY dec a with
  | some (l1, h1) => match ivY dec b with
    | some (l2, h2) => match cmpY op l1 h1 l2 h2 with
      | some x => some x
      | none => dec (.cmp op a b)
    | none => dec (.cmp op a b)
  | none => dec (.cmp op a b)
def is64 : IntKind → Bool
  | .i64 => true
  | .u64 => true
  | _ => false
omit v in
theorem in64 {k : IntKind} {n : Int} (hk : is64 k = true) (h1 : 0 ≤ n) (h2 : n ≤ 9223372036854775807) : wrapI k n = n := by
  cases k <;> simp only [is64, reduceCtorEq] at hk <;> exact wrap_in (by simp [kLo]; omega) (by simp [kHi]; omega)
def loM (dec : Bx → Option Bool) (a b : Sx) : Bool := match b with
  | .bin .mul k (.bin .quo k' x (.lit m)) (.lit m') => is64 k && is64 k' && intB m m' && x.same a && leZ 1 m && inB dec 0 4000000000000000000 a
  | _ => match a with
    | .bin .mul k x y => is64 k && y.same b && inB dec 1 4294967296 x && inB dec 0 1073741824 b
    | _ => false
omit v in
theorem quoMul {x m : Int} (h1 : 0 ≤ x) (h2 : 1 ≤ m) : 0 ≤ x.tdiv m ∧ x.tdiv m ≤ x ∧ 0 ≤ x.tdiv m * m ∧ x.tdiv m * m + x.tmod m = x ∧ 0 ≤ x.tmod m := by
  rw [Int.tdiv_eq_ediv_of_nonneg h1, Int.tmod_eq_emod_of_nonneg h1]
  have e1 := Int.ediv_mul_add_emod x m
  have e2 := Int.emod_nonneg x (show m ≠ 0 by omega)
  have e3 : 0 ≤ x / m := Int.ediv_nonneg h1 (by omega)
  have e4 : x / m ≤ x := Int.ediv_le_self m h1
  have e5 : 0 ≤ x / m * m := Int.mul_nonneg e3 (by omega)
  exact ⟨e3, e4, e5, e1, e2⟩
theorem loM_ok (hdec : ∀ b x, dec b = some x → b.eval = x) {a b : Sx} (h : loM dec a b = true) : b.eval ≤ a.eval := by
  unfold loM at h
  split at h
  · rename_i k k' x m m'
    simp only [Bool.and_eq_true] at h
    obtain ⟨⟨⟨⟨⟨c1, c2⟩, c3⟩, c4⟩, c5⟩, c6⟩ := h
    have e3 := intB_eq c3
    subst e3
    have e4 := Sx.same_eq c4
    subst e4
    have e5 := leZ_le c5
    have e6 := inB_ok hdec c6
    obtain ⟨q1, q2, q3, q4, q5⟩ := quoMul e6.1 e5
    simp only [Sx.eval_bin, Sx.eval_lit, arithI]
    rw [in64 c2 q1 (by omega), in64 c1 q3 (by omega)]
    omega
  · split at h
    · rename_i k x y
      simp only [Bool.and_eq_true] at h
      obtain ⟨⟨⟨c1, c2⟩, c3⟩, c4⟩ := h
      have e2 := Sx.same_eq c2
      subst e2
      have e3 := inB_ok hdec c3
      have e4 := inB_ok hdec c4
      simp only [Sx.eval_bin, arithI]
      have p1 : 1 * y.eval ≤ x.eval * y.eval := Int.mul_le_mul_of_nonneg_right e3.1 e4.1
      have p2 : x.eval * y.eval ≤ 4294967296 * 1073741824 := Int.mul_le_mul e3.2 e4.2 e4.1 (by omega)
      rw [in64 c1 (by omega) (by omega)]
      omega
    · cases h
def decY (dec : Bx → Option Bool) (b : Bx) : Option Bool := match b with
  | .cmp op a b => match op with
    | .lss => bif loM dec a b then some false else cmpD dec .lss a b
    | op => cmpD dec op a b
  | .not b => match decY (qd dec) b with
    | some x => some (!x)
    | none => dec (.not b)
  | .seq a b => dec (.seq a b)
theorem cmpD_ok (hdec : ∀ b x, dec b = some x → b.eval = x) {op : BinOp} {a b : Sx} {x : Bool} (h : cmpD dec op a b = some x) : (Bx.cmp op a b).eval = x := by
  unfold cmpD at h
  split at h
  · rename_i h1
    split at h
    · rename_i h2
      split at h
      · rename_i h3
        simp only [Option.some.injEq] at h
        subst h
        have p1 := ivY_ok hdec _ _ _ h1
        have p2 := ivY_ok hdec _ _ _ h2
        simp only [Bx.eval]
        exact cmpY_ok p1.1 p1.2 p2.1 p2.2 h3
      · exact hdec _ _ h
    · exact hdec _ _ h
  · exact hdec _ _ h
theorem decY_ok : ∀ {dec : Bx → Option Bool}, (∀ b x, dec b = some x → b.eval = x) → ∀ b x, decY dec b = some x → b.eval = x
  | dec, hdec, .cmp op a b, x, h => by
    unfold decY at h
    try dsimp only at h
    split at h
    · simp only [cond_eq_ite] at h
      split at h
      · rename_i hl
        simp only [Option.some.injEq] at h
        subst h
        have := loM_ok hdec hl
        simp only [Bx.eval, compI]
        exact decide_eq_false (by omega)
      · exact cmpD_ok hdec h
    · exact cmpD_ok hdec h
  | dec, hdec, .not b, x, h => by
    unfold decY at h
    try dsimp only at h
    split at h
    · rename_i y hy
      simp only [Option.some.injEq] at h
      subst h
      simp only [Bx.eval, decY_ok (qd_ok hdec) b y hy]
    · exact hdec _ _ h
  | dec, hdec, .seq a b, x, h => hdec _ _ h
end Go.Tw
/-! Simpler terms for numbers of known bounds. -/
set_option linter.unusedVariables false
set_option linter.unusedSimpArgs false
set_option linter.unusedSectionVars false
namespace Go.Tw
open Go
variable [v : Val] {dec : Bx → Option Bool}
def inK (dec : Bx → Option Bool) (k : IntKind) (e : Sx) : Bool := match ivY dec e with
  | some (l, h) => leZ (kLo k) l && leZ h (kHi k)
  | none => false
theorem inK_ok (hdec : ∀ b x, dec b = some x → b.eval = x) {k : IntKind} {e : Sx} (h : inK dec k e = true) : kLo k ≤ e.eval ∧ e.eval ≤ kHi k := by
  unfold inK at h
  split at h
  · rename_i hi
    simp only [Bool.and_eq_true] at h
    have := ivY_ok hdec _ _ _ hi
    have := leZ_le h.1
    have := leZ_le h.2
    omega
  · cases h
def isZ : Sx → Bool
  | .lit n => intB n 0
  | _ => false
theorem isZ_ok {e : Sx} (h : isZ e = true) : e.eval = 0 := by
  cases e <;> simp only [isZ, reduceCtorEq] at h
  rw [Sx.eval_lit, intB_eq h]
theorem wrap_wrap {k k' : IntKind} (n : Int) (h : k.bits ≤ k'.bits) : wrapI k (wrapI k' n) = wrapI k n := by
  rw [wrapI_eq, wrapI_eq, wrapI_eq]
  cases k <;> cases k' <;> simp only [IntKind.bits] at h <;> (try omega) <;> simp only [IntKind.wrap, IntKind.bits, IntKind.signed] <;> simp <;> (try split) <;> (try split) <;> (try split) <;> omega
def smpW (dec : Bx → Option Bool) : Nat → IntKind → Sx → Sx
  | 0, k, a => .wrap k a
  | n + 1, k, a => bif inK dec k a then a else match a with
    | .wrap k' x => bif Nat.ble k.bits k'.bits then smpW dec n k x else .wrap k a
    | _ => .wrap k a
theorem smpW_ok (hdec : ∀ b x, dec b = some x → b.eval = x) : ∀ (n : Nat) (k : IntKind) (a : Sx), (smpW dec n k a).eval = wrapI k a.eval
  | 0, k, a => rfl
  | n + 1, k, a => by
    unfold smpW
    simp only [cond_eq_ite]
    split
    · rename_i h
      have := inK_ok hdec h
      exact (wrap_in this.1 this.2).symm
    · split
      · rename_i k' x _
        split
        · rename_i h
          rw [smpW_ok hdec n k x, Sx.eval_wrap, wrap_wrap _ (Nat.le_of_ble_eq_true h)]
        · rfl
      · rfl
def strip : Sx → Sx
  | .wrap .i64 a => strip a
  | .wrap .u64 a => strip a
  | e => e
omit v in
theorem wrap64 (n : Int) : (∃ q, wrapI .i64 n = n + q * 18446744073709551616) ∧ ∃ q, wrapI .u64 n = n + q * 18446744073709551616 := by
  refine ⟨⟨(wrapI .i64 n - n) / 18446744073709551616, ?_⟩, ⟨(wrapI .u64 n - n) / 18446744073709551616, ?_⟩⟩
  · rw [wrap_i64]; split <;> omega
  · rw [wrap_u64]; omega
theorem strip_ok : ∀ (e : Sx), ∃ q, e.eval = (strip e).eval + q * 18446744073709551616 := by
  intro e
  induction e with
  | wrap k a ih =>
    obtain ⟨q, hq⟩ := ih
    cases k
    case i64 =>
      obtain ⟨q', hq'⟩ := (wrap64 a.eval).1
      exact ⟨q + q', by rw [strip, Sx.eval_wrap, hq']; omega⟩
    case u64 =>
      obtain ⟨q', hq'⟩ := (wrap64 a.eval).2
      exact ⟨q + q', by rw [strip, Sx.eval_wrap, hq']; omega⟩
    all_goals exact ⟨0, by simp [strip]⟩
  | _ => exact ⟨0, by simp [strip]⟩
def topK : Sx → Option IntKind
  | .wrap k _ => some k
  | .bin .shl k _ _ => some k
  | _ => none
theorem topK_ok {e : Sx} {k : IntKind} (h : topK e = some k) : kLo k ≤ e.eval ∧ e.eval ≤ kHi k := by
  cases e <;> simp only [topK, reduceCtorEq, Option.some.injEq] at h
  · rename_i op k' a b
    cases op <;> simp only [topK, reduceCtorEq, Option.some.injEq] at h
    subst h
    rw [Sx.eval_bin]
    exact wrap_bounds _ _
  · subst h
    rw [Sx.eval_wrap]
    exact wrap_bounds _ _
def rngS (dec : Bx → Option Bool) (K : IntKind) (s : Int) (x : Sx) : Bool := match ivY dec x with
  | some (l, h) => leZ (kLo K) (l * 2 ^ s.toNat) && leZ (h * 2 ^ s.toNat) (kHi K)
  | none => false
theorem rngS_ok (hdec : ∀ b x, dec b = some x → b.eval = x) {K : IntKind} {s : Int} {x : Sx} (h : rngS dec K s x = true) : kLo K ≤ x.eval * 2 ^ s.toNat ∧ x.eval * 2 ^ s.toNat ≤ kHi K := by
  unfold rngS at h
  split at h
  · rename_i l h' hiv
    simp only [Bool.and_eq_true] at h
    have d1 := leZ_le h.1
    have d2 := leZ_le h.2
    have b2 := ivY_ok hdec _ _ _ hiv
    have hp : (0 : Int) < 2 ^ s.toNat := Int.pow_pos (by omega)
    have hlo : l * 2 ^ s.toNat ≤ x.eval * 2 ^ s.toNat := Int.mul_le_mul_of_nonneg_right b2.1 (by omega)
    have hhi : x.eval * 2 ^ s.toNat ≤ h' * 2 ^ s.toNat := Int.mul_le_mul_of_nonneg_right b2.2 (by omega)
    omega
  · cases h
def smpS (dec : Bx → Option Bool) (k : IntKind) (a : Sx) (s : Int) : Option Sx := match topK a, strip a with
  | some K, .bin .shl k' y (.lit s') => bif is64 K && is64 k' && is64 k && intB s s' && leZ 0 s && leZ s 63 && rngS dec K s (strip y) then some (strip y) else none
  | _, _ => none
theorem smpS_ok (hdec : ∀ b x, dec b = some x → b.eval = x) {k : IntKind} {a x : Sx} {s : Int} (h : smpS dec k a s = some x) : x.eval = arithI .shr k a.eval s := by
  unfold smpS at h
  split at h
  · rename_i K k' y s' hK hst
    simp only [cond_eq_ite] at h
    split at h
    · rename_i hc
      simp only [Option.some.injEq] at h
      subst h
      simp only [Bool.and_eq_true] at hc
      obtain ⟨⟨⟨⟨⟨⟨c1, c2⟩, c3⟩, c4⟩, c5⟩, c6⟩, c7⟩ := hc
      have e4 := intB_eq c4
      subst e4
      have e5 := leZ_le c5
      have e6 := leZ_le c6
      have b1 := topK_ok hK
      have b2 := rngS_ok hdec c7
      obtain ⟨q1, hq1⟩ := strip_ok a
      obtain ⟨q2, hq2⟩ := strip_ok y
      have hk' : k'.bits = 64 := by cases k' <;> simp only [is64, reduceCtorEq] at c2 <;> rfl
      have hk : k.bits = 64 := by cases k <;> simp only [is64, reduceCtorEq] at c3 <;> rfl
      have hm : min s.toNat 64 = s.toNat := by omega
      rw [hst, Sx.eval_bin, Sx.eval_lit] at hq1
      have hshl : ∃ q3, arithI .shl k' y.eval s = y.eval * 2 ^ s.toNat + q3 * 18446744073709551616 := by
        simp only [arithI, hk', hm]
        cases k' <;> simp only [is64, reduceCtorEq] at c2
        · exact (wrap64 _).1
        · exact (wrap64 _).2
      obtain ⟨q3, hq3⟩ := hshl
      have hp : (0 : Int) < 2 ^ s.toNat := Int.pow_pos (by omega)
      simp only [arithI, hk, hm]
      generalize hPd : (2 : Int) ^ s.toNat = P at *
      have hy : y.eval * P = (strip y).eval * P + (q2 * P) * 18446744073709551616 := by
        rw [hq2, Int.add_mul]
        congr 1
        rw [Int.mul_assoc, Int.mul_assoc, Int.mul_comm P]
      have key : a.eval = (strip y).eval * P := by
        have hr : kHi K - kLo K < 18446744073709551616 := by cases K <;> simp only [is64, reduceCtorEq] at c1 <;> simp [kHi, kLo]
        generalize q2 * P = Q at *
        generalize (strip y).eval * P = X at *
        generalize y.eval * P = Y at *
        omega
      rw [key, Int.mul_fdiv_cancel _ (by omega)]
    · cases h
  · cases h
def smpB (dec : Bx → Option Bool) (op : BinOp) (k : IntKind) (a b : Sx) : Sx := match op with
  | .add => bif isZ a && inK dec k b then b else bif isZ b && inK dec k a then a else .bin .add k a b
  | .sub => bif isZ b && inK dec k a then a else match a with
    | .bin .add k' c d => match ivY dec c, ivY dec d with
      | some (l1, h1), some (l2, h2) => bif leZ (kLo k') (l1 + l2) && leZ (h1 + h2) (kHi k') then
          (bif c.same b && inK dec k d then d else bif d.same b && inK dec k c then c else .bin .sub k a b)
        else .bin .sub k a b
      | _, _ => .bin .sub k a b
    | _ => .bin .sub k a b
  | .or => bif isZ a && inK dec k b then b else bif isZ b && inK dec k a then a else .bin .or k a b
  | .rem => match b with
    | .lit m => bif inB dec 0 (m - 1) a then a else .bin .rem k a b
    | _ => .bin .rem k a b
  | .and => match b with
    | .lit m => bif Nat.beq (m.toNat + 1) (2 ^ Nat.log2 (m.toNat + 1)) && leZ 0 m && leZ m (kHi k) && inB dec 0 m a then a else .bin .and k a b
    | _ => .bin .and k a b
  | .shr => match b with
    | .lit s => match smpS dec k a s with
      | some x => x
      | none => .bin .shr k a b
    | _ => .bin .shr k a b
  | _ => .bin op k a b
omit v in
theorem bits_zero_or {k : IntKind} {n : Int} (h1 : kLo k ≤ n) (h2 : n ≤ kHi k) : bitsA k (· ||| ·) 0 n = n ∧ bitsA k (· ||| ·) n 0 = n := by
  have hw : wrapI k (BitVec.ofInt k.bits n).toNat = n := by
    rw [wrapI_eq, BitVec.toNat_ofInt, Int.toNat_of_nonneg (Int.emod_nonneg _ (by have := Nat.two_pow_pos k.bits; omega))]
    cases k <;> simp only [kLo, kHi] at h1 h2 <;> simp only [IntKind.wrap, IntKind.bits, IntKind.signed] <;> simp <;> (try split) <;> omega
  unfold bitsA
  constructor
  · simpa using hw
  · simpa using hw
theorem smpB_ok (hdec : ∀ b x, dec b = some x → b.eval = x) (op : BinOp) (k : IntKind) (a b : Sx) : (smpB dec op k a b).eval = arithI op k a.eval b.eval := by
  unfold smpB
  split
  · simp only [cond_eq_ite]
    split
    · rename_i h
      simp only [Bool.and_eq_true] at h
      have := inK_ok hdec h.2
      simp only [arithI, isZ_ok h.1, Int.zero_add]
      exact (wrap_in this.1 this.2).symm
    · split
      · rename_i h
        simp only [Bool.and_eq_true] at h
        have := inK_ok hdec h.2
        simp only [arithI, isZ_ok h.1, Int.add_zero]
        exact (wrap_in this.1 this.2).symm
      · rfl
  · simp only [cond_eq_ite]
    split
    · rename_i h
      simp only [Bool.and_eq_true] at h
      have := inK_ok hdec h.2
      simp only [arithI, isZ_ok h.1, Int.sub_zero]
      exact (wrap_in this.1 this.2).symm
    · split
      · rename_i k' c d _
        split
        · rename_i l1 h1 l2 h2 i1 i2
          split
          · rename_i h
            simp only [Bool.and_eq_true] at h
            have p1 := ivY_ok hdec _ _ _ i1
            have p2 := ivY_ok hdec _ _ _ i2
            have p3 := leZ_le h.1
            have p4 := leZ_le h.2
            have hs : (Sx.bin .add k' c d).eval = c.eval + d.eval := by
              rw [Sx.eval_bin]
              exact wrap_in (by omega) (by omega)
            split
            · rename_i g
              simp only [Bool.and_eq_true] at g
              have := inK_ok hdec g.2
              have e := congrArg Sx.eval (Sx.same_eq g.1)
              simp only [arithI]
              rw [hs, ← e, show c.eval + d.eval - c.eval = d.eval by omega]
              exact (wrap_in this.1 this.2).symm
            · split
              · rename_i g
                simp only [Bool.and_eq_true] at g
                have := inK_ok hdec g.2
                have e := congrArg Sx.eval (Sx.same_eq g.1)
                simp only [arithI]
                rw [hs, ← e, show c.eval + d.eval - d.eval = c.eval by omega]
                exact (wrap_in this.1 this.2).symm
              · rfl
          · rfl
        · rfl
      · rfl
  · simp only [cond_eq_ite]
    split
    · rename_i h
      simp only [Bool.and_eq_true] at h
      have := inK_ok hdec h.2
      simp only [arithI, isZ_ok h.1]
      exact (bits_zero_or this.1 this.2).1.symm
    · split
      · rename_i h
        simp only [Bool.and_eq_true] at h
        have := inK_ok hdec h.2
        simp only [arithI, isZ_ok h.1]
        exact (bits_zero_or this.1 this.2).2.symm
      · rfl
  · split
    · rename_i m
      simp only [cond_eq_ite]
      split
      · rename_i h
        have := inB_ok hdec h
        simp only [arithI, Sx.eval_lit]
        rw [Int.tmod_eq_emod_of_nonneg (by omega), Int.emod_eq_of_lt (by omega) (by omega)]
      · rfl
    · rfl
  · split
    · rename_i m
      simp only [cond_eq_ite]
      split
      · rename_i h
        simp only [Bool.and_eq_true] at h
        obtain ⟨⟨⟨g1, g2⟩, g3⟩, g4⟩ := h
        have e1 := Nat.eq_of_beq_eq_true g1
        have e2 := leZ_le g2
        have e3 := leZ_le g3
        have e4 := inB_ok hdec g4
        simp only [arithI, Sx.eval_lit, bitsA]
        generalize a.eval = n at *
        obtain ⟨n, rfl⟩ := Int.eq_ofNat_of_zero_le e4.1
        obtain ⟨m, rfl⟩ := Int.eq_ofNat_of_zero_le e2
        simp only [Int.toNat_natCast] at e1
        generalize Nat.log2 (m + 1) = j at *
        have hkb : (2 : Nat) ^ k.bits > m := by
          cases k <;> simp only [kHi, IntKind.bits] at * <;> omega
        have t1 : (BitVec.ofInt k.bits (n : Int)).toNat = n := by
          rw [BitVec.ofInt_natCast, BitVec.toNat_ofNat, Nat.mod_eq_of_lt (by omega)]
        have t2 : (BitVec.ofInt k.bits (m : Int)).toNat = m := by
          rw [BitVec.ofInt_natCast, BitVec.toNat_ofNat, Nat.mod_eq_of_lt (by omega)]
        rw [BitVec.toNat_and, t1, t2]
        have hmj : m = 2 ^ j - 1 := by omega
        rw [hmj, Nat.and_two_pow_sub_one_eq_mod, Nat.mod_eq_of_lt (by omega)]
        have hlo : kLo k ≤ 0 := by cases k <;> simp [kLo]
        exact (wrap_in (by omega) (by omega)).symm
      · rfl
    · rfl
  · split
    · rename_i s
      split
      · rename_i x hx
        rw [smpS_ok hdec hx, Sx.eval_lit]
      · rfl
    · rfl
  · rfl
def smp1 (dec : Bx → Option Bool) : Sx → Sx
  | .wrap k a => smpW dec 4 k a
  | .bin op k a b => smpB dec op k a b
  | e => e
def smp (dec : Bx → Option Bool) (e : Sx) : Sx := match ivY dec e with
  | some (l, h) => bif intB l h then .lit l else smp1 dec e
  | none => smp1 dec e
end Go.Tw
/-! More simpler terms. -/
set_option linter.unusedVariables false
set_option linter.unusedSimpArgs false
set_option linter.unusedSectionVars false
namespace Go.Tw
open Go
variable [v : Val] {dec : Bx → Option Bool}
def smpC (dec : Bx → Option Bool) (op : BinOp) (k : IntKind) (a b : Sx) : Option Sx := match op with
  | .add => match a, b with
    | .bin .mul k1 (.bin .quo k2 x (.lit m)) (.lit m'), .bin .rem k3 x' (.lit m'') =>
      bif is64 k && is64 k1 && is64 k2 && (intB m m' && intB m m'') && x.same x' && leZ 1 m && inB dec 0 4000000000000000000 x then some x else none
    | _, _ => none
  | .rem => match a, b with
    | .bin .add k1 c (.lit m), .lit m' => bif is64 k1 && intB m m' && leZ 1 m && leZ m 4294967296 && inB dec 0 (m - 1) c then some c else none
    | _, _ => none
  | .shl => match b with
    | .lit s => bif intB s 0 && inK dec k a then some a else none
    | _ => none
  | .shr => match b with
    | .lit s => bif intB s 0 then some a else none
    | _ => none
  | .or => match a, b with
    | .bin .shl k1 (.bin .shr k2 x (.lit s)) (.lit s'), .wrap .u8 x' =>
      bif is64 k && is64 k1 && is64 k2 && (intB s 8 && intB s' 8) && x.same x' && inB dec 0 4000000000000000000 x then some x else none
    | _, _ => none
  | _ => none
omit v in
theorem is64_bits {k : IntKind} (h : is64 k = true) : k.bits = 64 := by cases k <;> simp only [is64, reduceCtorEq] at h <;> rfl
omit v in
theorem ofInt64 {k : IntKind} (hk : is64 k = true) {n : Nat} (h : n < 18446744073709551616) : (BitVec.ofInt k.bits (n : Int)).toNat = n := by
  rw [BitVec.ofInt_natCast, BitVec.toNat_ofNat, is64_bits hk, Nat.mod_eq_of_lt (by omega)]
theorem smpC_ok (hdec : ∀ b x, dec b = some x → b.eval = x) {op : BinOp} {k : IntKind} {a b y : Sx} (h : smpC dec op k a b = some y) : y.eval = arithI op k a.eval b.eval := by
  unfold smpC at h
  split at h
  · split at h
    · rename_i k1 k2 x m m' k3 x' m''
      simp only [cond_eq_ite] at h
      split at h
      · rename_i hc
        simp only [Option.some.injEq] at h
        subst h
        simp only [Bool.and_eq_true] at hc
        obtain ⟨⟨⟨⟨⟨⟨c0, c1⟩, c2⟩, c3, c4⟩, c5⟩, c6⟩, c7⟩ := hc
        have e3 := intB_eq c3
        have e4 := intB_eq c4
        subst e3; subst e4
        have e5 := Sx.same_eq c5
        subst e5
        have e6 := leZ_le c6
        have e7 := inB_ok hdec c7
        obtain ⟨q1, q2, q3, q4, q5⟩ := quoMul e7.1 e6
        simp only [Sx.eval_bin, Sx.eval_lit, arithI]
        rw [in64 c2 q1 (by omega), in64 c1 q3 (by omega), q4, in64 c0 e7.1 (by omega)]
      · cases h
    · cases h
  · split at h
    · rename_i k1 c m m'
      simp only [cond_eq_ite] at h
      split at h
      · rename_i hc
        simp only [Option.some.injEq] at h
        subst h
        simp only [Bool.and_eq_true] at hc
        obtain ⟨⟨⟨⟨c1, c2⟩, c3⟩, c4⟩, c5⟩ := hc
        have e2 := intB_eq c2
        subst e2
        have e3 := leZ_le c3
        have e4 := leZ_le c4
        have e5 := inB_ok hdec c5
        simp only [Sx.eval_bin, Sx.eval_lit, arithI]
        rw [in64 c1 (by omega) (by omega), Int.tmod_eq_emod_of_nonneg (by omega), Int.add_emod_right, Int.emod_eq_of_lt (by omega) (by omega)]
      · cases h
    · cases h
  · split at h
    · rename_i s
      simp only [cond_eq_ite] at h
      split at h
      · rename_i hc
        simp only [Option.some.injEq] at h
        subst h
        simp only [Bool.and_eq_true] at hc
        have e1 := intB_eq hc.1
        subst e1
        have e2 := inK_ok hdec hc.2
        simp only [Sx.eval_lit, arithI]
        simpa using (wrap_in e2.1 e2.2).symm
      · cases h
    · cases h
  · split at h
    · rename_i s
      simp only [cond_eq_ite] at h
      split at h
      · rename_i hc
        simp only [Option.some.injEq] at h
        subst h
        have e1 := intB_eq hc
        subst e1
        simp [Sx.eval_lit, arithI]
      · cases h
    · cases h
  · split at h
    · rename_i k1 k2 x s s' x'
      simp only [cond_eq_ite] at h
      split at h
      · rename_i hc
        simp only [Option.some.injEq] at h
        subst h
        simp only [Bool.and_eq_true] at hc
        obtain ⟨⟨⟨⟨⟨c0, c1⟩, c2⟩, c3, c4⟩, c5⟩, c6⟩ := hc
        have e3 := intB_eq c3
        have e4 := intB_eq c4
        subst e3; subst e4
        have e5 := Sx.same_eq c5
        subst e5
        have e6 := inB_ok hdec c6
        simp only [Sx.eval_bin, Sx.eval_lit, Sx.eval_wrap, arithI, is64_bits c1, is64_bits c2]
        generalize x.eval = n at *
        obtain ⟨n, rfl⟩ := Int.eq_ofNat_of_zero_le e6.1
        have hp : (2 : Int) ^ (min (Int.toNat 8) 64) = 256 := by decide
        rw [hp, Int.fdiv_eq_ediv_of_nonneg _ (by omega), in64 c1 (by omega) (by omega)]
        have hw : wrapI .u8 (n : Int) = ((n % 256 : Nat) : Int) := by
          rw [wrapI_eq]
          simp [IntKind.wrap, IntKind.bits, IntKind.signed]
        have hd : (n : Int) / 256 * 256 = ((2 ^ 8 * (n / 256) : Nat) : Int) := by omega
        rw [hw, hd]
        unfold bitsA
        simp only []
        rw [BitVec.toNat_or, ofInt64 c0 (by omega), ofInt64 c0 (by omega), ← Nat.two_pow_add_eq_or_of_lt (by omega)]
        rw [show 2 ^ 8 * (n / 256) + n % 256 = n by omega]
        exact (in64 c0 (by omega) (by omega)).symm
      · cases h
    · cases h
  · cases h
end Go.Tw
/-! One form for sums and remainders. -/
set_option linter.unusedVariables false
set_option linter.unusedSimpArgs false
set_option linter.unusedSectionVars false
namespace Go.Tw
open Go
variable [v : Val] {dec : Bx → Option Bool}
def mask2 (m : Int) : Bool := leZ 1 m && leZ m 4294967295 && Nat.beq (m.toNat + 1) (2 ^ Nat.log2 (m.toNat + 1))
omit v in
theorem andMask {k : IntKind} (hk : is64 k = true) {m : Int} (hm : mask2 m = true) (n : Int) : bitsA k (· &&& ·) n m = n % (m + 1) := by
  simp only [mask2, Bool.and_eq_true] at hm
  obtain ⟨⟨h1, h2⟩, h3⟩ := hm
  have e1 := leZ_le h1
  have e2 := leZ_le h2
  have e3 := Nat.eq_of_beq_eq_true h3
  obtain ⟨m, rfl⟩ := Int.eq_ofNat_of_zero_le (show 0 ≤ m by omega)
  simp only [Int.toNat_natCast] at e3
  generalize Nat.log2 (m + 1) = j at *
  have hj : j ≤ 64 := by
    rcases Nat.lt_or_ge 64 j with h | h
    · have : (2 : Nat) ^ 64 ≤ 2 ^ j := Nat.pow_le_pow_right (by omega) (by omega)
      omega
    · exact h
  unfold bitsA
  simp only []
  rw [BitVec.toNat_and, ofInt64 hk (by omega), BitVec.toNat_ofInt, is64_bits hk]
  have hm : m = 2 ^ j - 1 := by omega
  rw [hm, Nat.and_two_pow_sub_one_eq_mod]
  have hpos := Nat.two_pow_pos j
  have hc : ((2 ^ j - 1 : Nat) : Int) + 1 = ((2 ^ j : Nat) : Int) := by omega
  rw [hc]
  have hcast : (((n % ((2 ^ 64 : Nat) : Int)).toNat % 2 ^ j : Nat) : Int) = n % ((2 ^ j : Nat) : Int) := by
    rw [Int.natCast_emod, Int.toNat_of_nonneg (Int.emod_nonneg _ (by omega))]
    refine Int.emod_emod_of_dvd _ ?_
    exact Int.natCast_dvd_natCast.mpr (Nat.pow_dvd_pow 2 hj)
  rw [hcast]
  have b1 := Int.emod_nonneg n (show ((2 ^ j : Nat) : Int) ≠ 0 by omega)
  have b2 := Int.emod_lt_of_pos n (show 0 < ((2 ^ j : Nat) : Int) by omega)
  exact in64 hk b1 (by omega)
omit v in
theorem mask_dvd {m m' : Int} (hm : mask2 m = true) (hm' : mask2 m' = true) (h : m ≤ m') (n : Int) : n % (m' + 1) % (m + 1) = n % (m + 1) := by
  simp only [mask2, Bool.and_eq_true] at hm hm'
  have e1 := leZ_le hm.1.1
  have e1' := leZ_le hm'.1.1
  have e3 := Nat.eq_of_beq_eq_true hm.2
  have e3' := Nat.eq_of_beq_eq_true hm'.2
  obtain ⟨m, rfl⟩ := Int.eq_ofNat_of_zero_le (show 0 ≤ m by omega)
  obtain ⟨m', rfl⟩ := Int.eq_ofNat_of_zero_le (show 0 ≤ m' by omega)
  simp only [Int.toNat_natCast] at e3 e3'
  generalize Nat.log2 (m + 1) = j at *
  generalize Nat.log2 (m' + 1) = j' at *
  refine Int.emod_emod_of_dvd _ ?_
  have hj : j ≤ j' := by
    rcases Nat.lt_or_ge j' j with h' | h'
    · have : (2 : Nat) ^ j' < 2 ^ j := Nat.pow_lt_pow_right (by omega) h'
      omega
    · exact h'
  have hd : m + 1 ∣ m' + 1 := by rw [e3, e3']; exact Nat.pow_dvd_pow 2 hj
  have := Int.natCast_dvd_natCast.mpr hd
  simpa using this
def small (dec : Bx → Option Bool) (a : Sx) : Bool := inB dec (-2147483648) 2147483648 a
def isU64 : IntKind → Bool
  | .u64 => true
  | _ => false
def nrmA (a : Sx) (m : Int) : Sx := match strip a with
  | .bin .and .i64 x (.lit m') => bif mask2 m' && leZ m m' then .bin .and .i64 x (.lit m) else .bin .and .i64 (.bin .and .i64 x (.lit m')) (.lit m)
  | x => .bin .and .i64 x (.lit m)
omit v in
theorem mask_strip {m : Int} (hm : mask2 m = true) (n q : Int) : (n + q * 18446744073709551616) % (m + 1) = n % (m + 1) := by
  simp only [mask2, Bool.and_eq_true] at hm
  have e1 := leZ_le hm.1.1
  have e2 := leZ_le hm.1.2
  have e3 := Nat.eq_of_beq_eq_true hm.2
  obtain ⟨m, rfl⟩ := Int.eq_ofNat_of_zero_le (show 0 ≤ m by omega)
  simp only [Int.toNat_natCast] at e3
  generalize Nat.log2 (m + 1) = j at *
  have hj : j ≤ 64 := by
    rcases Nat.lt_or_ge 64 j with h | h
    · have : (2 : Nat) ^ 64 ≤ 2 ^ j := Nat.pow_le_pow_right (by omega) (by omega)
      omega
    · exact h
  have hd : m + 1 ∣ 18446744073709551616 := by
    rw [e3]; exact Nat.pow_dvd_pow (m := j) (n := 64) 2 hj
  obtain ⟨c, hc⟩ := hd
  have : (18446744073709551616 : Int) = ((m : Int) + 1) * (c : Int) := by
    have := congrArg (Nat.cast (R := Int)) hc
    simpa using this
  rw [this, show n + q * (((m : Int) + 1) * (c : Int)) = n + ((m : Int) + 1) * (q * c) by rw [Int.mul_left_comm]]
  exact Int.add_mul_emod_self_left _ _ _
theorem nrmA_ok {k : IntKind} (hk : is64 k = true) {a : Sx} {m : Int} (hm : mask2 m = true) : (nrmA a m).eval = arithI .and k a.eval m := by
  have h0 : arithI .and k a.eval m = a.eval % (m + 1) := andMask hk hm _
  obtain ⟨q, hq⟩ := strip_ok a
  have h1 : a.eval % (m + 1) = (strip a).eval % (m + 1) := by rw [hq, mask_strip hm]
  rw [h0, h1]
  unfold nrmA
  split
  · rename_i x m' hs
    simp only [cond_eq_ite]
    split
    · rename_i hc
      simp only [Bool.and_eq_true] at hc
      rw [hs]
      simp only [Sx.eval_bin, Sx.eval_lit, arithI]
      rw [andMask (k := .i64) rfl hm, andMask (k := .i64) rfl hc.1, mask_dvd hm hc.1 (leZ_le hc.2)]
    · rw [hs, Sx.eval_bin, Sx.eval_lit]
      exact andMask (k := .i64) rfl hm _
  · rw [Sx.eval_bin, Sx.eval_lit]
    exact andMask (k := .i64) rfl hm _
def nrmR (a : Sx) (m : Int) : Sx := match a with
  | .bin .add .i64 (.bin .rem .i64 x (.lit m')) (.lit m'') => bif intB m m' && intB m m'' then .bin .and .i64 x (.lit (m - 1)) else .bin .and .i64 a (.lit (m - 1))
  | .bin .add .i64 (.bin .and .i64 x (.lit m')) (.lit m'') => bif intB (m - 1) m' && intB m m'' then .bin .and .i64 x (.lit (m - 1)) else .bin .and .i64 a (.lit (m - 1))
  | a => .bin .and .i64 a (.lit (m - 1))
theorem nrmR_ok {a : Sx} {m : Int} (hm : mask2 (m - 1) = true) (ha : 0 ≤ a.eval) : (nrmR a m).eval = arithI .rem .i64 a.eval m := by
  have hm1 : m - 1 + 1 = m := by omega
  have hpl : ∀ x : Sx, (Sx.bin .and .i64 x (.lit (m - 1))).eval = x.eval % m := by
    intro x
    rw [Sx.eval_bin, Sx.eval_lit]
    have := andMask (k := .i64) rfl hm x.eval
    rw [hm1] at this
    exact this
  have hr : arithI .rem .i64 a.eval m = a.eval % m := Int.tmod_eq_emod_of_nonneg ha
  have hb : 2 ≤ m ∧ m ≤ 4294967296 := by
    simp only [mask2, Bool.and_eq_true] at hm
    have e1 := leZ_le hm.1.1
    have e2 := leZ_le hm.1.2
    omega
  rw [hr]
  unfold nrmR
  split
  · rename_i x m' m''
    simp only [cond_eq_ite]
    split
    · rename_i hc
      simp only [Bool.and_eq_true] at hc
      have e1 := intB_eq hc.1
      have e2 := intB_eq hc.2
      subst e1; subst e2
      rw [hpl]
      simp only [Sx.eval_bin, Sx.eval_lit, arithI]
      have q1 := Int.tmod_lt_of_pos x.eval (show 0 < m by omega)
      have q2 := Int.lt_tmod_of_pos x.eval (show 0 < m by omega)
      rw [in64 (k := .i64) rfl (by omega) (by omega), Int.add_emod_right, Int.tmod_def, Int.sub_emod, Int.mul_emod_right]
      simp
    · exact hpl _
  · rename_i x m' m''
    simp only [cond_eq_ite]
    split
    · rename_i hc
      simp only [Bool.and_eq_true] at hc
      have e1 := intB_eq hc.1
      have e2 := intB_eq hc.2
      subst e1; subst e2
      rw [hpl]
      have hx := hpl x
      rw [Sx.eval_bin, Sx.eval_lit, hx]
      have q1 := Int.emod_nonneg x.eval (show m ≠ 0 by omega)
      have q2 := Int.emod_lt_of_pos x.eval (show 0 < m by omega)
      simp only [arithI]
      rw [in64 (k := .i64) rfl (by omega) (by omega), Int.add_emod_right]
      simp
    · exact hpl _
  · exact hpl _
def nrm (dec : Bx → Option Bool) (op : BinOp) (k : IntKind) (a b : Sx) : Option Sx := match op with
  | .and => match b with
    | .lit m => bif is64 k && mask2 m && !(inB dec 0 m a) then some (nrmA a m) else none
    | _ => none
  | .rem => match b with
    | .lit m => bif Nat.beq (kindN k) 3 && mask2 (m - 1) && inB dec 0 4000000000000000000 a && !(inB dec 0 (m - 1) a) then some (nrmR a m) else none
    | _ => none
  | .add => bif isU64 k && small dec a && small dec b then some (smpW dec 4 k (smpB dec .add .i64 a b)) else none
  | .sub => bif isU64 k && small dec a && small dec b then some (smpW dec 4 k (smpB dec .sub .i64 a b)) else none
  | .mul => bif isU64 k && small dec a && small dec b then some (smpW dec 4 k (smpB dec .mul .i64 a b)) else none
  | _ => none
theorem nrm_ok (hdec : ∀ b x, dec b = some x → b.eval = x) {op : BinOp} {k : IntKind} {a b y : Sx} (h : nrm dec op k a b = some y) : y.eval = arithI op k a.eval b.eval := by
  have habs : ∀ x y : Int, -2147483648 ≤ x → x ≤ 2147483648 → -2147483648 ≤ y → y ≤ 2147483648 → -4611686018427387904 ≤ x * y ∧ x * y ≤ 4611686018427387904 := by
    intro x y x1 x2 y1 y2
    have h1 : x.natAbs ≤ 2147483648 := by omega
    have h2 : y.natAbs ≤ 2147483648 := by omega
    have h3 : (x * y).natAbs ≤ 2147483648 * 2147483648 := by rw [Int.natAbs_mul]; exact Nat.mul_le_mul h1 h2
    omega
  unfold nrm at h
  split at h
  · split at h
    · simp only [cond_eq_ite] at h
      split at h
      · rename_i hc
        simp only [Option.some.injEq] at h
        subst h
        simp only [Bool.and_eq_true] at hc
        rw [nrmA_ok hc.1.1 hc.1.2, Sx.eval_lit]
      · cases h
    · cases h
  · split at h
    · simp only [cond_eq_ite] at h
      split at h
      · rename_i hc
        simp only [Option.some.injEq] at h
        subst h
        simp only [Bool.and_eq_true] at hc
        have hk : k = .i64 := by
          have := Nat.eq_of_beq_eq_true hc.1.1.1
          cases k <;> simp only [kindN, reduceCtorEq] at this <;> first | rfl | omega
        subst hk
        rw [nrmR_ok hc.1.1.2 (inB_ok hdec hc.1.2).1, Sx.eval_lit]
      · cases h
    · cases h
  all_goals first | (cases h; done) | skip
  all_goals
    simp only [cond_eq_ite] at h
    split at h
    · rename_i hc
      simp only [Option.some.injEq] at h
      subst h
      simp only [Bool.and_eq_true] at hc
      have e1 := inB_ok hdec hc.1.2
      have e2 := inB_ok hdec hc.2
      have e3 := habs a.eval b.eval e1.1 e1.2 e2.1 e2.2
      rw [smpW_ok hdec, smpB_ok hdec]
      simp only [arithI]
      rw [wrap_in (k := .i64) (by simp only [kLo]; omega) (by simp only [kHi]; omega)]
    · cases h
def smp2 (dec : Bx → Option Bool) : Sx → Sx
  | .wrap k a => smpW dec 4 k a
  | .bin op k a b => match smpC dec op k a b with
    | some y => y
    | none => match nrm dec op k a b with
      | some y => y
      | none => smpB dec op k a b
  | e => e
def smpZ (dec : Bx → Option Bool) (e : Sx) : Sx := match ivY dec e with
  | some (l, h) => bif intB l h then .lit l else smp2 dec e
  | none => smp2 dec e
theorem smp2_ok (hdec : ∀ b x, dec b = some x → b.eval = x) (e : Sx) : (smp2 dec e).eval = e.eval := by
  unfold smp2
  split
  · exact smpW_ok hdec _ _ _
  · split
    · rename_i h
      exact smpC_ok hdec h
    · split
      · rename_i h
        exact nrm_ok hdec h
      · exact smpB_ok hdec _ _ _ _
  · rfl
theorem smpZ_ok (hdec : ∀ b x, dec b = some x → b.eval = x) (e : Sx) : (smpZ dec e).eval = e.eval := by
  unfold smpZ
  split
  · rename_i h
    simp only [cond_eq_ite]
    split
    · rename_i hb
      have := ivY_ok hdec _ _ _ h
      have := intB_eq hb
      rw [Sx.eval_lit]
      omega
    · exact smp2_ok hdec e
  · exact smp2_ok hdec e
end Go.Tw
