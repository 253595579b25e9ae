/-
  A part of the proof that the abstract evaluator is sound for the model's machine. Conditions: those of each theorem, as it states them.
-/
import Derived.Test.YtelhnjgcijjngaaGreatDoorTwMemo
set_option linter.all false
namespace Go.Tw
open Go.ChangeShapes Go.RowKit
end Go.Tw
namespace Go.Tw
open Go.ChangeShapes Go.RowKit
/-! Numbers of 64 bits, as plain arithmetic. -/
theorem wrap_i64 (n : Int) : wrapI .i64 n = if n % 18446744073709551616 ≥ 9223372036854775808 then n % 18446744073709551616 - 18446744073709551616 else n % 18446744073709551616 := by
  rw [wrapI_eq]
  unfold IntKind.wrap
  have e1 : (2 ^ IntKind.i64.bits : Int) = 18446744073709551616 := by decide
  have e2 : (2 ^ (IntKind.i64.bits - 1) : Int) = 9223372036854775808 := by decide
  have e3 : IntKind.i64.signed = true := rfl
  simp only [e1, e2, e3, Bool.true_and, decide_eq_true_eq]
theorem wrap_u64 (n : Int) : wrapI .u64 n = n % 18446744073709551616 := by
  rw [wrapI_eq]
  unfold IntKind.wrap
  have e1 : (2 ^ IntKind.u64.bits : Int) = 18446744073709551616 := by decide
  have e3 : IntKind.u64.signed = false := rfl
  simp only [e1, e3, Bool.false_and, Bool.false_eq_true, if_false]
theorem tmod_lit (a : Int) (n : Nat) : a.tmod (n : Int) = if 0 ≤ a then a % n else -((-a) % n) := by
  split
  · rename_i h; exact Int.tmod_eq_emod_of_nonneg h
  · rename_i h
    have : a = -(-a) := by omega
    rw [this, Int.neg_tmod, Int.tmod_eq_emod_of_nonneg (by omega)]
    simp
theorem bits_ofInt (a : Int) : (BitVec.ofInt 64 a).toNat = (a % 18446744073709551616).toNat := by
  rw [BitVec.toNat_ofInt]
  rfl
theorem and_mask (a : Int) (j : Nat) (hj : j ≤ 62) : bitsA .i64 (· &&& ·) a (2 ^ j - 1) = a % 2 ^ j := by
  have hp : (2 : Nat) ^ j ≤ 2 ^ 62 := Nat.pow_le_pow_right (by decide) hj
  have hp1 : 1 ≤ (2 : Nat) ^ j := Nat.one_le_two_pow
  have hc : ((2 : Int) ^ j - 1) = ((2 ^ j - 1 : Nat) : Int) := by
    have : ((2 ^ j : Nat) : Int) = (2 : Int) ^ j := by simp
    omega
  show wrapI .i64 ((BitVec.ofInt 64 a &&& BitVec.ofInt 64 (2 ^ j - 1)).toNat : Int) = _
  rw [BitVec.toNat_and, bits_ofInt, bits_ofInt, hc]
  have e1 : (((2 ^ j - 1 : Nat) : Int) % 18446744073709551616).toNat = 2 ^ j - 1 := by omega
  rw [e1, Nat.and_two_pow_sub_one_eq_mod]
  have hdiv : (2 : Nat) ^ j ∣ 18446744073709551616 := by
    have : (18446744073709551616 : Nat) = 2 ^ 64 := by decide
    rw [this]; exact Nat.pow_dvd_pow 2 (by omega)
  have e2 : (((a % 18446744073709551616).toNat % 2 ^ j : Nat) : Int) = a % 2 ^ j := by
    rw [Int.natCast_emod, Int.toNat_of_nonneg (Int.emod_nonneg _ (by decide))]
    have : ((2 ^ j : Nat) : Int) = (2 : Int) ^ j := by simp
    rw [this]
    exact Int.emod_emod_of_dvd a (by rw [← this]; exact Int.natCast_dvd_natCast.2 hdiv)
  rw [e2, wrap_i64]
  have hb : 0 ≤ a % 2 ^ j ∧ a % 2 ^ j < 2 ^ 62 := by
    have hpos : (0 : Int) < 2 ^ j := by have : ((2 ^ j : Nat) : Int) = (2 : Int) ^ j := by simp
                                        omega
    refine ⟨Int.emod_nonneg _ (by omega), ?_⟩
    have h1 := Int.emod_lt_of_pos a hpos
    have h2 : ((2 ^ j : Nat) : Int) = (2 : Int) ^ j := by simp
    have h3 : ((2 ^ 62 : Nat) : Int) = (2 : Int) ^ 62 := by decide
    omega
  have h62 : (2 : Int) ^ 62 = 4611686018427387904 := by decide
  rw [h62] at hb
  generalize a % 2 ^ j = z at hb ⊢
  split <;> omega
theorem mod_form [Val] (x : Sx) : (Sx.bin .and .i64 x (.lit 4095)).eval = (Sx.bin .rem .i64 (.bin .add .i64 (.bin .rem .i64 x (.lit (.ofNat 4096))) (.lit (.ofNat 4096))) (.lit (.ofNat 4096))).eval := by
  show bitsA .i64 (· &&& ·) x.eval 4095 = (wrapI .i64 (x.eval.tmod 4096 + 4096)).tmod 4096
  have h1 := and_mask x.eval 12 (by decide)
  have e1 : ((2 : Int) ^ 12 - 1) = 4095 := by decide
  have e2 : ((2 : Int) ^ 12) = 4096 := by decide
  rw [e1, e2] at h1
  rw [h1, wrap_i64]
  have h2 := tmod_lit x.eval 4096
  have e3 : (((4096 : Nat) : Int)) = 4096 := rfl
  rw [e3] at h2
  rw [h2]
  generalize x.eval = a
  have h3 : ∀ z : Int, 0 ≤ z → z.tmod 4096 = z % 4096 := fun z hz => Int.tmod_eq_emod_of_nonneg hz
  split
  · rename_i h
    rw [if_neg (by omega), h3 _ (by omega)]
    omega
  · rename_i h
    rw [if_neg (by omega), h3 _ (by omega)]
    omega
/-! Paths: decisions of what is not known, one behind the other. -/
abbrev Dcs := List (Bx × Bool)
def pathDec : Dcs → Bx → Option Bool
  | [], _ => none
  | (c, x) :: l, b => bif c.same b then some x else pathDec l b
def isLit : Sx → Option Int
  | .lit n => some n
  | _ => none
def modForm (k : IntKind) (e a b : Sx) : Sx :=
  match k, a, b with
  | .i64, .bin .add .i64 (.bin .rem .i64 x (.lit (.ofNat 4096))) (.lit (.ofNat 4096)), .lit (.ofNat 4096) => .bin .and .i64 x (.lit 4095)
  | _, _, _ => e
def canonS : Sx → Sx
  | .lit n => .lit n
  | .var i => .var i
  | .wrap k a => .wrap k (canonS a)
  | .bin op k a b => match op with
    | .rem => modForm k (.bin .rem k (canonS a) (canonS b)) (canonS a) (canonS b)
    | op => .bin op k (canonS a) (canonS b)
  | .dvar i => .dvar i
  | .slit s => .slit s
  | .pr f a b => .pr f a b
  | .ap f a b c => .ap f a b c
  | .cell x i o => .cell x i o
  | .setc x i o c => .setc x i o c
  | .dlit d => .dlit d
def isSlit : Sx → Option (List UInt8)
  | .slit s => some s
  | _ => none
inductive CB where
  | is (x : Bool)
  | cond (b : Bx) (flip : Bool)
def CB.neg : CB → CB
  | .is x => .is (!x)
  | .cond b f => .cond b (!f)
def canonEq (a b : Sx) : CB := bif a.same b then .is true else match isLit a, isLit b with
  | some n, some m => .is (intB n m)
  | _, _ => .cond (.cmp .eql a b) false
def canonLt (a b : Sx) : CB := match isLit a, isLit b with
  | some n, some m => .is (decide (n < m))
  | _, _ => .cond (.cmp .lss a b) false
def canonLe (a b : Sx) : CB := match isLit b with
  | some n => canonLt a (.lit (n + 1))
  | none => (canonLt b a).neg
def canonSeq (a b : Sx) : CB := bif a.same b then .is true else match isSlit a, isSlit b with
  | some s, some t => .is (u8s s t)
  | _, _ => .cond (.seq a b) false
def canonB : Bx → CB
  | .not b => (canonB b).neg
  | .seq a b => canonSeq a b
  | .cmp op a b => match op with
    | .eql => canonEq (canonS a) (canonS b)
    | .neq => (canonEq (canonS a) (canonS b)).neg
    | .lss => canonLt (canonS a) (canonS b)
    | .geq => (canonLt (canonS a) (canonS b)).neg
    | .leq => canonLe (canonS a) (canonS b)
    | .gtr => (canonLe (canonS a) (canonS b)).neg
    | op => .cond (.cmp op a b) false
def decP (p : Dcs) (b : Bx) : Option Bool := match canonB b with
  | .is x => some x
  | .cond c f => match pathDec p c with
    | some x => some (bif f then !x else x)
    | none => none
def pathCfg (p : Dcs) : Cfg := { Cfg.none with dec := decP p }
section
variable [Val] {P : Program}
def Holds (p : Dcs) : Prop := ∀ c ∈ p, c.1.eval = c.2
theorem Holds.nil : Holds [] := fun _ h => by cases h
theorem Holds.cons {p : Dcs} {b : Bx} {x : Bool} (h : b.eval = x) (k : Holds p) : Holds ((b, x) :: p) := fun c hc => by
  rcases List.mem_cons.1 hc with rfl | hc
  · exact h
  · exact k c hc
theorem Holds.head {p : Dcs} {b : Bx} {x : Bool} (k : Holds ((b, x) :: p)) : b.eval = x := k (b, x) (by simp)
theorem Holds.tail {p : Dcs} {c : Bx × Bool} (k : Holds (c :: p)) : Holds p := fun d hd => k d (by simp [hd])
theorem pathDec_ok {p : Dcs} (h : Holds p) {b : Bx} {x : Bool} (hd : pathDec p b = some x) : b.eval = x := by
  induction p with
  | nil => cases hd
  | cons c p ih =>
    obtain ⟨c, y⟩ := c
    simp only [pathDec, cond_eq_ite] at hd
    split at hd
    · rename_i hs
      simp only [Option.some.injEq] at hd
      subst hd
      rw [← Bx.same_eq hs]
      exact h.head
    · exact ih h.tail hd
def CB.eval : CB → Bool
  | .is x => x
  | .cond b f => bif f then !b.eval else b.eval
theorem CB.neg_eval (c : CB) : c.neg.eval = !c.eval := by
  cases c with
  | is x => rfl
  | cond b f => cases f <;> simp [CB.neg, CB.eval]
omit [Val] in
theorem isLit_some {a : Sx} {n : Int} (h : isLit a = some n) : a = .lit n := by
  cases a <;> simp only [isLit, Option.some.injEq, reduceCtorEq] at h
  rw [h]
theorem canonEq_eval (a b : Sx) : (canonEq a b).eval = (Bx.cmp .eql a b).eval := by
  unfold canonEq
  rw [cond_eq_ite]
  split
  · rename_i h
    rw [Sx.same_eq h]
    simp [CB.eval, Bx.eval, compI]
  · split
    · rename_i x y ha hb
      rw [isLit_some ha, isLit_some hb]
      simp only [CB.eval, Bx.eval, Sx.eval_lit, compI]
      by_cases e : x = y
      · subst e
        have : intB x x = true := by cases x <;> simp [intB]
        simp [this]
      · have : intB x y = false := by
          cases h : intB x y with
          | true => exact absurd (intB_t h) e
          | false => rfl
        simp [this, e]
    · rfl
theorem canonLt_eval (a b : Sx) : (canonLt a b).eval = (Bx.cmp .lss a b).eval := by
  unfold canonLt
  split
  · rename_i n m ha hb
    rw [isLit_some ha, isLit_some hb]
    rfl
  · rfl
theorem canonLe_eval (a b : Sx) : (canonLe a b).eval = (Bx.cmp .leq a b).eval := by
  unfold canonLe
  split
  · rename_i n hb
    rw [isLit_some hb, canonLt_eval]
    simp only [Bx.eval, Sx.eval_lit, compI]
    congr 1
    exact propext Int.lt_add_one_iff
  · rw [CB.neg_eval, canonLt_eval]
    simp only [Bx.eval, compI]
    by_cases h : b.eval < a.eval
    · have : ¬ a.eval ≤ b.eval := by omega
      simp [h, this]
    · have : a.eval ≤ b.eval := by omega
      simp [h, this]
theorem modForm_eval (k : IntKind) (e a b : Sx) (h : e.eval = (Sx.bin .rem k a b).eval) : (modForm k e a b).eval = (Sx.bin .rem k a b).eval := by
  unfold modForm
  split
  · rename_i x
    exact mod_form _
  · exact h
theorem canonS_eval : ∀ e : Sx, (canonS e).eval = e.eval := by
  intro e
  induction e with
  | lit n => rfl
  | var i => rfl
  | wrap k a ih => show wrapI k (canonS a).eval = wrapI k a.eval; rw [ih]
  | bin op k a b iha ihb =>
    have hb : ∀ op, (Sx.bin op k (canonS a) (canonS b)).eval = (Sx.bin op k a b).eval := fun op => by
      show arithI op k (canonS a).eval (canonS b).eval = arithI op k a.eval b.eval
      rw [iha, ihb]
    unfold canonS
    split
    · rw [modForm_eval _ _ _ _ rfl, hb]
    · exact hb _
  | dvar i => rfl
  | slit s => rfl
  | pr f a b => rfl
  | ap f a b c => rfl
  | cell x i o => rfl
  | setc x i o c => rfl
  | dlit d => rfl
omit [Val] in
theorem isSlit_some {a : Sx} {s : List UInt8} (h : isSlit a = some s) : a = .slit s := by
  cases a <;> simp only [isSlit, Option.some.injEq, reduceCtorEq] at h
  rw [h]
omit [Val] in
theorem u8s_beq : ∀ (a b : List UInt8), u8s a b = (a == b) := by
  intro a
  induction a with
  | nil => intro b; cases b <;> rfl
  | cons x a ih =>
    intro b
    cases b with
    | nil => rfl
    | cons y b =>
      simp only [u8s, ih, List.cons_beq_cons]
      by_cases h : x = y
      · subst h; simp
      · have h1 : (x == y) = false := by simpa using h
        have h2 : Nat.beq x.toNat y.toNat = false := by
          cases hb : Nat.beq x.toNat y.toNat with
          | false => rfl
          | true => exact absurd (UInt8.toNat_inj.1 (Nat.eq_of_beq_eq_true hb)) h
        simp [h1, h2]
theorem canonSeq_eval (a b : Sx) : (canonSeq a b).eval = (Bx.seq a b).eval := by
  unfold canonSeq
  rw [cond_eq_ite]
  split
  · rename_i h
    rw [Sx.same_eq h]
    simp [CB.eval, Bx.eval]
  · split
    · rename_i x y ha hb
      rw [isSlit_some ha, isSlit_some hb]
      show u8s x y = (x == y)
      exact u8s_beq x y
    · rfl
theorem canonB_eval : ∀ b : Bx, (canonB b).eval = b.eval := by
  intro b
  induction b with
  | not b ih => show (canonB b).neg.eval = !b.eval; rw [CB.neg_eval, ih]
  | seq a b => exact canonSeq_eval a b
  | cmp op a b =>
    unfold canonB
    split
    · rw [canonEq_eval]; simp only [Bx.eval, canonS_eval]
    · rw [CB.neg_eval, canonEq_eval]; simp only [Bx.eval, canonS_eval, compI]; rfl
    · rw [canonLt_eval]; simp only [Bx.eval, canonS_eval]
    · rw [CB.neg_eval, canonLt_eval]; simp only [Bx.eval, canonS_eval, compI]
      by_cases h : a.eval < b.eval
      · have : ¬ a.eval ≥ b.eval := by omega
        simp [h, this]
      · have : a.eval ≥ b.eval := by omega
        simp [h, this]
    · rw [canonLe_eval]; simp only [Bx.eval, canonS_eval]
    · rw [CB.neg_eval, canonLe_eval]; simp only [Bx.eval, canonS_eval, compI]
      by_cases h : a.eval ≤ b.eval
      · have : ¬ a.eval > b.eval := by omega
        simp [h, this]
      · have : a.eval > b.eval := by omega
        simp [h, this]
    · rfl
theorem decP_ok {p : Dcs} (h : Holds p) {b : Bx} {x : Bool} (hd : decP p b = some x) : b.eval = x := by
  rw [← canonB_eval]
  unfold decP at hd
  split at hd
  · rename_i y hc
    simp only [Option.some.injEq] at hd
    rw [hc]; exact hd
  · rename_i c f hc
    split at hd
    · rename_i y hy
      simp only [Option.some.injEq] at hd
      rw [hc, ← hd]
      show (bif f then !c.eval else c.eval) = _
      rw [pathDec_ok h hy]
    · cases hd
theorem memo_path {p : Dcs} {ms : List Memo} (hms : ∀ m ∈ ms, m.Sound P 0 (pathCfg p)) (hm : P.follows .mixedOrders = true) {n : Nat} {m : Memo}
    (hok : m.ok P { pathCfg p with hk := memoHk 0 (tabM ms) } n 0 (St.empty 0) = true) : m.Sound P 0 (pathCfg p) :=
  memo_sound hms hm rfl rfl rfl (fun i _ => by simp [St.empty, T.get_leaf]) (fun i h => absurd h (Nat.not_lt_zero _)) (fun g k h => by simp [pathCfg, Cfg.none] at h) hok
end
/-! What operations of 64 bits are, as linear facts. -/
section
variable [Val]
theorem lss_t' {a b : Sx} (h : a.eval < b.eval) : (Bx.cmp .lss a b).eval = true := by simpa [Bx.eval, compI] using h
theorem lss_f' {a b : Sx} (h : ¬ a.eval < b.eval) : (Bx.cmp .lss a b).eval = false := by simpa [Bx.eval, compI] using h
end
end Go.Tw
namespace Go.Tw
open Go.ChangeShapes Go.RowKit
/-! Laws of numbers in groups: what is called with the numbers of one group is known along each of that group's paths. -/
abbrev Entry := Dcs × List Memo
noncomputable def entryOk (P : Program) (ks : List Memo) (n : Nat) (e : Entry) : Bool := e.2.all fun m => m.ok P { pathCfg e.1 with hk := memoHk 0 (tabM ks) } n 0 (St.empty 0)
noncomputable def lawOk (P : Program) (n f : Nat) (args : List AV) (q : Dcs) (ms : List Memo) : Bool :=
  match callN P { pathCfg q with hk := memoHk 0 (tabM ms) } n f args (St.empty 0) with
  | .ret v _ => match v with
    | .bool true => true
    | _ => false
  | _ => false
noncomputable def crossOk (P : Program) (ks : List Memo) (n f : Nat) (args : List AV) (E : List Entry) (e : Entry) : Bool := E.all fun d => lawOk P n f args (e.1 ++ d.1) (e.2 ++ (d.2 ++ ks))
section
variable [Val] {P : Program}
end
end Go.Tw
