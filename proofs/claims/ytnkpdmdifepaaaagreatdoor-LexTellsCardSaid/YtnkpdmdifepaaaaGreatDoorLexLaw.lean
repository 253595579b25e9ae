/-
  The law LexTells, of any two texts and any place, along its paths. Conditions: that the runs of LexK, LexS.. tell what they should; the tables read as listed.
-/
import Derived.Test.YtnkpdmdifepaaaaGreatDoorLexP
namespace Go.Proofs.YtnkpdmdifepaaaaGreatDoor
open Go.Tw Go.ChangeShapes Go.RowKit
noncomputable section

/-! Where a list has what is asked for; its length: nowhere. -/
def idxP (p : List UInt8 → Bool) : List (List UInt8) → Nat
  | [] => 0
  | x :: l => bif p x then 0 else idxP p l + 1
theorem idxP_not {p : List UInt8 → Bool} : ∀ {l : List (List UInt8)}, ∀ x ∈ l.take (idxP p l), p x = false := by
  intro l
  induction l with
  | nil => intro x h; simp [idxP] at h
  | cons y l ih =>
    intro x h
    cases hp : p y with
    | true => simp [idxP, hp] at h
    | false =>
      simp only [idxP, hp, cond_false, List.take_succ_cons, List.mem_cons] at h
      rcases h with rfl | h
      · exact hp
      · exact ih x h
theorem idxP_at {p : List UInt8 → Bool} : ∀ {l : List (List UInt8)} {x : List UInt8}, l[idxP p l]? = some x → p x = true := by
  intro l
  induction l with
  | nil => intro x h; simp at h
  | cons y l ih =>
    intro x h
    cases hp : p y with
    | true => simp only [idxP, hp, cond_true, List.getElem?_cons_zero, Option.some.injEq] at h; subst h; exact hp
    | false => simp only [idxP, hp, cond_false, List.getElem?_cons_succ] at h; exact ih h
theorem idxP_le {p : List UInt8 → Bool} : ∀ {l : List (List UInt8)}, idxP p l ≤ l.length := by
  intro l
  induction l with
  | nil => simp [idxP]
  | cons y l ih => cases hp : p y <;> simp [idxP, hp, ih]

def keyI (s : List UInt8) : Nat := idxP (fun x => x == s) keyL
def signCl (s : List UInt8) : Nat := min 3 s.length
def signP (s x : List UInt8) : Bool := Nat.ble x.length (signCl s) && s.take x.length == x
def signI (s : List UInt8) : Nat := idxP (signP s) signL
def fnL (f : Nat) (d d2 _d3 : Dat) : Dat :=
  match f with
  | 1 => .int (lastT d.toS d.toS.length)
  | 2 => .int (1 + countT d.toS (upto6 d.toS d2.toI))
  | 3 => .int (upto6 d.toS d2.toI - lastT d.toS (upto6 d.toS d2.toI))
  | 4 => .int (if keyI d.toS < 21 then 1 else 0)
  | 5 => .int (signR (signI d.toS))
  | _ => .int 0
abbrev VL (s0 : List UInt8) (z : Int) (s1 : List UInt8) : Val := Val.mk (fun _ => z) (fun i => if i = 0 then .str s0 else .str s1) fnL

section
variable {s0 s1 : List UInt8} {z : Int}

theorem dat1 : @Sx.dat (VL s0 z s1) S1 = .str s1 := rfl
theorem keyNot_holds : ∀ l : List (List UInt8), (∀ x ∈ l, (x == s1) = false) → @Holds (VL s0 z s1) (keyNot l) := by
  intro l
  letI : Val := VL s0 z s1
  induction l with
  | nil => intro _; exact Holds.nil
  | cons x l ih =>
    intro h
    have hx := h x (by simp)
    have hy : (s1 == x) = false := by
      cases hb : s1 == x with
      | false => rfl
      | true =>
        have : s1 = x := by simpa using hb
        subst this
        simp at hx
    exact Holds.cons (show (x == s1) = false from hx) (Holds.cons (show (s1 == x) = false from hy) (ih fun y hy => h y (by simp [hy])))
theorem key_holds : @Holds (VL s0 z s1) (keyPath (keyI s1)) := by
  letI : Val := VL s0 z s1
  unfold keyPath
  refine Holds.append ?_ (keyNot_holds _ idxP_not)
  cases h : keyL[keyI s1]? with
  | none => exact Holds.nil
  | some x =>
    have hx : (x == s1) = true := idxP_at (p := fun x => x == s1) h
    have he : x = s1 := by simpa using hx
    subst he
    exact Holds.cons (show (x == x) = true by simp) (Holds.cons (show (x == x) = true by simp) Holds.nil)
theorem signC_eval (x : List UInt8) : @Bx.eval (VL s0 z s1) (signC x) = (s1.take x.length == x) := by
  show ((((@Sx.dat (VL s0 z s1) S1).toS.take ((x.length : Int)).toNat).drop ((0 : Int)).toNat) == x) = _
  rw [dat1, Int.toNat_natCast]
  rfl
theorem signNot_holds : ∀ l : List (List UInt8), (∀ x ∈ l, signP s1 x = false) → @Holds (VL s0 z s1) (signNot (signCl s1) l) := by
  intro l
  letI : Val := VL s0 z s1
  induction l with
  | nil => intro _; exact Holds.nil
  | cons x l ih =>
    intro h
    have hx := h x (by simp)
    have hr := ih fun y hy => h y (by simp [hy])
    unfold signNot
    unfold signP at hx
    cases hb : Nat.ble x.length (signCl s1) with
    | false => exact hr
    | true =>
      rw [hb, Bool.true_and] at hx
      exact Holds.cons (by rw [signC_eval]; exact hx) hr
theorem lenPath_holds : @Holds (VL s0 z s1) (lenPath (signCl s1)) := by
  letI : Val := VL s0 z s1
  have hl : Sx.eval (sLen S1) = (s1.length : Int) := len_eval dat1
  have hb : ∀ k : Nat, k ≤ 3 → decide ((s1.length : Int) < (k : Int)) = Nat.blt (signCl s1) k := by
    intro k hk
    unfold signCl
    by_cases h : s1.length < k
    · have h1 : Nat.blt (min 3 s1.length) k = true := Nat.ble_eq_true_of_le (by omega)
      rw [h1]; simp; omega
    · have h1 : Nat.blt (min 3 s1.length) k = false := by
        cases hx : Nat.blt (min 3 s1.length) k with
        | false => rfl
        | true => have := blt_t hx; omega
      rw [h1]; simp; omega
  refine Holds.cons ?_ (Holds.cons ?_ (Holds.cons ?_ Holds.nil))
  · rw [dec_lss hl (y := 1) rfl]; exact hb 1 (by omega)
  · rw [dec_lss hl (y := 2) rfl]; exact hb 2 (by omega)
  · rw [dec_lss hl (y := 3) rfl]; exact hb 3 (by omega)
theorem sign_holds : @Holds (VL s0 z s1) (signPath (signCl s1) (signI s1)) := by
  letI : Val := VL s0 z s1
  unfold signPath
  refine Holds.append ?_ (Holds.append (signNot_holds _ idxP_not) lenPath_holds)
  cases h : signL[signI s1]? with
  | none => exact Holds.nil
  | some x =>
    have hx : signP s1 x = true := idxP_at (p := signP s1) h
    unfold signP at hx
    rw [Bool.and_eq_true] at hx
    exact Holds.cons (by rw [signC_eval]; exact hx.2) Holds.nil
theorem sign_valid : signV (signCl s1) (signI s1) = true := by
  unfold signV
  split
  · rename_i x h
    have hx : signP s1 x = true := idxP_at (p := signP s1) h
    unfold signP at hx
    rw [Bool.and_eq_true] at hx
    exact hx.1
  · rfl
end

/-! Known calls, with what is not known. -/
def closed : List Memo := m2 :: c2
theorem closed_sound [Val] : ∀ m ∈ closed, m.Sound P 12 (tabCfg tabs) := sound_cons m2_sound c2_sound
def kB : AV := .symb (.cmp .neq (.ap 4 S1 (.lit 0) (.lit 0)) (.lit 0))
def kS : AV := .sym .i64 (.ap 5 S1 (.lit 0) (.lit 0))
section
variable {s0 s1 : List UInt8} {z : Int}

theorem key_memo {f : Nat} (hf : ∀ i, i < 22 → keyOk f i = true) (q : Dcs) : @Memo.Sound (VL s0 z s1) P 12 (tabPath tabs q) ⟨f, [.vstr S1], kB, [], 12⟩ := by
  letI : Val := VL s0 z s1
  have hi : keyI s1 < 22 := Nat.lt_succ_of_le idxP_le
  have h := hf _ hi
  unfold keyOk at h
  split at h
  · rename_i x τ hc
    have hx := AV.same_eq h
    subst hx
    have hm := tab_quiet (l := tabs) (p := keyPath (keyI s1)) (ms := c2) (fun m hm => tab_any _ (c2_sound m hm)) follows tabs_lt hc rfl rfl (fun _ => rfl)
    refine quiet_recast (tab_drop q key_holds hm) (fun _ => rfl) (fun _ => rfl) fun φ w hw => ?_
    cases hw
    have he : Bx.eval (.cmp .neq (.ap 4 S1 (.lit 0) (.lit 0)) (.lit 0)) = Nat.blt (keyI s1) 21 := by
      show ((if keyI s1 < 21 then (1 : Int) else 0) != 0) = _
      by_cases hk : keyI s1 < 21
      · have : Nat.blt (keyI s1) 21 = true := Nat.ble_eq_true_of_le hk
        rw [this]; simp [hk]
      · have : Nat.blt (keyI s1) 21 = false := by
          cases hx : Nat.blt (keyI s1) 21 with
          | false => rfl
          | true => exact absurd (blt_t hx) hk
        rw [this]; simp [hk]
    rw [← he]
    exact .symb _
  · cases h
theorem sign_memo {f : Nat} (hf : ∀ c i, c < 4 → i < 46 → signOk f c i = true) (q : Dcs) : @Memo.Sound (VL s0 z s1) P 12 (tabPath tabs q) ⟨f, [.vstr S1], kS, [], 12⟩ := by
  letI : Val := VL s0 z s1
  have hi : signI s1 < 46 := Nat.lt_succ_of_le idxP_le
  have hcl : signCl s1 < 4 := by unfold signCl; omega
  have h := hf _ _ hcl hi
  unfold signOk at h
  rw [sign_valid, cond_true] at h
  split at h
  · rename_i x τ hc
    have hx := AV.same_eq h
    subst hx
    have hm := tab_quiet (l := tabs) (p := signPath (signCl s1) (signI s1)) (ms := c2) (fun m hm => tab_any _ (c2_sound m hm)) follows tabs_lt hc rfl rfl (fun _ => rfl)
    refine quiet_recast (tab_drop q sign_holds hm) (fun _ => rfl) (fun _ => rfl) fun φ w hw => ?_
    cases hw
    exact .sym .i64 (.ap 5 S1 (.lit 0) (.lit 0))
  · cases h
theorem last_memo (e : Sx) {s : List UInt8} (he : @Sx.dat (VL s0 z s1) e = .str s) (hs : s.length ≤ 1099511627776) (C : Cfg) :
    @Memo.Sound (VL s0 z s1) P 12 C ⟨27, [.vstr e, .int .u8 10], .sym .i64 (.ap 1 e (.lit 0) (.lit 0)), [], 12⟩ := by
  letI : Val := VL s0 z s1
  refine memo_quiet rfl (fun _ => rfl) fun φ args' w ha => ?_
  obtain ⟨args'⟩ := args'
  have ha : VRL φ [.vstr e, .int .u8 10] args' := ha
  cases ha with
  | cons h1 h2 =>
    cases h2 with
    | cons h2 h3 =>
      cases h3
      cases h2
      cases h1 with
      | vstr s' hs' =>
        rw [he] at hs'
        simp only [Dat.str.injEq] at hs'
        subst hs'
        refine (last_calls s hs w).mono fun e' w' hq => ?_
        obtain ⟨rfl, hq⟩ := hq
        refine ⟨_, rfl, ?_, hq⟩
        have hv : Sx.eval (.ap 1 e (.lit 0) (.lit 0)) = lastT s s.length := by
          show lastT (Sx.dat e).toS (Sx.dat e).toS.length = _
          rw [he]; rfl
        rw [← hv]
        exact .sym _ _
theorem line_memo (hs : s0.length ≤ 1099511627776) (C : Cfg) :
    @Memo.Sound (VL s0 z s1) P 12 C ⟨6, [.vstr (.dvar 0), .sym .i64 (.var 0)], .tup [.sym .i64 (.ap 2 (.dvar 0) (.var 0) (.lit 0)), .sym .i64 (.ap 3 (.dvar 0) (.var 0) (.lit 0))], [], 12⟩ := by
  letI : Val := VL s0 z s1
  refine memo_quiet rfl (fun _ => rfl) fun φ args' w ha => ?_
  obtain ⟨args'⟩ := args'
  have ha : VRL φ [.vstr (.dvar 0), .sym .i64 (.var 0)] args' := ha
  cases ha with
  | cons h1 h2 =>
    cases h2 with
    | cons h2 h3 =>
      cases h3
      cases h2
      cases h1 with
      | vstr s' hs' =>
        have hs' : Dat.str s0 = .str s' := hs'
        simp only [Dat.str.injEq] at hs'
        subst hs'
        refine (line_calls s0 z hs w).mono fun e' w' hq => ?_
        obtain ⟨rfl, hq⟩ := hq
        exact ⟨_, rfl, .tup _ (.cons (.sym .i64 (.ap 2 (.dvar 0) (.var 0) (.lit 0))) (.cons (.sym .i64 (.ap 3 (.dvar 0) (.var 0) (.lit 0))) .nil)), hq⟩
end

/-! The law's paths. -/
def S0 : Sx := .dvar 0
def at0 : Sx := .var 0
def mems (e : Sx) : List Memo := ⟨27, [.vstr e, .int .u8 10], .sym .i64 (.ap 1 e (.lit 0) (.lit 0)), [], 12⟩ ::
  ⟨6, [.vstr (.dvar 0), .sym .i64 (.var 0)], .tup [.sym .i64 (.ap 2 (.dvar 0) (.var 0) (.lit 0)), .sym .i64 (.ap 3 (.dvar 0) (.var 0) (.lit 0))], [], 12⟩ ::
  ⟨7, [.vstr S1], kB, [], 12⟩ :: ⟨8, [.vstr S1], kB, [], 12⟩ :: ⟨9, [.vstr S1], kS, [], 12⟩ :: ⟨10, [.vstr S1], kS, [], 12⟩ :: closed
def base : Dcs := [(.cmp .lss (sLen S0) (.lit 4101), true), (.cmp .lss (sLen S1) (.lit 101), true), (.cmp .lss (sLen S0) (.lit 0), false), (.cmp .lss (sLen S0) (sLen S0), false)]
def goals (e : Sx) : Dcs := [(.cmp .eql (.bin .add .i64 (.lit 1) (.pr 5 e (.lit 10))) (.ap 2 S0 at0 (.lit 0)), true), (.cmp .eql (.bin .sub .i64 (.pr 0 e (.lit 0)) (.ap 1 e (.lit 0) (.lit 0))) (.ap 3 S0 at0 (.lit 0)), true)]
def keyB (b : Bool) : Dcs := [(.cmp .eql (.ap 4 S1 (.lit 0) (.lit 0)) (.lit 0), b)]
def eMid : Sx := .pr 3 (.pr 2 S0 at0) (.lit 0)
def eLow : Sx := .pr 3 (.pr 2 S0 (.lit 0)) (.lit 0)
def eHigh : Sx := .pr 3 (.pr 2 S0 (sLen S0)) (.lit 0)
def pMid (b : Bool) : Dcs := [(.cmp .lss at0 (.lit 0), false), (.cmp .lss (sLen S0) at0, false)] ++ (goals eMid ++ (keyB b ++ base))
def pLow (b : Bool) : Dcs := [(.cmp .lss at0 (.lit 0), true)] ++ (goals eLow ++ (keyB b ++ base))
def pHigh (b : Bool) : Dcs := [(.cmp .lss at0 (.lit 0), false), (.cmp .lss (sLen S0) at0, true)] ++ (goals eHigh ++ (keyB b ++ base))
def pA : Dcs := [(.cmp .lss (sLen S0) (.lit 4101), false)]
def pB : Dcs := [(.cmp .lss (sLen S0) (.lit 4101), true), (.cmp .lss (sLen S1) (.lit 101), false)]
def lawArgs : List AV := [.vstr S0, .sym .i64 at0, .vstr S1]
def lawB (q : Dcs) (ms : List Memo) : Bool :=
  match callN P { tabPath tabs q with hk := memoHk 12 (tabM ms) } 100000 3 lawArgs (tabSt 12 tabs) with
  | .ret v _ => v.same (.bool true)
  | _ => false
set_option maxRecDepth 1000000 in
theorem law_mid : [true, false].all (fun b => lawB (pMid b) (mems eMid)) = true := by kernel_rfl
set_option maxRecDepth 1000000 in
theorem law_low : [true, false].all (fun b => lawB (pLow b) (mems eLow)) = true := by kernel_rfl
set_option maxRecDepth 1000000 in
theorem law_high : [true, false].all (fun b => lawB (pHigh b) (mems eHigh)) = true := by kernel_rfl
set_option maxRecDepth 1000000 in
theorem law_A : lawB pA closed = true := by kernel_rfl
set_option maxRecDepth 1000000 in
theorem law_B : lawB pB closed = true := by kernel_rfl

theorem law_run {v : Val} {q : Dcs} {ms : List Memo} (hq : @Holds v q) (hms : ∀ m ∈ ms, @Memo.Sound v P 12 (tabPath tabs q) m) (h : lawB q ms = true) {W : World} (hl : ∀ p ∈ tabs, @TabOk v W p) {args' : Array Value}
    (ha : @VRL v noPM lawArgs args'.toList) : Calls P 3 args' W fun e W' => e = .returned (.bool true) ∧ Below W.heap.size W W' := by
  letI : Val := v
  unfold lawB at h
  split at h
  · rename_i x τ hc
    have hx := AV.same_eq h
    subst hx
    exact tab_calls (tab_quiet hms follows tabs_lt hc rfl rfl (fun _ => rfl)) hq tabs_lt hl ha rfl
  · cases h

section
variable {s0 s1 : List UInt8} {z : Int}
theorem dat_part {n : Sx} {k : Nat} (hn : @Sx.eval (VL s0 z s1) n = (k : Int)) : @Sx.dat (VL s0 z s1) (.pr 3 (.pr 2 S0 n) (.lit 0)) = .str (s0.take k) := by
  show Dat.str ((s0.take (@Sx.dat (VL s0 z s1) n).toI.toNat).drop ((0 : Int)).toNat) = _
  have hn : (@Sx.dat (VL s0 z s1) n).toI = (k : Int) := hn
  rw [hn, Int.toNat_natCast]
  rfl
theorem goals_hold {n : Sx} (hn : @Sx.eval (VL s0 z s1) n = (upto6 s0 z : Int)) (hs : s0.length ≤ 4100) : @Holds (VL s0 z s1) (goals (.pr 3 (.pr 2 S0 n) (.lit 0))) := by
  letI : Val := VL s0 z s1
  have hu : upto6 s0 z ≤ s0.length := Nat.min_le_right _ _
  have hd := dat_part hn
  have hlen : (s0.take (upto6 s0 z)).length = upto6 s0 z := by rw [List.length_take]; omega
  have c1 := countT_ge s0 (upto6 s0 z)
  have c2 := lastT_ge s0 (upto6 s0 z)
  refine Holds.cons ?_ (Holds.cons ?_ Holds.nil)
  · have h5 : Sx.eval (.pr 5 (.pr 3 (.pr 2 S0 n) (.lit 0)) (.lit 10)) = countT s0 (upto6 s0 z) := by
      show countA (Sx.dat (.pr 3 (.pr 2 S0 n) (.lit 0))).toS 10 = _
      rw [hd]
      exact countA_take s0 _ hu
    have h1 : Sx.eval (.bin .add .i64 (.lit 1) (.pr 5 (.pr 3 (.pr 2 S0 n) (.lit 0)) (.lit 10))) = 1 + countT s0 (upto6 s0 z) := by
      show wrapI .i64 (1 + Sx.eval (.pr 5 (.pr 3 (.pr 2 S0 n) (.lit 0)) (.lit 10))) = _
      rw [h5, wrap_i64]
      split <;> omega
    rw [dec_eql h1 (y := 1 + countT s0 (upto6 s0 z)) rfl]
    simp
  · have h0 : Sx.eval (.pr 0 (.pr 3 (.pr 2 S0 n) (.lit 0)) (.lit 0)) = (upto6 s0 z : Int) := by
      have := len_eval hd
      rw [hlen] at this
      exact this
    have h6 : Sx.eval (.ap 1 (.pr 3 (.pr 2 S0 n) (.lit 0)) (.lit 0) (.lit 0)) = lastT s0 (upto6 s0 z) := by
      show lastT (Sx.dat (.pr 3 (.pr 2 S0 n) (.lit 0))).toS (Sx.dat (.pr 3 (.pr 2 S0 n) (.lit 0))).toS.length = _
      rw [hd]
      show lastT (s0.take (upto6 s0 z)) (s0.take (upto6 s0 z)).length = _
      rw [hlen]
      exact lastT_take s0 _ _ (Nat.le_refl _) hu
    have h1 : Sx.eval (.bin .sub .i64 (.pr 0 (.pr 3 (.pr 2 S0 n) (.lit 0)) (.lit 0)) (.ap 1 (.pr 3 (.pr 2 S0 n) (.lit 0)) (.lit 0) (.lit 0))) = upto6 s0 z - lastT s0 (upto6 s0 z) := by
      show wrapI .i64 (Sx.eval (.pr 0 (.pr 3 (.pr 2 S0 n) (.lit 0)) (.lit 0)) - Sx.eval (.ap 1 (.pr 3 (.pr 2 S0 n) (.lit 0)) (.lit 0) (.lit 0))) = _
      rw [h0, h6, wrap_i64]
      split <;> omega
    rw [dec_eql h1 (y := upto6 s0 z - lastT s0 (upto6 s0 z)) rfl]
    simp
theorem base_holds (h0 : s0.length ≤ 4100) (h1 : s1.length ≤ 100) : @Holds (VL s0 z s1) base := by
  letI : Val := VL s0 z s1
  have e0 : Sx.eval (sLen S0) = (s0.length : Int) := len_eval rfl
  have e1 : Sx.eval (sLen S1) = (s1.length : Int) := len_eval dat1
  refine Holds.cons ?_ (Holds.cons ?_ (Holds.cons ?_ (Holds.cons ?_ Holds.nil)))
  · rw [dec_lss e0 (y := 4101) rfl]; simp; omega
  · rw [dec_lss e1 (y := 101) rfl]; simp; omega
  · rw [dec_lss e0 (y := 0) rfl]; simp
  · rw [dec_lss e0 e0]; simp
theorem keyB_holds : ∃ b, @Holds (VL s0 z s1) (keyB b) := by
  letI : Val := VL s0 z s1
  exact ⟨_, Holds.cons rfl Holds.nil⟩

/-- The law, of any two texts and any place. -/
theorem lex_calls (hk7 : ∀ i, i < 22 → keyOk 7 i = true) (hk8 : ∀ i, i < 22 → keyOk 8 i = true) (hs9 : ∀ c i, c < 4 → i < 46 → signOk 9 c i = true) (hs10 : ∀ c i, c < 4 → i < 46 → signOk 10 c i = true)
    {W : World} (hl : ∀ p ∈ tabs, @TabOk (VL s0 z s1) W p) : Calls P 3 #[.string ⟨⟨s0⟩⟩, .int .i64 z, .string ⟨⟨s1⟩⟩] W fun e W' => e = .returned (.bool true) ∧ Below W.heap.size W W' := by
  letI : Val := VL s0 z s1
  have ha : VRL noPM lawArgs (#[.string ⟨⟨s0⟩⟩, .int .i64 z, .string ⟨⟨s1⟩⟩] : Array Value).toList := .cons (.vstr s0 rfl) (.cons (.sym .i64 at0) (.cons (.vstr s1 dat1) .nil))
  have e0 : Sx.eval (sLen S0) = (s0.length : Int) := len_eval rfl
  have e1 : Sx.eval (sLen S1) = (s1.length : Int) := len_eval dat1
  have ea : Sx.eval at0 = z := rfl
  by_cases h0 : s0.length ≤ 4100
  · by_cases h1 : s1.length ≤ 100
    · have hms : ∀ (q : Dcs) (n : Sx), Sx.eval n = (upto6 s0 z : Int) → ∀ m ∈ mems (.pr 3 (.pr 2 S0 n) (.lit 0)), m.Sound P 12 (tabPath tabs q) := by
        intro q n hn m hm
        simp only [mems, List.mem_cons] at hm
        rcases hm with rfl | rfl | rfl | rfl | rfl | rfl | hm
        · refine last_memo _ (dat_part hn) ?_ _
          rw [List.length_take]; omega
        · exact line_memo (by omega) _
        · exact key_memo hk7 q
        · exact key_memo hk8 q
        · exact sign_memo hs9 q
        · exact sign_memo hs10 q
        · exact tab_any q (closed_sound m hm)
      obtain ⟨b, hb⟩ := keyB_holds (s0 := s0) (z := z) (s1 := s1)
      have hbm : b ∈ [true, false] := by cases b <;> simp
      have hbase := base_holds (z := z) h0 h1
      by_cases hz : z < 0
      · have hn : Sx.eval (.lit 0) = (upto6 s0 z : Int) := by
          show (0 : Int) = _
          unfold upto6
          omega
        have hq : Holds (pLow b) := Holds.append (Holds.cons (by rw [dec_lss ea (y := 0) rfl]; simpa using hz) Holds.nil) (Holds.append (goals_hold hn h0) (Holds.append hb hbase))
        exact law_run hq (hms _ _ hn) (List.all_eq_true.1 law_low b hbm) hl ha
      · by_cases hg : (s0.length : Int) < z
        · have hn : Sx.eval (sLen S0) = (upto6 s0 z : Int) := by
            rw [e0]
            unfold upto6
            omega
          have hq : Holds (pHigh b) := Holds.append (Holds.cons (by rw [dec_lss ea (y := 0) rfl]; simpa using hz) (Holds.cons (by rw [dec_lss e0 ea]; simpa using hg) Holds.nil)) (Holds.append (goals_hold hn h0) (Holds.append hb hbase))
          exact law_run hq (hms _ _ hn) (List.all_eq_true.1 law_high b hbm) hl ha
        · have hn : Sx.eval at0 = (upto6 s0 z : Int) := by
            rw [ea]
            unfold upto6
            omega
          have hq : Holds (pMid b) := Holds.append (Holds.cons (by rw [dec_lss ea (y := 0) rfl]; simpa using hz) (Holds.cons (by rw [dec_lss e0 ea]; simpa using hg) Holds.nil)) (Holds.append (goals_hold hn h0) (Holds.append hb hbase))
          exact law_run hq (hms _ _ hn) (List.all_eq_true.1 law_mid b hbm) hl ha
    · have hq : Holds pB := Holds.cons (by rw [dec_lss e0 (y := 4101) rfl]; simp; omega) (Holds.cons (by rw [dec_lss e1 (y := 101) rfl]; simp; omega) Holds.nil)
      exact law_run hq (fun m hm => tab_any _ (closed_sound m hm)) law_B hl ha
  · have hq : Holds pA := Holds.cons (by rw [dec_lss e0 (y := 4101) rfl]; simp; omega) Holds.nil
    exact law_run hq (fun m hm => tab_any _ (closed_sound m hm)) law_A hl ha
end
end
end Go.Proofs.YtnkpdmdifepaaaaGreatDoor
