/-
  A part of the law's proof over the abstract evaluator. Conditions: those of each theorem, as it states them.
-/
import Derived.Test.YtgcpcgaigbnniaaGreatLayB
set_option linter.all false
/-! From a class's number to all numbers: the same told under other names. -/
namespace Go.Proofs.YtgcpcgaigbnniaaGreat
open Go.Tw
noncomputable section
abbrev vF (f : Nat → Int) : Val := Val.mk (fun _ => 0) (fun i => .int (f i)) F0
def up (f : Nat → Int) (i : Nat) (x : Int) : Nat → Int := fun j => if j = i then x else f j
/-- Digits. -/
def dg (a0 a1 a2 a3 a4 : Int) (f : Nat → Int) : Nat → Int := fun i => match i with
  | 0 => a0
  | 1 => a1
  | 2 => a2
  | 3 => a3
  | 4 => a4
  | i => f i
abbrev v0 : Val := vF fun _ => 0
theorem lt_t {v : Val} {a b : Sx} (h : @Sx.eval v a < @Sx.eval v b) : @Bx.eval v (lt a b) = true := decide_eq_true h
theorem lt_f {v : Val} {a b : Sx} (h : ¬ @Sx.eval v a < @Sx.eval v b) : @Bx.eval v (lt a b) = false := decide_eq_false h
theorem wrap_small {n : Int} (h1 : -9223372036854775808 ≤ n) (h2 : n ≤ 9223372036854775807) : wrapI .i64 n = n := by
  rw [wrap_i64]; split <;> omega
theorem ix_eval {v : Val} {z : Int} (hz : @Sx.eval v (D 9) = z) (h1 : 0 ≤ z) (h2 : z ≤ 30) : @Sx.eval v ix = 1 + z := by
  show wrapI .i64 (1 + @Sx.eval v (D 9)) = _
  rw [hz, wrap_small (by omega) (by omega)]
theorem N_dat {v : Val} {e : Sx} : @Sx.dat v (N e) = .int (@Sx.eval v e) := rfl
theorem N_eq {v v' : Val} {e e' : Sx} (h : @Sx.eval v e = @Sx.eval v' e') : @Sx.dat v (N e) = @Sx.dat v' (N e') := by
  rw [N_dat, N_dat, h]
theorem mkE_ok (f : Nat → Int) (val : Sx) : EqsOk (vF f) (vF (up f 21 (@Sx.eval (vF f) val))) (mkE val) := by
  refine eqs_cons (N_eq rfl) (eqs_cons (N_eq rfl) (eqs_cons (N_eq rfl) fun q hq => ?_))
  obtain ⟨n, _, rfl⟩ := List.mem_map.1 hq
  refine N_eq ?_
  rw [@selT_eval (vF f), @selT_eval (vF (up f 21 _))]
  rfl
theorem mSB (S : Sx) : mAll R0 0 [] (envL (SB (D 20))) (toldSt b0 [] R0) (SB S) [] R0 = some [(N ix, N ix), (N (D 20), N S), (N (D 10), N (D 10)), (N (D 11), N (D 11))] := by rfl
def Fin8 : List (Nat × AV) := [(8, .bool true)]
/-- So told of, the rest of the law comes to true. -/
def Good (x : Int) : Prop := ∀ f : Nat → Int, f 20 = x → 0 ≤ f 9 → f 9 ≤ 30 →
  HR 129 (vF f) (seqR L5 rest) (envL (SB (D 20))) (toldSt b0 [] R0) .ret v0 (envL Fin8) (toldSt b0 [] R0)
def RestOk : Prop := ∀ f : Nat → Int, 0 ≤ f 9 → f 9 ≤ 30 → HR 129 (vF f) rest (envL TB) (toldSt b0 OB 1027) .ret v0 (envL Fin8) (toldSt b0 [] R0)
theorem ht_pre {nt : Nat} {v1 v v2 : Val} {c : Code} {tm0 tm tm2 : T AV} {σ0 σ σ2 : St} {e : AExit} (k : Retell gl0 b0 R0 0 0 v1 tm0 σ0 v tm σ) (h : HR nt v c tm σ e v2 tm2 σ2) : HR nt v1 c tm0 σ0 e v2 tm2 σ2 := by
  intro a cs w φ ha
  obtain ⟨φ1, r1, r2⟩ := k _ _ _ _ ha
  refine (h a cs w φ1 r1).mono fun _ _ _ _ ⟨q1, q2, φ2, q3, q4⟩ => ⟨q1, q2, φ2, q3, r2.trans (Nat.le_refl 0) q4⟩
theorem good_of (hr : RestOk) {S val : Sx} {p : Dcs} {id : Nat} (hx : runHB R0 0 0 (runK p (SB S)) .normal (re id) TB OB 1027 (mkE val) = true) {x : Int} (a0 a1 a2 a3 a4 : Int)
    (hp : ∀ f : Nat → Int, 0 ≤ f 9 → f 9 ≤ 30 → @Holds (vF (dg a0 a1 a2 a3 a4 f)) p) (hS : ∀ f : Nat → Int, @Sx.eval (vF (dg a0 a1 a2 a3 a4 f)) S = x) : Good x := by
  intro f h20 h1 h2
  have hh := hp f h1 h2
  refine ht_pre (retell_ok base0 (mSB S) (v' := vF (dg a0 a1 a2 a3 a4 f)) ?_) ?_
  · refine eqs_cons (N_eq rfl) (eqs_cons (N_eq ?_) (eqs_cons (N_eq rfl) (eqs_cons (N_eq rfl) eqs_nil)))
    rw [hS]
    exact h20
  · exact HT.runL base0 (Nat.le_refl 0) hh (conHk_steps KL) (conHk_ok base0 hh rfl KL_ok) follows hx (mkE_ok _ val) (hr _ h1 h2)
theorem m4e {v : Val} {x y : Sx} {X Y : Int} (hx : @Sx.eval v x = X) (hy : @Sx.eval v y = Y) (h1 : -9223372036854775808 ≤ X * 4096) (h2 : X * 4096 ≤ 9223372036854775807)
    (h3 : -9223372036854775808 ≤ X * 4096 + Y) (h4 : X * 4096 + Y ≤ 9223372036854775807) : @Sx.eval v (.bin .add .i64 (.bin .mul .i64 x (.lit 4096)) y) = X * 4096 + Y := by
  show wrapI .i64 (wrapI .i64 (@Sx.eval v x * 4096) + @Sx.eval v y) = _
  rw [hx, hy, wrap_small h1 h2, wrap_small h3 h4]
theorem m0e {v : Val} {x : Sx} {X : Int} (hx : @Sx.eval v x = X) (h1 : -9223372036854775808 ≤ X * 4096) (h2 : X * 4096 ≤ 9223372036854775807) : @Sx.eval v (.bin .mul .i64 x (.lit 4096)) = X * 4096 := by
  show wrapI .i64 (@Sx.eval v x * 4096) = _
  rw [hx, wrap_small h1 h2]
theorem ade {v : Val} {x y : Sx} {X Y : Int} (hx : @Sx.eval v x = X) (hy : @Sx.eval v y = Y) (h3 : -9223372036854775808 ≤ X + Y) (h4 : X + Y ≤ 9223372036854775807) : @Sx.eval v (.bin .add .i64 x y) = X + Y := by
  show wrapI .i64 (@Sx.eval v x + @Sx.eval v y) = _
  rw [hx, hy, wrap_small h3 h4]
theorem ix32 {f : Nat → Int} {a0 a1 a2 a3 a4 : Int} (h1 : 0 ≤ f 9) (h2 : f 9 ≤ 30) : @Bx.eval (vF (dg a0 a1 a2 a3 a4 f)) (lt ix (.lit 32)) = true := lt_t (by
  rw [ix_eval (z := f 9) rfl h1 h2]
  show 1 + f 9 < 32
  omega)
theorem ix1 {f : Nat → Int} {a0 a1 a2 a3 a4 : Int} (h1 : 0 ≤ f 9) (h2 : f 9 ≤ 30) : @Bx.eval (vF (dg a0 a1 a2 a3 a4 f)) (lt ix (.lit 1)) = false := lt_f (by
  rw [ix_eval (z := f 9) rfl h1 h2]
  show ¬ 1 + f 9 < 1
  omega)
end
end Go.Proofs.YtgcpcgaigbnniaaGreat
/-! Numbers up to 2^64. -/
namespace Go.Proofs.YtgcpcgaigbnniaaGreat
open Go.Tw
noncomputable section
theorem lt_of_eq {v : Val} {e : Sx} {X n : Int} (h : @Sx.eval v e = X) (k : X < n) : @Sx.eval v e < @Sx.eval v (.lit n) := by
  rw [h]; exact k
theorem nlt_of_eq {v : Val} {e : Sx} {X n : Int} (h : @Sx.eval v e = X) (k : ¬ X < n) : ¬ @Sx.eval v e < @Sx.eval v (.lit n) := by
  rw [h]; exact k
theorem eq_t {v : Val} {a b : Sx} (h : @Sx.eval v a = @Sx.eval v b) : @Bx.eval v (.cmp .eql a b) = true := by
  show (@Sx.eval v a == @Sx.eval v b) = true
  rw [h]; exact beq_self_eq_true _
def Cg (v : Val) (e : Sx) (X : Int) : Prop := ∃ q : Int, @Sx.eval v e = X + q * 18446744073709551616
theorem cg_v {v : Val} {e : Sx} {X : Int} (h : @Sx.eval v e = X) : Cg v e X := ⟨0, by rw [h]; omega⟩
theorem cg_ad {v : Val} {x y : Sx} {X Y : Int} (hx : Cg v x X) (hy : Cg v y Y) : Cg v (.bin .add .u64 x y) (X + Y) := by
  obtain ⟨p, hp⟩ := hx
  obtain ⟨q, hq⟩ := hy
  obtain ⟨r, hr⟩ := wrap64q (k := .u64) rfl (@Sx.eval v x + @Sx.eval v y)
  refine ⟨p + q + r, ?_⟩
  show wrapI .u64 (@Sx.eval v x + @Sx.eval v y) = _
  rw [hr, hp, hq]
  omega
theorem cg_sh {v : Val} {x : Sx} {X : Int} (hx : Cg v x X) : Cg v (.bin .shl .u64 x (.lit 12)) (X * 4096) := by
  obtain ⟨p, hp⟩ := hx
  obtain ⟨r, hr⟩ := wrap64q (k := .u64) rfl (@Sx.eval v x * 4096)
  refine ⟨p * 4096 + r, ?_⟩
  show wrapI .u64 (@Sx.eval v x * 4096) = _
  rw [hr, hp]
  omega
theorem cg_wr {v : Val} {d : Sx} {Y : Int} (h : @Sx.eval v d = Y) : Cg v (.wrap .u64 d) Y := by
  obtain ⟨r, hr⟩ := wrap64q (k := .u64) rfl (@Sx.eval v d)
  exact ⟨r, by show wrapI .u64 (@Sx.eval v d) = _; rw [hr, h]⟩
theorem cg_sx {v : Val} {d : Sx} {a : Int} (h : @Sx.eval v d = a) (h1 : 1 ≤ a) (h2 : a < 2048) :
    Cg v (.wrap .u64 (.bin .shr .i64 (.wrap .i64 (.bin .shl .u64 (.bin .add .u64 (.lit 4160749568) d) (.lit 32))) (.lit 32))) (-134217728 + a) := by
  refine cg_wr ?_
  show (wrapI .i64 (wrapI .u64 (wrapI .u64 (4160749568 + @Sx.eval v d) * 4294967296))).fdiv 4294967296 = _
  rw [h, wrap_u64, wrap_u64, wrap_i64, Int.fdiv_eq_ediv_of_nonneg _ (by omega)]
  split <;> omega
theorem eq_of_cg {v : Val} {E S : Sx} {X : Int} (h : Cg v E X) (hE : rangeK E = some .u64) (hS : @Sx.eval v S = X) : @Sx.eval v E = @Sx.eval v (.wrap .u64 S) := by
  obtain ⟨q, hq⟩ := h
  have r := @rangeK_ok v _ _ hE
  show _ = wrapI .u64 (@Sx.eval v S)
  rw [hS, wrap_u64]
  simp only [kLo, kHi] at r
  omega
end
end Go.Proofs.YtgcpcgaigbnniaaGreat
/-! The loop over all registers, what is told ahead of it and behind it. -/
set_option linter.all false
set_option maxRecDepth 1000000
namespace Go.Proofs.YtgcpcgaigbnniaaGreat
open Go.Tw
noncomputable section
def TBk (k : Nat) : List (Nat × AV) := [(0, .int .i64 (.ofNat (k + 1))), (2, .sym .i64 (D 10)), (3, .sym .i64 (D 11)), (9, .bool true), (10, .ptr 1025 0 0 1), (14, .ptr 1026 0 0 36)]
def OBk (k : Nat) : List (Nat × Ob) := OM ++ [(1026, .box (.int .u64 0 :: (idx.map (fun n => bif Nat.beq n (k + 1) then AV.sym .u64 (D 21) else .int .u64 (bs n)) ++ tl4)) 70)]
def mkE2 (k : Nat) : Eqs := (N ix, .lit (.ofNat (k + 1))) :: (N (D 10), N (D 10)) :: (N (D 11), N (D 11)) :: idx.map fun n => (N (selT ix n (D 21) (.lit (bs n))), bif Nat.beq n (k + 1) then N (D 21) else .lit (bs n))
def T3 : List (Nat × AV) := [(2, .sym .i64 (D 10)), (3, .sym .i64 (D 11)), (9, .bool true), (10, .ptr 1025 0 0 1)]
def re2 : List RE := [⟨1024, 1024, 0, 0, 0⟩, ⟨1025, 1025, 0, 0, 0⟩]
def eT3 : Eqs := [(N (D 10), N (D 10)), (N (D 11), N (D 11))]
theorem mkE2_ok (f : Nat → Int) (k : Nat) (hk : f 9 = (k : Int)) (hk2 : k ≤ 30) : EqsOk (vF f) (vF f) (mkE2 k) := by
  have hi : @Sx.eval (vF f) ix = ((k + 1 : Nat) : Int) := by
    rw [ix_eval (z := f 9) rfl (by omega) (by omega)]
    omega
  refine eqs_cons ?_ (eqs_cons rfl (eqs_cons rfl fun q hq => ?_))
  · rw [N_dat, hi]; rfl
  · obtain ⟨n, _, rfl⟩ := List.mem_map.1 hq
    dsimp only
    rw [N_dat, @selT_eval (vF f), hi]
    cases hb : Nat.beq n (k + 1) with
    | true =>
      have := beq_t hb; subst this
      rw [if_pos rfl]
      rfl
    | false =>
      have : n ≠ k + 1 := fun h => by subst h; rw [Nat.beq_refl] at hb; cases hb
      rw [if_neg (by omega)]
      rfl
end
end Go.Proofs.YtgcpcgaigbnniaaGreat
