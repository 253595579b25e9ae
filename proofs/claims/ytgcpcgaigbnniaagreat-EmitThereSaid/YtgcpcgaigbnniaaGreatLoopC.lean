/-
  A part of the law's proof over the abstract evaluator. Conditions: those of each theorem, as it states them.
-/
import Derived.Test.YtgcpcgaigbnniaaGreatLoopA
import Derived.Test.YtgcpcgaigbnniaaGreatLoopB
import Derived.Test.YtgcpcgaigbnniaaGreatLayC
set_option linter.all false
/-! The loop. -/
set_option linter.all false
set_option maxRecDepth 1000000
namespace Go.Proofs.YtgcpcgaigbnniaaGreat
open Go.Tw
noncomputable section
theorem loop_k {k : Nat} (h : mAll R0 0 (re 1026) (envL TB) (toldSt b0 OB 1027) (TBk k) (OBk k) 1027 = some (mkE2 k)) (hx : runHB R0 0 0 (run [] [] 129 (Code.l rest) (TBk k) (OBk k) 1027) .normal re2 T3 OM 1026 eT3 = true) (hk2 : k ≤ 30)
    (f : Nat → Int) (hk : f 9 = (k : Int)) : HR 129 (vF f) (Code.l rest) (envL TB) (toldSt b0 OB 1027) .normal (vF f) (envL T3) (toldSt b0 OM 1026) :=
  ht_pre (retell_ok base0 h (mkE2_ok f k hk hk2)) (rn rfl hnil nocon hx (eqs_cons rfl (eqs_cons rfl eqs_nil)))
theorem loop_ht (f : Nat → Int) (h1 : 0 ≤ f 9) (h2 : f 9 ≤ 30) : HR 129 (vF f) (Code.l rest) (envL TB) (toldSt b0 OB 1027) .normal (vF f) (envL T3) (toldSt b0 OM 1026) := by
  obtain ⟨k, hk, hk2⟩ : ∃ k : Nat, f 9 = (k : Int) ∧ k ≤ 30 := ⟨(f 9).toNat, by omega, by omega⟩
  match k, hk, hk2 with
  | 0, hk, hk2 => exact loop_k m2_0 x2_0 hk2 f hk
  | 1, hk, hk2 => exact loop_k m2_1 x2_1 hk2 f hk
  | 2, hk, hk2 => exact loop_k m2_2 x2_2 hk2 f hk
  | 3, hk, hk2 => exact loop_k m2_3 x2_3 hk2 f hk
  | 4, hk, hk2 => exact loop_k m2_4 x2_4 hk2 f hk
  | 5, hk, hk2 => exact loop_k m2_5 x2_5 hk2 f hk
  | 6, hk, hk2 => exact loop_k m2_6 x2_6 hk2 f hk
  | 7, hk, hk2 => exact loop_k m2_7 x2_7 hk2 f hk
  | 8, hk, hk2 => exact loop_k m2_8 x2_8 hk2 f hk
  | 9, hk, hk2 => exact loop_k m2_9 x2_9 hk2 f hk
  | 10, hk, hk2 => exact loop_k m2_10 x2_10 hk2 f hk
  | 11, hk, hk2 => exact loop_k m2_11 x2_11 hk2 f hk
  | 12, hk, hk2 => exact loop_k m2_12 x2_12 hk2 f hk
  | 13, hk, hk2 => exact loop_k m2_13 x2_13 hk2 f hk
  | 14, hk, hk2 => exact loop_k m2_14 x2_14 hk2 f hk
  | 15, hk, hk2 => exact loop_k m2_15 x2_15 hk2 f hk
  | 16, hk, hk2 => exact loop_k m2_16 x2_16 hk2 f hk
  | 17, hk, hk2 => exact loop_k m2_17 x2_17 hk2 f hk
  | 18, hk, hk2 => exact loop_k m2_18 x2_18 hk2 f hk
  | 19, hk, hk2 => exact loop_k m2_19 x2_19 hk2 f hk
  | 20, hk, hk2 => exact loop_k m2_20 x2_20 hk2 f hk
  | 21, hk, hk2 => exact loop_k m2_21 x2_21 hk2 f hk
  | 22, hk, hk2 => exact loop_k m2_22 x2_22 hk2 f hk
  | 23, hk, hk2 => exact loop_k m2_23 x2_23 hk2 f hk
  | 24, hk, hk2 => exact loop_k m2_24 x2_24 hk2 f hk
  | 25, hk, hk2 => exact loop_k m2_25 x2_25 hk2 f hk
  | 26, hk, hk2 => exact loop_k m2_26 x2_26 hk2 f hk
  | 27, hk, hk2 => exact loop_k m2_27 x2_27 hk2 f hk
  | 28, hk, hk2 => exact loop_k m2_28 x2_28 hk2 f hk
  | 29, hk, hk2 => exact loop_k m2_29 x2_29 hk2 f hk
  | 30, hk, hk2 => exact loop_k m2_30 x2_30 hk2 f hk
  | n + 31, hk, hk2 => omega
end
end Go.Proofs.YtgcpcgaigbnniaaGreat
/-! Behind the loop: the jump. -/
set_option linter.all false
set_option maxRecDepth 1000000
namespace Go.Proofs.YtgcpcgaigbnniaaGreat
open Go.Tw
noncomputable section
def pl0 : Sx := .bin .add .i64 (.bin .mul .i64 (D 12) (.lit 32)) (D 13)
def T3p : List (Nat × AV) := [(2, .sym .i64 (D 10)), (3, .sym .i64 pl0), (9, .bool true), (10, .ptr 1025 0 0 1)]
def pk8 : Dcs := b1 10 0 8
theorem x3_a : runHB R0 0 0 (run [(lt (D 10) (.lit 0), true)] [] 129 (Code.r rest) T3 OM 1026) .ret [] Fin8 [] R0 [] = true := by kernel_rfl
theorem x3_b : runHB R0 0 0 (run [(lt (D 10) (.lit 0), false), (lt (D 10) (.lit 8), false)] [] 129 (Code.r rest) T3 OM 1026) .ret [] Fin8 [] R0 [] = true := by kernel_rfl
theorem x3_c : runHB R0 0 0 (run (pk8 ++ [(lt (D 11) (.lit 0), true)]) [] 129 (Code.r rest) T3 OM 1026) .ret [] Fin8 [] R0 [] = true := by kernel_rfl
theorem x3_d : runHB R0 0 0 (run (pk8 ++ [(lt (D 11) (.lit 0), false), (lt (D 11) (.lit 4096), false)]) [] 129 (Code.r rest) T3 OM 1026) .ret [] Fin8 [] R0 [] = true := by kernel_rfl
theorem x3_e : runHB R0 0 0 (run (pk8 ++ (b1 12 0 128 ++ b1 13 0 16)) [] 129 (Code.r rest) T3p OM 1026) .ret [] Fin8 [] R0 [] = true := by kernel_rfl
theorem x3_f : runHB R0 0 0 (run (pk8 ++ (b1 12 0 128 ++ b1 13 16 32)) [] 129 (Code.r rest) T3p OM 1026) .ret [] Fin8 [] R0 [] = true := by kernel_rfl
theorem m3 : mAll R0 0 re2 (envL T3) (toldSt b0 OM 1026) T3p OM 1026 = some [(N (D 10), N (D 10)), (N (D 11), N pl0)] := by kernel_rfl
theorem bD {f : Nat → Int} {i : Nat} {lo hi : Int} (h1 : lo ≤ f i) (h2 : f i < hi) : ∀ {p : Dcs}, @Holds (vF f) p → @Holds (vF f) (b1 i lo hi ++ p) := fun k =>
  hcons (lt_t (show f i < hi from h2)) (hcons (lt_f (show ¬ f i < lo by omega)) k)
theorem ltD {f : Nat → Int} {i : Nat} {n : Int} (h : f i < n) : @Bx.eval (vF f) (lt (D i) (.lit n)) = true := lt_t (show f i < n from h)
theorem ltDn {f : Nat → Int} {i : Nat} {n : Int} (h : ¬ f i < n) : @Bx.eval (vF f) (lt (D i) (.lit n)) = false := lt_f (show ¬ f i < n from h)
theorem jump_ht (f : Nat → Int) : HR 129 (vF f) (Code.r rest) (envL T3) (toldSt b0 OM 1026) .ret v0 (envL Fin8) (toldSt b0 [] R0) := by
  by_cases ha : f 10 < 0
  · exact rn rfl (hcons (ltD ha) hnil) nocon x3_a eqs_nil
  by_cases hb : ¬ f 10 < 8
  · exact rn rfl (hcons (ltDn ha) (hcons (ltDn hb) hnil)) nocon x3_b eqs_nil
  have hb := Decidable.not_not.1 hb
  by_cases hc : f 11 < 0
  · exact rn rfl (bD (by omega) (by omega) (hcons (ltD hc) hnil)) nocon x3_c eqs_nil
  by_cases hd : ¬ f 11 < 4096
  · exact rn rfl (bD (by omega) (by omega) (hcons (ltDn hc) (hcons (ltDn hd) hnil))) nocon x3_d eqs_nil
  have hd := Decidable.not_not.1 hd
  let g : Nat → Int := up (up f 12 (f 11 / 32)) 13 (f 11 % 32)
  have g10 : g 10 = f 10 := rfl
  have g12 : g 12 = f 11 / 32 := rfl
  have g13 : g 13 = f 11 % 32 := rfl
  have hpl : @Sx.eval (vF g) pl0 = f 11 := by
    show wrapI .i64 (wrapI .i64 (g 12 * 32) + g 13) = f 11
    rw [wrap_small (n := g 12 * 32) (by omega) (by omega), wrap_small (by omega) (by omega)]
    omega
  refine ht_pre (retell_ok base0 m3 (v' := vF g) (eqs_cons (N_eq rfl) (eqs_cons (N_eq ?_) eqs_nil))) ?_
  · rw [hpl]; rfl
  by_cases he : f 11 % 32 < 16
  · exact rn rfl (bD (i := 10) (by omega) (by omega) (bD (i := 12) (by omega) (by omega) (bD (i := 13) (by omega) (by omega) hnil))) nocon x3_e eqs_nil
  · exact rn rfl (bD (i := 10) (by omega) (by omega) (bD (i := 12) (by omega) (by omega) (bD (i := 13) (by omega) (by omega) hnil))) nocon x3_f eqs_nil
end
end Go.Proofs.YtgcpcgaigbnniaaGreat
