/-
  A part of the law's proof over the abstract evaluator. Conditions: those of each theorem, as it states them.
-/
import Derived.Test.YtbkokbjpbbpllaaGreatTreeA
import Derived.Test.YtbkokbjpbbpllaaGreatTreeB
import Derived.Test.YtbkokbjpbbpllaaGreatTreeC
import Derived.Test.YtbkokbjpbbpllaaGreatTreeD
import Derived.Test.YtbkokbjpbbpllaaGreatTreeE
import Derived.Test.YtbkokbjpbbpllaaGreatTreeF
import Derived.Test.YtbkokbjpbbpllaaGreatTreeG
import Derived.Test.YtbkokbjpbbpllaaGreatTreeH
import Derived.Test.YtbkokbjpbbpllaaGreatTreeI
import Derived.Test.YtbkokbjpbbpllaaGreatLayA
/-! The templates' contracts. -/
namespace Go.Proofs.YtbkokbjpbbpllaaGreat
open Go.Tw
noncomputable section
def EA (k : Int) : Eqs := [(N (D 8), N (D 8)), (N (D 7), N (D 7)), (N (D 6), N (D 6)), (N (D 0), I k), (N (D 1), N (D 1)), (N (D 2), N (D 2)), (N (D 3), N (D 3)), (N (D 4), N (D 4)), (D 5, D 5)]
def EB (k m : Int) : Eqs := [(N (D 8), N (D 8)), (N (D 7), N (D 7)), (N (D 6), N (D 6)), (N (D 0), I k), (N (D 1), N (D 1)), (N (D 2), N (D 2)), (N (D 3), N (D 3)), (N (D 4), I m), (D 5, D 5)]
theorem mA (k : Int) : mAll R0 0 [] (envL (AT (SI 0) (SI 4))) (toldSt b0 [] R0) (AT (.int .i64 k) (SI 4)) [] R0 = some (EA k) := by rfl
theorem mB (k m : Int) : mAll R0 0 [] (envL (AT (SI 0) (SI 4))) (toldSt b0 [] R0) (AT (.int .i64 k) (.int .i64 m)) [] R0 = some (EB k m) := by rfl
theorem fa0 : q0.all factOk = true := by kernel_rfl
theorem fa1 : q1.all factOk = true := by kernel_rfl
theorem fa2 : q2.all factOk = true := by kernel_rfl
theorem fa3 : q3.all factOk = true := by kernel_rfl
theorem fa4 : q4.all factOk = true := by kernel_rfl
theorem fa5 : q5.all factOk = true := by kernel_rfl
theorem fa6 : q6.all factOk = true := by kernel_rfl
theorem fa7 : q7.all factOk = true := by kernel_rfl
theorem fa8 : q8.all factOk = true := by kernel_rfl
theorem fa9 : q9.all factOk = true := by kernel_rfl
theorem fa10 : q10.all factOk = true := by kernel_rfl
theorem fa11 : q11.all factOk = true := by kernel_rfl
theorem fa12 : q12.all factOk = true := by kernel_rfl
theorem fa13 : q13.all factOk = true := by kernel_rfl
theorem fa14 : q14.all factOk = true := by kernel_rfl
theorem fa15 : q15.all factOk = true := by kernel_rfl
theorem fa16 : q16.all factOk = true := by kernel_rfl
theorem fa17 : q17.all factOk = true := by kernel_rfl
theorem fa18 : q18.all factOk = true := by kernel_rfl
theorem fa19 : q19.all factOk = true := by kernel_rfl
theorem fa20 : q20.all factOk = true := by kernel_rfl
theorem fa21_1 : q21_1.all factOk = true := by kernel_rfl
theorem fa21_2 : q21_2.all factOk = true := by kernel_rfl
theorem fa21_3 : q21_3.all factOk = true := by kernel_rfl
theorem fa21_4 : q21_4.all factOk = true := by kernel_rfl
theorem fa21_5 : q21_5.all factOk = true := by kernel_rfl
theorem fa21_6 : q21_6.all factOk = true := by kernel_rfl
theorem fa21_7 : q21_7.all factOk = true := by kernel_rfl
theorem fa22_1 : q22_1.all factOk = true := by kernel_rfl
theorem fa22_2 : q22_2.all factOk = true := by kernel_rfl
theorem fa22_3 : q22_3.all factOk = true := by kernel_rfl
theorem fa22_4 : q22_4.all factOk = true := by kernel_rfl
theorem fa22_5 : q22_5.all factOk = true := by kernel_rfl
theorem fa22_6 : q22_6.all factOk = true := by kernel_rfl
theorem fa22_7 : q22_7.all factOk = true := by kernel_rfl
theorem fa22_8 : q22_8.all factOk = true := by kernel_rfl
theorem fa23 : q23.all factOk = true := by kernel_rfl
theorem fa24 : q24.all factOk = true := by kernel_rfl
theorem fa25 : q25.all factOk = true := by kernel_rfl
theorem fa26 : q26.all factOk = true := by kernel_rfl
theorem fa27 : q27.all factOk = true := by kernel_rfl
theorem fa28_0 : q28_0.all factOk = true := by kernel_rfl
theorem fa28_1 : q28_1.all factOk = true := by kernel_rfl
theorem fa28_2 : q28_2.all factOk = true := by kernel_rfl
theorem fa28_3 : q28_3.all factOk = true := by kernel_rfl
theorem fa28_4 : q28_4.all factOk = true := by kernel_rfl
theorem fa28_5 : q28_5.all factOk = true := by kernel_rfl
theorem fa28_6 : q28_6.all factOk = true := by kernel_rfl
theorem fa28_7 : q28_7.all factOk = true := by kernel_rfl
theorem fa28_8 : q28_8.all factOk = true := by kernel_rfl
theorem fa29 : q29.all factOk = true := by kernel_rfl
theorem fa30 : q30.all factOk = true := by kernel_rfl
theorem fa31 : q31.all factOk = true := by kernel_rfl
theorem fa32 : q32.all factOk = true := by kernel_rfl
theorem LOp_pos (q : Int × ST) (h : q ∈ LOp) : 0 ≤ q.1 := by
  simp only [LOp, List.mem_cons, List.not_mem_nil, or_false] at h
  rcases h with rfl | rfl | rfl | rfl | rfl | rfl | rfl | rfl | rfl | rfl | rfl | rfl | rfl | rfl | rfl | rfl | rfl | rfl | rfl | rfl | rfl | rfl | rfl | rfl | rfl | rfl | rfl | rfl | rfl | rfl | rfl | rfl | rfl <;> simp
theorem LOp_lt (q : Int × ST) (h : q ∈ LOp) : q.1 < 33 := by
  simp only [LOp, List.mem_cons, List.not_mem_nil, or_false] at h
  rcases h with rfl | rfl | rfl | rfl | rfl | rfl | rfl | rfl | rfl | rfl | rfl | rfl | rfl | rfl | rfl | rfl | rfl | rfl | rfl | rfl | rfl | rfl | rfl | rfl | rfl | rfl | rfl | rfl | rfl | rfl | rfl | rfl | rfl <;> simp
theorem L21_pos (q : Int × ST) (h : q ∈ L21) : 1 ≤ q.1 := by
  simp only [L21, List.mem_cons, List.not_mem_nil, or_false] at h
  rcases h with rfl | rfl | rfl | rfl | rfl | rfl | rfl <;> simp
theorem L22_pos (q : Int × ST) (h : q ∈ L22) : 1 ≤ q.1 := by
  simp only [L22, List.mem_cons, List.not_mem_nil, or_false] at h
  rcases h with rfl | rfl | rfl | rfl | rfl | rfl | rfl | rfl <;> simp
theorem L21_lt (q : Int × ST) (h : q ∈ L21) : q.1 < 8 := by
  simp only [L21, List.mem_cons, List.not_mem_nil, or_false] at h
  rcases h with rfl | rfl | rfl | rfl | rfl | rfl | rfl <;> simp
theorem L22_lt (q : Int × ST) (h : q ∈ L22) : q.1 < 9 := by
  simp only [L22, List.mem_cons, List.not_mem_nil, or_false] at h
  rcases h with rfl | rfl | rfl | rfl | rfl | rfl | rfl | rfl <;> simp
theorem L28_lt (q : Int × ST) (h : q ∈ L28) : q.1 < 9 := by
  simp only [L28, List.mem_cons, List.not_mem_nil, or_false] at h
  rcases h with rfl | rfl | rfl | rfl | rfl | rfl | rfl | rfl | rfl <;> simp
section
variable {v : Val} (hF : v.fn = F0)
theorem caseA {c : Code} {nt : Nat} {k : Int} (hk : @Sx.eval v (D 0) = k) (h : HR 0 0 nt v c (envL (AT (.int .i64 k) (SI 4))) (toldSt b0 [] R0) .ret v (envL RT) (toldSt b0 OT 1025)) : HR 0 0 nt v c (envL (AT (SI 0) (SI 4))) (toldSt b0 [] R0) .ret v (envL RT) (toldSt b0 OT 1025) :=
  HT.pre (Nat.le_refl 0) (retell_ok base0 (mA k) (eqs_cons rfl (eqs_cons rfl (eqs_cons rfl (eqs_cons (congrArg Dat.int hk) (eqs_cons rfl (eqs_cons rfl (eqs_cons rfl (eqs_cons rfl (eqs_cons rfl eqs_nil)))))))))) h
theorem caseB {c : Code} {nt : Nat} {k m : Int} (hk : @Sx.eval v (D 0) = k) (hm : @Sx.eval v (D 4) = m) (h : HR 0 0 nt v c (envL (AT (.int .i64 k) (.int .i64 m))) (toldSt b0 [] R0) .ret v (envL RT) (toldSt b0 OT 1025)) : HR 0 0 nt v c (envL (AT (SI 0) (SI 4))) (toldSt b0 [] R0) .ret v (envL RT) (toldSt b0 OT 1025) :=
  HT.pre (Nat.le_refl 0) (retell_ok base0 (mB k m) (eqs_cons rfl (eqs_cons rfl (eqs_cons rfl (eqs_cons (congrArg Dat.int hk) (eqs_cons rfl (eqs_cons rfl (eqs_cons rfl (eqs_cons (congrArg Dat.int hm) (eqs_cons rfl eqs_nil)))))))))) h
theorem evF {a b : Sx} (h : @Sx.eval v a ≠ @Sx.eval v b) : @Bx.eval v (eq a b) = false := by
  show (@Sx.eval v a == @Sx.eval v b) = false
  simpa using h
theorem evT {a b : Sx} (h : @Sx.eval v a = @Sx.eval v b) : @Bx.eval v (eq a b) = true := by
  show (@Sx.eval v a == @Sx.eval v b) = true
  simpa using h
include hF
theorem cn0 (c : Dcs) (hc : coresT[0]? = some c) : ¬ @Holds v c := by
  have : c = core5 0 := by simp [coresT] at hc; exact hc.symm
  subst this
  exact core5_no hF 0 (by decide)
theorem tree6 : HR 0 0 39 v c6 (envL (AT (SI 0) (SI 4))) (toldSt b0 [] R0) .ret v (envL RT) (toldSt b0 OT 1025) := by
  rcases Int.lt_or_le (@Sx.eval v (D 0)) 0 with h0 | h0
  · exact tree_case hF t6_33 (by decide) (fun c hc h => by
      simp [coresT] at hc; subst hc
      have := ltF (hget h).1
      have : 0 ≤ @Sx.eval v (D 0) := this
      omega) hnil (fun i => spIf_miss i fun q hq => by
      have : 0 ≤ q.1 := LOp_pos q hq
      omega)
  by_cases h1 : 33 ≤ @Sx.eval v (D 0)
  · exact tree_case hF t6_33 (by decide) (fun c hc h => by
      simp [coresT] at hc; subst hc
      have := ltT (hget (hget h).2).1
      have : @Sx.eval v (D 0) < 33 := this
      omega) hnil (fun i => spIf_miss i fun q hq => by
      have : q.1 < 33 := LOp_lt q hq
      omega)
  obtain ⟨k, hk⟩ : ∃ k : Nat, @Sx.eval v (D 0) = k := ⟨(@Sx.eval v (D 0)).toNat, by omega⟩
  have hk33 : k < 33 := by omega
  match k, hk33, hk with
  | 0, _, hk => exact caseA (k := 0) hk (tree_case hF t6_0 (by decide) (cn0 hF) (factsT hF fa0) (fun i => spIf_hit (k := 0) hk i rfl))
  | 1, _, hk => exact caseA (k := 1) hk (tree_case hF t6_1 (by decide) (cn0 hF) (factsT hF fa1) (fun i => spIf_hit (k := 1) hk i rfl))
  | 2, _, hk => exact caseA (k := 2) hk (tree_case hF t6_2 (by decide) (cn0 hF) (factsT hF fa2) (fun i => spIf_hit (k := 2) hk i rfl))
  | 3, _, hk => exact caseA (k := 3) hk (tree_case hF t6_3 (by decide) (cn0 hF) (factsT hF fa3) (fun i => spIf_hit (k := 3) hk i rfl))
  | 4, _, hk => exact caseA (k := 4) hk (tree_case hF t6_4 (by decide) (cn0 hF) (factsT hF fa4) (fun i => spIf_hit (k := 4) hk i rfl))
  | 5, _, hk => exact caseA (k := 5) hk (tree_case hF t6_5 (by decide) (cn0 hF) (factsT hF fa5) (fun i => spIf_hit (k := 5) hk i rfl))
  | 6, _, hk => exact caseA (k := 6) hk (tree_case hF t6_6 (by decide) (cn0 hF) (factsT hF fa6) (fun i => spIf_hit (k := 6) hk i rfl))
  | 7, _, hk => exact caseA (k := 7) hk (tree_case hF t6_7 (by decide) (cn0 hF) (factsT hF fa7) (fun i => spIf_hit (k := 7) hk i rfl))
  | 8, _, hk => exact caseA (k := 8) hk (tree_case hF t6_8 (by decide) (cn0 hF) (factsT hF fa8) (fun i => spIf_hit (k := 8) hk i rfl))
  | 9, _, hk => exact caseA (k := 9) hk (tree_case hF t6_9 (by decide) (cn0 hF) (factsT hF fa9) (fun i => spIf_hit (k := 9) hk i rfl))
  | 10, _, hk => exact caseA (k := 10) hk (tree_case hF t6_10 (by decide) (cn0 hF) (factsT hF fa10) (fun i => spIf_hit (k := 10) hk i rfl))
  | 11, _, hk => exact caseA (k := 11) hk (tree_case hF t6_11 (by decide) (cn0 hF) (factsT hF fa11) (fun i => spIf_hit (k := 11) hk i rfl))
  | 12, _, hk => exact caseA (k := 12) hk (tree_case hF t6_12 (by decide) (cn0 hF) (factsT hF fa12) (fun i => spIf_hit (k := 12) hk i rfl))
  | 13, _, hk => exact caseA (k := 13) hk (tree_case hF t6_13 (by decide) (cn0 hF) (factsT hF fa13) (fun i => spIf_hit (k := 13) hk i rfl))
  | 14, _, hk => exact caseA (k := 14) hk (tree_case hF t6_14 (by decide) (cn0 hF) (factsT hF fa14) (fun i => spIf_hit (k := 14) hk i rfl))
  | 15, _, hk => exact caseA (k := 15) hk (tree_case hF t6_15 (by decide) (cn0 hF) (factsT hF fa15) (fun i => spIf_hit (k := 15) hk i rfl))
  | 16, _, hk => exact caseA (k := 16) hk (tree_case hF t6_16 (by decide) (cn0 hF) (factsT hF fa16) (fun i => spIf_hit (k := 16) hk i rfl))
  | 17, _, hk => exact caseA (k := 17) hk (tree_case hF t6_17 (by decide) (cn0 hF) (factsT hF fa17) (fun i => spIf_hit (k := 17) hk i rfl))
  | 18, _, hk => exact caseA (k := 18) hk (tree_case hF t6_18 (by decide) (cn0 hF) (factsT hF fa18) (fun i => spIf_hit (k := 18) hk i rfl))
  | 19, _, hk => exact caseA (k := 19) hk (tree_case hF t6_19 (by decide) (cn0 hF) (factsT hF fa19) (fun i => spIf_hit (k := 19) hk i rfl))
  | 20, _, hk => exact caseA (k := 20) hk (tree_case hF t6_20 (by decide) (cn0 hF) (factsT hF fa20) (fun i => spIf_hit (k := 20) hk i rfl))
  | 21, _, hk =>
    have hs : ∀ i, spT.val v i = sp21.val v i := fun i => spIf_hit (k := 21) hk i rfl
    by_cases hlo : @Sx.eval v (D 4) < 1
    · exact caseA (k := 21) hk (tree_case hF t6_21_o (by decide) (fun c hc h => by
      simp [coresT] at hc; subst hc
      have := ltF (hget h).1
      have : 1 ≤ @Sx.eval v (D 4) := this
      omega) hnil (fun i => (hs i).trans (spIf_miss i fun q hq => by
      have : 1 ≤ q.1 := L21_pos q hq
      omega)))
    by_cases hhi : @Sx.eval v (D 4) ≥ 8
    · exact caseA (k := 21) hk (tree_case hF t6_21_o (by decide) (fun c hc h => by
      simp [coresT] at hc; subst hc
      have := ltT (hget (hget h).2).1
      have : @Sx.eval v (D 4) < 8 := this
      omega) hnil (fun i => (hs i).trans (spIf_miss i fun q hq => by
      have : q.1 < 8 := L21_lt q hq
      omega)))
    obtain ⟨m, hm⟩ : ∃ m : Nat, @Sx.eval v (D 4) = m := ⟨(@Sx.eval v (D 4)).toNat, by omega⟩
    have hm1 : 1 ≤ m := by omega
    have hm2 : m < 8 := by omega
    match m, hm1, hm2, hm with
      | 1, _, _, hm => exact caseB (k := 21) (m := 1) hk hm (tree_case hF t6_21_1 (by decide) (cn0 hF) (factsT hF fa21_1) (fun i => (hs i).trans (spIf_hit (k := 1) hm i rfl)))
      | 2, _, _, hm => exact caseB (k := 21) (m := 2) hk hm (tree_case hF t6_21_2 (by decide) (cn0 hF) (factsT hF fa21_2) (fun i => (hs i).trans (spIf_hit (k := 2) hm i rfl)))
      | 3, _, _, hm => exact caseB (k := 21) (m := 3) hk hm (tree_case hF t6_21_3 (by decide) (cn0 hF) (factsT hF fa21_3) (fun i => (hs i).trans (spIf_hit (k := 3) hm i rfl)))
      | 4, _, _, hm => exact caseB (k := 21) (m := 4) hk hm (tree_case hF t6_21_4 (by decide) (cn0 hF) (factsT hF fa21_4) (fun i => (hs i).trans (spIf_hit (k := 4) hm i rfl)))
      | 5, _, _, hm => exact caseB (k := 21) (m := 5) hk hm (tree_case hF t6_21_5 (by decide) (cn0 hF) (factsT hF fa21_5) (fun i => (hs i).trans (spIf_hit (k := 5) hm i rfl)))
      | 6, _, _, hm => exact caseB (k := 21) (m := 6) hk hm (tree_case hF t6_21_6 (by decide) (cn0 hF) (factsT hF fa21_6) (fun i => (hs i).trans (spIf_hit (k := 6) hm i rfl)))
      | 7, _, _, hm => exact caseB (k := 21) (m := 7) hk hm (tree_case hF t6_21_7 (by decide) (cn0 hF) (factsT hF fa21_7) (fun i => (hs i).trans (spIf_hit (k := 7) hm i rfl)))
  | 22, _, hk =>
    have hs : ∀ i, spT.val v i = sp22.val v i := fun i => spIf_hit (k := 22) hk i rfl
    by_cases hlo : @Sx.eval v (D 4) < 1
    · exact caseA (k := 22) hk (tree_case hF t6_22_o (by decide) (fun c hc h => by
      simp [coresT] at hc; subst hc
      have := ltF (hget h).1
      have : 1 ≤ @Sx.eval v (D 4) := this
      omega) (hcons (evF (show _ ≠ (1 : Int) by omega)) (hcons (evF (show _ ≠ (2 : Int) by omega)) (hcons (evF (show _ ≠ (4 : Int) by omega)) (hcons (evF (show _ ≠ (8 : Int) by omega)) hnil)))) (fun i => (hs i).trans (spIf_miss i fun q hq => by
      have : 1 ≤ q.1 := L22_pos q hq
      omega)))
    by_cases hhi : @Sx.eval v (D 4) ≥ 9
    · exact caseA (k := 22) hk (tree_case hF t6_22_o (by decide) (fun c hc h => by
      simp [coresT] at hc; subst hc
      have := ltT (hget (hget h).2).1
      have : @Sx.eval v (D 4) < 9 := this
      omega) (hcons (evF (show _ ≠ (1 : Int) by omega)) (hcons (evF (show _ ≠ (2 : Int) by omega)) (hcons (evF (show _ ≠ (4 : Int) by omega)) (hcons (evF (show _ ≠ (8 : Int) by omega)) hnil)))) (fun i => (hs i).trans (spIf_miss i fun q hq => by
      have : q.1 < 9 := L22_lt q hq
      omega)))
    obtain ⟨m, hm⟩ : ∃ m : Nat, @Sx.eval v (D 4) = m := ⟨(@Sx.eval v (D 4)).toNat, by omega⟩
    have hm1 : 1 ≤ m := by omega
    have hm2 : m < 9 := by omega
    match m, hm1, hm2, hm with
      | 1, _, _, hm => exact caseB (k := 22) (m := 1) hk hm (tree_case hF t6_22_1 (by decide) (cn0 hF) (factsT hF fa22_1) (fun i => (hs i).trans (spIf_hit (k := 1) hm i rfl)))
      | 2, _, _, hm => exact caseB (k := 22) (m := 2) hk hm (tree_case hF t6_22_2 (by decide) (cn0 hF) (factsT hF fa22_2) (fun i => (hs i).trans (spIf_hit (k := 2) hm i rfl)))
      | 3, _, _, hm => exact caseB (k := 22) (m := 3) hk hm (tree_case hF t6_22_3 (by decide) (cn0 hF) (factsT hF fa22_3) (fun i => (hs i).trans (spIf_hit (k := 3) hm i rfl)))
      | 4, _, _, hm => exact caseB (k := 22) (m := 4) hk hm (tree_case hF t6_22_4 (by decide) (cn0 hF) (factsT hF fa22_4) (fun i => (hs i).trans (spIf_hit (k := 4) hm i rfl)))
      | 5, _, _, hm => exact caseB (k := 22) (m := 5) hk hm (tree_case hF t6_22_5 (by decide) (cn0 hF) (factsT hF fa22_5) (fun i => (hs i).trans (spIf_hit (k := 5) hm i rfl)))
      | 6, _, _, hm => exact caseB (k := 22) (m := 6) hk hm (tree_case hF t6_22_6 (by decide) (cn0 hF) (factsT hF fa22_6) (fun i => (hs i).trans (spIf_hit (k := 6) hm i rfl)))
      | 7, _, _, hm => exact caseB (k := 22) (m := 7) hk hm (tree_case hF t6_22_7 (by decide) (cn0 hF) (factsT hF fa22_7) (fun i => (hs i).trans (spIf_hit (k := 7) hm i rfl)))
      | 8, _, _, hm => exact caseB (k := 22) (m := 8) hk hm (tree_case hF t6_22_8 (by decide) (cn0 hF) (factsT hF fa22_8) (fun i => (hs i).trans (spIf_hit (k := 8) hm i rfl)))
  | 23, _, hk => exact caseA (k := 23) hk (tree_case hF t6_23 (by decide) (cn0 hF) (factsT hF fa23) (fun i => spIf_hit (k := 23) hk i rfl))
  | 24, _, hk => exact caseA (k := 24) hk (tree_case hF t6_24 (by decide) (cn0 hF) (factsT hF fa24) (fun i => spIf_hit (k := 24) hk i rfl))
  | 25, _, hk => exact caseA (k := 25) hk (tree_case hF t6_25 (by decide) (cn0 hF) (factsT hF fa25) (fun i => spIf_hit (k := 25) hk i rfl))
  | 26, _, hk => exact caseA (k := 26) hk (tree_case hF t6_26 (by decide) (cn0 hF) (factsT hF fa26) (fun i => spIf_hit (k := 26) hk i rfl))
  | 27, _, hk => exact caseA (k := 27) hk (tree_case hF t6_27 (by decide) (cn0 hF) (factsT hF fa27) (fun i => spIf_hit (k := 27) hk i rfl))
  | 28, _, hk =>
    have hs : ∀ i, spT.val v i = sp28.val v i := fun i => spIf_hit (k := 28) hk i rfl
    have hl : 0 ≤ @Sx.eval v (lenS (D 5)) := Int.natCast_nonneg _
    by_cases hhi : @Sx.eval v (lenS (D 5)) ≥ 9
    · exact caseA (k := 28) hk (tree_case hF t6_28_o (by decide) (cn0 hF) (hcons (decide_eq_false (show ¬ @Sx.eval v (lenS (D 5)) < 9 by omega)) hnil) (fun i => (hs i).trans (spIf_miss i fun q hq => by
      have : q.1 < 9 := L28_lt q hq
      omega)))
    obtain ⟨m, hm⟩ : ∃ m : Nat, @Sx.eval v (lenS (D 5)) = m := ⟨(@Sx.eval v (lenS (D 5))).toNat, by omega⟩
    have hm2 : m < 9 := by omega
    match m, hm2, hm with
      | 0, _, hm => exact caseA (k := 28) hk (tree_case hF t6_28_0 (by decide) (cn0 hF) (hcons (evT hm) (factsT hF fa28_0)) (fun i => (hs i).trans (spIf_hit (k := 0) hm i rfl)))
      | 1, _, hm => exact caseA (k := 28) hk (tree_case hF t6_28_1 (by decide) (cn0 hF) (hcons (evT hm) (factsT hF fa28_1)) (fun i => (hs i).trans (spIf_hit (k := 1) hm i rfl)))
      | 2, _, hm => exact caseA (k := 28) hk (tree_case hF t6_28_2 (by decide) (cn0 hF) (hcons (evT hm) (factsT hF fa28_2)) (fun i => (hs i).trans (spIf_hit (k := 2) hm i rfl)))
      | 3, _, hm => exact caseA (k := 28) hk (tree_case hF t6_28_3 (by decide) (cn0 hF) (hcons (evT hm) (factsT hF fa28_3)) (fun i => (hs i).trans (spIf_hit (k := 3) hm i rfl)))
      | 4, _, hm => exact caseA (k := 28) hk (tree_case hF t6_28_4 (by decide) (cn0 hF) (hcons (evT hm) (factsT hF fa28_4)) (fun i => (hs i).trans (spIf_hit (k := 4) hm i rfl)))
      | 5, _, hm => exact caseA (k := 28) hk (tree_case hF t6_28_5 (by decide) (cn0 hF) (hcons (evT hm) (factsT hF fa28_5)) (fun i => (hs i).trans (spIf_hit (k := 5) hm i rfl)))
      | 6, _, hm => exact caseA (k := 28) hk (tree_case hF t6_28_6 (by decide) (cn0 hF) (hcons (evT hm) (factsT hF fa28_6)) (fun i => (hs i).trans (spIf_hit (k := 6) hm i rfl)))
      | 7, _, hm => exact caseA (k := 28) hk (tree_case hF t6_28_7 (by decide) (cn0 hF) (hcons (evT hm) (factsT hF fa28_7)) (fun i => (hs i).trans (spIf_hit (k := 7) hm i rfl)))
      | 8, _, hm => exact caseA (k := 28) hk (tree_case hF t6_28_8 (by decide) (cn0 hF) (hcons (evT hm) (factsT hF fa28_8)) (fun i => (hs i).trans (spIf_hit (k := 8) hm i rfl)))
  | 29, _, hk => exact caseA (k := 29) hk (tree_case hF t6_29 (by decide) (cn0 hF) (factsT hF fa29) (fun i => spIf_hit (k := 29) hk i rfl))
  | 30, _, hk => exact caseA (k := 30) hk (tree_case hF t6_30 (by decide) (cn0 hF) (factsT hF fa30) (fun i => spIf_hit (k := 30) hk i rfl))
  | 31, _, hk => exact caseA (k := 31) hk (tree_case hF t6_31 (by decide) (cn0 hF) (factsT hF fa31) (fun i => spIf_hit (k := 31) hk i rfl))
  | 32, _, hk => exact caseA (k := 32) hk (tree_case hF t6_32 (by decide) (cn0 hF) (factsT hF fa32) (fun i => spIf_hit (k := 32) hk i rfl))
  | k + 33, h33, _ => exact absurd h33 (by omega)
theorem tree7 : HR 0 0 40 v c7 (envL (AT (SI 0) (SI 4))) (toldSt b0 [] R0) .ret v (envL RT) (toldSt b0 OT 1025) := by
  rcases Int.lt_or_le (@Sx.eval v (D 0)) 0 with h0 | h0
  · exact tree_case hF t7_33 (by decide) (fun c hc h => by
      simp [coresT] at hc; subst hc
      have := ltF (hget h).1
      have : 0 ≤ @Sx.eval v (D 0) := this
      omega) hnil (fun i => spIf_miss i fun q hq => by
      have : 0 ≤ q.1 := LOp_pos q hq
      omega)
  by_cases h1 : 33 ≤ @Sx.eval v (D 0)
  · exact tree_case hF t7_33 (by decide) (fun c hc h => by
      simp [coresT] at hc; subst hc
      have := ltT (hget (hget h).2).1
      have : @Sx.eval v (D 0) < 33 := this
      omega) hnil (fun i => spIf_miss i fun q hq => by
      have : q.1 < 33 := LOp_lt q hq
      omega)
  obtain ⟨k, hk⟩ : ∃ k : Nat, @Sx.eval v (D 0) = k := ⟨(@Sx.eval v (D 0)).toNat, by omega⟩
  have hk33 : k < 33 := by omega
  match k, hk33, hk with
  | 0, _, hk => exact caseA (k := 0) hk (tree_case hF t7_0 (by decide) (cn0 hF) (factsT hF fa0) (fun i => spIf_hit (k := 0) hk i rfl))
  | 1, _, hk => exact caseA (k := 1) hk (tree_case hF t7_1 (by decide) (cn0 hF) (factsT hF fa1) (fun i => spIf_hit (k := 1) hk i rfl))
  | 2, _, hk => exact caseA (k := 2) hk (tree_case hF t7_2 (by decide) (cn0 hF) (factsT hF fa2) (fun i => spIf_hit (k := 2) hk i rfl))
  | 3, _, hk => exact caseA (k := 3) hk (tree_case hF t7_3 (by decide) (cn0 hF) (factsT hF fa3) (fun i => spIf_hit (k := 3) hk i rfl))
  | 4, _, hk => exact caseA (k := 4) hk (tree_case hF t7_4 (by decide) (cn0 hF) (factsT hF fa4) (fun i => spIf_hit (k := 4) hk i rfl))
  | 5, _, hk => exact caseA (k := 5) hk (tree_case hF t7_5 (by decide) (cn0 hF) (factsT hF fa5) (fun i => spIf_hit (k := 5) hk i rfl))
  | 6, _, hk => exact caseA (k := 6) hk (tree_case hF t7_6 (by decide) (cn0 hF) (factsT hF fa6) (fun i => spIf_hit (k := 6) hk i rfl))
  | 7, _, hk => exact caseA (k := 7) hk (tree_case hF t7_7 (by decide) (cn0 hF) (factsT hF fa7) (fun i => spIf_hit (k := 7) hk i rfl))
  | 8, _, hk => exact caseA (k := 8) hk (tree_case hF t7_8 (by decide) (cn0 hF) (factsT hF fa8) (fun i => spIf_hit (k := 8) hk i rfl))
  | 9, _, hk => exact caseA (k := 9) hk (tree_case hF t7_9 (by decide) (cn0 hF) (factsT hF fa9) (fun i => spIf_hit (k := 9) hk i rfl))
  | 10, _, hk => exact caseA (k := 10) hk (tree_case hF t7_10 (by decide) (cn0 hF) (factsT hF fa10) (fun i => spIf_hit (k := 10) hk i rfl))
  | 11, _, hk => exact caseA (k := 11) hk (tree_case hF t7_11 (by decide) (cn0 hF) (factsT hF fa11) (fun i => spIf_hit (k := 11) hk i rfl))
  | 12, _, hk => exact caseA (k := 12) hk (tree_case hF t7_12 (by decide) (cn0 hF) (factsT hF fa12) (fun i => spIf_hit (k := 12) hk i rfl))
  | 13, _, hk => exact caseA (k := 13) hk (tree_case hF t7_13 (by decide) (cn0 hF) (factsT hF fa13) (fun i => spIf_hit (k := 13) hk i rfl))
  | 14, _, hk => exact caseA (k := 14) hk (tree_case hF t7_14 (by decide) (cn0 hF) (factsT hF fa14) (fun i => spIf_hit (k := 14) hk i rfl))
  | 15, _, hk => exact caseA (k := 15) hk (tree_case hF t7_15 (by decide) (cn0 hF) (factsT hF fa15) (fun i => spIf_hit (k := 15) hk i rfl))
  | 16, _, hk => exact caseA (k := 16) hk (tree_case hF t7_16 (by decide) (cn0 hF) (factsT hF fa16) (fun i => spIf_hit (k := 16) hk i rfl))
  | 17, _, hk => exact caseA (k := 17) hk (tree_case hF t7_17 (by decide) (cn0 hF) (factsT hF fa17) (fun i => spIf_hit (k := 17) hk i rfl))
  | 18, _, hk => exact caseA (k := 18) hk (tree_case hF t7_18 (by decide) (cn0 hF) (factsT hF fa18) (fun i => spIf_hit (k := 18) hk i rfl))
  | 19, _, hk => exact caseA (k := 19) hk (tree_case hF t7_19 (by decide) (cn0 hF) (factsT hF fa19) (fun i => spIf_hit (k := 19) hk i rfl))
  | 20, _, hk => exact caseA (k := 20) hk (tree_case hF t7_20 (by decide) (cn0 hF) (factsT hF fa20) (fun i => spIf_hit (k := 20) hk i rfl))
  | 21, _, hk =>
    have hs : ∀ i, spT.val v i = sp21.val v i := fun i => spIf_hit (k := 21) hk i rfl
    by_cases hlo : @Sx.eval v (D 4) < 1
    · exact caseA (k := 21) hk (tree_case hF t7_21_o (by decide) (fun c hc h => by
      simp [coresT] at hc; subst hc
      have := ltF (hget h).1
      have : 1 ≤ @Sx.eval v (D 4) := this
      omega) hnil (fun i => (hs i).trans (spIf_miss i fun q hq => by
      have : 1 ≤ q.1 := L21_pos q hq
      omega)))
    by_cases hhi : @Sx.eval v (D 4) ≥ 8
    · exact caseA (k := 21) hk (tree_case hF t7_21_o (by decide) (fun c hc h => by
      simp [coresT] at hc; subst hc
      have := ltT (hget (hget h).2).1
      have : @Sx.eval v (D 4) < 8 := this
      omega) hnil (fun i => (hs i).trans (spIf_miss i fun q hq => by
      have : q.1 < 8 := L21_lt q hq
      omega)))
    obtain ⟨m, hm⟩ : ∃ m : Nat, @Sx.eval v (D 4) = m := ⟨(@Sx.eval v (D 4)).toNat, by omega⟩
    have hm1 : 1 ≤ m := by omega
    have hm2 : m < 8 := by omega
    match m, hm1, hm2, hm with
      | 1, _, _, hm => exact caseB (k := 21) (m := 1) hk hm (tree_case hF t7_21_1 (by decide) (cn0 hF) (factsT hF fa21_1) (fun i => (hs i).trans (spIf_hit (k := 1) hm i rfl)))
      | 2, _, _, hm => exact caseB (k := 21) (m := 2) hk hm (tree_case hF t7_21_2 (by decide) (cn0 hF) (factsT hF fa21_2) (fun i => (hs i).trans (spIf_hit (k := 2) hm i rfl)))
      | 3, _, _, hm => exact caseB (k := 21) (m := 3) hk hm (tree_case hF t7_21_3 (by decide) (cn0 hF) (factsT hF fa21_3) (fun i => (hs i).trans (spIf_hit (k := 3) hm i rfl)))
      | 4, _, _, hm => exact caseB (k := 21) (m := 4) hk hm (tree_case hF t7_21_4 (by decide) (cn0 hF) (factsT hF fa21_4) (fun i => (hs i).trans (spIf_hit (k := 4) hm i rfl)))
      | 5, _, _, hm => exact caseB (k := 21) (m := 5) hk hm (tree_case hF t7_21_5 (by decide) (cn0 hF) (factsT hF fa21_5) (fun i => (hs i).trans (spIf_hit (k := 5) hm i rfl)))
      | 6, _, _, hm => exact caseB (k := 21) (m := 6) hk hm (tree_case hF t7_21_6 (by decide) (cn0 hF) (factsT hF fa21_6) (fun i => (hs i).trans (spIf_hit (k := 6) hm i rfl)))
      | 7, _, _, hm => exact caseB (k := 21) (m := 7) hk hm (tree_case hF t7_21_7 (by decide) (cn0 hF) (factsT hF fa21_7) (fun i => (hs i).trans (spIf_hit (k := 7) hm i rfl)))
  | 22, _, hk =>
    have hs : ∀ i, spT.val v i = sp22.val v i := fun i => spIf_hit (k := 22) hk i rfl
    by_cases hlo : @Sx.eval v (D 4) < 1
    · exact caseA (k := 22) hk (tree_case hF t7_22_o (by decide) (fun c hc h => by
      simp [coresT] at hc; subst hc
      have := ltF (hget h).1
      have : 1 ≤ @Sx.eval v (D 4) := this
      omega) (hcons (evF (show _ ≠ (1 : Int) by omega)) (hcons (evF (show _ ≠ (2 : Int) by omega)) (hcons (evF (show _ ≠ (4 : Int) by omega)) (hcons (evF (show _ ≠ (8 : Int) by omega)) hnil)))) (fun i => (hs i).trans (spIf_miss i fun q hq => by
      have : 1 ≤ q.1 := L22_pos q hq
      omega)))
    by_cases hhi : @Sx.eval v (D 4) ≥ 9
    · exact caseA (k := 22) hk (tree_case hF t7_22_o (by decide) (fun c hc h => by
      simp [coresT] at hc; subst hc
      have := ltT (hget (hget h).2).1
      have : @Sx.eval v (D 4) < 9 := this
      omega) (hcons (evF (show _ ≠ (1 : Int) by omega)) (hcons (evF (show _ ≠ (2 : Int) by omega)) (hcons (evF (show _ ≠ (4 : Int) by omega)) (hcons (evF (show _ ≠ (8 : Int) by omega)) hnil)))) (fun i => (hs i).trans (spIf_miss i fun q hq => by
      have : q.1 < 9 := L22_lt q hq
      omega)))
    obtain ⟨m, hm⟩ : ∃ m : Nat, @Sx.eval v (D 4) = m := ⟨(@Sx.eval v (D 4)).toNat, by omega⟩
    have hm1 : 1 ≤ m := by omega
    have hm2 : m < 9 := by omega
    match m, hm1, hm2, hm with
      | 1, _, _, hm => exact caseB (k := 22) (m := 1) hk hm (tree_case hF t7_22_1 (by decide) (cn0 hF) (factsT hF fa22_1) (fun i => (hs i).trans (spIf_hit (k := 1) hm i rfl)))
      | 2, _, _, hm => exact caseB (k := 22) (m := 2) hk hm (tree_case hF t7_22_2 (by decide) (cn0 hF) (factsT hF fa22_2) (fun i => (hs i).trans (spIf_hit (k := 2) hm i rfl)))
      | 3, _, _, hm => exact caseB (k := 22) (m := 3) hk hm (tree_case hF t7_22_3 (by decide) (cn0 hF) (factsT hF fa22_3) (fun i => (hs i).trans (spIf_hit (k := 3) hm i rfl)))
      | 4, _, _, hm => exact caseB (k := 22) (m := 4) hk hm (tree_case hF t7_22_4 (by decide) (cn0 hF) (factsT hF fa22_4) (fun i => (hs i).trans (spIf_hit (k := 4) hm i rfl)))
      | 5, _, _, hm => exact caseB (k := 22) (m := 5) hk hm (tree_case hF t7_22_5 (by decide) (cn0 hF) (factsT hF fa22_5) (fun i => (hs i).trans (spIf_hit (k := 5) hm i rfl)))
      | 6, _, _, hm => exact caseB (k := 22) (m := 6) hk hm (tree_case hF t7_22_6 (by decide) (cn0 hF) (factsT hF fa22_6) (fun i => (hs i).trans (spIf_hit (k := 6) hm i rfl)))
      | 7, _, _, hm => exact caseB (k := 22) (m := 7) hk hm (tree_case hF t7_22_7 (by decide) (cn0 hF) (factsT hF fa22_7) (fun i => (hs i).trans (spIf_hit (k := 7) hm i rfl)))
      | 8, _, _, hm => exact caseB (k := 22) (m := 8) hk hm (tree_case hF t7_22_8 (by decide) (cn0 hF) (factsT hF fa22_8) (fun i => (hs i).trans (spIf_hit (k := 8) hm i rfl)))
  | 23, _, hk => exact caseA (k := 23) hk (tree_case hF t7_23 (by decide) (cn0 hF) (factsT hF fa23) (fun i => spIf_hit (k := 23) hk i rfl))
  | 24, _, hk => exact caseA (k := 24) hk (tree_case hF t7_24 (by decide) (cn0 hF) (factsT hF fa24) (fun i => spIf_hit (k := 24) hk i rfl))
  | 25, _, hk => exact caseA (k := 25) hk (tree_case hF t7_25 (by decide) (cn0 hF) (factsT hF fa25) (fun i => spIf_hit (k := 25) hk i rfl))
  | 26, _, hk => exact caseA (k := 26) hk (tree_case hF t7_26 (by decide) (cn0 hF) (factsT hF fa26) (fun i => spIf_hit (k := 26) hk i rfl))
  | 27, _, hk => exact caseA (k := 27) hk (tree_case hF t7_27 (by decide) (cn0 hF) (factsT hF fa27) (fun i => spIf_hit (k := 27) hk i rfl))
  | 28, _, hk =>
    have hs : ∀ i, spT.val v i = sp28.val v i := fun i => spIf_hit (k := 28) hk i rfl
    have hl : 0 ≤ @Sx.eval v (lenS (D 5)) := Int.natCast_nonneg _
    by_cases hhi : @Sx.eval v (lenS (D 5)) ≥ 9
    · exact caseA (k := 28) hk (tree_case hF t7_28_o (by decide) (cn0 hF) (hcons (decide_eq_false (show ¬ @Sx.eval v (lenS (D 5)) < 9 by omega)) hnil) (fun i => (hs i).trans (spIf_miss i fun q hq => by
      have : q.1 < 9 := L28_lt q hq
      omega)))
    obtain ⟨m, hm⟩ : ∃ m : Nat, @Sx.eval v (lenS (D 5)) = m := ⟨(@Sx.eval v (lenS (D 5))).toNat, by omega⟩
    have hm2 : m < 9 := by omega
    match m, hm2, hm with
      | 0, _, hm => exact caseA (k := 28) hk (tree_case hF t7_28_0 (by decide) (cn0 hF) (hcons (evT hm) (factsT hF fa28_0)) (fun i => (hs i).trans (spIf_hit (k := 0) hm i rfl)))
      | 1, _, hm => exact caseA (k := 28) hk (tree_case hF t7_28_1 (by decide) (cn0 hF) (hcons (evT hm) (factsT hF fa28_1)) (fun i => (hs i).trans (spIf_hit (k := 1) hm i rfl)))
      | 2, _, hm => exact caseA (k := 28) hk (tree_case hF t7_28_2 (by decide) (cn0 hF) (hcons (evT hm) (factsT hF fa28_2)) (fun i => (hs i).trans (spIf_hit (k := 2) hm i rfl)))
      | 3, _, hm => exact caseA (k := 28) hk (tree_case hF t7_28_3 (by decide) (cn0 hF) (hcons (evT hm) (factsT hF fa28_3)) (fun i => (hs i).trans (spIf_hit (k := 3) hm i rfl)))
      | 4, _, hm => exact caseA (k := 28) hk (tree_case hF t7_28_4 (by decide) (cn0 hF) (hcons (evT hm) (factsT hF fa28_4)) (fun i => (hs i).trans (spIf_hit (k := 4) hm i rfl)))
      | 5, _, hm => exact caseA (k := 28) hk (tree_case hF t7_28_5 (by decide) (cn0 hF) (hcons (evT hm) (factsT hF fa28_5)) (fun i => (hs i).trans (spIf_hit (k := 5) hm i rfl)))
      | 6, _, hm => exact caseA (k := 28) hk (tree_case hF t7_28_6 (by decide) (cn0 hF) (hcons (evT hm) (factsT hF fa28_6)) (fun i => (hs i).trans (spIf_hit (k := 6) hm i rfl)))
      | 7, _, hm => exact caseA (k := 28) hk (tree_case hF t7_28_7 (by decide) (cn0 hF) (hcons (evT hm) (factsT hF fa28_7)) (fun i => (hs i).trans (spIf_hit (k := 7) hm i rfl)))
      | 8, _, hm => exact caseA (k := 28) hk (tree_case hF t7_28_8 (by decide) (cn0 hF) (hcons (evT hm) (factsT hF fa28_8)) (fun i => (hs i).trans (spIf_hit (k := 8) hm i rfl)))
  | 29, _, hk => exact caseA (k := 29) hk (tree_case hF t7_29 (by decide) (cn0 hF) (factsT hF fa29) (fun i => spIf_hit (k := 29) hk i rfl))
  | 30, _, hk => exact caseA (k := 30) hk (tree_case hF t7_30 (by decide) (cn0 hF) (factsT hF fa30) (fun i => spIf_hit (k := 30) hk i rfl))
  | 31, _, hk => exact caseA (k := 31) hk (tree_case hF t7_31 (by decide) (cn0 hF) (factsT hF fa31) (fun i => spIf_hit (k := 31) hk i rfl))
  | 32, _, hk => exact caseA (k := 32) hk (tree_case hF t7_32 (by decide) (cn0 hF) (factsT hF fa32) (fun i => spIf_hit (k := 32) hk i rfl))
  | k + 33, h33, _ => exact absurd h33 (by omega)
omit hF in
def conT (f : Nat) : Con := { f := f, args := [.agg [SI 0, SI 1, SI 2, SI 3, SI 4, LI (D 5)], SI 6, SI 7, SI 8], pre := [], res := .tup [LV 0 r10, .sym .i64 r8], objs := [LO r9 r10] }
end
theorem con6_ok : (conT 6).Sound F0 P gl0 b0 R0 := by
  refine con_sound (fn := Tryz.f6) (code := c6) Tryz.func6 (by rfl) (by kernel_rfl) (by kernel_rfl) fun v hF _ => ?_
  exact ⟨.ret, RT, _, _, .inl rfl, tree6 hF, by rfl, rfl⟩
theorem con7_ok : (conT 7).Sound F0 P gl0 b0 R0 := by
  refine con_sound (fn := Tryz.f7) (code := c7) Tryz.func7 (by rfl) (by kernel_rfl) (by kernel_rfl) fun v hF _ => ?_
  exact ⟨.ret, RT, _, _, .inl rfl, tree7 hF, by rfl, rfl⟩
end
end Go.Proofs.YtbkokbjpbbpllaaGreat
/-! The same lines are told to be the same. -/
namespace Go.Proofs.YtbkokbjpbbpllaaGreat
open Go.Tw
noncomputable section
def c8 : Code := match Tryz.f8.body with
  | some c => c
  | none => .skip
def LG (x : Sx) : AV := .opq 0 gid 0 (.slc L7) x (.lit 0)
def A8 : List (Nat × AV) := [(1, LG (D 0)), (0, LG (D 0))]
def E8 : List (Nat × AV) := [(0, LG (D 0)), (1, LG (D 0)), (5, SI 1)]
def R8 : List (Nat × AV) := [(4, .bool true)]
def b8 : Code := Code.l (Code.l (Code.r (Code.l (Code.r (Code.r c8)))))
def con8 : Con := { f := 8, args := [LG (D 0), LG (D 0)], pre := [(lt (lenS (D 0)) (I 1000000), true)], res := .bool true, objs := [] }
theorem x8_0 : runHB R0 0 0 (run [] [] 26 (Code.l c8) A8 [] R0) .normal [] A8 [] R0 [(D 0, D 0), (D 0, D 0)] = true := by kernel_rfl
theorem x8_1 : runHB R0 0 0 (run [] [] 26 (Code.l (Code.r c8)) A8 [] R0) .normal [] A8 [] R0 [(D 0, D 0), (D 0, D 0)] = true := by kernel_rfl
theorem x8_2 : runHB R0 0 0 (run [] [] 26 (Code.l (Code.l (Code.r (Code.r c8)))) A8 [] R0) .normal [] E8 [] R0 [(D 0, D 0), (D 0, D 0), (I 0, N (D 1))] = true := by kernel_rfl
theorem x8_out : runHB R0 0 0 (run [(lt (D 1) (lenS (D 0)), false)] [] 26 b8 E8 [] R0) (.exit 0) [] [] [] R0 [] = true := by kernel_rfl
theorem x8_eq : runHB R0 0 0 (run [(lt (D 1) (lenS (D 0)), true), (lt (D 1) (I 0), false)] [] 26 b8 E8 [] R0) .normal [] E8 [] R0 [(D 0, D 0), (D 0, D 0), (N (.bin .add .i64 (D 1) (I 1)), N (D 1))] = true := by kernel_rfl
theorem x8_end : runHB R0 0 0 (run [] [] 26 (Code.r (Code.r (Code.r c8))) [] [] R0) .ret [] R8 [] R0 [] = true := by kernel_rfl
theorem c8_eq : c8 = .seq (Code.l c8) (.seq (Code.l (Code.r c8)) (.seq (.seq (Code.l (Code.l (Code.r (Code.r c8)))) (.block 0 (.loop b8))) (Code.r (Code.r (Code.r c8))))) := by kernel_rfl
theorem lt_t {v : Val} {a b : Sx} (h : @Sx.eval v a < @Sx.eval v b) : @Bx.eval v (lt a b) = true := decide_eq_true h
theorem lt_f {v : Val} {a b : Sx} (h : ¬ @Sx.eval v a < @Sx.eval v b) : @Bx.eval v (lt a b) = false := decide_eq_false h
theorem con8_ok : con8.Sound F0 P gl0 b0 R0 := by
  refine con_sound (fn := Tryz.f8) (code := c8) Tryz.func8 (by rfl) (by kernel_rfl) (by kernel_rfl) fun v hF hpre => ?_
  have hbig : ((@Sx.dat v (D 0)).toL.length : Int) < 1000000 := by
    have h1 : @Bx.eval v (.cmp .lss (lenS (D 0)) (.lit 1000000)) = true := hpre (.cmp .lss (lenS (D 0)) (.lit 1000000), true) (List.mem_singleton.2 rfl)
    have h2 : decide (((@Sx.dat v (D 0)).toL.length : Int) < 1000000) = true := h1
    exact of_decide_eq_true h2
  refine ⟨.ret, R8, _, _, .inl rfl, ?_, by rfl, rfl⟩
  show HR 0 0 26 v c8 (envL A8) (toldSt b0 [] R0) .ret v (envL R8) (toldSt b0 [] R0)
  obtain ⟨a, ha⟩ : ∃ a, a = @Sx.dat v (D 0) := ⟨_, rfl⟩
  rw [← ha] at hbig
  let V : Nat → Val := fun k => VL F0 [a, .int k]
  rw [c8_eq]
  have h0 : HR 0 0 26 v (Code.l c8) (envL A8) (toldSt b0 [] R0) .normal v (envL A8) (toldSt b0 [] R0) := rn hF hnil nocon (Nat.le_refl 0) x8_0 (eqs_cons rfl (eqs_cons rfl eqs_nil))
  have h1 : HR 0 0 26 v (Code.l (Code.r c8)) (envL A8) (toldSt b0 [] R0) .normal v (envL A8) (toldSt b0 [] R0) := rn hF hnil nocon (Nat.le_refl 0) x8_1 (eqs_cons rfl (eqs_cons rfl eqs_nil))
  have h2 : HR 0 0 26 v (Code.l (Code.l (Code.r (Code.r c8)))) (envL A8) (toldSt b0 [] R0) .normal (V 0) (envL E8) (toldSt b0 [] R0) := rn hF hnil nocon (Nat.le_refl 0) x8_2 (eqs_cons ha.symm (eqs_cons ha.symm (eqs_cons rfl eqs_nil)))
  have hstep : ∀ k, k < a.toL.length → HR 0 0 26 (V k) b8 (envL E8) (toldSt b0 [] R0) .normal (V (k + 1)) (envL E8) (toldSt b0 [] R0) := fun k hk => by
    have hp : @Holds (V k) [(lt (D 1) (lenS (D 0)), true), (lt (D 1) (I 0), false)] := hcons (lt_t (show (k : Int) < a.toL.length by omega)) (hcons (lt_f (show ¬ (k : Int) < 0 by omega)) hnil)
    refine rn (v := V k) rfl hp nocon (Nat.le_refl 0) x8_eq (eqs_cons rfl (eqs_cons rfl (eqs_cons ?_ eqs_nil)))
    show Dat.int (wrapI .i64 ((k : Int) + 1)) = Dat.int ((k + 1 : Nat) : Int)
    rw [wrap_small (by omega) (by omega)]
    rfl
  have hx : HR 0 0 26 (V a.toL.length) b8 (envL E8) (toldSt b0 [] R0) (.exit 0) v (envL []) (toldSt b0 [] R0) :=
    rn (v := V a.toL.length) rfl (show @Holds (V a.toL.length) [(lt (D 1) (lenS (D 0)), false)] from hcons (lt_f (show ¬ ((a.toL.length : Nat) : Int) < a.toL.length by omega)) hnil) nocon (Nat.le_refl 0) x8_out eqs_nil
  have h3 : HR 0 0 26 (V 0) (.block 0 (.loop b8)) (envL E8) (toldSt b0 [] R0) .normal v (envL []) (toldSt b0 [] R0) := HT.block (HT.loop (Nat.le_refl 0) a.toL.length V hstep hx (by simp))
  have h4 : HR 0 0 26 v (Code.r (Code.r (Code.r c8))) (envL []) (toldSt b0 [] R0) .ret v (envL R8) (toldSt b0 [] R0) := rn hF hnil nocon (Nat.le_refl 0) x8_end eqs_nil
  exact HT.seq (Nat.le_refl 0) h0 (HT.seq (Nat.le_refl 0) h1 (HT.seq (Nat.le_refl 0) (HT.seq (Nat.le_refl 0) h2 h3) h4))
end
end Go.Proofs.YtbkokbjpbbpllaaGreat
/-! The examples are so. -/
namespace Go.Proofs.YtbkokbjpbbpllaaGreat
open Go.Tw
noncomputable section
def c4 : Code := match Tryz.f4.body with
  | some c => c
  | none => .skip
def con4 : Con := { f := 4, args := [], pre := [], res := .bool true, objs := [] }
theorem x4 : runHB R0 0 0 (run [] [] 26 c4 [] [] R0) .ret [] [(0, .bool true)] [] R0 [] = true := by kernel_rfl
theorem con4_ok : con4.Sound F0 P gl0 b0 R0 := by
  refine con_sound (fn := Tryz.f4) (code := c4) Tryz.func4 (by rfl) (by kernel_rfl) (by kernel_rfl) fun v hF hpre => ?_
  refine ⟨.ret, [(0, .bool true)], _, _, .inl rfl, ?_, by rfl, rfl⟩
  show HR 0 0 26 v c4 (envL []) (toldSt b0 [] R0) .ret v (envL [(0, .bool true)]) (toldSt b0 [] R0)
  exact rn hF hnil nocon (Nat.le_refl 0) x4 eqs_nil
end
end Go.Proofs.YtbkokbjpbbpllaaGreat
