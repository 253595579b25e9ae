/-
  A part of the law's proof over the abstract evaluator. Conditions: those of each theorem, as it states them.
-/
import Derived.Test.YtgcpcgaigbnniaaGreatClassA
import Derived.Test.YtgcpcgaigbnniaaGreatR00
import Derived.Test.YtgcpcgaigbnniaaGreatR01
import Derived.Test.YtgcpcgaigbnniaaGreatR02
import Derived.Test.YtgcpcgaigbnniaaGreatR03
import Derived.Test.YtgcpcgaigbnniaaGreatR04
import Derived.Test.YtgcpcgaigbnniaaGreatR05
import Derived.Test.YtgcpcgaigbnniaaGreatR06
import Derived.Test.YtgcpcgaigbnniaaGreatR07
import Derived.Test.YtgcpcgaigbnniaaGreatR08
import Derived.Test.YtgcpcgaigbnniaaGreatR09
import Derived.Test.YtgcpcgaigbnniaaGreatR10
import Derived.Test.YtgcpcgaigbnniaaGreatR11
import Derived.Test.YtgcpcgaigbnniaaGreatR12
import Derived.Test.YtgcpcgaigbnniaaGreatR13
import Derived.Test.YtgcpcgaigbnniaaGreatR14
import Derived.Test.YtgcpcgaigbnniaaGreatR15
import Derived.Test.YtgcpcgaigbnniaaGreatR16
import Derived.Test.YtgcpcgaigbnniaaGreatR17
import Derived.Test.YtgcpcgaigbnniaaGreatR18
import Derived.Test.YtgcpcgaigbnniaaGreatR19
import Derived.Test.YtgcpcgaigbnniaaGreatR20
import Derived.Test.YtgcpcgaigbnniaaGreatR21
import Derived.Test.YtgcpcgaigbnniaaGreatR22
import Derived.Test.YtgcpcgaigbnniaaGreatR23
import Derived.Test.YtgcpcgaigbnniaaGreatR24
import Derived.Test.YtgcpcgaigbnniaaGreatR25
import Derived.Test.YtgcpcgaigbnniaaGreatR26
import Derived.Test.YtgcpcgaigbnniaaGreatR27
set_option linter.all false
/-! Every number is of one of the classes. -/
set_option linter.all false
set_option maxRecDepth 1000000
namespace Go.Proofs.YtgcpcgaigbnniaaGreat
open Go.Tw
theorem spl (x : Int) : ∃ h l : Int, x = h * 4096 + l ∧ -2048 ≤ l ∧ l ≤ 2047 := ⟨(x + 2048) / 4096, (x + 2048) % 4096 - 2048, by omega, by omega, by omega⟩
theorem t0_p0 (hr : RestOk) (x a0 a1 : Int) (hx : x = a0 * 4096 + a1) (b1 : -2048 ≤ a1 ∧ a1 ≤ 2047)  (tt : 1 ≤ a0 ∧ a0 ≤ 524287) (tl : a1 < 0)  (mx : -9223372036854775808 ≤ x ∧ x ≤ 9223372036854775807) (nt : ¬ (-2048 ≤ x ∧ x ≤ 2047)) (tp : -2147483648 ≤ (a0 * 4096 + a1) ∧ (a0 * 4096 + a1) ≤ 2147483647) : Good x := by
  exact good_p0 hr x_b0p0 (A5 a0 a1 0 0 0) (by simp only [nP, nC, nL, R64, inR, dv, vL, okL, aOk, exOk, A5, List.length_cons, List.length_nil, true_and, and_true]; omega)
theorem t0_n0 (hr : RestOk) (x a0 a1 : Int) (hx : x = a0 * 4096 + a1) (b1 : -2048 ≤ a1 ∧ a1 ≤ 2047)  (tt : a0 ≤ -1 ∧ -524288 ≤ a0) (tl : a1 < 0)  (mx : -9223372036854775808 ≤ x ∧ x ≤ 9223372036854775807) (nt : ¬ (-2048 ≤ x ∧ x ≤ 2047)) (tp : -2147483648 ≤ (a0 * 4096 + a1) ∧ (a0 * 4096 + a1) ≤ 2147483647) : Good x := by
  exact good_n0 hr x_b0n0 (A5 a0 a1 0 0 0) (by simp only [nP, nC, nL, R64, inR, dv, vL, okL, aOk, exOk, A5, List.length_cons, List.length_nil, true_and, and_true]; omega)
theorem t0_p1 (hr : RestOk) (x a0 a1 : Int) (hx : x = a0 * 4096 + a1) (b1 : -2048 ≤ a1 ∧ a1 ≤ 2047)  (tt : 1 ≤ a0 ∧ a0 ≤ 524287) (tl : a1 = 0)  (mx : -9223372036854775808 ≤ x ∧ x ≤ 9223372036854775807) (nt : ¬ (-2048 ≤ x ∧ x ≤ 2047)) (tp : -2147483648 ≤ (a0 * 4096 + a1) ∧ (a0 * 4096 + a1) ≤ 2147483647) : Good x := by
  exact good_p1 hr x_b0p1 (A5 a0 a1 0 0 0) (by simp only [nP, nC, nL, R64, inR, dv, vL, okL, aOk, exOk, A5, List.length_cons, List.length_nil, true_and, and_true]; omega)
theorem t0_n1 (hr : RestOk) (x a0 a1 : Int) (hx : x = a0 * 4096 + a1) (b1 : -2048 ≤ a1 ∧ a1 ≤ 2047)  (tt : a0 ≤ -1 ∧ -524288 ≤ a0) (tl : a1 = 0)  (mx : -9223372036854775808 ≤ x ∧ x ≤ 9223372036854775807) (nt : ¬ (-2048 ≤ x ∧ x ≤ 2047)) (tp : -2147483648 ≤ (a0 * 4096 + a1) ∧ (a0 * 4096 + a1) ≤ 2147483647) : Good x := by
  exact good_n1 hr x_b0n1 (A5 a0 a1 0 0 0) (by simp only [nP, nC, nL, R64, inR, dv, vL, okL, aOk, exOk, A5, List.length_cons, List.length_nil, true_and, and_true]; omega)
theorem t0_p2 (hr : RestOk) (x a0 a1 : Int) (hx : x = a0 * 4096 + a1) (b1 : -2048 ≤ a1 ∧ a1 ≤ 2047)  (tt : 1 ≤ a0 ∧ a0 ≤ 524287) (tl : 0 < a1)  (mx : -9223372036854775808 ≤ x ∧ x ≤ 9223372036854775807) (nt : ¬ (-2048 ≤ x ∧ x ≤ 2047)) (tp : -2147483648 ≤ (a0 * 4096 + a1) ∧ (a0 * 4096 + a1) ≤ 2147483647) : Good x := by
  exact good_p2 hr x_b0p2 (A5 a0 a1 0 0 0) (by simp only [nP, nC, nL, R64, inR, dv, vL, okL, aOk, exOk, A5, List.length_cons, List.length_nil, true_and, and_true]; omega)
theorem t0_n2 (hr : RestOk) (x a0 a1 : Int) (hx : x = a0 * 4096 + a1) (b1 : -2048 ≤ a1 ∧ a1 ≤ 2047)  (tt : a0 ≤ -1 ∧ -524288 ≤ a0) (tl : 0 < a1)  (mx : -9223372036854775808 ≤ x ∧ x ≤ 9223372036854775807) (nt : ¬ (-2048 ≤ x ∧ x ≤ 2047)) (tp : -2147483648 ≤ (a0 * 4096 + a1) ∧ (a0 * 4096 + a1) ≤ 2147483647) : Good x := by
  exact good_n2 hr x_b0n2 (A5 a0 a1 0 0 0) (by simp only [nP, nC, nL, R64, inR, dv, vL, okL, aOk, exOk, A5, List.length_cons, List.length_nil, true_and, and_true]; omega)
theorem t0_c (hr : RestOk) (x a0 a1 : Int) (hx : x = a0 * 4096 + a1) (b1 : -2048 ≤ a1 ∧ a1 ≤ 2047)  (tt : a0 = 524288) (tl : a1 < 0)  (mx : -9223372036854775808 ≤ x ∧ x ≤ 9223372036854775807) (nt : ¬ (-2048 ≤ x ∧ x ≤ 2047)) (tp : -2147483648 ≤ (a0 * 4096 + a1) ∧ (a0 * 4096 + a1) ≤ 2147483647) : Good x := by
  exact good_c hr x_b0c (A5 a0 a1 0 0 0) (by simp only [nP, nC, nL, R64, inR, dv, vL, okL, aOk, exOk, A5, List.length_cons, List.length_nil, true_and, and_true]; omega)
theorem cc0 (hr : RestOk) (x a0 a1 : Int) (hx : x = a0 * 4096 + a1) (b1 : -2048 ≤ a1 ∧ a1 ≤ 2047)   (mx : -9223372036854775808 ≤ x ∧ x ≤ 9223372036854775807) (nt : ¬ (-2048 ≤ x ∧ x ≤ 2047)) (tp : -2147483648 ≤ (a0 * 4096 + a1) ∧ (a0 * 4096 + a1) ≤ 2147483647) : Good x := by
  by_cases e1 : a0 = 524288
  · exact t0_c hr x a0 a1 hx b1 (by omega) (by omega)  mx nt tp
  by_cases e4 : 0 < a0
  · by_cases e2 : a1 = 0
    · exact t0_p1 hr x a0 a1 hx b1 (by omega) (by omega)  mx nt tp
    by_cases e5 : a1 < 0
    · exact t0_p0 hr x a0 a1 hx b1 (by omega) (by omega)  mx nt tp
    · exact t0_p2 hr x a0 a1 hx b1 (by omega) (by omega)  mx nt tp
  · by_cases e2 : a1 = 0
    · exact t0_n1 hr x a0 a1 hx b1 (by omega) (by omega)  mx nt tp
    by_cases e5 : a1 < 0
    · exact t0_n0 hr x a0 a1 hx b1 (by omega) (by omega)  mx nt tp
    · exact t0_n2 hr x a0 a1 hx b1 (by omega) (by omega)  mx nt tp
theorem t1_p0 (hr : RestOk) (x a0 a1 a2 : Int) (hx : x = (a0 * 4096 + a1) * 4096 + a2) (b1 : -2048 ≤ a1 ∧ a1 ≤ 2047) (b2 : -2048 ≤ a2 ∧ a2 ≤ 2047)  (tt : 1 ≤ a0 ∧ a0 ≤ 524287) (tl : a1 < 0) (n1 : ¬ (-2147483648 ≤ ((a0 * 4096 + a1) * 4096 + a2) ∧ ((a0 * 4096 + a1) * 4096 + a2) ≤ 2147483647)) (mx : -9223372036854775808 ≤ x ∧ x ≤ 9223372036854775807) (nt : True) (tp : -2147483648 ≤ (a0 * 4096 + a1) ∧ (a0 * 4096 + a1) ≤ 2147483647) : Good x := by
  by_cases u2 : a2 < 0
  · skip
    exact good_p0 hr x_b1p00 (A5 a0 a1 a2 0 0) (by simp only [nP, nC, nL, R64, inR, dv, vL, okL, aOk, exOk, A5, List.length_cons, List.length_nil, true_and, and_true]; omega)
  by_cases w2 : a2 = 0
  · skip
    exact good_p0 hr x_b1p01 (A5 a0 a1 a2 0 0) (by simp only [nP, nC, nL, R64, inR, dv, vL, okL, aOk, exOk, A5, List.length_cons, List.length_nil, true_and, and_true]; omega)
  exact good_p0 hr x_b1p02 (A5 a0 a1 a2 0 0) (by simp only [nP, nC, nL, R64, inR, dv, vL, okL, aOk, exOk, A5, List.length_cons, List.length_nil, true_and, and_true]; omega)
theorem t1_n0 (hr : RestOk) (x a0 a1 a2 : Int) (hx : x = (a0 * 4096 + a1) * 4096 + a2) (b1 : -2048 ≤ a1 ∧ a1 ≤ 2047) (b2 : -2048 ≤ a2 ∧ a2 ≤ 2047)  (tt : a0 ≤ -1 ∧ -524288 ≤ a0) (tl : a1 < 0) (n1 : ¬ (-2147483648 ≤ ((a0 * 4096 + a1) * 4096 + a2) ∧ ((a0 * 4096 + a1) * 4096 + a2) ≤ 2147483647)) (mx : -9223372036854775808 ≤ x ∧ x ≤ 9223372036854775807) (nt : True) (tp : -2147483648 ≤ (a0 * 4096 + a1) ∧ (a0 * 4096 + a1) ≤ 2147483647) : Good x := by
  by_cases u2 : a2 < 0
  · skip
    exact good_n0 hr x_b1n00 (A5 a0 a1 a2 0 0) (by simp only [nP, nC, nL, R64, inR, dv, vL, okL, aOk, exOk, A5, List.length_cons, List.length_nil, true_and, and_true]; omega)
  by_cases w2 : a2 = 0
  · skip
    exact good_n0 hr x_b1n01 (A5 a0 a1 a2 0 0) (by simp only [nP, nC, nL, R64, inR, dv, vL, okL, aOk, exOk, A5, List.length_cons, List.length_nil, true_and, and_true]; omega)
  exact good_n0 hr x_b1n02 (A5 a0 a1 a2 0 0) (by simp only [nP, nC, nL, R64, inR, dv, vL, okL, aOk, exOk, A5, List.length_cons, List.length_nil, true_and, and_true]; omega)
theorem t1_p1 (hr : RestOk) (x a0 a1 a2 : Int) (hx : x = (a0 * 4096 + a1) * 4096 + a2) (b1 : -2048 ≤ a1 ∧ a1 ≤ 2047) (b2 : -2048 ≤ a2 ∧ a2 ≤ 2047)  (tt : 1 ≤ a0 ∧ a0 ≤ 524287) (tl : a1 = 0) (n1 : ¬ (-2147483648 ≤ ((a0 * 4096 + a1) * 4096 + a2) ∧ ((a0 * 4096 + a1) * 4096 + a2) ≤ 2147483647)) (mx : -9223372036854775808 ≤ x ∧ x ≤ 9223372036854775807) (nt : True) (tp : -2147483648 ≤ (a0 * 4096 + a1) ∧ (a0 * 4096 + a1) ≤ 2147483647) : Good x := by
  by_cases u2 : a2 < 0
  · skip
    exact good_p1 hr x_b1p10 (A5 a0 a1 a2 0 0) (by simp only [nP, nC, nL, R64, inR, dv, vL, okL, aOk, exOk, A5, List.length_cons, List.length_nil, true_and, and_true]; omega)
  by_cases w2 : a2 = 0
  · skip
    exact good_p1 hr x_b1p11 (A5 a0 a1 a2 0 0) (by simp only [nP, nC, nL, R64, inR, dv, vL, okL, aOk, exOk, A5, List.length_cons, List.length_nil, true_and, and_true]; omega)
  exact good_p1 hr x_b1p12 (A5 a0 a1 a2 0 0) (by simp only [nP, nC, nL, R64, inR, dv, vL, okL, aOk, exOk, A5, List.length_cons, List.length_nil, true_and, and_true]; omega)
theorem t1_n1 (hr : RestOk) (x a0 a1 a2 : Int) (hx : x = (a0 * 4096 + a1) * 4096 + a2) (b1 : -2048 ≤ a1 ∧ a1 ≤ 2047) (b2 : -2048 ≤ a2 ∧ a2 ≤ 2047)  (tt : a0 ≤ -1 ∧ -524288 ≤ a0) (tl : a1 = 0) (n1 : ¬ (-2147483648 ≤ ((a0 * 4096 + a1) * 4096 + a2) ∧ ((a0 * 4096 + a1) * 4096 + a2) ≤ 2147483647)) (mx : -9223372036854775808 ≤ x ∧ x ≤ 9223372036854775807) (nt : True) (tp : -2147483648 ≤ (a0 * 4096 + a1) ∧ (a0 * 4096 + a1) ≤ 2147483647) : Good x := by
  by_cases u2 : a2 < 0
  · skip
    exact good_n1 hr x_b1n10 (A5 a0 a1 a2 0 0) (by simp only [nP, nC, nL, R64, inR, dv, vL, okL, aOk, exOk, A5, List.length_cons, List.length_nil, true_and, and_true]; omega)
  by_cases w2 : a2 = 0
  · skip
    exact good_n1 hr x_b1n11 (A5 a0 a1 a2 0 0) (by simp only [nP, nC, nL, R64, inR, dv, vL, okL, aOk, exOk, A5, List.length_cons, List.length_nil, true_and, and_true]; omega)
  exact good_n1 hr x_b1n12 (A5 a0 a1 a2 0 0) (by simp only [nP, nC, nL, R64, inR, dv, vL, okL, aOk, exOk, A5, List.length_cons, List.length_nil, true_and, and_true]; omega)
theorem t1_p2 (hr : RestOk) (x a0 a1 a2 : Int) (hx : x = (a0 * 4096 + a1) * 4096 + a2) (b1 : -2048 ≤ a1 ∧ a1 ≤ 2047) (b2 : -2048 ≤ a2 ∧ a2 ≤ 2047)  (tt : 1 ≤ a0 ∧ a0 ≤ 524287) (tl : 0 < a1) (n1 : ¬ (-2147483648 ≤ ((a0 * 4096 + a1) * 4096 + a2) ∧ ((a0 * 4096 + a1) * 4096 + a2) ≤ 2147483647)) (mx : -9223372036854775808 ≤ x ∧ x ≤ 9223372036854775807) (nt : True) (tp : -2147483648 ≤ (a0 * 4096 + a1) ∧ (a0 * 4096 + a1) ≤ 2147483647) : Good x := by
  by_cases u2 : a2 < 0
  · skip
    exact good_p2 hr x_b1p20 (A5 a0 a1 a2 0 0) (by simp only [nP, nC, nL, R64, inR, dv, vL, okL, aOk, exOk, A5, List.length_cons, List.length_nil, true_and, and_true]; omega)
  by_cases w2 : a2 = 0
  · skip
    exact good_p2 hr x_b1p21 (A5 a0 a1 a2 0 0) (by simp only [nP, nC, nL, R64, inR, dv, vL, okL, aOk, exOk, A5, List.length_cons, List.length_nil, true_and, and_true]; omega)
  exact good_p2 hr x_b1p22 (A5 a0 a1 a2 0 0) (by simp only [nP, nC, nL, R64, inR, dv, vL, okL, aOk, exOk, A5, List.length_cons, List.length_nil, true_and, and_true]; omega)
theorem t1_n2 (hr : RestOk) (x a0 a1 a2 : Int) (hx : x = (a0 * 4096 + a1) * 4096 + a2) (b1 : -2048 ≤ a1 ∧ a1 ≤ 2047) (b2 : -2048 ≤ a2 ∧ a2 ≤ 2047)  (tt : a0 ≤ -1 ∧ -524288 ≤ a0) (tl : 0 < a1) (n1 : ¬ (-2147483648 ≤ ((a0 * 4096 + a1) * 4096 + a2) ∧ ((a0 * 4096 + a1) * 4096 + a2) ≤ 2147483647)) (mx : -9223372036854775808 ≤ x ∧ x ≤ 9223372036854775807) (nt : True) (tp : -2147483648 ≤ (a0 * 4096 + a1) ∧ (a0 * 4096 + a1) ≤ 2147483647) : Good x := by
  by_cases u2 : a2 < 0
  · skip
    exact good_n2 hr x_b1n20 (A5 a0 a1 a2 0 0) (by simp only [nP, nC, nL, R64, inR, dv, vL, okL, aOk, exOk, A5, List.length_cons, List.length_nil, true_and, and_true]; omega)
  by_cases w2 : a2 = 0
  · skip
    exact good_n2 hr x_b1n21 (A5 a0 a1 a2 0 0) (by simp only [nP, nC, nL, R64, inR, dv, vL, okL, aOk, exOk, A5, List.length_cons, List.length_nil, true_and, and_true]; omega)
  exact good_n2 hr x_b1n22 (A5 a0 a1 a2 0 0) (by simp only [nP, nC, nL, R64, inR, dv, vL, okL, aOk, exOk, A5, List.length_cons, List.length_nil, true_and, and_true]; omega)
theorem t1_c (hr : RestOk) (x a0 a1 a2 : Int) (hx : x = (a0 * 4096 + a1) * 4096 + a2) (b1 : -2048 ≤ a1 ∧ a1 ≤ 2047) (b2 : -2048 ≤ a2 ∧ a2 ≤ 2047)  (tt : a0 = 524288) (tl : a1 < 0) (n1 : ¬ (-2147483648 ≤ ((a0 * 4096 + a1) * 4096 + a2) ∧ ((a0 * 4096 + a1) * 4096 + a2) ≤ 2147483647)) (mx : -9223372036854775808 ≤ x ∧ x ≤ 9223372036854775807) (nt : True) (tp : -2147483648 ≤ (a0 * 4096 + a1) ∧ (a0 * 4096 + a1) ≤ 2147483647) : Good x := by
  by_cases u2 : a2 < 0
  · skip
    exact good_c hr x_b1c0 (A5 a0 a1 a2 0 0) (by simp only [nP, nC, nL, R64, inR, dv, vL, okL, aOk, exOk, A5, List.length_cons, List.length_nil, true_and, and_true]; omega)
  by_cases w2 : a2 = 0
  · skip
    exact good_c hr x_b1c1 (A5 a0 a1 a2 0 0) (by simp only [nP, nC, nL, R64, inR, dv, vL, okL, aOk, exOk, A5, List.length_cons, List.length_nil, true_and, and_true]; omega)
  exact good_c hr x_b1c2 (A5 a0 a1 a2 0 0) (by simp only [nP, nC, nL, R64, inR, dv, vL, okL, aOk, exOk, A5, List.length_cons, List.length_nil, true_and, and_true]; omega)
theorem cc1 (hr : RestOk) (x a0 a1 a2 : Int) (hx : x = (a0 * 4096 + a1) * 4096 + a2) (b1 : -2048 ≤ a1 ∧ a1 ≤ 2047) (b2 : -2048 ≤ a2 ∧ a2 ≤ 2047)  (n1 : ¬ (-2147483648 ≤ ((a0 * 4096 + a1) * 4096 + a2) ∧ ((a0 * 4096 + a1) * 4096 + a2) ≤ 2147483647)) (mx : -9223372036854775808 ≤ x ∧ x ≤ 9223372036854775807) (nt : True) (tp : -2147483648 ≤ (a0 * 4096 + a1) ∧ (a0 * 4096 + a1) ≤ 2147483647) : Good x := by
  by_cases e1 : a0 = 524288
  · exact t1_c hr x a0 a1 a2 hx b1 b2 (by omega) (by omega) n1 mx nt tp
  by_cases e4 : 0 < a0
  · by_cases e2 : a1 = 0
    · exact t1_p1 hr x a0 a1 a2 hx b1 b2 (by omega) (by omega) n1 mx nt tp
    by_cases e5 : a1 < 0
    · exact t1_p0 hr x a0 a1 a2 hx b1 b2 (by omega) (by omega) n1 mx nt tp
    · exact t1_p2 hr x a0 a1 a2 hx b1 b2 (by omega) (by omega) n1 mx nt tp
  · by_cases e2 : a1 = 0
    · exact t1_n1 hr x a0 a1 a2 hx b1 b2 (by omega) (by omega) n1 mx nt tp
    by_cases e5 : a1 < 0
    · exact t1_n0 hr x a0 a1 a2 hx b1 b2 (by omega) (by omega) n1 mx nt tp
    · exact t1_n2 hr x a0 a1 a2 hx b1 b2 (by omega) (by omega) n1 mx nt tp
theorem t2_p0 (hr : RestOk) (x a0 a1 a2 a3 : Int) (hx : x = ((a0 * 4096 + a1) * 4096 + a2) * 4096 + a3) (b1 : -2048 ≤ a1 ∧ a1 ≤ 2047) (b2 : -2048 ≤ a2 ∧ a2 ≤ 2047) (b3 : -2048 ≤ a3 ∧ a3 ≤ 2047)  (tt : 1 ≤ a0 ∧ a0 ≤ 524287) (tl : a1 < 0) (n2 : ¬ (-2147483648 ≤ (((a0 * 4096 + a1) * 4096 + a2) * 4096 + a3) ∧ (((a0 * 4096 + a1) * 4096 + a2) * 4096 + a3) ≤ 2147483647)) (n1 : ¬ (-2147483648 ≤ ((a0 * 4096 + a1) * 4096 + a2) ∧ ((a0 * 4096 + a1) * 4096 + a2) ≤ 2147483647)) (mx : -9223372036854775808 ≤ x ∧ x ≤ 9223372036854775807) (nt : True) (tp : -2147483648 ≤ (a0 * 4096 + a1) ∧ (a0 * 4096 + a1) ≤ 2147483647) : Good x := by
  by_cases u2 : a2 < 0
  · skip
    by_cases u3 : a3 < 0
    · skip
      exact good_p0 hr x_b2p000 (A5 a0 a1 a2 a3 0) (by simp only [nP, nC, nL, R64, inR, dv, vL, okL, aOk, exOk, A5, List.length_cons, List.length_nil, true_and, and_true]; omega)
    by_cases w3 : a3 = 0
    · skip
      exact good_p0 hr x_b2p001 (A5 a0 a1 a2 a3 0) (by simp only [nP, nC, nL, R64, inR, dv, vL, okL, aOk, exOk, A5, List.length_cons, List.length_nil, true_and, and_true]; omega)
    exact good_p0 hr x_b2p002 (A5 a0 a1 a2 a3 0) (by simp only [nP, nC, nL, R64, inR, dv, vL, okL, aOk, exOk, A5, List.length_cons, List.length_nil, true_and, and_true]; omega)
  by_cases w2 : a2 = 0
  · skip
    by_cases u3 : a3 < 0
    · skip
      exact good_p0 hr x_b2p010 (A5 a0 a1 a2 a3 0) (by simp only [nP, nC, nL, R64, inR, dv, vL, okL, aOk, exOk, A5, List.length_cons, List.length_nil, true_and, and_true]; omega)
    by_cases w3 : a3 = 0
    · skip
      exact good_p0 hr x_b2p011 (A5 a0 a1 a2 a3 0) (by simp only [nP, nC, nL, R64, inR, dv, vL, okL, aOk, exOk, A5, List.length_cons, List.length_nil, true_and, and_true]; omega)
    exact good_p0 hr x_b2p012 (A5 a0 a1 a2 a3 0) (by simp only [nP, nC, nL, R64, inR, dv, vL, okL, aOk, exOk, A5, List.length_cons, List.length_nil, true_and, and_true]; omega)
  by_cases u3 : a3 < 0
  · skip
    exact good_p0 hr x_b2p020 (A5 a0 a1 a2 a3 0) (by simp only [nP, nC, nL, R64, inR, dv, vL, okL, aOk, exOk, A5, List.length_cons, List.length_nil, true_and, and_true]; omega)
  by_cases w3 : a3 = 0
  · skip
    exact good_p0 hr x_b2p021 (A5 a0 a1 a2 a3 0) (by simp only [nP, nC, nL, R64, inR, dv, vL, okL, aOk, exOk, A5, List.length_cons, List.length_nil, true_and, and_true]; omega)
  exact good_p0 hr x_b2p022 (A5 a0 a1 a2 a3 0) (by simp only [nP, nC, nL, R64, inR, dv, vL, okL, aOk, exOk, A5, List.length_cons, List.length_nil, true_and, and_true]; omega)
theorem t2_n0 (hr : RestOk) (x a0 a1 a2 a3 : Int) (hx : x = ((a0 * 4096 + a1) * 4096 + a2) * 4096 + a3) (b1 : -2048 ≤ a1 ∧ a1 ≤ 2047) (b2 : -2048 ≤ a2 ∧ a2 ≤ 2047) (b3 : -2048 ≤ a3 ∧ a3 ≤ 2047)  (tt : a0 ≤ -1 ∧ -524288 ≤ a0) (tl : a1 < 0) (n2 : ¬ (-2147483648 ≤ (((a0 * 4096 + a1) * 4096 + a2) * 4096 + a3) ∧ (((a0 * 4096 + a1) * 4096 + a2) * 4096 + a3) ≤ 2147483647)) (n1 : ¬ (-2147483648 ≤ ((a0 * 4096 + a1) * 4096 + a2) ∧ ((a0 * 4096 + a1) * 4096 + a2) ≤ 2147483647)) (mx : -9223372036854775808 ≤ x ∧ x ≤ 9223372036854775807) (nt : True) (tp : -2147483648 ≤ (a0 * 4096 + a1) ∧ (a0 * 4096 + a1) ≤ 2147483647) : Good x := by
  by_cases u2 : a2 < 0
  · skip
    by_cases u3 : a3 < 0
    · skip
      exact good_n0 hr x_b2n000 (A5 a0 a1 a2 a3 0) (by simp only [nP, nC, nL, R64, inR, dv, vL, okL, aOk, exOk, A5, List.length_cons, List.length_nil, true_and, and_true]; omega)
    by_cases w3 : a3 = 0
    · skip
      exact good_n0 hr x_b2n001 (A5 a0 a1 a2 a3 0) (by simp only [nP, nC, nL, R64, inR, dv, vL, okL, aOk, exOk, A5, List.length_cons, List.length_nil, true_and, and_true]; omega)
    exact good_n0 hr x_b2n002 (A5 a0 a1 a2 a3 0) (by simp only [nP, nC, nL, R64, inR, dv, vL, okL, aOk, exOk, A5, List.length_cons, List.length_nil, true_and, and_true]; omega)
  by_cases w2 : a2 = 0
  · skip
    by_cases u3 : a3 < 0
    · skip
      exact good_n0 hr x_b2n010 (A5 a0 a1 a2 a3 0) (by simp only [nP, nC, nL, R64, inR, dv, vL, okL, aOk, exOk, A5, List.length_cons, List.length_nil, true_and, and_true]; omega)
    by_cases w3 : a3 = 0
    · skip
      exact good_n0 hr x_b2n011 (A5 a0 a1 a2 a3 0) (by simp only [nP, nC, nL, R64, inR, dv, vL, okL, aOk, exOk, A5, List.length_cons, List.length_nil, true_and, and_true]; omega)
    exact good_n0 hr x_b2n012 (A5 a0 a1 a2 a3 0) (by simp only [nP, nC, nL, R64, inR, dv, vL, okL, aOk, exOk, A5, List.length_cons, List.length_nil, true_and, and_true]; omega)
  by_cases u3 : a3 < 0
  · skip
    exact good_n0 hr x_b2n020 (A5 a0 a1 a2 a3 0) (by simp only [nP, nC, nL, R64, inR, dv, vL, okL, aOk, exOk, A5, List.length_cons, List.length_nil, true_and, and_true]; omega)
  by_cases w3 : a3 = 0
  · skip
    exact good_n0 hr x_b2n021 (A5 a0 a1 a2 a3 0) (by simp only [nP, nC, nL, R64, inR, dv, vL, okL, aOk, exOk, A5, List.length_cons, List.length_nil, true_and, and_true]; omega)
  exact good_n0 hr x_b2n022 (A5 a0 a1 a2 a3 0) (by simp only [nP, nC, nL, R64, inR, dv, vL, okL, aOk, exOk, A5, List.length_cons, List.length_nil, true_and, and_true]; omega)
theorem t2_p1 (hr : RestOk) (x a0 a1 a2 a3 : Int) (hx : x = ((a0 * 4096 + a1) * 4096 + a2) * 4096 + a3) (b1 : -2048 ≤ a1 ∧ a1 ≤ 2047) (b2 : -2048 ≤ a2 ∧ a2 ≤ 2047) (b3 : -2048 ≤ a3 ∧ a3 ≤ 2047)  (tt : 1 ≤ a0 ∧ a0 ≤ 524287) (tl : a1 = 0) (n2 : ¬ (-2147483648 ≤ (((a0 * 4096 + a1) * 4096 + a2) * 4096 + a3) ∧ (((a0 * 4096 + a1) * 4096 + a2) * 4096 + a3) ≤ 2147483647)) (n1 : ¬ (-2147483648 ≤ ((a0 * 4096 + a1) * 4096 + a2) ∧ ((a0 * 4096 + a1) * 4096 + a2) ≤ 2147483647)) (mx : -9223372036854775808 ≤ x ∧ x ≤ 9223372036854775807) (nt : True) (tp : -2147483648 ≤ (a0 * 4096 + a1) ∧ (a0 * 4096 + a1) ≤ 2147483647) : Good x := by
  by_cases u2 : a2 < 0
  · skip
    by_cases u3 : a3 < 0
    · skip
      exact good_p1 hr x_b2p100 (A5 a0 a1 a2 a3 0) (by simp only [nP, nC, nL, R64, inR, dv, vL, okL, aOk, exOk, A5, List.length_cons, List.length_nil, true_and, and_true]; omega)
    by_cases w3 : a3 = 0
    · skip
      exact good_p1 hr x_b2p101 (A5 a0 a1 a2 a3 0) (by simp only [nP, nC, nL, R64, inR, dv, vL, okL, aOk, exOk, A5, List.length_cons, List.length_nil, true_and, and_true]; omega)
    exact good_p1 hr x_b2p102 (A5 a0 a1 a2 a3 0) (by simp only [nP, nC, nL, R64, inR, dv, vL, okL, aOk, exOk, A5, List.length_cons, List.length_nil, true_and, and_true]; omega)
  by_cases w2 : a2 = 0
  · skip
    by_cases u3 : a3 < 0
    · skip
      exact good_p1 hr x_b2p110 (A5 a0 a1 a2 a3 0) (by simp only [nP, nC, nL, R64, inR, dv, vL, okL, aOk, exOk, A5, List.length_cons, List.length_nil, true_and, and_true]; omega)
    by_cases w3 : a3 = 0
    · skip
      exact good_p1 hr x_b2p111 (A5 a0 a1 a2 a3 0) (by simp only [nP, nC, nL, R64, inR, dv, vL, okL, aOk, exOk, A5, List.length_cons, List.length_nil, true_and, and_true]; omega)
    exact good_p1 hr x_b2p112 (A5 a0 a1 a2 a3 0) (by simp only [nP, nC, nL, R64, inR, dv, vL, okL, aOk, exOk, A5, List.length_cons, List.length_nil, true_and, and_true]; omega)
  by_cases u3 : a3 < 0
  · skip
    exact good_p1 hr x_b2p120 (A5 a0 a1 a2 a3 0) (by simp only [nP, nC, nL, R64, inR, dv, vL, okL, aOk, exOk, A5, List.length_cons, List.length_nil, true_and, and_true]; omega)
  by_cases w3 : a3 = 0
  · skip
    exact good_p1 hr x_b2p121 (A5 a0 a1 a2 a3 0) (by simp only [nP, nC, nL, R64, inR, dv, vL, okL, aOk, exOk, A5, List.length_cons, List.length_nil, true_and, and_true]; omega)
  exact good_p1 hr x_b2p122 (A5 a0 a1 a2 a3 0) (by simp only [nP, nC, nL, R64, inR, dv, vL, okL, aOk, exOk, A5, List.length_cons, List.length_nil, true_and, and_true]; omega)
theorem t2_n1 (hr : RestOk) (x a0 a1 a2 a3 : Int) (hx : x = ((a0 * 4096 + a1) * 4096 + a2) * 4096 + a3) (b1 : -2048 ≤ a1 ∧ a1 ≤ 2047) (b2 : -2048 ≤ a2 ∧ a2 ≤ 2047) (b3 : -2048 ≤ a3 ∧ a3 ≤ 2047)  (tt : a0 ≤ -1 ∧ -524288 ≤ a0) (tl : a1 = 0) (n2 : ¬ (-2147483648 ≤ (((a0 * 4096 + a1) * 4096 + a2) * 4096 + a3) ∧ (((a0 * 4096 + a1) * 4096 + a2) * 4096 + a3) ≤ 2147483647)) (n1 : ¬ (-2147483648 ≤ ((a0 * 4096 + a1) * 4096 + a2) ∧ ((a0 * 4096 + a1) * 4096 + a2) ≤ 2147483647)) (mx : -9223372036854775808 ≤ x ∧ x ≤ 9223372036854775807) (nt : True) (tp : -2147483648 ≤ (a0 * 4096 + a1) ∧ (a0 * 4096 + a1) ≤ 2147483647) : Good x := by
  by_cases u2 : a2 < 0
  · skip
    by_cases u3 : a3 < 0
    · skip
      exact good_n1 hr x_b2n100 (A5 a0 a1 a2 a3 0) (by simp only [nP, nC, nL, R64, inR, dv, vL, okL, aOk, exOk, A5, List.length_cons, List.length_nil, true_and, and_true]; omega)
    by_cases w3 : a3 = 0
    · skip
      exact good_n1 hr x_b2n101 (A5 a0 a1 a2 a3 0) (by simp only [nP, nC, nL, R64, inR, dv, vL, okL, aOk, exOk, A5, List.length_cons, List.length_nil, true_and, and_true]; omega)
    exact good_n1 hr x_b2n102 (A5 a0 a1 a2 a3 0) (by simp only [nP, nC, nL, R64, inR, dv, vL, okL, aOk, exOk, A5, List.length_cons, List.length_nil, true_and, and_true]; omega)
  by_cases w2 : a2 = 0
  · skip
    by_cases u3 : a3 < 0
    · skip
      exact good_n1 hr x_b2n110 (A5 a0 a1 a2 a3 0) (by simp only [nP, nC, nL, R64, inR, dv, vL, okL, aOk, exOk, A5, List.length_cons, List.length_nil, true_and, and_true]; omega)
    by_cases w3 : a3 = 0
    · skip
      exact good_n1 hr x_b2n111 (A5 a0 a1 a2 a3 0) (by simp only [nP, nC, nL, R64, inR, dv, vL, okL, aOk, exOk, A5, List.length_cons, List.length_nil, true_and, and_true]; omega)
    exact good_n1 hr x_b2n112 (A5 a0 a1 a2 a3 0) (by simp only [nP, nC, nL, R64, inR, dv, vL, okL, aOk, exOk, A5, List.length_cons, List.length_nil, true_and, and_true]; omega)
  by_cases u3 : a3 < 0
  · skip
    exact good_n1 hr x_b2n120 (A5 a0 a1 a2 a3 0) (by simp only [nP, nC, nL, R64, inR, dv, vL, okL, aOk, exOk, A5, List.length_cons, List.length_nil, true_and, and_true]; omega)
  by_cases w3 : a3 = 0
  · skip
    exact good_n1 hr x_b2n121 (A5 a0 a1 a2 a3 0) (by simp only [nP, nC, nL, R64, inR, dv, vL, okL, aOk, exOk, A5, List.length_cons, List.length_nil, true_and, and_true]; omega)
  exact good_n1 hr x_b2n122 (A5 a0 a1 a2 a3 0) (by simp only [nP, nC, nL, R64, inR, dv, vL, okL, aOk, exOk, A5, List.length_cons, List.length_nil, true_and, and_true]; omega)
theorem t2_p2 (hr : RestOk) (x a0 a1 a2 a3 : Int) (hx : x = ((a0 * 4096 + a1) * 4096 + a2) * 4096 + a3) (b1 : -2048 ≤ a1 ∧ a1 ≤ 2047) (b2 : -2048 ≤ a2 ∧ a2 ≤ 2047) (b3 : -2048 ≤ a3 ∧ a3 ≤ 2047)  (tt : 1 ≤ a0 ∧ a0 ≤ 524287) (tl : 0 < a1) (n2 : ¬ (-2147483648 ≤ (((a0 * 4096 + a1) * 4096 + a2) * 4096 + a3) ∧ (((a0 * 4096 + a1) * 4096 + a2) * 4096 + a3) ≤ 2147483647)) (n1 : ¬ (-2147483648 ≤ ((a0 * 4096 + a1) * 4096 + a2) ∧ ((a0 * 4096 + a1) * 4096 + a2) ≤ 2147483647)) (mx : -9223372036854775808 ≤ x ∧ x ≤ 9223372036854775807) (nt : True) (tp : -2147483648 ≤ (a0 * 4096 + a1) ∧ (a0 * 4096 + a1) ≤ 2147483647) : Good x := by
  by_cases u2 : a2 < 0
  · skip
    by_cases u3 : a3 < 0
    · skip
      exact good_p2 hr x_b2p200 (A5 a0 a1 a2 a3 0) (by simp only [nP, nC, nL, R64, inR, dv, vL, okL, aOk, exOk, A5, List.length_cons, List.length_nil, true_and, and_true]; omega)
    by_cases w3 : a3 = 0
    · skip
      exact good_p2 hr x_b2p201 (A5 a0 a1 a2 a3 0) (by simp only [nP, nC, nL, R64, inR, dv, vL, okL, aOk, exOk, A5, List.length_cons, List.length_nil, true_and, and_true]; omega)
    exact good_p2 hr x_b2p202 (A5 a0 a1 a2 a3 0) (by simp only [nP, nC, nL, R64, inR, dv, vL, okL, aOk, exOk, A5, List.length_cons, List.length_nil, true_and, and_true]; omega)
  by_cases w2 : a2 = 0
  · skip
    by_cases u3 : a3 < 0
    · skip
      exact good_p2 hr x_b2p210 (A5 a0 a1 a2 a3 0) (by simp only [nP, nC, nL, R64, inR, dv, vL, okL, aOk, exOk, A5, List.length_cons, List.length_nil, true_and, and_true]; omega)
    by_cases w3 : a3 = 0
    · skip
      exact good_p2 hr x_b2p211 (A5 a0 a1 a2 a3 0) (by simp only [nP, nC, nL, R64, inR, dv, vL, okL, aOk, exOk, A5, List.length_cons, List.length_nil, true_and, and_true]; omega)
    exact good_p2 hr x_b2p212 (A5 a0 a1 a2 a3 0) (by simp only [nP, nC, nL, R64, inR, dv, vL, okL, aOk, exOk, A5, List.length_cons, List.length_nil, true_and, and_true]; omega)
  by_cases u3 : a3 < 0
  · skip
    exact good_p2 hr x_b2p220 (A5 a0 a1 a2 a3 0) (by simp only [nP, nC, nL, R64, inR, dv, vL, okL, aOk, exOk, A5, List.length_cons, List.length_nil, true_and, and_true]; omega)
  by_cases w3 : a3 = 0
  · skip
    exact good_p2 hr x_b2p221 (A5 a0 a1 a2 a3 0) (by simp only [nP, nC, nL, R64, inR, dv, vL, okL, aOk, exOk, A5, List.length_cons, List.length_nil, true_and, and_true]; omega)
  exact good_p2 hr x_b2p222 (A5 a0 a1 a2 a3 0) (by simp only [nP, nC, nL, R64, inR, dv, vL, okL, aOk, exOk, A5, List.length_cons, List.length_nil, true_and, and_true]; omega)
theorem t2_n2 (hr : RestOk) (x a0 a1 a2 a3 : Int) (hx : x = ((a0 * 4096 + a1) * 4096 + a2) * 4096 + a3) (b1 : -2048 ≤ a1 ∧ a1 ≤ 2047) (b2 : -2048 ≤ a2 ∧ a2 ≤ 2047) (b3 : -2048 ≤ a3 ∧ a3 ≤ 2047)  (tt : a0 ≤ -1 ∧ -524288 ≤ a0) (tl : 0 < a1) (n2 : ¬ (-2147483648 ≤ (((a0 * 4096 + a1) * 4096 + a2) * 4096 + a3) ∧ (((a0 * 4096 + a1) * 4096 + a2) * 4096 + a3) ≤ 2147483647)) (n1 : ¬ (-2147483648 ≤ ((a0 * 4096 + a1) * 4096 + a2) ∧ ((a0 * 4096 + a1) * 4096 + a2) ≤ 2147483647)) (mx : -9223372036854775808 ≤ x ∧ x ≤ 9223372036854775807) (nt : True) (tp : -2147483648 ≤ (a0 * 4096 + a1) ∧ (a0 * 4096 + a1) ≤ 2147483647) : Good x := by
  by_cases u2 : a2 < 0
  · skip
    by_cases u3 : a3 < 0
    · skip
      exact good_n2 hr x_b2n200 (A5 a0 a1 a2 a3 0) (by simp only [nP, nC, nL, R64, inR, dv, vL, okL, aOk, exOk, A5, List.length_cons, List.length_nil, true_and, and_true]; omega)
    by_cases w3 : a3 = 0
    · skip
      exact good_n2 hr x_b2n201 (A5 a0 a1 a2 a3 0) (by simp only [nP, nC, nL, R64, inR, dv, vL, okL, aOk, exOk, A5, List.length_cons, List.length_nil, true_and, and_true]; omega)
    exact good_n2 hr x_b2n202 (A5 a0 a1 a2 a3 0) (by simp only [nP, nC, nL, R64, inR, dv, vL, okL, aOk, exOk, A5, List.length_cons, List.length_nil, true_and, and_true]; omega)
  by_cases w2 : a2 = 0
  · skip
    by_cases u3 : a3 < 0
    · skip
      exact good_n2 hr x_b2n210 (A5 a0 a1 a2 a3 0) (by simp only [nP, nC, nL, R64, inR, dv, vL, okL, aOk, exOk, A5, List.length_cons, List.length_nil, true_and, and_true]; omega)
    by_cases w3 : a3 = 0
    · skip
      exact good_n2 hr x_b2n211 (A5 a0 a1 a2 a3 0) (by simp only [nP, nC, nL, R64, inR, dv, vL, okL, aOk, exOk, A5, List.length_cons, List.length_nil, true_and, and_true]; omega)
    exact good_n2 hr x_b2n212 (A5 a0 a1 a2 a3 0) (by simp only [nP, nC, nL, R64, inR, dv, vL, okL, aOk, exOk, A5, List.length_cons, List.length_nil, true_and, and_true]; omega)
  by_cases u3 : a3 < 0
  · skip
    exact good_n2 hr x_b2n220 (A5 a0 a1 a2 a3 0) (by simp only [nP, nC, nL, R64, inR, dv, vL, okL, aOk, exOk, A5, List.length_cons, List.length_nil, true_and, and_true]; omega)
  by_cases w3 : a3 = 0
  · skip
    exact good_n2 hr x_b2n221 (A5 a0 a1 a2 a3 0) (by simp only [nP, nC, nL, R64, inR, dv, vL, okL, aOk, exOk, A5, List.length_cons, List.length_nil, true_and, and_true]; omega)
  exact good_n2 hr x_b2n222 (A5 a0 a1 a2 a3 0) (by simp only [nP, nC, nL, R64, inR, dv, vL, okL, aOk, exOk, A5, List.length_cons, List.length_nil, true_and, and_true]; omega)
theorem t2_c (hr : RestOk) (x a0 a1 a2 a3 : Int) (hx : x = ((a0 * 4096 + a1) * 4096 + a2) * 4096 + a3) (b1 : -2048 ≤ a1 ∧ a1 ≤ 2047) (b2 : -2048 ≤ a2 ∧ a2 ≤ 2047) (b3 : -2048 ≤ a3 ∧ a3 ≤ 2047)  (tt : a0 = 524288) (tl : a1 < 0) (n2 : ¬ (-2147483648 ≤ (((a0 * 4096 + a1) * 4096 + a2) * 4096 + a3) ∧ (((a0 * 4096 + a1) * 4096 + a2) * 4096 + a3) ≤ 2147483647)) (n1 : ¬ (-2147483648 ≤ ((a0 * 4096 + a1) * 4096 + a2) ∧ ((a0 * 4096 + a1) * 4096 + a2) ≤ 2147483647)) (mx : -9223372036854775808 ≤ x ∧ x ≤ 9223372036854775807) (nt : True) (tp : -2147483648 ≤ (a0 * 4096 + a1) ∧ (a0 * 4096 + a1) ≤ 2147483647) : Good x := by
  by_cases u2 : a2 < 0
  · skip
    by_cases u3 : a3 < 0
    · skip
      exact good_c hr x_b2c00 (A5 a0 a1 a2 a3 0) (by simp only [nP, nC, nL, R64, inR, dv, vL, okL, aOk, exOk, A5, List.length_cons, List.length_nil, true_and, and_true]; omega)
    by_cases w3 : a3 = 0
    · skip
      exact good_c hr x_b2c01 (A5 a0 a1 a2 a3 0) (by simp only [nP, nC, nL, R64, inR, dv, vL, okL, aOk, exOk, A5, List.length_cons, List.length_nil, true_and, and_true]; omega)
    exact good_c hr x_b2c02 (A5 a0 a1 a2 a3 0) (by simp only [nP, nC, nL, R64, inR, dv, vL, okL, aOk, exOk, A5, List.length_cons, List.length_nil, true_and, and_true]; omega)
  by_cases w2 : a2 = 0
  · skip
    by_cases u3 : a3 < 0
    · skip
      exact good_c hr x_b2c10 (A5 a0 a1 a2 a3 0) (by simp only [nP, nC, nL, R64, inR, dv, vL, okL, aOk, exOk, A5, List.length_cons, List.length_nil, true_and, and_true]; omega)
    by_cases w3 : a3 = 0
    · skip
      exact good_c hr x_b2c11 (A5 a0 a1 a2 a3 0) (by simp only [nP, nC, nL, R64, inR, dv, vL, okL, aOk, exOk, A5, List.length_cons, List.length_nil, true_and, and_true]; omega)
    exact good_c hr x_b2c12 (A5 a0 a1 a2 a3 0) (by simp only [nP, nC, nL, R64, inR, dv, vL, okL, aOk, exOk, A5, List.length_cons, List.length_nil, true_and, and_true]; omega)
  by_cases u3 : a3 < 0
  · skip
    exact good_c hr x_b2c20 (A5 a0 a1 a2 a3 0) (by simp only [nP, nC, nL, R64, inR, dv, vL, okL, aOk, exOk, A5, List.length_cons, List.length_nil, true_and, and_true]; omega)
  by_cases w3 : a3 = 0
  · skip
    exact good_c hr x_b2c21 (A5 a0 a1 a2 a3 0) (by simp only [nP, nC, nL, R64, inR, dv, vL, okL, aOk, exOk, A5, List.length_cons, List.length_nil, true_and, and_true]; omega)
  exact good_c hr x_b2c22 (A5 a0 a1 a2 a3 0) (by simp only [nP, nC, nL, R64, inR, dv, vL, okL, aOk, exOk, A5, List.length_cons, List.length_nil, true_and, and_true]; omega)
theorem cc2 (hr : RestOk) (x a0 a1 a2 a3 : Int) (hx : x = ((a0 * 4096 + a1) * 4096 + a2) * 4096 + a3) (b1 : -2048 ≤ a1 ∧ a1 ≤ 2047) (b2 : -2048 ≤ a2 ∧ a2 ≤ 2047) (b3 : -2048 ≤ a3 ∧ a3 ≤ 2047)  (n2 : ¬ (-2147483648 ≤ (((a0 * 4096 + a1) * 4096 + a2) * 4096 + a3) ∧ (((a0 * 4096 + a1) * 4096 + a2) * 4096 + a3) ≤ 2147483647)) (n1 : ¬ (-2147483648 ≤ ((a0 * 4096 + a1) * 4096 + a2) ∧ ((a0 * 4096 + a1) * 4096 + a2) ≤ 2147483647)) (mx : -9223372036854775808 ≤ x ∧ x ≤ 9223372036854775807) (nt : True) (tp : -2147483648 ≤ (a0 * 4096 + a1) ∧ (a0 * 4096 + a1) ≤ 2147483647) : Good x := by
  by_cases e1 : a0 = 524288
  · exact t2_c hr x a0 a1 a2 a3 hx b1 b2 b3 (by omega) (by omega) n2 n1 mx nt tp
  by_cases e4 : 0 < a0
  · by_cases e2 : a1 = 0
    · exact t2_p1 hr x a0 a1 a2 a3 hx b1 b2 b3 (by omega) (by omega) n2 n1 mx nt tp
    by_cases e5 : a1 < 0
    · exact t2_p0 hr x a0 a1 a2 a3 hx b1 b2 b3 (by omega) (by omega) n2 n1 mx nt tp
    · exact t2_p2 hr x a0 a1 a2 a3 hx b1 b2 b3 (by omega) (by omega) n2 n1 mx nt tp
  · by_cases e2 : a1 = 0
    · exact t2_n1 hr x a0 a1 a2 a3 hx b1 b2 b3 (by omega) (by omega) n2 n1 mx nt tp
    by_cases e5 : a1 < 0
    · exact t2_n0 hr x a0 a1 a2 a3 hx b1 b2 b3 (by omega) (by omega) n2 n1 mx nt tp
    · exact t2_n2 hr x a0 a1 a2 a3 hx b1 b2 b3 (by omega) (by omega) n2 n1 mx nt tp
theorem t3_p0 (hr : RestOk) (x a0 a1 a2 a3 a4 : Int) (hx : x = (((a0 * 4096 + a1) * 4096 + a2) * 4096 + a3) * 4096 + a4) (b1 : -2048 ≤ a1 ∧ a1 ≤ 2047) (b2 : -2048 ≤ a2 ∧ a2 ≤ 2047) (b3 : -2048 ≤ a3 ∧ a3 ≤ 2047) (b4 : -2048 ≤ a4 ∧ a4 ≤ 2047)  (tt : 1 ≤ a0 ∧ a0 ≤ 32767) (tl : a1 < 0) (n3 : ¬ (-2147483648 ≤ ((((a0 * 4096 + a1) * 4096 + a2) * 4096 + a3) * 4096 + a4) ∧ ((((a0 * 4096 + a1) * 4096 + a2) * 4096 + a3) * 4096 + a4) ≤ 2147483647)) (n2 : ¬ (-2147483648 ≤ (((a0 * 4096 + a1) * 4096 + a2) * 4096 + a3) ∧ (((a0 * 4096 + a1) * 4096 + a2) * 4096 + a3) ≤ 2147483647)) (n1 : ¬ (-2147483648 ≤ ((a0 * 4096 + a1) * 4096 + a2) ∧ ((a0 * 4096 + a1) * 4096 + a2) ≤ 2147483647)) (mx : -9223372036854775808 ≤ x ∧ x ≤ 9223372036854775807) (nt : True) (tp : -2147483648 ≤ (a0 * 4096 + a1) ∧ (a0 * 4096 + a1) ≤ 2147483647) : Good x := by
  by_cases u2 : a2 < 0
  · skip
    by_cases u3 : a3 < 0
    · skip
      by_cases u4 : a4 < 0
      · skip
        exact good_p0 hr x_b3p0000 (A5 a0 a1 a2 a3 a4) (by simp only [nP, nC, nL, R64, inR, dv, vL, okL, aOk, exOk, A5, List.length_cons, List.length_nil, true_and, and_true]; omega)
      by_cases w4 : a4 = 0
      · skip
        exact good_p0 hr x_b3p0001 (A5 a0 a1 a2 a3 a4) (by simp only [nP, nC, nL, R64, inR, dv, vL, okL, aOk, exOk, A5, List.length_cons, List.length_nil, true_and, and_true]; omega)
      exact good_p0 hr x_b3p0002 (A5 a0 a1 a2 a3 a4) (by simp only [nP, nC, nL, R64, inR, dv, vL, okL, aOk, exOk, A5, List.length_cons, List.length_nil, true_and, and_true]; omega)
    by_cases w3 : a3 = 0
    · skip
      by_cases u4 : a4 < 0
      · skip
        exact good_p0 hr x_b3p0010 (A5 a0 a1 a2 a3 a4) (by simp only [nP, nC, nL, R64, inR, dv, vL, okL, aOk, exOk, A5, List.length_cons, List.length_nil, true_and, and_true]; omega)
      by_cases w4 : a4 = 0
      · skip
        exact good_p0 hr x_b3p0011 (A5 a0 a1 a2 a3 a4) (by simp only [nP, nC, nL, R64, inR, dv, vL, okL, aOk, exOk, A5, List.length_cons, List.length_nil, true_and, and_true]; omega)
      exact good_p0 hr x_b3p0012 (A5 a0 a1 a2 a3 a4) (by simp only [nP, nC, nL, R64, inR, dv, vL, okL, aOk, exOk, A5, List.length_cons, List.length_nil, true_and, and_true]; omega)
    by_cases u4 : a4 < 0
    · skip
      exact good_p0 hr x_b3p0020 (A5 a0 a1 a2 a3 a4) (by simp only [nP, nC, nL, R64, inR, dv, vL, okL, aOk, exOk, A5, List.length_cons, List.length_nil, true_and, and_true]; omega)
    by_cases w4 : a4 = 0
    · skip
      exact good_p0 hr x_b3p0021 (A5 a0 a1 a2 a3 a4) (by simp only [nP, nC, nL, R64, inR, dv, vL, okL, aOk, exOk, A5, List.length_cons, List.length_nil, true_and, and_true]; omega)
    exact good_p0 hr x_b3p0022 (A5 a0 a1 a2 a3 a4) (by simp only [nP, nC, nL, R64, inR, dv, vL, okL, aOk, exOk, A5, List.length_cons, List.length_nil, true_and, and_true]; omega)
  by_cases w2 : a2 = 0
  · skip
    by_cases u3 : a3 < 0
    · skip
      by_cases u4 : a4 < 0
      · skip
        exact good_p0 hr x_b3p0100 (A5 a0 a1 a2 a3 a4) (by simp only [nP, nC, nL, R64, inR, dv, vL, okL, aOk, exOk, A5, List.length_cons, List.length_nil, true_and, and_true]; omega)
      by_cases w4 : a4 = 0
      · skip
        exact good_p0 hr x_b3p0101 (A5 a0 a1 a2 a3 a4) (by simp only [nP, nC, nL, R64, inR, dv, vL, okL, aOk, exOk, A5, List.length_cons, List.length_nil, true_and, and_true]; omega)
      exact good_p0 hr x_b3p0102 (A5 a0 a1 a2 a3 a4) (by simp only [nP, nC, nL, R64, inR, dv, vL, okL, aOk, exOk, A5, List.length_cons, List.length_nil, true_and, and_true]; omega)
    by_cases w3 : a3 = 0
    · skip
      by_cases u4 : a4 < 0
      · skip
        exact good_p0 hr x_b3p0110 (A5 a0 a1 a2 a3 a4) (by simp only [nP, nC, nL, R64, inR, dv, vL, okL, aOk, exOk, A5, List.length_cons, List.length_nil, true_and, and_true]; omega)
      by_cases w4 : a4 = 0
      · skip
        exact good_p0 hr x_b3p0111 (A5 a0 a1 a2 a3 a4) (by simp only [nP, nC, nL, R64, inR, dv, vL, okL, aOk, exOk, A5, List.length_cons, List.length_nil, true_and, and_true]; omega)
      exact good_p0 hr x_b3p0112 (A5 a0 a1 a2 a3 a4) (by simp only [nP, nC, nL, R64, inR, dv, vL, okL, aOk, exOk, A5, List.length_cons, List.length_nil, true_and, and_true]; omega)
    by_cases u4 : a4 < 0
    · skip
      exact good_p0 hr x_b3p0120 (A5 a0 a1 a2 a3 a4) (by simp only [nP, nC, nL, R64, inR, dv, vL, okL, aOk, exOk, A5, List.length_cons, List.length_nil, true_and, and_true]; omega)
    by_cases w4 : a4 = 0
    · skip
      exact good_p0 hr x_b3p0121 (A5 a0 a1 a2 a3 a4) (by simp only [nP, nC, nL, R64, inR, dv, vL, okL, aOk, exOk, A5, List.length_cons, List.length_nil, true_and, and_true]; omega)
    exact good_p0 hr x_b3p0122 (A5 a0 a1 a2 a3 a4) (by simp only [nP, nC, nL, R64, inR, dv, vL, okL, aOk, exOk, A5, List.length_cons, List.length_nil, true_and, and_true]; omega)
  by_cases u3 : a3 < 0
  · skip
    by_cases u4 : a4 < 0
    · skip
      exact good_p0 hr x_b3p0200 (A5 a0 a1 a2 a3 a4) (by simp only [nP, nC, nL, R64, inR, dv, vL, okL, aOk, exOk, A5, List.length_cons, List.length_nil, true_and, and_true]; omega)
    by_cases w4 : a4 = 0
    · skip
      exact good_p0 hr x_b3p0201 (A5 a0 a1 a2 a3 a4) (by simp only [nP, nC, nL, R64, inR, dv, vL, okL, aOk, exOk, A5, List.length_cons, List.length_nil, true_and, and_true]; omega)
    exact good_p0 hr x_b3p0202 (A5 a0 a1 a2 a3 a4) (by simp only [nP, nC, nL, R64, inR, dv, vL, okL, aOk, exOk, A5, List.length_cons, List.length_nil, true_and, and_true]; omega)
  by_cases w3 : a3 = 0
  · skip
    by_cases u4 : a4 < 0
    · skip
      exact good_p0 hr x_b3p0210 (A5 a0 a1 a2 a3 a4) (by simp only [nP, nC, nL, R64, inR, dv, vL, okL, aOk, exOk, A5, List.length_cons, List.length_nil, true_and, and_true]; omega)
    by_cases w4 : a4 = 0
    · skip
      exact good_p0 hr x_b3p0211 (A5 a0 a1 a2 a3 a4) (by simp only [nP, nC, nL, R64, inR, dv, vL, okL, aOk, exOk, A5, List.length_cons, List.length_nil, true_and, and_true]; omega)
    exact good_p0 hr x_b3p0212 (A5 a0 a1 a2 a3 a4) (by simp only [nP, nC, nL, R64, inR, dv, vL, okL, aOk, exOk, A5, List.length_cons, List.length_nil, true_and, and_true]; omega)
  by_cases u4 : a4 < 0
  · skip
    exact good_p0 hr x_b3p0220 (A5 a0 a1 a2 a3 a4) (by simp only [nP, nC, nL, R64, inR, dv, vL, okL, aOk, exOk, A5, List.length_cons, List.length_nil, true_and, and_true]; omega)
  by_cases w4 : a4 = 0
  · skip
    exact good_p0 hr x_b3p0221 (A5 a0 a1 a2 a3 a4) (by simp only [nP, nC, nL, R64, inR, dv, vL, okL, aOk, exOk, A5, List.length_cons, List.length_nil, true_and, and_true]; omega)
  exact good_p0 hr x_b3p0222 (A5 a0 a1 a2 a3 a4) (by simp only [nP, nC, nL, R64, inR, dv, vL, okL, aOk, exOk, A5, List.length_cons, List.length_nil, true_and, and_true]; omega)
theorem t3_n0 (hr : RestOk) (x a0 a1 a2 a3 a4 : Int) (hx : x = (((a0 * 4096 + a1) * 4096 + a2) * 4096 + a3) * 4096 + a4) (b1 : -2048 ≤ a1 ∧ a1 ≤ 2047) (b2 : -2048 ≤ a2 ∧ a2 ≤ 2047) (b3 : -2048 ≤ a3 ∧ a3 ≤ 2047) (b4 : -2048 ≤ a4 ∧ a4 ≤ 2047)  (tt : a0 ≤ -1 ∧ -32767 ≤ a0) (tl : a1 < 0) (n3 : ¬ (-2147483648 ≤ ((((a0 * 4096 + a1) * 4096 + a2) * 4096 + a3) * 4096 + a4) ∧ ((((a0 * 4096 + a1) * 4096 + a2) * 4096 + a3) * 4096 + a4) ≤ 2147483647)) (n2 : ¬ (-2147483648 ≤ (((a0 * 4096 + a1) * 4096 + a2) * 4096 + a3) ∧ (((a0 * 4096 + a1) * 4096 + a2) * 4096 + a3) ≤ 2147483647)) (n1 : ¬ (-2147483648 ≤ ((a0 * 4096 + a1) * 4096 + a2) ∧ ((a0 * 4096 + a1) * 4096 + a2) ≤ 2147483647)) (mx : -9223372036854775808 ≤ x ∧ x ≤ 9223372036854775807) (nt : True) (tp : -2147483648 ≤ (a0 * 4096 + a1) ∧ (a0 * 4096 + a1) ≤ 2147483647) : Good x := by
  by_cases u2 : a2 < 0
  · skip
    by_cases u3 : a3 < 0
    · skip
      by_cases u4 : a4 < 0
      · skip
        exact good_n0 hr x_b3n0000 (A5 a0 a1 a2 a3 a4) (by simp only [nP, nC, nL, R64, inR, dv, vL, okL, aOk, exOk, A5, List.length_cons, List.length_nil, true_and, and_true]; omega)
      by_cases w4 : a4 = 0
      · skip
        exact good_n0 hr x_b3n0001 (A5 a0 a1 a2 a3 a4) (by simp only [nP, nC, nL, R64, inR, dv, vL, okL, aOk, exOk, A5, List.length_cons, List.length_nil, true_and, and_true]; omega)
      exact good_n0 hr x_b3n0002 (A5 a0 a1 a2 a3 a4) (by simp only [nP, nC, nL, R64, inR, dv, vL, okL, aOk, exOk, A5, List.length_cons, List.length_nil, true_and, and_true]; omega)
    by_cases w3 : a3 = 0
    · skip
      by_cases u4 : a4 < 0
      · skip
        exact good_n0 hr x_b3n0010 (A5 a0 a1 a2 a3 a4) (by simp only [nP, nC, nL, R64, inR, dv, vL, okL, aOk, exOk, A5, List.length_cons, List.length_nil, true_and, and_true]; omega)
      by_cases w4 : a4 = 0
      · skip
        exact good_n0 hr x_b3n0011 (A5 a0 a1 a2 a3 a4) (by simp only [nP, nC, nL, R64, inR, dv, vL, okL, aOk, exOk, A5, List.length_cons, List.length_nil, true_and, and_true]; omega)
      exact good_n0 hr x_b3n0012 (A5 a0 a1 a2 a3 a4) (by simp only [nP, nC, nL, R64, inR, dv, vL, okL, aOk, exOk, A5, List.length_cons, List.length_nil, true_and, and_true]; omega)
    by_cases u4 : a4 < 0
    · skip
      exact good_n0 hr x_b3n0020 (A5 a0 a1 a2 a3 a4) (by simp only [nP, nC, nL, R64, inR, dv, vL, okL, aOk, exOk, A5, List.length_cons, List.length_nil, true_and, and_true]; omega)
    by_cases w4 : a4 = 0
    · skip
      exact good_n0 hr x_b3n0021 (A5 a0 a1 a2 a3 a4) (by simp only [nP, nC, nL, R64, inR, dv, vL, okL, aOk, exOk, A5, List.length_cons, List.length_nil, true_and, and_true]; omega)
    exact good_n0 hr x_b3n0022 (A5 a0 a1 a2 a3 a4) (by simp only [nP, nC, nL, R64, inR, dv, vL, okL, aOk, exOk, A5, List.length_cons, List.length_nil, true_and, and_true]; omega)
  by_cases w2 : a2 = 0
  · skip
    by_cases u3 : a3 < 0
    · skip
      by_cases u4 : a4 < 0
      · skip
        exact good_n0 hr x_b3n0100 (A5 a0 a1 a2 a3 a4) (by simp only [nP, nC, nL, R64, inR, dv, vL, okL, aOk, exOk, A5, List.length_cons, List.length_nil, true_and, and_true]; omega)
      by_cases w4 : a4 = 0
      · skip
        exact good_n0 hr x_b3n0101 (A5 a0 a1 a2 a3 a4) (by simp only [nP, nC, nL, R64, inR, dv, vL, okL, aOk, exOk, A5, List.length_cons, List.length_nil, true_and, and_true]; omega)
      exact good_n0 hr x_b3n0102 (A5 a0 a1 a2 a3 a4) (by simp only [nP, nC, nL, R64, inR, dv, vL, okL, aOk, exOk, A5, List.length_cons, List.length_nil, true_and, and_true]; omega)
    by_cases w3 : a3 = 0
    · skip
      by_cases u4 : a4 < 0
      · skip
        exact good_n0 hr x_b3n0110 (A5 a0 a1 a2 a3 a4) (by simp only [nP, nC, nL, R64, inR, dv, vL, okL, aOk, exOk, A5, List.length_cons, List.length_nil, true_and, and_true]; omega)
      by_cases w4 : a4 = 0
      · skip
        exact good_n0 hr x_b3n0111 (A5 a0 a1 a2 a3 a4) (by simp only [nP, nC, nL, R64, inR, dv, vL, okL, aOk, exOk, A5, List.length_cons, List.length_nil, true_and, and_true]; omega)
      exact good_n0 hr x_b3n0112 (A5 a0 a1 a2 a3 a4) (by simp only [nP, nC, nL, R64, inR, dv, vL, okL, aOk, exOk, A5, List.length_cons, List.length_nil, true_and, and_true]; omega)
    by_cases u4 : a4 < 0
    · skip
      exact good_n0 hr x_b3n0120 (A5 a0 a1 a2 a3 a4) (by simp only [nP, nC, nL, R64, inR, dv, vL, okL, aOk, exOk, A5, List.length_cons, List.length_nil, true_and, and_true]; omega)
    by_cases w4 : a4 = 0
    · skip
      exact good_n0 hr x_b3n0121 (A5 a0 a1 a2 a3 a4) (by simp only [nP, nC, nL, R64, inR, dv, vL, okL, aOk, exOk, A5, List.length_cons, List.length_nil, true_and, and_true]; omega)
    exact good_n0 hr x_b3n0122 (A5 a0 a1 a2 a3 a4) (by simp only [nP, nC, nL, R64, inR, dv, vL, okL, aOk, exOk, A5, List.length_cons, List.length_nil, true_and, and_true]; omega)
  by_cases u3 : a3 < 0
  · skip
    by_cases u4 : a4 < 0
    · skip
      exact good_n0 hr x_b3n0200 (A5 a0 a1 a2 a3 a4) (by simp only [nP, nC, nL, R64, inR, dv, vL, okL, aOk, exOk, A5, List.length_cons, List.length_nil, true_and, and_true]; omega)
    by_cases w4 : a4 = 0
    · skip
      exact good_n0 hr x_b3n0201 (A5 a0 a1 a2 a3 a4) (by simp only [nP, nC, nL, R64, inR, dv, vL, okL, aOk, exOk, A5, List.length_cons, List.length_nil, true_and, and_true]; omega)
    exact good_n0 hr x_b3n0202 (A5 a0 a1 a2 a3 a4) (by simp only [nP, nC, nL, R64, inR, dv, vL, okL, aOk, exOk, A5, List.length_cons, List.length_nil, true_and, and_true]; omega)
  by_cases w3 : a3 = 0
  · skip
    by_cases u4 : a4 < 0
    · skip
      exact good_n0 hr x_b3n0210 (A5 a0 a1 a2 a3 a4) (by simp only [nP, nC, nL, R64, inR, dv, vL, okL, aOk, exOk, A5, List.length_cons, List.length_nil, true_and, and_true]; omega)
    by_cases w4 : a4 = 0
    · skip
      exact good_n0 hr x_b3n0211 (A5 a0 a1 a2 a3 a4) (by simp only [nP, nC, nL, R64, inR, dv, vL, okL, aOk, exOk, A5, List.length_cons, List.length_nil, true_and, and_true]; omega)
    exact good_n0 hr x_b3n0212 (A5 a0 a1 a2 a3 a4) (by simp only [nP, nC, nL, R64, inR, dv, vL, okL, aOk, exOk, A5, List.length_cons, List.length_nil, true_and, and_true]; omega)
  by_cases u4 : a4 < 0
  · skip
    exact good_n0 hr x_b3n0220 (A5 a0 a1 a2 a3 a4) (by simp only [nP, nC, nL, R64, inR, dv, vL, okL, aOk, exOk, A5, List.length_cons, List.length_nil, true_and, and_true]; omega)
  by_cases w4 : a4 = 0
  · skip
    exact good_n0 hr x_b3n0221 (A5 a0 a1 a2 a3 a4) (by simp only [nP, nC, nL, R64, inR, dv, vL, okL, aOk, exOk, A5, List.length_cons, List.length_nil, true_and, and_true]; omega)
  exact good_n0 hr x_b3n0222 (A5 a0 a1 a2 a3 a4) (by simp only [nP, nC, nL, R64, inR, dv, vL, okL, aOk, exOk, A5, List.length_cons, List.length_nil, true_and, and_true]; omega)
theorem t3_p1 (hr : RestOk) (x a0 a1 a2 a3 a4 : Int) (hx : x = (((a0 * 4096 + a1) * 4096 + a2) * 4096 + a3) * 4096 + a4) (b1 : -2048 ≤ a1 ∧ a1 ≤ 2047) (b2 : -2048 ≤ a2 ∧ a2 ≤ 2047) (b3 : -2048 ≤ a3 ∧ a3 ≤ 2047) (b4 : -2048 ≤ a4 ∧ a4 ≤ 2047)  (tt : 1 ≤ a0 ∧ a0 ≤ 32767) (tl : a1 = 0) (n3 : ¬ (-2147483648 ≤ ((((a0 * 4096 + a1) * 4096 + a2) * 4096 + a3) * 4096 + a4) ∧ ((((a0 * 4096 + a1) * 4096 + a2) * 4096 + a3) * 4096 + a4) ≤ 2147483647)) (n2 : ¬ (-2147483648 ≤ (((a0 * 4096 + a1) * 4096 + a2) * 4096 + a3) ∧ (((a0 * 4096 + a1) * 4096 + a2) * 4096 + a3) ≤ 2147483647)) (n1 : ¬ (-2147483648 ≤ ((a0 * 4096 + a1) * 4096 + a2) ∧ ((a0 * 4096 + a1) * 4096 + a2) ≤ 2147483647)) (mx : -9223372036854775808 ≤ x ∧ x ≤ 9223372036854775807) (nt : True) (tp : -2147483648 ≤ (a0 * 4096 + a1) ∧ (a0 * 4096 + a1) ≤ 2147483647) : Good x := by
  by_cases u2 : a2 < 0
  · skip
    by_cases u3 : a3 < 0
    · skip
      by_cases u4 : a4 < 0
      · skip
        exact good_p1 hr x_b3p1000 (A5 a0 a1 a2 a3 a4) (by simp only [nP, nC, nL, R64, inR, dv, vL, okL, aOk, exOk, A5, List.length_cons, List.length_nil, true_and, and_true]; omega)
      by_cases w4 : a4 = 0
      · skip
        exact good_p1 hr x_b3p1001 (A5 a0 a1 a2 a3 a4) (by simp only [nP, nC, nL, R64, inR, dv, vL, okL, aOk, exOk, A5, List.length_cons, List.length_nil, true_and, and_true]; omega)
      exact good_p1 hr x_b3p1002 (A5 a0 a1 a2 a3 a4) (by simp only [nP, nC, nL, R64, inR, dv, vL, okL, aOk, exOk, A5, List.length_cons, List.length_nil, true_and, and_true]; omega)
    by_cases w3 : a3 = 0
    · skip
      by_cases u4 : a4 < 0
      · skip
        exact good_p1 hr x_b3p1010 (A5 a0 a1 a2 a3 a4) (by simp only [nP, nC, nL, R64, inR, dv, vL, okL, aOk, exOk, A5, List.length_cons, List.length_nil, true_and, and_true]; omega)
      by_cases w4 : a4 = 0
      · skip
        exact good_p1 hr x_b3p1011 (A5 a0 a1 a2 a3 a4) (by simp only [nP, nC, nL, R64, inR, dv, vL, okL, aOk, exOk, A5, List.length_cons, List.length_nil, true_and, and_true]; omega)
      exact good_p1 hr x_b3p1012 (A5 a0 a1 a2 a3 a4) (by simp only [nP, nC, nL, R64, inR, dv, vL, okL, aOk, exOk, A5, List.length_cons, List.length_nil, true_and, and_true]; omega)
    by_cases u4 : a4 < 0
    · skip
      exact good_p1 hr x_b3p1020 (A5 a0 a1 a2 a3 a4) (by simp only [nP, nC, nL, R64, inR, dv, vL, okL, aOk, exOk, A5, List.length_cons, List.length_nil, true_and, and_true]; omega)
    by_cases w4 : a4 = 0
    · skip
      exact good_p1 hr x_b3p1021 (A5 a0 a1 a2 a3 a4) (by simp only [nP, nC, nL, R64, inR, dv, vL, okL, aOk, exOk, A5, List.length_cons, List.length_nil, true_and, and_true]; omega)
    exact good_p1 hr x_b3p1022 (A5 a0 a1 a2 a3 a4) (by simp only [nP, nC, nL, R64, inR, dv, vL, okL, aOk, exOk, A5, List.length_cons, List.length_nil, true_and, and_true]; omega)
  by_cases w2 : a2 = 0
  · skip
    by_cases u3 : a3 < 0
    · skip
      by_cases u4 : a4 < 0
      · skip
        exact good_p1 hr x_b3p1100 (A5 a0 a1 a2 a3 a4) (by simp only [nP, nC, nL, R64, inR, dv, vL, okL, aOk, exOk, A5, List.length_cons, List.length_nil, true_and, and_true]; omega)
      by_cases w4 : a4 = 0
      · skip
        exact good_p1 hr x_b3p1101 (A5 a0 a1 a2 a3 a4) (by simp only [nP, nC, nL, R64, inR, dv, vL, okL, aOk, exOk, A5, List.length_cons, List.length_nil, true_and, and_true]; omega)
      exact good_p1 hr x_b3p1102 (A5 a0 a1 a2 a3 a4) (by simp only [nP, nC, nL, R64, inR, dv, vL, okL, aOk, exOk, A5, List.length_cons, List.length_nil, true_and, and_true]; omega)
    by_cases w3 : a3 = 0
    · skip
      by_cases u4 : a4 < 0
      · skip
        exact good_p1 hr x_b3p1110 (A5 a0 a1 a2 a3 a4) (by simp only [nP, nC, nL, R64, inR, dv, vL, okL, aOk, exOk, A5, List.length_cons, List.length_nil, true_and, and_true]; omega)
      by_cases w4 : a4 = 0
      · skip
        exact good_p1 hr x_b3p1111 (A5 a0 a1 a2 a3 a4) (by simp only [nP, nC, nL, R64, inR, dv, vL, okL, aOk, exOk, A5, List.length_cons, List.length_nil, true_and, and_true]; omega)
      exact good_p1 hr x_b3p1112 (A5 a0 a1 a2 a3 a4) (by simp only [nP, nC, nL, R64, inR, dv, vL, okL, aOk, exOk, A5, List.length_cons, List.length_nil, true_and, and_true]; omega)
    by_cases u4 : a4 < 0
    · skip
      exact good_p1 hr x_b3p1120 (A5 a0 a1 a2 a3 a4) (by simp only [nP, nC, nL, R64, inR, dv, vL, okL, aOk, exOk, A5, List.length_cons, List.length_nil, true_and, and_true]; omega)
    by_cases w4 : a4 = 0
    · skip
      exact good_p1 hr x_b3p1121 (A5 a0 a1 a2 a3 a4) (by simp only [nP, nC, nL, R64, inR, dv, vL, okL, aOk, exOk, A5, List.length_cons, List.length_nil, true_and, and_true]; omega)
    exact good_p1 hr x_b3p1122 (A5 a0 a1 a2 a3 a4) (by simp only [nP, nC, nL, R64, inR, dv, vL, okL, aOk, exOk, A5, List.length_cons, List.length_nil, true_and, and_true]; omega)
  by_cases u3 : a3 < 0
  · skip
    by_cases u4 : a4 < 0
    · skip
      exact good_p1 hr x_b3p1200 (A5 a0 a1 a2 a3 a4) (by simp only [nP, nC, nL, R64, inR, dv, vL, okL, aOk, exOk, A5, List.length_cons, List.length_nil, true_and, and_true]; omega)
    by_cases w4 : a4 = 0
    · skip
      exact good_p1 hr x_b3p1201 (A5 a0 a1 a2 a3 a4) (by simp only [nP, nC, nL, R64, inR, dv, vL, okL, aOk, exOk, A5, List.length_cons, List.length_nil, true_and, and_true]; omega)
    exact good_p1 hr x_b3p1202 (A5 a0 a1 a2 a3 a4) (by simp only [nP, nC, nL, R64, inR, dv, vL, okL, aOk, exOk, A5, List.length_cons, List.length_nil, true_and, and_true]; omega)
  by_cases w3 : a3 = 0
  · skip
    by_cases u4 : a4 < 0
    · skip
      exact good_p1 hr x_b3p1210 (A5 a0 a1 a2 a3 a4) (by simp only [nP, nC, nL, R64, inR, dv, vL, okL, aOk, exOk, A5, List.length_cons, List.length_nil, true_and, and_true]; omega)
    by_cases w4 : a4 = 0
    · skip
      exact good_p1 hr x_b3p1211 (A5 a0 a1 a2 a3 a4) (by simp only [nP, nC, nL, R64, inR, dv, vL, okL, aOk, exOk, A5, List.length_cons, List.length_nil, true_and, and_true]; omega)
    exact good_p1 hr x_b3p1212 (A5 a0 a1 a2 a3 a4) (by simp only [nP, nC, nL, R64, inR, dv, vL, okL, aOk, exOk, A5, List.length_cons, List.length_nil, true_and, and_true]; omega)
  by_cases u4 : a4 < 0
  · skip
    exact good_p1 hr x_b3p1220 (A5 a0 a1 a2 a3 a4) (by simp only [nP, nC, nL, R64, inR, dv, vL, okL, aOk, exOk, A5, List.length_cons, List.length_nil, true_and, and_true]; omega)
  by_cases w4 : a4 = 0
  · skip
    exact good_p1 hr x_b3p1221 (A5 a0 a1 a2 a3 a4) (by simp only [nP, nC, nL, R64, inR, dv, vL, okL, aOk, exOk, A5, List.length_cons, List.length_nil, true_and, and_true]; omega)
  exact good_p1 hr x_b3p1222 (A5 a0 a1 a2 a3 a4) (by simp only [nP, nC, nL, R64, inR, dv, vL, okL, aOk, exOk, A5, List.length_cons, List.length_nil, true_and, and_true]; omega)
theorem t3_n1 (hr : RestOk) (x a0 a1 a2 a3 a4 : Int) (hx : x = (((a0 * 4096 + a1) * 4096 + a2) * 4096 + a3) * 4096 + a4) (b1 : -2048 ≤ a1 ∧ a1 ≤ 2047) (b2 : -2048 ≤ a2 ∧ a2 ≤ 2047) (b3 : -2048 ≤ a3 ∧ a3 ≤ 2047) (b4 : -2048 ≤ a4 ∧ a4 ≤ 2047)  (tt : a0 ≤ -1 ∧ -32767 ≤ a0) (tl : a1 = 0) (n3 : ¬ (-2147483648 ≤ ((((a0 * 4096 + a1) * 4096 + a2) * 4096 + a3) * 4096 + a4) ∧ ((((a0 * 4096 + a1) * 4096 + a2) * 4096 + a3) * 4096 + a4) ≤ 2147483647)) (n2 : ¬ (-2147483648 ≤ (((a0 * 4096 + a1) * 4096 + a2) * 4096 + a3) ∧ (((a0 * 4096 + a1) * 4096 + a2) * 4096 + a3) ≤ 2147483647)) (n1 : ¬ (-2147483648 ≤ ((a0 * 4096 + a1) * 4096 + a2) ∧ ((a0 * 4096 + a1) * 4096 + a2) ≤ 2147483647)) (mx : -9223372036854775808 ≤ x ∧ x ≤ 9223372036854775807) (nt : True) (tp : -2147483648 ≤ (a0 * 4096 + a1) ∧ (a0 * 4096 + a1) ≤ 2147483647) : Good x := by
  by_cases u2 : a2 < 0
  · skip
    by_cases u3 : a3 < 0
    · skip
      by_cases u4 : a4 < 0
      · skip
        exact good_n1 hr x_b3n1000 (A5 a0 a1 a2 a3 a4) (by simp only [nP, nC, nL, R64, inR, dv, vL, okL, aOk, exOk, A5, List.length_cons, List.length_nil, true_and, and_true]; omega)
      by_cases w4 : a4 = 0
      · skip
        exact good_n1 hr x_b3n1001 (A5 a0 a1 a2 a3 a4) (by simp only [nP, nC, nL, R64, inR, dv, vL, okL, aOk, exOk, A5, List.length_cons, List.length_nil, true_and, and_true]; omega)
      exact good_n1 hr x_b3n1002 (A5 a0 a1 a2 a3 a4) (by simp only [nP, nC, nL, R64, inR, dv, vL, okL, aOk, exOk, A5, List.length_cons, List.length_nil, true_and, and_true]; omega)
    by_cases w3 : a3 = 0
    · skip
      by_cases u4 : a4 < 0
      · skip
        exact good_n1 hr x_b3n1010 (A5 a0 a1 a2 a3 a4) (by simp only [nP, nC, nL, R64, inR, dv, vL, okL, aOk, exOk, A5, List.length_cons, List.length_nil, true_and, and_true]; omega)
      by_cases w4 : a4 = 0
      · skip
        exact good_n1 hr x_b3n1011 (A5 a0 a1 a2 a3 a4) (by simp only [nP, nC, nL, R64, inR, dv, vL, okL, aOk, exOk, A5, List.length_cons, List.length_nil, true_and, and_true]; omega)
      exact good_n1 hr x_b3n1012 (A5 a0 a1 a2 a3 a4) (by simp only [nP, nC, nL, R64, inR, dv, vL, okL, aOk, exOk, A5, List.length_cons, List.length_nil, true_and, and_true]; omega)
    by_cases u4 : a4 < 0
    · skip
      exact good_n1 hr x_b3n1020 (A5 a0 a1 a2 a3 a4) (by simp only [nP, nC, nL, R64, inR, dv, vL, okL, aOk, exOk, A5, List.length_cons, List.length_nil, true_and, and_true]; omega)
    by_cases w4 : a4 = 0
    · skip
      exact good_n1 hr x_b3n1021 (A5 a0 a1 a2 a3 a4) (by simp only [nP, nC, nL, R64, inR, dv, vL, okL, aOk, exOk, A5, List.length_cons, List.length_nil, true_and, and_true]; omega)
    exact good_n1 hr x_b3n1022 (A5 a0 a1 a2 a3 a4) (by simp only [nP, nC, nL, R64, inR, dv, vL, okL, aOk, exOk, A5, List.length_cons, List.length_nil, true_and, and_true]; omega)
  by_cases w2 : a2 = 0
  · skip
    by_cases u3 : a3 < 0
    · skip
      by_cases u4 : a4 < 0
      · skip
        exact good_n1 hr x_b3n1100 (A5 a0 a1 a2 a3 a4) (by simp only [nP, nC, nL, R64, inR, dv, vL, okL, aOk, exOk, A5, List.length_cons, List.length_nil, true_and, and_true]; omega)
      by_cases w4 : a4 = 0
      · skip
        exact good_n1 hr x_b3n1101 (A5 a0 a1 a2 a3 a4) (by simp only [nP, nC, nL, R64, inR, dv, vL, okL, aOk, exOk, A5, List.length_cons, List.length_nil, true_and, and_true]; omega)
      exact good_n1 hr x_b3n1102 (A5 a0 a1 a2 a3 a4) (by simp only [nP, nC, nL, R64, inR, dv, vL, okL, aOk, exOk, A5, List.length_cons, List.length_nil, true_and, and_true]; omega)
    by_cases w3 : a3 = 0
    · skip
      by_cases u4 : a4 < 0
      · skip
        exact good_n1 hr x_b3n1110 (A5 a0 a1 a2 a3 a4) (by simp only [nP, nC, nL, R64, inR, dv, vL, okL, aOk, exOk, A5, List.length_cons, List.length_nil, true_and, and_true]; omega)
      by_cases w4 : a4 = 0
      · skip
        exact good_n1 hr x_b3n1111 (A5 a0 a1 a2 a3 a4) (by simp only [nP, nC, nL, R64, inR, dv, vL, okL, aOk, exOk, A5, List.length_cons, List.length_nil, true_and, and_true]; omega)
      exact good_n1 hr x_b3n1112 (A5 a0 a1 a2 a3 a4) (by simp only [nP, nC, nL, R64, inR, dv, vL, okL, aOk, exOk, A5, List.length_cons, List.length_nil, true_and, and_true]; omega)
    by_cases u4 : a4 < 0
    · skip
      exact good_n1 hr x_b3n1120 (A5 a0 a1 a2 a3 a4) (by simp only [nP, nC, nL, R64, inR, dv, vL, okL, aOk, exOk, A5, List.length_cons, List.length_nil, true_and, and_true]; omega)
    by_cases w4 : a4 = 0
    · skip
      exact good_n1 hr x_b3n1121 (A5 a0 a1 a2 a3 a4) (by simp only [nP, nC, nL, R64, inR, dv, vL, okL, aOk, exOk, A5, List.length_cons, List.length_nil, true_and, and_true]; omega)
    exact good_n1 hr x_b3n1122 (A5 a0 a1 a2 a3 a4) (by simp only [nP, nC, nL, R64, inR, dv, vL, okL, aOk, exOk, A5, List.length_cons, List.length_nil, true_and, and_true]; omega)
  by_cases u3 : a3 < 0
  · skip
    by_cases u4 : a4 < 0
    · skip
      exact good_n1 hr x_b3n1200 (A5 a0 a1 a2 a3 a4) (by simp only [nP, nC, nL, R64, inR, dv, vL, okL, aOk, exOk, A5, List.length_cons, List.length_nil, true_and, and_true]; omega)
    by_cases w4 : a4 = 0
    · skip
      exact good_n1 hr x_b3n1201 (A5 a0 a1 a2 a3 a4) (by simp only [nP, nC, nL, R64, inR, dv, vL, okL, aOk, exOk, A5, List.length_cons, List.length_nil, true_and, and_true]; omega)
    exact good_n1 hr x_b3n1202 (A5 a0 a1 a2 a3 a4) (by simp only [nP, nC, nL, R64, inR, dv, vL, okL, aOk, exOk, A5, List.length_cons, List.length_nil, true_and, and_true]; omega)
  by_cases w3 : a3 = 0
  · skip
    by_cases u4 : a4 < 0
    · skip
      exact good_n1 hr x_b3n1210 (A5 a0 a1 a2 a3 a4) (by simp only [nP, nC, nL, R64, inR, dv, vL, okL, aOk, exOk, A5, List.length_cons, List.length_nil, true_and, and_true]; omega)
    by_cases w4 : a4 = 0
    · skip
      exact good_n1 hr x_b3n1211 (A5 a0 a1 a2 a3 a4) (by simp only [nP, nC, nL, R64, inR, dv, vL, okL, aOk, exOk, A5, List.length_cons, List.length_nil, true_and, and_true]; omega)
    exact good_n1 hr x_b3n1212 (A5 a0 a1 a2 a3 a4) (by simp only [nP, nC, nL, R64, inR, dv, vL, okL, aOk, exOk, A5, List.length_cons, List.length_nil, true_and, and_true]; omega)
  by_cases u4 : a4 < 0
  · skip
    exact good_n1 hr x_b3n1220 (A5 a0 a1 a2 a3 a4) (by simp only [nP, nC, nL, R64, inR, dv, vL, okL, aOk, exOk, A5, List.length_cons, List.length_nil, true_and, and_true]; omega)
  by_cases w4 : a4 = 0
  · skip
    exact good_n1 hr x_b3n1221 (A5 a0 a1 a2 a3 a4) (by simp only [nP, nC, nL, R64, inR, dv, vL, okL, aOk, exOk, A5, List.length_cons, List.length_nil, true_and, and_true]; omega)
  exact good_n1 hr x_b3n1222 (A5 a0 a1 a2 a3 a4) (by simp only [nP, nC, nL, R64, inR, dv, vL, okL, aOk, exOk, A5, List.length_cons, List.length_nil, true_and, and_true]; omega)
theorem t3_p2 (hr : RestOk) (x a0 a1 a2 a3 a4 : Int) (hx : x = (((a0 * 4096 + a1) * 4096 + a2) * 4096 + a3) * 4096 + a4) (b1 : -2048 ≤ a1 ∧ a1 ≤ 2047) (b2 : -2048 ≤ a2 ∧ a2 ≤ 2047) (b3 : -2048 ≤ a3 ∧ a3 ≤ 2047) (b4 : -2048 ≤ a4 ∧ a4 ≤ 2047)  (tt : 1 ≤ a0 ∧ a0 ≤ 32767) (tl : 0 < a1) (n3 : ¬ (-2147483648 ≤ ((((a0 * 4096 + a1) * 4096 + a2) * 4096 + a3) * 4096 + a4) ∧ ((((a0 * 4096 + a1) * 4096 + a2) * 4096 + a3) * 4096 + a4) ≤ 2147483647)) (n2 : ¬ (-2147483648 ≤ (((a0 * 4096 + a1) * 4096 + a2) * 4096 + a3) ∧ (((a0 * 4096 + a1) * 4096 + a2) * 4096 + a3) ≤ 2147483647)) (n1 : ¬ (-2147483648 ≤ ((a0 * 4096 + a1) * 4096 + a2) ∧ ((a0 * 4096 + a1) * 4096 + a2) ≤ 2147483647)) (mx : -9223372036854775808 ≤ x ∧ x ≤ 9223372036854775807) (nt : True) (tp : -2147483648 ≤ (a0 * 4096 + a1) ∧ (a0 * 4096 + a1) ≤ 2147483647) : Good x := by
  by_cases u2 : a2 < 0
  · skip
    by_cases u3 : a3 < 0
    · skip
      by_cases u4 : a4 < 0
      · skip
        exact good_p2 hr x_b3p2000 (A5 a0 a1 a2 a3 a4) (by simp only [nP, nC, nL, R64, inR, dv, vL, okL, aOk, exOk, A5, List.length_cons, List.length_nil, true_and, and_true]; omega)
      by_cases w4 : a4 = 0
      · skip
        exact good_p2 hr x_b3p2001 (A5 a0 a1 a2 a3 a4) (by simp only [nP, nC, nL, R64, inR, dv, vL, okL, aOk, exOk, A5, List.length_cons, List.length_nil, true_and, and_true]; omega)
      exact good_p2 hr x_b3p2002 (A5 a0 a1 a2 a3 a4) (by simp only [nP, nC, nL, R64, inR, dv, vL, okL, aOk, exOk, A5, List.length_cons, List.length_nil, true_and, and_true]; omega)
    by_cases w3 : a3 = 0
    · skip
      by_cases u4 : a4 < 0
      · skip
        exact good_p2 hr x_b3p2010 (A5 a0 a1 a2 a3 a4) (by simp only [nP, nC, nL, R64, inR, dv, vL, okL, aOk, exOk, A5, List.length_cons, List.length_nil, true_and, and_true]; omega)
      by_cases w4 : a4 = 0
      · skip
        exact good_p2 hr x_b3p2011 (A5 a0 a1 a2 a3 a4) (by simp only [nP, nC, nL, R64, inR, dv, vL, okL, aOk, exOk, A5, List.length_cons, List.length_nil, true_and, and_true]; omega)
      exact good_p2 hr x_b3p2012 (A5 a0 a1 a2 a3 a4) (by simp only [nP, nC, nL, R64, inR, dv, vL, okL, aOk, exOk, A5, List.length_cons, List.length_nil, true_and, and_true]; omega)
    by_cases u4 : a4 < 0
    · skip
      exact good_p2 hr x_b3p2020 (A5 a0 a1 a2 a3 a4) (by simp only [nP, nC, nL, R64, inR, dv, vL, okL, aOk, exOk, A5, List.length_cons, List.length_nil, true_and, and_true]; omega)
    by_cases w4 : a4 = 0
    · skip
      exact good_p2 hr x_b3p2021 (A5 a0 a1 a2 a3 a4) (by simp only [nP, nC, nL, R64, inR, dv, vL, okL, aOk, exOk, A5, List.length_cons, List.length_nil, true_and, and_true]; omega)
    exact good_p2 hr x_b3p2022 (A5 a0 a1 a2 a3 a4) (by simp only [nP, nC, nL, R64, inR, dv, vL, okL, aOk, exOk, A5, List.length_cons, List.length_nil, true_and, and_true]; omega)
  by_cases w2 : a2 = 0
  · skip
    by_cases u3 : a3 < 0
    · skip
      by_cases u4 : a4 < 0
      · skip
        exact good_p2 hr x_b3p2100 (A5 a0 a1 a2 a3 a4) (by simp only [nP, nC, nL, R64, inR, dv, vL, okL, aOk, exOk, A5, List.length_cons, List.length_nil, true_and, and_true]; omega)
      by_cases w4 : a4 = 0
      · skip
        exact good_p2 hr x_b3p2101 (A5 a0 a1 a2 a3 a4) (by simp only [nP, nC, nL, R64, inR, dv, vL, okL, aOk, exOk, A5, List.length_cons, List.length_nil, true_and, and_true]; omega)
      exact good_p2 hr x_b3p2102 (A5 a0 a1 a2 a3 a4) (by simp only [nP, nC, nL, R64, inR, dv, vL, okL, aOk, exOk, A5, List.length_cons, List.length_nil, true_and, and_true]; omega)
    by_cases w3 : a3 = 0
    · skip
      by_cases u4 : a4 < 0
      · skip
        exact good_p2 hr x_b3p2110 (A5 a0 a1 a2 a3 a4) (by simp only [nP, nC, nL, R64, inR, dv, vL, okL, aOk, exOk, A5, List.length_cons, List.length_nil, true_and, and_true]; omega)
      by_cases w4 : a4 = 0
      · skip
        exact good_p2 hr x_b3p2111 (A5 a0 a1 a2 a3 a4) (by simp only [nP, nC, nL, R64, inR, dv, vL, okL, aOk, exOk, A5, List.length_cons, List.length_nil, true_and, and_true]; omega)
      exact good_p2 hr x_b3p2112 (A5 a0 a1 a2 a3 a4) (by simp only [nP, nC, nL, R64, inR, dv, vL, okL, aOk, exOk, A5, List.length_cons, List.length_nil, true_and, and_true]; omega)
    by_cases u4 : a4 < 0
    · skip
      exact good_p2 hr x_b3p2120 (A5 a0 a1 a2 a3 a4) (by simp only [nP, nC, nL, R64, inR, dv, vL, okL, aOk, exOk, A5, List.length_cons, List.length_nil, true_and, and_true]; omega)
    by_cases w4 : a4 = 0
    · skip
      exact good_p2 hr x_b3p2121 (A5 a0 a1 a2 a3 a4) (by simp only [nP, nC, nL, R64, inR, dv, vL, okL, aOk, exOk, A5, List.length_cons, List.length_nil, true_and, and_true]; omega)
    exact good_p2 hr x_b3p2122 (A5 a0 a1 a2 a3 a4) (by simp only [nP, nC, nL, R64, inR, dv, vL, okL, aOk, exOk, A5, List.length_cons, List.length_nil, true_and, and_true]; omega)
  by_cases u3 : a3 < 0
  · skip
    by_cases u4 : a4 < 0
    · skip
      exact good_p2 hr x_b3p2200 (A5 a0 a1 a2 a3 a4) (by simp only [nP, nC, nL, R64, inR, dv, vL, okL, aOk, exOk, A5, List.length_cons, List.length_nil, true_and, and_true]; omega)
    by_cases w4 : a4 = 0
    · skip
      exact good_p2 hr x_b3p2201 (A5 a0 a1 a2 a3 a4) (by simp only [nP, nC, nL, R64, inR, dv, vL, okL, aOk, exOk, A5, List.length_cons, List.length_nil, true_and, and_true]; omega)
    exact good_p2 hr x_b3p2202 (A5 a0 a1 a2 a3 a4) (by simp only [nP, nC, nL, R64, inR, dv, vL, okL, aOk, exOk, A5, List.length_cons, List.length_nil, true_and, and_true]; omega)
  by_cases w3 : a3 = 0
  · skip
    by_cases u4 : a4 < 0
    · skip
      exact good_p2 hr x_b3p2210 (A5 a0 a1 a2 a3 a4) (by simp only [nP, nC, nL, R64, inR, dv, vL, okL, aOk, exOk, A5, List.length_cons, List.length_nil, true_and, and_true]; omega)
    by_cases w4 : a4 = 0
    · skip
      exact good_p2 hr x_b3p2211 (A5 a0 a1 a2 a3 a4) (by simp only [nP, nC, nL, R64, inR, dv, vL, okL, aOk, exOk, A5, List.length_cons, List.length_nil, true_and, and_true]; omega)
    exact good_p2 hr x_b3p2212 (A5 a0 a1 a2 a3 a4) (by simp only [nP, nC, nL, R64, inR, dv, vL, okL, aOk, exOk, A5, List.length_cons, List.length_nil, true_and, and_true]; omega)
  by_cases u4 : a4 < 0
  · skip
    exact good_p2 hr x_b3p2220 (A5 a0 a1 a2 a3 a4) (by simp only [nP, nC, nL, R64, inR, dv, vL, okL, aOk, exOk, A5, List.length_cons, List.length_nil, true_and, and_true]; omega)
  by_cases w4 : a4 = 0
  · skip
    exact good_p2 hr x_b3p2221 (A5 a0 a1 a2 a3 a4) (by simp only [nP, nC, nL, R64, inR, dv, vL, okL, aOk, exOk, A5, List.length_cons, List.length_nil, true_and, and_true]; omega)
  exact good_p2 hr x_b3p2222 (A5 a0 a1 a2 a3 a4) (by simp only [nP, nC, nL, R64, inR, dv, vL, okL, aOk, exOk, A5, List.length_cons, List.length_nil, true_and, and_true]; omega)
theorem t3_n2 (hr : RestOk) (x a0 a1 a2 a3 a4 : Int) (hx : x = (((a0 * 4096 + a1) * 4096 + a2) * 4096 + a3) * 4096 + a4) (b1 : -2048 ≤ a1 ∧ a1 ≤ 2047) (b2 : -2048 ≤ a2 ∧ a2 ≤ 2047) (b3 : -2048 ≤ a3 ∧ a3 ≤ 2047) (b4 : -2048 ≤ a4 ∧ a4 ≤ 2047)  (tt : a0 ≤ -1 ∧ -32767 ≤ a0) (tl : 0 < a1) (n3 : ¬ (-2147483648 ≤ ((((a0 * 4096 + a1) * 4096 + a2) * 4096 + a3) * 4096 + a4) ∧ ((((a0 * 4096 + a1) * 4096 + a2) * 4096 + a3) * 4096 + a4) ≤ 2147483647)) (n2 : ¬ (-2147483648 ≤ (((a0 * 4096 + a1) * 4096 + a2) * 4096 + a3) ∧ (((a0 * 4096 + a1) * 4096 + a2) * 4096 + a3) ≤ 2147483647)) (n1 : ¬ (-2147483648 ≤ ((a0 * 4096 + a1) * 4096 + a2) ∧ ((a0 * 4096 + a1) * 4096 + a2) ≤ 2147483647)) (mx : -9223372036854775808 ≤ x ∧ x ≤ 9223372036854775807) (nt : True) (tp : -2147483648 ≤ (a0 * 4096 + a1) ∧ (a0 * 4096 + a1) ≤ 2147483647) : Good x := by
  by_cases u2 : a2 < 0
  · skip
    by_cases u3 : a3 < 0
    · skip
      by_cases u4 : a4 < 0
      · skip
        exact good_n2 hr x_b3n2000 (A5 a0 a1 a2 a3 a4) (by simp only [nP, nC, nL, R64, inR, dv, vL, okL, aOk, exOk, A5, List.length_cons, List.length_nil, true_and, and_true]; omega)
      by_cases w4 : a4 = 0
      · skip
        exact good_n2 hr x_b3n2001 (A5 a0 a1 a2 a3 a4) (by simp only [nP, nC, nL, R64, inR, dv, vL, okL, aOk, exOk, A5, List.length_cons, List.length_nil, true_and, and_true]; omega)
      exact good_n2 hr x_b3n2002 (A5 a0 a1 a2 a3 a4) (by simp only [nP, nC, nL, R64, inR, dv, vL, okL, aOk, exOk, A5, List.length_cons, List.length_nil, true_and, and_true]; omega)
    by_cases w3 : a3 = 0
    · skip
      by_cases u4 : a4 < 0
      · skip
        exact good_n2 hr x_b3n2010 (A5 a0 a1 a2 a3 a4) (by simp only [nP, nC, nL, R64, inR, dv, vL, okL, aOk, exOk, A5, List.length_cons, List.length_nil, true_and, and_true]; omega)
      by_cases w4 : a4 = 0
      · skip
        exact good_n2 hr x_b3n2011 (A5 a0 a1 a2 a3 a4) (by simp only [nP, nC, nL, R64, inR, dv, vL, okL, aOk, exOk, A5, List.length_cons, List.length_nil, true_and, and_true]; omega)
      exact good_n2 hr x_b3n2012 (A5 a0 a1 a2 a3 a4) (by simp only [nP, nC, nL, R64, inR, dv, vL, okL, aOk, exOk, A5, List.length_cons, List.length_nil, true_and, and_true]; omega)
    by_cases u4 : a4 < 0
    · skip
      exact good_n2 hr x_b3n2020 (A5 a0 a1 a2 a3 a4) (by simp only [nP, nC, nL, R64, inR, dv, vL, okL, aOk, exOk, A5, List.length_cons, List.length_nil, true_and, and_true]; omega)
    by_cases w4 : a4 = 0
    · skip
      exact good_n2 hr x_b3n2021 (A5 a0 a1 a2 a3 a4) (by simp only [nP, nC, nL, R64, inR, dv, vL, okL, aOk, exOk, A5, List.length_cons, List.length_nil, true_and, and_true]; omega)
    exact good_n2 hr x_b3n2022 (A5 a0 a1 a2 a3 a4) (by simp only [nP, nC, nL, R64, inR, dv, vL, okL, aOk, exOk, A5, List.length_cons, List.length_nil, true_and, and_true]; omega)
  by_cases w2 : a2 = 0
  · skip
    by_cases u3 : a3 < 0
    · skip
      by_cases u4 : a4 < 0
      · skip
        exact good_n2 hr x_b3n2100 (A5 a0 a1 a2 a3 a4) (by simp only [nP, nC, nL, R64, inR, dv, vL, okL, aOk, exOk, A5, List.length_cons, List.length_nil, true_and, and_true]; omega)
      by_cases w4 : a4 = 0
      · skip
        exact good_n2 hr x_b3n2101 (A5 a0 a1 a2 a3 a4) (by simp only [nP, nC, nL, R64, inR, dv, vL, okL, aOk, exOk, A5, List.length_cons, List.length_nil, true_and, and_true]; omega)
      exact good_n2 hr x_b3n2102 (A5 a0 a1 a2 a3 a4) (by simp only [nP, nC, nL, R64, inR, dv, vL, okL, aOk, exOk, A5, List.length_cons, List.length_nil, true_and, and_true]; omega)
    by_cases w3 : a3 = 0
    · skip
      by_cases u4 : a4 < 0
      · skip
        exact good_n2 hr x_b3n2110 (A5 a0 a1 a2 a3 a4) (by simp only [nP, nC, nL, R64, inR, dv, vL, okL, aOk, exOk, A5, List.length_cons, List.length_nil, true_and, and_true]; omega)
      by_cases w4 : a4 = 0
      · skip
        exact good_n2 hr x_b3n2111 (A5 a0 a1 a2 a3 a4) (by simp only [nP, nC, nL, R64, inR, dv, vL, okL, aOk, exOk, A5, List.length_cons, List.length_nil, true_and, and_true]; omega)
      exact good_n2 hr x_b3n2112 (A5 a0 a1 a2 a3 a4) (by simp only [nP, nC, nL, R64, inR, dv, vL, okL, aOk, exOk, A5, List.length_cons, List.length_nil, true_and, and_true]; omega)
    by_cases u4 : a4 < 0
    · skip
      exact good_n2 hr x_b3n2120 (A5 a0 a1 a2 a3 a4) (by simp only [nP, nC, nL, R64, inR, dv, vL, okL, aOk, exOk, A5, List.length_cons, List.length_nil, true_and, and_true]; omega)
    by_cases w4 : a4 = 0
    · skip
      exact good_n2 hr x_b3n2121 (A5 a0 a1 a2 a3 a4) (by simp only [nP, nC, nL, R64, inR, dv, vL, okL, aOk, exOk, A5, List.length_cons, List.length_nil, true_and, and_true]; omega)
    exact good_n2 hr x_b3n2122 (A5 a0 a1 a2 a3 a4) (by simp only [nP, nC, nL, R64, inR, dv, vL, okL, aOk, exOk, A5, List.length_cons, List.length_nil, true_and, and_true]; omega)
  by_cases u3 : a3 < 0
  · skip
    by_cases u4 : a4 < 0
    · skip
      exact good_n2 hr x_b3n2200 (A5 a0 a1 a2 a3 a4) (by simp only [nP, nC, nL, R64, inR, dv, vL, okL, aOk, exOk, A5, List.length_cons, List.length_nil, true_and, and_true]; omega)
    by_cases w4 : a4 = 0
    · skip
      exact good_n2 hr x_b3n2201 (A5 a0 a1 a2 a3 a4) (by simp only [nP, nC, nL, R64, inR, dv, vL, okL, aOk, exOk, A5, List.length_cons, List.length_nil, true_and, and_true]; omega)
    exact good_n2 hr x_b3n2202 (A5 a0 a1 a2 a3 a4) (by simp only [nP, nC, nL, R64, inR, dv, vL, okL, aOk, exOk, A5, List.length_cons, List.length_nil, true_and, and_true]; omega)
  by_cases w3 : a3 = 0
  · skip
    by_cases u4 : a4 < 0
    · skip
      exact good_n2 hr x_b3n2210 (A5 a0 a1 a2 a3 a4) (by simp only [nP, nC, nL, R64, inR, dv, vL, okL, aOk, exOk, A5, List.length_cons, List.length_nil, true_and, and_true]; omega)
    by_cases w4 : a4 = 0
    · skip
      exact good_n2 hr x_b3n2211 (A5 a0 a1 a2 a3 a4) (by simp only [nP, nC, nL, R64, inR, dv, vL, okL, aOk, exOk, A5, List.length_cons, List.length_nil, true_and, and_true]; omega)
    exact good_n2 hr x_b3n2212 (A5 a0 a1 a2 a3 a4) (by simp only [nP, nC, nL, R64, inR, dv, vL, okL, aOk, exOk, A5, List.length_cons, List.length_nil, true_and, and_true]; omega)
  by_cases u4 : a4 < 0
  · skip
    exact good_n2 hr x_b3n2220 (A5 a0 a1 a2 a3 a4) (by simp only [nP, nC, nL, R64, inR, dv, vL, okL, aOk, exOk, A5, List.length_cons, List.length_nil, true_and, and_true]; omega)
  by_cases w4 : a4 = 0
  · skip
    exact good_n2 hr x_b3n2221 (A5 a0 a1 a2 a3 a4) (by simp only [nP, nC, nL, R64, inR, dv, vL, okL, aOk, exOk, A5, List.length_cons, List.length_nil, true_and, and_true]; omega)
  exact good_n2 hr x_b3n2222 (A5 a0 a1 a2 a3 a4) (by simp only [nP, nC, nL, R64, inR, dv, vL, okL, aOk, exOk, A5, List.length_cons, List.length_nil, true_and, and_true]; omega)
theorem t3_P (hr : RestOk) (x a0 a1 a2 a3 a4 : Int) (hx : x = (((a0 * 4096 + a1) * 4096 + a2) * 4096 + a3) * 4096 + a4) (b1 : -2048 ≤ a1 ∧ a1 ≤ 2047) (b2 : -2048 ≤ a2 ∧ a2 ≤ 2047) (b3 : -2048 ≤ a3 ∧ a3 ≤ 2047) (b4 : -2048 ≤ a4 ∧ a4 ≤ 2047)  (tt : a0 = 32768) (tl : a1 = 0) (n3 : ¬ (-2147483648 ≤ ((((a0 * 4096 + a1) * 4096 + a2) * 4096 + a3) * 4096 + a4) ∧ ((((a0 * 4096 + a1) * 4096 + a2) * 4096 + a3) * 4096 + a4) ≤ 2147483647)) (n2 : ¬ (-2147483648 ≤ (((a0 * 4096 + a1) * 4096 + a2) * 4096 + a3) ∧ (((a0 * 4096 + a1) * 4096 + a2) * 4096 + a3) ≤ 2147483647)) (n1 : ¬ (-2147483648 ≤ ((a0 * 4096 + a1) * 4096 + a2) ∧ ((a0 * 4096 + a1) * 4096 + a2) ≤ 2147483647)) (mx : -9223372036854775808 ≤ x ∧ x ≤ 9223372036854775807) (nt : True) (tp : -2147483648 ≤ (a0 * 4096 + a1) ∧ (a0 * 4096 + a1) ≤ 2147483647) : Good x := by
  by_cases u2 : a2 < 0
  · skip
    by_cases u3 : a3 < 0
    · skip
      by_cases u4 : a4 < 0
      · skip
        exact good_L hr x_b3P000 (A5 a0 a1 a2 a3 a4) (by simp only [nP, nC, nL, R64, inR, dv, vL, okL, aOk, exOk, A5, List.length_cons, List.length_nil, true_and, and_true]; omega)
      by_cases w4 : a4 = 0
      · skip
        exact good_L hr x_b3P001 (A5 a0 a1 a2 a3 a4) (by simp only [nP, nC, nL, R64, inR, dv, vL, okL, aOk, exOk, A5, List.length_cons, List.length_nil, true_and, and_true]; omega)
      exact good_L hr x_b3P002 (A5 a0 a1 a2 a3 a4) (by simp only [nP, nC, nL, R64, inR, dv, vL, okL, aOk, exOk, A5, List.length_cons, List.length_nil, true_and, and_true]; omega)
    by_cases w3 : a3 = 0
    · skip
      by_cases u4 : a4 < 0
      · skip
        exact good_L hr x_b3P010 (A5 a0 a1 a2 a3 a4) (by simp only [nP, nC, nL, R64, inR, dv, vL, okL, aOk, exOk, A5, List.length_cons, List.length_nil, true_and, and_true]; omega)
      by_cases w4 : a4 = 0
      · skip
        exact good_L hr x_b3P011 (A5 a0 a1 a2 a3 a4) (by simp only [nP, nC, nL, R64, inR, dv, vL, okL, aOk, exOk, A5, List.length_cons, List.length_nil, true_and, and_true]; omega)
      exact good_L hr x_b3P012 (A5 a0 a1 a2 a3 a4) (by simp only [nP, nC, nL, R64, inR, dv, vL, okL, aOk, exOk, A5, List.length_cons, List.length_nil, true_and, and_true]; omega)
    by_cases u4 : a4 < 0
    · skip
      exact good_L hr x_b3P020 (A5 a0 a1 a2 a3 a4) (by simp only [nP, nC, nL, R64, inR, dv, vL, okL, aOk, exOk, A5, List.length_cons, List.length_nil, true_and, and_true]; omega)
    by_cases w4 : a4 = 0
    · skip
      exact good_L hr x_b3P021 (A5 a0 a1 a2 a3 a4) (by simp only [nP, nC, nL, R64, inR, dv, vL, okL, aOk, exOk, A5, List.length_cons, List.length_nil, true_and, and_true]; omega)
    exact good_L hr x_b3P022 (A5 a0 a1 a2 a3 a4) (by simp only [nP, nC, nL, R64, inR, dv, vL, okL, aOk, exOk, A5, List.length_cons, List.length_nil, true_and, and_true]; omega)
  by_cases w2 : a2 = 0
  · skip
    by_cases u3 : a3 < 0
    · skip
      by_cases u4 : a4 < 0
      · skip
        exact good_L hr x_b3P100 (A5 a0 a1 a2 a3 a4) (by simp only [nP, nC, nL, R64, inR, dv, vL, okL, aOk, exOk, A5, List.length_cons, List.length_nil, true_and, and_true]; omega)
      by_cases w4 : a4 = 0
      · skip
        exact good_L hr x_b3P101 (A5 a0 a1 a2 a3 a4) (by simp only [nP, nC, nL, R64, inR, dv, vL, okL, aOk, exOk, A5, List.length_cons, List.length_nil, true_and, and_true]; omega)
      exact good_L hr x_b3P102 (A5 a0 a1 a2 a3 a4) (by simp only [nP, nC, nL, R64, inR, dv, vL, okL, aOk, exOk, A5, List.length_cons, List.length_nil, true_and, and_true]; omega)
    by_cases w3 : a3 = 0
    · skip
      by_cases u4 : a4 < 0
      · skip
        exact good_z hr x_b3P110 (by omega) (by omega)
      by_cases w4 : a4 = 0
      · skip
        exfalso; omega
      exfalso; omega
    by_cases u4 : a4 < 0
    · skip
      exfalso; omega
    by_cases w4 : a4 = 0
    · skip
      exfalso; omega
    exfalso; omega
  by_cases u3 : a3 < 0
  · skip
    by_cases u4 : a4 < 0
    · skip
      exfalso; omega
    by_cases w4 : a4 = 0
    · skip
      exfalso; omega
    exfalso; omega
  by_cases w3 : a3 = 0
  · skip
    by_cases u4 : a4 < 0
    · skip
      exfalso; omega
    by_cases w4 : a4 = 0
    · skip
      exfalso; omega
    exfalso; omega
  by_cases u4 : a4 < 0
  · skip
    exfalso; omega
  by_cases w4 : a4 = 0
  · skip
    exfalso; omega
  exfalso; omega
theorem t3_N (hr : RestOk) (x a0 a1 a2 a3 a4 : Int) (hx : x = (((a0 * 4096 + a1) * 4096 + a2) * 4096 + a3) * 4096 + a4) (b1 : -2048 ≤ a1 ∧ a1 ≤ 2047) (b2 : -2048 ≤ a2 ∧ a2 ≤ 2047) (b3 : -2048 ≤ a3 ∧ a3 ≤ 2047) (b4 : -2048 ≤ a4 ∧ a4 ≤ 2047)  (tt : a0 = -32768) (tl : a1 = 0) (n3 : ¬ (-2147483648 ≤ ((((a0 * 4096 + a1) * 4096 + a2) * 4096 + a3) * 4096 + a4) ∧ ((((a0 * 4096 + a1) * 4096 + a2) * 4096 + a3) * 4096 + a4) ≤ 2147483647)) (n2 : ¬ (-2147483648 ≤ (((a0 * 4096 + a1) * 4096 + a2) * 4096 + a3) ∧ (((a0 * 4096 + a1) * 4096 + a2) * 4096 + a3) ≤ 2147483647)) (n1 : ¬ (-2147483648 ≤ ((a0 * 4096 + a1) * 4096 + a2) ∧ ((a0 * 4096 + a1) * 4096 + a2) ≤ 2147483647)) (mx : -9223372036854775808 ≤ x ∧ x ≤ 9223372036854775807) (nt : True) (tp : -2147483648 ≤ (a0 * 4096 + a1) ∧ (a0 * 4096 + a1) ≤ 2147483647) : Good x := by
  by_cases u2 : a2 < 0
  · skip
    by_cases u3 : a3 < 0
    · skip
      by_cases u4 : a4 < 0
      · skip
        exfalso; omega
      by_cases w4 : a4 = 0
      · skip
        exfalso; omega
      exfalso; omega
    by_cases w3 : a3 = 0
    · skip
      by_cases u4 : a4 < 0
      · skip
        exfalso; omega
      by_cases w4 : a4 = 0
      · skip
        exfalso; omega
      exfalso; omega
    by_cases u4 : a4 < 0
    · skip
      exfalso; omega
    by_cases w4 : a4 = 0
    · skip
      exfalso; omega
    exfalso; omega
  by_cases w2 : a2 = 0
  · skip
    by_cases u3 : a3 < 0
    · skip
      by_cases u4 : a4 < 0
      · skip
        exfalso; omega
      by_cases w4 : a4 = 0
      · skip
        exfalso; omega
      exfalso; omega
    by_cases w3 : a3 = 0
    · skip
      by_cases u4 : a4 < 0
      · skip
        exfalso; omega
      by_cases w4 : a4 = 0
      · skip
        exact good_L hr x_b3N111 (A5 a0 a1 a2 a3 a4) (by simp only [nP, nC, nL, R64, inR, dv, vL, okL, aOk, exOk, A5, List.length_cons, List.length_nil, true_and, and_true]; omega)
      exact good_L hr x_b3N112 (A5 a0 a1 a2 a3 a4) (by simp only [nP, nC, nL, R64, inR, dv, vL, okL, aOk, exOk, A5, List.length_cons, List.length_nil, true_and, and_true]; omega)
    by_cases u4 : a4 < 0
    · skip
      exact good_L hr x_b3N120 (A5 a0 a1 a2 a3 a4) (by simp only [nP, nC, nL, R64, inR, dv, vL, okL, aOk, exOk, A5, List.length_cons, List.length_nil, true_and, and_true]; omega)
    by_cases w4 : a4 = 0
    · skip
      exact good_L hr x_b3N121 (A5 a0 a1 a2 a3 a4) (by simp only [nP, nC, nL, R64, inR, dv, vL, okL, aOk, exOk, A5, List.length_cons, List.length_nil, true_and, and_true]; omega)
    exact good_L hr x_b3N122 (A5 a0 a1 a2 a3 a4) (by simp only [nP, nC, nL, R64, inR, dv, vL, okL, aOk, exOk, A5, List.length_cons, List.length_nil, true_and, and_true]; omega)
  by_cases u3 : a3 < 0
  · skip
    by_cases u4 : a4 < 0
    · skip
      exact good_L hr x_b3N200 (A5 a0 a1 a2 a3 a4) (by simp only [nP, nC, nL, R64, inR, dv, vL, okL, aOk, exOk, A5, List.length_cons, List.length_nil, true_and, and_true]; omega)
    by_cases w4 : a4 = 0
    · skip
      exact good_L hr x_b3N201 (A5 a0 a1 a2 a3 a4) (by simp only [nP, nC, nL, R64, inR, dv, vL, okL, aOk, exOk, A5, List.length_cons, List.length_nil, true_and, and_true]; omega)
    exact good_L hr x_b3N202 (A5 a0 a1 a2 a3 a4) (by simp only [nP, nC, nL, R64, inR, dv, vL, okL, aOk, exOk, A5, List.length_cons, List.length_nil, true_and, and_true]; omega)
  by_cases w3 : a3 = 0
  · skip
    by_cases u4 : a4 < 0
    · skip
      exact good_L hr x_b3N210 (A5 a0 a1 a2 a3 a4) (by simp only [nP, nC, nL, R64, inR, dv, vL, okL, aOk, exOk, A5, List.length_cons, List.length_nil, true_and, and_true]; omega)
    by_cases w4 : a4 = 0
    · skip
      exact good_L hr x_b3N211 (A5 a0 a1 a2 a3 a4) (by simp only [nP, nC, nL, R64, inR, dv, vL, okL, aOk, exOk, A5, List.length_cons, List.length_nil, true_and, and_true]; omega)
    exact good_L hr x_b3N212 (A5 a0 a1 a2 a3 a4) (by simp only [nP, nC, nL, R64, inR, dv, vL, okL, aOk, exOk, A5, List.length_cons, List.length_nil, true_and, and_true]; omega)
  by_cases u4 : a4 < 0
  · skip
    exact good_L hr x_b3N220 (A5 a0 a1 a2 a3 a4) (by simp only [nP, nC, nL, R64, inR, dv, vL, okL, aOk, exOk, A5, List.length_cons, List.length_nil, true_and, and_true]; omega)
  by_cases w4 : a4 = 0
  · skip
    exact good_L hr x_b3N221 (A5 a0 a1 a2 a3 a4) (by simp only [nP, nC, nL, R64, inR, dv, vL, okL, aOk, exOk, A5, List.length_cons, List.length_nil, true_and, and_true]; omega)
  exact good_L hr x_b3N222 (A5 a0 a1 a2 a3 a4) (by simp only [nP, nC, nL, R64, inR, dv, vL, okL, aOk, exOk, A5, List.length_cons, List.length_nil, true_and, and_true]; omega)
theorem t3_Q (hr : RestOk) (x a0 a1 a2 a3 a4 : Int) (hx : x = (((a0 * 4096 + a1) * 4096 + a2) * 4096 + a3) * 4096 + a4) (b1 : -2048 ≤ a1 ∧ a1 ≤ 2047) (b2 : -2048 ≤ a2 ∧ a2 ≤ 2047) (b3 : -2048 ≤ a3 ∧ a3 ≤ 2047) (b4 : -2048 ≤ a4 ∧ a4 ≤ 2047)  (tt : a0 = 32768) (tl : a1 < 0) (n3 : ¬ (-2147483648 ≤ ((((a0 * 4096 + a1) * 4096 + a2) * 4096 + a3) * 4096 + a4) ∧ ((((a0 * 4096 + a1) * 4096 + a2) * 4096 + a3) * 4096 + a4) ≤ 2147483647)) (n2 : ¬ (-2147483648 ≤ (((a0 * 4096 + a1) * 4096 + a2) * 4096 + a3) ∧ (((a0 * 4096 + a1) * 4096 + a2) * 4096 + a3) ≤ 2147483647)) (n1 : ¬ (-2147483648 ≤ ((a0 * 4096 + a1) * 4096 + a2) ∧ ((a0 * 4096 + a1) * 4096 + a2) ≤ 2147483647)) (mx : -9223372036854775808 ≤ x ∧ x ≤ 9223372036854775807) (nt : True) (tp : -2147483648 ≤ (a0 * 4096 + a1) ∧ (a0 * 4096 + a1) ≤ 2147483647) : Good x := by
  by_cases u2 : a2 < 0
  · skip
    by_cases u3 : a3 < 0
    · skip
      by_cases u4 : a4 < 0
      · skip
        exact good_Q hr x_b3Q000 (A5 a0 a1 a2 a3 a4) (by simp only [nP, nC, nL, R64, inR, dv, vL, okL, aOk, exOk, A5, List.length_cons, List.length_nil, true_and, and_true]; omega)
      by_cases w4 : a4 = 0
      · skip
        exact good_Q hr x_b3Q001 (A5 a0 a1 a2 a3 a4) (by simp only [nP, nC, nL, R64, inR, dv, vL, okL, aOk, exOk, A5, List.length_cons, List.length_nil, true_and, and_true]; omega)
      exact good_Q hr x_b3Q002 (A5 a0 a1 a2 a3 a4) (by simp only [nP, nC, nL, R64, inR, dv, vL, okL, aOk, exOk, A5, List.length_cons, List.length_nil, true_and, and_true]; omega)
    by_cases w3 : a3 = 0
    · skip
      by_cases u4 : a4 < 0
      · skip
        exact good_Q hr x_b3Q010 (A5 a0 a1 a2 a3 a4) (by simp only [nP, nC, nL, R64, inR, dv, vL, okL, aOk, exOk, A5, List.length_cons, List.length_nil, true_and, and_true]; omega)
      by_cases w4 : a4 = 0
      · skip
        exact good_Q hr x_b3Q011 (A5 a0 a1 a2 a3 a4) (by simp only [nP, nC, nL, R64, inR, dv, vL, okL, aOk, exOk, A5, List.length_cons, List.length_nil, true_and, and_true]; omega)
      exact good_Q hr x_b3Q012 (A5 a0 a1 a2 a3 a4) (by simp only [nP, nC, nL, R64, inR, dv, vL, okL, aOk, exOk, A5, List.length_cons, List.length_nil, true_and, and_true]; omega)
    by_cases u4 : a4 < 0
    · skip
      exact good_Q hr x_b3Q020 (A5 a0 a1 a2 a3 a4) (by simp only [nP, nC, nL, R64, inR, dv, vL, okL, aOk, exOk, A5, List.length_cons, List.length_nil, true_and, and_true]; omega)
    by_cases w4 : a4 = 0
    · skip
      exact good_Q hr x_b3Q021 (A5 a0 a1 a2 a3 a4) (by simp only [nP, nC, nL, R64, inR, dv, vL, okL, aOk, exOk, A5, List.length_cons, List.length_nil, true_and, and_true]; omega)
    exact good_Q hr x_b3Q022 (A5 a0 a1 a2 a3 a4) (by simp only [nP, nC, nL, R64, inR, dv, vL, okL, aOk, exOk, A5, List.length_cons, List.length_nil, true_and, and_true]; omega)
  by_cases w2 : a2 = 0
  · skip
    by_cases u3 : a3 < 0
    · skip
      by_cases u4 : a4 < 0
      · skip
        exact good_Q hr x_b3Q100 (A5 a0 a1 a2 a3 a4) (by simp only [nP, nC, nL, R64, inR, dv, vL, okL, aOk, exOk, A5, List.length_cons, List.length_nil, true_and, and_true]; omega)
      by_cases w4 : a4 = 0
      · skip
        exact good_Q hr x_b3Q101 (A5 a0 a1 a2 a3 a4) (by simp only [nP, nC, nL, R64, inR, dv, vL, okL, aOk, exOk, A5, List.length_cons, List.length_nil, true_and, and_true]; omega)
      exact good_Q hr x_b3Q102 (A5 a0 a1 a2 a3 a4) (by simp only [nP, nC, nL, R64, inR, dv, vL, okL, aOk, exOk, A5, List.length_cons, List.length_nil, true_and, and_true]; omega)
    by_cases w3 : a3 = 0
    · skip
      by_cases u4 : a4 < 0
      · skip
        exact good_Q hr x_b3Q110 (A5 a0 a1 a2 a3 a4) (by simp only [nP, nC, nL, R64, inR, dv, vL, okL, aOk, exOk, A5, List.length_cons, List.length_nil, true_and, and_true]; omega)
      by_cases w4 : a4 = 0
      · skip
        exact good_Q hr x_b3Q111 (A5 a0 a1 a2 a3 a4) (by simp only [nP, nC, nL, R64, inR, dv, vL, okL, aOk, exOk, A5, List.length_cons, List.length_nil, true_and, and_true]; omega)
      exact good_Q hr x_b3Q112 (A5 a0 a1 a2 a3 a4) (by simp only [nP, nC, nL, R64, inR, dv, vL, okL, aOk, exOk, A5, List.length_cons, List.length_nil, true_and, and_true]; omega)
    by_cases u4 : a4 < 0
    · skip
      exact good_Q hr x_b3Q120 (A5 a0 a1 a2 a3 a4) (by simp only [nP, nC, nL, R64, inR, dv, vL, okL, aOk, exOk, A5, List.length_cons, List.length_nil, true_and, and_true]; omega)
    by_cases w4 : a4 = 0
    · skip
      exact good_Q hr x_b3Q121 (A5 a0 a1 a2 a3 a4) (by simp only [nP, nC, nL, R64, inR, dv, vL, okL, aOk, exOk, A5, List.length_cons, List.length_nil, true_and, and_true]; omega)
    exact good_Q hr x_b3Q122 (A5 a0 a1 a2 a3 a4) (by simp only [nP, nC, nL, R64, inR, dv, vL, okL, aOk, exOk, A5, List.length_cons, List.length_nil, true_and, and_true]; omega)
  by_cases u3 : a3 < 0
  · skip
    by_cases u4 : a4 < 0
    · skip
      exact good_Q hr x_b3Q200 (A5 a0 a1 a2 a3 a4) (by simp only [nP, nC, nL, R64, inR, dv, vL, okL, aOk, exOk, A5, List.length_cons, List.length_nil, true_and, and_true]; omega)
    by_cases w4 : a4 = 0
    · skip
      exact good_Q hr x_b3Q201 (A5 a0 a1 a2 a3 a4) (by simp only [nP, nC, nL, R64, inR, dv, vL, okL, aOk, exOk, A5, List.length_cons, List.length_nil, true_and, and_true]; omega)
    exact good_Q hr x_b3Q202 (A5 a0 a1 a2 a3 a4) (by simp only [nP, nC, nL, R64, inR, dv, vL, okL, aOk, exOk, A5, List.length_cons, List.length_nil, true_and, and_true]; omega)
  by_cases w3 : a3 = 0
  · skip
    by_cases u4 : a4 < 0
    · skip
      exact good_Q hr x_b3Q210 (A5 a0 a1 a2 a3 a4) (by simp only [nP, nC, nL, R64, inR, dv, vL, okL, aOk, exOk, A5, List.length_cons, List.length_nil, true_and, and_true]; omega)
    by_cases w4 : a4 = 0
    · skip
      exact good_Q hr x_b3Q211 (A5 a0 a1 a2 a3 a4) (by simp only [nP, nC, nL, R64, inR, dv, vL, okL, aOk, exOk, A5, List.length_cons, List.length_nil, true_and, and_true]; omega)
    exact good_Q hr x_b3Q212 (A5 a0 a1 a2 a3 a4) (by simp only [nP, nC, nL, R64, inR, dv, vL, okL, aOk, exOk, A5, List.length_cons, List.length_nil, true_and, and_true]; omega)
  by_cases u4 : a4 < 0
  · skip
    exact good_Q hr x_b3Q220 (A5 a0 a1 a2 a3 a4) (by simp only [nP, nC, nL, R64, inR, dv, vL, okL, aOk, exOk, A5, List.length_cons, List.length_nil, true_and, and_true]; omega)
  by_cases w4 : a4 = 0
  · skip
    exact good_Q hr x_b3Q221 (A5 a0 a1 a2 a3 a4) (by simp only [nP, nC, nL, R64, inR, dv, vL, okL, aOk, exOk, A5, List.length_cons, List.length_nil, true_and, and_true]; omega)
  exact good_Q hr x_b3Q222 (A5 a0 a1 a2 a3 a4) (by simp only [nP, nC, nL, R64, inR, dv, vL, okL, aOk, exOk, A5, List.length_cons, List.length_nil, true_and, and_true]; omega)
theorem t3_M (hr : RestOk) (x a0 a1 a2 a3 a4 : Int) (hx : x = (((a0 * 4096 + a1) * 4096 + a2) * 4096 + a3) * 4096 + a4) (b1 : -2048 ≤ a1 ∧ a1 ≤ 2047) (b2 : -2048 ≤ a2 ∧ a2 ≤ 2047) (b3 : -2048 ≤ a3 ∧ a3 ≤ 2047) (b4 : -2048 ≤ a4 ∧ a4 ≤ 2047)  (tt : a0 = -32768) (tl : 0 < a1) (n3 : ¬ (-2147483648 ≤ ((((a0 * 4096 + a1) * 4096 + a2) * 4096 + a3) * 4096 + a4) ∧ ((((a0 * 4096 + a1) * 4096 + a2) * 4096 + a3) * 4096 + a4) ≤ 2147483647)) (n2 : ¬ (-2147483648 ≤ (((a0 * 4096 + a1) * 4096 + a2) * 4096 + a3) ∧ (((a0 * 4096 + a1) * 4096 + a2) * 4096 + a3) ≤ 2147483647)) (n1 : ¬ (-2147483648 ≤ ((a0 * 4096 + a1) * 4096 + a2) ∧ ((a0 * 4096 + a1) * 4096 + a2) ≤ 2147483647)) (mx : -9223372036854775808 ≤ x ∧ x ≤ 9223372036854775807) (nt : True) (tp : -2147483648 ≤ (a0 * 4096 + a1) ∧ (a0 * 4096 + a1) ≤ 2147483647) : Good x := by
  by_cases u2 : a2 < 0
  · skip
    by_cases u3 : a3 < 0
    · skip
      by_cases u4 : a4 < 0
      · skip
        exact good_M hr x_b3M000 (A5 a0 a1 a2 a3 a4) (by simp only [nP, nC, nL, R64, inR, dv, vL, okL, aOk, exOk, A5, List.length_cons, List.length_nil, true_and, and_true]; omega)
      by_cases w4 : a4 = 0
      · skip
        exact good_M hr x_b3M001 (A5 a0 a1 a2 a3 a4) (by simp only [nP, nC, nL, R64, inR, dv, vL, okL, aOk, exOk, A5, List.length_cons, List.length_nil, true_and, and_true]; omega)
      exact good_M hr x_b3M002 (A5 a0 a1 a2 a3 a4) (by simp only [nP, nC, nL, R64, inR, dv, vL, okL, aOk, exOk, A5, List.length_cons, List.length_nil, true_and, and_true]; omega)
    by_cases w3 : a3 = 0
    · skip
      by_cases u4 : a4 < 0
      · skip
        exact good_M hr x_b3M010 (A5 a0 a1 a2 a3 a4) (by simp only [nP, nC, nL, R64, inR, dv, vL, okL, aOk, exOk, A5, List.length_cons, List.length_nil, true_and, and_true]; omega)
      by_cases w4 : a4 = 0
      · skip
        exact good_M hr x_b3M011 (A5 a0 a1 a2 a3 a4) (by simp only [nP, nC, nL, R64, inR, dv, vL, okL, aOk, exOk, A5, List.length_cons, List.length_nil, true_and, and_true]; omega)
      exact good_M hr x_b3M012 (A5 a0 a1 a2 a3 a4) (by simp only [nP, nC, nL, R64, inR, dv, vL, okL, aOk, exOk, A5, List.length_cons, List.length_nil, true_and, and_true]; omega)
    by_cases u4 : a4 < 0
    · skip
      exact good_M hr x_b3M020 (A5 a0 a1 a2 a3 a4) (by simp only [nP, nC, nL, R64, inR, dv, vL, okL, aOk, exOk, A5, List.length_cons, List.length_nil, true_and, and_true]; omega)
    by_cases w4 : a4 = 0
    · skip
      exact good_M hr x_b3M021 (A5 a0 a1 a2 a3 a4) (by simp only [nP, nC, nL, R64, inR, dv, vL, okL, aOk, exOk, A5, List.length_cons, List.length_nil, true_and, and_true]; omega)
    exact good_M hr x_b3M022 (A5 a0 a1 a2 a3 a4) (by simp only [nP, nC, nL, R64, inR, dv, vL, okL, aOk, exOk, A5, List.length_cons, List.length_nil, true_and, and_true]; omega)
  by_cases w2 : a2 = 0
  · skip
    by_cases u3 : a3 < 0
    · skip
      by_cases u4 : a4 < 0
      · skip
        exact good_M hr x_b3M100 (A5 a0 a1 a2 a3 a4) (by simp only [nP, nC, nL, R64, inR, dv, vL, okL, aOk, exOk, A5, List.length_cons, List.length_nil, true_and, and_true]; omega)
      by_cases w4 : a4 = 0
      · skip
        exact good_M hr x_b3M101 (A5 a0 a1 a2 a3 a4) (by simp only [nP, nC, nL, R64, inR, dv, vL, okL, aOk, exOk, A5, List.length_cons, List.length_nil, true_and, and_true]; omega)
      exact good_M hr x_b3M102 (A5 a0 a1 a2 a3 a4) (by simp only [nP, nC, nL, R64, inR, dv, vL, okL, aOk, exOk, A5, List.length_cons, List.length_nil, true_and, and_true]; omega)
    by_cases w3 : a3 = 0
    · skip
      by_cases u4 : a4 < 0
      · skip
        exact good_M hr x_b3M110 (A5 a0 a1 a2 a3 a4) (by simp only [nP, nC, nL, R64, inR, dv, vL, okL, aOk, exOk, A5, List.length_cons, List.length_nil, true_and, and_true]; omega)
      by_cases w4 : a4 = 0
      · skip
        exact good_M hr x_b3M111 (A5 a0 a1 a2 a3 a4) (by simp only [nP, nC, nL, R64, inR, dv, vL, okL, aOk, exOk, A5, List.length_cons, List.length_nil, true_and, and_true]; omega)
      exact good_M hr x_b3M112 (A5 a0 a1 a2 a3 a4) (by simp only [nP, nC, nL, R64, inR, dv, vL, okL, aOk, exOk, A5, List.length_cons, List.length_nil, true_and, and_true]; omega)
    by_cases u4 : a4 < 0
    · skip
      exact good_M hr x_b3M120 (A5 a0 a1 a2 a3 a4) (by simp only [nP, nC, nL, R64, inR, dv, vL, okL, aOk, exOk, A5, List.length_cons, List.length_nil, true_and, and_true]; omega)
    by_cases w4 : a4 = 0
    · skip
      exact good_M hr x_b3M121 (A5 a0 a1 a2 a3 a4) (by simp only [nP, nC, nL, R64, inR, dv, vL, okL, aOk, exOk, A5, List.length_cons, List.length_nil, true_and, and_true]; omega)
    exact good_M hr x_b3M122 (A5 a0 a1 a2 a3 a4) (by simp only [nP, nC, nL, R64, inR, dv, vL, okL, aOk, exOk, A5, List.length_cons, List.length_nil, true_and, and_true]; omega)
  by_cases u3 : a3 < 0
  · skip
    by_cases u4 : a4 < 0
    · skip
      exact good_M hr x_b3M200 (A5 a0 a1 a2 a3 a4) (by simp only [nP, nC, nL, R64, inR, dv, vL, okL, aOk, exOk, A5, List.length_cons, List.length_nil, true_and, and_true]; omega)
    by_cases w4 : a4 = 0
    · skip
      exact good_M hr x_b3M201 (A5 a0 a1 a2 a3 a4) (by simp only [nP, nC, nL, R64, inR, dv, vL, okL, aOk, exOk, A5, List.length_cons, List.length_nil, true_and, and_true]; omega)
    exact good_M hr x_b3M202 (A5 a0 a1 a2 a3 a4) (by simp only [nP, nC, nL, R64, inR, dv, vL, okL, aOk, exOk, A5, List.length_cons, List.length_nil, true_and, and_true]; omega)
  by_cases w3 : a3 = 0
  · skip
    by_cases u4 : a4 < 0
    · skip
      exact good_M hr x_b3M210 (A5 a0 a1 a2 a3 a4) (by simp only [nP, nC, nL, R64, inR, dv, vL, okL, aOk, exOk, A5, List.length_cons, List.length_nil, true_and, and_true]; omega)
    by_cases w4 : a4 = 0
    · skip
      exact good_M hr x_b3M211 (A5 a0 a1 a2 a3 a4) (by simp only [nP, nC, nL, R64, inR, dv, vL, okL, aOk, exOk, A5, List.length_cons, List.length_nil, true_and, and_true]; omega)
    exact good_M hr x_b3M212 (A5 a0 a1 a2 a3 a4) (by simp only [nP, nC, nL, R64, inR, dv, vL, okL, aOk, exOk, A5, List.length_cons, List.length_nil, true_and, and_true]; omega)
  by_cases u4 : a4 < 0
  · skip
    exact good_M hr x_b3M220 (A5 a0 a1 a2 a3 a4) (by simp only [nP, nC, nL, R64, inR, dv, vL, okL, aOk, exOk, A5, List.length_cons, List.length_nil, true_and, and_true]; omega)
  by_cases w4 : a4 = 0
  · skip
    exact good_M hr x_b3M221 (A5 a0 a1 a2 a3 a4) (by simp only [nP, nC, nL, R64, inR, dv, vL, okL, aOk, exOk, A5, List.length_cons, List.length_nil, true_and, and_true]; omega)
  exact good_M hr x_b3M222 (A5 a0 a1 a2 a3 a4) (by simp only [nP, nC, nL, R64, inR, dv, vL, okL, aOk, exOk, A5, List.length_cons, List.length_nil, true_and, and_true]; omega)
theorem cc3 (hr : RestOk) (x a0 a1 a2 a3 a4 : Int) (hx : x = (((a0 * 4096 + a1) * 4096 + a2) * 4096 + a3) * 4096 + a4) (b1 : -2048 ≤ a1 ∧ a1 ≤ 2047) (b2 : -2048 ≤ a2 ∧ a2 ≤ 2047) (b3 : -2048 ≤ a3 ∧ a3 ≤ 2047) (b4 : -2048 ≤ a4 ∧ a4 ≤ 2047)  (n3 : ¬ (-2147483648 ≤ ((((a0 * 4096 + a1) * 4096 + a2) * 4096 + a3) * 4096 + a4) ∧ ((((a0 * 4096 + a1) * 4096 + a2) * 4096 + a3) * 4096 + a4) ≤ 2147483647)) (n2 : ¬ (-2147483648 ≤ (((a0 * 4096 + a1) * 4096 + a2) * 4096 + a3) ∧ (((a0 * 4096 + a1) * 4096 + a2) * 4096 + a3) ≤ 2147483647)) (n1 : ¬ (-2147483648 ≤ ((a0 * 4096 + a1) * 4096 + a2) ∧ ((a0 * 4096 + a1) * 4096 + a2) ≤ 2147483647)) (mx : -9223372036854775808 ≤ x ∧ x ≤ 9223372036854775807) (nt : True) (tp : -2147483648 ≤ (a0 * 4096 + a1) ∧ (a0 * 4096 + a1) ≤ 2147483647) : Good x := by
  by_cases e1 : a0 = 32768
  · by_cases e2 : a1 = 0
    · exact t3_P hr x a0 a1 a2 a3 a4 hx b1 b2 b3 b4 (by omega) (by omega) n3 n2 n1 mx nt tp
    · exact t3_Q hr x a0 a1 a2 a3 a4 hx b1 b2 b3 b4 (by omega) (by omega) n3 n2 n1 mx nt tp
  by_cases e3 : a0 = -32768
  · by_cases e2 : a1 = 0
    · exact t3_N hr x a0 a1 a2 a3 a4 hx b1 b2 b3 b4 (by omega) (by omega) n3 n2 n1 mx nt tp
    · exact t3_M hr x a0 a1 a2 a3 a4 hx b1 b2 b3 b4 (by omega) (by omega) n3 n2 n1 mx nt tp
  by_cases e4 : 0 < a0
  · by_cases e2 : a1 = 0
    · exact t3_p1 hr x a0 a1 a2 a3 a4 hx b1 b2 b3 b4 (by omega) (by omega) n3 n2 n1 mx nt tp
    by_cases e5 : a1 < 0
    · exact t3_p0 hr x a0 a1 a2 a3 a4 hx b1 b2 b3 b4 (by omega) (by omega) n3 n2 n1 mx nt tp
    · exact t3_p2 hr x a0 a1 a2 a3 a4 hx b1 b2 b3 b4 (by omega) (by omega) n3 n2 n1 mx nt tp
  · by_cases e2 : a1 = 0
    · exact t3_n1 hr x a0 a1 a2 a3 a4 hx b1 b2 b3 b4 (by omega) (by omega) n3 n2 n1 mx nt tp
    by_cases e5 : a1 < 0
    · exact t3_n0 hr x a0 a1 a2 a3 a4 hx b1 b2 b3 b4 (by omega) (by omega) n3 n2 n1 mx nt tp
    · exact t3_n2 hr x a0 a1 a2 a3 a4 hx b1 b2 b3 b4 (by omega) (by omega) n3 n2 n1 mx nt tp
theorem all_good (hr : RestOk) (x : Int) (mx : -9223372036854775808 ≤ x ∧ x ≤ 9223372036854775807) : Good x := by
  by_cases h12 : -2048 ≤ x ∧ x ≤ 2047
  · by_cases hs : x < 0
    · exact good_a hr x_an (by omega) (by omega)
    · exact good_a hr x_ap (by omega) (by omega)
  obtain ⟨h, l, e, l1, l2⟩ := spl x
  by_cases hb : -2147483648 ≤ x ∧ x ≤ 2147483647
  · exact cc0 hr x h l e ⟨l1, l2⟩ mx h12 (by omega)
  obtain ⟨h', l', e', l1', l2'⟩ := spl h
  by_cases hb1 : -2147483648 ≤ h ∧ h ≤ 2147483647
  · exact cc1 hr x h' l' l (by omega) ⟨l1', l2'⟩ ⟨l1, l2⟩ (by omega) mx trivial (by omega)
  obtain ⟨h'', l'', e'', l1'', l2''⟩ := spl h'
  by_cases hb2 : -2147483648 ≤ h' ∧ h' ≤ 2147483647
  · exact cc2 hr x h'' l'' l' l (by omega) ⟨l1'', l2''⟩ ⟨l1', l2'⟩ ⟨l1, l2⟩ (by omega) (by omega) mx trivial (by omega)
  obtain ⟨h3, l3, e3, l13, l23⟩ := spl h''
  exact cc3 hr x h3 l3 l'' l' l (by omega) ⟨l13, l23⟩ ⟨l1'', l2''⟩ ⟨l1', l2'⟩ ⟨l1, l2⟩ (by omega) (by omega) (by omega) mx trivial (by omega)
end Go.Proofs.YtgcpcgaigbnniaaGreat
