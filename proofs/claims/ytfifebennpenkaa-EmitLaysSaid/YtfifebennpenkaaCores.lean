/-
  What conditions of EmitLays's paths imply. Conditions: those of each theorem.
-/
import Derived.Test.YtfifebennpenkaaTerms
namespace Go.Proofs.Ytfifebennpenkaa
open Go.Tw
theorem c0 [Val] (R : In64) (h4 : Bx.eval b4 = true) : Bx.eval b5 = true := by
  have r1 := R 1
  have g4 : (Val.num 1) < (-2147483648) := lss_t h4
  have xs0 := s0_is
  have xs1 := s1_x R
  have xs2 := s2_x R
  have ys2 := s2_b R
  have g : s2.eval < (-2048) := by omega
  exact lss_t' g
theorem c1 [Val] (R : In64) (h7 : Bx.eval b7 = true) : Bx.eval b8 = true := by
  have r1 := R 1
  have g7 : s2.eval < (-2147483648) := lss_t h7
  have xs0 := s0_is
  have xs1 := s1_x R
  have xs2 := s2_x R
  have ys2 := s2_b R
  have xs3 := s3_is
  have xs4 := s4_x R
  have xs5 := s5_x R
  have ys5 := s5_b R
  have g : s5.eval < (-2048) := by omega
  exact lss_t' g
theorem c2 [Val] (R : In64) (h10 : Bx.eval b10 = true) : Bx.eval b11 = true := by
  have r1 := R 1
  have g10 : s5.eval < (-2147483648) := lss_t h10
  have xs0 := s0_is
  have xs1 := s1_x R
  have xs2 := s2_x R
  have ys2 := s2_b R
  have xs3 := s3_is
  have xs4 := s4_x R
  have xs5 := s5_x R
  have ys5 := s5_b R
  have xs6 := s6_is
  have xs7 := s7_x R
  have xs8 := s8_x R
  have ys8 := s8_b R
  have g : s8.eval < (-2048) := by omega
  exact lss_t' g
theorem c3 [Val] (R : In64) : Bx.eval b13 = false := by
  have r1 := R 1
  have xs0 := s0_is
  have xs1 := s1_x R
  have xs2 := s2_x R
  have ys2 := s2_b R
  have xs3 := s3_is
  have xs4 := s4_x R
  have xs5 := s5_x R
  have ys5 := s5_b R
  have xs6 := s6_is
  have xs7 := s7_x R
  have xs8 := s8_x R
  have ys8 := s8_b R
  have g : ¬ s8.eval < (-2147483648) := by omega
  exact lss_f' g
theorem c4 [Val] (R : In64) : Bx.eval b14 = true := by
  have r1 := R 1
  have xs0 := s0_is
  have xs1 := s1_x R
  have xs2 := s2_x R
  have ys2 := s2_b R
  have xs3 := s3_is
  have xs4 := s4_x R
  have xs5 := s5_x R
  have ys5 := s5_b R
  have xs6 := s6_is
  have xs7 := s7_x R
  have xs8 := s8_x R
  have ys8 := s8_b R
  have g : s8.eval < 2147483648 := by omega
  exact lss_t' g
theorem c5 [Val] (R : In64) : Bx.eval b15 = false := by
  have r1 := R 1
  have xs0 := s0_is
  have xs1 := s1_x R
  have xs2 := s2_x R
  have ys2 := s2_b R
  have xs3 := s3_is
  have xs4 := s4_x R
  have xs5 := s5_x R
  have ys5 := s5_b R
  have xs6 := s6_is
  have xs7 := s7_x R
  have xs8 := s8_x R
  have ys8 := s8_b R
  have xs9 := s9_is
  have xs10 := s10_x R
  have xs11 := s11_x R
  have ys11 := s11_b R
  have g : ¬ s11.eval = 524288 := by omega
  exact eql_f' g
theorem c6 [Val] (R : In64) : Bx.eval b20 = false := by
  have r1 := R 1
  have xs0 := s0_is
  have xs1 := s1_x R
  have xs2 := s2_x R
  have ys2 := s2_b R
  have xs3 := s3_is
  have xs4 := s4_x R
  have xs5 := s5_x R
  have ys5 := s5_b R
  have xs6 := s6_is
  have xs7 := s7_x R
  have xs8 := s8_x R
  have ys8 := s8_b R
  have xs9 := s9_is
  have xs12 := s12_x
  have xs13 := s13_x R
  have xs14 := s14_x R
  have ys14 := s14_b R
  have g : ¬ s14.eval = 524288 := by omega
  exact eql_f' g
theorem c7 [Val] (R : In64) : Bx.eval b21 = false := by
  have r1 := R 1
  have xs0 := s0_is
  have xs1 := s1_x R
  have xs2 := s2_x R
  have ys2 := s2_b R
  have xs3 := s3_is
  have xs4 := s4_x R
  have xs5 := s5_x R
  have ys5 := s5_b R
  have xs6 := s6_is
  have xs7 := s7_x R
  have xs8 := s8_x R
  have ys8 := s8_b R
  have xs9 := s9_is
  have xs12 := s12_x
  have g : ¬ s12.eval = 0 := by omega
  exact eql_f' g
theorem c8 [Val] (R : In64) (h8 : Bx.eval b8 = true) : Bx.eval b22 = true := by
  have r1 := R 1
  have g8 : s5.eval < (-2048) := lss_t h8
  have xs0 := s0_is
  have xs1 := s1_x R
  have xs2 := s2_x R
  have ys2 := s2_b R
  have xs3 := s3_is
  have xs4 := s4_x R
  have xs5 := s5_x R
  have ys5 := s5_b R
  have g : s5.eval < 2147483648 := by omega
  exact lss_t' g
theorem c9 [Val] (R : In64) (h22 : Bx.eval b22 = true) : Bx.eval b23 = false := by
  have r1 := R 1
  have g22 : s5.eval < 2147483648 := lss_t h22
  have xs0 := s0_is
  have xs1 := s1_x R
  have xs2 := s2_x R
  have ys2 := s2_b R
  have xs3 := s3_is
  have xs4 := s4_x R
  have xs5 := s5_x R
  have ys5 := s5_b R
  have xs6 := s6_is
  have xs7 := s7_x R
  have xs8 := s8_x R
  have ys8 := s8_b R
  have g : ¬ s8.eval = 524288 := by omega
  exact eql_f' g
theorem c10 [Val] (R : In64) (h10 : Bx.eval b10 = true) : Bx.eval b24 = true := by
  have r1 := R 1
  have g10 : s5.eval < (-2147483648) := lss_t h10
  have xs0 := s0_is
  have xs1 := s1_x R
  have xs2 := s2_x R
  have ys2 := s2_b R
  have xs3 := s3_is
  have xs4 := s4_x R
  have xs5 := s5_x R
  have ys5 := s5_b R
  have xs6 := s6_is
  have xs15 := s15_x
  have xs16 := s16_x R
  have xs17 := s17_x R
  have ys17 := s17_b R
  have g : s17.eval < (-2048) := by omega
  exact lss_t' g
theorem c11 [Val] (R : In64) : Bx.eval b26 = false := by
  have r1 := R 1
  have xs0 := s0_is
  have xs1 := s1_x R
  have xs2 := s2_x R
  have ys2 := s2_b R
  have xs3 := s3_is
  have xs4 := s4_x R
  have xs5 := s5_x R
  have ys5 := s5_b R
  have xs6 := s6_is
  have xs15 := s15_x
  have xs16 := s16_x R
  have xs17 := s17_x R
  have ys17 := s17_b R
  have g : ¬ s17.eval < (-2147483648) := by omega
  exact lss_f' g
theorem c12 [Val] (R : In64) : Bx.eval b27 = true := by
  have r1 := R 1
  have xs0 := s0_is
  have xs1 := s1_x R
  have xs2 := s2_x R
  have ys2 := s2_b R
  have xs3 := s3_is
  have xs4 := s4_x R
  have xs5 := s5_x R
  have ys5 := s5_b R
  have xs6 := s6_is
  have xs15 := s15_x
  have xs16 := s16_x R
  have xs17 := s17_x R
  have ys17 := s17_b R
  have g : s17.eval < 2147483648 := by omega
  exact lss_t' g
theorem c13 [Val] (R : In64) : Bx.eval b28 = false := by
  have r1 := R 1
  have xs0 := s0_is
  have xs1 := s1_x R
  have xs2 := s2_x R
  have ys2 := s2_b R
  have xs3 := s3_is
  have xs4 := s4_x R
  have xs5 := s5_x R
  have ys5 := s5_b R
  have xs6 := s6_is
  have xs15 := s15_x
  have xs16 := s16_x R
  have xs17 := s17_x R
  have ys17 := s17_b R
  have xs18 := s18_is
  have xs19 := s19_x R
  have xs20 := s20_x R
  have ys20 := s20_b R
  have g : ¬ s20.eval = 524288 := by omega
  exact eql_f' g
theorem c14 [Val] (R : In64) : Bx.eval b30 = false := by
  have r1 := R 1
  have xs0 := s0_is
  have xs1 := s1_x R
  have xs2 := s2_x R
  have ys2 := s2_b R
  have xs3 := s3_is
  have xs4 := s4_x R
  have xs5 := s5_x R
  have ys5 := s5_b R
  have xs6 := s6_is
  have xs15 := s15_x
  have g : ¬ s15.eval = 0 := by omega
  exact eql_f' g
theorem c15 [Val] (R : In64) : Bx.eval b31 = false := by
  have r1 := R 1
  have xs0 := s0_is
  have xs1 := s1_x R
  have xs2 := s2_x R
  have ys2 := s2_b R
  have xs3 := s3_is
  have xs4 := s4_x R
  have xs5 := s5_x R
  have ys5 := s5_b R
  have xs6 := s6_is
  have xs15 := s15_x
  have xs16 := s16_x R
  have xs17 := s17_x R
  have ys17 := s17_b R
  have xs18 := s18_is
  have xs21 := s21_x
  have xs22 := s22_x R
  have xs23 := s23_x R
  have ys23 := s23_b R
  have g : ¬ s23.eval = 524288 := by omega
  exact eql_f' g
theorem c16 [Val] (R : In64) : Bx.eval b32 = false := by
  have r1 := R 1
  have xs0 := s0_is
  have xs1 := s1_x R
  have xs2 := s2_x R
  have ys2 := s2_b R
  have xs3 := s3_is
  have xs4 := s4_x R
  have xs5 := s5_x R
  have ys5 := s5_b R
  have xs6 := s6_is
  have xs15 := s15_x
  have xs16 := s16_x R
  have xs17 := s17_x R
  have ys17 := s17_b R
  have xs18 := s18_is
  have xs21 := s21_x
  have g : ¬ s21.eval = 0 := by omega
  exact eql_f' g
theorem c17 [Val] (R : In64) (h8 : Bx.eval b8 = true) : Bx.eval b33 = false := by
  have r1 := R 1
  have g8 : s5.eval < (-2048) := lss_t h8
  have xs0 := s0_is
  have xs1 := s1_x R
  have xs2 := s2_x R
  have ys2 := s2_b R
  have xs3 := s3_is
  have xs4 := s4_x R
  have xs5 := s5_x R
  have ys5 := s5_b R
  have xs6 := s6_is
  have xs15 := s15_x
  have xs16 := s16_x R
  have xs17 := s17_x R
  have ys17 := s17_b R
  have g : ¬ s17.eval = 524288 := by omega
  exact eql_f' g
theorem c18 [Val] (R : In64) (h5 : Bx.eval b5 = true) : Bx.eval b34 = true := by
  have r1 := R 1
  have g5 : s2.eval < (-2048) := lss_t h5
  have xs0 := s0_is
  have xs1 := s1_x R
  have xs2 := s2_x R
  have ys2 := s2_b R
  have g : s2.eval < 2147483648 := by omega
  exact lss_t' g
theorem c19 [Val] (R : In64) (h34 : Bx.eval b34 = true) : Bx.eval b35 = false := by
  have r1 := R 1
  have g34 : s2.eval < 2147483648 := lss_t h34
  have xs0 := s0_is
  have xs1 := s1_x R
  have xs2 := s2_x R
  have ys2 := s2_b R
  have xs3 := s3_is
  have xs4 := s4_x R
  have xs5 := s5_x R
  have ys5 := s5_b R
  have g : ¬ s5.eval = 524288 := by omega
  exact eql_f' g
theorem c20 [Val] (R : In64) (h7 : Bx.eval b7 = true) : Bx.eval b36 = true := by
  have r1 := R 1
  have g7 : s2.eval < (-2147483648) := lss_t h7
  have xs0 := s0_is
  have xs1 := s1_x R
  have xs2 := s2_x R
  have ys2 := s2_b R
  have xs3 := s3_is
  have xs24 := s24_x
  have xs25 := s25_x R
  have xs26 := s26_x R
  have ys26 := s26_b R
  have g : s26.eval < (-2048) := by omega
  exact lss_t' g
theorem c21 [Val] (R : In64) (h38 : Bx.eval b38 = true) : Bx.eval b39 = true := by
  have r1 := R 1
  have g38 : s26.eval < (-2147483648) := lss_t h38
  have xs0 := s0_is
  have xs1 := s1_x R
  have xs2 := s2_x R
  have ys2 := s2_b R
  have xs3 := s3_is
  have xs24 := s24_x
  have xs25 := s25_x R
  have xs26 := s26_x R
  have ys26 := s26_b R
  have xs27 := s27_is
  have xs28 := s28_x R
  have xs29 := s29_x R
  have ys29 := s29_b R
  have g : s29.eval < (-2048) := by omega
  exact lss_t' g
theorem c22 [Val] (R : In64) : Bx.eval b41 = false := by
  have r1 := R 1
  have xs0 := s0_is
  have xs1 := s1_x R
  have xs2 := s2_x R
  have ys2 := s2_b R
  have xs3 := s3_is
  have xs24 := s24_x
  have xs25 := s25_x R
  have xs26 := s26_x R
  have ys26 := s26_b R
  have xs27 := s27_is
  have xs28 := s28_x R
  have xs29 := s29_x R
  have ys29 := s29_b R
  have g : ¬ s29.eval < (-2147483648) := by omega
  exact lss_f' g
theorem c23 [Val] (R : In64) : Bx.eval b42 = true := by
  have r1 := R 1
  have xs0 := s0_is
  have xs1 := s1_x R
  have xs2 := s2_x R
  have ys2 := s2_b R
  have xs3 := s3_is
  have xs24 := s24_x
  have xs25 := s25_x R
  have xs26 := s26_x R
  have ys26 := s26_b R
  have xs27 := s27_is
  have xs28 := s28_x R
  have xs29 := s29_x R
  have ys29 := s29_b R
  have g : s29.eval < 2147483648 := by omega
  exact lss_t' g
theorem c24 [Val] (R : In64) : Bx.eval b43 = false := by
  have r1 := R 1
  have xs0 := s0_is
  have xs1 := s1_x R
  have xs2 := s2_x R
  have ys2 := s2_b R
  have xs3 := s3_is
  have xs24 := s24_x
  have xs25 := s25_x R
  have xs26 := s26_x R
  have ys26 := s26_b R
  have xs27 := s27_is
  have xs28 := s28_x R
  have xs29 := s29_x R
  have ys29 := s29_b R
  have xs30 := s30_is
  have xs31 := s31_x R
  have xs32 := s32_x R
  have ys32 := s32_b R
  have g : ¬ s32.eval = 524288 := by omega
  exact eql_f' g
theorem c25 [Val] (R : In64) : Bx.eval b46 = false := by
  have r1 := R 1
  have xs0 := s0_is
  have xs1 := s1_x R
  have xs2 := s2_x R
  have ys2 := s2_b R
  have xs3 := s3_is
  have xs24 := s24_x
  have g : ¬ s24.eval = 0 := by omega
  exact eql_f' g
theorem c26 [Val] (R : In64) : Bx.eval b47 = false := by
  have r1 := R 1
  have xs0 := s0_is
  have xs1 := s1_x R
  have xs2 := s2_x R
  have ys2 := s2_b R
  have xs3 := s3_is
  have xs24 := s24_x
  have xs25 := s25_x R
  have xs26 := s26_x R
  have ys26 := s26_b R
  have xs27 := s27_is
  have xs28 := s28_x R
  have xs29 := s29_x R
  have ys29 := s29_b R
  have xs30 := s30_is
  have xs33 := s33_x
  have xs34 := s34_x R
  have xs35 := s35_x R
  have ys35 := s35_b R
  have g : ¬ s35.eval = 524288 := by omega
  exact eql_f' g
theorem c27 [Val] (R : In64) : Bx.eval b48 = false := by
  have r1 := R 1
  have xs0 := s0_is
  have xs1 := s1_x R
  have xs2 := s2_x R
  have ys2 := s2_b R
  have xs3 := s3_is
  have xs24 := s24_x
  have xs25 := s25_x R
  have xs26 := s26_x R
  have ys26 := s26_b R
  have xs27 := s27_is
  have xs28 := s28_x R
  have xs29 := s29_x R
  have ys29 := s29_b R
  have xs30 := s30_is
  have xs33 := s33_x
  have g : ¬ s33.eval = 0 := by omega
  exact eql_f' g
theorem c28 [Val] (R : In64) (h36 : Bx.eval b36 = true) : Bx.eval b49 = true := by
  have r1 := R 1
  have g36 : s26.eval < (-2048) := lss_t h36
  have xs0 := s0_is
  have xs1 := s1_x R
  have xs2 := s2_x R
  have ys2 := s2_b R
  have xs3 := s3_is
  have xs24 := s24_x
  have xs25 := s25_x R
  have xs26 := s26_x R
  have ys26 := s26_b R
  have g : s26.eval < 2147483648 := by omega
  exact lss_t' g
theorem c29 [Val] (R : In64) (h49 : Bx.eval b49 = true) : Bx.eval b50 = false := by
  have r1 := R 1
  have g49 : s26.eval < 2147483648 := lss_t h49
  have xs0 := s0_is
  have xs1 := s1_x R
  have xs2 := s2_x R
  have ys2 := s2_b R
  have xs3 := s3_is
  have xs24 := s24_x
  have xs25 := s25_x R
  have xs26 := s26_x R
  have ys26 := s26_b R
  have xs27 := s27_is
  have xs28 := s28_x R
  have xs29 := s29_x R
  have ys29 := s29_b R
  have g : ¬ s29.eval = 524288 := by omega
  exact eql_f' g
theorem c30 [Val] (R : In64) (h38 : Bx.eval b38 = true) : Bx.eval b51 = true := by
  have r1 := R 1
  have g38 : s26.eval < (-2147483648) := lss_t h38
  have xs0 := s0_is
  have xs1 := s1_x R
  have xs2 := s2_x R
  have ys2 := s2_b R
  have xs3 := s3_is
  have xs24 := s24_x
  have xs25 := s25_x R
  have xs26 := s26_x R
  have ys26 := s26_b R
  have xs27 := s27_is
  have xs36 := s36_x
  have xs37 := s37_x R
  have xs38 := s38_x R
  have ys38 := s38_b R
  have g : s38.eval < (-2048) := by omega
  exact lss_t' g
theorem c31 [Val] (R : In64) : Bx.eval b53 = false := by
  have r1 := R 1
  have xs0 := s0_is
  have xs1 := s1_x R
  have xs2 := s2_x R
  have ys2 := s2_b R
  have xs3 := s3_is
  have xs24 := s24_x
  have xs25 := s25_x R
  have xs26 := s26_x R
  have ys26 := s26_b R
  have xs27 := s27_is
  have xs36 := s36_x
  have xs37 := s37_x R
  have xs38 := s38_x R
  have ys38 := s38_b R
  have g : ¬ s38.eval < (-2147483648) := by omega
  exact lss_f' g
theorem c32 [Val] (R : In64) : Bx.eval b54 = true := by
  have r1 := R 1
  have xs0 := s0_is
  have xs1 := s1_x R
  have xs2 := s2_x R
  have ys2 := s2_b R
  have xs3 := s3_is
  have xs24 := s24_x
  have xs25 := s25_x R
  have xs26 := s26_x R
  have ys26 := s26_b R
  have xs27 := s27_is
  have xs36 := s36_x
  have xs37 := s37_x R
  have xs38 := s38_x R
  have ys38 := s38_b R
  have g : s38.eval < 2147483648 := by omega
  exact lss_t' g
theorem c33 [Val] (R : In64) : Bx.eval b55 = false := by
  have r1 := R 1
  have xs0 := s0_is
  have xs1 := s1_x R
  have xs2 := s2_x R
  have ys2 := s2_b R
  have xs3 := s3_is
  have xs24 := s24_x
  have xs25 := s25_x R
  have xs26 := s26_x R
  have ys26 := s26_b R
  have xs27 := s27_is
  have xs36 := s36_x
  have xs37 := s37_x R
  have xs38 := s38_x R
  have ys38 := s38_b R
  have xs39 := s39_is
  have xs40 := s40_x R
  have xs41 := s41_x R
  have ys41 := s41_b R
  have g : ¬ s41.eval = 524288 := by omega
  exact eql_f' g
theorem c34 [Val] (R : In64) : Bx.eval b57 = false := by
  have r1 := R 1
  have xs0 := s0_is
  have xs1 := s1_x R
  have xs2 := s2_x R
  have ys2 := s2_b R
  have xs3 := s3_is
  have xs24 := s24_x
  have xs25 := s25_x R
  have xs26 := s26_x R
  have ys26 := s26_b R
  have xs27 := s27_is
  have xs36 := s36_x
  have g : ¬ s36.eval = 0 := by omega
  exact eql_f' g
theorem c35 [Val] (R : In64) : Bx.eval b58 = false := by
  have r1 := R 1
  have xs0 := s0_is
  have xs1 := s1_x R
  have xs2 := s2_x R
  have ys2 := s2_b R
  have xs3 := s3_is
  have xs24 := s24_x
  have xs25 := s25_x R
  have xs26 := s26_x R
  have ys26 := s26_b R
  have xs27 := s27_is
  have xs36 := s36_x
  have xs37 := s37_x R
  have xs38 := s38_x R
  have ys38 := s38_b R
  have xs39 := s39_is
  have xs42 := s42_x
  have xs43 := s43_x R
  have xs44 := s44_x R
  have ys44 := s44_b R
  have g : ¬ s44.eval = 524288 := by omega
  exact eql_f' g
theorem c36 [Val] (R : In64) : Bx.eval b59 = false := by
  have r1 := R 1
  have xs0 := s0_is
  have xs1 := s1_x R
  have xs2 := s2_x R
  have ys2 := s2_b R
  have xs3 := s3_is
  have xs24 := s24_x
  have xs25 := s25_x R
  have xs26 := s26_x R
  have ys26 := s26_b R
  have xs27 := s27_is
  have xs36 := s36_x
  have xs37 := s37_x R
  have xs38 := s38_x R
  have ys38 := s38_b R
  have xs39 := s39_is
  have xs42 := s42_x
  have g : ¬ s42.eval = 0 := by omega
  exact eql_f' g
theorem c37 [Val] (R : In64) (h36 : Bx.eval b36 = true) : Bx.eval b60 = false := by
  have r1 := R 1
  have g36 : s26.eval < (-2048) := lss_t h36
  have xs0 := s0_is
  have xs1 := s1_x R
  have xs2 := s2_x R
  have ys2 := s2_b R
  have xs3 := s3_is
  have xs24 := s24_x
  have xs25 := s25_x R
  have xs26 := s26_x R
  have ys26 := s26_b R
  have xs27 := s27_is
  have xs36 := s36_x
  have xs37 := s37_x R
  have xs38 := s38_x R
  have ys38 := s38_b R
  have g : ¬ s38.eval = 524288 := by omega
  exact eql_f' g
theorem c38 [Val] (R : In64) (h5 : Bx.eval b5 = true) : Bx.eval b61 = false := by
  have r1 := R 1
  have g5 : s2.eval < (-2048) := lss_t h5
  have xs0 := s0_is
  have xs1 := s1_x R
  have xs2 := s2_x R
  have ys2 := s2_b R
  have xs3 := s3_is
  have xs24 := s24_x
  have xs25 := s25_x R
  have xs26 := s26_x R
  have ys26 := s26_b R
  have g : ¬ s26.eval = 524288 := by omega
  exact eql_f' g
theorem c39 [Val] (R : In64) (h2 : Bx.eval b2 = true) : Bx.eval b62 = true := by
  have r1 := R 1
  have g2 : (Val.num 1) < (-2048) := lss_t h2
  have g : (Val.num 1) < 2147483648 := by omega
  exact lss_t' g
theorem c40 [Val] (R : In64) (h62 : Bx.eval b62 = true) : Bx.eval b63 = false := by
  have r1 := R 1
  have g62 : (Val.num 1) < 2147483648 := lss_t h62
  have xs0 := s0_is
  have xs1 := s1_x R
  have xs2 := s2_x R
  have ys2 := s2_b R
  have g : ¬ s2.eval = 524288 := by omega
  exact eql_f' g
theorem c41 [Val] (R : In64) (h4 : Bx.eval b4 = true) : Bx.eval b64 = true := by
  have r1 := R 1
  have g4 : (Val.num 1) < (-2147483648) := lss_t h4
  have xs0 := s0_is
  have xs45 := s45_x
  have xs46 := s46_x R
  have xs47 := s47_x R
  have ys47 := s47_b R
  have g : s47.eval < (-2048) := by omega
  exact lss_t' g
theorem c42 [Val] (R : In64) (h66 : Bx.eval b66 = true) : Bx.eval b67 = true := by
  have r1 := R 1
  have g66 : s47.eval < (-2147483648) := lss_t h66
  have xs0 := s0_is
  have xs45 := s45_x
  have xs46 := s46_x R
  have xs47 := s47_x R
  have ys47 := s47_b R
  have xs48 := s48_is
  have xs49 := s49_x R
  have xs50 := s50_x R
  have ys50 := s50_b R
  have g : s50.eval < (-2048) := by omega
  exact lss_t' g
theorem c43 [Val] (R : In64) (h69 : Bx.eval b69 = true) : Bx.eval b70 = true := by
  have r1 := R 1
  have g69 : s50.eval < (-2147483648) := lss_t h69
  have xs0 := s0_is
  have xs45 := s45_x
  have xs46 := s46_x R
  have xs47 := s47_x R
  have ys47 := s47_b R
  have xs48 := s48_is
  have xs49 := s49_x R
  have xs50 := s50_x R
  have ys50 := s50_b R
  have xs51 := s51_is
  have xs52 := s52_x R
  have xs53 := s53_x R
  have ys53 := s53_b R
  have g : s53.eval < (-2048) := by omega
  exact lss_t' g
theorem c44 [Val] (R : In64) : Bx.eval b72 = false := by
  have r1 := R 1
  have xs0 := s0_is
  have xs45 := s45_x
  have xs46 := s46_x R
  have xs47 := s47_x R
  have ys47 := s47_b R
  have xs48 := s48_is
  have xs49 := s49_x R
  have xs50 := s50_x R
  have ys50 := s50_b R
  have xs51 := s51_is
  have xs52 := s52_x R
  have xs53 := s53_x R
  have ys53 := s53_b R
  have g : ¬ s53.eval < (-2147483648) := by omega
  exact lss_f' g
theorem c45 [Val] (R : In64) : Bx.eval b73 = true := by
  have r1 := R 1
  have xs0 := s0_is
  have xs45 := s45_x
  have xs46 := s46_x R
  have xs47 := s47_x R
  have ys47 := s47_b R
  have xs48 := s48_is
  have xs49 := s49_x R
  have xs50 := s50_x R
  have ys50 := s50_b R
  have xs51 := s51_is
  have xs52 := s52_x R
  have xs53 := s53_x R
  have ys53 := s53_b R
  have g : s53.eval < 2147483648 := by omega
  exact lss_t' g
theorem c46 [Val] (R : In64) : Bx.eval b74 = false := by
  have r1 := R 1
  have xs0 := s0_is
  have xs45 := s45_x
  have xs46 := s46_x R
  have xs47 := s47_x R
  have ys47 := s47_b R
  have xs48 := s48_is
  have xs49 := s49_x R
  have xs50 := s50_x R
  have ys50 := s50_b R
  have xs51 := s51_is
  have xs52 := s52_x R
  have xs53 := s53_x R
  have ys53 := s53_b R
  have xs54 := s54_is
  have xs55 := s55_x R
  have xs56 := s56_x R
  have ys56 := s56_b R
  have g : ¬ s56.eval = 524288 := by omega
  exact eql_f' g
theorem c47 [Val] (R : In64) : Bx.eval b78 = false := by
  have r1 := R 1
  have xs0 := s0_is
  have xs45 := s45_x
  have g : ¬ s45.eval = 0 := by omega
  exact eql_f' g
theorem c48 [Val] (R : In64) : Bx.eval b79 = false := by
  have r1 := R 1
  have xs0 := s0_is
  have xs45 := s45_x
  have xs46 := s46_x R
  have xs47 := s47_x R
  have ys47 := s47_b R
  have xs48 := s48_is
  have xs49 := s49_x R
  have xs50 := s50_x R
  have ys50 := s50_b R
  have xs51 := s51_is
  have xs52 := s52_x R
  have xs53 := s53_x R
  have ys53 := s53_b R
  have xs54 := s54_is
  have xs57 := s57_x
  have xs58 := s58_x R
  have xs59 := s59_x R
  have ys59 := s59_b R
  have g : ¬ s59.eval = 524288 := by omega
  exact eql_f' g
theorem c49 [Val] (R : In64) : Bx.eval b80 = false := by
  have r1 := R 1
  have xs0 := s0_is
  have xs45 := s45_x
  have xs46 := s46_x R
  have xs47 := s47_x R
  have ys47 := s47_b R
  have xs48 := s48_is
  have xs49 := s49_x R
  have xs50 := s50_x R
  have ys50 := s50_b R
  have xs51 := s51_is
  have xs52 := s52_x R
  have xs53 := s53_x R
  have ys53 := s53_b R
  have xs54 := s54_is
  have xs57 := s57_x
  have g : ¬ s57.eval = 0 := by omega
  exact eql_f' g
theorem c50 [Val] (R : In64) (h67 : Bx.eval b67 = true) : Bx.eval b81 = true := by
  have r1 := R 1
  have g67 : s50.eval < (-2048) := lss_t h67
  have xs0 := s0_is
  have xs45 := s45_x
  have xs46 := s46_x R
  have xs47 := s47_x R
  have ys47 := s47_b R
  have xs48 := s48_is
  have xs49 := s49_x R
  have xs50 := s50_x R
  have ys50 := s50_b R
  have g : s50.eval < 2147483648 := by omega
  exact lss_t' g
theorem c51 [Val] (R : In64) (h81 : Bx.eval b81 = true) : Bx.eval b82 = false := by
  have r1 := R 1
  have g81 : s50.eval < 2147483648 := lss_t h81
  have xs0 := s0_is
  have xs45 := s45_x
  have xs46 := s46_x R
  have xs47 := s47_x R
  have ys47 := s47_b R
  have xs48 := s48_is
  have xs49 := s49_x R
  have xs50 := s50_x R
  have ys50 := s50_b R
  have xs51 := s51_is
  have xs52 := s52_x R
  have xs53 := s53_x R
  have ys53 := s53_b R
  have g : ¬ s53.eval = 524288 := by omega
  exact eql_f' g
theorem c52 [Val] (R : In64) (h69 : Bx.eval b69 = true) : Bx.eval b83 = true := by
  have r1 := R 1
  have g69 : s50.eval < (-2147483648) := lss_t h69
  have xs0 := s0_is
  have xs45 := s45_x
  have xs46 := s46_x R
  have xs47 := s47_x R
  have ys47 := s47_b R
  have xs48 := s48_is
  have xs49 := s49_x R
  have xs50 := s50_x R
  have ys50 := s50_b R
  have xs51 := s51_is
  have xs60 := s60_x
  have xs61 := s61_x R
  have xs62 := s62_x R
  have ys62 := s62_b R
  have g : s62.eval < (-2048) := by omega
  exact lss_t' g
theorem c53 [Val] (R : In64) : Bx.eval b85 = false := by
  have r1 := R 1
  have xs0 := s0_is
  have xs45 := s45_x
  have xs46 := s46_x R
  have xs47 := s47_x R
  have ys47 := s47_b R
  have xs48 := s48_is
  have xs49 := s49_x R
  have xs50 := s50_x R
  have ys50 := s50_b R
  have xs51 := s51_is
  have xs60 := s60_x
  have xs61 := s61_x R
  have xs62 := s62_x R
  have ys62 := s62_b R
  have g : ¬ s62.eval < (-2147483648) := by omega
  exact lss_f' g
theorem c54 [Val] (R : In64) : Bx.eval b86 = true := by
  have r1 := R 1
  have xs0 := s0_is
  have xs45 := s45_x
  have xs46 := s46_x R
  have xs47 := s47_x R
  have ys47 := s47_b R
  have xs48 := s48_is
  have xs49 := s49_x R
  have xs50 := s50_x R
  have ys50 := s50_b R
  have xs51 := s51_is
  have xs60 := s60_x
  have xs61 := s61_x R
  have xs62 := s62_x R
  have ys62 := s62_b R
  have g : s62.eval < 2147483648 := by omega
  exact lss_t' g
theorem c55 [Val] (R : In64) : Bx.eval b87 = false := by
  have r1 := R 1
  have xs0 := s0_is
  have xs45 := s45_x
  have xs46 := s46_x R
  have xs47 := s47_x R
  have ys47 := s47_b R
  have xs48 := s48_is
  have xs49 := s49_x R
  have xs50 := s50_x R
  have ys50 := s50_b R
  have xs51 := s51_is
  have xs60 := s60_x
  have xs61 := s61_x R
  have xs62 := s62_x R
  have ys62 := s62_b R
  have xs63 := s63_is
  have xs64 := s64_x R
  have xs65 := s65_x R
  have ys65 := s65_b R
  have g : ¬ s65.eval = 524288 := by omega
  exact eql_f' g
theorem c56 [Val] (R : In64) : Bx.eval b89 = false := by
  have r1 := R 1
  have xs0 := s0_is
  have xs45 := s45_x
  have xs46 := s46_x R
  have xs47 := s47_x R
  have ys47 := s47_b R
  have xs48 := s48_is
  have xs49 := s49_x R
  have xs50 := s50_x R
  have ys50 := s50_b R
  have xs51 := s51_is
  have xs60 := s60_x
  have g : ¬ s60.eval = 0 := by omega
  exact eql_f' g
theorem c57 [Val] (R : In64) : Bx.eval b90 = false := by
  have r1 := R 1
  have xs0 := s0_is
  have xs45 := s45_x
  have xs46 := s46_x R
  have xs47 := s47_x R
  have ys47 := s47_b R
  have xs48 := s48_is
  have xs49 := s49_x R
  have xs50 := s50_x R
  have ys50 := s50_b R
  have xs51 := s51_is
  have xs60 := s60_x
  have xs61 := s61_x R
  have xs62 := s62_x R
  have ys62 := s62_b R
  have xs63 := s63_is
  have xs66 := s66_x
  have xs67 := s67_x R
  have xs68 := s68_x R
  have ys68 := s68_b R
  have g : ¬ s68.eval = 524288 := by omega
  exact eql_f' g
theorem c58 [Val] (R : In64) : Bx.eval b91 = false := by
  have r1 := R 1
  have xs0 := s0_is
  have xs45 := s45_x
  have xs46 := s46_x R
  have xs47 := s47_x R
  have ys47 := s47_b R
  have xs48 := s48_is
  have xs49 := s49_x R
  have xs50 := s50_x R
  have ys50 := s50_b R
  have xs51 := s51_is
  have xs60 := s60_x
  have xs61 := s61_x R
  have xs62 := s62_x R
  have ys62 := s62_b R
  have xs63 := s63_is
  have xs66 := s66_x
  have g : ¬ s66.eval = 0 := by omega
  exact eql_f' g
theorem c59 [Val] (R : In64) (h67 : Bx.eval b67 = true) : Bx.eval b92 = false := by
  have r1 := R 1
  have g67 : s50.eval < (-2048) := lss_t h67
  have xs0 := s0_is
  have xs45 := s45_x
  have xs46 := s46_x R
  have xs47 := s47_x R
  have ys47 := s47_b R
  have xs48 := s48_is
  have xs49 := s49_x R
  have xs50 := s50_x R
  have ys50 := s50_b R
  have xs51 := s51_is
  have xs60 := s60_x
  have xs61 := s61_x R
  have xs62 := s62_x R
  have ys62 := s62_b R
  have g : ¬ s62.eval = 524288 := by omega
  exact eql_f' g
theorem c60 [Val] (R : In64) (h64 : Bx.eval b64 = true) : Bx.eval b93 = true := by
  have r1 := R 1
  have g64 : s47.eval < (-2048) := lss_t h64
  have xs0 := s0_is
  have xs45 := s45_x
  have xs46 := s46_x R
  have xs47 := s47_x R
  have ys47 := s47_b R
  have g : s47.eval < 2147483648 := by omega
  exact lss_t' g
theorem c61 [Val] (R : In64) (h93 : Bx.eval b93 = true) : Bx.eval b94 = false := by
  have r1 := R 1
  have g93 : s47.eval < 2147483648 := lss_t h93
  have xs0 := s0_is
  have xs45 := s45_x
  have xs46 := s46_x R
  have xs47 := s47_x R
  have ys47 := s47_b R
  have xs48 := s48_is
  have xs49 := s49_x R
  have xs50 := s50_x R
  have ys50 := s50_b R
  have g : ¬ s50.eval = 524288 := by omega
  exact eql_f' g
theorem c62 [Val] (R : In64) (h66 : Bx.eval b66 = true) : Bx.eval b95 = true := by
  have r1 := R 1
  have g66 : s47.eval < (-2147483648) := lss_t h66
  have xs0 := s0_is
  have xs45 := s45_x
  have xs46 := s46_x R
  have xs47 := s47_x R
  have ys47 := s47_b R
  have xs48 := s48_is
  have xs69 := s69_x
  have xs70 := s70_x R
  have xs71 := s71_x R
  have ys71 := s71_b R
  have g : s71.eval < (-2048) := by omega
  exact lss_t' g
theorem c63 [Val] (R : In64) (h97 : Bx.eval b97 = true) : Bx.eval b98 = true := by
  have r1 := R 1
  have g97 : s71.eval < (-2147483648) := lss_t h97
  have xs0 := s0_is
  have xs45 := s45_x
  have xs46 := s46_x R
  have xs47 := s47_x R
  have ys47 := s47_b R
  have xs48 := s48_is
  have xs69 := s69_x
  have xs70 := s70_x R
  have xs71 := s71_x R
  have ys71 := s71_b R
  have xs72 := s72_is
  have xs73 := s73_x R
  have xs74 := s74_x R
  have ys74 := s74_b R
  have g : s74.eval < (-2048) := by omega
  exact lss_t' g
theorem c64 [Val] (R : In64) : Bx.eval b100 = false := by
  have r1 := R 1
  have xs0 := s0_is
  have xs45 := s45_x
  have xs46 := s46_x R
  have xs47 := s47_x R
  have ys47 := s47_b R
  have xs48 := s48_is
  have xs69 := s69_x
  have xs70 := s70_x R
  have xs71 := s71_x R
  have ys71 := s71_b R
  have xs72 := s72_is
  have xs73 := s73_x R
  have xs74 := s74_x R
  have ys74 := s74_b R
  have g : ¬ s74.eval < (-2147483648) := by omega
  exact lss_f' g
theorem c65 [Val] (R : In64) : Bx.eval b101 = true := by
  have r1 := R 1
  have xs0 := s0_is
  have xs45 := s45_x
  have xs46 := s46_x R
  have xs47 := s47_x R
  have ys47 := s47_b R
  have xs48 := s48_is
  have xs69 := s69_x
  have xs70 := s70_x R
  have xs71 := s71_x R
  have ys71 := s71_b R
  have xs72 := s72_is
  have xs73 := s73_x R
  have xs74 := s74_x R
  have ys74 := s74_b R
  have g : s74.eval < 2147483648 := by omega
  exact lss_t' g
theorem c66 [Val] (R : In64) : Bx.eval b102 = false := by
  have r1 := R 1
  have xs0 := s0_is
  have xs45 := s45_x
  have xs46 := s46_x R
  have xs47 := s47_x R
  have ys47 := s47_b R
  have xs48 := s48_is
  have xs69 := s69_x
  have xs70 := s70_x R
  have xs71 := s71_x R
  have ys71 := s71_b R
  have xs72 := s72_is
  have xs73 := s73_x R
  have xs74 := s74_x R
  have ys74 := s74_b R
  have xs75 := s75_is
  have xs76 := s76_x R
  have xs77 := s77_x R
  have ys77 := s77_b R
  have g : ¬ s77.eval = 524288 := by omega
  exact eql_f' g
theorem c67 [Val] (R : In64) : Bx.eval b105 = false := by
  have r1 := R 1
  have xs0 := s0_is
  have xs45 := s45_x
  have xs46 := s46_x R
  have xs47 := s47_x R
  have ys47 := s47_b R
  have xs48 := s48_is
  have xs69 := s69_x
  have g : ¬ s69.eval = 0 := by omega
  exact eql_f' g
theorem c68 [Val] (R : In64) : Bx.eval b106 = false := by
  have r1 := R 1
  have xs0 := s0_is
  have xs45 := s45_x
  have xs46 := s46_x R
  have xs47 := s47_x R
  have ys47 := s47_b R
  have xs48 := s48_is
  have xs69 := s69_x
  have xs70 := s70_x R
  have xs71 := s71_x R
  have ys71 := s71_b R
  have xs72 := s72_is
  have xs73 := s73_x R
  have xs74 := s74_x R
  have ys74 := s74_b R
  have xs75 := s75_is
  have xs78 := s78_x
  have xs79 := s79_x R
  have xs80 := s80_x R
  have ys80 := s80_b R
  have g : ¬ s80.eval = 524288 := by omega
  exact eql_f' g
theorem c69 [Val] (R : In64) : Bx.eval b107 = false := by
  have r1 := R 1
  have xs0 := s0_is
  have xs45 := s45_x
  have xs46 := s46_x R
  have xs47 := s47_x R
  have ys47 := s47_b R
  have xs48 := s48_is
  have xs69 := s69_x
  have xs70 := s70_x R
  have xs71 := s71_x R
  have ys71 := s71_b R
  have xs72 := s72_is
  have xs73 := s73_x R
  have xs74 := s74_x R
  have ys74 := s74_b R
  have xs75 := s75_is
  have xs78 := s78_x
  have g : ¬ s78.eval = 0 := by omega
  exact eql_f' g
theorem c70 [Val] (R : In64) (h95 : Bx.eval b95 = true) : Bx.eval b108 = true := by
  have r1 := R 1
  have g95 : s71.eval < (-2048) := lss_t h95
  have xs0 := s0_is
  have xs45 := s45_x
  have xs46 := s46_x R
  have xs47 := s47_x R
  have ys47 := s47_b R
  have xs48 := s48_is
  have xs69 := s69_x
  have xs70 := s70_x R
  have xs71 := s71_x R
  have ys71 := s71_b R
  have g : s71.eval < 2147483648 := by omega
  exact lss_t' g
theorem c71 [Val] (R : In64) (h108 : Bx.eval b108 = true) : Bx.eval b109 = false := by
  have r1 := R 1
  have g108 : s71.eval < 2147483648 := lss_t h108
  have xs0 := s0_is
  have xs45 := s45_x
  have xs46 := s46_x R
  have xs47 := s47_x R
  have ys47 := s47_b R
  have xs48 := s48_is
  have xs69 := s69_x
  have xs70 := s70_x R
  have xs71 := s71_x R
  have ys71 := s71_b R
  have xs72 := s72_is
  have xs73 := s73_x R
  have xs74 := s74_x R
  have ys74 := s74_b R
  have g : ¬ s74.eval = 524288 := by omega
  exact eql_f' g
theorem c72 [Val] (R : In64) (h97 : Bx.eval b97 = true) : Bx.eval b110 = true := by
  have r1 := R 1
  have g97 : s71.eval < (-2147483648) := lss_t h97
  have xs0 := s0_is
  have xs45 := s45_x
  have xs46 := s46_x R
  have xs47 := s47_x R
  have ys47 := s47_b R
  have xs48 := s48_is
  have xs69 := s69_x
  have xs70 := s70_x R
  have xs71 := s71_x R
  have ys71 := s71_b R
  have xs72 := s72_is
  have xs81 := s81_x
  have xs82 := s82_x R
  have xs83 := s83_x R
  have ys83 := s83_b R
  have g : s83.eval < (-2048) := by omega
  exact lss_t' g
theorem c73 [Val] (R : In64) : Bx.eval b112 = false := by
  have r1 := R 1
  have xs0 := s0_is
  have xs45 := s45_x
  have xs46 := s46_x R
  have xs47 := s47_x R
  have ys47 := s47_b R
  have xs48 := s48_is
  have xs69 := s69_x
  have xs70 := s70_x R
  have xs71 := s71_x R
  have ys71 := s71_b R
  have xs72 := s72_is
  have xs81 := s81_x
  have xs82 := s82_x R
  have xs83 := s83_x R
  have ys83 := s83_b R
  have g : ¬ s83.eval < (-2147483648) := by omega
  exact lss_f' g
theorem c74 [Val] (R : In64) : Bx.eval b113 = true := by
  have r1 := R 1
  have xs0 := s0_is
  have xs45 := s45_x
  have xs46 := s46_x R
  have xs47 := s47_x R
  have ys47 := s47_b R
  have xs48 := s48_is
  have xs69 := s69_x
  have xs70 := s70_x R
  have xs71 := s71_x R
  have ys71 := s71_b R
  have xs72 := s72_is
  have xs81 := s81_x
  have xs82 := s82_x R
  have xs83 := s83_x R
  have ys83 := s83_b R
  have g : s83.eval < 2147483648 := by omega
  exact lss_t' g
theorem c75 [Val] (R : In64) : Bx.eval b114 = false := by
  have r1 := R 1
  have xs0 := s0_is
  have xs45 := s45_x
  have xs46 := s46_x R
  have xs47 := s47_x R
  have ys47 := s47_b R
  have xs48 := s48_is
  have xs69 := s69_x
  have xs70 := s70_x R
  have xs71 := s71_x R
  have ys71 := s71_b R
  have xs72 := s72_is
  have xs81 := s81_x
  have xs82 := s82_x R
  have xs83 := s83_x R
  have ys83 := s83_b R
  have xs84 := s84_is
  have xs85 := s85_x R
  have xs86 := s86_x R
  have ys86 := s86_b R
  have g : ¬ s86.eval = 524288 := by omega
  exact eql_f' g
theorem c76 [Val] (R : In64) : Bx.eval b116 = false := by
  have r1 := R 1
  have xs0 := s0_is
  have xs45 := s45_x
  have xs46 := s46_x R
  have xs47 := s47_x R
  have ys47 := s47_b R
  have xs48 := s48_is
  have xs69 := s69_x
  have xs70 := s70_x R
  have xs71 := s71_x R
  have ys71 := s71_b R
  have xs72 := s72_is
  have xs81 := s81_x
  have g : ¬ s81.eval = 0 := by omega
  exact eql_f' g
theorem c77 [Val] (R : In64) : Bx.eval b117 = false := by
  have r1 := R 1
  have xs0 := s0_is
  have xs45 := s45_x
  have xs46 := s46_x R
  have xs47 := s47_x R
  have ys47 := s47_b R
  have xs48 := s48_is
  have xs69 := s69_x
  have xs70 := s70_x R
  have xs71 := s71_x R
  have ys71 := s71_b R
  have xs72 := s72_is
  have xs81 := s81_x
  have xs82 := s82_x R
  have xs83 := s83_x R
  have ys83 := s83_b R
  have xs84 := s84_is
  have xs87 := s87_x
  have xs88 := s88_x R
  have xs89 := s89_x R
  have ys89 := s89_b R
  have g : ¬ s89.eval = 524288 := by omega
  exact eql_f' g
theorem c78 [Val] (R : In64) : Bx.eval b118 = false := by
  have r1 := R 1
  have xs0 := s0_is
  have xs45 := s45_x
  have xs46 := s46_x R
  have xs47 := s47_x R
  have ys47 := s47_b R
  have xs48 := s48_is
  have xs69 := s69_x
  have xs70 := s70_x R
  have xs71 := s71_x R
  have ys71 := s71_b R
  have xs72 := s72_is
  have xs81 := s81_x
  have xs82 := s82_x R
  have xs83 := s83_x R
  have ys83 := s83_b R
  have xs84 := s84_is
  have xs87 := s87_x
  have g : ¬ s87.eval = 0 := by omega
  exact eql_f' g
theorem c79 [Val] (R : In64) (h95 : Bx.eval b95 = true) : Bx.eval b119 = false := by
  have r1 := R 1
  have g95 : s71.eval < (-2048) := lss_t h95
  have xs0 := s0_is
  have xs45 := s45_x
  have xs46 := s46_x R
  have xs47 := s47_x R
  have ys47 := s47_b R
  have xs48 := s48_is
  have xs69 := s69_x
  have xs70 := s70_x R
  have xs71 := s71_x R
  have ys71 := s71_b R
  have xs72 := s72_is
  have xs81 := s81_x
  have xs82 := s82_x R
  have xs83 := s83_x R
  have ys83 := s83_b R
  have g : ¬ s83.eval = 524288 := by omega
  exact eql_f' g
theorem c80 [Val] (R : In64) (h64 : Bx.eval b64 = true) : Bx.eval b120 = false := by
  have r1 := R 1
  have g64 : s47.eval < (-2048) := lss_t h64
  have xs0 := s0_is
  have xs45 := s45_x
  have xs46 := s46_x R
  have xs47 := s47_x R
  have ys47 := s47_b R
  have xs48 := s48_is
  have xs69 := s69_x
  have xs70 := s70_x R
  have xs71 := s71_x R
  have ys71 := s71_b R
  have g : ¬ s71.eval = 524288 := by omega
  exact eql_f' g
theorem c81 [Val] (R : In64) (h2 : Bx.eval b2 = true) : Bx.eval b121 = false := by
  have r1 := R 1
  have g2 : (Val.num 1) < (-2048) := lss_t h2
  have xs0 := s0_is
  have xs45 := s45_x
  have xs46 := s46_x R
  have xs47 := s47_x R
  have ys47 := s47_b R
  have g : ¬ s47.eval = 524288 := by omega
  exact eql_f' g
theorem c82 [Val] (R : In64) (h122 : Bx.eval b122 = false) : Bx.eval b4 = false := by
  have r1 := R 1
  have g122 : ¬ (Val.num 1) < 2048 := lss_f h122
  have g : ¬ (Val.num 1) < (-2147483648) := by omega
  exact lss_f' g
theorem c83 [Val] (R : In64) (h62 : Bx.eval b62 = false) : Bx.eval b5 = false := by
  have r1 := R 1
  have g62 : ¬ (Val.num 1) < 2147483648 := lss_f h62
  have xs0 := s0_is
  have xs1 := s1_x R
  have xs2 := s2_x R
  have ys2 := s2_b R
  have g : ¬ s2.eval < (-2048) := by omega
  exact lss_f' g
theorem c84 [Val] (R : In64) (h62 : Bx.eval b62 = false) : Bx.eval b123 = false := by
  have r1 := R 1
  have g62 : ¬ (Val.num 1) < 2147483648 := lss_f h62
  have xs0 := s0_is
  have xs1 := s1_x R
  have xs2 := s2_x R
  have ys2 := s2_b R
  have g : ¬ s2.eval < 2048 := by omega
  exact lss_f' g
theorem c85 [Val] (R : In64) (h123 : Bx.eval b123 = false) : Bx.eval b7 = false := by
  have r1 := R 1
  have g123 : ¬ s2.eval < 2048 := lss_f h123
  have xs0 := s0_is
  have xs1 := s1_x R
  have xs2 := s2_x R
  have ys2 := s2_b R
  have g : ¬ s2.eval < (-2147483648) := by omega
  exact lss_f' g
theorem c86 [Val] (R : In64) (h34 : Bx.eval b34 = false) : Bx.eval b8 = false := by
  have r1 := R 1
  have g34 : ¬ s2.eval < 2147483648 := lss_f h34
  have xs0 := s0_is
  have xs1 := s1_x R
  have xs2 := s2_x R
  have ys2 := s2_b R
  have xs3 := s3_is
  have xs4 := s4_x R
  have xs5 := s5_x R
  have ys5 := s5_b R
  have g : ¬ s5.eval < (-2048) := by omega
  exact lss_f' g
theorem c87 [Val] (R : In64) (h34 : Bx.eval b34 = false) : Bx.eval b124 = false := by
  have r1 := R 1
  have g34 : ¬ s2.eval < 2147483648 := lss_f h34
  have xs0 := s0_is
  have xs1 := s1_x R
  have xs2 := s2_x R
  have ys2 := s2_b R
  have xs3 := s3_is
  have xs4 := s4_x R
  have xs5 := s5_x R
  have ys5 := s5_b R
  have g : ¬ s5.eval < 2048 := by omega
  exact lss_f' g
theorem c88 [Val] (R : In64) (h124 : Bx.eval b124 = false) : Bx.eval b10 = false := by
  have r1 := R 1
  have g124 : ¬ s5.eval < 2048 := lss_f h124
  have xs0 := s0_is
  have xs1 := s1_x R
  have xs2 := s2_x R
  have ys2 := s2_b R
  have xs3 := s3_is
  have xs4 := s4_x R
  have xs5 := s5_x R
  have ys5 := s5_b R
  have g : ¬ s5.eval < (-2147483648) := by omega
  exact lss_f' g
theorem c89 [Val] (R : In64) (h22 : Bx.eval b22 = false) : Bx.eval b11 = false := by
  have r1 := R 1
  have g22 : ¬ s5.eval < 2147483648 := lss_f h22
  have xs0 := s0_is
  have xs1 := s1_x R
  have xs2 := s2_x R
  have ys2 := s2_b R
  have xs3 := s3_is
  have xs4 := s4_x R
  have xs5 := s5_x R
  have ys5 := s5_b R
  have xs6 := s6_is
  have xs7 := s7_x R
  have xs8 := s8_x R
  have ys8 := s8_b R
  have g : ¬ s8.eval < (-2048) := by omega
  exact lss_f' g
theorem c90 [Val] (R : In64) (h22 : Bx.eval b22 = false) : Bx.eval b125 = false := by
  have r1 := R 1
  have g22 : ¬ s5.eval < 2147483648 := lss_f h22
  have xs0 := s0_is
  have xs1 := s1_x R
  have xs2 := s2_x R
  have ys2 := s2_b R
  have xs3 := s3_is
  have xs4 := s4_x R
  have xs5 := s5_x R
  have ys5 := s5_b R
  have xs6 := s6_is
  have xs7 := s7_x R
  have xs8 := s8_x R
  have ys8 := s8_b R
  have g : ¬ s8.eval < 2048 := by omega
  exact lss_f' g
theorem c91 [Val] (R : In64) (h22 : Bx.eval b22 = false) : Bx.eval b24 = false := by
  have r1 := R 1
  have g22 : ¬ s5.eval < 2147483648 := lss_f h22
  have xs0 := s0_is
  have xs1 := s1_x R
  have xs2 := s2_x R
  have ys2 := s2_b R
  have xs3 := s3_is
  have xs4 := s4_x R
  have xs5 := s5_x R
  have ys5 := s5_b R
  have xs6 := s6_is
  have xs15 := s15_x
  have xs16 := s16_x R
  have xs17 := s17_x R
  have ys17 := s17_b R
  have g : ¬ s17.eval < (-2048) := by omega
  exact lss_f' g
theorem c92 [Val] (R : In64) (h22 : Bx.eval b22 = false) : Bx.eval b126 = false := by
  have r1 := R 1
  have g22 : ¬ s5.eval < 2147483648 := lss_f h22
  have xs0 := s0_is
  have xs1 := s1_x R
  have xs2 := s2_x R
  have ys2 := s2_b R
  have xs3 := s3_is
  have xs4 := s4_x R
  have xs5 := s5_x R
  have ys5 := s5_b R
  have xs6 := s6_is
  have xs15 := s15_x
  have xs16 := s16_x R
  have xs17 := s17_x R
  have ys17 := s17_b R
  have g : ¬ s17.eval < 2048 := by omega
  exact lss_f' g
theorem c93 [Val] (R : In64) (h34 : Bx.eval b34 = false) : Bx.eval b36 = false := by
  have r1 := R 1
  have g34 : ¬ s2.eval < 2147483648 := lss_f h34
  have xs0 := s0_is
  have xs1 := s1_x R
  have xs2 := s2_x R
  have ys2 := s2_b R
  have xs3 := s3_is
  have xs24 := s24_x
  have xs25 := s25_x R
  have xs26 := s26_x R
  have ys26 := s26_b R
  have g : ¬ s26.eval < (-2048) := by omega
  exact lss_f' g
theorem c94 [Val] (R : In64) (h34 : Bx.eval b34 = false) : Bx.eval b127 = false := by
  have r1 := R 1
  have g34 : ¬ s2.eval < 2147483648 := lss_f h34
  have xs0 := s0_is
  have xs1 := s1_x R
  have xs2 := s2_x R
  have ys2 := s2_b R
  have xs3 := s3_is
  have xs24 := s24_x
  have xs25 := s25_x R
  have xs26 := s26_x R
  have ys26 := s26_b R
  have g : ¬ s26.eval < 2048 := by omega
  exact lss_f' g
theorem c95 [Val] (R : In64) (h127 : Bx.eval b127 = false) : Bx.eval b38 = false := by
  have r1 := R 1
  have g127 : ¬ s26.eval < 2048 := lss_f h127
  have xs0 := s0_is
  have xs1 := s1_x R
  have xs2 := s2_x R
  have ys2 := s2_b R
  have xs3 := s3_is
  have xs24 := s24_x
  have xs25 := s25_x R
  have xs26 := s26_x R
  have ys26 := s26_b R
  have g : ¬ s26.eval < (-2147483648) := by omega
  exact lss_f' g
theorem c96 [Val] (R : In64) (h49 : Bx.eval b49 = false) : Bx.eval b39 = false := by
  have r1 := R 1
  have g49 : ¬ s26.eval < 2147483648 := lss_f h49
  have xs0 := s0_is
  have xs1 := s1_x R
  have xs2 := s2_x R
  have ys2 := s2_b R
  have xs3 := s3_is
  have xs24 := s24_x
  have xs25 := s25_x R
  have xs26 := s26_x R
  have ys26 := s26_b R
  have xs27 := s27_is
  have xs28 := s28_x R
  have xs29 := s29_x R
  have ys29 := s29_b R
  have g : ¬ s29.eval < (-2048) := by omega
  exact lss_f' g
theorem c97 [Val] (R : In64) (h49 : Bx.eval b49 = false) : Bx.eval b128 = false := by
  have r1 := R 1
  have g49 : ¬ s26.eval < 2147483648 := lss_f h49
  have xs0 := s0_is
  have xs1 := s1_x R
  have xs2 := s2_x R
  have ys2 := s2_b R
  have xs3 := s3_is
  have xs24 := s24_x
  have xs25 := s25_x R
  have xs26 := s26_x R
  have ys26 := s26_b R
  have xs27 := s27_is
  have xs28 := s28_x R
  have xs29 := s29_x R
  have ys29 := s29_b R
  have g : ¬ s29.eval < 2048 := by omega
  exact lss_f' g
theorem c98 [Val] (R : In64) (h49 : Bx.eval b49 = false) : Bx.eval b51 = false := by
  have r1 := R 1
  have g49 : ¬ s26.eval < 2147483648 := lss_f h49
  have xs0 := s0_is
  have xs1 := s1_x R
  have xs2 := s2_x R
  have ys2 := s2_b R
  have xs3 := s3_is
  have xs24 := s24_x
  have xs25 := s25_x R
  have xs26 := s26_x R
  have ys26 := s26_b R
  have xs27 := s27_is
  have xs36 := s36_x
  have xs37 := s37_x R
  have xs38 := s38_x R
  have ys38 := s38_b R
  have g : ¬ s38.eval < (-2048) := by omega
  exact lss_f' g
theorem c99 [Val] (R : In64) (h49 : Bx.eval b49 = false) : Bx.eval b129 = false := by
  have r1 := R 1
  have g49 : ¬ s26.eval < 2147483648 := lss_f h49
  have xs0 := s0_is
  have xs1 := s1_x R
  have xs2 := s2_x R
  have ys2 := s2_b R
  have xs3 := s3_is
  have xs24 := s24_x
  have xs25 := s25_x R
  have xs26 := s26_x R
  have ys26 := s26_b R
  have xs27 := s27_is
  have xs36 := s36_x
  have xs37 := s37_x R
  have xs38 := s38_x R
  have ys38 := s38_b R
  have g : ¬ s38.eval < 2048 := by omega
  exact lss_f' g
theorem c100 [Val] (R : In64) (h64 : Bx.eval b64 = true) (h62 : Bx.eval b62 = false) : Bx.eval b65 = true := by
  have r1 := R 1
  have g64 : s47.eval < (-2048) := lss_t h64
  have g62 : ¬ (Val.num 1) < 2147483648 := lss_f h62
  have xs0 := s0_is
  have xs45 := s45_x
  have xs46 := s46_x R
  have xs47 := s47_x R
  have ys47 := s47_b R
  have xs48 := s48_is
  have g : s48.eval < 2048 := by omega
  exact lss_t' g
theorem c101 [Val] (R : In64) (h64 : Bx.eval b64 = true) (h62 : Bx.eval b62 = false) : Bx.eval b66 = true := by
  have r1 := R 1
  have g64 : s47.eval < (-2048) := lss_t h64
  have g62 : ¬ (Val.num 1) < 2147483648 := lss_f h62
  have xs0 := s0_is
  have xs45 := s45_x
  have xs46 := s46_x R
  have xs47 := s47_x R
  have ys47 := s47_b R
  have g : s47.eval < (-2147483648) := by omega
  exact lss_t' g
theorem c102 [Val] (R : In64) (h67 : Bx.eval b67 = true) (h62 : Bx.eval b62 = false) : Bx.eval b68 = true := by
  have r1 := R 1
  have g67 : s50.eval < (-2048) := lss_t h67
  have g62 : ¬ (Val.num 1) < 2147483648 := lss_f h62
  have xs0 := s0_is
  have xs45 := s45_x
  have xs46 := s46_x R
  have xs47 := s47_x R
  have ys47 := s47_b R
  have xs48 := s48_is
  have xs49 := s49_x R
  have xs50 := s50_x R
  have ys50 := s50_b R
  have xs51 := s51_is
  have g : s51.eval < 2048 := by omega
  exact lss_t' g
theorem c103 [Val] (R : In64) (h67 : Bx.eval b67 = true) (h62 : Bx.eval b62 = false) : Bx.eval b69 = true := by
  have r1 := R 1
  have g67 : s50.eval < (-2048) := lss_t h67
  have g62 : ¬ (Val.num 1) < 2147483648 := lss_f h62
  have xs0 := s0_is
  have xs45 := s45_x
  have xs46 := s46_x R
  have xs47 := s47_x R
  have ys47 := s47_b R
  have xs48 := s48_is
  have xs49 := s49_x R
  have xs50 := s50_x R
  have ys50 := s50_b R
  have g : s50.eval < (-2147483648) := by omega
  exact lss_t' g
theorem c104 [Val] (R : In64) (h70 : Bx.eval b70 = true) (h62 : Bx.eval b62 = false) : Bx.eval b71 = true := by
  have r1 := R 1
  have g70 : s53.eval < (-2048) := lss_t h70
  have g62 : ¬ (Val.num 1) < 2147483648 := lss_f h62
  have xs0 := s0_is
  have xs45 := s45_x
  have xs46 := s46_x R
  have xs47 := s47_x R
  have ys47 := s47_b R
  have xs48 := s48_is
  have xs49 := s49_x R
  have xs50 := s50_x R
  have ys50 := s50_b R
  have xs51 := s51_is
  have xs52 := s52_x R
  have xs53 := s53_x R
  have ys53 := s53_b R
  have xs54 := s54_is
  have g : s54.eval < 2048 := by omega
  exact lss_t' g
theorem c105 [Val] (R : In64) (h70 : Bx.eval b70 = true) (h62 : Bx.eval b62 = false) : Bx.eval b75 = true := by
  have r1 := R 1
  have g70 : s53.eval < (-2048) := lss_t h70
  have g62 : ¬ (Val.num 1) < 2147483648 := lss_f h62
  have xs0 := s0_is
  have xs45 := s45_x
  have xs46 := s46_x R
  have xs47 := s47_x R
  have ys47 := s47_b R
  have xs48 := s48_is
  have xs49 := s49_x R
  have xs50 := s50_x R
  have ys50 := s50_b R
  have xs51 := s51_is
  have xs52 := s52_x R
  have xs53 := s53_x R
  have ys53 := s53_b R
  have xs54 := s54_is
  have g : s54.eval = 0 := by omega
  exact eql_t' g
theorem c106 [Val] (R : In64) (h70 : Bx.eval b70 = true) (h62 : Bx.eval b62 = false) : Bx.eval b76 = true := by
  have r1 := R 1
  have g70 : s53.eval < (-2048) := lss_t h70
  have g62 : ¬ (Val.num 1) < 2147483648 := lss_f h62
  have xs0 := s0_is
  have xs45 := s45_x
  have xs46 := s46_x R
  have xs47 := s47_x R
  have ys47 := s47_b R
  have xs48 := s48_is
  have xs49 := s49_x R
  have xs50 := s50_x R
  have ys50 := s50_b R
  have xs51 := s51_is
  have xs52 := s52_x R
  have xs53 := s53_x R
  have ys53 := s53_b R
  have g : s51.eval = 0 := by omega
  exact eql_t' g
theorem c107 [Val] (R : In64) (h70 : Bx.eval b70 = true) (h62 : Bx.eval b62 = false) : Bx.eval b77 = true := by
  have r1 := R 1
  have g70 : s53.eval < (-2048) := lss_t h70
  have g62 : ¬ (Val.num 1) < 2147483648 := lss_f h62
  have xs0 := s0_is
  have xs45 := s45_x
  have xs46 := s46_x R
  have xs47 := s47_x R
  have ys47 := s47_b R
  have xs48 := s48_is
  have xs49 := s49_x R
  have xs50 := s50_x R
  have ys50 := s50_b R
  have xs51 := s51_is
  have xs52 := s52_x R
  have xs53 := s53_x R
  have ys53 := s53_b R
  have g : s48.eval = 0 := by omega
  exact eql_t' g
theorem c108 [Val] (R : In64) (h64 : Bx.eval b64 = false) (h62 : Bx.eval b62 = false) : Bx.eval b130 = false := by
  have r1 := R 1
  have g64 : ¬ s47.eval < (-2048) := lss_f h64
  have g62 : ¬ (Val.num 1) < 2147483648 := lss_f h62
  have xs0 := s0_is
  have xs45 := s45_x
  have xs46 := s46_x R
  have xs47 := s47_x R
  have ys47 := s47_b R
  have g : ¬ s47.eval < 2048 := by omega
  exact lss_f' g
theorem c109 [Val] (R : In64) (h130 : Bx.eval b130 = false) : Bx.eval b66 = false := by
  have r1 := R 1
  have g130 : ¬ s47.eval < 2048 := lss_f h130
  have xs0 := s0_is
  have xs45 := s45_x
  have xs46 := s46_x R
  have xs47 := s47_x R
  have ys47 := s47_b R
  have g : ¬ s47.eval < (-2147483648) := by omega
  exact lss_f' g
theorem c110 [Val] (R : In64) (h93 : Bx.eval b93 = false) : Bx.eval b67 = false := by
  have r1 := R 1
  have g93 : ¬ s47.eval < 2147483648 := lss_f h93
  have xs0 := s0_is
  have xs45 := s45_x
  have xs46 := s46_x R
  have xs47 := s47_x R
  have ys47 := s47_b R
  have xs48 := s48_is
  have xs49 := s49_x R
  have xs50 := s50_x R
  have ys50 := s50_b R
  have g : ¬ s50.eval < (-2048) := by omega
  exact lss_f' g
theorem c111 [Val] (R : In64) (h93 : Bx.eval b93 = false) : Bx.eval b131 = false := by
  have r1 := R 1
  have g93 : ¬ s47.eval < 2147483648 := lss_f h93
  have xs0 := s0_is
  have xs45 := s45_x
  have xs46 := s46_x R
  have xs47 := s47_x R
  have ys47 := s47_b R
  have xs48 := s48_is
  have xs49 := s49_x R
  have xs50 := s50_x R
  have ys50 := s50_b R
  have g : ¬ s50.eval < 2048 := by omega
  exact lss_f' g
theorem c112 [Val] (R : In64) (h131 : Bx.eval b131 = false) : Bx.eval b69 = false := by
  have r1 := R 1
  have g131 : ¬ s50.eval < 2048 := lss_f h131
  have xs0 := s0_is
  have xs45 := s45_x
  have xs46 := s46_x R
  have xs47 := s47_x R
  have ys47 := s47_b R
  have xs48 := s48_is
  have xs49 := s49_x R
  have xs50 := s50_x R
  have ys50 := s50_b R
  have g : ¬ s50.eval < (-2147483648) := by omega
  exact lss_f' g
theorem c113 [Val] (R : In64) (h81 : Bx.eval b81 = false) : Bx.eval b70 = false := by
  have r1 := R 1
  have g81 : ¬ s50.eval < 2147483648 := lss_f h81
  have xs0 := s0_is
  have xs45 := s45_x
  have xs46 := s46_x R
  have xs47 := s47_x R
  have ys47 := s47_b R
  have xs48 := s48_is
  have xs49 := s49_x R
  have xs50 := s50_x R
  have ys50 := s50_b R
  have xs51 := s51_is
  have xs52 := s52_x R
  have xs53 := s53_x R
  have ys53 := s53_b R
  have g : ¬ s53.eval < (-2048) := by omega
  exact lss_f' g
theorem c114 [Val] (R : In64) (h81 : Bx.eval b81 = false) : Bx.eval b132 = false := by
  have r1 := R 1
  have g81 : ¬ s50.eval < 2147483648 := lss_f h81
  have xs0 := s0_is
  have xs45 := s45_x
  have xs46 := s46_x R
  have xs47 := s47_x R
  have ys47 := s47_b R
  have xs48 := s48_is
  have xs49 := s49_x R
  have xs50 := s50_x R
  have ys50 := s50_b R
  have xs51 := s51_is
  have xs52 := s52_x R
  have xs53 := s53_x R
  have ys53 := s53_b R
  have g : ¬ s53.eval < 2048 := by omega
  exact lss_f' g
theorem c115 [Val] (R : In64) (h81 : Bx.eval b81 = false) : Bx.eval b83 = false := by
  have r1 := R 1
  have g81 : ¬ s50.eval < 2147483648 := lss_f h81
  have xs0 := s0_is
  have xs45 := s45_x
  have xs46 := s46_x R
  have xs47 := s47_x R
  have ys47 := s47_b R
  have xs48 := s48_is
  have xs49 := s49_x R
  have xs50 := s50_x R
  have ys50 := s50_b R
  have xs51 := s51_is
  have xs60 := s60_x
  have xs61 := s61_x R
  have xs62 := s62_x R
  have ys62 := s62_b R
  have g : ¬ s62.eval < (-2048) := by omega
  exact lss_f' g
theorem c116 [Val] (R : In64) (h81 : Bx.eval b81 = false) : Bx.eval b133 = false := by
  have r1 := R 1
  have g81 : ¬ s50.eval < 2147483648 := lss_f h81
  have xs0 := s0_is
  have xs45 := s45_x
  have xs46 := s46_x R
  have xs47 := s47_x R
  have ys47 := s47_b R
  have xs48 := s48_is
  have xs49 := s49_x R
  have xs50 := s50_x R
  have ys50 := s50_b R
  have xs51 := s51_is
  have xs60 := s60_x
  have xs61 := s61_x R
  have xs62 := s62_x R
  have ys62 := s62_b R
  have g : ¬ s62.eval < 2048 := by omega
  exact lss_f' g
theorem c117 [Val] (R : In64) (h93 : Bx.eval b93 = false) : Bx.eval b95 = false := by
  have r1 := R 1
  have g93 : ¬ s47.eval < 2147483648 := lss_f h93
  have xs0 := s0_is
  have xs45 := s45_x
  have xs46 := s46_x R
  have xs47 := s47_x R
  have ys47 := s47_b R
  have xs48 := s48_is
  have xs69 := s69_x
  have xs70 := s70_x R
  have xs71 := s71_x R
  have ys71 := s71_b R
  have g : ¬ s71.eval < (-2048) := by omega
  exact lss_f' g
theorem c118 [Val] (R : In64) (h93 : Bx.eval b93 = false) : Bx.eval b134 = false := by
  have r1 := R 1
  have g93 : ¬ s47.eval < 2147483648 := lss_f h93
  have xs0 := s0_is
  have xs45 := s45_x
  have xs46 := s46_x R
  have xs47 := s47_x R
  have ys47 := s47_b R
  have xs48 := s48_is
  have xs69 := s69_x
  have xs70 := s70_x R
  have xs71 := s71_x R
  have ys71 := s71_b R
  have g : ¬ s71.eval < 2048 := by omega
  exact lss_f' g
theorem c119 [Val] (R : In64) (h134 : Bx.eval b134 = false) : Bx.eval b97 = false := by
  have r1 := R 1
  have g134 : ¬ s71.eval < 2048 := lss_f h134
  have xs0 := s0_is
  have xs45 := s45_x
  have xs46 := s46_x R
  have xs47 := s47_x R
  have ys47 := s47_b R
  have xs48 := s48_is
  have xs69 := s69_x
  have xs70 := s70_x R
  have xs71 := s71_x R
  have ys71 := s71_b R
  have g : ¬ s71.eval < (-2147483648) := by omega
  exact lss_f' g
theorem c120 [Val] (R : In64) (h108 : Bx.eval b108 = false) : Bx.eval b98 = false := by
  have r1 := R 1
  have g108 : ¬ s71.eval < 2147483648 := lss_f h108
  have xs0 := s0_is
  have xs45 := s45_x
  have xs46 := s46_x R
  have xs47 := s47_x R
  have ys47 := s47_b R
  have xs48 := s48_is
  have xs69 := s69_x
  have xs70 := s70_x R
  have xs71 := s71_x R
  have ys71 := s71_b R
  have xs72 := s72_is
  have xs73 := s73_x R
  have xs74 := s74_x R
  have ys74 := s74_b R
  have g : ¬ s74.eval < (-2048) := by omega
  exact lss_f' g
theorem c121 [Val] (R : In64) (h108 : Bx.eval b108 = false) : Bx.eval b135 = false := by
  have r1 := R 1
  have g108 : ¬ s71.eval < 2147483648 := lss_f h108
  have xs0 := s0_is
  have xs45 := s45_x
  have xs46 := s46_x R
  have xs47 := s47_x R
  have ys47 := s47_b R
  have xs48 := s48_is
  have xs69 := s69_x
  have xs70 := s70_x R
  have xs71 := s71_x R
  have ys71 := s71_b R
  have xs72 := s72_is
  have xs73 := s73_x R
  have xs74 := s74_x R
  have ys74 := s74_b R
  have g : ¬ s74.eval < 2048 := by omega
  exact lss_f' g
theorem c122 [Val] (R : In64) (h108 : Bx.eval b108 = false) : Bx.eval b110 = false := by
  have r1 := R 1
  have g108 : ¬ s71.eval < 2147483648 := lss_f h108
  have xs0 := s0_is
  have xs45 := s45_x
  have xs46 := s46_x R
  have xs47 := s47_x R
  have ys47 := s47_b R
  have xs48 := s48_is
  have xs69 := s69_x
  have xs70 := s70_x R
  have xs71 := s71_x R
  have ys71 := s71_b R
  have xs72 := s72_is
  have xs81 := s81_x
  have xs82 := s82_x R
  have xs83 := s83_x R
  have ys83 := s83_b R
  have g : ¬ s83.eval < (-2048) := by omega
  exact lss_f' g
theorem c123 [Val] (R : In64) (h108 : Bx.eval b108 = false) : Bx.eval b136 = false := by
  have r1 := R 1
  have g108 : ¬ s71.eval < 2147483648 := lss_f h108
  have xs0 := s0_is
  have xs45 := s45_x
  have xs46 := s46_x R
  have xs47 := s47_x R
  have ys47 := s47_b R
  have xs48 := s48_is
  have xs69 := s69_x
  have xs70 := s70_x R
  have xs71 := s71_x R
  have ys71 := s71_b R
  have xs72 := s72_is
  have xs81 := s81_x
  have xs82 := s82_x R
  have xs83 := s83_x R
  have ys83 := s83_b R
  have g : ¬ s83.eval < 2048 := by omega
  exact lss_f' g
theorem c124 [Val] (R : In64) (h140 : Bx.eval b140 = true) (h139 : Bx.eval b139 = false) (h138 : Bx.eval b138 = true) (h137 : Bx.eval b137 = false) : Bx.eval b141 = false := by
  have r2 := R 2
  have r3 := R 3
  have g140 : (Val.num 3) < 4096 := lss_t h140
  have g139 : ¬ (Val.num 3) < 0 := lss_f h139
  have g138 : (Val.num 2) < 8 := lss_t h138
  have g137 : ¬ (Val.num 2) < 0 := lss_f h137
  have l2 : 0 ≤ Val.num 2 := by clear R r3; omega
  have u2 : Val.num 2 ≤ 7 := by clear R r3; omega
  have l3 : 0 ≤ Val.num 3 := by clear R r2; omega
  have u3 : Val.num 3 ≤ 4095 := by clear R r2; omega
  have xs94 := s94_x l2 u2 l3 u3
  have g : ¬ s94.eval < 1073741824 := by omega
  exact lss_f' g
theorem c125 [Val] (R : In64) (h137 : Bx.eval b137 = false) (h138 : Bx.eval b138 = true) (h139 : Bx.eval b139 = false) (h140 : Bx.eval b140 = true) : Bx.eval b142 = true := by
  have r2 := R 2
  have r3 := R 3
  have g137 : ¬ (Val.num 2) < 0 := lss_f h137
  have g138 : (Val.num 2) < 8 := lss_t h138
  have g139 : ¬ (Val.num 3) < 0 := lss_f h139
  have g140 : (Val.num 3) < 4096 := lss_t h140
  have l2 : 0 ≤ Val.num 2 := by clear R r3; omega
  have u2 : Val.num 2 ≤ 7 := by clear R r3; omega
  have l3 : 0 ≤ Val.num 3 := by clear R r2; omega
  have u3 : Val.num 3 ≤ 4095 := by clear R r2; omega
  have xs96 := s96_x l2 u2 l3 u3
  have g : s96.eval = 0 := by omega
  exact eql_t' g
theorem c126 [Val] (R : In64) (h140 : Bx.eval b140 = true) (h139 : Bx.eval b139 = false) (h138 : Bx.eval b138 = true) (h137 : Bx.eval b137 = false) : Bx.eval b143 = true := by
  have r2 := R 2
  have r3 := R 3
  have g140 : (Val.num 3) < 4096 := lss_t h140
  have g139 : ¬ (Val.num 3) < 0 := lss_f h139
  have g138 : (Val.num 2) < 8 := lss_t h138
  have g137 : ¬ (Val.num 2) < 0 := lss_f h137
  have l2 : 0 ≤ Val.num 2 := by clear R r3; omega
  have u2 : Val.num 2 ≤ 7 := by clear R r3; omega
  have l3 : 0 ≤ Val.num 3 := by clear R r2; omega
  have u3 : Val.num 3 ≤ 4095 := by clear R r2; omega
  have xs97 := s97_x l2 u2 l3 u3
  have g : s97.eval < 32768 := by omega
  exact lss_t' g
theorem c127 [Val] (R : In64) (h143 : Bx.eval b143 = true) (h137 : Bx.eval b137 = false) (h138 : Bx.eval b138 = true) (h139 : Bx.eval b139 = false) (h140 : Bx.eval b140 = true) : Bx.eval b145 = false := by
  have r2 := R 2
  have r3 := R 3
  have g143 : s97.eval < 32768 := lss_t h143
  have g137 : ¬ (Val.num 2) < 0 := lss_f h137
  have g138 : (Val.num 2) < 8 := lss_t h138
  have g139 : ¬ (Val.num 3) < 0 := lss_f h139
  have g140 : (Val.num 3) < 4096 := lss_t h140
  have l2 : 0 ≤ Val.num 2 := by clear R r3; omega
  have u2 : Val.num 2 ≤ 7 := by clear R r3; omega
  have l3 : 0 ≤ Val.num 3 := by clear R r2; omega
  have u3 : Val.num 3 ≤ 4095 := by clear R r2; omega
  have xs97 := s97_x l2 u2 l3 u3
  have xs104 := s104_x l2 u2 l3 u3
  have g : ¬ s104.eval < 1073741824 := by omega
  exact lss_f' g
theorem c128 [Val] (R : In64) (h137 : Bx.eval b137 = false) (h138 : Bx.eval b138 = true) (h139 : Bx.eval b139 = false) (h140 : Bx.eval b140 = true) : Bx.eval b146 = true := by
  have r2 := R 2
  have r3 := R 3
  have g137 : ¬ (Val.num 2) < 0 := lss_f h137
  have g138 : (Val.num 2) < 8 := lss_t h138
  have g139 : ¬ (Val.num 3) < 0 := lss_f h139
  have g140 : (Val.num 3) < 4096 := lss_t h140
  have l2 : 0 ≤ Val.num 2 := by clear R r3; omega
  have u2 : Val.num 2 ≤ 7 := by clear R r3; omega
  have l3 : 0 ≤ Val.num 3 := by clear R r2; omega
  have u3 : Val.num 3 ≤ 4095 := by clear R r2; omega
  have xs105 := s105_x l2 u2 l3 u3
  have g : s105.eval = 0 := by omega
  exact eql_t' g
theorem c129 [Val] (R : In64) (h143 : Bx.eval b143 = true) (h138 : Bx.eval b138 = true) (h137 : Bx.eval b137 = false) (h139 : Bx.eval b139 = false) (h140 : Bx.eval b140 = true) : Bx.eval b147 = true := by
  have r2 := R 2
  have r3 := R 3
  have g143 : s97.eval < 32768 := lss_t h143
  have g138 : (Val.num 2) < 8 := lss_t h138
  have g137 : ¬ (Val.num 2) < 0 := lss_f h137
  have g139 : ¬ (Val.num 3) < 0 := lss_f h139
  have g140 : (Val.num 3) < 4096 := lss_t h140
  have l2 : 0 ≤ Val.num 2 := by clear R r3; omega
  have u2 : Val.num 2 ≤ 7 := by clear R r3; omega
  have l3 : 0 ≤ Val.num 3 := by clear R r2; omega
  have u3 : Val.num 3 ≤ 4095 := by clear R r2; omega
  have xs97 := s97_x l2 u2 l3 u3
  have xs107 := s107_x l2 u2 l3 u3
  have g : s107.eval < 32768 := by omega
  exact lss_t' g
theorem c130 [Val] (R : In64) (h147 : Bx.eval b147 = true) (h144 : Bx.eval b144 = true) (h138 : Bx.eval b138 = true) (h137 : Bx.eval b137 = false) (h139 : Bx.eval b139 = false) (h140 : Bx.eval b140 = true) : Bx.eval b148 = true := by
  have r2 := R 2
  have r3 := R 3
  have g147 : s107.eval < 32768 := lss_t h147
  have g144 : s99.eval < 2048 := lss_t h144
  have g138 : (Val.num 2) < 8 := lss_t h138
  have g137 : ¬ (Val.num 2) < 0 := lss_f h137
  have g139 : ¬ (Val.num 3) < 0 := lss_f h139
  have g140 : (Val.num 3) < 4096 := lss_t h140
  have l2 : 0 ≤ Val.num 2 := by clear R r3; omega
  have u2 : Val.num 2 ≤ 7 := by clear R r3; omega
  have l3 : 0 ≤ Val.num 3 := by clear R r2; omega
  have u3 : Val.num 3 ≤ 4095 := by clear R r2; omega
  have xs99 := s99_x l2 u2 l3 u3
  have xs107 := s107_x l2 u2 l3 u3
  have xs109 := s109_x l2 u2 l3 u3
  have g : s109.eval < 2048 := by omega
  exact lss_t' g
theorem c131 [Val] (R : In64) (h144 : Bx.eval b144 = true) (h143 : Bx.eval b143 = true) (h138 : Bx.eval b138 = true) (h137 : Bx.eval b137 = false) (h139 : Bx.eval b139 = false) (h140 : Bx.eval b140 = true) : Bx.eval b149 = true := by
  have r2 := R 2
  have r3 := R 3
  have g144 : s99.eval < 2048 := lss_t h144
  have g143 : s97.eval < 32768 := lss_t h143
  have g138 : (Val.num 2) < 8 := lss_t h138
  have g137 : ¬ (Val.num 2) < 0 := lss_f h137
  have g139 : ¬ (Val.num 3) < 0 := lss_f h139
  have g140 : (Val.num 3) < 4096 := lss_t h140
  have l2 : 0 ≤ Val.num 2 := by clear R r3; omega
  have u2 : Val.num 2 ≤ 7 := by clear R r3; omega
  have l3 : 0 ≤ Val.num 3 := by clear R r2; omega
  have u3 : Val.num 3 ≤ 4095 := by clear R r2; omega
  have xs97 := s97_x l2 u2 l3 u3
  have xs99 := s99_x l2 u2 l3 u3
  have xs112 := s112_x l2 u2 l3 u3
  have xs115 := s115_x l2 u2 l3 u3
  have g : s112.eval = s115.eval := by omega
  exact eql_t' g
theorem c132 [Val] (R : In64) (h149 : Bx.eval b149 = true) (h148 : Bx.eval b148 = true) (h138 : Bx.eval b138 = true) (h137 : Bx.eval b137 = false) (h139 : Bx.eval b139 = false) (h140 : Bx.eval b140 = true) : Bx.eval b150 = true := by
  have r2 := R 2
  have r3 := R 3
  have g149 : s112.eval = s115.eval := eql_t h149
  have g148 : s109.eval < 2048 := lss_t h148
  have g138 : (Val.num 2) < 8 := lss_t h138
  have g137 : ¬ (Val.num 2) < 0 := lss_f h137
  have g139 : ¬ (Val.num 3) < 0 := lss_f h139
  have g140 : (Val.num 3) < 4096 := lss_t h140
  have l2 : 0 ≤ Val.num 2 := by clear R r3; omega
  have u2 : Val.num 2 ≤ 7 := by clear R r3; omega
  have l3 : 0 ≤ Val.num 3 := by clear R r2; omega
  have u3 : Val.num 3 ≤ 4095 := by clear R r2; omega
  have xs99 := s99_x l2 u2 l3 u3
  have xs109 := s109_x l2 u2 l3 u3
  have xs112 := s112_x l2 u2 l3 u3
  have xs115 := s115_x l2 u2 l3 u3
  have g : s99.eval = s109.eval := by omega
  exact eql_t' g
theorem c133 [Val] (R : In64) (h144 : Bx.eval b144 = false) (h138 : Bx.eval b138 = true) (h137 : Bx.eval b137 = false) (h139 : Bx.eval b139 = false) (h140 : Bx.eval b140 = true) : Bx.eval b148 = false := by
  have r2 := R 2
  have r3 := R 3
  have g144 : ¬ s99.eval < 2048 := lss_f h144
  have g138 : (Val.num 2) < 8 := lss_t h138
  have g137 : ¬ (Val.num 2) < 0 := lss_f h137
  have g139 : ¬ (Val.num 3) < 0 := lss_f h139
  have g140 : (Val.num 3) < 4096 := lss_t h140
  have l2 : 0 ≤ Val.num 2 := by clear R r3; omega
  have u2 : Val.num 2 ≤ 7 := by clear R r3; omega
  have l3 : 0 ≤ Val.num 3 := by clear R r2; omega
  have u3 : Val.num 3 ≤ 4095 := by clear R r2; omega
  have xs99 := s99_x l2 u2 l3 u3
  have xs109 := s109_x l2 u2 l3 u3
  have g : ¬ s109.eval < 2048 := by omega
  exact lss_f' g
theorem c134 [Val] (R : In64) (h138 : Bx.eval b138 = true) (h137 : Bx.eval b137 = false) (h139 : Bx.eval b139 = false) (h140 : Bx.eval b140 = true) : Bx.eval b151 = true := by
  have r2 := R 2
  have r3 := R 3
  have g138 : (Val.num 2) < 8 := lss_t h138
  have g137 : ¬ (Val.num 2) < 0 := lss_f h137
  have g139 : ¬ (Val.num 3) < 0 := lss_f h139
  have g140 : (Val.num 3) < 4096 := lss_t h140
  have l2 : 0 ≤ Val.num 2 := by clear R r3; omega
  have u2 : Val.num 2 ≤ 7 := by clear R r3; omega
  have l3 : 0 ≤ Val.num 3 := by clear R r2; omega
  have u3 : Val.num 3 ≤ 4095 := by clear R r2; omega
  have xs118 := s118_x l2 u2 l3 u3
  have xs121 := s121_x l2 u2 l3 u3
  have g : s118.eval = s121.eval := by omega
  exact eql_t' g
theorem c135 [Val] (R : In64) (h151 : Bx.eval b151 = true) (h147 : Bx.eval b147 = true) (h138 : Bx.eval b138 = true) (h137 : Bx.eval b137 = false) (h139 : Bx.eval b139 = false) (h140 : Bx.eval b140 = true) : Bx.eval b152 = true := by
  have r2 := R 2
  have r3 := R 3
  have g151 : s118.eval = s121.eval := eql_t h151
  have g147 : s107.eval < 32768 := lss_t h147
  have g138 : (Val.num 2) < 8 := lss_t h138
  have g137 : ¬ (Val.num 2) < 0 := lss_f h137
  have g139 : ¬ (Val.num 3) < 0 := lss_f h139
  have g140 : (Val.num 3) < 4096 := lss_t h140
  have l2 : 0 ≤ Val.num 2 := by clear R r3; omega
  have u2 : Val.num 2 ≤ 7 := by clear R r3; omega
  have l3 : 0 ≤ Val.num 3 := by clear R r2; omega
  have u3 : Val.num 3 ≤ 4095 := by clear R r2; omega
  have xs107 := s107_x l2 u2 l3 u3
  have xs116 := s116_x l2 u2 l3 u3
  have xs118 := s118_x l2 u2 l3 u3
  have xs119 := s119_x l2 u2 l3 u3
  have xs121 := s121_x l2 u2 l3 u3
  have g : s116.eval = s119.eval := by omega
  exact eql_t' g
end Go.Proofs.Ytfifebennpenkaa
