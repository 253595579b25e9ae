/-
  Terms and conditions of EmitLays's paths, and what they are as plain numbers. Conditions: none beside each theorem's own.
-/
import Derived.Test.YtfifebennpenkaaTwGroup
namespace Go.Proofs.Ytfifebennpenkaa
open Go.Tw
def In64 [Val] : Prop := ∀ i, -9223372036854775808 ≤ Val.num i ∧ Val.num i < 9223372036854775808
theorem mask_i64_12 (a : Int) : bitsA .i64 (· &&& ·) a 4095 = a % 4096 := by
  have h := and_mask a 12 (by decide)
  simpa using h
theorem mask_u64_4 (a : Int) : bitsA .u64 (· &&& ·) a 15 = a % 16 := by
  have h := and_mask_u a 4 (by decide)
  simpa using h
theorem mask_u64_12 (a : Int) : bitsA .u64 (· &&& ·) a 4095 = a % 4096 := by
  have h := and_mask_u a 12 (by decide)
  simpa using h
def s0 : Sx := .bin .and .i64 (.var 1) (.lit 4095)
theorem s0_is [Val] : s0.eval = (Val.num 1) % 4096 := mask_i64_12 (Val.num 1)
def s1 : Sx := .bin .sub .i64 (.var 1) s0
theorem s1_is [Val] : (s1.eval - ((Val.num 1) - s0.eval)) % 18446744073709551616 = 0 ∧ -9223372036854775808 ≤ s1.eval ∧ s1.eval < 9223372036854775808 := spec_i64 ((Val.num 1) - s0.eval)
def s2 : Sx := .bin .quo .i64 s1 (.lit 4096)
theorem s2_is [Val] : ∃ q : Int, (0 ≤ s1.eval → q = s1.eval / 4096) ∧ (s1.eval < 0 → q = -((-s1.eval) / 4096)) ∧ (s2.eval - (q)) % 18446744073709551616 = 0 ∧ -9223372036854775808 ≤ s2.eval ∧ s2.eval < 9223372036854775808 := quo_i64 s1.eval 4096
def s3 : Sx := .bin .and .i64 s2 (.lit 4095)
theorem s3_is [Val] : s3.eval = s2.eval % 4096 := mask_i64_12 s2.eval
def s4 : Sx := .bin .sub .i64 s2 s3
theorem s4_is [Val] : (s4.eval - (s2.eval - s3.eval)) % 18446744073709551616 = 0 ∧ -9223372036854775808 ≤ s4.eval ∧ s4.eval < 9223372036854775808 := spec_i64 (s2.eval - s3.eval)
def s5 : Sx := .bin .quo .i64 s4 (.lit 4096)
theorem s5_is [Val] : ∃ q : Int, (0 ≤ s4.eval → q = s4.eval / 4096) ∧ (s4.eval < 0 → q = -((-s4.eval) / 4096)) ∧ (s5.eval - (q)) % 18446744073709551616 = 0 ∧ -9223372036854775808 ≤ s5.eval ∧ s5.eval < 9223372036854775808 := quo_i64 s4.eval 4096
def s6 : Sx := .bin .and .i64 s5 (.lit 4095)
theorem s6_is [Val] : s6.eval = s5.eval % 4096 := mask_i64_12 s5.eval
def s7 : Sx := .bin .sub .i64 s5 s6
theorem s7_is [Val] : (s7.eval - (s5.eval - s6.eval)) % 18446744073709551616 = 0 ∧ -9223372036854775808 ≤ s7.eval ∧ s7.eval < 9223372036854775808 := spec_i64 (s5.eval - s6.eval)
def s8 : Sx := .bin .quo .i64 s7 (.lit 4096)
theorem s8_is [Val] : ∃ q : Int, (0 ≤ s7.eval → q = s7.eval / 4096) ∧ (s7.eval < 0 → q = -((-s7.eval) / 4096)) ∧ (s8.eval - (q)) % 18446744073709551616 = 0 ∧ -9223372036854775808 ≤ s8.eval ∧ s8.eval < 9223372036854775808 := quo_i64 s7.eval 4096
def s9 : Sx := .bin .and .i64 s8 (.lit 4095)
theorem s9_is [Val] : s9.eval = s8.eval % 4096 := mask_i64_12 s8.eval
def s10 : Sx := .bin .sub .i64 s8 s9
theorem s10_is [Val] : (s10.eval - (s8.eval - s9.eval)) % 18446744073709551616 = 0 ∧ -9223372036854775808 ≤ s10.eval ∧ s10.eval < 9223372036854775808 := spec_i64 (s8.eval - s9.eval)
def s11 : Sx := .bin .quo .i64 s10 (.lit 4096)
theorem s11_is [Val] : ∃ q : Int, (0 ≤ s10.eval → q = s10.eval / 4096) ∧ (s10.eval < 0 → q = -((-s10.eval) / 4096)) ∧ (s11.eval - (q)) % 18446744073709551616 = 0 ∧ -9223372036854775808 ≤ s11.eval ∧ s11.eval < 9223372036854775808 := quo_i64 s10.eval 4096
def s12 : Sx := .bin .sub .i64 s9 (.lit 4096)
theorem s12_is [Val] : (s12.eval - (s9.eval - 4096)) % 18446744073709551616 = 0 ∧ -9223372036854775808 ≤ s12.eval ∧ s12.eval < 9223372036854775808 := spec_i64 (s9.eval - 4096)
def s13 : Sx := .bin .sub .i64 s8 s12
theorem s13_is [Val] : (s13.eval - (s8.eval - s12.eval)) % 18446744073709551616 = 0 ∧ -9223372036854775808 ≤ s13.eval ∧ s13.eval < 9223372036854775808 := spec_i64 (s8.eval - s12.eval)
def s14 : Sx := .bin .quo .i64 s13 (.lit 4096)
theorem s14_is [Val] : ∃ q : Int, (0 ≤ s13.eval → q = s13.eval / 4096) ∧ (s13.eval < 0 → q = -((-s13.eval) / 4096)) ∧ (s14.eval - (q)) % 18446744073709551616 = 0 ∧ -9223372036854775808 ≤ s14.eval ∧ s14.eval < 9223372036854775808 := quo_i64 s13.eval 4096
def s15 : Sx := .bin .sub .i64 s6 (.lit 4096)
theorem s15_is [Val] : (s15.eval - (s6.eval - 4096)) % 18446744073709551616 = 0 ∧ -9223372036854775808 ≤ s15.eval ∧ s15.eval < 9223372036854775808 := spec_i64 (s6.eval - 4096)
def s16 : Sx := .bin .sub .i64 s5 s15
theorem s16_is [Val] : (s16.eval - (s5.eval - s15.eval)) % 18446744073709551616 = 0 ∧ -9223372036854775808 ≤ s16.eval ∧ s16.eval < 9223372036854775808 := spec_i64 (s5.eval - s15.eval)
def s17 : Sx := .bin .quo .i64 s16 (.lit 4096)
theorem s17_is [Val] : ∃ q : Int, (0 ≤ s16.eval → q = s16.eval / 4096) ∧ (s16.eval < 0 → q = -((-s16.eval) / 4096)) ∧ (s17.eval - (q)) % 18446744073709551616 = 0 ∧ -9223372036854775808 ≤ s17.eval ∧ s17.eval < 9223372036854775808 := quo_i64 s16.eval 4096
def s18 : Sx := .bin .and .i64 s17 (.lit 4095)
theorem s18_is [Val] : s18.eval = s17.eval % 4096 := mask_i64_12 s17.eval
def s19 : Sx := .bin .sub .i64 s17 s18
theorem s19_is [Val] : (s19.eval - (s17.eval - s18.eval)) % 18446744073709551616 = 0 ∧ -9223372036854775808 ≤ s19.eval ∧ s19.eval < 9223372036854775808 := spec_i64 (s17.eval - s18.eval)
def s20 : Sx := .bin .quo .i64 s19 (.lit 4096)
theorem s20_is [Val] : ∃ q : Int, (0 ≤ s19.eval → q = s19.eval / 4096) ∧ (s19.eval < 0 → q = -((-s19.eval) / 4096)) ∧ (s20.eval - (q)) % 18446744073709551616 = 0 ∧ -9223372036854775808 ≤ s20.eval ∧ s20.eval < 9223372036854775808 := quo_i64 s19.eval 4096
def s21 : Sx := .bin .sub .i64 s18 (.lit 4096)
theorem s21_is [Val] : (s21.eval - (s18.eval - 4096)) % 18446744073709551616 = 0 ∧ -9223372036854775808 ≤ s21.eval ∧ s21.eval < 9223372036854775808 := spec_i64 (s18.eval - 4096)
def s22 : Sx := .bin .sub .i64 s17 s21
theorem s22_is [Val] : (s22.eval - (s17.eval - s21.eval)) % 18446744073709551616 = 0 ∧ -9223372036854775808 ≤ s22.eval ∧ s22.eval < 9223372036854775808 := spec_i64 (s17.eval - s21.eval)
def s23 : Sx := .bin .quo .i64 s22 (.lit 4096)
theorem s23_is [Val] : ∃ q : Int, (0 ≤ s22.eval → q = s22.eval / 4096) ∧ (s22.eval < 0 → q = -((-s22.eval) / 4096)) ∧ (s23.eval - (q)) % 18446744073709551616 = 0 ∧ -9223372036854775808 ≤ s23.eval ∧ s23.eval < 9223372036854775808 := quo_i64 s22.eval 4096
def s24 : Sx := .bin .sub .i64 s3 (.lit 4096)
theorem s24_is [Val] : (s24.eval - (s3.eval - 4096)) % 18446744073709551616 = 0 ∧ -9223372036854775808 ≤ s24.eval ∧ s24.eval < 9223372036854775808 := spec_i64 (s3.eval - 4096)
def s25 : Sx := .bin .sub .i64 s2 s24
theorem s25_is [Val] : (s25.eval - (s2.eval - s24.eval)) % 18446744073709551616 = 0 ∧ -9223372036854775808 ≤ s25.eval ∧ s25.eval < 9223372036854775808 := spec_i64 (s2.eval - s24.eval)
def s26 : Sx := .bin .quo .i64 s25 (.lit 4096)
theorem s26_is [Val] : ∃ q : Int, (0 ≤ s25.eval → q = s25.eval / 4096) ∧ (s25.eval < 0 → q = -((-s25.eval) / 4096)) ∧ (s26.eval - (q)) % 18446744073709551616 = 0 ∧ -9223372036854775808 ≤ s26.eval ∧ s26.eval < 9223372036854775808 := quo_i64 s25.eval 4096
def s27 : Sx := .bin .and .i64 s26 (.lit 4095)
theorem s27_is [Val] : s27.eval = s26.eval % 4096 := mask_i64_12 s26.eval
def s28 : Sx := .bin .sub .i64 s26 s27
theorem s28_is [Val] : (s28.eval - (s26.eval - s27.eval)) % 18446744073709551616 = 0 ∧ -9223372036854775808 ≤ s28.eval ∧ s28.eval < 9223372036854775808 := spec_i64 (s26.eval - s27.eval)
def s29 : Sx := .bin .quo .i64 s28 (.lit 4096)
theorem s29_is [Val] : ∃ q : Int, (0 ≤ s28.eval → q = s28.eval / 4096) ∧ (s28.eval < 0 → q = -((-s28.eval) / 4096)) ∧ (s29.eval - (q)) % 18446744073709551616 = 0 ∧ -9223372036854775808 ≤ s29.eval ∧ s29.eval < 9223372036854775808 := quo_i64 s28.eval 4096
def s30 : Sx := .bin .and .i64 s29 (.lit 4095)
theorem s30_is [Val] : s30.eval = s29.eval % 4096 := mask_i64_12 s29.eval
def s31 : Sx := .bin .sub .i64 s29 s30
theorem s31_is [Val] : (s31.eval - (s29.eval - s30.eval)) % 18446744073709551616 = 0 ∧ -9223372036854775808 ≤ s31.eval ∧ s31.eval < 9223372036854775808 := spec_i64 (s29.eval - s30.eval)
def s32 : Sx := .bin .quo .i64 s31 (.lit 4096)
theorem s32_is [Val] : ∃ q : Int, (0 ≤ s31.eval → q = s31.eval / 4096) ∧ (s31.eval < 0 → q = -((-s31.eval) / 4096)) ∧ (s32.eval - (q)) % 18446744073709551616 = 0 ∧ -9223372036854775808 ≤ s32.eval ∧ s32.eval < 9223372036854775808 := quo_i64 s31.eval 4096
def s33 : Sx := .bin .sub .i64 s30 (.lit 4096)
theorem s33_is [Val] : (s33.eval - (s30.eval - 4096)) % 18446744073709551616 = 0 ∧ -9223372036854775808 ≤ s33.eval ∧ s33.eval < 9223372036854775808 := spec_i64 (s30.eval - 4096)
def s34 : Sx := .bin .sub .i64 s29 s33
theorem s34_is [Val] : (s34.eval - (s29.eval - s33.eval)) % 18446744073709551616 = 0 ∧ -9223372036854775808 ≤ s34.eval ∧ s34.eval < 9223372036854775808 := spec_i64 (s29.eval - s33.eval)
def s35 : Sx := .bin .quo .i64 s34 (.lit 4096)
theorem s35_is [Val] : ∃ q : Int, (0 ≤ s34.eval → q = s34.eval / 4096) ∧ (s34.eval < 0 → q = -((-s34.eval) / 4096)) ∧ (s35.eval - (q)) % 18446744073709551616 = 0 ∧ -9223372036854775808 ≤ s35.eval ∧ s35.eval < 9223372036854775808 := quo_i64 s34.eval 4096
def s36 : Sx := .bin .sub .i64 s27 (.lit 4096)
theorem s36_is [Val] : (s36.eval - (s27.eval - 4096)) % 18446744073709551616 = 0 ∧ -9223372036854775808 ≤ s36.eval ∧ s36.eval < 9223372036854775808 := spec_i64 (s27.eval - 4096)
def s37 : Sx := .bin .sub .i64 s26 s36
theorem s37_is [Val] : (s37.eval - (s26.eval - s36.eval)) % 18446744073709551616 = 0 ∧ -9223372036854775808 ≤ s37.eval ∧ s37.eval < 9223372036854775808 := spec_i64 (s26.eval - s36.eval)
def s38 : Sx := .bin .quo .i64 s37 (.lit 4096)
theorem s38_is [Val] : ∃ q : Int, (0 ≤ s37.eval → q = s37.eval / 4096) ∧ (s37.eval < 0 → q = -((-s37.eval) / 4096)) ∧ (s38.eval - (q)) % 18446744073709551616 = 0 ∧ -9223372036854775808 ≤ s38.eval ∧ s38.eval < 9223372036854775808 := quo_i64 s37.eval 4096
def s39 : Sx := .bin .and .i64 s38 (.lit 4095)
theorem s39_is [Val] : s39.eval = s38.eval % 4096 := mask_i64_12 s38.eval
def s40 : Sx := .bin .sub .i64 s38 s39
theorem s40_is [Val] : (s40.eval - (s38.eval - s39.eval)) % 18446744073709551616 = 0 ∧ -9223372036854775808 ≤ s40.eval ∧ s40.eval < 9223372036854775808 := spec_i64 (s38.eval - s39.eval)
def s41 : Sx := .bin .quo .i64 s40 (.lit 4096)
theorem s41_is [Val] : ∃ q : Int, (0 ≤ s40.eval → q = s40.eval / 4096) ∧ (s40.eval < 0 → q = -((-s40.eval) / 4096)) ∧ (s41.eval - (q)) % 18446744073709551616 = 0 ∧ -9223372036854775808 ≤ s41.eval ∧ s41.eval < 9223372036854775808 := quo_i64 s40.eval 4096
def s42 : Sx := .bin .sub .i64 s39 (.lit 4096)
theorem s42_is [Val] : (s42.eval - (s39.eval - 4096)) % 18446744073709551616 = 0 ∧ -9223372036854775808 ≤ s42.eval ∧ s42.eval < 9223372036854775808 := spec_i64 (s39.eval - 4096)
def s43 : Sx := .bin .sub .i64 s38 s42
theorem s43_is [Val] : (s43.eval - (s38.eval - s42.eval)) % 18446744073709551616 = 0 ∧ -9223372036854775808 ≤ s43.eval ∧ s43.eval < 9223372036854775808 := spec_i64 (s38.eval - s42.eval)
def s44 : Sx := .bin .quo .i64 s43 (.lit 4096)
theorem s44_is [Val] : ∃ q : Int, (0 ≤ s43.eval → q = s43.eval / 4096) ∧ (s43.eval < 0 → q = -((-s43.eval) / 4096)) ∧ (s44.eval - (q)) % 18446744073709551616 = 0 ∧ -9223372036854775808 ≤ s44.eval ∧ s44.eval < 9223372036854775808 := quo_i64 s43.eval 4096
def s45 : Sx := .bin .sub .i64 s0 (.lit 4096)
theorem s45_is [Val] : (s45.eval - (s0.eval - 4096)) % 18446744073709551616 = 0 ∧ -9223372036854775808 ≤ s45.eval ∧ s45.eval < 9223372036854775808 := spec_i64 (s0.eval - 4096)
def s46 : Sx := .bin .sub .i64 (.var 1) s45
theorem s46_is [Val] : (s46.eval - ((Val.num 1) - s45.eval)) % 18446744073709551616 = 0 ∧ -9223372036854775808 ≤ s46.eval ∧ s46.eval < 9223372036854775808 := spec_i64 ((Val.num 1) - s45.eval)
def s47 : Sx := .bin .quo .i64 s46 (.lit 4096)
theorem s47_is [Val] : ∃ q : Int, (0 ≤ s46.eval → q = s46.eval / 4096) ∧ (s46.eval < 0 → q = -((-s46.eval) / 4096)) ∧ (s47.eval - (q)) % 18446744073709551616 = 0 ∧ -9223372036854775808 ≤ s47.eval ∧ s47.eval < 9223372036854775808 := quo_i64 s46.eval 4096
def s48 : Sx := .bin .and .i64 s47 (.lit 4095)
theorem s48_is [Val] : s48.eval = s47.eval % 4096 := mask_i64_12 s47.eval
def s49 : Sx := .bin .sub .i64 s47 s48
theorem s49_is [Val] : (s49.eval - (s47.eval - s48.eval)) % 18446744073709551616 = 0 ∧ -9223372036854775808 ≤ s49.eval ∧ s49.eval < 9223372036854775808 := spec_i64 (s47.eval - s48.eval)
def s50 : Sx := .bin .quo .i64 s49 (.lit 4096)
theorem s50_is [Val] : ∃ q : Int, (0 ≤ s49.eval → q = s49.eval / 4096) ∧ (s49.eval < 0 → q = -((-s49.eval) / 4096)) ∧ (s50.eval - (q)) % 18446744073709551616 = 0 ∧ -9223372036854775808 ≤ s50.eval ∧ s50.eval < 9223372036854775808 := quo_i64 s49.eval 4096
def s51 : Sx := .bin .and .i64 s50 (.lit 4095)
theorem s51_is [Val] : s51.eval = s50.eval % 4096 := mask_i64_12 s50.eval
def s52 : Sx := .bin .sub .i64 s50 s51
theorem s52_is [Val] : (s52.eval - (s50.eval - s51.eval)) % 18446744073709551616 = 0 ∧ -9223372036854775808 ≤ s52.eval ∧ s52.eval < 9223372036854775808 := spec_i64 (s50.eval - s51.eval)
def s53 : Sx := .bin .quo .i64 s52 (.lit 4096)
theorem s53_is [Val] : ∃ q : Int, (0 ≤ s52.eval → q = s52.eval / 4096) ∧ (s52.eval < 0 → q = -((-s52.eval) / 4096)) ∧ (s53.eval - (q)) % 18446744073709551616 = 0 ∧ -9223372036854775808 ≤ s53.eval ∧ s53.eval < 9223372036854775808 := quo_i64 s52.eval 4096
def s54 : Sx := .bin .and .i64 s53 (.lit 4095)
theorem s54_is [Val] : s54.eval = s53.eval % 4096 := mask_i64_12 s53.eval
def s55 : Sx := .bin .sub .i64 s53 s54
theorem s55_is [Val] : (s55.eval - (s53.eval - s54.eval)) % 18446744073709551616 = 0 ∧ -9223372036854775808 ≤ s55.eval ∧ s55.eval < 9223372036854775808 := spec_i64 (s53.eval - s54.eval)
def s56 : Sx := .bin .quo .i64 s55 (.lit 4096)
theorem s56_is [Val] : ∃ q : Int, (0 ≤ s55.eval → q = s55.eval / 4096) ∧ (s55.eval < 0 → q = -((-s55.eval) / 4096)) ∧ (s56.eval - (q)) % 18446744073709551616 = 0 ∧ -9223372036854775808 ≤ s56.eval ∧ s56.eval < 9223372036854775808 := quo_i64 s55.eval 4096
def s57 : Sx := .bin .sub .i64 s54 (.lit 4096)
theorem s57_is [Val] : (s57.eval - (s54.eval - 4096)) % 18446744073709551616 = 0 ∧ -9223372036854775808 ≤ s57.eval ∧ s57.eval < 9223372036854775808 := spec_i64 (s54.eval - 4096)
def s58 : Sx := .bin .sub .i64 s53 s57
theorem s58_is [Val] : (s58.eval - (s53.eval - s57.eval)) % 18446744073709551616 = 0 ∧ -9223372036854775808 ≤ s58.eval ∧ s58.eval < 9223372036854775808 := spec_i64 (s53.eval - s57.eval)
def s59 : Sx := .bin .quo .i64 s58 (.lit 4096)
theorem s59_is [Val] : ∃ q : Int, (0 ≤ s58.eval → q = s58.eval / 4096) ∧ (s58.eval < 0 → q = -((-s58.eval) / 4096)) ∧ (s59.eval - (q)) % 18446744073709551616 = 0 ∧ -9223372036854775808 ≤ s59.eval ∧ s59.eval < 9223372036854775808 := quo_i64 s58.eval 4096
def s60 : Sx := .bin .sub .i64 s51 (.lit 4096)
theorem s60_is [Val] : (s60.eval - (s51.eval - 4096)) % 18446744073709551616 = 0 ∧ -9223372036854775808 ≤ s60.eval ∧ s60.eval < 9223372036854775808 := spec_i64 (s51.eval - 4096)
def s61 : Sx := .bin .sub .i64 s50 s60
theorem s61_is [Val] : (s61.eval - (s50.eval - s60.eval)) % 18446744073709551616 = 0 ∧ -9223372036854775808 ≤ s61.eval ∧ s61.eval < 9223372036854775808 := spec_i64 (s50.eval - s60.eval)
def s62 : Sx := .bin .quo .i64 s61 (.lit 4096)
theorem s62_is [Val] : ∃ q : Int, (0 ≤ s61.eval → q = s61.eval / 4096) ∧ (s61.eval < 0 → q = -((-s61.eval) / 4096)) ∧ (s62.eval - (q)) % 18446744073709551616 = 0 ∧ -9223372036854775808 ≤ s62.eval ∧ s62.eval < 9223372036854775808 := quo_i64 s61.eval 4096
def s63 : Sx := .bin .and .i64 s62 (.lit 4095)
theorem s63_is [Val] : s63.eval = s62.eval % 4096 := mask_i64_12 s62.eval
def s64 : Sx := .bin .sub .i64 s62 s63
theorem s64_is [Val] : (s64.eval - (s62.eval - s63.eval)) % 18446744073709551616 = 0 ∧ -9223372036854775808 ≤ s64.eval ∧ s64.eval < 9223372036854775808 := spec_i64 (s62.eval - s63.eval)
def s65 : Sx := .bin .quo .i64 s64 (.lit 4096)
theorem s65_is [Val] : ∃ q : Int, (0 ≤ s64.eval → q = s64.eval / 4096) ∧ (s64.eval < 0 → q = -((-s64.eval) / 4096)) ∧ (s65.eval - (q)) % 18446744073709551616 = 0 ∧ -9223372036854775808 ≤ s65.eval ∧ s65.eval < 9223372036854775808 := quo_i64 s64.eval 4096
def s66 : Sx := .bin .sub .i64 s63 (.lit 4096)
theorem s66_is [Val] : (s66.eval - (s63.eval - 4096)) % 18446744073709551616 = 0 ∧ -9223372036854775808 ≤ s66.eval ∧ s66.eval < 9223372036854775808 := spec_i64 (s63.eval - 4096)
def s67 : Sx := .bin .sub .i64 s62 s66
theorem s67_is [Val] : (s67.eval - (s62.eval - s66.eval)) % 18446744073709551616 = 0 ∧ -9223372036854775808 ≤ s67.eval ∧ s67.eval < 9223372036854775808 := spec_i64 (s62.eval - s66.eval)
def s68 : Sx := .bin .quo .i64 s67 (.lit 4096)
theorem s68_is [Val] : ∃ q : Int, (0 ≤ s67.eval → q = s67.eval / 4096) ∧ (s67.eval < 0 → q = -((-s67.eval) / 4096)) ∧ (s68.eval - (q)) % 18446744073709551616 = 0 ∧ -9223372036854775808 ≤ s68.eval ∧ s68.eval < 9223372036854775808 := quo_i64 s67.eval 4096
def s69 : Sx := .bin .sub .i64 s48 (.lit 4096)
theorem s69_is [Val] : (s69.eval - (s48.eval - 4096)) % 18446744073709551616 = 0 ∧ -9223372036854775808 ≤ s69.eval ∧ s69.eval < 9223372036854775808 := spec_i64 (s48.eval - 4096)
def s70 : Sx := .bin .sub .i64 s47 s69
theorem s70_is [Val] : (s70.eval - (s47.eval - s69.eval)) % 18446744073709551616 = 0 ∧ -9223372036854775808 ≤ s70.eval ∧ s70.eval < 9223372036854775808 := spec_i64 (s47.eval - s69.eval)
def s71 : Sx := .bin .quo .i64 s70 (.lit 4096)
theorem s71_is [Val] : ∃ q : Int, (0 ≤ s70.eval → q = s70.eval / 4096) ∧ (s70.eval < 0 → q = -((-s70.eval) / 4096)) ∧ (s71.eval - (q)) % 18446744073709551616 = 0 ∧ -9223372036854775808 ≤ s71.eval ∧ s71.eval < 9223372036854775808 := quo_i64 s70.eval 4096
def s72 : Sx := .bin .and .i64 s71 (.lit 4095)
theorem s72_is [Val] : s72.eval = s71.eval % 4096 := mask_i64_12 s71.eval
def s73 : Sx := .bin .sub .i64 s71 s72
theorem s73_is [Val] : (s73.eval - (s71.eval - s72.eval)) % 18446744073709551616 = 0 ∧ -9223372036854775808 ≤ s73.eval ∧ s73.eval < 9223372036854775808 := spec_i64 (s71.eval - s72.eval)
def s74 : Sx := .bin .quo .i64 s73 (.lit 4096)
theorem s74_is [Val] : ∃ q : Int, (0 ≤ s73.eval → q = s73.eval / 4096) ∧ (s73.eval < 0 → q = -((-s73.eval) / 4096)) ∧ (s74.eval - (q)) % 18446744073709551616 = 0 ∧ -9223372036854775808 ≤ s74.eval ∧ s74.eval < 9223372036854775808 := quo_i64 s73.eval 4096
def s75 : Sx := .bin .and .i64 s74 (.lit 4095)
theorem s75_is [Val] : s75.eval = s74.eval % 4096 := mask_i64_12 s74.eval
def s76 : Sx := .bin .sub .i64 s74 s75
theorem s76_is [Val] : (s76.eval - (s74.eval - s75.eval)) % 18446744073709551616 = 0 ∧ -9223372036854775808 ≤ s76.eval ∧ s76.eval < 9223372036854775808 := spec_i64 (s74.eval - s75.eval)
def s77 : Sx := .bin .quo .i64 s76 (.lit 4096)
theorem s77_is [Val] : ∃ q : Int, (0 ≤ s76.eval → q = s76.eval / 4096) ∧ (s76.eval < 0 → q = -((-s76.eval) / 4096)) ∧ (s77.eval - (q)) % 18446744073709551616 = 0 ∧ -9223372036854775808 ≤ s77.eval ∧ s77.eval < 9223372036854775808 := quo_i64 s76.eval 4096
def s78 : Sx := .bin .sub .i64 s75 (.lit 4096)
theorem s78_is [Val] : (s78.eval - (s75.eval - 4096)) % 18446744073709551616 = 0 ∧ -9223372036854775808 ≤ s78.eval ∧ s78.eval < 9223372036854775808 := spec_i64 (s75.eval - 4096)
def s79 : Sx := .bin .sub .i64 s74 s78
theorem s79_is [Val] : (s79.eval - (s74.eval - s78.eval)) % 18446744073709551616 = 0 ∧ -9223372036854775808 ≤ s79.eval ∧ s79.eval < 9223372036854775808 := spec_i64 (s74.eval - s78.eval)
def s80 : Sx := .bin .quo .i64 s79 (.lit 4096)
theorem s80_is [Val] : ∃ q : Int, (0 ≤ s79.eval → q = s79.eval / 4096) ∧ (s79.eval < 0 → q = -((-s79.eval) / 4096)) ∧ (s80.eval - (q)) % 18446744073709551616 = 0 ∧ -9223372036854775808 ≤ s80.eval ∧ s80.eval < 9223372036854775808 := quo_i64 s79.eval 4096
def s81 : Sx := .bin .sub .i64 s72 (.lit 4096)
theorem s81_is [Val] : (s81.eval - (s72.eval - 4096)) % 18446744073709551616 = 0 ∧ -9223372036854775808 ≤ s81.eval ∧ s81.eval < 9223372036854775808 := spec_i64 (s72.eval - 4096)
def s82 : Sx := .bin .sub .i64 s71 s81
theorem s82_is [Val] : (s82.eval - (s71.eval - s81.eval)) % 18446744073709551616 = 0 ∧ -9223372036854775808 ≤ s82.eval ∧ s82.eval < 9223372036854775808 := spec_i64 (s71.eval - s81.eval)
def s83 : Sx := .bin .quo .i64 s82 (.lit 4096)
theorem s83_is [Val] : ∃ q : Int, (0 ≤ s82.eval → q = s82.eval / 4096) ∧ (s82.eval < 0 → q = -((-s82.eval) / 4096)) ∧ (s83.eval - (q)) % 18446744073709551616 = 0 ∧ -9223372036854775808 ≤ s83.eval ∧ s83.eval < 9223372036854775808 := quo_i64 s82.eval 4096
def s84 : Sx := .bin .and .i64 s83 (.lit 4095)
theorem s84_is [Val] : s84.eval = s83.eval % 4096 := mask_i64_12 s83.eval
def s85 : Sx := .bin .sub .i64 s83 s84
theorem s85_is [Val] : (s85.eval - (s83.eval - s84.eval)) % 18446744073709551616 = 0 ∧ -9223372036854775808 ≤ s85.eval ∧ s85.eval < 9223372036854775808 := spec_i64 (s83.eval - s84.eval)
def s86 : Sx := .bin .quo .i64 s85 (.lit 4096)
theorem s86_is [Val] : ∃ q : Int, (0 ≤ s85.eval → q = s85.eval / 4096) ∧ (s85.eval < 0 → q = -((-s85.eval) / 4096)) ∧ (s86.eval - (q)) % 18446744073709551616 = 0 ∧ -9223372036854775808 ≤ s86.eval ∧ s86.eval < 9223372036854775808 := quo_i64 s85.eval 4096
def s87 : Sx := .bin .sub .i64 s84 (.lit 4096)
theorem s87_is [Val] : (s87.eval - (s84.eval - 4096)) % 18446744073709551616 = 0 ∧ -9223372036854775808 ≤ s87.eval ∧ s87.eval < 9223372036854775808 := spec_i64 (s84.eval - 4096)
def s88 : Sx := .bin .sub .i64 s83 s87
theorem s88_is [Val] : (s88.eval - (s83.eval - s87.eval)) % 18446744073709551616 = 0 ∧ -9223372036854775808 ≤ s88.eval ∧ s88.eval < 9223372036854775808 := spec_i64 (s83.eval - s87.eval)
def s89 : Sx := .bin .quo .i64 s88 (.lit 4096)
theorem s89_is [Val] : ∃ q : Int, (0 ≤ s88.eval → q = s88.eval / 4096) ∧ (s88.eval < 0 → q = -((-s88.eval) / 4096)) ∧ (s89.eval - (q)) % 18446744073709551616 = 0 ∧ -9223372036854775808 ≤ s89.eval ∧ s89.eval < 9223372036854775808 := quo_i64 s88.eval 4096
def s90 : Sx := .bin .shl .i64 (.var 3) (.lit 3)
theorem s90_is [Val] : (s90.eval - ((Val.num 3) * 8)) % 18446744073709551616 = 0 ∧ -9223372036854775808 ≤ s90.eval ∧ s90.eval < 9223372036854775808 := spec_i64 ((Val.num 3) * 8)
def s91 : Sx := .bin .or .i64 s90 (.var 2)
theorem s91_is [Val] : (0 ≤ s90.eval → s90.eval < 1152921504606846976 → s90.eval % 8 = 0 → 0 ≤ (Val.num 2) → (Val.num 2) < 8 → s91.eval = s90.eval + (Val.num 2)) := or_8 s90.eval (Val.num 2)
def s92 : Sx := .wrap .u64 s91
theorem s92_is [Val] : (s92.eval - (s91.eval)) % 18446744073709551616 = 0 ∧ 0 ≤ s92.eval ∧ s92.eval < 18446744073709551616 := spec_u64 s91.eval
def s93 : Sx := .bin .shl .u64 s92 (.lit 4)
theorem s93_is [Val] : (s93.eval - (s92.eval * 16)) % 18446744073709551616 = 0 ∧ 0 ≤ s93.eval ∧ s93.eval < 18446744073709551616 := spec_u64 (s92.eval * 16)
def s94 : Sx := .bin .add .u64 (.lit 1073741824) s93
theorem s94_is [Val] : (s94.eval - (1073741824 + s93.eval)) % 18446744073709551616 = 0 ∧ 0 ≤ s94.eval ∧ s94.eval < 18446744073709551616 := spec_u64 (1073741824 + s93.eval)
def s95 : Sx := .bin .sub .u64 s94 (.lit 1073741824)
theorem s95_is [Val] : (s95.eval - (s94.eval - 1073741824)) % 18446744073709551616 = 0 ∧ 0 ≤ s95.eval ∧ s95.eval < 18446744073709551616 := spec_u64 (s94.eval - 1073741824)
def s96 : Sx := .bin .and .u64 s95 (.lit 15)
theorem s96_is [Val] : s96.eval = s95.eval % 16 := mask_u64_4 s95.eval
def s97 : Sx := .bin .shr .u64 s95 (.lit 4)
theorem s97_is [Val] : s97.eval = s95.eval / 16 := fdiv_lit s95.eval 16
def s98 : Sx := .bin .and .u64 s94 (.lit 4095)
theorem s98_is [Val] : s98.eval = s94.eval % 4096 := mask_u64_12 s94.eval
def s99 : Sx := .wrap .i64 s98
theorem s99_is [Val] : (s99.eval - (s98.eval)) % 18446744073709551616 = 0 ∧ -9223372036854775808 ≤ s99.eval ∧ s99.eval < 9223372036854775808 := spec_i64 s98.eval
def s100 : Sx := .bin .mul .i64 (.lit 8) (.var 3)
theorem s100_is [Val] : (s100.eval - (8 * (Val.num 3))) % 18446744073709551616 = 0 ∧ -9223372036854775808 ≤ s100.eval ∧ s100.eval < 9223372036854775808 := spec_i64 (8 * (Val.num 3))
def s101 : Sx := .bin .add .i64 s100 (.var 2)
theorem s101_is [Val] : (s101.eval - (s100.eval + (Val.num 2))) % 18446744073709551616 = 0 ∧ -9223372036854775808 ≤ s101.eval ∧ s101.eval < 9223372036854775808 := spec_i64 (s100.eval + (Val.num 2))
def s102 : Sx := .bin .mul .i64 (.lit 16) s101
theorem s102_is [Val] : (s102.eval - (16 * s101.eval)) % 18446744073709551616 = 0 ∧ -9223372036854775808 ≤ s102.eval ∧ s102.eval < 9223372036854775808 := spec_i64 (16 * s101.eval)
def s103 : Sx := .bin .add .i64 (.lit 1073741824) s102
theorem s103_is [Val] : (s103.eval - (1073741824 + s102.eval)) % 18446744073709551616 = 0 ∧ -9223372036854775808 ≤ s103.eval ∧ s103.eval < 9223372036854775808 := spec_i64 (1073741824 + s102.eval)
def s104 : Sx := .wrap .u64 s103
theorem s104_is [Val] : (s104.eval - (s103.eval)) % 18446744073709551616 = 0 ∧ 0 ≤ s104.eval ∧ s104.eval < 18446744073709551616 := spec_u64 s103.eval
def s105 : Sx := .bin .rem .u64 s104 (.lit 16)
theorem s105_is [Val] : (0 ≤ s104.eval → s105.eval = s104.eval % 16) ∧ (s104.eval < 0 → s105.eval = -((-s104.eval) % 16)) := rem_lit s104.eval 16
def s106 : Sx := .bin .sub .u64 s104 (.lit 1073741824)
theorem s106_is [Val] : (s106.eval - (s104.eval - 1073741824)) % 18446744073709551616 = 0 ∧ 0 ≤ s106.eval ∧ s106.eval < 18446744073709551616 := spec_u64 (s104.eval - 1073741824)
def s107 : Sx := .bin .quo .u64 s106 (.lit 16)
theorem s107_is [Val] : ∃ q : Int, (0 ≤ s106.eval → q = s106.eval / 16) ∧ (s106.eval < 0 → q = -((-s106.eval) / 16)) ∧ (s107.eval - (q)) % 18446744073709551616 = 0 ∧ 0 ≤ s107.eval ∧ s107.eval < 18446744073709551616 := quo_u64 s106.eval 16
def s108 : Sx := .bin .rem .u64 s104 (.lit 4096)
theorem s108_is [Val] : (0 ≤ s104.eval → s108.eval = s104.eval % 4096) ∧ (s104.eval < 0 → s108.eval = -((-s104.eval) % 4096)) := rem_lit s104.eval 4096
def s109 : Sx := .wrap .i64 s108
theorem s109_is [Val] : (s109.eval - (s108.eval)) % 18446744073709551616 = 0 ∧ -9223372036854775808 ≤ s109.eval ∧ s109.eval < 9223372036854775808 := spec_i64 s108.eval
def s110 : Sx := .wrap .i64 s94
theorem s110_is [Val] : (s110.eval - (s94.eval)) % 18446744073709551616 = 0 ∧ -9223372036854775808 ≤ s110.eval ∧ s110.eval < 9223372036854775808 := spec_i64 s94.eval
def s111 : Sx := .bin .sub .i64 s110 s99
theorem s111_is [Val] : (s111.eval - (s110.eval - s99.eval)) % 18446744073709551616 = 0 ∧ -9223372036854775808 ≤ s111.eval ∧ s111.eval < 9223372036854775808 := spec_i64 (s110.eval - s99.eval)
def s112 : Sx := .bin .shr .i64 s111 (.lit 12)
theorem s112_is [Val] : s112.eval = s111.eval / 4096 := fdiv_lit s111.eval 4096
def s113 : Sx := .wrap .i64 s104
theorem s113_is [Val] : (s113.eval - (s104.eval)) % 18446744073709551616 = 0 ∧ -9223372036854775808 ≤ s113.eval ∧ s113.eval < 9223372036854775808 := spec_i64 s104.eval
def s114 : Sx := .bin .sub .i64 s113 s109
theorem s114_is [Val] : (s114.eval - (s113.eval - s109.eval)) % 18446744073709551616 = 0 ∧ -9223372036854775808 ≤ s114.eval ∧ s114.eval < 9223372036854775808 := spec_i64 (s113.eval - s109.eval)
def s115 : Sx := .bin .quo .i64 s114 (.lit 4096)
theorem s115_is [Val] : ∃ q : Int, (0 ≤ s114.eval → q = s114.eval / 4096) ∧ (s114.eval < 0 → q = -((-s114.eval) / 4096)) ∧ (s115.eval - (q)) % 18446744073709551616 = 0 ∧ -9223372036854775808 ≤ s115.eval ∧ s115.eval < 9223372036854775808 := quo_i64 s114.eval 4096
def s116 : Sx := .bin .sub .i64 s99 (.lit 4096)
theorem s116_is [Val] : (s116.eval - (s99.eval - 4096)) % 18446744073709551616 = 0 ∧ -9223372036854775808 ≤ s116.eval ∧ s116.eval < 9223372036854775808 := spec_i64 (s99.eval - 4096)
def s117 : Sx := .bin .sub .i64 s110 s116
theorem s117_is [Val] : (s117.eval - (s110.eval - s116.eval)) % 18446744073709551616 = 0 ∧ -9223372036854775808 ≤ s117.eval ∧ s117.eval < 9223372036854775808 := spec_i64 (s110.eval - s116.eval)
def s118 : Sx := .bin .shr .i64 s117 (.lit 12)
theorem s118_is [Val] : s118.eval = s117.eval / 4096 := fdiv_lit s117.eval 4096
def s119 : Sx := .bin .sub .i64 s109 (.lit 4096)
theorem s119_is [Val] : (s119.eval - (s109.eval - 4096)) % 18446744073709551616 = 0 ∧ -9223372036854775808 ≤ s119.eval ∧ s119.eval < 9223372036854775808 := spec_i64 (s109.eval - 4096)
def s120 : Sx := .bin .sub .i64 s113 s119
theorem s120_is [Val] : (s120.eval - (s113.eval - s119.eval)) % 18446744073709551616 = 0 ∧ -9223372036854775808 ≤ s120.eval ∧ s120.eval < 9223372036854775808 := spec_i64 (s113.eval - s119.eval)
def s121 : Sx := .bin .quo .i64 s120 (.lit 4096)
theorem s121_is [Val] : ∃ q : Int, (0 ≤ s120.eval → q = s120.eval / 4096) ∧ (s120.eval < 0 → q = -((-s120.eval) / 4096)) ∧ (s121.eval - (q)) % 18446744073709551616 = 0 ∧ -9223372036854775808 ≤ s121.eval ∧ s121.eval < 9223372036854775808 := quo_i64 s120.eval 4096
def s122 : Sx := .bin .rem .i64 (.var 1) (.lit 4096)
theorem s122_is [Val] : (0 ≤ (Val.num 1) → s122.eval = (Val.num 1) % 4096) ∧ ((Val.num 1) < 0 → s122.eval = -((-(Val.num 1)) % 4096)) := rem_lit (Val.num 1) 4096
def s123 : Sx := .bin .add .i64 s122 (.lit 4096)
theorem s123_is [Val] : (s123.eval - (s122.eval + 4096)) % 18446744073709551616 = 0 ∧ -9223372036854775808 ≤ s123.eval ∧ s123.eval < 9223372036854775808 := spec_i64 (s122.eval + 4096)
def s124 : Sx := .bin .rem .i64 s123 (.lit 4096)
theorem s124_is [Val] : (0 ≤ s123.eval → s124.eval = s123.eval % 4096) ∧ (s123.eval < 0 → s124.eval = -((-s123.eval) % 4096)) := rem_lit s123.eval 4096
def s125 : Sx := .bin .sub .i64 (.var 1) s124
theorem s125_is [Val] : (s125.eval - ((Val.num 1) - s124.eval)) % 18446744073709551616 = 0 ∧ -9223372036854775808 ≤ s125.eval ∧ s125.eval < 9223372036854775808 := spec_i64 ((Val.num 1) - s124.eval)
def s126 : Sx := .bin .quo .i64 s125 (.lit 4096)
theorem s126_is [Val] : ∃ q : Int, (0 ≤ s125.eval → q = s125.eval / 4096) ∧ (s125.eval < 0 → q = -((-s125.eval) / 4096)) ∧ (s126.eval - (q)) % 18446744073709551616 = 0 ∧ -9223372036854775808 ≤ s126.eval ∧ s126.eval < 9223372036854775808 := quo_i64 s125.eval 4096
def s127 : Sx := .bin .rem .i64 s126 (.lit 4096)
theorem s127_is [Val] : (0 ≤ s126.eval → s127.eval = s126.eval % 4096) ∧ (s126.eval < 0 → s127.eval = -((-s126.eval) % 4096)) := rem_lit s126.eval 4096
def s128 : Sx := .bin .add .i64 s127 (.lit 4096)
theorem s128_is [Val] : (s128.eval - (s127.eval + 4096)) % 18446744073709551616 = 0 ∧ -9223372036854775808 ≤ s128.eval ∧ s128.eval < 9223372036854775808 := spec_i64 (s127.eval + 4096)
def s129 : Sx := .bin .rem .i64 s128 (.lit 4096)
theorem s129_is [Val] : (0 ≤ s128.eval → s129.eval = s128.eval % 4096) ∧ (s128.eval < 0 → s129.eval = -((-s128.eval) % 4096)) := rem_lit s128.eval 4096
def s130 : Sx := .bin .sub .i64 s126 s129
theorem s130_is [Val] : (s130.eval - (s126.eval - s129.eval)) % 18446744073709551616 = 0 ∧ -9223372036854775808 ≤ s130.eval ∧ s130.eval < 9223372036854775808 := spec_i64 (s126.eval - s129.eval)
def s131 : Sx := .bin .quo .i64 s130 (.lit 4096)
theorem s131_is [Val] : ∃ q : Int, (0 ≤ s130.eval → q = s130.eval / 4096) ∧ (s130.eval < 0 → q = -((-s130.eval) / 4096)) ∧ (s131.eval - (q)) % 18446744073709551616 = 0 ∧ -9223372036854775808 ≤ s131.eval ∧ s131.eval < 9223372036854775808 := quo_i64 s130.eval 4096
def s132 : Sx := .bin .rem .i64 s131 (.lit 4096)
theorem s132_is [Val] : (0 ≤ s131.eval → s132.eval = s131.eval % 4096) ∧ (s131.eval < 0 → s132.eval = -((-s131.eval) % 4096)) := rem_lit s131.eval 4096
def s133 : Sx := .bin .add .i64 s132 (.lit 4096)
theorem s133_is [Val] : (s133.eval - (s132.eval + 4096)) % 18446744073709551616 = 0 ∧ -9223372036854775808 ≤ s133.eval ∧ s133.eval < 9223372036854775808 := spec_i64 (s132.eval + 4096)
def s134 : Sx := .bin .rem .i64 s133 (.lit 4096)
theorem s134_is [Val] : (0 ≤ s133.eval → s134.eval = s133.eval % 4096) ∧ (s133.eval < 0 → s134.eval = -((-s133.eval) % 4096)) := rem_lit s133.eval 4096
def s135 : Sx := .bin .sub .i64 s131 s134
theorem s135_is [Val] : (s135.eval - (s131.eval - s134.eval)) % 18446744073709551616 = 0 ∧ -9223372036854775808 ≤ s135.eval ∧ s135.eval < 9223372036854775808 := spec_i64 (s131.eval - s134.eval)
def s136 : Sx := .bin .quo .i64 s135 (.lit 4096)
theorem s136_is [Val] : ∃ q : Int, (0 ≤ s135.eval → q = s135.eval / 4096) ∧ (s135.eval < 0 → q = -((-s135.eval) / 4096)) ∧ (s136.eval - (q)) % 18446744073709551616 = 0 ∧ -9223372036854775808 ≤ s136.eval ∧ s136.eval < 9223372036854775808 := quo_i64 s135.eval 4096
def s137 : Sx := .bin .rem .i64 s136 (.lit 4096)
theorem s137_is [Val] : (0 ≤ s136.eval → s137.eval = s136.eval % 4096) ∧ (s136.eval < 0 → s137.eval = -((-s136.eval) % 4096)) := rem_lit s136.eval 4096
def s138 : Sx := .bin .add .i64 s137 (.lit 4096)
theorem s138_is [Val] : (s138.eval - (s137.eval + 4096)) % 18446744073709551616 = 0 ∧ -9223372036854775808 ≤ s138.eval ∧ s138.eval < 9223372036854775808 := spec_i64 (s137.eval + 4096)
def s139 : Sx := .bin .rem .i64 s138 (.lit 4096)
theorem s139_is [Val] : (0 ≤ s138.eval → s139.eval = s138.eval % 4096) ∧ (s138.eval < 0 → s139.eval = -((-s138.eval) % 4096)) := rem_lit s138.eval 4096
def s140 : Sx := .bin .sub .i64 s136 s139
theorem s140_is [Val] : (s140.eval - (s136.eval - s139.eval)) % 18446744073709551616 = 0 ∧ -9223372036854775808 ≤ s140.eval ∧ s140.eval < 9223372036854775808 := spec_i64 (s136.eval - s139.eval)
def s141 : Sx := .bin .quo .i64 s140 (.lit 4096)
theorem s141_is [Val] : ∃ q : Int, (0 ≤ s140.eval → q = s140.eval / 4096) ∧ (s140.eval < 0 → q = -((-s140.eval) / 4096)) ∧ (s141.eval - (q)) % 18446744073709551616 = 0 ∧ -9223372036854775808 ≤ s141.eval ∧ s141.eval < 9223372036854775808 := quo_i64 s140.eval 4096
def s142 : Sx := .bin .sub .i64 s139 (.lit 4096)
theorem s142_is [Val] : (s142.eval - (s139.eval - 4096)) % 18446744073709551616 = 0 ∧ -9223372036854775808 ≤ s142.eval ∧ s142.eval < 9223372036854775808 := spec_i64 (s139.eval - 4096)
def s143 : Sx := .bin .sub .i64 s136 s142
theorem s143_is [Val] : (s143.eval - (s136.eval - s142.eval)) % 18446744073709551616 = 0 ∧ -9223372036854775808 ≤ s143.eval ∧ s143.eval < 9223372036854775808 := spec_i64 (s136.eval - s142.eval)
def s144 : Sx := .bin .quo .i64 s143 (.lit 4096)
theorem s144_is [Val] : ∃ q : Int, (0 ≤ s143.eval → q = s143.eval / 4096) ∧ (s143.eval < 0 → q = -((-s143.eval) / 4096)) ∧ (s144.eval - (q)) % 18446744073709551616 = 0 ∧ -9223372036854775808 ≤ s144.eval ∧ s144.eval < 9223372036854775808 := quo_i64 s143.eval 4096
def s145 : Sx := .bin .sub .i64 s134 (.lit 4096)
theorem s145_is [Val] : (s145.eval - (s134.eval - 4096)) % 18446744073709551616 = 0 ∧ -9223372036854775808 ≤ s145.eval ∧ s145.eval < 9223372036854775808 := spec_i64 (s134.eval - 4096)
def s146 : Sx := .bin .sub .i64 s131 s145
theorem s146_is [Val] : (s146.eval - (s131.eval - s145.eval)) % 18446744073709551616 = 0 ∧ -9223372036854775808 ≤ s146.eval ∧ s146.eval < 9223372036854775808 := spec_i64 (s131.eval - s145.eval)
def s147 : Sx := .bin .quo .i64 s146 (.lit 4096)
theorem s147_is [Val] : ∃ q : Int, (0 ≤ s146.eval → q = s146.eval / 4096) ∧ (s146.eval < 0 → q = -((-s146.eval) / 4096)) ∧ (s147.eval - (q)) % 18446744073709551616 = 0 ∧ -9223372036854775808 ≤ s147.eval ∧ s147.eval < 9223372036854775808 := quo_i64 s146.eval 4096
def s148 : Sx := .bin .rem .i64 s147 (.lit 4096)
theorem s148_is [Val] : (0 ≤ s147.eval → s148.eval = s147.eval % 4096) ∧ (s147.eval < 0 → s148.eval = -((-s147.eval) % 4096)) := rem_lit s147.eval 4096
def s149 : Sx := .bin .add .i64 s148 (.lit 4096)
theorem s149_is [Val] : (s149.eval - (s148.eval + 4096)) % 18446744073709551616 = 0 ∧ -9223372036854775808 ≤ s149.eval ∧ s149.eval < 9223372036854775808 := spec_i64 (s148.eval + 4096)
def s150 : Sx := .bin .rem .i64 s149 (.lit 4096)
theorem s150_is [Val] : (0 ≤ s149.eval → s150.eval = s149.eval % 4096) ∧ (s149.eval < 0 → s150.eval = -((-s149.eval) % 4096)) := rem_lit s149.eval 4096
def s151 : Sx := .bin .sub .i64 s147 s150
theorem s151_is [Val] : (s151.eval - (s147.eval - s150.eval)) % 18446744073709551616 = 0 ∧ -9223372036854775808 ≤ s151.eval ∧ s151.eval < 9223372036854775808 := spec_i64 (s147.eval - s150.eval)
def s152 : Sx := .bin .quo .i64 s151 (.lit 4096)
theorem s152_is [Val] : ∃ q : Int, (0 ≤ s151.eval → q = s151.eval / 4096) ∧ (s151.eval < 0 → q = -((-s151.eval) / 4096)) ∧ (s152.eval - (q)) % 18446744073709551616 = 0 ∧ -9223372036854775808 ≤ s152.eval ∧ s152.eval < 9223372036854775808 := quo_i64 s151.eval 4096
def s153 : Sx := .bin .sub .i64 s150 (.lit 4096)
theorem s153_is [Val] : (s153.eval - (s150.eval - 4096)) % 18446744073709551616 = 0 ∧ -9223372036854775808 ≤ s153.eval ∧ s153.eval < 9223372036854775808 := spec_i64 (s150.eval - 4096)
def s154 : Sx := .bin .sub .i64 s147 s153
theorem s154_is [Val] : (s154.eval - (s147.eval - s153.eval)) % 18446744073709551616 = 0 ∧ -9223372036854775808 ≤ s154.eval ∧ s154.eval < 9223372036854775808 := spec_i64 (s147.eval - s153.eval)
def s155 : Sx := .bin .quo .i64 s154 (.lit 4096)
theorem s155_is [Val] : ∃ q : Int, (0 ≤ s154.eval → q = s154.eval / 4096) ∧ (s154.eval < 0 → q = -((-s154.eval) / 4096)) ∧ (s155.eval - (q)) % 18446744073709551616 = 0 ∧ -9223372036854775808 ≤ s155.eval ∧ s155.eval < 9223372036854775808 := quo_i64 s154.eval 4096
def s156 : Sx := .bin .sub .i64 s129 (.lit 4096)
theorem s156_is [Val] : (s156.eval - (s129.eval - 4096)) % 18446744073709551616 = 0 ∧ -9223372036854775808 ≤ s156.eval ∧ s156.eval < 9223372036854775808 := spec_i64 (s129.eval - 4096)
def s157 : Sx := .bin .sub .i64 s126 s156
theorem s157_is [Val] : (s157.eval - (s126.eval - s156.eval)) % 18446744073709551616 = 0 ∧ -9223372036854775808 ≤ s157.eval ∧ s157.eval < 9223372036854775808 := spec_i64 (s126.eval - s156.eval)
def s158 : Sx := .bin .quo .i64 s157 (.lit 4096)
theorem s158_is [Val] : ∃ q : Int, (0 ≤ s157.eval → q = s157.eval / 4096) ∧ (s157.eval < 0 → q = -((-s157.eval) / 4096)) ∧ (s158.eval - (q)) % 18446744073709551616 = 0 ∧ -9223372036854775808 ≤ s158.eval ∧ s158.eval < 9223372036854775808 := quo_i64 s157.eval 4096
def s159 : Sx := .bin .rem .i64 s158 (.lit 4096)
theorem s159_is [Val] : (0 ≤ s158.eval → s159.eval = s158.eval % 4096) ∧ (s158.eval < 0 → s159.eval = -((-s158.eval) % 4096)) := rem_lit s158.eval 4096
def s160 : Sx := .bin .add .i64 s159 (.lit 4096)
theorem s160_is [Val] : (s160.eval - (s159.eval + 4096)) % 18446744073709551616 = 0 ∧ -9223372036854775808 ≤ s160.eval ∧ s160.eval < 9223372036854775808 := spec_i64 (s159.eval + 4096)
def s161 : Sx := .bin .rem .i64 s160 (.lit 4096)
theorem s161_is [Val] : (0 ≤ s160.eval → s161.eval = s160.eval % 4096) ∧ (s160.eval < 0 → s161.eval = -((-s160.eval) % 4096)) := rem_lit s160.eval 4096
def s162 : Sx := .bin .sub .i64 s158 s161
theorem s162_is [Val] : (s162.eval - (s158.eval - s161.eval)) % 18446744073709551616 = 0 ∧ -9223372036854775808 ≤ s162.eval ∧ s162.eval < 9223372036854775808 := spec_i64 (s158.eval - s161.eval)
def s163 : Sx := .bin .quo .i64 s162 (.lit 4096)
theorem s163_is [Val] : ∃ q : Int, (0 ≤ s162.eval → q = s162.eval / 4096) ∧ (s162.eval < 0 → q = -((-s162.eval) / 4096)) ∧ (s163.eval - (q)) % 18446744073709551616 = 0 ∧ -9223372036854775808 ≤ s163.eval ∧ s163.eval < 9223372036854775808 := quo_i64 s162.eval 4096
def s164 : Sx := .bin .rem .i64 s163 (.lit 4096)
theorem s164_is [Val] : (0 ≤ s163.eval → s164.eval = s163.eval % 4096) ∧ (s163.eval < 0 → s164.eval = -((-s163.eval) % 4096)) := rem_lit s163.eval 4096
def s165 : Sx := .bin .add .i64 s164 (.lit 4096)
theorem s165_is [Val] : (s165.eval - (s164.eval + 4096)) % 18446744073709551616 = 0 ∧ -9223372036854775808 ≤ s165.eval ∧ s165.eval < 9223372036854775808 := spec_i64 (s164.eval + 4096)
def s166 : Sx := .bin .rem .i64 s165 (.lit 4096)
theorem s166_is [Val] : (0 ≤ s165.eval → s166.eval = s165.eval % 4096) ∧ (s165.eval < 0 → s166.eval = -((-s165.eval) % 4096)) := rem_lit s165.eval 4096
def s167 : Sx := .bin .sub .i64 s163 s166
theorem s167_is [Val] : (s167.eval - (s163.eval - s166.eval)) % 18446744073709551616 = 0 ∧ -9223372036854775808 ≤ s167.eval ∧ s167.eval < 9223372036854775808 := spec_i64 (s163.eval - s166.eval)
def s168 : Sx := .bin .quo .i64 s167 (.lit 4096)
theorem s168_is [Val] : ∃ q : Int, (0 ≤ s167.eval → q = s167.eval / 4096) ∧ (s167.eval < 0 → q = -((-s167.eval) / 4096)) ∧ (s168.eval - (q)) % 18446744073709551616 = 0 ∧ -9223372036854775808 ≤ s168.eval ∧ s168.eval < 9223372036854775808 := quo_i64 s167.eval 4096
def s169 : Sx := .bin .sub .i64 s166 (.lit 4096)
theorem s169_is [Val] : (s169.eval - (s166.eval - 4096)) % 18446744073709551616 = 0 ∧ -9223372036854775808 ≤ s169.eval ∧ s169.eval < 9223372036854775808 := spec_i64 (s166.eval - 4096)
def s170 : Sx := .bin .sub .i64 s163 s169
theorem s170_is [Val] : (s170.eval - (s163.eval - s169.eval)) % 18446744073709551616 = 0 ∧ -9223372036854775808 ≤ s170.eval ∧ s170.eval < 9223372036854775808 := spec_i64 (s163.eval - s169.eval)
def s171 : Sx := .bin .quo .i64 s170 (.lit 4096)
theorem s171_is [Val] : ∃ q : Int, (0 ≤ s170.eval → q = s170.eval / 4096) ∧ (s170.eval < 0 → q = -((-s170.eval) / 4096)) ∧ (s171.eval - (q)) % 18446744073709551616 = 0 ∧ -9223372036854775808 ≤ s171.eval ∧ s171.eval < 9223372036854775808 := quo_i64 s170.eval 4096
def s172 : Sx := .bin .sub .i64 s161 (.lit 4096)
theorem s172_is [Val] : (s172.eval - (s161.eval - 4096)) % 18446744073709551616 = 0 ∧ -9223372036854775808 ≤ s172.eval ∧ s172.eval < 9223372036854775808 := spec_i64 (s161.eval - 4096)
def s173 : Sx := .bin .sub .i64 s158 s172
theorem s173_is [Val] : (s173.eval - (s158.eval - s172.eval)) % 18446744073709551616 = 0 ∧ -9223372036854775808 ≤ s173.eval ∧ s173.eval < 9223372036854775808 := spec_i64 (s158.eval - s172.eval)
def s174 : Sx := .bin .quo .i64 s173 (.lit 4096)
theorem s174_is [Val] : ∃ q : Int, (0 ≤ s173.eval → q = s173.eval / 4096) ∧ (s173.eval < 0 → q = -((-s173.eval) / 4096)) ∧ (s174.eval - (q)) % 18446744073709551616 = 0 ∧ -9223372036854775808 ≤ s174.eval ∧ s174.eval < 9223372036854775808 := quo_i64 s173.eval 4096
def s175 : Sx := .bin .rem .i64 s174 (.lit 4096)
theorem s175_is [Val] : (0 ≤ s174.eval → s175.eval = s174.eval % 4096) ∧ (s174.eval < 0 → s175.eval = -((-s174.eval) % 4096)) := rem_lit s174.eval 4096
def s176 : Sx := .bin .add .i64 s175 (.lit 4096)
theorem s176_is [Val] : (s176.eval - (s175.eval + 4096)) % 18446744073709551616 = 0 ∧ -9223372036854775808 ≤ s176.eval ∧ s176.eval < 9223372036854775808 := spec_i64 (s175.eval + 4096)
def s177 : Sx := .bin .rem .i64 s176 (.lit 4096)
theorem s177_is [Val] : (0 ≤ s176.eval → s177.eval = s176.eval % 4096) ∧ (s176.eval < 0 → s177.eval = -((-s176.eval) % 4096)) := rem_lit s176.eval 4096
def s178 : Sx := .bin .sub .i64 s174 s177
theorem s178_is [Val] : (s178.eval - (s174.eval - s177.eval)) % 18446744073709551616 = 0 ∧ -9223372036854775808 ≤ s178.eval ∧ s178.eval < 9223372036854775808 := spec_i64 (s174.eval - s177.eval)
def s179 : Sx := .bin .quo .i64 s178 (.lit 4096)
theorem s179_is [Val] : ∃ q : Int, (0 ≤ s178.eval → q = s178.eval / 4096) ∧ (s178.eval < 0 → q = -((-s178.eval) / 4096)) ∧ (s179.eval - (q)) % 18446744073709551616 = 0 ∧ -9223372036854775808 ≤ s179.eval ∧ s179.eval < 9223372036854775808 := quo_i64 s178.eval 4096
def s180 : Sx := .bin .sub .i64 s177 (.lit 4096)
theorem s180_is [Val] : (s180.eval - (s177.eval - 4096)) % 18446744073709551616 = 0 ∧ -9223372036854775808 ≤ s180.eval ∧ s180.eval < 9223372036854775808 := spec_i64 (s177.eval - 4096)
def s181 : Sx := .bin .sub .i64 s174 s180
theorem s181_is [Val] : (s181.eval - (s174.eval - s180.eval)) % 18446744073709551616 = 0 ∧ -9223372036854775808 ≤ s181.eval ∧ s181.eval < 9223372036854775808 := spec_i64 (s174.eval - s180.eval)
def s182 : Sx := .bin .quo .i64 s181 (.lit 4096)
theorem s182_is [Val] : ∃ q : Int, (0 ≤ s181.eval → q = s181.eval / 4096) ∧ (s181.eval < 0 → q = -((-s181.eval) / 4096)) ∧ (s182.eval - (q)) % 18446744073709551616 = 0 ∧ -9223372036854775808 ≤ s182.eval ∧ s182.eval < 9223372036854775808 := quo_i64 s181.eval 4096
def s183 : Sx := .bin .sub .i64 s124 (.lit 4096)
theorem s183_is [Val] : (s183.eval - (s124.eval - 4096)) % 18446744073709551616 = 0 ∧ -9223372036854775808 ≤ s183.eval ∧ s183.eval < 9223372036854775808 := spec_i64 (s124.eval - 4096)
def s184 : Sx := .bin .sub .i64 (.var 1) s183
theorem s184_is [Val] : (s184.eval - ((Val.num 1) - s183.eval)) % 18446744073709551616 = 0 ∧ -9223372036854775808 ≤ s184.eval ∧ s184.eval < 9223372036854775808 := spec_i64 ((Val.num 1) - s183.eval)
def s185 : Sx := .bin .quo .i64 s184 (.lit 4096)
theorem s185_is [Val] : ∃ q : Int, (0 ≤ s184.eval → q = s184.eval / 4096) ∧ (s184.eval < 0 → q = -((-s184.eval) / 4096)) ∧ (s185.eval - (q)) % 18446744073709551616 = 0 ∧ -9223372036854775808 ≤ s185.eval ∧ s185.eval < 9223372036854775808 := quo_i64 s184.eval 4096
def s186 : Sx := .bin .rem .i64 s185 (.lit 4096)
theorem s186_is [Val] : (0 ≤ s185.eval → s186.eval = s185.eval % 4096) ∧ (s185.eval < 0 → s186.eval = -((-s185.eval) % 4096)) := rem_lit s185.eval 4096
def s187 : Sx := .bin .add .i64 s186 (.lit 4096)
theorem s187_is [Val] : (s187.eval - (s186.eval + 4096)) % 18446744073709551616 = 0 ∧ -9223372036854775808 ≤ s187.eval ∧ s187.eval < 9223372036854775808 := spec_i64 (s186.eval + 4096)
def s188 : Sx := .bin .rem .i64 s187 (.lit 4096)
theorem s188_is [Val] : (0 ≤ s187.eval → s188.eval = s187.eval % 4096) ∧ (s187.eval < 0 → s188.eval = -((-s187.eval) % 4096)) := rem_lit s187.eval 4096
def s189 : Sx := .bin .sub .i64 s185 s188
theorem s189_is [Val] : (s189.eval - (s185.eval - s188.eval)) % 18446744073709551616 = 0 ∧ -9223372036854775808 ≤ s189.eval ∧ s189.eval < 9223372036854775808 := spec_i64 (s185.eval - s188.eval)
def s190 : Sx := .bin .quo .i64 s189 (.lit 4096)
theorem s190_is [Val] : ∃ q : Int, (0 ≤ s189.eval → q = s189.eval / 4096) ∧ (s189.eval < 0 → q = -((-s189.eval) / 4096)) ∧ (s190.eval - (q)) % 18446744073709551616 = 0 ∧ -9223372036854775808 ≤ s190.eval ∧ s190.eval < 9223372036854775808 := quo_i64 s189.eval 4096
def s191 : Sx := .bin .rem .i64 s190 (.lit 4096)
theorem s191_is [Val] : (0 ≤ s190.eval → s191.eval = s190.eval % 4096) ∧ (s190.eval < 0 → s191.eval = -((-s190.eval) % 4096)) := rem_lit s190.eval 4096
def s192 : Sx := .bin .add .i64 s191 (.lit 4096)
theorem s192_is [Val] : (s192.eval - (s191.eval + 4096)) % 18446744073709551616 = 0 ∧ -9223372036854775808 ≤ s192.eval ∧ s192.eval < 9223372036854775808 := spec_i64 (s191.eval + 4096)
def s193 : Sx := .bin .rem .i64 s192 (.lit 4096)
theorem s193_is [Val] : (0 ≤ s192.eval → s193.eval = s192.eval % 4096) ∧ (s192.eval < 0 → s193.eval = -((-s192.eval) % 4096)) := rem_lit s192.eval 4096
def s194 : Sx := .bin .sub .i64 s190 s193
theorem s194_is [Val] : (s194.eval - (s190.eval - s193.eval)) % 18446744073709551616 = 0 ∧ -9223372036854775808 ≤ s194.eval ∧ s194.eval < 9223372036854775808 := spec_i64 (s190.eval - s193.eval)
def s195 : Sx := .bin .quo .i64 s194 (.lit 4096)
theorem s195_is [Val] : ∃ q : Int, (0 ≤ s194.eval → q = s194.eval / 4096) ∧ (s194.eval < 0 → q = -((-s194.eval) / 4096)) ∧ (s195.eval - (q)) % 18446744073709551616 = 0 ∧ -9223372036854775808 ≤ s195.eval ∧ s195.eval < 9223372036854775808 := quo_i64 s194.eval 4096
def s196 : Sx := .bin .rem .i64 s195 (.lit 4096)
theorem s196_is [Val] : (0 ≤ s195.eval → s196.eval = s195.eval % 4096) ∧ (s195.eval < 0 → s196.eval = -((-s195.eval) % 4096)) := rem_lit s195.eval 4096
def s197 : Sx := .bin .add .i64 s196 (.lit 4096)
theorem s197_is [Val] : (s197.eval - (s196.eval + 4096)) % 18446744073709551616 = 0 ∧ -9223372036854775808 ≤ s197.eval ∧ s197.eval < 9223372036854775808 := spec_i64 (s196.eval + 4096)
def s198 : Sx := .bin .rem .i64 s197 (.lit 4096)
theorem s198_is [Val] : (0 ≤ s197.eval → s198.eval = s197.eval % 4096) ∧ (s197.eval < 0 → s198.eval = -((-s197.eval) % 4096)) := rem_lit s197.eval 4096
def s199 : Sx := .bin .sub .i64 s195 s198
theorem s199_is [Val] : (s199.eval - (s195.eval - s198.eval)) % 18446744073709551616 = 0 ∧ -9223372036854775808 ≤ s199.eval ∧ s199.eval < 9223372036854775808 := spec_i64 (s195.eval - s198.eval)
def s200 : Sx := .bin .quo .i64 s199 (.lit 4096)
theorem s200_is [Val] : ∃ q : Int, (0 ≤ s199.eval → q = s199.eval / 4096) ∧ (s199.eval < 0 → q = -((-s199.eval) / 4096)) ∧ (s200.eval - (q)) % 18446744073709551616 = 0 ∧ -9223372036854775808 ≤ s200.eval ∧ s200.eval < 9223372036854775808 := quo_i64 s199.eval 4096
def s201 : Sx := .bin .sub .i64 s198 (.lit 4096)
theorem s201_is [Val] : (s201.eval - (s198.eval - 4096)) % 18446744073709551616 = 0 ∧ -9223372036854775808 ≤ s201.eval ∧ s201.eval < 9223372036854775808 := spec_i64 (s198.eval - 4096)
def s202 : Sx := .bin .sub .i64 s195 s201
theorem s202_is [Val] : (s202.eval - (s195.eval - s201.eval)) % 18446744073709551616 = 0 ∧ -9223372036854775808 ≤ s202.eval ∧ s202.eval < 9223372036854775808 := spec_i64 (s195.eval - s201.eval)
def s203 : Sx := .bin .quo .i64 s202 (.lit 4096)
theorem s203_is [Val] : ∃ q : Int, (0 ≤ s202.eval → q = s202.eval / 4096) ∧ (s202.eval < 0 → q = -((-s202.eval) / 4096)) ∧ (s203.eval - (q)) % 18446744073709551616 = 0 ∧ -9223372036854775808 ≤ s203.eval ∧ s203.eval < 9223372036854775808 := quo_i64 s202.eval 4096
def s204 : Sx := .bin .sub .i64 s193 (.lit 4096)
theorem s204_is [Val] : (s204.eval - (s193.eval - 4096)) % 18446744073709551616 = 0 ∧ -9223372036854775808 ≤ s204.eval ∧ s204.eval < 9223372036854775808 := spec_i64 (s193.eval - 4096)
def s205 : Sx := .bin .sub .i64 s190 s204
theorem s205_is [Val] : (s205.eval - (s190.eval - s204.eval)) % 18446744073709551616 = 0 ∧ -9223372036854775808 ≤ s205.eval ∧ s205.eval < 9223372036854775808 := spec_i64 (s190.eval - s204.eval)
def s206 : Sx := .bin .quo .i64 s205 (.lit 4096)
theorem s206_is [Val] : ∃ q : Int, (0 ≤ s205.eval → q = s205.eval / 4096) ∧ (s205.eval < 0 → q = -((-s205.eval) / 4096)) ∧ (s206.eval - (q)) % 18446744073709551616 = 0 ∧ -9223372036854775808 ≤ s206.eval ∧ s206.eval < 9223372036854775808 := quo_i64 s205.eval 4096
def s207 : Sx := .bin .rem .i64 s206 (.lit 4096)
theorem s207_is [Val] : (0 ≤ s206.eval → s207.eval = s206.eval % 4096) ∧ (s206.eval < 0 → s207.eval = -((-s206.eval) % 4096)) := rem_lit s206.eval 4096
def s208 : Sx := .bin .add .i64 s207 (.lit 4096)
theorem s208_is [Val] : (s208.eval - (s207.eval + 4096)) % 18446744073709551616 = 0 ∧ -9223372036854775808 ≤ s208.eval ∧ s208.eval < 9223372036854775808 := spec_i64 (s207.eval + 4096)
def s209 : Sx := .bin .rem .i64 s208 (.lit 4096)
theorem s209_is [Val] : (0 ≤ s208.eval → s209.eval = s208.eval % 4096) ∧ (s208.eval < 0 → s209.eval = -((-s208.eval) % 4096)) := rem_lit s208.eval 4096
def s210 : Sx := .bin .sub .i64 s206 s209
theorem s210_is [Val] : (s210.eval - (s206.eval - s209.eval)) % 18446744073709551616 = 0 ∧ -9223372036854775808 ≤ s210.eval ∧ s210.eval < 9223372036854775808 := spec_i64 (s206.eval - s209.eval)
def s211 : Sx := .bin .quo .i64 s210 (.lit 4096)
theorem s211_is [Val] : ∃ q : Int, (0 ≤ s210.eval → q = s210.eval / 4096) ∧ (s210.eval < 0 → q = -((-s210.eval) / 4096)) ∧ (s211.eval - (q)) % 18446744073709551616 = 0 ∧ -9223372036854775808 ≤ s211.eval ∧ s211.eval < 9223372036854775808 := quo_i64 s210.eval 4096
def s212 : Sx := .bin .sub .i64 s209 (.lit 4096)
theorem s212_is [Val] : (s212.eval - (s209.eval - 4096)) % 18446744073709551616 = 0 ∧ -9223372036854775808 ≤ s212.eval ∧ s212.eval < 9223372036854775808 := spec_i64 (s209.eval - 4096)
def s213 : Sx := .bin .sub .i64 s206 s212
theorem s213_is [Val] : (s213.eval - (s206.eval - s212.eval)) % 18446744073709551616 = 0 ∧ -9223372036854775808 ≤ s213.eval ∧ s213.eval < 9223372036854775808 := spec_i64 (s206.eval - s212.eval)
def s214 : Sx := .bin .quo .i64 s213 (.lit 4096)
theorem s214_is [Val] : ∃ q : Int, (0 ≤ s213.eval → q = s213.eval / 4096) ∧ (s213.eval < 0 → q = -((-s213.eval) / 4096)) ∧ (s214.eval - (q)) % 18446744073709551616 = 0 ∧ -9223372036854775808 ≤ s214.eval ∧ s214.eval < 9223372036854775808 := quo_i64 s213.eval 4096
def s215 : Sx := .bin .sub .i64 s188 (.lit 4096)
theorem s215_is [Val] : (s215.eval - (s188.eval - 4096)) % 18446744073709551616 = 0 ∧ -9223372036854775808 ≤ s215.eval ∧ s215.eval < 9223372036854775808 := spec_i64 (s188.eval - 4096)
def s216 : Sx := .bin .sub .i64 s185 s215
theorem s216_is [Val] : (s216.eval - (s185.eval - s215.eval)) % 18446744073709551616 = 0 ∧ -9223372036854775808 ≤ s216.eval ∧ s216.eval < 9223372036854775808 := spec_i64 (s185.eval - s215.eval)
def s217 : Sx := .bin .quo .i64 s216 (.lit 4096)
theorem s217_is [Val] : ∃ q : Int, (0 ≤ s216.eval → q = s216.eval / 4096) ∧ (s216.eval < 0 → q = -((-s216.eval) / 4096)) ∧ (s217.eval - (q)) % 18446744073709551616 = 0 ∧ -9223372036854775808 ≤ s217.eval ∧ s217.eval < 9223372036854775808 := quo_i64 s216.eval 4096
def s218 : Sx := .bin .rem .i64 s217 (.lit 4096)
theorem s218_is [Val] : (0 ≤ s217.eval → s218.eval = s217.eval % 4096) ∧ (s217.eval < 0 → s218.eval = -((-s217.eval) % 4096)) := rem_lit s217.eval 4096
def s219 : Sx := .bin .add .i64 s218 (.lit 4096)
theorem s219_is [Val] : (s219.eval - (s218.eval + 4096)) % 18446744073709551616 = 0 ∧ -9223372036854775808 ≤ s219.eval ∧ s219.eval < 9223372036854775808 := spec_i64 (s218.eval + 4096)
def s220 : Sx := .bin .rem .i64 s219 (.lit 4096)
theorem s220_is [Val] : (0 ≤ s219.eval → s220.eval = s219.eval % 4096) ∧ (s219.eval < 0 → s220.eval = -((-s219.eval) % 4096)) := rem_lit s219.eval 4096
def s221 : Sx := .bin .sub .i64 s217 s220
theorem s221_is [Val] : (s221.eval - (s217.eval - s220.eval)) % 18446744073709551616 = 0 ∧ -9223372036854775808 ≤ s221.eval ∧ s221.eval < 9223372036854775808 := spec_i64 (s217.eval - s220.eval)
def s222 : Sx := .bin .quo .i64 s221 (.lit 4096)
theorem s222_is [Val] : ∃ q : Int, (0 ≤ s221.eval → q = s221.eval / 4096) ∧ (s221.eval < 0 → q = -((-s221.eval) / 4096)) ∧ (s222.eval - (q)) % 18446744073709551616 = 0 ∧ -9223372036854775808 ≤ s222.eval ∧ s222.eval < 9223372036854775808 := quo_i64 s221.eval 4096
def s223 : Sx := .bin .rem .i64 s222 (.lit 4096)
theorem s223_is [Val] : (0 ≤ s222.eval → s223.eval = s222.eval % 4096) ∧ (s222.eval < 0 → s223.eval = -((-s222.eval) % 4096)) := rem_lit s222.eval 4096
def s224 : Sx := .bin .add .i64 s223 (.lit 4096)
theorem s224_is [Val] : (s224.eval - (s223.eval + 4096)) % 18446744073709551616 = 0 ∧ -9223372036854775808 ≤ s224.eval ∧ s224.eval < 9223372036854775808 := spec_i64 (s223.eval + 4096)
def s225 : Sx := .bin .rem .i64 s224 (.lit 4096)
theorem s225_is [Val] : (0 ≤ s224.eval → s225.eval = s224.eval % 4096) ∧ (s224.eval < 0 → s225.eval = -((-s224.eval) % 4096)) := rem_lit s224.eval 4096
def s226 : Sx := .bin .sub .i64 s222 s225
theorem s226_is [Val] : (s226.eval - (s222.eval - s225.eval)) % 18446744073709551616 = 0 ∧ -9223372036854775808 ≤ s226.eval ∧ s226.eval < 9223372036854775808 := spec_i64 (s222.eval - s225.eval)
def s227 : Sx := .bin .quo .i64 s226 (.lit 4096)
theorem s227_is [Val] : ∃ q : Int, (0 ≤ s226.eval → q = s226.eval / 4096) ∧ (s226.eval < 0 → q = -((-s226.eval) / 4096)) ∧ (s227.eval - (q)) % 18446744073709551616 = 0 ∧ -9223372036854775808 ≤ s227.eval ∧ s227.eval < 9223372036854775808 := quo_i64 s226.eval 4096
def s228 : Sx := .bin .sub .i64 s225 (.lit 4096)
theorem s228_is [Val] : (s228.eval - (s225.eval - 4096)) % 18446744073709551616 = 0 ∧ -9223372036854775808 ≤ s228.eval ∧ s228.eval < 9223372036854775808 := spec_i64 (s225.eval - 4096)
def s229 : Sx := .bin .sub .i64 s222 s228
theorem s229_is [Val] : (s229.eval - (s222.eval - s228.eval)) % 18446744073709551616 = 0 ∧ -9223372036854775808 ≤ s229.eval ∧ s229.eval < 9223372036854775808 := spec_i64 (s222.eval - s228.eval)
def s230 : Sx := .bin .quo .i64 s229 (.lit 4096)
theorem s230_is [Val] : ∃ q : Int, (0 ≤ s229.eval → q = s229.eval / 4096) ∧ (s229.eval < 0 → q = -((-s229.eval) / 4096)) ∧ (s230.eval - (q)) % 18446744073709551616 = 0 ∧ -9223372036854775808 ≤ s230.eval ∧ s230.eval < 9223372036854775808 := quo_i64 s229.eval 4096
def s231 : Sx := .bin .sub .i64 s220 (.lit 4096)
theorem s231_is [Val] : (s231.eval - (s220.eval - 4096)) % 18446744073709551616 = 0 ∧ -9223372036854775808 ≤ s231.eval ∧ s231.eval < 9223372036854775808 := spec_i64 (s220.eval - 4096)
def s232 : Sx := .bin .sub .i64 s217 s231
theorem s232_is [Val] : (s232.eval - (s217.eval - s231.eval)) % 18446744073709551616 = 0 ∧ -9223372036854775808 ≤ s232.eval ∧ s232.eval < 9223372036854775808 := spec_i64 (s217.eval - s231.eval)
def s233 : Sx := .bin .quo .i64 s232 (.lit 4096)
theorem s233_is [Val] : ∃ q : Int, (0 ≤ s232.eval → q = s232.eval / 4096) ∧ (s232.eval < 0 → q = -((-s232.eval) / 4096)) ∧ (s233.eval - (q)) % 18446744073709551616 = 0 ∧ -9223372036854775808 ≤ s233.eval ∧ s233.eval < 9223372036854775808 := quo_i64 s232.eval 4096
def s234 : Sx := .bin .rem .i64 s233 (.lit 4096)
theorem s234_is [Val] : (0 ≤ s233.eval → s234.eval = s233.eval % 4096) ∧ (s233.eval < 0 → s234.eval = -((-s233.eval) % 4096)) := rem_lit s233.eval 4096
def s235 : Sx := .bin .add .i64 s234 (.lit 4096)
theorem s235_is [Val] : (s235.eval - (s234.eval + 4096)) % 18446744073709551616 = 0 ∧ -9223372036854775808 ≤ s235.eval ∧ s235.eval < 9223372036854775808 := spec_i64 (s234.eval + 4096)
def s236 : Sx := .bin .rem .i64 s235 (.lit 4096)
theorem s236_is [Val] : (0 ≤ s235.eval → s236.eval = s235.eval % 4096) ∧ (s235.eval < 0 → s236.eval = -((-s235.eval) % 4096)) := rem_lit s235.eval 4096
def s237 : Sx := .bin .sub .i64 s233 s236
theorem s237_is [Val] : (s237.eval - (s233.eval - s236.eval)) % 18446744073709551616 = 0 ∧ -9223372036854775808 ≤ s237.eval ∧ s237.eval < 9223372036854775808 := spec_i64 (s233.eval - s236.eval)
def s238 : Sx := .bin .quo .i64 s237 (.lit 4096)
theorem s238_is [Val] : ∃ q : Int, (0 ≤ s237.eval → q = s237.eval / 4096) ∧ (s237.eval < 0 → q = -((-s237.eval) / 4096)) ∧ (s238.eval - (q)) % 18446744073709551616 = 0 ∧ -9223372036854775808 ≤ s238.eval ∧ s238.eval < 9223372036854775808 := quo_i64 s237.eval 4096
def s239 : Sx := .bin .sub .i64 s236 (.lit 4096)
theorem s239_is [Val] : (s239.eval - (s236.eval - 4096)) % 18446744073709551616 = 0 ∧ -9223372036854775808 ≤ s239.eval ∧ s239.eval < 9223372036854775808 := spec_i64 (s236.eval - 4096)
def s240 : Sx := .bin .sub .i64 s233 s239
theorem s240_is [Val] : (s240.eval - (s233.eval - s239.eval)) % 18446744073709551616 = 0 ∧ -9223372036854775808 ≤ s240.eval ∧ s240.eval < 9223372036854775808 := spec_i64 (s233.eval - s239.eval)
def s241 : Sx := .bin .quo .i64 s240 (.lit 4096)
theorem s241_is [Val] : ∃ q : Int, (0 ≤ s240.eval → q = s240.eval / 4096) ∧ (s240.eval < 0 → q = -((-s240.eval) / 4096)) ∧ (s241.eval - (q)) % 18446744073709551616 = 0 ∧ -9223372036854775808 ≤ s241.eval ∧ s241.eval < 9223372036854775808 := quo_i64 s240.eval 4096
theorem s1_x [Val] (R : In64) : s1.eval = (Val.num 1) - s0.eval := by
  have r := R 1
  have e1 := s0_is
  have e := s1_is
  omega
theorem s2_x [Val] (R : In64) : 4096 * s2.eval = s1.eval := by
  have e1 := s1_x R
  have e2 := s0_is
  obtain ⟨q, e⟩ := s2_is
  have r := R 1
  omega
theorem s2_b [Val] (R : In64) : -2251799813685249 ≤ s2.eval ∧ s2.eval ≤ 2251799813685249 := by
  have e1 := s1_x R
  have e3 := s2_x R
  have e2 := s0_is
  have r := R 1
  omega
theorem s4_x [Val] (R : In64) : s4.eval = s2.eval - s3.eval := by
  have r := s2_b R
  have e1 := s3_is
  have e := s4_is
  omega
theorem s5_x [Val] (R : In64) : 4096 * s5.eval = s4.eval := by
  have e1 := s4_x R
  have e2 := s3_is
  obtain ⟨q, e⟩ := s5_is
  have r := s2_b R
  omega
theorem s5_b [Val] (R : In64) : -549755813889 ≤ s5.eval ∧ s5.eval ≤ 549755813889 := by
  have e1 := s4_x R
  have e3 := s5_x R
  have e2 := s3_is
  have r := s2_b R
  omega
theorem s7_x [Val] (R : In64) : s7.eval = s5.eval - s6.eval := by
  have r := s5_b R
  have e1 := s6_is
  have e := s7_is
  omega
theorem s8_x [Val] (R : In64) : 4096 * s8.eval = s7.eval := by
  have e1 := s7_x R
  have e2 := s6_is
  obtain ⟨q, e⟩ := s8_is
  have r := s5_b R
  omega
theorem s8_b [Val] (R : In64) : -134217729 ≤ s8.eval ∧ s8.eval ≤ 134217729 := by
  have e1 := s7_x R
  have e3 := s8_x R
  have e2 := s6_is
  have r := s5_b R
  omega
theorem s10_x [Val] (R : In64) : s10.eval = s8.eval - s9.eval := by
  have r := s8_b R
  have e1 := s9_is
  have e := s10_is
  omega
theorem s11_x [Val] (R : In64) : 4096 * s11.eval = s10.eval := by
  have e1 := s10_x R
  have e2 := s9_is
  obtain ⟨q, e⟩ := s11_is
  have r := s8_b R
  omega
theorem s11_b [Val] (R : In64) : -32769 ≤ s11.eval ∧ s11.eval ≤ 32769 := by
  have e1 := s10_x R
  have e3 := s11_x R
  have e2 := s9_is
  have r := s8_b R
  omega
theorem s12_x [Val] : s12.eval = s9.eval - 4096 := by
  have e1 := s9_is
  have e := s12_is
  omega
theorem s13_x [Val] (R : In64) : s13.eval = s8.eval - s9.eval + 4096 := by
  have r := s8_b R
  have e1 := s9_is
  have e2 := s12_x
  have e := s13_is
  omega
theorem s14_x [Val] (R : In64) : 4096 * s14.eval = s13.eval := by
  have e1 := s13_x R
  have e2 := s9_is
  obtain ⟨q, e⟩ := s14_is
  have r := s8_b R
  omega
theorem s14_b [Val] (R : In64) : -32769 ≤ s14.eval ∧ s14.eval ≤ 32769 := by
  have e1 := s13_x R
  have e3 := s14_x R
  have e2 := s9_is
  have r := s8_b R
  omega
theorem s15_x [Val] : s15.eval = s6.eval - 4096 := by
  have e1 := s6_is
  have e := s15_is
  omega
theorem s16_x [Val] (R : In64) : s16.eval = s5.eval - s6.eval + 4096 := by
  have r := s5_b R
  have e1 := s6_is
  have e2 := s15_x
  have e := s16_is
  omega
theorem s17_x [Val] (R : In64) : 4096 * s17.eval = s16.eval := by
  have e1 := s16_x R
  have e2 := s6_is
  obtain ⟨q, e⟩ := s17_is
  have r := s5_b R
  omega
theorem s17_b [Val] (R : In64) : -134217729 ≤ s17.eval ∧ s17.eval ≤ 134217729 := by
  have e1 := s16_x R
  have e3 := s17_x R
  have e2 := s6_is
  have r := s5_b R
  omega
theorem s19_x [Val] (R : In64) : s19.eval = s17.eval - s18.eval := by
  have r := s17_b R
  have e1 := s18_is
  have e := s19_is
  omega
theorem s20_x [Val] (R : In64) : 4096 * s20.eval = s19.eval := by
  have e1 := s19_x R
  have e2 := s18_is
  obtain ⟨q, e⟩ := s20_is
  have r := s17_b R
  omega
theorem s20_b [Val] (R : In64) : -32769 ≤ s20.eval ∧ s20.eval ≤ 32769 := by
  have e1 := s19_x R
  have e3 := s20_x R
  have e2 := s18_is
  have r := s17_b R
  omega
theorem s21_x [Val] : s21.eval = s18.eval - 4096 := by
  have e1 := s18_is
  have e := s21_is
  omega
theorem s22_x [Val] (R : In64) : s22.eval = s17.eval - s18.eval + 4096 := by
  have r := s17_b R
  have e1 := s18_is
  have e2 := s21_x
  have e := s22_is
  omega
theorem s23_x [Val] (R : In64) : 4096 * s23.eval = s22.eval := by
  have e1 := s22_x R
  have e2 := s18_is
  obtain ⟨q, e⟩ := s23_is
  have r := s17_b R
  omega
theorem s23_b [Val] (R : In64) : -32769 ≤ s23.eval ∧ s23.eval ≤ 32769 := by
  have e1 := s22_x R
  have e3 := s23_x R
  have e2 := s18_is
  have r := s17_b R
  omega
theorem s24_x [Val] : s24.eval = s3.eval - 4096 := by
  have e1 := s3_is
  have e := s24_is
  omega
theorem s25_x [Val] (R : In64) : s25.eval = s2.eval - s3.eval + 4096 := by
  have r := s2_b R
  have e1 := s3_is
  have e2 := s24_x
  have e := s25_is
  omega
theorem s26_x [Val] (R : In64) : 4096 * s26.eval = s25.eval := by
  have e1 := s25_x R
  have e2 := s3_is
  obtain ⟨q, e⟩ := s26_is
  have r := s2_b R
  omega
theorem s26_b [Val] (R : In64) : -549755813889 ≤ s26.eval ∧ s26.eval ≤ 549755813889 := by
  have e1 := s25_x R
  have e3 := s26_x R
  have e2 := s3_is
  have r := s2_b R
  omega
theorem s28_x [Val] (R : In64) : s28.eval = s26.eval - s27.eval := by
  have r := s26_b R
  have e1 := s27_is
  have e := s28_is
  omega
theorem s29_x [Val] (R : In64) : 4096 * s29.eval = s28.eval := by
  have e1 := s28_x R
  have e2 := s27_is
  obtain ⟨q, e⟩ := s29_is
  have r := s26_b R
  omega
theorem s29_b [Val] (R : In64) : -134217729 ≤ s29.eval ∧ s29.eval ≤ 134217729 := by
  have e1 := s28_x R
  have e3 := s29_x R
  have e2 := s27_is
  have r := s26_b R
  omega
theorem s31_x [Val] (R : In64) : s31.eval = s29.eval - s30.eval := by
  have r := s29_b R
  have e1 := s30_is
  have e := s31_is
  omega
theorem s32_x [Val] (R : In64) : 4096 * s32.eval = s31.eval := by
  have e1 := s31_x R
  have e2 := s30_is
  obtain ⟨q, e⟩ := s32_is
  have r := s29_b R
  omega
theorem s32_b [Val] (R : In64) : -32769 ≤ s32.eval ∧ s32.eval ≤ 32769 := by
  have e1 := s31_x R
  have e3 := s32_x R
  have e2 := s30_is
  have r := s29_b R
  omega
theorem s33_x [Val] : s33.eval = s30.eval - 4096 := by
  have e1 := s30_is
  have e := s33_is
  omega
theorem s34_x [Val] (R : In64) : s34.eval = s29.eval - s30.eval + 4096 := by
  have r := s29_b R
  have e1 := s30_is
  have e2 := s33_x
  have e := s34_is
  omega
theorem s35_x [Val] (R : In64) : 4096 * s35.eval = s34.eval := by
  have e1 := s34_x R
  have e2 := s30_is
  obtain ⟨q, e⟩ := s35_is
  have r := s29_b R
  omega
theorem s35_b [Val] (R : In64) : -32769 ≤ s35.eval ∧ s35.eval ≤ 32769 := by
  have e1 := s34_x R
  have e3 := s35_x R
  have e2 := s30_is
  have r := s29_b R
  omega
theorem s36_x [Val] : s36.eval = s27.eval - 4096 := by
  have e1 := s27_is
  have e := s36_is
  omega
theorem s37_x [Val] (R : In64) : s37.eval = s26.eval - s27.eval + 4096 := by
  have r := s26_b R
  have e1 := s27_is
  have e2 := s36_x
  have e := s37_is
  omega
theorem s38_x [Val] (R : In64) : 4096 * s38.eval = s37.eval := by
  have e1 := s37_x R
  have e2 := s27_is
  obtain ⟨q, e⟩ := s38_is
  have r := s26_b R
  omega
theorem s38_b [Val] (R : In64) : -134217729 ≤ s38.eval ∧ s38.eval ≤ 134217729 := by
  have e1 := s37_x R
  have e3 := s38_x R
  have e2 := s27_is
  have r := s26_b R
  omega
theorem s40_x [Val] (R : In64) : s40.eval = s38.eval - s39.eval := by
  have r := s38_b R
  have e1 := s39_is
  have e := s40_is
  omega
theorem s41_x [Val] (R : In64) : 4096 * s41.eval = s40.eval := by
  have e1 := s40_x R
  have e2 := s39_is
  obtain ⟨q, e⟩ := s41_is
  have r := s38_b R
  omega
theorem s41_b [Val] (R : In64) : -32769 ≤ s41.eval ∧ s41.eval ≤ 32769 := by
  have e1 := s40_x R
  have e3 := s41_x R
  have e2 := s39_is
  have r := s38_b R
  omega
theorem s42_x [Val] : s42.eval = s39.eval - 4096 := by
  have e1 := s39_is
  have e := s42_is
  omega
theorem s43_x [Val] (R : In64) : s43.eval = s38.eval - s39.eval + 4096 := by
  have r := s38_b R
  have e1 := s39_is
  have e2 := s42_x
  have e := s43_is
  omega
theorem s44_x [Val] (R : In64) : 4096 * s44.eval = s43.eval := by
  have e1 := s43_x R
  have e2 := s39_is
  obtain ⟨q, e⟩ := s44_is
  have r := s38_b R
  omega
theorem s44_b [Val] (R : In64) : -32769 ≤ s44.eval ∧ s44.eval ≤ 32769 := by
  have e1 := s43_x R
  have e3 := s44_x R
  have e2 := s39_is
  have r := s38_b R
  omega
theorem s45_x [Val] : s45.eval = s0.eval - 4096 := by
  have e1 := s0_is
  have e := s45_is
  omega
theorem s46_x [Val] (R : In64) : s46.eval = (Val.num 1) - s0.eval + 4096 ∨ (9223372036854773760 ≤ (Val.num 1) - s0.eval + 4096 ∧ s46.eval = (Val.num 1) - s0.eval + 4096 - 18446744073709551616) := by
  have r := R 1
  have e1 := s0_is
  have e2 := s45_x
  have e := s46_is
  omega
theorem s47_x [Val] (R : In64) : 4096 * s47.eval = s46.eval := by
  have e1 := s46_x R
  have e2 := s0_is
  obtain ⟨q, e⟩ := s47_is
  have r := R 1
  omega
theorem s47_b [Val] (R : In64) : -2251799813685249 ≤ s47.eval ∧ s47.eval ≤ 2251799813685249 := by
  have e1 := s46_x R
  have e3 := s47_x R
  have e2 := s0_is
  have r := R 1
  omega
theorem s49_x [Val] (R : In64) : s49.eval = s47.eval - s48.eval := by
  have r := s47_b R
  have e1 := s48_is
  have e := s49_is
  omega
theorem s50_x [Val] (R : In64) : 4096 * s50.eval = s49.eval := by
  have e1 := s49_x R
  have e2 := s48_is
  obtain ⟨q, e⟩ := s50_is
  have r := s47_b R
  omega
theorem s50_b [Val] (R : In64) : -549755813889 ≤ s50.eval ∧ s50.eval ≤ 549755813889 := by
  have e1 := s49_x R
  have e3 := s50_x R
  have e2 := s48_is
  have r := s47_b R
  omega
theorem s52_x [Val] (R : In64) : s52.eval = s50.eval - s51.eval := by
  have r := s50_b R
  have e1 := s51_is
  have e := s52_is
  omega
theorem s53_x [Val] (R : In64) : 4096 * s53.eval = s52.eval := by
  have e1 := s52_x R
  have e2 := s51_is
  obtain ⟨q, e⟩ := s53_is
  have r := s50_b R
  omega
theorem s53_b [Val] (R : In64) : -134217729 ≤ s53.eval ∧ s53.eval ≤ 134217729 := by
  have e1 := s52_x R
  have e3 := s53_x R
  have e2 := s51_is
  have r := s50_b R
  omega
theorem s55_x [Val] (R : In64) : s55.eval = s53.eval - s54.eval := by
  have r := s53_b R
  have e1 := s54_is
  have e := s55_is
  omega
theorem s56_x [Val] (R : In64) : 4096 * s56.eval = s55.eval := by
  have e1 := s55_x R
  have e2 := s54_is
  obtain ⟨q, e⟩ := s56_is
  have r := s53_b R
  omega
theorem s56_b [Val] (R : In64) : -32769 ≤ s56.eval ∧ s56.eval ≤ 32769 := by
  have e1 := s55_x R
  have e3 := s56_x R
  have e2 := s54_is
  have r := s53_b R
  omega
theorem s57_x [Val] : s57.eval = s54.eval - 4096 := by
  have e1 := s54_is
  have e := s57_is
  omega
theorem s58_x [Val] (R : In64) : s58.eval = s53.eval - s54.eval + 4096 := by
  have r := s53_b R
  have e1 := s54_is
  have e2 := s57_x
  have e := s58_is
  omega
theorem s59_x [Val] (R : In64) : 4096 * s59.eval = s58.eval := by
  have e1 := s58_x R
  have e2 := s54_is
  obtain ⟨q, e⟩ := s59_is
  have r := s53_b R
  omega
theorem s59_b [Val] (R : In64) : -32769 ≤ s59.eval ∧ s59.eval ≤ 32769 := by
  have e1 := s58_x R
  have e3 := s59_x R
  have e2 := s54_is
  have r := s53_b R
  omega
theorem s60_x [Val] : s60.eval = s51.eval - 4096 := by
  have e1 := s51_is
  have e := s60_is
  omega
theorem s61_x [Val] (R : In64) : s61.eval = s50.eval - s51.eval + 4096 := by
  have r := s50_b R
  have e1 := s51_is
  have e2 := s60_x
  have e := s61_is
  omega
theorem s62_x [Val] (R : In64) : 4096 * s62.eval = s61.eval := by
  have e1 := s61_x R
  have e2 := s51_is
  obtain ⟨q, e⟩ := s62_is
  have r := s50_b R
  omega
theorem s62_b [Val] (R : In64) : -134217729 ≤ s62.eval ∧ s62.eval ≤ 134217729 := by
  have e1 := s61_x R
  have e3 := s62_x R
  have e2 := s51_is
  have r := s50_b R
  omega
theorem s64_x [Val] (R : In64) : s64.eval = s62.eval - s63.eval := by
  have r := s62_b R
  have e1 := s63_is
  have e := s64_is
  omega
theorem s65_x [Val] (R : In64) : 4096 * s65.eval = s64.eval := by
  have e1 := s64_x R
  have e2 := s63_is
  obtain ⟨q, e⟩ := s65_is
  have r := s62_b R
  omega
theorem s65_b [Val] (R : In64) : -32769 ≤ s65.eval ∧ s65.eval ≤ 32769 := by
  have e1 := s64_x R
  have e3 := s65_x R
  have e2 := s63_is
  have r := s62_b R
  omega
theorem s66_x [Val] : s66.eval = s63.eval - 4096 := by
  have e1 := s63_is
  have e := s66_is
  omega
theorem s67_x [Val] (R : In64) : s67.eval = s62.eval - s63.eval + 4096 := by
  have r := s62_b R
  have e1 := s63_is
  have e2 := s66_x
  have e := s67_is
  omega
theorem s68_x [Val] (R : In64) : 4096 * s68.eval = s67.eval := by
  have e1 := s67_x R
  have e2 := s63_is
  obtain ⟨q, e⟩ := s68_is
  have r := s62_b R
  omega
theorem s68_b [Val] (R : In64) : -32769 ≤ s68.eval ∧ s68.eval ≤ 32769 := by
  have e1 := s67_x R
  have e3 := s68_x R
  have e2 := s63_is
  have r := s62_b R
  omega
theorem s69_x [Val] : s69.eval = s48.eval - 4096 := by
  have e1 := s48_is
  have e := s69_is
  omega
theorem s70_x [Val] (R : In64) : s70.eval = s47.eval - s48.eval + 4096 := by
  have r := s47_b R
  have e1 := s48_is
  have e2 := s69_x
  have e := s70_is
  omega
theorem s71_x [Val] (R : In64) : 4096 * s71.eval = s70.eval := by
  have e1 := s70_x R
  have e2 := s48_is
  obtain ⟨q, e⟩ := s71_is
  have r := s47_b R
  omega
theorem s71_b [Val] (R : In64) : -549755813889 ≤ s71.eval ∧ s71.eval ≤ 549755813889 := by
  have e1 := s70_x R
  have e3 := s71_x R
  have e2 := s48_is
  have r := s47_b R
  omega
theorem s73_x [Val] (R : In64) : s73.eval = s71.eval - s72.eval := by
  have r := s71_b R
  have e1 := s72_is
  have e := s73_is
  omega
theorem s74_x [Val] (R : In64) : 4096 * s74.eval = s73.eval := by
  have e1 := s73_x R
  have e2 := s72_is
  obtain ⟨q, e⟩ := s74_is
  have r := s71_b R
  omega
theorem s74_b [Val] (R : In64) : -134217729 ≤ s74.eval ∧ s74.eval ≤ 134217729 := by
  have e1 := s73_x R
  have e3 := s74_x R
  have e2 := s72_is
  have r := s71_b R
  omega
theorem s76_x [Val] (R : In64) : s76.eval = s74.eval - s75.eval := by
  have r := s74_b R
  have e1 := s75_is
  have e := s76_is
  omega
theorem s77_x [Val] (R : In64) : 4096 * s77.eval = s76.eval := by
  have e1 := s76_x R
  have e2 := s75_is
  obtain ⟨q, e⟩ := s77_is
  have r := s74_b R
  omega
theorem s77_b [Val] (R : In64) : -32769 ≤ s77.eval ∧ s77.eval ≤ 32769 := by
  have e1 := s76_x R
  have e3 := s77_x R
  have e2 := s75_is
  have r := s74_b R
  omega
theorem s78_x [Val] : s78.eval = s75.eval - 4096 := by
  have e1 := s75_is
  have e := s78_is
  omega
theorem s79_x [Val] (R : In64) : s79.eval = s74.eval - s75.eval + 4096 := by
  have r := s74_b R
  have e1 := s75_is
  have e2 := s78_x
  have e := s79_is
  omega
theorem s80_x [Val] (R : In64) : 4096 * s80.eval = s79.eval := by
  have e1 := s79_x R
  have e2 := s75_is
  obtain ⟨q, e⟩ := s80_is
  have r := s74_b R
  omega
theorem s80_b [Val] (R : In64) : -32769 ≤ s80.eval ∧ s80.eval ≤ 32769 := by
  have e1 := s79_x R
  have e3 := s80_x R
  have e2 := s75_is
  have r := s74_b R
  omega
theorem s81_x [Val] : s81.eval = s72.eval - 4096 := by
  have e1 := s72_is
  have e := s81_is
  omega
theorem s82_x [Val] (R : In64) : s82.eval = s71.eval - s72.eval + 4096 := by
  have r := s71_b R
  have e1 := s72_is
  have e2 := s81_x
  have e := s82_is
  omega
theorem s83_x [Val] (R : In64) : 4096 * s83.eval = s82.eval := by
  have e1 := s82_x R
  have e2 := s72_is
  obtain ⟨q, e⟩ := s83_is
  have r := s71_b R
  omega
theorem s83_b [Val] (R : In64) : -134217729 ≤ s83.eval ∧ s83.eval ≤ 134217729 := by
  have e1 := s82_x R
  have e3 := s83_x R
  have e2 := s72_is
  have r := s71_b R
  omega
theorem s85_x [Val] (R : In64) : s85.eval = s83.eval - s84.eval := by
  have r := s83_b R
  have e1 := s84_is
  have e := s85_is
  omega
theorem s86_x [Val] (R : In64) : 4096 * s86.eval = s85.eval := by
  have e1 := s85_x R
  have e2 := s84_is
  obtain ⟨q, e⟩ := s86_is
  have r := s83_b R
  omega
theorem s86_b [Val] (R : In64) : -32769 ≤ s86.eval ∧ s86.eval ≤ 32769 := by
  have e1 := s85_x R
  have e3 := s86_x R
  have e2 := s84_is
  have r := s83_b R
  omega
theorem s87_x [Val] : s87.eval = s84.eval - 4096 := by
  have e1 := s84_is
  have e := s87_is
  omega
theorem s88_x [Val] (R : In64) : s88.eval = s83.eval - s84.eval + 4096 := by
  have r := s83_b R
  have e1 := s84_is
  have e2 := s87_x
  have e := s88_is
  omega
theorem s89_x [Val] (R : In64) : 4096 * s89.eval = s88.eval := by
  have e1 := s88_x R
  have e2 := s84_is
  obtain ⟨q, e⟩ := s89_is
  have r := s83_b R
  omega
theorem s89_b [Val] (R : In64) : -32769 ≤ s89.eval ∧ s89.eval ≤ 32769 := by
  have e1 := s88_x R
  have e3 := s89_x R
  have e2 := s84_is
  have r := s83_b R
  omega
theorem s90_x [Val] (l2 : 0 ≤ Val.num 2) (u2 : Val.num 2 ≤ 7) (l3 : 0 ≤ Val.num 3) (u3 : Val.num 3 ≤ 4095) : s90.eval = (Val.num 3 * 8) := by
  have e := s90_is
  have _ := And.intro l2 u2
  have _ := And.intro l3 u3
  omega
theorem s91_x [Val] (l2 : 0 ≤ Val.num 2) (u2 : Val.num 2 ≤ 7) (l3 : 0 ≤ Val.num 3) (u3 : Val.num 3 ≤ 4095) : s91.eval = ((Val.num 3 * 8) + Val.num 2) := by
  have xs90 := s90_x l2 u2 l3 u3
  have e := s91_is
  have _ := And.intro l2 u2
  have _ := And.intro l3 u3
  omega
theorem s92_x [Val] (l2 : 0 ≤ Val.num 2) (u2 : Val.num 2 ≤ 7) (l3 : 0 ≤ Val.num 3) (u3 : Val.num 3 ≤ 4095) : s92.eval = ((Val.num 3 * 8) + Val.num 2) := by
  have xs91 := s91_x l2 u2 l3 u3
  have e := s92_is
  have _ := And.intro l2 u2
  have _ := And.intro l3 u3
  omega
theorem s93_x [Val] (l2 : 0 ≤ Val.num 2) (u2 : Val.num 2 ≤ 7) (l3 : 0 ≤ Val.num 3) (u3 : Val.num 3 ≤ 4095) : s93.eval = (((Val.num 3 * 8) + Val.num 2) * 16) := by
  have xs92 := s92_x l2 u2 l3 u3
  have e := s93_is
  have _ := And.intro l2 u2
  have _ := And.intro l3 u3
  omega
theorem s94_x [Val] (l2 : 0 ≤ Val.num 2) (u2 : Val.num 2 ≤ 7) (l3 : 0 ≤ Val.num 3) (u3 : Val.num 3 ≤ 4095) : s94.eval = (1073741824 + (((Val.num 3 * 8) + Val.num 2) * 16)) := by
  have xs93 := s93_x l2 u2 l3 u3
  have e := s94_is
  have _ := And.intro l2 u2
  have _ := And.intro l3 u3
  omega
theorem s95_x [Val] (l2 : 0 ≤ Val.num 2) (u2 : Val.num 2 ≤ 7) (l3 : 0 ≤ Val.num 3) (u3 : Val.num 3 ≤ 4095) : s95.eval = ((1073741824 + (((Val.num 3 * 8) + Val.num 2) * 16)) - 1073741824) := by
  have xs94 := s94_x l2 u2 l3 u3
  have e := s95_is
  have _ := And.intro l2 u2
  have _ := And.intro l3 u3
  omega
theorem s96_x [Val] (l2 : 0 ≤ Val.num 2) (u2 : Val.num 2 ≤ 7) (l3 : 0 ≤ Val.num 3) (u3 : Val.num 3 ≤ 4095) : s96.eval = (((1073741824 + (((Val.num 3 * 8) + Val.num 2) * 16)) - 1073741824) % 16) := by
  have xs95 := s95_x l2 u2 l3 u3
  have e := s96_is
  have _ := And.intro l2 u2
  have _ := And.intro l3 u3
  omega
theorem s97_x [Val] (l2 : 0 ≤ Val.num 2) (u2 : Val.num 2 ≤ 7) (l3 : 0 ≤ Val.num 3) (u3 : Val.num 3 ≤ 4095) : s97.eval = (((1073741824 + (((Val.num 3 * 8) + Val.num 2) * 16)) - 1073741824) / 16) := by
  have xs95 := s95_x l2 u2 l3 u3
  have e := s97_is
  have _ := And.intro l2 u2
  have _ := And.intro l3 u3
  omega
theorem s98_x [Val] (l2 : 0 ≤ Val.num 2) (u2 : Val.num 2 ≤ 7) (l3 : 0 ≤ Val.num 3) (u3 : Val.num 3 ≤ 4095) : s98.eval = ((1073741824 + (((Val.num 3 * 8) + Val.num 2) * 16)) % 4096) := by
  have xs94 := s94_x l2 u2 l3 u3
  have e := s98_is
  have _ := And.intro l2 u2
  have _ := And.intro l3 u3
  omega
theorem s99_x [Val] (l2 : 0 ≤ Val.num 2) (u2 : Val.num 2 ≤ 7) (l3 : 0 ≤ Val.num 3) (u3 : Val.num 3 ≤ 4095) : s99.eval = ((1073741824 + (((Val.num 3 * 8) + Val.num 2) * 16)) % 4096) := by
  have xs98 := s98_x l2 u2 l3 u3
  have e := s99_is
  have _ := And.intro l2 u2
  have _ := And.intro l3 u3
  omega
theorem s100_x [Val] (l2 : 0 ≤ Val.num 2) (u2 : Val.num 2 ≤ 7) (l3 : 0 ≤ Val.num 3) (u3 : Val.num 3 ≤ 4095) : s100.eval = (8 * Val.num 3) := by
  have e := s100_is
  have _ := And.intro l2 u2
  have _ := And.intro l3 u3
  omega
theorem s101_x [Val] (l2 : 0 ≤ Val.num 2) (u2 : Val.num 2 ≤ 7) (l3 : 0 ≤ Val.num 3) (u3 : Val.num 3 ≤ 4095) : s101.eval = ((8 * Val.num 3) + Val.num 2) := by
  have xs100 := s100_x l2 u2 l3 u3
  have e := s101_is
  have _ := And.intro l2 u2
  have _ := And.intro l3 u3
  omega
theorem s102_x [Val] (l2 : 0 ≤ Val.num 2) (u2 : Val.num 2 ≤ 7) (l3 : 0 ≤ Val.num 3) (u3 : Val.num 3 ≤ 4095) : s102.eval = (16 * ((8 * Val.num 3) + Val.num 2)) := by
  have xs101 := s101_x l2 u2 l3 u3
  have e := s102_is
  have _ := And.intro l2 u2
  have _ := And.intro l3 u3
  omega
theorem s103_x [Val] (l2 : 0 ≤ Val.num 2) (u2 : Val.num 2 ≤ 7) (l3 : 0 ≤ Val.num 3) (u3 : Val.num 3 ≤ 4095) : s103.eval = (1073741824 + (16 * ((8 * Val.num 3) + Val.num 2))) := by
  have xs102 := s102_x l2 u2 l3 u3
  have e := s103_is
  have _ := And.intro l2 u2
  have _ := And.intro l3 u3
  omega
theorem s104_x [Val] (l2 : 0 ≤ Val.num 2) (u2 : Val.num 2 ≤ 7) (l3 : 0 ≤ Val.num 3) (u3 : Val.num 3 ≤ 4095) : s104.eval = (1073741824 + (16 * ((8 * Val.num 3) + Val.num 2))) := by
  have xs103 := s103_x l2 u2 l3 u3
  have e := s104_is
  have _ := And.intro l2 u2
  have _ := And.intro l3 u3
  omega
theorem s105_x [Val] (l2 : 0 ≤ Val.num 2) (u2 : Val.num 2 ≤ 7) (l3 : 0 ≤ Val.num 3) (u3 : Val.num 3 ≤ 4095) : s105.eval = ((1073741824 + (16 * ((8 * Val.num 3) + Val.num 2))) % 16) := by
  have xs104 := s104_x l2 u2 l3 u3
  have e := s105_is
  have _ := And.intro l2 u2
  have _ := And.intro l3 u3
  omega
theorem s106_x [Val] (l2 : 0 ≤ Val.num 2) (u2 : Val.num 2 ≤ 7) (l3 : 0 ≤ Val.num 3) (u3 : Val.num 3 ≤ 4095) : s106.eval = ((1073741824 + (16 * ((8 * Val.num 3) + Val.num 2))) - 1073741824) := by
  have xs104 := s104_x l2 u2 l3 u3
  have e := s106_is
  have _ := And.intro l2 u2
  have _ := And.intro l3 u3
  omega
theorem s107_x [Val] (l2 : 0 ≤ Val.num 2) (u2 : Val.num 2 ≤ 7) (l3 : 0 ≤ Val.num 3) (u3 : Val.num 3 ≤ 4095) : s107.eval = (((1073741824 + (16 * ((8 * Val.num 3) + Val.num 2))) - 1073741824) / 16) := by
  have xs106 := s106_x l2 u2 l3 u3
  have e := s107_is
  obtain ⟨q, e⟩ := e
  have _ := And.intro l2 u2
  have _ := And.intro l3 u3
  omega
theorem s108_x [Val] (l2 : 0 ≤ Val.num 2) (u2 : Val.num 2 ≤ 7) (l3 : 0 ≤ Val.num 3) (u3 : Val.num 3 ≤ 4095) : s108.eval = ((1073741824 + (16 * ((8 * Val.num 3) + Val.num 2))) % 4096) := by
  have xs104 := s104_x l2 u2 l3 u3
  have e := s108_is
  have _ := And.intro l2 u2
  have _ := And.intro l3 u3
  omega
theorem s109_x [Val] (l2 : 0 ≤ Val.num 2) (u2 : Val.num 2 ≤ 7) (l3 : 0 ≤ Val.num 3) (u3 : Val.num 3 ≤ 4095) : s109.eval = ((1073741824 + (16 * ((8 * Val.num 3) + Val.num 2))) % 4096) := by
  have xs108 := s108_x l2 u2 l3 u3
  have e := s109_is
  have _ := And.intro l2 u2
  have _ := And.intro l3 u3
  omega
theorem s110_x [Val] (l2 : 0 ≤ Val.num 2) (u2 : Val.num 2 ≤ 7) (l3 : 0 ≤ Val.num 3) (u3 : Val.num 3 ≤ 4095) : s110.eval = (1073741824 + (((Val.num 3 * 8) + Val.num 2) * 16)) := by
  have xs94 := s94_x l2 u2 l3 u3
  have e := s110_is
  have _ := And.intro l2 u2
  have _ := And.intro l3 u3
  omega
theorem s111_x [Val] (l2 : 0 ≤ Val.num 2) (u2 : Val.num 2 ≤ 7) (l3 : 0 ≤ Val.num 3) (u3 : Val.num 3 ≤ 4095) : s111.eval = ((1073741824 + (((Val.num 3 * 8) + Val.num 2) * 16)) - ((1073741824 + (((Val.num 3 * 8) + Val.num 2) * 16)) % 4096)) := by
  have xs110 := s110_x l2 u2 l3 u3
  have xs99 := s99_x l2 u2 l3 u3
  have e := s111_is
  have _ := And.intro l2 u2
  have _ := And.intro l3 u3
  omega
theorem s112_x [Val] (l2 : 0 ≤ Val.num 2) (u2 : Val.num 2 ≤ 7) (l3 : 0 ≤ Val.num 3) (u3 : Val.num 3 ≤ 4095) : s112.eval = (((1073741824 + (((Val.num 3 * 8) + Val.num 2) * 16)) - ((1073741824 + (((Val.num 3 * 8) + Val.num 2) * 16)) % 4096)) / 4096) := by
  have xs111 := s111_x l2 u2 l3 u3
  have e := s112_is
  have _ := And.intro l2 u2
  have _ := And.intro l3 u3
  omega
theorem s113_x [Val] (l2 : 0 ≤ Val.num 2) (u2 : Val.num 2 ≤ 7) (l3 : 0 ≤ Val.num 3) (u3 : Val.num 3 ≤ 4095) : s113.eval = (1073741824 + (16 * ((8 * Val.num 3) + Val.num 2))) := by
  have xs104 := s104_x l2 u2 l3 u3
  have e := s113_is
  have _ := And.intro l2 u2
  have _ := And.intro l3 u3
  omega
theorem s114_x [Val] (l2 : 0 ≤ Val.num 2) (u2 : Val.num 2 ≤ 7) (l3 : 0 ≤ Val.num 3) (u3 : Val.num 3 ≤ 4095) : s114.eval = ((1073741824 + (16 * ((8 * Val.num 3) + Val.num 2))) - ((1073741824 + (16 * ((8 * Val.num 3) + Val.num 2))) % 4096)) := by
  have xs113 := s113_x l2 u2 l3 u3
  have xs109 := s109_x l2 u2 l3 u3
  have e := s114_is
  have _ := And.intro l2 u2
  have _ := And.intro l3 u3
  omega
theorem s115_x [Val] (l2 : 0 ≤ Val.num 2) (u2 : Val.num 2 ≤ 7) (l3 : 0 ≤ Val.num 3) (u3 : Val.num 3 ≤ 4095) : s115.eval = (((1073741824 + (16 * ((8 * Val.num 3) + Val.num 2))) - ((1073741824 + (16 * ((8 * Val.num 3) + Val.num 2))) % 4096)) / 4096) := by
  have xs114 := s114_x l2 u2 l3 u3
  have e := s115_is
  obtain ⟨q, e⟩ := e
  have _ := And.intro l2 u2
  have _ := And.intro l3 u3
  omega
theorem s116_x [Val] (l2 : 0 ≤ Val.num 2) (u2 : Val.num 2 ≤ 7) (l3 : 0 ≤ Val.num 3) (u3 : Val.num 3 ≤ 4095) : s116.eval = (((1073741824 + (((Val.num 3 * 8) + Val.num 2) * 16)) % 4096) - 4096) := by
  have xs99 := s99_x l2 u2 l3 u3
  have e := s116_is
  have _ := And.intro l2 u2
  have _ := And.intro l3 u3
  omega
theorem s117_x [Val] (l2 : 0 ≤ Val.num 2) (u2 : Val.num 2 ≤ 7) (l3 : 0 ≤ Val.num 3) (u3 : Val.num 3 ≤ 4095) : s117.eval = ((1073741824 + (((Val.num 3 * 8) + Val.num 2) * 16)) - (((1073741824 + (((Val.num 3 * 8) + Val.num 2) * 16)) % 4096) - 4096)) := by
  have xs110 := s110_x l2 u2 l3 u3
  have xs116 := s116_x l2 u2 l3 u3
  have e := s117_is
  have _ := And.intro l2 u2
  have _ := And.intro l3 u3
  omega
theorem s118_x [Val] (l2 : 0 ≤ Val.num 2) (u2 : Val.num 2 ≤ 7) (l3 : 0 ≤ Val.num 3) (u3 : Val.num 3 ≤ 4095) : s118.eval = (((1073741824 + (((Val.num 3 * 8) + Val.num 2) * 16)) - (((1073741824 + (((Val.num 3 * 8) + Val.num 2) * 16)) % 4096) - 4096)) / 4096) := by
  have xs117 := s117_x l2 u2 l3 u3
  have e := s118_is
  have _ := And.intro l2 u2
  have _ := And.intro l3 u3
  omega
theorem s119_x [Val] (l2 : 0 ≤ Val.num 2) (u2 : Val.num 2 ≤ 7) (l3 : 0 ≤ Val.num 3) (u3 : Val.num 3 ≤ 4095) : s119.eval = (((1073741824 + (16 * ((8 * Val.num 3) + Val.num 2))) % 4096) - 4096) := by
  have xs109 := s109_x l2 u2 l3 u3
  have e := s119_is
  have _ := And.intro l2 u2
  have _ := And.intro l3 u3
  omega
theorem s120_x [Val] (l2 : 0 ≤ Val.num 2) (u2 : Val.num 2 ≤ 7) (l3 : 0 ≤ Val.num 3) (u3 : Val.num 3 ≤ 4095) : s120.eval = ((1073741824 + (16 * ((8 * Val.num 3) + Val.num 2))) - (((1073741824 + (16 * ((8 * Val.num 3) + Val.num 2))) % 4096) - 4096)) := by
  have xs113 := s113_x l2 u2 l3 u3
  have xs119 := s119_x l2 u2 l3 u3
  have e := s120_is
  have _ := And.intro l2 u2
  have _ := And.intro l3 u3
  omega
theorem s121_x [Val] (l2 : 0 ≤ Val.num 2) (u2 : Val.num 2 ≤ 7) (l3 : 0 ≤ Val.num 3) (u3 : Val.num 3 ≤ 4095) : s121.eval = (((1073741824 + (16 * ((8 * Val.num 3) + Val.num 2))) - (((1073741824 + (16 * ((8 * Val.num 3) + Val.num 2))) % 4096) - 4096)) / 4096) := by
  have xs120 := s120_x l2 u2 l3 u3
  have e := s121_is
  obtain ⟨q, e⟩ := e
  have _ := And.intro l2 u2
  have _ := And.intro l3 u3
  omega
def b0 : Bx := .cmp .lss (.var 0) (.lit 1)
def b1 : Bx := .cmp .lss (.var 0) (.lit 32)
def b2 : Bx := .cmp .lss (.var 1) (.lit (-2048))
def b3 : Bx := .cmp .lss s0 (.lit 2048)
def b4 : Bx := .cmp .lss (.var 1) (.lit (-2147483648))
def b5 : Bx := .cmp .lss s2 (.lit (-2048))
def b6 : Bx := .cmp .lss s3 (.lit 2048)
def b7 : Bx := .cmp .lss s2 (.lit (-2147483648))
def b8 : Bx := .cmp .lss s5 (.lit (-2048))
def b9 : Bx := .cmp .lss s6 (.lit 2048)
def b10 : Bx := .cmp .lss s5 (.lit (-2147483648))
def b11 : Bx := .cmp .lss s8 (.lit (-2048))
def b12 : Bx := .cmp .lss s9 (.lit 2048)
def b13 : Bx := .cmp .lss s8 (.lit (-2147483648))
def b14 : Bx := .cmp .lss s8 (.lit 2147483648)
def b15 : Bx := .cmp .eql s11 (.lit 524288)
def b16 : Bx := .cmp .eql s9 (.lit 0)
def b17 : Bx := .cmp .eql s6 (.lit 0)
def b18 : Bx := .cmp .eql s3 (.lit 0)
def b19 : Bx := .cmp .eql s0 (.lit 0)
def b20 : Bx := .cmp .eql s14 (.lit 524288)
def b21 : Bx := .cmp .eql s12 (.lit 0)
def b22 : Bx := .cmp .lss s5 (.lit 2147483648)
def b23 : Bx := .cmp .eql s8 (.lit 524288)
def b24 : Bx := .cmp .lss s17 (.lit (-2048))
def b25 : Bx := .cmp .lss s18 (.lit 2048)
def b26 : Bx := .cmp .lss s17 (.lit (-2147483648))
def b27 : Bx := .cmp .lss s17 (.lit 2147483648)
def b28 : Bx := .cmp .eql s20 (.lit 524288)
def b29 : Bx := .cmp .eql s18 (.lit 0)
def b30 : Bx := .cmp .eql s15 (.lit 0)
def b31 : Bx := .cmp .eql s23 (.lit 524288)
def b32 : Bx := .cmp .eql s21 (.lit 0)
def b33 : Bx := .cmp .eql s17 (.lit 524288)
def b34 : Bx := .cmp .lss s2 (.lit 2147483648)
def b35 : Bx := .cmp .eql s5 (.lit 524288)
def b36 : Bx := .cmp .lss s26 (.lit (-2048))
def b37 : Bx := .cmp .lss s27 (.lit 2048)
def b38 : Bx := .cmp .lss s26 (.lit (-2147483648))
def b39 : Bx := .cmp .lss s29 (.lit (-2048))
def b40 : Bx := .cmp .lss s30 (.lit 2048)
def b41 : Bx := .cmp .lss s29 (.lit (-2147483648))
def b42 : Bx := .cmp .lss s29 (.lit 2147483648)
def b43 : Bx := .cmp .eql s32 (.lit 524288)
def b44 : Bx := .cmp .eql s30 (.lit 0)
def b45 : Bx := .cmp .eql s27 (.lit 0)
def b46 : Bx := .cmp .eql s24 (.lit 0)
def b47 : Bx := .cmp .eql s35 (.lit 524288)
def b48 : Bx := .cmp .eql s33 (.lit 0)
def b49 : Bx := .cmp .lss s26 (.lit 2147483648)
def b50 : Bx := .cmp .eql s29 (.lit 524288)
def b51 : Bx := .cmp .lss s38 (.lit (-2048))
def b52 : Bx := .cmp .lss s39 (.lit 2048)
def b53 : Bx := .cmp .lss s38 (.lit (-2147483648))
def b54 : Bx := .cmp .lss s38 (.lit 2147483648)
def b55 : Bx := .cmp .eql s41 (.lit 524288)
def b56 : Bx := .cmp .eql s39 (.lit 0)
def b57 : Bx := .cmp .eql s36 (.lit 0)
def b58 : Bx := .cmp .eql s44 (.lit 524288)
def b59 : Bx := .cmp .eql s42 (.lit 0)
def b60 : Bx := .cmp .eql s38 (.lit 524288)
def b61 : Bx := .cmp .eql s26 (.lit 524288)
def b62 : Bx := .cmp .lss (.var 1) (.lit 2147483648)
def b63 : Bx := .cmp .eql s2 (.lit 524288)
def b64 : Bx := .cmp .lss s47 (.lit (-2048))
def b65 : Bx := .cmp .lss s48 (.lit 2048)
def b66 : Bx := .cmp .lss s47 (.lit (-2147483648))
def b67 : Bx := .cmp .lss s50 (.lit (-2048))
def b68 : Bx := .cmp .lss s51 (.lit 2048)
def b69 : Bx := .cmp .lss s50 (.lit (-2147483648))
def b70 : Bx := .cmp .lss s53 (.lit (-2048))
def b71 : Bx := .cmp .lss s54 (.lit 2048)
def b72 : Bx := .cmp .lss s53 (.lit (-2147483648))
def b73 : Bx := .cmp .lss s53 (.lit 2147483648)
def b74 : Bx := .cmp .eql s56 (.lit 524288)
def b75 : Bx := .cmp .eql s54 (.lit 0)
def b76 : Bx := .cmp .eql s51 (.lit 0)
def b77 : Bx := .cmp .eql s48 (.lit 0)
def b78 : Bx := .cmp .eql s45 (.lit 0)
def b79 : Bx := .cmp .eql s59 (.lit 524288)
def b80 : Bx := .cmp .eql s57 (.lit 0)
def b81 : Bx := .cmp .lss s50 (.lit 2147483648)
def b82 : Bx := .cmp .eql s53 (.lit 524288)
def b83 : Bx := .cmp .lss s62 (.lit (-2048))
def b84 : Bx := .cmp .lss s63 (.lit 2048)
def b85 : Bx := .cmp .lss s62 (.lit (-2147483648))
def b86 : Bx := .cmp .lss s62 (.lit 2147483648)
def b87 : Bx := .cmp .eql s65 (.lit 524288)
def b88 : Bx := .cmp .eql s63 (.lit 0)
def b89 : Bx := .cmp .eql s60 (.lit 0)
def b90 : Bx := .cmp .eql s68 (.lit 524288)
def b91 : Bx := .cmp .eql s66 (.lit 0)
def b92 : Bx := .cmp .eql s62 (.lit 524288)
def b93 : Bx := .cmp .lss s47 (.lit 2147483648)
def b94 : Bx := .cmp .eql s50 (.lit 524288)
def b95 : Bx := .cmp .lss s71 (.lit (-2048))
def b96 : Bx := .cmp .lss s72 (.lit 2048)
def b97 : Bx := .cmp .lss s71 (.lit (-2147483648))
def b98 : Bx := .cmp .lss s74 (.lit (-2048))
def b99 : Bx := .cmp .lss s75 (.lit 2048)
def b100 : Bx := .cmp .lss s74 (.lit (-2147483648))
def b101 : Bx := .cmp .lss s74 (.lit 2147483648)
def b102 : Bx := .cmp .eql s77 (.lit 524288)
def b103 : Bx := .cmp .eql s75 (.lit 0)
def b104 : Bx := .cmp .eql s72 (.lit 0)
def b105 : Bx := .cmp .eql s69 (.lit 0)
def b106 : Bx := .cmp .eql s80 (.lit 524288)
def b107 : Bx := .cmp .eql s78 (.lit 0)
def b108 : Bx := .cmp .lss s71 (.lit 2147483648)
def b109 : Bx := .cmp .eql s74 (.lit 524288)
def b110 : Bx := .cmp .lss s83 (.lit (-2048))
def b111 : Bx := .cmp .lss s84 (.lit 2048)
def b112 : Bx := .cmp .lss s83 (.lit (-2147483648))
def b113 : Bx := .cmp .lss s83 (.lit 2147483648)
def b114 : Bx := .cmp .eql s86 (.lit 524288)
def b115 : Bx := .cmp .eql s84 (.lit 0)
def b116 : Bx := .cmp .eql s81 (.lit 0)
def b117 : Bx := .cmp .eql s89 (.lit 524288)
def b118 : Bx := .cmp .eql s87 (.lit 0)
def b119 : Bx := .cmp .eql s83 (.lit 524288)
def b120 : Bx := .cmp .eql s71 (.lit 524288)
def b121 : Bx := .cmp .eql s47 (.lit 524288)
def b122 : Bx := .cmp .lss (.var 1) (.lit 2048)
def b123 : Bx := .cmp .lss s2 (.lit 2048)
def b124 : Bx := .cmp .lss s5 (.lit 2048)
def b125 : Bx := .cmp .lss s8 (.lit 2048)
def b126 : Bx := .cmp .lss s17 (.lit 2048)
def b127 : Bx := .cmp .lss s26 (.lit 2048)
def b128 : Bx := .cmp .lss s29 (.lit 2048)
def b129 : Bx := .cmp .lss s38 (.lit 2048)
def b130 : Bx := .cmp .lss s47 (.lit 2048)
def b131 : Bx := .cmp .lss s50 (.lit 2048)
def b132 : Bx := .cmp .lss s53 (.lit 2048)
def b133 : Bx := .cmp .lss s62 (.lit 2048)
def b134 : Bx := .cmp .lss s71 (.lit 2048)
def b135 : Bx := .cmp .lss s74 (.lit 2048)
def b136 : Bx := .cmp .lss s83 (.lit 2048)
def b137 : Bx := .cmp .lss (.var 2) (.lit 0)
def b138 : Bx := .cmp .lss (.var 2) (.lit 8)
def b139 : Bx := .cmp .lss (.var 3) (.lit 0)
def b140 : Bx := .cmp .lss (.var 3) (.lit 4096)
def b141 : Bx := .cmp .lss s94 (.lit 1073741824)
def b142 : Bx := .cmp .eql s96 (.lit 0)
def b143 : Bx := .cmp .lss s97 (.lit 32768)
def b144 : Bx := .cmp .lss s99 (.lit 2048)
def b145 : Bx := .cmp .lss s104 (.lit 1073741824)
def b146 : Bx := .cmp .eql s105 (.lit 0)
def b147 : Bx := .cmp .lss s107 (.lit 32768)
def b148 : Bx := .cmp .lss s109 (.lit 2048)
def b149 : Bx := .cmp .eql s112 s115
def b150 : Bx := .cmp .eql s99 s109
def b151 : Bx := .cmp .eql s118 s121
def b152 : Bx := .cmp .eql s116 s119
def r0 : List AV := [.int .i64 0, .int .i64 0, .int .i64 1, .sym .i64 (.var 0), .int .i64 0, .int .i64 0, .sym .i64 s11]
def r1 : List AV := [.int .i64 0, .int .i64 0, .int .i64 28, .sym .i64 (.var 0), .sym .i64 (.var 0), .int .i64 0, .int .i64 12]
def r2 : List AV := [.int .i64 0, .int .i64 0, .int .i64 1, .sym .i64 (.var 0), .int .i64 0, .int .i64 0, .sym .i64 s141]
def r3 : List AV := [.int .i64 0, .int .i64 0, .int .i64 22, .sym .i64 (.var 0), .sym .i64 (.var 0), .int .i64 0, .sym .i64 s0]
def r4 : List AV := [.int .i64 0, .int .i64 0, .int .i64 22, .sym .i64 (.var 0), .sym .i64 (.var 0), .int .i64 0, .sym .i64 s124]
def r5 : List AV := [.int .i64 0, .int .i64 0, .int .i64 22, .sym .i64 (.var 0), .sym .i64 (.var 0), .int .i64 0, .sym .i64 s3]
def r6 : List AV := [.int .i64 0, .int .i64 0, .int .i64 22, .sym .i64 (.var 0), .sym .i64 (.var 0), .int .i64 0, .sym .i64 s129]
def r7 : List AV := [.int .i64 0, .int .i64 0, .int .i64 22, .sym .i64 (.var 0), .sym .i64 (.var 0), .int .i64 0, .sym .i64 s6]
def r8 : List AV := [.int .i64 0, .int .i64 0, .int .i64 22, .sym .i64 (.var 0), .sym .i64 (.var 0), .int .i64 0, .sym .i64 s134]
def r9 : List AV := [.int .i64 0, .int .i64 0, .int .i64 31, .sym .i64 (.var 0), .sym .i64 (.var 0), .int .i64 0, .sym .i64 s9]
def r10 : List AV := [.int .i64 0, .int .i64 0, .int .i64 31, .sym .i64 (.var 0), .sym .i64 (.var 0), .int .i64 0, .sym .i64 s139]
def r11 : List AV := [.int .i64 0, .int .i64 0, .int .i64 1, .sym .i64 (.var 0), .int .i64 0, .int .i64 0, .sym .i64 s14]
def r12 : List AV := [.int .i64 0, .int .i64 0, .int .i64 31, .sym .i64 (.var 0), .sym .i64 (.var 0), .int .i64 0, .sym .i64 s12]
def r13 : List AV := [.int .i64 0, .int .i64 0, .int .i64 1, .sym .i64 (.var 0), .int .i64 0, .int .i64 0, .sym .i64 s144]
def r14 : List AV := [.int .i64 0, .int .i64 0, .int .i64 31, .sym .i64 (.var 0), .sym .i64 (.var 0), .int .i64 0, .sym .i64 s142]
def r15 : List AV := [.int .i64 0, .int .i64 0, .int .i64 1, .sym .i64 (.var 0), .int .i64 0, .int .i64 0, .sym .i64 s8]
def r16 : List AV := [.int .i64 0, .int .i64 0, .int .i64 1, .sym .i64 (.var 0), .int .i64 0, .int .i64 0, .sym .i64 s136]
def r17 : List AV := [.int .i64 0, .int .i64 0, .int .i64 31, .sym .i64 (.var 0), .sym .i64 (.var 0), .int .i64 0, .sym .i64 s6]
def r18 : List AV := [.int .i64 0, .int .i64 0, .int .i64 31, .sym .i64 (.var 0), .sym .i64 (.var 0), .int .i64 0, .sym .i64 s134]
def r19 : List AV := [.int .i64 0, .int .i64 0, .int .i64 1, .sym .i64 (.var 0), .int .i64 0, .int .i64 0, .sym .i64 s20]
def r20 : List AV := [.int .i64 0, .int .i64 0, .int .i64 22, .sym .i64 (.var 0), .sym .i64 (.var 0), .int .i64 0, .sym .i64 s15]
def r21 : List AV := [.int .i64 0, .int .i64 0, .int .i64 1, .sym .i64 (.var 0), .int .i64 0, .int .i64 0, .sym .i64 s152]
def r22 : List AV := [.int .i64 0, .int .i64 0, .int .i64 22, .sym .i64 (.var 0), .sym .i64 (.var 0), .int .i64 0, .sym .i64 s145]
def r23 : List AV := [.int .i64 0, .int .i64 0, .int .i64 31, .sym .i64 (.var 0), .sym .i64 (.var 0), .int .i64 0, .sym .i64 s18]
def r24 : List AV := [.int .i64 0, .int .i64 0, .int .i64 31, .sym .i64 (.var 0), .sym .i64 (.var 0), .int .i64 0, .sym .i64 s150]
def r25 : List AV := [.int .i64 0, .int .i64 0, .int .i64 1, .sym .i64 (.var 0), .int .i64 0, .int .i64 0, .sym .i64 s23]
def r26 : List AV := [.int .i64 0, .int .i64 0, .int .i64 31, .sym .i64 (.var 0), .sym .i64 (.var 0), .int .i64 0, .sym .i64 s21]
def r27 : List AV := [.int .i64 0, .int .i64 0, .int .i64 1, .sym .i64 (.var 0), .int .i64 0, .int .i64 0, .sym .i64 s155]
def r28 : List AV := [.int .i64 0, .int .i64 0, .int .i64 31, .sym .i64 (.var 0), .sym .i64 (.var 0), .int .i64 0, .sym .i64 s153]
def r29 : List AV := [.int .i64 0, .int .i64 0, .int .i64 1, .sym .i64 (.var 0), .int .i64 0, .int .i64 0, .sym .i64 s17]
def r30 : List AV := [.int .i64 0, .int .i64 0, .int .i64 31, .sym .i64 (.var 0), .sym .i64 (.var 0), .int .i64 0, .sym .i64 s15]
def r31 : List AV := [.int .i64 0, .int .i64 0, .int .i64 1, .sym .i64 (.var 0), .int .i64 0, .int .i64 0, .sym .i64 s147]
def r32 : List AV := [.int .i64 0, .int .i64 0, .int .i64 31, .sym .i64 (.var 0), .sym .i64 (.var 0), .int .i64 0, .sym .i64 s145]
def r33 : List AV := [.int .i64 0, .int .i64 0, .int .i64 1, .sym .i64 (.var 0), .int .i64 0, .int .i64 0, .sym .i64 s5]
def r34 : List AV := [.int .i64 0, .int .i64 0, .int .i64 1, .sym .i64 (.var 0), .int .i64 0, .int .i64 0, .sym .i64 s131]
def r35 : List AV := [.int .i64 0, .int .i64 0, .int .i64 31, .sym .i64 (.var 0), .sym .i64 (.var 0), .int .i64 0, .sym .i64 s3]
def r36 : List AV := [.int .i64 0, .int .i64 0, .int .i64 31, .sym .i64 (.var 0), .sym .i64 (.var 0), .int .i64 0, .sym .i64 s129]
def r37 : List AV := [.int .i64 0, .int .i64 0, .int .i64 1, .sym .i64 (.var 0), .int .i64 0, .int .i64 0, .sym .i64 s32]
def r38 : List AV := [.int .i64 0, .int .i64 0, .int .i64 22, .sym .i64 (.var 0), .sym .i64 (.var 0), .int .i64 0, .sym .i64 s24]
def r39 : List AV := [.int .i64 0, .int .i64 0, .int .i64 1, .sym .i64 (.var 0), .int .i64 0, .int .i64 0, .sym .i64 s168]
def r40 : List AV := [.int .i64 0, .int .i64 0, .int .i64 22, .sym .i64 (.var 0), .sym .i64 (.var 0), .int .i64 0, .sym .i64 s156]
def r41 : List AV := [.int .i64 0, .int .i64 0, .int .i64 22, .sym .i64 (.var 0), .sym .i64 (.var 0), .int .i64 0, .sym .i64 s27]
def r42 : List AV := [.int .i64 0, .int .i64 0, .int .i64 22, .sym .i64 (.var 0), .sym .i64 (.var 0), .int .i64 0, .sym .i64 s161]
def r43 : List AV := [.int .i64 0, .int .i64 0, .int .i64 31, .sym .i64 (.var 0), .sym .i64 (.var 0), .int .i64 0, .sym .i64 s30]
def r44 : List AV := [.int .i64 0, .int .i64 0, .int .i64 31, .sym .i64 (.var 0), .sym .i64 (.var 0), .int .i64 0, .sym .i64 s166]
def r45 : List AV := [.int .i64 0, .int .i64 0, .int .i64 1, .sym .i64 (.var 0), .int .i64 0, .int .i64 0, .sym .i64 s35]
def r46 : List AV := [.int .i64 0, .int .i64 0, .int .i64 31, .sym .i64 (.var 0), .sym .i64 (.var 0), .int .i64 0, .sym .i64 s33]
def r47 : List AV := [.int .i64 0, .int .i64 0, .int .i64 1, .sym .i64 (.var 0), .int .i64 0, .int .i64 0, .sym .i64 s171]
def r48 : List AV := [.int .i64 0, .int .i64 0, .int .i64 31, .sym .i64 (.var 0), .sym .i64 (.var 0), .int .i64 0, .sym .i64 s169]
def r49 : List AV := [.int .i64 0, .int .i64 0, .int .i64 1, .sym .i64 (.var 0), .int .i64 0, .int .i64 0, .sym .i64 s29]
def r50 : List AV := [.int .i64 0, .int .i64 0, .int .i64 1, .sym .i64 (.var 0), .int .i64 0, .int .i64 0, .sym .i64 s163]
def r51 : List AV := [.int .i64 0, .int .i64 0, .int .i64 31, .sym .i64 (.var 0), .sym .i64 (.var 0), .int .i64 0, .sym .i64 s27]
def r52 : List AV := [.int .i64 0, .int .i64 0, .int .i64 31, .sym .i64 (.var 0), .sym .i64 (.var 0), .int .i64 0, .sym .i64 s161]
def r53 : List AV := [.int .i64 0, .int .i64 0, .int .i64 1, .sym .i64 (.var 0), .int .i64 0, .int .i64 0, .sym .i64 s41]
def r54 : List AV := [.int .i64 0, .int .i64 0, .int .i64 22, .sym .i64 (.var 0), .sym .i64 (.var 0), .int .i64 0, .sym .i64 s36]
def r55 : List AV := [.int .i64 0, .int .i64 0, .int .i64 1, .sym .i64 (.var 0), .int .i64 0, .int .i64 0, .sym .i64 s179]
def r56 : List AV := [.int .i64 0, .int .i64 0, .int .i64 22, .sym .i64 (.var 0), .sym .i64 (.var 0), .int .i64 0, .sym .i64 s172]
def r57 : List AV := [.int .i64 0, .int .i64 0, .int .i64 31, .sym .i64 (.var 0), .sym .i64 (.var 0), .int .i64 0, .sym .i64 s39]
def r58 : List AV := [.int .i64 0, .int .i64 0, .int .i64 31, .sym .i64 (.var 0), .sym .i64 (.var 0), .int .i64 0, .sym .i64 s177]
def r59 : List AV := [.int .i64 0, .int .i64 0, .int .i64 1, .sym .i64 (.var 0), .int .i64 0, .int .i64 0, .sym .i64 s44]
def r60 : List AV := [.int .i64 0, .int .i64 0, .int .i64 31, .sym .i64 (.var 0), .sym .i64 (.var 0), .int .i64 0, .sym .i64 s42]
def r61 : List AV := [.int .i64 0, .int .i64 0, .int .i64 1, .sym .i64 (.var 0), .int .i64 0, .int .i64 0, .sym .i64 s182]
def r62 : List AV := [.int .i64 0, .int .i64 0, .int .i64 31, .sym .i64 (.var 0), .sym .i64 (.var 0), .int .i64 0, .sym .i64 s180]
def r63 : List AV := [.int .i64 0, .int .i64 0, .int .i64 1, .sym .i64 (.var 0), .int .i64 0, .int .i64 0, .sym .i64 s38]
def r64 : List AV := [.int .i64 0, .int .i64 0, .int .i64 31, .sym .i64 (.var 0), .sym .i64 (.var 0), .int .i64 0, .sym .i64 s36]
def r65 : List AV := [.int .i64 0, .int .i64 0, .int .i64 1, .sym .i64 (.var 0), .int .i64 0, .int .i64 0, .sym .i64 s174]
def r66 : List AV := [.int .i64 0, .int .i64 0, .int .i64 31, .sym .i64 (.var 0), .sym .i64 (.var 0), .int .i64 0, .sym .i64 s172]
def r67 : List AV := [.int .i64 0, .int .i64 0, .int .i64 1, .sym .i64 (.var 0), .int .i64 0, .int .i64 0, .sym .i64 s26]
def r68 : List AV := [.int .i64 0, .int .i64 0, .int .i64 31, .sym .i64 (.var 0), .sym .i64 (.var 0), .int .i64 0, .sym .i64 s24]
def r69 : List AV := [.int .i64 0, .int .i64 0, .int .i64 1, .sym .i64 (.var 0), .int .i64 0, .int .i64 0, .sym .i64 s158]
def r70 : List AV := [.int .i64 0, .int .i64 0, .int .i64 31, .sym .i64 (.var 0), .sym .i64 (.var 0), .int .i64 0, .sym .i64 s156]
def r71 : List AV := [.int .i64 0, .int .i64 0, .int .i64 1, .sym .i64 (.var 0), .int .i64 0, .int .i64 0, .sym .i64 s2]
def r72 : List AV := [.int .i64 0, .int .i64 0, .int .i64 1, .sym .i64 (.var 0), .int .i64 0, .int .i64 0, .sym .i64 s126]
def r73 : List AV := [.int .i64 0, .int .i64 0, .int .i64 31, .sym .i64 (.var 0), .sym .i64 (.var 0), .int .i64 0, .sym .i64 s0]
def r74 : List AV := [.int .i64 0, .int .i64 0, .int .i64 31, .sym .i64 (.var 0), .sym .i64 (.var 0), .int .i64 0, .sym .i64 s124]
def r75 : List AV := [.int .i64 0, .int .i64 0, .int .i64 1, .sym .i64 (.var 0), .int .i64 0, .int .i64 0, .sym .i64 s56]
def r76 : List AV := [.int .i64 0, .int .i64 0, .int .i64 22, .sym .i64 (.var 0), .sym .i64 (.var 0), .int .i64 0, .sym .i64 s45]
def r77 : List AV := [.int .i64 0, .int .i64 0, .int .i64 1, .sym .i64 (.var 0), .int .i64 0, .int .i64 0, .sym .i64 s200]
def r78 : List AV := [.int .i64 0, .int .i64 0, .int .i64 22, .sym .i64 (.var 0), .sym .i64 (.var 0), .int .i64 0, .sym .i64 s183]
def r79 : List AV := [.int .i64 0, .int .i64 0, .int .i64 22, .sym .i64 (.var 0), .sym .i64 (.var 0), .int .i64 0, .sym .i64 s48]
def r80 : List AV := [.int .i64 0, .int .i64 0, .int .i64 22, .sym .i64 (.var 0), .sym .i64 (.var 0), .int .i64 0, .sym .i64 s188]
def r81 : List AV := [.int .i64 0, .int .i64 0, .int .i64 22, .sym .i64 (.var 0), .sym .i64 (.var 0), .int .i64 0, .sym .i64 s51]
def r82 : List AV := [.int .i64 0, .int .i64 0, .int .i64 22, .sym .i64 (.var 0), .sym .i64 (.var 0), .int .i64 0, .sym .i64 s193]
def r83 : List AV := [.int .i64 0, .int .i64 0, .int .i64 31, .sym .i64 (.var 0), .sym .i64 (.var 0), .int .i64 0, .sym .i64 s54]
def r84 : List AV := [.int .i64 0, .int .i64 0, .int .i64 31, .sym .i64 (.var 0), .sym .i64 (.var 0), .int .i64 0, .sym .i64 s198]
def r85 : List AV := [.int .i64 0, .int .i64 0, .int .i64 1, .sym .i64 (.var 0), .int .i64 0, .int .i64 0, .sym .i64 s59]
def r86 : List AV := [.int .i64 0, .int .i64 0, .int .i64 31, .sym .i64 (.var 0), .sym .i64 (.var 0), .int .i64 0, .sym .i64 s57]
def r87 : List AV := [.int .i64 0, .int .i64 0, .int .i64 1, .sym .i64 (.var 0), .int .i64 0, .int .i64 0, .sym .i64 s203]
def r88 : List AV := [.int .i64 0, .int .i64 0, .int .i64 31, .sym .i64 (.var 0), .sym .i64 (.var 0), .int .i64 0, .sym .i64 s201]
def r89 : List AV := [.int .i64 0, .int .i64 0, .int .i64 1, .sym .i64 (.var 0), .int .i64 0, .int .i64 0, .sym .i64 s53]
def r90 : List AV := [.int .i64 0, .int .i64 0, .int .i64 1, .sym .i64 (.var 0), .int .i64 0, .int .i64 0, .sym .i64 s195]
def r91 : List AV := [.int .i64 0, .int .i64 0, .int .i64 31, .sym .i64 (.var 0), .sym .i64 (.var 0), .int .i64 0, .sym .i64 s51]
def r92 : List AV := [.int .i64 0, .int .i64 0, .int .i64 31, .sym .i64 (.var 0), .sym .i64 (.var 0), .int .i64 0, .sym .i64 s193]
def r93 : List AV := [.int .i64 0, .int .i64 0, .int .i64 1, .sym .i64 (.var 0), .int .i64 0, .int .i64 0, .sym .i64 s65]
def r94 : List AV := [.int .i64 0, .int .i64 0, .int .i64 22, .sym .i64 (.var 0), .sym .i64 (.var 0), .int .i64 0, .sym .i64 s60]
def r95 : List AV := [.int .i64 0, .int .i64 0, .int .i64 1, .sym .i64 (.var 0), .int .i64 0, .int .i64 0, .sym .i64 s211]
def r96 : List AV := [.int .i64 0, .int .i64 0, .int .i64 22, .sym .i64 (.var 0), .sym .i64 (.var 0), .int .i64 0, .sym .i64 s204]
def r97 : List AV := [.int .i64 0, .int .i64 0, .int .i64 31, .sym .i64 (.var 0), .sym .i64 (.var 0), .int .i64 0, .sym .i64 s63]
def r98 : List AV := [.int .i64 0, .int .i64 0, .int .i64 31, .sym .i64 (.var 0), .sym .i64 (.var 0), .int .i64 0, .sym .i64 s209]
def r99 : List AV := [.int .i64 0, .int .i64 0, .int .i64 1, .sym .i64 (.var 0), .int .i64 0, .int .i64 0, .sym .i64 s68]
def r100 : List AV := [.int .i64 0, .int .i64 0, .int .i64 31, .sym .i64 (.var 0), .sym .i64 (.var 0), .int .i64 0, .sym .i64 s66]
def r101 : List AV := [.int .i64 0, .int .i64 0, .int .i64 1, .sym .i64 (.var 0), .int .i64 0, .int .i64 0, .sym .i64 s214]
def r102 : List AV := [.int .i64 0, .int .i64 0, .int .i64 31, .sym .i64 (.var 0), .sym .i64 (.var 0), .int .i64 0, .sym .i64 s212]
def r103 : List AV := [.int .i64 0, .int .i64 0, .int .i64 1, .sym .i64 (.var 0), .int .i64 0, .int .i64 0, .sym .i64 s62]
def r104 : List AV := [.int .i64 0, .int .i64 0, .int .i64 31, .sym .i64 (.var 0), .sym .i64 (.var 0), .int .i64 0, .sym .i64 s60]
def r105 : List AV := [.int .i64 0, .int .i64 0, .int .i64 1, .sym .i64 (.var 0), .int .i64 0, .int .i64 0, .sym .i64 s206]
def r106 : List AV := [.int .i64 0, .int .i64 0, .int .i64 31, .sym .i64 (.var 0), .sym .i64 (.var 0), .int .i64 0, .sym .i64 s204]
def r107 : List AV := [.int .i64 0, .int .i64 0, .int .i64 1, .sym .i64 (.var 0), .int .i64 0, .int .i64 0, .sym .i64 s50]
def r108 : List AV := [.int .i64 0, .int .i64 0, .int .i64 1, .sym .i64 (.var 0), .int .i64 0, .int .i64 0, .sym .i64 s190]
def r109 : List AV := [.int .i64 0, .int .i64 0, .int .i64 31, .sym .i64 (.var 0), .sym .i64 (.var 0), .int .i64 0, .sym .i64 s48]
def r110 : List AV := [.int .i64 0, .int .i64 0, .int .i64 31, .sym .i64 (.var 0), .sym .i64 (.var 0), .int .i64 0, .sym .i64 s188]
def r111 : List AV := [.int .i64 0, .int .i64 0, .int .i64 1, .sym .i64 (.var 0), .int .i64 0, .int .i64 0, .sym .i64 s77]
def r112 : List AV := [.int .i64 0, .int .i64 0, .int .i64 22, .sym .i64 (.var 0), .sym .i64 (.var 0), .int .i64 0, .sym .i64 s69]
def r113 : List AV := [.int .i64 0, .int .i64 0, .int .i64 1, .sym .i64 (.var 0), .int .i64 0, .int .i64 0, .sym .i64 s227]
def r114 : List AV := [.int .i64 0, .int .i64 0, .int .i64 22, .sym .i64 (.var 0), .sym .i64 (.var 0), .int .i64 0, .sym .i64 s215]
def r115 : List AV := [.int .i64 0, .int .i64 0, .int .i64 22, .sym .i64 (.var 0), .sym .i64 (.var 0), .int .i64 0, .sym .i64 s72]
def r116 : List AV := [.int .i64 0, .int .i64 0, .int .i64 22, .sym .i64 (.var 0), .sym .i64 (.var 0), .int .i64 0, .sym .i64 s220]
def r117 : List AV := [.int .i64 0, .int .i64 0, .int .i64 31, .sym .i64 (.var 0), .sym .i64 (.var 0), .int .i64 0, .sym .i64 s75]
def r118 : List AV := [.int .i64 0, .int .i64 0, .int .i64 31, .sym .i64 (.var 0), .sym .i64 (.var 0), .int .i64 0, .sym .i64 s225]
def r119 : List AV := [.int .i64 0, .int .i64 0, .int .i64 1, .sym .i64 (.var 0), .int .i64 0, .int .i64 0, .sym .i64 s80]
def r120 : List AV := [.int .i64 0, .int .i64 0, .int .i64 31, .sym .i64 (.var 0), .sym .i64 (.var 0), .int .i64 0, .sym .i64 s78]
def r121 : List AV := [.int .i64 0, .int .i64 0, .int .i64 1, .sym .i64 (.var 0), .int .i64 0, .int .i64 0, .sym .i64 s230]
def r122 : List AV := [.int .i64 0, .int .i64 0, .int .i64 31, .sym .i64 (.var 0), .sym .i64 (.var 0), .int .i64 0, .sym .i64 s228]
def r123 : List AV := [.int .i64 0, .int .i64 0, .int .i64 1, .sym .i64 (.var 0), .int .i64 0, .int .i64 0, .sym .i64 s74]
def r124 : List AV := [.int .i64 0, .int .i64 0, .int .i64 1, .sym .i64 (.var 0), .int .i64 0, .int .i64 0, .sym .i64 s222]
def r125 : List AV := [.int .i64 0, .int .i64 0, .int .i64 31, .sym .i64 (.var 0), .sym .i64 (.var 0), .int .i64 0, .sym .i64 s72]
def r126 : List AV := [.int .i64 0, .int .i64 0, .int .i64 31, .sym .i64 (.var 0), .sym .i64 (.var 0), .int .i64 0, .sym .i64 s220]
def r127 : List AV := [.int .i64 0, .int .i64 0, .int .i64 1, .sym .i64 (.var 0), .int .i64 0, .int .i64 0, .sym .i64 s86]
def r128 : List AV := [.int .i64 0, .int .i64 0, .int .i64 22, .sym .i64 (.var 0), .sym .i64 (.var 0), .int .i64 0, .sym .i64 s81]
def r129 : List AV := [.int .i64 0, .int .i64 0, .int .i64 1, .sym .i64 (.var 0), .int .i64 0, .int .i64 0, .sym .i64 s238]
def r130 : List AV := [.int .i64 0, .int .i64 0, .int .i64 22, .sym .i64 (.var 0), .sym .i64 (.var 0), .int .i64 0, .sym .i64 s231]
def r131 : List AV := [.int .i64 0, .int .i64 0, .int .i64 31, .sym .i64 (.var 0), .sym .i64 (.var 0), .int .i64 0, .sym .i64 s84]
def r132 : List AV := [.int .i64 0, .int .i64 0, .int .i64 31, .sym .i64 (.var 0), .sym .i64 (.var 0), .int .i64 0, .sym .i64 s236]
def r133 : List AV := [.int .i64 0, .int .i64 0, .int .i64 1, .sym .i64 (.var 0), .int .i64 0, .int .i64 0, .sym .i64 s89]
def r134 : List AV := [.int .i64 0, .int .i64 0, .int .i64 31, .sym .i64 (.var 0), .sym .i64 (.var 0), .int .i64 0, .sym .i64 s87]
def r135 : List AV := [.int .i64 0, .int .i64 0, .int .i64 1, .sym .i64 (.var 0), .int .i64 0, .int .i64 0, .sym .i64 s241]
def r136 : List AV := [.int .i64 0, .int .i64 0, .int .i64 31, .sym .i64 (.var 0), .sym .i64 (.var 0), .int .i64 0, .sym .i64 s239]
def r137 : List AV := [.int .i64 0, .int .i64 0, .int .i64 1, .sym .i64 (.var 0), .int .i64 0, .int .i64 0, .sym .i64 s83]
def r138 : List AV := [.int .i64 0, .int .i64 0, .int .i64 31, .sym .i64 (.var 0), .sym .i64 (.var 0), .int .i64 0, .sym .i64 s81]
def r139 : List AV := [.int .i64 0, .int .i64 0, .int .i64 1, .sym .i64 (.var 0), .int .i64 0, .int .i64 0, .sym .i64 s233]
def r140 : List AV := [.int .i64 0, .int .i64 0, .int .i64 31, .sym .i64 (.var 0), .sym .i64 (.var 0), .int .i64 0, .sym .i64 s231]
def r141 : List AV := [.int .i64 0, .int .i64 0, .int .i64 1, .sym .i64 (.var 0), .int .i64 0, .int .i64 0, .sym .i64 s71]
def r142 : List AV := [.int .i64 0, .int .i64 0, .int .i64 31, .sym .i64 (.var 0), .sym .i64 (.var 0), .int .i64 0, .sym .i64 s69]
def r143 : List AV := [.int .i64 0, .int .i64 0, .int .i64 1, .sym .i64 (.var 0), .int .i64 0, .int .i64 0, .sym .i64 s217]
def r144 : List AV := [.int .i64 0, .int .i64 0, .int .i64 31, .sym .i64 (.var 0), .sym .i64 (.var 0), .int .i64 0, .sym .i64 s215]
def r145 : List AV := [.int .i64 0, .int .i64 0, .int .i64 1, .sym .i64 (.var 0), .int .i64 0, .int .i64 0, .sym .i64 s47]
def r146 : List AV := [.int .i64 0, .int .i64 0, .int .i64 31, .sym .i64 (.var 0), .sym .i64 (.var 0), .int .i64 0, .sym .i64 s45]
def r147 : List AV := [.int .i64 0, .int .i64 0, .int .i64 1, .sym .i64 (.var 0), .int .i64 0, .int .i64 0, .sym .i64 s185]
def r148 : List AV := [.int .i64 0, .int .i64 0, .int .i64 31, .sym .i64 (.var 0), .sym .i64 (.var 0), .int .i64 0, .sym .i64 s183]
def r149 : List AV := [.int .i64 0, .int .i64 0, .int .i64 22, .sym .i64 (.var 0), .int .i64 0, .int .i64 0, .sym .i64 (.var 1)]
def r150 : List AV := [.int .i64 0, .int .i64 0, .int .i64 1, .sym .i64 (.var 0), .int .i64 0, .int .i64 0, .int .i64 (-524288)]
def r151 : List AV := [.int .i64 0, .int .i64 0, .int .i64 1, .int .i64 5, .int .i64 0, .int .i64 0, .sym .i64 s112]
def r152 : List AV := [.int .i64 0, .int .i64 0, .int .i64 4, .int .i64 0, .int .i64 5, .int .i64 0, .sym .i64 s99]
def r153 : List AV := [.int .i64 0, .int .i64 0, .int .i64 1, .int .i64 5, .int .i64 0, .int .i64 0, .sym .i64 s115]
def r154 : List AV := [.int .i64 0, .int .i64 0, .int .i64 4, .int .i64 0, .int .i64 5, .int .i64 0, .sym .i64 s109]
def r155 : List AV := [.int .i64 0, .int .i64 0, .int .i64 1, .int .i64 5, .int .i64 0, .int .i64 0, .sym .i64 s118]
def r156 : List AV := [.int .i64 0, .int .i64 0, .int .i64 4, .int .i64 0, .int .i64 5, .int .i64 0, .sym .i64 s116]
def r157 : List AV := [.int .i64 0, .int .i64 0, .int .i64 1, .int .i64 5, .int .i64 0, .int .i64 0, .sym .i64 s121]
def r158 : List AV := [.int .i64 0, .int .i64 0, .int .i64 4, .int .i64 0, .int .i64 5, .int .i64 0, .sym .i64 s119]
end Go.Proofs.Ytfifebennpenkaa
