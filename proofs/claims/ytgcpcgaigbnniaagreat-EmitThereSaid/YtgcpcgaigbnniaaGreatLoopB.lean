/-
  A part of the law's proof over the abstract evaluator. Conditions: those of each theorem, as it states them.
-/
import Derived.Test.YtgcpcgaigbnniaaGreatLayC
set_option linter.all false
/-! The loop, register by register. -/
set_option linter.all false
set_option maxRecDepth 1000000
namespace Go.Proofs.YtgcpcgaigbnniaaGreat
open Go.Tw
noncomputable section
theorem m2_2 : mAll R0 0 (re 1026) (envL TB) (toldSt b0 OB 1027) (TBk 2) (OBk 2) 1027 = some (mkE2 2) := by kernel_rfl
theorem x2_2 : runHB R0 0 0 (run [] [] 129 (Code.l rest) (TBk 2) (OBk 2) 1027) .normal re2 T3 OM 1026 eT3 = true := by kernel_rfl
theorem m2_6 : mAll R0 0 (re 1026) (envL TB) (toldSt b0 OB 1027) (TBk 6) (OBk 6) 1027 = some (mkE2 6) := by kernel_rfl
theorem x2_6 : runHB R0 0 0 (run [] [] 129 (Code.l rest) (TBk 6) (OBk 6) 1027) .normal re2 T3 OM 1026 eT3 = true := by kernel_rfl
theorem m2_10 : mAll R0 0 (re 1026) (envL TB) (toldSt b0 OB 1027) (TBk 10) (OBk 10) 1027 = some (mkE2 10) := by kernel_rfl
theorem x2_10 : runHB R0 0 0 (run [] [] 129 (Code.l rest) (TBk 10) (OBk 10) 1027) .normal re2 T3 OM 1026 eT3 = true := by kernel_rfl
theorem m2_14 : mAll R0 0 (re 1026) (envL TB) (toldSt b0 OB 1027) (TBk 14) (OBk 14) 1027 = some (mkE2 14) := by kernel_rfl
theorem x2_14 : runHB R0 0 0 (run [] [] 129 (Code.l rest) (TBk 14) (OBk 14) 1027) .normal re2 T3 OM 1026 eT3 = true := by kernel_rfl
theorem m2_18 : mAll R0 0 (re 1026) (envL TB) (toldSt b0 OB 1027) (TBk 18) (OBk 18) 1027 = some (mkE2 18) := by kernel_rfl
theorem x2_18 : runHB R0 0 0 (run [] [] 129 (Code.l rest) (TBk 18) (OBk 18) 1027) .normal re2 T3 OM 1026 eT3 = true := by kernel_rfl
theorem m2_22 : mAll R0 0 (re 1026) (envL TB) (toldSt b0 OB 1027) (TBk 22) (OBk 22) 1027 = some (mkE2 22) := by kernel_rfl
theorem x2_22 : runHB R0 0 0 (run [] [] 129 (Code.l rest) (TBk 22) (OBk 22) 1027) .normal re2 T3 OM 1026 eT3 = true := by kernel_rfl
theorem m2_26 : mAll R0 0 (re 1026) (envL TB) (toldSt b0 OB 1027) (TBk 26) (OBk 26) 1027 = some (mkE2 26) := by kernel_rfl
theorem x2_26 : runHB R0 0 0 (run [] [] 129 (Code.l rest) (TBk 26) (OBk 26) 1027) .normal re2 T3 OM 1026 eT3 = true := by kernel_rfl
theorem m2_30 : mAll R0 0 (re 1026) (envL TB) (toldSt b0 OB 1027) (TBk 30) (OBk 30) 1027 = some (mkE2 30) := by kernel_rfl
theorem x2_30 : runHB R0 0 0 (run [] [] 129 (Code.l rest) (TBk 30) (OBk 30) 1027) .normal re2 T3 OM 1026 eT3 = true := by kernel_rfl
end
end Go.Proofs.YtgcpcgaigbnniaaGreat
/-! The loop, register by register. -/
set_option linter.all false
set_option maxRecDepth 1000000
namespace Go.Proofs.YtgcpcgaigbnniaaGreat
open Go.Tw
noncomputable section
theorem m2_3 : mAll R0 0 (re 1026) (envL TB) (toldSt b0 OB 1027) (TBk 3) (OBk 3) 1027 = some (mkE2 3) := by kernel_rfl
theorem x2_3 : runHB R0 0 0 (run [] [] 129 (Code.l rest) (TBk 3) (OBk 3) 1027) .normal re2 T3 OM 1026 eT3 = true := by kernel_rfl
theorem m2_7 : mAll R0 0 (re 1026) (envL TB) (toldSt b0 OB 1027) (TBk 7) (OBk 7) 1027 = some (mkE2 7) := by kernel_rfl
theorem x2_7 : runHB R0 0 0 (run [] [] 129 (Code.l rest) (TBk 7) (OBk 7) 1027) .normal re2 T3 OM 1026 eT3 = true := by kernel_rfl
theorem m2_11 : mAll R0 0 (re 1026) (envL TB) (toldSt b0 OB 1027) (TBk 11) (OBk 11) 1027 = some (mkE2 11) := by kernel_rfl
theorem x2_11 : runHB R0 0 0 (run [] [] 129 (Code.l rest) (TBk 11) (OBk 11) 1027) .normal re2 T3 OM 1026 eT3 = true := by kernel_rfl
theorem m2_15 : mAll R0 0 (re 1026) (envL TB) (toldSt b0 OB 1027) (TBk 15) (OBk 15) 1027 = some (mkE2 15) := by kernel_rfl
theorem x2_15 : runHB R0 0 0 (run [] [] 129 (Code.l rest) (TBk 15) (OBk 15) 1027) .normal re2 T3 OM 1026 eT3 = true := by kernel_rfl
theorem m2_19 : mAll R0 0 (re 1026) (envL TB) (toldSt b0 OB 1027) (TBk 19) (OBk 19) 1027 = some (mkE2 19) := by kernel_rfl
theorem x2_19 : runHB R0 0 0 (run [] [] 129 (Code.l rest) (TBk 19) (OBk 19) 1027) .normal re2 T3 OM 1026 eT3 = true := by kernel_rfl
theorem m2_23 : mAll R0 0 (re 1026) (envL TB) (toldSt b0 OB 1027) (TBk 23) (OBk 23) 1027 = some (mkE2 23) := by kernel_rfl
theorem x2_23 : runHB R0 0 0 (run [] [] 129 (Code.l rest) (TBk 23) (OBk 23) 1027) .normal re2 T3 OM 1026 eT3 = true := by kernel_rfl
theorem m2_27 : mAll R0 0 (re 1026) (envL TB) (toldSt b0 OB 1027) (TBk 27) (OBk 27) 1027 = some (mkE2 27) := by kernel_rfl
theorem x2_27 : runHB R0 0 0 (run [] [] 129 (Code.l rest) (TBk 27) (OBk 27) 1027) .normal re2 T3 OM 1026 eT3 = true := by kernel_rfl
end
end Go.Proofs.YtgcpcgaigbnniaaGreat
