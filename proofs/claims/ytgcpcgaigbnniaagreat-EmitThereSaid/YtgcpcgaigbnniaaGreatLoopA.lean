/-
  A part of the law's proof over the abstract evaluator. Conditions: those of each theorem, as it states them.
-/
import Derived.Test.YtgcpcgaigbnniaaGreatLayC
set_option linter.all false
/-! The loop, register by register. -/
set_option linter.all false
set_option maxRecDepth 1000000
namespace Go.Proofs.YtgcpcgaigbnniaaGreat
open Go.Tw
noncomputable section
theorem m2_0 : mAll R0 0 (re 1026) (envL TB) (toldSt b0 OB 1027) (TBk 0) (OBk 0) 1027 = some (mkE2 0) := by kernel_rfl
theorem x2_0 : runHB R0 0 0 (run [] [] 129 (Code.l rest) (TBk 0) (OBk 0) 1027) .normal re2 T3 OM 1026 eT3 = true := by kernel_rfl
theorem m2_4 : mAll R0 0 (re 1026) (envL TB) (toldSt b0 OB 1027) (TBk 4) (OBk 4) 1027 = some (mkE2 4) := by kernel_rfl
theorem x2_4 : runHB R0 0 0 (run [] [] 129 (Code.l rest) (TBk 4) (OBk 4) 1027) .normal re2 T3 OM 1026 eT3 = true := by kernel_rfl
theorem m2_8 : mAll R0 0 (re 1026) (envL TB) (toldSt b0 OB 1027) (TBk 8) (OBk 8) 1027 = some (mkE2 8) := by kernel_rfl
theorem x2_8 : runHB R0 0 0 (run [] [] 129 (Code.l rest) (TBk 8) (OBk 8) 1027) .normal re2 T3 OM 1026 eT3 = true := by kernel_rfl
theorem m2_12 : mAll R0 0 (re 1026) (envL TB) (toldSt b0 OB 1027) (TBk 12) (OBk 12) 1027 = some (mkE2 12) := by kernel_rfl
theorem x2_12 : runHB R0 0 0 (run [] [] 129 (Code.l rest) (TBk 12) (OBk 12) 1027) .normal re2 T3 OM 1026 eT3 = true := by kernel_rfl
theorem m2_16 : mAll R0 0 (re 1026) (envL TB) (toldSt b0 OB 1027) (TBk 16) (OBk 16) 1027 = some (mkE2 16) := by kernel_rfl
theorem x2_16 : runHB R0 0 0 (run [] [] 129 (Code.l rest) (TBk 16) (OBk 16) 1027) .normal re2 T3 OM 1026 eT3 = true := by kernel_rfl
theorem m2_20 : mAll R0 0 (re 1026) (envL TB) (toldSt b0 OB 1027) (TBk 20) (OBk 20) 1027 = some (mkE2 20) := by kernel_rfl
theorem x2_20 : runHB R0 0 0 (run [] [] 129 (Code.l rest) (TBk 20) (OBk 20) 1027) .normal re2 T3 OM 1026 eT3 = true := by kernel_rfl
theorem m2_24 : mAll R0 0 (re 1026) (envL TB) (toldSt b0 OB 1027) (TBk 24) (OBk 24) 1027 = some (mkE2 24) := by kernel_rfl
theorem x2_24 : runHB R0 0 0 (run [] [] 129 (Code.l rest) (TBk 24) (OBk 24) 1027) .normal re2 T3 OM 1026 eT3 = true := by kernel_rfl
theorem m2_28 : mAll R0 0 (re 1026) (envL TB) (toldSt b0 OB 1027) (TBk 28) (OBk 28) 1027 = some (mkE2 28) := by kernel_rfl
theorem x2_28 : runHB R0 0 0 (run [] [] 129 (Code.l rest) (TBk 28) (OBk 28) 1027) .normal re2 T3 OM 1026 eT3 = true := by kernel_rfl
end
end Go.Proofs.YtgcpcgaigbnniaaGreat
/-! The loop, register by register. -/
set_option linter.all false
set_option maxRecDepth 1000000
namespace Go.Proofs.YtgcpcgaigbnniaaGreat
open Go.Tw
noncomputable section
theorem m2_1 : mAll R0 0 (re 1026) (envL TB) (toldSt b0 OB 1027) (TBk 1) (OBk 1) 1027 = some (mkE2 1) := by kernel_rfl
theorem x2_1 : runHB R0 0 0 (run [] [] 129 (Code.l rest) (TBk 1) (OBk 1) 1027) .normal re2 T3 OM 1026 eT3 = true := by kernel_rfl
theorem m2_5 : mAll R0 0 (re 1026) (envL TB) (toldSt b0 OB 1027) (TBk 5) (OBk 5) 1027 = some (mkE2 5) := by kernel_rfl
theorem x2_5 : runHB R0 0 0 (run [] [] 129 (Code.l rest) (TBk 5) (OBk 5) 1027) .normal re2 T3 OM 1026 eT3 = true := by kernel_rfl
theorem m2_9 : mAll R0 0 (re 1026) (envL TB) (toldSt b0 OB 1027) (TBk 9) (OBk 9) 1027 = some (mkE2 9) := by kernel_rfl
theorem x2_9 : runHB R0 0 0 (run [] [] 129 (Code.l rest) (TBk 9) (OBk 9) 1027) .normal re2 T3 OM 1026 eT3 = true := by kernel_rfl
theorem m2_13 : mAll R0 0 (re 1026) (envL TB) (toldSt b0 OB 1027) (TBk 13) (OBk 13) 1027 = some (mkE2 13) := by kernel_rfl
theorem x2_13 : runHB R0 0 0 (run [] [] 129 (Code.l rest) (TBk 13) (OBk 13) 1027) .normal re2 T3 OM 1026 eT3 = true := by kernel_rfl
theorem m2_17 : mAll R0 0 (re 1026) (envL TB) (toldSt b0 OB 1027) (TBk 17) (OBk 17) 1027 = some (mkE2 17) := by kernel_rfl
theorem x2_17 : runHB R0 0 0 (run [] [] 129 (Code.l rest) (TBk 17) (OBk 17) 1027) .normal re2 T3 OM 1026 eT3 = true := by kernel_rfl
theorem m2_21 : mAll R0 0 (re 1026) (envL TB) (toldSt b0 OB 1027) (TBk 21) (OBk 21) 1027 = some (mkE2 21) := by kernel_rfl
theorem x2_21 : runHB R0 0 0 (run [] [] 129 (Code.l rest) (TBk 21) (OBk 21) 1027) .normal re2 T3 OM 1026 eT3 = true := by kernel_rfl
theorem m2_25 : mAll R0 0 (re 1026) (envL TB) (toldSt b0 OB 1027) (TBk 25) (OBk 25) 1027 = some (mkE2 25) := by kernel_rfl
theorem x2_25 : runHB R0 0 0 (run [] [] 129 (Code.l rest) (TBk 25) (OBk 25) 1027) .normal re2 T3 OM 1026 eT3 = true := by kernel_rfl
theorem m2_29 : mAll R0 0 (re 1026) (envL TB) (toldSt b0 OB 1027) (TBk 29) (OBk 29) 1027 = some (mkE2 29) := by kernel_rfl
theorem x2_29 : runHB R0 0 0 (run [] [] 129 (Code.l rest) (TBk 29) (OBk 29) 1027) .normal re2 T3 OM 1026 eT3 = true := by kernel_rfl
end
end Go.Proofs.YtgcpcgaigbnniaaGreat
