/-
  Runs of the sign's length along each path, function 10, texts of 0 and 1 bytes (3: or more). No condition.
-/
import Derived.Test.YtnkpdmdifepaaaaGreatDoorLexP
namespace Go.Proofs.YtnkpdmdifepaaaaGreatDoor
open Go.Tw
set_option maxRecDepth 1000000 in
theorem sign10_0_0 : ((List.range' 0 4).all (signOk 10 0)) = true := by kernel_rfl
set_option maxRecDepth 1000000 in
theorem sign10_0_4 : ((List.range' 4 4).all (signOk 10 0)) = true := by kernel_rfl
set_option maxRecDepth 1000000 in
theorem sign10_0_8 : ((List.range' 8 4).all (signOk 10 0)) = true := by kernel_rfl
set_option maxRecDepth 1000000 in
theorem sign10_0_12 : ((List.range' 12 4).all (signOk 10 0)) = true := by kernel_rfl
set_option maxRecDepth 1000000 in
theorem sign10_0_16 : ((List.range' 16 4).all (signOk 10 0)) = true := by kernel_rfl
set_option maxRecDepth 1000000 in
theorem sign10_0_20 : ((List.range' 20 4).all (signOk 10 0)) = true := by kernel_rfl
set_option maxRecDepth 1000000 in
theorem sign10_0_24 : ((List.range' 24 4).all (signOk 10 0)) = true := by kernel_rfl
set_option maxRecDepth 1000000 in
theorem sign10_0_28 : ((List.range' 28 4).all (signOk 10 0)) = true := by kernel_rfl
set_option maxRecDepth 1000000 in
theorem sign10_0_32 : ((List.range' 32 4).all (signOk 10 0)) = true := by kernel_rfl
set_option maxRecDepth 1000000 in
theorem sign10_0_36 : ((List.range' 36 4).all (signOk 10 0)) = true := by kernel_rfl
set_option maxRecDepth 1000000 in
theorem sign10_0_40 : ((List.range' 40 4).all (signOk 10 0)) = true := by kernel_rfl
set_option maxRecDepth 1000000 in
theorem sign10_0_44 : ((List.range' 44 2).all (signOk 10 0)) = true := by kernel_rfl
set_option maxRecDepth 1000000 in
theorem sign10_1_0 : ((List.range' 0 4).all (signOk 10 1)) = true := by kernel_rfl
set_option maxRecDepth 1000000 in
theorem sign10_1_4 : ((List.range' 4 4).all (signOk 10 1)) = true := by kernel_rfl
set_option maxRecDepth 1000000 in
theorem sign10_1_8 : ((List.range' 8 4).all (signOk 10 1)) = true := by kernel_rfl
set_option maxRecDepth 1000000 in
theorem sign10_1_12 : ((List.range' 12 4).all (signOk 10 1)) = true := by kernel_rfl
set_option maxRecDepth 1000000 in
theorem sign10_1_16 : ((List.range' 16 4).all (signOk 10 1)) = true := by kernel_rfl
set_option maxRecDepth 1000000 in
theorem sign10_1_20 : ((List.range' 20 4).all (signOk 10 1)) = true := by kernel_rfl
set_option maxRecDepth 1000000 in
theorem sign10_1_24 : ((List.range' 24 4).all (signOk 10 1)) = true := by kernel_rfl
set_option maxRecDepth 1000000 in
theorem sign10_1_28 : ((List.range' 28 4).all (signOk 10 1)) = true := by kernel_rfl
set_option maxRecDepth 1000000 in
theorem sign10_1_32 : ((List.range' 32 4).all (signOk 10 1)) = true := by kernel_rfl
set_option maxRecDepth 1000000 in
theorem sign10_1_36 : ((List.range' 36 4).all (signOk 10 1)) = true := by kernel_rfl
set_option maxRecDepth 1000000 in
theorem sign10_1_40 : ((List.range' 40 4).all (signOk 10 1)) = true := by kernel_rfl
set_option maxRecDepth 1000000 in
theorem sign10_1_44 : ((List.range' 44 2).all (signOk 10 1)) = true := by kernel_rfl
end Go.Proofs.YtnkpdmdifepaaaaGreatDoor
