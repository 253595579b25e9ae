/-
  Runs of the sign's length along each path, function 10, texts of 3 bytes (3: or more). No condition.
-/
import Derived.Test.YtnkpdmdifepaaaaGreatDoorLexP
namespace Go.Proofs.YtnkpdmdifepaaaaGreatDoor
open Go.Tw
set_option maxRecDepth 1000000 in
theorem sign10_3_0 : ((List.range' 0 4).all (signOk 10 3)) = true := by kernel_rfl
set_option maxRecDepth 1000000 in
theorem sign10_3_4 : ((List.range' 4 4).all (signOk 10 3)) = true := by kernel_rfl
set_option maxRecDepth 1000000 in
theorem sign10_3_8 : ((List.range' 8 4).all (signOk 10 3)) = true := by kernel_rfl
set_option maxRecDepth 1000000 in
theorem sign10_3_12 : ((List.range' 12 4).all (signOk 10 3)) = true := by kernel_rfl
set_option maxRecDepth 1000000 in
theorem sign10_3_16 : ((List.range' 16 4).all (signOk 10 3)) = true := by kernel_rfl
set_option maxRecDepth 1000000 in
theorem sign10_3_20 : ((List.range' 20 4).all (signOk 10 3)) = true := by kernel_rfl
set_option maxRecDepth 1000000 in
theorem sign10_3_24 : ((List.range' 24 4).all (signOk 10 3)) = true := by kernel_rfl
set_option maxRecDepth 1000000 in
theorem sign10_3_28 : ((List.range' 28 4).all (signOk 10 3)) = true := by kernel_rfl
set_option maxRecDepth 1000000 in
theorem sign10_3_32 : ((List.range' 32 4).all (signOk 10 3)) = true := by kernel_rfl
set_option maxRecDepth 1000000 in
theorem sign10_3_36 : ((List.range' 36 4).all (signOk 10 3)) = true := by kernel_rfl
set_option maxRecDepth 1000000 in
theorem sign10_3_40 : ((List.range' 40 4).all (signOk 10 3)) = true := by kernel_rfl
set_option maxRecDepth 1000000 in
theorem sign10_3_44 : ((List.range' 44 2).all (signOk 10 3)) = true := by kernel_rfl
end Go.Proofs.YtnkpdmdifepaaaaGreatDoor
