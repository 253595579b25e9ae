/-
  Runs of the sign's length along each path, function 10, texts of 2 bytes (3: or more). No condition.
-/
import Derived.Test.YtnkpdmdifepaaaaGreatDoorLexP
namespace Go.Proofs.YtnkpdmdifepaaaaGreatDoor
open Go.Tw
set_option maxRecDepth 1000000 in
theorem sign10_2_0 : ((List.range' 0 4).all (signOk 10 2)) = true := by kernel_rfl
set_option maxRecDepth 1000000 in
theorem sign10_2_4 : ((List.range' 4 4).all (signOk 10 2)) = true := by kernel_rfl
set_option maxRecDepth 1000000 in
theorem sign10_2_8 : ((List.range' 8 4).all (signOk 10 2)) = true := by kernel_rfl
set_option maxRecDepth 1000000 in
theorem sign10_2_12 : ((List.range' 12 4).all (signOk 10 2)) = true := by kernel_rfl
set_option maxRecDepth 1000000 in
theorem sign10_2_16 : ((List.range' 16 4).all (signOk 10 2)) = true := by kernel_rfl
set_option maxRecDepth 1000000 in
theorem sign10_2_20 : ((List.range' 20 4).all (signOk 10 2)) = true := by kernel_rfl
set_option maxRecDepth 1000000 in
theorem sign10_2_24 : ((List.range' 24 4).all (signOk 10 2)) = true := by kernel_rfl
set_option maxRecDepth 1000000 in
theorem sign10_2_28 : ((List.range' 28 4).all (signOk 10 2)) = true := by kernel_rfl
set_option maxRecDepth 1000000 in
theorem sign10_2_32 : ((List.range' 32 4).all (signOk 10 2)) = true := by kernel_rfl
set_option maxRecDepth 1000000 in
theorem sign10_2_36 : ((List.range' 36 4).all (signOk 10 2)) = true := by kernel_rfl
set_option maxRecDepth 1000000 in
theorem sign10_2_40 : ((List.range' 40 4).all (signOk 10 2)) = true := by kernel_rfl
set_option maxRecDepth 1000000 in
theorem sign10_2_44 : ((List.range' 44 2).all (signOk 10 2)) = true := by kernel_rfl
end Go.Proofs.YtnkpdmdifepaaaaGreatDoor
