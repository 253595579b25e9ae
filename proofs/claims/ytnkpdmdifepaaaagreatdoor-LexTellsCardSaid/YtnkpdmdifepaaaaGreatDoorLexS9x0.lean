/-
  Runs of the sign's length along each path, function 9, texts of 0 and 1 bytes (3: or more). No condition.
-/
import Derived.Test.YtnkpdmdifepaaaaGreatDoorLexP
namespace Go.Proofs.YtnkpdmdifepaaaaGreatDoor
open Go.Tw
set_option maxRecDepth 1000000 in
theorem sign9_0_0 : ((List.range' 0 8).all (signOk 9 0)) = true := by kernel_rfl
set_option maxRecDepth 1000000 in
theorem sign9_0_8 : ((List.range' 8 8).all (signOk 9 0)) = true := by kernel_rfl
set_option maxRecDepth 1000000 in
theorem sign9_0_16 : ((List.range' 16 8).all (signOk 9 0)) = true := by kernel_rfl
set_option maxRecDepth 1000000 in
theorem sign9_0_24 : ((List.range' 24 8).all (signOk 9 0)) = true := by kernel_rfl
set_option maxRecDepth 1000000 in
theorem sign9_0_32 : ((List.range' 32 8).all (signOk 9 0)) = true := by kernel_rfl
set_option maxRecDepth 1000000 in
theorem sign9_0_40 : ((List.range' 40 6).all (signOk 9 0)) = true := by kernel_rfl
set_option maxRecDepth 1000000 in
theorem sign9_1_0 : ((List.range' 0 8).all (signOk 9 1)) = true := by kernel_rfl
set_option maxRecDepth 1000000 in
theorem sign9_1_8 : ((List.range' 8 8).all (signOk 9 1)) = true := by kernel_rfl
set_option maxRecDepth 1000000 in
theorem sign9_1_16 : ((List.range' 16 8).all (signOk 9 1)) = true := by kernel_rfl
set_option maxRecDepth 1000000 in
theorem sign9_1_24 : ((List.range' 24 8).all (signOk 9 1)) = true := by kernel_rfl
set_option maxRecDepth 1000000 in
theorem sign9_1_32 : ((List.range' 32 8).all (signOk 9 1)) = true := by kernel_rfl
set_option maxRecDepth 1000000 in
theorem sign9_1_40 : ((List.range' 40 6).all (signOk 9 1)) = true := by kernel_rfl
end Go.Proofs.YtnkpdmdifepaaaaGreatDoor
