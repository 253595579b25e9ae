/-
  Runs of the sign's length along each path, function 9, texts of 2 and 3 bytes (3: or more). No condition.
-/
import Derived.Test.YtnkpdmdifepaaaaGreatDoorLexP
namespace Go.Proofs.YtnkpdmdifepaaaaGreatDoor
open Go.Tw
set_option maxRecDepth 1000000 in
theorem sign9_2_0 : ((List.range' 0 8).all (signOk 9 2)) = true := by kernel_rfl
set_option maxRecDepth 1000000 in
theorem sign9_2_8 : ((List.range' 8 8).all (signOk 9 2)) = true := by kernel_rfl
set_option maxRecDepth 1000000 in
theorem sign9_2_16 : ((List.range' 16 8).all (signOk 9 2)) = true := by kernel_rfl
set_option maxRecDepth 1000000 in
theorem sign9_2_24 : ((List.range' 24 8).all (signOk 9 2)) = true := by kernel_rfl
set_option maxRecDepth 1000000 in
theorem sign9_2_32 : ((List.range' 32 8).all (signOk 9 2)) = true := by kernel_rfl
set_option maxRecDepth 1000000 in
theorem sign9_2_40 : ((List.range' 40 6).all (signOk 9 2)) = true := by kernel_rfl
set_option maxRecDepth 1000000 in
theorem sign9_3_0 : ((List.range' 0 8).all (signOk 9 3)) = true := by kernel_rfl
set_option maxRecDepth 1000000 in
theorem sign9_3_8 : ((List.range' 8 8).all (signOk 9 3)) = true := by kernel_rfl
set_option maxRecDepth 1000000 in
theorem sign9_3_16 : ((List.range' 16 8).all (signOk 9 3)) = true := by kernel_rfl
set_option maxRecDepth 1000000 in
theorem sign9_3_24 : ((List.range' 24 8).all (signOk 9 3)) = true := by kernel_rfl
set_option maxRecDepth 1000000 in
theorem sign9_3_32 : ((List.range' 32 8).all (signOk 9 3)) = true := by kernel_rfl
set_option maxRecDepth 1000000 in
theorem sign9_3_40 : ((List.range' 40 6).all (signOk 9 3)) = true := by kernel_rfl
end Go.Proofs.YtnkpdmdifepaaaaGreatDoor
