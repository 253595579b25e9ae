/-
  Runs of the keyword's test along each path. No condition.
-/
import Derived.Test.YtnkpdmdifepaaaaGreatDoorLexP
namespace Go.Proofs.YtnkpdmdifepaaaaGreatDoor
open Go.Tw
set_option maxRecDepth 1000000 in
theorem key7_0 : ((List.range' 0 11).all (keyOk 7)) = true := by kernel_rfl
set_option maxRecDepth 1000000 in
theorem key7_11 : ((List.range' 11 11).all (keyOk 7)) = true := by kernel_rfl
set_option maxRecDepth 1000000 in
theorem key8_0 : ((List.range' 0 11).all (keyOk 8)) = true := by kernel_rfl
set_option maxRecDepth 1000000 in
theorem key8_11 : ((List.range' 11 11).all (keyOk 8)) = true := by kernel_rfl
end Go.Proofs.YtnkpdmdifepaaaaGreatDoor
