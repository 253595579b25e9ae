/-
  Entries of EmitLays's first group, and the law run with each pair, part 8. No condition.
-/
import Derived.Test.YtfifebennpenkaaEnt
namespace Go.Proofs.Ytfifebennpenkaa
open Go.Tw
def e256 : Entry := (q904, [⟨4, [.sym .i64 (.var 0), .sym .i64 (.var 1)], .tup [.nils, .int .i64 2], [], 0⟩, ⟨5, [.sym .i64 (.var 0), .sym .i64 (.var 1)], .tup [.nils, .int .i64 2], [], 0⟩])
def C32 : List Entry := [e256]
set_option maxRecDepth 1000000 in
theorem C32_ent : (C32.all (entryOk Try.prog k1 100000)) = true := by kernel_rfl
set_option maxRecDepth 1000000 in
theorem C32_law : (C32.all (crossOk Try.prog k1 100000 3 lawArgs E2)) = true := by kernel_rfl
theorem C32_good : Good C32 := ⟨C32_ent, C32_law⟩
end Go.Proofs.Ytfifebennpenkaa
