/-
  Entries of EmitLays's second group: paths with what is called along them. No condition.
-/
import Derived.Test.YtfifebennpenkaaPaths
import Derived.Test.YtfifebennpenkaaCalls0
namespace Go.Proofs.Ytfifebennpenkaa
open Go.Tw
def lawArgs : List AV := [.sym .i64 (.var 0), .sym .i64 (.var 1), .sym .i64 (.var 2), .sym .i64 (.var 3)]
def f0 : Entry := (q905, [⟨6, [.sym .i64 (.var 2), .sym .i64 (.var 3)], .tup [.nils, .int .i64 2], [], 0⟩, ⟨7, [.sym .i64 (.var 2), .sym .i64 (.var 3)], .tup [.nils, .int .i64 2], [], 0⟩])
def f1 : Entry := (q908, [⟨6, [.sym .i64 (.var 2), .sym .i64 (.var 3)], .tup [.nils, .int .i64 2], [], 0⟩, ⟨7, [.sym .i64 (.var 2), .sym .i64 (.var 3)], .tup [.nils, .int .i64 2], [], 0⟩])
def f2 : Entry := (q920, [⟨6, [.sym .i64 (.var 2), .sym .i64 (.var 3)], .tup [.slc 2 1 0 2 none 7, .int .i64 0], [(2, .arr ((r151 ++ (r152))) 0 7 1 2 40)], 4⟩, ⟨7, [.sym .i64 (.var 2), .sym .i64 (.var 3)], .tup [.slc 2 0 0 2 (some 2) 7, .int .i64 0], [(2, .box ((r153 ++ (r154))) 40)], 3⟩])
def f3 : Entry := (q927, [⟨6, [.sym .i64 (.var 2), .sym .i64 (.var 3)], .tup [.slc 2 1 0 2 none 7, .int .i64 0], [(2, .arr ((r155 ++ (r156))) 0 7 1 2 40)], 4⟩, ⟨7, [.sym .i64 (.var 2), .sym .i64 (.var 3)], .tup [.slc 2 0 0 2 (some 2) 7, .int .i64 0], [(2, .box ((r157 ++ (r158))) 40)], 3⟩])
def f4 : Entry := (q928, [⟨6, [.sym .i64 (.var 2), .sym .i64 (.var 3)], .tup [.nils, .int .i64 2], [], 0⟩, ⟨7, [.sym .i64 (.var 2), .sym .i64 (.var 3)], .tup [.nils, .int .i64 2], [], 0⟩])
def f5 : Entry := (q929, [⟨6, [.sym .i64 (.var 2), .sym .i64 (.var 3)], .tup [.nils, .int .i64 2], [], 0⟩, ⟨7, [.sym .i64 (.var 2), .sym .i64 (.var 3)], .tup [.nils, .int .i64 2], [], 0⟩])
def E2 : List Entry := [f0, f1, f2, f3, f4, f5]
set_option maxRecDepth 1000000 in
theorem E2_ok : (E2.all (entryOk Try.prog k1 100000)) = true := by kernel_rfl
def Good (l : List Entry) : Prop := (l.all (entryOk Try.prog k1 100000)) = true ∧ (l.all (crossOk Try.prog k1 100000 3 lawArgs E2)) = true
end Go.Proofs.Ytfifebennpenkaa
