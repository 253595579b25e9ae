/-
  The closed facts of the row of SenseReturns, each by itself. No condition.
-/
import Derived.Test.YtelhnjgcijjngaaGreatDoorRows
import Derived.Test.YtelhnjgcijjngaaGreatDoorChecked
import Derived.ProofKit
set_option linter.all false
namespace Go.Proofs.YtelhnjgcijjngaaGreatDoor
open Go.ChangeShapes Go.WideShapes Go.ChangeAt Go.RowKit

set_option maxRecDepth 1000000 in
theorem senseReturns_fact0 : (Rows.senseReturnsRow.wf (OpenSpec.ofChange Rows.senseReturnsSpec)) = true := by kernel_rfl
set_option maxRecDepth 1000000 in
theorem senseReturns_fact1 : (laidOutB Tryz.prog) = true := by kernel_rfl
set_option maxRecDepth 1000000 in
theorem senseReturns_fact2 : (mapsRowed Tryz.prog) = true := by kernel_rfl
set_option maxRecDepth 1000000 in
theorem senseReturns_fact3 : (Tryz.f3.params.all (Tryz.prog.readableRec ·)) = true := by kernel_rfl
set_option maxRecDepth 1000000 in
theorem senseReturns_fact4 : (namedTie Tryz.prog Rows.senseReturnsRow.named Rows.senseReturnsSpec.vars) = true := by kernel_rfl
set_option maxRecDepth 1000000 in
theorem senseReturns_fact5 : ((Rows.senseReturnsRow.stops == [])) = true := by kernel_rfl
set_option maxRecDepth 1000000 in
theorem senseReturns_fact6 : ((Tryz.prog.stops == [])) = true := by kernel_rfl
set_option maxRecDepth 1000000 in
theorem senseReturns_fact7 : ((Rows.senseReturnsRow.knobs == [])) = true := by kernel_rfl
set_option maxRecDepth 1000000 in
theorem senseReturns_fact8 : ((Tryz.prog.stopKnobs == [])) = true := by kernel_rfl
set_option maxRecDepth 1000000 in
theorem senseReturns_fact9 : ((Rows.senseReturnsRow.inPlace == Tryz.prog.inPlace 3)) = true := by kernel_rfl
set_option maxRecDepth 1000000 in
theorem senseReturns_fact10 : ((Rows.senseReturnsRow.unfollowed == Tryz.prog.unfollowed 3)) = true := by kernel_rfl
set_option maxRecDepth 1000000 in
theorem senseReturns_fact11 : ((Rows.senseReturnsRow.recurses == Tryz.prog.recurses 3)) = true := by kernel_rfl
set_option maxRecDepth 1000000 in
theorem senseReturns_fact12 : ((Rows.senseReturnsRow.named == Tryz.prog.varsNamed 3)) = true := by kernel_rfl
set_option maxRecDepth 1000000 in
theorem senseReturns_fact13 : ((Rows.senseReturnsRow.maps == (Tryz.f3.params.toList ++ Rows.senseReturnsSpec.plain.varTypes Tryz.prog).any (Tryz.prog.mapsRec ·))) = true := by kernel_rfl
set_option maxRecDepth 1000000 in
theorem senseReturns_fact14 : ((Rows.senseReturnsRow.ifaces == (Tryz.f3.params.toList ++ Rows.senseReturnsSpec.plain.varTypes Tryz.prog).any (Tryz.prog.ifacesRec ·))) = true := by kernel_rfl
set_option maxRecDepth 1000000 in
theorem senseReturns_fact15 : ((Rows.senseReturnsRow.mapsOut == Tryz.prog.mapsAmong Tryz.f3.resultTypes.toList)) = true := by kernel_rfl
set_option maxRecDepth 1000000 in
theorem senseReturns_fact16 : ((Rows.senseReturnsRow.loops == (Tryz.f3.params.toList ++ Rows.senseReturnsSpec.plain.varTypes Tryz.prog).any (Tryz.prog.loopsFrom ·))) = true := by kernel_rfl
set_option maxRecDepth 1000000 in
theorem senseReturns_fact17 : ((Rows.senseReturnsRow.wideKeys == (Tryz.f3.params.toList ++ Rows.senseReturnsSpec.plain.varTypes Tryz.prog ++ Tryz.f3.resultTypes.toList).any (Tryz.prog.wideKeysFrom ·))) = true := by kernel_rfl
set_option maxRecDepth 1000000 in
theorem senseReturns_fact18 : (Rows.senseReturnsSpec.vars.all (Tryz.prog.varReadable ·)) = true := by kernel_rfl
set_option maxRecDepth 1000000 in
theorem senseReturns_fact19 : (Tryz.f3.resultTypes.all (fun t => Tryz.prog.readableRec t && decide (t < Tryz.prog.types.size))) = true := by kernel_rfl
set_option maxRecDepth 1000000 in
theorem senseReturns_fact20 : ((Rows.senseReturnsRow.ifacesOut == Tryz.f3.resultTypes.toList.any (Tryz.prog.ifacesRec ·))) = true := by kernel_rfl
set_option maxRecDepth 1000000 in
theorem senseReturns_fact21 : ((Rows.senseReturnsRow.loopsOut == Tryz.f3.resultTypes.toList.any (Tryz.prog.loopsFrom ·))) = true := by kernel_rfl
set_option maxRecDepth 1000000 in
theorem senseReturns_fact22 : ((Rows.senseReturnsRow.plainKeys == Tryz.prog.plainKeys)) = true := by kernel_rfl
set_option maxRecDepth 1000000 in
theorem senseReturns_fact23 : (Rows.senseReturnsRow.shortTexts.isNone) = true := by kernel_rfl
set_option maxRecDepth 1000000 in
theorem senseReturns_fact24 : (Tryz.prog.stopsHeard) = true := by kernel_rfl
set_option maxRecDepth 1000000 in
theorem senseReturns_fact25 : (Tryz.prog.mayEnter) = true := by kernel_rfl
set_option maxRecDepth 1000000 in
theorem senseReturns_fact26 : ((Rows.senseReturnsRow.lifted == Tryz.prog.liftsFinal)) = true := by kernel_rfl
set_option maxRecDepth 1000000 in
theorem senseReturns_fact27 : ((Tryz.prog.make == some Rows.senseReturnsRow.make)) = true := by kernel_rfl
set_option maxRecDepth 1000000 in
theorem senseReturns_fact28 : ((Rows.senseReturnsRow.kinds == (if Rows.senseReturnsRow.domain.isEmpty then [] else Tryz.f3.params.toList.map fun t => match Tryz.prog.underlying t with | some (.int k) => some k | _ => none))) = true := by kernel_rfl
set_option maxRecDepth 1000000 in
theorem senseReturns_fact29 : ((Rows.senseReturnsRow.pinned == Rows.senseReturnsRow.pinnedBy)) = true := by kernel_rfl
set_option maxRecDepth 1000000 in
theorem senseReturns_fact30 : ((Rows.senseReturnsRow.veiled == (Tryz.f3.params.toList ++ Rows.senseReturnsSpec.plain.varTypes Tryz.prog ++ Tryz.f3.resultTypes.toList).any (Tryz.prog.veiledRec ·))) = true := by kernel_rfl
set_option maxRecDepth 1000000 in
theorem senseReturns_fact31 : (Rows.senseReturnsRow.veiledFits Tryz.prog Tryz.f3.params.toList (Tryz.f3.params.toList ++ Rows.senseReturnsSpec.plain.varTypes Tryz.prog ++ Tryz.f3.resultTypes.toList)) = true := by kernel_rfl
theorem band {a b : Bool} (h : a = true) (k : b = true) : (a && b) = true := by rw [h, k]; rfl
set_option maxRecDepth 1000000 in
theorem senseReturns_closed : joinedFacts Tryz.prog 3 Tryz.f3 Rows.senseReturnsSpec Rows.senseReturnsRow = true := by
  unfold joinedFacts
  refine band ?_ senseReturns_fact31
  refine band ?_ senseReturns_fact30
  refine band ?_ senseReturns_fact29
  refine band ?_ senseReturns_fact28
  refine band ?_ senseReturns_fact27
  refine band ?_ senseReturns_fact26
  refine band ?_ senseReturns_fact25
  refine band ?_ senseReturns_fact24
  refine band ?_ senseReturns_fact23
  refine band ?_ senseReturns_fact22
  refine band ?_ senseReturns_fact21
  refine band ?_ senseReturns_fact20
  refine band ?_ senseReturns_fact19
  refine band ?_ senseReturns_fact18
  refine band ?_ senseReturns_fact17
  refine band ?_ senseReturns_fact16
  refine band ?_ senseReturns_fact15
  refine band ?_ senseReturns_fact14
  refine band ?_ senseReturns_fact13
  refine band ?_ senseReturns_fact12
  refine band ?_ senseReturns_fact11
  refine band ?_ senseReturns_fact10
  refine band ?_ senseReturns_fact9
  refine band ?_ senseReturns_fact8
  refine band ?_ senseReturns_fact7
  refine band ?_ senseReturns_fact6
  refine band ?_ senseReturns_fact5
  refine band ?_ senseReturns_fact4
  refine band ?_ senseReturns_fact3
  refine band ?_ senseReturns_fact2
  refine band ?_ senseReturns_fact1
  exact senseReturns_fact0
end Go.Proofs.YtelhnjgcijjngaaGreatDoor
