/-
  The closed facts of the row of TreeKnown, each by itself. No condition.
-/
import Derived.Test.YteegoeajddgmgaaGreatDoorRows
import Derived.Test.YteegoeajddgmgaaGreatDoorChecked
import Derived.ProofKit
namespace Go.Proofs.YteegoeajddgmgaaGreatDoor
open Go.ChangeShapes Go.WideShapes Go.ChangeAt Go.RowKit

set_option maxRecDepth 1000000 in
theorem treeKnown_fact0 : (Rows.treeKnownRow.wf (OpenSpec.ofChange Rows.treeKnownSpec)) = true := by kernel_rfl
set_option maxRecDepth 1000000 in
theorem treeKnown_fact1 : (laidOutB Tryz.prog) = true := by kernel_rfl
set_option maxRecDepth 1000000 in
theorem treeKnown_fact2 : (mapsRowed Tryz.prog) = true := by kernel_rfl
set_option maxRecDepth 1000000 in
theorem treeKnown_fact3 : (Tryz.f3.params.all (Tryz.prog.readableRec ·)) = true := by kernel_rfl
set_option maxRecDepth 1000000 in
theorem treeKnown_fact4 : (namedTie Tryz.prog Rows.treeKnownRow.named Rows.treeKnownSpec.vars) = true := by kernel_rfl
set_option maxRecDepth 1000000 in
theorem treeKnown_fact5 : ((Rows.treeKnownRow.stops == [])) = true := by kernel_rfl
set_option maxRecDepth 1000000 in
theorem treeKnown_fact6 : ((Tryz.prog.stops == [])) = true := by kernel_rfl
set_option maxRecDepth 1000000 in
theorem treeKnown_fact7 : ((Rows.treeKnownRow.knobs == [])) = true := by kernel_rfl
set_option maxRecDepth 1000000 in
theorem treeKnown_fact8 : ((Tryz.prog.stopKnobs == [])) = true := by kernel_rfl
set_option maxRecDepth 1000000 in
theorem treeKnown_fact9 : ((Rows.treeKnownRow.inPlace == Tryz.prog.inPlace 3)) = true := by kernel_rfl
set_option maxRecDepth 1000000 in
theorem treeKnown_fact10 : ((Rows.treeKnownRow.unfollowed == Tryz.prog.unfollowed 3)) = true := by kernel_rfl
set_option maxRecDepth 1000000 in
theorem treeKnown_fact11 : ((Rows.treeKnownRow.recurses == Tryz.prog.recurses 3)) = true := by kernel_rfl
set_option maxRecDepth 1000000 in
theorem treeKnown_fact12 : ((Rows.treeKnownRow.named == Tryz.prog.varsNamed 3)) = true := by kernel_rfl
set_option maxRecDepth 1000000 in
theorem treeKnown_fact13 : ((Rows.treeKnownRow.maps == (Tryz.f3.params.toList ++ Rows.treeKnownSpec.plain.varTypes Tryz.prog).any (Tryz.prog.mapsRec ·))) = true := by kernel_rfl
set_option maxRecDepth 1000000 in
theorem treeKnown_fact14 : ((Rows.treeKnownRow.ifaces == (Tryz.f3.params.toList ++ Rows.treeKnownSpec.plain.varTypes Tryz.prog).any (Tryz.prog.ifacesRec ·))) = true := by kernel_rfl
set_option maxRecDepth 1000000 in
theorem treeKnown_fact15 : ((Rows.treeKnownRow.mapsOut == Tryz.prog.mapsAmong Tryz.f3.resultTypes.toList)) = true := by kernel_rfl
set_option maxRecDepth 1000000 in
theorem treeKnown_fact16 : ((Rows.treeKnownRow.loops == (Tryz.f3.params.toList ++ Rows.treeKnownSpec.plain.varTypes Tryz.prog).any (Tryz.prog.loopsFrom ·))) = true := by kernel_rfl
set_option maxRecDepth 1000000 in
theorem treeKnown_fact17 : ((Rows.treeKnownRow.wideKeys == (Tryz.f3.params.toList ++ Rows.treeKnownSpec.plain.varTypes Tryz.prog ++ Tryz.f3.resultTypes.toList).any (Tryz.prog.wideKeysFrom ·))) = true := by kernel_rfl
set_option maxRecDepth 1000000 in
theorem treeKnown_fact18 : (Rows.treeKnownSpec.vars.all (Tryz.prog.varReadable ·)) = true := by kernel_rfl
set_option maxRecDepth 1000000 in
theorem treeKnown_fact19 : (Tryz.f3.resultTypes.all (fun t => Tryz.prog.readableRec t && decide (t < Tryz.prog.types.size))) = true := by kernel_rfl
set_option maxRecDepth 1000000 in
theorem treeKnown_fact20 : ((Rows.treeKnownRow.ifacesOut == Tryz.f3.resultTypes.toList.any (Tryz.prog.ifacesRec ·))) = true := by kernel_rfl
set_option maxRecDepth 1000000 in
theorem treeKnown_fact21 : ((Rows.treeKnownRow.loopsOut == Tryz.f3.resultTypes.toList.any (Tryz.prog.loopsFrom ·))) = true := by kernel_rfl
set_option maxRecDepth 1000000 in
theorem treeKnown_fact22 : ((Rows.treeKnownRow.plainKeys == Tryz.prog.plainKeys)) = true := by kernel_rfl
set_option maxRecDepth 1000000 in
theorem treeKnown_fact23 : (Rows.treeKnownRow.shortTexts.isNone) = true := by kernel_rfl
set_option maxRecDepth 1000000 in
theorem treeKnown_fact24 : (Tryz.prog.stopsHeard) = true := by kernel_rfl
set_option maxRecDepth 1000000 in
theorem treeKnown_fact25 : (Tryz.prog.mayEnter) = true := by kernel_rfl
set_option maxRecDepth 1000000 in
theorem treeKnown_fact26 : ((Rows.treeKnownRow.lifted == Tryz.prog.liftsFinal)) = true := by kernel_rfl
set_option maxRecDepth 1000000 in
theorem treeKnown_fact27 : ((Tryz.prog.make == some Rows.treeKnownRow.make)) = true := by kernel_rfl
set_option maxRecDepth 1000000 in
theorem treeKnown_fact28 : ((Rows.treeKnownRow.kinds == (if Rows.treeKnownRow.domain.isEmpty then [] else Tryz.f3.params.toList.map fun t => match Tryz.prog.underlying t with | some (.int k) => some k | _ => none))) = true := by kernel_rfl
set_option maxRecDepth 1000000 in
theorem treeKnown_fact29 : ((Rows.treeKnownRow.pinned == Rows.treeKnownRow.pinnedBy)) = true := by kernel_rfl
set_option maxRecDepth 1000000 in
theorem treeKnown_fact30 : ((Rows.treeKnownRow.veiled == (Tryz.f3.params.toList ++ Rows.treeKnownSpec.plain.varTypes Tryz.prog ++ Tryz.f3.resultTypes.toList).any (Tryz.prog.veiledRec ·))) = true := by kernel_rfl
set_option maxRecDepth 1000000 in
theorem treeKnown_fact31 : (Rows.treeKnownRow.veiledFits Tryz.prog Tryz.f3.params.toList (Tryz.f3.params.toList ++ Rows.treeKnownSpec.plain.varTypes Tryz.prog ++ Tryz.f3.resultTypes.toList)) = true := by kernel_rfl
theorem band {a b : Bool} (h : a = true) (k : b = true) : (a && b) = true := by rw [h, k]; rfl
set_option maxRecDepth 1000000 in
theorem treeKnown_closed : joinedFacts Tryz.prog 3 Tryz.f3 Rows.treeKnownSpec Rows.treeKnownRow = true := by
  unfold joinedFacts
  refine band ?_ treeKnown_fact31
  refine band ?_ treeKnown_fact30
  refine band ?_ treeKnown_fact29
  refine band ?_ treeKnown_fact28
  refine band ?_ treeKnown_fact27
  refine band ?_ treeKnown_fact26
  refine band ?_ treeKnown_fact25
  refine band ?_ treeKnown_fact24
  refine band ?_ treeKnown_fact23
  refine band ?_ treeKnown_fact22
  refine band ?_ treeKnown_fact21
  refine band ?_ treeKnown_fact20
  refine band ?_ treeKnown_fact19
  refine band ?_ treeKnown_fact18
  refine band ?_ treeKnown_fact17
  refine band ?_ treeKnown_fact16
  refine band ?_ treeKnown_fact15
  refine band ?_ treeKnown_fact14
  refine band ?_ treeKnown_fact13
  refine band ?_ treeKnown_fact12
  refine band ?_ treeKnown_fact11
  refine band ?_ treeKnown_fact10
  refine band ?_ treeKnown_fact9
  refine band ?_ treeKnown_fact8
  refine band ?_ treeKnown_fact7
  refine band ?_ treeKnown_fact6
  refine band ?_ treeKnown_fact5
  refine band ?_ treeKnown_fact4
  refine band ?_ treeKnown_fact3
  refine band ?_ treeKnown_fact2
  refine band ?_ treeKnown_fact1
  exact treeKnown_fact0
end Go.Proofs.YteegoeajddgmgaaGreatDoor
