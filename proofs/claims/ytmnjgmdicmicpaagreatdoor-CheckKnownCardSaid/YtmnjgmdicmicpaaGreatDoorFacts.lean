/-
  The closed facts of the row of CheckKnown, each by itself. No condition.
-/
import Derived.Test.YtmnjgmdicmicpaaGreatDoorRows
import Derived.Test.YtmnjgmdicmicpaaGreatDoorChecked
import Derived.ProofKit
namespace Go.Proofs.YtmnjgmdicmicpaaGreatDoor
open Go.ChangeShapes Go.WideShapes Go.ChangeAt Go.RowKit

set_option maxRecDepth 1000000 in
theorem checkKnown_fact0 : (Rows.checkKnownRow.wf (OpenSpec.ofChange Rows.checkKnownSpec)) = true := by kernel_rfl
set_option maxRecDepth 1000000 in
theorem checkKnown_fact1 : (laidOutB Tryz.prog) = true := by kernel_rfl
set_option maxRecDepth 1000000 in
theorem checkKnown_fact2 : (mapsRowed Tryz.prog) = true := by kernel_rfl
set_option maxRecDepth 1000000 in
theorem checkKnown_fact3 : (Tryz.f3.params.all (Tryz.prog.readableRec ·)) = true := by kernel_rfl
set_option maxRecDepth 1000000 in
theorem checkKnown_fact4 : (namedTie Tryz.prog Rows.checkKnownRow.named Rows.checkKnownSpec.vars) = true := by kernel_rfl
set_option maxRecDepth 1000000 in
theorem checkKnown_fact5 : ((Rows.checkKnownRow.stops == [])) = true := by kernel_rfl
set_option maxRecDepth 1000000 in
theorem checkKnown_fact6 : ((Tryz.prog.stops == [])) = true := by kernel_rfl
set_option maxRecDepth 1000000 in
theorem checkKnown_fact7 : ((Rows.checkKnownRow.knobs == [])) = true := by kernel_rfl
set_option maxRecDepth 1000000 in
theorem checkKnown_fact8 : ((Tryz.prog.stopKnobs == [])) = true := by kernel_rfl
set_option maxRecDepth 1000000 in
theorem checkKnown_fact9 : ((Rows.checkKnownRow.inPlace == Tryz.prog.inPlace 3)) = true := by kernel_rfl
set_option maxRecDepth 1000000 in
theorem checkKnown_fact10 : ((Rows.checkKnownRow.unfollowed == Tryz.prog.unfollowed 3)) = true := by kernel_rfl
set_option maxRecDepth 1000000 in
theorem checkKnown_fact11 : ((Rows.checkKnownRow.recurses == Tryz.prog.recurses 3)) = true := by kernel_rfl
set_option maxRecDepth 1000000 in
theorem checkKnown_fact12 : ((Rows.checkKnownRow.named == Tryz.prog.varsNamed 3)) = true := by kernel_rfl
set_option maxRecDepth 1000000 in
theorem checkKnown_fact13 : ((Rows.checkKnownRow.maps == (Tryz.f3.params.toList ++ Rows.checkKnownSpec.plain.varTypes Tryz.prog).any (Tryz.prog.mapsRec ·))) = true := by kernel_rfl
set_option maxRecDepth 1000000 in
theorem checkKnown_fact14 : ((Rows.checkKnownRow.ifaces == (Tryz.f3.params.toList ++ Rows.checkKnownSpec.plain.varTypes Tryz.prog).any (Tryz.prog.ifacesRec ·))) = true := by kernel_rfl
set_option maxRecDepth 1000000 in
theorem checkKnown_fact15 : ((Rows.checkKnownRow.mapsOut == Tryz.prog.mapsAmong Tryz.f3.resultTypes.toList)) = true := by kernel_rfl
set_option maxRecDepth 1000000 in
theorem checkKnown_fact16 : ((Rows.checkKnownRow.loops == (Tryz.f3.params.toList ++ Rows.checkKnownSpec.plain.varTypes Tryz.prog).any (Tryz.prog.loopsFrom ·))) = true := by kernel_rfl
set_option maxRecDepth 1000000 in
theorem checkKnown_fact17 : ((Rows.checkKnownRow.wideKeys == (Tryz.f3.params.toList ++ Rows.checkKnownSpec.plain.varTypes Tryz.prog ++ Tryz.f3.resultTypes.toList).any (Tryz.prog.wideKeysFrom ·))) = true := by kernel_rfl
set_option maxRecDepth 1000000 in
theorem checkKnown_fact18 : (Rows.checkKnownSpec.vars.all (Tryz.prog.varReadable ·)) = true := by kernel_rfl
set_option maxRecDepth 1000000 in
theorem checkKnown_fact19 : (Tryz.f3.resultTypes.all (fun t => Tryz.prog.readableRec t && decide (t < Tryz.prog.types.size))) = true := by kernel_rfl
set_option maxRecDepth 1000000 in
theorem checkKnown_fact20 : ((Rows.checkKnownRow.ifacesOut == Tryz.f3.resultTypes.toList.any (Tryz.prog.ifacesRec ·))) = true := by kernel_rfl
set_option maxRecDepth 1000000 in
theorem checkKnown_fact21 : ((Rows.checkKnownRow.loopsOut == Tryz.f3.resultTypes.toList.any (Tryz.prog.loopsFrom ·))) = true := by kernel_rfl
set_option maxRecDepth 1000000 in
theorem checkKnown_fact22 : ((Rows.checkKnownRow.plainKeys == Tryz.prog.plainKeys)) = true := by kernel_rfl
set_option maxRecDepth 1000000 in
theorem checkKnown_fact23 : (Rows.checkKnownRow.shortTexts.isNone) = true := by kernel_rfl
set_option maxRecDepth 1000000 in
theorem checkKnown_fact24 : (Tryz.prog.stopsHeard) = true := by kernel_rfl
set_option maxRecDepth 1000000 in
theorem checkKnown_fact25 : (Tryz.prog.mayEnter) = true := by kernel_rfl
set_option maxRecDepth 1000000 in
theorem checkKnown_fact26 : ((Rows.checkKnownRow.lifted == Tryz.prog.liftsFinal)) = true := by kernel_rfl
set_option maxRecDepth 1000000 in
theorem checkKnown_fact27 : ((Tryz.prog.make == some Rows.checkKnownRow.make)) = true := by kernel_rfl
set_option maxRecDepth 1000000 in
theorem checkKnown_fact28 : ((Rows.checkKnownRow.kinds == (if Rows.checkKnownRow.domain.isEmpty then [] else Tryz.f3.params.toList.map fun t => match Tryz.prog.underlying t with | some (.int k) => some k | _ => none))) = true := by kernel_rfl
set_option maxRecDepth 1000000 in
theorem checkKnown_fact29 : ((Rows.checkKnownRow.pinned == Rows.checkKnownRow.pinnedBy)) = true := by kernel_rfl
set_option maxRecDepth 1000000 in
theorem checkKnown_fact30 : ((Rows.checkKnownRow.veiled == (Tryz.f3.params.toList ++ Rows.checkKnownSpec.plain.varTypes Tryz.prog ++ Tryz.f3.resultTypes.toList).any (Tryz.prog.veiledRec ·))) = true := by kernel_rfl
set_option maxRecDepth 1000000 in
theorem checkKnown_fact31 : (Rows.checkKnownRow.veiledFits Tryz.prog Tryz.f3.params.toList (Tryz.f3.params.toList ++ Rows.checkKnownSpec.plain.varTypes Tryz.prog ++ Tryz.f3.resultTypes.toList)) = true := by kernel_rfl
theorem band {a b : Bool} (h : a = true) (k : b = true) : (a && b) = true := by rw [h, k]; rfl
set_option maxRecDepth 1000000 in
theorem checkKnown_closed : joinedFacts Tryz.prog 3 Tryz.f3 Rows.checkKnownSpec Rows.checkKnownRow = true := by
  unfold joinedFacts
  refine band ?_ checkKnown_fact31
  refine band ?_ checkKnown_fact30
  refine band ?_ checkKnown_fact29
  refine band ?_ checkKnown_fact28
  refine band ?_ checkKnown_fact27
  refine band ?_ checkKnown_fact26
  refine band ?_ checkKnown_fact25
  refine band ?_ checkKnown_fact24
  refine band ?_ checkKnown_fact23
  refine band ?_ checkKnown_fact22
  refine band ?_ checkKnown_fact21
  refine band ?_ checkKnown_fact20
  refine band ?_ checkKnown_fact19
  refine band ?_ checkKnown_fact18
  refine band ?_ checkKnown_fact17
  refine band ?_ checkKnown_fact16
  refine band ?_ checkKnown_fact15
  refine band ?_ checkKnown_fact14
  refine band ?_ checkKnown_fact13
  refine band ?_ checkKnown_fact12
  refine band ?_ checkKnown_fact11
  refine band ?_ checkKnown_fact10
  refine band ?_ checkKnown_fact9
  refine band ?_ checkKnown_fact8
  refine band ?_ checkKnown_fact7
  refine band ?_ checkKnown_fact6
  refine band ?_ checkKnown_fact5
  refine band ?_ checkKnown_fact4
  refine band ?_ checkKnown_fact3
  refine band ?_ checkKnown_fact2
  refine band ?_ checkKnown_fact1
  exact checkKnown_fact0
end Go.Proofs.YtmnjgmdicmicpaaGreatDoor
