/-
  The closed facts of the row of SenseKnown, each by itself. No condition.
-/
import Derived.Test.YtncnepaclildjaaGreatDoorRows
import Derived.Test.YtncnepaclildjaaGreatDoorChecked
import Derived.ProofKit
namespace Go.Proofs.YtncnepaclildjaaGreatDoor
open Go.ChangeShapes Go.WideShapes Go.ChangeAt Go.RowKit

set_option maxRecDepth 1000000 in
theorem senseKnown_fact0 : (Rows.senseKnownRow.wf (OpenSpec.ofChange Rows.senseKnownSpec)) = true := by kernel_rfl
set_option maxRecDepth 1000000 in
theorem senseKnown_fact1 : (laidOutB Tryz.prog) = true := by kernel_rfl
set_option maxRecDepth 1000000 in
theorem senseKnown_fact2 : (mapsRowed Tryz.prog) = true := by kernel_rfl
set_option maxRecDepth 1000000 in
theorem senseKnown_fact3 : (Tryz.f3.params.all (Tryz.prog.readableRec ·)) = true := by kernel_rfl
set_option maxRecDepth 1000000 in
theorem senseKnown_fact4 : (namedTie Tryz.prog Rows.senseKnownRow.named Rows.senseKnownSpec.vars) = true := by kernel_rfl
set_option maxRecDepth 1000000 in
theorem senseKnown_fact5 : ((Rows.senseKnownRow.stops == [])) = true := by kernel_rfl
set_option maxRecDepth 1000000 in
theorem senseKnown_fact6 : ((Tryz.prog.stops == [])) = true := by kernel_rfl
set_option maxRecDepth 1000000 in
theorem senseKnown_fact7 : ((Rows.senseKnownRow.knobs == [])) = true := by kernel_rfl
set_option maxRecDepth 1000000 in
theorem senseKnown_fact8 : ((Tryz.prog.stopKnobs == [])) = true := by kernel_rfl
set_option maxRecDepth 1000000 in
theorem senseKnown_fact9 : ((Rows.senseKnownRow.inPlace == Tryz.prog.inPlace 3)) = true := by kernel_rfl
set_option maxRecDepth 1000000 in
theorem senseKnown_fact10 : ((Rows.senseKnownRow.unfollowed == Tryz.prog.unfollowed 3)) = true := by kernel_rfl
set_option maxRecDepth 1000000 in
theorem senseKnown_fact11 : ((Rows.senseKnownRow.recurses == Tryz.prog.recurses 3)) = true := by kernel_rfl
set_option maxRecDepth 1000000 in
theorem senseKnown_fact12 : ((Rows.senseKnownRow.named == Tryz.prog.varsNamed 3)) = true := by kernel_rfl
set_option maxRecDepth 1000000 in
theorem senseKnown_fact13 : ((Rows.senseKnownRow.maps == (Tryz.f3.params.toList ++ Rows.senseKnownSpec.plain.varTypes Tryz.prog).any (Tryz.prog.mapsRec ·))) = true := by kernel_rfl
set_option maxRecDepth 1000000 in
theorem senseKnown_fact14 : ((Rows.senseKnownRow.ifaces == (Tryz.f3.params.toList ++ Rows.senseKnownSpec.plain.varTypes Tryz.prog).any (Tryz.prog.ifacesRec ·))) = true := by kernel_rfl
set_option maxRecDepth 1000000 in
theorem senseKnown_fact15 : ((Rows.senseKnownRow.mapsOut == Tryz.prog.mapsAmong Tryz.f3.resultTypes.toList)) = true := by kernel_rfl
set_option maxRecDepth 1000000 in
theorem senseKnown_fact16 : ((Rows.senseKnownRow.loops == (Tryz.f3.params.toList ++ Rows.senseKnownSpec.plain.varTypes Tryz.prog).any (Tryz.prog.loopsFrom ·))) = true := by kernel_rfl
set_option maxRecDepth 1000000 in
theorem senseKnown_fact17 : ((Rows.senseKnownRow.wideKeys == (Tryz.f3.params.toList ++ Rows.senseKnownSpec.plain.varTypes Tryz.prog ++ Tryz.f3.resultTypes.toList).any (Tryz.prog.wideKeysFrom ·))) = true := by kernel_rfl
set_option maxRecDepth 1000000 in
theorem senseKnown_fact18 : (Rows.senseKnownSpec.vars.all (Tryz.prog.varReadable ·)) = true := by kernel_rfl
set_option maxRecDepth 1000000 in
theorem senseKnown_fact19 : (Tryz.f3.resultTypes.all (fun t => Tryz.prog.readableRec t && decide (t < Tryz.prog.types.size))) = true := by kernel_rfl
set_option maxRecDepth 1000000 in
theorem senseKnown_fact20 : ((Rows.senseKnownRow.ifacesOut == Tryz.f3.resultTypes.toList.any (Tryz.prog.ifacesRec ·))) = true := by kernel_rfl
set_option maxRecDepth 1000000 in
theorem senseKnown_fact21 : ((Rows.senseKnownRow.loopsOut == Tryz.f3.resultTypes.toList.any (Tryz.prog.loopsFrom ·))) = true := by kernel_rfl
set_option maxRecDepth 1000000 in
theorem senseKnown_fact22 : ((Rows.senseKnownRow.plainKeys == Tryz.prog.plainKeys)) = true := by kernel_rfl
set_option maxRecDepth 1000000 in
theorem senseKnown_fact23 : (Rows.senseKnownRow.shortTexts.isNone) = true := by kernel_rfl
set_option maxRecDepth 1000000 in
theorem senseKnown_fact24 : (Tryz.prog.stopsHeard) = true := by kernel_rfl
set_option maxRecDepth 1000000 in
theorem senseKnown_fact25 : (Tryz.prog.mayEnter) = true := by kernel_rfl
set_option maxRecDepth 1000000 in
theorem senseKnown_fact26 : ((Rows.senseKnownRow.lifted == Tryz.prog.liftsFinal)) = true := by kernel_rfl
set_option maxRecDepth 1000000 in
theorem senseKnown_fact27 : ((Tryz.prog.make == some Rows.senseKnownRow.make)) = true := by kernel_rfl
set_option maxRecDepth 1000000 in
theorem senseKnown_fact28 : ((Rows.senseKnownRow.kinds == (if Rows.senseKnownRow.domain.isEmpty then [] else Tryz.f3.params.toList.map fun t => match Tryz.prog.underlying t with | some (.int k) => some k | _ => none))) = true := by kernel_rfl
set_option maxRecDepth 1000000 in
theorem senseKnown_fact29 : ((Rows.senseKnownRow.pinned == Rows.senseKnownRow.pinnedBy)) = true := by kernel_rfl
set_option maxRecDepth 1000000 in
theorem senseKnown_fact30 : ((Rows.senseKnownRow.veiled == (Tryz.f3.params.toList ++ Rows.senseKnownSpec.plain.varTypes Tryz.prog ++ Tryz.f3.resultTypes.toList).any (Tryz.prog.veiledRec ·))) = true := by kernel_rfl
set_option maxRecDepth 1000000 in
theorem senseKnown_fact31 : (Rows.senseKnownRow.veiledFits Tryz.prog Tryz.f3.params.toList (Tryz.f3.params.toList ++ Rows.senseKnownSpec.plain.varTypes Tryz.prog ++ Tryz.f3.resultTypes.toList)) = true := by kernel_rfl
theorem band {a b : Bool} (h : a = true) (k : b = true) : (a && b) = true := by rw [h, k]; rfl
set_option maxRecDepth 1000000 in
theorem senseKnown_closed : joinedFacts Tryz.prog 3 Tryz.f3 Rows.senseKnownSpec Rows.senseKnownRow = true := by
  unfold joinedFacts
  refine band ?_ senseKnown_fact31
  refine band ?_ senseKnown_fact30
  refine band ?_ senseKnown_fact29
  refine band ?_ senseKnown_fact28
  refine band ?_ senseKnown_fact27
  refine band ?_ senseKnown_fact26
  refine band ?_ senseKnown_fact25
  refine band ?_ senseKnown_fact24
  refine band ?_ senseKnown_fact23
  refine band ?_ senseKnown_fact22
  refine band ?_ senseKnown_fact21
  refine band ?_ senseKnown_fact20
  refine band ?_ senseKnown_fact19
  refine band ?_ senseKnown_fact18
  refine band ?_ senseKnown_fact17
  refine band ?_ senseKnown_fact16
  refine band ?_ senseKnown_fact15
  refine band ?_ senseKnown_fact14
  refine band ?_ senseKnown_fact13
  refine band ?_ senseKnown_fact12
  refine band ?_ senseKnown_fact11
  refine band ?_ senseKnown_fact10
  refine band ?_ senseKnown_fact9
  refine band ?_ senseKnown_fact8
  refine band ?_ senseKnown_fact7
  refine band ?_ senseKnown_fact6
  refine band ?_ senseKnown_fact5
  refine band ?_ senseKnown_fact4
  refine band ?_ senseKnown_fact3
  refine band ?_ senseKnown_fact2
  refine band ?_ senseKnown_fact1
  exact senseKnown_fact0
end Go.Proofs.YtncnepaclildjaaGreatDoor
