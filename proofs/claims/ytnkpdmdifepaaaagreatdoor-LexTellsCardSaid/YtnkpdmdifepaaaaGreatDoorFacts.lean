/-
  The closed facts of the row of LexTells, each by itself. No condition.
-/
import Derived.Test.YtnkpdmdifepaaaaGreatDoorRows
import Derived.Test.YtnkpdmdifepaaaaGreatDoorChecked
import Derived.ProofKit
namespace Go.Proofs.YtnkpdmdifepaaaaGreatDoor
open Go.ChangeShapes Go.WideShapes Go.ChangeAt Go.RowKit

set_option maxRecDepth 1000000 in
theorem lexTells_fact0 : (Rows.lexTellsRow.wf (OpenSpec.ofChange Rows.lexTellsSpec)) = true := by kernel_rfl
set_option maxRecDepth 1000000 in
theorem lexTells_fact1 : (laidOutB Tryz.prog) = true := by kernel_rfl
set_option maxRecDepth 1000000 in
theorem lexTells_fact2 : (mapsRowed Tryz.prog) = true := by kernel_rfl
set_option maxRecDepth 1000000 in
theorem lexTells_fact3 : (Tryz.f3.params.all (Tryz.prog.readableRec ·)) = true := by kernel_rfl
set_option maxRecDepth 1000000 in
theorem lexTells_fact4 : (namedTie Tryz.prog Rows.lexTellsRow.named Rows.lexTellsSpec.vars) = true := by kernel_rfl
set_option maxRecDepth 1000000 in
theorem lexTells_fact5 : ((Rows.lexTellsRow.stops == [])) = true := by kernel_rfl
set_option maxRecDepth 1000000 in
theorem lexTells_fact6 : ((Tryz.prog.stops == [])) = true := by kernel_rfl
set_option maxRecDepth 1000000 in
theorem lexTells_fact7 : ((Rows.lexTellsRow.knobs == [])) = true := by kernel_rfl
set_option maxRecDepth 1000000 in
theorem lexTells_fact8 : ((Tryz.prog.stopKnobs == [])) = true := by kernel_rfl
set_option maxRecDepth 1000000 in
theorem lexTells_fact9 : ((Rows.lexTellsRow.inPlace == Tryz.prog.inPlace 3)) = true := by kernel_rfl
set_option maxRecDepth 1000000 in
theorem lexTells_fact10 : ((Rows.lexTellsRow.unfollowed == Tryz.prog.unfollowed 3)) = true := by kernel_rfl
set_option maxRecDepth 1000000 in
theorem lexTells_fact11 : ((Rows.lexTellsRow.recurses == Tryz.prog.recurses 3)) = true := by kernel_rfl
set_option maxRecDepth 1000000 in
theorem lexTells_fact12 : ((Rows.lexTellsRow.named == Tryz.prog.varsNamed 3)) = true := by kernel_rfl
set_option maxRecDepth 1000000 in
theorem lexTells_fact13 : ((Rows.lexTellsRow.maps == (Tryz.f3.params.toList ++ Rows.lexTellsSpec.plain.varTypes Tryz.prog).any (Tryz.prog.mapsRec ·))) = true := by kernel_rfl
set_option maxRecDepth 1000000 in
theorem lexTells_fact14 : ((Rows.lexTellsRow.ifaces == (Tryz.f3.params.toList ++ Rows.lexTellsSpec.plain.varTypes Tryz.prog).any (Tryz.prog.ifacesRec ·))) = true := by kernel_rfl
set_option maxRecDepth 1000000 in
theorem lexTells_fact15 : ((Rows.lexTellsRow.mapsOut == Tryz.prog.mapsAmong Tryz.f3.resultTypes.toList)) = true := by kernel_rfl
set_option maxRecDepth 1000000 in
theorem lexTells_fact16 : ((Rows.lexTellsRow.loops == (Tryz.f3.params.toList ++ Rows.lexTellsSpec.plain.varTypes Tryz.prog).any (Tryz.prog.loopsFrom ·))) = true := by kernel_rfl
set_option maxRecDepth 1000000 in
theorem lexTells_fact17 : ((Rows.lexTellsRow.wideKeys == (Tryz.f3.params.toList ++ Rows.lexTellsSpec.plain.varTypes Tryz.prog ++ Tryz.f3.resultTypes.toList).any (Tryz.prog.wideKeysFrom ·))) = true := by kernel_rfl
set_option maxRecDepth 1000000 in
theorem lexTells_fact18 : (Rows.lexTellsSpec.vars.all (Tryz.prog.varReadable ·)) = true := by kernel_rfl
set_option maxRecDepth 1000000 in
theorem lexTells_fact19 : (Tryz.f3.resultTypes.all (fun t => Tryz.prog.readableRec t && decide (t < Tryz.prog.types.size))) = true := by kernel_rfl
set_option maxRecDepth 1000000 in
theorem lexTells_fact20 : ((Rows.lexTellsRow.ifacesOut == Tryz.f3.resultTypes.toList.any (Tryz.prog.ifacesRec ·))) = true := by kernel_rfl
set_option maxRecDepth 1000000 in
theorem lexTells_fact21 : ((Rows.lexTellsRow.loopsOut == Tryz.f3.resultTypes.toList.any (Tryz.prog.loopsFrom ·))) = true := by kernel_rfl
set_option maxRecDepth 1000000 in
theorem lexTells_fact22 : ((Rows.lexTellsRow.plainKeys == Tryz.prog.plainKeys)) = true := by kernel_rfl
set_option maxRecDepth 1000000 in
theorem lexTells_fact23 : (Rows.lexTellsRow.shortTexts.isNone) = true := by kernel_rfl
set_option maxRecDepth 1000000 in
theorem lexTells_fact24 : (Tryz.prog.stopsHeard) = true := by kernel_rfl
set_option maxRecDepth 1000000 in
theorem lexTells_fact25 : (Tryz.prog.mayEnter) = true := by kernel_rfl
set_option maxRecDepth 1000000 in
theorem lexTells_fact26 : ((Rows.lexTellsRow.lifted == Tryz.prog.liftsFinal)) = true := by kernel_rfl
set_option maxRecDepth 1000000 in
theorem lexTells_fact27 : ((Tryz.prog.make == some Rows.lexTellsRow.make)) = true := by kernel_rfl
set_option maxRecDepth 1000000 in
theorem lexTells_fact28 : ((Rows.lexTellsRow.kinds == (if Rows.lexTellsRow.domain.isEmpty then [] else Tryz.f3.params.toList.map fun t => match Tryz.prog.underlying t with | some (.int k) => some k | _ => none))) = true := by kernel_rfl
set_option maxRecDepth 1000000 in
theorem lexTells_fact29 : ((Rows.lexTellsRow.pinned == Rows.lexTellsRow.pinnedBy)) = true := by kernel_rfl
set_option maxRecDepth 1000000 in
theorem lexTells_fact30 : ((Rows.lexTellsRow.veiled == (Tryz.f3.params.toList ++ Rows.lexTellsSpec.plain.varTypes Tryz.prog ++ Tryz.f3.resultTypes.toList).any (Tryz.prog.veiledRec ·))) = true := by kernel_rfl
set_option maxRecDepth 1000000 in
theorem lexTells_fact31 : (Rows.lexTellsRow.veiledFits Tryz.prog Tryz.f3.params.toList (Tryz.f3.params.toList ++ Rows.lexTellsSpec.plain.varTypes Tryz.prog ++ Tryz.f3.resultTypes.toList)) = true := by kernel_rfl
theorem band {a b : Bool} (h : a = true) (k : b = true) : (a && b) = true := by rw [h, k]; rfl
set_option maxRecDepth 1000000 in
theorem lexTells_closed : joinedFacts Tryz.prog 3 Tryz.f3 Rows.lexTellsSpec Rows.lexTellsRow = true := by
  unfold joinedFacts
  refine band ?_ lexTells_fact31
  refine band ?_ lexTells_fact30
  refine band ?_ lexTells_fact29
  refine band ?_ lexTells_fact28
  refine band ?_ lexTells_fact27
  refine band ?_ lexTells_fact26
  refine band ?_ lexTells_fact25
  refine band ?_ lexTells_fact24
  refine band ?_ lexTells_fact23
  refine band ?_ lexTells_fact22
  refine band ?_ lexTells_fact21
  refine band ?_ lexTells_fact20
  refine band ?_ lexTells_fact19
  refine band ?_ lexTells_fact18
  refine band ?_ lexTells_fact17
  refine band ?_ lexTells_fact16
  refine band ?_ lexTells_fact15
  refine band ?_ lexTells_fact14
  refine band ?_ lexTells_fact13
  refine band ?_ lexTells_fact12
  refine band ?_ lexTells_fact11
  refine band ?_ lexTells_fact10
  refine band ?_ lexTells_fact9
  refine band ?_ lexTells_fact8
  refine band ?_ lexTells_fact7
  refine band ?_ lexTells_fact6
  refine band ?_ lexTells_fact5
  refine band ?_ lexTells_fact4
  refine band ?_ lexTells_fact3
  refine band ?_ lexTells_fact2
  refine band ?_ lexTells_fact1
  exact lexTells_fact0
end Go.Proofs.YtnkpdmdifepaaaaGreatDoor
