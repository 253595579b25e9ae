/-
  The closed facts of the row of EmitThere, each by itself. No condition.
-/
import Derived.Test.YtgcpcgaigbnniaaGreatRows
import Derived.Test.YtgcpcgaigbnniaaGreatChecked
import Derived.ProofKit
set_option linter.all false
set_option linter.all false
namespace Go.Proofs.YtgcpcgaigbnniaaGreat
open Go.ChangeShapes Go.WideShapes Go.ChangeAt Go.RowKit

set_option maxRecDepth 1000000 in
theorem emitThere_fact0 : (Rows.emitThereRow.wf (OpenSpec.ofChange Rows.emitThereSpec)) = true := by kernel_rfl
set_option maxRecDepth 1000000 in
theorem emitThere_fact1 : (laidOutB Tryz.prog) = true := by kernel_rfl
set_option maxRecDepth 1000000 in
theorem emitThere_fact2 : (mapsRowed Tryz.prog) = true := by kernel_rfl
set_option maxRecDepth 1000000 in
theorem emitThere_fact3 : (Tryz.f3.params.all (Tryz.prog.readableRec ·)) = true := by kernel_rfl
set_option maxRecDepth 1000000 in
theorem emitThere_fact4 : (namedTie Tryz.prog Rows.emitThereRow.named Rows.emitThereSpec.vars) = true := by kernel_rfl
set_option maxRecDepth 1000000 in
theorem emitThere_fact5 : ((Rows.emitThereRow.stops == [])) = true := by kernel_rfl
set_option maxRecDepth 1000000 in
theorem emitThere_fact6 : ((Tryz.prog.stops == [])) = true := by kernel_rfl
set_option maxRecDepth 1000000 in
theorem emitThere_fact7 : ((Rows.emitThereRow.knobs == [])) = true := by kernel_rfl
set_option maxRecDepth 1000000 in
theorem emitThere_fact8 : ((Tryz.prog.stopKnobs == [])) = true := by kernel_rfl
set_option maxRecDepth 1000000 in
theorem emitThere_fact9 : ((Rows.emitThereRow.inPlace == Tryz.prog.inPlace 3)) = true := by kernel_rfl
set_option maxRecDepth 1000000 in
theorem emitThere_fact10 : ((Rows.emitThereRow.unfollowed == Tryz.prog.unfollowed 3)) = true := by kernel_rfl
set_option maxRecDepth 1000000 in
theorem emitThere_fact11 : ((Rows.emitThereRow.recurses == Tryz.prog.recurses 3)) = true := by kernel_rfl
set_option maxRecDepth 1000000 in
theorem emitThere_fact12 : ((Rows.emitThereRow.named == Tryz.prog.varsNamed 3)) = true := by kernel_rfl
set_option maxRecDepth 1000000 in
theorem emitThere_fact13 : ((Rows.emitThereRow.maps == (Tryz.f3.params.toList ++ Rows.emitThereSpec.plain.varTypes Tryz.prog).any (Tryz.prog.mapsRec ·))) = true := by kernel_rfl
set_option maxRecDepth 1000000 in
theorem emitThere_fact14 : ((Rows.emitThereRow.ifaces == (Tryz.f3.params.toList ++ Rows.emitThereSpec.plain.varTypes Tryz.prog).any (Tryz.prog.ifacesRec ·))) = true := by kernel_rfl
set_option maxRecDepth 1000000 in
theorem emitThere_fact15 : ((Rows.emitThereRow.mapsOut == Tryz.prog.mapsAmong Tryz.f3.resultTypes.toList)) = true := by kernel_rfl
set_option maxRecDepth 1000000 in
theorem emitThere_fact16 : ((Rows.emitThereRow.loops == (Tryz.f3.params.toList ++ Rows.emitThereSpec.plain.varTypes Tryz.prog).any (Tryz.prog.loopsFrom ·))) = true := by kernel_rfl
set_option maxRecDepth 1000000 in
theorem emitThere_fact17 : ((Rows.emitThereRow.wideKeys == (Tryz.f3.params.toList ++ Rows.emitThereSpec.plain.varTypes Tryz.prog ++ Tryz.f3.resultTypes.toList).any (Tryz.prog.wideKeysFrom ·))) = true := by kernel_rfl
set_option maxRecDepth 1000000 in
theorem emitThere_fact18 : (Rows.emitThereSpec.vars.all (Tryz.prog.varReadable ·)) = true := by kernel_rfl
set_option maxRecDepth 1000000 in
theorem emitThere_fact19 : (Tryz.f3.resultTypes.all (fun t => Tryz.prog.readableRec t && decide (t < Tryz.prog.types.size))) = true := by kernel_rfl
set_option maxRecDepth 1000000 in
theorem emitThere_fact20 : ((Rows.emitThereRow.ifacesOut == Tryz.f3.resultTypes.toList.any (Tryz.prog.ifacesRec ·))) = true := by kernel_rfl
set_option maxRecDepth 1000000 in
theorem emitThere_fact21 : ((Rows.emitThereRow.loopsOut == Tryz.f3.resultTypes.toList.any (Tryz.prog.loopsFrom ·))) = true := by kernel_rfl
set_option maxRecDepth 1000000 in
theorem emitThere_fact22 : ((Rows.emitThereRow.plainKeys == Tryz.prog.plainKeys)) = true := by kernel_rfl
set_option maxRecDepth 1000000 in
theorem emitThere_fact23 : (Rows.emitThereRow.shortTexts.isNone) = true := by kernel_rfl
set_option maxRecDepth 1000000 in
theorem emitThere_fact24 : (Tryz.prog.stopsHeard) = true := by kernel_rfl
set_option maxRecDepth 1000000 in
theorem emitThere_fact25 : (Tryz.prog.mayEnter) = true := by kernel_rfl
set_option maxRecDepth 1000000 in
theorem emitThere_fact26 : ((Rows.emitThereRow.lifted == Tryz.prog.liftsFinal)) = true := by kernel_rfl
set_option maxRecDepth 1000000 in
theorem emitThere_fact27 : ((Tryz.prog.make == some Rows.emitThereRow.make)) = true := by kernel_rfl
set_option maxRecDepth 1000000 in
theorem emitThere_fact28 : ((Rows.emitThereRow.kinds == (if Rows.emitThereRow.domain.isEmpty then [] else Tryz.f3.params.toList.map fun t => match Tryz.prog.underlying t with | some (.int k) => some k | _ => none))) = true := by kernel_rfl
set_option maxRecDepth 1000000 in
theorem emitThere_fact29 : ((Rows.emitThereRow.pinned == Rows.emitThereRow.pinnedBy)) = true := by kernel_rfl
set_option maxRecDepth 1000000 in
theorem emitThere_fact30 : ((Rows.emitThereRow.veiled == (Tryz.f3.params.toList ++ Rows.emitThereSpec.plain.varTypes Tryz.prog ++ Tryz.f3.resultTypes.toList).any (Tryz.prog.veiledRec ·))) = true := by kernel_rfl
set_option maxRecDepth 1000000 in
theorem emitThere_fact31 : (Rows.emitThereRow.veiledFits Tryz.prog Tryz.f3.params.toList (Tryz.f3.params.toList ++ Rows.emitThereSpec.plain.varTypes Tryz.prog ++ Tryz.f3.resultTypes.toList)) = true := by kernel_rfl
theorem band {a b : Bool} (h : a = true) (k : b = true) : (a && b) = true := by rw [h, k]; rfl
set_option maxRecDepth 1000000 in
theorem emitThere_closed : joinedFacts Tryz.prog 3 Tryz.f3 Rows.emitThereSpec Rows.emitThereRow = true := by
  unfold joinedFacts
  refine band ?_ emitThere_fact31
  refine band ?_ emitThere_fact30
  refine band ?_ emitThere_fact29
  refine band ?_ emitThere_fact28
  refine band ?_ emitThere_fact27
  refine band ?_ emitThere_fact26
  refine band ?_ emitThere_fact25
  refine band ?_ emitThere_fact24
  refine band ?_ emitThere_fact23
  refine band ?_ emitThere_fact22
  refine band ?_ emitThere_fact21
  refine band ?_ emitThere_fact20
  refine band ?_ emitThere_fact19
  refine band ?_ emitThere_fact18
  refine band ?_ emitThere_fact17
  refine band ?_ emitThere_fact16
  refine band ?_ emitThere_fact15
  refine band ?_ emitThere_fact14
  refine band ?_ emitThere_fact13
  refine band ?_ emitThere_fact12
  refine band ?_ emitThere_fact11
  refine band ?_ emitThere_fact10
  refine band ?_ emitThere_fact9
  refine band ?_ emitThere_fact8
  refine band ?_ emitThere_fact7
  refine band ?_ emitThere_fact6
  refine band ?_ emitThere_fact5
  refine band ?_ emitThere_fact4
  refine band ?_ emitThere_fact3
  refine band ?_ emitThere_fact2
  refine band ?_ emitThere_fact1
  exact emitThere_fact0
end Go.Proofs.YtgcpcgaigbnniaaGreat
