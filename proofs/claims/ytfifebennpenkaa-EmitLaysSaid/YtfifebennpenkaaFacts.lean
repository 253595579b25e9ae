/-
  The closed facts of the row of EmitLays, each by itself. No condition.
-/
import Derived.Test.YtfifebennpenkaaRows
import Derived.Test.YtfifebennpenkaaChecked
import Derived.ProofKit
namespace Go.Proofs.Ytfifebennpenkaa
open Go.ChangeShapes Go.WideShapes Go.ChangeAt Go.RowKit

set_option maxRecDepth 1000000 in
theorem emitLays_fact0 : (Rows.emitLaysRow.wf (OpenSpec.ofChange Rows.emitLaysSpec)) = true := by kernel_rfl
set_option maxRecDepth 1000000 in
theorem emitLays_fact1 : (laidOutB Try.prog) = true := by kernel_rfl
set_option maxRecDepth 1000000 in
theorem emitLays_fact2 : (mapsRowed Try.prog) = true := by kernel_rfl
set_option maxRecDepth 1000000 in
theorem emitLays_fact3 : (Try.f3.params.all (Try.prog.readableRec ·)) = true := by kernel_rfl
set_option maxRecDepth 1000000 in
theorem emitLays_fact4 : (namedTie Try.prog Rows.emitLaysRow.named Rows.emitLaysSpec.vars) = true := by kernel_rfl
set_option maxRecDepth 1000000 in
theorem emitLays_fact5 : ((Rows.emitLaysRow.stops == [])) = true := by kernel_rfl
set_option maxRecDepth 1000000 in
theorem emitLays_fact6 : ((Try.prog.stops == [])) = true := by kernel_rfl
set_option maxRecDepth 1000000 in
theorem emitLays_fact7 : ((Rows.emitLaysRow.knobs == [])) = true := by kernel_rfl
set_option maxRecDepth 1000000 in
theorem emitLays_fact8 : ((Try.prog.stopKnobs == [])) = true := by kernel_rfl
set_option maxRecDepth 1000000 in
theorem emitLays_fact9 : ((Rows.emitLaysRow.inPlace == Try.prog.inPlace 3)) = true := by kernel_rfl
set_option maxRecDepth 1000000 in
theorem emitLays_fact10 : ((Rows.emitLaysRow.unfollowed == Try.prog.unfollowed 3)) = true := by kernel_rfl
set_option maxRecDepth 1000000 in
theorem emitLays_fact11 : ((Rows.emitLaysRow.recurses == Try.prog.recurses 3)) = true := by kernel_rfl
set_option maxRecDepth 1000000 in
theorem emitLays_fact12 : ((Rows.emitLaysRow.named == Try.prog.varsNamed 3)) = true := by kernel_rfl
set_option maxRecDepth 1000000 in
theorem emitLays_fact13 : ((Rows.emitLaysRow.maps == (Try.f3.params.toList ++ Rows.emitLaysSpec.plain.varTypes Try.prog).any (Try.prog.mapsRec ·))) = true := by kernel_rfl
set_option maxRecDepth 1000000 in
theorem emitLays_fact14 : ((Rows.emitLaysRow.ifaces == (Try.f3.params.toList ++ Rows.emitLaysSpec.plain.varTypes Try.prog).any (Try.prog.ifacesRec ·))) = true := by kernel_rfl
set_option maxRecDepth 1000000 in
theorem emitLays_fact15 : ((Rows.emitLaysRow.mapsOut == Try.prog.mapsAmong Try.f3.resultTypes.toList)) = true := by kernel_rfl
set_option maxRecDepth 1000000 in
theorem emitLays_fact16 : ((Rows.emitLaysRow.loops == (Try.f3.params.toList ++ Rows.emitLaysSpec.plain.varTypes Try.prog).any (Try.prog.loopsFrom ·))) = true := by kernel_rfl
set_option maxRecDepth 1000000 in
theorem emitLays_fact17 : ((Rows.emitLaysRow.wideKeys == (Try.f3.params.toList ++ Rows.emitLaysSpec.plain.varTypes Try.prog ++ Try.f3.resultTypes.toList).any (Try.prog.wideKeysFrom ·))) = true := by kernel_rfl
set_option maxRecDepth 1000000 in
theorem emitLays_fact18 : (Rows.emitLaysSpec.vars.all (Try.prog.varReadable ·)) = true := by kernel_rfl
set_option maxRecDepth 1000000 in
theorem emitLays_fact19 : (Try.f3.resultTypes.all (fun t => Try.prog.readableRec t && decide (t < Try.prog.types.size))) = true := by kernel_rfl
set_option maxRecDepth 1000000 in
theorem emitLays_fact20 : ((Rows.emitLaysRow.ifacesOut == Try.f3.resultTypes.toList.any (Try.prog.ifacesRec ·))) = true := by kernel_rfl
set_option maxRecDepth 1000000 in
theorem emitLays_fact21 : ((Rows.emitLaysRow.loopsOut == Try.f3.resultTypes.toList.any (Try.prog.loopsFrom ·))) = true := by kernel_rfl
set_option maxRecDepth 1000000 in
theorem emitLays_fact22 : ((Rows.emitLaysRow.plainKeys == Try.prog.plainKeys)) = true := by kernel_rfl
set_option maxRecDepth 1000000 in
theorem emitLays_fact23 : (Rows.emitLaysRow.shortTexts.isNone) = true := by kernel_rfl
set_option maxRecDepth 1000000 in
theorem emitLays_fact24 : (Try.prog.stopsHeard) = true := by kernel_rfl
set_option maxRecDepth 1000000 in
theorem emitLays_fact25 : (Try.prog.mayEnter) = true := by kernel_rfl
set_option maxRecDepth 1000000 in
theorem emitLays_fact26 : ((Rows.emitLaysRow.lifted == Try.prog.liftsFinal)) = true := by kernel_rfl
set_option maxRecDepth 1000000 in
theorem emitLays_fact27 : ((Try.prog.make == some Rows.emitLaysRow.make)) = true := by kernel_rfl
set_option maxRecDepth 1000000 in
theorem emitLays_fact28 : ((Rows.emitLaysRow.kinds == (if Rows.emitLaysRow.domain.isEmpty then [] else Try.f3.params.toList.map fun t => match Try.prog.underlying t with | some (.int k) => some k | _ => none))) = true := by kernel_rfl
set_option maxRecDepth 1000000 in
theorem emitLays_fact29 : ((Rows.emitLaysRow.pinned == Rows.emitLaysRow.pinnedBy)) = true := by kernel_rfl
set_option maxRecDepth 1000000 in
theorem emitLays_fact30 : ((Rows.emitLaysRow.veiled == (Try.f3.params.toList ++ Rows.emitLaysSpec.plain.varTypes Try.prog ++ Try.f3.resultTypes.toList).any (Try.prog.veiledRec ·))) = true := by kernel_rfl
set_option maxRecDepth 1000000 in
theorem emitLays_fact31 : (Rows.emitLaysRow.veiledFits Try.prog Try.f3.params.toList (Try.f3.params.toList ++ Rows.emitLaysSpec.plain.varTypes Try.prog ++ Try.f3.resultTypes.toList)) = true := by kernel_rfl
theorem band {a b : Bool} (h : a = true) (k : b = true) : (a && b) = true := by rw [h, k]; rfl
set_option maxRecDepth 1000000 in
theorem emitLays_closed : joinedFacts Try.prog 3 Try.f3 Rows.emitLaysSpec Rows.emitLaysRow = true := by
  unfold joinedFacts
  refine band ?_ emitLays_fact31
  refine band ?_ emitLays_fact30
  refine band ?_ emitLays_fact29
  refine band ?_ emitLays_fact28
  refine band ?_ emitLays_fact27
  refine band ?_ emitLays_fact26
  refine band ?_ emitLays_fact25
  refine band ?_ emitLays_fact24
  refine band ?_ emitLays_fact23
  refine band ?_ emitLays_fact22
  refine band ?_ emitLays_fact21
  refine band ?_ emitLays_fact20
  refine band ?_ emitLays_fact19
  refine band ?_ emitLays_fact18
  refine band ?_ emitLays_fact17
  refine band ?_ emitLays_fact16
  refine band ?_ emitLays_fact15
  refine band ?_ emitLays_fact14
  refine band ?_ emitLays_fact13
  refine band ?_ emitLays_fact12
  refine band ?_ emitLays_fact11
  refine band ?_ emitLays_fact10
  refine band ?_ emitLays_fact9
  refine band ?_ emitLays_fact8
  refine band ?_ emitLays_fact7
  refine band ?_ emitLays_fact6
  refine band ?_ emitLays_fact5
  refine band ?_ emitLays_fact4
  refine band ?_ emitLays_fact3
  refine band ?_ emitLays_fact2
  refine band ?_ emitLays_fact1
  exact emitLays_fact0
end Go.Proofs.Ytfifebennpenkaa
