/-
  The closed facts of the row of EmitTells, each by itself. No condition.
-/
import Derived.Test.YtbkokbjpbbpllaaGreatRows
import Derived.Test.YtbkokbjpbbpllaaGreatChecked
import Derived.ProofKit
namespace Go.Proofs.YtbkokbjpbbpllaaGreat
open Go.ChangeShapes Go.WideShapes Go.ChangeAt Go.RowKit
set_option maxRecDepth 1000000 in
theorem emitTells_fact0 : (Rows.emitTellsRow.wf (OpenSpec.ofChange Rows.emitTellsSpec)) = true := by kernel_rfl
set_option maxRecDepth 1000000 in
theorem emitTells_fact1 : (laidOutB Tryz.prog) = true := by kernel_rfl
set_option maxRecDepth 1000000 in
theorem emitTells_fact2 : (mapsRowed Tryz.prog) = true := by kernel_rfl
set_option maxRecDepth 1000000 in
theorem emitTells_fact3 : (Tryz.f3.params.all (Tryz.prog.readableRec ·)) = true := by kernel_rfl
set_option maxRecDepth 1000000 in
theorem emitTells_fact4 : (namedTie Tryz.prog Rows.emitTellsRow.named Rows.emitTellsSpec.vars) = true := by kernel_rfl
set_option maxRecDepth 1000000 in
theorem emitTells_fact5 : ((Rows.emitTellsRow.stops == [])) = true := by kernel_rfl
set_option maxRecDepth 1000000 in
theorem emitTells_fact6 : ((Tryz.prog.stops == [])) = true := by kernel_rfl
set_option maxRecDepth 1000000 in
theorem emitTells_fact7 : ((Rows.emitTellsRow.knobs == [])) = true := by kernel_rfl
set_option maxRecDepth 1000000 in
theorem emitTells_fact8 : ((Tryz.prog.stopKnobs == [])) = true := by kernel_rfl
set_option maxRecDepth 1000000 in
theorem emitTells_fact9 : ((Rows.emitTellsRow.inPlace == Tryz.prog.inPlace 3)) = true := by kernel_rfl
set_option maxRecDepth 1000000 in
theorem emitTells_fact10 : ((Rows.emitTellsRow.unfollowed == Tryz.prog.unfollowed 3)) = true := by kernel_rfl
set_option maxRecDepth 1000000 in
theorem emitTells_fact11 : ((Rows.emitTellsRow.recurses == Tryz.prog.recurses 3)) = true := by kernel_rfl
set_option maxRecDepth 1000000 in
theorem emitTells_fact12 : ((Rows.emitTellsRow.named == Tryz.prog.varsNamed 3)) = true := by kernel_rfl
set_option maxRecDepth 1000000 in
theorem emitTells_fact13 : ((Rows.emitTellsRow.maps == (Tryz.f3.params.toList ++ Rows.emitTellsSpec.plain.varTypes Tryz.prog).any (Tryz.prog.mapsRec ·))) = true := by kernel_rfl
set_option maxRecDepth 1000000 in
theorem emitTells_fact14 : ((Rows.emitTellsRow.ifaces == (Tryz.f3.params.toList ++ Rows.emitTellsSpec.plain.varTypes Tryz.prog).any (Tryz.prog.ifacesRec ·))) = true := by kernel_rfl
set_option maxRecDepth 1000000 in
theorem emitTells_fact15 : ((Rows.emitTellsRow.mapsOut == Tryz.prog.mapsAmong Tryz.f3.resultTypes.toList)) = true := by kernel_rfl
set_option maxRecDepth 1000000 in
theorem emitTells_fact16 : ((Rows.emitTellsRow.loops == (Tryz.f3.params.toList ++ Rows.emitTellsSpec.plain.varTypes Tryz.prog).any (Tryz.prog.loopsFrom ·))) = true := by kernel_rfl
set_option maxRecDepth 1000000 in
theorem emitTells_fact17 : ((Rows.emitTellsRow.wideKeys == (Tryz.f3.params.toList ++ Rows.emitTellsSpec.plain.varTypes Tryz.prog ++ Tryz.f3.resultTypes.toList).any (Tryz.prog.wideKeysFrom ·))) = true := by kernel_rfl
set_option maxRecDepth 1000000 in
theorem emitTells_fact18 : (Rows.emitTellsSpec.vars.all (Tryz.prog.varReadable ·)) = true := by kernel_rfl
set_option maxRecDepth 1000000 in
theorem emitTells_fact19 : (Tryz.f3.resultTypes.all (fun t => Tryz.prog.readableRec t && decide (t < Tryz.prog.types.size))) = true := by kernel_rfl
set_option maxRecDepth 1000000 in
theorem emitTells_fact20 : ((Rows.emitTellsRow.ifacesOut == Tryz.f3.resultTypes.toList.any (Tryz.prog.ifacesRec ·))) = true := by kernel_rfl
set_option maxRecDepth 1000000 in
theorem emitTells_fact21 : ((Rows.emitTellsRow.loopsOut == Tryz.f3.resultTypes.toList.any (Tryz.prog.loopsFrom ·))) = true := by kernel_rfl
set_option maxRecDepth 1000000 in
theorem emitTells_fact22 : ((Rows.emitTellsRow.plainKeys == Tryz.prog.plainKeys)) = true := by kernel_rfl
set_option maxRecDepth 1000000 in
theorem emitTells_fact23 : (Rows.emitTellsRow.shortTexts.isNone) = true := by kernel_rfl
set_option maxRecDepth 1000000 in
theorem emitTells_fact24 : (Tryz.prog.stopsHeard) = true := by kernel_rfl
set_option maxRecDepth 1000000 in
theorem emitTells_fact25 : (Tryz.prog.mayEnter) = true := by kernel_rfl
set_option maxRecDepth 1000000 in
theorem emitTells_fact26 : ((Rows.emitTellsRow.lifted == Tryz.prog.liftsFinal)) = true := by kernel_rfl
set_option maxRecDepth 1000000 in
theorem emitTells_fact27 : ((Tryz.prog.make == some Rows.emitTellsRow.make)) = true := by kernel_rfl
set_option maxRecDepth 1000000 in
theorem emitTells_fact28 : ((Rows.emitTellsRow.kinds == (if Rows.emitTellsRow.domain.isEmpty then [] else Tryz.f3.params.toList.map fun t => match Tryz.prog.underlying t with | some (.int k) => some k | _ => none))) = true := by kernel_rfl
set_option maxRecDepth 1000000 in
theorem emitTells_fact29 : ((Rows.emitTellsRow.pinned == Rows.emitTellsRow.pinnedBy)) = true := by kernel_rfl
set_option maxRecDepth 1000000 in
theorem emitTells_fact30 : ((Rows.emitTellsRow.veiled == (Tryz.f3.params.toList ++ Rows.emitTellsSpec.plain.varTypes Tryz.prog ++ Tryz.f3.resultTypes.toList).any (Tryz.prog.veiledRec ·))) = true := by kernel_rfl
set_option maxRecDepth 1000000 in
theorem emitTells_fact31 : (Rows.emitTellsRow.veiledFits Tryz.prog Tryz.f3.params.toList (Tryz.f3.params.toList ++ Rows.emitTellsSpec.plain.varTypes Tryz.prog ++ Tryz.f3.resultTypes.toList)) = true := by kernel_rfl
theorem band {a b : Bool} (h : a = true) (k : b = true) : (a && b) = true := by rw [h, k]; rfl
set_option maxRecDepth 1000000 in
theorem emitTells_closed : joinedFacts Tryz.prog 3 Tryz.f3 Rows.emitTellsSpec Rows.emitTellsRow = true := by
  unfold joinedFacts
  refine band ?_ emitTells_fact31
  refine band ?_ emitTells_fact30
  refine band ?_ emitTells_fact29
  refine band ?_ emitTells_fact28
  refine band ?_ emitTells_fact27
  refine band ?_ emitTells_fact26
  refine band ?_ emitTells_fact25
  refine band ?_ emitTells_fact24
  refine band ?_ emitTells_fact23
  refine band ?_ emitTells_fact22
  refine band ?_ emitTells_fact21
  refine band ?_ emitTells_fact20
  refine band ?_ emitTells_fact19
  refine band ?_ emitTells_fact18
  refine band ?_ emitTells_fact17
  refine band ?_ emitTells_fact16
  refine band ?_ emitTells_fact15
  refine band ?_ emitTells_fact14
  refine band ?_ emitTells_fact13
  refine band ?_ emitTells_fact12
  refine band ?_ emitTells_fact11
  refine band ?_ emitTells_fact10
  refine band ?_ emitTells_fact9
  refine band ?_ emitTells_fact8
  refine band ?_ emitTells_fact7
  refine band ?_ emitTells_fact6
  refine band ?_ emitTells_fact5
  refine band ?_ emitTells_fact4
  refine band ?_ emitTells_fact3
  refine band ?_ emitTells_fact2
  refine band ?_ emitTells_fact1
  exact emitTells_fact0
end Go.Proofs.YtbkokbjpbbpllaaGreat
