/-
  The closed facts of the row of InterpNone, each by itself. No condition.
-/
import Derived.Test.YtcinccjcfkahnaaGreatRows
import Derived.Test.YtcinccjcfkahnaaGreatChecked
import Derived.ProofKit
namespace Go.Proofs.YtcinccjcfkahnaaGreat
open Go.ChangeShapes Go.WideShapes Go.ChangeAt Go.RowKit

set_option maxRecDepth 1000000 in
theorem interpNone_fact0 : (Rows.interpNoneRow.wf (OpenSpec.ofChange Rows.interpNoneSpec)) = true := by kernel_rfl
set_option maxRecDepth 1000000 in
theorem interpNone_fact1 : (laidOutB Tryz.prog) = true := by kernel_rfl
set_option maxRecDepth 1000000 in
theorem interpNone_fact2 : (mapsRowed Tryz.prog) = true := by kernel_rfl
set_option maxRecDepth 1000000 in
theorem interpNone_fact3 : (Tryz.f3.params.all (Tryz.prog.readableRec ·)) = true := by kernel_rfl
set_option maxRecDepth 1000000 in
theorem interpNone_fact4 : (namedTie Tryz.prog Rows.interpNoneRow.named Rows.interpNoneSpec.vars) = true := by kernel_rfl
set_option maxRecDepth 1000000 in
theorem interpNone_fact5 : ((Rows.interpNoneRow.stops == [])) = true := by kernel_rfl
set_option maxRecDepth 1000000 in
theorem interpNone_fact6 : ((Tryz.prog.stops == [])) = true := by kernel_rfl
set_option maxRecDepth 1000000 in
theorem interpNone_fact7 : ((Rows.interpNoneRow.knobs == [])) = true := by kernel_rfl
set_option maxRecDepth 1000000 in
theorem interpNone_fact8 : ((Tryz.prog.stopKnobs == [])) = true := by kernel_rfl
set_option maxRecDepth 1000000 in
theorem interpNone_fact9 : ((Rows.interpNoneRow.inPlace == Tryz.prog.inPlace 3)) = true := by kernel_rfl
set_option maxRecDepth 1000000 in
theorem interpNone_fact10 : ((Rows.interpNoneRow.unfollowed == Tryz.prog.unfollowed 3)) = true := by kernel_rfl
set_option maxRecDepth 1000000 in
theorem interpNone_fact11 : ((Rows.interpNoneRow.recurses == Tryz.prog.recurses 3)) = true := by kernel_rfl
set_option maxRecDepth 1000000 in
theorem interpNone_fact12 : ((Rows.interpNoneRow.named == Tryz.prog.varsNamed 3)) = true := by kernel_rfl
set_option maxRecDepth 1000000 in
theorem interpNone_fact13 : ((Rows.interpNoneRow.maps == (Tryz.f3.params.toList ++ Rows.interpNoneSpec.plain.varTypes Tryz.prog).any (Tryz.prog.mapsRec ·))) = true := by kernel_rfl
set_option maxRecDepth 1000000 in
theorem interpNone_fact14 : ((Rows.interpNoneRow.ifaces == (Tryz.f3.params.toList ++ Rows.interpNoneSpec.plain.varTypes Tryz.prog).any (Tryz.prog.ifacesRec ·))) = true := by kernel_rfl
set_option maxRecDepth 1000000 in
theorem interpNone_fact15 : ((Rows.interpNoneRow.mapsOut == Tryz.prog.mapsAmong Tryz.f3.resultTypes.toList)) = true := by kernel_rfl
set_option maxRecDepth 1000000 in
theorem interpNone_fact16 : ((Rows.interpNoneRow.loops == (Tryz.f3.params.toList ++ Rows.interpNoneSpec.plain.varTypes Tryz.prog).any (Tryz.prog.loopsFrom ·))) = true := by kernel_rfl
set_option maxRecDepth 1000000 in
theorem interpNone_fact17 : ((Rows.interpNoneRow.wideKeys == (Tryz.f3.params.toList ++ Rows.interpNoneSpec.plain.varTypes Tryz.prog ++ Tryz.f3.resultTypes.toList).any (Tryz.prog.wideKeysFrom ·))) = true := by kernel_rfl
set_option maxRecDepth 1000000 in
theorem interpNone_fact18 : (Rows.interpNoneSpec.vars.all (Tryz.prog.varReadable ·)) = true := by kernel_rfl
set_option maxRecDepth 1000000 in
theorem interpNone_fact19 : (Tryz.f3.resultTypes.all (fun t => Tryz.prog.readableRec t && decide (t < Tryz.prog.types.size))) = true := by kernel_rfl
set_option maxRecDepth 1000000 in
theorem interpNone_fact20 : ((Rows.interpNoneRow.ifacesOut == Tryz.f3.resultTypes.toList.any (Tryz.prog.ifacesRec ·))) = true := by kernel_rfl
set_option maxRecDepth 1000000 in
theorem interpNone_fact21 : ((Rows.interpNoneRow.loopsOut == Tryz.f3.resultTypes.toList.any (Tryz.prog.loopsFrom ·))) = true := by kernel_rfl
set_option maxRecDepth 1000000 in
theorem interpNone_fact22 : ((Rows.interpNoneRow.plainKeys == Tryz.prog.plainKeys)) = true := by kernel_rfl
set_option maxRecDepth 1000000 in
theorem interpNone_fact23 : (Rows.interpNoneRow.shortTexts.isNone) = true := by kernel_rfl
set_option maxRecDepth 1000000 in
theorem interpNone_fact24 : (Tryz.prog.stopsHeard) = true := by kernel_rfl
set_option maxRecDepth 1000000 in
theorem interpNone_fact25 : (Tryz.prog.mayEnter) = true := by kernel_rfl
set_option maxRecDepth 1000000 in
theorem interpNone_fact26 : ((Rows.interpNoneRow.lifted == Tryz.prog.liftsFinal)) = true := by kernel_rfl
set_option maxRecDepth 1000000 in
theorem interpNone_fact27 : ((Tryz.prog.make == some Rows.interpNoneRow.make)) = true := by kernel_rfl
set_option maxRecDepth 1000000 in
theorem interpNone_fact28 : ((Rows.interpNoneRow.kinds == (if Rows.interpNoneRow.domain.isEmpty then [] else Tryz.f3.params.toList.map fun t => match Tryz.prog.underlying t with | some (.int k) => some k | _ => none))) = true := by kernel_rfl
set_option maxRecDepth 1000000 in
theorem interpNone_fact29 : ((Rows.interpNoneRow.pinned == Rows.interpNoneRow.pinnedBy)) = true := by kernel_rfl
set_option maxRecDepth 1000000 in
theorem interpNone_fact30 : ((Rows.interpNoneRow.veiled == (Tryz.f3.params.toList ++ Rows.interpNoneSpec.plain.varTypes Tryz.prog ++ Tryz.f3.resultTypes.toList).any (Tryz.prog.veiledRec ·))) = true := by kernel_rfl
set_option maxRecDepth 1000000 in
theorem interpNone_fact31 : (Rows.interpNoneRow.veiledFits Tryz.prog Tryz.f3.params.toList (Tryz.f3.params.toList ++ Rows.interpNoneSpec.plain.varTypes Tryz.prog ++ Tryz.f3.resultTypes.toList)) = true := by kernel_rfl
theorem band {a b : Bool} (h : a = true) (k : b = true) : (a && b) = true := by rw [h, k]; rfl
set_option maxRecDepth 1000000 in
theorem interpNone_closed : joinedFacts Tryz.prog 3 Tryz.f3 Rows.interpNoneSpec Rows.interpNoneRow = true := by
  unfold joinedFacts
  refine band ?_ interpNone_fact31
  refine band ?_ interpNone_fact30
  refine band ?_ interpNone_fact29
  refine band ?_ interpNone_fact28
  refine band ?_ interpNone_fact27
  refine band ?_ interpNone_fact26
  refine band ?_ interpNone_fact25
  refine band ?_ interpNone_fact24
  refine band ?_ interpNone_fact23
  refine band ?_ interpNone_fact22
  refine band ?_ interpNone_fact21
  refine band ?_ interpNone_fact20
  refine band ?_ interpNone_fact19
  refine band ?_ interpNone_fact18
  refine band ?_ interpNone_fact17
  refine band ?_ interpNone_fact16
  refine band ?_ interpNone_fact15
  refine band ?_ interpNone_fact14
  refine band ?_ interpNone_fact13
  refine band ?_ interpNone_fact12
  refine band ?_ interpNone_fact11
  refine band ?_ interpNone_fact10
  refine band ?_ interpNone_fact9
  refine band ?_ interpNone_fact8
  refine band ?_ interpNone_fact7
  refine band ?_ interpNone_fact6
  refine band ?_ interpNone_fact5
  refine band ?_ interpNone_fact4
  refine band ?_ interpNone_fact3
  refine band ?_ interpNone_fact2
  refine band ?_ interpNone_fact1
  exact interpNone_fact0
end Go.Proofs.YtcinccjcfkahnaaGreat
