/-
  The closed facts of the row of MixedNone, each by itself. No condition.
-/
import Derived.Test.YtalhegeanpaolaaGreatRows
import Derived.Test.YtalhegeanpaolaaGreatChecked
import Derived.ProofKit
namespace Go.Proofs.YtalhegeanpaolaaGreat
open Go.ChangeShapes Go.WideShapes Go.ChangeAt Go.RowKit

set_option maxRecDepth 1000000 in
theorem mixedNone_fact0 : (Rows.mixedNoneRow.wf (OpenSpec.ofChange Rows.mixedNoneSpec)) = true := by kernel_rfl
set_option maxRecDepth 1000000 in
theorem mixedNone_fact1 : (laidOutB Tryz.prog) = true := by kernel_rfl
set_option maxRecDepth 1000000 in
theorem mixedNone_fact2 : (mapsRowed Tryz.prog) = true := by kernel_rfl
set_option maxRecDepth 1000000 in
theorem mixedNone_fact3 : (Tryz.f3.params.all (Tryz.prog.readableRec ·)) = true := by kernel_rfl
set_option maxRecDepth 1000000 in
theorem mixedNone_fact4 : (namedTie Tryz.prog Rows.mixedNoneRow.named Rows.mixedNoneSpec.vars) = true := by kernel_rfl
set_option maxRecDepth 1000000 in
theorem mixedNone_fact5 : ((Rows.mixedNoneRow.stops == [])) = true := by kernel_rfl
set_option maxRecDepth 1000000 in
theorem mixedNone_fact6 : ((Tryz.prog.stops == [])) = true := by kernel_rfl
set_option maxRecDepth 1000000 in
theorem mixedNone_fact7 : ((Rows.mixedNoneRow.knobs == [])) = true := by kernel_rfl
set_option maxRecDepth 1000000 in
theorem mixedNone_fact8 : ((Tryz.prog.stopKnobs == [])) = true := by kernel_rfl
set_option maxRecDepth 1000000 in
theorem mixedNone_fact9 : ((Rows.mixedNoneRow.inPlace == Tryz.prog.inPlace 3)) = true := by kernel_rfl
set_option maxRecDepth 1000000 in
theorem mixedNone_fact10 : ((Rows.mixedNoneRow.unfollowed == Tryz.prog.unfollowed 3)) = true := by kernel_rfl
set_option maxRecDepth 1000000 in
theorem mixedNone_fact11 : ((Rows.mixedNoneRow.recurses == Tryz.prog.recurses 3)) = true := by kernel_rfl
set_option maxRecDepth 1000000 in
theorem mixedNone_fact12 : ((Rows.mixedNoneRow.named == Tryz.prog.varsNamed 3)) = true := by kernel_rfl
set_option maxRecDepth 1000000 in
theorem mixedNone_fact13 : ((Rows.mixedNoneRow.maps == (Tryz.f3.params.toList ++ Rows.mixedNoneSpec.plain.varTypes Tryz.prog).any (Tryz.prog.mapsRec ·))) = true := by kernel_rfl
set_option maxRecDepth 1000000 in
theorem mixedNone_fact14 : ((Rows.mixedNoneRow.ifaces == (Tryz.f3.params.toList ++ Rows.mixedNoneSpec.plain.varTypes Tryz.prog).any (Tryz.prog.ifacesRec ·))) = true := by kernel_rfl
set_option maxRecDepth 1000000 in
theorem mixedNone_fact15 : ((Rows.mixedNoneRow.mapsOut == Tryz.prog.mapsAmong Tryz.f3.resultTypes.toList)) = true := by kernel_rfl
set_option maxRecDepth 1000000 in
theorem mixedNone_fact16 : ((Rows.mixedNoneRow.loops == (Tryz.f3.params.toList ++ Rows.mixedNoneSpec.plain.varTypes Tryz.prog).any (Tryz.prog.loopsFrom ·))) = true := by kernel_rfl
set_option maxRecDepth 1000000 in
theorem mixedNone_fact17 : ((Rows.mixedNoneRow.wideKeys == (Tryz.f3.params.toList ++ Rows.mixedNoneSpec.plain.varTypes Tryz.prog ++ Tryz.f3.resultTypes.toList).any (Tryz.prog.wideKeysFrom ·))) = true := by kernel_rfl
set_option maxRecDepth 1000000 in
theorem mixedNone_fact18 : (Rows.mixedNoneSpec.vars.all (Tryz.prog.varReadable ·)) = true := by kernel_rfl
set_option maxRecDepth 1000000 in
theorem mixedNone_fact19 : (Tryz.f3.resultTypes.all (fun t => Tryz.prog.readableRec t && decide (t < Tryz.prog.types.size))) = true := by kernel_rfl
set_option maxRecDepth 1000000 in
theorem mixedNone_fact20 : ((Rows.mixedNoneRow.ifacesOut == Tryz.f3.resultTypes.toList.any (Tryz.prog.ifacesRec ·))) = true := by kernel_rfl
set_option maxRecDepth 1000000 in
theorem mixedNone_fact21 : ((Rows.mixedNoneRow.loopsOut == Tryz.f3.resultTypes.toList.any (Tryz.prog.loopsFrom ·))) = true := by kernel_rfl
set_option maxRecDepth 1000000 in
theorem mixedNone_fact22 : ((Rows.mixedNoneRow.plainKeys == Tryz.prog.plainKeys)) = true := by kernel_rfl
set_option maxRecDepth 1000000 in
theorem mixedNone_fact23 : (Rows.mixedNoneRow.shortTexts.isNone) = true := by kernel_rfl
set_option maxRecDepth 1000000 in
theorem mixedNone_fact24 : (Tryz.prog.stopsHeard) = true := by kernel_rfl
set_option maxRecDepth 1000000 in
theorem mixedNone_fact25 : (Tryz.prog.mayEnter) = true := by kernel_rfl
set_option maxRecDepth 1000000 in
theorem mixedNone_fact26 : ((Rows.mixedNoneRow.lifted == Tryz.prog.liftsFinal)) = true := by kernel_rfl
set_option maxRecDepth 1000000 in
theorem mixedNone_fact27 : ((Tryz.prog.make == some Rows.mixedNoneRow.make)) = true := by kernel_rfl
set_option maxRecDepth 1000000 in
theorem mixedNone_fact28 : ((Rows.mixedNoneRow.kinds == (if Rows.mixedNoneRow.domain.isEmpty then [] else Tryz.f3.params.toList.map fun t => match Tryz.prog.underlying t with | some (.int k) => some k | _ => none))) = true := by kernel_rfl
set_option maxRecDepth 1000000 in
theorem mixedNone_fact29 : ((Rows.mixedNoneRow.pinned == Rows.mixedNoneRow.pinnedBy)) = true := by kernel_rfl
set_option maxRecDepth 1000000 in
theorem mixedNone_fact30 : ((Rows.mixedNoneRow.veiled == (Tryz.f3.params.toList ++ Rows.mixedNoneSpec.plain.varTypes Tryz.prog ++ Tryz.f3.resultTypes.toList).any (Tryz.prog.veiledRec ·))) = true := by kernel_rfl
set_option maxRecDepth 1000000 in
theorem mixedNone_fact31 : (Rows.mixedNoneRow.veiledFits Tryz.prog Tryz.f3.params.toList (Tryz.f3.params.toList ++ Rows.mixedNoneSpec.plain.varTypes Tryz.prog ++ Tryz.f3.resultTypes.toList)) = true := by kernel_rfl
theorem band {a b : Bool} (h : a = true) (k : b = true) : (a && b) = true := by rw [h, k]; rfl
set_option maxRecDepth 1000000 in
theorem mixedNone_closed : joinedFacts Tryz.prog 3 Tryz.f3 Rows.mixedNoneSpec Rows.mixedNoneRow = true := by
  unfold joinedFacts
  refine band ?_ mixedNone_fact31
  refine band ?_ mixedNone_fact30
  refine band ?_ mixedNone_fact29
  refine band ?_ mixedNone_fact28
  refine band ?_ mixedNone_fact27
  refine band ?_ mixedNone_fact26
  refine band ?_ mixedNone_fact25
  refine band ?_ mixedNone_fact24
  refine band ?_ mixedNone_fact23
  refine band ?_ mixedNone_fact22
  refine band ?_ mixedNone_fact21
  refine band ?_ mixedNone_fact20
  refine band ?_ mixedNone_fact19
  refine band ?_ mixedNone_fact18
  refine band ?_ mixedNone_fact17
  refine band ?_ mixedNone_fact16
  refine band ?_ mixedNone_fact15
  refine band ?_ mixedNone_fact14
  refine band ?_ mixedNone_fact13
  refine band ?_ mixedNone_fact12
  refine band ?_ mixedNone_fact11
  refine band ?_ mixedNone_fact10
  refine band ?_ mixedNone_fact9
  refine band ?_ mixedNone_fact8
  refine band ?_ mixedNone_fact7
  refine band ?_ mixedNone_fact6
  refine band ?_ mixedNone_fact5
  refine band ?_ mixedNone_fact4
  refine band ?_ mixedNone_fact3
  refine band ?_ mixedNone_fact2
  refine band ?_ mixedNone_fact1
  exact mixedNone_fact0
end Go.Proofs.YtalhegeanpaolaaGreat
