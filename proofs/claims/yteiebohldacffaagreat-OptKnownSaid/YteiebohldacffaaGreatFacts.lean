/-
  The closed facts of the row of OptKnown, each by itself. No condition.
-/
import Derived.Test.YteiebohldacffaaGreatRows
import Derived.Test.YteiebohldacffaaGreatChecked
import Derived.ProofKit
namespace Go.Proofs.YteiebohldacffaaGreat
open Go.ChangeShapes Go.WideShapes Go.ChangeAt Go.RowKit

set_option maxRecDepth 1000000 in
theorem optKnown_fact0 : (Rows.optKnownRow.wf (OpenSpec.ofChange Rows.optKnownSpec)) = true := by kernel_rfl
set_option maxRecDepth 1000000 in
theorem optKnown_fact1 : (laidOutB Tryz.prog) = true := by kernel_rfl
set_option maxRecDepth 1000000 in
theorem optKnown_fact2 : (mapsRowed Tryz.prog) = true := by kernel_rfl
set_option maxRecDepth 1000000 in
theorem optKnown_fact3 : (Tryz.f3.params.all (Tryz.prog.readableRec ·)) = true := by kernel_rfl
set_option maxRecDepth 1000000 in
theorem optKnown_fact4 : (namedTie Tryz.prog Rows.optKnownRow.named Rows.optKnownSpec.vars) = true := by kernel_rfl
set_option maxRecDepth 1000000 in
theorem optKnown_fact5 : ((Rows.optKnownRow.stops == [])) = true := by kernel_rfl
set_option maxRecDepth 1000000 in
theorem optKnown_fact6 : ((Tryz.prog.stops == [])) = true := by kernel_rfl
set_option maxRecDepth 1000000 in
theorem optKnown_fact7 : ((Rows.optKnownRow.knobs == [])) = true := by kernel_rfl
set_option maxRecDepth 1000000 in
theorem optKnown_fact8 : ((Tryz.prog.stopKnobs == [])) = true := by kernel_rfl
set_option maxRecDepth 1000000 in
theorem optKnown_fact9 : ((Rows.optKnownRow.inPlace == Tryz.prog.inPlace 3)) = true := by kernel_rfl
set_option maxRecDepth 1000000 in
theorem optKnown_fact10 : ((Rows.optKnownRow.unfollowed == Tryz.prog.unfollowed 3)) = true := by kernel_rfl
set_option maxRecDepth 1000000 in
theorem optKnown_fact11 : ((Rows.optKnownRow.recurses == Tryz.prog.recurses 3)) = true := by kernel_rfl
set_option maxRecDepth 1000000 in
theorem optKnown_fact12 : ((Rows.optKnownRow.named == Tryz.prog.varsNamed 3)) = true := by kernel_rfl
set_option maxRecDepth 1000000 in
theorem optKnown_fact13 : ((Rows.optKnownRow.maps == (Tryz.f3.params.toList ++ Rows.optKnownSpec.plain.varTypes Tryz.prog).any (Tryz.prog.mapsRec ·))) = true := by kernel_rfl
set_option maxRecDepth 1000000 in
theorem optKnown_fact14 : ((Rows.optKnownRow.ifaces == (Tryz.f3.params.toList ++ Rows.optKnownSpec.plain.varTypes Tryz.prog).any (Tryz.prog.ifacesRec ·))) = true := by kernel_rfl
set_option maxRecDepth 1000000 in
theorem optKnown_fact15 : ((Rows.optKnownRow.mapsOut == Tryz.prog.mapsAmong Tryz.f3.resultTypes.toList)) = true := by kernel_rfl
set_option maxRecDepth 1000000 in
theorem optKnown_fact16 : ((Rows.optKnownRow.loops == (Tryz.f3.params.toList ++ Rows.optKnownSpec.plain.varTypes Tryz.prog).any (Tryz.prog.loopsFrom ·))) = true := by kernel_rfl
set_option maxRecDepth 1000000 in
theorem optKnown_fact17 : ((Rows.optKnownRow.wideKeys == (Tryz.f3.params.toList ++ Rows.optKnownSpec.plain.varTypes Tryz.prog ++ Tryz.f3.resultTypes.toList).any (Tryz.prog.wideKeysFrom ·))) = true := by kernel_rfl
set_option maxRecDepth 1000000 in
theorem optKnown_fact18 : (Rows.optKnownSpec.vars.all (Tryz.prog.varReadable ·)) = true := by kernel_rfl
set_option maxRecDepth 1000000 in
theorem optKnown_fact19 : (Tryz.f3.resultTypes.all (fun t => Tryz.prog.readableRec t && decide (t < Tryz.prog.types.size))) = true := by kernel_rfl
set_option maxRecDepth 1000000 in
theorem optKnown_fact20 : ((Rows.optKnownRow.ifacesOut == Tryz.f3.resultTypes.toList.any (Tryz.prog.ifacesRec ·))) = true := by kernel_rfl
set_option maxRecDepth 1000000 in
theorem optKnown_fact21 : ((Rows.optKnownRow.loopsOut == Tryz.f3.resultTypes.toList.any (Tryz.prog.loopsFrom ·))) = true := by kernel_rfl
set_option maxRecDepth 1000000 in
theorem optKnown_fact22 : ((Rows.optKnownRow.plainKeys == Tryz.prog.plainKeys)) = true := by kernel_rfl
set_option maxRecDepth 1000000 in
theorem optKnown_fact23 : (Rows.optKnownRow.shortTexts.isNone) = true := by kernel_rfl
set_option maxRecDepth 1000000 in
theorem optKnown_fact24 : (Tryz.prog.stopsHeard) = true := by kernel_rfl
set_option maxRecDepth 1000000 in
theorem optKnown_fact25 : (Tryz.prog.mayEnter) = true := by kernel_rfl
set_option maxRecDepth 1000000 in
theorem optKnown_fact26 : ((Rows.optKnownRow.lifted == Tryz.prog.liftsFinal)) = true := by kernel_rfl
set_option maxRecDepth 1000000 in
theorem optKnown_fact27 : ((Tryz.prog.make == some Rows.optKnownRow.make)) = true := by kernel_rfl
set_option maxRecDepth 1000000 in
theorem optKnown_fact28 : ((Rows.optKnownRow.kinds == (if Rows.optKnownRow.domain.isEmpty then [] else Tryz.f3.params.toList.map fun t => match Tryz.prog.underlying t with | some (.int k) => some k | _ => none))) = true := by kernel_rfl
set_option maxRecDepth 1000000 in
theorem optKnown_fact29 : ((Rows.optKnownRow.pinned == Rows.optKnownRow.pinnedBy)) = true := by kernel_rfl
set_option maxRecDepth 1000000 in
theorem optKnown_fact30 : ((Rows.optKnownRow.veiled == (Tryz.f3.params.toList ++ Rows.optKnownSpec.plain.varTypes Tryz.prog ++ Tryz.f3.resultTypes.toList).any (Tryz.prog.veiledRec ·))) = true := by kernel_rfl
set_option maxRecDepth 1000000 in
theorem optKnown_fact31 : (Rows.optKnownRow.veiledFits Tryz.prog Tryz.f3.params.toList (Tryz.f3.params.toList ++ Rows.optKnownSpec.plain.varTypes Tryz.prog ++ Tryz.f3.resultTypes.toList)) = true := by kernel_rfl
theorem band {a b : Bool} (h : a = true) (k : b = true) : (a && b) = true := by rw [h, k]; rfl
set_option maxRecDepth 1000000 in
theorem optKnown_closed : joinedFacts Tryz.prog 3 Tryz.f3 Rows.optKnownSpec Rows.optKnownRow = true := by
  unfold joinedFacts
  refine band ?_ optKnown_fact31
  refine band ?_ optKnown_fact30
  refine band ?_ optKnown_fact29
  refine band ?_ optKnown_fact28
  refine band ?_ optKnown_fact27
  refine band ?_ optKnown_fact26
  refine band ?_ optKnown_fact25
  refine band ?_ optKnown_fact24
  refine band ?_ optKnown_fact23
  refine band ?_ optKnown_fact22
  refine band ?_ optKnown_fact21
  refine band ?_ optKnown_fact20
  refine band ?_ optKnown_fact19
  refine band ?_ optKnown_fact18
  refine band ?_ optKnown_fact17
  refine band ?_ optKnown_fact16
  refine band ?_ optKnown_fact15
  refine band ?_ optKnown_fact14
  refine band ?_ optKnown_fact13
  refine band ?_ optKnown_fact12
  refine band ?_ optKnown_fact11
  refine band ?_ optKnown_fact10
  refine band ?_ optKnown_fact9
  refine band ?_ optKnown_fact8
  refine band ?_ optKnown_fact7
  refine band ?_ optKnown_fact6
  refine band ?_ optKnown_fact5
  refine band ?_ optKnown_fact4
  refine band ?_ optKnown_fact3
  refine band ?_ optKnown_fact2
  refine band ?_ optKnown_fact1
  exact optKnown_fact0
end Go.Proofs.YteiebohldacffaaGreat
