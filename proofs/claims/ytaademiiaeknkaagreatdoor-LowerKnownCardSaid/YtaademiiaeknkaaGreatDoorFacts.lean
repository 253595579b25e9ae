/-
  The closed facts of the row of LowerKnown, each by itself. No condition.
-/
import Derived.Test.YtaademiiaeknkaaGreatDoorRows
import Derived.Test.YtaademiiaeknkaaGreatDoorChecked
import Derived.ProofKit
namespace Go.Proofs.YtaademiiaeknkaaGreatDoor
open Go.ChangeShapes Go.WideShapes Go.ChangeAt Go.RowKit

set_option maxRecDepth 1000000 in
theorem lowerKnown_fact0 : (Rows.lowerKnownRow.wf (OpenSpec.ofChange Rows.lowerKnownSpec)) = true := by kernel_rfl
set_option maxRecDepth 1000000 in
theorem lowerKnown_fact1 : (laidOutB Tryz.prog) = true := by kernel_rfl
set_option maxRecDepth 1000000 in
theorem lowerKnown_fact2 : (mapsRowed Tryz.prog) = true := by kernel_rfl
set_option maxRecDepth 1000000 in
theorem lowerKnown_fact3 : (Tryz.f3.params.all (Tryz.prog.readableRec ·)) = true := by kernel_rfl
set_option maxRecDepth 1000000 in
theorem lowerKnown_fact4 : (namedTie Tryz.prog Rows.lowerKnownRow.named Rows.lowerKnownSpec.vars) = true := by kernel_rfl
set_option maxRecDepth 1000000 in
theorem lowerKnown_fact5 : ((Rows.lowerKnownRow.stops == [])) = true := by kernel_rfl
set_option maxRecDepth 1000000 in
theorem lowerKnown_fact6 : ((Tryz.prog.stops == [])) = true := by kernel_rfl
set_option maxRecDepth 1000000 in
theorem lowerKnown_fact7 : ((Rows.lowerKnownRow.knobs == [])) = true := by kernel_rfl
set_option maxRecDepth 1000000 in
theorem lowerKnown_fact8 : ((Tryz.prog.stopKnobs == [])) = true := by kernel_rfl
set_option maxRecDepth 1000000 in
theorem lowerKnown_fact9 : ((Rows.lowerKnownRow.inPlace == Tryz.prog.inPlace 3)) = true := by kernel_rfl
set_option maxRecDepth 1000000 in
theorem lowerKnown_fact10 : ((Rows.lowerKnownRow.unfollowed == Tryz.prog.unfollowed 3)) = true := by kernel_rfl
set_option maxRecDepth 1000000 in
theorem lowerKnown_fact11 : ((Rows.lowerKnownRow.recurses == Tryz.prog.recurses 3)) = true := by kernel_rfl
set_option maxRecDepth 1000000 in
theorem lowerKnown_fact12 : ((Rows.lowerKnownRow.named == Tryz.prog.varsNamed 3)) = true := by kernel_rfl
set_option maxRecDepth 1000000 in
theorem lowerKnown_fact13 : ((Rows.lowerKnownRow.maps == (Tryz.f3.params.toList ++ Rows.lowerKnownSpec.plain.varTypes Tryz.prog).any (Tryz.prog.mapsRec ·))) = true := by kernel_rfl
set_option maxRecDepth 1000000 in
theorem lowerKnown_fact14 : ((Rows.lowerKnownRow.ifaces == (Tryz.f3.params.toList ++ Rows.lowerKnownSpec.plain.varTypes Tryz.prog).any (Tryz.prog.ifacesRec ·))) = true := by kernel_rfl
set_option maxRecDepth 1000000 in
theorem lowerKnown_fact15 : ((Rows.lowerKnownRow.mapsOut == Tryz.prog.mapsAmong Tryz.f3.resultTypes.toList)) = true := by kernel_rfl
set_option maxRecDepth 1000000 in
theorem lowerKnown_fact16 : ((Rows.lowerKnownRow.loops == (Tryz.f3.params.toList ++ Rows.lowerKnownSpec.plain.varTypes Tryz.prog).any (Tryz.prog.loopsFrom ·))) = true := by kernel_rfl
set_option maxRecDepth 1000000 in
theorem lowerKnown_fact17 : ((Rows.lowerKnownRow.wideKeys == (Tryz.f3.params.toList ++ Rows.lowerKnownSpec.plain.varTypes Tryz.prog ++ Tryz.f3.resultTypes.toList).any (Tryz.prog.wideKeysFrom ·))) = true := by kernel_rfl
set_option maxRecDepth 1000000 in
theorem lowerKnown_fact18 : (Rows.lowerKnownSpec.vars.all (Tryz.prog.varReadable ·)) = true := by kernel_rfl
set_option maxRecDepth 1000000 in
theorem lowerKnown_fact19 : (Tryz.f3.resultTypes.all (fun t => Tryz.prog.readableRec t && decide (t < Tryz.prog.types.size))) = true := by kernel_rfl
set_option maxRecDepth 1000000 in
theorem lowerKnown_fact20 : ((Rows.lowerKnownRow.ifacesOut == Tryz.f3.resultTypes.toList.any (Tryz.prog.ifacesRec ·))) = true := by kernel_rfl
set_option maxRecDepth 1000000 in
theorem lowerKnown_fact21 : ((Rows.lowerKnownRow.loopsOut == Tryz.f3.resultTypes.toList.any (Tryz.prog.loopsFrom ·))) = true := by kernel_rfl
set_option maxRecDepth 1000000 in
theorem lowerKnown_fact22 : ((Rows.lowerKnownRow.plainKeys == Tryz.prog.plainKeys)) = true := by kernel_rfl
set_option maxRecDepth 1000000 in
theorem lowerKnown_fact23 : (Rows.lowerKnownRow.shortTexts.isNone) = true := by kernel_rfl
set_option maxRecDepth 1000000 in
theorem lowerKnown_fact24 : (Tryz.prog.stopsHeard) = true := by kernel_rfl
set_option maxRecDepth 1000000 in
theorem lowerKnown_fact25 : (Tryz.prog.mayEnter) = true := by kernel_rfl
set_option maxRecDepth 1000000 in
theorem lowerKnown_fact26 : ((Rows.lowerKnownRow.lifted == Tryz.prog.liftsFinal)) = true := by kernel_rfl
set_option maxRecDepth 1000000 in
theorem lowerKnown_fact27 : ((Tryz.prog.make == some Rows.lowerKnownRow.make)) = true := by kernel_rfl
set_option maxRecDepth 1000000 in
theorem lowerKnown_fact28 : ((Rows.lowerKnownRow.kinds == (if Rows.lowerKnownRow.domain.isEmpty then [] else Tryz.f3.params.toList.map fun t => match Tryz.prog.underlying t with | some (.int k) => some k | _ => none))) = true := by kernel_rfl
set_option maxRecDepth 1000000 in
theorem lowerKnown_fact29 : ((Rows.lowerKnownRow.pinned == Rows.lowerKnownRow.pinnedBy)) = true := by kernel_rfl
set_option maxRecDepth 1000000 in
theorem lowerKnown_fact30 : ((Rows.lowerKnownRow.veiled == (Tryz.f3.params.toList ++ Rows.lowerKnownSpec.plain.varTypes Tryz.prog ++ Tryz.f3.resultTypes.toList).any (Tryz.prog.veiledRec ·))) = true := by kernel_rfl
set_option maxRecDepth 1000000 in
theorem lowerKnown_fact31 : (Rows.lowerKnownRow.veiledFits Tryz.prog Tryz.f3.params.toList (Tryz.f3.params.toList ++ Rows.lowerKnownSpec.plain.varTypes Tryz.prog ++ Tryz.f3.resultTypes.toList)) = true := by kernel_rfl
theorem band {a b : Bool} (h : a = true) (k : b = true) : (a && b) = true := by rw [h, k]; rfl
set_option maxRecDepth 1000000 in
theorem lowerKnown_closed : joinedFacts Tryz.prog 3 Tryz.f3 Rows.lowerKnownSpec Rows.lowerKnownRow = true := by
  unfold joinedFacts
  refine band ?_ lowerKnown_fact31
  refine band ?_ lowerKnown_fact30
  refine band ?_ lowerKnown_fact29
  refine band ?_ lowerKnown_fact28
  refine band ?_ lowerKnown_fact27
  refine band ?_ lowerKnown_fact26
  refine band ?_ lowerKnown_fact25
  refine band ?_ lowerKnown_fact24
  refine band ?_ lowerKnown_fact23
  refine band ?_ lowerKnown_fact22
  refine band ?_ lowerKnown_fact21
  refine band ?_ lowerKnown_fact20
  refine band ?_ lowerKnown_fact19
  refine band ?_ lowerKnown_fact18
  refine band ?_ lowerKnown_fact17
  refine band ?_ lowerKnown_fact16
  refine band ?_ lowerKnown_fact15
  refine band ?_ lowerKnown_fact14
  refine band ?_ lowerKnown_fact13
  refine band ?_ lowerKnown_fact12
  refine band ?_ lowerKnown_fact11
  refine band ?_ lowerKnown_fact10
  refine band ?_ lowerKnown_fact9
  refine band ?_ lowerKnown_fact8
  refine band ?_ lowerKnown_fact7
  refine band ?_ lowerKnown_fact6
  refine band ?_ lowerKnown_fact5
  refine band ?_ lowerKnown_fact4
  refine band ?_ lowerKnown_fact3
  refine band ?_ lowerKnown_fact2
  refine band ?_ lowerKnown_fact1
  exact lowerKnown_fact0
end Go.Proofs.YtaademiiaeknkaaGreatDoor
