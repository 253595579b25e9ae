/-
  The closed facts of the row of ParseKnown, each by itself. No condition.
-/
import Derived.Test.YtcnllglgijgnkaaGreatDoorRows
import Derived.Test.YtcnllglgijgnkaaGreatDoorChecked
import Derived.ProofKit
namespace Go.Proofs.YtcnllglgijgnkaaGreatDoor
open Go.ChangeShapes Go.WideShapes Go.ChangeAt Go.RowKit

set_option maxRecDepth 1000000 in
theorem parseKnown_fact0 : (Rows.parseKnownRow.wf (OpenSpec.ofChange Rows.parseKnownSpec)) = true := by kernel_rfl
set_option maxRecDepth 1000000 in
theorem parseKnown_fact1 : (laidOutB Tryz.prog) = true := by kernel_rfl
set_option maxRecDepth 1000000 in
theorem parseKnown_fact2 : (mapsRowed Tryz.prog) = true := by kernel_rfl
set_option maxRecDepth 1000000 in
theorem parseKnown_fact3 : (Tryz.f3.params.all (Tryz.prog.readableRec ·)) = true := by kernel_rfl
set_option maxRecDepth 1000000 in
theorem parseKnown_fact4 : (namedTie Tryz.prog Rows.parseKnownRow.named Rows.parseKnownSpec.vars) = true := by kernel_rfl
set_option maxRecDepth 1000000 in
theorem parseKnown_fact5 : ((Rows.parseKnownRow.stops == [])) = true := by kernel_rfl
set_option maxRecDepth 1000000 in
theorem parseKnown_fact6 : ((Tryz.prog.stops == [])) = true := by kernel_rfl
set_option maxRecDepth 1000000 in
theorem parseKnown_fact7 : ((Rows.parseKnownRow.knobs == [])) = true := by kernel_rfl
set_option maxRecDepth 1000000 in
theorem parseKnown_fact8 : ((Tryz.prog.stopKnobs == [])) = true := by kernel_rfl
set_option maxRecDepth 1000000 in
theorem parseKnown_fact9 : ((Rows.parseKnownRow.inPlace == Tryz.prog.inPlace 3)) = true := by kernel_rfl
set_option maxRecDepth 1000000 in
theorem parseKnown_fact10 : ((Rows.parseKnownRow.unfollowed == Tryz.prog.unfollowed 3)) = true := by kernel_rfl
set_option maxRecDepth 1000000 in
theorem parseKnown_fact11 : ((Rows.parseKnownRow.recurses == Tryz.prog.recurses 3)) = true := by kernel_rfl
set_option maxRecDepth 1000000 in
theorem parseKnown_fact12 : ((Rows.parseKnownRow.named == Tryz.prog.varsNamed 3)) = true := by kernel_rfl
set_option maxRecDepth 1000000 in
theorem parseKnown_fact13 : ((Rows.parseKnownRow.maps == (Tryz.f3.params.toList ++ Rows.parseKnownSpec.plain.varTypes Tryz.prog).any (Tryz.prog.mapsRec ·))) = true := by kernel_rfl
set_option maxRecDepth 1000000 in
theorem parseKnown_fact14 : ((Rows.parseKnownRow.ifaces == (Tryz.f3.params.toList ++ Rows.parseKnownSpec.plain.varTypes Tryz.prog).any (Tryz.prog.ifacesRec ·))) = true := by kernel_rfl
set_option maxRecDepth 1000000 in
theorem parseKnown_fact15 : ((Rows.parseKnownRow.mapsOut == Tryz.prog.mapsAmong Tryz.f3.resultTypes.toList)) = true := by kernel_rfl
set_option maxRecDepth 1000000 in
theorem parseKnown_fact16 : ((Rows.parseKnownRow.loops == (Tryz.f3.params.toList ++ Rows.parseKnownSpec.plain.varTypes Tryz.prog).any (Tryz.prog.loopsFrom ·))) = true := by kernel_rfl
set_option maxRecDepth 1000000 in
theorem parseKnown_fact17 : ((Rows.parseKnownRow.wideKeys == (Tryz.f3.params.toList ++ Rows.parseKnownSpec.plain.varTypes Tryz.prog ++ Tryz.f3.resultTypes.toList).any (Tryz.prog.wideKeysFrom ·))) = true := by kernel_rfl
set_option maxRecDepth 1000000 in
theorem parseKnown_fact18 : (Rows.parseKnownSpec.vars.all (Tryz.prog.varReadable ·)) = true := by kernel_rfl
set_option maxRecDepth 1000000 in
theorem parseKnown_fact19 : (Tryz.f3.resultTypes.all (fun t => Tryz.prog.readableRec t && decide (t < Tryz.prog.types.size))) = true := by kernel_rfl
set_option maxRecDepth 1000000 in
theorem parseKnown_fact20 : ((Rows.parseKnownRow.ifacesOut == Tryz.f3.resultTypes.toList.any (Tryz.prog.ifacesRec ·))) = true := by kernel_rfl
set_option maxRecDepth 1000000 in
theorem parseKnown_fact21 : ((Rows.parseKnownRow.loopsOut == Tryz.f3.resultTypes.toList.any (Tryz.prog.loopsFrom ·))) = true := by kernel_rfl
set_option maxRecDepth 1000000 in
theorem parseKnown_fact22 : ((Rows.parseKnownRow.plainKeys == Tryz.prog.plainKeys)) = true := by kernel_rfl
set_option maxRecDepth 1000000 in
theorem parseKnown_fact23 : (Rows.parseKnownRow.shortTexts.isNone) = true := by kernel_rfl
set_option maxRecDepth 1000000 in
theorem parseKnown_fact24 : (Tryz.prog.stopsHeard) = true := by kernel_rfl
set_option maxRecDepth 1000000 in
theorem parseKnown_fact25 : (Tryz.prog.mayEnter) = true := by kernel_rfl
set_option maxRecDepth 1000000 in
theorem parseKnown_fact26 : ((Rows.parseKnownRow.lifted == Tryz.prog.liftsFinal)) = true := by kernel_rfl
set_option maxRecDepth 1000000 in
theorem parseKnown_fact27 : ((Tryz.prog.make == some Rows.parseKnownRow.make)) = true := by kernel_rfl
set_option maxRecDepth 1000000 in
theorem parseKnown_fact28 : ((Rows.parseKnownRow.kinds == (if Rows.parseKnownRow.domain.isEmpty then [] else Tryz.f3.params.toList.map fun t => match Tryz.prog.underlying t with | some (.int k) => some k | _ => none))) = true := by kernel_rfl
set_option maxRecDepth 1000000 in
theorem parseKnown_fact29 : ((Rows.parseKnownRow.pinned == Rows.parseKnownRow.pinnedBy)) = true := by kernel_rfl
set_option maxRecDepth 1000000 in
theorem parseKnown_fact30 : ((Rows.parseKnownRow.veiled == (Tryz.f3.params.toList ++ Rows.parseKnownSpec.plain.varTypes Tryz.prog ++ Tryz.f3.resultTypes.toList).any (Tryz.prog.veiledRec ·))) = true := by kernel_rfl
set_option maxRecDepth 1000000 in
theorem parseKnown_fact31 : (Rows.parseKnownRow.veiledFits Tryz.prog Tryz.f3.params.toList (Tryz.f3.params.toList ++ Rows.parseKnownSpec.plain.varTypes Tryz.prog ++ Tryz.f3.resultTypes.toList)) = true := by kernel_rfl
theorem band {a b : Bool} (h : a = true) (k : b = true) : (a && b) = true := by rw [h, k]; rfl
set_option maxRecDepth 1000000 in
theorem parseKnown_closed : joinedFacts Tryz.prog 3 Tryz.f3 Rows.parseKnownSpec Rows.parseKnownRow = true := by
  unfold joinedFacts
  refine band ?_ parseKnown_fact31
  refine band ?_ parseKnown_fact30
  refine band ?_ parseKnown_fact29
  refine band ?_ parseKnown_fact28
  refine band ?_ parseKnown_fact27
  refine band ?_ parseKnown_fact26
  refine band ?_ parseKnown_fact25
  refine band ?_ parseKnown_fact24
  refine band ?_ parseKnown_fact23
  refine band ?_ parseKnown_fact22
  refine band ?_ parseKnown_fact21
  refine band ?_ parseKnown_fact20
  refine band ?_ parseKnown_fact19
  refine band ?_ parseKnown_fact18
  refine band ?_ parseKnown_fact17
  refine band ?_ parseKnown_fact16
  refine band ?_ parseKnown_fact15
  refine band ?_ parseKnown_fact14
  refine band ?_ parseKnown_fact13
  refine band ?_ parseKnown_fact12
  refine band ?_ parseKnown_fact11
  refine band ?_ parseKnown_fact10
  refine band ?_ parseKnown_fact9
  refine band ?_ parseKnown_fact8
  refine band ?_ parseKnown_fact7
  refine band ?_ parseKnown_fact6
  refine band ?_ parseKnown_fact5
  refine band ?_ parseKnown_fact4
  refine band ?_ parseKnown_fact3
  refine band ?_ parseKnown_fact2
  refine band ?_ parseKnown_fact1
  exact parseKnown_fact0
end Go.Proofs.YtcnllglgijgnkaaGreatDoor
