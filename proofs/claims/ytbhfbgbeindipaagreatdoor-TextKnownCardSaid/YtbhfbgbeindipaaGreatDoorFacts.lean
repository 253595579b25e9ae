/-
  The closed facts of the row of TextKnown, each by itself. No condition.
-/
import Derived.Test.YtbhfbgbeindipaaGreatDoorRows
import Derived.Test.YtbhfbgbeindipaaGreatDoorChecked
import Derived.ProofKit
namespace Go.Proofs.YtbhfbgbeindipaaGreatDoor
open Go.ChangeShapes Go.WideShapes Go.ChangeAt Go.RowKit

set_option maxRecDepth 1000000 in
theorem textKnown_fact0 : (Rows.textKnownRow.wf (OpenSpec.ofChange Rows.textKnownSpec)) = true := by kernel_rfl
set_option maxRecDepth 1000000 in
theorem textKnown_fact1 : (laidOutB Tryz.prog) = true := by kernel_rfl
set_option maxRecDepth 1000000 in
theorem textKnown_fact2 : (mapsRowed Tryz.prog) = true := by kernel_rfl
set_option maxRecDepth 1000000 in
theorem textKnown_fact3 : (Tryz.f3.params.all (Tryz.prog.readableRec ·)) = true := by kernel_rfl
set_option maxRecDepth 1000000 in
theorem textKnown_fact4 : (namedTie Tryz.prog Rows.textKnownRow.named Rows.textKnownSpec.vars) = true := by kernel_rfl
set_option maxRecDepth 1000000 in
theorem textKnown_fact5 : ((Rows.textKnownRow.stops == [])) = true := by kernel_rfl
set_option maxRecDepth 1000000 in
theorem textKnown_fact6 : ((Tryz.prog.stops == [])) = true := by kernel_rfl
set_option maxRecDepth 1000000 in
theorem textKnown_fact7 : ((Rows.textKnownRow.knobs == [])) = true := by kernel_rfl
set_option maxRecDepth 1000000 in
theorem textKnown_fact8 : ((Tryz.prog.stopKnobs == [])) = true := by kernel_rfl
set_option maxRecDepth 1000000 in
theorem textKnown_fact9 : ((Rows.textKnownRow.inPlace == Tryz.prog.inPlace 3)) = true := by kernel_rfl
set_option maxRecDepth 1000000 in
theorem textKnown_fact10 : ((Rows.textKnownRow.unfollowed == Tryz.prog.unfollowed 3)) = true := by kernel_rfl
set_option maxRecDepth 1000000 in
theorem textKnown_fact11 : ((Rows.textKnownRow.recurses == Tryz.prog.recurses 3)) = true := by kernel_rfl
set_option maxRecDepth 1000000 in
theorem textKnown_fact12 : ((Rows.textKnownRow.named == Tryz.prog.varsNamed 3)) = true := by kernel_rfl
set_option maxRecDepth 1000000 in
theorem textKnown_fact13 : ((Rows.textKnownRow.maps == (Tryz.f3.params.toList ++ Rows.textKnownSpec.plain.varTypes Tryz.prog).any (Tryz.prog.mapsRec ·))) = true := by kernel_rfl
set_option maxRecDepth 1000000 in
theorem textKnown_fact14 : ((Rows.textKnownRow.ifaces == (Tryz.f3.params.toList ++ Rows.textKnownSpec.plain.varTypes Tryz.prog).any (Tryz.prog.ifacesRec ·))) = true := by kernel_rfl
set_option maxRecDepth 1000000 in
theorem textKnown_fact15 : ((Rows.textKnownRow.mapsOut == Tryz.prog.mapsAmong Tryz.f3.resultTypes.toList)) = true := by kernel_rfl
set_option maxRecDepth 1000000 in
theorem textKnown_fact16 : ((Rows.textKnownRow.loops == (Tryz.f3.params.toList ++ Rows.textKnownSpec.plain.varTypes Tryz.prog).any (Tryz.prog.loopsFrom ·))) = true := by kernel_rfl
set_option maxRecDepth 1000000 in
theorem textKnown_fact17 : ((Rows.textKnownRow.wideKeys == (Tryz.f3.params.toList ++ Rows.textKnownSpec.plain.varTypes Tryz.prog ++ Tryz.f3.resultTypes.toList).any (Tryz.prog.wideKeysFrom ·))) = true := by kernel_rfl
set_option maxRecDepth 1000000 in
theorem textKnown_fact18 : (Rows.textKnownSpec.vars.all (Tryz.prog.varReadable ·)) = true := by kernel_rfl
set_option maxRecDepth 1000000 in
theorem textKnown_fact19 : (Tryz.f3.resultTypes.all (fun t => Tryz.prog.readableRec t && decide (t < Tryz.prog.types.size))) = true := by kernel_rfl
set_option maxRecDepth 1000000 in
theorem textKnown_fact20 : ((Rows.textKnownRow.ifacesOut == Tryz.f3.resultTypes.toList.any (Tryz.prog.ifacesRec ·))) = true := by kernel_rfl
set_option maxRecDepth 1000000 in
theorem textKnown_fact21 : ((Rows.textKnownRow.loopsOut == Tryz.f3.resultTypes.toList.any (Tryz.prog.loopsFrom ·))) = true := by kernel_rfl
set_option maxRecDepth 1000000 in
theorem textKnown_fact22 : ((Rows.textKnownRow.plainKeys == Tryz.prog.plainKeys)) = true := by kernel_rfl
set_option maxRecDepth 1000000 in
theorem textKnown_fact23 : (Rows.textKnownRow.shortTexts.isNone) = true := by kernel_rfl
set_option maxRecDepth 1000000 in
theorem textKnown_fact24 : (Tryz.prog.stopsHeard) = true := by kernel_rfl
set_option maxRecDepth 1000000 in
theorem textKnown_fact25 : (Tryz.prog.mayEnter) = true := by kernel_rfl
set_option maxRecDepth 1000000 in
theorem textKnown_fact26 : ((Rows.textKnownRow.lifted == Tryz.prog.liftsFinal)) = true := by kernel_rfl
set_option maxRecDepth 1000000 in
theorem textKnown_fact27 : ((Tryz.prog.make == some Rows.textKnownRow.make)) = true := by kernel_rfl
set_option maxRecDepth 1000000 in
theorem textKnown_fact28 : ((Rows.textKnownRow.kinds == (if Rows.textKnownRow.domain.isEmpty then [] else Tryz.f3.params.toList.map fun t => match Tryz.prog.underlying t with | some (.int k) => some k | _ => none))) = true := by kernel_rfl
set_option maxRecDepth 1000000 in
theorem textKnown_fact29 : ((Rows.textKnownRow.pinned == Rows.textKnownRow.pinnedBy)) = true := by kernel_rfl
set_option maxRecDepth 1000000 in
theorem textKnown_fact30 : ((Rows.textKnownRow.veiled == (Tryz.f3.params.toList ++ Rows.textKnownSpec.plain.varTypes Tryz.prog ++ Tryz.f3.resultTypes.toList).any (Tryz.prog.veiledRec ·))) = true := by kernel_rfl
set_option maxRecDepth 1000000 in
theorem textKnown_fact31 : (Rows.textKnownRow.veiledFits Tryz.prog Tryz.f3.params.toList (Tryz.f3.params.toList ++ Rows.textKnownSpec.plain.varTypes Tryz.prog ++ Tryz.f3.resultTypes.toList)) = true := by kernel_rfl
theorem band {a b : Bool} (h : a = true) (k : b = true) : (a && b) = true := by rw [h, k]; rfl
set_option maxRecDepth 1000000 in
theorem textKnown_closed : joinedFacts Tryz.prog 3 Tryz.f3 Rows.textKnownSpec Rows.textKnownRow = true := by
  unfold joinedFacts
  refine band ?_ textKnown_fact31
  refine band ?_ textKnown_fact30
  refine band ?_ textKnown_fact29
  refine band ?_ textKnown_fact28
  refine band ?_ textKnown_fact27
  refine band ?_ textKnown_fact26
  refine band ?_ textKnown_fact25
  refine band ?_ textKnown_fact24
  refine band ?_ textKnown_fact23
  refine band ?_ textKnown_fact22
  refine band ?_ textKnown_fact21
  refine band ?_ textKnown_fact20
  refine band ?_ textKnown_fact19
  refine band ?_ textKnown_fact18
  refine band ?_ textKnown_fact17
  refine band ?_ textKnown_fact16
  refine band ?_ textKnown_fact15
  refine band ?_ textKnown_fact14
  refine band ?_ textKnown_fact13
  refine band ?_ textKnown_fact12
  refine band ?_ textKnown_fact11
  refine band ?_ textKnown_fact10
  refine band ?_ textKnown_fact9
  refine band ?_ textKnown_fact8
  refine band ?_ textKnown_fact7
  refine band ?_ textKnown_fact6
  refine band ?_ textKnown_fact5
  refine band ?_ textKnown_fact4
  refine band ?_ textKnown_fact3
  refine band ?_ textKnown_fact2
  refine band ?_ textKnown_fact1
  exact textKnown_fact0
end Go.Proofs.YtbhfbgbeindipaaGreatDoor
