/-
  The closed facts of the row of LexKnown, each by itself. No condition.
-/
import Derived.Test.YtonccphblmiijaaGreatDoorRows
import Derived.Test.YtonccphblmiijaaGreatDoorChecked
import Derived.ProofKit
namespace Go.Proofs.YtonccphblmiijaaGreatDoor
open Go.ChangeShapes Go.WideShapes Go.ChangeAt Go.RowKit

set_option maxRecDepth 1000000 in
theorem lexKnown_fact0 : (Rows.lexKnownRow.wf (OpenSpec.ofChange Rows.lexKnownSpec)) = true := by kernel_rfl
set_option maxRecDepth 1000000 in
theorem lexKnown_fact1 : (laidOutB Tryz.prog) = true := by kernel_rfl
set_option maxRecDepth 1000000 in
theorem lexKnown_fact2 : (mapsRowed Tryz.prog) = true := by kernel_rfl
set_option maxRecDepth 1000000 in
theorem lexKnown_fact3 : (Tryz.f3.params.all (Tryz.prog.readableRec ·)) = true := by kernel_rfl
set_option maxRecDepth 1000000 in
theorem lexKnown_fact4 : (namedTie Tryz.prog Rows.lexKnownRow.named Rows.lexKnownSpec.vars) = true := by kernel_rfl
set_option maxRecDepth 1000000 in
theorem lexKnown_fact5 : ((Rows.lexKnownRow.stops == [])) = true := by kernel_rfl
set_option maxRecDepth 1000000 in
theorem lexKnown_fact6 : ((Tryz.prog.stops == [])) = true := by kernel_rfl
set_option maxRecDepth 1000000 in
theorem lexKnown_fact7 : ((Rows.lexKnownRow.knobs == [])) = true := by kernel_rfl
set_option maxRecDepth 1000000 in
theorem lexKnown_fact8 : ((Tryz.prog.stopKnobs == [])) = true := by kernel_rfl
set_option maxRecDepth 1000000 in
theorem lexKnown_fact9 : ((Rows.lexKnownRow.inPlace == Tryz.prog.inPlace 3)) = true := by kernel_rfl
set_option maxRecDepth 1000000 in
theorem lexKnown_fact10 : ((Rows.lexKnownRow.unfollowed == Tryz.prog.unfollowed 3)) = true := by kernel_rfl
set_option maxRecDepth 1000000 in
theorem lexKnown_fact11 : ((Rows.lexKnownRow.recurses == Tryz.prog.recurses 3)) = true := by kernel_rfl
set_option maxRecDepth 1000000 in
theorem lexKnown_fact12 : ((Rows.lexKnownRow.named == Tryz.prog.varsNamed 3)) = true := by kernel_rfl
set_option maxRecDepth 1000000 in
theorem lexKnown_fact13 : ((Rows.lexKnownRow.maps == (Tryz.f3.params.toList ++ Rows.lexKnownSpec.plain.varTypes Tryz.prog).any (Tryz.prog.mapsRec ·))) = true := by kernel_rfl
set_option maxRecDepth 1000000 in
theorem lexKnown_fact14 : ((Rows.lexKnownRow.ifaces == (Tryz.f3.params.toList ++ Rows.lexKnownSpec.plain.varTypes Tryz.prog).any (Tryz.prog.ifacesRec ·))) = true := by kernel_rfl
set_option maxRecDepth 1000000 in
theorem lexKnown_fact15 : ((Rows.lexKnownRow.mapsOut == Tryz.prog.mapsAmong Tryz.f3.resultTypes.toList)) = true := by kernel_rfl
set_option maxRecDepth 1000000 in
theorem lexKnown_fact16 : ((Rows.lexKnownRow.loops == (Tryz.f3.params.toList ++ Rows.lexKnownSpec.plain.varTypes Tryz.prog).any (Tryz.prog.loopsFrom ·))) = true := by kernel_rfl
set_option maxRecDepth 1000000 in
theorem lexKnown_fact17 : ((Rows.lexKnownRow.wideKeys == (Tryz.f3.params.toList ++ Rows.lexKnownSpec.plain.varTypes Tryz.prog ++ Tryz.f3.resultTypes.toList).any (Tryz.prog.wideKeysFrom ·))) = true := by kernel_rfl
set_option maxRecDepth 1000000 in
theorem lexKnown_fact18 : (Rows.lexKnownSpec.vars.all (Tryz.prog.varReadable ·)) = true := by kernel_rfl
set_option maxRecDepth 1000000 in
theorem lexKnown_fact19 : (Tryz.f3.resultTypes.all (fun t => Tryz.prog.readableRec t && decide (t < Tryz.prog.types.size))) = true := by kernel_rfl
set_option maxRecDepth 1000000 in
theorem lexKnown_fact20 : ((Rows.lexKnownRow.ifacesOut == Tryz.f3.resultTypes.toList.any (Tryz.prog.ifacesRec ·))) = true := by kernel_rfl
set_option maxRecDepth 1000000 in
theorem lexKnown_fact21 : ((Rows.lexKnownRow.loopsOut == Tryz.f3.resultTypes.toList.any (Tryz.prog.loopsFrom ·))) = true := by kernel_rfl
set_option maxRecDepth 1000000 in
theorem lexKnown_fact22 : ((Rows.lexKnownRow.plainKeys == Tryz.prog.plainKeys)) = true := by kernel_rfl
set_option maxRecDepth 1000000 in
theorem lexKnown_fact23 : (Rows.lexKnownRow.shortTexts.isNone) = true := by kernel_rfl
set_option maxRecDepth 1000000 in
theorem lexKnown_fact24 : (Tryz.prog.stopsHeard) = true := by kernel_rfl
set_option maxRecDepth 1000000 in
theorem lexKnown_fact25 : (Tryz.prog.mayEnter) = true := by kernel_rfl
set_option maxRecDepth 1000000 in
theorem lexKnown_fact26 : ((Rows.lexKnownRow.lifted == Tryz.prog.liftsFinal)) = true := by kernel_rfl
set_option maxRecDepth 1000000 in
theorem lexKnown_fact27 : ((Tryz.prog.make == some Rows.lexKnownRow.make)) = true := by kernel_rfl
set_option maxRecDepth 1000000 in
theorem lexKnown_fact28 : ((Rows.lexKnownRow.kinds == (if Rows.lexKnownRow.domain.isEmpty then [] else Tryz.f3.params.toList.map fun t => match Tryz.prog.underlying t with | some (.int k) => some k | _ => none))) = true := by kernel_rfl
set_option maxRecDepth 1000000 in
theorem lexKnown_fact29 : ((Rows.lexKnownRow.pinned == Rows.lexKnownRow.pinnedBy)) = true := by kernel_rfl
set_option maxRecDepth 1000000 in
theorem lexKnown_fact30 : ((Rows.lexKnownRow.veiled == (Tryz.f3.params.toList ++ Rows.lexKnownSpec.plain.varTypes Tryz.prog ++ Tryz.f3.resultTypes.toList).any (Tryz.prog.veiledRec ·))) = true := by kernel_rfl
set_option maxRecDepth 1000000 in
theorem lexKnown_fact31 : (Rows.lexKnownRow.veiledFits Tryz.prog Tryz.f3.params.toList (Tryz.f3.params.toList ++ Rows.lexKnownSpec.plain.varTypes Tryz.prog ++ Tryz.f3.resultTypes.toList)) = true := by kernel_rfl
theorem band {a b : Bool} (h : a = true) (k : b = true) : (a && b) = true := by rw [h, k]; rfl
set_option maxRecDepth 1000000 in
theorem lexKnown_closed : joinedFacts Tryz.prog 3 Tryz.f3 Rows.lexKnownSpec Rows.lexKnownRow = true := by
  unfold joinedFacts
  refine band ?_ lexKnown_fact31
  refine band ?_ lexKnown_fact30
  refine band ?_ lexKnown_fact29
  refine band ?_ lexKnown_fact28
  refine band ?_ lexKnown_fact27
  refine band ?_ lexKnown_fact26
  refine band ?_ lexKnown_fact25
  refine band ?_ lexKnown_fact24
  refine band ?_ lexKnown_fact23
  refine band ?_ lexKnown_fact22
  refine band ?_ lexKnown_fact21
  refine band ?_ lexKnown_fact20
  refine band ?_ lexKnown_fact19
  refine band ?_ lexKnown_fact18
  refine band ?_ lexKnown_fact17
  refine band ?_ lexKnown_fact16
  refine band ?_ lexKnown_fact15
  refine band ?_ lexKnown_fact14
  refine band ?_ lexKnown_fact13
  refine band ?_ lexKnown_fact12
  refine band ?_ lexKnown_fact11
  refine band ?_ lexKnown_fact10
  refine band ?_ lexKnown_fact9
  refine band ?_ lexKnown_fact8
  refine band ?_ lexKnown_fact7
  refine band ?_ lexKnown_fact6
  refine band ?_ lexKnown_fact5
  refine band ?_ lexKnown_fact4
  refine band ?_ lexKnown_fact3
  refine band ?_ lexKnown_fact2
  refine band ?_ lexKnown_fact1
  exact lexKnown_fact0
end Go.Proofs.YtonccphblmiijaaGreatDoor
