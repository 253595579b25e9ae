/-
  The closed facts of the row of MixedKnown, each by itself. No condition.
-/
import Derived.Test.YtkddndlkblhldaaGreatRows
import Derived.Test.YtkddndlkblhldaaGreatChecked
import Derived.ProofKit
namespace Go.Proofs.YtkddndlkblhldaaGreat
open Go.ChangeShapes Go.WideShapes Go.ChangeAt Go.RowKit

set_option maxRecDepth 1000000 in
theorem mixedKnown_fact0 : (Rows.mixedKnownRow.wf (OpenSpec.ofChange Rows.mixedKnownSpec)) = true := by kernel_rfl
set_option maxRecDepth 1000000 in
theorem mixedKnown_fact1 : (laidOutB Tryz.prog) = true := by kernel_rfl
set_option maxRecDepth 1000000 in
theorem mixedKnown_fact2 : (mapsRowed Tryz.prog) = true := by kernel_rfl
set_option maxRecDepth 1000000 in
theorem mixedKnown_fact3 : (Tryz.f3.params.all (Tryz.prog.readableRec ·)) = true := by kernel_rfl
set_option maxRecDepth 1000000 in
theorem mixedKnown_fact4 : (namedTie Tryz.prog Rows.mixedKnownRow.named Rows.mixedKnownSpec.vars) = true := by kernel_rfl
set_option maxRecDepth 1000000 in
theorem mixedKnown_fact5 : ((Rows.mixedKnownRow.stops == [])) = true := by kernel_rfl
set_option maxRecDepth 1000000 in
theorem mixedKnown_fact6 : ((Tryz.prog.stops == [])) = true := by kernel_rfl
set_option maxRecDepth 1000000 in
theorem mixedKnown_fact7 : ((Rows.mixedKnownRow.knobs == [])) = true := by kernel_rfl
set_option maxRecDepth 1000000 in
theorem mixedKnown_fact8 : ((Tryz.prog.stopKnobs == [])) = true := by kernel_rfl
set_option maxRecDepth 1000000 in
theorem mixedKnown_fact9 : ((Rows.mixedKnownRow.inPlace == Tryz.prog.inPlace 3)) = true := by kernel_rfl
set_option maxRecDepth 1000000 in
theorem mixedKnown_fact10 : ((Rows.mixedKnownRow.unfollowed == Tryz.prog.unfollowed 3)) = true := by kernel_rfl
set_option maxRecDepth 1000000 in
theorem mixedKnown_fact11 : ((Rows.mixedKnownRow.recurses == Tryz.prog.recurses 3)) = true := by kernel_rfl
set_option maxRecDepth 1000000 in
theorem mixedKnown_fact12 : ((Rows.mixedKnownRow.named == Tryz.prog.varsNamed 3)) = true := by kernel_rfl
set_option maxRecDepth 1000000 in
theorem mixedKnown_fact13 : ((Rows.mixedKnownRow.maps == (Tryz.f3.params.toList ++ Rows.mixedKnownSpec.plain.varTypes Tryz.prog).any (Tryz.prog.mapsRec ·))) = true := by kernel_rfl
set_option maxRecDepth 1000000 in
theorem mixedKnown_fact14 : ((Rows.mixedKnownRow.ifaces == (Tryz.f3.params.toList ++ Rows.mixedKnownSpec.plain.varTypes Tryz.prog).any (Tryz.prog.ifacesRec ·))) = true := by kernel_rfl
set_option maxRecDepth 1000000 in
theorem mixedKnown_fact15 : ((Rows.mixedKnownRow.mapsOut == Tryz.prog.mapsAmong Tryz.f3.resultTypes.toList)) = true := by kernel_rfl
set_option maxRecDepth 1000000 in
theorem mixedKnown_fact16 : ((Rows.mixedKnownRow.loops == (Tryz.f3.params.toList ++ Rows.mixedKnownSpec.plain.varTypes Tryz.prog).any (Tryz.prog.loopsFrom ·))) = true := by kernel_rfl
set_option maxRecDepth 1000000 in
theorem mixedKnown_fact17 : ((Rows.mixedKnownRow.wideKeys == (Tryz.f3.params.toList ++ Rows.mixedKnownSpec.plain.varTypes Tryz.prog ++ Tryz.f3.resultTypes.toList).any (Tryz.prog.wideKeysFrom ·))) = true := by kernel_rfl
set_option maxRecDepth 1000000 in
theorem mixedKnown_fact18 : (Rows.mixedKnownSpec.vars.all (Tryz.prog.varReadable ·)) = true := by kernel_rfl
set_option maxRecDepth 1000000 in
theorem mixedKnown_fact19 : (Tryz.f3.resultTypes.all (fun t => Tryz.prog.readableRec t && decide (t < Tryz.prog.types.size))) = true := by kernel_rfl
set_option maxRecDepth 1000000 in
theorem mixedKnown_fact20 : ((Rows.mixedKnownRow.ifacesOut == Tryz.f3.resultTypes.toList.any (Tryz.prog.ifacesRec ·))) = true := by kernel_rfl
set_option maxRecDepth 1000000 in
theorem mixedKnown_fact21 : ((Rows.mixedKnownRow.loopsOut == Tryz.f3.resultTypes.toList.any (Tryz.prog.loopsFrom ·))) = true := by kernel_rfl
set_option maxRecDepth 1000000 in
theorem mixedKnown_fact22 : ((Rows.mixedKnownRow.plainKeys == Tryz.prog.plainKeys)) = true := by kernel_rfl
set_option maxRecDepth 1000000 in
theorem mixedKnown_fact23 : (Rows.mixedKnownRow.shortTexts.isNone) = true := by kernel_rfl
set_option maxRecDepth 1000000 in
theorem mixedKnown_fact24 : (Tryz.prog.stopsHeard) = true := by kernel_rfl
set_option maxRecDepth 1000000 in
theorem mixedKnown_fact25 : (Tryz.prog.mayEnter) = true := by kernel_rfl
set_option maxRecDepth 1000000 in
theorem mixedKnown_fact26 : ((Rows.mixedKnownRow.lifted == Tryz.prog.liftsFinal)) = true := by kernel_rfl
set_option maxRecDepth 1000000 in
theorem mixedKnown_fact27 : ((Tryz.prog.make == some Rows.mixedKnownRow.make)) = true := by kernel_rfl
set_option maxRecDepth 1000000 in
theorem mixedKnown_fact28 : ((Rows.mixedKnownRow.kinds == (if Rows.mixedKnownRow.domain.isEmpty then [] else Tryz.f3.params.toList.map fun t => match Tryz.prog.underlying t with | some (.int k) => some k | _ => none))) = true := by kernel_rfl
set_option maxRecDepth 1000000 in
theorem mixedKnown_fact29 : ((Rows.mixedKnownRow.pinned == Rows.mixedKnownRow.pinnedBy)) = true := by kernel_rfl
set_option maxRecDepth 1000000 in
theorem mixedKnown_fact30 : ((Rows.mixedKnownRow.veiled == (Tryz.f3.params.toList ++ Rows.mixedKnownSpec.plain.varTypes Tryz.prog ++ Tryz.f3.resultTypes.toList).any (Tryz.prog.veiledRec ·))) = true := by kernel_rfl
set_option maxRecDepth 1000000 in
theorem mixedKnown_fact31 : (Rows.mixedKnownRow.veiledFits Tryz.prog Tryz.f3.params.toList (Tryz.f3.params.toList ++ Rows.mixedKnownSpec.plain.varTypes Tryz.prog ++ Tryz.f3.resultTypes.toList)) = true := by kernel_rfl
theorem band {a b : Bool} (h : a = true) (k : b = true) : (a && b) = true := by rw [h, k]; rfl
set_option maxRecDepth 1000000 in
theorem mixedKnown_closed : joinedFacts Tryz.prog 3 Tryz.f3 Rows.mixedKnownSpec Rows.mixedKnownRow = true := by
  unfold joinedFacts
  refine band ?_ mixedKnown_fact31
  refine band ?_ mixedKnown_fact30
  refine band ?_ mixedKnown_fact29
  refine band ?_ mixedKnown_fact28
  refine band ?_ mixedKnown_fact27
  refine band ?_ mixedKnown_fact26
  refine band ?_ mixedKnown_fact25
  refine band ?_ mixedKnown_fact24
  refine band ?_ mixedKnown_fact23
  refine band ?_ mixedKnown_fact22
  refine band ?_ mixedKnown_fact21
  refine band ?_ mixedKnown_fact20
  refine band ?_ mixedKnown_fact19
  refine band ?_ mixedKnown_fact18
  refine band ?_ mixedKnown_fact17
  refine band ?_ mixedKnown_fact16
  refine band ?_ mixedKnown_fact15
  refine band ?_ mixedKnown_fact14
  refine band ?_ mixedKnown_fact13
  refine band ?_ mixedKnown_fact12
  refine band ?_ mixedKnown_fact11
  refine band ?_ mixedKnown_fact10
  refine band ?_ mixedKnown_fact9
  refine band ?_ mixedKnown_fact8
  refine band ?_ mixedKnown_fact7
  refine band ?_ mixedKnown_fact6
  refine band ?_ mixedKnown_fact5
  refine band ?_ mixedKnown_fact4
  refine band ?_ mixedKnown_fact3
  refine band ?_ mixedKnown_fact2
  refine band ?_ mixedKnown_fact1
  exact mixedKnown_fact0
end Go.Proofs.YtkddndlkblhldaaGreat
