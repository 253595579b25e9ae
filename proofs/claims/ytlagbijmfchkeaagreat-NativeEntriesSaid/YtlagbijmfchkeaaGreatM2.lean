/-
  The closed facts of the row of NativeEntries, each by itself. No condition.
-/
import Derived.Test.YtlagbijmfchkeaaGreatRows
import Derived.Test.YtlagbijmfchkeaaGreatChecked
import Derived.ProofKit
set_option linter.all false
namespace Go.Proofs.YtlagbijmfchkeaaGreat
open Go.ChangeShapes Go.WideShapes Go.ChangeAt Go.RowKit
set_option maxRecDepth 1000000 in
theorem nC:(Rows.nativeEntriesRow.wf (OpenSpec.ofChange Rows.nativeEntriesSpec))=true:=by kernel_rfl
set_option maxRecDepth 1000000 in
theorem nB:(laidOutB Tryz.prog)=true:=by kernel_rfl
set_option maxRecDepth 1000000 in
theorem nA:(mapsRowed Tryz.prog)=true:=by kernel_rfl
set_option maxRecDepth 1000000 in
theorem ny:(Tryz.f3.params.all (Tryz.prog.readableRec ·))=true:=by kernel_rfl
set_option maxRecDepth 1000000 in
theorem nw:(namedTie Tryz.prog Rows.nativeEntriesRow.named Rows.nativeEntriesSpec.vars)=true:=by kernel_rfl
set_option maxRecDepth 1000000 in
theorem nu:((Rows.nativeEntriesRow.stops==[]))=true:=by kernel_rfl
set_option maxRecDepth 1000000 in
theorem nq:((Tryz.prog.stops==[]))=true:=by kernel_rfl
set_option maxRecDepth 1000000 in
theorem nm:((Rows.nativeEntriesRow.knobs==[]))=true:=by kernel_rfl
set_option maxRecDepth 1000000 in
theorem nk:((Tryz.prog.stopKnobs==[]))=true:=by kernel_rfl
set_option maxRecDepth 1000000 in
theorem nj:((Rows.nativeEntriesRow.inPlace==Tryz.prog.inPlace 3))=true:=by kernel_rfl
set_option maxRecDepth 1000000 in
theorem l5:((Rows.nativeEntriesRow.unfollowed==Tryz.prog.unfollowed 3))=true:=by kernel_rfl
set_option maxRecDepth 1000000 in
theorem l4:((Rows.nativeEntriesRow.recurses==Tryz.prog.recurses 3))=true:=by kernel_rfl
set_option maxRecDepth 1000000 in
theorem lZ:((Rows.nativeEntriesRow.named==Tryz.prog.varsNamed 3))=true:=by kernel_rfl
set_option maxRecDepth 1000000 in
theorem lY:((Rows.nativeEntriesRow.maps==(Tryz.f3.params.toList++Rows.nativeEntriesSpec.plain.varTypes Tryz.prog).any (Tryz.prog.mapsRec ·)))=true:=by kernel_rfl
set_option maxRecDepth 1000000 in
theorem lX:((Rows.nativeEntriesRow.ifaces==(Tryz.f3.params.toList++Rows.nativeEntriesSpec.plain.varTypes Tryz.prog).any (Tryz.prog.ifacesRec ·)))=true:=by kernel_rfl
set_option maxRecDepth 1000000 in
theorem lW:((Rows.nativeEntriesRow.mapsOut==Tryz.prog.mapsAmong Tryz.f3.resultTypes.toList))=true:=by kernel_rfl
set_option maxRecDepth 1000000 in
theorem lV:((Rows.nativeEntriesRow.loops==(Tryz.f3.params.toList++Rows.nativeEntriesSpec.plain.varTypes Tryz.prog).any (Tryz.prog.loopsFrom ·)))=true:=by kernel_rfl
set_option maxRecDepth 1000000 in
theorem lU:((Rows.nativeEntriesRow.wideKeys==(Tryz.f3.params.toList++Rows.nativeEntriesSpec.plain.varTypes Tryz.prog++Tryz.f3.resultTypes.toList).any (Tryz.prog.wideKeysFrom ·)))=true:=by kernel_rfl
set_option maxRecDepth 1000000 in
theorem lT:(Rows.nativeEntriesSpec.vars.all (Tryz.prog.varReadable ·))=true:=by kernel_rfl
set_option maxRecDepth 1000000 in
theorem lS:(Tryz.f3.resultTypes.all (fun t=>Tryz.prog.readableRec t&&decide (t<Tryz.prog.types.size)))=true:=by kernel_rfl
set_option maxRecDepth 1000000 in
theorem lR:((Rows.nativeEntriesRow.ifacesOut==Tryz.f3.resultTypes.toList.any (Tryz.prog.ifacesRec ·)))=true:=by kernel_rfl
set_option maxRecDepth 1000000 in
theorem lQ:((Rows.nativeEntriesRow.loopsOut==Tryz.f3.resultTypes.toList.any (Tryz.prog.loopsFrom ·)))=true:=by kernel_rfl
set_option maxRecDepth 1000000 in
theorem lP:((Rows.nativeEntriesRow.plainKeys==Tryz.prog.plainKeys))=true:=by kernel_rfl
set_option maxRecDepth 1000000 in
theorem lO:(Rows.nativeEntriesRow.shortTexts.isNone)=true:=by kernel_rfl
set_option maxRecDepth 1000000 in
theorem lN:(Tryz.prog.stopsHeard)=true:=by kernel_rfl
set_option maxRecDepth 1000000 in
theorem lM:(Tryz.prog.mayEnter)=true:=by kernel_rfl
set_option maxRecDepth 1000000 in
theorem lL:((Rows.nativeEntriesRow.lifted==Tryz.prog.liftsFinal))=true:=by kernel_rfl
set_option maxRecDepth 1000000 in
theorem lK:((Tryz.prog.make==some Rows.nativeEntriesRow.make))=true:=by kernel_rfl
set_option maxRecDepth 1000000 in
theorem lJ:((Rows.nativeEntriesRow.kinds==(if Rows.nativeEntriesRow.domain.isEmpty then[]else Tryz.f3.params.toList.map fun t=>match Tryz.prog.underlying t with|some (.int k)=>some k|_=>none)))=true:=by kernel_rfl
set_option maxRecDepth 1000000 in
theorem lI:((Rows.nativeEntriesRow.pinned==Rows.nativeEntriesRow.pinnedBy))=true:=by kernel_rfl
set_option maxRecDepth 1000000 in
theorem lH:((Rows.nativeEntriesRow.veiled==(Tryz.f3.params.toList++Rows.nativeEntriesSpec.plain.varTypes Tryz.prog++Tryz.f3.resultTypes.toList).any (Tryz.prog.veiledRec ·)))=true:=by kernel_rfl
set_option maxRecDepth 1000000 in
theorem lG:(Rows.nativeEntriesRow.veiledFits Tryz.prog Tryz.f3.params.toList (Tryz.f3.params.toList++Rows.nativeEntriesSpec.plain.varTypes Tryz.prog++Tryz.f3.resultTypes.toList))=true:=by kernel_rfl
theorem eP{a b:Bool}(h:a=true)(k:b=true):(a&&b)=true:=by rw[h,k];rfl
set_option maxRecDepth 1000000 in
theorem l6:joinedFacts Tryz.prog 3 Tryz.f3 Rows.nativeEntriesSpec Rows.nativeEntriesRow=true:=by unfold joinedFacts;refine eP ?_ lG;refine eP ?_ lH;refine eP ?_ lI;refine eP ?_ lJ;refine eP ?_ lK;refine eP ?_ lL;refine eP ?_ lM;refine eP ?_ lN;refine eP ?_ lO;refine eP ?_ lP;refine eP ?_ lQ;refine eP ?_ lR;refine eP ?_ lS;refine eP ?_ lT;refine eP ?_ lU;refine eP ?_ lV;refine eP ?_ lW;refine eP ?_ lX;refine eP ?_ lY;refine eP ?_ lZ;refine eP ?_ l4;refine eP ?_ l5;refine eP ?_ nj;refine eP ?_ nk;refine eP ?_ nm;refine eP ?_ nq;refine eP ?_ nu;refine eP ?_ nw;refine eP ?_ ny;refine eP ?_ nA;refine eP ?_ nB;exact nC
end Go.Proofs.YtlagbijmfchkeaaGreat
