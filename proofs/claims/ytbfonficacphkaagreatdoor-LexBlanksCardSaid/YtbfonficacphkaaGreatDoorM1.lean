/-
  The closed facts of the row of LexBlanks, each by itself. No condition.
-/
import Derived.Test.YtbfonficacphkaaGreatDoorRows
import Derived.Test.YtbfonficacphkaaGreatDoorChecked
import Derived.ProofKit
import Derived.Test.YtbfonficacphkaaGreatDoorCards
import Derived.SevenTiedAt
set_option linter.all false
namespace Go.Proofs.YtbfonficacphkaaGreatDoor
open Go.ChangeShapes Go.WideShapes Go.ChangeAt Go.RowKit
set_option maxRecDepth 1000000 in
theorem qU:(Rows.lexBlanksRow.wf (OpenSpec.ofChange Rows.lexBlanksSpec))=true:=by kernel_rfl
set_option maxRecDepth 1000000 in
theorem qT:(laidOutB Tryz.prog)=true:=by kernel_rfl
set_option maxRecDepth 1000000 in
theorem qS:(mapsRowed Tryz.prog)=true:=by kernel_rfl
set_option maxRecDepth 1000000 in
theorem qR:(Tryz.f3.params.all (Tryz.prog.readableRec ·))=true:=by kernel_rfl
set_option maxRecDepth 1000000 in
theorem qQ:(namedTie Tryz.prog Rows.lexBlanksRow.named Rows.lexBlanksSpec.vars)=true:=by kernel_rfl
set_option maxRecDepth 1000000 in
theorem qP:((Rows.lexBlanksRow.stops==[]))=true:=by kernel_rfl
set_option maxRecDepth 1000000 in
theorem qO:((Tryz.prog.stops==[]))=true:=by kernel_rfl
set_option maxRecDepth 1000000 in
theorem qM:((Rows.lexBlanksRow.knobs==[]))=true:=by kernel_rfl
set_option maxRecDepth 1000000 in
theorem qL:((Tryz.prog.stopKnobs==[]))=true:=by kernel_rfl
set_option maxRecDepth 1000000 in
theorem qJ:((Rows.lexBlanksRow.inPlace==Tryz.prog.inPlace 3))=true:=by kernel_rfl
set_option maxRecDepth 1000000 in
theorem pI:((Rows.lexBlanksRow.unfollowed==Tryz.prog.unfollowed 3))=true:=by kernel_rfl
set_option maxRecDepth 1000000 in
theorem pH:((Rows.lexBlanksRow.recurses==Tryz.prog.recurses 3))=true:=by kernel_rfl
set_option maxRecDepth 1000000 in
theorem pG:((Rows.lexBlanksRow.named==Tryz.prog.varsNamed 3))=true:=by kernel_rfl
set_option maxRecDepth 1000000 in
theorem pF:((Rows.lexBlanksRow.maps==(Tryz.f3.params.toList++Rows.lexBlanksSpec.plain.varTypes Tryz.prog).any (Tryz.prog.mapsRec ·)))=true:=by kernel_rfl
set_option maxRecDepth 1000000 in
theorem pE:((Rows.lexBlanksRow.ifaces==(Tryz.f3.params.toList++Rows.lexBlanksSpec.plain.varTypes Tryz.prog).any (Tryz.prog.ifacesRec ·)))=true:=by kernel_rfl
set_option maxRecDepth 1000000 in
theorem pD:((Rows.lexBlanksRow.mapsOut==Tryz.prog.mapsAmong Tryz.f3.resultTypes.toList))=true:=by kernel_rfl
set_option maxRecDepth 1000000 in
theorem pC:((Rows.lexBlanksRow.loops==(Tryz.f3.params.toList++Rows.lexBlanksSpec.plain.varTypes Tryz.prog).any (Tryz.prog.loopsFrom ·)))=true:=by kernel_rfl
set_option maxRecDepth 1000000 in
theorem pB:((Rows.lexBlanksRow.wideKeys==(Tryz.f3.params.toList++Rows.lexBlanksSpec.plain.varTypes Tryz.prog++Tryz.f3.resultTypes.toList).any (Tryz.prog.wideKeysFrom ·)))=true:=by kernel_rfl
set_option maxRecDepth 1000000 in
theorem pA:(Rows.lexBlanksSpec.vars.all (Tryz.prog.varReadable ·))=true:=by kernel_rfl
set_option maxRecDepth 1000000 in
theorem pz:(Tryz.f3.resultTypes.all (fun t=>Tryz.prog.readableRec t&&decide (t<Tryz.prog.types.size)))=true:=by kernel_rfl
set_option maxRecDepth 1000000 in
theorem py:((Rows.lexBlanksRow.ifacesOut==Tryz.f3.resultTypes.toList.any (Tryz.prog.ifacesRec ·)))=true:=by kernel_rfl
set_option maxRecDepth 1000000 in
theorem px:((Rows.lexBlanksRow.loopsOut==Tryz.f3.resultTypes.toList.any (Tryz.prog.loopsFrom ·)))=true:=by kernel_rfl
set_option maxRecDepth 1000000 in
theorem pw:((Rows.lexBlanksRow.plainKeys==Tryz.prog.plainKeys))=true:=by kernel_rfl
set_option maxRecDepth 1000000 in
theorem pv:(Rows.lexBlanksRow.shortTexts.isNone)=true:=by kernel_rfl
set_option maxRecDepth 1000000 in
theorem pq:(Tryz.prog.stopsHeard)=true:=by kernel_rfl
set_option maxRecDepth 1000000 in
theorem po:(Tryz.prog.mayEnter)=true:=by kernel_rfl
set_option maxRecDepth 1000000 in
theorem pn:((Rows.lexBlanksRow.lifted==Tryz.prog.liftsFinal))=true:=by kernel_rfl
set_option maxRecDepth 1000000 in
theorem pk:((Tryz.prog.make==some Rows.lexBlanksRow.make))=true:=by kernel_rfl
set_option maxRecDepth 1000000 in
theorem pj:((Rows.lexBlanksRow.kinds==(if Rows.lexBlanksRow.domain.isEmpty then[]else Tryz.f3.params.toList.map fun t=>match Tryz.prog.underlying t with|some (.int k)=>some k|_=>none)))=true:=by kernel_rfl
set_option maxRecDepth 1000000 in
theorem ph:((Rows.lexBlanksRow.pinned==Rows.lexBlanksRow.pinnedBy))=true:=by kernel_rfl
set_option maxRecDepth 1000000 in
theorem pg:((Rows.lexBlanksRow.veiled==(Tryz.f3.params.toList++Rows.lexBlanksSpec.plain.varTypes Tryz.prog++Tryz.f3.resultTypes.toList).any (Tryz.prog.veiledRec ·)))=true:=by kernel_rfl
set_option maxRecDepth 1000000 in
theorem pf:(Rows.lexBlanksRow.veiledFits Tryz.prog Tryz.f3.params.toList (Tryz.f3.params.toList++Rows.lexBlanksSpec.plain.varTypes Tryz.prog++Tryz.f3.resultTypes.toList))=true:=by kernel_rfl
theorem fm{a b:Bool}(h:a=true)(k:b=true):(a&&b)=true:=by rw[h,k];rfl
set_option maxRecDepth 1000000 in
theorem pJ:joinedFacts Tryz.prog 3 Tryz.f3 Rows.lexBlanksSpec Rows.lexBlanksRow=true:=by unfold joinedFacts;refine fm ?_ pf;refine fm ?_ pg;refine fm ?_ ph;refine fm ?_ pj;refine fm ?_ pk;refine fm ?_ pn;refine fm ?_ po;refine fm ?_ pq;refine fm ?_ pv;refine fm ?_ pw;refine fm ?_ px;refine fm ?_ py;refine fm ?_ pz;refine fm ?_ pA;refine fm ?_ pB;refine fm ?_ pC;refine fm ?_ pD;refine fm ?_ pE;refine fm ?_ pF;refine fm ?_ pG;refine fm ?_ pH;refine fm ?_ pI;refine fm ?_ qJ;refine fm ?_ qL;refine fm ?_ qM;refine fm ?_ qO;refine fm ?_ qP;refine fm ?_ qQ;refine fm ?_ qR;refine fm ?_ qS;refine fm ?_ qT;exact qU
end Go.Proofs.YtbfonficacphkaaGreatDoor
namespace Go.Proofs.YtbfonficacphkaaGreatDoor
open Go.ChangeShapes Go.WideShapes Go.ChangeAt Go.RowKit
theorem lexBlanks_card3:Tryz.prog.funcNamed Rows.lexBlanksRow.func=some 3:=by kernel_rfl
theorem qW:true=Tryz.prog.looks []:=by kernel_rfl
theorem qV:false=Rows.lexBlanksRow.goesBy Tryz.prog:=by kernel_rfl
end Go.Proofs.YtbfonficacphkaaGreatDoor
