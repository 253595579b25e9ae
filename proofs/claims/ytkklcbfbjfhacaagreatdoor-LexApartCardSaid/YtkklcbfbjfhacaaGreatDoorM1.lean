/-
  The closed facts of the row of LexApart, each by itself. No condition.
-/
import Derived.Test.YtkklcbfbjfhacaaGreatDoorRows
import Derived.Test.YtkklcbfbjfhacaaGreatDoorChecked
import Derived.ProofKit
import Derived.Test.YtkklcbfbjfhacaaGreatDoorCards
import Derived.SevenTiedAt
set_option linter.all false
namespace Go.Proofs.YtkklcbfbjfhacaaGreatDoor
open Go.ChangeShapes Go.WideShapes Go.ChangeAt Go.RowKit
set_option maxRecDepth 1000000 in
theorem lexApart_fact0:(Rows.lexApartRow.wf (OpenSpec.ofChange Rows.lexApartSpec))=true:=by kernel_rfl
set_option maxRecDepth 1000000 in
theorem lexApart_fact1:(laidOutB Tryz.prog)=true:=by kernel_rfl
set_option maxRecDepth 1000000 in
theorem lexApart_fact2:(mapsRowed Tryz.prog)=true:=by kernel_rfl
set_option maxRecDepth 1000000 in
theorem lexApart_fact3:(Tryz.f3.params.all (Tryz.prog.readableRec ·))=true:=by kernel_rfl
set_option maxRecDepth 1000000 in
theorem lexApart_fact4:(namedTie Tryz.prog Rows.lexApartRow.named Rows.lexApartSpec.vars)=true:=by kernel_rfl
set_option maxRecDepth 1000000 in
theorem lexApart_fact5:((Rows.lexApartRow.stops==[]))=true:=by kernel_rfl
set_option maxRecDepth 1000000 in
theorem lexApart_fact6:((Tryz.prog.stops==[]))=true:=by kernel_rfl
set_option maxRecDepth 1000000 in
theorem lexApart_fact7:((Rows.lexApartRow.knobs==[]))=true:=by kernel_rfl
set_option maxRecDepth 1000000 in
theorem lexApart_fact8:((Tryz.prog.stopKnobs==[]))=true:=by kernel_rfl
set_option maxRecDepth 1000000 in
theorem lexApart_fact9:((Rows.lexApartRow.inPlace==Tryz.prog.inPlace 3))=true:=by kernel_rfl
set_option maxRecDepth 1000000 in
theorem lexApart_fact10:((Rows.lexApartRow.unfollowed==Tryz.prog.unfollowed 3))=true:=by kernel_rfl
set_option maxRecDepth 1000000 in
theorem lexApart_fact11:((Rows.lexApartRow.recurses==Tryz.prog.recurses 3))=true:=by kernel_rfl
set_option maxRecDepth 1000000 in
theorem lexApart_fact12:((Rows.lexApartRow.named==Tryz.prog.varsNamed 3))=true:=by kernel_rfl
set_option maxRecDepth 1000000 in
theorem lexApart_fact13:((Rows.lexApartRow.maps==(Tryz.f3.params.toList++Rows.lexApartSpec.plain.varTypes Tryz.prog).any (Tryz.prog.mapsRec ·)))=true:=by kernel_rfl
set_option maxRecDepth 1000000 in
theorem lexApart_fact14:((Rows.lexApartRow.ifaces==(Tryz.f3.params.toList++Rows.lexApartSpec.plain.varTypes Tryz.prog).any (Tryz.prog.ifacesRec ·)))=true:=by kernel_rfl
set_option maxRecDepth 1000000 in
theorem lexApart_fact15:((Rows.lexApartRow.mapsOut==Tryz.prog.mapsAmong Tryz.f3.resultTypes.toList))=true:=by kernel_rfl
set_option maxRecDepth 1000000 in
theorem lexApart_fact16:((Rows.lexApartRow.loops==(Tryz.f3.params.toList++Rows.lexApartSpec.plain.varTypes Tryz.prog).any (Tryz.prog.loopsFrom ·)))=true:=by kernel_rfl
set_option maxRecDepth 1000000 in
theorem lexApart_fact17:((Rows.lexApartRow.wideKeys==(Tryz.f3.params.toList++Rows.lexApartSpec.plain.varTypes Tryz.prog++Tryz.f3.resultTypes.toList).any (Tryz.prog.wideKeysFrom ·)))=true:=by kernel_rfl
set_option maxRecDepth 1000000 in
theorem lexApart_fact18:(Rows.lexApartSpec.vars.all (Tryz.prog.varReadable ·))=true:=by kernel_rfl
set_option maxRecDepth 1000000 in
theorem lexApart_fact19:(Tryz.f3.resultTypes.all (fun t=>Tryz.prog.readableRec t&&decide (t<Tryz.prog.types.size)))=true:=by kernel_rfl
set_option maxRecDepth 1000000 in
theorem lexApart_fact20:((Rows.lexApartRow.ifacesOut==Tryz.f3.resultTypes.toList.any (Tryz.prog.ifacesRec ·)))=true:=by kernel_rfl
set_option maxRecDepth 1000000 in
theorem lexApart_fact21:((Rows.lexApartRow.loopsOut==Tryz.f3.resultTypes.toList.any (Tryz.prog.loopsFrom ·)))=true:=by kernel_rfl
set_option maxRecDepth 1000000 in
theorem lexApart_fact22:((Rows.lexApartRow.plainKeys==Tryz.prog.plainKeys))=true:=by kernel_rfl
set_option maxRecDepth 1000000 in
theorem lexApart_fact23:(Rows.lexApartRow.shortTexts.isNone)=true:=by kernel_rfl
set_option maxRecDepth 1000000 in
theorem lexApart_fact24:(Tryz.prog.stopsHeard)=true:=by kernel_rfl
set_option maxRecDepth 1000000 in
theorem lexApart_fact25:(Tryz.prog.mayEnter)=true:=by kernel_rfl
set_option maxRecDepth 1000000 in
theorem lexApart_fact26:((Rows.lexApartRow.lifted==Tryz.prog.liftsFinal))=true:=by kernel_rfl
set_option maxRecDepth 1000000 in
theorem lexApart_fact27:((Tryz.prog.make==some Rows.lexApartRow.make))=true:=by kernel_rfl
set_option maxRecDepth 1000000 in
theorem lexApart_fact28:((Rows.lexApartRow.kinds==(if Rows.lexApartRow.domain.isEmpty then[]else Tryz.f3.params.toList.map fun t=>match Tryz.prog.underlying t with|some (.int k)=>some k|_=>none)))=true:=by kernel_rfl
set_option maxRecDepth 1000000 in
theorem lexApart_fact29:((Rows.lexApartRow.pinned==Rows.lexApartRow.pinnedBy))=true:=by kernel_rfl
set_option maxRecDepth 1000000 in
theorem lexApart_fact30:((Rows.lexApartRow.veiled==(Tryz.f3.params.toList++Rows.lexApartSpec.plain.varTypes Tryz.prog++Tryz.f3.resultTypes.toList).any (Tryz.prog.veiledRec ·)))=true:=by kernel_rfl
set_option maxRecDepth 1000000 in
theorem lexApart_fact31:(Rows.lexApartRow.veiledFits Tryz.prog Tryz.f3.params.toList (Tryz.f3.params.toList++Rows.lexApartSpec.plain.varTypes Tryz.prog++Tryz.f3.resultTypes.toList))=true:=by kernel_rfl
theorem band{a b:Bool}(h:a=true)(k:b=true):(a&&b)=true:=by rw[h,k];rfl
set_option maxRecDepth 1000000 in
theorem lexApart_closed:joinedFacts Tryz.prog 3 Tryz.f3 Rows.lexApartSpec Rows.lexApartRow=true:=by unfold joinedFacts;refine band ?_ lexApart_fact31;refine band ?_ lexApart_fact30;refine band ?_ lexApart_fact29;refine band ?_ lexApart_fact28;refine band ?_ lexApart_fact27;refine band ?_ lexApart_fact26;refine band ?_ lexApart_fact25;refine band ?_ lexApart_fact24;refine band ?_ lexApart_fact23;refine band ?_ lexApart_fact22;refine band ?_ lexApart_fact21;refine band ?_ lexApart_fact20;refine band ?_ lexApart_fact19;refine band ?_ lexApart_fact18;refine band ?_ lexApart_fact17;refine band ?_ lexApart_fact16;refine band ?_ lexApart_fact15;refine band ?_ lexApart_fact14;refine band ?_ lexApart_fact13;refine band ?_ lexApart_fact12;refine band ?_ lexApart_fact11;refine band ?_ lexApart_fact10;refine band ?_ lexApart_fact9;refine band ?_ lexApart_fact8;refine band ?_ lexApart_fact7;refine band ?_ lexApart_fact6;refine band ?_ lexApart_fact5;refine band ?_ lexApart_fact4;refine band ?_ lexApart_fact3;refine band ?_ lexApart_fact2;refine band ?_ lexApart_fact1;exact lexApart_fact0
end Go.Proofs.YtkklcbfbjfhacaaGreatDoor
namespace Go.Proofs.YtkklcbfbjfhacaaGreatDoor
open Go.ChangeShapes Go.WideShapes Go.ChangeAt Go.RowKit
theorem lexApart_card3:Tryz.prog.funcNamed Rows.lexApartRow.func=some 3:=by kernel_rfl
theorem lexApart_card4:true=Tryz.prog.looks []:=by kernel_rfl
theorem lexApart_card5:false=Rows.lexApartRow.goesBy Tryz.prog:=by kernel_rfl
end Go.Proofs.YtkklcbfbjfhacaaGreatDoor
