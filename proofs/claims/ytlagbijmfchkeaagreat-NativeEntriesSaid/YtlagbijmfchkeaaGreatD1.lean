/-
  A part of the law's proof over the abstract evaluator. Conditions: those of each theorem, as it states them.
-/
import Derived.Test.YtlagbijmfchkeaaGreatC2
set_option linter.all false
namespace Go.Proofs.YtlagbijmfchkeaaGreat
open Go.Tw Go.Tw.NE
set_option maxRecDepth 1000000
theorem xP0:iR (ja 0) [] put0 []=true:=by kernel_rfl
theorem xP1:iR (ja 1) [] R4 []=true:=by kernel_rfl
theorem xP2:iR (ja 2) [] R3 []=true:=by kernel_rfl
theorem xP3:iR (ja 3) [] R2 []=true:=by kernel_rfl
theorem xP4:iR (ja 4) [] R1 []=true:=by kernel_rfl
theorem xP5:iR (ja 5) [] RZ []=true:=by kernel_rfl
theorem xP6:iR (ja 6) [] RY []=true:=by kernel_rfl
theorem xP7:iR (ja 7) [] RX []=true:=by kernel_rfl
theorem xP8:iR (ja 8) [] RW []=true:=by kernel_rfl
theorem xP9:iR (ja 9) [] RV []=true:=by kernel_rfl
theorem acz:iR (ja 10) [] IE []=true:=by kernel_rfl
theorem acy:iR (ja 11) [] ID []=true:=by kernel_rfl
theorem acx:iR (ja 12) [] IC []=true:=by kernel_rfl
theorem acw:iR (ja 13) [] IB []=true:=by kernel_rfl
theorem acv:iR (ja 14) [] IA []=true:=by kernel_rfl
end Go.Proofs.YtlagbijmfchkeaaGreat
