/-
  A part of the law's proof over the abstract evaluator. Conditions: those of each theorem, as it states them.
-/
import Derived.Test.YtlagbijmfchkeaaGreatC2
set_option linter.all false
namespace Go.Proofs.YtlagbijmfchkeaaGreat
open Go.Tw Go.Tw.NE
set_option maxRecDepth 1000000
theorem acu:iR (ja 15) [] Iz []=true:=by kernel_rfl
theorem acs:iR (ja 16) [] Iy []=true:=by kernel_rfl
theorem acr:iR (ja 17) [] Ix []=true:=by kernel_rfl
theorem acq:iR (ja 18) [] Iw []=true:=by kernel_rfl
theorem acp:iR (ja 19) [] Iv []=true:=by kernel_rfl
theorem aco:iR (ja 20) [] Iu []=true:=by kernel_rfl
theorem acn:iR (ja 21) [] It []=true:=by kernel_rfl
theorem acm:iR (ja 22) [] Is []=true:=by kernel_rfl
theorem ack:iR (ja 23) [] Ir []=true:=by kernel_rfl
theorem acj:iR (ja 24) [] Iq []=true:=by kernel_rfl
theorem aci:iR (ja 25) [] Ip []=true:=by kernel_rfl
theorem ach:iR (ja 26) [] Io []=true:=by kernel_rfl
theorem acg:iR (ja 27) [] Im []=true:=by kernel_rfl
theorem acf:iR (ja 29) [] Ii []=true:=by kernel_rfl
theorem ace:iR (ja 30) [] Ih []=true:=by kernel_rfl
theorem acd:iR (ja 31) [] Ig []=true:=by kernel_rfl
theorem acb:iR (ja 32) [] Ie []=true:=by kernel_rfl
theorem aca:iR (SI 0) Ic put33 []=true:=by kernel_rfl
end Go.Proofs.YtlagbijmfchkeaaGreat
