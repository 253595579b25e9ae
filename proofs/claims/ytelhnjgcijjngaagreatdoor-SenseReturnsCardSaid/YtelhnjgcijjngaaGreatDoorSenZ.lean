/-
  What Pick tells of multiples of 10,000. Conditions: those of each theorem.
-/
import Derived.Test.YtelhnjgcijjngaaGreatDoorSenB
set_option linter.all false
namespace Go.Proofs.YtelhnjgcijjngaaGreatDoor
open Go.Tw
/-- Pick, where it tells nought. -/
def pz (a : Nat) : Memo := ⟨5, [.sym .i64 (.dvar a), .int .i64 10000], .int .i64 0, [], 12⟩
theorem pz0 (m n : Int) (h : pickI m = 0) : @Memo.Sound (VS m n) Tryz.prog 12 (tabK tabs []) (pz 2) :=
  letI : Val := VS m n
  quiet_recast pickSound2 (fun _ => rfl) (fun _ => rfl) (fun φ z hz => by
    cases hz
    rw [pickEval]
    show VR φ (.int .i64 0) (.int .i64 (pickI m))
    rw [h]
    exact .int _ _)
theorem pz1 (m n : Int) (h : pickI n = 0) : @Memo.Sound (VS m n) Tryz.prog 12 (tabK tabs []) (pz 3) :=
  letI : Val := VS m n
  quiet_recast pickSound3 (fun _ => rfl) (fun _ => rfl) (fun φ z hz => by
    cases hz
    rw [pickEval]
    show VR φ (.int .i64 0) (.int .i64 (pickI n))
    rw [h]
    exact .int _ _)
end Go.Proofs.YtelhnjgcijjngaaGreatDoor
