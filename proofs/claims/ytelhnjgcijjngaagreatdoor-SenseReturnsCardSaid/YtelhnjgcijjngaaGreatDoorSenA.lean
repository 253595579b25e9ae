/-
  What Pick tells of a number: the number's rest by 10,000. No condition but those that each theorem states.
-/
import Derived.Test.YtelhnjgcijjngaaGreatDoorCalls2
set_option linter.all false
namespace Go.Proofs.YtelhnjgcijjngaaGreatDoor
open Go.Tw

/-- The law's numbers: 0 and 1 the small ones, 2 and 3 those that are handed in. -/
def pickI (x : Int) : Int := x % 10000
abbrev VS (m n : Int) : Val := { num := fun _ => 0, dat := fun i => match i with
  | 0 => .int (pickI m)
  | 1 => .int (pickI n)
  | 2 => .int m
  | _ => .int n }
def lb (l : List Nat) : List Sx := l.map fun n => .lit (.ofNat n)
def tx (l : List Sx) : AV := .vstr (.pr 15 (rowsS l) (.lit 0))
def pk (a b : Nat) : Memo := ⟨5, [.sym .i64 (.dvar a), .int .i64 10000], .sym .i64 (.dvar b), [], 12⟩

theorem pickRun2 : quietB Tryz.prog { tabK tabs [] with hk := memoHk 12 (tabM []) } 100000 ⟨5, [.sym .i64 (.dvar 2), .int .i64 10000], .sym .i64 (.bin .rem .i64 (.bin .add .i64 (.bin .rem .i64 (.dvar 2) (.lit 10000)) (.lit 10000)) (.lit 10000)), [], 12⟩ (tabSt 12 tabs) = true := by kernel_rfl
theorem pickSound2 [Val] : (⟨5, [.sym .i64 (.dvar 2), .int .i64 10000], .sym .i64 (.bin .rem .i64 (.bin .add .i64 (.bin .rem .i64 (.dvar 2) (.lit 10000)) (.lit 10000)) (.lit 10000)), [], 12⟩ : Memo).Sound Tryz.prog 12 (tabK tabs []) :=
  tabK_quiet (fun _ h => by cases h) folm tabs_lt pickRun2 (fun _ => rfl)

theorem pickRun3 : quietB Tryz.prog { tabK tabs [] with hk := memoHk 12 (tabM []) } 100000 ⟨5, [.sym .i64 (.dvar 3), .int .i64 10000], .sym .i64 (.bin .rem .i64 (.bin .add .i64 (.bin .rem .i64 (.dvar 3) (.lit 10000)) (.lit 10000)) (.lit 10000)), [], 12⟩ (tabSt 12 tabs) = true := by kernel_rfl
theorem pickSound3 [Val] : (⟨5, [.sym .i64 (.dvar 3), .int .i64 10000], .sym .i64 (.bin .rem .i64 (.bin .add .i64 (.bin .rem .i64 (.dvar 3) (.lit 10000)) (.lit 10000)) (.lit 10000)), [], 12⟩ : Memo).Sound Tryz.prog 12 (tabK tabs []) :=
  tabK_quiet (fun _ h => by cases h) folm tabs_lt pickRun3 (fun _ => rfl)

theorem pickEval [Val] (e : Sx) : (Sx.bin .rem .i64 (.bin .add .i64 (.bin .rem .i64 e (.lit 10000)) (.lit 10000)) (.lit 10000)).eval = pickI e.eval := by
  show (wrapI .i64 (e.eval.tmod 10000 + 10000)).tmod 10000 = e.eval % 10000
  rw [wrap_i64]
  have h2 := tmod_lit e.eval 10000
  have e3 : (((10000 : Nat) : Int)) = 10000 := rfl
  rw [e3] at h2
  rw [h2]
  generalize e.eval = a
  have h3 : ∀ z : Int, 0 ≤ z → z.tmod 10000 = z % 10000 := fun z hz => Int.tmod_eq_emod_of_nonneg hz
  split
  · rw [if_neg (by omega), h3 _ (by omega)]
    omega
  · rw [if_neg (by omega), h3 _ (by omega)]
    omega
theorem pk0 (m n : Int) : @Memo.Sound (VS m n) Tryz.prog 12 (tabK tabs []) (pk 2 0) :=
  letI : Val := VS m n
  quiet_recast pickSound2 (fun _ => rfl) (fun _ => rfl) (fun φ z hz => by
    cases hz
    rw [pickEval]
    exact .sym .i64 (.dvar 0))
theorem pk1 (m n : Int) : @Memo.Sound (VS m n) Tryz.prog 12 (tabK tabs []) (pk 3 1) :=
  letI : Val := VS m n
  quiet_recast pickSound3 (fun _ => rfl) (fun _ => rfl) (fun φ z hz => by
    cases hz
    rw [pickEval]
    exact .sym .i64 (.dvar 1))
end Go.Proofs.YtelhnjgcijjngaaGreatDoor
