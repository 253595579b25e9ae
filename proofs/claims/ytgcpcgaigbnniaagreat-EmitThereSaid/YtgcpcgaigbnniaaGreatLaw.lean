/-
  A part of the law's proof over the abstract evaluator. Conditions: those of each theorem, as it states them.
-/
import Derived.Test.YtgcpcgaigbnniaaGreatLoopC
import Derived.Test.YtgcpcgaigbnniaaGreatClassB
set_option linter.all false
/-! The law, whatever it is asked. -/
set_option linter.all false
set_option maxRecDepth 1000000
namespace Go.Proofs.YtgcpcgaigbnniaaGreat
open Go.Tw Go.RowKit
noncomputable section
def c4 : Code := match Tryz.f4.body with
  | some c => c
  | none => .skip
def k4 : Con := { f := 4, args := [], pre := [], res := .bool true, objs := [] }
theorem x4 : runHB R0 0 0 (run [] [] 63 c4 [] [] R0) .ret [] [(0, .bool true)] [] R0 [] = true := by kernel_rfl
theorem ok4 : k4.Sound F0 P gl0 b0 R0 :=
  con_sound2 (fn := Tryz.f4) (code := c4) Tryz.func4 (by rfl) (by kernel_rfl) rfl rfl rfl fun v hF hp => ⟨.ret, [(0, .bool true)], [], R0, _, _, .inl rfl, rn (nt := 63) hF hp nocon x4 eqs_nil, by rfl, rfl⟩
theorem k4s : ∀ c ∈ [k4], c.Sound F0 P gl0 b0 R0 := fun c hc => by
  rcases List.mem_cons.1 hc with rfl | hc
  · exact ok4
  · cases hc
def A3 : List (Nat × AV) := [(3, .sym .i64 (D 11)), (2, .sym .i64 (D 10)), (1, .sym .i64 (D 20)), (0, .sym .i64 (D 22))]
def L3 : List Code := [Code.l c3, Code.l (Code.r c3), Code.l (Code.r (Code.r c3))]
def pickS : Sx := .bin .rem .i64 (.bin .add .i64 (.bin .rem .i64 (D 22) (.lit 31)) (.lit 31)) (.lit 31)
def E0 : Eqs := [(N (.bin .add .i64 (.lit 1) pickS), N ix), (N (D 20), N (D 20)), (N (D 10), N (D 10)), (N (D 11), N (D 11))]
theorem x0 : runHB R0 0 0 (execL P (cfgP gl0 b0 [] (conHk R0 (decP []) [k4])) (R0 + 0) 1000 129 L3 (envL A3) (toldSt b0 [] R0)) .normal [] (SB (D 20)) [] R0 E0 = true := by kernel_rfl
theorem c3_eq : c3 = seqR L3 (seqR L5 rest) := by kernel_rfl
theorem rest_eq : rest = .seq (Code.l rest) (Code.r rest) := by kernel_rfl
theorem restOk : RestOk := fun f h1 h2 => by
  rw [rest_eq]
  exact HT.seq (Nat.le_refl 0) (loop_ht f h1 h2) (jump_ht f)
theorem pick_ev (f : Nat → Int) : ∃ z : Int, @Sx.eval (vF f) pickS = z ∧ 0 ≤ z ∧ z ≤ 30 := by
  refine ⟨_, rfl, ?_⟩
  have h1 : @Sx.eval (vF f) pickS = (wrapI .i64 ((f 22).tmod 31 + 31)).tmod 31 := rfl
  rw [h1]
  have a1 : (f 22).tmod 31 < 31 := Int.tmod_lt_of_pos _ (by decide)
  have a2 : -31 < (f 22).tmod 31 := by
    have := Int.tmod_lt_of_pos (-(f 22)) (show (0 : Int) < 31 by decide)
    rw [Int.neg_tmod] at this
    omega
  rw [wrap_small (n := (f 22).tmod 31 + 31) (by omega) (by omega)]
  have b1 : ((f 22).tmod 31 + 31).tmod 31 < 31 := Int.tmod_lt_of_pos _ (by decide)
  have b2 : 0 ≤ ((f 22).tmod 31 + 31).tmod 31 := Int.tmod_nonneg _ (by omega)
  omega
theorem law_ht (f : Nat → Int) (h20 : -9223372036854775808 ≤ f 20 ∧ f 20 ≤ 9223372036854775807) : HR 129 (vF f) c3 (envL A3) (toldSt b0 [] R0) .ret v0 (envL Fin8) (toldSt b0 [] R0) := by
  obtain ⟨z, hz, z1, z2⟩ := pick_ev f
  rw [c3_eq]
  refine HT.runL (v1 := vF (up f 9 z)) base0 (Nat.le_refl 0) hnil (conHk_steps [k4]) (conHk_ok base0 hnil rfl k4s) follows x0 ?_ (all_good restOk (f 20) h20 (up f 9 z) rfl z1 z2)
  refine eqs_cons (N_eq ?_) (eqs_cons (N_eq rfl) (eqs_cons (N_eq rfl) (eqs_cons (N_eq rfl) eqs_nil)))
  show wrapI .i64 (1 + @Sx.eval (vF f) pickS) = wrapI .i64 (1 + z)
  rw [hz]
def k3 : Con := { f := 3, args := [.sym .i64 (D 22), .sym .i64 (D 20), .sym .i64 (D 10), .sym .i64 (D 11)], pre := [(lt (D 20) (.lit 9223372036854775808), true), (lt (D 20) (.lit (-9223372036854775808)), false)], res := .bool true, objs := [] }
theorem mR0 : mAll R0 0 [] (envL Fin8) (toldSt b0 [] R0) Fin8 [] R0 = some [] := by rfl
theorem mA3 : mAll R0 0 [] (envL A3) (toldSt b0 [] R0) A3 [] R0 = some [(N (D 11), N (D 11)), (N (D 10), N (D 10)), (N (D 20), N (D 20)), (N (D 22), N (D 22))] := by rfl
theorem ok3 : k3.Sound F0 P gl0 b0 R0 := by
  refine con_sound2 (fn := Tryz.f3) (code := c3) Tryz.func3 (by rfl) (by kernel_rfl) rfl rfl rfl fun v hF hp => ⟨.ret, Fin8, [], R0, _, _, .inl rfl, ?_, by rfl, rfl⟩
  have h1 : @Bx.eval v (lt (D 20) (.lit 9223372036854775808)) = true := hp (lt (D 20) (.lit 9223372036854775808), true) (List.mem_cons_self ..)
  have h2 : @Bx.eval v (lt (D 20) (.lit (-9223372036854775808))) = false := hp (lt (D 20) (.lit (-9223372036854775808)), false) (List.mem_cons_of_mem _ (List.mem_cons_self ..))
  have h1 : (v.dat 20).toI < 9223372036854775808 := of_decide_eq_true h1
  have h2 : ¬ (v.dat 20).toI < -9223372036854775808 := of_decide_eq_false h2
  show HR 129 v c3 (envL A3) (toldSt b0 [] R0) .ret v (envL Fin8) (toldSt b0 [] R0)
  refine ht_pre (retell_ok base0 mA3 (v' := vF fun i => (v.dat i).toI) ?_) (HT.retell (Nat.le_refl 0) (law_ht _ ⟨by omega, by omega⟩) (retell_ok base0 mR0 eqs_nil))
  exact eqs_cons rfl (eqs_cons rfl (eqs_cons rfl (eqs_cons rfl eqs_nil)))
/-- Where all lies that is given. -/
def phi0 : PM := fun _ _ => none
theorem gidR : gid < R0 := by decide
theorem hold0 (W : World) (v : Val) : Hold v gl0 b0 R0 0 .leaf (k3.start b0 R0) { tmps := #[], defers := [] } W phi0 := by
  have hb : ∀ v' : Val, ∀ (φ : PM), φ = phi0 ∨ φ = phi0.low R0 → ∀ i, @Rep v' R0 φ W i (b0.get i) := fun v' φ hφ i => by
    have hs : ∀ {i u : Nat} {e : Ext}, φ i u = some e → False := fun {i u e} h => by
      rcases hφ with rfl | rfl
      · cases h
      · unfold PM.low at h
        split at h
        · cases h
        · cases h
    by_cases hi : i = gid
    · subst hi
      rw [b0, T.get_set_same]
      show ∀ n e, φ gid n = some e → _
      intro n e he
      exact (hs he).elim
    · rw [b0, T.get_set_ne _ _ hi]
      simp [T.get_leaf, Rep]
  have hwf : WF R0 phi0 W := ⟨fun _ _ _ _ _ _ hi => (by cases hi), fun _ _ _ hi => (by cases hi), fun _ _ _ hi => (by cases hi)⟩
  have hnone : ∀ i, R0 ≤ i → b0.get i = none := base0.none
  exact {
    size := rfl
    val := fun t x h => by simp [T.get_leaf] at h
    dfs := rfl
    inv := { wf := hwf, low := Nat.le_refl _, rep := fun i _ _ => hb v _ (.inl rfl) i, gl := fun g n h => (by cases h), dom := fun i hi => hnone i hi, pin := fun _ _ h => (by cases h), dec := fun _ _ h => (by cases h),
             wrR := fun i h => (by cases h), ro := fun i _ => hb v _ (.inr rfl) i, oh := @kOp_ok v }
    free := fun i hi u => rfl
    roA := fun v' i _ => hb v' _ (.inr rfl) i
    rd := rfl
    wr := rfl }
theorem law_calls (W : World) (r x k p : Int) (hx : -9223372036854775808 ≤ x ∧ x ≤ 9223372036854775807) :
    Calls P 3 #[.int .i64 r, .int .i64 x, .int .i64 k, .int .i64 p] W fun e W' => e = .returned (.bool true) ∧ Below W.heap.size W W' := by
  let f : Nat → Int := fun i => match i with
    | 10 => k
    | 11 => p
    | 20 => x
    | 22 => r
    | _ => 0
  let v : Val := vF f
  have ha : @VRL v phi0 k3.args (#[.int .i64 r, .int .i64 x, .int .i64 k, .int .i64 p] : Array Value).toList :=
    @VRL.cons v _ _ _ _ _ (@VR.sym v _ _ (D 22)) (@VRL.cons v _ _ _ _ _ (@VR.sym v _ _ (D 20)) (@VRL.cons v _ _ _ _ _ (@VR.sym v _ _ (D 10)) (@VRL.cons v _ _ _ _ _ (@VR.sym v _ _ (D 11)) (@VRL.nil v _))))
  have hp : @Holds v k3.pre := hcons (lt_t (show x < 9223372036854775808 by omega)) (hcons (lt_f (show ¬ x < -9223372036854775808 by omega)) hnil)
  refine (ok3 v rfl hp W phi0 _ (hold0 W v) ha).mono fun e W' q => ?_
  obtain ⟨φ', y, rfl, hx, ht, _⟩ := q
  have hx : @VR v φ' (.bool true) y := hx
  cases hx
  exact ⟨rfl, ht.os, ht.tape, ht.out, ht.size, fun k hk => ht.keep k hk fun i u e hi he => (by cases he)⟩
end
end Go.Proofs.YtgcpcgaigbnniaaGreat
