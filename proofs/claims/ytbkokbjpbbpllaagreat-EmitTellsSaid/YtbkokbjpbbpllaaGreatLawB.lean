/-
  A part of the law's proof over the abstract evaluator. Conditions: those of each theorem, as it states them.
-/
import Derived.Test.YtbkokbjpbbpllaaGreatLawA
/-! The law, as a call: whatever lies in the world. -/
namespace Go.Proofs.YtbkokbjpbbpllaaGreat
open Go.Tw Go.RowKit
noncomputable section
def LIns : List Sh := [.int .i64, .int .i64, .int .i64, .int .i64, .int .i64, .slc [.int .i64]]
def aIns : AV := .agg [.sym .i64 (D 0), .sym .i64 (D 1), .sym .i64 (D 2), .sym .i64 (D 3), .sym .i64 (D 4), LI (D 5)]
def con3 : Con := { f := 3, args := [aIns, .sym .i64 (D 6), .sym .i64 (D 7), .sym .i64 (D 8)], pre := [], res := .bool true, objs := [] }
theorem mS0 : mAll R0 0 [] (envL S0) (toldSt b0 [] R0) S0 [] R0 = some [z 8, z 7, z 6, z 0, z 1, z 2, z 3, z 4, w 5] := by rfl
theorem mR0 : mAll R0 0 [] (envL [(8, .bool true)]) (toldSt b0 [] R0) [(8, .bool true)] [] R0 = some [] := by rfl
theorem con3_ok : con3.Sound F0 P gl0 b0 R0 := by
  refine con_sound (fn := Tryz.f3) (code := c3) Tryz.func3 (by rfl) (by kernel_rfl) (by kernel_rfl) fun v hF hpre => ?_
  refine ⟨.ret, [(8, .bool true)], _, _, .inl rfl, ?_, by rfl, rfl⟩
  show HR 0 0 86 v c3 (envL S0) (toldSt b0 [] R0) .ret v (envL [(8, .bool true)]) (toldSt b0 [] R0)
  refine HT.pre (Nat.le_refl 0) (retell_ok base0 mS0 (v' := vL (v.dat 0) (v.dat 1) (v.dat 2) (v.dat 3) (v.dat 4) (v.dat 5) (v.dat 6) (v.dat 7) (v.dat 8)) ?_) (HT.retell (Nat.le_refl 0) (law_ht _ _ _ _ _ _ _ _ _) (retell_ok base0 mR0 eqs_nil))
  exact eqs_cons rfl (eqs_cons rfl (eqs_cons rfl (eqs_cons rfl (eqs_cons rfl (eqs_cons rfl (eqs_cons rfl (eqs_cons rfl (eqs_cons rfl eqs_nil))))))))
def phi0 (W : World) : PM := fun i u => if i = gid then (match W.heap[u]? with
  | some (.cells c _ _) => some ⟨u, 0, 0, 0, 0, c.toList⟩
  | _ => none) else none
theorem phi0_some {W : World} {i u : Nat} {e : Ext} (h : phi0 W i u = some e) : i = gid ∧ ∃ c t fr, W.heap[u]? = some (.cells c t fr) ∧ e = ⟨u, 0, 0, 0, 0, c.toList⟩ := by
  unfold phi0 at h
  split at h
  · rename_i hi
    split at h
    · rename_i c t fr hc
      simp only [Option.some.injEq] at h
      exact ⟨hi, c, t, fr, hc, h.symm⟩
    · cases h
  · cases h
theorem gidR : gid < R0 := by decide
theorem hold0 (W : World) (v : Val) : Hold v gl0 b0 R0 0 .leaf (con3.start b0 R0) { tmps := #[], defers := [] } W (phi0 W) := by
  have hb : ∀ v' : Val, ∀ (φ : PM), φ = phi0 W ∨ φ = (phi0 W).low R0 → ∀ i, @Rep v' R0 φ W i (b0.get i) := fun v' φ hφ i => by
    have hs : ∀ {i u : Nat} {e : Ext}, φ i u = some e → phi0 W i u = some e := fun {i u e} h => by
      rcases hφ with rfl | rfl
      · exact h
      · unfold PM.low at h
        split at h
        · exact h
        · cases h
    by_cases hi : i = gid
    · subst hi
      rw [b0, T.get_set_same]
      show ∀ n e, φ gid n = some e → _
      intro n e he
      obtain ⟨_, c, t, fr, hc, rfl⟩ := phi0_some (hs he)
      exact ⟨rfl, t, fr, by simpa using hc⟩
    · rw [b0, T.get_set_ne _ _ hi]
      simp [T.get_leaf, Rep]
  have hwf : WF R0 (phi0 W) W := ⟨fun i v e j u f hi hj _ => by
      obtain ⟨rfl, _⟩ := phi0_some hi
      obtain ⟨rfl, _⟩ := phi0_some hj
      exact .inl rfl, fun i v e hi => by
      obtain ⟨_, c, t, fr, hc, rfl⟩ := phi0_some hi
      exact (Array.getElem?_eq_some_iff.1 hc).1, fun i v e hi => by
      obtain ⟨_, c, t, fr, hc, rfl⟩ := phi0_some hi
      exact Nat.le_refl _⟩
  have hnone : ∀ i, R0 ≤ i → b0.get i = none := base0.none
  exact {
    size := rfl
    val := fun t x h => by simp [T.get_leaf] at h
    dfs := rfl
    inv := { wf := hwf, low := Nat.le_refl _, rep := fun i _ _ => hb v _ (.inl rfl) i, gl := fun g n h => (by cases h), dom := fun i hi => hnone i hi, pin := fun _ _ h => (by cases h), dec := fun _ _ h => (by cases h),
             wrR := fun i h => (by cases h), ro := fun i _ => hb v _ (.inr rfl) i, oh := @kOp_ok v }
    free := fun i hi u => by
      cases h : phi0 W i u with
      | none => rfl
      | some e =>
        obtain ⟨rfl, _⟩ := phi0_some h
        have := gidR
        have : R0 ≤ gid := hi
        omega
    roA := fun v' i _ => hb v' _ (.inr rfl) i
    rd := rfl
    wr := rfl }
theorem pict0 {W : World} {b : Nat} {s : List Value} (h : pcW W b s) : Pict (phi0 W) gid b s := by
  obtain ⟨t, fr, h⟩ := h
  refine ⟨gid, b, ⟨b, 0, 0, 0, 0, s⟩, .inl rfl, ?_, rfl, rfl⟩
  simp [phi0, h]
theorem law_calls {W : World} {cs : Array Value} {row : List Dat} {z1 z2 z3 : Int} (h : RowR (pcW W) LIns row cs.toList) :
    Calls P 3 #[.agg cs, .int .i64 z1, .int .i64 z2, .int .i64 z3] W fun e W' => e = .returned (.bool true) ∧ Below W.heap.size W W' := by
  obtain ⟨h1, h2, h3⟩ := h
  obtain ⟨d0, d1, d2, d3, d4, d5, rfl⟩ : ∃ d0 d1 d2 d3 d4 d5, row = [d0, d1, d2, d3, d4, d5] := by
    match row, h1 with
    | [d0, d1, d2, d3, d4, d5], _ => exact ⟨_, _, _, _, _, _, rfl⟩
  obtain ⟨cs⟩ := cs
  obtain ⟨x0, x1, x2, x3, x4, x5, rfl⟩ : ∃ x0 x1 x2 x3 x4 x5, cs = [x0, x1, x2, x3, x4, x5] := by
    match cs, h2 with
    | [x0, x1, x2, x3, x4, x5], _ => exact ⟨_, _, _, _, _, _, rfl⟩
  let v : Val := vL d0 d1 d2 d3 d4 d5 (.int z1) (.int z2) (.int z3)
  have hi : ∀ (j : Nat) (d : Dat) (x : Value), LIns[j]? = some (.int .i64) → [d0, d1, d2, d3, d4, d5][j]? = some d → [x0, x1, x2, x3, x4, x5][j]? = some x → x = .int .i64 d.toI := fun j d x a b c => by
    have := h3 j _ d x a b c
    cases this; rfl
  have e0 := hi 0 d0 x0 rfl rfl rfl
  have e1 := hi 1 d1 x1 rfl rfl rfl
  have e2 := hi 2 d2 x2 rfl rfl rfl
  have e3 := hi 3 d3 x3 rfl rfl rfl
  have e4 := hi 4 d4 x4 rfl rfl rfl
  have e5 := h3 5 (.slc [.int .i64]) d5 x5 rfl rfl rfl
  subst e0; subst e1; subst e2; subst e3; subst e4
  have hl : @VR v (phi0 W) (LI (D 5)) x5 := by
    cases x5 with
    | slice a n c => exact @VR.opq v _ _ _ _ _ _ _ _ ⟨_, a, n, c, rfl, rfl, e5.mono fun _ _ h => pict0 h⟩
    | _ => cases e5
  have ha : @VRL v (phi0 W) con3.args (#[.agg ⟨[.int .i64 d0.toI, .int .i64 d1.toI, .int .i64 d2.toI, .int .i64 d3.toI, .int .i64 d4.toI, x5]⟩, .int .i64 z1, .int .i64 z2, .int .i64 z3] : Array Value).toList :=
    @VRL.cons v _ _ _ _ _ (@VR.agg v _ _ _ (@VRL.cons v _ _ _ _ _ (@VR.sym v _ _ (D 0)) (@VRL.cons v _ _ _ _ _ (@VR.sym v _ _ (D 1)) (@VRL.cons v _ _ _ _ _ (@VR.sym v _ _ (D 2)) (@VRL.cons v _ _ _ _ _ (@VR.sym v _ _ (D 3)) (@VRL.cons v _ _ _ _ _ (@VR.sym v _ _ (D 4)) (@VRL.cons v _ _ _ _ _ hl (@VRL.nil v _))))))))
      (@VRL.cons v _ _ _ _ _ (@VR.sym v _ _ (D 6)) (@VRL.cons v _ _ _ _ _ (@VR.sym v _ _ (D 7)) (@VRL.cons v _ _ _ _ _ (@VR.sym v _ _ (D 8)) (@VRL.nil v _))))
  refine (con3_ok v rfl hnil W (phi0 W) _ (hold0 W v) ha).mono fun e W' q => ?_
  obtain ⟨φ', x, rfl, hx, ht, _⟩ := q
  have hx : @VR v φ' (.bool true) x := hx
  cases hx
  exact ⟨rfl, ht.os, ht.tape, ht.out, ht.size, fun k hk => ht.keep k hk fun i u e hi he => by
    obtain ⟨rfl, _⟩ := phi0_some he
    have := gidR
    omega⟩
end
end Go.Proofs.YtbkokbjpbbpllaaGreat
