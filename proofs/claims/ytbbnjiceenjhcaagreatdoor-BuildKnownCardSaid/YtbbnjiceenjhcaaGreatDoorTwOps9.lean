/-
  A part of the proof that the abstract evaluator is sound for the model's machine. Conditions: those of each theorem, as it states them.
-/
import Derived.Test.YtbbnjiceenjhcaaGreatDoorTwOps8
set_option linter.all false
namespace Go.Tw
section
variable [Val]
variable {P : Program} {R : Nat} {C : Cfg} {D : Nat → Prop} {φ : PM} {σ : St} {w : World}

theorem VRL.one {a : AV} {l : Array Value} (h : VRL φ [a] l.toList) : ∃ a', l = #[a'] ∧ VR φ a a' := by
  generalize hl : l.toList = l0 at h
  cases h with
  | cons h1 h2 => cases h2; exact ⟨_, by apply Array.ext'; simpa using hl, h1⟩
theorem VRL.two {a b : AV} {l : Array Value} (h : VRL φ [a, b] l.toList) : ∃ a' b', l = #[a', b'] ∧ VR φ a a' ∧ VR φ b b' := by
  generalize hl : l.toList = l0 at h
  cases h with
  | cons h1 h2 => cases h2 with
    | cons h3 h4 => cases h4; exact ⟨_, _, by apply Array.ext'; simpa using hl, h1, h3⟩

theorem info_of {e : TypeId} {size bw : Nat} {z : AV} (h1 : szOf P e = some size) (h2 : byOf P e = some bw) (h3 : zeroOf P e = some z) (hz : z.cells.length = size) :
    ∃ ti z', P.info? e = some ti ∧ ti.size = size ∧ ti.bytes = bw ∧ (∀ w, (zeroValue e).run P w = .ok z' w) ∧ (∀ φ, VR φ z z') ∧ z'.cells.size = size := by
  unfold szOf at h1
  split at h1
  · rename_i i hi
    simp only [Option.some.injEq] at h1
    unfold byOf at h2
    rw [hi] at h2
    simp only [Option.some.injEq] at h2
    obtain ⟨z', rz, vz⟩ := run_zero h3
    have hl := (VRL.const vz (fun _ _ => none)).length
    exact ⟨i, z', hi, h1, h2, rz, vz, by simpa [hz] using hl⟩
  · cases h1

theorem appendA_ok (hi : Inv R C D φ σ w) {ts : List TypeId} {args : List AV} {ts' : Array TypeId} {args' : Array Value} {ty : TypeId} {v : AV} {σ' : St} (h : appendA P ts args σ = some (v, σ'))
    (hts : ts'.toList = ts) (hargs : VRL φ args args'.toList) (hk : Known D σ σ') (hf : Free φ σ σ') :
    ∃ φ' w' v', (Builtin.append_ ts' ty args').run P w = .ok v' w' ∧ VR φ' v v' ∧ Post R D φ σ w σ' φ' w' := by
  unfold appendA at h
  split at h
  · rename_i st u s x
    have hts2 : ts' = #[st, u] := by apply Array.ext'; simpa using hts
    subst hts2
    obtain ⟨s', x', hargs2, hs, hx⟩ := hargs.two
    subst hargs2
    split at h
    · rename_i e hu
      split at h
      · rename_i size bw z h1 h2 h3
        simp only [cond_eq_ite] at h
        split at h
        · rename_i hz
          have hz := beq_t hz
          obtain ⟨ti, z', hti, hsz, hbw, rz, vz, hzs⟩ := info_of h1 h2 h3 hz
          split at h
          · rename_i hzero
            split at h
            · rename_i k n
              simp only [Bool.and_eq_true] at h
              split at h
              · rename_i hb
                have hb1 := ble_t hb.1
                have hb2 := ble_t hb.2
                have hui : ∃ ik, P.underlying u = some (.int ik) := by
                  unfold zerosA at hzero
                  split at hzero
                  · rename_i ik hu2; exact ⟨ik, hu2⟩
                  · cases hzero
                  · cases hzero
                obtain ⟨ik, hu2⟩ := hui
                cases hx
                have harr : VRL φ (repl n z.cells) ((if n * ti.size = 0 then #[] else Builtin.zeroCells z'.cells n : Array Value)).toList := by
                  split
                  · rename_i h0
                    have : repl n z.cells = [] := by
                      apply List.length_eq_zero_iff.1
                      rw [repl_length, hz, ← hsz, h0]
                    rw [this]; exact .nil
                  · rename_i h0
                    have := makeSlice_cells vz hz φ z'.cells (c := n) (fun _ => rfl)
                    rw [← hzs] at this
                    exact this
                exact appendTo_ok (u := u) hi h hs hu hti hsz hbw rz hzs (.inr ⟨ik, k, z', hu2, rfl, hb1, by rw [hbw]; exact hb2, rz, rfl⟩) harr (by rw [repl_length, hz]) hk hf
              · cases h
            · cases h
          · rename_i hzero
            have hud : ∃ d, P.underlying u = some d ∧ ∀ k, d ≠ .int k := by
              unfold zerosA at hzero
              split at hzero
              · cases hzero
              · rename_i d hne hu2
                exact ⟨_, hu2, fun k hk => hne k hk⟩
              · cases hzero
            obtain ⟨d, hu2, hd⟩ := hud
            split at h
            · rename_i n hn
              split at h
              · rename_i new τ hfst
                have hst := appendTo_step h
                have hkτ : Known D σ τ := hk.mono hst
                obtain ⟨arr, q1, q2, q3, q4, q5, q6⟩ := firstA_ok (P := P) hi hfst hx hkτ
                have hfree : Free φ τ σ' := fun i h1 h2 => hf i (by rw [← q5]; exact h1) h2
                obtain ⟨φ', w', v', p1, p2, p3⟩ := appendTo_ok (u := u) (ty := ty) (x' := x') (hi.same q4 q5 q6) h hs hu hti hsz hbw rz hzs
                  (.inl ⟨d, hu2, hd, lenOfA_ok hn hx w, by rw [hsz]; exact q1 w rfl, by rw [hsz]; exact q1 _ rfl⟩) q2 q3 (fun i hi' hn' => hk i hi' (by rw [← q5]; exact hn')) hfree
                exact ⟨φ', w', v', p1, p2, p3.from q5 q6⟩
              · cases h
            · cases h
          · cases h
        · cases h
      · cases h
    · cases h
  · cases h
end
end Go.Tw
