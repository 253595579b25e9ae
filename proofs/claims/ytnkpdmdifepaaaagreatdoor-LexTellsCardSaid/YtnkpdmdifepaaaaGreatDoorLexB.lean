/-
  The line and the column of any place (the reference's Line). Condition: a text of at most 2^40 bytes.
-/
import Derived.Test.YtnkpdmdifepaaaaGreatDoorLexA
namespace Go.Proofs.YtnkpdmdifepaaaaGreatDoor
open Go.Tw
noncomputable section
/-! On which line a place is. -/
def c6 : Code := match Tryz.f6.body with
  | some c => c
  | none => .skip
def b6 : Code := (Code.l (Code.l (Code.r (Code.l (Code.r (Code.r c6))))))
theorem c6_eq : c6 = .seq (Code.l c6) (.seq (Code.l (Code.r c6)) (.seq (.seq (Code.l (Code.l (Code.r (Code.r c6)))) (.block 0 (.loop b6))) (Code.r (Code.r (Code.r c6))))) := by kernel_rfl
/-- How many bytes are gone through. -/
def upto6 (s : List UInt8) (z : Int) : Nat := min z.toNat s.length
def n6 (s : List UInt8) (z : Int) (k : Nat) : Nat → Int
  | 0 => z
  | 1 => 1 + countT s k
  | 2 => k - lastT s k
  | 3 => k
  | 4 => 1 + countT s (upto6 s z)
  | _ => upto6 s z - lastT s (upto6 s z)
abbrev V6 (s : List UInt8) (z : Int) (k : Nat) : Val := Val.mk (n6 s z k) (fun _ => .str s) (fun _ _ _ _ => .int 0)
def E6 : List (Nat × AV) := [(0, .vstr (.dvar 0)), (1, .sym .i64 (.var 0)), (6, .sym .i64 (.var 1)), (7, .sym .i64 (.var 2)), (8, .sym .i64 (.var 3))]
def cAt : Bx := .cmp .lss (.var 3) (.var 0)
def cLen : Bx := .cmp .lss (.var 3) (sLen (.dvar 0))
def cTen : Bx := .cmp .eql (.pr 1 (.dvar 0) (.var 3)) (.lit 10)
def cNeg : Bx := .cmp .lss (.var 3) (.lit 0)
def O6 : List (Nat × AV) := [(6, .sym .i64 (.var 1)), (7, .sym .i64 (.var 2))]
theorem x6_out1 : runB (run [(cAt, false)] 30 b6 E6) (.exit 0) O6 = true := by kernel_rfl
theorem x6_out2 : runB (run [(cAt, true), (cLen, false)] 30 b6 E6) (.exit 0) O6 = true := by kernel_rfl
theorem x6_ten : runB (run [(cAt, true), (cLen, true), (cNeg, false), (cTen, true)] 30 b6 E6) .normal
    [(0, .vstr (.dvar 0)), (1, .sym .i64 (.var 0)), (6, .sym .i64 (.bin .add .i64 (.var 1) (.lit 1))), (7, .int .i64 1), (8, .sym .i64 (.bin .add .i64 (.var 3) (.lit 1)))] = true := by kernel_rfl
theorem x6_else : runB (run [(cAt, true), (cLen, true), (cNeg, false), (cTen, false)] 30 b6 E6) .normal
    [(0, .vstr (.dvar 0)), (1, .sym .i64 (.var 0)), (6, .sym .i64 (.var 1)), (7, .sym .i64 (.bin .add .i64 (.var 2) (.lit 1))), (8, .sym .i64 (.bin .add .i64 (.var 3) (.lit 1)))] = true := by kernel_rfl

theorem add_small {v : Val} {a : Sx} {x : Int} (ha : @Sx.eval v a = x) (h1 : -4611686018427387904 ≤ x) (h2 : x ≤ 4611686018427387904) : @Sx.eval v (.bin .add .i64 a (.lit 1)) = x + 1 := by
  show wrapI .i64 (@Sx.eval v a + 1) = _
  rw [ha, wrap_i64]
  split <;> omega

theorem loop6 {s : List UInt8} {z : Int} (hs : s.length ≤ 1099511627776) : ∀ v, (∃ k, k ≤ upto6 s z ∧ v = V6 s z k) →
    PureTo v P 30 (.loop b6) (envL E6) (.exit 0) (envL [(6, .sym .i64 (.var 4)), (7, .sym .i64 (.var 5))]) := by
  refine pure_loop (I := fun v => ∃ k, k ≤ upto6 s z ∧ v = V6 s z k) (μ := fun v => (s.length - v.num 3).toNat) (eo := fun _ => .exit 0) (to := fun _ => envL [(6, .sym .i64 (.var 4)), (7, .sym .i64 (.var 5))]) ?_
  rintro v ⟨k, hk, rfl⟩
  letI : Val := V6 s z k
  have hd : Sx.dat (.dvar 0) = .str s := rfl
  have h3 : Sx.eval (.var 3) = (k : Int) := rfl
  have h0 : Sx.eval (.var 0) = z := rfl
  have hu : upto6 s z ≤ s.length := Nat.min_le_right _ _
  have hout : k = upto6 s z → Sub (V6 s z k) (envL O6) (V6 s z k) (envL [(6, .sym .i64 (.var 4)), (7, .sym .i64 (.var 5))]) := by
    intro he
    refine sub_of fun p hpm => ?_
    simp only [List.mem_cons, List.not_mem_nil, or_false] at hpm
    rcases hpm with rfl | rfl
    · refine ⟨.sym .i64 (.var 1), by kernel_rfl, told_sym ?_⟩
      show 1 + countT s k = 1 + countT s (upto6 s z)
      rw [he]
    · refine ⟨.sym .i64 (.var 2), by kernel_rfl, told_sym ?_⟩
      show (k : Int) - lastT s k = upto6 s z - lastT s (upto6 s z)
      rw [he]
  by_cases hz : (k : Int) < z
  · by_cases hl : k < s.length
    · left
      have hb : @Holds (V6 s z k) [(cAt, true), (cLen, true), (cNeg, false), (cTen, decide (s[k] = 10))] := by
        refine Holds.cons ?_ (Holds.cons ?_ (Holds.cons ?_ (Holds.cons ?_ Holds.nil)))
        · rw [cAt, dec_lss h3 h0]; simpa using hz
        · rw [cLen, dec_lss h3 (len_eval hd)]; simp; omega
        · rw [cNeg, dec_lss h3 (y := 0) rfl]; simp
        · rw [cTen, dec_eql (at_eval hd h3 hl) (y := 10) rfl]; simp only [is10]
      have hlt : k < upto6 s z := by
        unfold upto6
        omega
      have c1 := countT_ge s k
      have c2 := lastT_ge s k
      have hg := get_byte hl
      have hk1 : ∃ v', v' = V6 s z (k + 1) := ⟨_, rfl⟩
      have hμ : ((s.length : Int) - ((k + 1 : Nat) : Int)).toNat < ((s.length : Int) - (k : Int)).toNat := by omega
      have hi : Sx.eval (.bin .add .i64 (.var 3) (.lit 1)) = ((k + 1 : Nat) : Int) := by
        rw [add_small h3 (by omega) (by omega)]; omega
      by_cases hc : s[k] = 10
      · simp only [hc, decide_true] at hb
        refine ⟨V6 s z (k + 1), _, ⟨k + 1, hlt, rfl⟩, hμ, pure_path hb x6_ten, ?_, rfl, ?_⟩
        · refine sub_of fun p hpm => ?_
          simp only [E6, List.mem_cons, List.not_mem_nil, or_false] at hpm
          rcases hpm with rfl | rfl | rfl | rfl | rfl
          · exact ⟨.vstr (.dvar 0), by kernel_rfl, told_str rfl⟩
          · exact ⟨.sym .i64 (.var 0), by kernel_rfl, told_sym rfl⟩
          · refine ⟨.sym .i64 (.bin .add .i64 (.var 1) (.lit 1)), by kernel_rfl, told_sym ?_⟩
            rw [add_small (x := 1 + countT s k) rfl (by omega) (by omega)]
            show 1 + countT s k + 1 = 1 + countT s (k + 1)
            simp only [countT, hg, hc, if_true]
            omega
          · refine ⟨.int .i64 1, by kernel_rfl, told_int ?_⟩
            show (1 : Int) = ((k + 1 : Nat) : Int) - lastT s (k + 1)
            simp only [lastT, hg, hc, if_true]
            omega
          · exact ⟨.sym .i64 (.bin .add .i64 (.var 3) (.lit 1)), by kernel_rfl, told_sym hi⟩
        · refine sub_of fun p hpm => ?_
          simp only [List.mem_cons, List.not_mem_nil, or_false] at hpm
          rcases hpm with rfl | rfl
          · exact ⟨.sym .i64 (.var 4), by kernel_rfl, told_sym rfl⟩
          · exact ⟨.sym .i64 (.var 5), by kernel_rfl, told_sym rfl⟩
      · simp only [hc, decide_false] at hb
        refine ⟨V6 s z (k + 1), _, ⟨k + 1, hlt, rfl⟩, hμ, pure_path hb x6_else, ?_, rfl, ?_⟩
        · refine sub_of fun p hpm => ?_
          simp only [E6, List.mem_cons, List.not_mem_nil, or_false] at hpm
          rcases hpm with rfl | rfl | rfl | rfl | rfl
          · exact ⟨.vstr (.dvar 0), by kernel_rfl, told_str rfl⟩
          · exact ⟨.sym .i64 (.var 0), by kernel_rfl, told_sym rfl⟩
          · refine ⟨.sym .i64 (.var 1), by kernel_rfl, told_sym ?_⟩
            show 1 + countT s k = 1 + countT s (k + 1)
            simp [countT, hg, hc]
          · refine ⟨.sym .i64 (.bin .add .i64 (.var 2) (.lit 1)), by kernel_rfl, told_sym ?_⟩
            rw [add_small (x := (k : Int) - lastT s k) rfl (by omega) (by omega)]
            show (k : Int) - lastT s k + 1 = ((k + 1 : Nat) : Int) - lastT s (k + 1)
            have : lastT s (k + 1) = lastT s k := by simp [lastT, hg, hc]
            rw [this]
            omega
          · exact ⟨.sym .i64 (.bin .add .i64 (.var 3) (.lit 1)), by kernel_rfl, told_sym hi⟩
        · refine sub_of fun p hpm => ?_
          simp only [List.mem_cons, List.not_mem_nil, or_false] at hpm
          rcases hpm with rfl | rfl
          · exact ⟨.sym .i64 (.var 4), by kernel_rfl, told_sym rfl⟩
          · exact ⟨.sym .i64 (.var 5), by kernel_rfl, told_sym rfl⟩
    · right
      refine ⟨by simp, (pure_path (p := [(cAt, true), (cLen, false)]) (Holds.cons ?_ (Holds.cons ?_ Holds.nil)) x6_out2).weak (hout ?_)⟩
      · rw [cAt, dec_lss h3 h0]; simpa using hz
      · rw [cLen, dec_lss h3 (len_eval hd)]; simp; omega
      · omega
  · right
    refine ⟨by simp, (pure_path (p := [(cAt, false)]) (Holds.cons ?_ Holds.nil) x6_out1).weak (hout ?_)⟩
    · rw [cAt, dec_lss h3 h0]; simpa using hz
    · unfold upto6 at hk ⊢
      omega

def A6 : List AV := [.vstr (.dvar 0), .sym .i64 (.var 0)]
def I6 : List (Nat × AV) := [(0, .vstr (.dvar 0)), (1, .sym .i64 (.var 0))]
theorem x6_pre0 : runB (run [] 30 (Code.l c6) I6) .normal I6 = true := by kernel_rfl
theorem x6_pre1 : runB (run [] 30 (Code.l (Code.r c6)) I6) .normal [(0, .vstr (.dvar 0)), (1, .sym .i64 (.var 0)), (6, .int .i64 1), (7, .int .i64 1)] = true := by kernel_rfl
theorem x6_pre2 : runB (run [] 30 (Code.l (Code.l (Code.r (Code.r c6)))) [(0, .vstr (.dvar 0)), (1, .sym .i64 (.var 0)), (6, .int .i64 1), (7, .int .i64 1)]) .normal
    [(0, .vstr (.dvar 0)), (1, .sym .i64 (.var 0)), (6, .int .i64 1), (7, .int .i64 1), (8, .int .i64 0)] = true := by kernel_rfl
theorem x6_end : runB (run [] 30 (Code.r (Code.r (Code.r c6))) [(6, .sym .i64 (.var 4)), (7, .sym .i64 (.var 5))]) .ret [(4, .sym .i64 (.var 4)), (5, .sym .i64 (.var 5))] = true := by kernel_rfl

/-- On which line and in which column a place is. -/
theorem line_calls (s : List UInt8) (z : Int) (hs : s.length ≤ 1099511627776) (w : World) :
    Calls P 6 #[.string ⟨⟨s⟩⟩, .int .i64 z] w fun e w' => e = .returned (.tuple #[.int .i64 (1 + countT s (upto6 s z)), .int .i64 (upto6 s z - lastT s (upto6 s z))]) ∧ Frm noPM [] w w' := by
  let v := V6 s z 0
  have hloop := loop6 (z := z) hs v ⟨0, Nat.zero_le _, rfl⟩
  have hd : @Sx.dat v (.dvar 0) = .str s := rfl
  have hp0 : PureTo v P 30 (Code.l c6) (envL I6) .normal (envL I6) := pure_path (@Holds.nil v) x6_pre0
  have hp1 : PureTo v P 30 (Code.l (Code.r c6)) (envL I6) .normal (envL [(0, .vstr (.dvar 0)), (1, .sym .i64 (.var 0)), (6, .int .i64 1), (7, .int .i64 1)]) := pure_path (@Holds.nil v) x6_pre1
  have hp2 : PureTo v P 30 (Code.l (Code.l (Code.r (Code.r c6)))) (envL [(0, .vstr (.dvar 0)), (1, .sym .i64 (.var 0)), (6, .int .i64 1), (7, .int .i64 1)]) .normal (envL E6) := by
    refine (pure_path (@Holds.nil v) x6_pre2).weak (sub_of fun p hpm => ?_)
    simp only [E6, List.mem_cons, List.not_mem_nil, or_false] at hpm
    rcases hpm with rfl | rfl | rfl | rfl | rfl
    · exact ⟨.vstr (.dvar 0), by kernel_rfl, told_str rfl⟩
    · exact ⟨.sym .i64 (.var 0), by kernel_rfl, told_sym rfl⟩
    · exact ⟨.int .i64 1, by kernel_rfl, told_int rfl⟩
    · exact ⟨.int .i64 1, by kernel_rfl, told_int rfl⟩
    · exact ⟨.int .i64 0, by kernel_rfl, told_int rfl⟩
  have hend : PureTo v P 30 (Code.r (Code.r (Code.r c6))) (envL [(6, .sym .i64 (.var 4)), (7, .sym .i64 (.var 5))]) .ret (envL [(4, .sym .i64 (.var 4)), (5, .sym .i64 (.var 5))]) := pure_path (@Holds.nil v) x6_end
  have hbody : PureTo v P 30 c6 (envOf A6 0 .leaf) .ret (envL [(4, .sym .i64 (.var 4)), (5, .sym .i64 (.var 5))]) := by
    rw [c6_eq]
    refine PureTo.pre (v := v) (v' := v) (tm := envL I6) (tm' := envL [(4, .sym .i64 (.var 4)), (5, .sym .i64 (.var 5))]) ?_ ?_ ?_
    · exact hp0.seq (hp1.seq ((hp2.seq hloop.block).seq hend))
    · refine sub_of fun p hpm => ?_
      simp only [I6, List.mem_cons, List.not_mem_nil, or_false] at hpm
      rcases hpm with rfl | rfl
      · exact ⟨.vstr (.dvar 0), by kernel_rfl, told_str rfl⟩
      · exact ⟨.sym .i64 (.var 0), by kernel_rfl, told_sym rfl⟩
    · exact sub_of_B (by kernel_rfl)
  have hc := pure_calls (v := v) (f := 6) (fn := Tryz.f6) (c := c6) (args := A6) (args' := #[.string ⟨⟨s⟩⟩, .int .i64 z]) (w := w) (l := [.sym .i64 (.var 4), .sym .i64 (.var 5)]) (σ' := St.empty 0) Tryz.func6 (by rfl)
    (.cons (.vstr s hd) (.cons (@VR.sym v _ .i64 (.var 0)) .nil)) (by kernel_rfl) hbody (.inl rfl) (by rfl)
  refine hc.mono fun e w' he => ?_
  obtain ⟨x, rfl, hx, hf⟩ := he
  refine ⟨?_, hf⟩
  have hx : @VR v noPM (.tup [.sym .i64 (.var 4), .sym .i64 (.var 5)]) x := hx
  cases hx with
  | tup l' hl =>
    obtain ⟨l'⟩ := l'
    have hl : @VRL v noPM [.sym .i64 (.var 4), .sym .i64 (.var 5)] l' := hl
    cases hl with
    | cons h1 h2 =>
      cases h2 with
      | cons h2 h3 =>
        cases h1; cases h2; cases h3
        rfl
end
end Go.Proofs.YtnkpdmdifepaaaaGreatDoor
