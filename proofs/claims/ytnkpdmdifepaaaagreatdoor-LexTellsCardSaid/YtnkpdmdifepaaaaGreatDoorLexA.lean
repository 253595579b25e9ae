/-
  Where byte 10 is last in any text (internal/bytealg.LastIndexByteString). Condition: a text of at most 2^40 bytes.
-/
import Derived.Test.YtnkpdmdifepaaaaGreatDoorPlain
import Derived.Test.YtnkpdmdifepaaaaGreatDoorChecked
namespace Go.Proofs.YtnkpdmdifepaaaaGreatDoor
open Go.Tw
noncomputable section
abbrev P : Program := Tryz.prog
def Code.l : Code → Code
  | .seq a _ => a
  | .block _ a => a
  | .loop a => a
  | .scope a => a
  | c => c
def Code.r : Code → Code
  | .seq _ b => b
  | c => c
theorem follows : P.follows .mixedOrders = true := by kernel_rfl
def run (p : Dcs) (nt : Nat) (c : Code) (l : List (Nat × AV)) : XR := exec P { pathCfg p with hk := memoHk 0 (tabM []) } 1000 nt c { tm := envL l, ds := [], md := none, rd := false } (St.empty 0)
theorem pure_path {v : Val} {p : Dcs} (hp : @Holds v p) {nt : Nat} {c : Code} {l l' : List (Nat × AV)} {e : AExit} (h : runB (run p nt c l) e l' = true) : PureTo v P nt c (envL l) e (envL l') :=
  pure_run hp (fun _ h => by cases h) follows h

/-! Where a byte is last. -/
def c27 : Code := match Tryz.f27.body with
  | some c => c
  | none => .skip
def n27 (k : Nat) (r : Int) : Nat → Int
  | 0 => (k : Int) - 1
  | _ => r
abbrev V27 (s : List UInt8) (k : Nat) (r : Int) : Val := Val.mk (n27 k r) (fun _ => .str s) (fun _ _ _ _ => .int 0)
theorem holds1 {v : Val} {b : Bx} {x : Bool} (h : @Bx.eval v b = x) : @Holds v [(b, x)] := @Holds.cons v _ _ _ h (@Holds.nil v)
def E27 : List (Nat × AV) := [(0, .vstr (.dvar 0)), (1, .int .u8 10), (5, .sym .i64 (.var 0))]
def b27 : Code := (Code.l (Code.l (Code.r (Code.l (Code.r c27)))))
theorem c27_eq : c27 = .seq (Code.l c27) (.seq (.seq (Code.l (Code.l (Code.r c27))) (.block 0 (.loop b27))) (Code.r (Code.r c27))) := by kernel_rfl

theorem get_byte {s : List UInt8} {k : Nat} (hk : k < s.length) : s[k]? = some s[k] := List.getElem?_eq_getElem hk
theorem at_eval {v : Val} {s : List UInt8} {k : Nat} {e i : Sx} (he : @Sx.dat v e = .str s) (hi : @Sx.eval v i = (k : Int)) (hk : k < s.length) : @Sx.eval v (.pr 1 e i) = (s[k].toNat : Int) := by
  show (match (@Sx.dat v e).toS[(@Sx.dat v i).toI.toNat]? with
    | some c => (c.toNat : Int)
    | none => 0) = _
  have hi : (@Sx.dat v i).toI = (k : Int) := hi
  rw [he, hi, Int.toNat_natCast]
  show (match s[k]? with
    | some c => (c.toNat : Int)
    | none => 0) = _
  rw [get_byte hk]
theorem len_eval {v : Val} {s : List UInt8} {e : Sx} (he : @Sx.dat v e = .str s) : @Sx.eval v (sLen e) = (s.length : Int) := @sLen_eval v e s he
theorem is10 {b : UInt8} : ((b.toNat : Int) = 10) ↔ b = 10 := by
  constructor
  · intro h
    have : b.toNat = 10 := by omega
    exact UInt8.toNat_inj.1 this
  · intro h; rw [h]; rfl
theorem dec_lss {v : Val} {a b : Sx} {x y : Int} (ha : @Sx.eval v a = x) (hb : @Sx.eval v b = y) : @Bx.eval v (.cmp .lss a b) = decide (x < y) := by
  show decide (@Sx.eval v a < @Sx.eval v b) = _
  rw [ha, hb]
theorem dec_eql {v : Val} {a b : Sx} {x y : Int} (ha : @Sx.eval v a = x) (hb : @Sx.eval v b = y) : @Bx.eval v (.cmp .eql a b) = decide (x = y) := by
  show (@Sx.eval v a == @Sx.eval v b) = _
  rw [ha, hb]
  by_cases h : x = y <;> simp [h]

def p27 (b : Bool) : Dcs := [(.cmp .lss (.var 0) (.lit 0), false), (.cmp .lss (.var 0) (sLen (.dvar 0)), true), (.cmp .eql (.pr 1 (.dvar 0) (.var 0)) (.lit 10), b)]
theorem x27_out : runB (run [(.cmp .lss (.var 0) (.lit 0), true)] 19 b27 E27) (.exit 0) [] = true := by kernel_rfl
theorem x27_hit : runB (run (p27 true) 19 b27 E27) .ret [(4, .sym .i64 (.var 0))] = true := by kernel_rfl
theorem x27_next : runB (run (p27 false) 19 b27 E27) .normal [(0, .vstr (.dvar 0)), (1, .int .u8 10), (5, .sym .i64 (.bin .sub .i64 (.var 0) (.lit 1)))] = true := by kernel_rfl

theorem p27_holds {s : List UInt8} {k : Nat} {r : Int} (hk : k < s.length) : @Holds (V27 s (k + 1) r) (p27 (decide (s[k] = 10))) := by
  have h0 : @Sx.eval (V27 s (k + 1) r) (.var 0) = (k : Int) := by show ((k + 1 : Nat) : Int) - 1 = _; omega
  have hd : @Sx.dat (V27 s (k + 1) r) (.dvar 0) = .str s := rfl
  letI : Val := V27 s (k + 1) r
  refine Holds.cons ?_ (Holds.cons ?_ (Holds.cons ?_ Holds.nil))
  · rw [dec_lss h0 (y := 0) rfl]; simp
  · rw [dec_lss h0 (len_eval hd)]; simp; omega
  · rw [dec_eql (at_eval hd h0 hk) (y := 10) rfl]
    simp only [is10]

theorem loop27 {s : List UInt8} {r : Int} (hs : s.length ≤ 1099511627776) : ∀ v, (∃ k, k ≤ s.length ∧ lastT s k = r ∧ v = V27 s k r) →
    PureTo v P 19 (.loop b27) (envL E27) (if r = -1 then .exit 0 else .ret) (envL (if r = -1 then [] else [(4, .sym .i64 (.var 1))])) := by
  refine pure_loop (I := fun v => ∃ k, k ≤ s.length ∧ lastT s k = r ∧ v = V27 s k r) (μ := fun v => (v.num 0 + 1).toNat) (eo := fun _ => if r = -1 then .exit 0 else .ret) (to := fun _ => envL (if r = -1 then [] else [(4, .sym .i64 (.var 1))])) ?_
  rintro v ⟨k, hk, hr, rfl⟩
  cases k with
  | zero =>
    right
    have hr : r = -1 := hr.symm
    subst hr
    refine ⟨by simp, ?_⟩
    simp only [if_true]
    refine pure_path (v := V27 s 0 (-1)) ?_ x27_out
    exact holds1 (by rw [dec_lss (x := -1) (y := 0) rfl rfl]; rfl)
  | succ k =>
    have hlt : k < s.length := by omega
    have hp := p27_holds (r := r) hlt
    have hg := get_byte hlt
    by_cases hb : s[k] = 10
    · right
      have hrk : r = (k : Int) := by rw [← hr]; simp [lastT, hg, hb]
      have hne : ¬ r = -1 := by omega
      simp only [hne, if_false]
      refine ⟨by simp, ?_⟩
      simp only [hb, decide_true] at hp
      refine (pure_path hp x27_hit).weak (sub_of fun p hpm => ?_)
      simp only [List.mem_singleton] at hpm
      subst hpm
      refine ⟨.sym .i64 (.var 0), by kernel_rfl, told_sym ?_⟩
      show ((k + 1 : Nat) : Int) - 1 = r
      omega
    · left
      have hrk : lastT s k = r := by rw [← hr]; simp [lastT, hg, hb]
      simp only [hb, decide_false] at hp
      refine ⟨V27 s k r, _, ⟨k, by omega, hrk, rfl⟩, ?_, pure_path hp x27_next, ?_, rfl, ?_⟩
      · show ((k : Int) - 1 + 1).toNat < (((k + 1 : Nat) : Int) - 1 + 1).toNat
        omega
      · refine sub_of fun p hpm => ?_
        simp only [E27, List.mem_cons, List.not_mem_nil, or_false] at hpm
        rcases hpm with rfl | rfl | rfl
        · exact ⟨.vstr (.dvar 0), by kernel_rfl, told_str rfl⟩
        · exact ⟨.int .u8 10, by kernel_rfl, told_const⟩
        · refine ⟨.sym .i64 (.bin .sub .i64 (.var 0) (.lit 1)), by kernel_rfl, told_sym ?_⟩
          show wrapI .i64 ((((k + 1 : Nat) : Int) - 1) - 1) = (k : Int) - 1
          rw [wrap_i64]
          split <;> omega
      · split
        · exact fun t x h => by simp [envL, T.get_leaf] at h
        · refine sub_of fun p hpm => ?_
          simp only [List.mem_singleton] at hpm
          subst hpm
          exact ⟨.sym .i64 (.var 1), by kernel_rfl, told_sym rfl⟩

def A27 : List AV := [.vstr (.dvar 0), .int .u8 10]
theorem x27_pre0 : runB (run [] 19 (Code.l c27) [(0, .vstr (.dvar 0)), (1, .int .u8 10)]) .normal [(0, .vstr (.dvar 0)), (1, .int .u8 10)] = true := by kernel_rfl
theorem x27_pre1 : runB (run [] 19 (Code.l (Code.l (Code.r c27))) [(0, .vstr (.dvar 0)), (1, .int .u8 10)]) .normal [(0, .vstr (.dvar 0)), (1, .int .u8 10), (5, .sym .i64 (.bin .sub .i64 (sLen (.dvar 0)) (.lit 1)))] = true := by kernel_rfl
theorem x27_end : runB (run [] 19 (Code.r (Code.r c27)) []) .ret [(4, .int .i64 (-1))] = true := by kernel_rfl
theorem env27 : envOf A27 0 .leaf = envL [(1, .int .u8 10), (0, .vstr (.dvar 0))] := by kernel_rfl

/-- Where byte 10 is last. -/
theorem last_calls (s : List UInt8) (hs : s.length ≤ 1099511627776) (w : World) :
    Calls P 27 #[.string ⟨⟨s⟩⟩, .int .u8 10] w fun e w' => e = .returned (.int .i64 (lastT s s.length)) ∧ Frm noPM [] w w' := by
  let r := lastT s s.length
  let v := V27 s s.length r
  have hloop := loop27 hs v ⟨s.length, Nat.le_refl _, rfl, rfl⟩
  have hd : @Sx.dat v (.dvar 0) = .str s := rfl
  have hpre : PureTo v P 19 (Code.l c27) (envL [(0, .vstr (.dvar 0)), (1, .int .u8 10)]) .normal (envL [(0, .vstr (.dvar 0)), (1, .int .u8 10)]) := pure_path (@Holds.nil v) x27_pre0
  have hpre1 : PureTo v P 19 (Code.l (Code.l (Code.r c27))) (envL [(0, .vstr (.dvar 0)), (1, .int .u8 10)]) .normal (envL E27) := by
    refine (pure_path (@Holds.nil v) x27_pre1).weak (sub_of fun p hpm => ?_)
    simp only [E27, List.mem_cons, List.not_mem_nil, or_false] at hpm
    rcases hpm with rfl | rfl | rfl
    · exact ⟨.vstr (.dvar 0), by kernel_rfl, told_str rfl⟩
    · exact ⟨.int .u8 10, by kernel_rfl, told_const⟩
    · refine ⟨.sym .i64 (.bin .sub .i64 (sLen (.dvar 0)) (.lit 1)), by kernel_rfl, told_sym ?_⟩
      show wrapI .i64 ((s.length : Int) - 1) = (s.length : Int) - 1
      rw [wrap_i64]
      split <;> omega
  have hbody : PureTo v P 19 c27 (envOf A27 0 .leaf) .ret (envL [(4, .sym .i64 (.var 1))]) := by
    rw [c27_eq]
    refine PureTo.pre (v := v) (v' := v) (tm := envL [(0, .vstr (.dvar 0)), (1, .int .u8 10)]) (tm' := envL [(4, .sym .i64 (.var 1))]) ?_ ?_ ?_
    · refine hpre.seq ?_
      by_cases hr : r = -1
      · rw [if_pos hr, if_pos hr] at hloop
        refine (hpre1.seq hloop.block).seq ((pure_path (@Holds.nil v) x27_end).weak (sub_of fun p hpm => ?_))
        simp only [List.mem_singleton] at hpm
        subst hpm
        exact ⟨.int .i64 (-1), by kernel_rfl, told_int hr.symm⟩
      · rw [if_neg hr, if_neg hr] at hloop
        exact (hpre1.seq (hloop.block_out (by simp))).seq_out (by simp)
    · refine sub_of fun p hpm => ?_
      simp only [List.mem_cons, List.not_mem_nil, or_false] at hpm
      rcases hpm with rfl | rfl
      · exact ⟨.vstr (.dvar 0), by kernel_rfl, told_str rfl⟩
      · exact ⟨.int .u8 10, by kernel_rfl, told_const⟩
    · exact sub_of_B (by kernel_rfl)
  have hc := pure_calls (v := v) (f := 27) (fn := Tryz.f27) (c := c27) (args := A27) (args' := #[.string ⟨⟨s⟩⟩, .int .u8 10]) (w := w) (l := [.sym .i64 (.var 1)]) (σ' := St.empty 0) Tryz.func27 (by rfl)
    (.cons (.vstr s hd) (.cons (.int _ _) .nil)) (by kernel_rfl) hbody (.inl rfl) (by rfl)
  refine hc.mono fun e w' he => ?_
  obtain ⟨x, rfl, hx, hf⟩ := he
  refine ⟨?_, hf⟩
  have hx : @VR v noPM (.sym .i64 (.var 1)) x := hx
  cases hx
  rfl
end
end Go.Proofs.YtnkpdmdifepaaaaGreatDoor
