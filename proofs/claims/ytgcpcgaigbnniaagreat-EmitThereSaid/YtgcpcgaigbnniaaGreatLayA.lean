/-
  A part of the law's proof over the abstract evaluator. Conditions: those of each theorem, as it states them.
-/
import Derived.Test.YtgcpcgaigbnniaaGreatTwL
import Derived.Test.YtgcpcgaigbnniaaGreatChecked
set_option linter.all false
namespace Go.Proofs.YtgcpcgaigbnniaaGreat
open Go.Tw
noncomputable section
/-! The law: what is told ahead of the loop over all registers, behind it, and at its end. -/
abbrev P : Program := Tryz.prog
theorem follows : P.follows .mixedOrders = true := by kernel_rfl
def gl0 : Nat → Option Nat := fun _ => none
def b0 : Base := T.leaf.set gid (.opq 0 0 0 .bool (.lit 0) (.lit 0) [] 0)
def R0 : Nat := 1024
theorem base0 : BaseOk gl0 b0 R0 where
  gid_lt := by decide
  gid_at := ⟨0, 0, .bool, .lit 0, .lit 0, 0, T.get_set_same _ _ _⟩
  none := fun i hi => by
    have : i ≠ gid := by have : R0 ≤ i := hi; have h : gid < R0 := by decide
                         omega
    rw [b0, T.get_set_ne _ _ this]; rfl
  only := fun i o h hn => by rw [b0, T.get_set_ne _ _ hn] at h; simp [T.get_leaf] at h
  gl := fun g n h => by cases h
def F0 : Nat → Dat → Dat → Dat → Dat := fun _ _ _ _ => .int 0
def run (p : Dcs) (cons : List Con) (nt : Nat) (c : Code) (l : List (Nat × AV)) (o : List (Nat × Ob)) (nx : Nat) : XR :=
  exec P (cfgP gl0 b0 p (conHk R0 (decP p) cons)) 1000 nt c { tm := envL l, ds := [], md := none, rd := false } (toldSt b0 o nx)
abbrev HR (nt : Nat) := HT P gl0 b0 R0 0 0 nt
theorem rn {v v' : Val} (hF : v.fn = F0) {p : Dcs} (hp : @Holds v p) {cons : List Con} (hc : ∀ c ∈ cons, c.Sound F0 P gl0 b0 R0) {nt : Nat} {c : Code} {l : List (Nat × AV)} {o : List (Nat × Ob)} {nx : Nat} {e : AExit} {ρ : List RE}
    {l' : List (Nat × AV)} {o' : List (Nat × Ob)} {nx' : Nat} {E : Eqs} (h : runHB R0 0 0 (run p cons nt c l o nx) e ρ l' o' nx' E = true) (hE : EqsOk v v' E) : HR nt v c (envL l) (toldSt b0 o nx) e v' (envL l') (toldSt b0 o' nx') :=
  HT.run base0 (Nat.le_refl 0) hp (conHk_steps cons) (conHk_ok base0 hp hF hc) follows h hE
theorem nocon : ∀ c ∈ ([] : List Con), c.Sound F0 P gl0 b0 R0 := fun _ h => by cases h
theorem hnil {v : Val} : @Holds v [] := fun _ h => by cases h
theorem hcons {v : Val} {b : Bx} {x : Bool} {p : Dcs} (h : @Bx.eval v b = x) (k : @Holds v p) : @Holds v ((b, x) :: p) := fun q hq => by
  rcases List.mem_cons.1 hq with rfl | hq
  · exact h
  · exact k q hq
theorem eqs_nil {v v' : Val} : EqsOk v v' [] := fun _ h => by cases h
theorem eqs_cons {v v' : Val} {a c : Sx} {e : Eqs} (h : @Sx.dat v a = @Sx.dat v' c) (k : EqsOk v v' e) : EqsOk v v' ((a, c) :: e) := fun q hq => by
  rcases List.mem_cons.1 hq with rfl | hq
  · exact h
  · exact k q hq
def D (i : Nat) : Sx := .dvar i
def Code.l : Code → Code
  | .seq a _ => a
  | c => c
def Code.r : Code → Code
  | .seq _ b => b
  | c => c
def c3 : Code := match Tryz.f3.body with
  | some c => c
  | none => .skip
def d3 : Code := Code.r (Code.r (Code.r c3))
def L5 : List Code := [Code.l d3, Code.l (Code.r d3), Code.l (Code.r (Code.r d3)), Code.l (Code.r (Code.r (Code.r d3))), Code.l (Code.r (Code.r (Code.r (Code.r d3))))]
def rest : Code := Code.r (Code.r (Code.r (Code.r (Code.r d3))))
def runL (p : Dcs) (l : List (Nat × AV)) : XR := execL P (cfgP gl0 b0 p (conHk R0 (decP p) [])) (R0 + 0) 1000 129 L5 (envL l) (toldSt b0 [] R0)
def ix : Sx := .bin .add .i64 (.lit 1) (D 9)
def lt (a b : Sx) : Bx := .cmp .lss a b
def b1 (i : Nat) (lo hi : Int) : Dcs := [(lt (D i) (.lit hi), true), (lt (D i) (.lit lo), false)]
def SB (s : Sx) : List (Nat × AV) := [(0, .sym .i64 ix), (1, .sym .i64 s), (2, .sym .i64 (D 10)), (3, .sym .i64 (D 11)), (9, .bool true)]
def TB : List (Nat × AV) := [(0, .sym .i64 ix), (2, .sym .i64 (D 10)), (3, .sym .i64 (D 11)), (9, .bool true), (10, .ptr 1025 0 0 1), (14, .ptr 1026 0 0 36)]
def bs (n : Nat) : Int := bif Nat.beq n 8 then 1 else bif Nat.beq n 18 then 2 else bif Nat.beq n 19 then 64 else 0
def idx : List Nat := [1, 2, 3, 4, 5, 6, 7, 8, 9, 10, 11, 12, 13, 14, 15, 16, 17, 18, 19, 20, 21, 22, 23, 24, 25, 26, 27, 28, 29, 30, 31]
def tl4 : List AV := [.unk, .ptr 1025 0 0 1, .unk, .unk]
def OM : List (Nat × Ob) := [(1024, .box (List.replicate 64 .unk) 5), (1025, .box [.slc 1024 0 0 64 (some 64) 1] 53)]
def OB : List (Nat × Ob) := OM ++ [(1026, .box (.int .u64 0 :: (idx.map (fun n => AV.sym .u64 (selT ix n (D 21) (.lit (bs n)))) ++ tl4)) 70)]
def N (e : Sx) : Sx := .pr 30 e (.lit 0)
def mkE (val : Sx) : Eqs := (N ix, N ix) :: (N (D 10), N (D 10)) :: (N (D 11), N (D 11)) :: idx.map fun n => (N (selT ix n val (.lit (bs n))), N (selT ix n (D 21) (.lit (bs n))))
def re (id : Nat) : List RE := [⟨1024, 1024, 0, 0, 0⟩, ⟨1025, 1025, 0, 0, 0⟩, ⟨1026, id, 0, 0, 0⟩]
def m4 (x y : Sx) : Sx := .bin .add .i64 (.bin .mul .i64 x (.lit 4096)) y
def m0 (x : Sx) : Sx := .bin .mul .i64 x (.lit 4096)
end
end Go.Proofs.YtgcpcgaigbnniaaGreat
namespace Go.Proofs.YtgcpcgaigbnniaaGreat
open Go.Tw Go.ChangeShapes Go.RowKit
/-! Contracts whose results may lie in boxes of the function's own. -/
theorem con_sound2 {F : Nat → Dat → Dat → Dat → Dat} {P : Program} {gl : Nat → Option Nat} {b : Base} {R : Nat} {c : Con} {fn : Func} {code : Code} (hf : P.funcs[c.f]? = some fn) (hbody : fn.body = some code) (hlen : Nat.ble c.args.length fn.ntmps = true)
    (h1 : c.bin = []) (h2 : c.lin = none) (h3 : c.objs = [])
    (h : ∀ v : Val, v.fn = F → @Holds v c.pre → ∃ e tm' o' nx' l σ'', (e = .ret ∨ e = .normal) ∧
      HTo v P gl b R c.nr c.bin.length fn.ntmps code (envOf c.args 0 .leaf) (c.start b R) e (envL tm') (toldSt b o' nx') ∧
      resultsA P fn { tm := envL tm', ds := [], md := none, rd := false } (toldSt b o' nx') fn.results.toList = some (l, σ'') ∧ given l = c.res) : c.Sound F P gl b R := by
  intro v hF hp w φ args' hh ha
  obtain ⟨e, tm', o', nx', l, σ'', he, hto, hres, hgl⟩ := h v hF hp
  refine calls_of_runs hf hbody fun cs => ?_
  have hen := @enter_env v φ c.args args' ha fn.ntmps (ble_t hlen) none false
  refine (hto _ cs w φ ⟨hen.ev.size, hen.ev.val, rfl, hh.inv, hh.free, hh.roA, hh.rd, hh.wr⟩).mono fun e1 a1 cs1 w1 q => ?_
  obtain ⟨q1, q2, φ1, q3, q4⟩ := q
  refine ⟨q1, ?_⟩
  have hev : @EnvR v φ1 fn.ntmps { tm := envL tm', ds := [], md := none, rd := false } a1 := ⟨q3.size, q3.val⟩
  obtain ⟨x, r1, r2, _⟩ := @results_ok v P R (cfg0 gl b) (fun _ => True) φ1 _ w1 fn fn.ntmps _ a1 σ'' l hev q3.inv hres (fun i _ _ => trivial)
  rw [hgl] at r2
  have hgo : LeavesInM Fence.wide 0 P fn a1.tmps (fun e w' => ∃ φ' x, e = .returned x ∧ @VR v φ' c.res x ∧ Trans R c.nr c.bin.length φ w φ' w' ∧ WF R φ' w' ∧ (∀ k o, c.objs[k]? = some o → @Rep v R φ' w' (R + c.bin.length + c.nl + k) (some o)) ∧
      (∀ k l q, c.bout[k]? = some l → c.bin[k]? = some q → @Rep v R φ' w' (R + k) (some (.box l q.2))) ∧ ∀ L, c.lin = some L → @Rep v R φ' w' (R + c.bin.length) (some (.opq 2 0 gid (.slc L.l) L.ox L.oy [] L.t))) a1.defers .returning w1 := by
    rw [q3.dfs]
    exact ⟨x, r1, φ1, x, rfl, r2, q4, q3.wf, fun k o hk => by simp [h3] at hk, fun k l q _ hk => by simp [h1] at hk, fun L hL => by rw [h2] at hL; cases hL⟩
  rcases he with rfl | rfl
  · cases e1 <;> simp only [ExitP] at q2; exact hgo
  · cases e1 <;> simp only [ExitP] at q2; exact hgo
def sameE (E : Eqs) : Bool := E.all fun q => q.1.same q.2
theorem eqs_same {v : Val} {E : Eqs} (h : sameE E = true) : EqsOk v v E := fun q hq => by
  have := List.all_eq_true.1 h q hq
  rw [Sx.same_eq this]
noncomputable section
def c34 : Code := match Tryz.f34.body with
  | some c => c
  | none => .skip
def c36 : Code := match Tryz.f36.body with
  | some c => c
  | none => .skip
def c69 : Code := match Tryz.f69.body with
  | some c => c
  | none => .skip
def rg : Dcs := b1 0 1 32
end
end Go.Proofs.YtgcpcgaigbnniaaGreat
