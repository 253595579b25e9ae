/-
  A part of the law's proof over the abstract evaluator. Conditions: those of each theorem, as it states them.
-/
import Derived.Test.YtbkokbjpbbpllaaGreatTwCon3
import Derived.Test.YtbkokbjpbbpllaaGreatChecked
import Derived.Test.YtbkokbjpbbpllaaGreatTwTree
namespace Go.Proofs.YtbkokbjpbbpllaaGreat
open Go.Tw
noncomputable section
abbrev P : Program := Tryz.prog
theorem follows : P.follows .mixedOrders = true := by kernel_rfl
def gl0 : Nat → Option Nat := fun _ => none
def b0 : Base := T.leaf.set gid (.opq 0 0 0 .bool (.lit 0) (.lit 0) [] 0)
def R0 : Nat := 1024
theorem base0 : BaseOk gl0 b0 R0 where
  gid_lt := by decide
  gid_at := ⟨0, 0, .bool, .lit 0, .lit 0, 0, T.get_set_same _ _ _⟩
  none := fun i hi => by
    have : i ≠ gid := by have : R0 ≤ i := hi; have h : gid < R0 := by decide
                         omega
    rw [b0, T.get_set_ne _ _ this]; rfl
  only := fun i o h hn => by rw [b0, T.get_set_ne _ _ hn] at h; simp [T.get_leaf] at h
  gl := fun g n h => by cases h
def run (p : Dcs) (cons : List Con) (nt : Nat) (c : Code) (l : List (Nat × AV)) (o : List (Nat × Ob)) (nx : Nat) : XR :=
  exec P (cfgP gl0 b0 p (conHk R0 (decP p) cons)) 1000 nt c { tm := envL l, ds := [], md := none, rd := false } (toldSt b0 o nx)
abbrev HR (nr nb nt : Nat) := HT P gl0 b0 R0 nr nb nt
theorem rn {F : Nat → Dat → Dat → Dat → Dat} {v v' : Val} (hF : v.fn = F) {p : Dcs} (hp : @Holds v p) {cons : List Con} (hc : ∀ c ∈ cons, c.Sound F P gl0 b0 R0) {nr nb nt : Nat} (hrb : nr ≤ nb) {c : Code} {l : List (Nat × AV)} {o : List (Nat × Ob)} {nx : Nat} {e : AExit} {ρ : List RE}
    {l' : List (Nat × AV)} {o' : List (Nat × Ob)} {nx' : Nat} {E : Eqs} (h : runHB R0 nr nb (run p cons nt c l o nx) e ρ l' o' nx' E = true) (hE : EqsOk v v' E) : HR nr nb nt v c (envL l) (toldSt b0 o nx) e v' (envL l') (toldSt b0 o' nx') :=
  HT.run base0 hrb hp (conHk_steps cons) (conHk_ok base0 hp hF hc) follows h hE
theorem nocon {F : Nat → Dat → Dat → Dat → Dat} : ∀ c ∈ ([] : List Con), c.Sound F P gl0 b0 R0 := fun _ h => by cases h
theorem holds0 {v : Val} : @Holds v [] := fun _ h => by cases h
theorem eqs0 {v v' : Val} : EqsOk v v' [] := fun _ h => by cases h
theorem wrap_small {n : Int} (h1 : -9223372036854775808 ≤ n) (h2 : n ≤ 9223372036854775807) : wrapI .i64 n = n := by
  rw [wrap_i64]; split <;> omega
def D (i : Nat) : Sx := .dvar i
abbrev VL (F : Nat → Dat → Dat → Dat → Dat) (l : List Dat) : Val := Val.mk (fun _ => 0) (fun i => match l[i]? with
  | some d => d
  | none => .int 0) F
/-! SameInts -/
def c20 : Code := match Tryz.f20.body with
  | some c => c
  | none => .skip
def Code.l : Code → Code
  | .seq a _ => a
  | .block _ a => a
  | .loop a => a
  | .scope a => a
  | c => c
def Code.r : Code → Code
  | .seq _ b => b
  | c => c
def LI (x : Sx) : AV := .opq 0 gid 0 (.slc [.int .i64]) x (.lit 0)
def E20 : List (Nat × AV) := [(0, LI (.dvar 0)), (1, LI (.dvar 1)), (5, .sym .i64 (.dvar 2))]
def b20 : Code := Code.l (Code.l (Code.r (Code.l (Code.r (Code.r c20)))))
def sk : Code → Nat → Nat
  | .seq a b, n => sk a n + sk b n
  | _, _ => 1
end
end Go.Proofs.YtbkokbjpbbpllaaGreat
/-! What a template is, as trees of decisions (printed by JT.lean and mkTG.py). Names: 0 the operation, 1..3 its slots, 4 its number, 5 its arguments, 6 the registers, 7 the area, 8 the place. -/
namespace Go.Proofs.YtbkokbjpbbpllaaGreat
open Go.Tw
noncomputable section
def I (n : Int) : Sx := .lit n
def N (e : Sx) : Sx := .pr 30 e (.lit 0)
def J (a b : Sx) : Sx := .pr 9 a b
def O : Sx := .pr 13 (.lit 0) (.lit 0)
def W (a b c d e f g : Sx) : Sx := .pr 12 a (.pr 12 b (.pr 12 c (.pr 12 d (.pr 12 e (.pr 12 f (.pr 12 g (.pr 14 (.lit 0) (.lit 0))))))))
def lt (a b : Sx) : Bx := .cmp .lss a b
def eq (a b : Sx) : Bx := .cmp .eql a b
def er (n : Int) : ST := .leaf [I 0, I n, O, I 0]
def y0 : Bx := lt (D 6) (I 0)
def y1 : Bx := lt (D 6) (I 65)
def y2 : Bx := lt (D 7) (I 0)
def y3 : Bx := lt (D 7) (I 4097)
def y4 : Bx := eq (D 1) (I 0)
def y5 : Bx := eq (D 2) (I 0)
def y6 : Bx := eq (D 3) (I 0)
def y7 : Bx := eq (D 4) (I 0)
def y8 : Bx := eq (lenS (D 5)) (I 0)
def y9 : Bx := lt (D 8) (I 0)
def y10 : Bx := lt (D 8) (I 4096)
def y11 : Sx := W (I 0) (I 0) (I 6) (I 0) (I 18) (I 0) (I 12)
def y12 : Sx := N (.ap 4 (I 0) (N (D 8)) (I 0))
def y13 : Sx := W (I 0) (I 0) (I 1) (I 5) (I 0) (I 0) (.ap 6 y12 (I 0) (I 0))
def y14 : Sx := W (I 0) (I 0) (I 4) (I 0) (I 5) (I 0) (.ap 7 y12 (I 0) (I 0))
def y15 : Sx := W (I 0) (I 0) (I 22) (I 18) (I 18) (I 0) (I (-1))
def y16 : Sx := J y11 (J y13 (J y14 (J y15 O)))
def sp0 : ST := (.ask y0 (er 2) (.ask y1 (.ask y2 (er 2) (.ask y3 (.ask y4 (.ask y5 (.ask y6 (.ask y7 (.ask y8 (.ask y9 (er 2) (.ask y10 (.leaf [(I 1), (I 0), y16, (I 1)]) (er 2))) (er 2)) (er 2)) (er 2)) (er 2)) (er 2)) (er 2))) (er 2)))
def y17 : Bx := lt (D 1) (I 0)
def y18 : Bx := lt (D 1) (D 6)
def y19 : Sx := .ap 3 (I 5) (N (D 4)) y16
def y20 : Sx := .bin .mul .i64 (I 8) (D 1)
def y21 : Sx := J (W (I 0) (I 0) (I 21) (I 0) (I 8) (I 5) y20) O
def sp1 : ST := (.ask y0 (er 2) (.ask y1 (.ask y2 (er 2) (.ask y3 (.ask y5 (.ask y6 (.ask y8 (.ask y17 (er 5) (.ask y18 (.ask y9 (er 2) (.ask y10 (.leaf [(I 1), (I 0), (J y19 y21), (I 1)]) (er 2))) (er 5))) (er 2)) (er 2)) (er 2)) (er 2))) (er 2)))
def y22 : Bx := lt (D 2) (I 0)
def y23 : Bx := lt (D 2) (D 6)
def y24 : Sx := .bin .mul .i64 (I 8) (D 2)
def sp2 : ST := (.ask y0 (er 2) (.ask y1 (.ask y2 (er 2) (.ask y3 (.ask y6 (.ask y7 (.ask y8 (.ask y17 (er 5) (.ask y18 (.ask y22 (er 5) (.ask y23 (.ask y9 (er 2) (.ask y10 (.leaf [(I 1), (I 0), (J y11 (J y13 (J y14 (J y15 (J (W (I 0) (I 0) (I 14) (I 5) (I 8) (I 0) y24) y21))))), (I 1)]) (er 2))) (er 5))) (er 5))) (er 2)) (er 2)) (er 2)) (er 2))) (er 2)))
def y25 : Bx := lt (D 3) (I 0)
def y26 : Bx := lt (D 3) (D 6)
def y27 : Sx := W (I 0) (I 0) (I 14) (I 6) (I 8) (I 0) y24
def y28 : Sx := W (I 0) (I 0) (I 14) (I 7) (I 8) (I 0) (.bin .mul .i64 (I 8) (D 3))
def sp3 : ST := (.ask y0 (er 2) (.ask y1 (.ask y2 (er 2) (.ask y3 (.ask y7 (.ask y8 (.ask y17 (er 5) (.ask y18 (.ask y22 (er 5) (.ask y23 (.ask y25 (er 5) (.ask y26 (.ask y9 (er 2) (.ask y10 (.leaf [(I 1), (I 0), (J y11 (J y13 (J y14 (J y15 (J y27 (J y28 (J (W (I 0) (I 0) (I 35) (I 5) (I 6) (I 7) (I 0)) y21))))))), (I 1)]) (er 2))) (er 5))) (er 5))) (er 5))) (er 2)) (er 2)) (er 2))) (er 2)))
def sp4 : ST := (.ask y0 (er 2) (.ask y1 (.ask y2 (er 2) (.ask y3 (.ask y7 (.ask y8 (.ask y17 (er 5) (.ask y18 (.ask y22 (er 5) (.ask y23 (.ask y25 (er 5) (.ask y26 (.ask y9 (er 2) (.ask y10 (.leaf [(I 1), (I 0), (J y11 (J y13 (J y14 (J y15 (J y27 (J y28 (J (W (I 0) (I 0) (I 36) (I 5) (I 6) (I 7) (I 0)) y21))))))), (I 1)]) (er 2))) (er 5))) (er 5))) (er 5))) (er 2)) (er 2)) (er 2))) (er 2)))
def sp5 : ST := (.ask y0 (er 2) (.ask y1 (.ask y2 (er 2) (.ask y3 (.ask y7 (.ask y8 (.ask y17 (er 5) (.ask y18 (.ask y22 (er 5) (.ask y23 (.ask y25 (er 5) (.ask y26 (.ask y9 (er 2) (.ask y10 (.leaf [(I 1), (I 0), (J y11 (J y13 (J y14 (J y15 (J y27 (J y28 (J (W (I 0) (I 0) (I 50) (I 5) (I 6) (I 7) (I 0)) y21))))))), (I 1)]) (er 2))) (er 5))) (er 5))) (er 5))) (er 2)) (er 2)) (er 2))) (er 2)))
def y29 : Sx := W (I 0) (I 0) (I 6) (I 0) (I 7) (I 0) (I 12)
def y30 : Sx := N (.ap 4 (I 3) (N (D 8)) (I 0))
def y31 : Sx := W (I 0) (I 0) (I 1) (I 5) (I 0) (I 0) (.ap 6 y30 (I 0) (I 0))
def y32 : Sx := W (I 0) (I 0) (I 4) (I 0) (I 5) (I 0) (.ap 7 y30 (I 0) (I 0))
def sp6 : ST := (.ask y0 (er 2) (.ask y1 (.ask y2 (er 2) (.ask y3 (.ask y7 (.ask y8 (.ask y17 (er 5) (.ask y18 (.ask y22 (er 5) (.ask y23 (.ask y25 (er 5) (.ask y26 (.ask y9 (er 2) (.ask y10 (.leaf [(I 1), (I 0), (J y11 (J y13 (J y14 (J y15 (J y27 (J y28 (J y29 (J y31 (J y32 (J (W (I 0) (I 0) (I 54) (I 5) (I 6) (I 7) (I 0)) y21)))))))))), (I 1)]) (er 2))) (er 5))) (er 5))) (er 5))) (er 2)) (er 2)) (er 2))) (er 2)))
def sp7 : ST := (.ask y0 (er 2) (.ask y1 (.ask y2 (er 2) (.ask y3 (.ask y7 (.ask y8 (.ask y17 (er 5) (.ask y18 (.ask y22 (er 5) (.ask y23 (.ask y25 (er 5) (.ask y26 (.ask y9 (er 2) (.ask y10 (.leaf [(I 1), (I 0), (J y11 (J y13 (J y14 (J y15 (J y27 (J y28 (J y29 (J y31 (J y32 (J (W (I 0) (I 0) (I 55) (I 5) (I 6) (I 7) (I 0)) y21)))))))))), (I 1)]) (er 2))) (er 5))) (er 5))) (er 5))) (er 2)) (er 2)) (er 2))) (er 2)))
def sp8 : ST := (.ask y0 (er 2) (.ask y1 (.ask y2 (er 2) (.ask y3 (.ask y7 (.ask y8 (.ask y17 (er 5) (.ask y18 (.ask y22 (er 5) (.ask y23 (.ask y25 (er 5) (.ask y26 (.ask y9 (er 2) (.ask y10 (.leaf [(I 1), (I 0), (J y11 (J y13 (J y14 (J y15 (J y27 (J y28 (J y29 (J y31 (J y32 (J (W (I 0) (I 0) (I 56) (I 5) (I 6) (I 7) (I 0)) y21)))))))))), (I 1)]) (er 2))) (er 5))) (er 5))) (er 5))) (er 2)) (er 2)) (er 2))) (er 2)))
def sp9 : ST := (.ask y0 (er 2) (.ask y1 (.ask y2 (er 2) (.ask y3 (.ask y7 (.ask y8 (.ask y17 (er 5) (.ask y18 (.ask y22 (er 5) (.ask y23 (.ask y25 (er 5) (.ask y26 (.ask y9 (er 2) (.ask y10 (.leaf [(I 1), (I 0), (J y11 (J y13 (J y14 (J y15 (J y27 (J y28 (J y29 (J y31 (J y32 (J (W (I 0) (I 0) (I 57) (I 5) (I 6) (I 7) (I 0)) y21)))))))))), (I 1)]) (er 2))) (er 5))) (er 5))) (er 5))) (er 2)) (er 2)) (er 2))) (er 2)))
def sp10 : ST := (.ask y0 (er 2) (.ask y1 (.ask y2 (er 2) (.ask y3 (.ask y7 (.ask y8 (.ask y17 (er 5) (.ask y18 (.ask y22 (er 5) (.ask y23 (.ask y25 (er 5) (.ask y26 (.ask y9 (er 2) (.ask y10 (.leaf [(I 1), (I 0), (J y11 (J y13 (J y14 (J y15 (J y27 (J y28 (J (W (I 0) (I 0) (I 44) (I 5) (I 6) (I 7) (I 0)) y21))))))), (I 1)]) (er 2))) (er 5))) (er 5))) (er 5))) (er 2)) (er 2)) (er 2))) (er 2)))
def sp11 : ST := (.ask y0 (er 2) (.ask y1 (.ask y2 (er 2) (.ask y3 (.ask y7 (.ask y8 (.ask y17 (er 5) (.ask y18 (.ask y22 (er 5) (.ask y23 (.ask y25 (er 5) (.ask y26 (.ask y9 (er 2) (.ask y10 (.leaf [(I 1), (I 0), (J y11 (J y13 (J y14 (J y15 (J y27 (J y28 (J (W (I 0) (I 0) (I 43) (I 5) (I 6) (I 7) (I 0)) y21))))))), (I 1)]) (er 2))) (er 5))) (er 5))) (er 5))) (er 2)) (er 2)) (er 2))) (er 2)))
def y33 : Sx := W (I 0) (I 0) (I 40) (I 5) (I 6) (I 7) (I 0)
def sp12 : ST := (.ask y0 (er 2) (.ask y1 (.ask y2 (er 2) (.ask y3 (.ask y7 (.ask y8 (.ask y17 (er 5) (.ask y18 (.ask y22 (er 5) (.ask y23 (.ask y25 (er 5) (.ask y26 (.ask y9 (er 2) (.ask y10 (.leaf [(I 1), (I 0), (J y11 (J y13 (J y14 (J y15 (J y27 (J y28 (J y33 y21))))))), (I 1)]) (er 2))) (er 5))) (er 5))) (er 5))) (er 2)) (er 2)) (er 2))) (er 2)))
def sp13 : ST := (.ask y0 (er 2) (.ask y1 (.ask y2 (er 2) (.ask y3 (.ask y7 (.ask y8 (.ask y17 (er 5) (.ask y18 (.ask y22 (er 5) (.ask y23 (.ask y25 (er 5) (.ask y26 (.ask y9 (er 2) (.ask y10 (.leaf [(I 1), (I 0), (J y11 (J y13 (J y14 (J y15 (J y27 (J y28 (J (W (I 0) (I 0) (I 37) (I 5) (I 6) (I 7) (I 0)) y21))))))), (I 1)]) (er 2))) (er 5))) (er 5))) (er 5))) (er 2)) (er 2)) (er 2))) (er 2)))
def sp14 : ST := (.ask y0 (er 2) (.ask y1 (.ask y2 (er 2) (.ask y3 (.ask y7 (.ask y8 (.ask y17 (er 5) (.ask y18 (.ask y22 (er 5) (.ask y23 (.ask y25 (er 5) (.ask y26 (.ask y9 (er 2) (.ask y10 (.leaf [(I 1), (I 0), (J y11 (J y13 (J y14 (J y15 (J y27 (J y28 (J (W (I 0) (I 0) (I 41) (I 5) (I 6) (I 7) (I 0)) y21))))))), (I 1)]) (er 2))) (er 5))) (er 5))) (er 5))) (er 2)) (er 2)) (er 2))) (er 2)))
def sp15 : ST := (.ask y0 (er 2) (.ask y1 (.ask y2 (er 2) (.ask y3 (.ask y7 (.ask y8 (.ask y17 (er 5) (.ask y18 (.ask y22 (er 5) (.ask y23 (.ask y25 (er 5) (.ask y26 (.ask y9 (er 2) (.ask y10 (.leaf [(I 1), (I 0), (J y11 (J y13 (J y14 (J y15 (J y27 (J y28 (J (W (I 0) (I 0) (I 42) (I 5) (I 6) (I 7) (I 0)) y21))))))), (I 1)]) (er 2))) (er 5))) (er 5))) (er 5))) (er 2)) (er 2)) (er 2))) (er 2)))
def sp16 : ST := (.ask y0 (er 2) (.ask y1 (.ask y2 (er 2) (.ask y3 (.ask y7 (.ask y8 (.ask y17 (er 5) (.ask y18 (.ask y22 (er 5) (.ask y23 (.ask y25 (er 5) (.ask y26 (.ask y9 (er 2) (.ask y10 (.leaf [(I 1), (I 0), (J y11 (J y13 (J y14 (J y15 (J y27 (J y28 (J (W (I 0) (I 0) (I 38) (I 5) (I 6) (I 7) (I 0)) y21))))))), (I 1)]) (er 2))) (er 5))) (er 5))) (er 5))) (er 2)) (er 2)) (er 2))) (er 2)))
def sp17 : ST := (.ask y0 (er 2) (.ask y1 (.ask y2 (er 2) (.ask y3 (.ask y7 (.ask y8 (.ask y17 (er 5) (.ask y18 (.ask y22 (er 5) (.ask y23 (.ask y25 (er 5) (.ask y26 (.ask y9 (er 2) (.ask y10 (.leaf [(I 1), (I 0), (J y11 (J y13 (J y14 (J y15 (J y27 (J y28 (J (W (I 0) (I 0) (I 39) (I 5) (I 6) (I 7) (I 0)) y21))))))), (I 1)]) (er 2))) (er 5))) (er 5))) (er 5))) (er 2)) (er 2)) (er 2))) (er 2)))
def sp18 : ST := (.ask y0 (er 2) (.ask y1 (.ask y2 (er 2) (.ask y3 (.ask y7 (.ask y8 (.ask y17 (er 5) (.ask y18 (.ask y22 (er 5) (.ask y23 (.ask y25 (er 5) (.ask y26 (.ask y9 (er 2) (.ask y10 (.leaf [(I 1), (I 0), (J y11 (J y13 (J y14 (J y15 (J y27 (J y28 (J y33 (J (W (I 0) (I 0) (I 24) (I 5) (I 5) (I 0) (I 1)) y21)))))))), (I 1)]) (er 2))) (er 5))) (er 5))) (er 5))) (er 2)) (er 2)) (er 2))) (er 2)))
def sp19 : ST := (.ask y0 (er 2) (.ask y1 (.ask y2 (er 2) (.ask y3 (.ask y7 (.ask y8 (.ask y17 (er 5) (.ask y18 (.ask y22 (er 5) (.ask y23 (.ask y25 (er 5) (.ask y26 (.ask y9 (er 2) (.ask y10 (.leaf [(I 1), (I 0), (J y11 (J y13 (J y14 (J y15 (J y27 (J y28 (J y33 (J (W (I 0) (I 0) (I 39) (I 5) (I 0) (I 5) (I 0)) y21)))))))), (I 1)]) (er 2))) (er 5))) (er 5))) (er 5))) (er 2)) (er 2)) (er 2))) (er 2)))
def y34 : Bx := lt (D 4) (I 1)
def y35 : Sx := W (I 0) (I 0) (I 28) (I 5) (I 6) (I 0) (I 48)
def sp20 : ST := (.ask y0 (er 2) (.ask y1 (.ask y2 (er 2) (.ask y3 (.ask y6 (.ask y8 (.ask y17 (er 5) (.ask y18 (.ask y22 (er 5) (.ask y23 (.ask y34 (er 5) (.ask (lt (D 4) (I 7)) (.ask y9 (er 2) (.ask y10 (.ask (eq (D 4) (I 1)) (.leaf [(I 1), (I 0), (J y11 (J y13 (J y14 (J y15 (J y27 (J (W (I 0) (I 0) (I 28) (I 5) (I 6) (I 0) (I 56)) (J (W (I 0) (I 0) (I 30) (I 5) (I 5) (I 0) (I 56)) y21))))))), (I 1)]) (.ask (eq (D 4) (I 2)) (.leaf [(I 1), (I 0), (J y11 (J y13 (J y14 (J y15 (J y27 (J (W (I 0) (I 0) (I 27) (I 5) (I 6) (I 0) (I 255)) y21)))))), (I 1)]) (.ask (eq (D 4) (I 3)) (.leaf [(I 1), (I 0), (J y11 (J y13 (J y14 (J y15 (J y27 (J y35 (J (W (I 0) (I 0) (I 30) (I 5) (I 5) (I 0) (I 48)) y21))))))), (I 1)]) (.ask (eq (D 4) (I 4)) (.leaf [(I 1), (I 0), (J y11 (J y13 (J y14 (J y15 (J y27 (J y35 (J (W (I 0) (I 0) (I 29) (I 5) (I 5) (I 0) (I 48)) y21))))))), (I 1)]) (.ask (eq (D 4) (I 5)) (.leaf [(I 1), (I 0), (J y11 (J y13 (J y14 (J y15 (J y27 (J (W (I 0) (I 0) (I 31) (I 5) (I 6) (I 0) (I 0)) y21)))))), (I 1)]) (.leaf [(I 1), (I 0), (J y11 (J y13 (J y14 (J y15 (J y27 (J (W (I 0) (I 0) (I 28) (I 5) (I 6) (I 0) (I 32)) (J (W (I 0) (I 0) (I 29) (I 5) (I 5) (I 0) (I 32)) y21))))))), (I 1)])))))) (er 2))) (er 5))) (er 5))) (er 5))) (er 2)) (er 2)) (er 2))) (er 2)))
def y36 : Sx := W (I 0) (I 0) (I 22) (I 5) (I 0) (I 0) (I 16)
def y37 : Sx := W (I 0) (I 0) (I 9) (I 0) (I 6) (I 5) (I 12)
def y38 : Sx := W (I 0) (I 0) (I 22) (I 5) (I 19) (I 0) (I (-1))
def y39 : Sx := W (I 0) (I 0) (I 10) (I 0) (I 5) (I 6) (I 12)
def y40 : Sx := N (.ap 4 (I 4) (N (D 8)) (I 0))
def y41 : Sx := W (I 0) (I 0) (I 1) (I 5) (I 0) (I 0) (.ap 6 y40 (I 0) (I 0))
def y42 : Sx := W (I 0) (I 0) (I 4) (I 0) (I 5) (I 0) (.ap 7 y40 (I 0) (I 0))
def sp21_1 : ST := (.ask y0 (er 2) (.ask y1 (.ask y2 (er 2) (.ask y3 (.ask y6 (.ask y8 (.ask y17 (er 5) (.ask y18 (.ask y22 (er 5) (.ask y23 (.ask y9 (er 2) (.ask y10 (.leaf [(I 1), (I 0), (J y11 (J y13 (J y14 (J y15 (J y27 (J y36 (J y37 (J y38 (J y39 (J y41 (J y42 (J (W (I 0) (I 0) (I 11) (I 5) (I 6) (I 0) (I 0)) y21)))))))))))), (I 1)]) (er 2))) (er 5))) (er 5))) (er 2)) (er 2)) (er 2))) (er 2)))
def sp21_2 : ST := (.ask y0 (er 2) (.ask y1 (.ask y2 (er 2) (.ask y3 (.ask y6 (.ask y8 (.ask y17 (er 5) (.ask y18 (.ask y22 (er 5) (.ask y23 (.ask y9 (er 2) (.ask y10 (.leaf [(I 1), (I 0), (J y11 (J y13 (J y14 (J y15 (J y27 (J y36 (J y37 (J y38 (J y39 (J y41 (J y42 (J (W (I 0) (I 0) (I 15) (I 5) (I 6) (I 0) (I 0)) y21)))))))))))), (I 1)]) (er 2))) (er 5))) (er 5))) (er 2)) (er 2)) (er 2))) (er 2)))
def y43 : Sx := W (I 0) (I 0) (I 22) (I 5) (I 19) (I 0) (I (-2))
def sp21_3 : ST := (.ask y0 (er 2) (.ask y1 (.ask y2 (er 2) (.ask y3 (.ask y6 (.ask y8 (.ask y17 (er 5) (.ask y18 (.ask y22 (er 5) (.ask y23 (.ask y9 (er 2) (.ask y10 (.leaf [(I 1), (I 0), (J y11 (J y13 (J y14 (J y15 (J y27 (J y36 (J y37 (J y43 (J y39 (J y41 (J y42 (J (W (I 0) (I 0) (I 12) (I 5) (I 6) (I 0) (I 0)) y21)))))))))))), (I 1)]) (er 2))) (er 5))) (er 5))) (er 2)) (er 2)) (er 2))) (er 2)))
def sp21_4 : ST := (.ask y0 (er 2) (.ask y1 (.ask y2 (er 2) (.ask y3 (.ask y6 (.ask y8 (.ask y17 (er 5) (.ask y18 (.ask y22 (er 5) (.ask y23 (.ask y9 (er 2) (.ask y10 (.leaf [(I 1), (I 0), (J y11 (J y13 (J y14 (J y15 (J y27 (J y36 (J y37 (J y43 (J y39 (J y41 (J y42 (J (W (I 0) (I 0) (I 16) (I 5) (I 6) (I 0) (I 0)) y21)))))))))))), (I 1)]) (er 2))) (er 5))) (er 5))) (er 2)) (er 2)) (er 2))) (er 2)))
def y44 : Sx := W (I 0) (I 0) (I 22) (I 5) (I 19) (I 0) (I (-4))
def sp21_5 : ST := (.ask y0 (er 2) (.ask y1 (.ask y2 (er 2) (.ask y3 (.ask y6 (.ask y8 (.ask y17 (er 5) (.ask y18 (.ask y22 (er 5) (.ask y23 (.ask y9 (er 2) (.ask y10 (.leaf [(I 1), (I 0), (J y11 (J y13 (J y14 (J y15 (J y27 (J y36 (J y37 (J y44 (J y39 (J y41 (J y42 (J (W (I 0) (I 0) (I 13) (I 5) (I 6) (I 0) (I 0)) y21)))))))))))), (I 1)]) (er 2))) (er 5))) (er 5))) (er 2)) (er 2)) (er 2))) (er 2)))
def sp21_6 : ST := (.ask y0 (er 2) (.ask y1 (.ask y2 (er 2) (.ask y3 (.ask y6 (.ask y8 (.ask y17 (er 5) (.ask y18 (.ask y22 (er 5) (.ask y23 (.ask y9 (er 2) (.ask y10 (.leaf [(I 1), (I 0), (J y11 (J y13 (J y14 (J y15 (J y27 (J y36 (J y37 (J y44 (J y39 (J y41 (J y42 (J (W (I 0) (I 0) (I 17) (I 5) (I 6) (I 0) (I 0)) y21)))))))))))), (I 1)]) (er 2))) (er 5))) (er 5))) (er 2)) (er 2)) (er 2))) (er 2)))
def y45 : Sx := W (I 0) (I 0) (I 22) (I 5) (I 19) (I 0) (I (-8))
def sp21_7 : ST := (.ask y0 (er 2) (.ask y1 (.ask y2 (er 2) (.ask y3 (.ask y6 (.ask y8 (.ask y17 (er 5) (.ask y18 (.ask y22 (er 5) (.ask y23 (.ask y9 (er 2) (.ask y10 (.leaf [(I 1), (I 0), (J y11 (J y13 (J y14 (J y15 (J y27 (J y36 (J y37 (J y45 (J y39 (J y41 (J y42 (J (W (I 0) (I 0) (I 14) (I 5) (I 6) (I 0) (I 0)) y21)))))))))))), (I 1)]) (er 2))) (er 5))) (er 5))) (er 2)) (er 2)) (er 2))) (er 2)))
def y46 : ST := .ask y0 (er 2) (.ask y1 (.ask y2 (er 2) (.ask y3 (.ask y6 (.ask y8 (.ask y17 (er 5) (.ask y18 (.ask y22 (er 5) (.ask y23 (er 5) (er 5))) (er 5))) (er 2)) (er 2)) (er 2))) (er 2))
def sp21_o : ST := (.ask y34 y46 (.ask (lt (D 4) (I 8)) .none y46))
def y47 : Sx := W (I 0) (I 0) (I 14) (I 6) (I 8) (I 0) y20
def y48 : Sx := W (I 0) (I 0) (I 14) (I 7) (I 8) (I 0) y24
def sp22_1 : ST := (.ask y0 (er 2) (.ask y1 (.ask y2 (er 2) (.ask y3 (.ask y6 (.ask y8 (.ask y17 (er 5) (.ask y18 (.ask y22 (er 5) (.ask y23 (.ask y9 (er 2) (.ask y10 (.leaf [(I 1), (I 0), (J y11 (J y13 (J y14 (J y15 (J y47 (J y48 (J y36 (J y37 (J y38 (J y39 (J y41 (J y42 (J (W (I 0) (I 0) (I 18) (I 0) (I 6) (I 7) (I 0)) O))))))))))))), (I 1)]) (er 2))) (er 5))) (er 5))) (er 2)) (er 2)) (er 2))) (er 2)))
def sp22_2 : ST := (.ask y0 (er 2) (.ask y1 (.ask y2 (er 2) (.ask y3 (.ask y6 (.ask y8 (.ask y17 (er 5) (.ask y18 (.ask y22 (er 5) (.ask y23 (.ask y9 (er 2) (.ask y10 (.leaf [(I 1), (I 0), (J y11 (J y13 (J y14 (J y15 (J y47 (J y48 (J y36 (J y37 (J y43 (J y39 (J y41 (J y42 (J (W (I 0) (I 0) (I 19) (I 0) (I 6) (I 7) (I 0)) O))))))))))))), (I 1)]) (er 2))) (er 5))) (er 5))) (er 2)) (er 2)) (er 2))) (er 2)))
def sp22_3 : ST := (.ask y0 (er 2) (.ask y1 (.ask y2 (er 2) (.ask y3 (.ask y6 (.ask y8 (.ask y17 (er 5) (.ask y18 (.ask y22 (er 5) (.ask y23 (er 5) (er 5))) (er 5))) (er 2)) (er 2)) (er 2))) (er 2)))
def sp22_4 : ST := (.ask y0 (er 2) (.ask y1 (.ask y2 (er 2) (.ask y3 (.ask y6 (.ask y8 (.ask y17 (er 5) (.ask y18 (.ask y22 (er 5) (.ask y23 (.ask y9 (er 2) (.ask y10 (.leaf [(I 1), (I 0), (J y11 (J y13 (J y14 (J y15 (J y47 (J y48 (J y36 (J y37 (J y44 (J y39 (J y41 (J y42 (J (W (I 0) (I 0) (I 20) (I 0) (I 6) (I 7) (I 0)) O))))))))))))), (I 1)]) (er 2))) (er 5))) (er 5))) (er 2)) (er 2)) (er 2))) (er 2)))
def sp22_5 : ST := (.ask y0 (er 2) (.ask y1 (.ask y2 (er 2) (.ask y3 (.ask y6 (.ask y8 (.ask y17 (er 5) (.ask y18 (.ask y22 (er 5) (.ask y23 (er 5) (er 5))) (er 5))) (er 2)) (er 2)) (er 2))) (er 2)))
def sp22_6 : ST := (.ask y0 (er 2) (.ask y1 (.ask y2 (er 2) (.ask y3 (.ask y6 (.ask y8 (.ask y17 (er 5) (.ask y18 (.ask y22 (er 5) (.ask y23 (er 5) (er 5))) (er 5))) (er 2)) (er 2)) (er 2))) (er 2)))
def sp22_7 : ST := (.ask y0 (er 2) (.ask y1 (.ask y2 (er 2) (.ask y3 (.ask y6 (.ask y8 (.ask y17 (er 5) (.ask y18 (.ask y22 (er 5) (.ask y23 (er 5) (er 5))) (er 5))) (er 2)) (er 2)) (er 2))) (er 2)))
def sp22_8 : ST := (.ask y0 (er 2) (.ask y1 (.ask y2 (er 2) (.ask y3 (.ask y6 (.ask y8 (.ask y17 (er 5) (.ask y18 (.ask y22 (er 5) (.ask y23 (.ask y9 (er 2) (.ask y10 (.leaf [(I 1), (I 0), (J y11 (J y13 (J y14 (J y15 (J y47 (J y48 (J y36 (J y37 (J y45 (J y39 (J y41 (J y42 (J (W (I 0) (I 0) (I 21) (I 0) (I 6) (I 7) (I 0)) O))))))))))))), (I 1)]) (er 2))) (er 5))) (er 5))) (er 2)) (er 2)) (er 2))) (er 2)))
def sp22_o : ST := (.ask y34 y46 (.ask (lt (D 4) (I 9)) .none y46))
def y49 : Bx := lt (D 4) (I 0)
def y50 : Sx := N (.bin .add .i64 (.bin .mul .i64 (I 8) (D 6)) (D 4))
def y51 : Sx := .ap 3 (I 6) y50 y16
def y52 : Sx := W (I 0) (I 0) (I 35) (I 5) (I 8) (I 6) (I 0)
def y53 : Sx := J y51 (J y52 O)
def sp23 : ST := (.ask y0 (er 2) (.ask y1 (.ask y2 (er 2) (.ask y3 (.ask y5 (.ask y6 (.ask y8 (.ask y17 (er 5) (.ask y18 (.ask y49 (er 5) (.ask (lt (D 7) (D 4)) (er 5) (.ask y9 (er 2) (.ask y10 (.leaf [(I 1), (I 0), (J y53 y21), (I 1)]) (er 2))))) (er 5))) (er 2)) (er 2)) (er 2)) (er 2))) (er 2)))
def y54 : Sx := N (.bin .add .i64 (I 16) (D 4))
def y55 : Sx := .ap 3 (I 5) y54 y16
def sp24 : ST := (.ask y0 (er 2) (.ask y1 (.ask y2 (er 2) (.ask y3 (.ask y5 (.ask y6 (.ask y8 (.ask y17 (er 5) (.ask y18 (.ask y49 (er 5) (.ask (lt (D 4) (I 8193)) (.ask y9 (er 2) (.ask y10 (.leaf [(I 1), (I 0), (J y55 y21), (I 1)]) (er 2))) (er 5))) (er 5))) (er 2)) (er 2)) (er 2)) (er 2))) (er 2)))
def y56 : Bx := lt (D 4) (I 4096)
def y57 : Sx := .bin .add .i64 (D 4) (I 1)
def sp25 : ST := (.ask y0 (er 2) (.ask y1 (.ask y2 (er 2) (.ask y3 (.ask y4 (.ask y5 (.ask y6 (.ask y8 (.ask y49 (er 5) (.ask y56 (.ask y9 (er 2) (.ask y10 (.leaf [(I 1), (I 0), (J y11 (J y13 (J y14 (J y15 (J (W (I 2) y57 (I 3) (I 0) (I 0) (I 0) (I 0)) O))))), (I 1)]) (er 2))) (er 5))) (er 2)) (er 2)) (er 2)) (er 2)) (er 2))) (er 2)))
def sp26 : ST := (.ask y0 (er 2) (.ask y1 (.ask y2 (er 2) (.ask y3 (.ask y5 (.ask y6 (.ask y8 (.ask y17 (er 5) (.ask y18 (.ask y49 (er 5) (.ask y56 (.ask y9 (er 2) (.ask y10 (.leaf [(I 1), (I 0), (J y11 (J y13 (J y14 (J y15 (J y47 (J (W (I 2) y57 (I 5) (I 0) (I 6) (I 0) (I 0)) O)))))), (I 1)]) (er 2))) (er 5))) (er 5))) (er 2)) (er 2)) (er 2)) (er 2))) (er 2)))
def sp27 : ST := (.ask y0 (er 2) (.ask y1 (.ask y2 (er 2) (.ask y3 (.ask y5 (.ask y6 (.ask y8 (.ask y17 (er 5) (.ask y18 (.ask y49 (er 5) (.ask y56 (.ask y9 (er 2) (.ask y10 (.leaf [(I 1), (I 0), (J y11 (J y13 (J y14 (J y15 (J y47 (J (W (I 2) y57 (I 6) (I 0) (I 6) (I 0) (I 0)) O)))))), (I 1)]) (er 2))) (er 5))) (er 5))) (er 2)) (er 2)) (er 2)) (er 2))) (er 2)))
def y58 : Sx := N (.ap 4 (I 2) (N (D 8)) (I 0))
def sp29 : ST := (.ask y0 (er 2) (.ask y1 (.ask y2 (er 2) (.ask y3 (.ask y5 (.ask y6 (.ask y7 (.ask y8 (.ask y17 (er 5) (.ask y18 (.ask y9 (er 2) (.ask y10 (.leaf [(I 1), (I 0), (J y11 (J y13 (J y14 (J y15 (J (W (I 0) (I 0) (I 1) (I 5) (I 0) (I 0) (.ap 6 y58 (I 0) (I 0))) (J (W (I 0) (I 0) (I 4) (I 0) (I 5) (I 0) (.ap 7 y58 (I 0) (I 0))) O)))))), (I 1)]) (er 2))) (er 5))) (er 2)) (er 2)) (er 2)) (er 2)) (er 2))) (er 2)))
def y59 : Sx := N (.ap 4 (I 5) (N (D 8)) (I 0))
def sp30 : ST := (.ask y0 (er 2) (.ask y1 (.ask y2 (er 2) (.ask y3 (.ask y5 (.ask y6 (.ask y7 (.ask y8 (.ask y17 (er 5) (.ask y18 (.ask y9 (er 2) (.ask y10 (.leaf [(I 1), (I 0), (J y11 (J y13 (J y14 (J y15 (J (W (I 0) (I 0) (I 1) (I 5) (I 0) (I 0) (.ap 6 y59 (I 0) (I 0))) (J (W (I 0) (I 0) (I 4) (I 0) (I 5) (I 0) (.ap 7 y59 (I 0) (I 0))) O)))))), (I 1)]) (er 2))) (er 5))) (er 2)) (er 2)) (er 2)) (er 2)) (er 2))) (er 2)))
def y60 : Sx := N (.ap 4 (I 6) (N (D 8)) (I 0))
def sp31 : ST := (.ask y0 (er 2) (.ask y1 (.ask y2 (er 2) (.ask y3 (.ask y5 (.ask y6 (.ask y7 (.ask y8 (.ask y17 (er 5) (.ask y18 (.ask y9 (er 2) (.ask y10 (.leaf [(I 1), (I 0), (J y11 (J y13 (J y14 (J y15 (J (W (I 0) (I 0) (I 1) (I 5) (I 0) (I 0) (.ap 6 y60 (I 0) (I 0))) (J (W (I 0) (I 0) (I 4) (I 0) (I 5) (I 0) (.ap 7 y60 (I 0) (I 0))) O)))))), (I 1)]) (er 2))) (er 5))) (er 2)) (er 2)) (er 2)) (er 2)) (er 2))) (er 2)))
def y61 : Sx := N (.ap 4 (I 7) (N (D 8)) (I 0))
def sp32 : ST := (.ask y0 (er 2) (.ask y1 (.ask y2 (er 2) (.ask y3 (.ask y5 (.ask y6 (.ask y7 (.ask y8 (.ask y17 (er 5) (.ask y18 (.ask y9 (er 2) (.ask y10 (.leaf [(I 1), (I 0), (J y11 (J y13 (J y14 (J y15 (J (W (I 0) (I 0) (I 1) (I 5) (I 0) (I 0) (.ap 6 y61 (I 0) (I 0))) (J (W (I 0) (I 0) (I 4) (I 0) (I 5) (I 0) (.ap 7 y61 (I 0) (I 0))) O)))))), (I 1)]) (er 2))) (er 5))) (er 2)) (er 2)) (er 2)) (er 2)) (er 2))) (er 2)))
def sp33 : ST := (.ask (lt (D 0) (I 0)) (er 16) (.ask (lt (D 0) (I 33)) .none (er 16)))
def y62 : Sx := N (.ap 4 (I 1) (N (D 8)) (I 0))
def y63 : ST := .ask y49 (er 5) (.ask (lt (D 4) (I 64)) (.ask y9 (er 2) (.ask y10 (.leaf [(I 1), (I 0), (J y11 (J y13 (J y14 (J y15 (J (W (I 0) (I 0) (I 1) (I 5) (I 0) (I 0) (.ap 6 y62 (I 0) (I 0))) (J (W (I 0) (I 0) (I 4) (I 0) (I 5) (I 0) (.ap 7 y62 (I 0) (I 0))) O)))))), (I 1)]) (er 2))) (er 5))
def sp28_0 : ST := (.ask y0 (er 2) (.ask y1 (.ask y2 (er 2) (.ask y3 (.ask y5 (.ask y6 (.ask y17 (er 5) (.ask y18 y63 (er 5))) (er 2)) (er 2)) (er 2))) (er 2)))
def y64 : Sx := .cell (D 5) (I 0) 0
def y65 : Bx := lt y64 (I 0)
def y66 : Bx := lt y64 (D 6)
def sp28_1 : ST := (.ask y0 (er 2) (.ask y1 (.ask y2 (er 2) (.ask y3 (.ask y5 (.ask y6 (.ask y17 (er 5) (.ask y18 (.ask y65 (er 5) (.ask y66 y63 (er 5))) (er 5))) (er 2)) (er 2)) (er 2))) (er 2)))
def y67 : Sx := .cell (D 5) (I 1) 0
def y68 : Bx := lt y67 (I 0)
def y69 : Bx := lt y67 (D 6)
def sp28_2 : ST := (.ask y0 (er 2) (.ask y1 (.ask y2 (er 2) (.ask y3 (.ask y5 (.ask y6 (.ask y17 (er 5) (.ask y18 (.ask y65 (er 5) (.ask y66 (.ask y68 (er 5) (.ask y69 y63 (er 5))) (er 5))) (er 5))) (er 2)) (er 2)) (er 2))) (er 2)))
def y70 : Sx := .cell (D 5) (I 2) 0
def y71 : Bx := lt y70 (I 0)
def y72 : Bx := lt y70 (D 6)
def sp28_3 : ST := (.ask y0 (er 2) (.ask y1 (.ask y2 (er 2) (.ask y3 (.ask y5 (.ask y6 (.ask y17 (er 5) (.ask y18 (.ask y65 (er 5) (.ask y66 (.ask y68 (er 5) (.ask y69 (.ask y71 (er 5) (.ask y72 y63 (er 5))) (er 5))) (er 5))) (er 5))) (er 2)) (er 2)) (er 2))) (er 2)))
def y73 : Sx := .cell (D 5) (I 3) 0
def y74 : Bx := lt y73 (I 0)
def y75 : Bx := lt y73 (D 6)
def sp28_4 : ST := (.ask y0 (er 2) (.ask y1 (.ask y2 (er 2) (.ask y3 (.ask y5 (.ask y6 (.ask y17 (er 5) (.ask y18 (.ask y65 (er 5) (.ask y66 (.ask y68 (er 5) (.ask y69 (.ask y71 (er 5) (.ask y72 (.ask y74 (er 5) (.ask y75 y63 (er 5))) (er 5))) (er 5))) (er 5))) (er 5))) (er 2)) (er 2)) (er 2))) (er 2)))
def y76 : Sx := .cell (D 5) (I 4) 0
def y77 : Bx := lt y76 (I 0)
def y78 : Bx := lt y76 (D 6)
def sp28_5 : ST := (.ask y0 (er 2) (.ask y1 (.ask y2 (er 2) (.ask y3 (.ask y5 (.ask y6 (.ask y17 (er 5) (.ask y18 (.ask y65 (er 5) (.ask y66 (.ask y68 (er 5) (.ask y69 (.ask y71 (er 5) (.ask y72 (.ask y74 (er 5) (.ask y75 (.ask y77 (er 5) (.ask y78 y63 (er 5))) (er 5))) (er 5))) (er 5))) (er 5))) (er 5))) (er 2)) (er 2)) (er 2))) (er 2)))
def y79 : Sx := .cell (D 5) (I 5) 0
def y80 : Bx := lt y79 (I 0)
def y81 : Bx := lt y79 (D 6)
def sp28_6 : ST := (.ask y0 (er 2) (.ask y1 (.ask y2 (er 2) (.ask y3 (.ask y5 (.ask y6 (.ask y17 (er 5) (.ask y18 (.ask y65 (er 5) (.ask y66 (.ask y68 (er 5) (.ask y69 (.ask y71 (er 5) (.ask y72 (.ask y74 (er 5) (.ask y75 (.ask y77 (er 5) (.ask y78 (.ask y80 (er 5) (.ask y81 y63 (er 5))) (er 5))) (er 5))) (er 5))) (er 5))) (er 5))) (er 5))) (er 2)) (er 2)) (er 2))) (er 2)))
def y82 : Sx := .cell (D 5) (I 6) 0
def y83 : Bx := lt y82 (I 0)
def y84 : Bx := lt y82 (D 6)
def sp28_7 : ST := (.ask y0 (er 2) (.ask y1 (.ask y2 (er 2) (.ask y3 (.ask y5 (.ask y6 (.ask y17 (er 5) (.ask y18 (.ask y65 (er 5) (.ask y66 (.ask y68 (er 5) (.ask y69 (.ask y71 (er 5) (.ask y72 (.ask y74 (er 5) (.ask y75 (.ask y77 (er 5) (.ask y78 (.ask y80 (er 5) (.ask y81 (.ask y83 (er 5) (.ask y84 y63 (er 5))) (er 5))) (er 5))) (er 5))) (er 5))) (er 5))) (er 5))) (er 5))) (er 2)) (er 2)) (er 2))) (er 2)))
def y85 : Sx := .cell (D 5) (I 7) 0
def sp28_8 : ST := (.ask y0 (er 2) (.ask y1 (.ask y2 (er 2) (.ask y3 (.ask y5 (.ask y6 (.ask y17 (er 5) (.ask y18 (.ask y65 (er 5) (.ask y66 (.ask y68 (er 5) (.ask y69 (.ask y71 (er 5) (.ask y72 (.ask y74 (er 5) (.ask y75 (.ask y77 (er 5) (.ask y78 (.ask y80 (er 5) (.ask y81 (.ask y83 (er 5) (.ask y84 (.ask (lt y85 (I 0)) (er 5) (.ask (lt y85 (D 6)) y63 (er 5))) (er 5))) (er 5))) (er 5))) (er 5))) (er 5))) (er 5))) (er 5))) (er 5))) (er 2)) (er 2)) (er 2))) (er 2)))
def sp28_o : ST := (.ask y0 (er 2) (.ask y1 (.ask y2 (er 2) (.ask y3 (.ask y5 (.ask y6 (er 3) (er 2)) (er 2)) (er 2))) (er 2)))
def y86 : Bx := lt y12 (I 0)
def y87 : Bx := lt y12 (I 2147483648)
def q0 : Dcs := [(y86, false), (y87, true)]
def y88 : Bx := lt (lenS y16) (I 100000000)
def y89 : Sx := .ap 2 (I 5) (N (D 4)) (I 0)
def q1 : Dcs := [(y86, false), (y87, true), (y88, true), ((lt (lenS y19) (I 1000000001)), true), ((lt (lenS y89) (I 1000000001)), true), ((lt (lenS (J y89 y21)) (I 1000000001)), true)]
def q2 : Dcs := [(y86, false), (y87, true)]
def q3 : Dcs := [(y86, false), (y87, true)]
def q4 : Dcs := [(y86, false), (y87, true)]
def q5 : Dcs := [(y86, false), (y87, true)]
def y90 : Bx := lt y30 (I 0)
def y91 : Bx := lt y30 (I 2147483648)
def q6 : Dcs := [(y86, false), (y87, true), (y90, false), (y91, true)]
def q7 : Dcs := [(y86, false), (y87, true), (y90, false), (y91, true)]
def q8 : Dcs := [(y86, false), (y87, true), (y90, false), (y91, true)]
def q9 : Dcs := [(y86, false), (y87, true), (y90, false), (y91, true)]
def q10 : Dcs := [(y86, false), (y87, true)]
def q11 : Dcs := [(y86, false), (y87, true)]
def q12 : Dcs := [(y86, false), (y87, true)]
def q13 : Dcs := [(y86, false), (y87, true)]
def q14 : Dcs := [(y86, false), (y87, true)]
def q15 : Dcs := [(y86, false), (y87, true)]
def q16 : Dcs := [(y86, false), (y87, true)]
def q17 : Dcs := [(y86, false), (y87, true)]
def q18 : Dcs := [(y86, false), (y87, true)]
def q19 : Dcs := [(y86, false), (y87, true)]
def q20 : Dcs := [(y86, false), (y87, true)]
def y92 : Bx := lt y40 (I 0)
def y93 : Bx := lt y40 (I 2147483648)
def q21_1 : Dcs := [(y86, false), (y87, true), (y92, false), (y93, true)]
def q21_2 : Dcs := [(y86, false), (y87, true), (y92, false), (y93, true)]
def q21_3 : Dcs := [(y86, false), (y87, true), (y92, false), (y93, true)]
def q21_4 : Dcs := [(y86, false), (y87, true), (y92, false), (y93, true)]
def q21_5 : Dcs := [(y86, false), (y87, true), (y92, false), (y93, true)]
def q21_6 : Dcs := [(y86, false), (y87, true), (y92, false), (y93, true)]
def q21_7 : Dcs := [(y86, false), (y87, true), (y92, false), (y93, true)]
def q21_o : Dcs := []
def q22_1 : Dcs := [(y86, false), (y87, true), (y92, false), (y93, true)]
def q22_2 : Dcs := [(y86, false), (y87, true), (y92, false), (y93, true)]
def q22_3 : Dcs := []
def q22_4 : Dcs := [(y86, false), (y87, true), (y92, false), (y93, true)]
def q22_5 : Dcs := []
def q22_6 : Dcs := []
def q22_7 : Dcs := []
def q22_8 : Dcs := [(y86, false), (y87, true), (y92, false), (y93, true)]
def q22_o : Dcs := []
def y94 : Sx := .ap 2 (I 6) y50 (I 0)
def q23 : Dcs := [(y86, false), (y87, true), (y88, true), ((lt (lenS y51) (I 1000000001)), true), ((lt (lenS y53) (I 1000000001)), true), ((lt (lenS y94) (I 1000000001)), true), ((lt (lenS (J y94 (J y52 y21))) (I 1000000001)), true)]
def y95 : Sx := .ap 2 (I 5) y54 (I 0)
def q24 : Dcs := [(y86, false), (y87, true), (y88, true), ((lt (lenS y55) (I 1000000001)), true), ((lt (lenS y95) (I 1000000001)), true), ((lt (lenS (J y95 y21)) (I 1000000001)), true)]
def q25 : Dcs := [(y86, false), (y87, true)]
def q26 : Dcs := [(y86, false), (y87, true)]
def q27 : Dcs := [(y86, false), (y87, true)]
def q29 : Dcs := [(y86, false), (y87, true), ((lt y58 (I 0)), false), ((lt y58 (I 2147483648)), true)]
def q30 : Dcs := [(y86, false), (y87, true), ((lt y59 (I 0)), false), ((lt y59 (I 2147483648)), true)]
def q31 : Dcs := [(y86, false), (y87, true), ((lt y60 (I 0)), false), ((lt y60 (I 2147483648)), true)]
def q32 : Dcs := [(y86, false), (y87, true), ((lt y61 (I 0)), false), ((lt y61 (I 2147483648)), true)]
def q33 : Dcs := []
def y96 : Bx := lt y62 (I 0)
def y97 : Bx := lt y62 (I 2147483648)
def q28_0 : Dcs := [(y86, false), (y87, true), (y96, false), (y97, true)]
def q28_1 : Dcs := [(y86, false), (y87, true), (y96, false), (y97, true)]
def q28_2 : Dcs := [(y86, false), (y87, true), (y96, false), (y97, true)]
def q28_3 : Dcs := [(y86, false), (y87, true), (y96, false), (y97, true)]
def q28_4 : Dcs := [(y86, false), (y87, true), (y96, false), (y97, true)]
def q28_5 : Dcs := [(y86, false), (y87, true), (y96, false), (y97, true)]
def q28_6 : Dcs := [(y86, false), (y87, true), (y96, false), (y97, true)]
def q28_7 : Dcs := [(y86, false), (y87, true), (y96, false), (y97, true)]
def q28_8 : Dcs := [(y86, false), (y87, true), (y96, false), (y97, true)]
def q28_o : Dcs := []
def spIf (e : Sx) : List (Int × ST) → ST → ST
  | [], o => o
  | (n, s) :: l, o => .ask (eq e (I n)) s (spIf e l o)
def L21 : List (Int × ST) := [(1, sp21_1), (2, sp21_2), (3, sp21_3), (4, sp21_4), (5, sp21_5), (6, sp21_6), (7, sp21_7)]
def L22 : List (Int × ST) := [(1, sp22_1), (2, sp22_2), (3, sp22_3), (4, sp22_4), (5, sp22_5), (6, sp22_6), (7, sp22_7), (8, sp22_8)]
def L28 : List (Int × ST) := [(0, sp28_0), (1, sp28_1), (2, sp28_2), (3, sp28_3), (4, sp28_4), (5, sp28_5), (6, sp28_6), (7, sp28_7), (8, sp28_8)]
def sp21 : ST := spIf (D 4) L21 sp21_o
def sp22 : ST := spIf (D 4) L22 sp22_o
def sp28 : ST := spIf (lenS (D 5)) L28 sp28_o
def LOp : List (Int × ST) := [(0, sp0), (1, sp1), (2, sp2), (3, sp3), (4, sp4), (5, sp5), (6, sp6), (7, sp7), (8, sp8), (9, sp9), (10, sp10), (11, sp11), (12, sp12), (13, sp13), (14, sp14), (15, sp15), (16, sp16), (17, sp17), (18, sp18), (19, sp19), (20, sp20), (21, sp21), (22, sp22), (23, sp23), (24, sp24),
  (25, sp25), (26, sp26), (27, sp27), (28, sp28), (29, sp29), (30, sp30), (31, sp31), (32, sp32)]
def spT : ST := spIf (D 0) LOp sp33
def hitS : List (Int × ST) → Int → Option ST
  | [], _ => none
  | (n, s) :: l, k => bif intB n k then some s else hitS l k
theorem spIf_hit {v : Val} {e : Sx} {o s : ST} {k : Int} (hk : @Sx.eval v e = k) (i : Nat) : ∀ {l : List (Int × ST)}, hitS l k = some s → (spIf e l o).val v i = s.val v i
  | [], h => by cases h
  | (n, s') :: l, h => by
    simp only [hitS, cond_eq_ite] at h
    have he : @Bx.eval v (eq e (I n)) = decide (k = n) := by
      show (@Sx.eval v e == n) = _
      rw [hk]; rfl
    split at h
    · rename_i hb
      have := intB_t hb; subst this
      simp only [Option.some.injEq] at h; subst h
      simp [spIf, ST.val, he]
    · rename_i hb
      have hne : k ≠ n := fun h' => hb (by subst h'; cases k <;> simp [intB])
      simp only [spIf, ST.val, he, hne, decide_false, cond_false]
      exact spIf_hit hk i h
theorem spIf_miss {v : Val} {e : Sx} {o : ST} (i : Nat) : ∀ {l : List (Int × ST)}, (∀ q ∈ l, @Sx.eval v e ≠ q.1) → (spIf e l o).val v i = o.val v i
  | [], _ => rfl
  | (n, s') :: l, h => by
    have he : @Bx.eval v (eq e (I n)) = false := by
      show (@Sx.eval v e == n) = _
      simpa using h (n, s') (by simp)
    simp only [spIf, ST.val, he, cond_false]
    exact spIf_miss i fun q hq => h q (by simp [hq])
theorem spT_ok : spT.okB 9 8 = true := by kernel_rfl
theorem spT_int : spT.intAt 1 = true := by kernel_rfl
end
end Go.Proofs.YtbkokbjpbbpllaaGreat
namespace Go.Proofs.YtbkokbjpbbpllaaGreat
open Go.Tw
/-! What the functions compute, in plain Lean. -/
noncomputable section
def cellI (d : Dat) (k : Nat) : Int := (d.cell k 0).toI
def sameI (a c : Dat) : Bool := decide (a.toL.length = c.toL.length) && (List.range a.toL.length).all fun k => cellI a k == cellI c k
end
theorem eqs_nil {v v' : Val} : EqsOk v v' [] := fun _ h => by cases h
theorem eqs_cons {v v' : Val} {a c : Sx} {l : Eqs} (h : @Sx.dat v a = @Sx.dat v' c) (t : EqsOk v v' l) : EqsOk v v' ((a, c) :: l) := List.forall_mem_cons.2 ⟨h, t⟩
theorem hnil {v : Val} : @Holds v [] := fun _ h => by cases h
theorem hcons {v : Val} {c : Bx} {x : Bool} {l : Dcs} (h : @Bx.eval v c = x) (t : @Holds v l) : @Holds v ((c, x) :: l) := List.forall_mem_cons.2 ⟨h, t⟩
theorem happ {v : Val} {p l : Dcs} (h : @Holds v p) (t : @Holds v l) : @Holds v (p ++ l) := fun c hc => (List.mem_append.1 hc).elim (h c) (t c)
theorem tdiv4096 (x : Int) : x.tdiv 4096 = if 0 ≤ x then x / 4096 else -((-x) / 4096) := by
  split
  · rename_i h; exact Int.tdiv_eq_ediv_of_nonneg h
  · rename_i h
    have := Int.neg_tdiv (a := -x) (b := 4096)
    rw [Int.neg_neg] at this
    rw [this, Int.tdiv_eq_ediv_of_nonneg (by omega)]
theorem tmod4096 (x : Int) : x.tmod 4096 = if 0 ≤ x then x % 4096 else -((-x) % 4096) := by
  split
  · rename_i h; exact Int.tmod_eq_emod_of_nonneg h
  · rename_i h
    have := Int.neg_tmod (-x) 4096
    rw [Int.neg_neg] at this
    rw [this, Int.tmod_eq_emod_of_nonneg (by omega)]
def loOf (e : Int) : Int := if e % 4096 < 2048 then e % 4096 else e % 4096 - 4096
def hiOf (e : Int) : Int := wrapI .i64 ((wrapI .i64 (e - loOf e)).tdiv 4096)
theorem hiOf_lt (e : Int) (h : ¬ (-2147483648 ≤ e ∧ e < 2147483648)) : (hiOf e).natAbs < e.natAbs := by
  unfold hiOf loOf
  rw [wrap_i64, tdiv4096, wrap_i64]
  split <;> split <;> split <;> split <;> omega
theorem hiOf_bound (e : Int) (B : Int) (hB : 2147483648 ≤ B) (h : -B ≤ e ∧ e < B) (hs : B ≤ 9223372036854775808) : -(B / 4096 + 1) ≤ hiOf e ∧ hiOf e ≤ B / 4096 + 1 := by
  unfold hiOf loOf
  rw [wrap_i64, tdiv4096, wrap_i64]
  split <;> split <;> split <;> split <;> omega
theorem hiOf_top (e : Int) : -2251799813685248 ≤ hiOf e ∧ hiOf e ≤ 2251799813685248 := by
  unfold hiOf loOf
  rw [wrap_i64, tdiv4096, wrap_i64]
  split <;> split <;> split <;> split <;> omega
def rowI (l : List Int) : List Dat := l.map Dat.int
def lnI (o a b c d : Int) : List Dat := rowI [0, 0, o, a, b, c, d]
def layI (r e : Int) : List (List Dat) :=
  if -2048 ≤ e ∧ e < 2048 then [lnI 22 r 0 0 e] else
  if _h : -2147483648 ≤ e ∧ e < 2147483648 then lnI 1 r 0 0 (if hiOf e = 524288 then -524288 else hiOf e) :: (if loOf e = 0 then [] else [lnI 31 r r 0 (loOf e)])
  else layI r (hiOf e) ++ (lnI 28 r r 0 12 :: (if loOf e = 0 then [] else [lnI 22 r r 0 (loOf e)]))
termination_by e.natAbs
decreasing_by exact hiOf_lt e _h
theorem layI_small {r e : Int} (h : -2048 ≤ e ∧ e < 2048) : layI r e = [lnI 22 r 0 0 e] := by rw [layI, if_pos h]
theorem layI_mid {r e : Int} (h : ¬ (-2048 ≤ e ∧ e < 2048)) (h2 : -2147483648 ≤ e ∧ e < 2147483648) : layI r e = lnI 1 r 0 0 (if hiOf e = 524288 then -524288 else hiOf e) :: (if loOf e = 0 then [] else [lnI 31 r r 0 (loOf e)]) := by rw [layI, if_neg h, dif_pos h2]
theorem layI_big {r e : Int} (h2 : ¬ (-2147483648 ≤ e ∧ e < 2147483648)) : layI r e = layI r (hiOf e) ++ (lnI 28 r r 0 12 :: (if loOf e = 0 then [] else [lnI 22 r r 0 (loOf e)])) := by rw [layI, if_neg (by omega), dif_neg h2]
theorem layI_len0 (r e : Int) (h2 : -2147483648 ≤ e ∧ e < 2147483648) : (layI r e).length ≤ 2 := by
  by_cases h : -2048 ≤ e ∧ e < 2048
  · rw [layI_small h]; simp
  · rw [layI_mid h h2, List.length_cons]
    split <;> simp
theorem layI_lenS {r e : Int} {n : Nat} (hn : 2 ≤ n) (h : (layI r (hiOf e)).length ≤ n) : (layI r e).length ≤ n + 2 := by
  by_cases h2 : -2147483648 ≤ e ∧ e < 2147483648
  · have := layI_len0 r e h2; omega
  · rw [layI_big h2, List.length_append, List.length_cons]
    split <;> simp <;> omega
theorem layI_len1 (r e : Int) (h : -4398046511104 ≤ e ∧ e < 4398046511104) : (layI r e).length ≤ 4 :=
  layI_lenS (by omega) (layI_len0 r _ (by have := hiOf_bound e 4398046511104 (by omega) h (by omega); omega))
theorem layI_len2 (r e : Int) (h : -4503599627370496 ≤ e ∧ e < 4503599627370496) : (layI r e).length ≤ 6 :=
  layI_lenS (by omega) (layI_len1 r _ (by have := hiOf_bound e 4503599627370496 (by omega) h (by omega); omega))
theorem layI_len (r e : Int) : (layI r e).length ≤ 8 :=
  layI_lenS (by omega) (layI_len2 r _ (by have := hiOf_top e; omega))
def addrS (k b : Int) : Int := if 0 ≤ k ∧ k < 8 ∧ 0 ≤ b ∧ b < 4096 then 1073741824 + 16 * (8 * b + k) else 0
def addrE (k b : Int) : Int := if 0 ≤ k ∧ k < 8 ∧ 0 ≤ b ∧ b < 4096 then 0 else 2
def stubB (a : Int) : Prop := 1073741824 ≤ a ∧ a % 16 = 0 ∧ (a - 1073741824) / 16 < 32768
instance (a : Int) : Decidable (stubB a) := inferInstanceAs (Decidable (_ ∧ _ ∧ _))
def uppHi (a : Int) : Int := if stubB a then (a - loOf a) / 4096 else 0
def uppLo (a : Int) : Int := if stubB a then loOf a else 0
noncomputable section
def Fb : Nat → Dat → Dat → Dat → Dat
  | 1, a, c, _ => .int (b2i (sameI a c))
  | 2, r, e, _ => .lst (layI r.toI e.toI)
  | 3, r, e, x => .lst (x.toL ++ layI r.toI e.toI)
  | 4, k, b, _ => .int (addrS k.toI b.toI)
  | 5, k, b, _ => .int (addrE k.toI b.toI)
  | 6, a, _, _ => .int (uppHi a.toI)
  | 7, a, _, _ => .int (uppLo a.toI)
  | _, _, _, _ => .int 0
abbrev VB (row : List Dat) : Val := Val.mk (fun _ => 0) (fun i => match row[i]? with
  | some d => d
  | none => .int 0) Fb
def tmplD (a : Dat) (i : Nat) : Dat := spT.val (VB a.one) i
def cellJ (d : Dat) (k j : Nat) : Int := (d.cell k j).toI
def sameR (a c : Dat) : Bool := decide (a.toL.length = c.toL.length) && (List.range a.toL.length).all fun k => (List.range 7).all fun j => cellJ a k j == cellJ c k j
def F0 : Nat → Dat → Dat → Dat → Dat
  | 1, a, c, _ => .int (b2i (sameI a c))
  | 2, r, e, _ => .lst (layI r.toI e.toI)
  | 3, r, e, x => .lst (x.toL ++ layI r.toI e.toI)
  | 4, k, b, _ => .int (addrS k.toI b.toI)
  | 5, k, b, _ => .int (addrE k.toI b.toI)
  | 6, a, _, _ => .int (uppHi a.toI)
  | 7, a, _, _ => .int (uppLo a.toI)
  | 8, a, _, _ => tmplD a 1
  | 9, a, _, _ => tmplD a 2
  | 10, a, _, _ => tmplD a 0
  | 11, a, c, _ => .int (b2i (sameR a c))
  | _, _, _, _ => .int 0
theorem F0_b {f : Nat} (h : f < 8) : F0 f = Fb f := by
  match f, h with
  | 0, _ => rfl
  | 1, _ => rfl
  | 2, _ => rfl
  | 3, _ => rfl
  | 4, _ => rfl
  | 5, _ => rfl
  | 6, _ => rfl
  | 7, _ => rfl
abbrev VA (l : List Dat) : Val := Val.mk (fun _ => 0) (fun i => match l[i]? with
  | some d => d
  | none => .int 0) F0
end
end Go.Proofs.YtbkokbjpbbpllaaGreat
namespace Go.Proofs.YtbkokbjpbbpllaaGreat
open Go.Tw
noncomputable section
def con20 : Con := { f := 20, args := [LI (D 0), LI (D 1)], pre := [(.cmp .lss (lenS (D 0)) (.lit 1000000), true)], res := .symb (.cmp .neq (.ap 1 (D 0) (D 1) (.lit 0)) (.lit 0)), objs := [] }
def A20 : List (Nat × AV) := [(1, LI (D 1)), (0, LI (D 0))]
def r20 : Sx := .ap 1 (D 0) (D 1) (.lit 0)
def R20 : List (Nat × AV) := [(4, .symb (.cmp .neq r20 (.lit 0)))]
def Q20 (n : Int) : Eqs := [(.lit n, .pr 21 r20 (.lit 0))]
def cLen : Bx := .cmp .eql (lenS (D 0)) (lenS (D 1))
theorem x20_len : runHB R0 0 0 (run [(cLen, false)] [] 26 c20 A20 [] R0) .ret [] R20 [] R0 (Q20 0) = true := by kernel_rfl
theorem x20_0 : runHB R0 0 0 (run [] [] 26 (Code.l c20) A20 [] R0) .normal [] A20 [] R0 [(D 1, D 1), (D 0, D 0)] = true := by kernel_rfl
theorem x20_1 : runHB R0 0 0 (run [(cLen, true)] [] 26 (Code.l (Code.r c20)) A20 [] R0) .normal [] A20 [] R0 [(D 1, D 1), (D 0, D 0)] = true := by kernel_rfl
theorem x20_2 : runHB R0 0 0 (run [] [] 26 (Code.l (Code.l (Code.r (Code.r c20)))) A20 [] R0) .normal [] E20 [] R0 [(D 0, D 0), (D 1, D 1), (.lit 0, .pr 30 (D 2) (.lit 0))] = true := by kernel_rfl
def p20 (x : Bool) : Dcs := [(.cmp .lss (D 2) (lenS (D 0)), true), (.cmp .lss (D 2) (.lit 0), false), (.cmp .lss (D 2) (lenS (D 1)), true), (.cmp .eql (.cell (D 0) (D 2) 0) (.cell (D 1) (D 2) 0), x)]
theorem x20_out : runHB R0 0 0 (run [(.cmp .lss (D 2) (lenS (D 0)), false)] [] 26 b20 E20 [] R0) (.exit 0) [] [] [] R0 [] = true := by kernel_rfl
theorem x20_ne : runHB R0 0 0 (run (p20 false) [] 26 b20 E20 [] R0) .ret [] R20 [] R0 (Q20 0) = true := by kernel_rfl
theorem x20_eq : runHB R0 0 0 (run (p20 true) [] 26 b20 E20 [] R0) .normal [] E20 [] R0 [(D 0, D 0), (D 1, D 1), (.pr 30 (.bin .add .i64 (D 2) (.lit 1)) (.lit 0), .pr 30 (D 2) (.lit 0))] = true := by kernel_rfl
theorem x20_end : runHB R0 0 0 (run [] [] 26 (Code.r (Code.r (Code.r c20))) [] [] R0) .ret [] R20 [] R0 (Q20 1) = true := by kernel_rfl
theorem c20_eq : c20 = .seq (Code.l c20) (.seq (Code.l (Code.r c20)) (.seq (.seq (Code.l (Code.l (Code.r (Code.r c20)))) (.block 0 (.loop b20))) (Code.r (Code.r (Code.r c20))))) := by kernel_rfl
theorem first_false (f : Nat → Bool) (m : Nat) : ∃ n, n ≤ m ∧ (∀ k, k < n → f k = true) ∧ ((n = m ∧ (List.range m).all f = true) ∨ (n < m ∧ f n = false ∧ (List.range m).all f = false)) := by
  induction m with
  | zero => exact ⟨0, Nat.le_refl _, fun k h => by omega, .inl ⟨rfl, rfl⟩⟩
  | succ m ih =>
    obtain ⟨n, h1, h2, h3⟩ := ih
    rcases h3 with ⟨rfl, h3⟩ | ⟨h3, h4, h5⟩
    · cases hf : f n with
      | true => exact ⟨n + 1, Nat.le_refl _, fun k hk => by
          by_cases h : k = n
          · rw [h]; exact hf
          · exact h2 k (by omega), .inl ⟨rfl, by rw [List.range_succ, List.all_append, h3]; simp [hf]⟩⟩
      | false => exact ⟨n, by omega, h2, .inr ⟨by omega, hf, by rw [List.range_succ, List.all_append, h3]; simp [hf]⟩⟩
    · exact ⟨n, by omega, h2, .inr ⟨by omega, h4, by rw [List.range_succ, List.all_append, h5]; rfl⟩⟩
theorem con20_ok : con20.Sound F0 P gl0 b0 R0 := by
  refine con_sound (fn := Tryz.f20) (code := c20) Tryz.func20 (by rfl) (by kernel_rfl) (by kernel_rfl) fun v hF hpre => ?_
  have hbig : ((@Sx.dat v (D 0)).toL.length : Int) < 1000000 := by
    have h1 : @Bx.eval v (.cmp .lss (lenS (D 0)) (.lit 1000000)) = true := hpre (.cmp .lss (lenS (D 0)) (.lit 1000000), true) (List.mem_singleton.2 rfl)
    have h2 : decide (((@Sx.dat v (D 0)).toL.length : Int) < 1000000) = true := h1
    exact of_decide_eq_true h2
  refine ⟨.ret, [(4, .symb (.cmp .neq (.ap 1 (D 0) (D 1) (.lit 0)) (.lit 0)))], _, _, .inl rfl, ?_, by rfl, rfl⟩
  show HR 0 0 26 v c20 (envL A20) (toldSt b0 [] R0) .ret v (envL R20) (toldSt b0 [] R0)
  obtain ⟨a, ha⟩ : ∃ a, a = @Sx.dat v (D 0) := ⟨_, rfl⟩
  obtain ⟨c, hc⟩ : ∃ c, c = @Sx.dat v (D 1) := ⟨_, rfl⟩
  have hr : @Sx.dat v r20 = .int (b2i (sameI a c)) := by
    show v.fn 1 _ _ _ = _
    rw [hF, ha, hc]; rfl
  have hq : ∀ n, n = b2i (sameI a c) → ∀ V : Val, EqsOk V v (Q20 n) := fun n hn V p hp => by
    simp only [Q20, List.mem_singleton] at hp; subst hp
    show Dat.int n = .int (b2i ((@Sx.dat v r20).toI != 0))
    rw [hr, hn]
    cases sameI a c <;> rfl
  by_cases hl : a.toL.length = c.toL.length
  · have hlen : @Bx.eval v cLen = true := by
      show ((( (@Sx.dat v (D 0)).toL.length : Int)) == ((@Sx.dat v (D 1)).toL.length : Int)) = true
      rw [← ha, ← hc, hl]; simp
    let V : Nat → Val := fun k => VL F0 [a, c, .int k]
    obtain ⟨n, hn, hall, hend⟩ := first_false (fun k => cellI a k == cellI c k) a.toL.length
    rw [c20_eq]
    have h0 : HR 0 0 26 v (Code.l c20) (envL A20) (toldSt b0 [] R0) .normal v (envL A20) (toldSt b0 [] R0) := rn hF holds0 nocon (Nat.le_refl 0) x20_0 (by simp [EqsOk])
    have h1 : HR 0 0 26 v (Code.l (Code.r c20)) (envL A20) (toldSt b0 [] R0) .normal v (envL A20) (toldSt b0 [] R0) := rn hF (by simpa [Holds] using hlen) nocon (Nat.le_refl 0) x20_1 (by simp [EqsOk])
    have h2 : HR 0 0 26 v (Code.l (Code.l (Code.r (Code.r c20)))) (envL A20) (toldSt b0 [] R0) .normal (V 0) (envL E20) (toldSt b0 [] R0) := rn hF holds0 nocon (Nat.le_refl 0) x20_2 (by simpa [EqsOk, ← ha, ← hc] using ⟨rfl, rfl, rfl⟩)
    have hp : ∀ k x, k < a.toL.length → (cellI a k == cellI c k) = x → @Holds (V k) (p20 x) := fun k x hk hx => by
      simp only [Holds, p20, List.forall_mem_cons, Bx.eval, compI]
      refine ⟨decide_eq_true (show (k : Int) < a.toL.length by omega), decide_eq_false (show ¬ (k : Int) < 0 by omega), decide_eq_true (show (k : Int) < c.toL.length by omega), hx, fun _ h => by cases h⟩
    have hstep : ∀ k, k < n → HR 0 0 26 (V k) b20 (envL E20) (toldSt b0 [] R0) .normal (V (k + 1)) (envL E20) (toldSt b0 [] R0) := fun k hk => by
      refine rn (v := V k) rfl (hp k true (by omega) (hall k hk)) nocon (Nat.le_refl 0) x20_eq ?_
      simp only [EqsOk, List.forall_mem_cons]
      refine ⟨rfl, rfl, ?_, fun _ h => by cases h⟩
      show Dat.int (wrapI .i64 ((k : Int) + 1)) = Dat.int ((k + 1 : Nat) : Int)
      rw [wrap_small (by omega) (by rw [← ha] at hbig; omega)]
      rfl
    rcases hend with ⟨rfl, hs⟩ | ⟨hlt, hf, hs⟩
    · have hs : sameI a c = true := by unfold sameI; rw [hs]; simp [hl]
      have hx : HR 0 0 26 (V a.toL.length) b20 (envL E20) (toldSt b0 [] R0) (.exit 0) v (envL []) (toldSt b0 [] R0) := rn (v := V a.toL.length) rfl (by
        simp only [Holds, List.forall_mem_cons, Bx.eval, compI]
        exact ⟨decide_eq_false (show ¬ ((a.toL.length : Nat) : Int) < a.toL.length by omega), fun _ h => by cases h⟩) nocon (Nat.le_refl 0) x20_out eqs0
      have h3 : HR 0 0 26 v (Code.r (Code.r (Code.r c20))) (envL []) (toldSt b0 [] R0) .ret v (envL R20) (toldSt b0 [] R0) := rn hF holds0 nocon (Nat.le_refl 0) x20_end (hq 1 (by rw [hs]; rfl) v)
      exact h0.seq (Nat.le_refl 0) (h1.seq (Nat.le_refl 0) ((h2.seq (Nat.le_refl 0) (HT.loop (Nat.le_refl 0) _ V hstep hx (by simp)).block).seq (Nat.le_refl 0) h3))
    · have hs : sameI a c = false := by unfold sameI; rw [hs]; simp
      have hx : HR 0 0 26 (V n) b20 (envL E20) (toldSt b0 [] R0) .ret v (envL R20) (toldSt b0 [] R0) := rn (v := V n) rfl (hp n false hlt hf) nocon (Nat.le_refl 0) x20_ne (hq 0 (by rw [hs]; rfl) _)
      exact h0.seq (Nat.le_refl 0) (h1.seq (Nat.le_refl 0) ((h2.seq (Nat.le_refl 0) ((HT.loop (Nat.le_refl 0) _ V hstep hx (by simp)).block_out (by simp))).seq_out (by simp)))
  · have hs : sameI a c = false := by unfold sameI; simp [hl]
    refine rn hF ?_ nocon (Nat.le_refl 0) x20_len (hq 0 (by rw [hs]; rfl) v)
    simp only [Holds, List.forall_mem_cons]
    refine ⟨?_, fun _ h => by cases h⟩
    show ((( (@Sx.dat v (D 0)).toL.length : Int)) == ((@Sx.dat v (D 1)).toL.length : Int)) = false
    rw [← ha, ← hc]
    simp; omega
end
end Go.Proofs.YtbkokbjpbbpllaaGreat
