/-
  A part of the law's proof over the abstract evaluator. Conditions: those of each theorem, as it states them.
-/
import Derived.Test.YtgcpcgaigbnniaaGreatConA
import Derived.Test.YtgcpcgaigbnniaaGreatConB
import Derived.Test.YtgcpcgaigbnniaaGreatConC
import Derived.Test.YtgcpcgaigbnniaaGreatConD
set_option linter.all false
/-! Contracts of Check, Encode, Decode, by operation and by where the number lies. -/
set_option linter.all false
set_option maxRecDepth 1000000
namespace Go.Proofs.YtgcpcgaigbnniaaGreat
open Go.Tw
noncomputable section
def KL : List Con := [k_a0p_69, k_a0n_69, k_ap_69, k_an_69, k_wp_69, k_wn_69, k_s_69, k_up_69, k_un_69, k_uc_69, k_uP_69, k_uN_69, k_a0p_34, k_a0n_34, k_ap_34, k_an_34, k_wp_34, k_wn_34, k_s_34, k_up_34, k_un_34, k_uc_34, k_uP_34, k_uN_34, k_a0p_36, k_a0n_36, k_ap_36, k_an_36, k_wp_36, k_wn_36, k_s_36, k_up_36, k_un_36, k_uc_36, k_uP_36, k_uN_36]
theorem KL_ok : ∀ c ∈ KL, c.Sound F0 P gl0 b0 R0 := by
  intro c hc
  simp only [KL, List.mem_cons, List.not_mem_nil, or_false] at hc
  rcases hc with rfl | rfl | rfl | rfl | rfl | rfl | rfl | rfl | rfl | rfl | rfl | rfl | rfl | rfl | rfl | rfl | rfl | rfl | rfl | rfl | rfl | rfl | rfl | rfl | rfl | rfl | rfl | rfl | rfl | rfl | rfl | rfl | rfl | rfl | rfl | rfl
  · exact ok_a0p_69
  · exact ok_a0n_69
  · exact ok_ap_69
  · exact ok_an_69
  · exact ok_wp_69
  · exact ok_wn_69
  · exact ok_s_69
  · exact ok_up_69
  · exact ok_un_69
  · exact ok_uc_69
  · exact ok_uP_69
  · exact ok_uN_69
  · exact ok_a0p_34
  · exact ok_a0n_34
  · exact ok_ap_34
  · exact ok_an_34
  · exact ok_wp_34
  · exact ok_wn_34
  · exact ok_s_34
  · exact ok_up_34
  · exact ok_un_34
  · exact ok_uc_34
  · exact ok_uP_34
  · exact ok_uN_34
  · exact ok_a0p_36
  · exact ok_a0n_36
  · exact ok_ap_36
  · exact ok_an_36
  · exact ok_wp_36
  · exact ok_wn_36
  · exact ok_s_36
  · exact ok_up_36
  · exact ok_un_36
  · exact ok_uc_36
  · exact ok_uP_36
  · exact ok_uN_36
end
end Go.Proofs.YtgcpcgaigbnniaaGreat
/-! The law's run from a class's number to the machine behind it. -/
namespace Go.Proofs.YtgcpcgaigbnniaaGreat
open Go.Tw
noncomputable section
def runK (p : Dcs) (l : List (Nat × AV)) : XR := execL P (cfgP gl0 b0 p (conHk R0 (decP p) KL)) (R0 + 0) 1000 129 L5 (envL l) (toldSt b0 [] R0)
/-- The top of a class: its number, what the machine has of it, its bounds, what else is asked. -/
structure Tp where
  s : Sx
  w : Sx
  p : Dcs
  ex : Dcs
  k : Nat
def u4 (x y : Sx) : Sx := .bin .add .u64 (.bin .shl .u64 x (.lit 12)) y
def u0 (x : Sx) : Sx := .bin .shl .u64 x (.lit 12)
/-- Lows: 0 below nought, 1 nought, 2 above. -/
def aS (S : Sx) (i s : Nat) : Sx := match s with
  | 1 => m0 S
  | _ => m4 S (D i)
def aW (W : Sx) (i s : Nat) : Sx := match s with
  | 0 => u4 W (.wrap .u64 (D i))
  | 1 => u0 W
  | _ => u4 W (D i)
def aP (i s : Nat) : Dcs := match s with
  | 0 => b1 i (-2048) 0
  | 1 => []
  | _ => b1 i 1 2048
def fS : Sx → Nat → List Nat → Sx
  | S, _, [] => S
  | S, i, s :: l => fS (aS S i s) (i + 1) l
def fW : Sx → Nat → List Nat → Sx
  | W, _, [] => W
  | W, i, s :: l => fW (aW W i s) (i + 1) l
def fP : Nat → List Nat → Dcs
  | _, [] => []
  | i, s :: l => aP i s ++ fP (i + 1) l
def askD (t : Tp) (l : List Nat) (W : Sx) : Dcs := match t.k with
  | 0 => []
  | 1 => match l with
    | [] => []
    | s :: _ => [(lt (aS t.s 2 s) (.lit 2147483648), false)]
  | 2 => match l with
    | [] => []
    | s :: _ => [(lt (aS t.s 2 s) (.lit (-2147483648)), true)]
  | _ => [(.cmp .eql W (.wrap .u64 (fS t.s 2 l)), true)]
def pth (t : Tp) (l : List Nat) (W : Sx) : Dcs := t.p ++ (fP 2 l ++ (b1 9 0 31 ++ ((lt ix (.lit 32), true) :: (lt ix (.lit 1), false) :: (t.ex ++ askD t l W))))
def RC (t : Tp) (l : List Nat) (W : Sx) (id : Nat) : Bool := runHB R0 0 0 (runK (pth t l W) (SB (fS t.s 2 l))) .normal (re id) TB OB 1027 (mkE W)
def RD (t : Tp) (l : List Nat) (id : Nat) : Bool := RC t l (fW t.w 2 l) id
def hW : Sx := .bin .add .i64 (.bin .mul .i64 (D 1) (.lit 1)) (.bin .add .i64 (.bin .mul .i64 (D 0) (.lit 4096)) (.lit 0))
def cW (n : Int) : Sx := .bin .add .i64 (.bin .mul .i64 (D 1) (.lit 1)) (.lit n)
def lD (n : Int) (i : Nat) : Sx := .bin .add .i64 (.lit n) (D i)
def nx : Dcs := [(lt (D 0) (.lit (-524288)), false)]
def px : Dcs := [(lt (D 0) (.lit 524288), true)]
def exD (e : Nat) : Dcs := match e with
  | 0 => []
  | 1 => px
  | _ + 2 => nx
/-- Tops of up to two, and of three more lows (H: 524287, 32767; px, nx: what else is asked of the top). -/
def tp0 (H : Int) (e : Dcs) : Tp := ⟨m4 (D 0) (D 1), hW, b1 0 1 H ++ b1 1 (-2048) 0, e, 1⟩
def tp1 (H : Int) (e : Dcs) : Tp := ⟨m0 (D 0), u0 (D 0), b1 0 1 H, e, 1⟩
def tp2 (H : Int) (e : Dcs) : Tp := ⟨m4 (D 0) (D 1), hW, b1 0 1 H ++ b1 1 1 2048, e, 1⟩
def tn0 (H : Int) (e : Dcs) : Tp := ⟨m4 (D 0) (D 1), .wrap .u64 hW, b1 0 H 0 ++ b1 1 (-2048) 0, e, 2⟩
def tn1 (H : Int) (e : Dcs) : Tp := ⟨m0 (D 0), u0 (.wrap .u64 (D 0)), b1 0 H 0, e, 2⟩
def tn2 (H : Int) (e : Dcs) : Tp := ⟨m4 (D 0) (D 1), .wrap .u64 hW, b1 0 H 0 ++ b1 1 1 2048, e, 2⟩
def tc : Tp := ⟨lD 2147483648 1, cW 2147483648, b1 1 (-2048) 0, [], 0⟩
def tQ : Tp := ⟨lD 134217728 1, cW 134217728, b1 1 (-2048) 0, [], 0⟩
def tM : Tp := ⟨lD (-134217728) 1, .wrap .u64 (.bin .shr .i64 (.wrap .i64 (.bin .shl .u64 (.bin .add .u64 (.lit 4160749568) (D 1)) (.lit 32))) (.lit 32)), b1 1 1 2048, [], 3⟩
def tl (n : Int) : Tp := ⟨.lit n, .lit 0, [], [], 0⟩
def ta (a b : Int) (w : Sx) : Tp := ⟨D 0, w, b1 0 a b, [], 0⟩
def tz : Tp := ⟨lD 9223372036854773760 4, .bin .add .u64 (.lit 9223372036854775808) (.wrap .u64 (.bin .sub .i64 (.bin .add .i64 (D 4) (.lit 2048)) (.lit 4096))), b1 4 0 2048, [], 0⟩
end
end Go.Proofs.YtgcpcgaigbnniaaGreat
