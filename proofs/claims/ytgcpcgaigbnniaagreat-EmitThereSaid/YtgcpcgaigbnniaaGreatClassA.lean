/-
  A part of the law's proof over the abstract evaluator. Conditions: those of each theorem, as it states them.
-/
import Derived.Test.YtgcpcgaigbnniaaGreatLayC
set_option linter.all false
/-! From the classes' runs to their numbers. -/
set_option linter.all false
namespace Go.Proofs.YtgcpcgaigbnniaaGreat
open Go.Tw
noncomputable section
/-- Digits of one's own ahead of what is given. -/
def mix (a f : Nat → Int) : Nat → Int := fun i => if i < 5 then a i else f i
theorem hold_app {v : Val} {p q : Dcs} (hp : @Holds v p) (hq : @Holds v q) : @Holds v (p ++ q) := fun c hc => by
  rcases List.mem_append.1 hc with h | h
  · exact hp c h
  · exact hq c h
theorem hb1 {v : Val} {i : Nat} {lo hi x : Int} (hx : @Sx.eval v (D i) = x) (h1 : lo ≤ x) (h2 : x < hi) : @Holds v (b1 i lo hi) :=
  hcons (lt_t (by rw [hx]; exact h2)) (hcons (lt_f (by rw [hx]; show ¬ x < lo; omega)) hnil)
theorem mix_lo {a f : Nat → Int} {i : Nat} (h : i < 5) : @Sx.eval (vF (mix a f)) (D i) = a i := by
  show (if i < 5 then a i else f i) = a i
  rw [if_pos h]
def R64 (x : Int) : Prop := -9223372036854775808 ≤ x ∧ x ≤ 9223372036854775807
def dv (s : Nat) (x : Int) : Int := match s with
  | 0 => x
  | 1 => 0
  | _ + 2 => x
def inR (s : Nat) (x : Int) : Prop := match s with
  | 0 => -2048 ≤ x ∧ x < 0
  | 1 => True
  | _ + 2 => 1 ≤ x ∧ x < 2048
def vL (a : Nat → Int) : Int → Nat → List Nat → Int
  | X, _, [] => X
  | X, i, s :: l => vL a (X * 4096 + dv s (a i)) (i + 1) l
def okL (a : Nat → Int) : Int → Nat → List Nat → Prop
  | _, _, [] => True
  | X, i, s :: l => R64 (X * 4096) ∧ R64 (X * 4096 + dv s (a i)) ∧ inR s (a i) ∧ okL a (X * 4096 + dv s (a i)) (i + 1) l
theorem ev_aS {v : Val} {S : Sx} {X x : Int} {i s : Nat} (h : @Sx.eval v S = X) (hi : @Sx.eval v (D i) = x) (h1 : R64 (X * 4096)) (h2 : R64 (X * 4096 + dv s x)) : @Sx.eval v (aS S i s) = X * 4096 + dv s x := by
  match s, h2 with
  | 0, h2 => exact m4e h hi h1.1 h1.2 h2.1 h2.2
  | 1, h2 => exact (m0e h h1.1 h1.2).trans (Int.add_zero _).symm
  | n + 2, h2 => exact m4e h hi h1.1 h1.2 h2.1 h2.2
theorem ev_fS {a f : Nat → Int} : ∀ {l : List Nat} {i : Nat} {S : Sx} {X : Int}, @Sx.eval (vF (mix a f)) S = X → i + l.length ≤ 5 → okL a X i l → @Sx.eval (vF (mix a f)) (fS S i l) = vL a X i l
  | [], _, _, _, h, _, _ => h
  | s :: l, i, S, X, h, hi, ⟨h1, h2, _, h4⟩ => ev_fS (l := l) (i := i + 1) (S := aS S i s) (X := X * 4096 + dv s (a i)) (ev_aS h (mix_lo (by simp only [List.length_cons] at hi; omega)) h1 h2) (by simp only [List.length_cons] at hi; omega) h4
theorem cg_aW {v : Val} {W : Sx} {X x : Int} {i s : Nat} (h : Cg v W X) (hi : @Sx.eval v (D i) = x) : Cg v (aW W i s) (X * 4096 + dv s x) := by
  match s with
  | 0 => exact cg_ad (cg_sh h) (cg_wr hi)
  | 1 =>
    have := cg_sh h
    rwa [← Int.add_zero (X * 4096)] at this
  | n + 2 => exact cg_ad (cg_sh h) (cg_v hi)
theorem cg_fW {a f : Nat → Int} : ∀ {l : List Nat} {i : Nat} {W : Sx} {X : Int}, Cg (vF (mix a f)) W X → i + l.length ≤ 5 → Cg (vF (mix a f)) (fW W i l) (vL a X i l)
  | [], _, _, _, h, _ => h
  | s :: l, i, W, X, h, hi => cg_fW (l := l) (i := i + 1) (W := aW W i s) (X := X * 4096 + dv s (a i)) (cg_aW h (mix_lo (by simp only [List.length_cons] at hi; omega))) (by simp only [List.length_cons] at hi; omega)
theorem rk_fW : ∀ {l : List Nat} {i : Nat} {W : Sx}, rangeK W = some .u64 → rangeK (fW W i l) = some .u64
  | [], _, _, h => h
  | 0 :: l, i, W, h => rk_fW (l := l) (i := i + 1) (W := aW W i 0) rfl
  | 1 :: l, i, W, h => rk_fW (l := l) (i := i + 1) (W := aW W i 1) rfl
  | (n + 2) :: l, i, W, h => rk_fW (l := l) (i := i + 1) (W := aW W i (n + 2)) rfl
theorem holds_aP {v : Val} {i s : Nat} {x : Int} (hi : @Sx.eval v (D i) = x) (h : inR s x) : @Holds v (aP i s) := by
  match s, h with
  | 0, h => exact hb1 hi h.1 h.2
  | 1, _ => exact hnil
  | n + 2, h => exact hb1 hi h.1 h.2
theorem holds_fP {a f : Nat → Int} : ∀ {l : List Nat} {i : Nat} {X : Int}, i + l.length ≤ 5 → okL a X i l → @Holds (vF (mix a f)) (fP i l)
  | [], _, _, _, _ => hnil
  | s :: l, i, X, hi, ⟨_, _, h3, h4⟩ => hold_app (holds_aP (mix_lo (by simp only [List.length_cons] at hi; omega)) h3) (holds_fP (by simp only [List.length_cons] at hi; omega) h4)
/-- What is asked of the number above the first low. -/
def aOk (a : Nat → Int) (k : Nat) (X : Int) (l : List Nat) : Prop := match l with
  | [] => True
  | s :: _ => match k with
    | 0 => True
    | 1 => ¬ X * 4096 + dv s (a 2) < 2147483648
    | _ + 2 => X * 4096 + dv s (a 2) < -2147483648
theorem good_cls (hr : RestOk) {t : Tp} {l : List Nat} {W : Sx} {id : Nat} (hx : RC t l W id = true) {a : Nat → Int} {X x : Int} (hl : l.length ≤ 3) (hs : ∀ f, @Sx.eval (vF (mix a f)) t.s = X)
    (hp : ∀ f, @Holds (vF (mix a f)) t.p) (he : ∀ f, @Holds (vF (mix a f)) t.ex) (hok : okL a X 2 l) (hask : ∀ f, @Holds (vF (mix a f)) (askD t l W)) (hv : x = vL a X 2 l) : Good x := by
  intro f h20 h1 h2
  have h9 : (mix a f) 9 = f 9 := rfl
  have hi : @Sx.eval (vF (mix a f)) ix = 1 + f 9 := ix_eval (z := f 9) rfl h1 h2
  have hh : @Holds (vF (mix a f)) (pth t l W) := by
    refine hold_app (hp f) (hold_app (holds_fP (by omega) hok) (hold_app (hb1 (x := f 9) rfl h1 (by omega)) (hcons (lt_t ?_) (hcons (lt_f ?_) (hold_app (he f) (hask f))))))
    · rw [hi]; show 1 + f 9 < 32; omega
    · rw [hi]; show ¬ 1 + f 9 < 1; omega
  refine ht_pre (retell_ok base0 (mSB (fS t.s 2 l)) (v' := vF (mix a f)) ?_) ?_
  · refine eqs_cons (N_eq rfl) (eqs_cons (N_eq ?_) (eqs_cons (N_eq rfl) (eqs_cons (N_eq rfl) eqs_nil)))
    rw [ev_fS (hs f) (by omega) hok, ← hv]
    exact h20
  · exact HT.runL base0 (Nat.le_refl 0) hh (conHk_steps KL) (conHk_ok base0 hh rfl KL_ok) follows hx (mkE_ok _ W) (hr _ h1 h2)
theorem ask1 {a f : Nat → Int} {t : Tp} {l : List Nat} {W : Sx} {X : Int} (hk : t.k ≤ 2) (hs : @Sx.eval (vF (mix a f)) t.s = X) (hok : okL a X 2 l) (h : aOk a t.k X l) : @Holds (vF (mix a f)) (askD t l W) := by
  obtain ⟨s0, w0, p0, e0, k⟩ := t
  match k, l, hok, h with
  | 0, _, _, _ => exact hnil
  | 1, [], _, _ => exact hnil
  | 1, s :: l, ⟨h1, h2, _, _⟩, h => exact hcons (lt_f (by rw [ev_aS hs (mix_lo (by omega)) h1 h2]; exact h)) hnil
  | 2, [], _, _ => exact hnil
  | 2, s :: l, ⟨h1, h2, _, _⟩, h => exact hcons (lt_t (by rw [ev_aS hs (mix_lo (by omega)) h1 h2]; exact h)) hnil
  | k + 3, _, _, _ => exact absurd hk (by show ¬ k + 3 ≤ 2; omega)
def A5 (a0 a1 a2 a3 a4 : Int) : Nat → Int := fun i => match i with
  | 0 => a0
  | 1 => a1
  | 2 => a2
  | 3 => a3
  | 4 => a4
  | _ + 5 => 0
/-- What a class wants of its digits (top: a0 * 4096 + a1, a0 * 4096, or a number n and a1). -/
theorem dx {a f : Nat → Int} {X : Int} (h : a 0 * 4096 + a 1 = X) (h1 : R64 (a 0 * 4096)) (h2 : R64 X) : @Sx.eval (vF (mix a f)) (m4 (D 0) (D 1)) = X := by
  rw [← h] at h2 ⊢
  exact m4e (mix_lo (i := 0) (by omega)) (mix_lo (i := 1) (by omega)) h1.1 h1.2 h2.1 h2.2
theorem dx0 {a f : Nat → Int} {X : Int} (h : a 0 * 4096 = X) (h2 : R64 X) : @Sx.eval (vF (mix a f)) (m0 (D 0)) = X := by
  rw [← h] at h2 ⊢
  exact m0e (mix_lo (i := 0) (by omega)) h2.1 h2.2
theorem dxl {a f : Nat → Int} {i : Nat} {n X : Int} (hi : i < 5) (h : n + a i = X) (h2 : R64 X) : @Sx.eval (vF (mix a f)) (lD n i) = X := by
  rw [← h] at h2 ⊢
  exact ade rfl (mix_lo hi) h2.1 h2.2
theorem hd {a f : Nat → Int} {i : Nat} {lo hi : Int} (h5 : i < 5) (h : lo ≤ a i ∧ a i < hi) : @Holds (vF (mix a f)) (b1 i lo hi) := hb1 (mix_lo h5) h.1 h.2
/-- What else is asked of the top digit. -/
def exOk (e : Nat) (x : Int) : Prop := match e with
  | 0 => True
  | 1 => x < 524288
  | _ + 2 => ¬ x < -524288
theorem hex {a f : Nat → Int} {e : Nat} (h : exOk e (a 0)) : @Holds (vF (mix a f)) (exD e) := by
  match e, h with
  | 0, _ => exact hnil
  | 1, h => exact hcons (lt_t (by rw [mix_lo (i := 0) (by omega)]; exact h)) hnil
  | e + 2, h => exact hcons (lt_f (by rw [mix_lo (i := 0) (by omega)]; exact h)) hnil
def nP (s : Nat) (lo hi : Int) (e k : Nat) (a : Nat → Int) (l : List Nat) (x : Int) : Prop :=
  (lo ≤ a 0 ∧ a 0 < hi) ∧ R64 (a 0 * 4096) ∧ R64 (a 0 * 4096 + dv s (a 1)) ∧ inR s (a 1) ∧ exOk e (a 0) ∧ l.length ≤ 3 ∧ aOk a k (a 0 * 4096 + dv s (a 1)) l ∧ okL a (a 0 * 4096 + dv s (a 1)) 2 l ∧ x = vL a (a 0 * 4096 + dv s (a 1)) 2 l
theorem good_p0 (hr : RestOk) {H : Int} {e id : Nat} {l : List Nat} (hx : RD (tp0 H (exD e)) l id = true) (a : Nat → Int) {x : Int} : nP 0 1 H e 1 a l x → Good x := fun ⟨h0, h1, h2, h3, h4, h5, h6, h7, h8⟩ =>
  have hs : ∀ f, @Sx.eval (vF (mix a f)) (m4 (D 0) (D 1)) = a 0 * 4096 + dv 0 (a 1) := fun f => dx rfl h1 h2
  good_cls hr hx h5 hs (fun f => hold_app (hd (by omega) h0) (hd (by omega) h3)) (fun f => hex h4) h7 (fun f => ask1 (t := tp0 H (exD e)) (show 1 ≤ 2 by omega) (hs f) h7 h6) h8
theorem good_p1 (hr : RestOk) {H : Int} {e id : Nat} {l : List Nat} (hx : RD (tp1 H (exD e)) l id = true) (a : Nat → Int) {x : Int} : nP 1 1 H e 1 a l x → Good x := fun ⟨h0, h1, h2, h3, h4, h5, h6, h7, h8⟩ =>
  have hs : ∀ f, @Sx.eval (vF (mix a f)) (m0 (D 0)) = a 0 * 4096 + dv 1 (a 1) := fun f => dx0 (Int.add_zero _).symm h2
  good_cls hr hx h5 hs (fun f => hd (by omega) h0) (fun f => hex h4) h7 (fun f => ask1 (t := tp1 H (exD e)) (show 1 ≤ 2 by omega) (hs f) h7 h6) h8
theorem good_p2 (hr : RestOk) {H : Int} {e id : Nat} {l : List Nat} (hx : RD (tp2 H (exD e)) l id = true) (a : Nat → Int) {x : Int} : nP 2 1 H e 1 a l x → Good x := fun ⟨h0, h1, h2, h3, h4, h5, h6, h7, h8⟩ =>
  have hs : ∀ f, @Sx.eval (vF (mix a f)) (m4 (D 0) (D 1)) = a 0 * 4096 + dv 2 (a 1) := fun f => dx rfl h1 h2
  good_cls hr hx h5 hs (fun f => hold_app (hd (by omega) h0) (hd (by omega) h3)) (fun f => hex h4) h7 (fun f => ask1 (t := tp2 H (exD e)) (show 1 ≤ 2 by omega) (hs f) h7 h6) h8
theorem good_n0 (hr : RestOk) {H : Int} {e id : Nat} {l : List Nat} (hx : RD (tn0 H (exD e)) l id = true) (a : Nat → Int) {x : Int} : nP 0 H 0 e 2 a l x → Good x := fun ⟨h0, h1, h2, h3, h4, h5, h6, h7, h8⟩ =>
  have hs : ∀ f, @Sx.eval (vF (mix a f)) (m4 (D 0) (D 1)) = a 0 * 4096 + dv 0 (a 1) := fun f => dx rfl h1 h2
  good_cls hr hx h5 hs (fun f => hold_app (hd (by omega) h0) (hd (by omega) h3)) (fun f => hex h4) h7 (fun f => ask1 (t := tn0 H (exD e)) (show 2 ≤ 2 by omega) (hs f) h7 h6) h8
theorem good_n1 (hr : RestOk) {H : Int} {e id : Nat} {l : List Nat} (hx : RD (tn1 H (exD e)) l id = true) (a : Nat → Int) {x : Int} : nP 1 H 0 e 2 a l x → Good x := fun ⟨h0, h1, h2, h3, h4, h5, h6, h7, h8⟩ =>
  have hs : ∀ f, @Sx.eval (vF (mix a f)) (m0 (D 0)) = a 0 * 4096 + dv 1 (a 1) := fun f => dx0 (Int.add_zero _).symm h2
  good_cls hr hx h5 hs (fun f => hd (by omega) h0) (fun f => hex h4) h7 (fun f => ask1 (t := tn1 H (exD e)) (show 2 ≤ 2 by omega) (hs f) h7 h6) h8
theorem good_n2 (hr : RestOk) {H : Int} {e id : Nat} {l : List Nat} (hx : RD (tn2 H (exD e)) l id = true) (a : Nat → Int) {x : Int} : nP 2 H 0 e 2 a l x → Good x := fun ⟨h0, h1, h2, h3, h4, h5, h6, h7, h8⟩ =>
  have hs : ∀ f, @Sx.eval (vF (mix a f)) (m4 (D 0) (D 1)) = a 0 * 4096 + dv 2 (a 1) := fun f => dx rfl h1 h2
  good_cls hr hx h5 hs (fun f => hold_app (hd (by omega) h0) (hd (by omega) h3)) (fun f => hex h4) h7 (fun f => ask1 (t := tn2 H (exD e)) (show 2 ≤ 2 by omega) (hs f) h7 h6) h8
def nC (n : Int) (s : Nat) (a : Nat → Int) (l : List Nat) (x : Int) : Prop :=
  R64 (n + a 1) ∧ inR s (a 1) ∧ l.length ≤ 3 ∧ okL a (n + a 1) 2 l ∧ x = vL a (n + a 1) 2 l
theorem good_c (hr : RestOk) {id : Nat} {l : List Nat} (hx : RD tc l id = true) (a : Nat → Int) {x : Int} : nC 2147483648 0 a l x → Good x := fun ⟨h1, h2, h3, h4, h5⟩ =>
  good_cls hr hx h3 (fun f => dxl (by omega) rfl h1) (fun f => hd (by omega) h2) (fun f => hnil) h4 (fun f => hnil) h5
theorem good_Q (hr : RestOk) {id : Nat} {l : List Nat} (hx : RD tQ l id = true) (a : Nat → Int) {x : Int} : nC 134217728 0 a l x → Good x := fun ⟨h1, h2, h3, h4, h5⟩ =>
  good_cls hr hx h3 (fun f => dxl (by omega) rfl h1) (fun f => hd (by omega) h2) (fun f => hnil) h4 (fun f => hnil) h5
theorem good_M (hr : RestOk) {id : Nat} {l : List Nat} (hx : RD tM l id = true) (a : Nat → Int) {x : Int} : nC (-134217728) 2 a l x → Good x := fun ⟨h1, h2, h3, h4, h5⟩ =>
  have hs : ∀ f, @Sx.eval (vF (mix a f)) (lD (-134217728) 1) = -134217728 + a 1 := fun f => dxl (by omega) rfl h1
  good_cls hr hx h3 hs (fun f => hd (by omega) h2) (fun f => hnil) h4
    (fun f => hcons (eq_t (eq_of_cg (cg_fW (cg_sx (mix_lo (by omega)) h2.1 h2.2) (by omega)) (rk_fW rfl) (ev_fS (hs f) (by omega) h4))) hnil) h5
def nL (n : Int) (a : Nat → Int) (l : List Nat) (x : Int) : Prop := l.length ≤ 3 ∧ okL a n 2 l ∧ x = vL a n 2 l
theorem good_L (hr : RestOk) {n : Int} {id : Nat} {l : List Nat} {W : Sx} (hx : RC (tl n) l W id = true) (a : Nat → Int) {x : Int} : nL n a l x → Good x := fun ⟨h3, h4, h5⟩ =>
  good_cls hr hx h3 (fun f => rfl) (fun f => hnil) (fun f => hnil) h4 (fun f => hnil) h5
theorem good_a (hr : RestOk) {lo hi : Int} {id : Nat} {w : Sx} (hx : RD (ta lo hi w) [] id = true) {x : Int} (h1 : lo ≤ x) (h2 : x < hi) : Good x :=
  good_cls (a := fun _ => x) hr hx (Nat.zero_le _) (fun f => mix_lo (i := 0) (by omega)) (fun f => hd (by omega) ⟨h1, h2⟩) (fun f => hnil) trivial (fun f => hnil) rfl
theorem good_z (hr : RestOk) {id : Nat} (hx : RD tz [] id = true) {x : Int} (h1 : 9223372036854773760 ≤ x) (h2 : x ≤ 9223372036854775807) : Good x :=
  good_cls (a := fun _ => x - 9223372036854773760) hr hx (Nat.zero_le _) (fun f => dxl (i := 4) (X := x) (by omega) (by omega) ⟨by omega, h2⟩) (fun f => hd (by omega) ⟨by omega, by omega⟩) (fun f => hnil) trivial (fun f => hnil) rfl
end
end Go.Proofs.YtgcpcgaigbnniaaGreat
