/-
  A part of the proof that the abstract evaluator is sound for the model's machine. Conditions: those of each theorem, as it states them.
-/
import Derived.Test.YtbbnjiceenjhcaaGreatDoorTwLaw
set_option linter.all false
namespace Go.Tw

/-! Values and objects at other numbers: those from R on are moved up by d. -/
section
variable (R d : Nat)
def mv (i : Nat) : Nat := bif Nat.blt i R then i else i + d
mutual
def AV.mv : AV → AV
  | .ptr id ver off hi => .ptr (Tw.mv R d id) ver off hi
  | .slc id ver off len cap esz => .slc (Tw.mv R d id) ver off len cap esz
  | .map id => .map (Tw.mv R d id)
  | .yld id => .yld (Tw.mv R d id)
  | .fn f a b => .fn f (mvL a) (mvL b)
  | .iface t v => .iface t v.mv
  | .agg l => .agg (mvL l)
  | .tup l => .tup (mvL l)
  | .bool b => .bool b
  | .int k n => .int k n
  | .sym k e => .sym k e
  | .symb b => .symb b
  | .sslc e => .sslc e
  | .sstr e => .sstr e
  | .str s => .str s
  | .nilp => .nilp
  | .nils => .nils
  | .nilm => .nilm
  | .anyp => .anyp
  | .unk => .unk
  | .nilfn => .nilfn
  | .nili => .nili
def mvL : List AV → List AV
  | [] => []
  | v :: l => v.mv :: mvL l
end
def mvE : List (AV × AV × Nat) → List (AV × AV × Nat)
  | [] => []
  | (k, v, n) :: l => (k.mv R d, v.mv R d, n) :: mvE l
def Ob.mv : Ob → Ob
  | .box c t => .box (mvL R d c) t
  | .ro c => .ro (mvL R d c)
  | .arr c base lim since nv et => .arr (mvL R d c) base lim since nv et
  | .map es clock => .map (mvE R d es) clock
  | .iter s pos => .iter s pos
  | .dfr => .dead
  | .miter .. => .dead
  | .loop .. => .dead
  | .dead => .dead
end

section
variable [Val] {R d : Nat} {φ ψ : PM}
mutual
theorem VR.mv (h : ∀ i v e, φ i v = some e → ψ (Tw.mv R d i) v = some e) : ∀ {v : AV} {v' : Value}, VR φ v v' → VR ψ (v.mv R d) v'
  | _, _, .bool b => .bool b
  | _, _, .int k n => .int k n
  | _, _, .sym k e => .sym k e
  | _, _, .symb b => .symb b
  | _, _, .sslc a l c h => .sslc a l c h
  | _, _, .sstr s h => .sstr s h
  | _, _, .str s => .str s
  | _, _, .nilp => .nilp
  | _, _, .ptr e o he hd hh ho => .ptr e o (h _ _ _ he) hd hh ho
  | _, _, .nils => .nils
  | _, _, .slc e o c he hd hh hl hc ho => .slc e o c (h _ _ _ he) hd hh hl hc ho
  | _, _, .nilm => .nilm
  | _, _, .map e he => .map e (h _ _ _ he)
  | _, _, .yld e he => .yld e (h _ _ _ he)
  | _, _, .anyp p => .anyp p
  | _, _, .unk v hv => .unk v hv
  | _, _, .fn f a' b' ha hb => .fn f a' b' (VRL.mv h ha) (VRL.mv h hb)
  | _, _, .nilfn => .nilfn
  | _, _, .iface t hv => .iface t (VR.mv h hv)
  | _, _, .nili => .nili
  | _, _, .agg l' hl => .agg l' (VRL.mv h hl)
  | _, _, .tup l' hl => .tup l' (VRL.mv h hl)
theorem VRL.mv (h : ∀ i v e, φ i v = some e → ψ (Tw.mv R d i) v = some e) : ∀ {l : List AV} {l' : List Value}, VRL φ l l' → VRL ψ (mvL R d l) l'
  | _, _, .nil => .nil
  | _, _, .cons hv ht => .cons (VR.mv h hv) (VRL.mv h ht)
end

omit [Val] in
theorem mvL_length : ∀ l : List AV, (mvL R d l).length = l.length := by
  intro l
  induction l with
  | nil => rfl
  | cons v l ih => simp [mvL, ih]
omit [Val] in
theorem mvL_get : ∀ (l : List AV) (i : Nat), (mvL R d l)[i]? = (l[i]?).map (·.mv R d) := by
  intro l
  induction l with
  | nil => intro i; simp [mvL]
  | cons v l ih => intro i; cases i <;> simp [mvL, ih]

theorem ER.mv (h : ∀ i v e, φ i v = some e → ψ (Tw.mv R d i) v = some e) {l : List (AV × AV × Nat)} {l' : List MapEntry} (k : ER φ l l') : ER ψ (mvE R d l) l' := by
  induction k with
  | nil => exact .nil
  | cons hk hv _ ih => exact .cons (hk.mv h) (hv.mv h) ih

theorem Rep.mv (h : ∀ i v e, φ i v = some e → ψ (Tw.mv R d i) v = some e) {w : World} {id : Nat} {o : Ob} (hid : R ≤ id) (hs : ∀ v, ψ (Tw.mv R d id) v = φ id v)
    (k : Rep R φ w id (some o)) : Rep R ψ w (Tw.mv R d id) (some (o.mv R d)) := by
  have hR' : R ≤ Tw.mv R d id := by
    unfold Tw.mv
    rw [cond_eq_ite]
    split <;> omega
  cases o with
  | dead => trivial
  | dfr => trivial
  | loop => trivial
  | miter => trivial
  | box c t =>
    obtain ⟨hR, e, cs, fl, fh, he, hb, h1, h2, h3, h4, h5, h6⟩ := k
    exact ⟨hR', e, cs, fl, fh, (hs _).trans he, hb, h1, h2, by rw [mvL_length]; exact h3, by rw [mvL_length]; exact h4, h5.mv h, by rw [mvL_length]; exact h6⟩
  | ro c =>
    obtain ⟨e, cs, t, fr, he, hb, h1, h2, h3⟩ := k
    exact ⟨e, cs, t, fr, (hs _).trans he, hb, h1, by rw [mvL_length]; exact h2, by rw [mvL_length]; exact h3.mv h⟩
  | arr c base lim since nv fz =>
    obtain ⟨hR, h1, h2, h3, h4, h5, h6, h7⟩ := k
    refine ⟨hR', by rw [mvL_length]; exact h1, h2, h3, fun v hv => (hs _).trans (h4 v hv), fun v hv => ?_,
      fun v₁ v₂ e₁ e₂ a1 a2 b1 b2 => h6 v₁ v₂ e₁ e₂ a1 a2 ((hs _).symm.trans b1) ((hs _).symm.trans b2),
      fun v e a1 a2 a3 a4 => by rw [mvL_length]; exact h7 v e a1 a2 a3 ((hs _).symm.trans a4)⟩
    obtain ⟨e, cs, fl, fh, he, hb, k1, k2, k3, k4, k5⟩ := h5 v hv
    refine ⟨e, cs, fl, fh, (hs _).trans he, hb, k1, k2, by rw [mvL_length]; exact k3, k4, fun x a x1 x2 x3 => ?_⟩
    rw [mvL_get] at x3
    cases hx : c[x]? with
    | none => rw [hx] at x3; cases x3
    | some b =>
      rw [hx] at x3
      simp only [Option.map_some, Option.some.injEq] at x3
      subst x3
      obtain ⟨a', y1, y2⟩ := k5 x b x1 x2 hx
      exact ⟨a', y1, y2.mv h⟩
  | map es clock =>
    obtain ⟨hR, e, es', he, hb, h1⟩ := k
    exact ⟨hR', e, es', (hs _).trans he, hb, h1.mv h⟩
  | iter s pos =>
    obtain ⟨hR, e, he, hb, h1⟩ := k
    exact ⟨hR', e, (hs _).trans he, hb, h1⟩
end
end Go.Tw
