/-
  A part of the proof that the abstract evaluator is sound for the model's machine. Conditions: those of each theorem, as it states them.
-/
import Derived.Test.YtkddndlkblhldaaGreatTwLaw
namespace Go.Tw

/-! Values and objects at other numbers: those from R on are moved up by d. -/
section
variable (R d : Nat)
def mv (i : Nat) : Nat := bif Nat.blt i R then i else i + d
mutual
def AV.mv : AV → AV
  | .ptr id ver off hi => .ptr (Tw.mv R d id) ver off hi
  | .slc id ver off len cap esz => .slc (Tw.mv R d id) ver off len cap esz
  | .map id => .map (Tw.mv R d id)
  | .yld id => .yld (Tw.mv R d id)
  | .fn f a b => .fn f (mvL a) (mvL b)
  | .iface t v => .iface t v.mv
  | .agg l => .agg (mvL l)
  | .tup l => .tup (mvL l)
  | .bool b => .bool b
  | .int k n => .int k n
  | .sym k e => .sym k e
  | .symb b => .symb b
  | .sslc e => .sslc e
  | .sstr e => .sstr e
  | .str s => .str s
  | .nilp => .nilp
  | .nils => .nils
  | .nilm => .nilm
  | .anyp => .anyp
  | .unk => .unk
  | .nilfn => .nilfn
  | .nili => .nili
def mvL : List AV → List AV
  | [] => []
  | v :: l => v.mv :: mvL l
end
def mvE : List (AV × AV × Nat) → List (AV × AV × Nat)
  | [] => []
  | (k, v, n) :: l => (k.mv R d, v.mv R d, n) :: mvE l
def Ob.mv : Ob → Ob
  | .box c t => .box (mvL R d c) t
  | .ro c => .ro (mvL R d c)
  | .arr c base lim since nv et => .arr (mvL R d c) base lim since nv et
  | .map es clock => .map (mvE R d es) clock
  | .iter s pos => .iter s pos
  | .dfr => .dead
  | .loop .. => .dead
  | .dead => .dead
end

section
variable [Val] {R d : Nat} {φ ψ : PM}
mutual
theorem VR.mv (h : ∀ i v e, φ i v = some e → ψ (Tw.mv R d i) v = some e) : ∀ {v : AV} {v' : Value}, VR φ v v' → VR ψ (v.mv R d) v'
  | _, _, .bool b => .bool b
  | _, _, .int k n => .int k n
  | _, _, .sym k e => .sym k e
  | _, _, .symb b => .symb b
  | _, _, .sslc a l c h => .sslc a l c h
  | _, _, .sstr s h => .sstr s h
  | _, _, .str s => .str s
  | _, _, .nilp => .nilp
  | _, _, .ptr e o he hd hh ho => .ptr e o (h _ _ _ he) hd hh ho
  | _, _, .nils => .nils
  | _, _, .slc e o c he hd hh hl hc ho => .slc e o c (h _ _ _ he) hd hh hl hc ho
  | _, _, .nilm => .nilm
  | _, _, .map e he => .map e (h _ _ _ he)
  | _, _, .yld e he => .yld e (h _ _ _ he)
  | _, _, .anyp p => .anyp p
  | _, _, .unk v hv => .unk v hv
  | _, _, .fn f a' b' ha hb => .fn f a' b' (VRL.mv h ha) (VRL.mv h hb)
  | _, _, .nilfn => .nilfn
  | _, _, .iface t hv => .iface t (VR.mv h hv)
  | _, _, .nili => .nili
  | _, _, .agg l' hl => .agg l' (VRL.mv h hl)
  | _, _, .tup l' hl => .tup l' (VRL.mv h hl)
theorem VRL.mv (h : ∀ i v e, φ i v = some e → ψ (Tw.mv R d i) v = some e) : ∀ {l : List AV} {l' : List Value}, VRL φ l l' → VRL ψ (mvL R d l) l'
  | _, _, .nil => .nil
  | _, _, .cons hv ht => .cons (VR.mv h hv) (VRL.mv h ht)
end

omit [Val] in
theorem mvL_length : ∀ l : List AV, (mvL R d l).length = l.length := by
  intro l
  induction l with
  | nil => rfl
  | cons v l ih => simp [mvL, ih]
omit [Val] in
theorem mvL_get : ∀ (l : List AV) (i : Nat), (mvL R d l)[i]? = (l[i]?).map (·.mv R d) := by
  intro l
  induction l with
  | nil => intro i; simp [mvL]
  | cons v l ih => intro i; cases i <;> simp [mvL, ih]

theorem ER.mv (h : ∀ i v e, φ i v = some e → ψ (Tw.mv R d i) v = some e) {l : List (AV × AV × Nat)} {l' : List MapEntry} (k : ER φ l l') : ER ψ (mvE R d l) l' := by
  induction k with
  | nil => exact .nil
  | cons hk hv _ ih => exact .cons (hk.mv h) (hv.mv h) ih

theorem Rep.mv (h : ∀ i v e, φ i v = some e → ψ (Tw.mv R d i) v = some e) {w : World} {id : Nat} {o : Ob} (hid : R ≤ id) (hs : ∀ v, ψ (Tw.mv R d id) v = φ id v)
    (k : Rep R φ w id (some o)) : Rep R ψ w (Tw.mv R d id) (some (o.mv R d)) := by
  have hR' : R ≤ Tw.mv R d id := by
    unfold Tw.mv
    rw [cond_eq_ite]
    split <;> omega
  cases o with
  | dead => trivial
  | dfr => trivial
  | loop => trivial
  | box c t =>
    obtain ⟨hR, e, cs, fl, fh, he, hb, h1, h2, h3, h4, h5, h6⟩ := k
    exact ⟨hR', e, cs, fl, fh, (hs _).trans he, hb, h1, h2, by rw [mvL_length]; exact h3, by rw [mvL_length]; exact h4, h5.mv h, by rw [mvL_length]; exact h6⟩
  | ro c =>
    obtain ⟨e, cs, t, fr, he, hb, h1, h2, h3⟩ := k
    exact ⟨e, cs, t, fr, (hs _).trans he, hb, h1, by rw [mvL_length]; exact h2, by rw [mvL_length]; exact h3.mv h⟩
  | arr c base lim since nv fz =>
    obtain ⟨hR, h1, h2, h3, h4, h5, h6, h7⟩ := k
    refine ⟨hR', by rw [mvL_length]; exact h1, h2, h3, fun v hv => (hs _).trans (h4 v hv), fun v hv => ?_,
      fun v₁ v₂ e₁ e₂ a1 a2 b1 b2 => h6 v₁ v₂ e₁ e₂ a1 a2 ((hs _).symm.trans b1) ((hs _).symm.trans b2),
      fun v e a1 a2 a3 a4 => by rw [mvL_length]; exact h7 v e a1 a2 a3 ((hs _).symm.trans a4)⟩
    obtain ⟨e, cs, fl, fh, he, hb, k1, k2, k3, k4, k5⟩ := h5 v hv
    refine ⟨e, cs, fl, fh, (hs _).trans he, hb, k1, k2, by rw [mvL_length]; exact k3, k4, fun x a x1 x2 x3 => ?_⟩
    rw [mvL_get] at x3
    cases hx : c[x]? with
    | none => rw [hx] at x3; cases x3
    | some b =>
      rw [hx] at x3
      simp only [Option.map_some, Option.some.injEq] at x3
      subst x3
      obtain ⟨a', y1, y2⟩ := k5 x b x1 x2 hx
      exact ⟨a', y1, y2.mv h⟩
  | map es clock =>
    obtain ⟨hR, e, es', he, hb, h1⟩ := k
    exact ⟨hR', e, es', (hs _).trans he, hb, h1.mv h⟩
  | iter s pos =>
    obtain ⟨hR, e, he, hb, h1⟩ := k
    exact ⟨hR', e, (hs _).trans he, hb, h1⟩
end

/-! Are two values the same? -/
def u8s : List UInt8 → List UInt8 → Bool
  | [], [] => true
  | a :: l, b :: m => Nat.beq a.toNat b.toNat && u8s l m
  | _, _ => false
def onB : Option Nat → Option Nat → Bool
  | none, none => true
  | some a, some b => Nat.beq a b
  | _, _ => false
def fnB : Fn → Fn → Bool
  | .func a, .func b => Nat.beq a b
  | _, _ => false
def boolB : Bool → Bool → Bool
  | true, true => true
  | false, false => true
  | _, _ => false
mutual
def AV.same : AV → AV → Bool
  | .ptr a b c e, .ptr a' b' c' e' => Nat.beq a a' && Nat.beq b b' && Nat.beq c c' && Nat.beq e e'
  | .slc a b c e cp z, .slc a' b' c' e' cp' z' => Nat.beq a a' && Nat.beq b b' && Nat.beq c c' && Nat.beq e e' && onB cp cp' && Nat.beq z z'
  | .map a, .map b => Nat.beq a b
  | .fn f a b, .fn f' a' b' => fnB f f' && sameL a a' && sameL b b'
  | .iface t v, .iface t' v' => Nat.beq t t' && v.same v'
  | .agg l, .agg m => sameL l m
  | .tup l, .tup m => sameL l m
  | .bool a, .bool b => boolB a b
  | .int k n, .int k' n' => Nat.beq (kindN k) (kindN k') && intB n n'
  | .str a, .str b => u8s a b
  | .nilp, .nilp => true
  | .nils, .nils => true
  | .nilm, .nilm => true
  | .anyp, .anyp => true
  | .unk, .unk => true
  | .nilfn, .nilfn => true
  | .nili, .nili => true
  | _, _ => false
def sameL : List AV → List AV → Bool
  | [], [] => true
  | v :: l, u :: m => v.same u && sameL l m
  | _, _ => false
end
def sameE : List (AV × AV × Nat) → List (AV × AV × Nat) → Bool
  | [], [] => true
  | (k, v, n) :: l, (k', v', n') :: m => k.same k' && v.same v' && Nat.beq n n' && sameE l m
  | _, _ => false
def Ob.same : Ob → Ob → Bool
  | .box c t, .box c' t' => sameL c c' && Nat.beq t t'
  | .ro c, .ro c' => sameL c c'
  | .arr c a b e f g, .arr c' a' b' e' f' g' => sameL c c' && Nat.beq a a' && Nat.beq b b' && Nat.beq e e' && Nat.beq f f' && Nat.beq g g'
  | .map es k, .map es' k' => sameE es es' && Nat.beq k k'
  | _, _ => false

theorem u8s_eq : ∀ {a b : List UInt8}, u8s a b = true → a = b := by
  intro a
  induction a with
  | nil => intro b h; cases b <;> simp [u8s] at h; rfl
  | cons x a ih =>
    intro b h
    cases b with
    | nil => simp [u8s] at h
    | cons y b =>
      simp only [u8s, Bool.and_eq_true] at h
      rw [UInt8.toNat_inj.1 (beq_t h.1), ih h.2]
theorem onB_eq {a b : Option Nat} (h : onB a b = true) : a = b := by
  cases a <;> cases b <;> simp only [onB] at h <;> first | rfl | (cases h; done) | rw [beq_t h]
theorem fnB_eq {a b : Fn} (h : fnB a b = true) : a = b := by
  cases a <;> cases b <;> simp only [fnB] at h <;> first | (cases h; done) | rw [beq_t h]
theorem boolB_eq {a b : Bool} (h : boolB a b = true) : a = b := by cases a <;> cases b <;> simp [boolB] at h <;> rfl

mutual
theorem AV.same_eq : ∀ {a b : AV}, a.same b = true → a = b
  | .ptr .., b, h => by
    cases b <;> simp only [AV.same, Bool.and_eq_true, Bool.false_eq_true] at h
    obtain ⟨⟨⟨h1, h2⟩, h3⟩, h4⟩ := h
    rw [beq_t h1, beq_t h2, beq_t h3, beq_t h4]
  | .slc .., b, h => by
    cases b <;> simp only [AV.same, Bool.and_eq_true, Bool.false_eq_true] at h
    obtain ⟨⟨⟨⟨⟨h1, h2⟩, h3⟩, h4⟩, h5⟩, h6⟩ := h
    rw [beq_t h1, beq_t h2, beq_t h3, beq_t h4, onB_eq h5, beq_t h6]
  | .map _, b, h => by cases b <;> simp only [AV.same, Bool.false_eq_true] at h; rw [beq_t h]
  | .fn .., b, h => by
    cases b <;> simp only [AV.same, Bool.and_eq_true, Bool.false_eq_true] at h
    rw [fnB_eq h.1.1, sameL_eq h.1.2, sameL_eq h.2]
  | .iface .., b, h => by
    cases b <;> simp only [AV.same, Bool.and_eq_true, Bool.false_eq_true] at h
    rw [beq_t h.1, AV.same_eq h.2]
  | .agg _, b, h => by cases b <;> simp only [AV.same, Bool.false_eq_true] at h; rw [sameL_eq h]
  | .tup _, b, h => by cases b <;> simp only [AV.same, Bool.false_eq_true] at h; rw [sameL_eq h]
  | .bool _, b, h => by cases b <;> simp only [AV.same, Bool.false_eq_true] at h; rw [boolB_eq h]
  | .int .., b, h => by
    cases b <;> simp only [AV.same, Bool.and_eq_true, Bool.false_eq_true] at h
    rw [kindN_inj (beq_t h.1), intB_t h.2]
  | .str _, b, h => by cases b <;> simp only [AV.same, Bool.false_eq_true] at h; rw [u8s_eq h]
  | .nilp, b, h => by cases b <;> simp only [AV.same, Bool.false_eq_true] at h; rfl
  | .nils, b, h => by cases b <;> simp only [AV.same, Bool.false_eq_true] at h; rfl
  | .nilm, b, h => by cases b <;> simp only [AV.same, Bool.false_eq_true] at h; rfl
  | .anyp, b, h => by cases b <;> simp only [AV.same, Bool.false_eq_true] at h; rfl
  | .unk, b, h => by cases b <;> simp only [AV.same, Bool.false_eq_true] at h; rfl
  | .nilfn, b, h => by cases b <;> simp only [AV.same, Bool.false_eq_true] at h; rfl
  | .nili, b, h => by cases b <;> simp only [AV.same, Bool.false_eq_true] at h; rfl
  | .sym .., b, h => by cases b <;> simp only [AV.same, Bool.false_eq_true] at h
  | .symb _, b, h => by cases b <;> simp only [AV.same, Bool.false_eq_true] at h
  | .sslc _, b, h => by cases b <;> simp only [AV.same, Bool.false_eq_true] at h
  | .sstr _, b, h => by cases b <;> simp only [AV.same, Bool.false_eq_true] at h
  | .yld _, b, h => by cases b <;> simp only [AV.same, Bool.false_eq_true] at h
theorem sameL_eq : ∀ {a b : List AV}, sameL a b = true → a = b
  | [], b, h => by cases b <;> simp only [sameL, Bool.false_eq_true] at h; rfl
  | v :: l, b, h => by
    cases b <;> simp only [sameL, Bool.and_eq_true, Bool.false_eq_true] at h
    rw [AV.same_eq h.1, sameL_eq h.2]
end
theorem sameE_eq : ∀ {a b : List (AV × AV × Nat)}, sameE a b = true → a = b
  | [], b, h => by cases b <;> simp only [sameE, Bool.false_eq_true] at h; rfl
  | (k, v, n) :: l, b, h => by
    cases b with
    | nil => simp [sameE] at h
    | cons x m =>
      obtain ⟨k', v', n'⟩ := x
      simp only [sameE, Bool.and_eq_true] at h
      rw [AV.same_eq h.1.1.1, AV.same_eq h.1.1.2, beq_t h.1.2, sameE_eq h.2]
theorem Ob.same_eq {a b : Ob} (h : a.same b = true) : a = b := by
  cases a <;> cases b <;> simp only [Ob.same, Bool.and_eq_true, Bool.false_eq_true] at h
  · rw [sameL_eq h.1, beq_t h.2]
  · rw [sameL_eq h]
  · obtain ⟨⟨⟨⟨⟨h1, h2⟩, h3⟩, h4⟩, h5⟩, h6⟩ := h
    rw [sameL_eq h1, beq_t h2, beq_t h3, beq_t h4, beq_t h5, beq_t h6]
  · rw [sameE_eq h.1, beq_t h.2]
end Go.Tw
