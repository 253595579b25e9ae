/-
  A part of the proof that the abstract evaluator is sound for the model's machine. Conditions: those of each theorem, as it states them.
-/
import Derived.Test.YtbbnjiceenjhcaaGreatDoorTwTab
set_option linter.all false
namespace Go.Tw
noncomputable section

/-! Known calls that are told places: the objects that they touch are found again from the arguments. -/

mutual
def AV.mp (g : Nat → Nat) : AV → AV
  | .ptr id ver off hi => .ptr (g id) ver off hi
  | .slc id ver off len cap esz => .slc (g id) ver off len cap esz
  | .map id => .map (g id)
  | .yld id => .yld (g id)
  | .fn f a b => .fn f (mpL g a) (mpL g b)
  | .iface t v => .iface t (v.mp g)
  | .agg l => .agg (mpL g l)
  | .tup l => .tup (mpL g l)
  | .bool b => .bool b
  | .int k n => .int k n
  | .sym k e => .sym k e
  | .symb b => .symb b
  | .sslc e => .sslc e
  | .sstr e => .sstr e
  | .str s => .str s
  | .nilp => .nilp
  | .nils => .nils
  | .nilm => .nilm
  | .anyp => .anyp
  | .unk => .unk
  | .nilfn => .nilfn
  | .nili => .nili
def mpL (g : Nat → Nat) : List AV → List AV
  | [] => []
  | v :: l => v.mp g :: mpL g l
end
def mpE (g : Nat → Nat) : List (AV × AV × Nat) → List (AV × AV × Nat)
  | [] => []
  | (k, v, n) :: l => (k.mp g, v.mp g, n) :: mpE g l
def Ob.mp (g : Nat → Nat) : Ob → Ob
  | .box c t => .box (mpL g c) t
  | .ro c => .ro (mpL g c)
  | .arr c base lim since nv et => .arr (mpL g c) base lim since nv et
  | .map es clock => .map (mpE g es) clock
  | .iter s pos => .iter s pos
  | .dfr => .dead
  | .miter .. => .dead
  | .loop .. => .dead
  | .dead => .dead

section
variable [Val] {φ ψ : PM} {g : Nat → Nat}
mutual
theorem VR.mp (h : ∀ i v e, φ i v = some e → ψ (g i) v = some e) : ∀ {v : AV} {v' : Value}, VR φ v v' → VR ψ (v.mp g) v'
  | _, _, .bool b => .bool b
  | _, _, .int k n => .int k n
  | _, _, .sym k e => .sym k e
  | _, _, .symb b => .symb b
  | _, _, .sslc a l c h => .sslc a l c h
  | _, _, .sstr s h => .sstr s h
  | _, _, .str s => .str s
  | _, _, .nilp => .nilp
  | _, _, .ptr e o he hd hh ho => .ptr e o (h _ _ _ he) hd hh ho
  | _, _, .nils => .nils
  | _, _, .slc e o c he hd hh hl hc ho => .slc e o c (h _ _ _ he) hd hh hl hc ho
  | _, _, .nilm => .nilm
  | _, _, .map e he => .map e (h _ _ _ he)
  | _, _, .yld e he => .yld e (h _ _ _ he)
  | _, _, .anyp p => .anyp p
  | _, _, .unk v hv => .unk v hv
  | _, _, .fn f a' b' ha hb => .fn f a' b' (VRL.mp h ha) (VRL.mp h hb)
  | _, _, .nilfn => .nilfn
  | _, _, .iface t hv => .iface t (VR.mp h hv)
  | _, _, .nili => .nili
  | _, _, .agg l' hl => .agg l' (VRL.mp h hl)
  | _, _, .tup l' hl => .tup l' (VRL.mp h hl)
theorem VRL.mp (h : ∀ i v e, φ i v = some e → ψ (g i) v = some e) : ∀ {l : List AV} {l' : List Value}, VRL φ l l' → VRL ψ (mpL g l) l'
  | _, _, .nil => .nil
  | _, _, .cons hv ht => .cons (VR.mp h hv) (VRL.mp h ht)
end
mutual
theorem VR.mpi : ∀ (v : AV) {v' : Value}, VR ψ (v.mp g) v' → VR (fun i => ψ (g i)) v v'
  | .bool b, _, h => by cases h; exact .bool b
  | .int k n, _, h => by cases h; exact .int k n
  | .sym k e, _, h => by cases h; exact .sym k e
  | .symb b, _, h => by cases h; exact .symb b
  | .sslc e, _, h => by cases h with | sslc a l c h => exact .sslc a l c h
  | .sstr e, _, h => by cases h with | sstr s h => exact .sstr s h
  | .str s, _, h => by cases h; exact .str s
  | .nilp, _, h => by cases h; exact .nilp
  | .ptr id ver off hi, _, h => by
    simp only [AV.mp] at h
    cases h with | ptr e o he hd hh ho => exact .ptr e o he hd hh ho
  | .nils, _, h => by cases h; exact .nils
  | .slc id ver off len cap esz, _, h => by
    simp only [AV.mp] at h
    cases h with | slc e o c he hd hh hl hc ho => exact .slc e o c he hd hh hl hc ho
  | .nilm, _, h => by cases h; exact .nilm
  | .map id, _, h => by
    simp only [AV.mp] at h
    cases h with | map e he => exact .map e he
  | .yld id, _, h => by
    simp only [AV.mp] at h
    cases h with | yld e he => exact .yld e he
  | .anyp, _, h => by cases h with | anyp p => exact .anyp p
  | .unk, _, h => by cases h with | unk _ hv => exact .unk _ hv
  | .fn f a b, _, h => by
    simp only [AV.mp] at h
    cases h with | fn _ a' b' ha hb => exact .fn f a' b' (VRL.mpi a ha) (VRL.mpi b hb)
  | .nilfn, _, h => by cases h; exact .nilfn
  | .iface t v, _, h => by
    simp only [AV.mp] at h
    cases h with | iface _ hv => exact .iface t (VR.mpi v hv)
  | .nili, _, h => by cases h; exact .nili
  | .agg l, _, h => by
    simp only [AV.mp] at h
    cases h with | agg l' hl => exact .agg l' (VRL.mpi l hl)
  | .tup l, _, h => by
    simp only [AV.mp] at h
    cases h with | tup l' hl => exact .tup l' (VRL.mpi l hl)
theorem VRL.mpi : ∀ (l : List AV) {l' : List Value}, VRL ψ (mpL g l) l' → VRL (fun i => ψ (g i)) l l'
  | [], _, h => by cases h; exact .nil
  | v :: l, _, h => by
    simp only [mpL] at h
    cases h with | cons hv ht => exact .cons (VR.mpi v hv) (VRL.mpi l ht)
end

omit [Val] in
theorem mpL_length : ∀ l : List AV, (mpL g l).length = l.length := by
  intro l
  induction l with
  | nil => rfl
  | cons v l ih => simp [mpL, ih]
omit [Val] in
theorem mpL_get : ∀ (l : List AV) (i : Nat), (mpL g l)[i]? = (l[i]?).map (·.mp g) := by
  intro l
  induction l with
  | nil => intro i; simp [mpL]
  | cons v l ih => intro i; cases i <;> simp [mpL, ih]

theorem ER.mp (h : ∀ i v e, φ i v = some e → ψ (g i) v = some e) {l : List (AV × AV × Nat)} {l' : List MapEntry} (k : ER φ l l') : ER ψ (mpE g l) l' := by
  induction k with
  | nil => exact .nil
  | cons hk hv _ ih => exact .cons (hk.mp h) (hv.mp h) ih
theorem ER.mpi : ∀ (l : List (AV × AV × Nat)) {l' : List MapEntry}, ER ψ (mpE g l) l' → ER (fun i => ψ (g i)) l l'
  | [], _, h => by cases h; exact .nil
  | (k, v, n) :: l, _, h => by
    simp only [mpE] at h
    cases h with | cons hk hv ht => exact .cons (VR.mpi k hk) (VR.mpi v hv) (ER.mpi l ht)

theorem Rep.mp (h : ∀ i v e, φ i v = some e → ψ (g i) v = some e) {R : Nat} {w : World} {id : Nat} {o : Ob} (hR' : R ≤ g id) (hs : ∀ v, ψ (g id) v = φ id v)
    (k : Rep R φ w id (some o)) : Rep R ψ w (g id) (some (o.mp g)) := by
  cases o with
  | dead => trivial
  | dfr => trivial
  | loop => trivial
  | miter => trivial
  | box c t =>
    obtain ⟨hR, e, cs, fl, fh, he, hb, h1, h2, h3, h4, h5, h6⟩ := k
    exact ⟨hR', e, cs, fl, fh, (hs _).trans he, hb, h1, h2, by rw [mpL_length]; exact h3, by rw [mpL_length]; exact h4, h5.mp h, by rw [mpL_length]; exact h6⟩
  | ro c =>
    obtain ⟨e, cs, t, fr, he, hb, h1, h2, h3⟩ := k
    exact ⟨e, cs, t, fr, (hs _).trans he, hb, h1, by rw [mpL_length]; exact h2, by rw [mpL_length]; exact h3.mp h⟩
  | arr c base lim since nv fz =>
    obtain ⟨hR, h1, h2, h3, h4, h5, h6, h7⟩ := k
    refine ⟨hR', by rw [mpL_length]; exact h1, h2, h3, fun v hv => (hs _).trans (h4 v hv), fun v hv => ?_,
      fun v₁ v₂ e₁ e₂ a1 a2 b1 b2 => h6 v₁ v₂ e₁ e₂ a1 a2 ((hs _).symm.trans b1) ((hs _).symm.trans b2),
      fun v e a1 a2 a3 a4 => by rw [mpL_length]; exact h7 v e a1 a2 a3 ((hs _).symm.trans a4)⟩
    obtain ⟨e, cs, fl, fh, he, hb, k1, k2, k3, k4, k5⟩ := h5 v hv
    refine ⟨e, cs, fl, fh, (hs _).trans he, hb, k1, k2, by rw [mpL_length]; exact k3, k4, fun x a x1 x2 x3 => ?_⟩
    rw [mpL_get] at x3
    cases hx : c[x]? with
    | none => rw [hx] at x3; cases x3
    | some b =>
      rw [hx] at x3
      simp only [Option.map_some, Option.some.injEq] at x3
      subst x3
      obtain ⟨a', y1, y2⟩ := k5 x b x1 x2 hx
      exact ⟨a', y1, y2.mp h⟩
  | map es clock =>
    obtain ⟨hR, e, es', he, hb, h1⟩ := k
    exact ⟨hR', e, es', (hs _).trans he, hb, h1.mp h⟩
  | iter s pos =>
    obtain ⟨hR, e, he, hb, h1⟩ := k
    exact ⟨hR', e, (hs _).trans he, hb, h1⟩

/-- An object that may be told ahead. -/
def Ob.told : Ob → Bool
  | .box .. => true
  | .ro .. => true
  | .arr .. => true
  | .map .. => true
  | _ => false

theorem Rep.mpi {R : Nat} {w : World} {id : Nat} {o : Ob} (ht : o.told = true) (hR' : R ≤ id)
    (k : Rep R ψ w (g id) (some (o.mp g))) : Rep R (fun i => ψ (g i)) w id (some o) := by
  cases o with
  | dead => cases ht
  | dfr => cases ht
  | loop => cases ht
  | miter => cases ht
  | iter => cases ht
  | box c t =>
    obtain ⟨hR, e, cs, fl, fh, he, hb, h1, h2, h3, h4, h5, h6⟩ := k
    rw [mpL_length] at h3 h4 h6
    exact ⟨hR', e, cs, fl, fh, he, hb, h1, h2, h3, h4, VRL.mpi c h5, h6⟩
  | ro c =>
    obtain ⟨e, cs, t, fr, he, hb, h1, h2, h3⟩ := k
    rw [mpL_length] at h2 h3
    exact ⟨e, cs, t, fr, he, hb, h1, h2, VRL.mpi c h3⟩
  | arr c base lim since nv fz =>
    obtain ⟨hR, h1, h2, h3, h4, h5, h6, h7⟩ := k
    rw [mpL_length] at h1
    refine ⟨hR', h1, h2, h3, h4, fun v hv => ?_, h6, fun v e a1 a2 a3 a4 => by rw [← mpL_length (g := g)]; exact h7 v e a1 a2 a3 a4⟩
    obtain ⟨e, cs, fl, fh, he, hb, k1, k2, k3, k4, k5⟩ := h5 v hv
    rw [mpL_length] at k3
    refine ⟨e, cs, fl, fh, he, hb, k1, k2, k3, k4, fun x a x1 x2 x3 => ?_⟩
    obtain ⟨a', y1, y2⟩ := k5 x (a.mp g) x1 x2 (by rw [mpL_get, x3]; rfl)
    exact ⟨a', y1, VR.mpi a y2⟩
  | map es clock =>
    obtain ⟨hR, e, es', he, hb, h1⟩ := k
    exact ⟨hR', e, es', he, hb, ER.mpi es h1⟩
end

/-! Where the places are found. -/
structure LocP where
  o : Option Nat
  p : List Nat

def AV.kids : AV → List AV
  | .agg l => l
  | .tup l => l
  | .iface _ v => [v]
  | .fn _ a b => a ++ b
  | _ => []
def AV.place : AV → Option Nat
  | .ptr id _ _ _ => some id
  | .slc id _ _ _ _ _ => some id
  | .map id => some id
  | _ => none
def nthA : List AV → Nat → Option AV
  | [], _ => none
  | x :: l, n => bif Nat.beq n 0 then some x else nthA l (Nat.pred n)
def partOf : List Nat → AV → Option Nat
  | [], v => v.place
  | i :: p, v => match nthA v.kids i with
    | some u => partOf p u
    | none => none
def partsE : List (AV × AV × Nat) → List AV
  | [] => []
  | (k, v, _) :: l => k :: v :: partsE l
def Ob.parts : Ob → List AV
  | .box c _ => c
  | .ro c => c
  | .arr c _ _ _ _ _ => c
  | .map es _ => partsE es
  | _ => []
def locate (args : List AV) (h : T Ob) (b : T Nat) (l : LocP) : Option Nat :=
  match l.o with
  | none => partOf l.p (.agg args)
  | some j => match b.get j with
    | some j' => match h.get j' with
      | some o => partOf l.p (.agg o.parts)
      | none => none
    | none => none
def bindAll (args : List AV) (h : T Ob) : List LocP → Nat → T Nat → Option (T Nat)
  | [], _, b => some b
  | l :: ls, i, b => match locate args h b l with
    | some j => bindAll args h ls (Nat.succ i) (b.set i j)
    | none => none
/-- Where a number of a known call lies. -/
def pmF (R k d : Nat) (b : T Nat) (i : Nat) : Nat :=
  bif Nat.blt i R then i else bif Nat.blt i k then (match b.get i with
    | some j => j
    | none => 0) else i - k + d
/-- All apart, from R on, below d. -/
def apartF (R d : Nat) (g : Nat → Nat) : Nat → Nat → T Nat → Bool
  | 0, _, _ => true
  | n + 1, i, t => Nat.ble R (g i) && Nat.blt (g i) d && (match t.get (g i) with
    | none => true
    | some _ => false) && apartF R d g n (Nat.succ i) (t.set (g i) i)
def matchAll (g : Nat → Nat) (h : T Ob) : List (Nat × Ob) → Bool
  | [] => true
  | (i, o) :: l => (match h.get (g i) with
    | some o' => (o.mp g).same o'
    | none => false) && matchAll g h l
def putP (g : Nat → Nat) : List (Nat × Ob) → T Ob → T Ob
  | [], h => h
  | (k, o) :: l, h => putP g l (h.set (g k) (o.mp g))
def hasN (i : Nat) : List Nat → Bool
  | [] => false
  | x :: l => Nat.beq x i || hasN i l
def hasO (i : Nat) : List (Nat × Ob) → Bool
  | [] => false
  | (x, _) :: l => Nat.beq x i || hasO i l
def addAll (g : Nat → Nat) : List Nat → List Nat → List Nat
  | [], r => r
  | i :: l, r => addAll g l (bif hasN (g i) r then r else g i :: r)
def fstO : List (Nat × Ob) → List Nat
  | [] => []
  | (x, _) :: l => x :: fstO l
def setIn : List (Nat × Ob) → T Ob → T Ob
  | [], h => h
  | (k, o) :: l, h => setIn l (h.set k o)

/-- A known call: its function, its arguments; which objects it is told (R to k; where they are found), what those that it touches have; what it tells, what objects have behind it, which of those told are changed; up to which number it goes. -/
structure HMemo where
  f : FuncId
  args : List AV
  k : Nat
  locs : List LocP
  ins : List (Nat × Ob)
  v : AV
  outs : List (Nat × Ob)
  wr : List Nat
  n : Nat

/-- A first look: the numbers in the first object. -/
def quickL : List AV → List AV → Bool
  | [], _ => true
  | _ :: _, [] => true
  | v :: l, u :: k => (match v, u with
    | .int _ n, .int _ m => intB n m
    | _, _ => true) && quickL l k
def quick (R : Nat) (args : List AV) (h : T Ob) : List LocP → List (Nat × Ob) → Bool
  | p :: _, (i, o) :: _ => bif Nat.beq i R then (match locate args h .leaf p with
    | some j => (match h.get j with
      | some o' => quickL o.parts o'.parts
      | none => true)
    | none => true) else true
  | _, _ => true

def HMemo.ret (R : Nat) (m : HMemo) (args : List AV) (σ : St) : CR :=
  bif Nat.ble R σ.next && quick R args σ.heap m.locs m.ins then
    match bindAll args σ.heap m.locs R .leaf with
    | none => .no
    | some b =>
      bif apartF R σ.next (pmF R m.k σ.next b) (m.k - R) R .leaf && (sameL (mpL (pmF R m.k σ.next b) m.args) args && matchAll (pmF R m.k σ.next b) σ.heap m.ins) then
        .ret (m.v.mp (pmF R m.k σ.next b)) { heap := putP (pmF R m.k σ.next b) m.outs σ.heap, next := m.n - m.k + σ.next, rd := addAll (pmF R m.k σ.next b) (fstO m.ins) σ.rd, wr := addAll (pmF R m.k σ.next b) m.wr σ.wr }
      else .no
  else .no

def allIns (R k : Nat) : List (Nat × Ob) → Bool
  | [] => true
  | (i, o) :: l => Nat.ble R i && Nat.blt i k && o.told && allIns R k l
def allOuts (R k n : Nat) (wr : List Nat) (τ : St) : List (Nat × Ob) → Bool
  | [] => true
  | (i, o) :: l => Nat.ble R i && Nat.blt i n && (Nat.ble k i || hasN i wr) && (match τ.heap.get i with
    | some o' => o'.same o
    | none => false) && allOuts R k n wr τ l
def allRd (R k : Nat) (ins : List (Nat × Ob)) : List Nat → Bool
  | [] => true
  | i :: l => (Nat.blt i R || Nat.ble k i || hasO i ins) && allRd R k ins l
def allWr (k : Nat) (wr : List Nat) (ins : List (Nat × Ob)) : List Nat → Bool
  | [] => true
  | i :: l => (Nat.ble k i || (hasN i wr && hasO i ins)) && allWr k wr ins l
def wrIn (R k : Nat) (outs ins : List (Nat × Ob)) : List Nat → Bool
  | [] => true
  | i :: l => Nat.ble R i && Nat.blt i k && hasO i outs && hasO i ins && wrIn R k outs ins l

/-- Is it as the evaluator says? -/
def HMemo.ok (P : Program) (C : Cfg) (n R : Nat) (β : St) (m : HMemo) : Bool :=
  Nat.ble R m.k && (Nat.ble m.k m.n && (allIns R m.k m.ins && wrIn R m.k m.outs m.ins m.wr)) && (match callN P C n m.f m.args { β with heap := setIn m.ins β.heap, next := m.k } with
  | .ret v τ => v.same m.v && Nat.beq τ.next m.n && allOuts R m.k m.n m.wr τ m.outs && allRd R m.k m.ins τ.rd && allWr m.k m.wr m.ins τ.wr
  | _ => false)

def findH (R : Nat) (args : List AV) (σ : St) : List HMemo → CR
  | [] => .no
  | m :: l => match m.ret R args σ with
    | .no => findH R args σ l
    | r => r
def addH (m : HMemo) (t : T (List HMemo)) : T (List HMemo) := t.set m.f (match t.get m.f with
  | some l => m :: l
  | none => [m])
def tabH : List HMemo → T (List HMemo)
  | [] => .leaf
  | m :: l => addH m (tabH l)
def hmHk (R : Nat) (t : T (List HMemo)) (f : FuncId) (args : List AV) (σ : St) : CR :=
  match t.get f with
  | some l => findH R args σ l
  | none => .no
def bothHk (R : Nat) (tm : T (List Memo)) (th : T (List HMemo)) (f : FuncId) (args : List AV) (σ : St) : CR :=
  match memoHk R tm f args σ with
  | .no => hmHk R th f args σ
  | r => r
/-- So many of one. -/
def rpA : Nat → AV → List AV → List AV
  | 0, _, l => l
  | n + 1, v, l => v :: rpA n v l
end
end Go.Tw
