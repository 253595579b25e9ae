/-
  A part of the proof that the abstract evaluator is sound for the model's machine. Conditions: those of each theorem, as it states them.
-/
import Derived.Test.YtbkokbjpbbpllaaGreatTwH
namespace Go.Tw
open Go.ChangeShapes Go.RowKit
/-! Contracts of functions that only read what is given and make lists of their own. -/
structure Lin where
  l : List Sh
  t : TypeId
  x : Sx
  y : Sx
  ox : Sx
  oy : Sx
structure Con where
  f : FuncId
  args : List AV
  pre : Dcs
  res : AV
  objs : List Ob
  nr : Nat := 0
  bin : List (List AV × TypeId) := []
  bout : List (List AV) := []
  lin : Option Lin := none
def Con.nl (c : Con) : Nat := match c.lin with
  | some _ => 1
  | none => 0
structure LK where
  lid : Nat
  idc : Nat
  nv : Nat
def Sx.sub (θ : Nat → Sx) : Sx → Sx
  | .lit n => .lit n
  | .var i => .var i
  | .bin op k a b => .bin op k (a.sub θ) (b.sub θ)
  | .wrap k a => .wrap k (a.sub θ)
  | .dvar i => θ i
  | .slit s => .slit s
  | .pr f a b => .pr f (a.sub θ) (b.sub θ)
  | .ap f a b c => .ap f (a.sub θ) (b.sub θ) (c.sub θ)
  | .cell x i o => .cell (x.sub θ) (i.sub θ) o
  | .setc x i o c => .setc (x.sub θ) (i.sub θ) o (c.sub θ)
  | .dlit d => .dlit d
def Bx.sub (θ : Nat → Sx) : Bx → Bx
  | .cmp op a b => .cmp op (a.sub θ) (b.sub θ)
  | .not b => .not (b.sub θ)
  | .seq a b => .seq (a.sub θ) (b.sub θ)
abbrev Val.at (v : Val) (θ : Nat → Sx) : Val := Val.mk v.num (fun i => @Sx.dat v (θ i)) v.fn
theorem Sx.sub_dat (v : Val) (θ : Nat → Sx) : ∀ e : Sx, @Sx.dat v (e.sub θ) = @Sx.dat (v.at θ) e := by
  intro e
  induction e with
  | lit n => rfl
  | var i => rfl
  | bin op k a b ih1 ih2 => simp only [Sx.sub, Sx.dat, ih1, ih2]
  | wrap k a ih => simp only [Sx.sub, Sx.dat, ih]
  | dvar i => rfl
  | slit s => rfl
  | pr f a b ih1 ih2 => simp only [Sx.sub, Sx.dat, ih1, ih2]
  | ap f a b c ih1 ih2 ih3 => simp only [Sx.sub, Sx.dat, ih1, ih2, ih3]; rfl
  | cell x i o ih1 ih2 => simp only [Sx.sub, Sx.dat, ih1, ih2]
  | setc x i o c ih1 ih2 ih3 => simp only [Sx.sub, Sx.dat, ih1, ih2, ih3]
  | dlit d => rfl
theorem Bx.sub_eval (v : Val) (θ : Nat → Sx) : ∀ b : Bx, @Bx.eval v (b.sub θ) = @Bx.eval (v.at θ) b := by
  intro b
  induction b with
  | cmp op a b => simp only [Bx.sub, Bx.eval, Sx.eval, Sx.sub_dat]
  | not b ih => simp only [Bx.sub, Bx.eval, ih]
  | seq a b => simp only [Bx.sub, Bx.eval, Sx.sub_dat]
mutual
def AV.inst (θ : Nat → Sx) (d : Nat) (lk : Option LK) : AV → AV
  | .sym k e => .sym k (e.sub θ)
  | .symb b => .symb (b.sub θ)
  | .vstr e => .vstr (e.sub θ)
  | .opq k id ver sh x y => match lk with
    | some q => bif Nat.beq id q.lid then .opq k q.idc q.nv sh (x.sub θ) (y.sub θ) else .opq k (id + d) ver sh (x.sub θ) (y.sub θ)
    | none => .opq k (id + d) ver sh (x.sub θ) (y.sub θ)
  | .agg l => .agg (instL θ d lk l)
  | .tup l => .tup (instL θ d lk l)
  | .ptr a b c e => .ptr a b c e
  | .slc a b c e f g => .slc a b c e f g
  | .map a => .map a
  | .yld a => .yld a
  | .fn a b c => .fn a b c
  | .iface a b => .iface a b
  | .bool b => .bool b
  | .int k n => .int k n
  | .sslc e => .sslc e
  | .sstr e => .sstr e
  | .str s => .str s
  | .nilp => .nilp
  | .nils => .nils
  | .nilm => .nilm
  | .anyp => .anyp
  | .unk => .unk
  | .nilfn => .nilfn
  | .nili => .nili
def instL (θ : Nat → Sx) (d : Nat) (lk : Option LK) : List AV → List AV
  | [] => []
  | v :: l => v.inst θ d lk :: instL θ d lk l
end
mutual
def AV.okRes (R nx : Nat) : AV → Bool
  | .sym .. => true
  | .symb _ => true
  | .vstr _ => true
  | .opq k id ver _ _ _ => Nat.beq k 2 && (Nat.ble R id && Nat.blt id nx && Nat.beq ver 0)
  | .agg l => okResL R nx l
  | .tup l => okResL R nx l
  | .bool _ => true
  | .int .. => true
  | .str _ => true
  | .nilp => true
  | .nils => true
  | .nilm => true
  | .nilfn => true
  | .nili => true
  | _ => false
def okResL (R nx : Nat) : List AV → Bool
  | [] => true
  | v :: l => v.okRes R nx && okResL R nx l
end
def Ob.inst (θ : Nat → Sx) : Ob → Ob
  | .opq k ver cid sh x y c t => .opq k ver cid sh (x.sub θ) (y.sub θ) c t
  | o => o
def Ob.okRes : Ob → Bool
  | .opq k ver cid (.slc l) _ _ [] _ => Nat.beq k 2 && (Nat.beq cid gid && (flatL l && Nat.beq ver 0))
  | _ => false
def LkOk (R nx d : Nat) (lk : Option LK) (φ ψ : PM) : Prop := ∀ i e, R ≤ i → i < nx → φ i 0 = some e → (match lk with
  | some q => if i = q.lid then ψ q.idc q.nv = some e else ψ (i + d) 0 = some e
  | none => ψ (i + d) 0 = some e)
section
variable {v : Val} {θ : Nat → Sx} {R nx d : Nat} {lk : Option LK} {φ ψ : PM}
mutual
theorem inst_ok (hm : LkOk R nx d lk φ ψ) : ∀ {y : AV} {x : Value}, y.okRes R nx = true → @VR (v.at θ) φ y x → @VR v ψ (y.inst θ d lk) x
  | .sym k e, x, _, h => by
    cases h
    have : @Sx.eval (v.at θ) e = @Sx.eval v (e.sub θ) := congrArg Dat.toI (Sx.sub_dat v θ e).symm
    rw [this]; exact @VR.sym v _ _ _
  | .symb b, x, _, h => by
    cases h
    rw [← Bx.sub_eval]; exact @VR.symb v _ _
  | .vstr e, x, _, h => by
    cases h with
    | vstr s hs => exact @VR.vstr v _ _ s ((Sx.sub_dat v θ e).trans hs)
  | .opq k id ver sh x0 y0, x, ho, h => by
    simp only [AV.okRes, Bool.and_eq_true] at ho
    have := beq_t ho.1; subst this
    have h1 := ble_t ho.2.1.1
    have h2 := blt_t ho.2.1.2
    have := beq_t ho.2.2; subst this
    cases h with
    | opq _ hk =>
      have key : ∀ i u, (∀ e, φ id 0 = some e → ψ i u = some e) → @VR v ψ (.opq 2 i u sh (x0.sub θ) (y0.sub θ)) x := fun i u hi => by
        refine @VR.opq v _ _ _ _ _ _ _ _ ?_
        rw [Sx.sub_dat, Sx.sub_dat]
        rcases hk with hk | ⟨y1, l, ex, c, n, g1, g2, g3⟩
        · exact .inl hk
        · exact .inr ⟨y1, l, ex, c, n, g1, hi _ g2, g3⟩
      have hmi := fun e he => hm id e h1 h2 he
      cases lk with
      | none => exact key _ _ hmi
      | some q =>
        simp only [AV.inst, cond_eq_ite]
        by_cases hq : id = q.lid
        · subst hq
          rw [if_pos (Nat.beq_refl _)]
          exact key _ _ fun e he => by have := hmi e he; simpa using this
        · rw [if_neg (fun h => hq (beq_t h))]
          exact key _ _ fun e he => by have := hmi e he; simpa [hq] using this
  | .agg l, x, ho, h => by
    simp only [AV.okRes] at ho
    cases h with
    | agg l' g => exact @VR.agg v _ _ _ (instL_ok hm ho g)
  | .tup l, x, ho, h => by
    simp only [AV.okRes] at ho
    cases h with
    | tup l' g => exact @VR.tup v _ _ _ (instL_ok hm ho g)
  | .bool b, x, _, h => by cases h; exact @VR.bool v _ _
  | .int k n, x, _, h => by cases h; exact @VR.int v _ _ _
  | .str s, x, _, h => by cases h; exact @VR.str v _ _
  | .nilp, x, _, h => by cases h; exact @VR.nilp v _
  | .nils, x, _, h => by cases h; exact @VR.nils v _
  | .nilm, x, _, h => by cases h; exact @VR.nilm v _
  | .nilfn, x, _, h => by cases h; exact @VR.nilfn v _
  | .nili, x, _, h => by cases h; exact @VR.nili v _
  | .ptr .., x, ho, h => by simp [AV.okRes] at ho
  | .slc .., x, ho, h => by simp [AV.okRes] at ho
  | .map _, x, ho, h => by simp [AV.okRes] at ho
  | .yld _, x, ho, h => by simp [AV.okRes] at ho
  | .fn .., x, ho, h => by simp [AV.okRes] at ho
  | .iface .., x, ho, h => by simp [AV.okRes] at ho
  | .sslc _, x, ho, h => by simp [AV.okRes] at ho
  | .sstr _, x, ho, h => by simp [AV.okRes] at ho
  | .anyp, x, ho, h => by simp [AV.okRes] at ho
  | .unk, x, ho, h => by simp [AV.okRes] at ho
theorem instL_ok (hm : LkOk R nx d lk φ ψ) : ∀ {y : List AV} {x : List Value}, okResL R nx y = true → @VRL (v.at θ) φ y x → @VRL v ψ (instL θ d lk y) x
  | [], x, _, h => by cases h; exact @VRL.nil v _
  | a :: l, x, ho, h => by
    simp only [okResL, Bool.and_eq_true] at ho
    cases h with
    | cons g1 g2 => exact @VRL.cons v _ _ _ _ _ (inst_ok hm ho.1 g1) (instL_ok hm ho.2 g2)
end
end
end Go.Tw
namespace Go.Tw
open Go.ChangeShapes Go.RowKit
def Boxed (φ : PM) (bx : List Nat) (lst : Option Ext) (u : Nat) : Prop := (∃ id ∈ bx, ∃ t e, φ id t = some e ∧ e.blk = u) ∨ ∃ e, lst = some e ∧ e.blk = u
open Classical in
noncomputable def callPM (φ : PM) (R : Nat) (w : World) (bx : List Nat) (lst : Option Ext) : PM := fun i u => if i = gid then (if Boxed φ bx lst u then none else match w.heap[u]? with
  | some (.cells c _ _) => some ⟨u, 0, 0, 0, 0, c.toList⟩
  | _ => none) else if i < R then φ i u else if u = 0 then (if i = R + bx.length then lst else match bx[i - R]? with
    | some id => φ id 0
    | none => none) else none
noncomputable section
def listArg (σ : St) (l' : List Sh) (x' : Sx) : AV → Option (Eqs × List Nat)
  | .opq k id ver (.slc l) x y => bif Nat.beq k 0 then (bif Nat.beq id gid && Sh.sameL l l' then some ([(x, x')], []) else none)
    else (match ownOf σ (.opq k id ver (.slc l) x y) with
      | some o => bif Sh.sameL o.l l' && flatL l' then some ([(o.x, x')], [o.id]) else none
      | none => none)
  | .nils => some ([(.pr 13 (.lit 0) (.lit 0), x')], [])
  | _ => none
structure LA where
  lid : Nat
  act : AV
  l : List Sh
  y : Sx
def pAB (R : Nat) (ρ : List RE) (lk : Option LA) (σ : St) (a p : AV) : Option (Eqs × List Nat) := match p with
  | .opq k id ver (.slc l') x' y' => bif Nat.beq k 0 && Nat.beq id gid then listArg σ l' x' a else (match lk with
    | some q => bif Nat.beq k 2 && (Nat.beq id q.lid && (Nat.beq ver 0 && (a.same q.act && (Sh.sameL l' q.l && y'.same q.y)))) then some ([], []) else none
    | none => none)
  | p => (mAV R ρ a p).map fun e => (e, [])
mutual
def pAV (R : Nat) (ρ : List RE) (lk : Option LA) (σ : St) : AV → AV → Option (Eqs × List Nat)
  | .agg l, p => match p with
    | .agg l' => pAL R ρ lk σ l l'
    | _ => none
  | a, p => pAB R ρ lk σ a p
def pAL (R : Nat) (ρ : List RE) (lk : Option LA) (σ : St) : List AV → List AV → Option (Eqs × List Nat)
  | [], z => match z with
    | [] => some ([], [])
    | _ => none
  | y :: l, z => match z with
    | [] => none
    | x :: m => match pAV R ρ lk σ y x, pAL R ρ lk σ l m with
      | some (p, a), some (q, c) => some (p ++ q, a ++ c)
      | _, _ => none
end
def intS? : Sx → Bool
  | .lit _ => true
  | .pr f _ _ => Nat.beq f 30
  | _ => false
def boolS? : Sx → Bool
  | .lit (.ofNat n) => Nat.ble n 1
  | .pr f _ _ => Nat.ble 20 f && Nat.ble f 29
  | _ => false
def nameOf : Sx × Sx → Option (Nat × Sx)
  | (a, .dvar i) => some (i, a)
  | (a, .pr f (.dvar i) _) => bif Nat.beq f 30 && intS? a then some (i, a) else none
  | _ => none
def namesOf : Eqs → Option (List (Nat × Sx))
  | [] => some []
  | e :: l => match nameOf e, namesOf l with
    | some p, some q => some (p :: q)
    | _, _ => none
def nameAt : List (Nat × Sx) → Nat → Sx
  | [], _ => .lit 0
  | (i, e) :: l, j => bif Nat.beq i j then e else nameAt l j
def namesOk (θ : Nat → Sx) (l : List (Nat × Sx)) : Bool := l.all fun p => (θ p.1).same p.2
def preOk (dec : Bx → Option Bool) (θ : Nat → Sx) (p : Dcs) : Bool := p.all fun q => match dec (q.1.sub θ) with
  | some x => boolB x q.2
  | none => false
def addObs (θ : Nat → Sx) : List Ob → Nat → T Ob → T Ob
  | [], _, h => h
  | o :: l, i, h => addObs θ l (i + 1) (h.set i (o.inst θ))
mutual
def boxRE (R : Nat) : AV → AV → List RE
  | .ptr id ver _ _, p => match p with
    | .ptr id' _ _ _ => bif Nat.ble R id' && Nat.beq ver 0 then [{ idn := id', ido := id, ver := 0 }] else []
    | _ => []
  | .fn _ a c, p => match p with
    | .fn _ a' c' => boxREL R a a' ++ boxREL R c c'
    | _ => []
  | .agg l, p => match p with
    | .agg l' => boxREL R l l'
    | _ => []
  | .tup l, p => match p with
    | .tup l' => boxREL R l l'
    | _ => []
  | .iface _ u, p => match p with
    | .iface _ u' => boxRE R u u'
    | _ => []
  | _, _ => []
def boxREL (R : Nat) : List AV → List AV → List RE
  | [], _ => []
  | y :: l, z => match z with
    | [] => []
    | x :: m => boxRE R y x ++ boxREL R l m
end
def boxIds (l : List RE) (R : Nat) : Nat → Option (List Nat)
  | 0 => some []
  | k + 1 => match boxIds l R k, fnd l (R + k) with
    | some ids, some r => some (ids ++ [r.ido])
    | _, _ => none
def reOf (R : Nat) : List Nat → Nat → List RE
  | [], _ => []
  | i :: l, k => { idn := R + k, ido := i, ver := 0 } :: reOf R l (k + 1)
def boxArgs (R : Nat) (ρ : List RE) (σ : St) : List Nat → List (List AV × TypeId) → Option (Eqs × List Nat)
  | [], [] => some ([], [])
  | i :: l, (c', t') :: m => match σ.heap.get i with
    | some (.box c t) => bif Nat.beq t t' && Nat.ble R i then (match pAL R ρ none σ c c', boxArgs R ρ σ l m with
      | some (p, a), some (q, d) => some (p ++ q, a ++ d)
      | _, _ => none) else none
    | _ => none
  | _, _ => none
mutual
def linAt (lid : Nat) : AV → AV → Option AV
  | .agg l, p => match p with
    | .agg l' => linAtL lid l l'
    | _ => none
  | .tup l, p => match p with
    | .tup l' => linAtL lid l l'
    | _ => none
  | a, p => match p with
    | .opq _ id _ _ _ _ => bif Nat.beq id lid then some a else none
    | _ => none
def linAtL (lid : Nat) : List AV → List AV → Option AV
  | [], _ => none
  | y :: l, z => match z with
    | [] => none
    | x :: m => match linAt lid y x with
      | some a => some a
      | none => linAtL lid l m
end
structure LR where
  id : Nat
  ver : Nat
  e : Sx
  y : Sx
  nv : Nat
  hi : Option Nat
def linRes (σ : St) (L : Lin) (a : AV) : Option LR := bif flatL L.l then (match a with
  | .slc id ver off len _ esz => match σ.heap.get id with
    | some (.arr c base lim since nv t) => bif Nat.beq t L.t && (Nat.beq off 0 && (Nat.beq esz L.l.length && ((Nat.blt 0 esz && Nat.blt 0 len) && (Nat.beq (len * esz) c.length && ((Nat.beq ver base && Nat.beq lim c.length) || (Nat.beq (ver + 1) nv && (Nat.ble since ver && !Nat.beq ver base)))))))
        then (match cvtRows gid L.l len c with
          | some e => some ⟨id, ver, e, .lit 1, nv, some c.length⟩
          | none => none) else none
    | _ => none
  | a => match ownOf σ a with
    | some o => bif Sh.sameL o.l L.l && Nat.beq o.t L.t then some ⟨o.id, o.ver, o.x, o.y, o.ver + 1, none⟩ else none
    | none => none) else none
def Con.ok (R : Nat) (c : Con) : Bool := c.res.okRes (R + c.bin.length) (R + c.bin.length + c.nl + c.objs.length) && (c.objs.all Ob.okRes && (Nat.beq c.bout.length c.bin.length && (Nat.ble c.nr c.bin.length && ((c.bout.drop c.nr).all (okResL (R + c.bin.length) (R + c.bin.length + c.nl + c.objs.length)) && (Nat.beq c.nl 0 || Nat.beq c.objs.length 0)))))
def putBoxes (θ : Nat → Sx) (d : Nat) (lk : Option LK) : List Nat → List (List AV) → List (List AV × TypeId) → T Ob → T Ob
  | i :: l, c :: m, b :: n, h => putBoxes θ d lk l m n (h.set i (.box (instL θ d lk c) b.2))
  | _, _, _, h => h
def wrAll : List Nat → List Nat → List Nat
  | [], wr => wr
  | i :: l, wr => wrAll l (addL i wr)
def Con.lkOf (R : Nat) (c : Con) (q : Option LR) : Option LK := match q with
  | some q => some ⟨R + c.bin.length, q.id, q.nv⟩
  | none => none
def LR.ids : Option LR → List Nat
  | some q => [q.id]
  | none => []
def putLin (θ : Nat → Sx) (q : Option LR) (L : Option Lin) (h : T Ob) : T Ob := match q, L with
  | some q, some L => h.set q.id (.opq 2 q.nv gid (.slc L.l) (L.ox.sub θ) (L.oy.sub θ) [] L.t)
  | _, _ => h
def Con.ret (R : Nat) (c : Con) (θ : Nat → Sx) (ids rd : List Nat) (q : Option LR) (σ : St) : CR :=
  .ret (c.res.inst θ (σ.next - (R + c.bin.length + c.nl)) (c.lkOf R q)) { lgAll (ids.take c.nr ++ rd) σ with
    heap := addObs θ c.objs σ.next (putLin θ q c.lin (putBoxes θ (σ.next - (R + c.bin.length + c.nl)) (c.lkOf R q) (ids.drop c.nr) (c.bout.drop c.nr) (c.bin.drop c.nr) σ.heap)), next := σ.next + c.objs.length, wr := wrAll (ids.drop c.nr ++ LR.ids q) σ.wr }
def linTry (R : Nat) (c : Con) (args : List AV) (σ : St) : Option (Option LR × Option LA × Eqs) := match c.lin with
  | none => some (none, none, [])
  | some L => match linAtL (R + c.bin.length) args c.args with
    | some a => match linRes σ L a with
      | some q => some (some q, some ⟨R + c.bin.length, a, L.l, L.y⟩, [(q.e, L.x), (q.y, L.y)])
      | none => none
    | none => none
def Con.try (R : Nat) (dec : Bx → Option Bool) (c : Con) (args : List AV) (σ : St) : CR := match boxIds (boxREL R args c.args) R c.bin.length, linTry R c args σ with
  | some ids, some (q, lk, e0) => bif nodupB ids && Nat.ble (R + c.bin.length + c.nl) σ.next then (match pAL R (reOf R ids 0) lk σ args c.args, boxArgs R (reOf R ids 0) σ ids c.bin with
    | some (e, rd), some (e2, rd2) => match namesOf (e0 ++ (e ++ e2)) with
      | some l => bif namesOk (nameAt l) l && (preOk dec (nameAt l) c.pre && (c.ok R && (LR.ids q).all fun i => Nat.ble R i && !(rd ++ rd2).any (fun j => Nat.beq i j))) then c.ret R (nameAt l) ids (rd ++ rd2) q σ else .no
      | none => .no
    | _, _ => .no) else .no
  | _, _ => .no
def conHk (R : Nat) (dec : Bx → Option Bool) : List Con → FuncId → List AV → St → CR
  | [], _, _, _ => .no
  | c :: l, f, args, σ => bif Nat.beq c.f f then (match c.try R dec args σ with
    | .no => conHk R dec l f args σ
    | r => r) else conHk R dec l f args σ
theorem addObs_get (θ : Nat → Sx) : ∀ (l : List Ob) (i : Nat) (h : T Ob) (j : Nat), (addObs θ l i h).get j = if i ≤ j ∧ j < i + l.length then (l[j - i]?).map (Ob.inst θ) else h.get j := by
  intro l
  induction l with
  | nil => intro i h j; simp [addObs]; omega
  | cons o l ih =>
    intro i h j
    simp only [addObs]
    rw [ih, T.get_set]
    by_cases h1 : j = i
    · subst h1
      rw [if_neg (by omega), if_pos rfl, if_pos (by simp), Nat.sub_self]; rfl
    · rw [if_neg h1]
      by_cases h2 : i + 1 ≤ j ∧ j < i + 1 + l.length
      · rw [if_pos h2, if_pos (by simp; omega)]
        rw [show j - i = (j - (i + 1)) + 1 by omega, List.getElem?_cons_succ]
      · rw [if_neg h2, if_neg (by simp; omega)]
theorem putBoxes_get (θ : Nat → Sx) (d : Nat) (lk : Option LK) : ∀ (l : List Nat) (m : List (List AV)) (n : List (List AV × TypeId)) (h : T Ob) (j : Nat), j ∉ l → (putBoxes θ d lk l m n h).get j = h.get j := by
  intro l
  induction l with
  | nil => intro m n h j _; cases m <;> cases n <;> rfl
  | cons i l ih =>
    intro m n h j hj
    cases m with
    | nil => rfl
    | cons c m =>
      cases n with
      | nil => rfl
      | cons b n =>
        simp only [putBoxes]
        rw [ih _ _ _ _ (fun h => hj (List.mem_cons_of_mem _ h)), T.get_set_ne _ _ (fun h => hj (by rw [h]; simp))]
theorem putBoxes_at (θ : Nat → Sx) (d : Nat) (lk : Option LK) : ∀ (l : List Nat) (m : List (List AV)) (n : List (List AV × TypeId)) (h : T Ob) (k i : Nat) (c : List AV) (b : List AV × TypeId), nodupB l = true → l[k]? = some i → m[k]? = some c → n[k]? = some b →
    (putBoxes θ d lk l m n h).get i = some (.box (instL θ d lk c) b.2) := by
  intro l
  induction l with
  | nil => intro m n h k i c b _ h1; simp at h1
  | cons x l ih =>
    intro m n h k i c b hnd h1 h2 h3
    simp only [nodupB, Bool.and_eq_true, Bool.not_eq_true', List.any_eq_false] at hnd
    cases m with
    | nil => simp at h2
    | cons c' m =>
      cases n with
      | nil => simp at h3
      | cons b' n =>
        simp only [putBoxes]
        cases k with
        | zero =>
          simp only [List.getElem?_cons_zero, Option.some.injEq] at h1 h2 h3
          subst h1; subst h2; subst h3
          rw [putBoxes_get _ _ _ _ _ _ _ _ (fun hm => hnd.1 _ hm (Nat.beq_refl _)), T.get_set_same]
        | succ k =>
          simp only [List.getElem?_cons_succ] at h1 h2 h3
          exact ih _ _ _ _ _ _ _ hnd.2 h1 h2 h3
theorem wrAll_mem : ∀ (l wr : List Nat) (i : Nat), i ∈ wrAll l wr ↔ i ∈ l ∨ i ∈ wr := by
  intro l
  induction l with
  | nil => intro wr i; simp [wrAll]
  | cons x l ih =>
    intro wr i
    simp only [wrAll, ih, mem_addL, List.mem_cons]
    constructor
    · rintro (h | h | h)
      · exact .inl (.inr h)
      · exact .inl (.inl h)
      · exact .inr h
    · rintro ((h | h) | h)
      · exact .inr (.inl h)
      · exact .inl h
      · exact .inr (.inr h)
theorem putLin_get (θ : Nat → Sx) (q : Option LR) (L : Option Lin) (h : T Ob) (j : Nat) (hj : j ∉ LR.ids q) : (putLin θ q L h).get j = h.get j := by
  unfold putLin
  split
  · rename_i q L
    exact T.get_set_ne _ _ (fun h => hj (by simp [LR.ids, h]))
  · rfl
theorem conRet_step {R : Nat} {c : Con} {θ : Nat → Sx} {ids rd : List Nat} {q : Option LR} {σ σ' : St} {x : AV} (h : c.ret R θ ids rd q σ = .ret x σ') (hl : ∀ i ∈ ids ++ LR.ids q, ∃ o, σ.heap.get i = some o) : StepA σ σ' := by
  simp only [Con.ret, CR.ret.injEq] at h
  obtain ⟨_, rfl⟩ := h
  have h1 := lgAll_step (ids.take c.nr ++ rd) σ
  obtain ⟨h2, h3, h4⟩ := lgAll_heap (ids.take c.nr ++ rd) σ
  have hin : ∀ i ∈ ids.drop c.nr ++ LR.ids q, i ∈ ids ++ LR.ids q := fun i hi => by
    rcases List.mem_append.1 hi with h | h
    · exact List.mem_append_left _ (List.mem_of_mem_drop h)
    · exact List.mem_append_right _ h
  have hget : ∀ i, i ∉ ids.drop c.nr ++ LR.ids q → ∀ d lk, (putLin θ q c.lin (putBoxes θ d lk (ids.drop c.nr) (c.bout.drop c.nr) (c.bin.drop c.nr) σ.heap)).get i = σ.heap.get i := fun i hi d lk => by
    rw [putLin_get _ _ _ _ _ (fun h => hi (List.mem_append_right _ h)), putBoxes_get _ _ _ _ _ _ _ _ (fun h => hi (List.mem_append_left _ h))]
  refine ⟨Nat.le_add_right _ _, h1.rd, fun i hi => (wrAll_mem _ _ _).2 (.inr hi), fun i hi hn => ?_, fun hd i hi => ?_, fun hd i hi => ?_⟩
  · show (addObs θ c.objs σ.next _).get i = _
    rw [addObs_get, if_neg (by omega), hget]
    exact fun h => hn ((wrAll_mem _ _ _).2 (.inl h))
  · show (addObs θ c.objs σ.next _).get i = _
    have hi : σ.next + c.objs.length ≤ i := hi
    rw [addObs_get, if_neg (by omega), hget]
    · exact hd i (by omega)
    · intro h
      obtain ⟨o, ho⟩ := hl i (hin i h)
      rw [hd i (by omega)] at ho; cases ho
  · rcases (wrAll_mem _ _ _).1 hi with h | h
    · right
      obtain ⟨o, ho⟩ := hl i (hin i h)
      rcases Nat.lt_or_ge i σ.next with h' | h'
      · exact Nat.lt_of_lt_of_le h' (Nat.le_add_right _ _)
      · rw [hd i h'] at ho; cases ho
    · exact .inl h
theorem linRes_obj {σ : St} {L : Lin} {a : AV} {q : LR} (h : linRes σ L a = some q) : flatL L.l = true ∧
    ((∃ cap c base lim since esz len, a = .slc q.id q.ver 0 len cap esz ∧ σ.heap.get q.id = some (.arr c base lim since q.nv L.t) ∧ esz = L.l.length ∧ (0 < esz ∧ 0 < len) ∧ len * esz = c.length ∧ ((q.ver = base ∧ lim = c.length) ∨ (q.ver + 1 = q.nv ∧ since ≤ q.ver ∧ q.ver ≠ base)) ∧
        cvtRows gid L.l len c = some q.e ∧ q.y = .lit 1 ∧ q.hi = some c.length) ∨
     (∃ o, ownOf σ a = some o ∧ o.l = L.l ∧ o.t = L.t ∧ q = ⟨o.id, o.ver, o.x, o.y, o.ver + 1, none⟩)) := by
  unfold linRes at h
  rw [cond_eq_ite] at h
  split at h
  · rename_i hfl
    refine ⟨hfl, ?_⟩
    split at h
    · rename_i id ver off len cap esz
      split at h
      · rename_i c base lim since nv t ho
        simp only [cond_eq_ite, Bool.and_eq_true, Bool.or_eq_true, Bool.not_eq_true'] at h
        split at h
        · rename_i hb
          obtain ⟨b1, b2, b3, b4, b5, b6⟩ := hb
          split at h
          · rename_i e he
            simp only [Option.some.injEq] at h; subst h
            have := beq_t b1; subst this
            have := beq_t b2; subst this
            refine .inl ⟨cap, c, base, lim, since, esz, len, rfl, ho, beq_t b3, ⟨blt_t b4.1, blt_t b4.2⟩, beq_t b5, ?_, he, rfl, rfl⟩
            rcases b6 with ⟨b6, b7⟩ | ⟨b6, b7, b8⟩
            · exact .inl ⟨beq_t b6, beq_t b7⟩
            · exact .inr ⟨beq_t b6, ble_t b7, fun h => by simp only at h; subst h; simp at b8⟩
          · cases h
        · cases h
      · cases h
    · split at h
      · rename_i o hoo
        simp only [cond_eq_ite, Bool.and_eq_true] at h
        split at h
        · rename_i hb
          simp only [Option.some.injEq] at h; subst h
          exact .inr ⟨o, hoo, Sh.sameL_eq hb.1, beq_t hb.2, rfl⟩
        · cases h
      · cases h
  · cases h
theorem linTry_ok {R : Nat} {c : Con} {args : List AV} {σ : St} {q : Option LR} {lk : Option LA} {e0 : Eqs} (h : linTry R c args σ = some (q, lk, e0)) :
    (c.lin = none ∧ q = none ∧ lk = none ∧ e0 = []) ∨ ∃ L a q', c.lin = some L ∧ q = some q' ∧ lk = some ⟨R + c.bin.length, a, L.l, L.y⟩ ∧ e0 = [(q'.e, L.x), (q'.y, L.y)] ∧ linRes σ L a = some q' ∧ linAtL (R + c.bin.length) args c.args = some a := by
  unfold linTry at h
  split at h
  · rename_i hl
    simp only [Option.some.injEq, Prod.mk.injEq] at h
    obtain ⟨rfl, rfl, rfl⟩ := h
    exact .inl ⟨hl, rfl, rfl, rfl⟩
  · rename_i L hl
    split at h
    · rename_i a ha
      split at h
      · rename_i q' hq
        simp only [Option.some.injEq, Prod.mk.injEq] at h
        obtain ⟨rfl, rfl, rfl⟩ := h
        exact .inr ⟨L, a, q', hl, rfl, rfl, rfl, hq, ha⟩
      · cases h
    · cases h
theorem linRes_get {σ : St} {L : Lin} {a : AV} {q : LR} (h : linRes σ L a = some q) : ∃ o, σ.heap.get q.id = some o ∧ (∀ c t, o ≠ .box c t) := by
  rcases (linRes_obj h).2 with ⟨_, c, base, lim, since, _, _, _, ho, _⟩ | ⟨o, hoo, _, _, rfl⟩
  · exact ⟨_, ho, fun _ _ h => by cases h⟩
  · unfold ownOf at hoo
    split at hoo
    · split at hoo
      · rename_i ho
        rw [cond_eq_ite] at hoo
        split at hoo
        · simp only [Option.some.injEq] at hoo; subst hoo
          exact ⟨_, ho, fun _ _ h => by cases h⟩
        · cases hoo
      · cases hoo
    · cases hoo
theorem boxArgs_box {R : Nat} {ρ : List RE} {σ : St} : ∀ {ids : List Nat} {m : List (List AV × TypeId)} {e : Eqs} {rd : List Nat}, boxArgs R ρ σ ids m = some (e, rd) → ids.length = m.length ∧
    ∀ (k i : Nat), ids[k]? = some i → R ≤ i ∧ ∃ (c : List AV) (b : List AV × TypeId) (e' : Eqs) (rd' : List Nat), m[k]? = some b ∧ σ.heap.get i = some (.box c b.2) ∧ pAL R ρ none σ c b.1 = some (e', rd') ∧ (∀ p ∈ e', p ∈ e) ∧ (∀ p ∈ rd', p ∈ rd) := by
  intro ids
  induction ids with
  | nil =>
    intro m e rd h
    cases m with
    | nil => exact ⟨rfl, fun k i h => by simp at h⟩
    | cons => simp [boxArgs] at h
  | cons i l ih =>
    intro m e rd h
    cases m with
    | nil => simp [boxArgs] at h
    | cons b m =>
      obtain ⟨c', t'⟩ := b
      simp only [boxArgs] at h
      split at h
      · rename_i c t hob
        rw [cond_eq_ite] at h
        split at h
        · rename_i hb
          simp only [Bool.and_eq_true] at hb
          have := beq_t hb.1; subst this
          split at h
          · rename_i p a q d hp hq
            simp only [Option.some.injEq, Prod.mk.injEq] at h
            obtain ⟨rfl, rfl⟩ := h
            obtain ⟨h1, h2⟩ := ih hq
            refine ⟨by simp [h1], fun k j hk => ?_⟩
            cases k with
            | zero =>
              simp only [List.getElem?_cons_zero, Option.some.injEq] at hk; subst hk
              exact ⟨ble_t hb.2, c, _, p, a, rfl, hob, hp, fun x hx => List.mem_append_left _ hx, fun x hx => List.mem_append_left _ hx⟩
            | succ k =>
              obtain ⟨g1, c2, b2, e2, r2, g2, g3, g4, g5, g6⟩ := h2 k j (by simpa using hk)
              exact ⟨g1, c2, b2, e2, r2, by simpa using g2, g3, g4, fun x hx => List.mem_append_right _ (g5 x hx), fun x hx => List.mem_append_right _ (g6 x hx)⟩
          · cases h
        · cases h
      · cases h
theorem try_ret {R : Nat} {dec : Bx → Option Bool} {c : Con} {args : List AV} {σ : St} (h : c.try R dec args σ ≠ .no) : ∃ ids q lk e0 e rd e2 rd2 l, linTry R c args σ = some (q, lk, e0) ∧ nodupB ids = true ∧ R + c.bin.length + c.nl ≤ σ.next ∧ pAL R (reOf R ids 0) lk σ args c.args = some (e, rd) ∧
    boxArgs R (reOf R ids 0) σ ids c.bin = some (e2, rd2) ∧ namesOf (e0 ++ (e ++ e2)) = some l ∧ namesOk (nameAt l) l = true ∧ preOk dec (nameAt l) c.pre = true ∧ c.ok R = true ∧ (∀ i ∈ LR.ids q, R ≤ i ∧ i ∉ rd ++ rd2) ∧ c.try R dec args σ = c.ret R (nameAt l) ids (rd ++ rd2) q σ := by
  unfold Con.try at h ⊢
  split at h
  · rename_i ids q lk e0 hids hlt
    rw [cond_eq_ite] at h
    split at h
    · rename_i hb0
      simp only [Bool.and_eq_true] at hb0
      split at h
      · rename_i e rd e2 rd2 he he2
        split at h
        · rename_i l hl
          rw [cond_eq_ite] at h
          split at h
          · rename_i hb
            simp only [Bool.and_eq_true] at hb
            refine ⟨ids, q, lk, e0, e, rd, e2, rd2, l, hlt, hb0.1, ble_t hb0.2, he, he2, hl, hb.1, hb.2.1, hb.2.2.1, fun i hi => ?_, by simp only [hids, hlt, he, he2, hl, hb0.1, hb0.2, hb.1, hb.2.1, hb.2.2.1, hb.2.2.2, Bool.and_self, cond_true]⟩
            have := List.all_eq_true.1 hb.2.2.2 i hi
            simp only [Bool.and_eq_true, Bool.not_eq_true', List.any_eq_false] at this
            exact ⟨ble_t this.1, fun hm => this.2 i hm (Nat.beq_refl _)⟩
          · exact absurd rfl h
        · exact absurd rfl h
      · exact absurd rfl h
    · exact absurd rfl h
  · exact absurd rfl h
theorem conHk_ret {R : Nat} {dec : Bx → Option Bool} : ∀ {l : List Con} {f : FuncId} {args : List AV} {σ : St}, conHk R dec l f args σ = .no ∨ ∃ c ∈ l, c.f = f ∧ c.try R dec args σ ≠ .no ∧ conHk R dec l f args σ = c.try R dec args σ := by
  intro l
  induction l with
  | nil => intro f args σ; exact .inl rfl
  | cons c l ih =>
    intro f args σ
    simp only [conHk]
    rw [cond_eq_ite]
    split
    · rename_i hb
      split
      · rcases ih (f := f) (args := args) (σ := σ) with h | ⟨c', h1, h2⟩
        · exact .inl h
        · exact .inr ⟨c', List.mem_cons_of_mem _ h1, h2⟩
      · rename_i hne
        exact .inr ⟨c, by simp, beq_t hb, hne, rfl⟩
    · rcases ih (f := f) (args := args) (σ := σ) with h | ⟨c', h1, h2⟩
      · exact .inl h
      · exact .inr ⟨c', List.mem_cons_of_mem _ h1, h2⟩
theorem conHk_steps {R : Nat} {dec : Bx → Option Bool} (l : List Con) {gl : Nat → Option Nat} {b : Base} {p : Dcs} : HkSteps (cfgP gl b p (conHk R dec l)) := by
  intro f args σ
  show (conHk R dec l f args σ).steps σ
  rcases conHk_ret (R := R) (dec := dec) (l := l) (f := f) (args := args) (σ := σ) with h | ⟨c, _, _, h1, h2⟩
  · rw [h]; simp [CR.steps, CR.st]
  · rw [h2]
    obtain ⟨ids, q, lk, e0, e, rd, e2, rd2, l', g0, _, _, _, g4, _, _, _, _, _, h3⟩ := try_ret h1
    rw [h3]
    intro τ hτ
    simp only [Con.ret, CR.st, Option.some.injEq] at hτ
    subst hτ
    refine conRet_step (R := R) (c := c) (θ := nameAt l') (ids := ids) (rd := rd ++ rd2) (q := q) rfl fun i hi => ?_
    rcases List.mem_append.1 hi with hi | hi
    · obtain ⟨k, hk, rfl⟩ := List.getElem_of_mem hi
      obtain ⟨_, c, b, _, _, _, h, _⟩ := (boxArgs_box g4).2 k _ (List.getElem?_eq_getElem hk)
      exact ⟨_, h⟩
    · rcases linTry_ok g0 with ⟨_, rfl, _⟩ | ⟨L, a, q', _, rfl, _, _, hq, _⟩
      · cases hi
      · simp only [LR.ids, List.mem_singleton] at hi; subst hi
        obtain ⟨o, ho, _⟩ := linRes_get hq
        exact ⟨o, ho⟩
end
noncomputable def binL : List (List AV × TypeId) → Nat → List (Nat × Ob)
  | [], _ => []
  | b :: l, i => (i, .box b.1 b.2) :: binL l (i + 1)
noncomputable def linL (L : Option Lin) (i : Nat) : List (Nat × Ob) := match L with
  | some L => [(i, .opq 2 0 gid (.slc L.l) L.x L.y [] L.t)]
  | none => []
noncomputable def Con.start (b : Base) (R : Nat) (c : Con) : St := toldSt b (binL c.bin R ++ linL c.lin (R + c.bin.length)) (R + c.bin.length + c.nl)
def Con.Sound (F : Nat → Dat → Dat → Dat → Dat) (P : Program) (gl : Nat → Option Nat) (b : Base) (R : Nat) (c : Con) : Prop :=
  ∀ v : Val, v.fn = F → @Holds v c.pre → ∀ (w : World) (φ : PM) (args' : Array Value), Hold v gl b R 0 .leaf (c.start b R) { tmps := #[], defers := [] } w φ → @VRL v φ c.args args'.toList →
    Calls P c.f args' w fun e w' => ∃ φ' x, e = .returned x ∧ @VR v φ' c.res x ∧ Trans R c.nr c.bin.length φ w φ' w' ∧ WF R φ' w' ∧ (∀ k o, c.objs[k]? = some o → @Rep v R φ' w' (R + c.bin.length + c.nl + k) (some o)) ∧
      (∀ k l q, c.bout[k]? = some l → c.bin[k]? = some q → @Rep v R φ' w' (R + k) (some (.box l q.2))) ∧ ∀ L, c.lin = some L → @Rep v R φ' w' (R + c.bin.length) (some (.opq 2 0 gid (.slc L.l) L.ox L.oy [] L.t))
theorem nameOf_ok {v : Val} {θ : Nat → Sx} {p : Sx × Sx} {i : Nat} {e : Sx} (h : nameOf p = some (i, e)) (hs : (θ i).same e = true) : @Sx.dat v p.1 = @Sx.dat (v.at θ) p.2 := by
  have hse := Sx.same_eq hs
  unfold nameOf at h
  split at h
  · simp only [Option.some.injEq, Prod.mk.injEq] at h
    obtain ⟨rfl, rfl⟩ := h
    show _ = @Sx.dat v (θ _)
    rw [hse]
  · rename_i a f j c
    rw [cond_eq_ite] at h
    split at h
    · rename_i hb
      simp only [Bool.and_eq_true] at hb
      have := beq_t hb.1; subst this
      simp only [Option.some.injEq, Prod.mk.injEq] at h
      obtain ⟨rfl, rfl⟩ := h
      show @Sx.dat v a = .int (@Sx.dat v (θ j)).toI
      rw [hse]
      have hi := hb.2
      unfold intS? at hi
      split at hi
      · rfl
      · have := beq_t hi; subst this; rfl
      · cases hi
    · cases h
  · cases h
theorem namesOf_ok {v : Val} {θ : Nat → Sx} : ∀ {e : Eqs} {l : List (Nat × Sx)}, namesOf e = some l → namesOk θ l = true → EqsOk v (v.at θ) e := by
  intro e
  induction e with
  | nil => intro l _ _ p hp; cases hp
  | cons q e ih =>
    intro l h hk p hp
    simp only [namesOf] at h
    split at h
    · rename_i a c ha hc
      simp only [Option.some.injEq] at h; subst h
      simp only [namesOk, List.all_cons, Bool.and_eq_true] at hk
      obtain ⟨i, x⟩ := a
      rcases List.mem_cons.1 hp with rfl | hp
      · exact nameOf_ok ha hk.1
      · exact ih hc hk.2 p hp
    · cases h
section
variable {v : Val} {R : Nat} {φ : PM} {w : World} {σ : St} {D : Nat → Prop}
theorem callPM_le {gl : Nat → Option Nat} {b : Base} (hb : BaseOk gl b R) {p : Dcs} {hk : FuncId → List AV → St → CR} (hi : @Inv v R (cfgP gl b p hk) D φ σ w) {bx : List Nat} {lst : Option Ext} (hbx : ∀ i ∈ bx, R ≤ i) (hls : ∀ e, lst = some e → ∃ i u f, R ≤ i ∧ φ i u = some f ∧ f.blk = e.blk) : (φ.low R).le (callPM φ R w bx lst) := by
  intro i u e he
  unfold PM.low at he
  split at he
  · rename_i hlt
    by_cases hg : i = gid
    · subst hg
      obtain ⟨ver, cid, sh, x, y, t, hgb⟩ := hb.gid_at
      have hr := hi.ro gid hlt
      have hr : @Rep v R (φ.low R) w gid (b.get gid) := hr
      rw [hgb] at hr
      obtain ⟨h0, bt, fr, hblk⟩ := hr u e (by rw [PM.low_lt _ hlt]; exact he)
      have hnb : ¬ Boxed φ bx lst u := by
        have heb : e.blk = u := by rw [h0]
        rintro (⟨id, hid, t, f, hf, hfb⟩ | ⟨g, hg, hgb⟩)
        · rcases hi.wf.inj _ _ _ _ _ _ hf he (hfb.trans heb.symm) with h | h
          · have := hbx id hid; omega
          · have := hbx id hid; omega
        · obtain ⟨id, t, f, hid, hf, hfb⟩ := hls g hg
          rcases hi.wf.inj _ _ _ _ _ _ hf he ((hfb.trans hgb).trans heb.symm) with h | h
          · omega
          · omega
      rw [h0] at hblk ⊢
      have hblk : w.heap[u]? = some (.cells e.snap.toArray bt fr) := hblk
      simp [callPM, hblk, hnb]
    · simp [callPM, hg, hlt, he]
  · cases he
theorem callPM_pict {b : Nat} {c : Array Value} {t : TypeId} {fr : Nat × Nat} {bx : List Nat} {lst : Option Ext} (hn : ¬ Boxed φ bx lst b) (h : w.heap[b]? = some (.cells c t fr)) : Pict (callPM φ R w bx lst) gid b c.toList :=
  ⟨gid, b, ⟨b, 0, 0, 0, 0, c.toList⟩, .inl rfl, by simp [callPM, h, hn], rfl, rfl⟩
theorem flat_gc {pc : Nat → List Value → Prop} {c : Nat} {s : Sh} {d : Dat} {z : Value} (hf : flatSh s = true) (hc : CellOk s d) (h : @VR v φ (litAV c s d) z) : GC pc s d z := by
  cases s with
  | int k =>
    have h : @VR v φ (.int k d.toI) z := h
    cases h; exact .int k d
  | bool =>
    have h : @VR v φ (.bool (d.toI != 0)) z := h
    cases h; exact .bool d
  | str =>
    obtain ⟨s, rfl⟩ := hc
    have h : @VR v φ (.str s) z := h
    cases h; exact .str s
  | slc l => simp [flatSh] at hf
theorem listArg_ok {gl : Nat → Option Nat} {b : Base} (hb : BaseOk gl b R) {p : Dcs} {hk : FuncId → List AV → St → CR} (hi : @Inv v R (cfgP gl b p hk) D φ σ w) {bx : List Nat} (hbx : ∀ i ∈ bx, R ≤ i ∧ ∃ c t, σ.heap.get i = some (.box c t)) {lst : Option Ext} {lic : List Nat} (hls : ∀ e, lst = some e → ∃ i u f, R ≤ i ∧ i ∈ lic ∧ φ i u = some f ∧ f.blk = e.blk) {v' : Val} {l' : List Sh} {x' y' : Sx} {ver : Nat} {a : AV} {z : Value} {e : Eqs} {rd : List Nat}
    (h : listArg σ l' x' a = some (e, rd)) (he : EqsOk v v' e) (hv : @VR v φ a z) (hd : ∀ i ∈ rd, i ∉ lic ∧ (i < σ.next → D i)) : @VR v' (callPM φ R w bx lst) (.opq 0 gid ver (.slc l') x' y') z := by
  have hle := callPM_le hb hi (bx := bx) (lst := lst) (fun i hi => (hbx i hi).1) fun e he => let ⟨i, u, f, h1, _, h2⟩ := hls e he; ⟨i, u, f, h1, h2⟩
  unfold listArg at h
  split at h
  · rename_i k id ver' l x y
    rw [cond_eq_ite] at h
    split at h
    · rename_i hk
      have := beq_t hk; subst this
      simp only [cond_eq_ite, Bool.and_eq_true] at h
      split at h
      · rename_i hb'
        have := beq_t hb'.1; subst this
        have := Sh.sameL_eq hb'.2; subst this
        simp only [Option.some.injEq, Prod.mk.injEq] at h
        obtain ⟨rfl, rfl⟩ := h
        cases hv with
        | opq _ hk =>
          obtain ⟨l2, a, n, c, hl, rfl, hg⟩ := hk
          simp only [Sh.slc.injEq] at hl; subst hl
          refine @VR.opq v' _ _ _ _ _ _ _ _ ⟨l, a, n, c, rfl, rfl, ?_⟩
          rw [← he (x, x') (by simp)]
          refine hg.mono fun bb s hp => Pict.mono hle ?_
          obtain ⟨j, n, e, hj, h1, h2⟩ := hp
          have : j = gid := hj.elim id id
          subst this
          exact ⟨gid, n, e, .inl rfl, by rw [PM.low_lt _ hb.gid_lt]; exact h1, h2⟩
      · cases h
    · split at h
      · rename_i o hoo
        simp only [cond_eq_ite, Bool.and_eq_true] at h
        split at h
        · rename_i hb'
          have := Sh.sameL_eq hb'.1; subst this
          simp only [Option.some.injEq, Prod.mk.injEq] at h
          obtain ⟨rfl, rfl⟩ := h
          obtain ⟨z0, _, ho, hl0⟩ := @ownOf_ok σ _ _ hoo
          have hi0 := @Inv.inv0 v _ _ _ _ _ _ hi
          have hdd : D o.id := (hd o.id (by simp)).2 (@Inv0.lt v _ _ _ _ _ hi0 _ _ ho)
          obtain ⟨rows, hx, hr, hor⟩ := @own_val v R D φ σ w hi0 _ _ _ hoo hv hdd
          have hxe := he (o.x, x') (by simp)
          simp only at hxe
          rw [hx] at hxe
          rcases hor with ⟨bb, rfl, _, rfl, _⟩ | ⟨ex, c, rfl, _, hφ, hdn, hhi, hc, hbs, har⟩
          · refine @VR.opq v' _ _ _ _ _ _ _ _ ⟨o.l, bb, 0, 0, rfl, rfl, ?_⟩
            rw [← hxe]
            exact .none o.l bb 0
          · obtain ⟨ex2, cs, fl, fh, q1, q2, q3, q4, q5, q6⟩ := @own_block v R φ w _ _ _ _ _ _ har
            rw [hφ] at q1; simp only [Option.some.injEq] at q1; subst q1
            have hlen := litRows_length o.cid o.l rows (rows_len hr)
            refine @VR.opq v' _ _ _ _ _ _ _ _ ⟨o.l, _, rows.length, c, rfl, rfl, ?_⟩
            rw [← hxe]
            have hnb : ¬ Boxed φ bx lst ex.blk := by
              rintro (⟨id, hid, t, f, hf, hfb⟩ | ⟨g, hg, hgb⟩)
              · obtain ⟨hR, bc, bt, hbo⟩ := hbx id hid
                rcases (@Inv0.wf v _ _ _ _ _ hi0).inj _ _ _ _ _ _ hf hφ hfb with h | h
                · rw [h, ho] at hbo; cases hbo
                · omega
              · obtain ⟨id, t, f, hR, hil, hf, hfb⟩ := hls g hg
                rcases (@Inv0.wf v _ _ _ _ _ hi0).inj _ _ _ _ _ _ hf hφ (hfb.trans hgb) with h | h
                · rw [h] at hil
                  exact (hd o.id (by simp)).1 hil
                · omega
            have hget : ∀ (i j : Nat) (hi' : i < rows.length) (hj : j < o.l.length), ∃ s d zz, o.l[j]? = some s ∧ (rows[i])[j]? = some d ∧ cs[ex.up + i * o.l.length + j]? = some zz ∧ CellOk s d ∧ @VR v φ (litAV o.cid s d) zz := by
              intro i j hi' hj
              have hrow : rows[i]? = some rows[i] := List.getElem?_eq_getElem hi'
              have hsj : o.l[j]? = some o.l[j] := List.getElem?_eq_getElem hj
              obtain ⟨dd, hdd⟩ : ∃ d, (rows[i])[j]? = some d := ⟨_, List.getElem?_eq_getElem (by rw [(hr _ (List.getElem_mem hi')).1]; exact hj)⟩
              have k1 := litRows_get o.cid o.l rows (rows_len hr) i j _ hrow hj
              rw [litRow_get o.cid o.l _ _ _ _ hsj hdd] at k1
              have hpos : i * o.l.length + j < rows.length * o.l.length := by
                have := Nat.mul_le_mul_right o.l.length (show i + 1 ≤ rows.length from hi')
                rw [Nat.add_mul] at this; omega
              obtain ⟨zz, z1, z2⟩ := q6 _ _ (by omega) (by omega) k1
              exact ⟨_, dd, zz, hsj, hdd, by rw [← z1]; congr 1; omega, (hr _ (List.getElem_mem hi')).2 _ _ _ hsj hdd, z2⟩
            refine .slc ex.blk cs.toList ex.up c (fun i j => (cs[ex.up + i * o.l.length + j]?).getD undef) (callPM_pict hnb q2) hc (fun i row hrow => (hr row (List.mem_of_getElem? hrow)).1) (fun i j hi' hj => ?_) (fun i row j s d hrow hs hdd => ?_)
            · obtain ⟨s, d, zz, _, _, h3, _⟩ := hget i j hi' hj
              rw [Array.getElem?_toList, h3]; rfl
            · have hi' : i < rows.length := by
                rcases Nat.lt_or_ge i rows.length with h | h
                · exact h
                · rw [List.getElem?_eq_none h] at hrow; cases hrow
              have hj : j < o.l.length := by
                rcases Nat.lt_or_ge j o.l.length with h | h
                · exact h
                · rw [List.getElem?_eq_none h] at hs; cases hs
              obtain ⟨s', d', zz, h1, h2, h3, h4, h5⟩ := hget i j hi' hj
              rw [hs] at h1; simp only [Option.some.injEq] at h1; subst h1
              rw [List.getElem?_eq_getElem hi'] at hrow; simp only [Option.some.injEq] at hrow; subst hrow
              rw [hdd] at h2; simp only [Option.some.injEq] at h2; subst h2
              have hfs : flatSh s = true := List.all_eq_true.1 hb'.2 s (List.mem_of_getElem? hs)
              simp only [h3, Option.getD_some]
              exact flat_gc hfs h4 h5
        · cases h
      · cases h
  · simp only [Option.some.injEq, Prod.mk.injEq] at h
    obtain ⟨rfl, rfl⟩ := h
    cases hv
    refine @VR.opq v' _ _ _ _ _ _ _ _ ⟨l', none, 0, 0, rfl, rfl, ?_⟩
    rw [← he (.pr 13 (.lit 0) (.lit 0), x') (by simp)]
    exact .none l' none 0
  · cases h
theorem reOf_fnd : ∀ {ids : List Nat} {k i : Nat} {r : RE}, fnd (reOf R ids k) i = some r → ∃ j, ids[j]? = some r.ido ∧ i = R + (k + j) ∧ r.ver = 0 ∧ r.n = 0 := by
  intro ids
  induction ids with
  | nil => intro k i r h; simp [reOf, fnd] at h
  | cons x l ih =>
    intro k i r h
    simp only [reOf, fnd, cond_eq_ite] at h
    split at h
    · rename_i hb
      simp only [Option.some.injEq] at h; subst h
      exact ⟨0, rfl, (beq_t hb).symm, rfl, rfl⟩
    · obtain ⟨j, h1, h2, h3⟩ := ih h
      exact ⟨j + 1, by simpa using h1, by omega, h3⟩
theorem reMap_le {gl : Nat → Option Nat} {b : Base} (hb : BaseOk gl b R) {p : Dcs} {hk : FuncId → List AV → St → CR} (hi : @Inv v R (cfgP gl b p hk) D φ σ w) {bx : List Nat} (hbx : ∀ i ∈ bx, R ≤ i ∧ ∃ c t, σ.heap.get i = some (.box c t)) {lst : Option Ext} (hls : ∀ e, lst = some e → ∃ i u f, R ≤ i ∧ φ i u = some f ∧ f.blk = e.blk) :
    (reMap R (reOf R bx 0) φ).le (callPM φ R w bx lst) := by
  intro i u f hf
  by_cases hlt : i < R
  · rw [reMap_low i hlt] at hf
    exact callPM_le hb hi (fun i hi => (hbx i hi).1) hls i u f (by rw [PM.low_lt _ hlt]; exact hf)
  · obtain ⟨rfl, r, f', h1, h2, rfl⟩ := reMap_some (by omega) hf
    obtain ⟨j, g1, g2, g3, g4⟩ := reOf_fnd h1
    rw [g4, Ext.upto_zero]
    have hg : i ≠ gid := by have := hb.gid_lt; omega
    rw [g3] at h2
    have : i - R = j := by omega
    have hj : j < bx.length := by
      rcases Nat.lt_or_ge j bx.length with h | h
      · exact h
      · rw [List.getElem?_eq_none h] at g1; cases g1
    have hne : ¬ i = R + bx.length := by omega
    simp [callPM, hg, hlt, hne, this, g1, h2]
theorem pAV_base {gl : Nat → Option Nat} {b : Base} (hb : BaseOk gl b R) {p : Dcs} {hk : FuncId → List AV → St → CR} (hi : @Inv v R (cfgP gl b p hk) D φ σ w) {bx : List Nat} (hbx : ∀ i ∈ bx, R ≤ i ∧ ∃ c t, σ.heap.get i = some (.box c t)) {lst : Option Ext} {lic : List Nat} (hls : ∀ e, lst = some e → ∃ i u f, R ≤ i ∧ i ∈ lic ∧ φ i u = some f ∧ f.blk = e.blk) {v' : Val} {lk : Option LA} (hlk : ∀ q, lk = some q → ∀ x' z, @VR v φ q.act z → @VR v' (callPM φ R w bx lst) (.opq 2 q.lid 0 (.slc q.l) x' q.y) z) {a q : AV} {z : Value} {e : Eqs} {rd : List Nat}
    (h : pAB R (reOf R bx 0) lk σ a q = some (e, rd)) (he : EqsOk v v' e) (hv : @VR v φ a z) (hd : ∀ i ∈ rd, i ∉ lic ∧ (i < σ.next → D i)) : @VR v' (callPM φ R w bx lst) q z := by
  unfold pAB at h
  split at h
  · rename_i k id ver l' x' y'
    rw [cond_eq_ite] at h
    split at h
    · rename_i hk
      simp only [Bool.and_eq_true] at hk
      have := beq_t hk.1; subst this
      have := beq_t hk.2; subst this
      exact listArg_ok hb hi hbx hls h he hv hd
    · split at h
      · rename_i q0
        simp only [cond_eq_ite, Bool.and_eq_true] at h
        split at h
        · rename_i hb2
          obtain ⟨c1, c2, c3, c4, c5, c6⟩ := hb2
          have := beq_t c1; subst this
          have := beq_t c2; subst this
          have := beq_t c3; subst this
          have := AV.same_eq c4; subst this
          have := Sh.sameL_eq c5; subst this
          have := Sx.same_eq c6; subst this
          exact hlk q0 rfl _ _ hv
        · cases h
      · cases h
  · cases hm : mAV R (reOf R bx 0) a q with
    | none => rw [hm] at h; cases h
    | some e' =>
      rw [hm] at h
      simp only [Option.map_some, Option.some.injEq, Prod.mk.injEq] at h
      obtain ⟨rfl, rfl⟩ := h
      have := mAV_ok (v := v) (v' := v') (φ := φ) hm he hv
      exact @VR.mono v' _ _ (reMap_le hb hi hbx fun e he => let ⟨i, u, f, h1, _, h2⟩ := hls e he; ⟨i, u, f, h1, h2⟩) _ _ this
mutual
theorem pAV_ok {gl : Nat → Option Nat} {b : Base} (hb : BaseOk gl b R) {p : Dcs} {hk : FuncId → List AV → St → CR} (hi : @Inv v R (cfgP gl b p hk) D φ σ w) {bx : List Nat} (hbx : ∀ i ∈ bx, R ≤ i ∧ ∃ c t, σ.heap.get i = some (.box c t)) {lst : Option Ext} {lic : List Nat} (hls : ∀ e, lst = some e → ∃ i u f, R ≤ i ∧ i ∈ lic ∧ φ i u = some f ∧ f.blk = e.blk) {v' : Val} {lk : Option LA} (hlk : ∀ q, lk = some q → ∀ x' z, @VR v φ q.act z → @VR v' (callPM φ R w bx lst) (.opq 2 q.lid 0 (.slc q.l) x' q.y) z) : ∀ {a q : AV} {z : Value} {e : Eqs} {rd : List Nat},
    pAV R (reOf R bx 0) lk σ a q = some (e, rd) → EqsOk v v' e → @VR v φ a z → (∀ i ∈ rd, i ∉ lic ∧ (i < σ.next → D i)) → @VR v' (callPM φ R w bx lst) q z
  | .agg l, q, z, e, rd, h, he, hv, hd => by
    cases q <;> simp only [pAV, reduceCtorEq] at h
    cases hv with
    | agg l' g => exact @VR.agg v' _ _ _ (pAL_ok hb hi hbx hls hlk h he g hd)
  | .sym .., q, z, e, rd, h, he, hv, hd => pAV_base hb hi hbx hls hlk (by simpa [pAV] using h) he hv hd
  | .symb .., q, z, e, rd, h, he, hv, hd => pAV_base hb hi hbx hls hlk (by simpa [pAV] using h) he hv hd
  | .vstr .., q, z, e, rd, h, he, hv, hd => pAV_base hb hi hbx hls hlk (by simpa [pAV] using h) he hv hd
  | .opq .., q, z, e, rd, h, he, hv, hd => pAV_base hb hi hbx hls hlk (by simpa [pAV] using h) he hv hd
  | .tup .., q, z, e, rd, h, he, hv, hd => pAV_base hb hi hbx hls hlk (by simpa [pAV] using h) he hv hd
  | .bool .., q, z, e, rd, h, he, hv, hd => pAV_base hb hi hbx hls hlk (by simpa [pAV] using h) he hv hd
  | .int .., q, z, e, rd, h, he, hv, hd => pAV_base hb hi hbx hls hlk (by simpa [pAV] using h) he hv hd
  | .str .., q, z, e, rd, h, he, hv, hd => pAV_base hb hi hbx hls hlk (by simpa [pAV] using h) he hv hd
  | .nilp, q, z, e, rd, h, he, hv, hd => pAV_base hb hi hbx hls hlk (by simpa [pAV] using h) he hv hd
  | .nils, q, z, e, rd, h, he, hv, hd => pAV_base hb hi hbx hls hlk (by simpa [pAV] using h) he hv hd
  | .nilm, q, z, e, rd, h, he, hv, hd => pAV_base hb hi hbx hls hlk (by simpa [pAV] using h) he hv hd
  | .nilfn, q, z, e, rd, h, he, hv, hd => pAV_base hb hi hbx hls hlk (by simpa [pAV] using h) he hv hd
  | .nili, q, z, e, rd, h, he, hv, hd => pAV_base hb hi hbx hls hlk (by simpa [pAV] using h) he hv hd
  | .ptr .., q, z, e, rd, h, he, hv, hd => pAV_base hb hi hbx hls hlk (by simpa [pAV] using h) he hv hd
  | .slc .., q, z, e, rd, h, he, hv, hd => pAV_base hb hi hbx hls hlk (by simpa [pAV] using h) he hv hd
  | .map .., q, z, e, rd, h, he, hv, hd => pAV_base hb hi hbx hls hlk (by simpa [pAV] using h) he hv hd
  | .yld .., q, z, e, rd, h, he, hv, hd => pAV_base hb hi hbx hls hlk (by simpa [pAV] using h) he hv hd
  | .fn .., q, z, e, rd, h, he, hv, hd => pAV_base hb hi hbx hls hlk (by simpa [pAV] using h) he hv hd
  | .iface .., q, z, e, rd, h, he, hv, hd => pAV_base hb hi hbx hls hlk (by simpa [pAV] using h) he hv hd
  | .sslc .., q, z, e, rd, h, he, hv, hd => pAV_base hb hi hbx hls hlk (by simpa [pAV] using h) he hv hd
  | .sstr .., q, z, e, rd, h, he, hv, hd => pAV_base hb hi hbx hls hlk (by simpa [pAV] using h) he hv hd
  | .anyp, q, z, e, rd, h, he, hv, hd => pAV_base hb hi hbx hls hlk (by simpa [pAV] using h) he hv hd
  | .unk, q, z, e, rd, h, he, hv, hd => pAV_base hb hi hbx hls hlk (by simpa [pAV] using h) he hv hd
theorem pAL_ok {gl : Nat → Option Nat} {b : Base} (hb : BaseOk gl b R) {p : Dcs} {hk : FuncId → List AV → St → CR} (hi : @Inv v R (cfgP gl b p hk) D φ σ w) {bx : List Nat} (hbx : ∀ i ∈ bx, R ≤ i ∧ ∃ c t, σ.heap.get i = some (.box c t)) {lst : Option Ext} {lic : List Nat} (hls : ∀ e, lst = some e → ∃ i u f, R ≤ i ∧ i ∈ lic ∧ φ i u = some f ∧ f.blk = e.blk) {v' : Val} {lk : Option LA} (hlk : ∀ q, lk = some q → ∀ x' z, @VR v φ q.act z → @VR v' (callPM φ R w bx lst) (.opq 2 q.lid 0 (.slc q.l) x' q.y) z) : ∀ {a q : List AV} {z : List Value} {e : Eqs} {rd : List Nat},
    pAL R (reOf R bx 0) lk σ a q = some (e, rd) → EqsOk v v' e → @VRL v φ a z → (∀ i ∈ rd, i ∉ lic ∧ (i < σ.next → D i)) → @VRL v' (callPM φ R w bx lst) q z
  | [], q, z, e, rd, h, he, hv, hd => by
    cases q <;> simp only [pAL, reduceCtorEq] at h
    cases hv; exact @VRL.nil v' _
  | a :: l, q, z, e, rd, h, he, hv, hd => by
    cases q <;> simp only [pAL, reduceCtorEq] at h
    split at h
    · rename_i p1 r1 p2 r2 h1 h2
      simp only [Option.some.injEq, Prod.mk.injEq] at h
      obtain ⟨rfl, rfl⟩ := h
      cases hv with
      | cons g1 g2 => exact @VRL.cons v' _ _ _ _ _ (pAV_ok hb hi hbx hls hlk h1 he.app.1 g1 fun i hi' => hd i (List.mem_append_left _ hi')) (pAL_ok hb hi hbx hls hlk h2 he.app.2 g2 fun i hi' => hd i (List.mem_append_right _ hi'))
    · cases h
end
end
end Go.Tw
