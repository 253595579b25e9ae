/-
  A part of the proof that the abstract evaluator is sound for the model's machine. Conditions: those of each theorem, as it states them.
-/
import Derived.Test.YtgcpcgaigbnniaaGreatTwK
set_option linter.all false
namespace Go.Tw
open Go.ChangeShapes Go.RowKit
/-! Contracts of functions that only read what is given and make lists of their own. -/
structure Lin where
  l : List Sh
  t : TypeId
  x : Sx
  y : Sx
  ox : Sx
  oy : Sx
structure Con where
  f : FuncId
  args : List AV
  pre : Dcs
  res : AV
  objs : List Ob
  nr : Nat := 0
  bin : List (List AV × TypeId) := []
  bout : List (List AV) := []
  lin : Option Lin := none
def Con.nl (c : Con) : Nat := match c.lin with
  | some _ => 1
  | none => 0
structure LK where
  lid : Nat
  idc : Nat
  nv : Nat
def Sx.sub (θ : Nat → Sx) : Sx → Sx
  | .lit n => .lit n
  | .var i => .var i
  | .bin op k a b => .bin op k (a.sub θ) (b.sub θ)
  | .wrap k a => .wrap k (a.sub θ)
  | .dvar i => θ i
  | .slit s => .slit s
  | .pr f a b => .pr f (a.sub θ) (b.sub θ)
  | .ap f a b c => .ap f (a.sub θ) (b.sub θ) (c.sub θ)
  | .cell x i o => .cell (x.sub θ) (i.sub θ) o
  | .setc x i o c => .setc (x.sub θ) (i.sub θ) o (c.sub θ)
  | .dlit d => .dlit d
def Bx.sub (θ : Nat → Sx) : Bx → Bx
  | .cmp op a b => .cmp op (a.sub θ) (b.sub θ)
  | .not b => .not (b.sub θ)
  | .seq a b => .seq (a.sub θ) (b.sub θ)
abbrev Val.at (v : Val) (θ : Nat → Sx) : Val := Val.mk v.num (fun i => @Sx.dat v (θ i)) v.fn
theorem Sx.sub_dat (v : Val) (θ : Nat → Sx) : ∀ e : Sx, @Sx.dat v (e.sub θ) = @Sx.dat (v.at θ) e := by
  intro e
  induction e with
  | lit n => rfl
  | var i => rfl
  | bin op k a b ih1 ih2 => simp only [Sx.sub, Sx.dat, ih1, ih2]
  | wrap k a ih => simp only [Sx.sub, Sx.dat, ih]
  | dvar i => rfl
  | slit s => rfl
  | pr f a b ih1 ih2 => simp only [Sx.sub, Sx.dat, ih1, ih2]
  | ap f a b c ih1 ih2 ih3 => simp only [Sx.sub, Sx.dat, ih1, ih2, ih3]; rfl
  | cell x i o ih1 ih2 => simp only [Sx.sub, Sx.dat, ih1, ih2]
  | setc x i o c ih1 ih2 ih3 => simp only [Sx.sub, Sx.dat, ih1, ih2, ih3]
  | dlit d => rfl
theorem Bx.sub_eval (v : Val) (θ : Nat → Sx) : ∀ b : Bx, @Bx.eval v (b.sub θ) = @Bx.eval (v.at θ) b := by
  intro b
  induction b with
  | cmp op a b => simp only [Bx.sub, Bx.eval, Sx.eval, Sx.sub_dat]
  | not b ih => simp only [Bx.sub, Bx.eval, ih]
  | seq a b => simp only [Bx.sub, Bx.eval, Sx.sub_dat]
mutual
def AV.inst (θ : Nat → Sx) (d : Nat) (lk : Option LK) : AV → AV
  | .sym k e => .sym k (e.sub θ)
  | .symb b => .symb (b.sub θ)
  | .vstr e => .vstr (e.sub θ)
  | .opq k id ver sh x y => match lk with
    | some q => bif Nat.beq id q.lid then .opq k q.idc q.nv sh (x.sub θ) (y.sub θ) else .opq k (id + d) ver sh (x.sub θ) (y.sub θ)
    | none => .opq k (id + d) ver sh (x.sub θ) (y.sub θ)
  | .agg l => .agg (instL θ d lk l)
  | .tup l => .tup (instL θ d lk l)
  | .ptr a b c e => .ptr a b c e
  | .slc a b c e f g => .slc a b c e f g
  | .map a => .map a
  | .yld a => .yld a
  | .fn a b c => .fn a b c
  | .iface a b => .iface a b
  | .bool b => .bool b
  | .int k n => .int k n
  | .sslc e => .sslc e
  | .sstr e => .sstr e
  | .str s => .str s
  | .nilp => .nilp
  | .nils => .nils
  | .nilm => .nilm
  | .anyp => .anyp
  | .unk => .unk
  | .nilfn => .nilfn
  | .nili => .nili
def instL (θ : Nat → Sx) (d : Nat) (lk : Option LK) : List AV → List AV
  | [] => []
  | v :: l => v.inst θ d lk :: instL θ d lk l
end
mutual
def AV.okRes (R nx : Nat) : AV → Bool
  | .sym .. => true
  | .symb _ => true
  | .vstr _ => true
  | .opq k id ver _ _ _ => Nat.beq k 2 && (Nat.ble R id && Nat.blt id nx && Nat.beq ver 0)
  | .agg l => okResL R nx l
  | .tup l => okResL R nx l
  | .bool _ => true
  | .int .. => true
  | .str _ => true
  | .nilp => true
  | .nils => true
  | .nilm => true
  | .nilfn => true
  | .nili => true
  | _ => false
def okResL (R nx : Nat) : List AV → Bool
  | [] => true
  | v :: l => v.okRes R nx && okResL R nx l
end
def Ob.inst (θ : Nat → Sx) : Ob → Ob
  | .opq k ver cid sh x y c t => .opq k ver cid sh (x.sub θ) (y.sub θ) c t
  | o => o
def Ob.okRes : Ob → Bool
  | .opq k ver cid (.slc l) _ _ [] _ => Nat.beq k 2 && (Nat.beq cid gid && (flatL l && Nat.beq ver 0))
  | _ => false
def LkOk (R nx d : Nat) (lk : Option LK) (φ ψ : PM) : Prop := ∀ i e, R ≤ i → i < nx → φ i 0 = some e → (match lk with
  | some q => if i = q.lid then ψ q.idc q.nv = some e else ψ (i + d) 0 = some e
  | none => ψ (i + d) 0 = some e)
section
variable {v : Val} {θ : Nat → Sx} {R nx d : Nat} {lk : Option LK} {φ ψ : PM}
mutual
theorem inst_ok (hm : LkOk R nx d lk φ ψ) : ∀ {y : AV} {x : Value}, y.okRes R nx = true → @VR (v.at θ) φ y x → @VR v ψ (y.inst θ d lk) x
  | .sym k e, x, _, h => by
    cases h
    have : @Sx.eval (v.at θ) e = @Sx.eval v (e.sub θ) := congrArg Dat.toI (Sx.sub_dat v θ e).symm
    rw [this]; exact @VR.sym v _ _ _
  | .symb b, x, _, h => by
    cases h
    rw [← Bx.sub_eval]; exact @VR.symb v _ _
  | .vstr e, x, _, h => by
    cases h with
    | vstr s hs => exact @VR.vstr v _ _ s ((Sx.sub_dat v θ e).trans hs)
  | .opq k id ver sh x0 y0, x, ho, h => by
    simp only [AV.okRes, Bool.and_eq_true] at ho
    have := beq_t ho.1; subst this
    have h1 := ble_t ho.2.1.1
    have h2 := blt_t ho.2.1.2
    have := beq_t ho.2.2; subst this
    cases h with
    | opq _ hk =>
      have key : ∀ i u, (∀ e, φ id 0 = some e → ψ i u = some e) → @VR v ψ (.opq 2 i u sh (x0.sub θ) (y0.sub θ)) x := fun i u hi => by
        refine @VR.opq v _ _ _ _ _ _ _ _ ?_
        rw [Sx.sub_dat, Sx.sub_dat]
        rcases hk with hk | ⟨y1, l, ex, c, n, g1, g2, g3⟩
        · exact .inl hk
        · exact .inr ⟨y1, l, ex, c, n, g1, hi _ g2, g3⟩
      have hmi := fun e he => hm id e h1 h2 he
      cases lk with
      | none => exact key _ _ hmi
      | some q =>
        simp only [AV.inst, cond_eq_ite]
        by_cases hq : id = q.lid
        · subst hq
          rw [if_pos (Nat.beq_refl _)]
          exact key _ _ fun e he => by have := hmi e he; simpa using this
        · rw [if_neg (fun h => hq (beq_t h))]
          exact key _ _ fun e he => by have := hmi e he; simpa [hq] using this
  | .agg l, x, ho, h => by
    simp only [AV.okRes] at ho
    cases h with
    | agg l' g => exact @VR.agg v _ _ _ (instL_ok hm ho g)
  | .tup l, x, ho, h => by
    simp only [AV.okRes] at ho
    cases h with
    | tup l' g => exact @VR.tup v _ _ _ (instL_ok hm ho g)
  | .bool b, x, _, h => by cases h; exact @VR.bool v _ _
  | .int k n, x, _, h => by cases h; exact @VR.int v _ _ _
  | .str s, x, _, h => by cases h; exact @VR.str v _ _
  | .nilp, x, _, h => by cases h; exact @VR.nilp v _
  | .nils, x, _, h => by cases h; exact @VR.nils v _
  | .nilm, x, _, h => by cases h; exact @VR.nilm v _
  | .nilfn, x, _, h => by cases h; exact @VR.nilfn v _
  | .nili, x, _, h => by cases h; exact @VR.nili v _
  | .ptr .., x, ho, h => by simp [AV.okRes] at ho
  | .slc .., x, ho, h => by simp [AV.okRes] at ho
  | .map _, x, ho, h => by simp [AV.okRes] at ho
  | .yld _, x, ho, h => by simp [AV.okRes] at ho
  | .fn .., x, ho, h => by simp [AV.okRes] at ho
  | .iface .., x, ho, h => by simp [AV.okRes] at ho
  | .sslc _, x, ho, h => by simp [AV.okRes] at ho
  | .sstr _, x, ho, h => by simp [AV.okRes] at ho
  | .anyp, x, ho, h => by simp [AV.okRes] at ho
  | .unk, x, ho, h => by simp [AV.okRes] at ho
theorem instL_ok (hm : LkOk R nx d lk φ ψ) : ∀ {y : List AV} {x : List Value}, okResL R nx y = true → @VRL (v.at θ) φ y x → @VRL v ψ (instL θ d lk y) x
  | [], x, _, h => by cases h; exact @VRL.nil v _
  | a :: l, x, ho, h => by
    simp only [okResL, Bool.and_eq_true] at ho
    cases h with
    | cons g1 g2 => exact @VRL.cons v _ _ _ _ _ (inst_ok hm ho.1 g1) (instL_ok hm ho.2 g2)
end
end
end Go.Tw
namespace Go.Tw
open Go.ChangeShapes Go.RowKit
def Boxed (φ : PM) (bx : List Nat) (lst : Option Ext) (u : Nat) : Prop := (∃ id ∈ bx, ∃ t e, φ id t = some e ∧ e.blk = u) ∨ ∃ e, lst = some e ∧ e.blk = u
open Classical in
noncomputable def callPM (φ : PM) (R : Nat) (w : World) (bx : List Nat) (lst : Option Ext) : PM := fun i u => if i = gid then (if Boxed φ bx lst u then none else match w.heap[u]? with
  | some (.cells c _ _) => some ⟨u, 0, 0, 0, 0, c.toList⟩
  | _ => none) else if i < R then φ i u else if u = 0 then (if i = R + bx.length then lst else match bx[i - R]? with
    | some id => φ id 0
    | none => none) else none
noncomputable section
def listArg (σ : St) (l' : List Sh) (x' : Sx) : AV → Option (Eqs × List Nat)
  | .opq k id ver (.slc l) x y => bif Nat.beq k 0 then (bif Nat.beq id gid && Sh.sameL l l' then some ([(x, x')], []) else none)
    else (match ownOf σ (.opq k id ver (.slc l) x y) with
      | some o => bif Sh.sameL o.l l' && flatL l' then some ([(o.x, x')], [o.id]) else none
      | none => none)
  | .nils => some ([(.pr 13 (.lit 0) (.lit 0), x')], [])
  | _ => none
structure LA where
  lid : Nat
  act : AV
  l : List Sh
  y : Sx
def pAB (R : Nat) (ρ : List RE) (lk : Option LA) (σ : St) (a p : AV) : Option (Eqs × List Nat) := match p with
  | .opq k id ver (.slc l') x' y' => bif Nat.beq k 0 && Nat.beq id gid then listArg σ l' x' a else (match lk with
    | some q => bif Nat.beq k 2 && (Nat.beq id q.lid && (Nat.beq ver 0 && (a.same q.act && (Sh.sameL l' q.l && y'.same q.y)))) then some ([], []) else none
    | none => none)
  | p => (mAV R ρ a p).map fun e => (e, [])
mutual
def pAV (R : Nat) (ρ : List RE) (lk : Option LA) (σ : St) : AV → AV → Option (Eqs × List Nat)
  | .agg l, p => match p with
    | .agg l' => pAL R ρ lk σ l l'
    | _ => none
  | a, p => pAB R ρ lk σ a p
def pAL (R : Nat) (ρ : List RE) (lk : Option LA) (σ : St) : List AV → List AV → Option (Eqs × List Nat)
  | [], z => match z with
    | [] => some ([], [])
    | _ => none
  | y :: l, z => match z with
    | [] => none
    | x :: m => match pAV R ρ lk σ y x, pAL R ρ lk σ l m with
      | some (p, a), some (q, c) => some (p ++ q, a ++ c)
      | _, _ => none
end
def intS? : Sx → Bool
  | .lit _ => true
  | .pr f _ _ => Nat.beq f 30
  | _ => false
def boolS? : Sx → Bool
  | .lit (.ofNat n) => Nat.ble n 1
  | .pr f _ _ => Nat.ble 20 f && Nat.ble f 29
  | _ => false
def nameAt : List (Nat × Sx) → Nat → Sx
  | [], _ => .lit 0
  | (i, e) :: l, j => bif Nat.beq i j then e else nameAt l j
def mtch : Sx → Sx → List (Nat × Sx)
  | a, .dvar i => [(i, a)]
  | .bin _ _ a c, .bin _ _ p q => mtch a p ++ mtch c q
  | .wrap _ a, .wrap _ p => mtch a p
  | .pr _ a c, .pr _ p q => mtch a p ++ mtch c q
  | .lit n, .pr _ (.dvar i) _ => [(i, .lit n)]
  | .cell a c _, .cell p q _ => mtch a p ++ mtch c q
  | _, _ => []
def namesL : Eqs → List (Nat × Sx)
  | [] => []
  | (a, p) :: l => mtch a p ++ namesL l
def eqTh (θ : Nat → Sx) (a p : Sx) : Bool := match p with
  | .pr f p' c => bif Nat.beq f 30 then (match a with
    | .pr g a' d => (Nat.beq g 30 && (p'.sub θ).same a') || ((Sx.pr f p' c).sub θ).same (.pr g a' d)
    | .lit n => (p'.sub θ).same (.lit n)
    | a => ((Sx.pr f p' c).sub θ).same a) else ((Sx.pr f p' c).sub θ).same a
  | p => (p.sub θ).same a
def namesOf (e : Eqs) : Option (List (Nat × Sx)) := bif e.all (fun q => eqTh (nameAt (namesL e)) q.1 q.2) then some (namesL e) else none
def namesOk (θ : Nat → Sx) (l : List (Nat × Sx)) : Bool := l.all fun p => (θ p.1).same p.2
def preOk (dec : Bx → Option Bool) (θ : Nat → Sx) (p : Dcs) : Bool := p.all fun q => match dec (q.1.sub θ) with
  | some x => boolB x q.2
  | none => false
def addObs (θ : Nat → Sx) : List Ob → Nat → T Ob → T Ob
  | [], _, h => h
  | o :: l, i, h => addObs θ l (i + 1) (h.set i (o.inst θ))
mutual
def boxRE (R : Nat) : AV → AV → List RE
  | .ptr id ver _ _, p => match p with
    | .ptr id' _ _ _ => bif Nat.ble R id' && Nat.beq ver 0 then [{ idn := id', ido := id, ver := 0 }] else []
    | _ => []
  | .fn _ a c, p => match p with
    | .fn _ a' c' => boxREL R a a' ++ boxREL R c c'
    | _ => []
  | .agg l, p => match p with
    | .agg l' => boxREL R l l'
    | _ => []
  | .tup l, p => match p with
    | .tup l' => boxREL R l l'
    | _ => []
  | .iface _ u, p => match p with
    | .iface _ u' => boxRE R u u'
    | _ => []
  | _, _ => []
def boxREL (R : Nat) : List AV → List AV → List RE
  | [], _ => []
  | y :: l, z => match z with
    | [] => []
    | x :: m => boxRE R y x ++ boxREL R l m
end
def boxIds (l : List RE) (R : Nat) : Nat → Option (List Nat)
  | 0 => some []
  | k + 1 => match boxIds l R k, fnd l (R + k) with
    | some ids, some r => some (ids ++ [r.ido])
    | _, _ => none
def reOf (R : Nat) : List Nat → Nat → List RE
  | [], _ => []
  | i :: l, k => { idn := R + k, ido := i, ver := 0 } :: reOf R l (k + 1)
def boxArgs (R : Nat) (ρ : List RE) (σ : St) : List Nat → List (List AV × TypeId) → Option (Eqs × List Nat)
  | [], [] => some ([], [])
  | i :: l, (c', t') :: m => match σ.heap.get i with
    | some (.box c t) => bif Nat.beq t t' && Nat.ble R i then (match pAL R ρ none σ c c', boxArgs R ρ σ l m with
      | some (p, a), some (q, d) => some (p ++ q, a ++ d)
      | _, _ => none) else none
    | _ => none
  | _, _ => none
mutual
def linAt (lid : Nat) : AV → AV → Option AV
  | .agg l, p => match p with
    | .agg l' => linAtL lid l l'
    | _ => none
  | .tup l, p => match p with
    | .tup l' => linAtL lid l l'
    | _ => none
  | a, p => match p with
    | .opq _ id _ _ _ _ => bif Nat.beq id lid then some a else none
    | _ => none
def linAtL (lid : Nat) : List AV → List AV → Option AV
  | [], _ => none
  | y :: l, z => match z with
    | [] => none
    | x :: m => match linAt lid y x with
      | some a => some a
      | none => linAtL lid l m
end
structure LR where
  id : Nat
  ver : Nat
  e : Sx
  y : Sx
  nv : Nat
  hi : Option Nat
def linRes (σ : St) (L : Lin) (a : AV) : Option LR := bif flatL L.l then (match a with
  | .slc id ver off len _ esz => match σ.heap.get id with
    | some (.arr c base lim since nv t) => bif Nat.beq t L.t && (Nat.beq off 0 && (Nat.beq esz L.l.length && ((Nat.blt 0 esz && Nat.blt 0 len) && (Nat.beq (len * esz) c.length && ((Nat.beq ver base && Nat.beq lim c.length) || (Nat.beq (ver + 1) nv && (Nat.ble since ver && !Nat.beq ver base)))))))
        then (match cvtRows gid L.l len c with
          | some e => some ⟨id, ver, e, .lit 1, nv, some c.length⟩
          | none => none) else none
    | _ => none
  | a => match ownOf σ a with
    | some o => bif Sh.sameL o.l L.l && Nat.beq o.t L.t then some ⟨o.id, o.ver, o.x, o.y, o.ver + 1, none⟩ else none
    | none => none) else none
def Con.ok (R : Nat) (c : Con) : Bool := c.res.okRes (R + c.bin.length) (R + c.bin.length + c.nl + c.objs.length) && (c.objs.all Ob.okRes && (Nat.beq c.bout.length c.bin.length && (Nat.ble c.nr c.bin.length && ((c.bout.drop c.nr).all (okResL (R + c.bin.length) (R + c.bin.length + c.nl + c.objs.length)) && (Nat.beq c.nl 0 || Nat.beq c.objs.length 0)))))
def putBoxes (θ : Nat → Sx) (d : Nat) (lk : Option LK) : List Nat → List (List AV) → List (List AV × TypeId) → T Ob → T Ob
  | i :: l, c :: m, b :: n, h => putBoxes θ d lk l m n (h.set i (.box (instL θ d lk c) b.2))
  | _, _, _, h => h
def wrAll : List Nat → List Nat → List Nat
  | [], wr => wr
  | i :: l, wr => wrAll l (addL i wr)
def Con.lkOf (R : Nat) (c : Con) (q : Option LR) : Option LK := match q with
  | some q => some ⟨R + c.bin.length, q.id, q.nv⟩
  | none => none
def LR.ids : Option LR → List Nat
  | some q => [q.id]
  | none => []
def putLin (θ : Nat → Sx) (q : Option LR) (L : Option Lin) (h : T Ob) : T Ob := match q, L with
  | some q, some L => h.set q.id (.opq 2 q.nv gid (.slc L.l) (L.ox.sub θ) (L.oy.sub θ) [] L.t)
  | _, _ => h
def Con.ret (R : Nat) (c : Con) (θ : Nat → Sx) (ids rd : List Nat) (q : Option LR) (σ : St) : CR :=
  .ret (c.res.inst θ (σ.next - (R + c.bin.length + c.nl)) (c.lkOf R q)) { lgAll (ids.take c.nr ++ rd) σ with
    heap := addObs θ c.objs σ.next (putLin θ q c.lin (putBoxes θ (σ.next - (R + c.bin.length + c.nl)) (c.lkOf R q) (ids.drop c.nr) (c.bout.drop c.nr) (c.bin.drop c.nr) σ.heap)), next := σ.next + c.objs.length, wr := wrAll (ids.drop c.nr ++ LR.ids q) σ.wr }
def linTry (R : Nat) (c : Con) (args : List AV) (σ : St) : Option (Option LR × Option LA × Eqs) := match c.lin with
  | none => some (none, none, [])
  | some L => match linAtL (R + c.bin.length) args c.args with
    | some a => match linRes σ L a with
      | some q => some (some q, some ⟨R + c.bin.length, a, L.l, L.y⟩, [(q.e, L.x), (q.y, L.y)])
      | none => none
    | none => none
def Con.try (R : Nat) (dec : Bx → Option Bool) (c : Con) (args : List AV) (σ : St) : CR := match boxIds (boxREL R args c.args) R c.bin.length, linTry R c args σ with
  | some ids, some (q, lk, e0) => bif nodupB ids && Nat.ble (R + c.bin.length + c.nl) σ.next then (match pAL R (reOf R ids 0) lk σ args c.args, boxArgs R (reOf R ids 0) σ ids c.bin with
    | some (e, rd), some (e2, rd2) => match namesOf (e0 ++ (e ++ e2)) with
      | some l => bif namesOk (nameAt l) l && (preOk dec (nameAt l) c.pre && (c.ok R && (LR.ids q).all fun i => Nat.ble R i && !(rd ++ rd2).any (fun j => Nat.beq i j))) then c.ret R (nameAt l) ids (rd ++ rd2) q σ else .no
      | none => .no
    | _, _ => .no) else .no
  | _, _ => .no
def conHk (R : Nat) (dec : Bx → Option Bool) : List Con → FuncId → List AV → St → CR
  | [], _, _, _ => .no
  | c :: l, f, args, σ => bif Nat.beq c.f f then (match c.try R dec args σ with
    | .no => conHk R dec l f args σ
    | r => r) else conHk R dec l f args σ
theorem addObs_get (θ : Nat → Sx) : ∀ (l : List Ob) (i : Nat) (h : T Ob) (j : Nat), (addObs θ l i h).get j = if i ≤ j ∧ j < i + l.length then (l[j - i]?).map (Ob.inst θ) else h.get j := by
  intro l
  induction l with
  | nil => intro i h j; simp [addObs]; omega
  | cons o l ih =>
    intro i h j
    simp only [addObs]
    rw [ih, T.get_set]
    by_cases h1 : j = i
    · subst h1
      rw [if_neg (by omega), if_pos rfl, if_pos (by simp), Nat.sub_self]; rfl
    · rw [if_neg h1]
      by_cases h2 : i + 1 ≤ j ∧ j < i + 1 + l.length
      · rw [if_pos h2, if_pos (by simp; omega)]
        rw [show j - i = (j - (i + 1)) + 1 by omega, List.getElem?_cons_succ]
      · rw [if_neg h2, if_neg (by simp; omega)]
theorem putBoxes_get (θ : Nat → Sx) (d : Nat) (lk : Option LK) : ∀ (l : List Nat) (m : List (List AV)) (n : List (List AV × TypeId)) (h : T Ob) (j : Nat), j ∉ l → (putBoxes θ d lk l m n h).get j = h.get j := by
  intro l
  induction l with
  | nil => intro m n h j _; cases m <;> cases n <;> rfl
  | cons i l ih =>
    intro m n h j hj
    cases m with
    | nil => rfl
    | cons c m =>
      cases n with
      | nil => rfl
      | cons b n =>
        simp only [putBoxes]
        rw [ih _ _ _ _ (fun h => hj (List.mem_cons_of_mem _ h)), T.get_set_ne _ _ (fun h => hj (by rw [h]; simp))]
theorem putBoxes_at (θ : Nat → Sx) (d : Nat) (lk : Option LK) : ∀ (l : List Nat) (m : List (List AV)) (n : List (List AV × TypeId)) (h : T Ob) (k i : Nat) (c : List AV) (b : List AV × TypeId), nodupB l = true → l[k]? = some i → m[k]? = some c → n[k]? = some b →
    (putBoxes θ d lk l m n h).get i = some (.box (instL θ d lk c) b.2) := by
  intro l
  induction l with
  | nil => intro m n h k i c b _ h1; simp at h1
  | cons x l ih =>
    intro m n h k i c b hnd h1 h2 h3
    simp only [nodupB, Bool.and_eq_true, Bool.not_eq_true', List.any_eq_false] at hnd
    cases m with
    | nil => simp at h2
    | cons c' m =>
      cases n with
      | nil => simp at h3
      | cons b' n =>
        simp only [putBoxes]
        cases k with
        | zero =>
          simp only [List.getElem?_cons_zero, Option.some.injEq] at h1 h2 h3
          subst h1; subst h2; subst h3
          rw [putBoxes_get _ _ _ _ _ _ _ _ (fun hm => hnd.1 _ hm (Nat.beq_refl _)), T.get_set_same]
        | succ k =>
          simp only [List.getElem?_cons_succ] at h1 h2 h3
          exact ih _ _ _ _ _ _ _ hnd.2 h1 h2 h3
theorem wrAll_mem : ∀ (l wr : List Nat) (i : Nat), i ∈ wrAll l wr ↔ i ∈ l ∨ i ∈ wr := by
  intro l
  induction l with
  | nil => intro wr i; simp [wrAll]
  | cons x l ih =>
    intro wr i
    simp only [wrAll, ih, mem_addL, List.mem_cons]
    constructor
    · rintro (h | h | h)
      · exact .inl (.inr h)
      · exact .inl (.inl h)
      · exact .inr h
    · rintro ((h | h) | h)
      · exact .inr (.inl h)
      · exact .inl h
      · exact .inr (.inr h)
theorem putLin_get (θ : Nat → Sx) (q : Option LR) (L : Option Lin) (h : T Ob) (j : Nat) (hj : j ∉ LR.ids q) : (putLin θ q L h).get j = h.get j := by
  unfold putLin
  split
  · rename_i q L
    exact T.get_set_ne _ _ (fun h => hj (by simp [LR.ids, h]))
  · rfl
theorem conRet_step {R : Nat} {c : Con} {θ : Nat → Sx} {ids rd : List Nat} {q : Option LR} {σ σ' : St} {x : AV} (h : c.ret R θ ids rd q σ = .ret x σ') (hl : ∀ i ∈ ids ++ LR.ids q, ∃ o, σ.heap.get i = some o) : StepA σ σ' := by
  simp only [Con.ret, CR.ret.injEq] at h
  obtain ⟨_, rfl⟩ := h
  have h1 := lgAll_step (ids.take c.nr ++ rd) σ
  obtain ⟨h2, h3, h4⟩ := lgAll_heap (ids.take c.nr ++ rd) σ
  have hin : ∀ i ∈ ids.drop c.nr ++ LR.ids q, i ∈ ids ++ LR.ids q := fun i hi => by
    rcases List.mem_append.1 hi with h | h
    · exact List.mem_append_left _ (List.mem_of_mem_drop h)
    · exact List.mem_append_right _ h
  have hget : ∀ i, i ∉ ids.drop c.nr ++ LR.ids q → ∀ d lk, (putLin θ q c.lin (putBoxes θ d lk (ids.drop c.nr) (c.bout.drop c.nr) (c.bin.drop c.nr) σ.heap)).get i = σ.heap.get i := fun i hi d lk => by
    rw [putLin_get _ _ _ _ _ (fun h => hi (List.mem_append_right _ h)), putBoxes_get _ _ _ _ _ _ _ _ (fun h => hi (List.mem_append_left _ h))]
  refine ⟨Nat.le_add_right _ _, h1.rd, fun i hi => (wrAll_mem _ _ _).2 (.inr hi), fun i hi hn => ?_, fun hd i hi => ?_, fun hd i hi => ?_⟩
  · show (addObs θ c.objs σ.next _).get i = _
    rw [addObs_get, if_neg (by omega), hget]
    exact fun h => hn ((wrAll_mem _ _ _).2 (.inl h))
  · show (addObs θ c.objs σ.next _).get i = _
    have hi : σ.next + c.objs.length ≤ i := hi
    rw [addObs_get, if_neg (by omega), hget]
    · exact hd i (by omega)
    · intro h
      obtain ⟨o, ho⟩ := hl i (hin i h)
      rw [hd i (by omega)] at ho; cases ho
  · rcases (wrAll_mem _ _ _).1 hi with h | h
    · right
      obtain ⟨o, ho⟩ := hl i (hin i h)
      rcases Nat.lt_or_ge i σ.next with h' | h'
      · exact Nat.lt_of_lt_of_le h' (Nat.le_add_right _ _)
      · rw [hd i h'] at ho; cases ho
    · exact .inl h
theorem linRes_obj {σ : St} {L : Lin} {a : AV} {q : LR} (h : linRes σ L a = some q) : flatL L.l = true ∧
    ((∃ cap c base lim since esz len, a = .slc q.id q.ver 0 len cap esz ∧ σ.heap.get q.id = some (.arr c base lim since q.nv L.t) ∧ esz = L.l.length ∧ (0 < esz ∧ 0 < len) ∧ len * esz = c.length ∧ ((q.ver = base ∧ lim = c.length) ∨ (q.ver + 1 = q.nv ∧ since ≤ q.ver ∧ q.ver ≠ base)) ∧
        cvtRows gid L.l len c = some q.e ∧ q.y = .lit 1 ∧ q.hi = some c.length) ∨
     (∃ o, ownOf σ a = some o ∧ o.l = L.l ∧ o.t = L.t ∧ q = ⟨o.id, o.ver, o.x, o.y, o.ver + 1, none⟩)) := by
  unfold linRes at h
  rw [cond_eq_ite] at h
  split at h
  · rename_i hfl
    refine ⟨hfl, ?_⟩
    split at h
    · rename_i id ver off len cap esz
      split at h
      · rename_i c base lim since nv t ho
        simp only [cond_eq_ite, Bool.and_eq_true, Bool.or_eq_true, Bool.not_eq_true'] at h
        split at h
        · rename_i hb
          obtain ⟨b1, b2, b3, b4, b5, b6⟩ := hb
          split at h
          · rename_i e he
            simp only [Option.some.injEq] at h; subst h
            have := beq_t b1; subst this
            have := beq_t b2; subst this
            refine .inl ⟨cap, c, base, lim, since, esz, len, rfl, ho, beq_t b3, ⟨blt_t b4.1, blt_t b4.2⟩, beq_t b5, ?_, he, rfl, rfl⟩
            rcases b6 with ⟨b6, b7⟩ | ⟨b6, b7, b8⟩
            · exact .inl ⟨beq_t b6, beq_t b7⟩
            · exact .inr ⟨beq_t b6, ble_t b7, fun h => by simp only at h; subst h; simp at b8⟩
          · cases h
        · cases h
      · cases h
    · split at h
      · rename_i o hoo
        simp only [cond_eq_ite, Bool.and_eq_true] at h
        split at h
        · rename_i hb
          simp only [Option.some.injEq] at h; subst h
          exact .inr ⟨o, hoo, Sh.sameL_eq hb.1, beq_t hb.2, rfl⟩
        · cases h
      · cases h
  · cases h
theorem linTry_ok {R : Nat} {c : Con} {args : List AV} {σ : St} {q : Option LR} {lk : Option LA} {e0 : Eqs} (h : linTry R c args σ = some (q, lk, e0)) :
    (c.lin = none ∧ q = none ∧ lk = none ∧ e0 = []) ∨ ∃ L a q', c.lin = some L ∧ q = some q' ∧ lk = some ⟨R + c.bin.length, a, L.l, L.y⟩ ∧ e0 = [(q'.e, L.x), (q'.y, L.y)] ∧ linRes σ L a = some q' ∧ linAtL (R + c.bin.length) args c.args = some a := by
  unfold linTry at h
  split at h
  · rename_i hl
    simp only [Option.some.injEq, Prod.mk.injEq] at h
    obtain ⟨rfl, rfl, rfl⟩ := h
    exact .inl ⟨hl, rfl, rfl, rfl⟩
  · rename_i L hl
    split at h
    · rename_i a ha
      split at h
      · rename_i q' hq
        simp only [Option.some.injEq, Prod.mk.injEq] at h
        obtain ⟨rfl, rfl, rfl⟩ := h
        exact .inr ⟨L, a, q', hl, rfl, rfl, rfl, hq, ha⟩
      · cases h
    · cases h
theorem linRes_get {σ : St} {L : Lin} {a : AV} {q : LR} (h : linRes σ L a = some q) : ∃ o, σ.heap.get q.id = some o ∧ (∀ c t, o ≠ .box c t) := by
  rcases (linRes_obj h).2 with ⟨_, c, base, lim, since, _, _, _, ho, _⟩ | ⟨o, hoo, _, _, rfl⟩
  · exact ⟨_, ho, fun _ _ h => by cases h⟩
  · unfold ownOf at hoo
    split at hoo
    · split at hoo
      · rename_i ho
        rw [cond_eq_ite] at hoo
        split at hoo
        · simp only [Option.some.injEq] at hoo; subst hoo
          exact ⟨_, ho, fun _ _ h => by cases h⟩
        · cases hoo
      · cases hoo
    · cases hoo
theorem boxArgs_box {R : Nat} {ρ : List RE} {σ : St} : ∀ {ids : List Nat} {m : List (List AV × TypeId)} {e : Eqs} {rd : List Nat}, boxArgs R ρ σ ids m = some (e, rd) → ids.length = m.length ∧
    ∀ (k i : Nat), ids[k]? = some i → R ≤ i ∧ ∃ (c : List AV) (b : List AV × TypeId) (e' : Eqs) (rd' : List Nat), m[k]? = some b ∧ σ.heap.get i = some (.box c b.2) ∧ pAL R ρ none σ c b.1 = some (e', rd') ∧ (∀ p ∈ e', p ∈ e) ∧ (∀ p ∈ rd', p ∈ rd) := by
  intro ids
  induction ids with
  | nil =>
    intro m e rd h
    cases m with
    | nil => exact ⟨rfl, fun k i h => by simp at h⟩
    | cons => simp [boxArgs] at h
  | cons i l ih =>
    intro m e rd h
    cases m with
    | nil => simp [boxArgs] at h
    | cons b m =>
      obtain ⟨c', t'⟩ := b
      simp only [boxArgs] at h
      split at h
      · rename_i c t hob
        rw [cond_eq_ite] at h
        split at h
        · rename_i hb
          simp only [Bool.and_eq_true] at hb
          have := beq_t hb.1; subst this
          split at h
          · rename_i p a q d hp hq
            simp only [Option.some.injEq, Prod.mk.injEq] at h
            obtain ⟨rfl, rfl⟩ := h
            obtain ⟨h1, h2⟩ := ih hq
            refine ⟨by simp [h1], fun k j hk => ?_⟩
            cases k with
            | zero =>
              simp only [List.getElem?_cons_zero, Option.some.injEq] at hk; subst hk
              exact ⟨ble_t hb.2, c, _, p, a, rfl, hob, hp, fun x hx => List.mem_append_left _ hx, fun x hx => List.mem_append_left _ hx⟩
            | succ k =>
              obtain ⟨g1, c2, b2, e2, r2, g2, g3, g4, g5, g6⟩ := h2 k j (by simpa using hk)
              exact ⟨g1, c2, b2, e2, r2, by simpa using g2, g3, g4, fun x hx => List.mem_append_right _ (g5 x hx), fun x hx => List.mem_append_right _ (g6 x hx)⟩
          · cases h
        · cases h
      · cases h
theorem try_ret {R : Nat} {dec : Bx → Option Bool} {c : Con} {args : List AV} {σ : St} (h : c.try R dec args σ ≠ .no) : ∃ ids q lk e0 e rd e2 rd2 l, linTry R c args σ = some (q, lk, e0) ∧ nodupB ids = true ∧ R + c.bin.length + c.nl ≤ σ.next ∧ pAL R (reOf R ids 0) lk σ args c.args = some (e, rd) ∧
    boxArgs R (reOf R ids 0) σ ids c.bin = some (e2, rd2) ∧ namesOf (e0 ++ (e ++ e2)) = some l ∧ namesOk (nameAt l) l = true ∧ preOk dec (nameAt l) c.pre = true ∧ c.ok R = true ∧ (∀ i ∈ LR.ids q, R ≤ i ∧ i ∉ rd ++ rd2) ∧ c.try R dec args σ = c.ret R (nameAt l) ids (rd ++ rd2) q σ := by
  unfold Con.try at h ⊢
  split at h
  · rename_i ids q lk e0 hids hlt
    rw [cond_eq_ite] at h
    split at h
    · rename_i hb0
      simp only [Bool.and_eq_true] at hb0
      split at h
      · rename_i e rd e2 rd2 he he2
        split at h
        · rename_i l hl
          rw [cond_eq_ite] at h
          split at h
          · rename_i hb
            simp only [Bool.and_eq_true] at hb
            refine ⟨ids, q, lk, e0, e, rd, e2, rd2, l, hlt, hb0.1, ble_t hb0.2, he, he2, hl, hb.1, hb.2.1, hb.2.2.1, fun i hi => ?_, by simp only [hids, hlt, he, he2, hl, hb0.1, hb0.2, hb.1, hb.2.1, hb.2.2.1, hb.2.2.2, Bool.and_self, cond_true]⟩
            have := List.all_eq_true.1 hb.2.2.2 i hi
            simp only [Bool.and_eq_true, Bool.not_eq_true', List.any_eq_false] at this
            exact ⟨ble_t this.1, fun hm => this.2 i hm (Nat.beq_refl _)⟩
          · exact absurd rfl h
        · exact absurd rfl h
      · exact absurd rfl h
    · exact absurd rfl h
  · exact absurd rfl h
theorem conHk_ret {R : Nat} {dec : Bx → Option Bool} : ∀ {l : List Con} {f : FuncId} {args : List AV} {σ : St}, conHk R dec l f args σ = .no ∨ ∃ c ∈ l, c.f = f ∧ c.try R dec args σ ≠ .no ∧ conHk R dec l f args σ = c.try R dec args σ := by
  intro l
  induction l with
  | nil => intro f args σ; exact .inl rfl
  | cons c l ih =>
    intro f args σ
    simp only [conHk]
    rw [cond_eq_ite]
    split
    · rename_i hb
      split
      · rcases ih (f := f) (args := args) (σ := σ) with h | ⟨c', h1, h2⟩
        · exact .inl h
        · exact .inr ⟨c', List.mem_cons_of_mem _ h1, h2⟩
      · rename_i hne
        exact .inr ⟨c, by simp, beq_t hb, hne, rfl⟩
    · rcases ih (f := f) (args := args) (σ := σ) with h | ⟨c', h1, h2⟩
      · exact .inl h
      · exact .inr ⟨c', List.mem_cons_of_mem _ h1, h2⟩
theorem conHk_steps {R : Nat} {dec : Bx → Option Bool} (l : List Con) {gl : Nat → Option Nat} {b : Base} {p : Dcs} : HkSteps (cfgP gl b p (conHk R dec l)) := by
  intro f args σ
  show (conHk R dec l f args σ).steps σ
  rcases conHk_ret (R := R) (dec := dec) (l := l) (f := f) (args := args) (σ := σ) with h | ⟨c, _, _, h1, h2⟩
  · rw [h]; simp [CR.steps, CR.st]
  · rw [h2]
    obtain ⟨ids, q, lk, e0, e, rd, e2, rd2, l', g0, _, _, _, g4, _, _, _, _, _, h3⟩ := try_ret h1
    rw [h3]
    intro τ hτ
    simp only [Con.ret, CR.st, Option.some.injEq] at hτ
    subst hτ
    refine conRet_step (R := R) (c := c) (θ := nameAt l') (ids := ids) (rd := rd ++ rd2) (q := q) rfl fun i hi => ?_
    rcases List.mem_append.1 hi with hi | hi
    · obtain ⟨k, hk, rfl⟩ := List.getElem_of_mem hi
      obtain ⟨_, c, b, _, _, _, h, _⟩ := (boxArgs_box g4).2 k _ (List.getElem?_eq_getElem hk)
      exact ⟨_, h⟩
    · rcases linTry_ok g0 with ⟨_, rfl, _⟩ | ⟨L, a, q', _, rfl, _, _, hq, _⟩
      · cases hi
      · simp only [LR.ids, List.mem_singleton] at hi; subst hi
        obtain ⟨o, ho, _⟩ := linRes_get hq
        exact ⟨o, ho⟩
end
noncomputable def binL : List (List AV × TypeId) → Nat → List (Nat × Ob)
  | [], _ => []
  | b :: l, i => (i, .box b.1 b.2) :: binL l (i + 1)
noncomputable def linL (L : Option Lin) (i : Nat) : List (Nat × Ob) := match L with
  | some L => [(i, .opq 2 0 gid (.slc L.l) L.x L.y [] L.t)]
  | none => []
noncomputable def Con.start (b : Base) (R : Nat) (c : Con) : St := toldSt b (binL c.bin R ++ linL c.lin (R + c.bin.length)) (R + c.bin.length + c.nl)
def Con.Sound (F : Nat → Dat → Dat → Dat → Dat) (P : Program) (gl : Nat → Option Nat) (b : Base) (R : Nat) (c : Con) : Prop :=
  ∀ v : Val, v.fn = F → @Holds v c.pre → ∀ (w : World) (φ : PM) (args' : Array Value), Hold v gl b R 0 .leaf (c.start b R) { tmps := #[], defers := [] } w φ → @VRL v φ c.args args'.toList →
    Calls P c.f args' w fun e w' => ∃ φ' x, e = .returned x ∧ @VR v φ' c.res x ∧ Trans R c.nr c.bin.length φ w φ' w' ∧ WF R φ' w' ∧ (∀ k o, c.objs[k]? = some o → @Rep v R φ' w' (R + c.bin.length + c.nl + k) (some o)) ∧
      (∀ k l q, c.bout[k]? = some l → c.bin[k]? = some q → @Rep v R φ' w' (R + k) (some (.box l q.2))) ∧ ∀ L, c.lin = some L → @Rep v R φ' w' (R + c.bin.length) (some (.opq 2 0 gid (.slc L.l) L.ox L.oy [] L.t))
theorem eqTh_ok {v : Val} {θ : Nat → Sx} {a p : Sx} (h : eqTh θ a p = true) : @Sx.dat v a = @Sx.dat (v.at θ) p := by
  have key : ∀ {p a : Sx}, (p.sub θ).same a = true → @Sx.dat v a = @Sx.dat (v.at θ) p := fun h => by
    rw [← Sx.same_eq h, Sx.sub_dat]
  unfold eqTh at h
  split at h
  · rename_i f p' c
    rw [cond_eq_ite] at h
    split at h
    · rename_i hf
      have := beq_t hf; subst this
      split at h
      · rename_i g a' d
        rcases Bool.or_eq_true _ _ ▸ h with h | h
        · simp only [Bool.and_eq_true] at h
          have := beq_t h.1; subst this
          show Dat.int (@Sx.dat v a').toI = Dat.int (@Sx.dat (v.at θ) p').toI
          rw [key h.2]
        · exact key h
      · rename_i n
        show Dat.int n = Dat.int (@Sx.dat (v.at θ) p').toI
        rw [← key h]
        rfl
      · exact key h
    · exact key h
  · exact key h
theorem namesOf_ok {v : Val} {θ : Nat → Sx} {e : Eqs} {l : List (Nat × Sx)} (hθ : nameAt l = θ) (h : namesOf e = some l) : EqsOk v (v.at θ) e := by
  unfold namesOf at h
  rw [cond_eq_ite] at h
  split at h
  · rename_i ha
    simp only [Option.some.injEq] at h
    subst h
    rw [hθ] at ha
    intro p hp
    exact eqTh_ok (List.all_eq_true.1 ha p hp)
  · cases h
section
variable {v : Val} {R : Nat} {φ : PM} {w : World} {σ : St} {D : Nat → Prop}
theorem callPM_le {gl : Nat → Option Nat} {b : Base} (hb : BaseOk gl b R) {p : Dcs} {hk : FuncId → List AV → St → CR} (hi : @Inv v R (cfgP gl b p hk) D φ σ w) {bx : List Nat} {lst : Option Ext} (hbx : ∀ i ∈ bx, R ≤ i) (hls : ∀ e, lst = some e → ∃ i u f, R ≤ i ∧ φ i u = some f ∧ f.blk = e.blk) : (φ.low R).le (callPM φ R w bx lst) := by
  intro i u e he
  unfold PM.low at he
  split at he
  · rename_i hlt
    by_cases hg : i = gid
    · subst hg
      obtain ⟨ver, cid, sh, x, y, t, hgb⟩ := hb.gid_at
      have hr := hi.ro gid hlt
      have hr : @Rep v R (φ.low R) w gid (b.get gid) := hr
      rw [hgb] at hr
      obtain ⟨h0, bt, fr, hblk⟩ := hr u e (by rw [PM.low_lt _ hlt]; exact he)
      have hnb : ¬ Boxed φ bx lst u := by
        have heb : e.blk = u := by rw [h0]
        rintro (⟨id, hid, t, f, hf, hfb⟩ | ⟨g, hg, hgb⟩)
        · rcases hi.wf.inj _ _ _ _ _ _ hf he (hfb.trans heb.symm) with h | h
          · have := hbx id hid; omega
          · have := hbx id hid; omega
        · obtain ⟨id, t, f, hid, hf, hfb⟩ := hls g hg
          rcases hi.wf.inj _ _ _ _ _ _ hf he ((hfb.trans hgb).trans heb.symm) with h | h
          · omega
          · omega
      rw [h0] at hblk ⊢
      have hblk : w.heap[u]? = some (.cells e.snap.toArray bt fr) := hblk
      simp [callPM, hblk, hnb]
    · simp [callPM, hg, hlt, he]
  · cases he
theorem callPM_pict {b : Nat} {c : Array Value} {t : TypeId} {fr : Nat × Nat} {bx : List Nat} {lst : Option Ext} (hn : ¬ Boxed φ bx lst b) (h : w.heap[b]? = some (.cells c t fr)) : Pict (callPM φ R w bx lst) gid b c.toList :=
  ⟨gid, b, ⟨b, 0, 0, 0, 0, c.toList⟩, .inl rfl, by simp [callPM, h, hn], rfl, rfl⟩
theorem flat_gc {pc : Nat → List Value → Prop} {c : Nat} {s : Sh} {d : Dat} {z : Value} (hf : flatSh s = true) (hc : CellOk s d) (h : @VR v φ (litAV c s d) z) : GC pc s d z := by
  cases s with
  | int k =>
    have h : @VR v φ (.int k d.toI) z := h
    cases h; exact .int k d
  | bool =>
    have h : @VR v φ (.bool (d.toI != 0)) z := h
    cases h; exact .bool d
  | str =>
    obtain ⟨s, rfl⟩ := hc
    have h : @VR v φ (.str s) z := h
    cases h; exact .str s
  | slc l => simp [flatSh] at hf
theorem listArg_ok {gl : Nat → Option Nat} {b : Base} (hb : BaseOk gl b R) {p : Dcs} {hk : FuncId → List AV → St → CR} (hi : @Inv v R (cfgP gl b p hk) D φ σ w) {bx : List Nat} (hbx : ∀ i ∈ bx, R ≤ i ∧ ∃ c t, σ.heap.get i = some (.box c t)) {lst : Option Ext} {lic : List Nat} (hls : ∀ e, lst = some e → ∃ i u f, R ≤ i ∧ i ∈ lic ∧ φ i u = some f ∧ f.blk = e.blk) {v' : Val} {l' : List Sh} {x' y' : Sx} {ver : Nat} {a : AV} {z : Value} {e : Eqs} {rd : List Nat}
    (h : listArg σ l' x' a = some (e, rd)) (he : EqsOk v v' e) (hv : @VR v φ a z) (hd : ∀ i ∈ rd, i ∉ lic ∧ (i < σ.next → D i)) : @VR v' (callPM φ R w bx lst) (.opq 0 gid ver (.slc l') x' y') z := by
  have hle := callPM_le hb hi (bx := bx) (lst := lst) (fun i hi => (hbx i hi).1) fun e he => let ⟨i, u, f, h1, _, h2⟩ := hls e he; ⟨i, u, f, h1, h2⟩
  unfold listArg at h
  split at h
  · rename_i k id ver' l x y
    rw [cond_eq_ite] at h
    split at h
    · rename_i hk
      have := beq_t hk; subst this
      simp only [cond_eq_ite, Bool.and_eq_true] at h
      split at h
      · rename_i hb'
        have := beq_t hb'.1; subst this
        have := Sh.sameL_eq hb'.2; subst this
        simp only [Option.some.injEq, Prod.mk.injEq] at h
        obtain ⟨rfl, rfl⟩ := h
        cases hv with
        | opq _ hk =>
          obtain ⟨l2, a, n, c, hl, rfl, hg⟩ := hk
          simp only [Sh.slc.injEq] at hl; subst hl
          refine @VR.opq v' _ _ _ _ _ _ _ _ ⟨l, a, n, c, rfl, rfl, ?_⟩
          rw [← he (x, x') (by simp)]
          refine hg.mono fun bb s hp => Pict.mono hle ?_
          obtain ⟨j, n, e, hj, h1, h2⟩ := hp
          have : j = gid := hj.elim id id
          subst this
          exact ⟨gid, n, e, .inl rfl, by rw [PM.low_lt _ hb.gid_lt]; exact h1, h2⟩
      · cases h
    · split at h
      · rename_i o hoo
        simp only [cond_eq_ite, Bool.and_eq_true] at h
        split at h
        · rename_i hb'
          have := Sh.sameL_eq hb'.1; subst this
          simp only [Option.some.injEq, Prod.mk.injEq] at h
          obtain ⟨rfl, rfl⟩ := h
          obtain ⟨z0, _, ho, hl0⟩ := @ownOf_ok σ _ _ hoo
          have hi0 := @Inv.inv0 v _ _ _ _ _ _ hi
          have hdd : D o.id := (hd o.id (by simp)).2 (@Inv0.lt v _ _ _ _ _ hi0 _ _ ho)
          obtain ⟨rows, hx, hr, hor⟩ := @own_val v R D φ σ w hi0 _ _ _ hoo hv hdd
          have hxe := he (o.x, x') (by simp)
          simp only at hxe
          rw [hx] at hxe
          rcases hor with ⟨bb, rfl, _, rfl, _⟩ | ⟨ex, c, rfl, _, hφ, hdn, hhi, hc, hbs, har⟩
          · refine @VR.opq v' _ _ _ _ _ _ _ _ ⟨o.l, bb, 0, 0, rfl, rfl, ?_⟩
            rw [← hxe]
            exact .none o.l bb 0
          · obtain ⟨ex2, cs, fl, fh, q1, q2, q3, q4, q5, q6⟩ := @own_block v R φ w _ _ _ _ _ _ har
            rw [hφ] at q1; simp only [Option.some.injEq] at q1; subst q1
            have hlen := litRows_length o.cid o.l rows (rows_len hr)
            refine @VR.opq v' _ _ _ _ _ _ _ _ ⟨o.l, _, rows.length, c, rfl, rfl, ?_⟩
            rw [← hxe]
            have hnb : ¬ Boxed φ bx lst ex.blk := by
              rintro (⟨id, hid, t, f, hf, hfb⟩ | ⟨g, hg, hgb⟩)
              · obtain ⟨hR, bc, bt, hbo⟩ := hbx id hid
                rcases (@Inv0.wf v _ _ _ _ _ hi0).inj _ _ _ _ _ _ hf hφ hfb with h | h
                · rw [h, ho] at hbo; cases hbo
                · omega
              · obtain ⟨id, t, f, hR, hil, hf, hfb⟩ := hls g hg
                rcases (@Inv0.wf v _ _ _ _ _ hi0).inj _ _ _ _ _ _ hf hφ (hfb.trans hgb) with h | h
                · rw [h] at hil
                  exact (hd o.id (by simp)).1 hil
                · omega
            have hget : ∀ (i j : Nat) (hi' : i < rows.length) (hj : j < o.l.length), ∃ s d zz, o.l[j]? = some s ∧ (rows[i])[j]? = some d ∧ cs[ex.up + i * o.l.length + j]? = some zz ∧ CellOk s d ∧ @VR v φ (litAV o.cid s d) zz := by
              intro i j hi' hj
              have hrow : rows[i]? = some rows[i] := List.getElem?_eq_getElem hi'
              have hsj : o.l[j]? = some o.l[j] := List.getElem?_eq_getElem hj
              obtain ⟨dd, hdd⟩ : ∃ d, (rows[i])[j]? = some d := ⟨_, List.getElem?_eq_getElem (by rw [(hr _ (List.getElem_mem hi')).1]; exact hj)⟩
              have k1 := litRows_get o.cid o.l rows (rows_len hr) i j _ hrow hj
              rw [litRow_get o.cid o.l _ _ _ _ hsj hdd] at k1
              have hpos : i * o.l.length + j < rows.length * o.l.length := by
                have := Nat.mul_le_mul_right o.l.length (show i + 1 ≤ rows.length from hi')
                rw [Nat.add_mul] at this; omega
              obtain ⟨zz, z1, z2⟩ := q6 _ _ (by omega) (by omega) k1
              exact ⟨_, dd, zz, hsj, hdd, by rw [← z1]; congr 1; omega, (hr _ (List.getElem_mem hi')).2 _ _ _ hsj hdd, z2⟩
            refine .slc ex.blk cs.toList ex.up c (fun i j => (cs[ex.up + i * o.l.length + j]?).getD undef) (callPM_pict hnb q2) hc (fun i row hrow => (hr row (List.mem_of_getElem? hrow)).1) (fun i j hi' hj => ?_) (fun i row j s d hrow hs hdd => ?_)
            · obtain ⟨s, d, zz, _, _, h3, _⟩ := hget i j hi' hj
              rw [Array.getElem?_toList, h3]; rfl
            · have hi' : i < rows.length := by
                rcases Nat.lt_or_ge i rows.length with h | h
                · exact h
                · rw [List.getElem?_eq_none h] at hrow; cases hrow
              have hj : j < o.l.length := by
                rcases Nat.lt_or_ge j o.l.length with h | h
                · exact h
                · rw [List.getElem?_eq_none h] at hs; cases hs
              obtain ⟨s', d', zz, h1, h2, h3, h4, h5⟩ := hget i j hi' hj
              rw [hs] at h1; simp only [Option.some.injEq] at h1; subst h1
              rw [List.getElem?_eq_getElem hi'] at hrow; simp only [Option.some.injEq] at hrow; subst hrow
              rw [hdd] at h2; simp only [Option.some.injEq] at h2; subst h2
              have hfs : flatSh s = true := List.all_eq_true.1 hb'.2 s (List.mem_of_getElem? hs)
              simp only [h3, Option.getD_some]
              exact flat_gc hfs h4 h5
        · cases h
      · cases h
  · simp only [Option.some.injEq, Prod.mk.injEq] at h
    obtain ⟨rfl, rfl⟩ := h
    cases hv
    refine @VR.opq v' _ _ _ _ _ _ _ _ ⟨l', none, 0, 0, rfl, rfl, ?_⟩
    rw [← he (.pr 13 (.lit 0) (.lit 0), x') (by simp)]
    exact .none l' none 0
  · cases h
theorem reOf_fnd : ∀ {ids : List Nat} {k i : Nat} {r : RE}, fnd (reOf R ids k) i = some r → ∃ j, ids[j]? = some r.ido ∧ i = R + (k + j) ∧ r.ver = 0 ∧ r.n = 0 := by
  intro ids
  induction ids with
  | nil => intro k i r h; simp [reOf, fnd] at h
  | cons x l ih =>
    intro k i r h
    simp only [reOf, fnd, cond_eq_ite] at h
    split at h
    · rename_i hb
      simp only [Option.some.injEq] at h; subst h
      exact ⟨0, rfl, (beq_t hb).symm, rfl, rfl⟩
    · obtain ⟨j, h1, h2, h3⟩ := ih h
      exact ⟨j + 1, by simpa using h1, by omega, h3⟩
theorem reMap_le {gl : Nat → Option Nat} {b : Base} (hb : BaseOk gl b R) {p : Dcs} {hk : FuncId → List AV → St → CR} (hi : @Inv v R (cfgP gl b p hk) D φ σ w) {bx : List Nat} (hbx : ∀ i ∈ bx, R ≤ i ∧ ∃ c t, σ.heap.get i = some (.box c t)) {lst : Option Ext} (hls : ∀ e, lst = some e → ∃ i u f, R ≤ i ∧ φ i u = some f ∧ f.blk = e.blk) :
    (reMap R (reOf R bx 0) φ).le (callPM φ R w bx lst) := by
  intro i u f hf
  by_cases hlt : i < R
  · rw [reMap_low i hlt] at hf
    exact callPM_le hb hi (fun i hi => (hbx i hi).1) hls i u f (by rw [PM.low_lt _ hlt]; exact hf)
  · obtain ⟨rfl, r, f', h1, h2, rfl⟩ := reMap_some (by omega) hf
    obtain ⟨j, g1, g2, g3, g4⟩ := reOf_fnd h1
    rw [g4, Ext.upto_zero]
    have hg : i ≠ gid := by have := hb.gid_lt; omega
    rw [g3] at h2
    have : i - R = j := by omega
    have hj : j < bx.length := by
      rcases Nat.lt_or_ge j bx.length with h | h
      · exact h
      · rw [List.getElem?_eq_none h] at g1; cases g1
    have hne : ¬ i = R + bx.length := by omega
    simp [callPM, hg, hlt, hne, this, g1, h2]
theorem pAV_base {gl : Nat → Option Nat} {b : Base} (hb : BaseOk gl b R) {p : Dcs} {hk : FuncId → List AV → St → CR} (hi : @Inv v R (cfgP gl b p hk) D φ σ w) {bx : List Nat} (hbx : ∀ i ∈ bx, R ≤ i ∧ ∃ c t, σ.heap.get i = some (.box c t)) {lst : Option Ext} {lic : List Nat} (hls : ∀ e, lst = some e → ∃ i u f, R ≤ i ∧ i ∈ lic ∧ φ i u = some f ∧ f.blk = e.blk) {v' : Val} {lk : Option LA} (hlk : ∀ q, lk = some q → ∀ x' z, @VR v φ q.act z → @VR v' (callPM φ R w bx lst) (.opq 2 q.lid 0 (.slc q.l) x' q.y) z) {a q : AV} {z : Value} {e : Eqs} {rd : List Nat}
    (h : pAB R (reOf R bx 0) lk σ a q = some (e, rd)) (he : EqsOk v v' e) (hv : @VR v φ a z) (hd : ∀ i ∈ rd, i ∉ lic ∧ (i < σ.next → D i)) : @VR v' (callPM φ R w bx lst) q z := by
  unfold pAB at h
  split at h
  · rename_i k id ver l' x' y'
    rw [cond_eq_ite] at h
    split at h
    · rename_i hk
      simp only [Bool.and_eq_true] at hk
      have := beq_t hk.1; subst this
      have := beq_t hk.2; subst this
      exact listArg_ok hb hi hbx hls h he hv hd
    · split at h
      · rename_i q0
        simp only [cond_eq_ite, Bool.and_eq_true] at h
        split at h
        · rename_i hb2
          obtain ⟨c1, c2, c3, c4, c5, c6⟩ := hb2
          have := beq_t c1; subst this
          have := beq_t c2; subst this
          have := beq_t c3; subst this
          have := AV.same_eq c4; subst this
          have := Sh.sameL_eq c5; subst this
          have := Sx.same_eq c6; subst this
          exact hlk q0 rfl _ _ hv
        · cases h
      · cases h
  · cases hm : mAV R (reOf R bx 0) a q with
    | none => rw [hm] at h; cases h
    | some e' =>
      rw [hm] at h
      simp only [Option.map_some, Option.some.injEq, Prod.mk.injEq] at h
      obtain ⟨rfl, rfl⟩ := h
      have := mAV_ok (v := v) (v' := v') (φ := φ) hm he hv
      exact @VR.mono v' _ _ (reMap_le hb hi hbx fun e he => let ⟨i, u, f, h1, _, h2⟩ := hls e he; ⟨i, u, f, h1, h2⟩) _ _ this
mutual
theorem pAV_ok {gl : Nat → Option Nat} {b : Base} (hb : BaseOk gl b R) {p : Dcs} {hk : FuncId → List AV → St → CR} (hi : @Inv v R (cfgP gl b p hk) D φ σ w) {bx : List Nat} (hbx : ∀ i ∈ bx, R ≤ i ∧ ∃ c t, σ.heap.get i = some (.box c t)) {lst : Option Ext} {lic : List Nat} (hls : ∀ e, lst = some e → ∃ i u f, R ≤ i ∧ i ∈ lic ∧ φ i u = some f ∧ f.blk = e.blk) {v' : Val} {lk : Option LA} (hlk : ∀ q, lk = some q → ∀ x' z, @VR v φ q.act z → @VR v' (callPM φ R w bx lst) (.opq 2 q.lid 0 (.slc q.l) x' q.y) z) : ∀ {a q : AV} {z : Value} {e : Eqs} {rd : List Nat},
    pAV R (reOf R bx 0) lk σ a q = some (e, rd) → EqsOk v v' e → @VR v φ a z → (∀ i ∈ rd, i ∉ lic ∧ (i < σ.next → D i)) → @VR v' (callPM φ R w bx lst) q z
  | .agg l, q, z, e, rd, h, he, hv, hd => by
    cases q <;> simp only [pAV, reduceCtorEq] at h
    cases hv with
    | agg l' g => exact @VR.agg v' _ _ _ (pAL_ok hb hi hbx hls hlk h he g hd)
  | .sym .., q, z, e, rd, h, he, hv, hd => pAV_base hb hi hbx hls hlk (by simpa [pAV] using h) he hv hd
  | .symb .., q, z, e, rd, h, he, hv, hd => pAV_base hb hi hbx hls hlk (by simpa [pAV] using h) he hv hd
  | .vstr .., q, z, e, rd, h, he, hv, hd => pAV_base hb hi hbx hls hlk (by simpa [pAV] using h) he hv hd
  | .opq .., q, z, e, rd, h, he, hv, hd => pAV_base hb hi hbx hls hlk (by simpa [pAV] using h) he hv hd
  | .tup .., q, z, e, rd, h, he, hv, hd => pAV_base hb hi hbx hls hlk (by simpa [pAV] using h) he hv hd
  | .bool .., q, z, e, rd, h, he, hv, hd => pAV_base hb hi hbx hls hlk (by simpa [pAV] using h) he hv hd
  | .int .., q, z, e, rd, h, he, hv, hd => pAV_base hb hi hbx hls hlk (by simpa [pAV] using h) he hv hd
  | .str .., q, z, e, rd, h, he, hv, hd => pAV_base hb hi hbx hls hlk (by simpa [pAV] using h) he hv hd
  | .nilp, q, z, e, rd, h, he, hv, hd => pAV_base hb hi hbx hls hlk (by simpa [pAV] using h) he hv hd
  | .nils, q, z, e, rd, h, he, hv, hd => pAV_base hb hi hbx hls hlk (by simpa [pAV] using h) he hv hd
  | .nilm, q, z, e, rd, h, he, hv, hd => pAV_base hb hi hbx hls hlk (by simpa [pAV] using h) he hv hd
  | .nilfn, q, z, e, rd, h, he, hv, hd => pAV_base hb hi hbx hls hlk (by simpa [pAV] using h) he hv hd
  | .nili, q, z, e, rd, h, he, hv, hd => pAV_base hb hi hbx hls hlk (by simpa [pAV] using h) he hv hd
  | .ptr .., q, z, e, rd, h, he, hv, hd => pAV_base hb hi hbx hls hlk (by simpa [pAV] using h) he hv hd
  | .slc .., q, z, e, rd, h, he, hv, hd => pAV_base hb hi hbx hls hlk (by simpa [pAV] using h) he hv hd
  | .map .., q, z, e, rd, h, he, hv, hd => pAV_base hb hi hbx hls hlk (by simpa [pAV] using h) he hv hd
  | .yld .., q, z, e, rd, h, he, hv, hd => pAV_base hb hi hbx hls hlk (by simpa [pAV] using h) he hv hd
  | .fn .., q, z, e, rd, h, he, hv, hd => pAV_base hb hi hbx hls hlk (by simpa [pAV] using h) he hv hd
  | .iface .., q, z, e, rd, h, he, hv, hd => pAV_base hb hi hbx hls hlk (by simpa [pAV] using h) he hv hd
  | .sslc .., q, z, e, rd, h, he, hv, hd => pAV_base hb hi hbx hls hlk (by simpa [pAV] using h) he hv hd
  | .sstr .., q, z, e, rd, h, he, hv, hd => pAV_base hb hi hbx hls hlk (by simpa [pAV] using h) he hv hd
  | .anyp, q, z, e, rd, h, he, hv, hd => pAV_base hb hi hbx hls hlk (by simpa [pAV] using h) he hv hd
  | .unk, q, z, e, rd, h, he, hv, hd => pAV_base hb hi hbx hls hlk (by simpa [pAV] using h) he hv hd
theorem pAL_ok {gl : Nat → Option Nat} {b : Base} (hb : BaseOk gl b R) {p : Dcs} {hk : FuncId → List AV → St → CR} (hi : @Inv v R (cfgP gl b p hk) D φ σ w) {bx : List Nat} (hbx : ∀ i ∈ bx, R ≤ i ∧ ∃ c t, σ.heap.get i = some (.box c t)) {lst : Option Ext} {lic : List Nat} (hls : ∀ e, lst = some e → ∃ i u f, R ≤ i ∧ i ∈ lic ∧ φ i u = some f ∧ f.blk = e.blk) {v' : Val} {lk : Option LA} (hlk : ∀ q, lk = some q → ∀ x' z, @VR v φ q.act z → @VR v' (callPM φ R w bx lst) (.opq 2 q.lid 0 (.slc q.l) x' q.y) z) : ∀ {a q : List AV} {z : List Value} {e : Eqs} {rd : List Nat},
    pAL R (reOf R bx 0) lk σ a q = some (e, rd) → EqsOk v v' e → @VRL v φ a z → (∀ i ∈ rd, i ∉ lic ∧ (i < σ.next → D i)) → @VRL v' (callPM φ R w bx lst) q z
  | [], q, z, e, rd, h, he, hv, hd => by
    cases q <;> simp only [pAL, reduceCtorEq] at h
    cases hv; exact @VRL.nil v' _
  | a :: l, q, z, e, rd, h, he, hv, hd => by
    cases q <;> simp only [pAL, reduceCtorEq] at h
    split at h
    · rename_i p1 r1 p2 r2 h1 h2
      simp only [Option.some.injEq, Prod.mk.injEq] at h
      obtain ⟨rfl, rfl⟩ := h
      cases hv with
      | cons g1 g2 => exact @VRL.cons v' _ _ _ _ _ (pAV_ok hb hi hbx hls hlk h1 he.app.1 g1 fun i hi' => hd i (List.mem_append_left _ hi')) (pAL_ok hb hi hbx hls hlk h2 he.app.2 g2 fun i hi' => hd i (List.mem_append_right _ hi'))
    · cases h
end
end
end Go.Tw
namespace Go.Tw
open Go.ChangeShapes Go.RowKit
theorem inv_ro {v : Val} {R : Nat} {C : Cfg} {D : Nat → Prop} {φ : PM} {σ : St} {w : World} (hi : @Inv v R C D φ σ w) (i : Nat) (h : i < R) : @Rep v R (φ.low R) w i (C.base i) := hi.ro i h
theorem inv_gl {v : Val} {R : Nat} {C : Cfg} {D : Nat → Prop} {φ : PM} {σ : St} {w : World} (hi : @Inv v R C D φ σ w) (g n : Nat) (h : C.gl g = some n) : ∃ e, φ g 0 = some e ∧ e.blk = g ∧ e.up = 0 ∧ e.dn = 0 ∧ n ≤ e.hi := hi.gl g n h
theorem inv_lt {v : Val} {R : Nat} {C : Cfg} {D : Nat → Prop} {φ : PM} {σ : St} {w : World} (hi : @Inv v R C D φ σ w) {i : Nat} {o : Ob} (h : σ.heap.get i = some o) : i < σ.next := by
  rcases Nat.lt_or_ge i σ.next with h' | h'
  · exact h'
  · rw [hi.dom i h'] at h; cases h
theorem nodup_drop : ∀ {l : List Nat}, nodupB l = true → ∀ n, nodupB (l.drop n) = true := by
  intro l
  induction l with
  | nil => intro h n; simp [nodupB]
  | cons a l ih =>
    intro h n
    cases n with
    | zero => exact h
    | succ n =>
      simp only [nodupB, Bool.and_eq_true] at h
      exact ih h.2 n
theorem inv_wf {v : Val} {R : Nat} {C : Cfg} {D : Nat → Prop} {φ : PM} {σ : St} {w : World} (hi : @Inv v R C D φ σ w) : WF R φ w := hi.wf
theorem inv_low {v : Val} {R : Nat} {C : Cfg} {D : Nat → Prop} {φ : PM} {σ : St} {w : World} (hi : @Inv v R C D φ σ w) : R ≤ σ.next := hi.low
theorem inv_rep {v : Val} {R : Nat} {C : Cfg} {D : Nat → Prop} {φ : PM} {σ : St} {w : World} (hi : @Inv v R C D φ σ w) {i : Nat} (h : D i) (hn : i < σ.next) : @Rep v R φ w i (σ.heap.get i) := hi.rep i h hn
section
variable {v : Val} {P : Program} {R : Nat} {φ : PM} {w : World} {σ : St} {D : Nat → Prop} {gl : Nat → Option Nat} {b : Base}
theorem nodup_get : ∀ {l : List Nat}, nodupB l = true → ∀ {i j x : Nat}, l[i]? = some x → l[j]? = some x → i = j := by
  intro l
  induction l with
  | nil => intro _ i j x h; simp at h
  | cons a l ih =>
    intro h i j x h1 h2
    simp only [nodupB, Bool.and_eq_true, Bool.not_eq_true', List.any_eq_false] at h
    cases i with
    | zero =>
      cases j with
      | zero => rfl
      | succ j =>
        simp only [List.getElem?_cons_zero, Option.some.injEq] at h1; subst h1
        exact absurd (Nat.beq_refl _) (h.1 _ (List.mem_of_getElem? (by simpa using h2)))
    | succ i =>
      cases j with
      | zero =>
        simp only [List.getElem?_cons_zero, Option.some.injEq] at h2; subst h2
        exact absurd (Nat.beq_refl _) (h.1 _ (List.mem_of_getElem? (by simpa using h1)))
      | succ j => exact congrArg (· + 1) (ih h.2 (by simpa using h1) (by simpa using h2))
theorem callPM_some (hb : BaseOk gl b R) {bx : List Nat} {lst : Option Ext} {i u : Nat} {e : Ext} (h : callPM φ R w bx lst i u = some e) :
    (i = gid ∧ ¬ Boxed φ bx lst u ∧ ∃ c t fr, w.heap[u]? = some (.cells c t fr) ∧ e = ⟨u, 0, 0, 0, 0, c.toList⟩) ∨ (i < R ∧ i ≠ gid ∧ φ i u = some e) ∨ (R ≤ i ∧ u = 0 ∧ ∃ id, bx[i - R]? = some id ∧ φ id 0 = some e) ∨ (i = R + bx.length ∧ u = 0 ∧ lst = some e) := by
  unfold callPM at h
  split at h
  · rename_i hg
    split at h
    · cases h
    · rename_i hn
      split at h
      · rename_i c t fr hw
        simp only [Option.some.injEq] at h
        exact .inl ⟨hg, hn, c, t, fr, hw, h.symm⟩
      · cases h
  · rename_i hg
    split at h
    · rename_i hlt; exact .inr (.inl ⟨hlt, hg, h⟩)
    · rename_i hlt
      split at h
      · rename_i hu
        split at h
        · rename_i hi; exact .inr (.inr (.inr ⟨hi, hu, h⟩))
        · split at h
          · rename_i id hid
            exact .inr (.inr (.inl ⟨by omega, hu, id, hid, h⟩))
          · cases h
      · cases h
def LstOk (R : Nat) (φ : PM) (bx : List Nat) (lst : Option Ext) : Prop := ∀ e, lst = some e → (∃ i u f, R ≤ i ∧ i ∉ bx ∧ φ i u = some f ∧ f.blk = e.blk) ∧ e.hi + e.up ≤ e.bsz + e.dn
theorem callPM_wf (hb : BaseOk gl b R) (hwf : WF R φ w) {bx : List Nat} {lst : Option Ext} (hnd : nodupB bx = true) (hR : ∀ i ∈ bx, R ≤ i) (hls : LstOk R φ bx lst) : WF R (callPM φ R w bx lst) w := by
  have hg := hb.gid_lt
  have hlen : ∀ {k id : Nat}, bx[k]? = some id → k < bx.length := fun {k id} h => by
    rcases Nat.lt_or_ge k bx.length with h' | h'
    · exact h'
    · rw [List.getElem?_eq_none h'] at h; cases h
  refine ⟨fun i u e j t f hi hj hbk => ?_, fun i u e h => ?_, fun i u e h => ?_⟩
  · rcases callPM_some hb hi with ⟨rfl, h2, c, ty, fr, h3, rfl⟩ | ⟨h1, h2, h3⟩ | ⟨h1, rfl, id, h2, h3⟩ | ⟨rfl, rfl, h3⟩
    · rcases callPM_some hb hj with ⟨rfl, _⟩ | ⟨g1, _⟩ | ⟨g1, rfl, id, g2, g3⟩ | ⟨rfl, rfl, g3⟩
      · exact .inl rfl
      · exact .inr ⟨hg, g1⟩
      · exact absurd (.inl ⟨id, List.mem_of_getElem? g2, 0, f, g3, hbk.symm⟩) h2
      · exact absurd (.inr ⟨f, g3, hbk.symm⟩) h2
    · rcases callPM_some hb hj with ⟨rfl, _⟩ | ⟨g1, _⟩ | ⟨g1, rfl, id, g2, g3⟩ | ⟨rfl, rfl, g3⟩
      · exact .inr ⟨h1, hg⟩
      · exact .inr ⟨h1, g1⟩
      · have := hR id (List.mem_of_getElem? g2)
        rcases hwf.inj _ _ _ _ _ _ h3 g3 hbk with h | h <;> omega
      · obtain ⟨⟨id, x, g, k1, k2, k3, k4⟩, _⟩ := hls f g3
        rcases hwf.inj _ _ _ _ _ _ h3 k3 (hbk.trans k4.symm) with h | h <;> omega
    · rcases callPM_some hb hj with ⟨rfl, g2, c, ty, fr, g3, rfl⟩ | ⟨g1, g2, g3⟩ | ⟨g1, rfl, id', g2, g3⟩ | ⟨rfl, rfl, g3⟩
      · exact absurd (.inl ⟨id, List.mem_of_getElem? h2, 0, e, h3, hbk⟩) g2
      · have := hR id (List.mem_of_getElem? h2)
        rcases hwf.inj _ _ _ _ _ _ h3 g3 hbk with h | h <;> omega
      · have := hR id (List.mem_of_getElem? h2)
        rcases hwf.inj _ _ _ _ _ _ h3 g3 hbk with h | h
        · subst h
          have := nodup_get hnd h2 g2
          exact .inl (by omega)
        · omega
      · obtain ⟨⟨id', x, g, k1, k2, k3, k4⟩, _⟩ := hls f g3
        have := hR id (List.mem_of_getElem? h2)
        rcases hwf.inj _ _ _ _ _ _ h3 k3 (hbk.trans k4.symm) with h | h
        · rw [← h] at k2; exact absurd (List.mem_of_getElem? h2) k2
        · omega
    · obtain ⟨⟨id', x, g, k1, k2, k3, k4⟩, _⟩ := hls e h3
      rcases callPM_some hb hj with ⟨rfl, g2, c, ty, fr, g3, rfl⟩ | ⟨g1, g2, g3⟩ | ⟨g1, rfl, id, g2, g3⟩ | ⟨rfl, rfl, g3⟩
      · exact absurd (.inr ⟨e, h3, hbk⟩) g2
      · rcases hwf.inj _ _ _ _ _ _ k3 g3 (k4.trans hbk) with h | h <;> omega
      · have := hR id (List.mem_of_getElem? g2)
        rcases hwf.inj _ _ _ _ _ _ k3 g3 (k4.trans hbk) with h | h
        · rw [h] at k2; exact absurd (List.mem_of_getElem? g2) k2
        · omega
      · exact .inl rfl
  · rcases callPM_some hb h with ⟨_, _, c, ty, fr, h3, rfl⟩ | ⟨_, _, h3⟩ | ⟨_, _, id, _, h3⟩ | ⟨_, _, h3⟩
    · exact heap_lt h3
    · exact hwf.lt _ _ _ h3
    · exact hwf.lt _ _ _ h3
    · obtain ⟨⟨id', x, g, k1, k2, k3, k4⟩, _⟩ := hls e h3
      rw [← k4]; exact hwf.lt _ _ _ k3
  · rcases callPM_some hb h with ⟨_, _, c, ty, fr, h3, rfl⟩ | ⟨_, _, h3⟩ | ⟨_, _, id, _, h3⟩ | ⟨_, _, h3⟩
    · exact Nat.le_refl _
    · exact hwf.top _ _ _ h3
    · exact hwf.top _ _ _ h3
    · exact (hls e h3).2
theorem LstOk.le {bx : List Nat} {lst : Option Ext} (h : LstOk R φ bx lst) : ∀ e, lst = some e → ∃ i u f, R ≤ i ∧ φ i u = some f ∧ f.blk = e.blk := fun e he => let ⟨⟨i, u, f, h1, _, h2⟩, _⟩ := h e he; ⟨i, u, f, h1, h2⟩
theorem call_base (hb : BaseOk gl b R) {p : Dcs} {hk : FuncId → List AV → St → CR} (hi : @Inv v R (cfgP gl b p hk) D φ σ w) {bx : List Nat} {lst : Option Ext} (hR : ∀ i ∈ bx, R ≤ i) (hls : LstOk R φ bx lst) (v2 : Val) (i : Nat) (hlt : i < R) : @Rep v2 R ((callPM φ R w bx lst).low R) w i (b.get i) := by
  by_cases hg : i = gid
  · subst hg
    obtain ⟨ver, cid, sh, x, y, t, hgb⟩ := hb.gid_at
    rw [hgb]
    intro n e he
    rw [PM.low_lt _ hlt] at he
    rcases callPM_some hb he with ⟨_, _, c, ty, fr, h3, rfl⟩ | ⟨_, h, _⟩ | ⟨h, _⟩ | ⟨h, _⟩
    · exact ⟨rfl, ty, fr, by simpa using h3⟩
    · exact absurd rfl h
    · omega
    · omega
  · have hr : @Rep v R (φ.low R) w i (b.get i) := inv_ro hi i hlt
    cases hbi : b.get i with
    | none => trivial
    | some o =>
      obtain ⟨c, rfl, hcl⟩ := hb.only i o hbi hg
      rw [hbi] at hr
      obtain ⟨e, cs, t, fr, he, hbk, h1, h2, h3⟩ := hr
      have hle := callPM_le hb hi (w := w) hR hls.le
      have hlel : (φ.low R).le ((callPM φ R w bx lst).low R) := fun j u f hf => by
        have := hle j u f hf
        unfold PM.low at hf ⊢
        split at hf
        · rename_i hj; rw [if_pos hj]; exact this
        · cases hf
      have h4 : @VRL v2 (reMap R [] (φ.low R)) c _ := mAL_ok hcl (fun q hq => by cases hq) h3
      refine ⟨e, cs, t, fr, hlel _ _ _ he, hbk, h1, h2, @VRL.mono v2 _ _ (fun j u f hf => hlel j u f ?_) _ _ h4⟩
      unfold reMap at hf
      split at hf
      · exact hf
      · split at hf
        · simp [fnd] at hf
        · cases hf
theorem binL_get (b : Base) : ∀ (l : List (List AV × TypeId)) (k i : Nat), (putObs b (binL l k)).get i = if k ≤ i ∧ i < k + l.length then (l[i - k]?).map (fun q => Ob.box q.1 q.2) else b.get i := by
  intro l
  induction l with
  | nil => intro k i; simp [binL, putObs]; omega
  | cons q l ih =>
    intro k i
    simp only [binL, putObs]
    rw [T.get_set, ih]
    by_cases h1 : i = k
    · subst h1; rw [if_pos rfl, if_pos (by simp), Nat.sub_self]; rfl
    · rw [if_neg h1]
      by_cases h2 : k + 1 ≤ i ∧ i < k + 1 + l.length
      · rw [if_pos h2, if_pos (by simp; omega), show i - k = (i - (k + 1)) + 1 by omega, List.getElem?_cons_succ]
      · rw [if_neg h2, if_neg (by simp; omega)]
theorem putObs_append (b : Base) : ∀ (l m : List (Nat × Ob)), putObs b (l ++ m) = putObs (putObs b m) l := by
  intro l
  induction l with
  | nil => intro m; rfl
  | cons p l ih => intro m; simp only [List.cons_append, putObs, ih]
theorem linL_get (b : Base) (L : Option Lin) (k i : Nat) : (putObs b (linL L k)).get i = (match L with
  | some L => if i = k then some (.opq 2 0 gid (.slc L.l) L.x L.y [] L.t) else b.get i
  | none => b.get i) := by
  cases L with
  | none => rfl
  | some L =>
    simp only [linL, putObs]
    rw [T.get_set]
theorem call_hold (hb : BaseOk gl b R) {p : Dcs} {hk : FuncId → List AV → St → CR} (hi : @Inv v R (cfgP gl b p hk) D φ σ w) (v2 : Val) {bx : List Nat} {lst : Option Ext} {c : Con} (hnd : nodupB bx = true) (hlen : bx.length = c.bin.length)
    (hR : ∀ i ∈ bx, R ≤ i) (hls : LstOk R φ bx lst) (hl0 : c.lin = none → lst = none) (hbox : ∀ (k i : Nat), bx[k]? = some i → ∃ q, c.bin[k]? = some q ∧ @Rep v2 R (callPM φ R w bx lst) w (R + k) (some (.box q.1 q.2)))
    (hlin : ∀ L, c.lin = some L → @Rep v2 R (callPM φ R w bx lst) w (R + c.bin.length) (some (.opq 2 0 gid (.slc L.l) L.x L.y [] L.t))) :
    Hold v2 gl b R 0 .leaf (c.start b R) { tmps := #[], defers := [] } w (callPM φ R w bx lst) where
  size := rfl
  val := fun t x h => by simp [T.get_leaf] at h
  dfs := rfl
  inv := { wf := callPM_wf hb (inv_wf hi) hnd hR hls, low := by show R ≤ R + c.bin.length + c.nl; omega, rep := fun i _ hn => by
             show @Rep v2 R _ w i ((putObs b (binL c.bin R ++ linL c.lin (R + c.bin.length))).get i)
             rw [putObs_append, binL_get]
             have hn : i < R + c.bin.length + c.nl := hn
             have hbase : i < R → @Rep v2 R (callPM φ R w bx lst) w i (b.get i) := fun hlt => @Rep.frame v2 R _ _ w w i _ (PM.low_le _ _) (fun u => (PM.low_lt _ hlt u).symm) (fun _ _ _ => rfl) (call_base hb hi hR hls v2 i hlt)
             by_cases hlt : R ≤ i ∧ i < R + c.bin.length
             · rw [if_pos hlt]
               have hk : i - R < bx.length := by omega
               obtain ⟨q, h1, h2⟩ := hbox (i - R) _ (List.getElem?_eq_getElem hk)
               rw [h1]
               rw [show R + (i - R) = i by omega] at h2
               exact h2
             · rw [if_neg hlt, linL_get]
               cases hL : c.lin with
               | none =>
                 have : c.nl = 0 := by simp [Con.nl, hL]
                 exact hbase (by omega)
               | some L =>
                 have : c.nl = 1 := by simp [Con.nl, hL]
                 dsimp only
                 split
                 · rename_i he; subst he; exact hlin L hL
                 · exact hbase (by omega)
           gl := fun g n hg => by
             obtain ⟨e, h1, h2⟩ := inv_gl hi g n hg
             exact ⟨e, callPM_le hb hi hR hls.le _ _ _ (by rw [PM.low_lt _ (hb.gl g n hg)]; exact h1), h2⟩
           dom := fun i hn => by
             show (putObs b (binL c.bin R ++ linL c.lin (R + c.bin.length))).get i = none
             have hn : R + c.bin.length + c.nl ≤ i := hn
             rw [putObs_append, binL_get, if_neg (by omega), linL_get]
             cases hL : c.lin with
             | none => exact hb.none i (by omega)
             | some L =>
               have : c.nl = 1 := by simp [Con.nl, hL]
               dsimp only
               rw [if_neg (by omega)]
               exact hb.none i (by omega)
           pin := fun _ _ h => by simp [cfg0] at h
           dec := fun _ _ h => by simp [cfg0] at h
           wrR := fun _ h => (by cases h)
           ro := fun i hlt => call_base hb hi hR hls v2 i hlt
           oh := @kOp_ok v2 }
  free := fun i hn u => by
    have hn : R + c.bin.length + c.nl ≤ i := hn
    cases h : callPM φ R w bx lst i u with
    | none => rfl
    | some e =>
      have := hb.gid_lt
      rcases callPM_some hb h with ⟨rfl, _⟩ | ⟨h1, _⟩ | ⟨_, _, id, h2, _⟩ | ⟨h1, _, h2⟩
      · omega
      · omega
      · rw [List.getElem?_eq_none (by omega)] at h2; cases h2
      · cases hL : c.lin with
        | none => rw [hl0 hL] at h2; cases h2
        | some L =>
          have : c.nl = 1 := by simp [Con.nl, hL]
          omega
  roA := fun v3 i hlt => call_base hb hi hR hls v3 i hlt
  rd := rfl
  wr := rfl
end
theorem preOk_holds {v : Val} {p : Dcs} (hp : @Holds v p) {θ : Nat → Sx} : ∀ {q : Dcs}, preOk (decP p) θ q = true → @Holds (v.at θ) q := by
  intro q
  induction q with
  | nil => intro _; exact @Holds.nil (v.at θ)
  | cons c q ih =>
    intro h
    obtain ⟨bx, x⟩ := c
    simp only [preOk, List.all_cons, Bool.and_eq_true] at h
    obtain ⟨h1, h2⟩ := h
    split at h1
    · rename_i y hy
      have := boolB_eq h1; subst this
      refine @Holds.cons (v.at θ) _ _ _ ?_ (ih h2)
      rw [← Bx.sub_eval]
      exact @decP_ok v _ hp _ _ hy
    · cases h1
theorem flat_at {v v' : Val} {φ ψ : PM} {cid k : Nat} {l : List Sh} {rows : List (List Dat)} {av : AV} {z : Value} (hfl : flatL l = true) (hr : RowsOk l rows) (h : (litRows cid l rows)[k]? = some av) (hz : @VR v φ av z) : @VR v' ψ av z := by
  have hlen := litRows_length cid l rows (rows_len hr)
  have x2 : k < rows.length * l.length := by
    rcases Nat.lt_or_ge k (litRows cid l rows).length with h' | h'
    · omega
    · rw [List.getElem?_eq_none h'] at h; cases h
  have hl0 : 0 < l.length := by
    rcases Nat.eq_zero_or_pos l.length with h | h
    · rw [h] at x2; omega
    · exact h
  have hi' : k / l.length < rows.length := (Nat.div_lt_iff_lt_mul hl0).2 x2
  have hjj : k % l.length < l.length := Nat.mod_lt _ hl0
  have hkk : k = k / l.length * l.length + k % l.length := by rw [Nat.mul_comm]; exact (Nat.div_add_mod k l.length).symm
  have hrow : rows[k / l.length]? = some rows[k / l.length] := List.getElem?_eq_getElem hi'
  have hsj : l[k % l.length]? = some l[k % l.length] := List.getElem?_eq_getElem hjj
  obtain ⟨dd, hdd⟩ : ∃ d, (rows[k / l.length])[k % l.length]? = some d := ⟨_, List.getElem?_eq_getElem (by rw [(hr _ (List.getElem_mem hi')).1]; exact hjj)⟩
  have k1 := litRows_get cid l rows (rows_len hr) (k / l.length) (k % l.length) _ hrow hjj
  rw [← hkk, litRow_get cid l _ _ _ _ hsj hdd, h] at k1
  simp only [Option.some.injEq] at k1; subst k1
  exact lit_flat (List.all_eq_true.1 hfl _ (List.getElem_mem hjj)) hz
theorem con_list {v : Val} {θ : Nat → Sx} {R : Nat} {φ ψ : PM} {w : World} {i j nv cid : Nat} {l : List Sh} {x y : Sx} {t : TypeId} (hfl : flatL l = true) (hj : R ≤ j) (hm : ψ j nv = φ i 0) (hno : ∀ u, nv < u → ψ j u = none)
    (h : @Rep (v.at θ) R φ w i (some (.opq 2 0 cid (.slc l) x y [] t))) : @Rep v R ψ w j (some (.opq 2 nv cid (.slc l) (x.sub θ) (y.sub θ) [] t)) := by
  obtain ⟨l2, rows, hl, hx, hr, hor⟩ := h
  simp only [Sh.slc.injEq] at hl; subst hl
  refine ⟨l, rows, rfl, (Sx.sub_dat v θ x).trans hx, hr, ?_⟩
  rcases hor with ⟨h1, h2, h3, h4, h5⟩ | ⟨h1, ⟨ex, g1, g2⟩, har⟩
  · refine .inl ⟨(Sx.sub_dat v θ y).trans h1, h2, rfl, hj, fun u hu => ?_⟩
    by_cases h : u = nv
    · subst h; rw [hm]; exact h5 0 (Nat.le_refl _)
    · exact hno u (by omega)
  · refine .inr ⟨(Sx.sub_dat v θ y).trans h1, ⟨ex, hm.trans g1, g2⟩, ?_⟩
    rw [List.append_nil] at har ⊢
    obtain ⟨ex2, cs, fl, fh, q1, q2, q3, q4, q5, q6⟩ := @own_block (v.at θ) R φ w _ _ _ _ _ _ har
    rw [g1] at q1; simp only [Option.some.injEq] at q1; subst q1
    refine @ArrRep.single v R _ w j nv _ _ ex cs fl fh hj (hm.trans g1) hno q2 q3 q4 q5 fun k av x1 x2 x3 => ?_
    obtain ⟨z, z1, z2⟩ := q6 k av x1 x2 x3
    exact ⟨z, z1, flat_at hfl hr x3 z2⟩
theorem con_ob {v : Val} {θ : Nat → Sx} {R : Nat} {φ ψ : PM} {w : World} {i j : Nat} {o : Ob} (ho : o.okRes = true) (hj : R ≤ j) (hm : ψ j 0 = φ i 0) (hno : ∀ u, 0 < u → ψ j u = none) (h : @Rep (v.at θ) R φ w i (some o)) : @Rep v R ψ w j (some (o.inst θ)) := by
  unfold Ob.okRes at ho
  split at ho
  · rename_i k ver cid l x y t
    simp only [Bool.and_eq_true] at ho
    have := beq_t ho.1; subst this
    have := beq_t ho.2.2.2; subst this
    exact con_list ho.2.2.1 hj hm hno h
  · cases ho
theorem lin_ok {v v' : Val} {R : Nat} {C : Cfg} {D : Nat → Prop} {φ : PM} {σ : St} {w : World} (hi : @Inv v R C D φ σ w) {L : Lin} {a : AV} {q : LR} (hq : linRes σ L a = some q) (hd : D q.id) (hz0 : ∃ z, @VR v φ a z) (hx : @Sx.dat v q.e = @Sx.dat v' L.x) (hy : @Sx.dat v q.y = @Sx.dat v' L.y) :
    ∃ lst : Option Ext, (∀ e, lst = some e → (∃ u f, φ q.id u = some f ∧ f.blk = e.blk) ∧ e.hi + e.up ≤ e.bsz + e.dn) ∧ (∀ u, q.nv ≤ u → φ q.id u = none) ∧
      ∀ (ψ : PM) (j : Nat), R ≤ j → ψ j 0 = lst → (∀ u, 0 < u → ψ j u = none) → (∀ x' z, @VR v φ a z → @VR v' ψ (.opq 2 j 0 (.slc L.l) x' L.y) z) ∧ @Rep v' R ψ w j (some (.opq 2 0 gid (.slc L.l) L.x L.y [] L.t)) := by
  obtain ⟨hfl, h⟩ := linRes_obj hq
  rcases h with ⟨cap, c, base, lim, since, esz, len, rfl, ho, rfl, ⟨hl0, hn0⟩, hlen, hfull, hcv, hy1, _⟩ | ⟨o, hoo, hol, hot, rfl⟩
  · have hrep := inv_rep hi hd (inv_lt hi ho)
    rw [ho] at hrep
    obtain ⟨hR', h1, h2, h3, h4, h5, h6, h7⟩ := hrep
    have hal : aliveV base since q.nv q.ver := by
      rcases hfull with ⟨h, _⟩ | ⟨ha, hb, _⟩
      · exact .inl h
      · exact .inr ⟨hb, by omega⟩
    obtain ⟨e, cs, fl, fh, he, hb, k1, k2, k3, k4, k5⟩ := h5 q.ver hal
    have hlim : limV base lim q.ver e = c.length := by
      rcases hfull with ⟨ha, hb⟩ | ⟨ha, hb, hc⟩
      · simp [limV, ha, hb]
      · simp only [limV, if_neg hc]; exact h7 _ _ ha hb hc he
    rw [hlim] at k2 k5
    refine ⟨some { e with hi := c.length }, fun e' he' => ?_, h4, fun ψ j hj hψ hno => ⟨fun x' z hz => ?_, ?_⟩⟩
    · simp only [Option.some.injEq] at he'; subst he'
      have := (inv_wf hi).top _ _ _ he
      exact ⟨⟨q.ver, e, he, rfl⟩, by show c.length + e.up ≤ e.bsz + e.dn; omega⟩
    · cases hz with
      | slc ex o cc g1 g2 g3 g4 g5 g6 =>
        rw [he] at g1; simp only [Option.some.injEq] at g1; subst g1
        have hdn : e.dn = 0 := by omega
        obtain ⟨g7, g8⟩ := g6.resolve_left (by omega)
        have ho : o = e.up := by omega
        subst ho
        refine @VR.opq v' _ _ _ _ _ _ _ _ (.inr ⟨?_, L.l, _, cc, len, rfl, hψ, hdn, hlen, g4, g8, rfl⟩)
        rw [← hy, hy1]; rfl
    · have hdn : e.dn = 0 ∨ e.dn ≠ 0 := by omega
      have htop := (inv_wf hi).top _ _ _ he
      by_cases hdn : e.dn = 0
      · have hvrl : @VRL v φ c ((cs.toList.drop e.up).take c.length) := by
          refine @VRL.of_get v φ c _ (by simp; omega) fun k av z a1 a2 => ?_
          have hk : k < c.length := by
            rcases Nat.lt_or_ge k c.length with h | h
            · exact h
            · rw [List.getElem?_eq_none h] at a1; cases a1
          obtain ⟨z', y1, y2⟩ := k5 k av (by omega) hk a1
          rw [List.getElem?_take_of_lt hk, List.getElem?_drop, Array.getElem?_toList, show e.up + k = k + e.up - e.dn by omega, y1] at a2
          simp only [Option.some.injEq] at a2; subst a2
          exact y2
        obtain ⟨rows, r1, r2, r3, r4⟩ := @cvtRows_ok v φ _ _ _ _ _ _ hcv hvrl
        have hll := litRows_length gid L.l rows (rows_len r3)
        refine ⟨L.l, rows, rfl, by rw [← hx]; exact r1, r3, .inr ⟨by rw [← hy, hy1]; rfl, ⟨_, hψ, ?_⟩, ?_⟩⟩
        · rw [List.append_nil, hll, r2]; exact hlen.symm
        · rw [List.append_nil]
          refine @ArrRep.single v' R _ w j 0 _ _ { e with hi := c.length } cs fl fh hj hψ (fun u hu => hno u hu) hb k1 (by rw [hll, r2, hlen]; exact Nat.le_refl _) k4 fun k av x1 x2 x3 => ?_
          obtain ⟨z, y1, y2⟩ := @VRL.get v φ _ _ r4 _ _ x3
          refine ⟨z, ?_, flat_at hfl r3 x3 y2⟩
          have hk : k < c.length := by rw [hll, r2, hlen] at x2; exact x2
          rw [List.getElem?_take_of_lt hk, List.getElem?_drop, Array.getElem?_toList] at y1
          show cs[k + e.up - e.dn]? = some z
          rw [show k + e.up - e.dn = e.up + k by omega]; exact y1
      · exfalso
        obtain ⟨z, hz⟩ := hz0
        cases hz with
        | slc ex o cc g1 g2 g3 g4 g5 g6 =>
          rw [he] at g1; simp only [Option.some.injEq] at g1; subst g1
          exact hdn (by omega)
  · have hi0 := @Inv.inv0 v _ _ _ _ _ _ hi
    obtain ⟨z0, hz0⟩ := hz0
    have hd : D o.id := hd
    have hx : @Sx.dat v o.x = @Sx.dat v' L.x := hx
    have hy : @Sx.dat v o.y = @Sx.dat v' L.y := hy
    obtain ⟨rows, r1, r2, r3⟩ := @own_val v R D φ σ w hi0 _ _ _ hoo hz0 hd
    rcases r3 with ⟨bb, _, y0, rfl, _, hno0⟩ | ⟨ex, cc, _, y1, hφ, hdn, hhi, hc, hbs, har⟩
    · refine ⟨none, fun e he => (by cases he), fun u hu => hno0 u (by have : o.ver + 1 ≤ u := hu; omega), fun ψ j hj hψ hno => ⟨fun x' z hz => ?_, ?_⟩⟩
      · obtain ⟨rows2, _, _, k3⟩ := @own_val v R D φ σ w hi0 _ _ _ hoo hz hd
        rcases k3 with ⟨b2, rfl, _⟩ | ⟨_, _, _, y1, _⟩
        · exact @VR.opq v' _ _ _ _ _ _ _ _ (.inl ⟨hy.symm.trans y0, b2, rfl⟩)
        · rw [y0] at y1; cases y1
      · refine ⟨L.l, [], rfl, hx.symm.trans r1, fun r hr => (by cases hr), .inl ⟨hy.symm.trans y0, rfl, rfl, hj, fun u _ => ?_⟩⟩
        by_cases hu : u = 0
        · subst hu; exact hψ
        · exact hno u (by omega)
    · have hnv : ∀ u, o.ver + 1 ≤ u → φ o.id u = none := har.2.2.2.2.1
      obtain ⟨ex2, cs, fl, fh, q1, q2, q3, q4, q5, q6⟩ := @own_block v R φ w _ _ _ _ _ _ har
      rw [hφ] at q1; simp only [Option.some.injEq] at q1; subst q1
      have hll := litRows_length o.cid o.l rows (rows_len r2)
      have htop := (inv_wf hi).top _ _ _ hφ
      refine ⟨some ex, fun e he => ?_, hnv, fun ψ j hj hψ hno => ⟨fun x' z hz => ?_, ?_⟩⟩
      · simp only [Option.some.injEq] at he; subst he
        exact ⟨⟨o.ver, ex, hφ, rfl⟩, htop⟩
      · obtain ⟨rows2, k1, _, k3⟩ := @own_val v R D φ σ w hi0 _ _ _ hoo hz hd
        rw [r1] at k1; simp only [Dat.lst.injEq] at k1; subst k1
        rcases k3 with ⟨_, _, y0, _⟩ | ⟨e3, c3, rfl, _, p1, p2, p3, p4, p5, _⟩
        · rw [y1] at y0; cases y0
        · rw [hφ] at p1; simp only [Option.some.injEq] at p1; subst p1
          refine @VR.opq v' _ _ _ _ _ _ _ _ (.inr ⟨hy.symm.trans y1, L.l, ex, c3, rows.length, rfl, hψ, hdn, ?_, p4, ?_, rfl⟩)
          · rw [← hol]; exact hhi.symm
          · rw [← hol]; exact p5
      · have hfl' : flatL o.l = true := by rw [hol]; exact hfl
        rw [← hol, ← hot]
        have hl2 := litRows_length gid o.l rows (rows_len r2)
        refine ⟨o.l, rows, rfl, hx.symm.trans r1, r2, .inr ⟨hy.symm.trans y1, ⟨ex, hψ, ?_⟩, ?_⟩⟩
        · rw [List.append_nil, hl2]; exact hhi
        · rw [List.append_nil]
          refine @ArrRep.single v' R _ w j 0 _ _ ex cs fl fh hj hψ (fun u hu => hno u hu) q2 q3 (by rw [hl2, hhi]; exact Nat.le_refl _) q5 fun k av x1 x2 x3 => ?_
          rw [hl2] at x2
          have hk : k < (litRows o.cid o.l rows).length := by rw [hll]; exact x2
          obtain ⟨z, z1, z2⟩ := q6 k _ x1 hk (List.getElem?_eq_getElem hk)
          have hg := @flat_any v v φ φ o.cid gid k o.l rows z hfl' r2 hk z2
          obtain ⟨av2, hav2, hz2⟩ := hg
          rw [x3] at hav2; simp only [Option.some.injEq] at hav2; subst hav2
          exact ⟨z, z1, flat_at hfl' r2 x3 hz2⟩
theorem linAt_base {v : Val} {φ : PM} {x a : AV} {z : Value} {bb : Bool} (h : (bif bb then some x else none) = some a) (hv : @VR v φ x z) : ∃ z', @VR v φ a z' := by
  rw [cond_eq_ite] at h
  split at h
  · simp only [Option.some.injEq] at h; subst h; exact ⟨z, hv⟩
  · cases h
mutual
theorem linAt_val {v : Val} {φ : PM} {lid : Nat} : ∀ {x p a : AV} {z : Value}, linAt lid x p = some a → @VR v φ x z → ∃ z', @VR v φ a z'
  | .agg l, p, a, z, h, hv => by
    cases p <;> simp only [linAt, reduceCtorEq] at h
    cases hv with
    | agg l' g => exact linAtL_val h g
  | .tup l, p, a, z, h, hv => by
    cases p <;> simp only [linAt, reduceCtorEq] at h
    cases hv with
    | tup l' g => exact linAtL_val h g
  | .sym .., p, a, z, h, hv => by
    cases p <;> simp only [linAt, reduceCtorEq] at h
    exact linAt_base h hv
  | .symb .., p, a, z, h, hv => by
    cases p <;> simp only [linAt, reduceCtorEq] at h
    exact linAt_base h hv
  | .vstr .., p, a, z, h, hv => by
    cases p <;> simp only [linAt, reduceCtorEq] at h
    exact linAt_base h hv
  | .opq .., p, a, z, h, hv => by
    cases p <;> simp only [linAt, reduceCtorEq] at h
    exact linAt_base h hv
  | .bool .., p, a, z, h, hv => by
    cases p <;> simp only [linAt, reduceCtorEq] at h
    exact linAt_base h hv
  | .int .., p, a, z, h, hv => by
    cases p <;> simp only [linAt, reduceCtorEq] at h
    exact linAt_base h hv
  | .str .., p, a, z, h, hv => by
    cases p <;> simp only [linAt, reduceCtorEq] at h
    exact linAt_base h hv
  | .nilp, p, a, z, h, hv => by
    cases p <;> simp only [linAt, reduceCtorEq] at h
    exact linAt_base h hv
  | .nils, p, a, z, h, hv => by
    cases p <;> simp only [linAt, reduceCtorEq] at h
    exact linAt_base h hv
  | .nilm, p, a, z, h, hv => by
    cases p <;> simp only [linAt, reduceCtorEq] at h
    exact linAt_base h hv
  | .nilfn, p, a, z, h, hv => by
    cases p <;> simp only [linAt, reduceCtorEq] at h
    exact linAt_base h hv
  | .nili, p, a, z, h, hv => by
    cases p <;> simp only [linAt, reduceCtorEq] at h
    exact linAt_base h hv
  | .ptr .., p, a, z, h, hv => by
    cases p <;> simp only [linAt, reduceCtorEq] at h
    exact linAt_base h hv
  | .slc .., p, a, z, h, hv => by
    cases p <;> simp only [linAt, reduceCtorEq] at h
    exact linAt_base h hv
  | .map .., p, a, z, h, hv => by
    cases p <;> simp only [linAt, reduceCtorEq] at h
    exact linAt_base h hv
  | .yld .., p, a, z, h, hv => by
    cases p <;> simp only [linAt, reduceCtorEq] at h
    exact linAt_base h hv
  | .fn .., p, a, z, h, hv => by
    cases p <;> simp only [linAt, reduceCtorEq] at h
    exact linAt_base h hv
  | .iface .., p, a, z, h, hv => by
    cases p <;> simp only [linAt, reduceCtorEq] at h
    exact linAt_base h hv
  | .sslc .., p, a, z, h, hv => by
    cases p <;> simp only [linAt, reduceCtorEq] at h
    exact linAt_base h hv
  | .sstr .., p, a, z, h, hv => by
    cases p <;> simp only [linAt, reduceCtorEq] at h
    exact linAt_base h hv
  | .anyp, p, a, z, h, hv => by
    cases p <;> simp only [linAt, reduceCtorEq] at h
    exact linAt_base h hv
  | .unk, p, a, z, h, hv => by
    cases p <;> simp only [linAt, reduceCtorEq] at h
    exact linAt_base h hv
theorem linAtL_val {v : Val} {φ : PM} {lid : Nat} : ∀ {x p : List AV} {a : AV} {z : List Value}, linAtL lid x p = some a → @VRL v φ x z → ∃ z', @VR v φ a z'
  | [], p, a, z, h, hv => by cases p <;> simp [linAtL] at h
  | y :: l, p, a, z, h, hv => by
    cases p <;> simp only [linAtL, reduceCtorEq] at h
    cases hv with
    | cons g1 g2 =>
      split at h
      · rename_i a' ha
        simp only [Option.some.injEq] at h; subst h
        exact linAt_val ha g1
      · exact linAtL_val h g2
end
theorem lin_all {v v' : Val} {R : Nat} {C : Cfg} {D : Nat → Prop} {φ : PM} {σ : St} {w : World} (hi : @Inv v R C D φ σ w) {c : Con} {args : List AV} {zs : List Value} {q : Option LR} {lk : Option LA} {e0 : Eqs} (h : linTry R c args σ = some (q, lk, e0)) (he : EqsOk v v' e0) (ha : @VRL v φ args zs) (hd : ∀ i ∈ LR.ids q, i < σ.next → D i) :
    ∃ lst : Option Ext, (∀ e, lst = some e → (∃ i ∈ LR.ids q, ∃ u f, φ i u = some f ∧ f.blk = e.blk) ∧ e.hi + e.up ≤ e.bsz + e.dn) ∧ (∀ q', q = some q' → q'.id < σ.next ∧ D q'.id ∧ (∀ u, q'.nv ≤ u → φ q'.id u = none) ∧ (∀ c t, σ.heap.get q'.id ≠ some (.box c t)) ∧ ∃ L, c.lin = some L ∧ flatL L.l = true) ∧ (c.lin = none → lst = none ∧ q = none) ∧
      (∀ (ψ : PM) , ψ (R + c.bin.length) 0 = lst → (∀ u, 0 < u → ψ (R + c.bin.length) u = none) →
        (∀ qa, lk = some qa → ∀ x' z, @VR v φ qa.act z → @VR v' ψ (.opq 2 qa.lid 0 (.slc qa.l) x' qa.y) z) ∧ (∀ L, c.lin = some L → @Rep v' R ψ w (R + c.bin.length) (some (.opq 2 0 gid (.slc L.l) L.x L.y [] L.t)))) := by
  rcases linTry_ok h with ⟨h1, rfl, rfl, rfl⟩ | ⟨L, a, q', h1, rfl, rfl, rfl, hq, hat⟩
  · exact ⟨none, fun e he => (by cases he), fun q' hq' => (by cases hq'), fun _ => ⟨rfl, rfl⟩, fun ψ _ _ => ⟨fun qa hqa => (by cases hqa), fun L hL => (by rw [h1] at hL; cases hL)⟩⟩
  · obtain ⟨o, ho, hnb⟩ := linRes_get hq
    have hlt := inv_lt hi ho
    have hdd := hd q'.id (by simp [LR.ids]) hlt
    obtain ⟨lst, k1, k2, k3⟩ := lin_ok hi hq hdd (linAtL_val hat ha) (he (q'.e, L.x) (by simp)) (he (q'.y, L.y) (by simp))
    refine ⟨lst, fun e he => ?_, fun q2 hq2 => ?_, fun hn => (by rw [h1] at hn; cases hn), fun ψ hψ hno => ?_⟩
    · obtain ⟨⟨u, f, g1, g2⟩, g3⟩ := k1 e he
      exact ⟨⟨q'.id, by simp [LR.ids], u, f, g1, g2⟩, g3⟩
    · simp only [Option.some.injEq] at hq2; subst hq2
      refine ⟨hlt, hdd, k2, fun c t hc => ?_, L, h1, (linRes_obj hq).1⟩
      rw [ho] at hc; simp only [Option.some.injEq] at hc
      exact hnb c t hc
    · obtain ⟨g1, g2⟩ := k3 ψ (R + c.bin.length) (Nat.le_add_right _ _) hψ hno
      refine ⟨fun qa hqa => ?_, fun L' hL' => ?_⟩
      · simp only [Option.some.injEq] at hqa; subst hqa
        exact g1
      · rw [h1] at hL'; simp only [Option.some.injEq] at hL'; subst hL'
        exact g2
theorem ob_no {v : Val} {R : Nat} {φ : PM} {w : World} {i : Nat} {o : Ob} (ho : o.okRes = true) (h : @Rep v R φ w i (some o)) : ∀ u, 0 < u → φ i u = none := by
  intro u hu
  unfold Ob.okRes at ho
  split at ho
  · rename_i k ver cid l x y t
    simp only [Bool.and_eq_true] at ho
    have := beq_t ho.1; subst this
    have := beq_t ho.2.1; subst this
    have := beq_t ho.2.2.2; subst this
    obtain ⟨l2, rows, hl, hx, hr, hor⟩ := h
    rcases hor with ⟨_, _, _, _, h5⟩ | ⟨_, _, har⟩
    · exact h5 u (Nat.zero_le _)
    · exact har.2.2.2.2.1 u hu
  · cases ho
theorem putLin_at {θ : Nat → Sx} {q : LR} {L : Lin} {h : T Ob} : (putLin θ (some q) (some L) h).get q.id = some (.opq 2 q.nv gid (.slc L.l) (L.ox.sub θ) (L.oy.sub θ) [] L.t) := T.get_set_same _ _ _
def LR.at (q : Option LR) (i u : Nat) : Prop := ∃ q', q = some q' ∧ i = q'.id ∧ u = q'.nv
theorem LR.at_ids {q : Option LR} {i u : Nat} (h : LR.at q i u) : i ∈ LR.ids q := by
  obtain ⟨q', rfl, rfl, _⟩ := h
  simp [LR.ids]
open Classical in
theorem conHk_ok {v : Val} {F : Nat → Dat → Dat → Dat → Dat} {P : Program} {gl : Nat → Option Nat} {b : Base} {R : Nat} {p : Dcs} {cons : List Con} (hb : BaseOk gl b R) (hp : @Holds v p) (hF : v.fn = F) (hcs : ∀ c ∈ cons, c.Sound F P gl b R) :
    @HkOk v P R (cfgP gl b p (conHk R (decP p) cons)) := by
  intro f args σ D φ w args' hi ha
  refine ⟨fun x σ' hret hkn hfr => ?_, fun ch σ' hret => ?_⟩
  · have hret : conHk R (decP p) cons f args σ = .ret x σ' := hret
    rcases conHk_ret (R := R) (dec := decP p) (l := cons) (f := f) (args := args) (σ := σ) with h | ⟨c, hc, rfl, h1, h2⟩
    · rw [h] at hret; cases hret
    · obtain ⟨ids, q, lk, e0, e, rd, e2, rd2, l, g0, hnd, hnx, k1, k1', k2, k3, k4, k5, hlq, k6⟩ := try_ret h1
      rw [h2, k6] at hret
      obtain ⟨hbl, hbk⟩ := boxArgs_box k1'
      have hboxed : ∀ i ∈ ids, R ≤ i ∧ ∃ c t, σ.heap.get i = some (.box c t) := fun i hi' => by
        obtain ⟨k, hk, rfl⟩ := List.getElem_of_mem hi'
        obtain ⟨g1, c2, b2, _, _, _, g3, _⟩ := hbk k _ (List.getElem?_eq_getElem hk)
        exact ⟨g1, c2, _, g3⟩
      simp only [Con.ret, CR.ret.injEq] at hret
      obtain ⟨rfl, rfl⟩ := hret
      generalize hθ : nameAt l = θ at *
      have heq : EqsOk v (v.at θ) (e0 ++ (e ++ e2)) := namesOf_ok hθ k2
      have hrdk : ∀ i ∈ ids.take c.nr ++ (rd ++ rd2), i < σ.next → D i := fun i hi' hn => hkn i (.inl (lgAll_rd _ σ i hi')) hn
      have hwrk : ∀ i ∈ ids.drop c.nr ++ LR.ids q, i < σ.next → D i := fun i hi' hn => hkn i (.inr ((wrAll_mem _ _ _).2 (.inl hi'))) hn
      obtain ⟨lst, hl1, hl2, hl3, hl4⟩ := lin_all (v' := v.at θ) hi g0 heq.app.1 ha fun i hi' hn => hwrk i (List.mem_append_right _ hi') hn
      have hgR := hb.gid_lt
      have hnb : ids.length = c.bin.length := hbl
      have hcl0 : callPM φ R w ids lst (R + c.bin.length) 0 = lst := by
        have hg : R + c.bin.length ≠ gid := by omega
        have hn : ¬ R + c.bin.length < R := by omega
        simp [callPM, hg, hn, hnb]
      have hclu : ∀ u, 0 < u → callPM φ R w ids lst (R + c.bin.length) u = none := fun u hu => by
        have hg : R + c.bin.length ≠ gid := by omega
        have hn : ¬ R + c.bin.length < R := by omega
        have hu : ¬ u = 0 := by omega
        simp [callPM, hg, hn, hu]
      obtain ⟨hlk, hlin⟩ := hl4 (callPM φ R w ids lst) hcl0 hclu
      have hlsR : ∀ e, lst = some e → ∃ i u f, R ≤ i ∧ i ∈ LR.ids q ∧ φ i u = some f ∧ f.blk = e.blk := fun e he => by
        obtain ⟨⟨i, h1, u, f, h2, h3⟩, _⟩ := hl1 e he
        exact ⟨i, u, f, (hlq i h1).1, h1, h2, h3⟩
      have hnbx : ∀ i ∈ LR.ids q, i ∉ ids := fun i hi' hm => by
        obtain ⟨_, c2, t2, h⟩ := hboxed i hm
        cases q with
        | none => cases hi'
        | some q' =>
          simp only [LR.ids, List.mem_singleton] at hi'; subst hi'
          exact (hl2 q' rfl).2.2.2.1 c2 t2 h
      have hLst : LstOk R φ ids lst := fun e he => by
        obtain ⟨⟨i, h1, u, f, h2, h3⟩, h4⟩ := hl1 e he
        exact ⟨⟨i, u, f, (hlq i h1).1, hnbx i h1, h2, h3⟩, h4⟩
      have hrd' : ∀ i ∈ rd ++ rd2, i ∉ LR.ids q ∧ (i < σ.next → D i) := fun i hi' => ⟨fun hm => (hlq i hm).2 hi', fun hn => hrdk i (List.mem_append_right _ hi') hn⟩
      have hargs : @VRL (v.at θ) (callPM φ R w ids lst) c.args args'.toList := pAL_ok hb hi hboxed hlsR hlk k1 heq.app.2.app.1 ha fun i hi' => hrd' i (by simp [hi'])
      simp only [Con.ok, Bool.and_eq_true] at k5
      obtain ⟨k5, k5a, k5b, k5c, k5d, k5e⟩ := k5
      have k5a := List.all_eq_true.1 k5a
      have k5b := beq_t k5b
      have k5c := ble_t k5c
      have k5d := List.all_eq_true.1 k5d
      have k5e : c.nl = 0 ∨ c.objs.length = 0 := by
        simp only [Bool.or_eq_true] at k5e
        exact k5e.imp beq_t beq_t
      have hnl : c.objs.length ≠ 0 → lst = none ∧ q = none := fun h => hl3 (by
        have h0 := k5e.resolve_right h
        cases hL : c.lin with
        | none => rfl
        | some L => simp [Con.nl, hL] at h0)
      have hwf := inv_wf hi
      have hlt : ∀ i ∈ ids, i < σ.next := fun i hi' => by
        obtain ⟨_, c2, t2, h⟩ := hboxed i hi'
        exact inv_lt hi h
      have hidsD : ∀ i ∈ ids, D i := fun i hi' => by
        rw [← List.take_append_drop c.nr ids] at hi'
        rcases List.mem_append.1 hi' with h | h
        · exact hrdk i (by simp [h]) (hlt i (List.mem_of_mem_take h))
        · exact hwrk i (by simp [h]) (hlt i (List.mem_of_mem_drop h))
      have hbrep : ∀ (k i : Nat), ids[k]? = some i → ∃ q, c.bin[k]? = some q ∧ @Rep (v.at θ) R (callPM φ R w ids lst) w (R + k) (some (.box q.1 q.2)) := fun k i hk => by
        obtain ⟨g1, c2, b2, e', rd', g2, g3, g4, g5, g6⟩ := hbk k i hk
        have hm := List.mem_of_getElem? hk
        have hr := inv_rep hi (hidsD i hm) (hlt i hm)
        rw [g3] at hr
        obtain ⟨hR, ex, cs, fl, fh, q1, q2, q3, q4, q5, q6, q7, q8⟩ := hr
        have hvr : @VRL (v.at θ) (callPM φ R w ids lst) b2.1 cs.toList := pAL_ok hb hi hboxed hlsR (lk := none) (fun _ h => (by cases h)) g4 (fun z hz => heq.app.2.app.2 z (g5 z hz)) q7 fun j hj => hrd' j (by simp [g6 j hj])
        have hl1 := @VRL.length (v.at θ) _ _ _ hvr
        have hl2 := @VRL.length v _ _ _ q7
        have hll : b2.1.length = c2.length := by omega
        refine ⟨b2, g2, by omega, ex, cs, fl, fh, ?_, q2, q3, q4, by rw [hll]; exact q5, by rw [hll]; exact q6, hvr, by rw [hll]; exact q8⟩
        have hg : R + k ≠ gid := by omega
        have hn : ¬ R + k < R := by omega
        have hkl : k < ids.length := by
          rcases Nat.lt_or_ge k ids.length with h | h
          · exact h
          · rw [List.getElem?_eq_none h] at hk; cases hk
        have hne : ¬ R + k = R + ids.length := by omega
        simp only [callPM, if_neg hg, if_neg hn, if_true, if_neg hne, Nat.add_sub_cancel_left, hk]
        exact q1
      refine (hcs c hc (v.at θ) hF (preOk_holds hp k4) w (callPM φ R w ids lst) args' (call_hold hb hi _ hnd hbl (fun i hi' => (hboxed i hi').1) hLst (fun h => (hl3 h).1) hbrep hlin) hargs).mono fun e' w' qq => ?_
      obtain ⟨φ1, y, rfl, hy, htr, hwf1, hob, hbo, hlo⟩ := qq
      let N := R + c.bin.length + c.nl
      have hN : N = R + c.bin.length + c.nl := rfl
      let d := σ.next - N
      have hd : d = σ.next - N := rfl
      have hid : R + c.bin.length + c.nl ≤ σ.next := hnx
      let ψ : PM := fun i u => if σ.next ≤ i ∧ i < σ.next + c.objs.length then φ1 (i - d) u else if LR.at q i u then φ1 (R + c.bin.length) 0 else φ i u
      have hqlt : ∀ i ∈ LR.ids q, i < σ.next ∧ D i := fun i hi' => by
        cases q with
        | none => cases hi'
        | some q' =>
          simp only [LR.ids, List.mem_singleton] at hi'; subst hi'
          exact ⟨(hl2 q' rfl).1, (hl2 q' rfl).2.1⟩
      have hatn : ∀ i u, LR.at q i u → ∀ t, u ≤ t → φ i t = none := fun i u h t ht => by
        obtain ⟨q', rfl, rfl, rfl⟩ := h
        exact (hl2 q' rfl).2.2.1 t ht
      have hold : ∀ i u, i < σ.next → i ∉ LR.ids q → ψ i u = φ i u := fun i u hi hq => by
        have h1 : ¬ (σ.next ≤ i ∧ i < σ.next + c.objs.length) := by omega
        have h2 : ¬ LR.at q i u := fun h => hq (LR.at_ids h)
        simp [ψ, h1, h2]
      have hnew : ∀ i, N ≤ i → i < N + c.objs.length → ∀ u, ψ (i + d) u = φ1 i u := fun i h1 h2 u => by
        have h3 : σ.next ≤ i + d ∧ i + d < σ.next + c.objs.length := by omega
        have h4 : i + d - d = i := by omega
        simp [ψ, h3, h4]
      have hboxφ : ∀ (k i : Nat), ids[k]? = some i → callPM φ R w ids lst (R + k) 0 = φ i 0 := fun k i hk => by
        have hg : R + k ≠ gid := by omega
        have hn : ¬ R + k < R := by omega
        have hkl : k < ids.length := by
          rcases Nat.lt_or_ge k ids.length with h | h
          · exact h
          · rw [List.getElem?_eq_none h] at hk; cases hk
        have hne : ¬ R + k = R + ids.length := by omega
        simp only [callPM, if_neg hg, if_neg hn, if_true, if_neg hne, Nat.add_sub_cancel_left, hk]
      have hown : ∀ j u f, R ≤ j → callPM φ R w ids lst j u = some f → (∃ k i, ids[k]? = some i ∧ j = R + k ∧ u = 0 ∧ φ i 0 = some f) ∨ (j = R + c.bin.length ∧ lst = some f) := fun j u f hj hf => by
        rcases callPM_some hb hf with ⟨rfl, _⟩ | ⟨h1, _⟩ | ⟨h1, h2, id, h3, h4⟩ | ⟨h1, _, h2⟩
        · omega
        · omega
        · exact .inl ⟨j - R, id, h3, by omega, h2, h4⟩
        · exact .inr ⟨by omega, h2⟩
      have hkeep : ∀ bb, bb < w.heap.size → (∀ i ∈ ids, ∀ f, φ i 0 = some f → f.blk ≠ bb) → (∀ i ∈ LR.ids q, ∀ u f, φ i u = some f → f.blk ≠ bb) → w'.heap[bb]? = w.heap[bb]? := fun bb hbb hne hne2 => htr.keep bb hbb fun j u f hRj hf => by
        rcases hown j u f hRj hf with ⟨k, i, h1, _, _, h4⟩ | ⟨_, h4⟩
        · exact hne i (List.mem_of_getElem? h1) f h4
        · obtain ⟨⟨i, g1, u', f', g2, g3⟩, _⟩ := hl1 f h4
          rw [← g3]; exact hne2 i g1 u' f' g2
      have hkl : ∀ (k i : Nat), ids[k]? = some i → k < ids.length := fun k i hk => by
        rcases Nat.lt_or_ge k ids.length with h | h
        · exact h
        · rw [List.getElem?_eq_none h] at hk; cases hk
      have hpin : ∀ (k i : Nat) (f : Ext), ids[k]? = some i → φ i 0 = some f → φ1 (R + k) 0 = some f := fun k i f hk hf => by
        have := hkl k i hk
        exact htr.pin (R + k) f (by omega) (by omega) ((hboxφ k i hk).trans hf)
      have hro : ∀ (k i : Nat) (f : Ext), ids[k]? = some i → k < c.nr → φ i 0 = some f → w'.heap[f.blk]? = w.heap[f.blk]? := fun k i f hk hkn hf =>
        htr.ro (R + k) f (by omega) (by omega) ((hboxφ k i hk).trans hf)
      have hboxsome : ∀ i ∈ ids, ∃ f, φ i 0 = some f := fun i hi' => by
        obtain ⟨_, c2, t2, h⟩ := hboxed i hi'
        have hr := inv_rep hi (hidsD i hi') (hlt i hi')
        rw [h] at hr
        obtain ⟨_, ex, _, _, _, q1, _⟩ := hr
        exact ⟨ex, q1⟩
      have hblk : ∀ i u f, R + c.bin.length ≤ i → φ1 i u = some f → (∃ j ∈ LR.ids q, ∃ t g, lst = some f ∨ φ j t = some g ∧ g.blk = f.blk) ∧ lst ≠ none ∨ w.heap.size ≤ f.blk := fun i u f hRi hf => by
        rcases htr.own i u f (by omega) hf with ⟨j, t, g, h1, h2, h3⟩ | h
        · rcases hown j t g h1 h2 with ⟨k, id, g1, g2, g3, g4⟩ | ⟨_, g4⟩
          · exfalso
            have hp := hpin k id g g1 g4
            have := hkl k id g1
            rcases hwf1.inj _ _ _ _ _ _ hp hf h3 with h | h <;> omega
          · obtain ⟨⟨id, q1, u', f', q2, q3⟩, _⟩ := hl1 g g4
            exact .inl ⟨⟨id, q1, u', f', .inr ⟨q2, q3.trans h3⟩⟩, by rw [g4]; exact fun h => by cases h⟩
        · exact .inr h
      have hfresh : ∀ i u f, N ≤ i → i < N + c.objs.length → φ1 i u = some f → w.heap.size ≤ f.blk := fun i u f hRi hRi2 hf => by
        rcases hblk i u f (by omega) hf with ⟨_, h⟩ | h
        · exact absurd (hnl (by omega)).1 h
        · exact h
      have hlist : ∀ f, φ1 (R + c.bin.length) 0 = some f → (∃ j ∈ LR.ids q, ∃ t g, φ j t = some g ∧ g.blk = f.blk) ∨ w.heap.size ≤ f.blk := fun f hf => by
        rcases hblk _ _ f (Nat.le_refl _) hf with ⟨⟨j, h1, t, g, h2⟩, _⟩ | h
        · rcases h2 with h2 | h2
          · obtain ⟨⟨id, q1, u', f', q2, q3⟩, _⟩ := hl1 f h2
            exact .inl ⟨id, q1, u', f', q2, q3⟩
          · exact .inl ⟨j, h1, t, g, h2⟩
        · exact .inr h
      have hψ : ∀ i u f, ψ i u = some f → (φ i u = some f) ∨ (σ.next ≤ i ∧ i < σ.next + c.objs.length ∧ φ1 (i - d) u = some f ∧ N ≤ i - d ∧ i - d < N + c.objs.length) ∨ (LR.at q i u ∧ φ1 (R + c.bin.length) 0 = some f) := fun i u f hf => by
        by_cases h : σ.next ≤ i ∧ i < σ.next + c.objs.length
        · simp only [ψ, h, and_self, if_true] at hf
          exact .inr (.inl ⟨h.1, h.2, hf, by omega, by omega⟩)
        · simp only [ψ, h, if_false] at hf
          by_cases h2 : LR.at q i u
          · simp only [h2, if_true] at hf
            exact .inr (.inr ⟨h2, hf⟩)
          · simp only [h2, if_false] at hf
            exact .inl hf
      have hle : φ.le ψ := fun i u f hf => by
        by_cases h : σ.next ≤ i ∧ i < σ.next + c.objs.length
        · have := hfr i h.1 h.2 u
          rw [this] at hf; cases hf
        · by_cases h2 : LR.at q i u
          · rw [hatn i u h2 u (Nat.le_refl _)] at hf; cases hf
          · simp [ψ, h, h2, hf]
      have hlkok : LkOk (R + c.bin.length) (R + c.bin.length + c.nl + c.objs.length) d (c.lkOf R q) φ1 ψ := fun i e h1 h2 he => by
        cases q with
        | none =>
          have hnl0 : c.nl = 0 := by
            rcases linTry_ok g0 with ⟨h, _⟩ | ⟨_, _, _, _, h, _⟩
            · simp [Con.nl, h]
            · cases h
          exact (hnew i (by omega) (by omega) 0).trans he
        | some q' =>
          obtain ⟨L, hL, _⟩ := (hl2 q' rfl).2.2.2.2
          have hnl1 : c.nl = 1 := by simp [Con.nl, hL]
          dsimp only [Con.lkOf]
          split
          · rename_i hq'
            have h1 : ¬ (σ.next ≤ q'.id ∧ q'.id < σ.next + c.objs.length) := by have := (hl2 q' rfl).1; omega
            have h2 : LR.at (some q') q'.id q'.nv := ⟨q', rfl, rfl, rfl⟩
            simp only [ψ, h1, h2, if_true, if_false]
            rw [← hq']; exact he
          · exact (hnew i (by omega) (by omega) 0).trans he
      have hinst : ∀ {l : List AV} {l' : List Value}, okResL (R + c.bin.length) (R + c.bin.length + c.nl + c.objs.length) l = true → @VRL (v.at θ) φ1 l l' → @VRL v ψ (instL θ d (c.lkOf R q) l) l' := fun h1 h2 =>
        instL_ok hlkok h1 h2
      refine ⟨ψ, y, rfl, inst_ok hlkok k5 hy, ?_⟩
      have hlg := lgAll_heap (ids.take c.nr ++ (rd ++ rd2)) σ
      have hwr : ∀ i, i ∈ wrAll (ids.drop c.nr ++ LR.ids q) σ.wr ↔ (i ∈ ids.drop c.nr ∨ i ∈ LR.ids q) ∨ i ∈ σ.wr := fun i => by rw [wrAll_mem, List.mem_append]
      exact {
        le := hle
        grow := fun i hx hn u => by
          have hn : ¬ (σ.next ≤ i ∧ i < σ.next + c.objs.length) := hn
          have h2 : ¬ LR.at q i u := fun h => by
            rcases hx with h' | h'
            · exact h' ((hwr i).2 (.inl (.inr (LR.at_ids h))))
            · have h' : σ.next + c.objs.length ≤ i := h'
              have := (hqlt i (LR.at_ids h)).1
              omega
          simp [ψ, hn, h2]
        wrR := fun i hi' => by
          rcases (hwr i).1 hi' with (h | h) | h
          · exact .inr (hboxed i (List.mem_of_mem_drop h)).1
          · exact .inr (hlq i h).1
          · exact .inl h
        wf := by
          have one : ∀ i u f j t g, LR.at q i u → φ1 (R + c.bin.length) 0 = some f → φ j t = some g → f.blk = g.blk → i = j := fun i u f j t g h1 h2 h3 h4 => by
            rcases hlist f h2 with ⟨j', k1, t', g', k2, k3⟩ | h
            · have hj' : j' = i := by
                obtain ⟨q', rfl, rfl, _⟩ := h1
                simpa [LR.ids] using k1
              subst hj'
              rcases hwf.inj _ _ _ _ _ _ k2 h3 (k3.trans h4) with h | h
              · exact h
              · have := (hlq _ k1).1; omega
            · have := hwf.lt _ _ _ h3
              omega
          refine ⟨fun i u f j t g hf hg hbk => ?_, fun i u f hf => ?_, fun i u f hf => ?_⟩
          · rcases hψ _ _ _ hf with h1 | ⟨a1, a2, a3, a4, a5⟩ | ⟨a1, a2⟩
            · rcases hψ _ _ _ hg with h2 | ⟨b1, b2, b3, b4, b5⟩ | ⟨b1, b2⟩
              · exact hwf.inj _ _ _ _ _ _ h1 h2 hbk
              · have := hwf.lt _ _ _ h1
                have := hfresh _ _ _ b4 b5 b3
                omega
              · exact .inl (one _ _ _ _ _ _ b1 b2 h1 hbk.symm).symm
            · rcases hψ _ _ _ hg with h2 | ⟨b1, b2, b3, b4, b5⟩ | ⟨b1, b2⟩
              · have := hwf.lt _ _ _ h2
                have := hfresh _ _ _ a4 a5 a3
                omega
              · rcases hwf1.inj _ _ _ _ _ _ a3 b3 hbk with h | h
                · exact .inl (by omega)
                · omega
              · obtain ⟨q', rfl, _⟩ := b1
                exact absurd (hnl (by omega)).2 (fun h => by cases h)
            · rcases hψ _ _ _ hg with h2 | ⟨b1, b2, b3, b4, b5⟩ | ⟨b1, b2⟩
              · exact .inl (one _ _ _ _ _ _ a1 a2 h2 hbk)
              · obtain ⟨q', rfl, _⟩ := a1
                exact absurd (hnl (by omega)).2 (fun h => by cases h)
              · obtain ⟨q', rfl, rfl, _⟩ := a1
                obtain ⟨q2, h, rfl, _⟩ := b1
                simp only [Option.some.injEq] at h; subst h
                exact .inl rfl
          · rcases hψ _ _ _ hf with h1 | ⟨a1, a2, a3, a4⟩ | ⟨a1, a2⟩
            · exact Nat.lt_of_lt_of_le (hwf.lt _ _ _ h1) htr.size
            · exact hwf1.lt _ _ _ a3
            · exact hwf1.lt _ _ _ a2
          · rcases hψ _ _ _ hf with h1 | ⟨a1, a2, a3, a4⟩ | ⟨a1, a2⟩
            · exact hwf.top _ _ _ h1
            · exact hwf1.top _ _ _ a3
            · exact hwf1.top _ _ _ a2
        blk := fun i u f hf => by
          rcases hψ _ _ _ hf with h1 | ⟨a1, a2, a3, a4, a5⟩ | ⟨a1, a2⟩
          · exact .inl ⟨u, f, h1, rfl⟩
          · exact .inr (hfresh _ _ _ a4 a5 a3)
          · rcases hlist f a2 with ⟨j, k1, t, g, k2, k3⟩ | h
            · have hj : j = i := by
                obtain ⟨q', rfl, rfl, _⟩ := a1
                simpa [LR.ids] using k1
              subst hj
              exact .inl ⟨t, g, k2, k3⟩
            · exact .inr h
        rep := fun i hi' => by
          show @Rep v R ψ w' i ((addObs θ c.objs σ.next (putLin θ q c.lin (putBoxes θ d (c.lkOf R q) (ids.drop c.nr) (c.bout.drop c.nr) (c.bin.drop c.nr) σ.heap))).get i)
          rw [addObs_get]
          rcases hi' with ⟨hdd, hn⟩ | ⟨h1, h2⟩
          · rw [if_neg (by omega)]
            by_cases hql : i ∈ LR.ids q
            · cases hqq : q with
              | none => rw [hqq] at hql; cases hql
              | some q' =>
                subst hqq
                simp only [LR.ids, List.mem_singleton] at hql; subst hql
                obtain ⟨L, hL, hfl⟩ := (hl2 q' rfl).2.2.2.2
                rw [hL, putLin_at]
                refine con_list hfl (hlq _ (by simp [LR.ids])).1 ?_ (fun u hu => ?_) (hlo L hL)
                · have h1 : ¬ (σ.next ≤ q'.id ∧ q'.id < σ.next + c.objs.length) := by omega
                  have h2 : LR.at (some q') q'.id q'.nv := ⟨q', rfl, rfl, rfl⟩
                  simp only [ψ, h1, h2, if_true, if_false]
                · have h1 : ¬ (σ.next ≤ q'.id ∧ q'.id < σ.next + c.objs.length) := by omega
                  have h2 : ¬ LR.at (some q') q'.id u := fun ⟨q2, h, _, h3⟩ => by
                    simp only [Option.some.injEq] at h; subst h; omega
                  simp only [ψ, h1, h2, if_false]
                  exact (hl2 q' rfl).2.2.1 u (by omega)
            · rw [putLin_get _ _ _ _ _ hql]
              by_cases hmem : i ∈ ids.drop c.nr
              · obtain ⟨k, hk, hki⟩ := List.getElem_of_mem hmem
                have hk' : (ids.drop c.nr)[k]? = some i := by rw [List.getElem?_eq_getElem hk, hki]
                have hk'' : ids[c.nr + k]? = some i := by rw [List.getElem?_drop] at hk'; exact hk'
                have hkl := hkl _ _ hk''
                have hbk1 : c.bout[c.nr + k]? = some c.bout[c.nr + k] := List.getElem?_eq_getElem (by omega)
                have hbk2 : c.bin[c.nr + k]? = some c.bin[c.nr + k] := List.getElem?_eq_getElem (by omega)
                have hnd2 : nodupB (ids.drop c.nr) = true := nodup_drop hnd c.nr
                rw [putBoxes_at θ d _ _ _ _ _ k i _ _ hnd2 hk' (by rw [List.getElem?_drop]; exact hbk1) (by rw [List.getElem?_drop]; exact hbk2)]
                have hr := hbo (c.nr + k) _ _ hbk1 hbk2
                obtain ⟨hR, ex, cs, fl, fh, q1, q2, q3, q4, q5, q6, q7, q8⟩ := hr
                obtain ⟨f, hf⟩ := hboxsome i (List.mem_of_mem_drop hmem)
                have := hpin _ _ f hk'' hf
                rw [this] at q1; simp only [Option.some.injEq] at q1; subst q1
                have hok := k5d _ (List.mem_of_getElem? (show (c.bout.drop c.nr)[k]? = _ by rw [List.getElem?_drop]; exact hbk1))
                have hvr := hinst hok q7
                have hl1 := @VRL.length v _ _ _ hvr
                have hl2 := @VRL.length (v.at θ) _ _ _ q7
                have hll : (instL θ d (c.lkOf R q) c.bout[c.nr + k]).length = c.bout[c.nr + k].length := by omega
                exact ⟨(hboxed i (List.mem_of_mem_drop hmem)).1, f, cs, fl, fh, (hold i 0 hn hql).trans hf, q2, q3, q4, by rw [hll]; exact q5, by rw [hll]; exact q6, hvr, by rw [hll]; exact q8⟩
              · rw [putBoxes_get _ _ _ _ _ _ _ _ hmem]
                refine @Rep.frame v R φ ψ w w' i _ hle (fun u => hold i u hn hql) (fun u f hf => ?_) (inv_rep hi hdd hn)
                by_cases hin : ∃ j ∈ ids, ∃ g, φ j 0 = some g ∧ g.blk = f.blk
                · obtain ⟨j, hj, g, hg, hgb⟩ := hin
                  obtain ⟨k, hk, rfl⟩ := List.getElem_of_mem hj
                  have hk' : ids[k]? = some ids[k] := List.getElem?_eq_getElem hk
                  by_cases hkn : k < c.nr
                  · rw [← hgb]; exact hro k _ g hk' hkn hg
                  · exfalso
                    have hjd : ids[k] ∈ ids.drop c.nr := List.mem_of_getElem? (show (ids.drop c.nr)[k - c.nr]? = some ids[k] by rw [List.getElem?_drop, show c.nr + (k - c.nr) = k by omega]; exact hk')
                    rcases hwf.inj _ _ _ _ _ _ hg hf hgb with h | h
                    · rw [h] at hjd; exact hmem hjd
                    · have := (hboxed _ hj).1; omega
                · refine hkeep _ (hwf.lt _ _ _ hf) (fun j hj g hg hgb => hin ⟨j, hj, g, hg, hgb⟩) fun j hj t g hg hgb => ?_
                  rcases hwf.inj _ _ _ _ _ _ hg hf hgb with h | h
                  · rw [h] at hj; exact hql hj
                  · have := (hlq _ hj).1; omega
          · have h2 : i < σ.next + c.objs.length := h2
            rw [if_pos ⟨h1, h2⟩]
            have hk : i - σ.next < c.objs.length := by omega
            rw [List.getElem?_eq_getElem hk]
            have hrep := hob (i - σ.next) _ (List.getElem?_eq_getElem hk)
            have hlow := inv_low hi
            have hok := k5a _ (List.getElem_mem hk)
            have hpm : ∀ u, ψ i u = φ1 (R + c.bin.length + c.nl + (i - σ.next)) u := fun u => by
              have := hnew (N + (i - σ.next)) (by omega) (by omega) u
              rw [show N + (i - σ.next) + d = i by omega] at this
              exact this
            exact con_ob hok (by omega) (hpm 0) (fun u hu => (hpm u).trans (ob_no hok hrep u hu)) hrep
        frm := ⟨htr.size, fun bb hbb hne => by
          by_cases hin : ∃ j ∈ ids, ∃ g, φ j 0 = some g ∧ g.blk = bb
          · obtain ⟨j, hj, g, hg, hgb⟩ := hin
            obtain ⟨k, hk, rfl⟩ := List.getElem_of_mem hj
            have hk' : ids[k]? = some ids[k] := List.getElem?_eq_getElem hk
            by_cases hkn : k < c.nr
            · rw [← hgb]; exact hro k _ g hk' hkn hg
            · exfalso
              have hjd : ids[k] ∈ ids.drop c.nr := List.mem_of_getElem? (show (ids.drop c.nr)[k - c.nr]? = some ids[k] by rw [List.getElem?_drop, show c.nr + (k - c.nr) = k by omega]; exact hk')
              exact hne _ ((hwr _).2 (.inl (.inl hjd))) 0 g hg hgb
          · exact hkeep bb hbb (fun j hj g hg hgb => hin ⟨j, hj, g, hg, hgb⟩) fun j hj t g hg hgb => hne _ ((hwr _).2 (.inl (.inr hj))) t g hg hgb, htr.os, htr.out, htr.tape⟩ }
  · exfalso
    have hret : conHk R (decP p) cons f args σ = .pan ch σ' := hret
    rcases conHk_ret (R := R) (dec := decP p) (l := cons) (f := f) (args := args) (σ := σ) with h | ⟨c, hc, _, h1, h2⟩
    · rw [h] at hret; cases hret
    · obtain ⟨ids, q, lk, e0, e, rd, e2, rd2, l, _, _, _, _, _, _, _, _, _, _, k6⟩ := try_ret h1
      rw [h2, k6] at hret
      simp [Con.ret] at hret
end Go.Tw
namespace Go.Tw
open Go.ChangeShapes Go.RowKit
/-! A contract, by its function's body. -/
noncomputable def objL : List Ob → Nat → List (Nat × Ob)
  | [], _ => []
  | o :: l, i => (i, o) :: objL l (i + 1)
noncomputable def bloutL : List (List AV × TypeId) → List (List AV) → List (List AV × TypeId)
  | q :: l, c :: m => (c, q.2) :: bloutL l m
  | _, _ => []
noncomputable def loutL (L : Option Lin) (i : Nat) : List (Nat × Ob) := match L with
  | some L => [(i, .opq 2 0 gid (.slc L.l) L.ox L.oy [] L.t)]
  | none => []
noncomputable def Con.out (R : Nat) (c : Con) : List (Nat × Ob) := binL (bloutL c.bin c.bout) R ++ (loutL c.lin (R + c.bin.length) ++ objL c.objs (R + c.bin.length + c.nl))
end Go.Tw
namespace Go.Tw
open Go.ChangeShapes Go.RowKit
/-! Code from what is told under names to what is told under other names. -/
def HT (P : Program) (gl : Nat → Option Nat) (b : Base) (R nr nb nt : Nat) (v : Val) (c : Code) (tm : T AV) (σ : St) (e : AExit) (v' : Val) (tm' : T AV) (σ' : St) : Prop :=
  ∀ (a : Act) (cs : List Frame) (w : World) (φ : PM), Hold v gl b R nt tm σ a w φ →
    Runs P none false c (fun e' a' cs' w' => cs' = cs ∧ ExitP e e' ∧ ∃ φ', Hold v' gl b R nt tm' σ' a' w' φ' ∧ Trans R nr nb φ w φ' w') a cs w
section
variable {P : Program} {gl : Nat → Option Nat} {b : Base} {R nr nb nt : Nat} {v v1 v2 : Val}
theorem HTo.ht (hrb : nr ≤ nb) {c : Code} {tm tm1 tm2 : T AV} {σ σ1 σ2 : St} {e : AExit} (h : HTo v P gl b R nr nb nt c tm σ e tm1 σ1) (k : Retell gl b R nr nb v tm1 σ1 v2 tm2 σ2) : HT P gl b R nr nb nt v c tm σ e v2 tm2 σ2 :=
  fun a cs w φ ha => (h a cs w φ ha).mono fun _ _ _ _ ⟨q1, q2, φ1, q3, q4⟩ => by
    obtain ⟨φ2, r1, r2⟩ := k _ _ _ _ q3
    exact ⟨q1, q2, φ2, r1, q4.trans hrb r2⟩
theorem HT.retell (hrb : nr ≤ nb) {c : Code} {tm tm1 tm2 : T AV} {σ σ1 σ2 : St} {e : AExit} (h : HT P gl b R nr nb nt v c tm σ e v1 tm1 σ1) (k : Retell gl b R nr nb v1 tm1 σ1 v2 tm2 σ2) : HT P gl b R nr nb nt v c tm σ e v2 tm2 σ2 :=
  fun a cs w φ ha => (h a cs w φ ha).mono fun _ _ _ _ ⟨q1, q2, φ1, q3, q4⟩ => by
    obtain ⟨φ2, r1, r2⟩ := k _ _ _ _ q3
    exact ⟨q1, q2, φ2, r1, q4.trans hrb r2⟩
theorem HT.seq (hrb : nr ≤ nb) {x y : Code} {tm tm1 tm2 : T AV} {σ σ1 σ2 : St} {e : AExit} (h : HT P gl b R nr nb nt v x tm σ .normal v1 tm1 σ1) (k : HT P gl b R nr nb nt v1 y tm1 σ1 e v2 tm2 σ2) : HT P gl b R nr nb nt v (.seq x y) tm σ e v2 tm2 σ2 := by
  intro a cs w φ ha
  refine runs_seq ((h a cs w φ ha).mono fun e1 a1 cs1 w1 q => ?_)
  obtain ⟨rfl, q2, φ1, q3, q4⟩ := q
  have : e1 = .normal := by cases e1 <;> simp_all [ExitP]
  subst this
  exact (k a1 _ w1 φ1 q3).mono fun e2 a2 cs2 w2 ⟨r1, r2, φ2, r3, r4⟩ => ⟨r1, r2, φ2, r3, q4.trans hrb r4⟩
theorem HT.run (hb : BaseOk gl b R) (hrb : nr ≤ nb) {p : Dcs} (hp : @Holds v p) {hk : FuncId → List AV → St → CR} (hs : HkSteps (cfgP gl b p hk)) (hh : @HkOk v P R (cfgP gl b p hk))
    (hm : P.follows .mixedOrders = true) {n : Nat} {c : Code} {tm : T AV} {σ : St} {e : AExit} {ρ : List RE} {tm' : List (Nat × AV)} {objs' : List (Nat × Ob)} {nx' : Nat} {E : Eqs}
    (h : runHB R nr nb (exec P (cfgP gl b p hk) n nt c { tm := tm, ds := [], md := none, rd := false } σ) e ρ tm' objs' nx' E = true) (hE : EqsOk v v2 E) : HT P gl b R nr nb nt v c tm σ e v2 (envL tm') (toldSt b objs' nx') := by
  obtain ⟨tm1, σ1, h1, h2⟩ := heap_run hb hp hs hh hm h
  exact h1.ht hrb (h2 v2 hE)
end
end Go.Tw
/-! Pieces of code one behind the other, run in one go: what stands ahead of the rest is told anew once. -/
namespace Go.Tw
open Go.ChangeShapes Go.RowKit
noncomputable section
def execL (P : Program) (C : Cfg) (lo n nt : Nat) : List Code → T AV → St → XR
  | [], tm, σ => match σ.rd, σ.wr with
    | [], [] => .ok .normal { tm := tm, ds := [], md := none, rd := false } σ
    | _, _ => .no
  | c :: l, tm, σ => match exec P C n nt c { tm := tm, ds := [], md := none, rd := false } σ with
    | .ok .normal env σ1 => bif σ1.wr.all (fun i => Nat.ble lo i) then (match env.ds, env.md with
      | [], none => execL P C lo n nt l env.tm σ1.bare
      | _, _ => .no) else .no
    | _ => .no
def seqR : List Code → Code → Code
  | [], r => r
  | c :: l, r => .seq c (seqR l r)
section
variable {v : Val} {P : Program} {gl : Nat → Option Nat} {b : Base} {R nr nb nt : Nat}
theorem execL_ht (hrb : nr ≤ nb) {p : Dcs} (hp : @Holds v p) {hk : FuncId → List AV → St → CR} (hs : HkSteps (cfgP gl b p hk)) (hh : @HkOk v P R (cfgP gl b p hk)) (hm : P.follows .mixedOrders = true) {n : Nat} :
    ∀ {l : List Code} {tm : T AV} {σ : St} {e0 : AExit} {env : Env} {σ1 : St}, execL P (cfgP gl b p hk) (R + nr) n nt l tm σ = .ok e0 env σ1 → ∀ {r : Code} {e : AExit} {tm2 : T AV} {σ2 : St} {v2 : Val},
      HT P gl b R nr nb nt v r env.tm σ1 e v2 tm2 σ2 → HT P gl b R nr nb nt v (seqR l r) tm σ e v2 tm2 σ2
  | [], tm, σ, e0, env, σ1, h, r, e, tm2, σ2, v2, k => by
    unfold execL at h
    split at h
    · simp only [XR.ok.injEq] at h
      obtain ⟨rfl, rfl, rfl⟩ := h
      exact k
    · cases h
  | c :: l, tm, σ, e0, env, σ1, h, r, e, tm2, σ2, v2, k => by
    unfold execL at h
    split at h
    · rename_i env1 σ' hx
      rw [cond_eq_ite] at h
      split at h
      · rename_i hw
        split at h
        · rename_i hd hmd
          have k1 := execL_ht hrb hp hs hh hm h k
          exact HT.seq hrb (HTo.ht hrb (heap_exec hp hs hh hm hx (fun c h => by cases h) hd hmd (fun i hi => ble_t (List.all_eq_true.1 hw i hi))) (fun nt a w φ hh => ⟨φ, hh, .of_sub rfl (fun _ _ _ _ h => h) fun i u e hi he => ⟨i, u, e, hi, he, rfl⟩⟩)) k1
        · cases h
      · cases h
    · cases h
theorem execL_bare {C : Cfg} {lo n : Nat} : ∀ {l : List Code} {tm : T AV} {σ : St} {e0 : AExit} {env : Env} {σ1 : St}, execL P C lo n nt l tm σ = .ok e0 env σ1 → σ1.bare = σ1
  | [], tm, σ, e0, env, σ1, h => by
    unfold execL at h
    split at h
    · rename_i h1 h2
      simp only [XR.ok.injEq] at h
      obtain ⟨rfl, rfl, rfl⟩ := h
      cases σ
      simp only at h1 h2
      subst h1; subst h2
      rfl
    · cases h
  | c :: l, tm, σ, e0, env, σ1, h => by
    unfold execL at h
    split at h
    · rw [cond_eq_ite] at h
      split at h
      · split at h
        · exact execL_bare h
        · cases h
      · cases h
    · cases h
theorem HT.runL (hb : BaseOk gl b R) (hrb : nr ≤ nb) {p : Dcs} (hp : @Holds v p) {hk : FuncId → List AV → St → CR} (hs : HkSteps (cfgP gl b p hk)) (hh : @HkOk v P R (cfgP gl b p hk))
    (hm : P.follows .mixedOrders = true) {n : Nat} {l : List Code} {tm : T AV} {σ : St} {ρ : List RE} {tm' : List (Nat × AV)} {objs' : List (Nat × Ob)} {nx' : Nat} {E : Eqs} {v1 v2 : Val}
    (h : runHB R nr nb (execL P (cfgP gl b p hk) (R + nr) n nt l tm σ) .normal ρ tm' objs' nx' E = true) (hE : EqsOk v v1 E) {r : Code} {e : AExit} {tm2 : T AV} {σ2 : St}
    (k : HT P gl b R nr nb nt v1 r (envL tm') (toldSt b objs' nx') e v2 tm2 σ2) : HT P gl b R nr nb nt v (seqR l r) tm σ e v2 tm2 σ2 := by
  unfold runHB at h
  split at h
  · rename_i e' env σ' hx
    simp only [Bool.and_eq_true] at h
    obtain ⟨_, h4⟩ := h
    split at h4
    · rename_i E' hE'
      have := eqsB_eq h4; subst this
      rw [execL_bare hx] at hE'
      exact execL_ht hrb hp hs hh hm hx (fun a cs w φ ha => by
        obtain ⟨φ1, r1, r2⟩ := retell_ok hb hE' hE _ _ _ _ ha
        exact (k a cs w φ1 r1).mono fun _ _ _ _ ⟨q1, q2, φ2, q3, q4⟩ => ⟨q1, q2, φ2, q3, r2.trans hrb q4⟩)
    · cases h4
  · cases h
end
end
end Go.Tw
