/-
  A part of the proof that the abstract evaluator is sound for the model's machine. Conditions: those of each theorem, as it states them.
-/
import Derived.Test.YtgcpcgaigbnniaaGreatTwG
import Derived.Test.YtgcpcgaigbnniaaGreatTwJ
set_option linter.all false
namespace Go.Tw
open Go.ChangeShapes Go.RowKit
/-! Code over told temporaries and told objects: pieces, loops, calls. -/
abbrev Base := T Ob
noncomputable def cfg0 (gl : Nat → Option Nat) (b : Base) : Cfg := { gl := gl, hk := fun _ _ _ => .no, pin := fun _ => none, dec := fun _ => none, base := fun i => b.get i, oh := kOp }
noncomputable def cfgP (gl : Nat → Option Nat) (b : Base) (p : Dcs) (hk : FuncId → List AV → St → CR) : Cfg := { gl := gl, hk := hk, pin := fun _ => none, dec := decP p, base := fun i => b.get i, oh := kOp }
structure Hold (v : Val) (gl : Nat → Option Nat) (b : Base) (R nt : Nat) (tm : T AV) (σ : St) (a : Act) (w : World) (φ : PM) : Prop where
  size : a.tmps.size = nt
  val : ∀ t x, tm.get t = some x → ∃ x', a.tmps[t]? = some x' ∧ @VR v φ x x'
  dfs : a.defers = []
  inv : @Inv v R (cfg0 gl b) (fun _ => True) φ σ w
  free : ∀ i, σ.next ≤ i → ∀ u, φ i u = none
  roA : ∀ v' : Val, ∀ i, i < R → @Rep v' R (φ.low R) w i (b.get i)
  rd : σ.rd = []
  wr : σ.wr = []
theorem Hold.wf {v : Val} {gl : Nat → Option Nat} {b : Base} {R nt : Nat} {tm : T AV} {σ : St} {a : Act} {w : World} {φ : PM} (h : Hold v gl b R nt tm σ a w φ) : WF R φ w := h.inv.wf
theorem Hold.rep {v : Val} {gl : Nat → Option Nat} {b : Base} {R nt : Nat} {tm : T AV} {σ : St} {a : Act} {w : World} {φ : PM} (h : Hold v gl b R nt tm σ a w φ) {i : Nat} (hi : i < σ.next) : @Rep v R φ w i (σ.heap.get i) := h.inv.rep i trivial hi
theorem Hold.glo {v : Val} {gl : Nat → Option Nat} {b : Base} {R nt : Nat} {tm : T AV} {σ : St} {a : Act} {w : World} {φ : PM} (h : Hold v gl b R nt tm σ a w φ) {g n : Nat} (hg : gl g = some n) :
    ∃ e, φ g 0 = some e ∧ e.blk = g ∧ e.up = 0 ∧ e.dn = 0 ∧ n ≤ e.hi := h.inv.gl g n hg
theorem Hold.low {v : Val} {gl : Nat → Option Nat} {b : Base} {R nt : Nat} {tm : T AV} {σ : St} {a : Act} {w : World} {φ : PM} (h : Hold v gl b R nt tm σ a w φ) : R ≤ σ.next := h.inv.low
structure Trans (R nr nb : Nat) (φ : PM) (w : World) (φ' : PM) (w' : World) : Prop where
  size : w.heap.size ≤ w'.heap.size
  keep : ∀ b, b < w.heap.size → (∀ i u e, R ≤ i → φ i u = some e → e.blk ≠ b) → w'.heap[b]? = w.heap[b]?
  own : ∀ i u e, R ≤ i → φ' i u = some e → (∃ j t f, R ≤ j ∧ φ j t = some f ∧ f.blk = e.blk) ∨ w.heap.size ≤ e.blk
  low : φ'.low R = φ.low R
  pin : ∀ i e, R ≤ i → i < R + nb → φ i 0 = some e → φ' i 0 = some e
  ro : ∀ i e, R ≤ i → i < R + nr → φ i 0 = some e → w'.heap[e.blk]? = w.heap[e.blk]?
  os : w'.os = w.os
  out : w'.output = w.output
  tape : w'.tape = w.tape
theorem Trans.trans {R nr nb : Nat} (hrb : nr ≤ nb) {φ φ1 φ2 : PM} {w w1 w2 : World} (h : Trans R nr nb φ w φ1 w1) (k : Trans R nr nb φ1 w1 φ2 w2) : Trans R nr nb φ w φ2 w2 where
  size := Nat.le_trans h.size k.size
  keep := fun b hb hn => by
    rw [k.keep b (Nat.lt_of_lt_of_le hb h.size) ?_]
    · exact h.keep b hb hn
    · intro i u e hi he heq
      rcases h.own i u e hi he with ⟨j, t, f, hj, hf, hb'⟩ | hb'
      · exact hn j t f hj hf (hb'.trans heq)
      · omega
  own := fun i u e hi he => by
    rcases k.own i u e hi he with ⟨j, t, f, hj, hf, hb⟩ | hb
    · rcases h.own j t f hj hf with ⟨j', t', f', hj', hf', hb'⟩ | hb'
      · exact .inl ⟨j', t', f', hj', hf', hb'.trans hb⟩
      · exact .inr (by omega)
    · exact .inr (Nat.le_trans h.size hb)
  low := k.low.trans h.low
  pin := fun i e h1 h2 h3 => k.pin i e h1 h2 (h.pin i e h1 h2 h3)
  ro := fun i e h1 h2 h3 => (k.ro i e h1 h2 (h.pin i e h1 (by omega) h3)).trans (h.ro i e h1 h2 h3)
  os := k.os.trans h.os
  out := k.out.trans h.out
  tape := k.tape.trans h.tape
theorem Trans.of_sub {R nr nb : Nat} {φ φ' : PM} {w : World} (hl : φ'.low R = φ.low R) (hp : ∀ i e, R ≤ i → i < R + nb → φ i 0 = some e → φ' i 0 = some e) (h : ∀ i u e, R ≤ i → φ' i u = some e → ∃ j t f, R ≤ j ∧ φ j t = some f ∧ f.blk = e.blk) : Trans R nr nb φ w φ' w :=
  ⟨Nat.le_refl _, fun _ _ _ => rfl, fun i u e hi he => .inl (h i u e hi he), hl, hp, fun _ _ _ _ _ => rfl, rfl, rfl, rfl⟩
theorem Trans.of_post {v : Val} {R nr nb : Nat} {D : Nat → Prop} {φ φ' : PM} {σ σ' : St} {w w' : World} (hwf : WF R φ w) (h : @Post v R D φ σ w σ' φ' w') (hl : R ≤ σ.next) (hw : ∀ i ∈ σ.wr, R ≤ i) (hro : ∀ i ∈ σ'.wr, R + nr ≤ i) : Trans R nr nb φ w φ' w' := by
  obtain ⟨h1, h2⟩ := @Post.lows v R D φ φ' σ σ' w w' h hl hw
  refine ⟨h.frm.size, fun b hb hn => h.frm.keep b hb fun i hi u e he => hn i u e (h1 i hi) he, fun i u e hi he => ?_, h2, fun i e _ _ he => h.le _ _ _ he, fun i e hi1 hi2 he => ?_, h.frm.os, h.frm.out, h.frm.tape⟩
  · rcases h.blk i u e he with ⟨t, f, hf, hb⟩ | hb
    · exact .inl ⟨i, t, f, hi, hf, hb⟩
    · exact .inr hb
  · refine h.frm.keep e.blk (hwf.lt _ _ _ he) fun j hj u f hf hb => ?_
    have := hro j hj
    rcases hwf.inj _ _ _ _ _ _ hf he hb with h | h
    · omega
    · omega
theorem roA_keep {R nr nb : Nat} {b : Base} {φ φ' : PM} {w w' : World} (hwf : WF R φ w) (htr : Trans R nr nb φ w φ' w') (h : ∀ v' : Val, ∀ i, i < R → @Rep v' R (φ.low R) w i (b.get i)) : ∀ v' : Val, ∀ i, i < R → @Rep v' R (φ'.low R) w' i (b.get i) := by
  intro v' i hi
  rw [htr.low]
  refine @Rep.frame v' R _ _ w w' i _ (PM.le_refl _) (fun _ => rfl) (fun u f hf => ?_) (h v' i hi)
  rw [PM.low_lt _ hi] at hf
  refine htr.keep f.blk (hwf.lt i u f hf) fun j t g hj hg heq => ?_
  rcases hwf.inj _ _ _ _ _ _ hg hf heq with h1 | h1
  · omega
  · omega
def HTo (v : Val) (P : Program) (gl : Nat → Option Nat) (b : Base) (R nr nb nt : Nat) (c : Code) (tm : T AV) (σ : St) (e : AExit) (tm' : T AV) (σ' : St) : Prop :=
  ∀ (a : Act) (cs : List Frame) (w : World) (φ : PM), Hold v gl b R nt tm σ a w φ →
    Runs P none false c (fun e' a' cs' w' => cs' = cs ∧ ExitP e e' ∧ ∃ φ', Hold v gl b R nt tm' σ' a' w' φ' ∧ Trans R nr nb φ w φ' w') a cs w
def Retell (gl : Nat → Option Nat) (b : Base) (R nr nb : Nat) (v : Val) (tm : T AV) (σ : St) (v' : Val) (tm' : T AV) (σ' : St) : Prop :=
  ∀ (nt : Nat) (a : Act) (w : World) (φ : PM), Hold v gl b R nt tm σ a w φ → ∃ φ', Hold v' gl b R nt tm' σ' a w φ' ∧ Trans R nr nb φ w φ' w
section
variable {v : Val} {P : Program} {gl : Nat → Option Nat} {b : Base} {R nr nb nt : Nat}
theorem heap_exec {p : Dcs} (hp : @Holds v p) {hk : FuncId → List AV → St → CR} (hs : HkSteps (cfgP gl b p hk)) (hh : @HkOk v P R (cfgP gl b p hk)) (hm : P.follows .mixedOrders = true) {n : Nat} {c : Code} {tm : T AV} {σ : St} {e : AExit} {env1 : Env} {σ1 : St}
    (h : exec P (cfgP gl b p hk) n nt c { tm := tm, ds := [], md := none, rd := false } σ = .ok e env1 σ1) (hn : ∀ c, e ≠ .panic c) (hd : env1.ds = []) (hmd : env1.md = none) (hro : ∀ i ∈ σ1.wr, R + nr ≤ i) : HTo v P gl b R nr nb nt c tm σ e env1.tm σ1.bare := by
  intro a cs w φ ha
  have hi : @Inv v R (cfgP gl b p hk) (fun _ => True) φ σ w :=
    { wf := ha.inv.wf, low := ha.inv.low, rep := ha.inv.rep, gl := ha.inv.gl, dom := ha.inv.dom, pin := fun _ _ h => by simp [cfgP] at h, dec := fun _ _ hd => @decP_ok v _ hp _ _ hd, wrR := ha.inv.wrR, ro := ha.inv.ro, oh := @kOp_ok v }
  have hf : @FrmR v φ nt { tm := tm, ds := [], md := none, rd := false } a := ⟨⟨ha.size, ha.val⟩, ha.dfs ▸ .nil⟩
  refine ((@exec_all v P R (cfgP gl b p hk) hs hh hm n).1 nt c _ _ e env1 σ1 (fun _ => True) φ a cs w none false cs h hi hf ⟨rfl, rfl⟩ rfl (fun i _ _ => trivial) (fun i h1 _ u => ha.free i h1 u)).mono fun e' a' cs' w' q => ?_
  obtain ⟨φ', g1, g2, g3, g4, g5⟩ := q
  have hcs : cs' = cs := by
    rw [hmd] at g3
    exact g3.2
  have hst : StepA σ σ1 := by
    have := exec_steps (P := P) hs n nt c { tm := tm, ds := [], md := none, rd := false } σ
    rw [h] at this
    exact this σ1 rfl
  have htr : Trans R nr nb φ w φ' w' := Trans.of_post ha.wf g5 ha.inv.low ha.inv.wrR hro
  have hi' := g5.inv hi hst
  refine ⟨hcs, ExitP.of g1 hn, φ', ⟨g2.ev.size, g2.ev.val, ?_, ?_, fun i h1 u => ?_, roA_keep ha.inv.wf htr ha.roA, rfl, rfl⟩, htr⟩
  · have := g2.dfs
    rw [hd] at this
    generalize a'.defers = l at this
    cases this
    rfl
  · exact { wf := hi'.wf, low := hi'.low, rep := fun i _ hn => hi'.rep i (.inl trivial) hn, gl := hi'.gl, dom := hi'.dom, pin := fun _ _ h => by simp [cfg0] at h, dec := fun _ _ h => by simp [cfg0] at h, wrR := fun _ h => (by cases h), ro := hi'.ro, oh := @kOp_ok v }
  · by_cases hlt : i < σ.next
    · have := hst.next
      have : σ1.next ≤ i := h1
      omega
    · rw [g5.grow i (.inr h1) (fun hx => by
        have : σ1.next ≤ i := h1
        omega) u]
      exact ha.free i (by omega) u
end
end Go.Tw
namespace Go.Tw
/-! What is told, told anew: objects under other numbers, data under other names. -/
structure RE where
  idn : Nat
  ido : Nat
  ver : Nat
  n : Nat := 0
  t : Nat := 0
def fnd : List RE → Nat → Option RE
  | [], _ => none
  | r :: l, i => bif Nat.beq r.idn i then some r else fnd l i
abbrev Eqs := List (Sx × Sx)
def one1 (b : Bool) (e : Eqs) : Option Eqs := bif b then some e else none
mutual
def mAV (R : Nat) (ρ : List RE) : AV → AV → Option Eqs
  | .sym k e, x => match x with
    | .sym k' e' => one1 (Nat.beq (kindN k) (kindN k')) [(.pr 30 e (.lit 0), .pr 30 e' (.lit 0))]
    | .int k' n' => one1 (Nat.beq (kindN k) (kindN k')) [(.pr 30 e (.lit 0), .lit n')]
    | _ => none
  | .int k n, x => match x with
    | .sym k' e' => one1 (Nat.beq (kindN k) (kindN k')) [(.lit n, .pr 30 e' (.lit 0))]
    | .int k' n' => one1 (Nat.beq (kindN k) (kindN k') && intB n n') []
    | _ => none
  | .bool c, x => match x with
    | .symb c' => some [(.lit (b2i c), bxS c')]
    | .bool c' => one1 (boolB c c') []
    | _ => none
  | .symb c, x => match x with
    | .symb c' => some [(bxS c, bxS c')]
    | _ => none
  | .vstr e, x => match x with
    | .vstr e' => some [(e, e')]
    | _ => none
  | .str s, x => match x with
    | .vstr e' => some [(.slit s, e')]
    | .str s' => one1 (u8s s s') []
    | _ => none
  | .nils, x => match x with
    | .nils => some []
    | .opq k _ _ sh x' y' => bif Nat.beq k 2 then some [(.lit 0, y')] else bif Nat.beq k 0 then (match sh with
      | .slc _ => some [(.pr 13 (.lit 0) (.lit 0), x')]
      | _ => none) else none
    | _ => none
  | .slc id ver off len cap esz, x => match x with
    | .opq k id' ver' sh' _ y' => bif Nat.beq len 0 then (match cap with
      | some 0 => one1 (Nat.beq k 2) [(.lit 0, y')]
      | _ => none) else (match fnd ρ id', sh' with
      | some r, .slc l => one1 (Nat.beq k 2 && (Nat.ble R id' && (Nat.beq r.ido id && (Nat.beq r.ver ver && (Nat.beq ver' 0 && (Nat.beq off 0 && (Nat.beq esz l.length && (Nat.blt 0 r.n && Nat.beq r.n (len * esz))))))))) [(.lit 1, y')]
      | _, _ => none)
    | _ => none
  | .opq k id ver sh x y, z => match z with
    | .opq k' id' ver' sh' x' y' => bif Nat.beq k 0 then one1 (Nat.beq k' 0 && (Nat.beq id id' && Nat.blt gid R && Nat.beq id gid && sh.same sh')) [(x, x')]
      else bif Nat.beq k 1 then one1 (Nat.beq k' 1 && (Nat.beq id id' && Nat.blt gid R && Nat.beq id gid && Nat.beq ver ver' && sh.same sh')) [(x, x'), (y, y')]
      else bif Nat.beq k 2 then (match fnd ρ id' with
        | some r => one1 (Nat.beq k' 2 && (Nat.ble R id' && Nat.beq r.ido id && Nat.beq r.ver ver && Nat.beq ver' 0 && sh.same sh') && Nat.beq r.n 0) [(y, y')]
        | none => none)
      else bif Nat.beq k 4 then (match fnd ρ id' with
        | some r => one1 (Nat.beq k' 4 && (Nat.ble R id' && (Nat.beq r.ido id && (Nat.beq r.ver 0 && Nat.beq r.n 0)))) []
        | none => none)
      else none
    | _ => none
  | .ptr id ver off hi, z => match z with
    | .ptr id' ver' off' hi' => match fnd ρ id' with
      | some r => one1 (Nat.ble R id' && Nat.beq r.ido id && Nat.beq r.ver 0 && Nat.beq ver 0 && Nat.beq ver' 0 && Nat.beq off off' && Nat.beq hi hi' && Nat.beq r.n 0) []
      | none => one1 (Nat.blt id' R && Nat.beq id id' && Nat.beq ver ver' && Nat.beq off off' && Nat.beq hi hi') []
    | _ => none
  | .fn f a c, z => match z with
    | .fn f' a' c' => bif fnB f f' then (match mAL R ρ a a', mAL R ρ c c' with
      | some p, some q => some (p ++ q)
      | _, _ => none) else none
    | _ => none
  | .agg l, z => match z with
    | .agg l' => mAL R ρ l l'
    | _ => none
  | .tup l, z => match z with
    | .tup l' => mAL R ρ l l'
    | _ => none
  | .iface t u, z => match z with
    | .iface t' u' => bif Nat.beq t t' then mAV R ρ u u' else none
    | _ => none
  | .nilp, z => match z with
    | .nilp => some []
    | _ => none
  | .nilm, z => match z with
    | .nilm => some []
    | _ => none
  | .nilfn, z => match z with
    | .nilfn => some []
    | _ => none
  | .nili, z => match z with
    | .nili => some []
    | _ => none
  | .map a, z => match z with
    | .opq k id' _ _ _ _ => match fnd ρ id' with
      | some r => one1 (Nat.beq k 4 && (Nat.ble R id' && (Nat.beq r.ido a && (Nat.beq r.ver 0 && Nat.beq r.n 0)))) []
      | none => none
    | _ => none
  | _, _ => none
def mAL (R : Nat) (ρ : List RE) : List AV → List AV → Option Eqs
  | [], z => match z with
    | [] => some []
    | _ => none
  | y :: l, z => match z with
    | [] => none
    | x :: m => match mAV R ρ y x, mAL R ρ l m with
      | some p, some q => some (p ++ q)
      | _, _ => none
end
def capB : Option Nat → Option Nat → Bool
  | none, none => true
  | some a, some b => Nat.beq a b
  | _, _ => false
theorem capB_eq {a b : Option Nat} (h : capB a b = true) : a = b := by
  cases a <;> cases b <;> simp only [capB, Bool.false_eq_true] at h
  · rfl
  · rw [beq_t h]
def mALu (R : Nat) (ρ : List RE) : List AV → List AV → Option Eqs
  | [], z => match z with
    | [] => some []
    | _ => none
  | y :: l, z => match z with
    | [] => none
    | x :: m => match (match x with
        | .unk => one1 y.flat []
        | .sslc e' => (match y with
          | .slc _ _ _ len _ _ => some [(.pr 30 (.lit len) (.lit 0), .pr 30 e' (.lit 0))]
          | _ => none)
        | .slc id' ver' off' len' cap' esz' => (match y with
          | .slc id ver off len cap esz => (match fnd ρ id' with
            | some r => one1 (Nat.ble R id' && (Nat.beq r.ido id && (Nat.beq r.ver 0 && (Nat.beq ver 0 && (Nat.beq ver' 0 && (Nat.beq off off' && (Nat.beq len len' && (capB cap cap' && (Nat.beq esz esz' && Nat.beq r.n 0))))))))) []
            | none => none)
          | _ => none)
        | x => mAV R ρ y x), mALu R ρ l m with
      | some p, some q => some (p ++ q)
      | _, _ => none
def EqsOk (v v' : Val) (e : Eqs) : Prop := ∀ p ∈ e, @Sx.dat v p.1 = @Sx.dat v' p.2
theorem EqsOk.app {v v' : Val} {a c : Eqs} (h : EqsOk v v' (a ++ c)) : EqsOk v v' a ∧ EqsOk v v' c :=
  ⟨fun p hp => h p (List.mem_append_left _ hp), fun p hp => h p (List.mem_append_right _ hp)⟩
def Ext.upto (n : Nat) (e : Ext) : Ext := if n = 0 then e else { e with hi := min n e.hi }
theorem Ext.upto_blk (n : Nat) (e : Ext) : (e.upto n).blk = e.blk := by unfold Ext.upto; split <;> rfl
theorem Ext.upto_zero (e : Ext) : e.upto 0 = e := rfl
def reMap (R : Nat) (ρ : List RE) (φ : PM) : PM := fun i u => if i < R then φ i u else if u = 0 then (match fnd ρ i with
  | some r => (φ r.ido r.ver).map (Ext.upto r.n)
  | none => none) else none
theorem one1_some {c : Bool} {a e : Eqs} (h : one1 c a = some e) : c = true ∧ e = a := by
  cases c <;> simp [one1] at h
  exact ⟨rfl, h.symm⟩
theorem pict_map {R : Nat} {ρ : List RE} {φ : PM} (hg : gid < R) {bb : Nat} {s : List Value} (h : Pict φ gid bb s) : Pict (reMap R ρ φ) gid bb s := by
  obtain ⟨j, n, e, hj, he, h⟩ := h
  have hj : j = gid := hj.elim id id
  subst hj
  exact ⟨gid, n, e, .inl rfl, by simp [reMap, hg, he], h⟩
section
variable {v v' : Val} {R : Nat} {ρ : List RE} {φ : PM}
theorem toI_eq {a c : Sx} (h : @Sx.dat v (.pr 30 a (.lit 0)) = @Sx.dat v' (.pr 30 c (.lit 0))) : @Sx.eval v a = @Sx.eval v' c := by
  have h : Dat.int (@Sx.dat v a).toI = Dat.int (@Sx.dat v' c).toI := h
  exact Dat.int.inj h
theorem b2i_inj {a c : Bool} (h : b2i a = b2i c) : a = c := by cases a <;> cases c <;> simp [b2i] at h <;> rfl
mutual
theorem mAV_ok : ∀ {y x : AV} {e : Eqs} {z : Value}, mAV R ρ y x = some e → EqsOk v v' e → @VR v φ y z → @VR v' (reMap R ρ φ) x z
  | .sym k e0, x, e, z, h, he, hv => by
    cases x <;> simp only [mAV, reduceCtorEq] at h
    · obtain ⟨h1, rfl⟩ := one1_some h
      have := kindN_inj (beq_t h1); subst this
      cases hv
      rename_i n'
      have h0 := he _ (List.mem_singleton.2 rfl)
      have : @Sx.eval v e0 = n' := by
        have h0 : Dat.int (@Sx.dat v e0).toI = Dat.int n' := h0
        exact Dat.int.inj h0
      rw [this]
      exact @VR.int v' _ _ _
    · obtain ⟨h1, rfl⟩ := one1_some h
      have := kindN_inj (beq_t h1); subst this
      cases hv
      have e1 := toI_eq (he _ (List.mem_singleton.2 rfl))
      rw [e1]
      exact @VR.sym v' _ _ _
  | .int k n, x, e, z, h, he, hv => by
    cases x <;> simp only [mAV, reduceCtorEq] at h
    · obtain ⟨h1, rfl⟩ := one1_some h
      simp only [Bool.and_eq_true] at h1
      have := kindN_inj (beq_t h1.1); subst this
      have := intB_t h1.2; subst this
      cases hv
      exact @VR.int v' _ _ _
    · obtain ⟨h1, rfl⟩ := one1_some h
      have := kindN_inj (beq_t h1); subst this
      cases hv
      rename_i e'
      have h0 := he _ (List.mem_singleton.2 rfl)
      have : n = @Sx.eval v' e' := by
        have h0 : Dat.int n = Dat.int (@Sx.dat v' e').toI := h0
        exact Dat.int.inj h0
      rw [this]
      exact @VR.sym v' _ _ _
  | .bool c, x, e, z, h, he, hv => by
    cases x <;> simp only [mAV, reduceCtorEq] at h
    · obtain ⟨h1, rfl⟩ := one1_some h
      have := boolB_eq h1; subst this
      cases hv
      exact @VR.bool v' _ _
    · simp only [Option.some.injEq] at h; subst h
      cases hv
      rename_i c'
      have h0 := he _ (List.mem_singleton.2 rfl)
      simp only [@bxS_dat v', Sx.dat, Dat.int.injEq] at h0
      rw [b2i_inj h0]
      exact @VR.symb v' _ _
  | .symb c, x, e, z, h, he, hv => by
    cases x <;> simp only [mAV, reduceCtorEq] at h
    simp only [Option.some.injEq] at h; subst h
    cases hv
    have h0 := he _ (List.mem_singleton.2 rfl)
    simp only [@bxS_dat v', @bxS_dat v, Dat.int.injEq] at h0
    rw [b2i_inj h0]
    exact @VR.symb v' _ _
  | .vstr e0, x, e, z, h, he, hv => by
    cases x <;> simp only [mAV, reduceCtorEq] at h
    simp only [Option.some.injEq] at h; subst h
    cases hv with
    | vstr s hs => exact @VR.vstr v' _ _ s ((he _ (List.mem_singleton.2 rfl)).symm.trans hs)
  | .str s, x, e, z, h, he, hv => by
    cases x <;> simp only [mAV, reduceCtorEq] at h
    · simp only [Option.some.injEq] at h; subst h
      cases hv
      exact @VR.vstr v' _ _ s (he _ (List.mem_singleton.2 rfl)).symm
    · obtain ⟨h1, rfl⟩ := one1_some h
      have := u8s_eq h1; subst this
      cases hv
      exact @VR.str v' _ _
  | .nils, x, e, z, h, he, hv => by
    cases hv
    cases x <;> simp only [mAV, reduceCtorEq] at h
    · exact @VR.nils v' _
    · rename_i k id ver sh x' y'
      rw [cond_eq_ite] at h
      split at h
      · rename_i hk
        have := beq_t hk; subst this
        simp only [Option.some.injEq] at h; subst h
        exact @VR.opq v' _ _ _ _ _ _ _ _ (.inl ⟨(he _ (List.mem_singleton.2 rfl)).symm, none, rfl⟩)
      · rw [cond_eq_ite] at h
        split at h
        · rename_i hk
          have := beq_t hk; subst this
          split at h
          · rename_i l
            simp only [Option.some.injEq] at h; subst h
            refine @VR.opq v' _ _ _ _ _ _ _ _ ⟨l, none, 0, 0, rfl, rfl, ?_⟩
            rw [← he _ (List.mem_singleton.2 rfl)]
            exact .none l none 0
          · cases h
        · cases h
  | .slc id ver off len cap esz, x, e, z, h, he, hv => by
    cases x <;> simp only [mAV, reduceCtorEq] at h
    rename_i k id' ver' sh' x' y'
    rw [cond_eq_ite] at h
    split at h
    · rename_i hl0
      have := beq_t hl0; subst this
      split at h
      · obtain ⟨h1, rfl⟩ := one1_some h
        have := beq_t h1; subst this
        cases hv with
        | slc ex o c g1 g2 g3 g4 g5 g6 =>
          have := (g5 0 rfl).1; subst this
          exact @VR.opq v' _ _ _ _ _ _ _ _ (.inl ⟨(he _ (List.mem_singleton.2 rfl)).symm, _, rfl⟩)
      · cases h
    · split at h
      · rename_i r l hr
        obtain ⟨h1, rfl⟩ := one1_some h
        simp only [Bool.and_eq_true] at h1
        obtain ⟨b1, b2, b3, b4, b5, b6, b7, b8, b9⟩ := h1
        have := beq_t b1; subst this
        have b2 := ble_t b2
        have := beq_t b3; subst this
        have := beq_t b4; subst this
        have := beq_t b5; subst this
        have := beq_t b6; subst this
        have := beq_t b7; subst this
        have b8 := blt_t b8
        have b9 := beq_t b9
        cases hv with
        | slc ex o c g1 g2 g3 g4 g5 g6 =>
          have hnR : ¬ id' < R := by omega
          have hlen : 0 < len := by
            rcases Nat.eq_zero_or_pos len with h | h
            · rw [h] at b9; omega
            · exact h
          obtain ⟨g7, g8⟩ := g6.resolve_left (by omega)
          have ho : o = ex.up := by omega
          subst ho
          have hup : Ext.upto r.n ex = { ex with hi := len * l.length } := by
            have : ¬ r.n = 0 := by omega
            simp only [Ext.upto, this, if_false]
            rw [b9, Nat.min_eq_left (by omega)]
          exact @VR.opq v' _ _ _ _ _ _ _ _ (.inr ⟨(he _ (List.mem_singleton.2 rfl)).symm, l, { ex with hi := len * l.length }, c, len, rfl, by simp [reMap, hnR, hr, g1, hup], by show ex.dn = 0; omega, rfl, g4, g8, rfl⟩)
      · cases h
  | .opq k id ver sh x0 y0, x, e, z, h, he, hv => by
    cases x <;> simp only [mAV, reduceCtorEq] at h
    rename_i k' id' ver' sh' x' y'
    cases hv with
    | opq _ hk =>
      simp only [cond_eq_ite] at h
      split at h
      · rename_i hb
        have := beq_t hb; subst this
        obtain ⟨h1, rfl⟩ := one1_some h
        simp only [Bool.and_eq_true] at h1
        obtain ⟨b1, ⟨⟨b2, b3⟩, b4⟩, b5⟩ := h1
        have := beq_t b1; subst this
        have := beq_t b2; subst this
        have := beq_t b4; subst this
        have := Sh.same_eq b5; subst this
        obtain ⟨l, a, n, c, hl, rfl, hg⟩ := hk
        rw [he _ (List.mem_singleton.2 rfl)] at hg
        exact @VR.opq v' _ _ _ _ _ _ _ _ ⟨l, a, n, c, hl, rfl, hg.mono fun _ _ hp => pict_map (blt_t b3) hp⟩
      · split at h
        · rename_i hb
          have := beq_t hb; subst this
          obtain ⟨h1, rfl⟩ := one1_some h
          simp only [Bool.and_eq_true] at h1
          obtain ⟨b1, ⟨⟨⟨b2, b3⟩, b4⟩, b5⟩, b6⟩ := h1
          have := beq_t b1; subst this
          have := beq_t b2; subst this
          have := beq_t b4; subst this
          have := beq_t b5; subst this
          have := Sh.same_eq b6; subst this
          have e1 := he (x0, x') (by simp)
          have e2 := he (y0, y') (by simp)
          simp only at e1 e2
          obtain ⟨l, row, bb, s, o, vf, k1, k2, k3, k4, k5, k6, k7, k8, k9⟩ := hk
          rw [e2] at k2 k3
          rw [e1] at k3
          exact @VR.opq v' _ _ _ _ _ _ _ _ ⟨l, row, bb, s, o, vf, k1, k2, k3, k4, k5, pict_map (blt_t b3) k6, k7, fun j s d a c => (k8 j s d a c).mono fun _ _ hp => pict_map (blt_t b3) hp, k9⟩
        · split at h
          · rename_i hb
            have := beq_t hb; subst this
            split at h
            · rename_i r hr
              obtain ⟨h1, rfl⟩ := one1_some h
              simp only [Bool.and_eq_true] at h1
              obtain ⟨⟨b1, ⟨⟨⟨b2, b3⟩, b4⟩, b5⟩, b6⟩, b7⟩ := h1
              have b7 := beq_t b7
              have := beq_t b1; subst this
              have b2 := ble_t b2
              have := beq_t b3; subst this
              have := beq_t b4; subst this
              have := beq_t b5; subst this
              have := Sh.same_eq b6; subst this
              have e1 := he _ (List.mem_singleton.2 rfl)
              simp only at e1
              refine @VR.opq v' _ _ _ _ _ _ _ _ ?_
              rcases hk with ⟨y0', a, rfl⟩ | ⟨y1, l, ex, c, n, g1, g2, g3⟩
              · exact .inl ⟨by rw [← e1]; exact y0', a, rfl⟩
              · refine .inr ⟨by rw [← e1]; exact y1, l, ex, c, n, g1, ?_, g3⟩
                have : ¬ id' < R := by omega
                simp [reMap, this, hr, g2, b7, Ext.upto_zero]
            · cases h
          · split at h
            · rename_i hb
              have := beq_t hb; subst this
              split at h
              · rename_i r hr
                obtain ⟨h1, rfl⟩ := one1_some h
                simp only [Bool.and_eq_true] at h1
                obtain ⟨b1, b2, b3, b4, b5⟩ := h1
                have := beq_t b1; subst this
                have b2 := ble_t b2
                have := beq_t b3; subst this
                have b4 := beq_t b4
                have b5 := beq_t b5
                obtain ⟨e0, g1, rfl⟩ := hk
                refine @VR.opq v' _ _ _ _ _ _ _ _ ⟨e0, ?_, rfl⟩
                have : ¬ id' < R := by omega
                simp [reMap, this, hr, b4, g1, b5, Ext.upto_zero]
              · cases h
            · cases h
  | .ptr id ver off hi, x, e, z, h, he, hv => by
    cases x <;> simp only [mAV, reduceCtorEq] at h
    rename_i id' ver' off' hi'
    split at h
    · rename_i r hr
      obtain ⟨h1, rfl⟩ := one1_some h
      simp only [Bool.and_eq_true] at h1
      obtain ⟨⟨⟨⟨⟨⟨⟨b1, b2⟩, b3⟩, b4⟩, b5⟩, b6⟩, b7⟩, b8⟩ := h1
      have b8 := beq_t b8
      have b1 := ble_t b1
      have := beq_t b2; subst this
      have b3 := beq_t b3
      have := beq_t b4; subst this
      have := beq_t b5; subst this
      have := beq_t b6; subst this
      have := beq_t b7; subst this
      cases hv with
      | ptr ex o g1 g2 g3 g4 =>
        refine @VR.ptr v' _ _ _ _ _ ex o ?_ g2 g3 g4
        have : ¬ id' < R := by omega
        simp [reMap, this, hr, b3, g1, b8, Ext.upto_zero]
    · obtain ⟨h1, rfl⟩ := one1_some h
      simp only [Bool.and_eq_true] at h1
      obtain ⟨⟨⟨⟨b1, b2⟩, b3⟩, b4⟩, b5⟩ := h1
      have b1 := blt_t b1
      have := beq_t b2; subst this
      have := beq_t b3; subst this
      have := beq_t b4; subst this
      have := beq_t b5; subst this
      cases hv with
      | ptr ex o g1 g2 g3 g4 => exact @VR.ptr v' _ _ _ _ _ ex o (by simp [reMap, b1, g1]) g2 g3 g4
  | .fn f a c, x, e, z, h, he, hv => by
    cases x <;> simp only [mAV, reduceCtorEq] at h
    rw [cond_eq_ite] at h
    split at h
    · rename_i hf
      have := fnB_eq hf; subst this
      split at h
      · rename_i p q hp hq
        simp only [Option.some.injEq] at h; subst h
        cases hv with
        | fn _ a' b' g1 g2 => exact @VR.fn v' _ _ _ _ _ _ (mAL_ok hp he.app.1 g1) (mAL_ok hq he.app.2 g2)
      · cases h
    · cases h
  | .agg l, x, e, z, h, he, hv => by
    cases x <;> simp only [mAV, reduceCtorEq] at h
    cases hv with
    | agg l' g => exact @VR.agg v' _ _ _ (mAL_ok h he g)
  | .tup l, x, e, z, h, he, hv => by
    cases x <;> simp only [mAV, reduceCtorEq] at h
    cases hv with
    | tup l' g => exact @VR.tup v' _ _ _ (mAL_ok h he g)
  | .iface t u, x, e, z, h, he, hv => by
    cases x <;> simp only [mAV, reduceCtorEq] at h
    rw [cond_eq_ite] at h
    split at h
    · rename_i ht
      have := beq_t ht; subst this
      cases hv with
      | iface _ g => exact @VR.iface v' _ _ _ _ (mAV_ok h he g)
    · cases h
  | .nilp, x, e, z, h, he, hv => by
    cases x <;> simp only [mAV, reduceCtorEq] at h
    cases hv; exact @VR.nilp v' _
  | .nilm, x, e, z, h, he, hv => by
    cases x <;> simp only [mAV, reduceCtorEq] at h
    cases hv; exact @VR.nilm v' _
  | .nilfn, x, e, z, h, he, hv => by
    cases x <;> simp only [mAV, reduceCtorEq] at h
    cases hv; exact @VR.nilfn v' _
  | .nili, x, e, z, h, he, hv => by
    cases x <;> simp only [mAV, reduceCtorEq] at h
    cases hv; exact @VR.nili v' _
  | .sslc _, x, e, z, h, he, hv => by simp [mAV] at h
  | .sstr _, x, e, z, h, he, hv => by simp [mAV] at h
  | .map a, x, e, z, h, he, hv => by
    cases x <;> simp only [mAV, reduceCtorEq] at h
    rename_i k' id' ver' sh' x' y'
    split at h
    · rename_i r hr
      obtain ⟨h1, rfl⟩ := one1_some h
      simp only [Bool.and_eq_true] at h1
      obtain ⟨b1, b2, b3, b4, b5⟩ := h1
      have := beq_t b1; subst this
      have b2 := ble_t b2
      have := beq_t b3; subst this
      have b4 := beq_t b4
      have b5 := beq_t b5
      cases hv with
      | map e0 g1 =>
        refine @VR.opq v' _ _ _ _ _ _ _ _ ⟨e0, ?_, rfl⟩
        have : ¬ id' < R := by omega
        simp [reMap, this, hr, b4, g1, b5, Ext.upto_zero]
    · cases h
  | .yld _, x, e, z, h, he, hv => by simp [mAV] at h
  | .anyp, x, e, z, h, he, hv => by simp [mAV] at h
  | .unk, x, e, z, h, he, hv => by simp [mAV] at h
theorem mAL_ok : ∀ {y x : List AV} {e : Eqs} {z : List Value}, mAL R ρ y x = some e → EqsOk v v' e → @VRL v φ y z → @VRL v' (reMap R ρ φ) x z
  | [], x, e, z, h, he, hv => by
    cases x <;> simp only [mAL, reduceCtorEq] at h
    cases hv; exact @VRL.nil v' _
  | y :: l, x, e, z, h, he, hv => by
    cases x <;> simp only [mAL, reduceCtorEq] at h
    split at h
    · rename_i p q hp hq
      simp only [Option.some.injEq] at h; subst h
      cases hv with
      | cons g1 g2 => exact @VRL.cons v' _ _ _ _ _ (mAV_ok hp he.app.1 g1) (mAL_ok hq he.app.2 g2)
    · cases h
end
theorem mALu_ok : ∀ {y x : List AV} {e : Eqs} {z : List Value}, mALu R ρ y x = some e → EqsOk v v' e → @VRL v φ y z → @VRL v' (reMap R ρ φ) x z
  | [], x, e, z, h, he, hv => by
    cases x <;> simp only [mALu, reduceCtorEq] at h
    cases hv; exact @VRL.nil v' _
  | y :: l, x, e, z, h, he, hv => by
    cases x <;> simp only [mALu, reduceCtorEq] at h
    rename_i x m
    split at h
    · rename_i p q hp hq
      simp only [Option.some.injEq] at h; subst h
      cases hv with
      | cons g1 g2 =>
        refine @VRL.cons v' _ _ _ _ _ ?_ (mALu_ok hq he.app.2 g2)
        split at hp
        · obtain ⟨h1, rfl⟩ := one1_some hp
          exact @VR.unk v' _ _ (@VR.oneCell v _ _ _ g1 h1)
        · split at hp
          · rename_i e' id ver off len cap esz
            simp only [Option.some.injEq] at hp
            subst hp
            have h3 := toI_eq (he.app.1 _ (List.mem_singleton.2 rfl))
            cases g1
            exact @VR.sslc v' _ _ _ _ _ h3
          · cases hp
        · split at hp
          · split at hp
            · rename_i r hr
              obtain ⟨h1, rfl⟩ := one1_some hp
              simp only [Bool.and_eq_true] at h1
              obtain ⟨b1, b2, b3, b4, b5, b6, b7, b8, b9, b10⟩ := h1
              have b1 := ble_t b1
              have := beq_t b2; subst this
              have b3 := beq_t b3
              have := beq_t b4; subst this
              have := beq_t b5; subst this
              have := beq_t b6; subst this
              have := beq_t b7; subst this
              have := capB_eq b8; subst this
              have := beq_t b9; subst this
              have b10 := beq_t b10
              cases g1 with
              | slc ex o c q1 q2 q3 q4 q5 q6 =>
                refine @VR.slc v' _ _ _ _ _ _ _ ex o c ?_ q2 q3 q4 q5 q6
                rename_i id' _ _ _ _ _
                simp only [reMap]
                rw [if_neg (by omega), hr]
                simp [b3, q1, b10, Ext.upto_zero]
            · cases hp
          · cases hp
        · exact mAV_ok hp he.app.1 g1
    · cases h
end
noncomputable def mOb0 (R : Nat) (ρ : List RE) (tm : T AV) (h : T Ob) (id' : Nat) (o' : Ob) : Option Eqs := match o' with
  | .opq k' ver' cid' (.slc l') x' y' [] t' => bif Nat.beq k' 2 && Nat.beq ver' 0 then (match fnd ρ id' with
    | some r => match h.get r.ido with
      | some (.opq k ver cid (.slc l) x y [] t) => one1 (Nat.beq r.n 0 && Nat.beq k 2 && (Nat.beq ver r.ver && (Sh.sameL l l' && (Nat.beq t t' && (flatL l || (Nat.beq cid gid && (Nat.beq cid' gid && Nat.blt gid R))))))) [(x, x'), (y, y')]
      | some (.arr c base lim since nv t) => match tm.get r.t with
        | some (.slc id ver off len _ esz) => bif Nat.beq id r.ido && (Nat.beq ver r.ver && (Nat.beq off 0 && (Nat.beq esz l'.length && (Nat.blt 0 r.n && (Nat.beq r.n c.length && (Nat.beq (len * esz) c.length && (flatL l' && (Nat.beq t t' && ((Nat.beq ver base && Nat.beq lim c.length) || (Nat.beq (ver + 1) nv && (Nat.ble since ver && !Nat.beq ver base)))))))))))
            then (match cvtRows gid l' len c with
              | some e => some [(e, x'), (.lit 1, y')]
              | none => none) else none
        | _ => none
      | some (.box c t) => match tm.get r.t with
        | some (.slc id ver off len _ esz) => bif Nat.beq id r.ido && (Nat.beq ver r.ver && (Nat.beq off 0 && (Nat.beq esz l'.length && (Nat.blt 0 r.n && (Nat.beq r.n c.length && (Nat.beq (len * esz) c.length && (flatL l' && (Nat.beq t t' && Nat.beq ver 0))))))))
            then (match cvtRows gid l' len c with
              | some e => some [(e, x'), (.lit 1, y')]
              | none => none) else none
        | _ => none
      | _ => none
    | none => some [(.pr 13 (.lit 0) (.lit 0), x'), (.lit 0, y')]) else none
  | .box c' t' => match fnd ρ id' with
    | some r => match h.get r.ido with
      | some (.box c t) => bif (Nat.beq r.n 0 && Nat.beq r.ver 0) && Nat.beq t t' then mALu R ρ c c' else none
      | _ => none
    | none => none
  | _ => none
noncomputable def mObM (R : Nat) (ρ : List RE) (h : T Ob) (id' : Nat) (o' : Ob) : Option Eqs := match o' with
  | .opq k' ver' _ (.slc l') x' _ [] _ => bif Nat.beq k' 4 && (Nat.beq ver' 0 && (isShI l' && Nat.ble R id')) then (match fnd ρ id' with
    | some r => match h.get r.ido with
      | some (.opq k ver _ (.slc l) x _ [] _) => one1 (Nat.beq k 4 && (Nat.beq ver 0 && (isShI l && (Nat.beq r.ver 0 && Nat.beq r.n 0)))) [(x, x')]
      | some (.map es _) => match es with
        | [] => one1 (Nat.beq r.ver 0 && Nat.beq r.n 0) [(.pr 13 (.lit 0) (.lit 0), x')]
        | _ => none
      | _ => none
    | none => none) else none
  | _ => none
noncomputable def mOb (R : Nat) (ρ : List RE) (tm : T AV) (h : T Ob) (id' : Nat) (o' : Ob) : Option Eqs := match mObM R ρ h id' o' with
  | some e => some e
  | none => mOb0 R ρ tm h id' o'
noncomputable def mObs (R nx : Nat) (ρ : List RE) (tm : T AV) (h : T Ob) : List (Nat × Ob) → Option Eqs
  | [] => some []
  | (i, o) :: l => bif Nat.ble R i && Nat.blt i nx then (match mOb R ρ tm h i o, mObs R nx ρ tm h l with
    | some p, some q => some (p ++ q)
    | _, _ => none) else none
noncomputable def mTm (R : Nat) (ρ : List RE) (tm : T AV) : List (Nat × AV) → Option Eqs
  | [] => some []
  | (t, x) :: l => match tm.get t with
    | some y => match mAV R ρ y x, mTm R ρ tm l with
      | some p, some q => some (p ++ q)
      | _, _ => none
    | none => none
def nodupB : List Nat → Bool
  | [] => true
  | x :: l => !l.any (fun y => Nat.beq x y) && nodupB l
def reOk (R nx nxo : Nat) (ρ : List RE) : Bool := nodupB (ρ.map (·.ido)) && ρ.all fun r => Nat.ble R r.ido && Nat.ble R r.idn && Nat.blt r.idn nx && Nat.blt r.ido nxo
noncomputable def putObs (b : Base) : List (Nat × Ob) → T Ob
  | [] => b
  | (i, o) :: l => (putObs b l).set i o
noncomputable def toldSt (b : Base) (l : List (Nat × Ob)) (nx : Nat) : St := { heap := putObs b l, next := nx, rd := [], wr := [] }
def pinOk (R : Nat) (ρ : List RE) : Nat → Bool
  | 0 => true
  | k + 1 => (match fnd ρ (R + k) with
    | some r => Nat.beq r.ido (R + k) && (Nat.beq r.ver 0 && Nat.beq r.n 0)
    | none => false) && pinOk R ρ k
noncomputable def mAll (R nb : Nat) (ρ : List RE) (tm : T AV) (σ : St) (tm' : List (Nat × AV)) (objs' : List (Nat × Ob)) (nx' : Nat) : Option Eqs :=
  bif reOk R nx' σ.next ρ && (Nat.ble R nx' && pinOk R ρ nb) then (match mTm R ρ tm tm', mObs R nx' ρ tm σ.heap objs' with
    | some p, some q => some (p ++ q)
    | _, _ => none) else none
structure BaseOk (gl : Nat → Option Nat) (b : Base) (R : Nat) : Prop where
  gid_lt : gid < R
  gid_at : ∃ ver cid sh x y t, b.get gid = some (.opq 0 ver cid sh x y [] t)
  none : ∀ i, R ≤ i → b.get i = none
  only : ∀ i o, b.get i = some o → i ≠ gid → ∃ c, o = .ro c ∧ mAL R [] c c = some []
  gl : ∀ g n, gl g = some n → g < R
theorem fnd_mem : ∀ {ρ : List RE} {i : Nat} {r : RE}, fnd ρ i = some r → r ∈ ρ ∧ r.idn = i := by
  intro ρ
  induction ρ with
  | nil => intro i r h; simp [fnd] at h
  | cons x l ih =>
    intro i r h
    simp only [fnd, cond_eq_ite] at h
    split at h
    · rename_i hb
      simp only [Option.some.injEq] at h; subst h
      exact ⟨by simp, beq_t hb⟩
    · obtain ⟨h1, h2⟩ := ih h
      exact ⟨List.mem_cons_of_mem _ h1, h2⟩
theorem nodup_inj : ∀ {ρ : List RE}, nodupB (ρ.map (·.ido)) = true → ∀ {r s : RE}, r ∈ ρ → s ∈ ρ → r.ido = s.ido → r = s := by
  intro ρ
  induction ρ with
  | nil => intro _ r s h; cases h
  | cons x l ih =>
    intro h r s hr hs he
    simp only [List.map_cons, nodupB, Bool.and_eq_true, Bool.not_eq_true', List.any_eq_false] at h
    rcases List.mem_cons.1 hr with rfl | hr'
    · rcases List.mem_cons.1 hs with rfl | hs'
      · rfl
      · exact absurd (by rw [he]; exact Nat.beq_refl _) (h.1 _ (List.mem_map_of_mem hs'))
    · rcases List.mem_cons.1 hs with rfl | hs'
      · exact absurd (by rw [he]; exact Nat.beq_refl _) (h.1 _ (List.mem_map_of_mem hr'))
      · exact ih h.2 hr' hs' he
theorem putObs_get (b : Base) : ∀ (l : List (Nat × Ob)) (i : Nat), (putObs b l).get i = b.get i ∨ ∃ o, (i, o) ∈ l ∧ (putObs b l).get i = some o := by
  intro l
  induction l with
  | nil => intro i; exact .inl rfl
  | cons p l ih =>
    intro i
    obtain ⟨j, o⟩ := p
    simp only [putObs]
    rw [T.get_set]
    split
    · rename_i h; subst h; exact .inr ⟨o, by simp, rfl⟩
    · rcases ih i with h | ⟨o', h1, h2⟩
      · exact .inl h
      · exact .inr ⟨o', List.mem_cons_of_mem _ h1, h2⟩
theorem lit_flat {v v' : Val} {φ ψ : PM} {c : Nat} {s : Sh} {d : Dat} {z : Value} (hc : flatSh s = true) (h : @VR v φ (litAV c s d) z) : @VR v' ψ (litAV c s d) z := by
  cases s with
  | int k =>
    have h : @VR v φ (.int k d.toI) z := h
    cases h; exact @VR.int v' _ _ _
  | bool =>
    have h : @VR v φ (.bool (d.toI != 0)) z := h
    cases h; exact @VR.bool v' _ _
  | str =>
    have h : @VR v φ (.str d.toS) z := h
    cases h; exact @VR.str v' _ _
  | slc l => simp [flatSh] at hc
theorem flat_any {v v' : Val} {φ ψ : PM} {cid cid' k : Nat} {l : List Sh} {rows : List (List Dat)} {z : Value} (hfl : flatL l = true) (hr : RowsOk l rows) (hk : k < (litRows cid l rows).length) (hz : @VR v φ (litRows cid l rows)[k] z) : ∃ av, (litRows cid' l rows)[k]? = some av ∧ @VR v' ψ av z := by
  have hlen := litRows_length cid l rows (rows_len hr)
  have hlen' := litRows_length cid' l rows (rows_len hr)
  have x2 : k < rows.length * l.length := by omega
  have hl0 : 0 < l.length := by
    rcases Nat.eq_zero_or_pos l.length with h | h
    · rw [h] at x2; omega
    · exact h
  have hi' : k / l.length < rows.length := (Nat.div_lt_iff_lt_mul hl0).2 x2
  have hjj : k % l.length < l.length := Nat.mod_lt _ hl0
  have hkk : k = k / l.length * l.length + k % l.length := by rw [Nat.mul_comm]; exact (Nat.div_add_mod k l.length).symm
  have hrow : rows[k / l.length]? = some rows[k / l.length] := List.getElem?_eq_getElem hi'
  have hsj : l[k % l.length]? = some l[k % l.length] := List.getElem?_eq_getElem hjj
  obtain ⟨dd, hdd⟩ : ∃ d, (rows[k / l.length])[k % l.length]? = some d := ⟨_, List.getElem?_eq_getElem (by rw [(hr _ (List.getElem_mem hi')).1]; exact hjj)⟩
  have k1 := litRows_get cid l rows (rows_len hr) (k / l.length) (k % l.length) _ hrow hjj
  have k2 := litRows_get cid' l rows (rows_len hr) (k / l.length) (k % l.length) _ hrow hjj
  rw [← hkk, litRow_get _ l _ _ _ _ hsj hdd] at k1 k2
  rw [List.getElem?_eq_getElem hk] at k1
  simp only [Option.some.injEq] at k1
  rw [k1] at hz
  refine ⟨_, k2, ?_⟩
  have hfs : flatSh l[k % l.length] = true := List.all_eq_true.1 hfl _ (List.getElem_mem hjj)
  have := @lit_flat v v' φ ψ cid _ _ _ hfs hz
  generalize l[k % l.length] = s at *
  cases s with
  | int k => exact this
  | bool => exact this
  | str => exact this
  | slc l => simp [flatSh] at hfs
section
variable {v v' : Val} {R : Nat} {ρ : List RE} {φ : PM} {w : World}
theorem reMap_low (i : Nat) (hi : i < R) (u : Nat) : reMap R ρ φ i u = φ i u := by simp [reMap, hi]
theorem reMap_some {i u : Nat} {e : Ext} (hi : R ≤ i) (h : reMap R ρ φ i u = some e) : u = 0 ∧ ∃ r f, fnd ρ i = some r ∧ φ r.ido r.ver = some f ∧ e = f.upto r.n := by
  have : ¬ i < R := by omega
  simp only [reMap, this, if_false] at h
  split at h
  · rename_i hu
    split at h
    · rename_i r hr
      cases hf : φ r.ido r.ver with
      | none => rw [hf] at h; cases h
      | some f => rw [hf] at h; simp only [Option.map_some, Option.some.injEq] at h; exact ⟨hu, r, f, hr, hf, h.symm⟩
    · cases h
  · cases h
theorem reMap_wf (hwf : WF R φ w) {nx nxo : Nat} (hr : reOk R nx nxo ρ = true) : WF R (reMap R ρ φ) w := by
  simp only [reOk, Bool.and_eq_true, List.all_eq_true] at hr
  obtain ⟨hnd, hall⟩ := hr
  have old : ∀ i u e, reMap R ρ φ i u = some e → (i < R ∧ φ i u = some e) ∨ (R ≤ i ∧ ∃ r f, fnd ρ i = some r ∧ φ r.ido r.ver = some f ∧ R ≤ r.ido ∧ e = f.upto r.n) := by
    intro i u e h
    by_cases hi : i < R
    · rw [reMap_low i hi] at h; exact .inl ⟨hi, h⟩
    · obtain ⟨_, r, f, h1, h2, h3⟩ := reMap_some (by omega) h
      exact .inr ⟨by omega, r, f, h1, h2, ble_t (hall r (fnd_mem h1).1).1.1.1, h3⟩
  refine ⟨fun i u e j t f hi hj hb => ?_, fun i u e hi => ?_, fun i u e hi => ?_⟩
  · rcases old _ _ _ hi with ⟨h1, h2⟩ | ⟨h1, r, e', h2, h3, h4, rfl⟩
    · rcases old _ _ _ hj with ⟨g1, g2⟩ | ⟨g1, s, f', g2, g3, g4, rfl⟩
      · exact .inr ⟨h1, g1⟩
      · rw [Ext.upto_blk] at hb
        rcases hwf.inj _ _ _ _ _ _ h2 g3 hb with k | k
        · omega
        · omega
    · rw [Ext.upto_blk] at hb
      rcases old _ _ _ hj with ⟨g1, g2⟩ | ⟨g1, s, f', g2, g3, g4, rfl⟩
      · rcases hwf.inj _ _ _ _ _ _ h3 g2 hb with k | k
        · omega
        · omega
      · rw [Ext.upto_blk] at hb
        rcases hwf.inj _ _ _ _ _ _ h3 g3 hb with k | k
        · have := nodup_inj hnd (fnd_mem h2).1 (fnd_mem g2).1 k
          subst this
          exact .inl ((fnd_mem h2).2.symm.trans (fnd_mem g2).2)
        · omega
  · rcases old _ _ _ hi with ⟨h1, h2⟩ | ⟨h1, r, f, h2, h3, h4, rfl⟩
    · exact hwf.lt _ _ _ h2
    · rw [Ext.upto_blk]; exact hwf.lt _ _ _ h3
  · rcases old _ _ _ hi with ⟨h1, h2⟩ | ⟨h1, r, f, h2, h3, h4, rfl⟩
    · exact hwf.top _ _ _ h2
    · have := hwf.top _ _ _ h3
      unfold Ext.upto
      split
      · exact this
      · have := Nat.min_le_right r.n f.hi
        show min r.n f.hi + f.up ≤ f.bsz + f.dn
        omega
theorem pinOk_ok : ∀ {nb : Nat}, pinOk R ρ nb = true → ∀ i e, R ≤ i → i < R + nb → φ i 0 = some e → reMap R ρ φ i 0 = some e := by
  intro nb
  induction nb with
  | zero => intro _ i e h1 h2; omega
  | succ k ih =>
    intro h i e h1 h2 he
    simp only [pinOk, Bool.and_eq_true] at h
    by_cases hi : i = R + k
    · subst hi
      obtain ⟨h, _⟩ := h
      split at h
      · rename_i r hr
        simp only [Bool.and_eq_true] at h
        have hnR : ¬ R + k < R := by omega
        simp [reMap, hnR, hr, beq_t h.1, beq_t h.2.1, beq_t h.2.2, he, Ext.upto_zero]
      · cases h
    · exact ih h.2 i e h1 (by omega) he
theorem lit_map {c c' : Nat} {s : Sh} {d : Dat} {z : Value} (hc : flatSh s = true ∨ (c = gid ∧ c' = gid ∧ gid < R)) (h : @VR v φ (litAV c s d) z) : @VR v' (reMap R ρ φ) (litAV c' s d) z := by
  cases s with
  | int k =>
    have h : @VR v φ (.int k d.toI) z := h
    cases h; exact @VR.int v' _ _ _
  | bool =>
    have h : @VR v φ (.bool (d.toI != 0)) z := h
    cases h; exact @VR.bool v' _ _
  | str =>
    have h : @VR v φ (.str d.toS) z := h
    cases h; exact @VR.str v' _ _
  | slc l =>
    rcases hc with hc | ⟨rfl, rfl, hg⟩
    · simp [flatSh] at hc
    · have h : @VR v φ (.opq 0 gid 0 (.slc l) (.dlit d) (.lit 0)) z := h
      cases h with
      | opq _ hk =>
        obtain ⟨l', a, n, c, hl, rfl, hgc⟩ := hk
        exact @VR.opq v' _ _ _ _ _ _ _ _ ⟨l', a, n, c, hl, rfl, hgc.mono fun _ _ hp => pict_map hg hp⟩
omit w in
theorem er_lit {φ' ψ' : PM} {cid : Nat} : ∀ {es : List (AV × AV × Nat)} {rows : List (List Dat)} {l : List MapEntry}, Ent cid es rows → (∀ r ∈ rows, r.length = 2) → @ER v φ' es l → @ER v' ψ' es l
  | [], rows, l, _, _, h => by cases h; exact @ER.nil v' _
  | (k, u, n) :: es, rows, l, he, hr, h => by
    cases rows with
    | nil => simp [Ent] at he
    | cons r rows =>
      simp only [Ent, List.map_cons, List.cons.injEq] at he
      obtain ⟨h1, h2⟩ := he
      rw [litEnt_two cid r (hr r (by simp))] at h1
      simp only [Prod.mk.injEq] at h1
      obtain ⟨rfl, rfl⟩ := h1
      cases h with
      | cons hk hv ht =>
        cases hk; cases hv
        exact @ER.cons v' _ _ _ _ _ _ _ _ (@VR.int v' _ _ _) (@VR.int v' _ _ _) (er_lit h2 (fun q hq => hr q (by simp [hq])) ht)
omit w in
theorem ent_any {cid cid' : Nat} {es : List (AV × AV × Nat)} {rows : List (List Dat)} (h : Ent cid es rows) (hr : ∀ r ∈ rows, r.length = 2) : Ent cid' es rows := by
  unfold Ent at *
  rw [h]
  refine List.map_congr_left fun r hm => ?_
  rw [litEnt_two _ r (hr r hm), litEnt_two _ r (hr r hm)]
theorem mObM_ok {gl : Nat → Option Nat} {b : Base} {nt : Nat} {tm : T AV} {σ : St} {a : Act} (hh : Hold v gl b R nt tm σ a w φ) {nx' : Nat} (hr : reOk R nx' σ.next ρ = true) {id' : Nat} {o' : Ob} {e : Eqs} (h : mObM R ρ σ.heap id' o' = some e) (he : EqsOk v v' e)
    (hid : R ≤ id') : @Rep v' R (reMap R ρ φ) w id' (some o') := by
  have hnR : ¬ id' < R := by omega
  simp only [reOk, Bool.and_eq_true, List.all_eq_true] at hr
  obtain ⟨hnd, hall⟩ := hr
  unfold mObM at h
  split at h
  · rename_i k' ver' cid' l' x' y' t'
    rw [cond_eq_ite] at h
    split at h
    · rename_i hb
      simp only [Bool.and_eq_true] at hb
      obtain ⟨c1, c2, c3, _⟩ := hb
      have := beq_t c1; subst this
      have := beq_t c2; subst this
      have := isShI_eq c3; subst this
      have fin : ∀ (r : RE) (rows : List (List Dat)) (es : List (AV × AV × Nat)) (clock : Nat) (cid : Nat), fnd ρ id' = some r → r.ver = 0 → r.n = 0 → @Sx.dat v' x' = .lst rows → (∀ r ∈ rows, r.length = 2) → Ent cid es rows → @Rep v R φ w r.ido (some (.map es clock)) →
          @Rep v' R (reMap R ρ φ) w id' (some (.opq 4 0 cid' (.slc shI) x' y' [] t')) := fun r rows es clock cid hr hv0 hn0 hx h2 hent hrep => by
        obtain ⟨hR, ex, es', q1, q2, q3⟩ := hrep
        refine ⟨shI, rows, es, rfl, hx, fun r hm => ⟨h2 r hm, fun j s d a b => ?_⟩, ent_any hent h2, hid, ex, es', clock, ?_, q2, er_lit hent h2 q3⟩
        · match j, a with
          | 0, a => simp [shI] at a; subst a; trivial
          | 1, a => simp [shI] at a; subst a; trivial
          | j + 2, a => simp [shI] at a
        · simp [reMap, hnR, hr, hv0, hn0, q1, Ext.upto_zero]
      split at h
      · rename_i r hrr
        have hlt : r.ido < σ.next := blt_t (hall r (fnd_mem hrr).1).2
        have hrep := hh.rep hlt
        split at h
        · rename_i k ver cid l x y t hob
          obtain ⟨h1, rfl⟩ := one1_some h
          simp only [Bool.and_eq_true] at h1
          obtain ⟨b1, b2, b3, b4, b5⟩ := h1
          have := beq_t b1; subst this
          have := beq_t b2; subst this
          have := isShI_eq b3; subst this
          rw [hob] at hrep
          obtain ⟨l2, rows, es, hl, hx, hro, hes, hR, ex, es', clock, q1, q2, q3⟩ := hrep
          simp only [Sh.slc.injEq] at hl; subst hl
          have e1 := he (x, x') (by simp)
          simp only at e1
          exact fin r rows es clock cid hrr (beq_t b4) (beq_t b5) (e1 ▸ hx) (fun r hm => (hro r hm).1) hes ⟨hR, ex, es', q1, q2, q3⟩
        · rename_i es clock hob
          split at h
          · obtain ⟨h1, rfl⟩ := one1_some h
            simp only [Bool.and_eq_true] at h1
            rw [hob] at hrep
            have e1 := he (.pr 13 (.lit 0) (.lit 0), x') (by simp)
            simp only at e1
            exact fin r [] [] clock 0 hrr (beq_t h1.1) (beq_t h1.2) e1.symm (fun r hm => by cases hm) rfl hrep
          · cases h
        · cases h
      · cases h
    · cases h
  · cases h
theorem mOb0_ok {gl : Nat → Option Nat} {b : Base} {nt : Nat} {tm : T AV} {σ : St} {a : Act} (hh : Hold v gl b R nt tm σ a w φ) {nx' : Nat} (hr : reOk R nx' σ.next ρ = true) {id' : Nat} {o' : Ob} {e : Eqs} (h : mOb0 R ρ tm σ.heap id' o' = some e) (he : EqsOk v v' e)
    (hid : R ≤ id') : @Rep v' R (reMap R ρ φ) w id' (some o') := by
  have hnR : ¬ id' < R := by omega
  simp only [reOk, Bool.and_eq_true, List.all_eq_true] at hr
  obtain ⟨hnd, hall⟩ := hr
  unfold mOb0 at h
  split at h
  · rename_i k' ver' cid' l' x' y' t'
    rw [cond_eq_ite] at h
    split at h
    · rename_i hb
      simp only [Bool.and_eq_true] at hb
      have := beq_t hb.1; subst this
      have := beq_t hb.2; subst this
      split at h
      · rename_i r hr
        split at h
        · rename_i k ver cid l x y t hob
          obtain ⟨h1, rfl⟩ := one1_some h
          simp only [Bool.and_eq_true, Bool.or_eq_true] at h1
          obtain ⟨⟨b0, b1⟩, b2, b3, b4, b5⟩ := h1
          have b0 := beq_t b0
          have := beq_t b1; subst this
          have := beq_t b2; subst this
          have := Sh.sameL_eq b3; subst this
          have := beq_t b4; subst this
          have e1 := he (x, x') (by simp)
          have e2 := he (y, y') (by simp)
          simp only at e1 e2
          have hlt : r.ido < σ.next := blt_t (hall r (fnd_mem hr).1).2
          have hrep := hh.rep hlt
          rw [hob] at hrep
          obtain ⟨l2, rows, hl, hx, hro, hor⟩ := hrep
          simp only [Sh.slc.injEq] at hl; subst hl
          have hno : ∀ u, 0 < u → reMap R ρ φ id' u = none := fun u hu => by
            have : ¬ u = 0 := by omega
            simp [reMap, hnR, this]
          have hmap : reMap R ρ φ id' 0 = φ r.ido r.ver := by
            simp only [reMap, hnR, hr, b0, if_false, if_true]
            cases φ r.ido r.ver <;> rfl
          refine ⟨l, rows, rfl, e1 ▸ hx, hro, ?_⟩
          rcases hor with ⟨h1, h2, h3, h4, h5⟩ | ⟨h1, ⟨ex, g1, g2⟩, har⟩
          · refine .inl ⟨e2 ▸ h1, h2, rfl, hid, fun u _ => ?_⟩
            by_cases hu : u = 0
            · subst hu; rw [hmap]; exact h5 _ (Nat.le_refl _)
            · exact hno u (by omega)
          · rw [List.append_nil] at g2 har
            have hlen : ∀ c, (litRows c l rows).length = rows.length * l.length := fun c => litRows_length c l rows (rows_len hro)
            refine .inr ⟨e2 ▸ h1, ⟨ex, hmap.trans g1, ?_⟩, ?_⟩
            · rw [List.append_nil, g2, hlen, hlen]
            · rw [List.append_nil]
              obtain ⟨ex2, cs, fl, fh, q1, q2, q3, q4, q5, q6⟩ := @own_block v R φ w _ _ _ _ _ _ har
              rw [g1] at q1; simp only [Option.some.injEq] at q1; subst q1
              refine @ArrRep.single v' R _ w id' 0 _ _ ex cs fl fh hid (hmap.trans g1) (fun u hu => hno u hu) q2 q3 (by rw [hlen, ← hlen cid]; exact q4) q5 fun k av x1 x2 x3 => ?_
              rw [hlen] at x2
              have hl0 : 0 < l.length := by
                rcases Nat.eq_zero_or_pos l.length with h | h
                · rw [h] at x2; omega
                · exact h
              have hi' : k / l.length < rows.length := (Nat.div_lt_iff_lt_mul hl0).2 x2
              have hj : k % l.length < l.length := Nat.mod_lt _ hl0
              have hkk : k = k / l.length * l.length + k % l.length := by rw [Nat.mul_comm]; exact (Nat.div_add_mod k l.length).symm
              have hrow : rows[k / l.length]? = some rows[k / l.length] := List.getElem?_eq_getElem hi'
              have hsj : l[k % l.length]? = some l[k % l.length] := List.getElem?_eq_getElem hj
              obtain ⟨dd, hdd⟩ : ∃ d, (rows[k / l.length])[k % l.length]? = some d := ⟨_, List.getElem?_eq_getElem (by rw [(hro _ (List.getElem_mem hi')).1]; exact hj)⟩
              have k1 := litRows_get cid' l rows (rows_len hro) (k / l.length) (k % l.length) _ hrow hj
              rw [← hkk, litRow_get cid' l _ _ _ _ hsj hdd, x3] at k1
              simp only [Option.some.injEq] at k1; subst k1
              have k2 := litRows_get cid l rows (rows_len hro) (k / l.length) (k % l.length) _ hrow hj
              rw [← hkk, litRow_get cid l _ _ _ _ hsj hdd] at k2
              obtain ⟨z, z1, z2⟩ := q6 k _ x1 (by rw [hlen]; exact x2) k2
              refine ⟨z, z1, lit_map ?_ z2⟩
              rcases b5 with b5 | ⟨b5, b6, b7⟩
              · left
                have := List.all_eq_true.1 b5 l[k % l.length] (List.getElem_mem hj)
                exact this
              · exact .inr ⟨beq_t b5, beq_t b6, blt_t b7⟩
        · rename_i c base lim since nv t hob
          split at h
          · rename_i id ver off len cap esz htm
            simp only [cond_eq_ite, Bool.and_eq_true, Bool.or_eq_true, Bool.not_eq_true'] at h
            split at h
            · rename_i hb
              obtain ⟨b1, b2, b3, b4, b5, b6, b7, b8, b9, b10⟩ := hb
              split at h
              · rename_i ex hex
                simp only [Option.some.injEq] at h; subst h
                have := beq_t b1; subst this
                have := beq_t b2; subst this
                have := beq_t b3; subst this
                have := beq_t b4; subst this
                have b5 := blt_t b5
                have b6 := beq_t b6
                have b7 := beq_t b7
                have := beq_t b9; subst this
                have hx := he (ex, x') (by simp)
                have hy := he (.lit 1, y') (by simp)
                simp only at hx hy
                have hfull : (r.ver = base ∧ lim = c.length) ∨ (r.ver + 1 = nv ∧ since ≤ r.ver ∧ r.ver ≠ base) := by
                  rcases b10 with ⟨c1, c2⟩ | ⟨c1, c2, c3⟩
                  · exact .inl ⟨beq_t c1, beq_t c2⟩
                  · exact .inr ⟨beq_t c1, ble_t c2, fun h => by simp [h] at c3⟩
                have hlt : r.ido < σ.next := blt_t (hall r (fnd_mem hr).1).2
                have hrep := hh.rep hlt
                rw [hob] at hrep
                obtain ⟨hR', _, h2, h3, h4, h5, h6, h7⟩ := hrep
                have hal : aliveV base since nv r.ver := by
                  rcases hfull with ⟨h, _⟩ | ⟨ha, hb, _⟩
                  · exact .inl h
                  · exact .inr ⟨hb, by omega⟩
                obtain ⟨eb, cs, fl, fh, hee, hbb, k1, k2, k3, k4, k5⟩ := h5 r.ver hal
                have hlim : limV base lim r.ver eb = c.length := by
                  rcases hfull with ⟨ha, hb⟩ | ⟨ha, hb, hc⟩
                  · simp [limV, ha, hb]
                  · simp only [limV, if_neg hc]; exact h7 _ _ ha hb hc hee
                rw [hlim] at k2 k5
                obtain ⟨z, hz0, hz⟩ := hh.val r.t _ htm
                have hdn : eb.dn = 0 := by
                  cases hz with
                  | slc e2 o cc g1 g2 g3 g4 g5 g6 =>
                    rw [hee] at g1; simp only [Option.some.injEq] at g1; subst g1
                    omega
                have htop := hh.wf.top _ _ _ hee
                have hno : ∀ u, 0 < u → reMap R ρ φ id' u = none := fun u hu => by
                  have : ¬ u = 0 := by omega
                  simp [reMap, hnR, this]
                have hup : Ext.upto r.n eb = { eb with hi := c.length } := by
                  have : ¬ r.n = 0 := by omega
                  simp only [Ext.upto, this, if_false]
                  rw [b6, Nat.min_eq_left k2]
                have hmap : reMap R ρ φ id' 0 = some { eb with hi := c.length } := by
                  simp [reMap, hnR, hr, hee, hup]
                have hvrl : @VRL v φ c ((cs.toList.drop eb.up).take c.length) := by
                  refine @VRL.of_get v φ c _ (by simp; omega) fun k av z a1 a2 => ?_
                  have hk : k < c.length := by
                    rcases Nat.lt_or_ge k c.length with h | h
                    · exact h
                    · rw [List.getElem?_eq_none h] at a1; cases a1
                  obtain ⟨z', y1, y2⟩ := k5 k av (by omega) hk a1
                  rw [List.getElem?_take_of_lt hk, List.getElem?_drop, Array.getElem?_toList, show eb.up + k = k + eb.up - eb.dn by omega, y1] at a2
                  simp only [Option.some.injEq] at a2; subst a2
                  exact y2
                obtain ⟨rows, r1, r2, r3, r4⟩ := @cvtRows_ok v φ _ _ _ _ _ _ hex hvrl
                have hll := litRows_length gid l' rows (rows_len r3)
                have hll' := litRows_length cid' l' rows (rows_len r3)
                refine ⟨l', rows, rfl, hx.symm.trans r1, r3, .inr ⟨hy.symm, ⟨_, hmap, ?_⟩, ?_⟩⟩
                · rw [List.append_nil, hll', r2]; exact b7.symm
                · rw [List.append_nil]
                  refine @ArrRep.single v' R _ w id' 0 _ _ { eb with hi := c.length } cs fl fh hid hmap (fun u hu => hno u hu) hbb k1 (by rw [hll', r2, b7]; exact Nat.le_refl _) k4 fun k av x1 x2 x3 => ?_
                  have hk : k < (litRows gid l' rows).length := by rw [hll]; rw [hll'] at x2; exact x2
                  obtain ⟨z, y1, y2⟩ := @VRL.get v φ _ _ r4 k _ (List.getElem?_eq_getElem hk)
                  refine ⟨z, ?_, ?_⟩
                  · have hk : k < c.length := by rw [hll', r2, b7] at x2; exact x2
                    rw [List.getElem?_take_of_lt hk, List.getElem?_drop, Array.getElem?_toList] at y1
                    show cs[k + eb.up - eb.dn]? = some z
                    rw [show k + eb.up - eb.dn = eb.up + k by omega]; exact y1
                  · obtain ⟨av2, q1, q2⟩ := @flat_any v v' φ (reMap R ρ φ) gid cid' k l' rows z b8 r3 hk y2
                    rw [x3] at q1; simp only [Option.some.injEq] at q1; subst q1
                    exact q2
              · cases h
            · cases h
          · cases h
        · rename_i c t hob
          split at h
          · rename_i id ver off len cap esz htm
            simp only [cond_eq_ite, Bool.and_eq_true] at h
            split at h
            · rename_i hb
              obtain ⟨b1, b2, b3, b4, b5, b6, b7, b8, b9, b10⟩ := hb
              split at h
              · rename_i ex hex
                simp only [Option.some.injEq] at h; subst h
                have := beq_t b1; subst this
                have := beq_t b3; subst this
                have := beq_t b4; subst this
                have b5 := blt_t b5
                have b6 := beq_t b6
                have b7 := beq_t b7
                have := beq_t b9; subst this
                have := beq_t b10; subst this
                have hrv := (beq_t b2).symm
                have hx := he (ex, x') (by simp)
                have hy := he (.lit 1, y') (by simp)
                simp only at hx hy
                have hlt : r.ido < σ.next := blt_t (hall r (fnd_mem hr).1).2
                have hrep := hh.rep hlt
                rw [hob] at hrep
                obtain ⟨hR', eb, cs, fl, fh, hee, hbb, q3, q4, q5, q6, q7, q8⟩ := hrep
                have hls := @VRL.length v _ _ _ q7
                have hsz : cs.size = c.length := by rw [← Array.length_toList, ← hls]
                have hno : ∀ u, 0 < u → reMap R ρ φ id' u = none := fun u hu => by
                  have : ¬ u = 0 := by omega
                  simp [reMap, hnR, this]
                have hup : Ext.upto r.n eb = eb := by
                  have : ¬ r.n = 0 := by omega
                  simp only [Ext.upto, this, if_false]
                  rw [b6, q5, Nat.min_self, ← q5]
                have hmap : reMap R ρ φ id' 0 = some eb := by
                  simp [reMap, hnR, hr, hrv, hee, hup]
                obtain ⟨rows, r1, r2, r3, r4⟩ := @cvtRows_ok v φ _ _ _ _ _ _ hex q7
                have hll := litRows_length gid l' rows (rows_len r3)
                have hll' := litRows_length cid' l' rows (rows_len r3)
                refine ⟨l', rows, rfl, hx.symm.trans r1, r3, .inr ⟨hy.symm, ⟨_, hmap, ?_⟩, ?_⟩⟩
                · rw [List.append_nil, hll', r2, q5]; exact b7.symm
                · rw [List.append_nil]
                  refine @ArrRep.single v' R _ w id' 0 _ _ eb cs fl fh hid hmap (fun u hu => hno u hu) hbb (by rw [q6]; exact hsz) (by rw [hll', r2, b7, q5]; exact Nat.le_refl _) (by rw [q6]; exact q8) fun k av x1 x2 x3 => ?_
                  have hk : k < (litRows gid l' rows).length := by rw [hll]; rw [hll'] at x2; exact x2
                  obtain ⟨z, y1, y2⟩ := @VRL.get v φ _ _ r4 k _ (List.getElem?_eq_getElem hk)
                  refine ⟨z, ?_, ?_⟩
                  · rw [Array.getElem?_toList] at y1
                    rw [show k + eb.up - eb.dn = k by omega]; exact y1
                  · obtain ⟨av2, q1, q2⟩ := @flat_any v v' φ (reMap R ρ φ) gid cid' k l' rows z b8 r3 hk y2
                    rw [x3] at q1; simp only [Option.some.injEq] at q1; subst q1
                    exact q2
              · cases h
            · cases h
          · cases h
        · cases h
      · rename_i hr
        simp only [Option.some.injEq] at h; subst h
        have e1 := he (.pr 13 (.lit 0) (.lit 0), x') (by simp)
        have e2 := he (.lit 0, y') (by simp)
        simp only at e1 e2
        refine ⟨l', [], rfl, e1.symm, fun r hr => (by cases hr), .inl ⟨e2.symm, rfl, rfl, hid, fun u _ => ?_⟩⟩
        simp [reMap, hnR, hr]
    · cases h
  · rename_i c' t'
    split at h
    · rename_i r hr
      split at h
      · rename_i c t hob
        rw [cond_eq_ite] at h
        split at h
        · rename_i hb
          simp only [Bool.and_eq_true] at hb
          have hv0 := beq_t hb.1.2
          have hn0 := beq_t hb.1.1
          have := beq_t hb.2; subst this
          have hlt : r.ido < σ.next := blt_t (hall r (fnd_mem hr).1).2
          have hrep := hh.rep hlt
          rw [hob] at hrep
          obtain ⟨hR, ex, cs, fl, fh, q1, q2, q3, q4, q5, q6, q7, q8⟩ := hrep
          have hvr := mALu_ok h he q7
          have hl1 := @VRL.length v' _ _ _ hvr
          have hl2 := @VRL.length v _ _ _ q7
          have hll : c'.length = c.length := by omega
          refine ⟨hid, ex, cs, fl, fh, ?_, q2, q3, q4, by rw [hll]; exact q5, by rw [hll]; exact q6, hvr, by rw [hll]; exact q8⟩
          simp [reMap, hnR, hr, hv0, q1, hn0, Ext.upto_zero]
        · cases h
      · cases h
    · cases h
  · cases h
theorem mOb_ok {gl : Nat → Option Nat} {b : Base} {nt : Nat} {tm : T AV} {σ : St} {a : Act} (hh : Hold v gl b R nt tm σ a w φ) {nx' : Nat} (hr : reOk R nx' σ.next ρ = true) {id' : Nat} {o' : Ob} {e : Eqs} (h : mOb R ρ tm σ.heap id' o' = some e) (he : EqsOk v v' e)
    (hid : R ≤ id') : @Rep v' R (reMap R ρ φ) w id' (some o') := by
  unfold mOb at h
  split at h
  · rename_i e' hm
    simp only [Option.some.injEq] at h; subst h
    exact mObM_ok hh hr hm he hid
  · exact mOb0_ok hh hr h he hid
theorem mObs_mem {nx : Nat} {tm : T AV} {h : T Ob} : ∀ {l : List (Nat × Ob)} {e : Eqs}, mObs R nx ρ tm h l = some e → ∀ i o, (i, o) ∈ l → R ≤ i ∧ i < nx ∧ ∃ e', mOb R ρ tm h i o = some e' ∧ ∀ p ∈ e', p ∈ e := by
  intro l
  induction l with
  | nil => intro e _ i o hm; cases hm
  | cons q l ih =>
    intro e h i o hm
    obtain ⟨j, oj⟩ := q
    simp only [mObs, cond_eq_ite, Bool.and_eq_true] at h
    split at h
    · rename_i hb
      split at h
      · rename_i p q hp hq
        simp only [Option.some.injEq] at h; subst h
        rcases List.mem_cons.1 hm with hm | hm
        · simp only [Prod.mk.injEq] at hm
          obtain ⟨rfl, rfl⟩ := hm
          exact ⟨ble_t hb.1, blt_t hb.2, p, hp, fun x hx => List.mem_append_left _ hx⟩
        · obtain ⟨h1, h2, e', h3, h4⟩ := ih hq i o hm
          exact ⟨h1, h2, e', h3, fun x hx => List.mem_append_right _ (h4 x hx)⟩
      · cases h
    · cases h
theorem mTm_mem {tm : T AV} : ∀ {l : List (Nat × AV)} {e : Eqs}, mTm R ρ tm l = some e → ∀ t x, (t, x) ∈ l → ∃ y e', tm.get t = some y ∧ mAV R ρ y x = some e' ∧ ∀ p ∈ e', p ∈ e := by
  intro l
  induction l with
  | nil => intro e _ i o hm; cases hm
  | cons q l ih =>
    intro e h t x hm
    obtain ⟨j, xj⟩ := q
    simp only [mTm] at h
    split at h
    · rename_i y hy
      split at h
      · rename_i p q hp hq
        simp only [Option.some.injEq] at h; subst h
        rcases List.mem_cons.1 hm with hm | hm
        · simp only [Prod.mk.injEq] at hm
          obtain ⟨rfl, rfl⟩ := hm
          exact ⟨y, p, hy, hp, fun x hx => List.mem_append_left _ hx⟩
        · obtain ⟨y', e', h3, h4, h5⟩ := ih hq t x hm
          exact ⟨y', e', h3, h4, fun x hx => List.mem_append_right _ (h5 x hx)⟩
      · cases h
    · cases h
theorem retell_ok {nr nb : Nat} {gl : Nat → Option Nat} {b : Base} (hb : BaseOk gl b R) {tm : T AV} {σ : St} {tm' : List (Nat × AV)} {objs' : List (Nat × Ob)} {nx' : Nat} {e : Eqs} (h : mAll R nb ρ tm σ tm' objs' nx' = some e) (he : EqsOk v v' e) :
    Retell gl b R nr nb v tm σ v' (envL tm') (toldSt b objs' nx') := by
  intro nt a w φ hh
  unfold mAll at h
  rw [cond_eq_ite] at h
  split at h
  · rename_i hc
    simp only [Bool.and_eq_true] at hc
    obtain ⟨hre, hRn, hpin⟩ := hc
    have hRn := ble_t hRn
    split at h
    · rename_i p q hp hq
      simp only [Option.some.injEq] at h; subst h
      obtain ⟨hep, heq⟩ := he.app
      have hlow : (reMap R ρ φ).low R = φ.low R := by
        funext i u
        unfold PM.low
        split
        · rename_i hi; exact reMap_low i hi u
        · rfl
      have hle : (φ.low R).le (reMap R ρ φ) := fun i u f hf => by
        unfold PM.low at hf
        split at hf
        · rename_i hi; rw [reMap_low i hi]; exact hf
        · cases hf
      have hwf := reMap_wf hh.wf hre
      have hre' := hre
      simp only [reOk, Bool.and_eq_true, List.all_eq_true] at hre'
      have hbase : ∀ i, i < R → @Rep v' R (reMap R ρ φ) w i (b.get i) := fun i hi => @Rep.frame v' R _ _ w w i _ hle (fun u => by rw [reMap_low i hi, PM.low_lt _ hi]) (fun _ _ _ => rfl) (hh.roA v' i hi)
      refine ⟨reMap R ρ φ, ⟨hh.size, fun t x hx => ?_, hh.dfs, ⟨hwf, hRn, fun i _ hn => ?_, fun g n hg => ?_, fun i hn => ?_, fun _ _ h => by simp [cfg0] at h, fun _ _ h => by simp [cfg0] at h, fun _ h => (by cases h), fun i hi => ?_, @kOp_ok v'⟩, fun i hn u => ?_, fun v'' i hi => ?_, rfl, rfl⟩, .of_sub hlow (pinOk_ok hpin) fun i u f hi hf => ?_⟩
      · obtain ⟨y, e', h1, h2, h3⟩ := mTm_mem hp t x (envL_get hx)
        obtain ⟨x', q1, q2⟩ := hh.val t y h1
        exact ⟨x', q1, mAV_ok h2 (fun z hz => hep z (h3 z hz)) q2⟩
      · rcases putObs_get b objs' i with h1 | ⟨o, h1, h2⟩
        · show @Rep v' R _ w i ((putObs b objs').get i)
          rw [h1]
          by_cases hi : i < R
          · exact hbase i hi
          · rw [hb.none i (by omega)]; trivial
        · show @Rep v' R _ w i ((putObs b objs').get i)
          rw [h2]
          obtain ⟨g1, g2, e', g3, g4⟩ := mObs_mem hq i o h1
          exact mOb_ok hh hre g3 (fun z hz => heq z (g4 z hz)) g1
      · obtain ⟨f, h1, h2⟩ := hh.glo hg
        exact ⟨f, by rw [reMap_low g (hb.gl g n hg)]; exact h1, h2⟩
      · show (putObs b objs').get i = none
        have hn : nx' ≤ i := hn
        rcases putObs_get b objs' i with h1 | ⟨o, h1, h2⟩
        · rw [h1]; exact hb.none i (by omega)
        · obtain ⟨g1, g2, _⟩ := mObs_mem hq i o h1
          omega
      · rw [hlow]; exact hh.roA v' i hi
      · have hn : nx' ≤ i := hn
        have hnR : ¬ i < R := by omega
        simp only [reMap, hnR, if_false]
        split
        · split
          · rename_i r hr
            have := blt_t (hre'.2 r (fnd_mem hr).1).1.2
            have := (fnd_mem hr).2
            omega
          · rfl
        · rfl
      · rw [hlow]; exact hh.roA v'' i hi
      · obtain ⟨_, r, f', h1, h2, rfl⟩ := reMap_some hi hf
        exact ⟨r.ido, r.ver, f', ble_t (hre'.2 r (fnd_mem h1).1).1.1.1, h2, (Ext.upto_blk _ _).symm⟩
    · cases h
  · cases h
end
def eqsB : Eqs → Eqs → Bool
  | [], [] => true
  | (a, c) :: l, (a', c') :: m => a.same a' && c.same c' && eqsB l m
  | _, _ => false
theorem eqsB_eq : ∀ {a c : Eqs}, eqsB a c = true → a = c := by
  intro a
  induction a with
  | nil => intro c h; cases c <;> simp [eqsB] at h; rfl
  | cons p l ih =>
    intro c h
    cases c with
    | nil => simp [eqsB] at h
    | cons q m =>
      obtain ⟨a1, a2⟩ := p
      obtain ⟨c1, c2⟩ := q
      simp only [eqsB, Bool.and_eq_true] at h
      rw [Sx.same_eq h.1.1, Sx.same_eq h.1.2, ih h.2]
noncomputable def runHB (R nr nb : Nat) (x : XR) (e : AExit) (ρ : List RE) (tm' : List (Nat × AV)) (objs' : List (Nat × Ob)) (nx' : Nat) (E : Eqs) : Bool := match x with
  | .ok e' env σ => exitB e e' && σ.wr.all (fun i => Nat.ble (R + nr) i) && (match env.ds with
    | [] => true
    | _ => false) && (match env.md with
    | none => true
    | _ => false) && (match mAll R nb ρ env.tm σ.bare tm' objs' nx' with
    | some E' => eqsB E' E
    | none => false)
  | _ => false
theorem heap_run {v : Val} {P : Program} {gl : Nat → Option Nat} {b : Base} {R nr nb nt : Nat} (hb : BaseOk gl b R) {p : Dcs} (hp : @Holds v p) {hk : FuncId → List AV → St → CR} (hs : HkSteps (cfgP gl b p hk)) (hh : @HkOk v P R (cfgP gl b p hk))
    (hm : P.follows .mixedOrders = true) {n : Nat} {c : Code} {tm : T AV} {σ : St} {e : AExit} {ρ : List RE} {tm' : List (Nat × AV)} {objs' : List (Nat × Ob)} {nx' : Nat} {E : Eqs}
    (h : runHB R nr nb (exec P (cfgP gl b p hk) n nt c { tm := tm, ds := [], md := none, rd := false } σ) e ρ tm' objs' nx' E = true) :
    ∃ tm1 σ1, HTo v P gl b R nr nb nt c tm σ e tm1 σ1 ∧ ∀ v', EqsOk v v' E → Retell gl b R nr nb v tm1 σ1 v' (envL tm') (toldSt b objs' nx') := by
  unfold runHB at h
  split at h
  · rename_i e' env σ' hx
    simp only [Bool.and_eq_true] at h
    obtain ⟨⟨⟨⟨h1, h0⟩, h2⟩, h3⟩, h4⟩ := h
    obtain ⟨rfl, hn⟩ := exitB_eq h1
    have hd : env.ds = [] := by
      split at h2
      · assumption
      · cases h2
    have hmd : env.md = none := by
      split at h3
      · assumption
      · cases h3
    split at h4
    · rename_i E' hE
      have := eqsB_eq h4; subst this
      exact ⟨env.tm, σ'.bare, heap_exec hp hs hh hm hx hn hd hmd (fun i hi => ble_t (List.all_eq_true.1 h0 i hi)), fun v' he => retell_ok hb hE he⟩
    · cases h4
  · cases h
end Go.Tw
