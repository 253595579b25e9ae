/-
  A part of the proof that the abstract evaluator is sound for the model's machine. Conditions: those of each theorem, as it states them.
-/
import Derived.Test.YtbbnjiceenjhcaaGreatDoorTwMonoX
import Derived.Laws.Cells
import Derived.Laws.Sem
import Derived.Laws.World
set_option linter.all false
namespace Go.Tw

/-- Where a version of an object lies: its block; the cell x lies at x + up - dn; its cells end at hi; the block has bsz cells. -/
structure Ext where
  blk : Nat
  up : Nat
  dn : Nat
  hi : Nat
  bsz : Nat

/-- Where all versions of all objects lie. -/
abbrev PM := Nat → Nat → Option Ext

variable [Val]
mutual
inductive VR (φ : PM) : AV → Value → Prop
  | bool (b : Bool) : VR φ (.bool b) (.bool b)
  | int (k : IntKind) (n : Int) : VR φ (.int k n) (.int k n)
  | sym (k : IntKind) (e : Sx) : VR φ (.sym k e) (.int k e.eval)
  | symb (b : Bx) : VR φ (.symb b) (.bool b.eval)
  | sslc {e : Sx} (a : Option Addr) (len cap : Nat) (h : (len : Int) = e.eval) : VR φ (.sslc e) (.slice a len cap)
  | sstr {e : Sx} (s : ByteArray) (h : (s.size : Int) = e.eval) : VR φ (.sstr e) (.string s)
  | str (s : List UInt8) : VR φ (.str s) (.string ⟨⟨s⟩⟩)
  | nilp : VR φ .nilp (.pointer none)
  | ptr {id ver off hi : Nat} (e : Ext) (o : Nat) (he : φ id ver = some e) (hd : e.dn ≤ off) (hh : hi ≤ e.hi) (ho : o + e.dn = off + e.up) :
      VR φ (.ptr id ver off hi) (.pointer (some ⟨e.blk, o, none⟩))
  | nils : VR φ .nils (.slice none 0 0)
  | slc {id ver off len : Nat} {cap : Option Nat} {esz : Nat} (e : Ext) (o c : Nat) (he : φ id ver = some e) (hd : e.dn ≤ off) (hh : off + len * esz ≤ e.hi)
      (hl : len ≤ c) (hc : ∀ k, cap = some k → k = c ∧ off + k * esz ≤ e.hi) (ho : c = 0 ∨ (o + e.dn = off + e.up ∧ o + c * esz ≤ e.bsz)) :
      VR φ (.slc id ver off len cap esz) (.slice (some ⟨e.blk, o, none⟩) len c)
  | nilm : VR φ .nilm (.map none)
  | map {id : Nat} (e : Ext) (he : φ id 0 = some e) : VR φ (.map id) (.map (some e.blk))
  | yld {id : Nat} (e : Ext) (he : φ id 0 = some e) : VR φ (.yld id) (.func (.yield e.blk) #[] #[])
  | anyp (p : Option Addr) : VR φ .anyp (.pointer p)
  | unk (v : Value) (h : v.oneCell' = true) : VR φ .unk v
  | fn (f : Fn) {a b : List AV} (a' b' : Array Value) (ha : VRL φ a a'.toList) (hb : VRL φ b b'.toList) : VR φ (.fn f a b) (.func f a' b')
  | nilfn : VR φ .nilfn .nilFunc
  | iface (t : TypeId) {v : AV} {v' : Value} (h : VR φ v v') : VR φ (.iface t v) (.iface t v')
  | nili : VR φ .nili .nilIface
  | agg {l : List AV} (l' : Array Value) (h : VRL φ l l'.toList) : VR φ (.agg l) (.agg l')
  | tup {l : List AV} (l' : Array Value) (h : VRL φ l l'.toList) : VR φ (.tup l) (.tuple l')
inductive VRL (φ : PM) : List AV → List Value → Prop
  | nil : VRL φ [] []
  | cons {v : AV} {v' : Value} {l : List AV} {l' : List Value} (h : VR φ v v') (t : VRL φ l l') : VRL φ (v :: l) (v' :: l')
end

/-- More is known of where objects lie. -/
def PM.le (φ ψ : PM) : Prop := ∀ id v e, φ id v = some e → ψ id v = some e
omit [Val] in
theorem PM.le_refl (φ : PM) : φ.le φ := fun _ _ _ h => h
omit [Val] in
theorem PM.le.trans {φ ψ χ : PM} (h : φ.le ψ) (k : ψ.le χ) : φ.le χ := fun id v e he => k id v e (h id v e he)

mutual
theorem VR.mono {φ ψ : PM} (h : φ.le ψ) : ∀ {v : AV} {v' : Value}, VR φ v v' → VR ψ v v'
  | _, _, .bool b => .bool b
  | _, _, .int k n => .int k n
  | _, _, .sym k e => .sym k e
  | _, _, .symb b => .symb b
  | _, _, .sslc a l c h => .sslc a l c h
  | _, _, .sstr s h => .sstr s h
  | _, _, .str s => .str s
  | _, _, .nilp => .nilp
  | _, _, .ptr e o he hd hh ho => .ptr e o (h _ _ _ he) hd hh ho
  | _, _, .nils => .nils
  | _, _, .slc e o c he hd hh hl hc ho => .slc e o c (h _ _ _ he) hd hh hl hc ho
  | _, _, .nilm => .nilm
  | _, _, .map e he => .map e (h _ _ _ he)
  | _, _, .yld e he => .yld e (h _ _ _ he)
  | _, _, .anyp p => .anyp p
  | _, _, .unk v hv => .unk v hv
  | _, _, .fn f a' b' ha hb => .fn f a' b' (VRL.mono h ha) (VRL.mono h hb)
  | _, _, .nilfn => .nilfn
  | _, _, .iface t hv => .iface t (VR.mono h hv)
  | _, _, .nili => .nili
  | _, _, .agg l' hl => .agg l' (VRL.mono h hl)
  | _, _, .tup l' hl => .tup l' (VRL.mono h hl)
theorem VRL.mono {φ ψ : PM} (h : φ.le ψ) : ∀ {l : List AV} {l' : List Value}, VRL φ l l' → VRL ψ l l'
  | _, _, .nil => .nil
  | _, _, .cons hv ht => .cons (VR.mono h hv) (VRL.mono h ht)
end

section lists
variable {φ : PM}
theorem VRL.length {l : List AV} {l' : List Value} (h : VRL φ l l') : l'.length = l.length := by
  induction l generalizing l' with
  | nil => cases h; rfl
  | cons v l ih => cases h with | cons hv ht => simp [ih ht]
theorem VRL.append {a b : List AV} {a' b' : List Value} (h : VRL φ a a') (k : VRL φ b b') : VRL φ (a ++ b) (a' ++ b') := by
  induction a generalizing a' with
  | nil => cases h; exact k
  | cons v l ih => cases h with | cons hv ht => exact .cons hv (ih ht)
theorem VRL.take {l : List AV} {l' : List Value} (h : VRL φ l l') (n : Nat) : VRL φ (l.take n) (l'.take n) := by
  induction n generalizing l l' with
  | zero => simp; exact .nil
  | succ n ih =>
    cases h with
    | nil => simp; exact .nil
    | cons hv ht => simp only [List.take_succ_cons]; exact .cons hv (ih ht)
theorem VRL.drop {l : List AV} {l' : List Value} (h : VRL φ l l') (n : Nat) : VRL φ (l.drop n) (l'.drop n) := by
  induction n generalizing l l' with
  | zero => simpa using h
  | succ n ih =>
    cases h with
    | nil => simp; exact .nil
    | cons hv ht => simp only [List.drop_succ_cons]; exact ih ht
theorem VRL.get {l : List AV} {l' : List Value} (h : VRL φ l l') {i : Nat} {v : AV} (hi : l[i]? = some v) : ∃ v', l'[i]? = some v' ∧ VR φ v v' := by
  induction l generalizing l' i with
  | nil => simp at hi
  | cons x l ih =>
    cases h with
    | cons hv ht =>
      cases i with
      | zero => simp at hi; subst hi; exact ⟨_, rfl, hv⟩
      | succ i => simp at hi; obtain ⟨v', h1, h2⟩ := ih ht hi; exact ⟨v', by simpa using h1, h2⟩
theorem VRL.get_none {l : List AV} {l' : List Value} (h : VRL φ l l') {i : Nat} (hi : l[i]? = none) : l'[i]? = none := by
  have := h.length
  simp only [List.getElem?_eq_none_iff] at hi ⊢
  omega
theorem VRL.of_get {l : List AV} {l' : List Value} (hl : l.length = l'.length) (h : ∀ (i : Nat) (v : AV) (v' : Value), l[i]? = some v → l'[i]? = some v' → VR φ v v') : VRL φ l l' := by
  induction l generalizing l' with
  | nil => cases l' with
    | nil => exact .nil
    | cons => simp at hl
  | cons x l ih => cases l' with
    | nil => simp at hl
    | cons x' l' =>
      exact .cons (h 0 x x' rfl rfl) (ih (by simpa using hl) fun i v v' h1 h2 => h (i + 1) v v' (by simpa using h1) (by simpa using h2))
theorem VRL.map_u8 (s : List UInt8) : VRL φ (s.map fun b => .int .u8 b.toNat) (s.map fun b => .int .u8 b.toNat) := by
  induction s with
  | nil => exact .nil
  | cons b s ih => exact .cons (.int _ _) ih
theorem VRL.repl {z : List AV} {z' : List Value} (h : VRL φ z z') (n : Nat) : VRL φ (Tw.repl n z) (List.replicate n z').flatten := by
  induction n with
  | zero => exact .nil
  | succ n ih => simp only [Tw.repl, List.replicate_succ, List.flatten_cons]; exact h.append ih
end lists

/-- The concrete value of flat cells lies in one cell. -/
theorem VR.oneCell {φ : PM} {v : AV} {v' : Value} (h : VR φ v v') (hf : v.flat = true) : v'.oneCell' = true := by
  cases h <;> simp_all [AV.flat, Value.oneCell']

theorem VR.cells {φ : PM} {v : AV} {v' : Value} (h : VR φ v v') : VRL φ v.cells v'.cells.toList := by
  cases h
  case agg l' h => exact h
  case unk h =>
    have : v'.cells = #[v'] := by cases v' <;> simp_all [Value.oneCell', Value.cells]
    rw [this]
    exact .cons (.unk _ h) .nil
  case yld e he => exact .cons (.yld e he) .nil
  case sslc a l c h => exact .cons (.sslc a l c h) .nil
  case sstr s h => exact .cons (.sstr s h) .nil
  case anyp p => exact .cons (.anyp p) .nil
  all_goals exact .cons (by constructor <;> assumption) .nil

section consts
variable {φ : PM}
theorem absL_ok {f : Value → Option AV} (hf : ∀ v x, f v = some x → VR φ x v) : ∀ {l : List Value} {r : List AV}, absL f l = some r → VRL φ r l := by
  intro l
  induction l with
  | nil => intro r h; simp only [absL, Option.some.injEq] at h; subst h; exact .nil
  | cons v l ih =>
    intro r h
    simp only [absL] at h
    split at h
    · rename_i x r' hx hr
      simp only [Option.some.injEq] at h; subst h
      exact .cons (hf _ _ hx) (ih hr)
    · cases h
theorem absV_ok : ∀ (d : Nat) (v : Value) (x : AV), absV d v = some x → VR φ x v := by
  intro d
  induction d with
  | zero => intro v x h; simp [absV] at h
  | succ d ih =>
    intro v x h
    simp only [absV] at h
    split at h
    case h_3 s => simp only [Option.some.injEq] at h; subst h; exact .str s.data.toList
    case h_7 f a b =>
      split at h
      · rename_i ha hb
        simp only [Option.some.injEq] at h; subst h
        exact .fn _ _ _ (absL_ok ih ha) (absL_ok ih hb)
      · cases h
    case h_9 t v =>
      split at h
      · rename_i hv
        simp only [Option.some.injEq] at h; subst h
        exact .iface _ (ih _ _ hv)
      · cases h
    case h_11 l =>
      split at h
      · rename_i hl
        simp only [Option.some.injEq] at h; subst h
        exact .agg _ (absL_ok ih hl)
      · cases h
    case h_12 l =>
      split at h
      · rename_i hl
        simp only [Option.some.injEq] at h; subst h
        exact .tup _ (absL_ok ih hl)
      · cases h
    all_goals (first | (cases h; done) | (simp only [Option.some.injEq] at h; subst h; constructor))
end consts

/-- Which versions of an array are alive. -/
def aliveV (base since nv v : Nat) : Prop := v = base ∨ (since ≤ v ∧ v < nv)
/-- Up to where a version is known. -/
def limV (base lim : Nat) (v : Nat) (e : Ext) : Nat := if v = base then lim else e.hi

/-- Two lists of entries of maps. -/
inductive ER (φ : PM) : List (AV × AV × Nat) → List MapEntry → Prop
  | nil : ER φ [] []
  | cons {k v : AV} {n : Nat} {k' v' : Value} {l : List (AV × AV × Nat)} {l' : List MapEntry} (hk : VR φ k k') (hv : VR φ v v') (t : ER φ l l') :
      ER φ ((k, v, n) :: l) ({ key := k', val := v', born := n } :: l')

theorem ER.mono {φ ψ : PM} (h : φ.le ψ) {l : List (AV × AV × Nat)} {l' : List MapEntry} (k : ER φ l l') : ER ψ l l' := by
  induction k with
  | nil => exact .nil
  | cons hk hv _ ih => exact .cons (hk.mono h) (hv.mono h) ih

/-- The state of a loop over a function, as a number. -/
def stN : LoopState → Nat
  | .ready => 0
  | .busy => 1
  | .done => 2
  | .exhausted => 3

/-- An object lies in a world. R: objects below are given, and are only read. -/
def Rep (R : Nat) (φ : PM) (w : World) (id : Nat) : Option Ob → Prop
  | none => True
  | some .dead => True
  | some (.box c t) => R ≤ id ∧ ∃ e cs fl fh, φ id 0 = some e ∧ w.heap[e.blk]? = some (.cells cs t (fl, fh)) ∧ e.up = 0 ∧ e.dn = 0 ∧ e.hi = c.length ∧ e.bsz = c.length ∧
      VRL φ c cs.toList ∧ (fl = fh ∨ c.length ≤ fl)
  | some (.ro c) => ∃ e cs t fr, φ id 0 = some e ∧ w.heap[e.blk]? = some (.cells cs t fr) ∧ e.dn = 0 ∧ e.up + c.length ≤ cs.size ∧ VRL φ c ((cs.toList.drop e.up).take c.length)
  | some (.arr c base lim since nv et) => R ≤ id ∧ lim ≤ c.length ∧ base < nv ∧ since ≤ nv ∧ (∀ v, nv ≤ v → φ id v = none) ∧
      (∀ v, aliveV base since nv v → ∃ e cs fl fh, φ id v = some e ∧ w.heap[e.blk]? = some (.cells cs et (fl, fh)) ∧ cs.size = e.bsz ∧
        limV base lim v e ≤ e.hi ∧ limV base lim v e ≤ c.length ∧
        (fl = fh ∨ e.bsz ≤ fl) ∧
        (∀ x a, e.dn ≤ x → x < limV base lim v e → c[x]? = some a → ∃ a', cs[x + e.up - e.dn]? = some a' ∧ VR φ a a')) ∧
      (∀ v₁ v₂ e₁ e₂, aliveV base since nv v₁ → aliveV base since nv v₂ → φ id v₁ = some e₁ → φ id v₂ = some e₂ → e₁.blk = e₂.blk → e₁.up = e₂.up ∧ e₁.dn = e₂.dn) ∧
      (∀ v e, v + 1 = nv → since ≤ v → v ≠ base → φ id v = some e → e.hi = c.length)
  | some (.map es clock) => R ≤ id ∧ ∃ e es', φ id 0 = some e ∧ w.heap[e.blk]? = some (.map es' clock) ∧ ER φ es es'.toList
  | some (.iter s pos) => R ≤ id ∧ ∃ e, φ id 0 = some e ∧ w.heap[e.blk]? = some (.stringIter ⟨⟨s⟩⟩ pos) ∧ e.up = 0 ∧ e.dn = 0
  | some (.miter m since seen last) => R ≤ id ∧ ∃ e m', φ id 0 = some e ∧ w.heap[e.blk]? = some (.mapIter m' since seen.toArray last) ∧ e.up = 0 ∧ e.dn = 0 ∧
      (match m, m' with
       | none, none => True
       | some k, some b => ∃ f, φ k 0 = some f ∧ f.blk = b
       | _, _ => False)
  | some .dfr => R ≤ id ∧ ∃ e, φ id 0 = some e ∧ w.heap[e.blk]? = some (.deferred (some []))
  | some (.loop st pend tm nt ps assign body) => R ≤ id ∧ ∃ e l, φ id 0 = some e ∧ w.heap[e.blk]? = some (.loop l) ∧ stN l.state = st ∧ l.pending = pend ∧ l.tmps.size = nt ∧
      l.params.toList = ps ∧ l.assign = assign ∧ l.body = body ∧ ∀ t v, tm.get t = some v → ∃ v', l.tmps[t]? = some v' ∧ VR φ v v'

/-- Objects lie apart, but for those that are only read; all lie in blocks that there are. -/
structure WF (R : Nat) (φ : PM) (w : World) : Prop where
  inj : ∀ i v e j u f, φ i v = some e → φ j u = some f → e.blk = f.blk → i = j ∨ (i < R ∧ j < R)
  lt : ∀ i v e, φ i v = some e → e.blk < w.heap.size
  top : ∀ i v e, φ i v = some e → e.hi + e.up ≤ e.bsz + e.dn

/-- An object that is left alone lies as it lay. -/
theorem Rep.frame {R : Nat} {φ ψ : PM} {w w' : World} {id : Nat} {o : Option Ob} (hle : φ.le ψ) (hid : ∀ v, ψ id v = φ id v)
    (hh : ∀ v e, φ id v = some e → w'.heap[e.blk]? = w.heap[e.blk]?) (h : Rep R φ w id o) : Rep R ψ w' id o := by
  cases o with
  | none => trivial
  | some o =>
    cases o with
    | dead => trivial
    | box c t =>
      obtain ⟨hR, e, cs, fl, fh, he, hb, h1, h2, h3, h4, h5, h6⟩ := h
      exact ⟨hR, e, cs, fl, fh, (hid 0).trans he, (hh 0 e he).trans hb, h1, h2, h3, h4, h5.mono hle, h6⟩
    | ro c =>
      obtain ⟨e, cs, t, fr, he, hb, h1, h2, h3⟩ := h
      exact ⟨e, cs, t, fr, (hid 0).trans he, (hh 0 e he).trans hb, h1, h2, h3.mono hle⟩
    | arr c base lim since nv et =>
      obtain ⟨hR, h1, h2, h3, h4, h5, h6, h7⟩ := h
      refine ⟨hR, h1, h2, h3, fun v hv => (hid v).trans (h4 v hv), fun v hv => ?_, fun v₁ v₂ e₁ e₂ a1 a2 b1 b2 => h6 v₁ v₂ e₁ e₂ a1 a2 ((hid v₁).symm.trans b1) ((hid v₂).symm.trans b2),
        fun v e a1 a2 a3 a4 => h7 v e a1 a2 a3 ((hid v).symm.trans a4)⟩
      obtain ⟨e, cs, fl, fh, he, hb, k1, k2, k3, k4, k5⟩ := h5 v hv
      exact ⟨e, cs, fl, fh, (hid v).trans he, (hh v e he).trans hb, k1, k2, k3, k4, fun x a x1 x2 x3 => let ⟨a', y1, y2⟩ := k5 x a x1 x2 x3; ⟨a', y1, y2.mono hle⟩⟩
    | map es clock =>
      obtain ⟨hR, e, es', he, hb, h1⟩ := h
      exact ⟨hR, e, es', (hid 0).trans he, (hh 0 e he).trans hb, h1.mono hle⟩
    | iter s pos =>
      obtain ⟨hR, e, he, hb, h1⟩ := h
      exact ⟨hR, e, (hid 0).trans he, (hh 0 e he).trans hb, h1⟩
    | miter m since seen last =>
      obtain ⟨hR, e, m', he, hb, h1, h2, h3⟩ := h
      refine ⟨hR, e, m', (hid 0).trans he, (hh 0 e he).trans hb, h1, h2, ?_⟩
      cases m <;> cases m' <;> try exact h3
      obtain ⟨f, hf, hfb⟩ := h3
      exact ⟨f, hle _ _ _ hf, hfb⟩
    | dfr =>
      obtain ⟨hR, e, he, hb⟩ := h
      exact ⟨hR, e, (hid 0).trans he, (hh 0 e he).trans hb⟩
    | loop st pend tm nt ps assign body =>
      obtain ⟨hR, e, l, he, hb, h1, h2, h3, h4, h5, h6, h7⟩ := h
      exact ⟨hR, e, l, (hid 0).trans he, (hh 0 e he).trans hb, h1, h2, h3, h4, h5, h6, fun t v hv => let ⟨v', g1, g2⟩ := h7 t v hv; ⟨v', g1, g2.mono hle⟩⟩

/-- What is left alone in a world. -/
structure Frm (φ : PM) (wr : List Nat) (w w' : World) : Prop where
  size : w.heap.size ≤ w'.heap.size
  keep : ∀ b, b < w.heap.size → (∀ i ∈ wr, ∀ v e, φ i v = some e → e.blk ≠ b) → w'.heap[b]? = w.heap[b]?
  os : w'.os = w.os
  out : w'.output = w.output
  tape : w'.tape = w.tape

/-- What holds behind a step. -/
structure Post (R : Nat) (D : Nat → Prop) (φ : PM) (σ : St) (w : World) (σ' : St) (φ' : PM) (w' : World) : Prop where
  le : φ.le φ'
  grow : ∀ i, (i ∉ σ'.wr ∨ σ'.next ≤ i) → ¬ (σ.next ≤ i ∧ i < σ'.next) → ∀ v, φ' i v = φ i v
  wrR : ∀ i ∈ σ'.wr, i ∈ σ.wr ∨ R ≤ i
  wf : WF R φ' w'
  blk : ∀ i v e, φ' i v = some e → (∃ u f, φ i u = some f ∧ f.blk = e.blk) ∨ w.heap.size ≤ e.blk
  rep : ∀ i, (D i ∧ i < σ.next) ∨ (σ.next ≤ i ∧ i < σ'.next) → Rep R φ' w' i (σ'.heap.get i)
  frm : Frm φ σ'.wr w w'

/-- Where the objects lie that are given. -/
def PM.low (φ : PM) (R : Nat) : PM := fun i v => if i < R then φ i v else none
omit [Val] in
theorem PM.low_le (φ : PM) (R : Nat) : (φ.low R).le φ := fun i v e h => by
  unfold PM.low at h
  split at h
  · exact h
  · cases h
omit [Val] in
theorem PM.low_lt (φ : PM) {R i : Nat} (h : i < R) (v : Nat) : φ.low R i v = φ i v := by simp [PM.low, h]

/-- What holds ahead of a step. gl: the globals that may be read; ro: what lies there for good. -/
structure Inv (R : Nat) (C : Cfg) (D : Nat → Prop) (φ : PM) (σ : St) (w : World) : Prop where
  wf : WF R φ w
  low : R ≤ σ.next
  rep : ∀ i, D i → i < σ.next → Rep R φ w i (σ.heap.get i)
  gl : ∀ g n, C.gl g = some n → ∃ e, φ g 0 = some e ∧ e.blk = g ∧ e.up = 0 ∧ e.dn = 0 ∧ n ≤ e.hi
  dom : ∀ i, σ.next ≤ i → σ.heap.get i = none
  pin : ∀ e n, C.pin e = some n → e.eval = n
  dec : ∀ b v, C.dec b = some v → b.eval = v
  wrR : ∀ i ∈ σ.wr, R ≤ i
  ro : ∀ i, i < R → Rep R (φ.low R) w i (C.base i)

/-- The numbers that a step gives away are free. -/
def Free (φ : PM) (σ σ' : St) : Prop := ∀ i, σ.next ≤ i → i < σ'.next → ∀ v, φ i v = none
/-- What is touched is known. -/
def Known (D : Nat → Prop) (σ σ' : St) : Prop := ∀ i, i ∈ σ'.rd ∨ i ∈ σ'.wr → i < σ.next → D i

omit [Val] in
theorem Known.mono {D : Nat → Prop} {σ σ' σ'' : St} (h : Known D σ σ'') (k : StepA σ' σ'') : Known D σ σ' :=
  fun i hi hn => h i (hi.imp (k.rd i) (k.wr i)) hn
omit [Val] in
theorem Free.mono {φ : PM} {σ σ' σ'' : St} (h : Free φ σ σ'') (k : StepA σ' σ'') : Free φ σ σ' :=
  fun i h1 h2 => h i h1 (Nat.lt_of_lt_of_le h2 k.next)

/-- What is known behind a step: what was known ahead, and what is new. -/
def More (D : Nat → Prop) (σ : St) : Nat → Prop := fun i => D i ∨ σ.next ≤ i

omit [Val] in
theorem Known.then {D : Nat → Prop} {σ σ' σ'' : St} (h : Known D σ σ'') : Known (More D σ) σ' σ'' := by
  intro i hi _
  by_cases hn : i < σ.next
  · exact .inl (h i hi hn)
  · exact .inr (Nat.le_of_not_lt hn)

theorem Free.then {R : Nat} {D : Nat → Prop} {φ φ' : PM} {σ σ' σ'' : St} {w w' : World} (h : Free φ σ σ'') (hp : Post R D φ σ w σ' φ' w')
    (hs : StepA σ σ') : Free φ' σ' σ'' := by
  intro i h1 h2 v
  rw [hp.grow i (.inr h1) (fun hx => absurd hx.2 (Nat.not_lt.2 h1)) v]
  exact h i (Nat.le_trans hs.next h1) h2 v

theorem Post.lows {R : Nat} {D : Nat → Prop} {φ φ' : PM} {σ σ' : St} {w w' : World} (hp : Post R D φ σ w σ' φ' w') (hl : R ≤ σ.next) (hw : ∀ i ∈ σ.wr, R ≤ i) :
    (∀ i ∈ σ'.wr, R ≤ i) ∧ φ'.low R = φ.low R := by
  have h1 : ∀ i ∈ σ'.wr, R ≤ i := fun i hi => (hp.wrR i hi).elim (hw i) id
  refine ⟨h1, funext fun i => funext fun v => ?_⟩
  unfold PM.low
  split
  · rename_i hi
    exact hp.grow i (.inl fun hx => absurd (h1 i hx) (by omega)) (by omega) v
  · rfl
/-- What is given stays. -/
theorem Post.ros {R : Nat} {C : Cfg} {D : Nat → Prop} {φ φ' : PM} {σ σ' : St} {w w' : World} (hp : Post R D φ σ w σ' φ' w') (hl : R ≤ σ.next) (hw : ∀ i ∈ σ.wr, R ≤ i) (hwf : WF R φ w)
    (h : ∀ i, i < R → Rep R (φ.low R) w i (C.base i)) : ∀ i, i < R → Rep R (φ'.low R) w' i (C.base i) := by
  obtain ⟨h1, h2⟩ := hp.lows hl hw
  intro i hi
  rw [h2]
  refine (h i hi).frame (PM.le_refl _) (fun _ => rfl) fun v e he => ?_
  rw [PM.low_lt _ hi] at he
  refine hp.frm.keep e.blk (hwf.lt i v e he) fun j hj u f hf hb => ?_
  rcases hwf.inj _ _ _ _ _ _ hf he hb with h3 | h3
  · have := h1 j hj; omega
  · have := h1 j hj; omega

theorem Post.inv {R : Nat} {C : Cfg} {D : Nat → Prop} {φ φ' : PM} {σ σ' : St} {w w' : World} (hp : Post R D φ σ w σ' φ' w') (hi : Inv R C D φ σ w) (hs : StepA σ σ') :
    Inv R C (More D σ) φ' σ' w' where
  wf := hp.wf
  low := Nat.le_trans hi.low hs.next
  rep := fun i hd hn => hp.rep i (by
    by_cases hl : i < σ.next
    · exact .inl ⟨hd.resolve_right (Nat.not_le.2 hl), hl⟩
    · exact .inr ⟨Nat.le_of_not_lt hl, hn⟩)
  gl := fun g n hg => let ⟨e, he, h⟩ := hi.gl g n hg; ⟨e, hp.le _ _ _ he, h⟩
  dom := hs.dom hi.dom
  pin := hi.pin
  dec := hi.dec
  wrR := (hp.lows hi.low hi.wrR).1
  ro := hp.ros hi.low hi.wrR hi.wf hi.ro

omit [Val] in
theorem Frm.refl (φ : PM) (wr : List Nat) (w : World) : Frm φ wr w w := ⟨Nat.le_refl _, fun _ _ _ => rfl, rfl, rfl, rfl⟩

theorem Post.trans {R : Nat} {D : Nat → Prop} {φ φ₁ φ₂ : PM} {σ σ₁ σ₂ : St} {w w₁ w₂ : World} (h : Post R D φ σ w σ₁ φ₁ w₁)
    (k : Post R (More D σ) φ₁ σ₁ w₁ σ₂ φ₂ w₂) (s₁ : StepA σ σ₁) (s₂ : StepA σ₁ σ₂) : Post R D φ σ w σ₂ φ₂ w₂ where
  le := h.le.trans k.le
  grow := fun i hw hn v => by
    rw [k.grow i hw (fun hx => hn ⟨Nat.le_trans s₁.next hx.1, hx.2⟩) v]
    exact h.grow i (hw.imp (fun hw hw' => hw (s₂.wr i hw')) (fun hl => Nat.le_trans s₂.next hl)) (fun hx => hn ⟨hx.1, Nat.lt_of_lt_of_le hx.2 s₂.next⟩) v
  wrR := fun i hi => by
    rcases k.wrR i hi with h' | h'
    · exact h.wrR i h'
    · exact .inr h'
  wf := k.wf
  blk := fun i v e he => by
    rcases k.blk i v e he with ⟨u, f, hf, hb⟩ | hb
    · rcases h.blk i u f hf with ⟨u', f', hf', hb'⟩ | hb'
      · exact .inl ⟨u', f', hf', hb'.trans hb⟩
      · exact .inr (hb ▸ hb')
    · exact .inr (Nat.le_trans h.frm.size hb)
  rep := fun i hi => k.rep i (by
    rcases hi with ⟨hd, hn⟩ | ⟨h1, h2⟩
    · exact .inl ⟨.inl hd, Nat.lt_of_lt_of_le hn s₁.next⟩
    · by_cases hx : i < σ₁.next
      · exact .inl ⟨.inr h1, hx⟩
      · exact .inr ⟨Nat.le_of_not_lt hx, h2⟩)
  frm := {
    size := Nat.le_trans h.frm.size k.frm.size
    keep := fun b hb hne => by
      rw [k.frm.keep b (Nat.lt_of_lt_of_le hb h.frm.size) ?_]
      · exact h.frm.keep b hb fun i hi v e he => hne i (s₂.wr i hi) v e he
      · intro i hi v e he
        rcases h.blk i v e he with ⟨u, f, hf, hbf⟩ | hbf
        · rw [← hbf]; exact hne i hi u f hf
        · exact fun heq => absurd hb (Nat.not_lt.2 (heq ▸ hbf))
    os := k.frm.os.trans h.frm.os
    out := k.frm.out.trans h.frm.out
    tape := k.frm.tape.trans h.frm.tape }

/-- Nothing is done, but for what is read. -/
theorem Post.same {R : Nat} {C : Cfg} {D : Nat → Prop} {φ : PM} {σ σ' : St} {w : World} (hi : Inv R C D φ σ w) (hh : σ'.heap = σ.heap) (hn : σ'.next = σ.next)
    (hw : σ'.wr = σ.wr) : Post R D φ σ w σ' φ w where
  le := φ.le_refl
  grow := fun _ _ _ _ => rfl
  wrR := fun i hi => .inl (hw ▸ hi)
  wf := hi.wf
  blk := fun i v e he => .inl ⟨v, e, he, rfl⟩
  rep := fun i h => by
    rcases h with ⟨hd, hl⟩ | ⟨h1, h2⟩
    · rw [hh]; exact hi.rep i hd hl
    · omega
  frm := .refl _ _ _

/-- Something is drawn from the tape. -/
theorem Post.drew {R : Nat} {D : Nat → Prop} {φ φ' : PM} {σ σ' : St} {w w' : World} (h : Post R D φ σ w.drew σ' φ' w') : Post R D φ σ w σ' φ' w' where
  le := h.le
  grow := h.grow
  wrR := h.wrR
  wf := h.wf
  blk := h.blk
  rep := h.rep
  frm := ⟨h.frm.size, h.frm.keep, h.frm.os, h.frm.out, h.frm.tape⟩
theorem Inv.drew {R : Nat} {C : Cfg} {D : Nat → Prop} {φ : PM} {σ : St} {w : World} (h : Inv R C D φ σ w) : Inv R C D φ σ w.drew where
  wf := ⟨h.wf.inj, h.wf.lt, h.wf.top⟩
  low := h.low
  rep := fun i hd hn => (h.rep i hd hn).frame φ.le_refl (fun _ => rfl) (fun _ _ _ => rfl)
  gl := h.gl
  dom := h.dom
  pin := h.pin
  dec := h.dec
  wrR := h.wrR
  ro := fun i hi => (h.ro i hi).frame (PM.le_refl _) (fun _ => rfl) (fun _ _ _ => rfl)

end Go.Tw
