/-
  A part of the proof that the abstract evaluator is sound for the model's machine. Conditions: those of each theorem, as it states them.
-/
import Derived.Test.YtgcpcgaigbnniaaGreatTwA
import Derived.Laws.Cells
import Derived.Laws.Sem
import Derived.Laws.World
import Derived.Laws.StructEq
import Derived.ChangeKeysEq
set_option linter.all false
namespace Go.Tw
inductive Path (ops : Array Oper) : Nat → Nat → Prop
  | one {j : Nat} {o : Oper} {e : Edge} (h : ops[j]? = some o) (he : e ∈ o.after) (hb : Region.binds .any e = true) : Path ops j e.on
  | step {j i : Nat} {o : Oper} {e : Edge} (h : ops[j]? = some o) (he : e ∈ o.after) (hb : Region.binds .any e = true) (p : Path ops e.on i) : Path ops j i
theorem bitsOf_spec {acc : Array Nat} {i : Nat} : ∀ {l : List Edge}, (bitsOf acc l).testBit i = true → ∃ e ∈ l, Region.binds .any e = true ∧ (e.on = i ∨ (acc.getD e.on 0).testBit i = true) := by
  intro l
  induction l with
  | nil => intro h; simp [bitsOf] at h
  | cons e l ih =>
    intro h
    unfold bitsOf at h
    split at h
    · rename_i hb
      rw [Nat.testBit_or, Nat.testBit_or, Bool.or_eq_true, Bool.or_eq_true] at h
      rcases h with (h | h) | h
      · rw [Nat.testBit_two_pow] at h
        exact ⟨e, by simp, hb, .inl (by simpa using h)⟩
      · exact ⟨e, by simp, hb, .inr h⟩
      · obtain ⟨e', h1, h2⟩ := ih h
        exact ⟨e', by simp [h1], h2⟩
    · obtain ⟨e', h1, h2⟩ := ih h
      exact ⟨e', by simp [h1], h2⟩
theorem befF_spec {ops : Array Oper} : ∀ (l : List Oper) (acc : Array Nat), (∀ j, l[j]? = ops[acc.size + j]?) → (∀ j i, (acc.getD j 0).testBit i = true → Path ops j i) →
    ∀ j i, ((befF l acc).getD j 0).testBit i = true → Path ops j i := by
  intro l
  induction l with
  | nil => intro acc _ h j i hb; exact h j i hb
  | cons o l ih =>
    intro acc hl h j i hb
    refine ih (acc.push (bitsOf acc o.after.toList)) (fun j => ?_) (fun j i hb => ?_) j i hb
    · have := hl (j + 1)
      simpa [Nat.add_assoc, Nat.add_comm 1 j] using this
    · by_cases hj : j < acc.size
      · refine h j i ?_
        simpa [Array.getD_eq_getD_getElem?, Array.getElem?_push, Nat.ne_of_lt hj] using hb
      · by_cases hj2 : j = acc.size
        · subst hj2
          have hb2 : (bitsOf acc o.after.toList).testBit i = true := by
            simpa [Array.getD_eq_getD_getElem?, Array.getElem?_push] using hb
          obtain ⟨e, h1, h2, h3⟩ := bitsOf_spec hb2
          have ho : ops[acc.size]? = some o := by have := hl 0; simpa using this.symm
          rcases h3 with rfl | h3
          · exact .one ho (by simpa using h1) h2
          · exact .step ho (by simpa using h1) h2 (h _ _ h3)
        · have : ((acc.push (bitsOf acc o.after.toList)).getD j 0) = 0 := by
            rw [Array.getD_eq_getD_getElem?, Array.getElem?_eq_none (by simp; omega)]; rfl
          rw [this] at hb; simp at hb
theorem befOf_spec {ops : Array Oper} {j i : Nat} (h : ((befOf ops).getD j 0).testBit i = true) : Path ops j i :=
  befF_spec ops.toList #[] (fun j => by simp) (fun j i hb => by simp at hb) j i h
theorem orderedB_spec {ops : Array Oper} {i j : Nat} (h : orderedB (befOf ops) i j = true) : i = j ∨ Path ops i j ∨ Path ops j i := by
  unfold orderedB at h
  rw [Bool.or_eq_true, Bool.or_eq_true] at h
  rcases h with (h | h) | h
  · exact .inl (beq_t h)
  · exact .inr (.inl (befOf_spec h))
  · exact .inr (.inr (befOf_spec h))
def Closed (ops : Array Oper) (listed : Array Bool) : Prop :=
  ∀ j o, listed.getD j false = true → ops[j]? = some o → ∀ e ∈ o.after, Region.binds .any e = true → listed.getD e.on false = true
theorem Closed.path {ops : Array Oper} {listed : Array Bool} (h : Closed ops listed) {j i : Nat} (p : Path ops j i) : listed.getD j false = true → listed.getD i false = true := by
  induction p with
  | one ho he hb => exact fun hj => h _ _ hj ho _ he hb
  | step ho he hb _ ih => exact fun hj => ih (h _ _ hj ho _ he hb)
theorem onlyT_spec {env : T AV} : ∀ {l : List Tmp} {m : T AV} {t : Tmp} {v : AV}, (onlyT env l m).get t = some v → (t ∈ l ∧ env.get t = some v) ∨ m.get t = some v := by
  intro l
  induction l with
  | nil => intro m t v h; exact .inr h
  | cons x l ih =>
    intro m t v h
    unfold onlyT at h
    split at h
    · rename_i u hu
      rcases ih h with ⟨h1, h2⟩ | h1
      · exact .inl ⟨by simp [h1], h2⟩
      · rw [T.get_set] at h1
        split at h1
        · rename_i e; subst e
          simp only [Option.some.injEq] at h1; subst h1
          exact .inl ⟨by simp, hu⟩
        · exact .inr h1
    · rcases ih h with ⟨h1, h2⟩ | h1
      · exact .inl ⟨by simp [h1], h2⟩
      · exact .inr h1
theorem only_spec {env : Env} {l : List Tmp} {t : Tmp} {v : AV} (h : (env.only l).tm.get t = some v) : t ∈ l ∧ env.tm.get t = some v := by
  rcases onlyT_spec h with h | h
  · exact h
  · cases h
end Go.Tw
namespace Go.Tw
structure Ext where
  blk : Nat
  up : Nat
  dn : Nat
  hi : Nat
  bsz : Nat
  snap : List Value := []
abbrev PM := Nat → Nat → Option Ext
def gid : Nat := 1023
def Pict (φ : PM) (c : Nat) (b : Nat) (s : List Value) : Prop := ∃ j n e, (j = gid ∨ j = c) ∧ φ j n = some e ∧ e.blk = b ∧ e.snap = s
inductive GC (pc : Nat → List Value → Prop) : Sh → Dat → Value → Prop
  | int (k : IntKind) (d : Dat) : GC pc (.int k) d (.int k d.toI)
  | bool (d : Dat) : GC pc .bool d (.bool (d.toI != 0))
  | str (s : List UInt8) : GC pc .str (.str s) (.string ⟨⟨s⟩⟩)
  | none (l : List Sh) (a : Option Addr) (c : Nat) : GC pc (.slc l) (.lst []) (.slice a 0 c)
  | slc {l : List Sh} {rows : List (List Dat)} (b : Nat) (s : List Value) (o c : Nat) (vf : Nat → Nat → Value) (hp : pc b s) (hc : rows.length ≤ c)
      (hl : ∀ (i : Nat) (row : List Dat), rows[i]? = some row → row.length = l.length) (hs : ∀ (i j : Nat), i < rows.length → j < l.length → s[o + i * l.length + j]? = some (vf i j))
      (hg : ∀ (i : Nat) (row : List Dat) (j : Nat) (s : Sh) (d : Dat), rows[i]? = some row → l[j]? = some s → row[j]? = some d → GC pc s d (vf i j)) : GC pc (.slc l) (.lst rows) (.slice (some ⟨b, o, Option.none⟩) rows.length c)
theorem GC.mono {pc pc' : Nat → List Value → Prop} (h : ∀ b s, pc b s → pc' b s) {s : Sh} {d : Dat} {v : Value} (k : GC pc s d v) : GC pc' s d v := by
  induction k with
  | int k d => exact .int k d
  | bool d => exact .bool d
  | str s => exact .str s
  | none l a c => exact .none l a c
  | slc b s o c vf hp hc hl hs _ ih => exact .slc b s o c vf (h _ _ hp) hc hl hs ih
def KV0 (φ : PM) (id : Nat) (sh : Sh) (x : Dat) (v : Value) : Prop := ∃ l a n c, sh = .slc l ∧ v = .slice a n c ∧ GC (Pict φ id) sh x v
def KV1 (φ : PM) (id off : Nat) (sh : Sh) (x y : Dat) (v : Value) : Prop :=
  ∃ (l : List Sh) (row : List Dat) (b : Nat) (s : List Value) (o : Nat) (vf : Nat → Value), sh = .slc l ∧ 0 ≤ y.toI ∧ x.toL[y.toI.toNat]? = some row ∧ row.length = l.length ∧ off ≤ l.length ∧ Pict φ id b s ∧ (∀ (j : Nat), j < l.length → s[o + j]? = some (vf j)) ∧
    (∀ (j : Nat) (s : Sh) (d : Dat), l[j]? = some s → row[j]? = some d → GC (Pict φ id) s d (vf j)) ∧ v = .pointer (some ⟨b, o + off, none⟩)
def KV2 (φ : PM) (id ver : Nat) (sh : Sh) (y : Dat) (v : Value) : Prop :=
  (y = .int 0 ∧ ∃ a, v = .slice a 0 0) ∨
  (y = .int 1 ∧ ∃ l e c n, sh = .slc l ∧ φ id ver = some e ∧ e.dn = 0 ∧ n * l.length = e.hi ∧ n ≤ c ∧ e.up + c * l.length ≤ e.bsz ∧ v = .slice (some ⟨e.blk, e.up, none⟩) n c)
def KV3 (φ : PM) (id ver : Nat) (sh : Sh) (x y : Dat) (v : Value) : Prop :=
  ∃ l e, sh = .slc l ∧ φ id ver = some e ∧ e.dn = 0 ∧ 0 ≤ y.toI ∧ (y.toI.toNat + 1) * l.length ≤ e.hi ∧ 0 ≤ x.toI ∧ x.toI.toNat ≤ l.length ∧ v = .pointer (some ⟨e.blk, e.up + (y.toI.toNat * l.length + x.toI.toNat), none⟩)
def KV4 (φ : PM) (id : Nat) (v : Value) : Prop := ∃ e, φ id 0 = some e ∧ v = .map (some e.blk)
def KV6 (φ : PM) (id ver : Nat) (x y : Dat) (v : Value) : Prop :=
  ∃ e o, φ id ver = some e ∧ e.dn ≤ y.toI.toNat + x.toI.toNat ∧ y.toI.toNat + x.toI.toNat + 1 ≤ e.hi ∧ o + e.dn = y.toI.toNat + x.toI.toNat + e.up ∧ v = .pointer (some ⟨e.blk, o, none⟩)
def KVR (k : Nat) (φ : PM) (id ver : Nat) (sh : Sh) (x y : Dat) (v : Value) : Prop :=
  match k with
  | 0 => KV0 φ id sh x v
  | 1 => KV1 φ id ver sh x y v
  | 2 => KV2 φ id ver sh y v
  | 3 => KV3 φ id ver sh x y v
  | 4 => KV4 φ id v
  | 6 => KV6 φ id ver x y v
  | _ => False
variable [Val]
mutual
inductive VR (φ : PM) : AV → Value → Prop
  | bool (b : Bool) : VR φ (.bool b) (.bool b)
  | int (k : IntKind) (n : Int) : VR φ (.int k n) (.int k n)
  | sym (k : IntKind) (e : Sx) : VR φ (.sym k e) (.int k e.eval)
  | symb (b : Bx) : VR φ (.symb b) (.bool b.eval)
  | sslc {e : Sx} (a : Option Addr) (len cap : Nat) (h : (len : Int) = e.eval) : VR φ (.sslc e) (.slice a len cap)
  | sstr {e : Sx} (s : ByteArray) (h : (s.size : Int) = e.eval) : VR φ (.sstr e) (.string s)
  | vstr {e : Sx} (s : List UInt8) (h : e.dat = .str s) : VR φ (.vstr e) (.string ⟨⟨s⟩⟩)
  | str (s : List UInt8) : VR φ (.str s) (.string ⟨⟨s⟩⟩)
  | nilp : VR φ .nilp (.pointer none)
  | ptr {id ver off hi : Nat} (e : Ext) (o : Nat) (he : φ id ver = some e) (hd : e.dn ≤ off) (hh : hi ≤ e.hi) (ho : o + e.dn = off + e.up) :
      VR φ (.ptr id ver off hi) (.pointer (some ⟨e.blk, o, none⟩))
  | nils : VR φ .nils (.slice none 0 0)
  | slc {id ver off len : Nat} {cap : Option Nat} {esz : Nat} (e : Ext) (o c : Nat) (he : φ id ver = some e) (hd : e.dn ≤ off) (hh : off + len * esz ≤ e.hi)
      (hl : len ≤ c) (hc : ∀ k, cap = some k → k = c ∧ off + k * esz ≤ e.hi) (ho : c = 0 ∨ (o + e.dn = off + e.up ∧ o + c * esz ≤ e.bsz)) :
      VR φ (.slc id ver off len cap esz) (.slice (some ⟨e.blk, o, none⟩) len c)
  | nilm : VR φ .nilm (.map none)
  | map {id : Nat} (e : Ext) (he : φ id 0 = some e) : VR φ (.map id) (.map (some e.blk))
  | yld {id : Nat} (e : Ext) (he : φ id 0 = some e) : VR φ (.yld id) (.func (.yield e.blk) #[] #[])
  | anyp (p : Option Addr) : VR φ .anyp (.pointer p)
  | unk (v : Value) (h : v.oneCell' = true) : VR φ .unk v
  | fn (f : Fn) {a b : List AV} (a' b' : Array Value) (ha : VRL φ a a'.toList) (hb : VRL φ b b'.toList) : VR φ (.fn f a b) (.func f a' b')
  | nilfn : VR φ .nilfn .nilFunc
  | iface (t : TypeId) {v : AV} {v' : Value} (h : VR φ v v') : VR φ (.iface t v) (.iface t v')
  | nili : VR φ .nili .nilIface
  | agg {l : List AV} (l' : Array Value) (h : VRL φ l l'.toList) : VR φ (.agg l) (.agg l')
  | tup {l : List AV} (l' : Array Value) (h : VRL φ l l'.toList) : VR φ (.tup l) (.tuple l')
  | opq {k id ver : Nat} {sh : Sh} {x y : Sx} (v : Value) (h : KVR k φ id ver sh x.dat y.dat v) : VR φ (.opq k id ver sh x y) v
inductive VRL (φ : PM) : List AV → List Value → Prop
  | nil : VRL φ [] []
  | cons {v : AV} {v' : Value} {l : List AV} {l' : List Value} (h : VR φ v v') (t : VRL φ l l') : VRL φ (v :: l) (v' :: l')
end
def PM.le (φ ψ : PM) : Prop := ∀ id v e, φ id v = some e → ψ id v = some e
omit [Val] in
theorem PM.le_refl (φ : PM) : φ.le φ := fun _ _ _ h => h
omit [Val] in
theorem PM.le.trans {φ ψ χ : PM} (h : φ.le ψ) (k : ψ.le χ) : φ.le χ := fun id v e he => k id v e (h id v e he)
omit [Val] in
theorem Pict.mono {φ ψ : PM} (h : φ.le ψ) {c b : Nat} {s : List Value} : Pict φ c b s → Pict ψ c b s :=
  fun ⟨j, n, e, h1, h2, h3⟩ => ⟨j, n, e, h1, h _ _ _ h2, h3⟩
omit [Val] in
theorem KVR.mono {φ ψ : PM} (h : φ.le ψ) {k id ver : Nat} {sh : Sh} {x y : Dat} {v : Value} (hk : KVR k φ id ver sh x y v) : KVR k ψ id ver sh x y v := by
  unfold KVR at hk ⊢
  split at hk
  · obtain ⟨l, a, n, c, h1, h2, h3⟩ := hk
    exact ⟨l, a, n, c, h1, h2, h3.mono fun _ _ => Pict.mono h⟩
  · obtain ⟨l, row, b, s, o, vf, h1, h2, h3, h4, h5, h6, h7, h8, h9⟩ := hk
    exact ⟨l, row, b, s, o, vf, h1, h2, h3, h4, h5, h6.mono h, h7, fun j s d a b => (h8 j s d a b).mono fun _ _ => Pict.mono h, h9⟩
  · rcases hk with hk | ⟨h0, l, e, c, n, h1, h2, h3⟩
    · exact .inl hk
    · exact .inr ⟨h0, l, e, c, n, h1, h _ _ _ h2, h3⟩
  · obtain ⟨l, e, h1, h2, h3⟩ := hk
    exact ⟨l, e, h1, h _ _ _ h2, h3⟩
  · obtain ⟨e, h1, h2⟩ := hk
    exact ⟨e, h _ _ _ h1, h2⟩
  · obtain ⟨e, o, h1, h2⟩ := hk
    exact ⟨e, o, h _ _ _ h1, h2⟩
  · exact hk
omit [Val] in
theorem KVR.one {φ : PM} {k id ver : Nat} {sh : Sh} {x y : Dat} {v : Value} (hk : KVR k φ id ver sh x y v) : v.oneCell' = true := by
  unfold KVR at hk
  split at hk
  · obtain ⟨l, a, n, c, h1, rfl, h3⟩ := hk; rfl
  · obtain ⟨l, row, b, s, o, vf, h1, h2, h3, h4, h5, h6, h7, h8, rfl⟩ := hk; rfl
  · rcases hk with ⟨_, a, rfl⟩ | ⟨h0, l, e, c, n, h1, h2, h3, h4, h5, h6, rfl⟩ <;> rfl
  · obtain ⟨l, e, h1, h2, h3, h4, h5, h6, h7, rfl⟩ := hk; rfl
  · obtain ⟨e, h1, rfl⟩ := hk; rfl
  · obtain ⟨e, o, h1, h2, h3, h4, rfl⟩ := hk; rfl
  · exact hk.elim
mutual
theorem VR.mono {φ ψ : PM} (h : φ.le ψ) : ∀ {v : AV} {v' : Value}, VR φ v v' → VR ψ v v'
  | _, _, .bool b => .bool b
  | _, _, .int k n => .int k n
  | _, _, .sym k e => .sym k e
  | _, _, .symb b => .symb b
  | _, _, .sslc a l c h => .sslc a l c h
  | _, _, .sstr s h => .sstr s h
  | _, _, .vstr s h => .vstr s h
  | _, _, .str s => .str s
  | _, _, .nilp => .nilp
  | _, _, .ptr e o he hd hh ho => .ptr e o (h _ _ _ he) hd hh ho
  | _, _, .nils => .nils
  | _, _, .slc e o c he hd hh hl hc ho => .slc e o c (h _ _ _ he) hd hh hl hc ho
  | _, _, .nilm => .nilm
  | _, _, .map e he => .map e (h _ _ _ he)
  | _, _, .yld e he => .yld e (h _ _ _ he)
  | _, _, .anyp p => .anyp p
  | _, _, .unk v hv => .unk v hv
  | _, _, .fn f a' b' ha hb => .fn f a' b' (VRL.mono h ha) (VRL.mono h hb)
  | _, _, .nilfn => .nilfn
  | _, _, .iface t hv => .iface t (VR.mono h hv)
  | _, _, .nili => .nili
  | _, _, .agg l' hl => .agg l' (VRL.mono h hl)
  | _, _, .tup l' hl => .tup l' (VRL.mono h hl)
  | _, _, .opq v hk => .opq v (hk.mono h)
theorem VRL.mono {φ ψ : PM} (h : φ.le ψ) : ∀ {l : List AV} {l' : List Value}, VRL φ l l' → VRL ψ l l'
  | _, _, .nil => .nil
  | _, _, .cons hv ht => .cons (VR.mono h hv) (VRL.mono h ht)
end
section lists
variable {φ : PM}
theorem VRL.length {l : List AV} {l' : List Value} (h : VRL φ l l') : l'.length = l.length := by
  induction l generalizing l' with
  | nil => cases h; rfl
  | cons v l ih => cases h with | cons hv ht => simp [ih ht]
theorem VRL.append {a b : List AV} {a' b' : List Value} (h : VRL φ a a') (k : VRL φ b b') : VRL φ (a ++ b) (a' ++ b') := by
  induction a generalizing a' with
  | nil => cases h; exact k
  | cons v l ih => cases h with | cons hv ht => exact .cons hv (ih ht)
theorem VRL.take {l : List AV} {l' : List Value} (h : VRL φ l l') (n : Nat) : VRL φ (l.take n) (l'.take n) := by
  induction n generalizing l l' with
  | zero => simp; exact .nil
  | succ n ih =>
    cases h with
    | nil => simp; exact .nil
    | cons hv ht => simp only [List.take_succ_cons]; exact .cons hv (ih ht)
theorem VRL.drop {l : List AV} {l' : List Value} (h : VRL φ l l') (n : Nat) : VRL φ (l.drop n) (l'.drop n) := by
  induction n generalizing l l' with
  | zero => simpa using h
  | succ n ih =>
    cases h with
    | nil => simp; exact .nil
    | cons hv ht => simp only [List.drop_succ_cons]; exact ih ht
theorem VRL.get {l : List AV} {l' : List Value} (h : VRL φ l l') {i : Nat} {v : AV} (hi : l[i]? = some v) : ∃ v', l'[i]? = some v' ∧ VR φ v v' := by
  induction l generalizing l' i with
  | nil => simp at hi
  | cons x l ih =>
    cases h with
    | cons hv ht =>
      cases i with
      | zero => simp at hi; subst hi; exact ⟨_, rfl, hv⟩
      | succ i => simp at hi; obtain ⟨v', h1, h2⟩ := ih ht hi; exact ⟨v', by simpa using h1, h2⟩
theorem VRL.of_get {l : List AV} {l' : List Value} (hl : l.length = l'.length) (h : ∀ (i : Nat) (v : AV) (v' : Value), l[i]? = some v → l'[i]? = some v' → VR φ v v') : VRL φ l l' := by
  induction l generalizing l' with
  | nil => cases l' with
    | nil => exact .nil
    | cons => simp at hl
  | cons x l ih => cases l' with
    | nil => simp at hl
    | cons x' l' =>
      exact .cons (h 0 x x' rfl rfl) (ih (by simpa using hl) fun i v v' h1 h2 => h (i + 1) v v' (by simpa using h1) (by simpa using h2))
theorem VRL.map_u8 (s : List UInt8) : VRL φ (s.map fun b => .int .u8 b.toNat) (s.map fun b => .int .u8 b.toNat) := by
  induction s with
  | nil => exact .nil
  | cons b s ih => exact .cons (.int _ _) ih
theorem VRL.repl {z : List AV} {z' : List Value} (h : VRL φ z z') (n : Nat) : VRL φ (Tw.repl n z) (List.replicate n z').flatten := by
  induction n with
  | zero => exact .nil
  | succ n ih => simp only [Tw.repl, List.replicate_succ, List.flatten_cons]; exact h.append ih
end lists
theorem VR.oneCell {φ : PM} {v : AV} {v' : Value} (h : VR φ v v') (hf : v.flat = true) : v'.oneCell' = true := by
  cases h
  case opq h => exact h.one
  all_goals simp_all [AV.flat, Value.oneCell']
theorem VR.cells {φ : PM} {v : AV} {v' : Value} (h : VR φ v v') : VRL φ v.cells v'.cells.toList := by
  cases h
  case agg l' h => exact h
  case unk h =>
    have : v'.cells = #[v'] := by cases v' <;> simp_all [Value.oneCell', Value.cells]
    rw [this]
    exact .cons (.unk _ h) .nil
  case yld e he => exact .cons (.yld e he) .nil
  case sslc a l c h => exact .cons (.sslc a l c h) .nil
  case sstr s h => exact .cons (.sstr s h) .nil
  case vstr s h => exact .cons (.vstr s h) .nil
  case anyp p => exact .cons (.anyp p) .nil
  case opq h =>
    have : v'.cells = #[v'] := by have := h.one; cases v' <;> simp_all [Value.oneCell', Value.cells]
    rw [this]
    exact .cons (.opq v' h) .nil
  all_goals exact .cons (by constructor <;> assumption) .nil
section consts
variable {φ : PM}
theorem absL_ok {f : Value → Option AV} (hf : ∀ v x, f v = some x → VR φ x v) : ∀ {l : List Value} {r : List AV}, absL f l = some r → VRL φ r l := by
  intro l
  induction l with
  | nil => intro r h; simp only [absL, Option.some.injEq] at h; subst h; exact .nil
  | cons v l ih =>
    intro r h
    simp only [absL] at h
    split at h
    · rename_i x r' hx hr
      simp only [Option.some.injEq] at h; subst h
      exact .cons (hf _ _ hx) (ih hr)
    · cases h
theorem absV_ok : ∀ (d : Nat) (v : Value) (x : AV), absV d v = some x → VR φ x v := by
  intro d
  induction d with
  | zero => intro v x h; simp [absV] at h
  | succ d ih =>
    intro v x h
    simp only [absV] at h
    split at h
    case h_3 s => simp only [Option.some.injEq] at h; subst h; exact .str s.data.toList
    case h_7 f a b =>
      split at h
      · rename_i ha hb
        simp only [Option.some.injEq] at h; subst h
        exact .fn _ _ _ (absL_ok ih ha) (absL_ok ih hb)
      · cases h
    case h_9 t v =>
      split at h
      · rename_i hv
        simp only [Option.some.injEq] at h; subst h
        exact .iface _ (ih _ _ hv)
      · cases h
    case h_11 l =>
      split at h
      · rename_i hl
        simp only [Option.some.injEq] at h; subst h
        exact .agg _ (absL_ok ih hl)
      · cases h
    case h_12 l =>
      split at h
      · rename_i hl
        simp only [Option.some.injEq] at h; subst h
        exact .tup _ (absL_ok ih hl)
      · cases h
    all_goals (first | (cases h; done) | (simp only [Option.some.injEq] at h; subst h; constructor))
end consts
def aliveV (base since nv v : Nat) : Prop := v = base ∨ (since ≤ v ∧ v < nv)
def limV (base lim : Nat) (v : Nat) (e : Ext) : Nat := if v = base then lim else e.hi
inductive ER (φ : PM) : List (AV × AV × Nat) → List MapEntry → Prop
  | nil : ER φ [] []
  | cons {k v : AV} {n : Nat} {k' v' : Value} {l : List (AV × AV × Nat)} {l' : List MapEntry} (hk : VR φ k k') (hv : VR φ v v') (t : ER φ l l') :
      ER φ ((k, v, n) :: l) ({ key := k', val := v', born := n } :: l')
theorem ER.mono {φ ψ : PM} (h : φ.le ψ) {l : List (AV × AV × Nat)} {l' : List MapEntry} (k : ER φ l l') : ER ψ l l' := by
  induction k with
  | nil => exact .nil
  | cons hk hv _ ih => exact .cons (hk.mono h) (hv.mono h) ih
def stN : LoopState → Nat
  | .ready => 0
  | .busy => 1
  | .done => 2
  | .exhausted => 3
def ArrRep (R : Nat) (φ : PM) (w : World) (id : Nat) (c : List AV) (base lim since nv et : Nat) : Prop := R ≤ id ∧ lim ≤ c.length ∧ base < nv ∧ since ≤ nv ∧ (∀ v, nv ≤ v → φ id v = none) ∧
      (∀ v, aliveV base since nv v → ∃ e cs fl fh, φ id v = some e ∧ w.heap[e.blk]? = some (.cells cs et (fl, fh)) ∧ cs.size = e.bsz ∧
        limV base lim v e ≤ e.hi ∧ limV base lim v e ≤ c.length ∧
        (fl = fh ∨ e.bsz ≤ fl) ∧
        (∀ x a, e.dn ≤ x → x < limV base lim v e → c[x]? = some a → ∃ a', cs[x + e.up - e.dn]? = some a' ∧ VR φ a a')) ∧
      (∀ v₁ v₂ e₁ e₂, aliveV base since nv v₁ → aliveV base since nv v₂ → φ id v₁ = some e₁ → φ id v₂ = some e₂ → e₁.blk = e₂.blk → e₁.up = e₂.up ∧ e₁.dn = e₂.dn) ∧
      (∀ v e, v + 1 = nv → since ≤ v → v ≠ base → φ id v = some e → e.hi = c.length)
def litAV (c : Nat) : Sh → Dat → AV
  | .int k, d => .int k d.toI
  | .bool, d => .bool (d.toI != 0)
  | .str, d => .str d.toS
  | .slc l, d => .opq 0 c 0 (.slc l) (.dlit d) (.lit 0)
def litRow (c : Nat) : List Sh → List Dat → List AV
  | s :: l, d :: r => litAV c s d :: litRow c l r
  | _, _ => []
def litRows (c : Nat) (l : List Sh) (rows : List (List Dat)) : List AV := (rows.map (litRow c l)).flatten
def CellOk : Sh → Dat → Prop
  | .str, d => ∃ s, d = .str s
  | _, _ => True
def RowsOk (l : List Sh) (rows : List (List Dat)) : Prop := ∀ r ∈ rows, r.length = l.length ∧ ∀ (j : Nat) (s : Sh) (d : Dat), l[j]? = some s → r[j]? = some d → CellOk s d
def litEnt (c : Nat) (l : List Sh) (agg : Bool) : List Dat → AV × AV
  | k :: r => (.int .i64 k.toI, bif agg then .agg (litRow c l r) else match litRow c l r with
    | [v] => v
    | _ => .unk)
  | [] => (.unk, .unk)
def KRep (k : Nat) (R : Nat) (φ : PM) (w : World) (id ver cid : Nat) (sh : Sh) (x y : Dat) (cells : List AV) (t : TypeId) : Prop :=
  match k with
  | 0 => ∀ n e, φ id n = some e → e = ⟨n, 0, 0, 0, 0, e.snap⟩ ∧ ∃ t fr, w.heap[e.blk]? = some (.cells e.snap.toArray t fr)
  | 2 => ∃ l rows, sh = .slc l ∧ x = .lst rows ∧ RowsOk l rows ∧
      ((y = .int 0 ∧ rows = [] ∧ cells = [] ∧ R ≤ id ∧ ∀ v, ver ≤ v → φ id v = none) ∨ (y = .int 1 ∧ (∃ e, φ id ver = some e ∧ e.hi = (litRows cid l rows ++ cells).length) ∧ ArrRep R φ w id (litRows cid l rows ++ cells) ver (litRows cid l rows ++ cells).length (ver + 1) (ver + 1) t))
  | 4 => ∃ l rows es, sh = .slc l ∧ x = .lst rows ∧ RowsOk (.int .i64 :: l) rows ∧ es.map (fun e : AV × AV × Nat => (e.1, e.2.1)) = rows.map (litEnt cid l (ver == 1)) ∧
      R ≤ id ∧ ∃ e es' clock, φ id 0 = some e ∧ w.heap[e.blk]? = some (.map es' clock) ∧ ER φ es es'.toList
  | _ => False
def Rep (R : Nat) (φ : PM) (w : World) (id : Nat) : Option Ob → Prop
  | none => True
  | some .dead => True
  | some (.box c t) => R ≤ id ∧ ∃ e cs fl fh, φ id 0 = some e ∧ w.heap[e.blk]? = some (.cells cs t (fl, fh)) ∧ e.up = 0 ∧ e.dn = 0 ∧ e.hi = c.length ∧ e.bsz = c.length ∧
      VRL φ c cs.toList ∧ (fl = fh ∨ c.length ≤ fl)
  | some (.ro c) => ∃ e cs t fr, φ id 0 = some e ∧ w.heap[e.blk]? = some (.cells cs t fr) ∧ e.dn = 0 ∧ e.up + c.length ≤ cs.size ∧ VRL φ c ((cs.toList.drop e.up).take c.length)
  | some (.arr c base lim since nv et) => R ≤ id ∧ lim ≤ c.length ∧ base < nv ∧ since ≤ nv ∧ (∀ v, nv ≤ v → φ id v = none) ∧
      (∀ v, aliveV base since nv v → ∃ e cs fl fh, φ id v = some e ∧ w.heap[e.blk]? = some (.cells cs et (fl, fh)) ∧ cs.size = e.bsz ∧
        limV base lim v e ≤ e.hi ∧ limV base lim v e ≤ c.length ∧
        (fl = fh ∨ e.bsz ≤ fl) ∧
        (∀ x a, e.dn ≤ x → x < limV base lim v e → c[x]? = some a → ∃ a', cs[x + e.up - e.dn]? = some a' ∧ VR φ a a')) ∧
      (∀ v₁ v₂ e₁ e₂, aliveV base since nv v₁ → aliveV base since nv v₂ → φ id v₁ = some e₁ → φ id v₂ = some e₂ → e₁.blk = e₂.blk → e₁.up = e₂.up ∧ e₁.dn = e₂.dn) ∧
      (∀ v e, v + 1 = nv → since ≤ v → v ≠ base → φ id v = some e → e.hi = c.length)
  | some (.map es clock) => R ≤ id ∧ ∃ e es', φ id 0 = some e ∧ w.heap[e.blk]? = some (.map es' clock) ∧ ER φ es es'.toList
  | some (.iter s pos) => R ≤ id ∧ ∃ e, φ id 0 = some e ∧ w.heap[e.blk]? = some (.stringIter ⟨⟨s⟩⟩ pos) ∧ e.up = 0 ∧ e.dn = 0
  | some (.miter m since seen last) => R ≤ id ∧ ∃ e m', φ id 0 = some e ∧ w.heap[e.blk]? = some (.mapIter m' since seen.toArray last) ∧ e.up = 0 ∧ e.dn = 0 ∧
      (match m, m' with
       | none, none => True
       | some k, some b => ∃ f, φ k 0 = some f ∧ f.blk = b
       | _, _ => False)
  | some .dfr => R ≤ id ∧ ∃ e, φ id 0 = some e ∧ w.heap[e.blk]? = some (.deferred (some []))
  | some (.loop st pend tm nt ps assign body) => R ≤ id ∧ ∃ e l, φ id 0 = some e ∧ w.heap[e.blk]? = some (.loop l) ∧ stN l.state = st ∧ l.pending = pend ∧ l.tmps.size = nt ∧
      l.params.toList = ps ∧ l.assign = assign ∧ l.body = body ∧ ∀ t v, tm.get t = some v → ∃ v', l.tmps[t]? = some v' ∧ VR φ v v'
  | some (.opq k ver cid sh x y cells t) => KRep k R φ w id ver cid sh x.dat y.dat cells t
structure WF (R : Nat) (φ : PM) (w : World) : Prop where
  inj : ∀ i v e j u f, φ i v = some e → φ j u = some f → e.blk = f.blk → i = j ∨ (i < R ∧ j < R)
  lt : ∀ i v e, φ i v = some e → e.blk < w.heap.size
  top : ∀ i v e, φ i v = some e → e.hi + e.up ≤ e.bsz + e.dn
theorem ArrRep.frame {R : Nat} {φ ψ : PM} {w w' : World} {id : Nat} {c : List AV} {base lim since nv et : Nat} (hle : φ.le ψ) (hid : ∀ v, ψ id v = φ id v)
    (hh : ∀ v e, φ id v = some e → w'.heap[e.blk]? = w.heap[e.blk]?) (h : ArrRep R φ w id c base lim since nv et) : ArrRep R ψ w' id c base lim since nv et := by
  obtain ⟨hR, h1, h2, h3, h4, h5, h6, h7⟩ := h
  refine ⟨hR, h1, h2, h3, fun v hv => (hid v).trans (h4 v hv), fun v hv => ?_, fun v₁ v₂ e₁ e₂ a1 a2 b1 b2 => h6 v₁ v₂ e₁ e₂ a1 a2 ((hid v₁).symm.trans b1) ((hid v₂).symm.trans b2),
    fun v e a1 a2 a3 a4 => h7 v e a1 a2 a3 ((hid v).symm.trans a4)⟩
  obtain ⟨e, cs, fl, fh, he, hb, k1, k2, k3, k4, k5⟩ := h5 v hv
  exact ⟨e, cs, fl, fh, (hid v).trans he, (hh v e he).trans hb, k1, k2, k3, k4, fun x a x1 x2 x3 => let ⟨a', y1, y2⟩ := k5 x a x1 x2 x3; ⟨a', y1, y2.mono hle⟩⟩
theorem KRep.frame {k R : Nat} {φ ψ : PM} {w w' : World} {id ver cid : Nat} {sh : Sh} {x y : Dat} {cells : List AV} {t : TypeId} (hle : φ.le ψ) (hid : ∀ v, ψ id v = φ id v)
    (hh : ∀ v e, φ id v = some e → w'.heap[e.blk]? = w.heap[e.blk]?) (h : KRep k R φ w id ver cid sh x y cells t) : KRep k R ψ w' id ver cid sh x y cells t := by
  unfold KRep at h ⊢
  split at h
  · intro n e he
    rw [hid] at he
    obtain ⟨h0, t, fr, h⟩ := h n e he
    exact ⟨h0, t, fr, (hh n e he).trans h⟩
  · obtain ⟨l, rows, h1, h2, h3, h4⟩ := h
    refine ⟨l, rows, h1, h2, h3, ?_⟩
    rcases h4 with ⟨h4, h5, h6, h7, h8⟩ | ⟨h4, ⟨e, h5, h6⟩, h7⟩
    · exact .inl ⟨h4, h5, h6, h7, fun v hv => (hid v).trans (h8 v hv)⟩
    · exact .inr ⟨h4, ⟨e, (hid _).trans h5, h6⟩, h7.frame hle hid hh⟩
  · obtain ⟨l, rows, es, h1, h2, h3, h4, hR, e, es', clock, he, hb, her⟩ := h
    exact ⟨l, rows, es, h1, h2, h3, h4, hR, e, es', clock, (hid 0).trans he, (hh 0 e he).trans hb, her.mono hle⟩
  · exact h
theorem Rep.frame {R : Nat} {φ ψ : PM} {w w' : World} {id : Nat} {o : Option Ob} (hle : φ.le ψ) (hid : ∀ v, ψ id v = φ id v)
    (hh : ∀ v e, φ id v = some e → w'.heap[e.blk]? = w.heap[e.blk]?) (h : Rep R φ w id o) : Rep R ψ w' id o := by
  cases o with
  | none => trivial
  | some o =>
    cases o with
    | dead => trivial
    | box c t =>
      obtain ⟨hR, e, cs, fl, fh, he, hb, h1, h2, h3, h4, h5, h6⟩ := h
      exact ⟨hR, e, cs, fl, fh, (hid 0).trans he, (hh 0 e he).trans hb, h1, h2, h3, h4, h5.mono hle, h6⟩
    | ro c =>
      obtain ⟨e, cs, t, fr, he, hb, h1, h2, h3⟩ := h
      exact ⟨e, cs, t, fr, (hid 0).trans he, (hh 0 e he).trans hb, h1, h2, h3.mono hle⟩
    | arr c base lim since nv et =>
      obtain ⟨hR, h1, h2, h3, h4, h5, h6, h7⟩ := h
      refine ⟨hR, h1, h2, h3, fun v hv => (hid v).trans (h4 v hv), fun v hv => ?_, fun v₁ v₂ e₁ e₂ a1 a2 b1 b2 => h6 v₁ v₂ e₁ e₂ a1 a2 ((hid v₁).symm.trans b1) ((hid v₂).symm.trans b2),
        fun v e a1 a2 a3 a4 => h7 v e a1 a2 a3 ((hid v).symm.trans a4)⟩
      obtain ⟨e, cs, fl, fh, he, hb, k1, k2, k3, k4, k5⟩ := h5 v hv
      exact ⟨e, cs, fl, fh, (hid v).trans he, (hh v e he).trans hb, k1, k2, k3, k4, fun x a x1 x2 x3 => let ⟨a', y1, y2⟩ := k5 x a x1 x2 x3; ⟨a', y1, y2.mono hle⟩⟩
    | map es clock =>
      obtain ⟨hR, e, es', he, hb, h1⟩ := h
      exact ⟨hR, e, es', (hid 0).trans he, (hh 0 e he).trans hb, h1.mono hle⟩
    | iter s pos =>
      obtain ⟨hR, e, he, hb, h1⟩ := h
      exact ⟨hR, e, (hid 0).trans he, (hh 0 e he).trans hb, h1⟩
    | miter m since seen last =>
      obtain ⟨hR, e, m', he, hb, h1, h2, h3⟩ := h
      refine ⟨hR, e, m', (hid 0).trans he, (hh 0 e he).trans hb, h1, h2, ?_⟩
      cases m <;> cases m' <;> try exact h3
      obtain ⟨f, hf, hfb⟩ := h3
      exact ⟨f, hle _ _ _ hf, hfb⟩
    | dfr =>
      obtain ⟨hR, e, he, hb⟩ := h
      exact ⟨hR, e, (hid 0).trans he, (hh 0 e he).trans hb⟩
    | loop st pend tm nt ps assign body =>
      obtain ⟨hR, e, l, he, hb, h1, h2, h3, h4, h5, h6, h7⟩ := h
      exact ⟨hR, e, l, (hid 0).trans he, (hh 0 e he).trans hb, h1, h2, h3, h4, h5, h6, fun t v hv => let ⟨v', g1, g2⟩ := h7 t v hv; ⟨v', g1, g2.mono hle⟩⟩
    | opq k ver cid sh x y cells t => exact KRep.frame hle hid hh h
structure Frm (φ : PM) (wr : List Nat) (w w' : World) : Prop where
  size : w.heap.size ≤ w'.heap.size
  keep : ∀ b, b < w.heap.size → (∀ i ∈ wr, ∀ v e, φ i v = some e → e.blk ≠ b) → w'.heap[b]? = w.heap[b]?
  os : w'.os = w.os
  out : w'.output = w.output
  tape : w'.tape = w.tape
structure Post (R : Nat) (D : Nat → Prop) (φ : PM) (σ : St) (w : World) (σ' : St) (φ' : PM) (w' : World) : Prop where
  le : φ.le φ'
  grow : ∀ i, (i ∉ σ'.wr ∨ σ'.next ≤ i) → ¬ (σ.next ≤ i ∧ i < σ'.next) → ∀ v, φ' i v = φ i v
  wrR : ∀ i ∈ σ'.wr, i ∈ σ.wr ∨ R ≤ i
  wf : WF R φ' w'
  blk : ∀ i v e, φ' i v = some e → (∃ u f, φ i u = some f ∧ f.blk = e.blk) ∨ w.heap.size ≤ e.blk
  rep : ∀ i, (D i ∧ i < σ.next) ∨ (σ.next ≤ i ∧ i < σ'.next) → Rep R φ' w' i (σ'.heap.get i)
  frm : Frm φ σ'.wr w w'
def PM.low (φ : PM) (R : Nat) : PM := fun i v => if i < R then φ i v else none
omit [Val] in
theorem PM.low_le (φ : PM) (R : Nat) : (φ.low R).le φ := fun i v e h => by
  unfold PM.low at h
  split at h
  · exact h
  · cases h
omit [Val] in
theorem PM.low_lt (φ : PM) {R i : Nat} (h : i < R) (v : Nat) : φ.low R i v = φ i v := by simp [PM.low, h]
def Free (φ : PM) (σ σ' : St) : Prop := ∀ i, σ.next ≤ i → i < σ'.next → ∀ v, φ i v = none
def Known (D : Nat → Prop) (σ σ' : St) : Prop := ∀ i, i ∈ σ'.rd ∨ i ∈ σ'.wr → i < σ.next → D i
structure Inv0 (R : Nat) (D : Nat → Prop) (φ : PM) (σ : St) (w : World) : Prop where
  wf : WF R φ w
  wrR : ∀ i ∈ σ.wr, R ≤ i
  low : R ≤ σ.next
  rep : ∀ i, D i → i < σ.next → Rep R φ w i (σ.heap.get i)
  dom : ∀ i, σ.next ≤ i → σ.heap.get i = none
def OhOk (oh : Program → (Bx → Option Bool) → (Operand → Option AV) → Oper → St → Option OhR) : Prop :=
  ∀ (P : Program) (dec : Bx → Option Bool) (_ : ∀ b v, dec b = some v → b.eval = v) (R : Nat) (D : Nat → Prop) (φ : PM) (σ : St) (w : World) (_ : Inv0 R D φ σ w)
    (ev : Operand → Option AV) (a : Operand → Value) (_ : ∀ x v, ev x = some v → VR φ v (a x)) (o : Oper) (r : OhR), oh P dec ev o σ = some r → (∀ c, o.op ≠ .defer c) → Known D σ (r.to σ) → Free φ σ (r.to σ) →
    ∃ φ' w' n v', (execOp a o).run P w = .ok n w' ∧ (n = .value v' ∨ (n = .skip ∧ v' = undef)) ∧ VR φ' r.v v' ∧ Post R D φ σ w (r.to σ) φ' w'
theorem OhOk.none : OhOk (fun _ _ _ _ _ => .none) := fun _ _ _ _ _ _ _ _ _ _ _ _ _ _ h => by cases h
structure Inv (R : Nat) (C : Cfg) (D : Nat → Prop) (φ : PM) (σ : St) (w : World) : Prop where
  wf : WF R φ w
  low : R ≤ σ.next
  rep : ∀ i, D i → i < σ.next → Rep R φ w i (σ.heap.get i)
  gl : ∀ g n, C.gl g = some n → ∃ e, φ g 0 = some e ∧ e.blk = g ∧ e.up = 0 ∧ e.dn = 0 ∧ n ≤ e.hi
  dom : ∀ i, σ.next ≤ i → σ.heap.get i = none
  pin : ∀ e n, C.pin e = some n → e.eval = n
  dec : ∀ b v, C.dec b = some v → b.eval = v
  wrR : ∀ i ∈ σ.wr, R ≤ i
  ro : ∀ i, i < R → Rep R (φ.low R) w i (C.base i)
  oh : OhOk C.oh
theorem Inv.inv0 {R : Nat} {C : Cfg} {D : Nat → Prop} {φ : PM} {σ : St} {w : World} (h : Inv R C D φ σ w) : Inv0 R D φ σ w := ⟨h.wf, h.wrR, h.low, h.rep, h.dom⟩
omit [Val] in
theorem Known.mono {D : Nat → Prop} {σ σ' σ'' : St} (h : Known D σ σ'') (k : StepA σ' σ'') : Known D σ σ' :=
  fun i hi hn => h i (hi.imp (k.rd i) (k.wr i)) hn
omit [Val] in
theorem Free.mono {φ : PM} {σ σ' σ'' : St} (h : Free φ σ σ'') (k : StepA σ' σ'') : Free φ σ σ' :=
  fun i h1 h2 => h i h1 (Nat.lt_of_lt_of_le h2 k.next)
def More (D : Nat → Prop) (σ : St) : Nat → Prop := fun i => D i ∨ σ.next ≤ i
omit [Val] in
theorem Known.then {D : Nat → Prop} {σ σ' σ'' : St} (h : Known D σ σ'') : Known (More D σ) σ' σ'' := by
  intro i hi _
  by_cases hn : i < σ.next
  · exact .inl (h i hi hn)
  · exact .inr (Nat.le_of_not_lt hn)
theorem Free.then {R : Nat} {D : Nat → Prop} {φ φ' : PM} {σ σ' σ'' : St} {w w' : World} (h : Free φ σ σ'') (hp : Post R D φ σ w σ' φ' w')
    (hs : StepA σ σ') : Free φ' σ' σ'' := by
  intro i h1 h2 v
  rw [hp.grow i (.inr h1) (fun hx => absurd hx.2 (Nat.not_lt.2 h1)) v]
  exact h i (Nat.le_trans hs.next h1) h2 v
theorem Post.lows {R : Nat} {D : Nat → Prop} {φ φ' : PM} {σ σ' : St} {w w' : World} (hp : Post R D φ σ w σ' φ' w') (hl : R ≤ σ.next) (hw : ∀ i ∈ σ.wr, R ≤ i) :
    (∀ i ∈ σ'.wr, R ≤ i) ∧ φ'.low R = φ.low R := by
  have h1 : ∀ i ∈ σ'.wr, R ≤ i := fun i hi => (hp.wrR i hi).elim (hw i) id
  refine ⟨h1, funext fun i => funext fun v => ?_⟩
  unfold PM.low
  split
  · rename_i hi
    exact hp.grow i (.inl fun hx => absurd (h1 i hx) (by omega)) (by omega) v
  · rfl
theorem Post.ros {R : Nat} {C : Cfg} {D : Nat → Prop} {φ φ' : PM} {σ σ' : St} {w w' : World} (hp : Post R D φ σ w σ' φ' w') (hl : R ≤ σ.next) (hw : ∀ i ∈ σ.wr, R ≤ i) (hwf : WF R φ w)
    (h : ∀ i, i < R → Rep R (φ.low R) w i (C.base i)) : ∀ i, i < R → Rep R (φ'.low R) w' i (C.base i) := by
  obtain ⟨h1, h2⟩ := hp.lows hl hw
  intro i hi
  rw [h2]
  refine (h i hi).frame (PM.le_refl _) (fun _ => rfl) fun v e he => ?_
  rw [PM.low_lt _ hi] at he
  refine hp.frm.keep e.blk (hwf.lt i v e he) fun j hj u f hf hb => ?_
  rcases hwf.inj _ _ _ _ _ _ hf he hb with h3 | h3
  · have := h1 j hj; omega
  · have := h1 j hj; omega
theorem Post.inv {R : Nat} {C : Cfg} {D : Nat → Prop} {φ φ' : PM} {σ σ' : St} {w w' : World} (hp : Post R D φ σ w σ' φ' w') (hi : Inv R C D φ σ w) (hs : StepA σ σ') :
    Inv R C (More D σ) φ' σ' w' where
  wf := hp.wf
  low := Nat.le_trans hi.low hs.next
  rep := fun i hd hn => hp.rep i (by
    by_cases hl : i < σ.next
    · exact .inl ⟨hd.resolve_right (Nat.not_le.2 hl), hl⟩
    · exact .inr ⟨Nat.le_of_not_lt hl, hn⟩)
  gl := fun g n hg => let ⟨e, he, h⟩ := hi.gl g n hg; ⟨e, hp.le _ _ _ he, h⟩
  dom := hs.dom hi.dom
  pin := hi.pin
  dec := hi.dec
  wrR := (hp.lows hi.low hi.wrR).1
  ro := hp.ros hi.low hi.wrR hi.wf hi.ro
  oh := hi.oh
omit [Val] in
theorem Frm.refl (φ : PM) (wr : List Nat) (w : World) : Frm φ wr w w := ⟨Nat.le_refl _, fun _ _ _ => rfl, rfl, rfl, rfl⟩
theorem Post.trans {R : Nat} {D : Nat → Prop} {φ φ₁ φ₂ : PM} {σ σ₁ σ₂ : St} {w w₁ w₂ : World} (h : Post R D φ σ w σ₁ φ₁ w₁)
    (k : Post R (More D σ) φ₁ σ₁ w₁ σ₂ φ₂ w₂) (s₁ : StepA σ σ₁) (s₂ : StepA σ₁ σ₂) : Post R D φ σ w σ₂ φ₂ w₂ where
  le := h.le.trans k.le
  grow := fun i hw hn v => by
    rw [k.grow i hw (fun hx => hn ⟨Nat.le_trans s₁.next hx.1, hx.2⟩) v]
    exact h.grow i (hw.imp (fun hw hw' => hw (s₂.wr i hw')) (fun hl => Nat.le_trans s₂.next hl)) (fun hx => hn ⟨hx.1, Nat.lt_of_lt_of_le hx.2 s₂.next⟩) v
  wrR := fun i hi => by
    rcases k.wrR i hi with h' | h'
    · exact h.wrR i h'
    · exact .inr h'
  wf := k.wf
  blk := fun i v e he => by
    rcases k.blk i v e he with ⟨u, f, hf, hb⟩ | hb
    · rcases h.blk i u f hf with ⟨u', f', hf', hb'⟩ | hb'
      · exact .inl ⟨u', f', hf', hb'.trans hb⟩
      · exact .inr (hb ▸ hb')
    · exact .inr (Nat.le_trans h.frm.size hb)
  rep := fun i hi => k.rep i (by
    rcases hi with ⟨hd, hn⟩ | ⟨h1, h2⟩
    · exact .inl ⟨.inl hd, Nat.lt_of_lt_of_le hn s₁.next⟩
    · by_cases hx : i < σ₁.next
      · exact .inl ⟨.inr h1, hx⟩
      · exact .inr ⟨Nat.le_of_not_lt hx, h2⟩)
  frm := {
    size := Nat.le_trans h.frm.size k.frm.size
    keep := fun b hb hne => by
      rw [k.frm.keep b (Nat.lt_of_lt_of_le hb h.frm.size) ?_]
      · exact h.frm.keep b hb fun i hi v e he => hne i (s₂.wr i hi) v e he
      · intro i hi v e he
        rcases h.blk i v e he with ⟨u, f, hf, hbf⟩ | hbf
        · rw [← hbf]; exact hne i hi u f hf
        · exact fun heq => absurd hb (Nat.not_lt.2 (heq ▸ hbf))
    os := k.frm.os.trans h.frm.os
    out := k.frm.out.trans h.frm.out
    tape := k.frm.tape.trans h.frm.tape }
theorem Post.same {R : Nat} {C : Cfg} {D : Nat → Prop} {φ : PM} {σ σ' : St} {w : World} (hi : Inv R C D φ σ w) (hh : σ'.heap = σ.heap) (hn : σ'.next = σ.next)
    (hw : σ'.wr = σ.wr) : Post R D φ σ w σ' φ w where
  le := φ.le_refl
  grow := fun _ _ _ _ => rfl
  wrR := fun i hi => .inl (hw ▸ hi)
  wf := hi.wf
  blk := fun i v e he => .inl ⟨v, e, he, rfl⟩
  rep := fun i h => by
    rcases h with ⟨hd, hl⟩ | ⟨h1, h2⟩
    · rw [hh]; exact hi.rep i hd hl
    · omega
  frm := .refl _ _ _
theorem Post.drew {R : Nat} {D : Nat → Prop} {φ φ' : PM} {σ σ' : St} {w w' : World} (h : Post R D φ σ w.drew σ' φ' w') : Post R D φ σ w σ' φ' w' where
  le := h.le
  grow := h.grow
  wrR := h.wrR
  wf := h.wf
  blk := h.blk
  rep := h.rep
  frm := ⟨h.frm.size, h.frm.keep, h.frm.os, h.frm.out, h.frm.tape⟩
theorem Inv.drew {R : Nat} {C : Cfg} {D : Nat → Prop} {φ : PM} {σ : St} {w : World} (h : Inv R C D φ σ w) : Inv R C D φ σ w.drew where
  wf := ⟨h.wf.inj, h.wf.lt, h.wf.top⟩
  low := h.low
  rep := fun i hd hn => (h.rep i hd hn).frame φ.le_refl (fun _ => rfl) (fun _ _ _ => rfl)
  gl := h.gl
  dom := h.dom
  pin := h.pin
  dec := h.dec
  wrR := h.wrR
  ro := fun i hi => (h.ro i hi).frame (PM.le_refl _) (fun _ => rfl) (fun _ _ _ => rfl)
  oh := h.oh
end Go.Tw
namespace Go.Tw
variable [Val]
def wset (w : World) (b : Nat) (o : Obj) : World := { w with heap := w.heap.setIfInBounds b o }
omit [Val] in
theorem wset_size (w : World) (b : Nat) (o : Obj) : (wset w b o).heap.size = w.heap.size := by simp [wset]
omit [Val] in
theorem wset_same (w : World) (b : Nat) (o : Obj) (h : b < w.heap.size) : (wset w b o).heap[b]? = some o := by simp [wset, h]
omit [Val] in
theorem wset_other (w : World) (b : Nat) (o : Obj) {c : Nat} (h : c ≠ b) : (wset w b o).heap[c]? = w.heap[c]? := by
  simp [wset, Array.getElem?_setIfInBounds_ne (Ne.symm h)]
omit [Val] in
theorem wset_wset (w : World) (b : Nat) (o p : Obj) : wset (wset w b o) b p = wset w b p := by
  simp [wset, Array.setIfInBounds_setIfInBounds]
omit [Val] in
theorem wset_self (w : World) (b : Nat) (o : Obj) (h : w.heap[b]? = some o) : wset w b o = w := by
  have hb : b < w.heap.size := by
    rcases Nat.lt_or_ge b w.heap.size with h' | h'
    · exact h'
    · simp [Array.getElem?_eq_none h'] at h
  have : w.heap.setIfInBounds b o = w.heap := by
    apply Array.ext (by simp)
    intro i h1 h2
    simp at h1
    by_cases e : i = b
    · subst e
      rw [Array.getElem?_eq_getElem h2] at h
      simp only [Option.some.injEq] at h
      rw [Array.getElem_setIfInBounds_self]
      exact h.symm
    · rw [Array.getElem_setIfInBounds h2, if_neg (Ne.symm e)]
  simp [wset, this]
omit [Val] in
theorem heap_lt {w : World} {b : Nat} {o : Obj} (h : w.heap[b]? = some o) : b < w.heap.size := by
  rcases Nat.lt_or_ge b w.heap.size with h' | h'
  · exact h'
  · simp [Array.getElem?_eq_none h'] at h
omit [Val] in
theorem alloc_new (w : World) (o : Obj) : (w.alloc o).heap[w.heap.size]? = some o := by
  show (w.heap.push o)[w.heap.size]? = some o
  simp
omit [Val] in
theorem alloc_old (w : World) (o : Obj) {b : Nat} (h : b < w.heap.size) : (w.alloc o).heap[b]? = w.heap[b]? := by
  show (w.heap.push o)[b]? = _
  simp [Array.getElem?_push, Nat.ne_of_lt h]
omit [Val] in
theorem cell_row {w : World} {b k : Nat} {cs : Array Value} {t : TypeId} {fr : Nat × Nat} (h : w.heap[b]? = some (.cells cs t fr)) : w.cell? ⟨b, k, none⟩ = cs[k]? := by
  simp [World.cell?, h]
omit [Val] in
theorem add_off (b k n : Nat) : (⟨b, k, none⟩ : Addr).add n = ⟨b, k + n, none⟩ := by
  unfold Addr.add; split
  · subst_vars; rfl
  · rfl
section
variable {P : Program}
omit [Val] in
theorem run_loadCells_row {w : World} {b k n : Nat} {cs : Array Value} {t : TypeId} {fr : Nat × Nat} (h : w.heap[b]? = some (.cells cs t fr)) (hn : k + n ≤ cs.size) :
    (loadCells ⟨b, k, none⟩ n).run P w = .ok ((cs.toList.drop k).take n).toArray w := by
  have hl : ((cs.toList.drop k).take n).length = n := by simp; omega
  have := run_loadCells_list (P := P) w ⟨b, k, none⟩ ((cs.toList.drop k).take n) (fun j v hj => by
    rw [add_off, cell_row h]
    rw [List.getElem?_take, List.getElem?_drop] at hj
    split at hj
    · simpa using hj
    · cases hj)
  rw [hl] at this
  exact this
omit [Val] in
theorem setCell_row {w : World} {b k : Nat} {cs : Array Value} {t : TypeId} {fr : Nat × Nat} (v : Value) (h : w.heap[b]? = some (.cells cs t fr)) :
    w.setCell ⟨b, k, none⟩ v = wset w b (.cells (cs.setIfInBounds k v) t fr) := by
  have hb := heap_lt h
  have hx : w.heap[b] = .cells cs t fr := by rw [Array.getElem?_eq_getElem hb] at h; simpa using h
  simp only [World.setCell, wset, Option.isSome_none, Bool.false_eq_true, if_false]
  congr 1
  apply Array.ext (by simp)
  intro i h1 h2
  simp at h1
  rw [Array.getElem_modify, Array.getElem_setIfInBounds]
  by_cases e : b = i
  · subst e; simp [hx]
  · simp [e]
  · exact h1
omit [Val] in
theorem run_storeCells_row {b k : Nat} {t : TypeId} {fl fh : Nat} : ∀ (vs : List Value) (i : Nat) (cur : Array Value) (w : World), w.heap[b]? = some (.cells cur t (fl, fh)) →
    k + i + vs.length ≤ cur.size → (∀ v ∈ vs, v.oneCell' = true) → (∀ y, k + i ≤ y → y < k + i + vs.length → ¬ (fl ≤ y ∧ y < fh)) →
    (storeCells ⟨b, k, none⟩ vs i).run P w = .ok () (wset w b (.cells (cur.toList.take (k + i) ++ vs ++ cur.toList.drop (k + i + vs.length)).toArray t (fl, fh))) := by
  intro vs
  induction vs with
  | nil =>
    intro i cur w h hl _ _
    simp only [storeCells, List.append_nil, List.length_nil, Nat.add_zero, List.take_append_drop, Array.toArray_toList]
    rw [wset_self w b _ h]
    rfl
  | cons v rest ih =>
    intro i cur w h hl h1 hf
    have hk : k + i < cur.size := by simp at hl; omega
    have hfr : w.frozen? ⟨b, k + i, none⟩ = false := by
      have := hf (k + i) (Nat.le_refl _) (by simp)
      simp only [World.frozen?, h]
      simp only [Bool.and_eq_false_imp, decide_eq_true_eq, decide_eq_false_iff_not]
      intro h2 h3
      exact this ⟨h2, h3⟩
    have hst := run_store P w ⟨b, k + i, none⟩ v .plain (h1 v (by simp))
    rw [cell_row h, Array.getElem?_eq_getElem hk, hfr] at hst
    simp only [Bool.false_eq_true, if_false, setCell_row v h] at hst
    have ih := ih (i + 1) (cur.setIfInBounds (k + i) v) (wset w b (.cells (cur.setIfInBounds (k + i) v) t (fl, fh))) (wset_same _ _ _ (heap_lt h))
      (by simp at hl ⊢; omega) (fun x hx => h1 x (by simp [hx])) (fun y h2 h3 => hf y (by omega) (by simp; omega))
    simp only [storeCells, Sem.run_bind, add_off, hst, Result.andThen_ok, ih, wset_wset]
    congr 3
    simp only [Array.toList_setIfInBounds, List.length_cons]
    rw [show k + (i + 1) = k + i + 1 by omega, List.take_set, List.drop_set_of_lt (by omega)]
    have hlen : k + i < cur.toList.length := by simpa using hk
    rw [List.take_succ_eq_append_getElem hlen, List.set_append_right _ _ (by simp; omega)]
    have e1 : (cur.toList.take (k + i)).length = k + i := by simp; omega
    have e2 : k + i + (rest.length + 1) = k + i + 1 + rest.length := by omega
    rw [e1, Nat.sub_self, e2]
    simp
end
def PM.ins (φ : PM) (id v : Nat) (e : Ext) : PM := fun i u => if i = id ∧ u = v then some e else φ i u
omit [Val] in
theorem PM.ins_same (φ : PM) (id v : Nat) (e : Ext) : φ.ins id v e id v = some e := by simp [PM.ins]
omit [Val] in
theorem PM.ins_id (φ : PM) {id v i : Nat} (e : Ext) (h : i ≠ id) (u : Nat) : φ.ins id v e i u = φ i u := by simp [PM.ins, h]
omit [Val] in
theorem PM.ins_ver (φ : PM) {id v u : Nat} (e : Ext) (h : u ≠ v) (i : Nat) : φ.ins id v e i u = φ i u := by simp [PM.ins, h]
omit [Val] in
theorem PM.le_ins (φ : PM) {id v : Nat} (e : Ext) (h : φ id v = none) : φ.le (φ.ins id v e) := by
  intro i u f hf
  unfold PM.ins
  split
  · rename_i hx; obtain ⟨rfl, rfl⟩ := hx; rw [h] at hf; cases hf
  · exact hf
section posts
variable {R : Nat} {C : Cfg} {D : Nat → Prop} {φ : PM} {σ : St} {w : World}
theorem Post.put {φ' : PM} {w' : World} {id : Nat} {o : Ob} (hi : Inv R C D φ σ w) (hR : R ≤ id) (hlt : id < σ.next) (hle : φ.le φ') (hwf : WF R φ' w')
    (hgrow : ∀ i, i ≠ id → ∀ v, φ' i v = φ i v) (hblk : ∀ v e, φ' id v = some e → (∃ u f, φ id u = some f ∧ f.blk = e.blk) ∨ w.heap.size ≤ e.blk)
    (hfrm : Frm φ [id] w w') (hrep : Rep R φ' w' id (some o)) : Post R D φ σ w (σ.put id o) φ' w' where
  le := hle
  grow := fun i hw _ v => hgrow i (fun e => by
    rcases hw with hw | hw
    · exact hw (mem_addL.2 (.inl e))
    · exact absurd hlt (Nat.not_lt.2 (e ▸ hw))) v
  wrR := fun i hw => by
    rcases mem_addL.1 hw with rfl | h
    · exact .inr hR
    · exact .inl h
  wf := hwf
  blk := fun i v e he => by
    by_cases h : i = id
    · subst h; exact hblk v e he
    · rw [hgrow i h] at he; exact .inl ⟨v, e, he, rfl⟩
  rep := fun i h => by
    rcases h with ⟨hd, hl⟩ | ⟨h1, h2⟩
    · by_cases e : i = id
      · subst e; simpa [St.put, T.get_set_same] using hrep
      · have : (σ.put id o).heap.get i = σ.heap.get i := T.get_set_ne _ _ e
        rw [this]
        refine (hi.rep i hd hl).frame hle (fun v => hgrow i e v) fun v f hf => ?_
        refine hfrm.keep _ (hi.wf.lt i v f hf) fun j hj u g hg heq => ?_
        simp only [List.mem_singleton] at hj
        subst hj
        rcases hi.wf.inj _ _ _ _ _ _ hg hf heq with h | h
        · exact e h.symm
        · exact absurd h.1 (Nat.not_lt.2 hR)
    · simp only [St.put] at h2; omega
  frm := ⟨hfrm.size, fun b hb hne => hfrm.keep b hb fun i hi v e he => hne i (by simp at hi; subst hi; exact mem_addL.2 (.inl rfl)) v e he, hfrm.os, hfrm.out, hfrm.tape⟩
omit [Val] in
theorem WF.wset (h : WF R φ w) (b : Nat) (o : Obj) : WF R φ (wset w b o) := ⟨h.inj, fun i v e he => by rw [wset_size]; exact h.lt i v e he, h.top⟩
omit [Val] in
theorem Frm.wset {id v : Nat} {e : Ext} (he : φ id v = some e) (o : Obj) : Frm φ [id] w (wset w e.blk o) :=
  ⟨by rw [wset_size]; exact Nat.le_refl _, fun b _ hne => wset_other _ _ _ (fun h => hne id (by simp) v e he h.symm), rfl, rfl, rfl⟩
theorem Post.change {id v : Nat} {e : Ext} {o : Ob} {ob : Obj} (hi : Inv R C D φ σ w) (hR : R ≤ id) (hlt : id < σ.next) (he : φ id v = some e)
    (hrep : Rep R φ (wset w e.blk ob) id (some o)) : Post R D φ σ w (σ.put id o) φ (wset w e.blk ob) :=
  .put hi hR hlt φ.le_refl (hi.wf.wset _ _) (fun _ _ _ => rfl) (fun v e he => .inl ⟨v, e, he, rfl⟩) (.wset he _) hrep
omit [Val] in
theorem WF.alloc (h : WF R φ w) {id v : Nat} {e : Ext} (o : Obj) (hb : e.blk = w.heap.size) (ht : e.hi + e.up ≤ e.bsz + e.dn) : WF R (φ.ins id v e) (w.alloc o) where
  inj := fun i u f j s g hf hg hbk => by
    unfold PM.ins at hf hg
    split at hf <;> split at hg
    · rename_i h1 h2; exact .inl (h1.1.trans h2.1.symm)
    · simp only [Option.some.injEq] at hf; subst hf
      exact absurd (h.lt _ _ _ hg) (by rw [← hbk, hb]; exact Nat.lt_irrefl _)
    · simp only [Option.some.injEq] at hg; subst hg
      exact absurd (h.lt _ _ _ hf) (by rw [hbk, hb]; exact Nat.lt_irrefl _)
    · exact h.inj _ _ _ _ _ _ hf hg hbk
  lt := fun i u f hf => by
    rw [World.size_alloc]
    unfold PM.ins at hf
    split at hf
    · simp only [Option.some.injEq] at hf; subst hf; omega
    · exact Nat.lt_succ_of_lt (h.lt _ _ _ hf)
  top := fun i u f hf => by
    unfold PM.ins at hf
    split at hf
    · simp only [Option.some.injEq] at hf; subst hf; exact ht
    · exact h.top _ _ _ hf
theorem Post.new {e : Ext} {o : Ob} {ob : Obj} (hi : Inv R C D φ σ w) (hf : ∀ v, φ σ.next v = none) (hb : e.blk = w.heap.size) (ht : e.hi + e.up ≤ e.bsz + e.dn)
    (hrep : Rep R (φ.ins σ.next 0 e) (w.alloc ob) σ.next (some o)) : Post R D φ σ w (σ.mk' o) (φ.ins σ.next 0 e) (w.alloc ob) where
  le := φ.le_ins e (hf 0)
  grow := fun i _ hn v => φ.ins_id e (fun h => hn ⟨by omega, by simp only [St.mk']; omega⟩) v
  wrR := fun _ h => .inl h
  wf := hi.wf.alloc ob hb ht
  blk := fun i v f hf => by
    unfold PM.ins at hf
    split at hf
    · simp only [Option.some.injEq] at hf; subst hf; exact .inr (by omega)
    · exact .inl ⟨v, f, hf, rfl⟩
  rep := fun i h => by
    by_cases e' : i = σ.next
    · subst e'; simpa [St.mk', T.get_set_same] using hrep
    · have : (σ.mk' o).heap.get i = σ.heap.get i := T.get_set_ne _ _ e'
      rw [this]
      have hl : i < σ.next := by
        rcases h with ⟨_, h⟩ | ⟨h1, h2⟩
        · exact h
        · simp only [St.mk'] at h2; omega
      have hd : D i := by
        rcases h with ⟨h, _⟩ | ⟨h1, h2⟩
        · exact h
        · omega
      exact (hi.rep i hd hl).frame (φ.le_ins e (hf 0)) (fun v => φ.ins_id e e' v) fun v f hf => alloc_old _ _ (hi.wf.lt _ _ _ hf)
  frm := ⟨by rw [World.size_alloc]; omega, fun b hb _ => alloc_old _ _ hb, rfl, rfl, rfl⟩
end posts
end Go.Tw
namespace Go.Tw
section
variable [Val]
variable {P : Program} {φ : PM} {w : World}
omit [Val] in
theorem run_und {t : TypeId} {d : TypeDesc} (h : P.underlying t = some d) (w : World) : (underlying t).run P w = .ok d w := run_underlying h w
omit [Val] in
theorem run_szOf {t : TypeId} {n : Nat} (h : szOf P t = some n) (w : World) : (sizeOf t).run P w = .ok n w := by
  unfold szOf at h
  split at h
  · rename_i i hi
    simp only [Option.some.injEq] at h; subst h
    simp [sizeOf, typeInfo, hi]
  · cases h
omit [Val] in
theorem run_byOf {t : TypeId} {n : Nat} (h : byOf P t = some n) : ∃ i, (∀ w, (typeInfo t).run P w = .ok i w) ∧ i.bytes = n := by
  unfold byOf at h
  split at h
  · rename_i i hi
    simp only [Option.some.injEq] at h; subst h
    exact ⟨i, fun w => by simp [typeInfo, hi], rfl⟩
  · cases h
omit [Val] in
theorem run_info {t : TypeId} {i : TypeInfo} (h : P.info? t = some i) (w : World) : (typeInfo t).run P w = .ok i w := by simp [typeInfo, h]
theorem run_zero {t : TypeId} {z : AV} (h : zeroOf P t = some z) : ∃ v, (∀ w, (zeroValue t).run P w = .ok v w) ∧ ∀ φ, VR φ z v := by
  unfold zeroOf at h
  split at h
  · rename_i i hi
    split at h
    · rename_i v hv
      exact ⟨v, fun w => by simp [zeroValue, typeInfo, hi, hv], fun φ => absV_ok _ _ _ h⟩
    · cases h
  · cases h
omit [Val] in
theorem run_aggT {t : TypeId} {b : Bool} (h : aggT P t = some b) (w : World) : (isAgg t).run P w = .ok b w := by
  unfold aggT at h
  split at h
  · rename_i hu; simp only [Option.some.injEq] at h; subst h; simp [isAgg, run_und hu]
  · rename_i hu; simp only [Option.some.injEq] at h; subst h; simp [isAgg, run_und hu]
  · rename_i d hn1 hn2 hu
    simp only [Option.some.injEq] at h; subst h
    simp only [isAgg, Sem.run_bind, run_und hu, Result.andThen_ok]
    cases d <;> first
      | rfl
      | exact (hn1 _ rfl).elim
      | exact (hn2 _ _ rfl).elim
  · cases h
omit [Val] in
theorem cut_ok {l r : List AV} {off n : Nat} (h : cut l off n = some r) : r = (l.drop off).take n ∧ r.length = n := by
  have := takeR_some _ _ _ h
  rw [dropR_eq] at this
  exact this
omit [Val] in
theorem wrapI_eq (k : IntKind) (n : Int) : wrapI k n = k.wrap n := by
  cases n with
  | ofNat m =>
    simp only [wrapI, cond_eq_ite]
    split
    · rename_i h
      have h := ble_t h
      cases k <;> simp only [maxN] at h <;> simp [IntKind.wrap, IntKind.bits, IntKind.signed] <;> omega
    · rfl
  | negSucc m =>
    simp only [wrapI, cond_eq_ite, Bool.and_eq_true]
    split
    · rename_i h
      have h2 := ble_t h.2
      have h1 := h.1
      obtain ⟨n, hn⟩ : ∃ n : Int, n = Int.negSucc m := ⟨_, rfl⟩
      have hn' : n = -(m : Int) - 1 := by omega
      rw [← hn]
      clear hn h
      cases k <;> simp only [maxN] at h2 <;> simp [IntKind.signed] at h1 <;> simp [IntKind.wrap, IntKind.bits, IntKind.signed] <;> omega
    · rfl
theorem partA_ok {t : TypeId} {cs : List AV} {cs' : Array Value} {off : Nat} {v : AV} (h : partA P t cs off = some v) (hc : VRL φ cs cs'.toList) :
    ∃ v', (∀ w, (part t cs' off).run P w = .ok v' w) ∧ VR φ v v' := by
  unfold partA at h
  split at h
  · rename_i n ha hs
    split at h
    · rename_i l hl
      simp only [Option.some.injEq] at h; subst h
      obtain ⟨rfl, _⟩ := cut_ok hl
      refine ⟨.agg (cs'.extract off (off + n)), fun w => by simp [part, run_aggT ha, run_szOf hs], .agg _ ?_⟩
      have := (hc.drop off).take n
      simpa [Array.toList_extract, List.take_drop] using this
    · cases h
  · rename_i ha
    obtain ⟨v', h1, h2⟩ := hc.get h
    refine ⟨v', fun w => ?_, h2⟩
    have h1 : cs'[off]? = some v' := by simpa using h1
    simp [part, run_aggT ha, h1]
  · cases h
variable {dec : Bx → Option Bool}
theorem eqFs_ok {d : Nat} {xs ys : List AV} {xs' ys' : Array Value} (hx : VRL φ xs xs'.toList) (hy : VRL φ ys ys'.toList)
    (ih : ∀ (t : TypeId) (x y : AV) (x' y' : Value) (b : Bool), eqA P dec d t x y = some b → VR φ x x' → VR φ y y' → ∀ w, (Op.equalIn d t x' y').run P w = .ok b w) :
    ∀ (fs : List Field) (b : Bool), eqFs P (eqA P dec d) xs ys fs = some b → ∀ w, (Op.eqFields d xs' ys' fs).run P w = .ok b w := by
  intro fs
  induction fs with
  | nil => intro b h w; simp only [eqFs, Option.some.injEq] at h; subst h; rfl
  | cons f fs ihf =>
    intro b h w
    simp only [eqFs] at h
    simp only [Op.eqFields, Sem.run_ite]
    split at h
    · rename_i hn
      rw [if_pos hn]
      split at h
      · rename_i a c ha hc
        obtain ⟨a', ra, va⟩ := partA_ok (φ := φ) ha hx
        obtain ⟨c', rc, vc⟩ := partA_ok (φ := φ) hc hy
        simp only [Sem.run_bind, ra, rc, Result.andThen_ok]
        split at h
        · rename_i he
          simp only [ih _ _ _ _ _ _ he va vc, Result.andThen_ok]
          simpa using ihf b h w
        · rename_i he
          simp only [Option.some.injEq] at h; subst h
          simp [ih _ _ _ _ _ _ he va vc]
        · cases h
      · cases h
    · rename_i hn
      rw [if_neg hn]
      exact ihf b h w
omit [Val] in
theorem str_beq (a b : List UInt8) : ((⟨⟨a⟩⟩ : ByteArray) == ⟨⟨b⟩⟩) = (a == b) := by
  rw [beq_toListBytes, ByteArray.toList_eq, ByteArray.toList_eq]
theorem sxOf_ok {x : AV} {x' : Value} {k : IntKind} {e : Sx} (h : sxOf x = some (k, e)) (hx : VR φ x x') : x' = .int k e.eval := by
  unfold sxOf at h
  split at h
  · simp only [Option.some.injEq, Prod.mk.injEq] at h; obtain ⟨rfl, rfl⟩ := h; cases hx; rfl
  · simp only [Option.some.injEq, Prod.mk.injEq] at h; obtain ⟨rfl, rfl⟩ := h; cases hx; rfl
  · cases h
theorem bxOf_ok (hdec : ∀ b v, dec b = some v → b.eval = v) {x : AV} {x' : Value} {b : Bool} (h : bxOf dec x = some b) (hx : VR φ x x') : x' = .bool b := by
  unfold bxOf at h
  split at h
  · simp only [Option.some.injEq] at h; subst h; cases hx; rfl
  · cases hx; rw [hdec _ _ h]
  · cases h
theorem vsOf_ok {x : AV} {x' : Value} {e : Sx} (h : vsOf x = some e) (hx : VR φ x x') : ∃ s, x' = .string ⟨⟨s⟩⟩ ∧ e.dat = .str s := by
  unfold vsOf at h
  split at h
  · simp only [Option.some.injEq] at h; subst h
    cases hx with
    | vstr s hs => exact ⟨s, rfl, hs⟩
  · simp only [Option.some.injEq] at h; subst h
    cases hx
    exact ⟨_, rfl, rfl⟩
  · cases h
theorem eqS_ok (hdec : ∀ b v, dec b = some v → b.eval = v) {d : Nat} {t : TypeId} {u : TypeDesc} (hu : P.underlying t = some u) {x y : AV} {x' y' : Value} {b : Bool}
    (h : eqS dec u x y = some b) (hx : VR φ x x') (hy : VR φ y y') (w : World) : (Op.equalIn (d + 1) t x' y').run P w = .ok b w := by
  unfold eqS at h
  split at h
  · split at h
    · rename_i k a k' b' h1 h2
      have e1 := sxOf_ok h1 hx
      have e2 := sxOf_ok h2 hy
      subst e1; subst e2
      split at h
      · rename_i hk
        subst hk
        simp only [cond_eq_ite] at h
        split at h
        · rename_i hs
          simp only [Option.some.injEq] at h; subst h
          rw [Sx.same_eq hs]
          simp [Op.equalIn, run_und hu]
        · have := hdec _ _ h
          simp only [Bx.eval, compI] at this
          simp [Op.equalIn, run_und hu, this]
      · cases h
    · cases h
  · split at h
    · rename_i a b' h1 h2
      have e1 := bxOf_ok hdec h1 hx
      have e2 := bxOf_ok hdec h2 hy
      subst e1; subst e2
      simp only [Option.some.injEq] at h; subst h
      simp [Op.equalIn, run_und hu]
    · cases h
  · split at h
    · rename_i a b' h1 h2
      obtain ⟨s1, e1, g1⟩ := vsOf_ok h1 hx
      obtain ⟨s2, e2, g2⟩ := vsOf_ok h2 hy
      subst e1; subst e2
      have hb : (s1 == s2) = b := by
        simp only [cond_eq_ite] at h
        split at h
        · rename_i hs
          simp only [Option.some.injEq] at h; subst h
          rw [Sx.same_eq hs, g2] at g1
          simp only [Dat.str.injEq] at g1
          simp [g1]
        · have := hdec _ _ h
          simp only [Bx.eval, g1, g2, Dat.toS] at this
          exact this
      simp [Op.equalIn, run_und hu, str_beq, hb]
    · cases h
  · cases h
omit [Val] in
theorem szOf_cells {e : TypeId} {s : Nat} (h : szOf P e = some s) : ∃ i, P.info? e = some i ∧ P.cellsOf e = s := by
  unfold szOf at h
  split at h
  · rename_i i hi
    simp only [Option.some.injEq] at h
    refine ⟨i, hi, ?_⟩
    simp [Program.cellsOf, hi, h]
  · cases h
theorem eqEs_ok {d : Nat} {e : TypeId} {s : Nat} {xs ys : List AV} {xs' ys' : Array Value} (hx : VRL φ xs xs'.toList) (hy : VRL φ ys ys'.toList)
    (ih : ∀ (t : TypeId) (x y : AV) (x' y' : Value) (b : Bool), eqA P dec d t x y = some b → VR φ x x' → VR φ y y' → ∀ w, (Op.equalIn d t x' y').run P w = .ok b w) :
    ∀ (k i : Nat) (b : Bool), eqEs P (eqA P dec d) e s xs ys k i = some b → ∀ w, (Op.eqItems d e s xs' ys' (List.range' i k)).run P w = .ok b w := by
  intro k
  induction k with
  | zero => intro i b h w; simp only [eqEs, Option.some.injEq] at h; subst h; rfl
  | succ k ihk =>
    intro i b h w
    simp only [eqEs] at h
    split at h
    · rename_i a c ha hc
      obtain ⟨a', ra, va⟩ := partA_ok (φ := φ) ha hx
      obtain ⟨c', rc, vc⟩ := partA_ok (φ := φ) hc hy
      simp only [List.range'_succ, Op.eqItems, Sem.run_bind, ra, rc, Result.andThen_ok]
      split at h
      · rename_i he
        simp only [ih _ _ _ _ _ _ he va vc, Result.andThen_ok]
        simpa using ihk (i + 1) b h w
      · rename_i he
        simp only [Option.some.injEq] at h; subst h
        simp [ih _ _ _ _ _ _ he va vc]
      · cases h
    · cases h
set_option maxHeartbeats 2000000 in
theorem eqA_ok (hdec : ∀ b v, dec b = some v → b.eval = v) : ∀ (d : Nat) (t : TypeId) (x y : AV) (x' y' : Value) (b : Bool), eqA P dec d t x y = some b → VR φ x x' → VR φ y y' →
    ∀ w, (Op.equalIn d t x' y').run P w = .ok b w := by
  intro d
  induction d with
  | zero => intro t x y x' y' b h; simp [eqA] at h
  | succ d ih =>
    intro t x y x' y' b h hx hy w
    simp only [eqA] at h
    split at h
    · cases h
    · rename_i u hu
      simp only [cond_eq_ite] at h
      split at h
      · exact eqS_ok hdec hu h hx hy w
      rename_i hns
      split at h
      case h_13 fs xs ys =>
        split at h
        · cases h
        · rename_i hst
          cases hx with
          | agg xs' hxs =>
            cases hy with
            | agg ys' hys =>
              rw [run_equalIn_struct w d t xs' ys' (by simp [Program.fieldsOf, hu]) (by simpa using hst)]
              simp only [Program.fieldsOf, hu]
              exact eqFs_ok hxs hys ih _ _ h w
      case h_12 ms tx vx ty vy =>
        cases hx with
        | iface _ hvx =>
          cases hy with
          | iface _ hvy =>
            split at h
            · rename_i hne
              simp only [Option.some.injEq] at h; subst h
              simp [Op.equalIn, run_und hu, hne]
            · rename_i heq
              have heq : tx = ty := by simpa using heq
              subst heq
              split at h
              · rename_i i hi
                split at h
                · rename_i hc
                  simp only [Op.equalIn, Sem.run_bind, run_und hu, Result.andThen_ok]
                  simp [run_info hi, hc, ih _ _ _ _ _ _ h hvx hvy]
                · cases h
              · cases h
      case h_2 k a k' b' =>
        cases hx; cases hy
        split at h
        · rename_i hk
          simp only [Option.some.injEq] at h; subst h; subst hk
          simp [Op.equalIn, run_und hu]
        · cases h
      case h_3 a b' =>
        cases hx; cases hy
        simp only [Option.some.injEq] at h; subst h
        simp [Op.equalIn, run_und hu, str_beq]
      case h_5 e i v o _ i' v' o' _ =>
        cases hx with
        | ptr e1 p he hd hh ho =>
          cases hy with
          | ptr e2 q he' hd' hh' ho' =>
            split at h
            · rename_i m hs
              split at h
              · rename_i hb
                rw [Bool.and_eq_true] at hb
                have e1 := beq_t hb.1
                have e2 := beq_t hb.2
                subst e1; subst e2
                rw [he] at he'
                simp only [Option.some.injEq] at he'
                subst he'
                simp only [Option.some.injEq] at h
                have : (p = q) ↔ (o = o') := by omega
                rw [← h]
                have hb' : (({ block := e1.blk, off := p, spot := none } : Addr) == { block := e1.blk, off := q, spot := none }) = Nat.beq o o' := by
                  rw [Bool.eq_iff_iff]
                  simp [this]
                simp only [Op.equalIn, Sem.run_bind, run_und hu, Result.andThen_ok, run_szOf hs]
                simp [sameAddr, hb']
              · cases h
            · cases h
      case h_6 n e xs ys =>
        cases hx with
        | agg xs' hxs =>
          cases hy with
          | agg ys' hys =>
            split at h
            · rename_i s hs
              obtain ⟨i, hi, hc⟩ := szOf_cells hs
              rw [run_equalIn_array w d xs' ys' hu hi, hc, List.range_eq_range']
              exact eqEs_ok hxs hys ih _ _ _ h w
            · cases h
      all_goals (first | (cases h; done) | (simp only [Option.some.injEq] at h; subst h; cases hx; cases hy; simp [Op.equalIn, run_und hu]))
omit [Val] in
theorem eqA_known {d : Nat} {t : TypeId} {x y : AV} {b : Bool} (h : eqA P dec d t x y = some b) (hs : (isSym x || isSym y) = false) :
    x ≠ .unk ∧ y ≠ .unk ∧ x ≠ .anyp ∧ y ≠ .anyp ∧ (∀ e, x ≠ .sslc e) ∧ (∀ e, y ≠ .sslc e) ∧ (∀ e, x ≠ .sstr e) ∧ (∀ e, y ≠ .sstr e) ∧ (∀ k i v s e f, x ≠ .opq k i v s e f) ∧ (∀ k i v s e f, y ≠ .opq k i v s e f) := by
  cases d with
  | zero => simp [eqA] at h
  | succ d =>
    simp only [eqA] at h
    split at h
    · cases h
    · simp only [hs, cond_false] at h
      refine ⟨?_, ?_, ?_, ?_, fun e => ?_, fun e => ?_, fun e => ?_, fun e => ?_, fun k i v s e f => ?_, fun k i v s e f => ?_⟩ <;> (rintro rfl; split at h <;> simp_all)
omit [Val] in
theorem bytesLt_eq : ∀ (a b : List UInt8), bytesLt a b = Op.bytesLess a b := by
  intro a
  induction a with
  | nil => intro b; cases b <;> simp [bytesLt, Op.bytesLess]
  | cons x a ih => intro b; cases b <;> simp [bytesLt, Op.bytesLess, ih]
theorem symOp_ok {op : BinOp} {t : TypeId} {x y v : AV} {x' y' : Value} (h : symOp op x y = some v) (hx : VR φ x x') (hy : VR φ y y') :
    ∃ v', (∀ w, (binOp op t x' y').run P w = .ok v' w) ∧ VR φ v v' := by
  unfold symOp at h
  split at h
  · rename_i k a k' b h1 h2
    have e1 := sxOf_ok h1 hx
    have e2 := sxOf_ok h2 hy
    subst e1; subst e2
    unfold symBin at h
    split at h
    · split at h
      · rename_i n
        simp only [Option.some.injEq] at h; subst h
        refine ⟨_, fun w => ?_, .sym _ _⟩
        have hb : ¬ ((n : Int) < 0) := by omega
        simp [binOp, Op.shift, Sx.eval_bin, Sx.eval_lit, arithI, wrapI_eq, hb]
      · cases h
    · split at h
      · rename_i n
        simp only [Option.some.injEq] at h; subst h
        refine ⟨_, fun w => ?_, .sym _ _⟩
        have hb : ¬ ((n : Int) < 0) := by omega
        simp [binOp, Op.shift, Sx.eval_bin, Sx.eval_lit, arithI, hb]
      · cases h
    · rename_i g1 g2
      split at h
      · cases h
      · rename_i hk
        have hk : k = k' := by simpa using hk
        subst hk
        split at h
        · split at h
          · rename_i n
            split at h
            · cases h
            · rename_i hn
              simp only [Option.some.injEq] at h; subst h
              refine ⟨_, fun w => ?_, .sym _ _⟩
              simp [binOp, Op.intDiv, Sx.eval_bin, Sx.eval_lit, arithI, hn, wrapI_eq]
          · cases h
        · split at h
          · rename_i n
            split at h
            · cases h
            · rename_i hn
              simp only [Option.some.injEq] at h; subst h
              refine ⟨_, fun w => ?_, .sym _ _⟩
              simp [binOp, Op.intDiv, Sx.eval_bin, Sx.eval_lit, arithI, hn]
          · cases h
        · simp only [Option.some.injEq] at h; subst h; refine ⟨_, fun w => ?_, .sym _ _⟩; simp [binOp, Op.intArith, Sx.eval_bin, arithI, wrapI_eq]
        · simp only [Option.some.injEq] at h; subst h; refine ⟨_, fun w => ?_, .sym _ _⟩; simp [binOp, Op.intArith, Sx.eval_bin, arithI, wrapI_eq]
        · simp only [Option.some.injEq] at h; subst h; refine ⟨_, fun w => ?_, .sym _ _⟩; simp [binOp, Op.intArith, Sx.eval_bin, arithI, wrapI_eq]
        · simp only [Option.some.injEq] at h; subst h; refine ⟨_, fun w => ?_, .sym _ _⟩; simp [binOp, Op.intBits, Sx.eval_bin, arithI, bitsA, wrapI_eq]
        · simp only [Option.some.injEq] at h; subst h; refine ⟨_, fun w => ?_, .sym _ _⟩; simp [binOp, Op.intBits, Sx.eval_bin, arithI, bitsA, wrapI_eq]
        · simp only [Option.some.injEq] at h; subst h; refine ⟨_, fun w => ?_, .sym _ _⟩; simp [binOp, Op.intBits, Sx.eval_bin, arithI, bitsA, wrapI_eq]
        · simp only [Option.some.injEq] at h; subst h; refine ⟨_, fun w => ?_, .sym _ _⟩; simp [binOp, Op.intBits, Sx.eval_bin, arithI, bitsA, wrapI_eq]
        · simp only [Option.some.injEq, cond_eq_ite] at h
          split at h
          · rename_i hs
            subst h
            rw [Sx.same_eq hs]
            exact ⟨_, fun w => by simp [binOp, Op.intCmp], .bool _⟩
          · subst h
            refine ⟨_, fun w => ?_, .symb _⟩
            simp [binOp, Op.intCmp, Bx.eval, compI]
        · simp only [Option.some.injEq, cond_eq_ite] at h
          split at h
          · rename_i hs
            subst h
            rw [Sx.same_eq hs]
            exact ⟨_, fun w => by simp [binOp, Op.intCmp], .bool _⟩
          · subst h
            refine ⟨_, fun w => ?_, .symb _⟩
            simp [binOp, Op.intCmp, Bx.eval, compI]
        · simp only [Option.some.injEq] at h; subst h; refine ⟨_, fun w => ?_, .symb _⟩; simp [binOp, Op.intCmp, Bx.eval, compI]
        · simp only [Option.some.injEq] at h; subst h; refine ⟨_, fun w => ?_, .symb _⟩; simp [binOp, Op.intCmp, Bx.eval, compI]
        · simp only [Option.some.injEq] at h; subst h; refine ⟨_, fun w => ?_, .symb _⟩; simp [binOp, Op.intCmp, Bx.eval, compI]
        · simp only [Option.some.injEq] at h; subst h; refine ⟨_, fun w => ?_, .symb _⟩; simp [binOp, Op.intCmp, Bx.eval, compI]
        · cases h
  · split at h
    · rename_i a b h1 h2
      obtain ⟨s1, e1, g1⟩ := vsOf_ok h1 hx
      obtain ⟨s2, e2, g2⟩ := vsOf_ok h2 hy
      subst e1; subst e2
      unfold vsBin at h
      split at h
      · simp only [Option.some.injEq, cond_eq_ite] at h
        split at h
        · rename_i hs
          subst h
          rw [Sx.same_eq hs, g2] at g1
          simp only [Dat.str.injEq] at g1
          exact ⟨_, fun w => by simp [binOp, Op.stringOp, g1], .bool _⟩
        · subst h
          refine ⟨_, fun w => ?_, .symb _⟩
          simp [binOp, Op.stringOp, ByteArray.toList_eq, Bx.eval, g1, g2, Dat.toS]
      · simp only [Option.some.injEq, cond_eq_ite] at h
        split at h
        · rename_i hs
          subst h
          rw [Sx.same_eq hs, g2] at g1
          simp only [Dat.str.injEq] at g1
          exact ⟨_, fun w => by simp [binOp, Op.stringOp, g1], .bool _⟩
        · subst h
          refine ⟨_, fun w => ?_, .symb _⟩
          simp [binOp, Op.stringOp, ByteArray.toList_eq, Bx.eval, g1, g2, Dat.toS]
      · cases h
    · cases h
set_option maxHeartbeats 4000000 in
theorem binA_ok (hdec : ∀ b v, dec b = some v → b.eval = v) {op : BinOp} {t : TypeId} {x y v : AV} {x' y' : Value} (h : binA P dec op t x y = some v) (hx : VR φ x x') (hy : VR φ y y') :
    ∃ v', (∀ w, (binOp op t x' y').run P w = .ok v' w) ∧ VR φ v v' := by
  unfold binA at h
  simp only [cond_eq_ite] at h
  split at h
  · exact symOp_ok h hx hy
  rename_i hsy
  replace hsy : (isSym x || isSym y) = false := Bool.not_eq_true _ ▸ hsy
  split at h
  · rename_i k a k' b
    cases hx; cases hy
    split at h
    · simp only [decide_eq_true_eq] at h
      split at h
      · cases h
      · rename_i hb
        simp only [Option.some.injEq] at h; subst h
        refine ⟨_, fun w => ?_, .int _ _⟩
        simp [binOp, Op.shift, hb, wrapI_eq]
    · simp only [decide_eq_true_eq] at h
      split at h
      · cases h
      · rename_i hb
        simp only [Option.some.injEq] at h; subst h
        refine ⟨_, fun w => ?_, .int _ _⟩
        simp [binOp, Op.shift, hb]
    · rename_i h1 h2
      split at h
      · cases h
      · rename_i hk
        have hk : k = k' := by simpa using hk
        subst hk
        cases op <;> simp only [] at h <;> first
          | exact absurd rfl h1
          | exact absurd rfl h2
          | (simp only [Option.some.injEq] at h; subst h; refine ⟨_, fun w => ?_, .int _ _⟩; simp [binOp, Op.intArith, wrapI_eq]; done)
          | (simp only [Option.some.injEq] at h; subst h; refine ⟨_, fun w => ?_, .int _ _⟩; simp [binOp, Op.intBits, bitsA, wrapI_eq]; done)
          | (simp only [Option.some.injEq] at h; subst h; refine ⟨_, fun w => ?_, .bool _⟩; simp [binOp, Op.intCmp]; done)
          | (by_cases hb : b = 0 <;> simp only [hb, if_true, if_false, reduceCtorEq] at h; simp only [Option.some.injEq] at h; subst h; refine ⟨_, fun w => ?_, .int _ _⟩; simp [binOp, Op.intDiv, hb, wrapI_eq])
  · rename_i a b
    cases hx; cases hy
    split at h
    · split at h
      · rename_i hl
        have hl := ble_t hl
        simp only [Option.some.injEq] at h; subst h
        refine ⟨.string ⟨⟨a ++ b⟩⟩, fun w => ?_, .str _⟩
        have h1 : ¬ (((a.length + b.length : Nat) : Int) > IntKind.i64.max) := by simp [IntKind.max, IntKind.bits, IntKind.signed]; omega
        have h2 : (⟨⟨a⟩⟩ : ByteArray) ++ ⟨⟨b⟩⟩ = ⟨⟨a ++ b⟩⟩ := by
          apply ByteArray.ext
          simp
        have h3 : (⟨⟨a⟩⟩ : ByteArray).size = a.length := rfl
        have h4 : (⟨⟨b⟩⟩ : ByteArray).size = b.length := rfl
        simp only [binOp, Op.stringOp, h3, h4, if_neg h1, h2]
        rfl
      · cases h
    all_goals first
      | (cases h; done)
      | (simp only [Option.some.injEq] at h; subst h; refine ⟨_, fun w => ?_, .bool _⟩; simp [binOp, Op.stringOp, ByteArray.toList_eq, bytesLt_eq]; done)
  · rename_i hn1 hn2
    split at h
    · split at h
      · rename_i b he
        simp only [Option.some.injEq] at h; subst h
        refine ⟨.bool b, fun w => ?_, .bool _⟩
        have := eqA_ok hdec _ _ _ _ _ _ _ he hx hy w
        obtain ⟨u1, u2, u3, u4, u5, u6, u7, u8, u9, u10⟩ := eqA_known he hsy
        cases hx <;> cases hy <;> first
          | exact absurd rfl u1
          | exact absurd rfl u2
          | exact absurd rfl u3
          | exact absurd rfl u4
          | exact absurd rfl (u5 _)
          | exact absurd rfl (u6 _)
          | exact absurd rfl (u7 _)
          | exact absurd rfl (u8 _)
          | exact absurd rfl (u9 _ _ _ _ _ _)
          | exact absurd rfl (u10 _ _ _ _ _ _)
          | (simp [isSym] at hsy; done)
          | exact absurd rfl (hn1 _ _ _ _ · rfl)
          | (simp [binOp, Op.equal, Op.maxDepth, this]; done)
          | (exfalso; exact hn1 _ _ _ _ rfl rfl)
          | (exfalso; exact hn2 _ _ rfl rfl)
      · cases h
    · split at h
      · rename_i b he
        simp only [Option.some.injEq] at h; subst h
        refine ⟨.bool (!b), fun w => ?_, .bool _⟩
        have := eqA_ok hdec _ _ _ _ _ _ _ he hx hy w
        obtain ⟨u1, u2, u3, u4, u5, u6, u7, u8, u9, u10⟩ := eqA_known he hsy
        cases hx <;> cases hy <;> first
          | exact absurd rfl u1
          | exact absurd rfl u2
          | exact absurd rfl u3
          | exact absurd rfl u4
          | exact absurd rfl (u5 _)
          | exact absurd rfl (u6 _)
          | exact absurd rfl (u7 _)
          | exact absurd rfl (u8 _)
          | exact absurd rfl (u9 _ _ _ _ _ _)
          | exact absurd rfl (u10 _ _ _ _ _ _)
          | (simp [isSym] at hsy; done)
          | (simp [binOp, Op.equal, Op.maxDepth, this]; done)
          | (exfalso; exact hn1 _ _ _ _ rfl rfl)
          | (exfalso; exact hn2 _ _ rfl rfl)
      · cases h
    · cases h
theorem eqG_ok {op : BinOp} {t : TypeId} {x y : Operand} {a b : AV} {a' b' : Value} (hop : op = .eql ∨ op = .neq) (h : eqG P t x y a b = true) (ha : VR φ a a') (hb : VR φ b b') (w : World) :
    (eqGuard op t x y a' b').run P w = .ok () w := by
  unfold eqG at h
  split at h
  · cases ha; cases hb
    by_cases hc : (Region.isConst x || Region.isConst y) = true
    · rcases hop with rfl | rfl <;> cases x <;> cases y <;> simp_all [eqGuard, Region.isConst]
    · rw [Bool.not_eq_true] at hc
      rw [hc, Bool.false_or] at h
      split at h
      · rename_i ms hu
        have hd : ∀ d, (Op.eqGuardIn (d + 1) t .nilIface .nilIface).run P w = .ok false w := fun d => by simp [Op.eqGuardIn, run_und hu, h]
        have he : (Op.eqGuardIn Op.maxDepth t .nilIface .nilIface).run P w = .ok false w := hd 9999
        clear hd
        rcases hop with rfl | rfl <;> cases x <;> cases y <;> simp_all [eqGuard, Region.isConst]
      · cases h
  · cases h
  · cases h
  · cases h
  · cases h
  · cases ha; cases hb
    rcases hop with rfl | rfl <;> simp_all [eqGuard]
  · rename_i hn1 hq1 hn3 hq2 hn4 hn2
    rcases hop with rfl | rfl <;> cases ha <;> cases hb <;> first
      | (simp [eqGuard]; done)
      | exact absurd rfl (hq1 _ _ _ _ _ _)
      | exact absurd rfl (hq2 _ _ _ _ _ _)
      | exact absurd rfl hn1
      | exact absurd rfl hn3
      | (exfalso; exact hn2 _ _ rfl rfl)
      | (exfalso; exact hn4 rfl rfl)
theorem eqGuardA_ok {op : BinOp} {t : TypeId} {x y : Operand} {a b : AV} {a' b' : Value} (h : eqGuardA P op t x y a b = true) (ha : VR φ a a') (hb : VR φ b b') (w : World) :
    (eqGuard op t x y a' b').run P w = .ok () w := by
  unfold eqGuardA at h
  split at h
  · exact eqG_ok (.inl rfl) h ha hb w
  · exact eqG_ok (.inr rfl) h ha hb w
  · cases op <;> simp_all [eqGuard]
theorem unA_ok {op : UnOp} {x v : AV} {x' : Value} (h : unA op x = some v) (hx : VR φ x x') :
    ∃ v', (∀ w, (Op.unary op x').run P w = .ok v' w) ∧ VR φ v v' := by
  unfold unA at h
  split at h
  · cases hx; simp only [Option.some.injEq] at h; subst h
    exact ⟨_, fun w => by simp [Op.unary, Op.intArith, wrapI_eq], .int _ _⟩
  · cases hx; simp only [Option.some.injEq] at h; subst h
    exact ⟨_, fun w => by simp [Op.unary, Op.intBits, bitsA, wrapI_eq], .int _ _⟩
  · cases hx; simp only [Option.some.injEq] at h; subst h
    exact ⟨_, fun w => by simp [Op.unary], .bool _⟩
  · cases hx; simp only [Option.some.injEq] at h; subst h
    exact ⟨_, fun w => by simp [Op.unary, Op.intArith, Sx.eval_bin, Sx.eval_lit, arithI, wrapI_eq], .sym _ _⟩
  · cases hx; simp only [Option.some.injEq] at h; subst h
    exact ⟨_, fun w => by simp [Op.unary, Op.intBits, Sx.eval_bin, Sx.eval_lit, arithI, bitsA, wrapI_eq], .sym _ _⟩
  · cases hx; simp only [Option.some.injEq] at h; subst h
    exact ⟨_, fun w => by simp [Op.unary, Bx.eval], .symb _⟩
  · cases h
end
end Go.Tw
namespace Go.Tw
section
variable [Val]
variable {P : Program} {R : Nat} {C : Cfg} {D : Nat → Prop} {φ : PM} {σ : St} {w : World}
structure EnvR (φ : PM) (nt : Nat) (env : Env) (a : Act) : Prop where
  size : a.tmps.size = nt
  val : ∀ t v, env.tm.get t = some v → ∃ v', a.tmps[t]? = some v' ∧ VR φ v v'
theorem EnvR.mono {φ ψ : PM} {nt : Nat} {env : Env} {a : Act} (h : EnvR φ nt env a) (k : φ.le ψ) : EnvR ψ nt env a :=
  ⟨h.size, fun t v hv => let ⟨v', h1, h2⟩ := h.val t v hv; ⟨v', h1, h2.mono k⟩⟩
theorem res_ok (hp : ∀ e n, C.pin e = some n → e.eval = n) (hd : ∀ b v, C.dec b = some v → b.eval = v) {v : AV} {v' : Value} (h : VR φ v v') : VR φ (C.res v) v' := by
  unfold Cfg.res
  split
  · split
    · rename_i hq
      cases h
      rw [hp _ _ hq]
      exact .int _ _
    · exact h
  · split
    · rename_i hq
      cases h
      rw [hd _ _ hq]
      exact .bool _
    · exact h
  · exact h
theorem evalO_ok {nt : Nat} {env : Env} {a : Act} (he : EnvR φ nt env a) (hi : Inv R C D φ σ w) {x : Operand} {v : AV} (h : evalO C env x = some v) : VR φ v (a.eval x) := by
  cases x with
  | tmp t =>
    simp only [evalO] at h
    split at h
    · rename_i u hu
      simp only [Option.some.injEq] at h; subst h
      obtain ⟨v', h1, h2⟩ := he.val t u hu
      simpa [Act.eval, h1] using res_ok hi.pin hi.dec h2
    · cases h
  | const c => exact absV_ok _ _ _ h
  | global g =>
    simp only [evalO] at h
    split at h
    · rename_i n hn
      simp only [Option.some.injEq] at h; subst h
      obtain ⟨e, h1, h2, h3, h4, h5⟩ := hi.gl g n hn
      have := VR.ptr (φ := φ) (id := g) (ver := 0) (off := 0) (hi := n) e 0 h1 (by omega) h5 (by omega)
      rw [h2] at this
      exact this
    · cases h
  | func f =>
    simp only [evalO, Option.some.injEq] at h; subst h
    exact .fn _ _ _ .nil .nil
theorem evalL_ok {nt : Nat} {env : Env} {a : Act} (he : EnvR φ nt env a) (hi : Inv R C D φ σ w) : ∀ {l : List Operand} {r : List AV}, evalL C env l = some r → VRL φ r (l.map a.eval) := by
  intro l
  induction l with
  | nil => intro r h; simp only [evalL, Option.some.injEq] at h; subst h; exact .nil
  | cons x l ih =>
    intro r h
    simp only [evalL] at h
    split at h
    · rename_i v hv
      split at h
      · rename_i r' hr
        simp only [Option.some.injEq] at h; subst h
        exact .cons (evalO_ok he hi hv) (ih hr)
      · cases h
    · cases h
def VRO (φ : PM) : Option AV → Option Value → Prop
  | none, none => True
  | some v, some v' => VR φ v v'
  | _, _ => False
theorem evalOpt_ok {nt : Nat} {env : Env} {a : Act} (he : EnvR φ nt env a) (hi : Inv R C D φ σ w) {x : Option Operand} {r : Option AV} (h : evalOpt C env x = some r) : VRO φ r (x.map a.eval) := by
  cases x with
  | none => simp only [evalOpt, Option.some.injEq] at h; subst h; trivial
  | some x =>
    simp only [evalOpt] at h
    split at h
    · rename_i v hv
      simp only [Option.some.injEq] at h; subst h
      exact evalO_ok he hi hv
    · cases h
inductive PR (φ : PM) : List (Nat × AV) → List (Nat × Value) → Prop
  | nil : PR φ [] []
  | cons {i : Nat} {v : AV} {v' : Value} {l : List (Nat × AV)} {l' : List (Nat × Value)} (h : VR φ v v') (t : PR φ l l') : PR φ ((i, v) :: l) ((i, v') :: l')
theorem evalParts_ok {nt : Nat} {env : Env} {a : Act} (he : EnvR φ nt env a) (hi : Inv R C D φ σ w) : ∀ {l : List (Nat × Operand)} {r : List (Nat × AV)}, evalParts C env l = some r →
    PR φ r (l.map fun p => (p.1, a.eval p.2)) := by
  intro l
  induction l with
  | nil => intro r h; simp only [evalParts, Option.some.injEq] at h; subst h; exact .nil
  | cons x l ih =>
    intro r h
    obtain ⟨i, x⟩ := x
    simp only [evalParts] at h
    split at h
    · rename_i v hv
      split at h
      · rename_i r' hr
        simp only [Option.some.injEq] at h; subst h
        exact .cons (evalO_ok he hi hv) (ih hr)
      · cases h
    · cases h
omit [Val] in
theorem foldl_set (vs : List Value) : ∀ (k off : Nat) (cs : Array Value), off + k + vs.length ≤ cs.size →
    ((vs.zipIdx k).foldl (fun cs (c, j) => cs.setIfInBounds (off + j) c) cs) = (cs.toList.take (off + k) ++ vs ++ cs.toList.drop (off + k + vs.length)).toArray := by
  induction vs with
  | nil => intro k off cs _; simp
  | cons v vs ih =>
    intro k off cs h
    simp only [List.zipIdx_cons, List.foldl_cons]
    rw [ih (k + 1) off (cs.setIfInBounds (off + k) v) (by simp at h ⊢; omega)]
    congr 1
    have hk : off + k < cs.toList.length := by simp at h ⊢; omega
    simp only [Array.toList_setIfInBounds, List.length_cons]
    rw [show off + (k + 1) = off + k + 1 by omega, List.take_set, List.drop_set_of_lt (by omega)]
    rw [List.take_succ_eq_append_getElem hk, List.set_append_right _ _ (by simp; omega)]
    have e1 : (cs.toList.take (off + k)).length = off + k := by simp at hk ⊢; omega
    rw [e1, Nat.sub_self, show off + k + 1 + vs.length = off + k + (vs.length + 1) by omega]
    simp
theorem VRL.splice {l vs : List AV} {l' vs' : List Value} (h : VRL φ l l') (k : VRL φ vs vs') (off : Nat) :
    VRL φ (splice l off vs) (l'.take off ++ vs' ++ l'.drop (off + vs'.length)) := by
  rw [splice_eq, k.length]
  exact ((h.take off).append k).append (h.drop _)
omit [Val] in
theorem splice_length {α : Type} {l vs : List α} {off : Nat} (h : off + vs.length ≤ l.length) : (splice l off vs).length = l.length := by
  simp [splice_eq]; omega
theorem fillA_ok {place : Nat → Option (Nat × Nat)} : ∀ {ps : List (Nat × AV)} {ps' : List (Nat × Value)} {cs r : List AV} {cs' : Array Value}, PR φ ps ps' → VRL φ cs cs'.toList →
    fillA place cs ps = some r → ∃ r', Instr.fill place cs' ps' = some r' ∧ VRL φ r r'.toList ∧ r.length = cs.length := by
  intro ps
  induction ps with
  | nil =>
    intro ps' cs r cs' hp hc h
    cases hp
    simp only [fillA, Option.some.injEq] at h; subst h
    exact ⟨cs', rfl, hc, rfl⟩
  | cons p ps ih =>
    intro ps' cs r cs' hp hc h
    cases hp with
    | cons hv ht =>
      rename_i i v v' l'
      simp only [fillA] at h
      split at h
      · cases h
      · rename_i off size hpl
        simp only [cond_eq_ite, Bool.and_eq_true] at h
        split at h
        · rename_i hb
          have h1 := beq_t hb.1
          have h2 := ble_t hb.2
          have hvc := hv.cells
          have hl1 := hvc.length
          have hl2 := hc.length
          have e1 : v'.cells.size = size := by simpa [h1] using hl1
          have e2 : cs'.size = cs.length := by simpa using hl2
          have hnot : ¬ (v'.cells.size ≠ size || decide (off + v'.cells.size > cs'.size)) = true := by simp; omega
          simp only [Instr.fill, hpl, if_neg hnot]
          have hset := foldl_set v'.cells.toList 0 off cs' (by simp; omega)
          have hz : v'.cells.zipIdx.foldl (fun cs (x : Value × Nat) => cs.setIfInBounds (off + x.2) x.1) cs' = (v'.cells.toList.zipIdx 0).foldl (fun cs (x : Value × Nat) => cs.setIfInBounds (off + x.2) x.1) cs' := by
            rw [← Array.foldl_toList]; simp
          obtain ⟨r', g1, g2, g3⟩ := ih (cs' := v'.cells.zipIdx.foldl (fun cs (x : Value × Nat) => cs.setIfInBounds (off + x.2) x.1) cs') ht (by
            rw [hz, hset]
            have := hc.splice hvc off
            simpa using this) h
          exact ⟨r', g1, g2, g3.trans (splice_length (by rw [h1]; exact h2))⟩
        · cases h
omit [Val] in
theorem placesA_ok : ∀ {fs : List Field} {ps : List (Nat × Nat)}, placesA P fs = some ps → ∀ w, (fs.mapM fun f => do pure (f.offset, ← sizeOf f.type) : Sem (List (Nat × Nat))).run P w = .ok ps w := by
  intro fs
  induction fs with
  | nil => intro ps h w; simp only [placesA, Option.some.injEq] at h; subst h; rfl
  | cons f fs ih =>
    intro ps h w
    simp only [placesA] at h
    split at h
    · rename_i n r hn hr
      simp only [Option.some.injEq] at h; subst h
      simp only [List.mapM_cons, Sem.run_bind, run_szOf hn, Result.andThen_ok, ih hr, Sem.run_pure]
    · cases h
theorem buildA_ok {t : TypeId} {ps : List (Nat × AV)} {ps' : Array (Nat × Value)} {v : AV} (hp : PR φ ps ps'.toList) (h : buildA P t ps = some v) :
    ∃ v', (∀ w, (Instr.build t ps').run P w = .ok v' w) ∧ VR φ v v' := by
  unfold buildA at h
  split at h
  · rename_i z hz
    obtain ⟨z', rz, vz⟩ := run_zero hz
    split at h
    · rename_i fs hu
      split at h
      · rename_i pl hpl
        split at h
        · rename_i l hl
          simp only [Option.some.injEq] at h; subst h
          obtain ⟨r', h1, h2, _⟩ := fillA_ok hp (vz φ).cells hl
          refine ⟨.agg r', fun w => ?_, .agg _ h2⟩
          have hm := placesA_ok hpl w
          simp only [Instr.build, Sem.run_bind, rz, run_und hu, Result.andThen_ok]
          rw [Array.mapM_eq_mapM_toList]
          simp only [Sem.run_map, hm, Result.andThen_ok]
          simp [h1]
        · cases h
      · cases h
    · rename_i n e hu
      split at h
      · rename_i s hs
        split at h
        · rename_i l hl
          simp only [Option.some.injEq] at h; subst h
          obtain ⟨r', h1, h2, _⟩ := fillA_ok hp (vz φ).cells hl
          refine ⟨.agg r', fun w => ?_, .agg _ h2⟩
          simp only [Instr.build, Sem.run_bind, rz, run_und hu, Result.andThen_ok, run_szOf hs]
          simp [h1]
        · cases h
      · cases h
    · cases h
  · cases h
theorem extractA_ok {x v : AV} {x' : Value} {i : Nat} (h : extractA x i = some v) (hx : VR φ x x') : ∃ v', (∀ w, (Instr.extract x' i).run P w = .ok v' w) ∧ VR φ v v' := by
  unfold extractA at h
  split at h
  · cases hx with
    | tup l' hl =>
      obtain ⟨v', h1, h2⟩ := hl.get h
      have h1 : l'[i]? = some v' := by simpa using h1
      exact ⟨v', fun w => by simp [Instr.extract, h1], h2⟩
  · cases h
theorem fieldA_ok {t : TypeId} {x v : AV} {x' : Value} {f : Nat} (h : fieldA P t x f = some v) (hx : VR φ x x') : ∃ v', (∀ w, (Instr.field t x' f).run P w = .ok v' w) ∧ VR φ v v' := by
  unfold fieldA at h
  split at h
  · rename_i fs cs hu
    cases hx with
    | agg cs' hc =>
      split at h
      · rename_i fd hf
        obtain ⟨v', h1, h2⟩ := partA_ok (φ := φ) h hc
        exact ⟨v', fun w => by simp [Instr.field, run_und hu, hf, asAgg, h1], h2⟩
      · cases h
  · cases h
omit [Val] in
theorem idx_ok {i : Int} {n k : Nat} (h : idx i n = some k) : i = (k : Int) ∧ k < n := by
  unfold idx at h
  split at h
  · simp only [cond_eq_ite] at h
    split at h
    · rename_i hb
      simp only [Option.some.injEq] at h; subst h
      exact ⟨rfl, blt_t hb⟩
    · cases h
  · cases h
omit [Val] in
theorem upto_ok {i : Int} {n k : Nat} (h : upto i n = some k) : i = (k : Int) ∧ k ≤ n := by
  unfold upto at h
  split at h
  · simp only [cond_eq_ite] at h
    split at h
    · rename_i hb
      simp only [Option.some.injEq] at h; subst h
      exact ⟨rfl, ble_t hb⟩
    · cases h
  · cases h
omit [Val] in
theorem isT_ok {dec : Bx → Option Bool} {b : Bx} (h : isT dec b = true) : dec b = some true := by
  unfold isT at h
  split at h
  · assumption
  · cases h
omit [Val] in
theorem bytes_get {s : List UInt8} {k : Nat} {b : UInt8} (hb : s[k]? = some b) : (⟨⟨s⟩⟩ : ByteArray)[k]? = some b := by
  have hlt : k < s.length := by
    rcases Nat.lt_or_ge k s.length with h | h
    · exact h
    · simp [List.getElem?_eq_none h] at hb
  rw [List.getElem?_eq_getElem hlt] at hb
  simp only [Option.some.injEq] at hb
  have hsz : k < (⟨⟨s⟩⟩ : ByteArray).size := hlt
  rw [getElem?_pos (⟨⟨s⟩⟩ : ByteArray) k hsz]
  exact congrArg some hb
theorem sLen_eval {e : Sx} {s : List UInt8} (hs : e.dat = .str s) : (sLen e).eval = s.length := by
  simp [Sx.eval, sLen, Sx.dat, primD, hs, Dat.toS, Dat.toI]
theorem byteS_ok {dec : Bx → Option Bool} (hdec : ∀ b v, dec b = some v → b.eval = v) {e i : Sx} {v : AV} (h : byteS dec e i = some v) {s : List UInt8} (hs : e.dat = .str s)
    {t : TypeId} (hu : P.underlying t = some .string) {k : IntKind} : ∃ v', (∀ w, (Instr.index t (.string ⟨⟨s⟩⟩) (.int k i.eval)).run P w = .ok v' w) ∧ VR φ v v' := by
  simp only [byteS, cond_eq_ite, Bool.and_eq_true] at h
  split at h
  · rename_i hb
    simp only [Option.some.injEq] at h; subst h
    have h1 := hdec _ _ (isT_ok hb.1)
    have h2 := hdec _ _ (isT_ok hb.2)
    simp only [Bx.eval, compI, decide_eq_true_eq, sLen_eval hs] at h1 h2
    have h1 : 0 ≤ i.eval := h1
    obtain ⟨n, hn⟩ : ∃ n : Nat, i.eval = n := ⟨i.eval.toNat, by omega⟩
    have hlt : n < s.length := by omega
    have hg : s[n]? = some s[n] := List.getElem?_eq_getElem hlt
    refine ⟨.int .u8 (s[n].toNat : Int), fun w => ?_, ?_⟩
    · rw [hn]
      simp [Instr.index, asIntOf, run_und hu, bytes_get hg]
    · have he : (Sx.pr 1 e i).eval = (s[n].toNat : Int) := by
        have hi : i.dat.toI = (n : Int) := hn
        show (match e.dat.toS[i.dat.toI.toNat]? with
          | some c => (c.toNat : Int)
          | none => 0) = _
        rw [hi, hs, Int.toNat_natCast]
        show (match s[n]? with
          | some c => (c.toNat : Int)
          | none => 0) = _
        rw [hg]
      rw [← he]
      exact .sym _ _
  · cases h
theorem indexA_ok {dec : Bx → Option Bool} (hdec : ∀ b v, dec b = some v → b.eval = v) {t : TypeId} {x i v : AV} {x' i' : Value} (h : indexA P dec t x i = some v) (hx : VR φ x x') (hi : VR φ i i') : ∃ v', (∀ w, (Instr.index t x' i').run P w = .ok v' w) ∧ VR φ v v' := by
  unfold indexA at h
  split at h
  · rename_i k i
    cases hi
    split at h
    · rename_i n e cs hu
      cases hx with
      | agg cs' hc =>
        split at h
        · rename_i s k hs hk
          obtain ⟨rfl, hlt⟩ := idx_ok hk
          obtain ⟨v', h1, h2⟩ := partA_ok (φ := φ) h hc
          refine ⟨v', fun w => ?_, h2⟩
          have hc : (0 : Int) ≤ (k : Int) ∧ (k : Int) < (n : Int) := by omega
          simp only [Instr.index, Sem.run_bind, asIntOf, Sem.run_pure, Result.andThen_ok, run_und hu]
          rw [if_pos hc]
          simp [run_szOf hs, h1]
        · cases h
    · rename_i l hu
      cases hx
      split at h
      · rename_i k
        split at h
        · rename_i b hb
          simp only [Option.some.injEq] at h; subst h
          refine ⟨_, fun w => ?_, .int _ _⟩
          have hb' : (⟨⟨l⟩⟩ : ByteArray)[k]? = some b := by
            have hlt : k < l.length := by
              rcases Nat.lt_or_ge k l.length with h | h
              · exact h
              · simp [List.getElem?_eq_none h] at hb
            rw [List.getElem?_eq_getElem hlt] at hb
            simp only [Option.some.injEq] at hb
            have hsz : k < (⟨⟨l⟩⟩ : ByteArray).size := hlt
            rw [getElem?_pos (⟨⟨l⟩⟩ : ByteArray) k hsz]
            exact congrArg some hb
          simp [Instr.index, asIntOf, run_und hu, hb']
        · cases h
      · cases h
    · rename_i e hu
      cases hx with
      | vstr s hs => exact byteS_ok hdec h hs hu
    · cases h
  · rename_i k i
    cases hi
    split at h
    · rename_i e hu
      cases hx with
      | vstr s hs => exact byteS_ok hdec h hs hu
    · cases h
  · cases h
theorem indexAddrA_ok {t : TypeId} {x i v : AV} {x' i' : Value} (h : indexAddrA P t x i = some v) (hx : VR φ x x') (hi : VR φ i i') :
    ∃ v', (∀ w, (Instr.indexAt t x' i').run P w = .ok v' w) ∧ VR φ v v' := by
  unfold indexAddrA at h
  split at h
  · rename_i k i
    cases hi
    split at h
    · rename_i n e id ver off top hu
      cases hx with
      | ptr ex o he hd hh ho =>
        split at h
        · rename_i s k hs hk
          simp only [cond_eq_ite] at h
          split at h
          · rename_i hb
            have hb := ble_t hb
            simp only [Option.some.injEq] at h; subst h
            obtain ⟨rfl, hlt⟩ := idx_ok hk
            refine ⟨.pointer (some ⟨ex.blk, o + k * s, none⟩), fun w => ?_, .ptr ex (o + k * s) he (by omega) (by omega) (by omega)⟩
            have hc : (0 : Int) ≤ (k : Int) ∧ (k : Int) < (n : Int) := by omega
            simp only [Instr.indexAt, Instr.sureAddr, Sem.run_bind, asIntOf, Sem.run_pure, Result.andThen_ok, run_und hu]
            rw [if_pos hc]
            simp [run_szOf hs, add_off]
          · cases h
        · cases h
    · rename_i e id ver off len cap esz hu
      cases hx with
      | slc ex o c he hd hh hl hc ho =>
        split at h
        · rename_i s k hs hk
          simp only [cond_eq_ite] at h
          split at h
          · rename_i hb
            have hb := beq_t hb
            subst hb
            simp only [Option.some.injEq] at h; subst h
            obtain ⟨rfl, hlt⟩ := idx_ok hk
            have hc0 : c ≠ 0 := by omega
            obtain ⟨ho1, ho2⟩ := ho.resolve_left hc0
            have hm : (k + 1) * s ≤ len * s := Nat.mul_le_mul_right s (by omega)
            refine ⟨.pointer (some ⟨ex.blk, o + k * s, none⟩), fun w => ?_, .ptr ex (o + k * s) he (by omega) (by omega) (by omega)⟩
            have hc : (0 : Int) ≤ (k : Int) ∧ (k : Int) < (len : Int) := by omega
            simp only [Instr.indexAt, Sem.run_bind, asIntOf, Sem.run_pure, Result.andThen_ok, run_und hu]
            rw [if_pos hc]
            simp [run_szOf hs, add_off]
          · cases h
        · cases h
    · cases h
  · cases h
theorem fieldAddrA_ok {t : TypeId} {x v : AV} {x' : Value} {f : Nat} (h : fieldAddrA P t x f = some v) (hx : VR φ x x') :
    ∃ v', (∀ w, (Instr.fieldAt t x' f).run P w = .ok v' w) ∧ VR φ v v' := by
  unfold fieldAddrA at h
  split at h
  · rename_i id ver off top
    cases hx with
    | ptr ex o he hd hh ho =>
      split at h
      · rename_i fs hu
        split at h
        · rename_i fd hf
          split at h
          · rename_i n hn
            simp only [cond_eq_ite] at h
            split at h
            · cases h
            · rename_i hn0
              split at h
              · rename_i hb
                have hb := ble_t hb
                simp only [Option.some.injEq] at h; subst h
                refine ⟨.pointer (some ⟨ex.blk, o + fd.offset, none⟩), fun w => ?_, .ptr ex _ he (by omega) hh (by omega)⟩
                have hn1 : n ≠ 0 := by simpa using hn0
                simp [Instr.fieldAt, Instr.sureAddr, run_und hu, hf, fieldPlace, run_szOf hn, hn1, add_off]
              · cases h
          · cases h
        · cases h
      · cases h
  · cases h
end
end Go.Tw
namespace Go.Tw
section
variable [Val]
variable {P : Program} {R : Nat} {C : Cfg} {D : Nat → Prop} {φ : PM} {σ : St} {w : World}
omit [Val] in
theorem splice_get {α : Type} {l vs : List α} {off : Nat} (h : off + vs.length ≤ l.length) (x : Nat) :
    (splice l off vs)[x]? = if x < off then l[x]? else if x < off + vs.length then vs[x - off]? else l[x]? := by
  rw [splice_eq]
  have h1 : (l.take off).length = off := by simp; omega
  split
  · rename_i hx
    rw [List.append_assoc, List.getElem?_append_left (by omega), List.getElem?_take_of_lt hx]
  · rename_i hx
    rw [List.append_assoc, List.getElem?_append_right (by omega), h1]
    split
    · rename_i hy
      rw [List.getElem?_append_left (by omega)]
    · rename_i hy
      rw [List.getElem?_append_right (by omega), List.getElem?_drop]
      congr 1
      omega
omit [Val] in
theorem take_drop_take {α : Type} (l : List α) {L a n : Nat} (h : a + n ≤ L) : ((l.take L).drop a).take n = (l.drop a).take n := by
  rw [List.drop_take, List.take_take]
  congr 1
  omega
theorem view_rep {id ver : Nat} {o : Ob} {c : List AV} {e : Ext} (hr : Rep R φ w id (some o)) (hv : o.view ver = some c) (he : φ id ver = some e) :
    ∃ cs t fr, w.heap[e.blk]? = some (.cells cs t fr) ∧ ∀ off n l q, e.dn ≤ off → off + n ≤ e.hi → cut c off n = some l → q + e.dn = off + e.up →
      (n = 0 ∨ q + n ≤ cs.size) ∧ VRL φ l ((cs.toList.drop q).take n) := by
  cases o with
  | box b bt =>
    simp only [Ob.view, cond_eq_ite] at hv
    split at hv
    · rename_i hb
      have := beq_t hb; subst this
      simp only [Option.some.injEq] at hv; subst hv
      obtain ⟨hR, e', cs, fl, fh, he', hb, h1, h2, h3, h4, h5, _⟩ := hr
      rw [he] at he'; simp only [Option.some.injEq] at he'; subst he'
      refine ⟨cs, bt, _, hb, fun off n l q a1 a2 a3 a4 => ?_⟩
      obtain ⟨rfl, _⟩ := cut_ok a3
      have : q = off := by omega
      subst this
      have hl := h5.length
      exact ⟨.inr (by simp at hl; omega), (h5.drop q).take n⟩
    · cases hv
  | ro b =>
    simp only [Ob.view, cond_eq_ite] at hv
    split at hv
    · rename_i hb
      have := beq_t hb; subst this
      simp only [Option.some.injEq] at hv; subst hv
      obtain ⟨e', cs, t, fr, he', hb, h1, h2, h3⟩ := hr
      rw [he] at he'; simp only [Option.some.injEq] at he'; subst he'
      refine ⟨cs, t, fr, hb, fun off n l q a1 a2 a3 a4 => ?_⟩
      obtain ⟨rfl, hn⟩ := cut_ok a3
      have hq : q = e.up + off := by omega
      subst hq
      by_cases hn0 : n = 0
      · subst hn0; exact ⟨.inl rfl, by simp; exact .nil⟩
      have hlen : off + n ≤ b.length := by simp at hn; omega
      refine ⟨.inr (by omega), ?_⟩
      have := (h3.drop off).take n
      rw [take_drop_take _ hlen, List.drop_drop] at this
      exact this
    · cases hv
  | arr b base lim since nv et =>
    have ha : aliveV base since nv ver ∧ (∃ L, L = limV base lim ver e ∧ ∀ off n l, off + n ≤ e.hi → cut c off n = some l → n ≠ 0 → off + n ≤ L ∧ l = (b.drop off).take n ∧ l.length = n) := by
      simp only [Ob.view, cond_eq_ite, Bool.and_eq_true] at hv
      split at hv
      · rename_i hb
        have := beq_t hb; subst this
        simp only [Option.some.injEq] at hv; subst hv
        refine ⟨.inl rfl, _, rfl, fun off n l h1 h2 h3 => ?_⟩
        obtain ⟨rfl, hn⟩ := cut_ok h2
        have : off + n ≤ lim := by simp at hn; omega
        exact ⟨by simpa [limV] using this, take_drop_take _ this, hn⟩
      · rename_i hb
        have hb : ver ≠ base := fun h => hb (by simp [h])
        split at hv
        · rename_i hc
          simp only [Option.some.injEq] at hv; subst hv
          refine ⟨.inr ⟨ble_t hc.1, blt_t hc.2⟩, _, rfl, fun off n l h1 h2 h3 => ?_⟩
          obtain ⟨rfl, hn⟩ := cut_ok h2
          exact ⟨by simpa [limV, hb] using h1, rfl, hn⟩
        · cases hv
    obtain ⟨hal, L, hL, hcut⟩ := ha
    obtain ⟨hR, g1, g2, g3, g4, g5, g6, _⟩ := hr
    obtain ⟨e', cs, fl, fh, he', hb, k1, k2, k3, k4, k5⟩ := g5 ver hal
    rw [he] at he'; simp only [Option.some.injEq] at he'; subst he'
    refine ⟨cs, et, _, hb, fun off n l q a1 a2 a3 a4 => ?_⟩
    by_cases hn0 : n = 0
    · subst hn0
      obtain ⟨rfl, _⟩ := cut_ok a3
      exact ⟨.inl rfl, by simp; exact .nil⟩
    obtain ⟨h1, h2, h3⟩ := hcut off n l a2 a3 hn0
    rw [← hL] at k2 k3 k5
    have key : ∀ i v, i < n → l[i]? = some v → ∃ v', cs[q + i]? = some v' ∧ VR φ v v' := by
      intro i v hi hv
      rw [h2, List.getElem?_take_of_lt hi, List.getElem?_drop] at hv
      obtain ⟨v', y1, y2⟩ := k5 (off + i) v (by omega) (by omega) hv
      refine ⟨v', ?_, y2⟩
      rw [show q + i = off + i + e.up - e.dn by omega]
      exact y1
    have hsz : q + n ≤ cs.size := by
      have hlast : n - 1 < l.length := by omega
      obtain ⟨v', y1, _⟩ := key (n - 1) l[n - 1] (by omega) (List.getElem?_eq_getElem hlast)
      have : q + (n - 1) < cs.size := by
        rcases Nat.lt_or_ge (q + (n - 1)) cs.size with h | h
        · exact h
        · simp [Array.getElem?_eq_none h] at y1
      omega
    refine ⟨.inr hsz, VRL.of_get (by simp; omega) fun i v v' hv hv' => ?_⟩
    have hi : i < n := by
      rcases Nat.lt_or_ge i l.length with h | h
      · omega
      · simp [List.getElem?_eq_none h] at hv
    obtain ⟨u, y1, y2⟩ := key i v hi hv
    rw [List.getElem?_take_of_lt hi, List.getElem?_drop] at hv'
    have : cs[q + i]? = some v' := by simpa using hv'
    rw [y1] at this
    simp only [Option.some.injEq] at this
    subst this
    exact y2
  | map es k => simp [Ob.view] at hv
  | iter s p => simp [Ob.view] at hv
  | miter => simp [Ob.view] at hv
  | dead => simp [Ob.view] at hv
  | dfr => simp [Ob.view] at hv
  | loop => simp [Ob.view] at hv
  | opq => simp [Ob.view] at hv
theorem Inv.lt (hi : Inv R C D φ σ w) {id : Nat} {o : Ob} (h : σ.heap.get id = some o) : id < σ.next := by
  rcases Nat.lt_or_ge id σ.next with h' | h'
  · exact h'
  · rw [hi.dom id h'] at h; cases h
theorem Inv.at (hi : Inv R C D φ σ w) {id : Nat} {o : Ob} (h : σ.heap.get id = some o) (hd : D id) : Rep R φ w id (some o) := h ▸ hi.rep id hd (hi.lt h)
theorem Inv.same {τ : St} (hi : Inv R C D φ σ w) (h1 : τ.heap = σ.heap) (h2 : τ.next = σ.next) (h3 : τ.wr = σ.wr) : Inv R C D φ τ w :=
  ⟨hi.wf, by rw [h2]; exact hi.low, fun i hd' hn' => by rw [h1]; rw [h2] at hn'; exact hi.rep i hd' hn', hi.gl, fun i hn' => by rw [h1]; rw [h2] at hn'; exact hi.dom i hn', hi.pin, hi.dec, by rw [h3]; exact hi.wrR, hi.ro, hi.oh⟩
theorem Post.from {τ σ' : St} {φ' : PM} {w' : World} (hp : Post R D φ τ w σ' φ' w') (h2 : τ.next = σ.next) (hw : τ.wr = σ.wr) : Post R D φ σ w σ' φ' w' where
  le := hp.le
  grow := fun i h1 h3 => hp.grow i h1 (by rw [h2]; exact h3)
  wrR := fun i h => by rw [← hw]; exact hp.wrR i h
  wf := hp.wf
  blk := hp.blk
  rep := fun i h => hp.rep i (by rw [h2]; exact h)
  frm := hp.frm
theorem readN_run (hi : Inv R C D φ σ w) {id ver off hi' n q : Nat} {l : List AV} {e : Ext} (h : readN σ id ver off hi' n = some l) (hd : D id) (he : φ id ver = some e)
    (h1 : e.dn ≤ off) (h2 : hi' ≤ e.hi) (h3 : q + e.dn = off + e.up) :
    ∃ arr : Array Value, (∀ w₂ : World, w₂.heap = w.heap → (loadCells ⟨e.blk, q, none⟩ n).run P w₂ = .ok arr w₂) ∧ VRL φ l arr.toList ∧ l.length = n ∧ (n = 1 → ∃ v, arr = #[v] ∧ w.cell? ⟨e.blk, q, none⟩ = some v) := by
  obtain ⟨ha, o, c, ho, hv, hc⟩ := readN_ok h
  obtain ⟨cs, t, fr, hb, hall⟩ := view_rep (hi.at ho hd) hv he
  obtain ⟨hn, hl⟩ := hall off n l q h1 (by omega) hc h3
  have hlen := (cut_ok hc).2
  by_cases hn0 : n = 0
  · subst hn0
    refine ⟨#[], fun _ _ => by simp [loadCells, loadCellsFrom], ?_, hlen, by omega⟩
    have : l = [] := List.length_eq_zero_iff.1 hlen
    subst this; exact .nil
  · have hn := hn.resolve_left hn0
    refine ⟨_, fun w₂ h₂ => run_loadCells_row (by rw [h₂]; exact hb) hn, by simpa using hl, hlen, fun h1 => ?_⟩
    subst h1
    have hq : q < cs.size := by omega
    refine ⟨cs[q], ?_, by rw [cell_row hb, Array.getElem?_eq_getElem hq]⟩
    have hq' : q < cs.toList.length := by simpa using hq
    rw [List.drop_eq_getElem_cons hq']
    simp
theorem loadA_ok (hi : Inv R C D φ σ w) {t : TypeId} {a v : AV} {a' : Value} {σ' : St} (h : loadA P t a σ = some (v, σ')) (ha : VR φ a a') (hk : Known D σ σ') :
    ∃ v', (Instr.loadAt t a').run P w = .ok v' w ∧ VR φ v v' ∧ Post R D φ σ w σ' φ w := by
  unfold loadA at h
  split at h
  · rename_i id ver off top
    cases ha with
    | ptr e q he hd hh ho =>
      split at h
      · rename_i hagg
        split at h
        · rename_i n hn
          split at h
          · rename_i l hl
            simp only [Option.some.injEq, Prod.mk.injEq] at h
            obtain ⟨rfl, rfl⟩ := h
            obtain ⟨_, o, c, hoo, _⟩ := readN_ok hl
            have hdd : D id := hk id (.inl (mem_addL.2 (.inl rfl))) (hi.lt hoo)
            obtain ⟨arr, r1, r2, _⟩ := readN_run (P := P) hi hl hdd he hd hh ho
            exact ⟨.agg arr, by simp [Instr.loadAt, Instr.sureAddr, loadVar, run_aggT hagg, run_szOf hn, r1 w rfl], .agg _ r2, .same hi rfl rfl rfl⟩
          · cases h
        · cases h
      · rename_i hagg
        split at h
        · rename_i v0 hl
          simp only [Option.some.injEq, Prod.mk.injEq] at h
          obtain ⟨rfl, rfl⟩ := h
          obtain ⟨_, o, c, hoo, _⟩ := readN_ok hl
          have hdd : D id := hk id (.inl (mem_addL.2 (.inl rfl))) (hi.lt hoo)
          obtain ⟨arr, r1, r2, _, r3⟩ := readN_run (P := P) hi hl hdd he hd hh ho
          obtain ⟨v', rfl, hc⟩ := r3 rfl
          cases r2 with
          | cons hv _ =>
            exact ⟨v', by simp [Instr.loadAt, Instr.sureAddr, loadVar, run_aggT hagg, hc], hv, .same hi rfl rfl rfl⟩
        · cases h
      · cases h
  · cases h
theorem arr_write {id ver off q L nv et fl fh : Nat} {c c1 : List AV} {vs : List AV} {vs' : List Value} {e : Ext} {cs : Array Value}
    (hR : R ≤ id) (hv : VRL φ vs vs') (hone : ∀ v ∈ vs', v.oneCell' = true) (he : φ id ver = some e) (h1 : e.dn ≤ off) (h3 : q + e.dn = off + e.up)
    (hbk : w.heap[e.blk]? = some (.cells cs et (fl, fh))) (k1 : cs.size = e.bsz) (k2 : L ≤ e.hi) (k4 : fl = fh ∨ e.bsz ≤ fl)
    (k5 : ∀ x a, e.dn ≤ x → x < L → c[x]? = some a → ∃ a', cs[x + e.up - e.dn]? = some a' ∧ VR φ a a') (hc1 : c1.length = L) (hcc : ∀ x, x < L → c1[x]? = c[x]?)
    (hn : 0 < vs.length) (hoff : off + vs.length ≤ L) (hver : ver < nv) (hnv : ∀ v, nv ≤ v → φ id v = none) :
    ∃ ob, (storeCells ⟨e.blk, q, none⟩ vs').run P w = .ok () (wset w e.blk ob) ∧ Rep R φ (wset w e.blk ob) id (some (.arr (splice c1 off vs) ver L nv nv et)) := by
  have hlen := hv.length
  have hcov : ∀ x, e.dn ≤ x → x < L → x + e.up - e.dn < cs.size := by
    intro x x1 x2
    have hx : c1[x]? = some c1[x] := List.getElem?_eq_getElem (by omega)
    rw [hcc x x2] at hx
    obtain ⟨a', y1, _⟩ := k5 x _ x1 x2 hx
    rcases Nat.lt_or_ge (x + e.up - e.dn) cs.size with h | h
    · exact h
    · simp [Array.getElem?_eq_none h] at y1
  have hqs : q + vs'.length ≤ cs.size := by
    have := hcov (off + vs.length - 1) (by omega) (by omega); omega
  have hst := run_storeCells_row (P := P) (k := q) vs' 0 cs w hbk (by simpa using hqs) hone (by
    intro y y1 y2 ⟨y3, y4⟩
    simp only [Nat.add_zero] at y1 y2
    omega)
  have hsp : (cs.toList.take (q + 0) ++ vs' ++ cs.toList.drop (q + 0 + vs'.length)) = splice cs.toList q vs' := by simp [splice_eq]
  rw [hsp] at hst
  have hqs' : q + vs'.length ≤ cs.toList.length := by simpa using hqs
  have hoff' : off + vs.length ≤ c1.length := by omega
  refine ⟨_, hst, hR, ?_, hver, Nat.le_refl _, hnv, ?_, ?_, ?_⟩
  · rw [splice_length hoff', hc1]; exact Nat.le_refl _
  · intro v hal
    have hv' : v = ver := hal.resolve_right (by omega)
    subst hv'
    refine ⟨e, _, fl, fh, he, wset_same _ _ _ (heap_lt hbk), ?_, ?_, ?_, k4, ?_⟩
    · have := splice_length hqs'
      simp only [List.size_toArray]
      rw [this]; simpa using k1
    · simpa [limV] using k2
    · rw [splice_length hoff', hc1]; simp [limV]
    · intro x a x1 x2 hx
      have x2 : x < L := by simpa [limV] using x2
      rw [splice_get hoff'] at hx
      have hy : (splice cs.toList q vs').toArray[x + e.up - e.dn]? = (splice cs.toList q vs')[x + e.up - e.dn]? := by simp
      rw [hy, splice_get hqs']
      by_cases c1' : x < off
      · rw [if_pos c1', hcc x x2] at hx
        rw [if_pos (by omega)]
        obtain ⟨a', y1, y2⟩ := k5 x a x1 x2 hx
        exact ⟨a', by simpa using y1, y2⟩
      · rw [if_neg c1'] at hx
        rw [if_neg (by omega)]
        by_cases c2' : x < off + vs.length
        · rw [if_pos c2'] at hx
          rw [if_pos (by omega)]
          obtain ⟨a', y1, y2⟩ := hv.get hx
          exact ⟨a', by rw [show x + e.up - e.dn - q = x - off by omega]; exact y1, y2⟩
        · rw [if_neg c2', hcc x x2] at hx
          rw [if_neg (by omega)]
          obtain ⟨a', y1, y2⟩ := k5 x a x1 x2 hx
          exact ⟨a', by simpa using y1, y2⟩
  · intro v₁ v₂ e₁ e₂ a1 a2 b1 b2 _
    have h1 : v₁ = ver := a1.resolve_right (by omega)
    have h2 : v₂ = ver := a2.resolve_right (by omega)
    subst h1; subst h2
    rw [b1] at b2
    simp only [Option.some.injEq] at b2
    subst b2
    exact ⟨rfl, rfl⟩
  · intro v e' a1 a2 _ _
    omega
theorem write_rep (hi : Inv R C D φ σ w) {id ver off q : Nat} {o o' : Ob} {vs : List AV} {vs' : List Value} {e : Ext} (ho : σ.heap.get id = some o) (hd : D id)
    (h : o.write ver off vs = some o') (hf : vs.all AV.flat = true) (hv : VRL φ vs vs') (he : φ id ver = some e) (h1 : e.dn ≤ off) (h3 : q + e.dn = off + e.up) :
    R ≤ id ∧ ∃ ob, (storeCells ⟨e.blk, q, none⟩ vs').run P w = .ok () (wset w e.blk ob) ∧ Rep R φ (wset w e.blk ob) id (some o') := by
  have hr := hi.at ho hd
  have hlen := hv.length
  have hone : ∀ v ∈ vs', v.oneCell' = true := by
    intro v hm
    obtain ⟨i, hi', rfl⟩ := List.getElem_of_mem hm
    have hlt : i < vs.length := by omega
    obtain ⟨v', y1, y2⟩ := hv.get (List.getElem?_eq_getElem hlt)
    rw [List.getElem?_eq_getElem hi'] at y1
    simp only [Option.some.injEq] at y1
    rw [y1]
    exact y2.oneCell (List.all_eq_true.1 hf _ (List.getElem_mem hlt))
  cases o with
  | box c bt =>
    simp only [Ob.write, cond_eq_ite, Bool.and_eq_true] at h
    split at h
    · rename_i hb
      have hv0 := beq_t hb.1; subst hv0
      have hle := ble_t hb.2
      simp only [Option.some.injEq] at h; subst h
      obtain ⟨hR, e', cs, fl, fh, he', hbk, g1, g2, g3, g4, g5, g6⟩ := hr
      rw [he] at he'; simp only [Option.some.injEq] at he'; subst he'
      have hq : q = off := by omega
      subst hq
      have hcl := g5.length
      have hst := run_storeCells_row (P := P) (k := q) vs' 0 cs w hbk (by simp at hcl; omega) hone (by intro y _ _ ⟨y1, y2⟩; omega)
      refine ⟨hR, _, hst, hR, e, _, fl, fh, he, wset_same _ _ _ (heap_lt hbk), g1, g2, ?_, ?_, ?_, ?_⟩
      · rw [splice_length hle]; exact g3
      · rw [splice_length hle]; exact g4
      · have := g5.splice hv q
        simpa using this
      · rw [splice_length hle]; exact g6
    · cases h
  | arr c base lim since nv et =>
    obtain ⟨hR, g1, g2, g3, g4, g5, g6, g7⟩ := hr
    simp only [Ob.write, cond_eq_ite, Bool.and_eq_true] at h
    split at h
    · rename_i hfn
      have hn := blt_t hfn
      split at h
      · rename_i hbb
        have hbb := beq_t hbb; subst hbb
        split at h
        · rename_i hb
          have hb1 := ble_t hb.1
          have hb2 := ble_t hb.2
          simp only [Option.some.injEq] at h; subst h
          obtain ⟨e', cs, fl, fh, he', hbk, k1, k2, k3, k4, k5⟩ := g5 ver (.inl rfl)
          rw [he] at he'; simp only [Option.some.injEq] at he'; subst he'
          have hL : limV ver lim ver e = lim := by simp [limV]
          rw [hL] at k2 k3 k5
          exact ⟨hR, arr_write hR hv hone he h1 h3 hbk k1 k2 k4 k5 (by simp; omega) (fun x hx => List.getElem?_take_of_lt hx) hn hb1 g2 g4⟩
        · cases h
      · rename_i hbb
        have hbb : ver ≠ base := fun h => hbb (by simp [h])
        split at h
        · rename_i hb
          have hb1 := beq_t hb.1
          have hb2 := ble_t hb.2
          split at h
          · rename_i hb3
            have hb3 := ble_t hb3
            simp only [Option.some.injEq] at h; subst h
            obtain ⟨e', cs, fl, fh, he', hbk, k1, k2, k3, k4, k5⟩ := g5 ver (.inr ⟨hb2, by omega⟩)
            rw [he] at he'; simp only [Option.some.injEq] at he'; subst he'
            have hL : limV base lim ver e = c.length := by simp only [limV, if_neg hbb]; exact g7 ver e hb1 hb2 hbb he
            rw [hL] at k2 k3 k5
            exact ⟨hR, arr_write hR hv hone he h1 h3 hbk k1 k2 k4 k5 rfl (fun _ _ => rfl) hn hb3 (by omega) g4⟩
          · cases h
        · cases h
    · cases h
  | ro c => simp [Ob.write] at h
  | map es k => simp [Ob.write] at h
  | iter s p => simp [Ob.write] at h
  | miter => simp [Ob.write] at h
  | dead => simp [Ob.write] at h
  | dfr => simp [Ob.write] at h
  | loop => simp [Ob.write] at h
  | opq => simp [Ob.write] at h
theorem writeN_run (hi : Inv R C D φ σ w) {id ver off hi' q : Nat} {vs : List AV} {vs' : List Value} {e : Ext} {σ' : St} (h : writeN σ id ver off hi' vs = some σ') (hk : Known D σ σ')
    (hv : VRL φ vs vs') (he : φ id ver = some e) (h1 : e.dn ≤ off) (h3 : q + e.dn = off + e.up) :
    ∃ w', (storeCells ⟨e.blk, q, none⟩ vs').run P w = .ok () w' ∧ Post R D φ σ w σ' φ w' := by
  obtain ⟨ha, hf, o, o', ho, hw, rfl⟩ := writeN_ok h
  have hlt := hi.lt ho
  have hd : D id := hk id (.inr (mem_addL.2 (.inl rfl))) hlt
  obtain ⟨hR, ob, r1, r2⟩ := write_rep (P := P) hi ho hd hw hf hv he h1 h3
  exact ⟨_, r1, .change hi hR hlt he r2⟩
theorem storeA_ok (hi : Inv R C D φ σ w) {t : TypeId} {a v : AV} {a' v' : Value} {σ' : St} (h : storeA P t a v σ = some σ') (ha : VR φ a a') (hv : VR φ v v') (hk : Known D σ σ') :
    ∃ w', (Instr.storeAt t a' v').run P w = .ok () w' ∧ Post R D φ σ w σ' φ w' := by
  unfold storeA at h
  split at h
  · rename_i id ver off top
    cases ha with
    | ptr e q he hd hh ho =>
      split at h
      · rename_i n hn
        simp only [cond_eq_ite] at h
        split at h
        · rename_i hb
          have hb := beq_t hb
          have hvc := hv.cells
          have hl := hvc.length
          have hsz : v'.cells.size = n := by simpa [hb] using hl
          obtain ⟨w', r1, r2⟩ := writeN_run (P := P) hi h hk hvc he hd ho
          exact ⟨w', by simp [Instr.storeAt, Instr.sureAddr, storeVar, run_szOf hn, hsz, r1], r2⟩
        · cases h
      · cases h
  · cases h
end
end Go.Tw
