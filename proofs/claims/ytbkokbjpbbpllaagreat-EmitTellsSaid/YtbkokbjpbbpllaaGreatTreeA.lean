/-
  A part of the law's proof over the abstract evaluator. Conditions: those of each theorem, as it states them.
-/
import Derived.Test.YtbkokbjpbbpllaaGreatLayC
import Derived.Test.YtbkokbjpbbpllaaGreatLayD
import Derived.Test.YtbkokbjpbbpllaaGreatTwTree
/-! The templates: the program's and the document's tell the same, by trees. -/
namespace Go.Proofs.YtbkokbjpbbpllaaGreat
open Go.Tw
noncomputable section
def c6 : Code := match Tryz.f6.body with
  | some c => c
  | none => .skip
def c7 : Code := match Tryz.f7.body with
  | some c => c
  | none => .skip
def consT : List Con := [con63 [], con55 [], conA 30, conU 31, conA 79, conU 80]
def pkT : Sx := .pr 12 (D 0) (.pr 12 (D 1) (.pr 12 (D 2) (.pr 12 (D 3) (.pr 12 (D 4) (.pr 12 (D 5) (.pr 12 (D 6) (.pr 12 (D 7) (.pr 12 (D 8) (.pr 14 (.lit 0) (.lit 0))))))))))
def r8 : Sx := .ap 8 pkT (.lit 0) (.lit 0)
def r9 : Sx := .ap 9 pkT (.lit 0) (.lit 0)
def r10 : Sx := .ap 10 pkT (.lit 0) (.lit 0)
def tgT : List Sx := [r10, N r8, r9, r10]
def AT (op n : AV) : List (Nat × AV) := [(3, SI 8), (2, SI 7), (1, SI 6), (0, .agg [op, SI 1, SI 2, SI 3, n, LI (D 5)])]
def okD : List Nat → DT
  | [] => .leaf
  | k :: ks => .ask (eq (.ap 5 (I k) (N (D 8)) (I 0)) (I 0)) (okD ks) (.dead k)
def isOk : List Sx → Bool
  | _ :: .lit (.ofNat 0) :: _ => true
  | _ => false
def toD (ks : List Nat) (cn : Nat) : ST → DT
  | .leaf l => bif isOk l then okD ks else .leaf
  | .ask b t e => .ask b (toD ks cn t) (toD ks cn e)
  | .none => .dead cn
def core5 (k : Nat) : Dcs := [(lt (D 8) (I 0), false), (lt (D 8) (I 4096), true), (eq (.ap 5 (I k) (N (D 8)) (I 0)) (I 0), false)]
def coresT : List Dcs := [core5 0, core5 1, core5 2, core5 3, core5 4, core5 5, core5 6, core5 7, [(lt (D 0) (I 0), false), (lt (D 0) (I 33), true)], [(lt (D 4) (I 1), false), (lt (D 4) (I 8), true)], [(lt (D 4) (I 1), false), (lt (D 4) (I 9), true)]]
def runT (c : Code) (nt : Nat) (op n : AV) (p : Dcs) : XR := exec P (cfgP gl0 b0 p (conHk R0 (decP p) consT)) 1000 nt c { tm := envL (AT op n), ds := [], md := none, rd := false } (toldSt b0 [] R0)
def chk (c : Code) (nt : Nat) (t1 t2 : Nat) (op n : AV) (ks : List Nat) (cn : Nat) (sp : ST) (p : Dcs) : Bool :=
  (toD ks cn sp).chk (cmpX 2 3) (fun p => treeLeaf R0 0 0 (runT c nt op n p) .ret [(t1, LV 0 r10), (t2, .sym .i64 r8)] [(1024, LO r9 r10)] 1025) sp tgT coresT p
end
end Go.Proofs.YtbkokbjpbbpllaaGreat
/-! The templates' contracts, from their trees. -/
namespace Go.Proofs.YtbkokbjpbbpllaaGreat
open Go.Tw
noncomputable section
def RT : List (Nat × AV) := [(8, LV 0 r10), (9, .sym .i64 r8)]
def OT : List (Nat × Ob) := [(1024, LO r9 r10)]
theorem spT_eq : spT.eqAt 0 3 = true := by kernel_rfl
theorem F2_l (a b c : Dat) : F0 2 a b c = .lst (F0 2 a b c).toL := rfl
theorem F3_l (a b c : Dat) : F0 3 a b c = .lst (c.toL ++ (F0 2 a b (.int 0)).toL) := rfl
theorem F2_n (a b c : Dat) : (F0 2 a b c).toL.length ≤ 8 := layI_len _ _
def factB (b : Bx) (y : Bool) : Bool := match b with
  | .cmp .lss (.pr 7 x _) (.lit (.ofNat n)) => match lenMax 2 3 8 x with
    | some m => Nat.blt m n && y
    | none => false
  | .cmp .lss (.pr 30 (.ap 4 _ _ _) _) (.lit n) => (intB n 0 && !y) || (intB n 2147483648 && y)
  | _ => false
def factOk (q : Bx × Bool) : Bool := factB q.1 q.2
theorem addrS_b (k b : Int) : 0 ≤ addrS k b ∧ addrS k b < 2147483648 := by
  unfold addrS
  split <;> omega
theorem okD_in {q : Nat → Prop} : ∀ {ks : List Nat}, (∀ k ∈ ks, q k) → (okD ks).deadsIn q
  | [], _ => trivial
  | k :: ks, h => ⟨okD_in fun j hj => h j (by simp [hj]), h k (by simp)⟩
theorem toD_in {q : Nat → Prop} {ks : List Nat} {cn : Nat} (hk : ∀ k ∈ ks, q k) (hc : q cn) : ∀ {sp : ST}, (toD ks cn sp).deadsIn q
  | .leaf l => by
    simp only [toD]
    cases isOk l
    · trivial
    · exact okD_in hk
  | .ask b t e => ⟨toD_in hk hc, toD_in hk hc⟩
  | .none => hc
section
variable {v : Val} (hF : v.fn = F0)
include hF
theorem core5_no (k : Nat) (hk : k < 8) : ¬ @Holds v (core5 k) := fun h => by
  obtain ⟨f0, h⟩ := hget h; obtain ⟨f1, h⟩ := hget h; obtain ⟨f2, h⟩ := hget h
  have g0 : ¬ @Sx.eval v (D 8) < 0 := by have := ltF f0; exact Int.not_lt.2 this
  have g1 : @Sx.eval v (D 8) < 4096 := ltT f1
  have g2 : ¬ @Sx.eval v (.ap 5 (I k) (N (D 8)) (I 0)) = 0 := eqF f2
  refine g2 ?_
  show (v.fn 5 _ _ _).toI = 0
  rw [hF]
  show addrE (k : Int) (@Sx.eval v (D 8)) = 0
  unfold addrE
  rw [if_pos (by omega)]
theorem factOk_ok {q : Bx × Bool} (h : factOk q = true) : @Bx.eval v q.1 = q.2 := by
  obtain ⟨b, x⟩ := q
  unfold factOk factB at h
  dsimp only at h ⊢
  split at h
  · rename_i X _ n
    split at h
    · rename_i m hm
      have := lenMax_ok (v := v) (fa := 2) (fb := 3) (n := 8) (by rw [hF]; exact F3_l) (by rw [hF]; exact F2_n) hm
      simp only [Bool.and_eq_true] at h
      have h1 := blt_t h.1
      have hx : x = true := h.2
      subst hx
      show decide (((@Sx.dat v X).toL.length : Int) < (Int.ofNat n)) = true
      refine decide_eq_true ?_
      have : ((@Sx.dat v X).toL.length : Int) < (n : Int) := by omega
      exact this
    · cases h
  · rename_i a1 a2 a3 a4 n
    have hb := addrS_b (@Sx.dat v a1).toI (@Sx.dat v a2).toI
    have e : @Sx.eval v (.pr 30 (.ap 4 a1 a2 a3) a4) = addrS (@Sx.dat v a1).toI (@Sx.dat v a2).toI := by
      show (v.fn 4 _ _ _).toI = _
      rw [hF]; rfl
    simp only [Bool.or_eq_true, Bool.and_eq_true] at h
    rcases h with ⟨h1, h2⟩ | ⟨h1, h2⟩
    · have := intB_t h1; subst this
      have hx : x = false := by simpa using h2
      subst hx
      show decide (@Sx.eval v (.pr 30 (.ap 4 a1 a2 a3) a4) < 0) = false
      rw [e]; exact decide_eq_false (by omega)
    · have := intB_t h1; subst this
      have hx : x = true := h2
      subst hx
      show decide (@Sx.eval v (.pr 30 (.ap 4 a1 a2 a3) a4) < 2147483648) = true
      rw [e]; exact decide_eq_true (by omega)
  · cases h
theorem spT_at (i : Nat) : spT.val (VB [v.dat 0, v.dat 1, v.dat 2, v.dat 3, v.dat 4, v.dat 5, v.dat 6, v.dat 7, v.dat 8]) i = spT.val v i := by
  refine ST.okB_val (nv := 9) (nf := 8) (fun j hj => ?_) (fun f hf => ?_) i spT_ok
  · match j, hj with
    | 0, _ => rfl
    | 1, _ => rfl
    | 2, _ => rfl
    | 3, _ => rfl
    | 4, _ => rfl
    | 5, _ => rfl
    | 6, _ => rfl
    | 7, _ => rfl
    | 8, _ => rfl
  · rw [hF]; exact (F0_b hf).symm
theorem tgT_ok (i : Nat) (t : Sx) (h : tgT[i]? = some t) : @Sx.dat v t = spT.val v i := by
  have e8 : @Sx.dat v r8 = spT.val v 1 := by
    show v.fn 8 _ _ _ = _
    rw [hF]; exact spT_at hF 1
  have e9 : @Sx.dat v r9 = spT.val v 2 := by
    show v.fn 9 _ _ _ = _
    rw [hF]; exact spT_at hF 2
  have e10 : @Sx.dat v r10 = spT.val v 0 := by
    show v.fn 10 _ _ _ = _
    rw [hF]; exact spT_at hF 0
  match i, h with
  | 0, h => simp [tgT] at h; subst h; exact e10
  | 1, h =>
    simp [tgT] at h; subst h
    show Dat.int (@Sx.dat v r8).toI = _
    rw [e8]; exact (ST.intAt_ok spT_int).symm
  | 2, h => simp [tgT] at h; subst h; exact e9
  | 3, h => simp [tgT] at h; subst h; exact e10.trans (ST.eqAt_ok spT_eq)
  | i + 4, h => simp [tgT] at h
theorem factsT {p : Dcs} (h : p.all factOk = true) : @Holds v p := fun c hc => factOk_ok hF (List.all_eq_true.1 h c hc)
theorem tree_case {c : Code} {nt : Nat} {op n : AV} {ks : List Nat} {cn : Nat} {sp : ST} {p : Dcs} (h : chk c nt 8 9 op n ks cn sp p = true) (hks : ∀ k ∈ ks, k < 8) (hcn : ∀ c, coresT[cn]? = some c → ¬ @Holds v c) (hp : @Holds v p)
    (hs : ∀ i, spT.val v i = sp.val v i) : HR 0 0 nt v c (envL (AT op n)) (toldSt b0 [] R0) .ret v (envL RT) (toldSt b0 OT 1025) := by
  refine DT.ok2 (F := F0) base0 (Nat.le_refl 0) hF (cons := consT) ?_ follows (cmpX_ok (fa := 2) (fb := 3) ?_ ?_) (fun i t ht => (tgT_ok hF i t ht).trans (hs i)) (toD_in (fun k hk => ?_) hcn) h hp
  · intro c hc
    simp only [consT, List.mem_cons, List.not_mem_nil, or_false] at hc
    rcases hc with rfl | rfl | rfl | rfl | rfl | rfl
    · exact con63_ok
    · exact con55_ok
    · exact con30_ok
    · exact con31_ok
    · exact con79_ok
    · exact con80_ok
  · rw [hF]; exact F2_l
  · rw [hF]; exact F3_l
  · intro c hc
    have hk8 := hks k hk
    have : c = core5 k := by
      match k, hk8 with
      | 0, _ => simp [coresT] at hc; exact hc.symm
      | 1, _ => simp [coresT] at hc; exact hc.symm
      | 2, _ => simp [coresT] at hc; exact hc.symm
      | 3, _ => simp [coresT] at hc; exact hc.symm
      | 4, _ => simp [coresT] at hc; exact hc.symm
      | 5, _ => simp [coresT] at hc; exact hc.symm
      | 6, _ => simp [coresT] at hc; exact hc.symm
      | 7, _ => simp [coresT] at hc; exact hc.symm
    subst this
    exact core5_no hF k hk8
end
end
end Go.Proofs.YtbkokbjpbbpllaaGreat
