/-
  A part of the proof that the abstract evaluator is sound for the model's machine. Conditions: those of each theorem, as it states them.
-/
import Derived.Test.YtbbnjiceenjhcaaGreatDoorTwHeap3
set_option linter.all false
namespace Go.Tw
noncomputable section
/-! The same hook, with objects of plain numbers compared and given back by a shorter way. -/
def intEqA (x y : AV) : Bool := match x with
  | .int k n => (match y with
    | .int k' n' => Nat.beq (kindN k) (kindN k') && intB n n'
    | _ => false)
  | _ => false
def isIA (x : AV) : Bool := match x with
  | .int _ _ => true
  | _ => false
def sameIR (c : List AV) : List AV → Bool := List.rec (motive := fun _ => List AV → Bool) (fun l => match l with
  | [] => true
  | _ :: _ => false) (fun x _ ih l => match l with
  | [] => false
  | y :: l' => bif intEqA x y then ih l' else false) c
def allIA (c : List AV) : Bool := List.rec (motive := fun _ => Bool) true (fun x _ ih => bif isIA x then ih else false) c
theorem allIA_cons (x : AV) (c : List AV) : allIA (x :: c) = bif isIA x then allIA c else false := rfl
theorem sameIR_cons (x y : AV) (c l : List AV) : sameIR (x :: c) (y :: l) = bif intEqA x y then sameIR c l else false := rfl
theorem allIA_ok {g : Nat → Nat} : ∀ {c : List AV}, allIA c = true → mpL g c = c
  | [], _ => rfl
  | x :: c, h => by
    rw [allIA_cons, cond_eq_ite] at h
    split at h
    · rename_i hx
      cases x <;> simp [isIA] at hx
      simp only [mpL, AV.mp, allIA_ok h]
    · cases h
theorem sameIR_ok {g : Nat → Nat} : ∀ {c l : List AV}, sameIR c l = true → sameL (mpL g c) l = true
  | [], [], _ => rfl
  | [], _ :: _, h => by cases h
  | _ :: _, [], h => by cases h
  | x :: c, y :: l, h => by
    rw [sameIR_cons, cond_eq_ite] at h
    split at h
    · rename_i hx
      unfold intEqA at hx
      split at hx
      · split at hx
        · simp only [mpL, AV.mp, sameL, AV.same, hx, sameIR_ok h, Bool.and_self]
        · cases hx
      · cases hx
    · cases h
def mpQ (g : Nat → Nat) (o : Ob) : Ob := match o with
  | .box c t => bif allIA c then .box c t else .box (mpL g c) t
  | o => o.mp g
theorem mpQ_eq (g : Nat → Nat) (o : Ob) : mpQ g o = o.mp g := by
  unfold mpQ
  split
  · rw [cond_eq_ite]
    split
    · rename_i h
      simp only [Ob.mp, allIA_ok h]
    · rfl
  · rfl
def sameQ (g : Nat → Nat) (o o' : Ob) : Bool := match o with
  | .box c t => (match o' with
    | .box c' t' => bif sameIR c c' then Nat.beq t t' else (Ob.box c t).mp g |>.same (.box c' t')
    | o' => (Ob.box c t).mp g |>.same o')
  | o => (o.mp g).same o'
theorem sameQ_eq (g : Nat → Nat) (o o' : Ob) : sameQ g o o' = (o.mp g).same o' := by
  unfold sameQ
  split
  · split
    · rw [cond_eq_ite]
      split
      · rename_i h
        simp only [Ob.mp, Ob.same, sameIR_ok h, Bool.true_and]
      · rfl
    · rfl
  · rfl
def matchAllQ (g : Nat → Nat) (h : T Ob) : List (Nat × Ob) → Bool
  | [] => true
  | (i, o) :: l => (match h.get (g i) with
    | some o' => sameQ g o o'
    | none => false) && matchAllQ g h l
def putPQ (g : Nat → Nat) : List (Nat × Ob) → T Ob → T Ob
  | [], h => h
  | (k, o) :: l, h => putPQ g l (h.set (g k) (mpQ g o))
theorem matchAllQ_eq (g : Nat → Nat) (h : T Ob) : ∀ l, matchAllQ g h l = matchAll g h l
  | [] => rfl
  | (i, o) :: l => by
    simp only [matchAllQ, matchAll, sameQ_eq, matchAllQ_eq g h l]
    cases h.get (g i) <;> rfl
theorem putPQ_eq (g : Nat → Nat) : ∀ (l : List (Nat × Ob)) (h : T Ob), putPQ g l h = putP g l h
  | [], _ => rfl
  | (k, o) :: l, h => by
    simp only [putPQ, putP, mpQ_eq, putPQ_eq g l]
def HMemo.retQ (R : Nat) (m : HMemo) (args : List AV) (σ : St) : CR :=
  bif Nat.ble R σ.next && quick R args σ.heap m.locs m.ins then
    match bindAll args σ.heap m.locs R .leaf with
    | none => .no
    | some b =>
      bif apartF R σ.next (pmF R m.k σ.next b) (m.k - R) R .leaf && (sameL (mpL (pmF R m.k σ.next b) m.args) args && matchAllQ (pmF R m.k σ.next b) σ.heap m.ins) then
        .ret (m.v.mp (pmF R m.k σ.next b)) { heap := putPQ (pmF R m.k σ.next b) m.outs σ.heap, next := m.n - m.k + σ.next, rd := addAll (pmF R m.k σ.next b) (fstO m.ins) σ.rd, wr := addAll (pmF R m.k σ.next b) m.wr σ.wr }
      else .no
  else .no
theorem HMemo.retQ_eq (R : Nat) (m : HMemo) (args : List AV) (σ : St) : m.retQ R args σ = m.ret R args σ := by
  unfold HMemo.retQ HMemo.ret
  simp only [matchAllQ_eq, putPQ_eq]
  cases Nat.ble R σ.next && quick R args σ.heap m.locs m.ins with
  | false => rfl
  | true =>
    simp only [cond_true]
    cases bindAll args σ.heap m.locs R .leaf <;> rfl
def keyHkQ (R cell : Nat) (t : T HMemo) (rest : FuncId → List AV → St → CR) (f : FuncId) (args : List AV) (σ : St) : CR :=
  match keyOf cell args σ with
  | some n => match t.get n with
    | some m => bif Nat.beq m.f f then (match m.retQ R args σ with
      | .no => rest f args σ
      | r => r) else rest f args σ
    | none => rest f args σ
  | none => rest f args σ
theorem keyHkQ_eq {R cell : Nat} {t : T HMemo} {rest : FuncId → List AV → St → CR} : keyHkQ R cell t rest = keyHk R cell t rest := by
  funext f args σ
  unfold keyHkQ keyHk
  simp only [HMemo.retQ_eq]
  cases keyOf cell args σ with
  | none => rfl
  | some n =>
    simp only
    cases t.get n with
    | none => rfl
    | some m =>
      simp only
      cases Nat.beq m.f f with
      | false => rfl
      | true =>
        simp only [cond_true]
        cases m.ret R args σ <;> rfl
section
variable [Val] {P : Program} {R : Nat}
theorem memo_keyQ {l : Tabs} {ms : List Memo} {hs : List HMemo} (hms : ∀ m ∈ ms, m.Sound P R (tabCfg l)) (hhs : ∀ m ∈ hs, m.Sound P R (tabCfg l)) {ks : List (Nat × HMemo)} (hks : ∀ q ∈ ks, q.2.Sound P R (tabCfg l)) {m : Memo} {n cell : Nat} (hm : P.follows .mixedOrders = true) (hlt : tabLt R l = true)
    (hok : m.ok P { tabCfg l with hk := keyHkQ R cell (keyT ks) (bothHk R (tabM ms) (tabH hs)) } n R (tabSt R l) = true) : m.Sound P R (tabCfg l) := by
  rw [keyHkQ_eq] at hok
  exact memo_key hms hhs hks hm hlt hok
end
end
end Go.Tw
