/-
  Plain laws of counting and of last places in a text. Conditions: those of each theorem.
-/
import Derived.Test.YtnkpdmdifepaaaaGreatDoorTwLoop
namespace Go.Tw
theorem bytes_loop {β : Type} (s : List UInt8) (f : β → UInt8 → β) (h : s.length ≤ (⟨⟨s⟩⟩ : ByteArray).size) : ∀ (i j : Nat) (b : β), i + j = s.length →
    ByteArray.foldlM.loop (m := _root_.Id) (fun b x => pure (f b x)) (⟨⟨s⟩⟩ : ByteArray) s.length h i j b = pure ((s.drop j).foldl f b) := by
  intro i
  induction i with
  | zero =>
    intro j b hij
    unfold ByteArray.foldlM.loop
    have : ¬ j < s.length := by omega
    have hd : s.drop j = [] := List.drop_eq_nil_of_le (by omega)
    simp [this, hd]
  | succ i ih =>
    intro j b hij
    unfold ByteArray.foldlM.loop
    have hj : j < s.length := by omega
    have hd : s.drop j = s[j] :: s.drop (j + 1) := List.drop_eq_getElem_cons hj
    rw [dif_pos hj, hd]
    simp only [List.foldl_cons]
    show ByteArray.foldlM.loop (m := _root_.Id) (fun b x => pure (f b x)) (⟨⟨s⟩⟩ : ByteArray) s.length h i (j + 1) (f b _) = _
    rw [ih (j + 1) _ (by omega)]
    rfl
theorem bytes_foldl {β : Type} (s : List UInt8) (f : β → UInt8 → β) (b : β) : (⟨⟨s⟩⟩ : ByteArray).foldl f b = s.foldl f b := by
  unfold ByteArray.foldl ByteArray.foldlM
  have hsz : (⟨⟨s⟩⟩ : ByteArray).size = s.length := rfl
  simp only [hsz, Nat.le_refl, dif_pos, Nat.sub_zero]
  rw [bytes_loop s f (Nat.le_refl _) s.length 0 b (by omega)]
  rfl

/-- How often a byte is among the first. -/
def countT (s : List UInt8) : Nat → Int
  | 0 => 0
  | k + 1 => countT s k + (if s[k]? = some 10 then 1 else 0)
/-- Where it is last among the first; -1: nowhere. -/
def lastT (s : List UInt8) : Nat → Int
  | 0 => -1
  | k + 1 => if s[k]? = some 10 then (k : Int) else lastT s k

theorem countA_take (s : List UInt8) : ∀ k, k ≤ s.length → countA (s.take k) 10 = countT s k := by
  intro k
  induction k with
  | zero => intro _; simp [countA, bytes_foldl, countT]
  | succ k ih =>
    intro hk
    have hlt : k < s.length := by omega
    have ht : s.take (k + 1) = s.take k ++ [s[k]] := by rw [List.take_succ_eq_append_getElem hlt]
    have h1 := ih (by omega)
    simp only [countA, bytes_foldl] at h1 ⊢
    rw [ht, List.foldl_append, h1]
    have hg : s[k]? = some s[k] := List.getElem?_eq_getElem hlt
    simp only [countT, hg, Option.some.injEq, List.foldl_cons, List.foldl_nil]
    by_cases hc : s[k] = 10
    · simp [hc]
    · have : (s[k] == 10) = false := by simpa using hc
      simp [this, hc]
theorem lastT_take (s : List UInt8) : ∀ k n, k ≤ n → n ≤ s.length → lastT (s.take n) k = lastT s k := by
  intro k
  induction k with
  | zero => intro n _ _; rfl
  | succ k ih =>
    intro n h1 h2
    have hg : (s.take n)[k]? = s[k]? := by rw [List.getElem?_take]; simp; omega
    simp only [lastT, hg]
    rw [ih n (by omega) h2]
theorem lastT_ge (s : List UInt8) : ∀ k, -1 ≤ lastT s k ∧ lastT s k < k := by
  intro k
  induction k with
  | zero => simp [lastT]
  | succ k ih => simp only [lastT]; split <;> omega
theorem countT_ge (s : List UInt8) : ∀ k, 0 ≤ countT s k ∧ countT s k ≤ k := by
  intro k
  induction k with
  | zero => simp [countT]
  | succ k ih => simp only [countT]; split <;> omega
end Go.Tw
