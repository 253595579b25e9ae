/-
  Paths of decisions of what a word is, and of the sign with which a text begins. No condition.
-/
import Derived.Test.YtnkpdmdifepaaaaGreatDoorLexB
import Derived.Test.YtnkpdmdifepaaaaGreatDoorCalls0
namespace Go.Proofs.YtnkpdmdifepaaaaGreatDoor
open Go.Tw
noncomputable section
def S1 : Sx := .dvar 1
def keyL : List (List UInt8) := [[105, 110, 116], [99, 104, 97, 114], [115, 104, 111, 114, 116], [108, 111, 110, 103], [117, 110, 115, 105, 103, 110, 101, 100], [115, 105, 103, 110, 101, 100], [118, 111, 105, 100], [115, 116, 114, 117, 99, 116], [105, 102], [101, 108, 115, 101], [119, 104, 105, 108, 101], [102, 111, 114], [100, 111], [114, 101, 116, 117, 114, 110], [98, 114, 101, 97, 107], [99, 111, 110, 116, 105, 110, 117, 101], [115, 105, 122, 101, 111, 102], [103, 111, 116, 111], [115, 119, 105, 116, 99, 104], [99, 97, 115, 101], [100, 101, 102, 97, 117, 108, 116]]
def signL : List (List UInt8) := [[60, 60, 61], [62, 62, 61], [45, 62], [43, 43], [45, 45], [60, 61], [62, 61], [61, 61], [33, 61], [38, 38], [124, 124], [60, 60], [62, 62], [43, 61], [45, 61], [42, 61], [47, 61], [37, 61], [38, 61], [124, 61], [94, 61], [40], [41], [123], [125], [91], [93], [59], [44], [46], [45], [43], [42], [47], [37], [38], [124], [94], [126], [33], [60], [62], [61], [63], [58]]
/-- No key ahead of a place, and that at it. -/
def keyNot : List (List UInt8) → Dcs
  | [] => []
  | x :: l => (.seq (.slit x) S1, false) :: (.seq S1 (.slit x), false) :: keyNot l
def keyPath (i : Nat) : Dcs := (match keyL[i]? with
  | some x => [(.seq (.slit x) S1, true), (.seq S1 (.slit x), true)]
  | none => []) ++ keyNot (keyL.take i)
def signC (x : List UInt8) : Bx := .seq (.pr 3 (.pr 2 S1 (.lit x.length)) (.lit 0)) (.slit x)
def signNot (c : Nat) : List (List UInt8) → Dcs
  | [] => []
  | x :: l => bif Nat.ble x.length c then (signC x, false) :: signNot c l else signNot c l
def lenPath (c : Nat) : Dcs := [(.cmp .lss (sLen S1) (.lit 1), Nat.blt c 1), (.cmp .lss (sLen S1) (.lit 2), Nat.blt c 2), (.cmp .lss (sLen S1) (.lit 3), Nat.blt c 3)]
def signPath (c i : Nat) : Dcs := (match signL[i]? with
  | some x => [(signC x, true)]
  | none => []) ++ (signNot c (signL.take i) ++ lenPath c)
def signV (c i : Nat) : Bool := match signL[i]? with
  | some x => Nat.ble x.length c
  | none => true
def signR (i : Nat) : Nat := match signL[i]? with
  | some x => x.length
  | none => 0
/-- The run of a keyword's test along a path tells what it should. -/
def keyOk (f i : Nat) : Bool :=
  match callN P { tabPath tabs (keyPath i) with hk := memoHk 12 (tabM c2) } 100000 f [.vstr S1] (tabSt 12 tabs) with
  | .ret v _ => v.same (.bool (Nat.blt i 21))
  | _ => false
/-- The run of a sign's length along a path. -/
def signOk (f c i : Nat) : Bool := bif signV c i then
  (match callN P { tabPath tabs (signPath c i) with hk := memoHk 12 (tabM c2) } 100000 f [.vstr S1] (tabSt 12 tabs) with
  | .ret v _ => v.same (.int .i64 (signR i))
  | _ => false)
  else true
end
end Go.Proofs.YtnkpdmdifepaaaaGreatDoor
