/-
  The trees of EmitLays's paths: each group's numbers go along one of them, and the law is true along each pair. Condition: numbers of 64 bits.
-/
import Derived.Test.YtfifebennpenkaaEnt0
import Derived.Test.YtfifebennpenkaaEnt1
import Derived.Test.YtfifebennpenkaaEnt2
import Derived.Test.YtfifebennpenkaaEnt3
import Derived.Test.YtfifebennpenkaaEnt4
import Derived.Test.YtfifebennpenkaaEnt5
import Derived.Test.YtfifebennpenkaaEnt6
import Derived.Test.YtfifebennpenkaaEnt7
import Derived.Test.YtfifebennpenkaaEnt8
import Derived.Test.YtfifebennpenkaaCores
namespace Go.Proofs.Ytfifebennpenkaa
open Go.Tw Go.ChangeShapes Go.RowKit
def EC : List (List Entry) := [C0, C1, C2, C3, C4, C5, C6, C7, C8, C9, C10, C11, C12, C13, C14, C15, C16, C17, C18, C19, C20, C21, C22, C23, C24, C25, C26, C27, C28, C29, C30, C31, C32]
theorem all_good : ∀ c ∈ EC, Good c := by
  intro c hc
  simp only [EC, List.mem_cons, List.not_mem_nil, or_false] at hc
  rcases hc with rfl | rfl | rfl | rfl | rfl | rfl | rfl | rfl | rfl | rfl | rfl | rfl | rfl | rfl | rfl | rfl | rfl | rfl | rfl | rfl | rfl | rfl | rfl | rfl | rfl | rfl | rfl | rfl | rfl | rfl | rfl | rfl | rfl
  · exact C0_good
  · exact C1_good
  · exact C2_good
  · exact C3_good
  · exact C4_good
  · exact C5_good
  · exact C6_good
  · exact C7_good
  · exact C8_good
  · exact C9_good
  · exact C10_good
  · exact C11_good
  · exact C12_good
  · exact C13_good
  · exact C14_good
  · exact C15_good
  · exact C16_good
  · exact C17_good
  · exact C18_good
  · exact C19_good
  · exact C20_good
  · exact C21_good
  · exact C22_good
  · exact C23_good
  · exact C24_good
  · exact C25_good
  · exact C26_good
  · exact C27_good
  · exact C28_good
  · exact C29_good
  · exact C30_good
  · exact C31_good
  · exact C32_good
def Some0 [Val] : Prop := ∃ c, c ∈ EC ∧ ∃ e, e ∈ c ∧ Holds e.1
def EE : List (List Entry) := [E2]
def Some1 [Val] : Prop := ∃ c, c ∈ EE ∧ ∃ e, e ∈ c ∧ Holds e.1
def Goal [Val] : Prop := ∀ W : World, Calls Try.prog 3 #[.int .i64 (Val.num 0), .int .i64 (Val.num 1), .int .i64 (Val.num 2), .int .i64 (Val.num 3)] W fun e W' => e = .returned (.bool true) ∧ Below W.heap.size W W'
theorem n1 [Val] (R : In64) (h : Holds q0) : Some0 := by
  have _ := R 0
  exact ⟨_, List.mem_of_getElem? (i := 0) rfl, _, List.mem_of_getElem? (i := 0) rfl, h⟩
theorem n15 [Val] (R : In64) (h : Holds q20) : Some0 := by
  have _ := R 0
  exact ⟨_, List.mem_of_getElem? (i := 0) rfl, _, List.mem_of_getElem? (i := 1) rfl, h⟩
theorem n16 [Val] (R : In64) (h : Holds q21) : Some0 := by
  have _ := R 0
  exact ⟨_, List.mem_of_getElem? (i := 0) rfl, _, List.mem_of_getElem? (i := 2) rfl, h⟩
theorem n14 [Val] (R : In64) (h : Holds q19) : Some0 := by
  cases hb : Bx.eval b19 with
  | true => exact n15 R (h.cons hb)
  | false => exact n16 R (h.cons hb)
theorem n18 [Val] (R : In64) (h : Holds q23) : Some0 := by
  have _ := R 0
  exact ⟨_, List.mem_of_getElem? (i := 0) rfl, _, List.mem_of_getElem? (i := 3) rfl, h⟩
theorem n19 [Val] (R : In64) (h : Holds q24) : Some0 := by
  have _ := R 0
  exact ⟨_, List.mem_of_getElem? (i := 0) rfl, _, List.mem_of_getElem? (i := 4) rfl, h⟩
theorem n17 [Val] (R : In64) (h : Holds q22) : Some0 := by
  cases hb : Bx.eval b19 with
  | true => exact n18 R (h.cons hb)
  | false => exact n19 R (h.cons hb)
theorem n13 [Val] (R : In64) (h : Holds q18) : Some0 := by
  cases hb : Bx.eval b18 with
  | true => exact n14 R (h.cons hb)
  | false => exact n17 R (h.cons hb)
theorem n22 [Val] (R : In64) (h : Holds q27) : Some0 := by
  have _ := R 0
  exact ⟨_, List.mem_of_getElem? (i := 0) rfl, _, List.mem_of_getElem? (i := 5) rfl, h⟩
theorem n23 [Val] (R : In64) (h : Holds q28) : Some0 := by
  have _ := R 0
  exact ⟨_, List.mem_of_getElem? (i := 0) rfl, _, List.mem_of_getElem? (i := 6) rfl, h⟩
theorem n21 [Val] (R : In64) (h : Holds q26) : Some0 := by
  cases hb : Bx.eval b19 with
  | true => exact n22 R (h.cons hb)
  | false => exact n23 R (h.cons hb)
theorem n25 [Val] (R : In64) (h : Holds q30) : Some0 := by
  have _ := R 0
  exact ⟨_, List.mem_of_getElem? (i := 0) rfl, _, List.mem_of_getElem? (i := 7) rfl, h⟩
theorem n26 [Val] (R : In64) (h : Holds q31) : Some0 := by
  have _ := R 0
  exact ⟨_, List.mem_of_getElem? (i := 1) rfl, _, List.mem_of_getElem? (i := 0) rfl, h⟩
theorem n24 [Val] (R : In64) (h : Holds q29) : Some0 := by
  cases hb : Bx.eval b19 with
  | true => exact n25 R (h.cons hb)
  | false => exact n26 R (h.cons hb)
theorem n20 [Val] (R : In64) (h : Holds q25) : Some0 := by
  cases hb : Bx.eval b18 with
  | true => exact n21 R (h.cons hb)
  | false => exact n24 R (h.cons hb)
theorem n12 [Val] (R : In64) (h : Holds q17) : Some0 := by
  cases hb : Bx.eval b17 with
  | true => exact n13 R (h.cons hb)
  | false => exact n20 R (h.cons hb)
theorem n30 [Val] (R : In64) (h : Holds q35) : Some0 := by
  have _ := R 0
  exact ⟨_, List.mem_of_getElem? (i := 1) rfl, _, List.mem_of_getElem? (i := 1) rfl, h⟩
theorem n31 [Val] (R : In64) (h : Holds q36) : Some0 := by
  have _ := R 0
  exact ⟨_, List.mem_of_getElem? (i := 1) rfl, _, List.mem_of_getElem? (i := 2) rfl, h⟩
theorem n29 [Val] (R : In64) (h : Holds q34) : Some0 := by
  cases hb : Bx.eval b19 with
  | true => exact n30 R (h.cons hb)
  | false => exact n31 R (h.cons hb)
theorem n33 [Val] (R : In64) (h : Holds q38) : Some0 := by
  have _ := R 0
  exact ⟨_, List.mem_of_getElem? (i := 1) rfl, _, List.mem_of_getElem? (i := 3) rfl, h⟩
theorem n34 [Val] (R : In64) (h : Holds q39) : Some0 := by
  have _ := R 0
  exact ⟨_, List.mem_of_getElem? (i := 1) rfl, _, List.mem_of_getElem? (i := 4) rfl, h⟩
theorem n32 [Val] (R : In64) (h : Holds q37) : Some0 := by
  cases hb : Bx.eval b19 with
  | true => exact n33 R (h.cons hb)
  | false => exact n34 R (h.cons hb)
theorem n28 [Val] (R : In64) (h : Holds q33) : Some0 := by
  cases hb : Bx.eval b18 with
  | true => exact n29 R (h.cons hb)
  | false => exact n32 R (h.cons hb)
theorem n37 [Val] (R : In64) (h : Holds q42) : Some0 := by
  have _ := R 0
  exact ⟨_, List.mem_of_getElem? (i := 1) rfl, _, List.mem_of_getElem? (i := 5) rfl, h⟩
theorem n38 [Val] (R : In64) (h : Holds q43) : Some0 := by
  have _ := R 0
  exact ⟨_, List.mem_of_getElem? (i := 1) rfl, _, List.mem_of_getElem? (i := 6) rfl, h⟩
theorem n36 [Val] (R : In64) (h : Holds q41) : Some0 := by
  cases hb : Bx.eval b19 with
  | true => exact n37 R (h.cons hb)
  | false => exact n38 R (h.cons hb)
theorem n40 [Val] (R : In64) (h : Holds q45) : Some0 := by
  have _ := R 0
  exact ⟨_, List.mem_of_getElem? (i := 1) rfl, _, List.mem_of_getElem? (i := 7) rfl, h⟩
theorem n41 [Val] (R : In64) (h : Holds q46) : Some0 := by
  have _ := R 0
  exact ⟨_, List.mem_of_getElem? (i := 2) rfl, _, List.mem_of_getElem? (i := 0) rfl, h⟩
theorem n39 [Val] (R : In64) (h : Holds q44) : Some0 := by
  cases hb : Bx.eval b19 with
  | true => exact n40 R (h.cons hb)
  | false => exact n41 R (h.cons hb)
theorem n35 [Val] (R : In64) (h : Holds q40) : Some0 := by
  cases hb : Bx.eval b18 with
  | true => exact n36 R (h.cons hb)
  | false => exact n39 R (h.cons hb)
theorem n27 [Val] (R : In64) (h : Holds q32) : Some0 := by
  cases hb : Bx.eval b17 with
  | true => exact n28 R (h.cons hb)
  | false => exact n35 R (h.cons hb)
theorem n11 [Val] (R : In64) (h : Holds q13) : Some0 := by
  have h : Holds q14 := h.cons (c3 R)
  have h : Holds q15 := h.cons (c4 R)
  have h : Holds q16 := h.cons (c5 R)
  cases hb : Bx.eval b16 with
  | true => exact n12 R (h.cons hb)
  | false => exact n27 R (h.cons hb)
theorem n45 [Val] (R : In64) (h : Holds q54) : Some0 := by
  have _ := R 0
  exact ⟨_, List.mem_of_getElem? (i := 2) rfl, _, List.mem_of_getElem? (i := 1) rfl, h⟩
theorem n46 [Val] (R : In64) (h : Holds q55) : Some0 := by
  have _ := R 0
  exact ⟨_, List.mem_of_getElem? (i := 2) rfl, _, List.mem_of_getElem? (i := 2) rfl, h⟩
theorem n44 [Val] (R : In64) (h : Holds q53) : Some0 := by
  cases hb : Bx.eval b19 with
  | true => exact n45 R (h.cons hb)
  | false => exact n46 R (h.cons hb)
theorem n48 [Val] (R : In64) (h : Holds q57) : Some0 := by
  have _ := R 0
  exact ⟨_, List.mem_of_getElem? (i := 2) rfl, _, List.mem_of_getElem? (i := 3) rfl, h⟩
theorem n49 [Val] (R : In64) (h : Holds q58) : Some0 := by
  have _ := R 0
  exact ⟨_, List.mem_of_getElem? (i := 2) rfl, _, List.mem_of_getElem? (i := 4) rfl, h⟩
theorem n47 [Val] (R : In64) (h : Holds q56) : Some0 := by
  cases hb : Bx.eval b19 with
  | true => exact n48 R (h.cons hb)
  | false => exact n49 R (h.cons hb)
theorem n43 [Val] (R : In64) (h : Holds q52) : Some0 := by
  cases hb : Bx.eval b18 with
  | true => exact n44 R (h.cons hb)
  | false => exact n47 R (h.cons hb)
theorem n52 [Val] (R : In64) (h : Holds q61) : Some0 := by
  have _ := R 0
  exact ⟨_, List.mem_of_getElem? (i := 2) rfl, _, List.mem_of_getElem? (i := 5) rfl, h⟩
theorem n53 [Val] (R : In64) (h : Holds q62) : Some0 := by
  have _ := R 0
  exact ⟨_, List.mem_of_getElem? (i := 2) rfl, _, List.mem_of_getElem? (i := 6) rfl, h⟩
theorem n51 [Val] (R : In64) (h : Holds q60) : Some0 := by
  cases hb : Bx.eval b19 with
  | true => exact n52 R (h.cons hb)
  | false => exact n53 R (h.cons hb)
theorem n55 [Val] (R : In64) (h : Holds q64) : Some0 := by
  have _ := R 0
  exact ⟨_, List.mem_of_getElem? (i := 2) rfl, _, List.mem_of_getElem? (i := 7) rfl, h⟩
theorem n56 [Val] (R : In64) (h : Holds q65) : Some0 := by
  have _ := R 0
  exact ⟨_, List.mem_of_getElem? (i := 3) rfl, _, List.mem_of_getElem? (i := 0) rfl, h⟩
theorem n54 [Val] (R : In64) (h : Holds q63) : Some0 := by
  cases hb : Bx.eval b19 with
  | true => exact n55 R (h.cons hb)
  | false => exact n56 R (h.cons hb)
theorem n50 [Val] (R : In64) (h : Holds q59) : Some0 := by
  cases hb : Bx.eval b18 with
  | true => exact n51 R (h.cons hb)
  | false => exact n54 R (h.cons hb)
theorem n42 [Val] (R : In64) (h : Holds q47) : Some0 := by
  have h : Holds q48 := h.cons (c3 R)
  have h : Holds q49 := h.cons (c4 R)
  have h : Holds q50 := h.cons (c6 R)
  have h : Holds q51 := h.cons (c7 R)
  cases hb : Bx.eval b17 with
  | true => exact n43 R (h.cons hb)
  | false => exact n50 R (h.cons hb)
theorem n10 [Val] (R : In64) (h : Holds q11) : Some0 := by
  have h : Holds q12 := h.cons (c2 R (h.at 0 rfl))
  cases hb : Bx.eval b12 with
  | true => exact n11 R (h.cons hb)
  | false => exact n42 R (h.cons hb)
theorem n60 [Val] (R : In64) (h : Holds q71) : Some0 := by
  have _ := R 0
  exact ⟨_, List.mem_of_getElem? (i := 3) rfl, _, List.mem_of_getElem? (i := 1) rfl, h⟩
theorem n61 [Val] (R : In64) (h : Holds q72) : Some0 := by
  have _ := R 0
  exact ⟨_, List.mem_of_getElem? (i := 3) rfl, _, List.mem_of_getElem? (i := 2) rfl, h⟩
theorem n59 [Val] (R : In64) (h : Holds q70) : Some0 := by
  cases hb : Bx.eval b19 with
  | true => exact n60 R (h.cons hb)
  | false => exact n61 R (h.cons hb)
theorem n63 [Val] (R : In64) (h : Holds q74) : Some0 := by
  have _ := R 0
  exact ⟨_, List.mem_of_getElem? (i := 3) rfl, _, List.mem_of_getElem? (i := 3) rfl, h⟩
theorem n64 [Val] (R : In64) (h : Holds q75) : Some0 := by
  have _ := R 0
  exact ⟨_, List.mem_of_getElem? (i := 3) rfl, _, List.mem_of_getElem? (i := 4) rfl, h⟩
theorem n62 [Val] (R : In64) (h : Holds q73) : Some0 := by
  cases hb : Bx.eval b19 with
  | true => exact n63 R (h.cons hb)
  | false => exact n64 R (h.cons hb)
theorem n58 [Val] (R : In64) (h : Holds q69) : Some0 := by
  cases hb : Bx.eval b18 with
  | true => exact n59 R (h.cons hb)
  | false => exact n62 R (h.cons hb)
theorem n67 [Val] (R : In64) (h : Holds q78) : Some0 := by
  have _ := R 0
  exact ⟨_, List.mem_of_getElem? (i := 3) rfl, _, List.mem_of_getElem? (i := 5) rfl, h⟩
theorem n68 [Val] (R : In64) (h : Holds q79) : Some0 := by
  have _ := R 0
  exact ⟨_, List.mem_of_getElem? (i := 3) rfl, _, List.mem_of_getElem? (i := 6) rfl, h⟩
theorem n66 [Val] (R : In64) (h : Holds q77) : Some0 := by
  cases hb : Bx.eval b19 with
  | true => exact n67 R (h.cons hb)
  | false => exact n68 R (h.cons hb)
theorem n70 [Val] (R : In64) (h : Holds q81) : Some0 := by
  have _ := R 0
  exact ⟨_, List.mem_of_getElem? (i := 3) rfl, _, List.mem_of_getElem? (i := 7) rfl, h⟩
theorem n71 [Val] (R : In64) (h : Holds q82) : Some0 := by
  have _ := R 0
  exact ⟨_, List.mem_of_getElem? (i := 4) rfl, _, List.mem_of_getElem? (i := 0) rfl, h⟩
theorem n69 [Val] (R : In64) (h : Holds q80) : Some0 := by
  cases hb : Bx.eval b19 with
  | true => exact n70 R (h.cons hb)
  | false => exact n71 R (h.cons hb)
theorem n65 [Val] (R : In64) (h : Holds q76) : Some0 := by
  cases hb : Bx.eval b18 with
  | true => exact n66 R (h.cons hb)
  | false => exact n69 R (h.cons hb)
theorem n57 [Val] (R : In64) (h : Holds q66) : Some0 := by
  have h : Holds q67 := h.cons (c8 R (h.at 2 rfl))
  have h : Holds q68 := h.cons (c9 R (h.at 0 rfl))
  cases hb : Bx.eval b17 with
  | true => exact n58 R (h.cons hb)
  | false => exact n65 R (h.cons hb)
theorem n9 [Val] (R : In64) (h : Holds q10) : Some0 := by
  cases hb : Bx.eval b10 with
  | true => exact n10 R (h.cons hb)
  | false => exact n57 R (h.cons hb)
theorem n77 [Val] (R : In64) (h : Holds q93) : Some0 := by
  have _ := R 0
  exact ⟨_, List.mem_of_getElem? (i := 4) rfl, _, List.mem_of_getElem? (i := 1) rfl, h⟩
theorem n78 [Val] (R : In64) (h : Holds q94) : Some0 := by
  have _ := R 0
  exact ⟨_, List.mem_of_getElem? (i := 4) rfl, _, List.mem_of_getElem? (i := 2) rfl, h⟩
theorem n76 [Val] (R : In64) (h : Holds q92) : Some0 := by
  cases hb : Bx.eval b19 with
  | true => exact n77 R (h.cons hb)
  | false => exact n78 R (h.cons hb)
theorem n80 [Val] (R : In64) (h : Holds q96) : Some0 := by
  have _ := R 0
  exact ⟨_, List.mem_of_getElem? (i := 4) rfl, _, List.mem_of_getElem? (i := 3) rfl, h⟩
theorem n81 [Val] (R : In64) (h : Holds q97) : Some0 := by
  have _ := R 0
  exact ⟨_, List.mem_of_getElem? (i := 4) rfl, _, List.mem_of_getElem? (i := 4) rfl, h⟩
theorem n79 [Val] (R : In64) (h : Holds q95) : Some0 := by
  cases hb : Bx.eval b19 with
  | true => exact n80 R (h.cons hb)
  | false => exact n81 R (h.cons hb)
theorem n75 [Val] (R : In64) (h : Holds q90) : Some0 := by
  have h : Holds q91 := h.cons (c14 R)
  cases hb : Bx.eval b18 with
  | true => exact n76 R (h.cons hb)
  | false => exact n79 R (h.cons hb)
theorem n84 [Val] (R : In64) (h : Holds q101) : Some0 := by
  have _ := R 0
  exact ⟨_, List.mem_of_getElem? (i := 4) rfl, _, List.mem_of_getElem? (i := 5) rfl, h⟩
theorem n85 [Val] (R : In64) (h : Holds q102) : Some0 := by
  have _ := R 0
  exact ⟨_, List.mem_of_getElem? (i := 4) rfl, _, List.mem_of_getElem? (i := 6) rfl, h⟩
theorem n83 [Val] (R : In64) (h : Holds q100) : Some0 := by
  cases hb : Bx.eval b19 with
  | true => exact n84 R (h.cons hb)
  | false => exact n85 R (h.cons hb)
theorem n87 [Val] (R : In64) (h : Holds q104) : Some0 := by
  have _ := R 0
  exact ⟨_, List.mem_of_getElem? (i := 4) rfl, _, List.mem_of_getElem? (i := 7) rfl, h⟩
theorem n88 [Val] (R : In64) (h : Holds q105) : Some0 := by
  have _ := R 0
  exact ⟨_, List.mem_of_getElem? (i := 5) rfl, _, List.mem_of_getElem? (i := 0) rfl, h⟩
theorem n86 [Val] (R : In64) (h : Holds q103) : Some0 := by
  cases hb : Bx.eval b19 with
  | true => exact n87 R (h.cons hb)
  | false => exact n88 R (h.cons hb)
theorem n82 [Val] (R : In64) (h : Holds q98) : Some0 := by
  have h : Holds q99 := h.cons (c14 R)
  cases hb : Bx.eval b18 with
  | true => exact n83 R (h.cons hb)
  | false => exact n86 R (h.cons hb)
theorem n74 [Val] (R : In64) (h : Holds q86) : Some0 := by
  have h : Holds q87 := h.cons (c11 R)
  have h : Holds q88 := h.cons (c12 R)
  have h : Holds q89 := h.cons (c13 R)
  cases hb : Bx.eval b29 with
  | true => exact n75 R (h.cons hb)
  | false => exact n82 R (h.cons hb)
theorem n91 [Val] (R : In64) (h : Holds q113) : Some0 := by
  have _ := R 0
  exact ⟨_, List.mem_of_getElem? (i := 5) rfl, _, List.mem_of_getElem? (i := 1) rfl, h⟩
theorem n92 [Val] (R : In64) (h : Holds q114) : Some0 := by
  have _ := R 0
  exact ⟨_, List.mem_of_getElem? (i := 5) rfl, _, List.mem_of_getElem? (i := 2) rfl, h⟩
theorem n90 [Val] (R : In64) (h : Holds q112) : Some0 := by
  cases hb : Bx.eval b19 with
  | true => exact n91 R (h.cons hb)
  | false => exact n92 R (h.cons hb)
theorem n94 [Val] (R : In64) (h : Holds q116) : Some0 := by
  have _ := R 0
  exact ⟨_, List.mem_of_getElem? (i := 5) rfl, _, List.mem_of_getElem? (i := 3) rfl, h⟩
theorem n95 [Val] (R : In64) (h : Holds q117) : Some0 := by
  have _ := R 0
  exact ⟨_, List.mem_of_getElem? (i := 5) rfl, _, List.mem_of_getElem? (i := 4) rfl, h⟩
theorem n93 [Val] (R : In64) (h : Holds q115) : Some0 := by
  cases hb : Bx.eval b19 with
  | true => exact n94 R (h.cons hb)
  | false => exact n95 R (h.cons hb)
theorem n89 [Val] (R : In64) (h : Holds q106) : Some0 := by
  have h : Holds q107 := h.cons (c11 R)
  have h : Holds q108 := h.cons (c12 R)
  have h : Holds q109 := h.cons (c15 R)
  have h : Holds q110 := h.cons (c16 R)
  have h : Holds q111 := h.cons (c14 R)
  cases hb : Bx.eval b18 with
  | true => exact n90 R (h.cons hb)
  | false => exact n93 R (h.cons hb)
theorem n73 [Val] (R : In64) (h : Holds q84) : Some0 := by
  have h : Holds q85 := h.cons (c10 R (h.at 0 rfl))
  cases hb : Bx.eval b25 with
  | true => exact n74 R (h.cons hb)
  | false => exact n89 R (h.cons hb)
theorem n98 [Val] (R : In64) (h : Holds q123) : Some0 := by
  have _ := R 0
  exact ⟨_, List.mem_of_getElem? (i := 5) rfl, _, List.mem_of_getElem? (i := 5) rfl, h⟩
theorem n99 [Val] (R : In64) (h : Holds q124) : Some0 := by
  have _ := R 0
  exact ⟨_, List.mem_of_getElem? (i := 5) rfl, _, List.mem_of_getElem? (i := 6) rfl, h⟩
theorem n97 [Val] (R : In64) (h : Holds q122) : Some0 := by
  cases hb : Bx.eval b19 with
  | true => exact n98 R (h.cons hb)
  | false => exact n99 R (h.cons hb)
theorem n101 [Val] (R : In64) (h : Holds q126) : Some0 := by
  have _ := R 0
  exact ⟨_, List.mem_of_getElem? (i := 5) rfl, _, List.mem_of_getElem? (i := 7) rfl, h⟩
theorem n102 [Val] (R : In64) (h : Holds q127) : Some0 := by
  have _ := R 0
  exact ⟨_, List.mem_of_getElem? (i := 6) rfl, _, List.mem_of_getElem? (i := 0) rfl, h⟩
theorem n100 [Val] (R : In64) (h : Holds q125) : Some0 := by
  cases hb : Bx.eval b19 with
  | true => exact n101 R (h.cons hb)
  | false => exact n102 R (h.cons hb)
theorem n96 [Val] (R : In64) (h : Holds q118) : Some0 := by
  have h : Holds q119 := h.cons (c8 R (h.at 2 rfl))
  have h : Holds q120 := h.cons (c17 R (h.at 3 rfl))
  have h : Holds q121 := h.cons (c14 R)
  cases hb : Bx.eval b18 with
  | true => exact n97 R (h.cons hb)
  | false => exact n100 R (h.cons hb)
theorem n72 [Val] (R : In64) (h : Holds q83) : Some0 := by
  cases hb : Bx.eval b10 with
  | true => exact n73 R (h.cons hb)
  | false => exact n96 R (h.cons hb)
theorem n8 [Val] (R : In64) (h : Holds q8) : Some0 := by
  have h : Holds q9 := h.cons (c1 R (h.at 0 rfl))
  cases hb : Bx.eval b9 with
  | true => exact n9 R (h.cons hb)
  | false => exact n72 R (h.cons hb)
theorem n105 [Val] (R : In64) (h : Holds q132) : Some0 := by
  have _ := R 0
  exact ⟨_, List.mem_of_getElem? (i := 6) rfl, _, List.mem_of_getElem? (i := 1) rfl, h⟩
theorem n106 [Val] (R : In64) (h : Holds q133) : Some0 := by
  have _ := R 0
  exact ⟨_, List.mem_of_getElem? (i := 6) rfl, _, List.mem_of_getElem? (i := 2) rfl, h⟩
theorem n104 [Val] (R : In64) (h : Holds q131) : Some0 := by
  cases hb : Bx.eval b19 with
  | true => exact n105 R (h.cons hb)
  | false => exact n106 R (h.cons hb)
theorem n108 [Val] (R : In64) (h : Holds q135) : Some0 := by
  have _ := R 0
  exact ⟨_, List.mem_of_getElem? (i := 6) rfl, _, List.mem_of_getElem? (i := 3) rfl, h⟩
theorem n109 [Val] (R : In64) (h : Holds q136) : Some0 := by
  have _ := R 0
  exact ⟨_, List.mem_of_getElem? (i := 6) rfl, _, List.mem_of_getElem? (i := 4) rfl, h⟩
theorem n107 [Val] (R : In64) (h : Holds q134) : Some0 := by
  cases hb : Bx.eval b19 with
  | true => exact n108 R (h.cons hb)
  | false => exact n109 R (h.cons hb)
theorem n103 [Val] (R : In64) (h : Holds q128) : Some0 := by
  have h : Holds q129 := h.cons (c18 R (h.at 2 rfl))
  have h : Holds q130 := h.cons (c19 R (h.at 0 rfl))
  cases hb : Bx.eval b18 with
  | true => exact n104 R (h.cons hb)
  | false => exact n107 R (h.cons hb)
theorem n7 [Val] (R : In64) (h : Holds q7) : Some0 := by
  cases hb : Bx.eval b7 with
  | true => exact n8 R (h.cons hb)
  | false => exact n103 R (h.cons hb)
theorem n117 [Val] (R : In64) (h : Holds q150) : Some0 := by
  have _ := R 0
  exact ⟨_, List.mem_of_getElem? (i := 6) rfl, _, List.mem_of_getElem? (i := 5) rfl, h⟩
theorem n118 [Val] (R : In64) (h : Holds q151) : Some0 := by
  have _ := R 0
  exact ⟨_, List.mem_of_getElem? (i := 6) rfl, _, List.mem_of_getElem? (i := 6) rfl, h⟩
theorem n116 [Val] (R : In64) (h : Holds q148) : Some0 := by
  have h : Holds q149 := h.cons (c25 R)
  cases hb : Bx.eval b19 with
  | true => exact n117 R (h.cons hb)
  | false => exact n118 R (h.cons hb)
theorem n120 [Val] (R : In64) (h : Holds q154) : Some0 := by
  have _ := R 0
  exact ⟨_, List.mem_of_getElem? (i := 6) rfl, _, List.mem_of_getElem? (i := 7) rfl, h⟩
theorem n121 [Val] (R : In64) (h : Holds q155) : Some0 := by
  have _ := R 0
  exact ⟨_, List.mem_of_getElem? (i := 7) rfl, _, List.mem_of_getElem? (i := 0) rfl, h⟩
theorem n119 [Val] (R : In64) (h : Holds q152) : Some0 := by
  have h : Holds q153 := h.cons (c25 R)
  cases hb : Bx.eval b19 with
  | true => exact n120 R (h.cons hb)
  | false => exact n121 R (h.cons hb)
theorem n115 [Val] (R : In64) (h : Holds q147) : Some0 := by
  cases hb : Bx.eval b45 with
  | true => exact n116 R (h.cons hb)
  | false => exact n119 R (h.cons hb)
theorem n124 [Val] (R : In64) (h : Holds q159) : Some0 := by
  have _ := R 0
  exact ⟨_, List.mem_of_getElem? (i := 7) rfl, _, List.mem_of_getElem? (i := 1) rfl, h⟩
theorem n125 [Val] (R : In64) (h : Holds q160) : Some0 := by
  have _ := R 0
  exact ⟨_, List.mem_of_getElem? (i := 7) rfl, _, List.mem_of_getElem? (i := 2) rfl, h⟩
theorem n123 [Val] (R : In64) (h : Holds q157) : Some0 := by
  have h : Holds q158 := h.cons (c25 R)
  cases hb : Bx.eval b19 with
  | true => exact n124 R (h.cons hb)
  | false => exact n125 R (h.cons hb)
theorem n127 [Val] (R : In64) (h : Holds q163) : Some0 := by
  have _ := R 0
  exact ⟨_, List.mem_of_getElem? (i := 7) rfl, _, List.mem_of_getElem? (i := 3) rfl, h⟩
theorem n128 [Val] (R : In64) (h : Holds q164) : Some0 := by
  have _ := R 0
  exact ⟨_, List.mem_of_getElem? (i := 7) rfl, _, List.mem_of_getElem? (i := 4) rfl, h⟩
theorem n126 [Val] (R : In64) (h : Holds q161) : Some0 := by
  have h : Holds q162 := h.cons (c25 R)
  cases hb : Bx.eval b19 with
  | true => exact n127 R (h.cons hb)
  | false => exact n128 R (h.cons hb)
theorem n122 [Val] (R : In64) (h : Holds q156) : Some0 := by
  cases hb : Bx.eval b45 with
  | true => exact n123 R (h.cons hb)
  | false => exact n126 R (h.cons hb)
theorem n114 [Val] (R : In64) (h : Holds q143) : Some0 := by
  have h : Holds q144 := h.cons (c22 R)
  have h : Holds q145 := h.cons (c23 R)
  have h : Holds q146 := h.cons (c24 R)
  cases hb : Bx.eval b44 with
  | true => exact n115 R (h.cons hb)
  | false => exact n122 R (h.cons hb)
theorem n131 [Val] (R : In64) (h : Holds q172) : Some0 := by
  have _ := R 0
  exact ⟨_, List.mem_of_getElem? (i := 7) rfl, _, List.mem_of_getElem? (i := 5) rfl, h⟩
theorem n132 [Val] (R : In64) (h : Holds q173) : Some0 := by
  have _ := R 0
  exact ⟨_, List.mem_of_getElem? (i := 7) rfl, _, List.mem_of_getElem? (i := 6) rfl, h⟩
theorem n130 [Val] (R : In64) (h : Holds q170) : Some0 := by
  have h : Holds q171 := h.cons (c25 R)
  cases hb : Bx.eval b19 with
  | true => exact n131 R (h.cons hb)
  | false => exact n132 R (h.cons hb)
theorem n134 [Val] (R : In64) (h : Holds q176) : Some0 := by
  have _ := R 0
  exact ⟨_, List.mem_of_getElem? (i := 7) rfl, _, List.mem_of_getElem? (i := 7) rfl, h⟩
theorem n135 [Val] (R : In64) (h : Holds q177) : Some0 := by
  have _ := R 0
  exact ⟨_, List.mem_of_getElem? (i := 8) rfl, _, List.mem_of_getElem? (i := 0) rfl, h⟩
theorem n133 [Val] (R : In64) (h : Holds q174) : Some0 := by
  have h : Holds q175 := h.cons (c25 R)
  cases hb : Bx.eval b19 with
  | true => exact n134 R (h.cons hb)
  | false => exact n135 R (h.cons hb)
theorem n129 [Val] (R : In64) (h : Holds q165) : Some0 := by
  have h : Holds q166 := h.cons (c22 R)
  have h : Holds q167 := h.cons (c23 R)
  have h : Holds q168 := h.cons (c26 R)
  have h : Holds q169 := h.cons (c27 R)
  cases hb : Bx.eval b45 with
  | true => exact n130 R (h.cons hb)
  | false => exact n133 R (h.cons hb)
theorem n113 [Val] (R : In64) (h : Holds q141) : Some0 := by
  have h : Holds q142 := h.cons (c21 R (h.at 0 rfl))
  cases hb : Bx.eval b40 with
  | true => exact n114 R (h.cons hb)
  | false => exact n129 R (h.cons hb)
theorem n138 [Val] (R : In64) (h : Holds q183) : Some0 := by
  have _ := R 0
  exact ⟨_, List.mem_of_getElem? (i := 8) rfl, _, List.mem_of_getElem? (i := 1) rfl, h⟩
theorem n139 [Val] (R : In64) (h : Holds q184) : Some0 := by
  have _ := R 0
  exact ⟨_, List.mem_of_getElem? (i := 8) rfl, _, List.mem_of_getElem? (i := 2) rfl, h⟩
theorem n137 [Val] (R : In64) (h : Holds q181) : Some0 := by
  have h : Holds q182 := h.cons (c25 R)
  cases hb : Bx.eval b19 with
  | true => exact n138 R (h.cons hb)
  | false => exact n139 R (h.cons hb)
theorem n141 [Val] (R : In64) (h : Holds q187) : Some0 := by
  have _ := R 0
  exact ⟨_, List.mem_of_getElem? (i := 8) rfl, _, List.mem_of_getElem? (i := 3) rfl, h⟩
theorem n142 [Val] (R : In64) (h : Holds q188) : Some0 := by
  have _ := R 0
  exact ⟨_, List.mem_of_getElem? (i := 8) rfl, _, List.mem_of_getElem? (i := 4) rfl, h⟩
theorem n140 [Val] (R : In64) (h : Holds q185) : Some0 := by
  have h : Holds q186 := h.cons (c25 R)
  cases hb : Bx.eval b19 with
  | true => exact n141 R (h.cons hb)
  | false => exact n142 R (h.cons hb)
theorem n136 [Val] (R : In64) (h : Holds q178) : Some0 := by
  have h : Holds q179 := h.cons (c28 R (h.at 2 rfl))
  have h : Holds q180 := h.cons (c29 R (h.at 0 rfl))
  cases hb : Bx.eval b45 with
  | true => exact n137 R (h.cons hb)
  | false => exact n140 R (h.cons hb)
theorem n112 [Val] (R : In64) (h : Holds q140) : Some0 := by
  cases hb : Bx.eval b38 with
  | true => exact n113 R (h.cons hb)
  | false => exact n136 R (h.cons hb)
theorem n147 [Val] (R : In64) (h : Holds q199) : Some0 := by
  have _ := R 0
  exact ⟨_, List.mem_of_getElem? (i := 8) rfl, _, List.mem_of_getElem? (i := 5) rfl, h⟩
theorem n148 [Val] (R : In64) (h : Holds q200) : Some0 := by
  have _ := R 0
  exact ⟨_, List.mem_of_getElem? (i := 8) rfl, _, List.mem_of_getElem? (i := 6) rfl, h⟩
theorem n146 [Val] (R : In64) (h : Holds q196) : Some0 := by
  have h : Holds q197 := h.cons (c34 R)
  have h : Holds q198 := h.cons (c25 R)
  cases hb : Bx.eval b19 with
  | true => exact n147 R (h.cons hb)
  | false => exact n148 R (h.cons hb)
theorem n150 [Val] (R : In64) (h : Holds q204) : Some0 := by
  have _ := R 0
  exact ⟨_, List.mem_of_getElem? (i := 8) rfl, _, List.mem_of_getElem? (i := 7) rfl, h⟩
theorem n151 [Val] (R : In64) (h : Holds q205) : Some0 := by
  have _ := R 0
  exact ⟨_, List.mem_of_getElem? (i := 9) rfl, _, List.mem_of_getElem? (i := 0) rfl, h⟩
theorem n149 [Val] (R : In64) (h : Holds q201) : Some0 := by
  have h : Holds q202 := h.cons (c34 R)
  have h : Holds q203 := h.cons (c25 R)
  cases hb : Bx.eval b19 with
  | true => exact n150 R (h.cons hb)
  | false => exact n151 R (h.cons hb)
theorem n145 [Val] (R : In64) (h : Holds q192) : Some0 := by
  have h : Holds q193 := h.cons (c31 R)
  have h : Holds q194 := h.cons (c32 R)
  have h : Holds q195 := h.cons (c33 R)
  cases hb : Bx.eval b56 with
  | true => exact n146 R (h.cons hb)
  | false => exact n149 R (h.cons hb)
theorem n153 [Val] (R : In64) (h : Holds q213) : Some0 := by
  have _ := R 0
  exact ⟨_, List.mem_of_getElem? (i := 9) rfl, _, List.mem_of_getElem? (i := 1) rfl, h⟩
theorem n154 [Val] (R : In64) (h : Holds q214) : Some0 := by
  have _ := R 0
  exact ⟨_, List.mem_of_getElem? (i := 9) rfl, _, List.mem_of_getElem? (i := 2) rfl, h⟩
theorem n152 [Val] (R : In64) (h : Holds q206) : Some0 := by
  have h : Holds q207 := h.cons (c31 R)
  have h : Holds q208 := h.cons (c32 R)
  have h : Holds q209 := h.cons (c35 R)
  have h : Holds q210 := h.cons (c36 R)
  have h : Holds q211 := h.cons (c34 R)
  have h : Holds q212 := h.cons (c25 R)
  cases hb : Bx.eval b19 with
  | true => exact n153 R (h.cons hb)
  | false => exact n154 R (h.cons hb)
theorem n144 [Val] (R : In64) (h : Holds q190) : Some0 := by
  have h : Holds q191 := h.cons (c30 R (h.at 0 rfl))
  cases hb : Bx.eval b52 with
  | true => exact n145 R (h.cons hb)
  | false => exact n152 R (h.cons hb)
theorem n156 [Val] (R : In64) (h : Holds q220) : Some0 := by
  have _ := R 0
  exact ⟨_, List.mem_of_getElem? (i := 9) rfl, _, List.mem_of_getElem? (i := 3) rfl, h⟩
theorem n157 [Val] (R : In64) (h : Holds q221) : Some0 := by
  have _ := R 0
  exact ⟨_, List.mem_of_getElem? (i := 9) rfl, _, List.mem_of_getElem? (i := 4) rfl, h⟩
theorem n155 [Val] (R : In64) (h : Holds q215) : Some0 := by
  have h : Holds q216 := h.cons (c28 R (h.at 2 rfl))
  have h : Holds q217 := h.cons (c37 R (h.at 3 rfl))
  have h : Holds q218 := h.cons (c34 R)
  have h : Holds q219 := h.cons (c25 R)
  cases hb : Bx.eval b19 with
  | true => exact n156 R (h.cons hb)
  | false => exact n157 R (h.cons hb)
theorem n143 [Val] (R : In64) (h : Holds q189) : Some0 := by
  cases hb : Bx.eval b38 with
  | true => exact n144 R (h.cons hb)
  | false => exact n155 R (h.cons hb)
theorem n111 [Val] (R : In64) (h : Holds q138) : Some0 := by
  have h : Holds q139 := h.cons (c20 R (h.at 0 rfl))
  cases hb : Bx.eval b37 with
  | true => exact n112 R (h.cons hb)
  | false => exact n143 R (h.cons hb)
theorem n159 [Val] (R : In64) (h : Holds q226) : Some0 := by
  have _ := R 0
  exact ⟨_, List.mem_of_getElem? (i := 9) rfl, _, List.mem_of_getElem? (i := 5) rfl, h⟩
theorem n160 [Val] (R : In64) (h : Holds q227) : Some0 := by
  have _ := R 0
  exact ⟨_, List.mem_of_getElem? (i := 9) rfl, _, List.mem_of_getElem? (i := 6) rfl, h⟩
theorem n158 [Val] (R : In64) (h : Holds q222) : Some0 := by
  have h : Holds q223 := h.cons (c18 R (h.at 2 rfl))
  have h : Holds q224 := h.cons (c38 R (h.at 3 rfl))
  have h : Holds q225 := h.cons (c25 R)
  cases hb : Bx.eval b19 with
  | true => exact n159 R (h.cons hb)
  | false => exact n160 R (h.cons hb)
theorem n110 [Val] (R : In64) (h : Holds q137) : Some0 := by
  cases hb : Bx.eval b7 with
  | true => exact n111 R (h.cons hb)
  | false => exact n158 R (h.cons hb)
theorem n6 [Val] (R : In64) (h : Holds q5) : Some0 := by
  have h : Holds q6 := h.cons (c0 R (h.at 0 rfl))
  cases hb : Bx.eval b6 with
  | true => exact n7 R (h.cons hb)
  | false => exact n110 R (h.cons hb)
theorem n162 [Val] (R : In64) (h : Holds q231) : Some0 := by
  have _ := R 0
  exact ⟨_, List.mem_of_getElem? (i := 9) rfl, _, List.mem_of_getElem? (i := 7) rfl, h⟩
theorem n163 [Val] (R : In64) (h : Holds q232) : Some0 := by
  have _ := R 0
  exact ⟨_, List.mem_of_getElem? (i := 10) rfl, _, List.mem_of_getElem? (i := 0) rfl, h⟩
theorem n161 [Val] (R : In64) (h : Holds q228) : Some0 := by
  have h : Holds q229 := h.cons (c39 R (h.at 2 rfl))
  have h : Holds q230 := h.cons (c40 R (h.at 0 rfl))
  cases hb : Bx.eval b19 with
  | true => exact n162 R (h.cons hb)
  | false => exact n163 R (h.cons hb)
theorem n5 [Val] (R : In64) (h : Holds q4) : Some0 := by
  cases hb : Bx.eval b4 with
  | true => exact n6 R (h.cons hb)
  | false => exact n161 R (h.cons hb)
theorem n173 [Val] (R : In64) (h : Holds q248) : Some0 := by
  have h : Holds q249 := h.cons (c47 R)
  exact ⟨_, List.mem_of_getElem? (i := 10) rfl, _, List.mem_of_getElem? (i := 1) rfl, h⟩
theorem n174 [Val] (R : In64) (h : Holds q250) : Some0 := by
  have h : Holds q251 := h.cons (c47 R)
  exact ⟨_, List.mem_of_getElem? (i := 10) rfl, _, List.mem_of_getElem? (i := 2) rfl, h⟩
theorem n172 [Val] (R : In64) (h : Holds q247) : Some0 := by
  cases hb : Bx.eval b77 with
  | true => exact n173 R (h.cons hb)
  | false => exact n174 R (h.cons hb)
theorem n176 [Val] (R : In64) (h : Holds q253) : Some0 := by
  have h : Holds q254 := h.cons (c47 R)
  exact ⟨_, List.mem_of_getElem? (i := 10) rfl, _, List.mem_of_getElem? (i := 3) rfl, h⟩
theorem n177 [Val] (R : In64) (h : Holds q255) : Some0 := by
  have h : Holds q256 := h.cons (c47 R)
  exact ⟨_, List.mem_of_getElem? (i := 10) rfl, _, List.mem_of_getElem? (i := 4) rfl, h⟩
theorem n175 [Val] (R : In64) (h : Holds q252) : Some0 := by
  cases hb : Bx.eval b77 with
  | true => exact n176 R (h.cons hb)
  | false => exact n177 R (h.cons hb)
theorem n171 [Val] (R : In64) (h : Holds q246) : Some0 := by
  cases hb : Bx.eval b76 with
  | true => exact n172 R (h.cons hb)
  | false => exact n175 R (h.cons hb)
theorem n180 [Val] (R : In64) (h : Holds q259) : Some0 := by
  have h : Holds q260 := h.cons (c47 R)
  exact ⟨_, List.mem_of_getElem? (i := 10) rfl, _, List.mem_of_getElem? (i := 5) rfl, h⟩
theorem n181 [Val] (R : In64) (h : Holds q261) : Some0 := by
  have h : Holds q262 := h.cons (c47 R)
  exact ⟨_, List.mem_of_getElem? (i := 10) rfl, _, List.mem_of_getElem? (i := 6) rfl, h⟩
theorem n179 [Val] (R : In64) (h : Holds q258) : Some0 := by
  cases hb : Bx.eval b77 with
  | true => exact n180 R (h.cons hb)
  | false => exact n181 R (h.cons hb)
theorem n183 [Val] (R : In64) (h : Holds q264) : Some0 := by
  have h : Holds q265 := h.cons (c47 R)
  exact ⟨_, List.mem_of_getElem? (i := 10) rfl, _, List.mem_of_getElem? (i := 7) rfl, h⟩
theorem n184 [Val] (R : In64) (h : Holds q266) : Some0 := by
  have h : Holds q267 := h.cons (c47 R)
  exact ⟨_, List.mem_of_getElem? (i := 11) rfl, _, List.mem_of_getElem? (i := 0) rfl, h⟩
theorem n182 [Val] (R : In64) (h : Holds q263) : Some0 := by
  cases hb : Bx.eval b77 with
  | true => exact n183 R (h.cons hb)
  | false => exact n184 R (h.cons hb)
theorem n178 [Val] (R : In64) (h : Holds q257) : Some0 := by
  cases hb : Bx.eval b76 with
  | true => exact n179 R (h.cons hb)
  | false => exact n182 R (h.cons hb)
theorem n170 [Val] (R : In64) (h : Holds q242) : Some0 := by
  have h : Holds q243 := h.cons (c44 R)
  have h : Holds q244 := h.cons (c45 R)
  have h : Holds q245 := h.cons (c46 R)
  cases hb : Bx.eval b75 with
  | true => exact n171 R (h.cons hb)
  | false => exact n178 R (h.cons hb)
theorem n187 [Val] (R : In64) (h : Holds q274) : Some0 := by
  have h : Holds q275 := h.cons (c47 R)
  exact ⟨_, List.mem_of_getElem? (i := 11) rfl, _, List.mem_of_getElem? (i := 1) rfl, h⟩
theorem n188 [Val] (R : In64) (h : Holds q276) : Some0 := by
  have h : Holds q277 := h.cons (c47 R)
  exact ⟨_, List.mem_of_getElem? (i := 11) rfl, _, List.mem_of_getElem? (i := 2) rfl, h⟩
theorem n186 [Val] (R : In64) (h : Holds q273) : Some0 := by
  cases hb : Bx.eval b77 with
  | true => exact n187 R (h.cons hb)
  | false => exact n188 R (h.cons hb)
theorem n190 [Val] (R : In64) (h : Holds q279) : Some0 := by
  have h : Holds q280 := h.cons (c47 R)
  exact ⟨_, List.mem_of_getElem? (i := 11) rfl, _, List.mem_of_getElem? (i := 3) rfl, h⟩
theorem n191 [Val] (R : In64) (h : Holds q281) : Some0 := by
  have h : Holds q282 := h.cons (c47 R)
  exact ⟨_, List.mem_of_getElem? (i := 11) rfl, _, List.mem_of_getElem? (i := 4) rfl, h⟩
theorem n189 [Val] (R : In64) (h : Holds q278) : Some0 := by
  cases hb : Bx.eval b77 with
  | true => exact n190 R (h.cons hb)
  | false => exact n191 R (h.cons hb)
theorem n185 [Val] (R : In64) (h : Holds q268) : Some0 := by
  have h : Holds q269 := h.cons (c44 R)
  have h : Holds q270 := h.cons (c45 R)
  have h : Holds q271 := h.cons (c48 R)
  have h : Holds q272 := h.cons (c49 R)
  cases hb : Bx.eval b76 with
  | true => exact n186 R (h.cons hb)
  | false => exact n189 R (h.cons hb)
theorem n169 [Val] (R : In64) (h : Holds q240) : Some0 := by
  have h : Holds q241 := h.cons (c43 R (h.at 0 rfl))
  cases hb : Bx.eval b71 with
  | true => exact n170 R (h.cons hb)
  | false => exact n185 R (h.cons hb)
theorem n194 [Val] (R : In64) (h : Holds q287) : Some0 := by
  have h : Holds q288 := h.cons (c47 R)
  exact ⟨_, List.mem_of_getElem? (i := 11) rfl, _, List.mem_of_getElem? (i := 5) rfl, h⟩
theorem n195 [Val] (R : In64) (h : Holds q289) : Some0 := by
  have h : Holds q290 := h.cons (c47 R)
  exact ⟨_, List.mem_of_getElem? (i := 11) rfl, _, List.mem_of_getElem? (i := 6) rfl, h⟩
theorem n193 [Val] (R : In64) (h : Holds q286) : Some0 := by
  cases hb : Bx.eval b77 with
  | true => exact n194 R (h.cons hb)
  | false => exact n195 R (h.cons hb)
theorem n197 [Val] (R : In64) (h : Holds q292) : Some0 := by
  have h : Holds q293 := h.cons (c47 R)
  exact ⟨_, List.mem_of_getElem? (i := 11) rfl, _, List.mem_of_getElem? (i := 7) rfl, h⟩
theorem n198 [Val] (R : In64) (h : Holds q294) : Some0 := by
  have h : Holds q295 := h.cons (c47 R)
  exact ⟨_, List.mem_of_getElem? (i := 12) rfl, _, List.mem_of_getElem? (i := 0) rfl, h⟩
theorem n196 [Val] (R : In64) (h : Holds q291) : Some0 := by
  cases hb : Bx.eval b77 with
  | true => exact n197 R (h.cons hb)
  | false => exact n198 R (h.cons hb)
theorem n192 [Val] (R : In64) (h : Holds q283) : Some0 := by
  have h : Holds q284 := h.cons (c50 R (h.at 2 rfl))
  have h : Holds q285 := h.cons (c51 R (h.at 0 rfl))
  cases hb : Bx.eval b76 with
  | true => exact n193 R (h.cons hb)
  | false => exact n196 R (h.cons hb)
theorem n168 [Val] (R : In64) (h : Holds q239) : Some0 := by
  cases hb : Bx.eval b69 with
  | true => exact n169 R (h.cons hb)
  | false => exact n192 R (h.cons hb)
theorem n203 [Val] (R : In64) (h : Holds q305) : Some0 := by
  have h : Holds q306 := h.cons (c47 R)
  exact ⟨_, List.mem_of_getElem? (i := 12) rfl, _, List.mem_of_getElem? (i := 1) rfl, h⟩
theorem n204 [Val] (R : In64) (h : Holds q307) : Some0 := by
  have h : Holds q308 := h.cons (c47 R)
  exact ⟨_, List.mem_of_getElem? (i := 12) rfl, _, List.mem_of_getElem? (i := 2) rfl, h⟩
theorem n202 [Val] (R : In64) (h : Holds q303) : Some0 := by
  have h : Holds q304 := h.cons (c56 R)
  cases hb : Bx.eval b77 with
  | true => exact n203 R (h.cons hb)
  | false => exact n204 R (h.cons hb)
theorem n206 [Val] (R : In64) (h : Holds q311) : Some0 := by
  have h : Holds q312 := h.cons (c47 R)
  exact ⟨_, List.mem_of_getElem? (i := 12) rfl, _, List.mem_of_getElem? (i := 3) rfl, h⟩
theorem n207 [Val] (R : In64) (h : Holds q313) : Some0 := by
  have h : Holds q314 := h.cons (c47 R)
  exact ⟨_, List.mem_of_getElem? (i := 12) rfl, _, List.mem_of_getElem? (i := 4) rfl, h⟩
theorem n205 [Val] (R : In64) (h : Holds q309) : Some0 := by
  have h : Holds q310 := h.cons (c56 R)
  cases hb : Bx.eval b77 with
  | true => exact n206 R (h.cons hb)
  | false => exact n207 R (h.cons hb)
theorem n201 [Val] (R : In64) (h : Holds q299) : Some0 := by
  have h : Holds q300 := h.cons (c53 R)
  have h : Holds q301 := h.cons (c54 R)
  have h : Holds q302 := h.cons (c55 R)
  cases hb : Bx.eval b88 with
  | true => exact n202 R (h.cons hb)
  | false => exact n205 R (h.cons hb)
theorem n209 [Val] (R : In64) (h : Holds q321) : Some0 := by
  have h : Holds q322 := h.cons (c47 R)
  exact ⟨_, List.mem_of_getElem? (i := 12) rfl, _, List.mem_of_getElem? (i := 5) rfl, h⟩
theorem n210 [Val] (R : In64) (h : Holds q323) : Some0 := by
  have h : Holds q324 := h.cons (c47 R)
  exact ⟨_, List.mem_of_getElem? (i := 12) rfl, _, List.mem_of_getElem? (i := 6) rfl, h⟩
theorem n208 [Val] (R : In64) (h : Holds q315) : Some0 := by
  have h : Holds q316 := h.cons (c53 R)
  have h : Holds q317 := h.cons (c54 R)
  have h : Holds q318 := h.cons (c57 R)
  have h : Holds q319 := h.cons (c58 R)
  have h : Holds q320 := h.cons (c56 R)
  cases hb : Bx.eval b77 with
  | true => exact n209 R (h.cons hb)
  | false => exact n210 R (h.cons hb)
theorem n200 [Val] (R : In64) (h : Holds q297) : Some0 := by
  have h : Holds q298 := h.cons (c52 R (h.at 0 rfl))
  cases hb : Bx.eval b84 with
  | true => exact n201 R (h.cons hb)
  | false => exact n208 R (h.cons hb)
theorem n212 [Val] (R : In64) (h : Holds q329) : Some0 := by
  have h : Holds q330 := h.cons (c47 R)
  exact ⟨_, List.mem_of_getElem? (i := 12) rfl, _, List.mem_of_getElem? (i := 7) rfl, h⟩
theorem n213 [Val] (R : In64) (h : Holds q331) : Some0 := by
  have h : Holds q332 := h.cons (c47 R)
  exact ⟨_, List.mem_of_getElem? (i := 13) rfl, _, List.mem_of_getElem? (i := 0) rfl, h⟩
theorem n211 [Val] (R : In64) (h : Holds q325) : Some0 := by
  have h : Holds q326 := h.cons (c50 R (h.at 2 rfl))
  have h : Holds q327 := h.cons (c59 R (h.at 3 rfl))
  have h : Holds q328 := h.cons (c56 R)
  cases hb : Bx.eval b77 with
  | true => exact n212 R (h.cons hb)
  | false => exact n213 R (h.cons hb)
theorem n199 [Val] (R : In64) (h : Holds q296) : Some0 := by
  cases hb : Bx.eval b69 with
  | true => exact n200 R (h.cons hb)
  | false => exact n211 R (h.cons hb)
theorem n167 [Val] (R : In64) (h : Holds q237) : Some0 := by
  have h : Holds q238 := h.cons (c42 R (h.at 0 rfl))
  cases hb : Bx.eval b68 with
  | true => exact n168 R (h.cons hb)
  | false => exact n199 R (h.cons hb)
theorem n215 [Val] (R : In64) (h : Holds q336) : Some0 := by
  have h : Holds q337 := h.cons (c47 R)
  exact ⟨_, List.mem_of_getElem? (i := 13) rfl, _, List.mem_of_getElem? (i := 1) rfl, h⟩
theorem n216 [Val] (R : In64) (h : Holds q338) : Some0 := by
  have h : Holds q339 := h.cons (c47 R)
  exact ⟨_, List.mem_of_getElem? (i := 13) rfl, _, List.mem_of_getElem? (i := 2) rfl, h⟩
theorem n214 [Val] (R : In64) (h : Holds q333) : Some0 := by
  have h : Holds q334 := h.cons (c60 R (h.at 2 rfl))
  have h : Holds q335 := h.cons (c61 R (h.at 0 rfl))
  cases hb : Bx.eval b77 with
  | true => exact n215 R (h.cons hb)
  | false => exact n216 R (h.cons hb)
theorem n166 [Val] (R : In64) (h : Holds q236) : Some0 := by
  cases hb : Bx.eval b66 with
  | true => exact n167 R (h.cons hb)
  | false => exact n214 R (h.cons hb)
theorem n223 [Val] (R : In64) (h : Holds q351) : Some0 := by
  have h : Holds q352 := h.cons (c67 R)
  have h : Holds q353 := h.cons (c47 R)
  exact ⟨_, List.mem_of_getElem? (i := 13) rfl, _, List.mem_of_getElem? (i := 3) rfl, h⟩
theorem n224 [Val] (R : In64) (h : Holds q354) : Some0 := by
  have h : Holds q355 := h.cons (c67 R)
  have h : Holds q356 := h.cons (c47 R)
  exact ⟨_, List.mem_of_getElem? (i := 13) rfl, _, List.mem_of_getElem? (i := 4) rfl, h⟩
theorem n222 [Val] (R : In64) (h : Holds q350) : Some0 := by
  cases hb : Bx.eval b104 with
  | true => exact n223 R (h.cons hb)
  | false => exact n224 R (h.cons hb)
theorem n226 [Val] (R : In64) (h : Holds q358) : Some0 := by
  have h : Holds q359 := h.cons (c67 R)
  have h : Holds q360 := h.cons (c47 R)
  exact ⟨_, List.mem_of_getElem? (i := 13) rfl, _, List.mem_of_getElem? (i := 5) rfl, h⟩
theorem n227 [Val] (R : In64) (h : Holds q361) : Some0 := by
  have h : Holds q362 := h.cons (c67 R)
  have h : Holds q363 := h.cons (c47 R)
  exact ⟨_, List.mem_of_getElem? (i := 13) rfl, _, List.mem_of_getElem? (i := 6) rfl, h⟩
theorem n225 [Val] (R : In64) (h : Holds q357) : Some0 := by
  cases hb : Bx.eval b104 with
  | true => exact n226 R (h.cons hb)
  | false => exact n227 R (h.cons hb)
theorem n221 [Val] (R : In64) (h : Holds q346) : Some0 := by
  have h : Holds q347 := h.cons (c64 R)
  have h : Holds q348 := h.cons (c65 R)
  have h : Holds q349 := h.cons (c66 R)
  cases hb : Bx.eval b103 with
  | true => exact n222 R (h.cons hb)
  | false => exact n225 R (h.cons hb)
theorem n229 [Val] (R : In64) (h : Holds q369) : Some0 := by
  have h : Holds q370 := h.cons (c67 R)
  have h : Holds q371 := h.cons (c47 R)
  exact ⟨_, List.mem_of_getElem? (i := 13) rfl, _, List.mem_of_getElem? (i := 7) rfl, h⟩
theorem n230 [Val] (R : In64) (h : Holds q372) : Some0 := by
  have h : Holds q373 := h.cons (c67 R)
  have h : Holds q374 := h.cons (c47 R)
  exact ⟨_, List.mem_of_getElem? (i := 14) rfl, _, List.mem_of_getElem? (i := 0) rfl, h⟩
theorem n228 [Val] (R : In64) (h : Holds q364) : Some0 := by
  have h : Holds q365 := h.cons (c64 R)
  have h : Holds q366 := h.cons (c65 R)
  have h : Holds q367 := h.cons (c68 R)
  have h : Holds q368 := h.cons (c69 R)
  cases hb : Bx.eval b104 with
  | true => exact n229 R (h.cons hb)
  | false => exact n230 R (h.cons hb)
theorem n220 [Val] (R : In64) (h : Holds q344) : Some0 := by
  have h : Holds q345 := h.cons (c63 R (h.at 0 rfl))
  cases hb : Bx.eval b99 with
  | true => exact n221 R (h.cons hb)
  | false => exact n228 R (h.cons hb)
theorem n232 [Val] (R : In64) (h : Holds q378) : Some0 := by
  have h : Holds q379 := h.cons (c67 R)
  have h : Holds q380 := h.cons (c47 R)
  exact ⟨_, List.mem_of_getElem? (i := 14) rfl, _, List.mem_of_getElem? (i := 1) rfl, h⟩
theorem n233 [Val] (R : In64) (h : Holds q381) : Some0 := by
  have h : Holds q382 := h.cons (c67 R)
  have h : Holds q383 := h.cons (c47 R)
  exact ⟨_, List.mem_of_getElem? (i := 14) rfl, _, List.mem_of_getElem? (i := 2) rfl, h⟩
theorem n231 [Val] (R : In64) (h : Holds q375) : Some0 := by
  have h : Holds q376 := h.cons (c70 R (h.at 2 rfl))
  have h : Holds q377 := h.cons (c71 R (h.at 0 rfl))
  cases hb : Bx.eval b104 with
  | true => exact n232 R (h.cons hb)
  | false => exact n233 R (h.cons hb)
theorem n219 [Val] (R : In64) (h : Holds q343) : Some0 := by
  cases hb : Bx.eval b97 with
  | true => exact n220 R (h.cons hb)
  | false => exact n231 R (h.cons hb)
theorem n237 [Val] (R : In64) (h : Holds q391) : Some0 := by
  have h : Holds q392 := h.cons (c76 R)
  have h : Holds q393 := h.cons (c67 R)
  have h : Holds q394 := h.cons (c47 R)
  exact ⟨_, List.mem_of_getElem? (i := 14) rfl, _, List.mem_of_getElem? (i := 3) rfl, h⟩
theorem n238 [Val] (R : In64) (h : Holds q395) : Some0 := by
  have h : Holds q396 := h.cons (c76 R)
  have h : Holds q397 := h.cons (c67 R)
  have h : Holds q398 := h.cons (c47 R)
  exact ⟨_, List.mem_of_getElem? (i := 14) rfl, _, List.mem_of_getElem? (i := 4) rfl, h⟩
theorem n236 [Val] (R : In64) (h : Holds q387) : Some0 := by
  have h : Holds q388 := h.cons (c73 R)
  have h : Holds q389 := h.cons (c74 R)
  have h : Holds q390 := h.cons (c75 R)
  cases hb : Bx.eval b115 with
  | true => exact n237 R (h.cons hb)
  | false => exact n238 R (h.cons hb)
theorem n239 [Val] (R : In64) (h : Holds q399) : Some0 := by
  have h : Holds q400 := h.cons (c73 R)
  have h : Holds q401 := h.cons (c74 R)
  have h : Holds q402 := h.cons (c77 R)
  have h : Holds q403 := h.cons (c78 R)
  have h : Holds q404 := h.cons (c76 R)
  have h : Holds q405 := h.cons (c67 R)
  have h : Holds q406 := h.cons (c47 R)
  exact ⟨_, List.mem_of_getElem? (i := 14) rfl, _, List.mem_of_getElem? (i := 5) rfl, h⟩
theorem n235 [Val] (R : In64) (h : Holds q385) : Some0 := by
  have h : Holds q386 := h.cons (c72 R (h.at 0 rfl))
  cases hb : Bx.eval b111 with
  | true => exact n236 R (h.cons hb)
  | false => exact n239 R (h.cons hb)
theorem n240 [Val] (R : In64) (h : Holds q407) : Some0 := by
  have h : Holds q408 := h.cons (c70 R (h.at 2 rfl))
  have h : Holds q409 := h.cons (c79 R (h.at 3 rfl))
  have h : Holds q410 := h.cons (c76 R)
  have h : Holds q411 := h.cons (c67 R)
  have h : Holds q412 := h.cons (c47 R)
  exact ⟨_, List.mem_of_getElem? (i := 14) rfl, _, List.mem_of_getElem? (i := 6) rfl, h⟩
theorem n234 [Val] (R : In64) (h : Holds q384) : Some0 := by
  cases hb : Bx.eval b97 with
  | true => exact n235 R (h.cons hb)
  | false => exact n240 R (h.cons hb)
theorem n218 [Val] (R : In64) (h : Holds q341) : Some0 := by
  have h : Holds q342 := h.cons (c62 R (h.at 0 rfl))
  cases hb : Bx.eval b96 with
  | true => exact n219 R (h.cons hb)
  | false => exact n234 R (h.cons hb)
theorem n241 [Val] (R : In64) (h : Holds q413) : Some0 := by
  have h : Holds q414 := h.cons (c60 R (h.at 2 rfl))
  have h : Holds q415 := h.cons (c80 R (h.at 3 rfl))
  have h : Holds q416 := h.cons (c67 R)
  have h : Holds q417 := h.cons (c47 R)
  exact ⟨_, List.mem_of_getElem? (i := 14) rfl, _, List.mem_of_getElem? (i := 7) rfl, h⟩
theorem n217 [Val] (R : In64) (h : Holds q340) : Some0 := by
  cases hb : Bx.eval b66 with
  | true => exact n218 R (h.cons hb)
  | false => exact n241 R (h.cons hb)
theorem n165 [Val] (R : In64) (h : Holds q234) : Some0 := by
  have h : Holds q235 := h.cons (c41 R (h.at 0 rfl))
  cases hb : Bx.eval b65 with
  | true => exact n166 R (h.cons hb)
  | false => exact n217 R (h.cons hb)
theorem n242 [Val] (R : In64) (h : Holds q418) : Some0 := by
  have h : Holds q419 := h.cons (c39 R (h.at 2 rfl))
  have h : Holds q420 := h.cons (c81 R (h.at 3 rfl))
  have h : Holds q421 := h.cons (c47 R)
  exact ⟨_, List.mem_of_getElem? (i := 15) rfl, _, List.mem_of_getElem? (i := 0) rfl, h⟩
theorem n164 [Val] (R : In64) (h : Holds q233) : Some0 := by
  cases hb : Bx.eval b4 with
  | true => exact n165 R (h.cons hb)
  | false => exact n242 R (h.cons hb)
theorem n4 [Val] (R : In64) (h : Holds q3) : Some0 := by
  cases hb : Bx.eval b3 with
  | true => exact n5 R (h.cons hb)
  | false => exact n164 R (h.cons hb)
theorem n244 [Val] (R : In64) (h : Holds q423) : Some0 := by
  have _ := R 0
  exact ⟨_, List.mem_of_getElem? (i := 15) rfl, _, List.mem_of_getElem? (i := 1) rfl, h⟩
theorem n248 [Val] (R : In64) (h : Holds q429) : Some0 := by
  have _ := R 0
  exact ⟨_, List.mem_of_getElem? (i := 15) rfl, _, List.mem_of_getElem? (i := 2) rfl, h⟩
theorem n249 [Val] (R : In64) (h : Holds q430) : Some0 := by
  have _ := R 0
  exact ⟨_, List.mem_of_getElem? (i := 15) rfl, _, List.mem_of_getElem? (i := 3) rfl, h⟩
theorem n247 [Val] (R : In64) (h : Holds q427) : Some0 := by
  have h : Holds q428 := h.cons (c40 R (h.at 0 rfl))
  cases hb : Bx.eval b19 with
  | true => exact n248 R (h.cons hb)
  | false => exact n249 R (h.cons hb)
theorem n254 [Val] (R : In64) (h : Holds q439) : Some0 := by
  have _ := R 0
  exact ⟨_, List.mem_of_getElem? (i := 15) rfl, _, List.mem_of_getElem? (i := 4) rfl, h⟩
theorem n255 [Val] (R : In64) (h : Holds q440) : Some0 := by
  have _ := R 0
  exact ⟨_, List.mem_of_getElem? (i := 15) rfl, _, List.mem_of_getElem? (i := 5) rfl, h⟩
theorem n253 [Val] (R : In64) (h : Holds q438) : Some0 := by
  cases hb : Bx.eval b19 with
  | true => exact n254 R (h.cons hb)
  | false => exact n255 R (h.cons hb)
theorem n257 [Val] (R : In64) (h : Holds q442) : Some0 := by
  have _ := R 0
  exact ⟨_, List.mem_of_getElem? (i := 15) rfl, _, List.mem_of_getElem? (i := 6) rfl, h⟩
theorem n258 [Val] (R : In64) (h : Holds q443) : Some0 := by
  have _ := R 0
  exact ⟨_, List.mem_of_getElem? (i := 15) rfl, _, List.mem_of_getElem? (i := 7) rfl, h⟩
theorem n256 [Val] (R : In64) (h : Holds q441) : Some0 := by
  cases hb : Bx.eval b19 with
  | true => exact n257 R (h.cons hb)
  | false => exact n258 R (h.cons hb)
theorem n252 [Val] (R : In64) (h : Holds q436) : Some0 := by
  have h : Holds q437 := h.cons (c19 R (h.at 0 rfl))
  cases hb : Bx.eval b18 with
  | true => exact n253 R (h.cons hb)
  | false => exact n256 R (h.cons hb)
theorem n264 [Val] (R : In64) (h : Holds q453) : Some0 := by
  have _ := R 0
  exact ⟨_, List.mem_of_getElem? (i := 16) rfl, _, List.mem_of_getElem? (i := 0) rfl, h⟩
theorem n265 [Val] (R : In64) (h : Holds q454) : Some0 := by
  have _ := R 0
  exact ⟨_, List.mem_of_getElem? (i := 16) rfl, _, List.mem_of_getElem? (i := 1) rfl, h⟩
theorem n263 [Val] (R : In64) (h : Holds q452) : Some0 := by
  cases hb : Bx.eval b19 with
  | true => exact n264 R (h.cons hb)
  | false => exact n265 R (h.cons hb)
theorem n267 [Val] (R : In64) (h : Holds q456) : Some0 := by
  have _ := R 0
  exact ⟨_, List.mem_of_getElem? (i := 16) rfl, _, List.mem_of_getElem? (i := 2) rfl, h⟩
theorem n268 [Val] (R : In64) (h : Holds q457) : Some0 := by
  have _ := R 0
  exact ⟨_, List.mem_of_getElem? (i := 16) rfl, _, List.mem_of_getElem? (i := 3) rfl, h⟩
theorem n266 [Val] (R : In64) (h : Holds q455) : Some0 := by
  cases hb : Bx.eval b19 with
  | true => exact n267 R (h.cons hb)
  | false => exact n268 R (h.cons hb)
theorem n262 [Val] (R : In64) (h : Holds q451) : Some0 := by
  cases hb : Bx.eval b18 with
  | true => exact n263 R (h.cons hb)
  | false => exact n266 R (h.cons hb)
theorem n271 [Val] (R : In64) (h : Holds q460) : Some0 := by
  have _ := R 0
  exact ⟨_, List.mem_of_getElem? (i := 16) rfl, _, List.mem_of_getElem? (i := 4) rfl, h⟩
theorem n272 [Val] (R : In64) (h : Holds q461) : Some0 := by
  have _ := R 0
  exact ⟨_, List.mem_of_getElem? (i := 16) rfl, _, List.mem_of_getElem? (i := 5) rfl, h⟩
theorem n270 [Val] (R : In64) (h : Holds q459) : Some0 := by
  cases hb : Bx.eval b19 with
  | true => exact n271 R (h.cons hb)
  | false => exact n272 R (h.cons hb)
theorem n274 [Val] (R : In64) (h : Holds q463) : Some0 := by
  have _ := R 0
  exact ⟨_, List.mem_of_getElem? (i := 16) rfl, _, List.mem_of_getElem? (i := 6) rfl, h⟩
theorem n275 [Val] (R : In64) (h : Holds q464) : Some0 := by
  have _ := R 0
  exact ⟨_, List.mem_of_getElem? (i := 16) rfl, _, List.mem_of_getElem? (i := 7) rfl, h⟩
theorem n273 [Val] (R : In64) (h : Holds q462) : Some0 := by
  cases hb : Bx.eval b19 with
  | true => exact n274 R (h.cons hb)
  | false => exact n275 R (h.cons hb)
theorem n269 [Val] (R : In64) (h : Holds q458) : Some0 := by
  cases hb : Bx.eval b18 with
  | true => exact n270 R (h.cons hb)
  | false => exact n273 R (h.cons hb)
theorem n261 [Val] (R : In64) (h : Holds q449) : Some0 := by
  have h : Holds q450 := h.cons (c9 R (h.at 0 rfl))
  cases hb : Bx.eval b17 with
  | true => exact n262 R (h.cons hb)
  | false => exact n269 R (h.cons hb)
theorem n281 [Val] (R : In64) (h : Holds q475) : Some0 := by
  have _ := R 0
  exact ⟨_, List.mem_of_getElem? (i := 17) rfl, _, List.mem_of_getElem? (i := 0) rfl, h⟩
theorem n282 [Val] (R : In64) (h : Holds q476) : Some0 := by
  have _ := R 0
  exact ⟨_, List.mem_of_getElem? (i := 17) rfl, _, List.mem_of_getElem? (i := 1) rfl, h⟩
theorem n280 [Val] (R : In64) (h : Holds q474) : Some0 := by
  cases hb : Bx.eval b19 with
  | true => exact n281 R (h.cons hb)
  | false => exact n282 R (h.cons hb)
theorem n284 [Val] (R : In64) (h : Holds q478) : Some0 := by
  have _ := R 0
  exact ⟨_, List.mem_of_getElem? (i := 17) rfl, _, List.mem_of_getElem? (i := 2) rfl, h⟩
theorem n285 [Val] (R : In64) (h : Holds q479) : Some0 := by
  have _ := R 0
  exact ⟨_, List.mem_of_getElem? (i := 17) rfl, _, List.mem_of_getElem? (i := 3) rfl, h⟩
theorem n283 [Val] (R : In64) (h : Holds q477) : Some0 := by
  cases hb : Bx.eval b19 with
  | true => exact n284 R (h.cons hb)
  | false => exact n285 R (h.cons hb)
theorem n279 [Val] (R : In64) (h : Holds q473) : Some0 := by
  cases hb : Bx.eval b18 with
  | true => exact n280 R (h.cons hb)
  | false => exact n283 R (h.cons hb)
theorem n288 [Val] (R : In64) (h : Holds q482) : Some0 := by
  have _ := R 0
  exact ⟨_, List.mem_of_getElem? (i := 17) rfl, _, List.mem_of_getElem? (i := 4) rfl, h⟩
theorem n289 [Val] (R : In64) (h : Holds q483) : Some0 := by
  have _ := R 0
  exact ⟨_, List.mem_of_getElem? (i := 17) rfl, _, List.mem_of_getElem? (i := 5) rfl, h⟩
theorem n287 [Val] (R : In64) (h : Holds q481) : Some0 := by
  cases hb : Bx.eval b19 with
  | true => exact n288 R (h.cons hb)
  | false => exact n289 R (h.cons hb)
theorem n291 [Val] (R : In64) (h : Holds q485) : Some0 := by
  have _ := R 0
  exact ⟨_, List.mem_of_getElem? (i := 17) rfl, _, List.mem_of_getElem? (i := 6) rfl, h⟩
theorem n292 [Val] (R : In64) (h : Holds q486) : Some0 := by
  have _ := R 0
  exact ⟨_, List.mem_of_getElem? (i := 17) rfl, _, List.mem_of_getElem? (i := 7) rfl, h⟩
theorem n290 [Val] (R : In64) (h : Holds q484) : Some0 := by
  cases hb : Bx.eval b19 with
  | true => exact n291 R (h.cons hb)
  | false => exact n292 R (h.cons hb)
theorem n286 [Val] (R : In64) (h : Holds q480) : Some0 := by
  cases hb : Bx.eval b18 with
  | true => exact n287 R (h.cons hb)
  | false => exact n290 R (h.cons hb)
theorem n278 [Val] (R : In64) (h : Holds q472) : Some0 := by
  cases hb : Bx.eval b17 with
  | true => exact n279 R (h.cons hb)
  | false => exact n286 R (h.cons hb)
theorem n296 [Val] (R : In64) (h : Holds q490) : Some0 := by
  have _ := R 0
  exact ⟨_, List.mem_of_getElem? (i := 18) rfl, _, List.mem_of_getElem? (i := 0) rfl, h⟩
theorem n297 [Val] (R : In64) (h : Holds q491) : Some0 := by
  have _ := R 0
  exact ⟨_, List.mem_of_getElem? (i := 18) rfl, _, List.mem_of_getElem? (i := 1) rfl, h⟩
theorem n295 [Val] (R : In64) (h : Holds q489) : Some0 := by
  cases hb : Bx.eval b19 with
  | true => exact n296 R (h.cons hb)
  | false => exact n297 R (h.cons hb)
theorem n299 [Val] (R : In64) (h : Holds q493) : Some0 := by
  have _ := R 0
  exact ⟨_, List.mem_of_getElem? (i := 18) rfl, _, List.mem_of_getElem? (i := 2) rfl, h⟩
theorem n300 [Val] (R : In64) (h : Holds q494) : Some0 := by
  have _ := R 0
  exact ⟨_, List.mem_of_getElem? (i := 18) rfl, _, List.mem_of_getElem? (i := 3) rfl, h⟩
theorem n298 [Val] (R : In64) (h : Holds q492) : Some0 := by
  cases hb : Bx.eval b19 with
  | true => exact n299 R (h.cons hb)
  | false => exact n300 R (h.cons hb)
theorem n294 [Val] (R : In64) (h : Holds q488) : Some0 := by
  cases hb : Bx.eval b18 with
  | true => exact n295 R (h.cons hb)
  | false => exact n298 R (h.cons hb)
theorem n303 [Val] (R : In64) (h : Holds q497) : Some0 := by
  have _ := R 0
  exact ⟨_, List.mem_of_getElem? (i := 18) rfl, _, List.mem_of_getElem? (i := 4) rfl, h⟩
theorem n304 [Val] (R : In64) (h : Holds q498) : Some0 := by
  have _ := R 0
  exact ⟨_, List.mem_of_getElem? (i := 18) rfl, _, List.mem_of_getElem? (i := 5) rfl, h⟩
theorem n302 [Val] (R : In64) (h : Holds q496) : Some0 := by
  cases hb : Bx.eval b19 with
  | true => exact n303 R (h.cons hb)
  | false => exact n304 R (h.cons hb)
theorem n306 [Val] (R : In64) (h : Holds q500) : Some0 := by
  have _ := R 0
  exact ⟨_, List.mem_of_getElem? (i := 18) rfl, _, List.mem_of_getElem? (i := 6) rfl, h⟩
theorem n307 [Val] (R : In64) (h : Holds q501) : Some0 := by
  have _ := R 0
  exact ⟨_, List.mem_of_getElem? (i := 18) rfl, _, List.mem_of_getElem? (i := 7) rfl, h⟩
theorem n305 [Val] (R : In64) (h : Holds q499) : Some0 := by
  cases hb : Bx.eval b19 with
  | true => exact n306 R (h.cons hb)
  | false => exact n307 R (h.cons hb)
theorem n301 [Val] (R : In64) (h : Holds q495) : Some0 := by
  cases hb : Bx.eval b18 with
  | true => exact n302 R (h.cons hb)
  | false => exact n305 R (h.cons hb)
theorem n293 [Val] (R : In64) (h : Holds q487) : Some0 := by
  cases hb : Bx.eval b17 with
  | true => exact n294 R (h.cons hb)
  | false => exact n301 R (h.cons hb)
theorem n277 [Val] (R : In64) (h : Holds q468) : Some0 := by
  have h : Holds q469 := h.cons (c3 R)
  have h : Holds q470 := h.cons (c4 R)
  have h : Holds q471 := h.cons (c5 R)
  cases hb : Bx.eval b16 with
  | true => exact n278 R (h.cons hb)
  | false => exact n293 R (h.cons hb)
theorem n311 [Val] (R : In64) (h : Holds q509) : Some0 := by
  have _ := R 0
  exact ⟨_, List.mem_of_getElem? (i := 19) rfl, _, List.mem_of_getElem? (i := 0) rfl, h⟩
theorem n312 [Val] (R : In64) (h : Holds q510) : Some0 := by
  have _ := R 0
  exact ⟨_, List.mem_of_getElem? (i := 19) rfl, _, List.mem_of_getElem? (i := 1) rfl, h⟩
theorem n310 [Val] (R : In64) (h : Holds q508) : Some0 := by
  cases hb : Bx.eval b19 with
  | true => exact n311 R (h.cons hb)
  | false => exact n312 R (h.cons hb)
theorem n314 [Val] (R : In64) (h : Holds q512) : Some0 := by
  have _ := R 0
  exact ⟨_, List.mem_of_getElem? (i := 19) rfl, _, List.mem_of_getElem? (i := 2) rfl, h⟩
theorem n315 [Val] (R : In64) (h : Holds q513) : Some0 := by
  have _ := R 0
  exact ⟨_, List.mem_of_getElem? (i := 19) rfl, _, List.mem_of_getElem? (i := 3) rfl, h⟩
theorem n313 [Val] (R : In64) (h : Holds q511) : Some0 := by
  cases hb : Bx.eval b19 with
  | true => exact n314 R (h.cons hb)
  | false => exact n315 R (h.cons hb)
theorem n309 [Val] (R : In64) (h : Holds q507) : Some0 := by
  cases hb : Bx.eval b18 with
  | true => exact n310 R (h.cons hb)
  | false => exact n313 R (h.cons hb)
theorem n318 [Val] (R : In64) (h : Holds q516) : Some0 := by
  have _ := R 0
  exact ⟨_, List.mem_of_getElem? (i := 19) rfl, _, List.mem_of_getElem? (i := 4) rfl, h⟩
theorem n319 [Val] (R : In64) (h : Holds q517) : Some0 := by
  have _ := R 0
  exact ⟨_, List.mem_of_getElem? (i := 19) rfl, _, List.mem_of_getElem? (i := 5) rfl, h⟩
theorem n317 [Val] (R : In64) (h : Holds q515) : Some0 := by
  cases hb : Bx.eval b19 with
  | true => exact n318 R (h.cons hb)
  | false => exact n319 R (h.cons hb)
theorem n321 [Val] (R : In64) (h : Holds q519) : Some0 := by
  have _ := R 0
  exact ⟨_, List.mem_of_getElem? (i := 19) rfl, _, List.mem_of_getElem? (i := 6) rfl, h⟩
theorem n322 [Val] (R : In64) (h : Holds q520) : Some0 := by
  have _ := R 0
  exact ⟨_, List.mem_of_getElem? (i := 19) rfl, _, List.mem_of_getElem? (i := 7) rfl, h⟩
theorem n320 [Val] (R : In64) (h : Holds q518) : Some0 := by
  cases hb : Bx.eval b19 with
  | true => exact n321 R (h.cons hb)
  | false => exact n322 R (h.cons hb)
theorem n316 [Val] (R : In64) (h : Holds q514) : Some0 := by
  cases hb : Bx.eval b18 with
  | true => exact n317 R (h.cons hb)
  | false => exact n320 R (h.cons hb)
theorem n308 [Val] (R : In64) (h : Holds q502) : Some0 := by
  have h : Holds q503 := h.cons (c3 R)
  have h : Holds q504 := h.cons (c4 R)
  have h : Holds q505 := h.cons (c6 R)
  have h : Holds q506 := h.cons (c7 R)
  cases hb : Bx.eval b17 with
  | true => exact n309 R (h.cons hb)
  | false => exact n316 R (h.cons hb)
theorem n276 [Val] (R : In64) (h : Holds q465) : Some0 := by
  have h : Holds q466 := h.cons (c89 R (h.at 0 rfl))
  have h : Holds q467 := h.cons (c90 R (h.at 1 rfl))
  cases hb : Bx.eval b12 with
  | true => exact n277 R (h.cons hb)
  | false => exact n308 R (h.cons hb)
theorem n260 [Val] (R : In64) (h : Holds q447) : Some0 := by
  have h : Holds q448 := h.cons (c88 R (h.at 1 rfl))
  cases hb : Bx.eval b22 with
  | true => exact n261 R (h.cons hb)
  | false => exact n276 R (h.cons hb)
theorem n327 [Val] (R : In64) (h : Holds q527) : Some0 := by
  have _ := R 0
  exact ⟨_, List.mem_of_getElem? (i := 20) rfl, _, List.mem_of_getElem? (i := 0) rfl, h⟩
theorem n328 [Val] (R : In64) (h : Holds q528) : Some0 := by
  have _ := R 0
  exact ⟨_, List.mem_of_getElem? (i := 20) rfl, _, List.mem_of_getElem? (i := 1) rfl, h⟩
theorem n326 [Val] (R : In64) (h : Holds q526) : Some0 := by
  cases hb : Bx.eval b19 with
  | true => exact n327 R (h.cons hb)
  | false => exact n328 R (h.cons hb)
theorem n330 [Val] (R : In64) (h : Holds q530) : Some0 := by
  have _ := R 0
  exact ⟨_, List.mem_of_getElem? (i := 20) rfl, _, List.mem_of_getElem? (i := 2) rfl, h⟩
theorem n331 [Val] (R : In64) (h : Holds q531) : Some0 := by
  have _ := R 0
  exact ⟨_, List.mem_of_getElem? (i := 20) rfl, _, List.mem_of_getElem? (i := 3) rfl, h⟩
theorem n329 [Val] (R : In64) (h : Holds q529) : Some0 := by
  cases hb : Bx.eval b19 with
  | true => exact n330 R (h.cons hb)
  | false => exact n331 R (h.cons hb)
theorem n325 [Val] (R : In64) (h : Holds q524) : Some0 := by
  have h : Holds q525 := h.cons (c14 R)
  cases hb : Bx.eval b18 with
  | true => exact n326 R (h.cons hb)
  | false => exact n329 R (h.cons hb)
theorem n334 [Val] (R : In64) (h : Holds q535) : Some0 := by
  have _ := R 0
  exact ⟨_, List.mem_of_getElem? (i := 20) rfl, _, List.mem_of_getElem? (i := 4) rfl, h⟩
theorem n335 [Val] (R : In64) (h : Holds q536) : Some0 := by
  have _ := R 0
  exact ⟨_, List.mem_of_getElem? (i := 20) rfl, _, List.mem_of_getElem? (i := 5) rfl, h⟩
theorem n333 [Val] (R : In64) (h : Holds q534) : Some0 := by
  cases hb : Bx.eval b19 with
  | true => exact n334 R (h.cons hb)
  | false => exact n335 R (h.cons hb)
theorem n337 [Val] (R : In64) (h : Holds q538) : Some0 := by
  have _ := R 0
  exact ⟨_, List.mem_of_getElem? (i := 20) rfl, _, List.mem_of_getElem? (i := 6) rfl, h⟩
theorem n338 [Val] (R : In64) (h : Holds q539) : Some0 := by
  have _ := R 0
  exact ⟨_, List.mem_of_getElem? (i := 20) rfl, _, List.mem_of_getElem? (i := 7) rfl, h⟩
theorem n336 [Val] (R : In64) (h : Holds q537) : Some0 := by
  cases hb : Bx.eval b19 with
  | true => exact n337 R (h.cons hb)
  | false => exact n338 R (h.cons hb)
theorem n332 [Val] (R : In64) (h : Holds q532) : Some0 := by
  have h : Holds q533 := h.cons (c14 R)
  cases hb : Bx.eval b18 with
  | true => exact n333 R (h.cons hb)
  | false => exact n336 R (h.cons hb)
theorem n324 [Val] (R : In64) (h : Holds q523) : Some0 := by
  cases hb : Bx.eval b33 with
  | true => exact n325 R (h.cons hb)
  | false => exact n332 R (h.cons hb)
theorem n343 [Val] (R : In64) (h : Holds q550) : Some0 := by
  have _ := R 0
  exact ⟨_, List.mem_of_getElem? (i := 21) rfl, _, List.mem_of_getElem? (i := 0) rfl, h⟩
theorem n344 [Val] (R : In64) (h : Holds q551) : Some0 := by
  have _ := R 0
  exact ⟨_, List.mem_of_getElem? (i := 21) rfl, _, List.mem_of_getElem? (i := 1) rfl, h⟩
theorem n342 [Val] (R : In64) (h : Holds q549) : Some0 := by
  cases hb : Bx.eval b19 with
  | true => exact n343 R (h.cons hb)
  | false => exact n344 R (h.cons hb)
theorem n346 [Val] (R : In64) (h : Holds q553) : Some0 := by
  have _ := R 0
  exact ⟨_, List.mem_of_getElem? (i := 21) rfl, _, List.mem_of_getElem? (i := 2) rfl, h⟩
theorem n347 [Val] (R : In64) (h : Holds q554) : Some0 := by
  have _ := R 0
  exact ⟨_, List.mem_of_getElem? (i := 21) rfl, _, List.mem_of_getElem? (i := 3) rfl, h⟩
theorem n345 [Val] (R : In64) (h : Holds q552) : Some0 := by
  cases hb : Bx.eval b19 with
  | true => exact n346 R (h.cons hb)
  | false => exact n347 R (h.cons hb)
theorem n341 [Val] (R : In64) (h : Holds q547) : Some0 := by
  have h : Holds q548 := h.cons (c14 R)
  cases hb : Bx.eval b18 with
  | true => exact n342 R (h.cons hb)
  | false => exact n345 R (h.cons hb)
theorem n350 [Val] (R : In64) (h : Holds q558) : Some0 := by
  have _ := R 0
  exact ⟨_, List.mem_of_getElem? (i := 21) rfl, _, List.mem_of_getElem? (i := 4) rfl, h⟩
theorem n351 [Val] (R : In64) (h : Holds q559) : Some0 := by
  have _ := R 0
  exact ⟨_, List.mem_of_getElem? (i := 21) rfl, _, List.mem_of_getElem? (i := 5) rfl, h⟩
theorem n349 [Val] (R : In64) (h : Holds q557) : Some0 := by
  cases hb : Bx.eval b19 with
  | true => exact n350 R (h.cons hb)
  | false => exact n351 R (h.cons hb)
theorem n353 [Val] (R : In64) (h : Holds q561) : Some0 := by
  have _ := R 0
  exact ⟨_, List.mem_of_getElem? (i := 21) rfl, _, List.mem_of_getElem? (i := 6) rfl, h⟩
theorem n354 [Val] (R : In64) (h : Holds q562) : Some0 := by
  have _ := R 0
  exact ⟨_, List.mem_of_getElem? (i := 21) rfl, _, List.mem_of_getElem? (i := 7) rfl, h⟩
theorem n352 [Val] (R : In64) (h : Holds q560) : Some0 := by
  cases hb : Bx.eval b19 with
  | true => exact n353 R (h.cons hb)
  | false => exact n354 R (h.cons hb)
theorem n348 [Val] (R : In64) (h : Holds q555) : Some0 := by
  have h : Holds q556 := h.cons (c14 R)
  cases hb : Bx.eval b18 with
  | true => exact n349 R (h.cons hb)
  | false => exact n352 R (h.cons hb)
theorem n340 [Val] (R : In64) (h : Holds q543) : Some0 := by
  have h : Holds q544 := h.cons (c11 R)
  have h : Holds q545 := h.cons (c12 R)
  have h : Holds q546 := h.cons (c13 R)
  cases hb : Bx.eval b29 with
  | true => exact n341 R (h.cons hb)
  | false => exact n348 R (h.cons hb)
theorem n357 [Val] (R : In64) (h : Holds q570) : Some0 := by
  have _ := R 0
  exact ⟨_, List.mem_of_getElem? (i := 22) rfl, _, List.mem_of_getElem? (i := 0) rfl, h⟩
theorem n358 [Val] (R : In64) (h : Holds q571) : Some0 := by
  have _ := R 0
  exact ⟨_, List.mem_of_getElem? (i := 22) rfl, _, List.mem_of_getElem? (i := 1) rfl, h⟩
theorem n356 [Val] (R : In64) (h : Holds q569) : Some0 := by
  cases hb : Bx.eval b19 with
  | true => exact n357 R (h.cons hb)
  | false => exact n358 R (h.cons hb)
theorem n360 [Val] (R : In64) (h : Holds q573) : Some0 := by
  have _ := R 0
  exact ⟨_, List.mem_of_getElem? (i := 22) rfl, _, List.mem_of_getElem? (i := 2) rfl, h⟩
theorem n361 [Val] (R : In64) (h : Holds q574) : Some0 := by
  have _ := R 0
  exact ⟨_, List.mem_of_getElem? (i := 22) rfl, _, List.mem_of_getElem? (i := 3) rfl, h⟩
theorem n359 [Val] (R : In64) (h : Holds q572) : Some0 := by
  cases hb : Bx.eval b19 with
  | true => exact n360 R (h.cons hb)
  | false => exact n361 R (h.cons hb)
theorem n355 [Val] (R : In64) (h : Holds q563) : Some0 := by
  have h : Holds q564 := h.cons (c11 R)
  have h : Holds q565 := h.cons (c12 R)
  have h : Holds q566 := h.cons (c15 R)
  have h : Holds q567 := h.cons (c16 R)
  have h : Holds q568 := h.cons (c14 R)
  cases hb : Bx.eval b18 with
  | true => exact n356 R (h.cons hb)
  | false => exact n359 R (h.cons hb)
theorem n339 [Val] (R : In64) (h : Holds q540) : Some0 := by
  have h : Holds q541 := h.cons (c91 R (h.at 0 rfl))
  have h : Holds q542 := h.cons (c92 R (h.at 1 rfl))
  cases hb : Bx.eval b25 with
  | true => exact n340 R (h.cons hb)
  | false => exact n355 R (h.cons hb)
theorem n323 [Val] (R : In64) (h : Holds q521) : Some0 := by
  have h : Holds q522 := h.cons (c88 R (h.at 1 rfl))
  cases hb : Bx.eval b22 with
  | true => exact n324 R (h.cons hb)
  | false => exact n339 R (h.cons hb)
theorem n259 [Val] (R : In64) (h : Holds q444) : Some0 := by
  have h : Holds q445 := h.cons (c86 R (h.at 0 rfl))
  have h : Holds q446 := h.cons (c87 R (h.at 1 rfl))
  cases hb : Bx.eval b9 with
  | true => exact n260 R (h.cons hb)
  | false => exact n323 R (h.cons hb)
theorem n251 [Val] (R : In64) (h : Holds q434) : Some0 := by
  have h : Holds q435 := h.cons (c85 R (h.at 1 rfl))
  cases hb : Bx.eval b34 with
  | true => exact n252 R (h.cons hb)
  | false => exact n259 R (h.cons hb)
theorem n365 [Val] (R : In64) (h : Holds q580) : Some0 := by
  have _ := R 0
  exact ⟨_, List.mem_of_getElem? (i := 22) rfl, _, List.mem_of_getElem? (i := 4) rfl, h⟩
theorem n366 [Val] (R : In64) (h : Holds q581) : Some0 := by
  have _ := R 0
  exact ⟨_, List.mem_of_getElem? (i := 22) rfl, _, List.mem_of_getElem? (i := 5) rfl, h⟩
theorem n364 [Val] (R : In64) (h : Holds q578) : Some0 := by
  have h : Holds q579 := h.cons (c25 R)
  cases hb : Bx.eval b19 with
  | true => exact n365 R (h.cons hb)
  | false => exact n366 R (h.cons hb)
theorem n368 [Val] (R : In64) (h : Holds q584) : Some0 := by
  have _ := R 0
  exact ⟨_, List.mem_of_getElem? (i := 22) rfl, _, List.mem_of_getElem? (i := 6) rfl, h⟩
theorem n369 [Val] (R : In64) (h : Holds q585) : Some0 := by
  have _ := R 0
  exact ⟨_, List.mem_of_getElem? (i := 22) rfl, _, List.mem_of_getElem? (i := 7) rfl, h⟩
theorem n367 [Val] (R : In64) (h : Holds q582) : Some0 := by
  have h : Holds q583 := h.cons (c25 R)
  cases hb : Bx.eval b19 with
  | true => exact n368 R (h.cons hb)
  | false => exact n369 R (h.cons hb)
theorem n363 [Val] (R : In64) (h : Holds q577) : Some0 := by
  cases hb : Bx.eval b61 with
  | true => exact n364 R (h.cons hb)
  | false => exact n367 R (h.cons hb)
theorem n374 [Val] (R : In64) (h : Holds q595) : Some0 := by
  have _ := R 0
  exact ⟨_, List.mem_of_getElem? (i := 23) rfl, _, List.mem_of_getElem? (i := 0) rfl, h⟩
theorem n375 [Val] (R : In64) (h : Holds q596) : Some0 := by
  have _ := R 0
  exact ⟨_, List.mem_of_getElem? (i := 23) rfl, _, List.mem_of_getElem? (i := 1) rfl, h⟩
theorem n373 [Val] (R : In64) (h : Holds q593) : Some0 := by
  have h : Holds q594 := h.cons (c25 R)
  cases hb : Bx.eval b19 with
  | true => exact n374 R (h.cons hb)
  | false => exact n375 R (h.cons hb)
theorem n377 [Val] (R : In64) (h : Holds q599) : Some0 := by
  have _ := R 0
  exact ⟨_, List.mem_of_getElem? (i := 23) rfl, _, List.mem_of_getElem? (i := 2) rfl, h⟩
theorem n378 [Val] (R : In64) (h : Holds q600) : Some0 := by
  have _ := R 0
  exact ⟨_, List.mem_of_getElem? (i := 23) rfl, _, List.mem_of_getElem? (i := 3) rfl, h⟩
theorem n376 [Val] (R : In64) (h : Holds q597) : Some0 := by
  have h : Holds q598 := h.cons (c25 R)
  cases hb : Bx.eval b19 with
  | true => exact n377 R (h.cons hb)
  | false => exact n378 R (h.cons hb)
theorem n372 [Val] (R : In64) (h : Holds q591) : Some0 := by
  have h : Holds q592 := h.cons (c29 R (h.at 0 rfl))
  cases hb : Bx.eval b45 with
  | true => exact n373 R (h.cons hb)
  | false => exact n376 R (h.cons hb)
theorem n383 [Val] (R : In64) (h : Holds q611) : Some0 := by
  have _ := R 0
  exact ⟨_, List.mem_of_getElem? (i := 23) rfl, _, List.mem_of_getElem? (i := 4) rfl, h⟩
theorem n384 [Val] (R : In64) (h : Holds q612) : Some0 := by
  have _ := R 0
  exact ⟨_, List.mem_of_getElem? (i := 23) rfl, _, List.mem_of_getElem? (i := 5) rfl, h⟩
theorem n382 [Val] (R : In64) (h : Holds q609) : Some0 := by
  have h : Holds q610 := h.cons (c25 R)
  cases hb : Bx.eval b19 with
  | true => exact n383 R (h.cons hb)
  | false => exact n384 R (h.cons hb)
theorem n386 [Val] (R : In64) (h : Holds q615) : Some0 := by
  have _ := R 0
  exact ⟨_, List.mem_of_getElem? (i := 23) rfl, _, List.mem_of_getElem? (i := 6) rfl, h⟩
theorem n387 [Val] (R : In64) (h : Holds q616) : Some0 := by
  have _ := R 0
  exact ⟨_, List.mem_of_getElem? (i := 23) rfl, _, List.mem_of_getElem? (i := 7) rfl, h⟩
theorem n385 [Val] (R : In64) (h : Holds q613) : Some0 := by
  have h : Holds q614 := h.cons (c25 R)
  cases hb : Bx.eval b19 with
  | true => exact n386 R (h.cons hb)
  | false => exact n387 R (h.cons hb)
theorem n381 [Val] (R : In64) (h : Holds q608) : Some0 := by
  cases hb : Bx.eval b45 with
  | true => exact n382 R (h.cons hb)
  | false => exact n385 R (h.cons hb)
theorem n390 [Val] (R : In64) (h : Holds q620) : Some0 := by
  have _ := R 0
  exact ⟨_, List.mem_of_getElem? (i := 24) rfl, _, List.mem_of_getElem? (i := 0) rfl, h⟩
theorem n391 [Val] (R : In64) (h : Holds q621) : Some0 := by
  have _ := R 0
  exact ⟨_, List.mem_of_getElem? (i := 24) rfl, _, List.mem_of_getElem? (i := 1) rfl, h⟩
theorem n389 [Val] (R : In64) (h : Holds q618) : Some0 := by
  have h : Holds q619 := h.cons (c25 R)
  cases hb : Bx.eval b19 with
  | true => exact n390 R (h.cons hb)
  | false => exact n391 R (h.cons hb)
theorem n393 [Val] (R : In64) (h : Holds q624) : Some0 := by
  have _ := R 0
  exact ⟨_, List.mem_of_getElem? (i := 24) rfl, _, List.mem_of_getElem? (i := 2) rfl, h⟩
theorem n394 [Val] (R : In64) (h : Holds q625) : Some0 := by
  have _ := R 0
  exact ⟨_, List.mem_of_getElem? (i := 24) rfl, _, List.mem_of_getElem? (i := 3) rfl, h⟩
theorem n392 [Val] (R : In64) (h : Holds q622) : Some0 := by
  have h : Holds q623 := h.cons (c25 R)
  cases hb : Bx.eval b19 with
  | true => exact n393 R (h.cons hb)
  | false => exact n394 R (h.cons hb)
theorem n388 [Val] (R : In64) (h : Holds q617) : Some0 := by
  cases hb : Bx.eval b45 with
  | true => exact n389 R (h.cons hb)
  | false => exact n392 R (h.cons hb)
theorem n380 [Val] (R : In64) (h : Holds q604) : Some0 := by
  have h : Holds q605 := h.cons (c22 R)
  have h : Holds q606 := h.cons (c23 R)
  have h : Holds q607 := h.cons (c24 R)
  cases hb : Bx.eval b44 with
  | true => exact n381 R (h.cons hb)
  | false => exact n388 R (h.cons hb)
theorem n397 [Val] (R : In64) (h : Holds q633) : Some0 := by
  have _ := R 0
  exact ⟨_, List.mem_of_getElem? (i := 24) rfl, _, List.mem_of_getElem? (i := 4) rfl, h⟩
theorem n398 [Val] (R : In64) (h : Holds q634) : Some0 := by
  have _ := R 0
  exact ⟨_, List.mem_of_getElem? (i := 24) rfl, _, List.mem_of_getElem? (i := 5) rfl, h⟩
theorem n396 [Val] (R : In64) (h : Holds q631) : Some0 := by
  have h : Holds q632 := h.cons (c25 R)
  cases hb : Bx.eval b19 with
  | true => exact n397 R (h.cons hb)
  | false => exact n398 R (h.cons hb)
theorem n400 [Val] (R : In64) (h : Holds q637) : Some0 := by
  have _ := R 0
  exact ⟨_, List.mem_of_getElem? (i := 24) rfl, _, List.mem_of_getElem? (i := 6) rfl, h⟩
theorem n401 [Val] (R : In64) (h : Holds q638) : Some0 := by
  have _ := R 0
  exact ⟨_, List.mem_of_getElem? (i := 24) rfl, _, List.mem_of_getElem? (i := 7) rfl, h⟩
theorem n399 [Val] (R : In64) (h : Holds q635) : Some0 := by
  have h : Holds q636 := h.cons (c25 R)
  cases hb : Bx.eval b19 with
  | true => exact n400 R (h.cons hb)
  | false => exact n401 R (h.cons hb)
theorem n395 [Val] (R : In64) (h : Holds q626) : Some0 := by
  have h : Holds q627 := h.cons (c22 R)
  have h : Holds q628 := h.cons (c23 R)
  have h : Holds q629 := h.cons (c26 R)
  have h : Holds q630 := h.cons (c27 R)
  cases hb : Bx.eval b45 with
  | true => exact n396 R (h.cons hb)
  | false => exact n399 R (h.cons hb)
theorem n379 [Val] (R : In64) (h : Holds q601) : Some0 := by
  have h : Holds q602 := h.cons (c96 R (h.at 0 rfl))
  have h : Holds q603 := h.cons (c97 R (h.at 1 rfl))
  cases hb : Bx.eval b40 with
  | true => exact n380 R (h.cons hb)
  | false => exact n395 R (h.cons hb)
theorem n371 [Val] (R : In64) (h : Holds q589) : Some0 := by
  have h : Holds q590 := h.cons (c95 R (h.at 1 rfl))
  cases hb : Bx.eval b49 with
  | true => exact n372 R (h.cons hb)
  | false => exact n379 R (h.cons hb)
theorem n405 [Val] (R : In64) (h : Holds q645) : Some0 := by
  have _ := R 0
  exact ⟨_, List.mem_of_getElem? (i := 25) rfl, _, List.mem_of_getElem? (i := 0) rfl, h⟩
theorem n406 [Val] (R : In64) (h : Holds q646) : Some0 := by
  have _ := R 0
  exact ⟨_, List.mem_of_getElem? (i := 25) rfl, _, List.mem_of_getElem? (i := 1) rfl, h⟩
theorem n404 [Val] (R : In64) (h : Holds q642) : Some0 := by
  have h : Holds q643 := h.cons (c34 R)
  have h : Holds q644 := h.cons (c25 R)
  cases hb : Bx.eval b19 with
  | true => exact n405 R (h.cons hb)
  | false => exact n406 R (h.cons hb)
theorem n408 [Val] (R : In64) (h : Holds q650) : Some0 := by
  have _ := R 0
  exact ⟨_, List.mem_of_getElem? (i := 25) rfl, _, List.mem_of_getElem? (i := 2) rfl, h⟩
theorem n409 [Val] (R : In64) (h : Holds q651) : Some0 := by
  have _ := R 0
  exact ⟨_, List.mem_of_getElem? (i := 25) rfl, _, List.mem_of_getElem? (i := 3) rfl, h⟩
theorem n407 [Val] (R : In64) (h : Holds q647) : Some0 := by
  have h : Holds q648 := h.cons (c34 R)
  have h : Holds q649 := h.cons (c25 R)
  cases hb : Bx.eval b19 with
  | true => exact n408 R (h.cons hb)
  | false => exact n409 R (h.cons hb)
theorem n403 [Val] (R : In64) (h : Holds q641) : Some0 := by
  cases hb : Bx.eval b60 with
  | true => exact n404 R (h.cons hb)
  | false => exact n407 R (h.cons hb)
theorem n413 [Val] (R : In64) (h : Holds q662) : Some0 := by
  have _ := R 0
  exact ⟨_, List.mem_of_getElem? (i := 25) rfl, _, List.mem_of_getElem? (i := 4) rfl, h⟩
theorem n414 [Val] (R : In64) (h : Holds q663) : Some0 := by
  have _ := R 0
  exact ⟨_, List.mem_of_getElem? (i := 25) rfl, _, List.mem_of_getElem? (i := 5) rfl, h⟩
theorem n412 [Val] (R : In64) (h : Holds q659) : Some0 := by
  have h : Holds q660 := h.cons (c34 R)
  have h : Holds q661 := h.cons (c25 R)
  cases hb : Bx.eval b19 with
  | true => exact n413 R (h.cons hb)
  | false => exact n414 R (h.cons hb)
theorem n416 [Val] (R : In64) (h : Holds q667) : Some0 := by
  have _ := R 0
  exact ⟨_, List.mem_of_getElem? (i := 25) rfl, _, List.mem_of_getElem? (i := 6) rfl, h⟩
theorem n417 [Val] (R : In64) (h : Holds q668) : Some0 := by
  have _ := R 0
  exact ⟨_, List.mem_of_getElem? (i := 25) rfl, _, List.mem_of_getElem? (i := 7) rfl, h⟩
theorem n415 [Val] (R : In64) (h : Holds q664) : Some0 := by
  have h : Holds q665 := h.cons (c34 R)
  have h : Holds q666 := h.cons (c25 R)
  cases hb : Bx.eval b19 with
  | true => exact n416 R (h.cons hb)
  | false => exact n417 R (h.cons hb)
theorem n411 [Val] (R : In64) (h : Holds q655) : Some0 := by
  have h : Holds q656 := h.cons (c31 R)
  have h : Holds q657 := h.cons (c32 R)
  have h : Holds q658 := h.cons (c33 R)
  cases hb : Bx.eval b56 with
  | true => exact n412 R (h.cons hb)
  | false => exact n415 R (h.cons hb)
theorem n419 [Val] (R : In64) (h : Holds q676) : Some0 := by
  have _ := R 0
  exact ⟨_, List.mem_of_getElem? (i := 26) rfl, _, List.mem_of_getElem? (i := 0) rfl, h⟩
theorem n420 [Val] (R : In64) (h : Holds q677) : Some0 := by
  have _ := R 0
  exact ⟨_, List.mem_of_getElem? (i := 26) rfl, _, List.mem_of_getElem? (i := 1) rfl, h⟩
theorem n418 [Val] (R : In64) (h : Holds q669) : Some0 := by
  have h : Holds q670 := h.cons (c31 R)
  have h : Holds q671 := h.cons (c32 R)
  have h : Holds q672 := h.cons (c35 R)
  have h : Holds q673 := h.cons (c36 R)
  have h : Holds q674 := h.cons (c34 R)
  have h : Holds q675 := h.cons (c25 R)
  cases hb : Bx.eval b19 with
  | true => exact n419 R (h.cons hb)
  | false => exact n420 R (h.cons hb)
theorem n410 [Val] (R : In64) (h : Holds q652) : Some0 := by
  have h : Holds q653 := h.cons (c98 R (h.at 0 rfl))
  have h : Holds q654 := h.cons (c99 R (h.at 1 rfl))
  cases hb : Bx.eval b52 with
  | true => exact n411 R (h.cons hb)
  | false => exact n418 R (h.cons hb)
theorem n402 [Val] (R : In64) (h : Holds q639) : Some0 := by
  have h : Holds q640 := h.cons (c95 R (h.at 1 rfl))
  cases hb : Bx.eval b49 with
  | true => exact n403 R (h.cons hb)
  | false => exact n410 R (h.cons hb)
theorem n370 [Val] (R : In64) (h : Holds q586) : Some0 := by
  have h : Holds q587 := h.cons (c93 R (h.at 0 rfl))
  have h : Holds q588 := h.cons (c94 R (h.at 1 rfl))
  cases hb : Bx.eval b37 with
  | true => exact n371 R (h.cons hb)
  | false => exact n402 R (h.cons hb)
theorem n362 [Val] (R : In64) (h : Holds q575) : Some0 := by
  have h : Holds q576 := h.cons (c85 R (h.at 1 rfl))
  cases hb : Bx.eval b34 with
  | true => exact n363 R (h.cons hb)
  | false => exact n370 R (h.cons hb)
theorem n250 [Val] (R : In64) (h : Holds q431) : Some0 := by
  have h : Holds q432 := h.cons (c83 R (h.at 0 rfl))
  have h : Holds q433 := h.cons (c84 R (h.at 1 rfl))
  cases hb : Bx.eval b6 with
  | true => exact n251 R (h.cons hb)
  | false => exact n362 R (h.cons hb)
theorem n246 [Val] (R : In64) (h : Holds q425) : Some0 := by
  have h : Holds q426 := h.cons (c82 R (h.at 1 rfl))
  cases hb : Bx.eval b62 with
  | true => exact n247 R (h.cons hb)
  | false => exact n250 R (h.cons hb)
theorem n423 [Val] (R : In64) (h : Holds q681) : Some0 := by
  have h : Holds q682 := h.cons (c47 R)
  exact ⟨_, List.mem_of_getElem? (i := 26) rfl, _, List.mem_of_getElem? (i := 2) rfl, h⟩
theorem n424 [Val] (R : In64) (h : Holds q683) : Some0 := by
  have h : Holds q684 := h.cons (c47 R)
  exact ⟨_, List.mem_of_getElem? (i := 26) rfl, _, List.mem_of_getElem? (i := 3) rfl, h⟩
theorem n422 [Val] (R : In64) (h : Holds q680) : Some0 := by
  cases hb : Bx.eval b121 with
  | true => exact n423 R (h.cons hb)
  | false => exact n424 R (h.cons hb)
theorem n426 [Val] (R : In64) (h : Holds q686) : Some0 := by
  have h : Holds q687 := h.cons (c100 R (h.at 0 rfl) (h.at 1 rfl))
  have h : Holds q688 := h.cons (c101 R (h.at 1 rfl) (h.at 2 rfl))
  have h : Holds q689 := h.cons (c42 R (h.at 0 rfl))
  have h : Holds q690 := h.cons (c102 R (h.at 0 rfl) (h.at 4 rfl))
  have h : Holds q691 := h.cons (c103 R (h.at 1 rfl) (h.at 5 rfl))
  have h : Holds q692 := h.cons (c43 R (h.at 0 rfl))
  have h : Holds q693 := h.cons (c104 R (h.at 0 rfl) (h.at 7 rfl))
  have h : Holds q694 := h.cons (c44 R)
  have h : Holds q695 := h.cons (c45 R)
  have h : Holds q696 := h.cons (c46 R)
  have h : Holds q697 := h.cons (c105 R (h.at 4 rfl) (h.at 11 rfl))
  have h : Holds q698 := h.cons (c106 R (h.at 5 rfl) (h.at 12 rfl))
  have h : Holds q699 := h.cons (c107 R (h.at 6 rfl) (h.at 13 rfl))
  have h : Holds q700 := h.cons (c47 R)
  exact ⟨_, List.mem_of_getElem? (i := 26) rfl, _, List.mem_of_getElem? (i := 4) rfl, h⟩
theorem n430 [Val] (R : In64) (h : Holds q707) : Some0 := by
  have h : Holds q708 := h.cons (c47 R)
  exact ⟨_, List.mem_of_getElem? (i := 26) rfl, _, List.mem_of_getElem? (i := 5) rfl, h⟩
theorem n431 [Val] (R : In64) (h : Holds q709) : Some0 := by
  have h : Holds q710 := h.cons (c47 R)
  exact ⟨_, List.mem_of_getElem? (i := 26) rfl, _, List.mem_of_getElem? (i := 6) rfl, h⟩
theorem n429 [Val] (R : In64) (h : Holds q705) : Some0 := by
  have h : Holds q706 := h.cons (c61 R (h.at 0 rfl))
  cases hb : Bx.eval b77 with
  | true => exact n430 R (h.cons hb)
  | false => exact n431 R (h.cons hb)
theorem n436 [Val] (R : In64) (h : Holds q719) : Some0 := by
  have h : Holds q720 := h.cons (c47 R)
  exact ⟨_, List.mem_of_getElem? (i := 26) rfl, _, List.mem_of_getElem? (i := 7) rfl, h⟩
theorem n437 [Val] (R : In64) (h : Holds q721) : Some0 := by
  have h : Holds q722 := h.cons (c47 R)
  exact ⟨_, List.mem_of_getElem? (i := 27) rfl, _, List.mem_of_getElem? (i := 0) rfl, h⟩
theorem n435 [Val] (R : In64) (h : Holds q718) : Some0 := by
  cases hb : Bx.eval b77 with
  | true => exact n436 R (h.cons hb)
  | false => exact n437 R (h.cons hb)
theorem n439 [Val] (R : In64) (h : Holds q724) : Some0 := by
  have h : Holds q725 := h.cons (c47 R)
  exact ⟨_, List.mem_of_getElem? (i := 27) rfl, _, List.mem_of_getElem? (i := 1) rfl, h⟩
theorem n440 [Val] (R : In64) (h : Holds q726) : Some0 := by
  have h : Holds q727 := h.cons (c47 R)
  exact ⟨_, List.mem_of_getElem? (i := 27) rfl, _, List.mem_of_getElem? (i := 2) rfl, h⟩
theorem n438 [Val] (R : In64) (h : Holds q723) : Some0 := by
  cases hb : Bx.eval b77 with
  | true => exact n439 R (h.cons hb)
  | false => exact n440 R (h.cons hb)
theorem n434 [Val] (R : In64) (h : Holds q716) : Some0 := by
  have h : Holds q717 := h.cons (c51 R (h.at 0 rfl))
  cases hb : Bx.eval b76 with
  | true => exact n435 R (h.cons hb)
  | false => exact n438 R (h.cons hb)
theorem n445 [Val] (R : In64) (h : Holds q737) : Some0 := by
  have h : Holds q738 := h.cons (c47 R)
  exact ⟨_, List.mem_of_getElem? (i := 27) rfl, _, List.mem_of_getElem? (i := 3) rfl, h⟩
theorem n446 [Val] (R : In64) (h : Holds q739) : Some0 := by
  have h : Holds q740 := h.cons (c47 R)
  exact ⟨_, List.mem_of_getElem? (i := 27) rfl, _, List.mem_of_getElem? (i := 4) rfl, h⟩
theorem n444 [Val] (R : In64) (h : Holds q736) : Some0 := by
  cases hb : Bx.eval b77 with
  | true => exact n445 R (h.cons hb)
  | false => exact n446 R (h.cons hb)
theorem n448 [Val] (R : In64) (h : Holds q742) : Some0 := by
  have h : Holds q743 := h.cons (c47 R)
  exact ⟨_, List.mem_of_getElem? (i := 27) rfl, _, List.mem_of_getElem? (i := 5) rfl, h⟩
theorem n449 [Val] (R : In64) (h : Holds q744) : Some0 := by
  have h : Holds q745 := h.cons (c47 R)
  exact ⟨_, List.mem_of_getElem? (i := 27) rfl, _, List.mem_of_getElem? (i := 6) rfl, h⟩
theorem n447 [Val] (R : In64) (h : Holds q741) : Some0 := by
  cases hb : Bx.eval b77 with
  | true => exact n448 R (h.cons hb)
  | false => exact n449 R (h.cons hb)
theorem n443 [Val] (R : In64) (h : Holds q735) : Some0 := by
  cases hb : Bx.eval b76 with
  | true => exact n444 R (h.cons hb)
  | false => exact n447 R (h.cons hb)
theorem n452 [Val] (R : In64) (h : Holds q748) : Some0 := by
  have h : Holds q749 := h.cons (c47 R)
  exact ⟨_, List.mem_of_getElem? (i := 27) rfl, _, List.mem_of_getElem? (i := 7) rfl, h⟩
theorem n453 [Val] (R : In64) (h : Holds q750) : Some0 := by
  have h : Holds q751 := h.cons (c47 R)
  exact ⟨_, List.mem_of_getElem? (i := 28) rfl, _, List.mem_of_getElem? (i := 0) rfl, h⟩
theorem n451 [Val] (R : In64) (h : Holds q747) : Some0 := by
  cases hb : Bx.eval b77 with
  | true => exact n452 R (h.cons hb)
  | false => exact n453 R (h.cons hb)
theorem n455 [Val] (R : In64) (h : Holds q753) : Some0 := by
  have h : Holds q754 := h.cons (c47 R)
  exact ⟨_, List.mem_of_getElem? (i := 28) rfl, _, List.mem_of_getElem? (i := 1) rfl, h⟩
theorem n456 [Val] (R : In64) (h : Holds q755) : Some0 := by
  have h : Holds q756 := h.cons (c47 R)
  exact ⟨_, List.mem_of_getElem? (i := 28) rfl, _, List.mem_of_getElem? (i := 2) rfl, h⟩
theorem n454 [Val] (R : In64) (h : Holds q752) : Some0 := by
  cases hb : Bx.eval b77 with
  | true => exact n455 R (h.cons hb)
  | false => exact n456 R (h.cons hb)
theorem n450 [Val] (R : In64) (h : Holds q746) : Some0 := by
  cases hb : Bx.eval b76 with
  | true => exact n451 R (h.cons hb)
  | false => exact n454 R (h.cons hb)
theorem n442 [Val] (R : In64) (h : Holds q731) : Some0 := by
  have h : Holds q732 := h.cons (c44 R)
  have h : Holds q733 := h.cons (c45 R)
  have h : Holds q734 := h.cons (c46 R)
  cases hb : Bx.eval b75 with
  | true => exact n443 R (h.cons hb)
  | false => exact n450 R (h.cons hb)
theorem n459 [Val] (R : In64) (h : Holds q763) : Some0 := by
  have h : Holds q764 := h.cons (c47 R)
  exact ⟨_, List.mem_of_getElem? (i := 28) rfl, _, List.mem_of_getElem? (i := 3) rfl, h⟩
theorem n460 [Val] (R : In64) (h : Holds q765) : Some0 := by
  have h : Holds q766 := h.cons (c47 R)
  exact ⟨_, List.mem_of_getElem? (i := 28) rfl, _, List.mem_of_getElem? (i := 4) rfl, h⟩
theorem n458 [Val] (R : In64) (h : Holds q762) : Some0 := by
  cases hb : Bx.eval b77 with
  | true => exact n459 R (h.cons hb)
  | false => exact n460 R (h.cons hb)
theorem n462 [Val] (R : In64) (h : Holds q768) : Some0 := by
  have h : Holds q769 := h.cons (c47 R)
  exact ⟨_, List.mem_of_getElem? (i := 28) rfl, _, List.mem_of_getElem? (i := 5) rfl, h⟩
theorem n463 [Val] (R : In64) (h : Holds q770) : Some0 := by
  have h : Holds q771 := h.cons (c47 R)
  exact ⟨_, List.mem_of_getElem? (i := 28) rfl, _, List.mem_of_getElem? (i := 6) rfl, h⟩
theorem n461 [Val] (R : In64) (h : Holds q767) : Some0 := by
  cases hb : Bx.eval b77 with
  | true => exact n462 R (h.cons hb)
  | false => exact n463 R (h.cons hb)
theorem n457 [Val] (R : In64) (h : Holds q757) : Some0 := by
  have h : Holds q758 := h.cons (c44 R)
  have h : Holds q759 := h.cons (c45 R)
  have h : Holds q760 := h.cons (c48 R)
  have h : Holds q761 := h.cons (c49 R)
  cases hb : Bx.eval b76 with
  | true => exact n458 R (h.cons hb)
  | false => exact n461 R (h.cons hb)
theorem n441 [Val] (R : In64) (h : Holds q728) : Some0 := by
  have h : Holds q729 := h.cons (c113 R (h.at 0 rfl))
  have h : Holds q730 := h.cons (c114 R (h.at 1 rfl))
  cases hb : Bx.eval b71 with
  | true => exact n442 R (h.cons hb)
  | false => exact n457 R (h.cons hb)
theorem n433 [Val] (R : In64) (h : Holds q714) : Some0 := by
  have h : Holds q715 := h.cons (c112 R (h.at 1 rfl))
  cases hb : Bx.eval b81 with
  | true => exact n434 R (h.cons hb)
  | false => exact n441 R (h.cons hb)
theorem n467 [Val] (R : In64) (h : Holds q777) : Some0 := by
  have h : Holds q778 := h.cons (c47 R)
  exact ⟨_, List.mem_of_getElem? (i := 28) rfl, _, List.mem_of_getElem? (i := 7) rfl, h⟩
theorem n468 [Val] (R : In64) (h : Holds q779) : Some0 := by
  have h : Holds q780 := h.cons (c47 R)
  exact ⟨_, List.mem_of_getElem? (i := 29) rfl, _, List.mem_of_getElem? (i := 0) rfl, h⟩
theorem n466 [Val] (R : In64) (h : Holds q775) : Some0 := by
  have h : Holds q776 := h.cons (c56 R)
  cases hb : Bx.eval b77 with
  | true => exact n467 R (h.cons hb)
  | false => exact n468 R (h.cons hb)
theorem n470 [Val] (R : In64) (h : Holds q783) : Some0 := by
  have h : Holds q784 := h.cons (c47 R)
  exact ⟨_, List.mem_of_getElem? (i := 29) rfl, _, List.mem_of_getElem? (i := 1) rfl, h⟩
theorem n471 [Val] (R : In64) (h : Holds q785) : Some0 := by
  have h : Holds q786 := h.cons (c47 R)
  exact ⟨_, List.mem_of_getElem? (i := 29) rfl, _, List.mem_of_getElem? (i := 2) rfl, h⟩
theorem n469 [Val] (R : In64) (h : Holds q781) : Some0 := by
  have h : Holds q782 := h.cons (c56 R)
  cases hb : Bx.eval b77 with
  | true => exact n470 R (h.cons hb)
  | false => exact n471 R (h.cons hb)
theorem n465 [Val] (R : In64) (h : Holds q774) : Some0 := by
  cases hb : Bx.eval b92 with
  | true => exact n466 R (h.cons hb)
  | false => exact n469 R (h.cons hb)
theorem n475 [Val] (R : In64) (h : Holds q796) : Some0 := by
  have h : Holds q797 := h.cons (c47 R)
  exact ⟨_, List.mem_of_getElem? (i := 29) rfl, _, List.mem_of_getElem? (i := 3) rfl, h⟩
theorem n476 [Val] (R : In64) (h : Holds q798) : Some0 := by
  have h : Holds q799 := h.cons (c47 R)
  exact ⟨_, List.mem_of_getElem? (i := 29) rfl, _, List.mem_of_getElem? (i := 4) rfl, h⟩
theorem n474 [Val] (R : In64) (h : Holds q794) : Some0 := by
  have h : Holds q795 := h.cons (c56 R)
  cases hb : Bx.eval b77 with
  | true => exact n475 R (h.cons hb)
  | false => exact n476 R (h.cons hb)
theorem n478 [Val] (R : In64) (h : Holds q802) : Some0 := by
  have h : Holds q803 := h.cons (c47 R)
  exact ⟨_, List.mem_of_getElem? (i := 29) rfl, _, List.mem_of_getElem? (i := 5) rfl, h⟩
theorem n479 [Val] (R : In64) (h : Holds q804) : Some0 := by
  have h : Holds q805 := h.cons (c47 R)
  exact ⟨_, List.mem_of_getElem? (i := 29) rfl, _, List.mem_of_getElem? (i := 6) rfl, h⟩
theorem n477 [Val] (R : In64) (h : Holds q800) : Some0 := by
  have h : Holds q801 := h.cons (c56 R)
  cases hb : Bx.eval b77 with
  | true => exact n478 R (h.cons hb)
  | false => exact n479 R (h.cons hb)
theorem n473 [Val] (R : In64) (h : Holds q790) : Some0 := by
  have h : Holds q791 := h.cons (c53 R)
  have h : Holds q792 := h.cons (c54 R)
  have h : Holds q793 := h.cons (c55 R)
  cases hb : Bx.eval b88 with
  | true => exact n474 R (h.cons hb)
  | false => exact n477 R (h.cons hb)
theorem n481 [Val] (R : In64) (h : Holds q812) : Some0 := by
  have h : Holds q813 := h.cons (c47 R)
  exact ⟨_, List.mem_of_getElem? (i := 29) rfl, _, List.mem_of_getElem? (i := 7) rfl, h⟩
theorem n482 [Val] (R : In64) (h : Holds q814) : Some0 := by
  have h : Holds q815 := h.cons (c47 R)
  exact ⟨_, List.mem_of_getElem? (i := 30) rfl, _, List.mem_of_getElem? (i := 0) rfl, h⟩
theorem n480 [Val] (R : In64) (h : Holds q806) : Some0 := by
  have h : Holds q807 := h.cons (c53 R)
  have h : Holds q808 := h.cons (c54 R)
  have h : Holds q809 := h.cons (c57 R)
  have h : Holds q810 := h.cons (c58 R)
  have h : Holds q811 := h.cons (c56 R)
  cases hb : Bx.eval b77 with
  | true => exact n481 R (h.cons hb)
  | false => exact n482 R (h.cons hb)
theorem n472 [Val] (R : In64) (h : Holds q787) : Some0 := by
  have h : Holds q788 := h.cons (c115 R (h.at 0 rfl))
  have h : Holds q789 := h.cons (c116 R (h.at 1 rfl))
  cases hb : Bx.eval b84 with
  | true => exact n473 R (h.cons hb)
  | false => exact n480 R (h.cons hb)
theorem n464 [Val] (R : In64) (h : Holds q772) : Some0 := by
  have h : Holds q773 := h.cons (c112 R (h.at 1 rfl))
  cases hb : Bx.eval b81 with
  | true => exact n465 R (h.cons hb)
  | false => exact n472 R (h.cons hb)
theorem n432 [Val] (R : In64) (h : Holds q711) : Some0 := by
  have h : Holds q712 := h.cons (c110 R (h.at 0 rfl))
  have h : Holds q713 := h.cons (c111 R (h.at 1 rfl))
  cases hb : Bx.eval b68 with
  | true => exact n433 R (h.cons hb)
  | false => exact n464 R (h.cons hb)
theorem n428 [Val] (R : In64) (h : Holds q703) : Some0 := by
  have h : Holds q704 := h.cons (c109 R (h.at 1 rfl))
  cases hb : Bx.eval b93 with
  | true => exact n429 R (h.cons hb)
  | false => exact n432 R (h.cons hb)
theorem n485 [Val] (R : In64) (h : Holds q819) : Some0 := by
  have h : Holds q820 := h.cons (c67 R)
  have h : Holds q821 := h.cons (c47 R)
  exact ⟨_, List.mem_of_getElem? (i := 30) rfl, _, List.mem_of_getElem? (i := 1) rfl, h⟩
theorem n486 [Val] (R : In64) (h : Holds q822) : Some0 := by
  have h : Holds q823 := h.cons (c67 R)
  have h : Holds q824 := h.cons (c47 R)
  exact ⟨_, List.mem_of_getElem? (i := 30) rfl, _, List.mem_of_getElem? (i := 2) rfl, h⟩
theorem n484 [Val] (R : In64) (h : Holds q818) : Some0 := by
  cases hb : Bx.eval b120 with
  | true => exact n485 R (h.cons hb)
  | false => exact n486 R (h.cons hb)
theorem n490 [Val] (R : In64) (h : Holds q832) : Some0 := by
  have h : Holds q833 := h.cons (c67 R)
  have h : Holds q834 := h.cons (c47 R)
  exact ⟨_, List.mem_of_getElem? (i := 30) rfl, _, List.mem_of_getElem? (i := 3) rfl, h⟩
theorem n491 [Val] (R : In64) (h : Holds q835) : Some0 := by
  have h : Holds q836 := h.cons (c67 R)
  have h : Holds q837 := h.cons (c47 R)
  exact ⟨_, List.mem_of_getElem? (i := 30) rfl, _, List.mem_of_getElem? (i := 4) rfl, h⟩
theorem n489 [Val] (R : In64) (h : Holds q830) : Some0 := by
  have h : Holds q831 := h.cons (c71 R (h.at 0 rfl))
  cases hb : Bx.eval b104 with
  | true => exact n490 R (h.cons hb)
  | false => exact n491 R (h.cons hb)
theorem n495 [Val] (R : In64) (h : Holds q846) : Some0 := by
  have h : Holds q847 := h.cons (c67 R)
  have h : Holds q848 := h.cons (c47 R)
  exact ⟨_, List.mem_of_getElem? (i := 30) rfl, _, List.mem_of_getElem? (i := 5) rfl, h⟩
theorem n496 [Val] (R : In64) (h : Holds q849) : Some0 := by
  have h : Holds q850 := h.cons (c67 R)
  have h : Holds q851 := h.cons (c47 R)
  exact ⟨_, List.mem_of_getElem? (i := 30) rfl, _, List.mem_of_getElem? (i := 6) rfl, h⟩
theorem n494 [Val] (R : In64) (h : Holds q845) : Some0 := by
  cases hb : Bx.eval b104 with
  | true => exact n495 R (h.cons hb)
  | false => exact n496 R (h.cons hb)
theorem n498 [Val] (R : In64) (h : Holds q853) : Some0 := by
  have h : Holds q854 := h.cons (c67 R)
  have h : Holds q855 := h.cons (c47 R)
  exact ⟨_, List.mem_of_getElem? (i := 30) rfl, _, List.mem_of_getElem? (i := 7) rfl, h⟩
theorem n499 [Val] (R : In64) (h : Holds q856) : Some0 := by
  have h : Holds q857 := h.cons (c67 R)
  have h : Holds q858 := h.cons (c47 R)
  exact ⟨_, List.mem_of_getElem? (i := 31) rfl, _, List.mem_of_getElem? (i := 0) rfl, h⟩
theorem n497 [Val] (R : In64) (h : Holds q852) : Some0 := by
  cases hb : Bx.eval b104 with
  | true => exact n498 R (h.cons hb)
  | false => exact n499 R (h.cons hb)
theorem n493 [Val] (R : In64) (h : Holds q841) : Some0 := by
  have h : Holds q842 := h.cons (c64 R)
  have h : Holds q843 := h.cons (c65 R)
  have h : Holds q844 := h.cons (c66 R)
  cases hb : Bx.eval b103 with
  | true => exact n494 R (h.cons hb)
  | false => exact n497 R (h.cons hb)
theorem n501 [Val] (R : In64) (h : Holds q864) : Some0 := by
  have h : Holds q865 := h.cons (c67 R)
  have h : Holds q866 := h.cons (c47 R)
  exact ⟨_, List.mem_of_getElem? (i := 31) rfl, _, List.mem_of_getElem? (i := 1) rfl, h⟩
theorem n502 [Val] (R : In64) (h : Holds q867) : Some0 := by
  have h : Holds q868 := h.cons (c67 R)
  have h : Holds q869 := h.cons (c47 R)
  exact ⟨_, List.mem_of_getElem? (i := 31) rfl, _, List.mem_of_getElem? (i := 2) rfl, h⟩
theorem n500 [Val] (R : In64) (h : Holds q859) : Some0 := by
  have h : Holds q860 := h.cons (c64 R)
  have h : Holds q861 := h.cons (c65 R)
  have h : Holds q862 := h.cons (c68 R)
  have h : Holds q863 := h.cons (c69 R)
  cases hb : Bx.eval b104 with
  | true => exact n501 R (h.cons hb)
  | false => exact n502 R (h.cons hb)
theorem n492 [Val] (R : In64) (h : Holds q838) : Some0 := by
  have h : Holds q839 := h.cons (c120 R (h.at 0 rfl))
  have h : Holds q840 := h.cons (c121 R (h.at 1 rfl))
  cases hb : Bx.eval b99 with
  | true => exact n493 R (h.cons hb)
  | false => exact n500 R (h.cons hb)
theorem n488 [Val] (R : In64) (h : Holds q828) : Some0 := by
  have h : Holds q829 := h.cons (c119 R (h.at 1 rfl))
  cases hb : Bx.eval b108 with
  | true => exact n489 R (h.cons hb)
  | false => exact n492 R (h.cons hb)
theorem n505 [Val] (R : In64) (h : Holds q873) : Some0 := by
  have h : Holds q874 := h.cons (c76 R)
  have h : Holds q875 := h.cons (c67 R)
  have h : Holds q876 := h.cons (c47 R)
  exact ⟨_, List.mem_of_getElem? (i := 31) rfl, _, List.mem_of_getElem? (i := 3) rfl, h⟩
theorem n506 [Val] (R : In64) (h : Holds q877) : Some0 := by
  have h : Holds q878 := h.cons (c76 R)
  have h : Holds q879 := h.cons (c67 R)
  have h : Holds q880 := h.cons (c47 R)
  exact ⟨_, List.mem_of_getElem? (i := 31) rfl, _, List.mem_of_getElem? (i := 4) rfl, h⟩
theorem n504 [Val] (R : In64) (h : Holds q872) : Some0 := by
  cases hb : Bx.eval b119 with
  | true => exact n505 R (h.cons hb)
  | false => exact n506 R (h.cons hb)
theorem n509 [Val] (R : In64) (h : Holds q888) : Some0 := by
  have h : Holds q889 := h.cons (c76 R)
  have h : Holds q890 := h.cons (c67 R)
  have h : Holds q891 := h.cons (c47 R)
  exact ⟨_, List.mem_of_getElem? (i := 31) rfl, _, List.mem_of_getElem? (i := 5) rfl, h⟩
theorem n510 [Val] (R : In64) (h : Holds q892) : Some0 := by
  have h : Holds q893 := h.cons (c76 R)
  have h : Holds q894 := h.cons (c67 R)
  have h : Holds q895 := h.cons (c47 R)
  exact ⟨_, List.mem_of_getElem? (i := 31) rfl, _, List.mem_of_getElem? (i := 6) rfl, h⟩
theorem n508 [Val] (R : In64) (h : Holds q884) : Some0 := by
  have h : Holds q885 := h.cons (c73 R)
  have h : Holds q886 := h.cons (c74 R)
  have h : Holds q887 := h.cons (c75 R)
  cases hb : Bx.eval b115 with
  | true => exact n509 R (h.cons hb)
  | false => exact n510 R (h.cons hb)
theorem n511 [Val] (R : In64) (h : Holds q896) : Some0 := by
  have h : Holds q897 := h.cons (c73 R)
  have h : Holds q898 := h.cons (c74 R)
  have h : Holds q899 := h.cons (c77 R)
  have h : Holds q900 := h.cons (c78 R)
  have h : Holds q901 := h.cons (c76 R)
  have h : Holds q902 := h.cons (c67 R)
  have h : Holds q903 := h.cons (c47 R)
  exact ⟨_, List.mem_of_getElem? (i := 31) rfl, _, List.mem_of_getElem? (i := 7) rfl, h⟩
theorem n507 [Val] (R : In64) (h : Holds q881) : Some0 := by
  have h : Holds q882 := h.cons (c122 R (h.at 0 rfl))
  have h : Holds q883 := h.cons (c123 R (h.at 1 rfl))
  cases hb : Bx.eval b111 with
  | true => exact n508 R (h.cons hb)
  | false => exact n511 R (h.cons hb)
theorem n503 [Val] (R : In64) (h : Holds q870) : Some0 := by
  have h : Holds q871 := h.cons (c119 R (h.at 1 rfl))
  cases hb : Bx.eval b108 with
  | true => exact n504 R (h.cons hb)
  | false => exact n507 R (h.cons hb)
theorem n487 [Val] (R : In64) (h : Holds q825) : Some0 := by
  have h : Holds q826 := h.cons (c117 R (h.at 0 rfl))
  have h : Holds q827 := h.cons (c118 R (h.at 1 rfl))
  cases hb : Bx.eval b96 with
  | true => exact n488 R (h.cons hb)
  | false => exact n503 R (h.cons hb)
theorem n483 [Val] (R : In64) (h : Holds q816) : Some0 := by
  have h : Holds q817 := h.cons (c109 R (h.at 1 rfl))
  cases hb : Bx.eval b93 with
  | true => exact n484 R (h.cons hb)
  | false => exact n487 R (h.cons hb)
theorem n427 [Val] (R : In64) (h : Holds q701) : Some0 := by
  have h : Holds q702 := h.cons (c108 R (h.at 0 rfl) (h.at 1 rfl))
  cases hb : Bx.eval b65 with
  | true => exact n428 R (h.cons hb)
  | false => exact n483 R (h.cons hb)
theorem n425 [Val] (R : In64) (h : Holds q685) : Some0 := by
  cases hb : Bx.eval b64 with
  | true => exact n426 R (h.cons hb)
  | false => exact n427 R (h.cons hb)
theorem n421 [Val] (R : In64) (h : Holds q678) : Some0 := by
  have h : Holds q679 := h.cons (c82 R (h.at 1 rfl))
  cases hb : Bx.eval b62 with
  | true => exact n422 R (h.cons hb)
  | false => exact n425 R (h.cons hb)
theorem n245 [Val] (R : In64) (h : Holds q424) : Some0 := by
  cases hb : Bx.eval b3 with
  | true => exact n246 R (h.cons hb)
  | false => exact n421 R (h.cons hb)
theorem n243 [Val] (R : In64) (h : Holds q422) : Some0 := by
  cases hb : Bx.eval b122 with
  | true => exact n244 R (h.cons hb)
  | false => exact n245 R (h.cons hb)
theorem n3 [Val] (R : In64) (h : Holds q2) : Some0 := by
  cases hb : Bx.eval b2 with
  | true => exact n4 R (h.cons hb)
  | false => exact n243 R (h.cons hb)
theorem n512 [Val] (R : In64) (h : Holds q904) : Some0 := by
  have _ := R 0
  exact ⟨_, List.mem_of_getElem? (i := 32) rfl, _, List.mem_of_getElem? (i := 0) rfl, h⟩
theorem n2 [Val] (R : In64) (h : Holds q1) : Some0 := by
  cases hb : Bx.eval b1 with
  | true => exact n3 R (h.cons hb)
  | false => exact n512 R (h.cons hb)
theorem n0 [Val] (R : In64) (h : Holds p0) : Some0 := by
  cases hb : Bx.eval b0 with
  | true => exact n1 R (h.cons hb)
  | false => exact n2 R (h.cons hb)
theorem n514 [Val] (R : In64) (h : Holds q905) : Some1 := by
  have _ := R 0
  exact ⟨_, List.mem_of_getElem? (i := 0) rfl, _, List.mem_of_getElem? (i := 0) rfl, h⟩
theorem n517 [Val] (R : In64) (h : Holds q908) : Some1 := by
  have _ := R 0
  exact ⟨_, List.mem_of_getElem? (i := 0) rfl, _, List.mem_of_getElem? (i := 1) rfl, h⟩
theorem n520 [Val] (R : In64) (h : Holds q914) : Some1 := by
  have h : Holds q915 := h.cons (c127 R (h.at 1 rfl) (h.at 7 rfl) (h.at 6 rfl) (h.at 5 rfl) (h.at 4 rfl))
  have h : Holds q916 := h.cons (c128 R (h.at 8 rfl) (h.at 7 rfl) (h.at 6 rfl) (h.at 5 rfl))
  have h : Holds q917 := h.cons (c129 R (h.at 3 rfl) (h.at 8 rfl) (h.at 9 rfl) (h.at 7 rfl) (h.at 6 rfl))
  have h : Holds q918 := h.cons (c130 R (h.at 0 rfl) (h.at 3 rfl) (h.at 9 rfl) (h.at 10 rfl) (h.at 8 rfl) (h.at 7 rfl))
  have h : Holds q919 := h.cons (c131 R (h.at 4 rfl) (h.at 5 rfl) (h.at 10 rfl) (h.at 11 rfl) (h.at 9 rfl) (h.at 8 rfl))
  have h : Holds q920 := h.cons (c132 R (h.at 0 rfl) (h.at 1 rfl) (h.at 11 rfl) (h.at 12 rfl) (h.at 10 rfl) (h.at 9 rfl))
  exact ⟨_, List.mem_of_getElem? (i := 0) rfl, _, List.mem_of_getElem? (i := 2) rfl, h⟩
theorem n521 [Val] (R : In64) (h : Holds q921) : Some1 := by
  have h : Holds q922 := h.cons (c127 R (h.at 1 rfl) (h.at 7 rfl) (h.at 6 rfl) (h.at 5 rfl) (h.at 4 rfl))
  have h : Holds q923 := h.cons (c128 R (h.at 8 rfl) (h.at 7 rfl) (h.at 6 rfl) (h.at 5 rfl))
  have h : Holds q924 := h.cons (c129 R (h.at 3 rfl) (h.at 8 rfl) (h.at 9 rfl) (h.at 7 rfl) (h.at 6 rfl))
  have h : Holds q925 := h.cons (c133 R (h.at 3 rfl) (h.at 9 rfl) (h.at 10 rfl) (h.at 8 rfl) (h.at 7 rfl))
  have h : Holds q926 := h.cons (c134 R (h.at 10 rfl) (h.at 11 rfl) (h.at 9 rfl) (h.at 8 rfl))
  have h : Holds q927 := h.cons (c135 R (h.at 0 rfl) (h.at 2 rfl) (h.at 11 rfl) (h.at 12 rfl) (h.at 10 rfl) (h.at 9 rfl))
  exact ⟨_, List.mem_of_getElem? (i := 0) rfl, _, List.mem_of_getElem? (i := 3) rfl, h⟩
theorem n519 [Val] (R : In64) (h : Holds q910) : Some1 := by
  have h : Holds q911 := h.cons (c124 R (h.at 0 rfl) (h.at 1 rfl) (h.at 2 rfl) (h.at 3 rfl))
  have h : Holds q912 := h.cons (c125 R (h.at 4 rfl) (h.at 3 rfl) (h.at 2 rfl) (h.at 1 rfl))
  have h : Holds q913 := h.cons (c126 R (h.at 2 rfl) (h.at 3 rfl) (h.at 4 rfl) (h.at 5 rfl))
  cases hb : Bx.eval b144 with
  | true => exact n520 R (h.cons hb)
  | false => exact n521 R (h.cons hb)
theorem n522 [Val] (R : In64) (h : Holds q928) : Some1 := by
  have _ := R 0
  exact ⟨_, List.mem_of_getElem? (i := 0) rfl, _, List.mem_of_getElem? (i := 4) rfl, h⟩
theorem n518 [Val] (R : In64) (h : Holds q909) : Some1 := by
  cases hb : Bx.eval b140 with
  | true => exact n519 R (h.cons hb)
  | false => exact n522 R (h.cons hb)
theorem n516 [Val] (R : In64) (h : Holds q907) : Some1 := by
  cases hb : Bx.eval b139 with
  | true => exact n517 R (h.cons hb)
  | false => exact n518 R (h.cons hb)
theorem n523 [Val] (R : In64) (h : Holds q929) : Some1 := by
  have _ := R 0
  exact ⟨_, List.mem_of_getElem? (i := 0) rfl, _, List.mem_of_getElem? (i := 5) rfl, h⟩
theorem n515 [Val] (R : In64) (h : Holds q906) : Some1 := by
  cases hb : Bx.eval b138 with
  | true => exact n516 R (h.cons hb)
  | false => exact n523 R (h.cons hb)
theorem n513 [Val] (R : In64) (h : Holds p0) : Some1 := by
  cases hb : Bx.eval b137 with
  | true => exact n514 R (h.cons hb)
  | false => exact n515 R (h.cons hb)
theorem all_paths [Val] (R : In64) : Goal := by
  intro W
  obtain ⟨c, hc, e, he, p1⟩ := n0 R Holds.nil
  obtain ⟨c2, hc2, d, hd, p2⟩ := n513 R Holds.nil
  obtain rfl : c2 = E2 := by simpa [EE] using hc2
  obtain ⟨h1, h2⟩ := all_good c hc
  exact cross_calls k1_sound (by kernel_rfl) hd (List.all_eq_true.1 h1 e he) (List.all_eq_true.1 E2_ok d hd) (List.all_eq_true.1 h2 e he) p1 p2 (by kernel_rfl) W (.cons (.sym .i64 (.var 0)) (.cons (.sym .i64 (.var 1)) (.cons (.sym .i64 (.var 2)) (.cons (.sym .i64 (.var 3)) .nil))))
end Go.Proofs.Ytfifebennpenkaa
