/-
  The card of BuildKnown holds: the law of no input is run by the evaluator (TwEval), which is sound (TwSound4), with the tables that the row lists. Condition: those tables read as listed, which the given tie pays.
-/
import Derived.Test.YtbbnjiceenjhcaaGreatDoorTabs0
import Derived.Test.YtbbnjiceenjhcaaGreatDoorRows
import Derived.Test.YtbbnjiceenjhcaaGreatDoorChecked
import Derived.Test.YtbbnjiceenjhcaaGreatDoorCards
import Derived.SevenTiedAt
import Derived.ProofKit
import Derived.Lay
import Derived.Test.YtbbnjiceenjhcaaGreatDoorCalls9
import Derived.Test.YtbbnjiceenjhcaaGreatDoorFacts
import Derived.Test.YtbbnjiceenjhcaaGreatDoorTieB
set_option linter.all false
namespace Go.Proofs.YtbbnjiceenjhcaaGreatDoor
open Go.Tw
theorem tabL0_eq : tabL0 = intsD Rows.laid_strings_asciiSpace := by kernel_rfl
theorem laid_plain : (Rows.buildKnownRow.laid.filter fun x => x.2.handleName?.isSome) = [] := by kernel_rfl
theorem star : "*" ++ "errors.errorString" = "*errors.errorString" := by decide

theorem tab0 {W : World} (h : laidMet Tryz.prog Rows.buildKnownRow.laid W) : TabOk W (1, intsC .u8 tabL0) := by
  rw [tabL0_eq]
  obtain ⟨rest, h1⟩ := laid_at h (i := 0) (n := "strings.asciiSpace") (d := Lib.tabData .u8 (intsD Rows.laid_strings_asciiSpace)) (by kernel_rfl)
  exact tab_ints (Lib.tabIs_of_head (P := Tryz.prog) (g := 1) (t := 733) (e := 5) (n := 256) (by kernel_rfl) (by kernel_rfl) (by kernel_rfl) (by kernel_rfl) (by kernel_rfl) (by kernel_rfl) h1) (by kernel_rfl)

theorem tabs_ok {W : World} (h : laidMetH Tryz.prog Rows.buildKnownRow.laid W) : ∀ p ∈ tabs, TabOk W p := by
  unfold laidMetH at h
  rw [laid_plain] at h
  intro p hp
  simp only [tabs, List.mem_cons, List.not_mem_nil, or_false] at hp
  subst hp
  exact tab0 h
end Go.Proofs.YtbbnjiceenjhcaaGreatDoor
namespace Go.Proofs.YtbbnjiceenjhcaaGreatDoor
open Go.ChangeShapes Go.WideShapes Go.ChangeAt Go.RowKit

theorem buildKnown_card3 : Tryz.prog.funcNamed Rows.buildKnownRow.func = some 3 := by kernel_rfl
theorem buildKnown_card4 : true = Tryz.prog.looks [] := by kernel_rfl
theorem goes_no {P : Program} (h : P.funcs.toList.any Func.goes = false) (f : FuncId) : P.goes f = false := by
  have h2 : P.funcs.any Func.goes = false := by rw [← Array.any_toList]; exact h
  unfold Program.goes
  rw [h2, Bool.and_false, Bool.or_false]
  refine List.any_eq_false.2 fun g _ => ?_
  cases hg : P.funcs[g]? with
  | none => simp
  | some fn =>
    have hm : fn ∈ P.funcs.toList := by
      obtain ⟨hlt, he⟩ := Array.getElem?_eq_some_iff.1 hg
      rw [← he]
      exact Array.getElem_mem_toList hlt
    have := List.any_eq_false.1 h fn hm
    simpa using this
theorem nogo : Tryz.prog.funcs.toList.any Func.goes = false := by kernel_rfl
theorem goesBy_no {c : OpenClaim} {P : Program} {f : FuncId} (h1 : P.funcNamed c.func = some f) (hs : c.start = .entering) (h : P.goes f = false) : false = c.goesBy P := by
  unfold OpenClaim.goesBy Program.goesAt Program.goesFrom
  rw [h1, hs]
  simp [h]
theorem atStart : Rows.buildKnownRow.start = .entering := by kernel_rfl
theorem buildKnown_card5 : false = Rows.buildKnownRow.goesBy Tryz.prog := goesBy_no buildKnown_card3 atStart (goes_no nogo 3)
end Go.Proofs.YtbbnjiceenjhcaaGreatDoor
namespace Go.Proofs.YtbbnjiceenjhcaaGreatDoor.LayB
open Go
theorem lay_cons {P : Program} {n n' g t : Nat} {name : String} {d : DataW Unit} {r : List (String × DataW Unit)} {y : List Value × List Obj} {z : List (Nat × List Value) × List Obj} (h1 : P.globalNamed name = some g) (h2 : (P.globals[g]?).map (·.type) = some t)
    (h3 : d.lay P t n = some y) (hk : n + y.2.length = n') (h4 : Lay.layList P n' r = some z) : Lay.layList P n ((name, d) :: r) = some ((g, y.1) :: z.1, y.2 ++ z.2) := by
  cases hg : P.globals[g]? with
  | none => rw [hg] at h2; cases h2
  | some gl =>
    rw [hg] at h2
    have ht : gl.type = t := Option.some.inj h2
    subst ht
    subst hk
    simp only [Lay.layList, h1, hg, h3, h4]
theorem layVars_eq {P : Program} {w : World} {n : Nat} {l : List (String × DataW Unit)} {y : List (Nat × List Value) × List Obj} (h1 : w.heap.size = n) (h2 : Lay.layList P n l = some y) : w.layVars P l = { w with heap := ⟨Lay.setRows w.heap.toList y.1 ++ y.2⟩ } := by
  subst h1
  unfold World.layVars
  rw [h2]
theorem layFits_eq {P : Program} {w : World} {n : Nat} {l : List (String × DataW Unit)} {B : List Nat} {y : List (Nat × List Value) × List Obj} (h1 : w.heap.size = n) (h2 : Lay.layList P n l = some y) : w.layFits P l B = (decide (y.1.map (·.1)).Nodup && (y.1.all fun r => Lay.isRow w.heap.toList[r.1]? && !B.contains r.1) && B.all (· < w.heap.size)) := by
  subst h1
  unfold World.layFits
  rw [h2]
theorem layIfaces_eq {P : Program} {w w' : World} {n : Nat} {l : List (String × DataW Unit)} {y : List (Nat × List Value) × List Obj} (h1 : w.heap.size = n) (h2 : Lay.layList P n l = some y) : w.layIfaces P l w' = ((y.1.all fun r => r.2.all (Lay.okV P w')) && y.2.all (Lay.okO P w')) := by
  subst h1
  unfold World.layIfaces
  rw [h2]
theorem getD_some {α : Type} {o : Option α} {a : α} (h : o.isSome = true) : o = some (o.getD a) := by
  cases o with
  | none => cases h
  | some x => rfl
theorem find_none {p : Nat → Bool} {a m : Nat} {r : List Nat} (h : (List.range' a m).all (fun i => !p i) = true) : (List.range' a m ++ r).find? p = r.find? p := by
  rw [List.find?_append]
  have : (List.range' a m).find? p = none := List.find?_eq_none.2 fun i hi => by
    have := List.all_eq_true.1 h i hi
    simpa using this
  rw [this]; rfl
noncomputable def isErr (u : Nat) : Bool := Tryz.prog.typeName? 3 u == some "*errors.errorString"
set_option maxRecDepth 1000000 in
theorem notE0 : (List.range' 0 100).all (fun i => !isErr i) = true := by kernel_rfl
set_option maxRecDepth 1000000 in
theorem notE1 : (List.range' 100 100).all (fun i => !isErr i) = true := by kernel_rfl
set_option maxRecDepth 1000000 in
theorem notE2 : (List.range' 200 100).all (fun i => !isErr i) = true := by kernel_rfl
set_option maxRecDepth 1000000 in
theorem notE3 : (List.range' 300 100).all (fun i => !isErr i) = true := by kernel_rfl
set_option maxRecDepth 1000000 in
theorem notE4 : (List.range' 400 100).all (fun i => !isErr i) = true := by kernel_rfl
set_option maxRecDepth 1000000 in
theorem notE5 : (List.range' 500 100).all (fun i => !isErr i) = true := by kernel_rfl
set_option maxRecDepth 1000000 in
theorem notE6 : (List.range' 600 100).all (fun i => !isErr i) = true := by kernel_rfl
set_option maxRecDepth 1000000 in
theorem notE7 : (List.range' 700 66).all (fun i => !isErr i) = true := by kernel_rfl
theorem atE : isErr 766 = true := by kernel_rfl
theorem findE : (List.range Tryz.prog.types.size).find? (fun u => Tryz.prog.typeName? 3 u == some "*errors.errorString") = some 766 := by
  have h0 : Nat.ble 767 Tryz.prog.types.size = true := by kernel_rfl
  have h1 := Nat.le_of_ble_eq_true h0
  obtain ⟨r, hr⟩ : ∃ r, Tryz.prog.types.size = 766 + 1 + r := ⟨Tryz.prog.types.size - (766 + 1), by omega⟩
  rw [hr, List.range_eq_range']
  show (List.range' 0 (766 + 1 + r)).find? isErr = some 766
  have e0 : List.range' 0 (766 + 1 + r) = List.range' 0 100 ++ (List.range' 100 100 ++ (List.range' 200 100 ++ (List.range' 300 100 ++ (List.range' 400 100 ++ (List.range' 500 100 ++ (List.range' 600 100 ++ (List.range' 700 66 ++ List.range' 766 (1 + r)))))))) := by
    rw [List.range'_append_1, List.range'_append_1, List.range'_append_1, List.range'_append_1, List.range'_append_1, List.range'_append_1, List.range'_append_1, List.range'_append_1]
    exact congrArg (List.range' 0) (by omega)
  rw [e0]
  rw [find_none notE0, find_none notE1, find_none notE2, find_none notE3, find_none notE4, find_none notE5, find_none notE6, find_none notE7]
  rw [Nat.add_comm 1 r, List.range'_succ, List.find?_cons, atE]
noncomputable def y0 : List Value × List Obj := ((Rows.laid_strings_asciiSpace : DataW Unit).lay Tryz.prog 733 17).getD ([], [])
set_option maxRecDepth 1000000 in
theorem l0 : (Rows.laid_strings_asciiSpace : DataW Unit).lay Tryz.prog 733 17 = some y0 := getD_some (by kernel_rfl)
theorem k0 : 17 + y0.2.length = 17 := by kernel_rfl
noncomputable def y1 : List Value × List Obj := ((Rows.laid_unicode_White_Space : DataW Unit).lay Tryz.prog 761 17).getD ([], [])
set_option maxRecDepth 1000000 in
theorem l1 : (Rows.laid_unicode_White_Space : DataW Unit).lay Tryz.prog 761 17 = some y1 := getD_some (by kernel_rfl)
theorem k1 : 17 + y1.2.length = 19 := by kernel_rfl
noncomputable def y2 : List Value × List Obj := ((Rows.laid_unicode_utf8_first : DataW Unit).lay Tryz.prog 733 19).getD ([], [])
set_option maxRecDepth 1000000 in
theorem l2 : (Rows.laid_unicode_utf8_first : DataW Unit).lay Tryz.prog 733 19 = some y2 := getD_some (by kernel_rfl)
theorem k2 : 19 + y2.2.length = 19 := by kernel_rfl
noncomputable def y3 : List Value × List Obj := ((Rows.laid_unicode_utf8_acceptRanges : DataW Unit).lay Tryz.prog 784 19).getD ([], [])
set_option maxRecDepth 1000000 in
theorem l3 : (Rows.laid_unicode_utf8_acceptRanges : DataW Unit).lay Tryz.prog 784 19 = some y3 := getD_some (by kernel_rfl)
theorem k3 : 19 + y3.2.length = 19 := by kernel_rfl
noncomputable def y4 : List Value × List Obj := ((Rows.laid_unicode_CaseRanges : DataW Unit).lay Tryz.prog 765 19).getD ([], [])
set_option maxRecDepth 1000000 in
theorem l4 : (Rows.laid_unicode_CaseRanges : DataW Unit).lay Tryz.prog 765 19 = some y4 := getD_some (by kernel_rfl)
theorem k4 : 19 + y4.2.length = 20 := by kernel_rfl
def d5 : DataW Unit := (.ptr (.agg [.lit (.string [105, 110, 118, 97, 108, 105, 100, 32, 115, 121, 110, 116, 97, 120])]))
noncomputable def y5 : List Value × List Obj := match d5.lay Tryz.prog 766 20 with
  | some x => (match Lay.pack Tryz.prog 766 x.1 with
    | some v => ([.iface 766 v], x.2)
    | none => ([], []))
  | none => ([], [])
set_option maxRecDepth 1000000 in
theorem l5 : (Rows.laid_strconv_ErrSyntax : DataW Unit).lay Tryz.prog 66 20 = some y5 := by
  show (DataW.iface "*errors.errorString" d5).lay Tryz.prog 66 20 = some y5
  rw [DataW.lay, findE]
  kernel_rfl
theorem k5 : 20 + y5.2.length = 21 := by kernel_rfl
def d6 : DataW Unit := (.ptr (.agg [.lit (.string [118, 97, 108, 117, 101, 32, 111, 117, 116, 32, 111, 102, 32, 114, 97, 110, 103, 101])]))
noncomputable def y6 : List Value × List Obj := match d6.lay Tryz.prog 766 21 with
  | some x => (match Lay.pack Tryz.prog 766 x.1 with
    | some v => ([.iface 766 v], x.2)
    | none => ([], []))
  | none => ([], [])
set_option maxRecDepth 1000000 in
theorem l6 : (Rows.laid_strconv_ErrRange : DataW Unit).lay Tryz.prog 66 21 = some y6 := by
  show (DataW.iface "*errors.errorString" d6).lay Tryz.prog 66 21 = some y6
  rw [DataW.lay, findE]
  kernel_rfl
theorem k6 : 21 + y6.2.length = 22 := by kernel_rfl
noncomputable def y7 : List Value × List Obj := ((Rows.laid_internal_strconv_uint64pow10 : DataW Unit).lay Tryz.prog 800 22).getD ([], [])
set_option maxRecDepth 1000000 in
theorem l7 : (Rows.laid_internal_strconv_uint64pow10 : DataW Unit).lay Tryz.prog 800 22 = some y7 := getD_some (by kernel_rfl)
theorem k7 : 22 + y7.2.length = 22 := by kernel_rfl
noncomputable def y8 : List Value × List Obj := ((Rows.laid_math_bits_deBruijn32tab : DataW Unit).lay Tryz.prog 802 22).getD ([], [])
set_option maxRecDepth 1000000 in
theorem l8 : (Rows.laid_math_bits_deBruijn32tab : DataW Unit).lay Tryz.prog 802 22 = some y8 := getD_some (by kernel_rfl)
theorem k8 : 22 + y8.2.length = 22 := by kernel_rfl
noncomputable def y9 : List Value × List Obj := ((Rows.laid_math_bits_deBruijn64tab : DataW Unit).lay Tryz.prog 803 22).getD ([], [])
set_option maxRecDepth 1000000 in
theorem l9 : (Rows.laid_math_bits_deBruijn64tab : DataW Unit).lay Tryz.prog 803 22 = some y9 := getD_some (by kernel_rfl)
theorem k9 : 22 + y9.2.length = 22 := by kernel_rfl
noncomputable def z10 : List (Nat × List Value) × List Obj := ([], [])
noncomputable def z9 : List (Nat × List Value) × List Obj := ((10, y9.1) :: z10.1, y9.2 ++ z10.2)
noncomputable def z8 : List (Nat × List Value) × List Obj := ((9, y8.1) :: z9.1, y8.2 ++ z9.2)
noncomputable def z7 : List (Nat × List Value) × List Obj := ((8, y7.1) :: z8.1, y7.2 ++ z8.2)
noncomputable def z6 : List (Nat × List Value) × List Obj := ((3, y6.1) :: z7.1, y6.2 ++ z7.2)
noncomputable def z5 : List (Nat × List Value) × List Obj := ((2, y5.1) :: z6.1, y5.2 ++ z6.2)
noncomputable def z4 : List (Nat × List Value) × List Obj := ((5, y4.1) :: z5.1, y4.2 ++ z5.2)
noncomputable def z3 : List (Nat × List Value) × List Obj := ((7, y3.1) :: z4.1, y3.2 ++ z4.2)
noncomputable def z2 : List (Nat × List Value) × List Obj := ((6, y2.1) :: z3.1, y2.2 ++ z3.2)
noncomputable def z1 : List (Nat × List Value) × List Obj := ((4, y1.1) :: z2.1, y1.2 ++ z2.2)
noncomputable def z0 : List (Nat × List Value) × List Obj := ((1, y0.1) :: z1.1, y0.2 ++ z1.2)
theorem laidL : Rows.buildKnownRow.laid = [("strings.asciiSpace", Rows.laid_strings_asciiSpace), ("unicode.White_Space", Rows.laid_unicode_White_Space), ("unicode/utf8.first", Rows.laid_unicode_utf8_first), ("unicode/utf8.acceptRanges", Rows.laid_unicode_utf8_acceptRanges), ("unicode.CaseRanges", Rows.laid_unicode_CaseRanges), ("strconv.ErrSyntax", Rows.laid_strconv_ErrSyntax), ("strconv.ErrRange", Rows.laid_strconv_ErrRange), ("internal/strconv.uint64pow10", Rows.laid_internal_strconv_uint64pow10), ("math/bits.deBruijn32tab", Rows.laid_math_bits_deBruijn32tab), ("math/bits.deBruijn64tab", Rows.laid_math_bits_deBruijn64tab)] := rfl
theorem layAll : Lay.layList Tryz.prog 17 Rows.buildKnownRow.laid = some z0 := by
  rw [laidL]
  exact (lay_cons (g := 1) (t := 733) (by kernel_rfl) (by kernel_rfl) l0 k0 (lay_cons (g := 4) (t := 761) (by kernel_rfl) (by kernel_rfl) l1 k1 (lay_cons (g := 6) (t := 733) (by kernel_rfl) (by kernel_rfl) l2 k2 (lay_cons (g := 7) (t := 784) (by kernel_rfl) (by kernel_rfl) l3 k3 (lay_cons (g := 5) (t := 765) (by kernel_rfl) (by kernel_rfl) l4 k4 (lay_cons (g := 2) (t := 66) (by kernel_rfl) (by kernel_rfl) l5 k5 (lay_cons (g := 3) (t := 66) (by kernel_rfl) (by kernel_rfl) l6 k6 (lay_cons (g := 8) (t := 800) (by kernel_rfl) (by kernel_rfl) l7 k7 (lay_cons (g := 9) (t := 802) (by kernel_rfl) (by kernel_rfl) l8 k8 (lay_cons (g := 10) (t := 803) (by kernel_rfl) (by kernel_rfl) l9 k9 rfl))))))))))
theorem hsz (os : Os) : (World.holding Tryz.prog os ⟨#[], #[], []⟩).heap.size = 17 := by
  have hg : Tryz.prog.globals.size = 12 := by kernel_rfl
  have hb : (begin Tryz.prog (fun _ _ => 0) os).world.heap.size = 17 := by
    simp only [begin, Array.size_push, Array.size_mapIdx, hg]
  simp only [World.holding, World.settled, Array.size_append, List.size_toArray, List.length_map, Array.length_toList, hb]
  rfl
theorem laidEq (os : Os) : World.laidAll Tryz.prog os Rows.buildKnownRow.laid = { World.holding Tryz.prog os ⟨#[], #[], []⟩ with heap := ⟨Lay.setRows (World.holding Tryz.prog os ⟨#[], #[], []⟩).heap.toList z0.1 ++ z0.2⟩ } := layVars_eq (hsz os) layAll
end Go.Proofs.YtbbnjiceenjhcaaGreatDoor.LayB
namespace Go.Proofs.YtbbnjiceenjhcaaGreatDoor
open Go.ChangeShapes Go.WideShapes Go.ChangeAt Go.RowKit

theorem Tryz.own : ownKnob Tryz.prog.godebug = none := by kernel_rfl

set_option maxRecDepth 100000 in
theorem lf0 : Tryz.checked.prog.inits.idxOf? 3 = none := by kernel_rfl
set_option maxRecDepth 100000 in
theorem lf1 (os : Os) : ((World.laidAll Tryz.prog os Rows.buildKnownRow.laid).forCall (fun _ _ => 0) ⟨#[], #[], []⟩).variablesZipB Tryz.checked.prog = true := by
  rw [LayB.laidEq os]
  kernel_rfl
set_option maxRecDepth 100000 in
theorem lf2 (os : Os) : (((World.laidAll Tryz.prog os Rows.buildKnownRow.laid).forCall (fun _ _ => 0) ⟨#[], #[], []⟩).heap.toList.drop Tryz.checked.prog.globals.size).take ((begin Tryz.checked.prog (fun _ _ => 0) default).world.heap.size - Tryz.checked.prog.globals.size) = (begin Tryz.checked.prog (fun _ _ => 0) default).world.heap.toList.drop Tryz.checked.prog.globals.size := by
  rw [LayB.laidEq os]
  kernel_rfl
set_option maxRecDepth 100000 in
theorem lf3 (os : Os) : Input.okWideB Tryz.checked.prog ((World.laidAll Tryz.prog os Rows.buildKnownRow.laid).forCall (fun _ _ => 0) ⟨#[], #[], []⟩) 3 ⟨#[], #[], []⟩ = true := by kernel_rfl
set_option maxRecDepth 100000 in
theorem lf4 (os : Os) (H : Type) (enc : TypeId × Value → H) : Rows.buildKnownSpec.preB enc Tryz.checked.prog Tryz.f3 [] false ((World.laidAll Tryz.prog os Rows.buildKnownRow.laid).forCall (fun _ _ => 0) ⟨#[], #[], []⟩).memory #[] 8 = true := by kernel_rfl
set_option maxRecDepth 100000 in
theorem lf5 (os : Os) (H : Type) (enc : TypeId × Value → H) : Rows.buildKnownSpec.sizedB enc Tryz.checked.prog Tryz.f3 false ((World.laidAll Tryz.prog os Rows.buildKnownRow.laid).forCall (fun _ _ => 0) ⟨#[], #[], []⟩).memory #[] 8 = true := by kernel_rfl
set_option maxRecDepth 100000 in
theorem lf6 (os : Os) : (World.holding Tryz.prog os ⟨#[], #[], []⟩).layFits Tryz.prog Rows.buildKnownRow.laid [] = true := by
  rw [LayB.layFits_eq (LayB.hsz os) LayB.layAll]
  kernel_rfl
set_option maxRecDepth 100000 in
theorem lf7 (os : Os) : (World.holding Tryz.prog os ⟨#[], #[], []⟩).layIfaces Tryz.prog Rows.buildKnownRow.laid (World.laidAll Tryz.prog os Rows.buildKnownRow.laid) = true := by
  rw [LayB.layIfaces_eq (LayB.hsz os) LayB.layAll, LayB.laidEq os]
  kernel_rfl
set_option maxRecDepth 100000 in
theorem buildKnown_lifted (os : Os) (started : os.Started) (H : Type) (enc : TypeId × Value → H) :
    ReturnsInHanded {} Tryz.checked os 3 .any (fun w args => (Rows.buildKnownSpec.pre enc Tryz.prog Tryz.f3 [] false w args ∧ laidMetH Tryz.prog Rows.buildKnownRow.laid w) ∧ sizedMet enc Tryz.prog Tryz.f3 (OpenSpec.ofChange Rows.buildKnownSpec) false w args)
      (Rows.buildKnownSpec.post enc Tryz.prog Tryz.f3 false true false false) := by
  refine returnsInHanded_of_change_and (C := Tryz.checked) (X := fun w _ => laidMetH Tryz.prog Rows.buildKnownRow.laid w) (fun _ _ _ hh h => by
      unfold laidMetH at h ⊢
      rw [laid_plain] at h ⊢
      exact laidMet.of_heap hh h) Tryz.own started lf0 Tryz.func3
    (ChangeSpec.witness_shaped (enc := enc) (C := Tryz.checked) (os := os) (X := fun w _ => laidMetH Tryz.prog Rows.buildKnownRow.laid w) false (World.laidAll Tryz.prog os Rows.buildKnownRow.laid) #[] 8 (World.laidAll_os _ _ _)
      (World.shaped_of_ZipB (lf1 os) (lf2 os)) (lf3 os) (lf4 os H enc) (lf5 os H enc) (by
        unfold laidMetH
        rw [laid_plain]
        exact laidMet_laidAll _ (lf6 os) (lf7 os))) ?_
  intro W base args ds gs before hval0 hW _ _ hL _
  obtain ⟨p, q, hA0, hV, rfl, hfz, hnd⟩ := hW
  have hA : DataW.TrodAll enc Tryz.prog W 0 (fun _ => true) true Tryz.f3.params.toList args.toList ds p := hA0
  rw [Tryz.params3] at hA
  have he : args = #[] := by
    have := (trodAll_nil hA).1
    cases args
    simp_all
  subst he
  exact Go.Tw.closed_tab m190_sound tabs_lt rfl rfl rfl (t := 4) (by kernel_rfl) (by kernel_rfl) Tryz.params3 rfl rfl W (tabs_ok hL)

theorem buildKnown_row : Rows.BuildKnownSaid :=
  OpenClaim.holds_of_wide 3 Tryz.f3 rfl rfl rfl rfl rfl rfl rfl ⟨rfl, rfl, rfl, rfl, rfl⟩ rfl rfl rfl rfl rfl (by kernel_rfl) Tryz.func3 buildKnown_closed
    (of_decide_eq_true (by kernel_rfl)) (by unfold Func.isWrapper; first | (rw [if_pos (by decide +kernel)]; kernel_rfl) | (rw [if_neg (by decide +kernel)]; exact ⟨rfl, rfl⟩))
    (fun os started H enc _ => buildKnown_lifted os started H enc)

theorem buildKnown_holds : Rows.BuildKnownCardSaid :=
  Claim7.holds_tied_plain_at .later [] [.data, .listed, .pinned, .data, .pinned, .sentinel, .sentinel, .data, .data, .data] true (true, "c7adee3987182c25266922dae3498f1dc137b5e2d04a97b7b0cd24de24f0d250") true
    buildKnown_row (fun _ h => by cases h) (by kernel_rfl) (fun _ h => by cases h) buildKnown_row_tie rfl ⟨rfl, rfl⟩ (by kernel_rfl) rfl
    (fun f fn hf hfn => by
      obtain rfl : f = 3 := Option.some.inj (buildKnown_card3.symm.trans hf) |>.symm
      obtain rfl : fn = Tryz.f3 := (Option.some.inj (Tryz.func3.symm.trans hfn)).symm
      exact ⟨buildKnown_card4, fun j t ht => by
        rw [Tryz.params3] at ht
        simp at ht⟩)
    buildKnown_card5
end Go.Proofs.YtbbnjiceenjhcaaGreatDoor
#print axioms Go.Proofs.YtbbnjiceenjhcaaGreatDoor.buildKnown_holds
