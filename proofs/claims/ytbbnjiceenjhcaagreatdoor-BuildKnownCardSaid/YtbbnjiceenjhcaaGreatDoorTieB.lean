/-
  The tie of the row of BuildKnown, each closed fact by itself (the given text's one declaration passes the kernel's memory). No condition.
-/
import Derived.Test.YtbbnjiceenjhcaaGreatDoorRows
import Derived.LaidByTextLater
import Derived.Test.YtbbnjiceenjhcaaGreatDoorTwBig
import Derived.SevenTiedAt
namespace Go.Proofs.YtbbnjiceenjhcaaGreatDoor
open Go
theorem pin_laid_unicode_utf8_first : Tryz.pinned.checked.prog.pinnedFits "unicode/utf8.first" = true := by kernel_rfl
theorem pin_laid_unicode_CaseRanges : Tryz.pinned.checked.prog.pinnedFits "unicode.CaseRanges" = true := by kernel_rfl
theorem noOwnUnsafe : Tryz.pinned.checked.prog.headLifts.contains "ownunsafe" = false := by kernel_rfl
theorem fits1 : Tryz.pinned.checked.prog.listedFits [("strings.asciiSpace", Rows.laid_strings_asciiSpace), ("unicode.White_Space", Rows.laid_unicode_White_Space), ("unicode/utf8.first", Rows.laid_unicode_utf8_first), ("unicode/utf8.acceptRanges", Rows.laid_unicode_utf8_acceptRanges), ("unicode.CaseRanges", Rows.laid_unicode_CaseRanges), ("strconv.ErrSyntax", Rows.laid_strconv_ErrSyntax), ("strconv.ErrRange", Rows.laid_strconv_ErrRange), ("internal/strconv.uint64pow10", Rows.laid_internal_strconv_uint64pow10), ("math/bits.deBruijn32tab", Rows.laid_math_bits_deBruijn32tab), ("math/bits.deBruijn64tab", Rows.laid_math_bits_deBruijn64tab)] = true := by
  unfold Program.listedFits
  rw [noOwnUnsafe]
  kernel_rfl
def tieLaid : List (String × DataW Unit) := [("strings.asciiSpace", Rows.laid_strings_asciiSpace), ("unicode.White_Space", Rows.laid_unicode_White_Space), ("unicode/utf8.acceptRanges", Rows.laid_unicode_utf8_acceptRanges), ("strconv.ErrSyntax", Rows.laid_strconv_ErrSyntax), ("strconv.ErrRange", Rows.laid_strconv_ErrRange), ("internal/strconv.uint64pow10", Rows.laid_internal_strconv_uint64pow10), ("math/bits.deBruijn32tab", Rows.laid_math_bits_deBruijn32tab), ("math/bits.deBruijn64tab", Rows.laid_math_bits_deBruijn64tab)]
def tieKinds : List LaidKind := [.data, .listed, .data, .sentinel, .sentinel, .data, .data, .data]
theorem tie1 : Tryz.prog.worded (varsWordLater true) = true := by kernel_rfl
theorem tie2 : Tryz.prog.worded (varsWordLater !true) = false := by kernel_rfl
theorem tie3 : Tryz.prog.worded rootWordLater = true := by kernel_rfl
theorem tie4 : tieLaid.map (fun x => Tryz.prog.kindOfLater x.1) = tieKinds.map some := by kernel_rfl
set_option maxRecDepth 1000000 in
theorem varsAt : Tryz.prog.funcNamed "gosem.cut.vars" = some 811 := by
  rw [Go.Tw.funcNamed_lin]
  kernel_rfl
theorem varsEq : varsId Tryz.prog = 811 := by
  unfold varsId
  rw [varsAt]; rfl
theorem tie5 : (Tryz.prog.funcNamed "gosem.cut.vars").isSome = true := by rw [varsAt]; rfl
noncomputable def varC : Code := match (Tryz.prog.funcs[811]?).bind (·.body) with
  | some c => c
  | none => .skip
theorem t6a : (Tryz.prog.funcs[811]?).bind (·.body) = some varC := by kernel_rfl
noncomputable def varS : List Nat := (varC.laysInOrder []).getD []
theorem t6b : varC.laysInOrder [] = some varS := by kernel_rfl
theorem t6c : (varS.eraseDups.length == varS.length) = true := by kernel_rfl
theorem t6d : Tryz.prog.callsLaidAlone 811 varC = true := by kernel_rfl
def goodX (P : Program) (code : Code) (stored : List Nat) (k : Option LaidKind) (x : String × DataW Unit) : Bool :=
  (P.globalNamed x.1).any fun v => (stored.contains v == (k != some .zero)) && callsFit code v k &&
    ((code.storedByHandle P).contains v == (k == some .handle)) && (x.2.handleName?.isSome == (k == some .handle || k == some .funcs)) &&
    (k != some .handle || handlePair x) && (x.2.funcsIn?.isSome == (k == some .funcs)) && mapsFit code v x.2 k
theorem kb0 : Tryz.prog.kindBase "strings.asciiSpace" = some .data := by kernel_rfl
theorem gx0 : goodX Tryz.prog varC varS (some .data) ("strings.asciiSpace", Rows.laid_strings_asciiSpace) = true := by kernel_rfl
theorem kb1 : Tryz.prog.kindBase "unicode.White_Space" = some .listed := by kernel_rfl
theorem gx1 : goodX Tryz.prog varC varS (some .listed) ("unicode.White_Space", Rows.laid_unicode_White_Space) = true := by kernel_rfl
theorem kb2 : Tryz.prog.kindBase "unicode/utf8.acceptRanges" = some .data := by kernel_rfl
theorem gx2 : goodX Tryz.prog varC varS (some .data) ("unicode/utf8.acceptRanges", Rows.laid_unicode_utf8_acceptRanges) = true := by kernel_rfl
theorem kb3 : Tryz.prog.kindBase "strconv.ErrSyntax" = some .sentinel := by kernel_rfl
theorem gx3 : goodX Tryz.prog varC varS (some .sentinel) ("strconv.ErrSyntax", Rows.laid_strconv_ErrSyntax) = true := by kernel_rfl
theorem kb4 : Tryz.prog.kindBase "strconv.ErrRange" = some .sentinel := by kernel_rfl
theorem gx4 : goodX Tryz.prog varC varS (some .sentinel) ("strconv.ErrRange", Rows.laid_strconv_ErrRange) = true := by kernel_rfl
theorem kb5 : Tryz.prog.kindBase "internal/strconv.uint64pow10" = some .data := by kernel_rfl
theorem gx5 : goodX Tryz.prog varC varS (some .data) ("internal/strconv.uint64pow10", Rows.laid_internal_strconv_uint64pow10) = true := by kernel_rfl
theorem kb6 : Tryz.prog.kindBase "math/bits.deBruijn32tab" = some .data := by kernel_rfl
theorem gx6 : goodX Tryz.prog varC varS (some .data) ("math/bits.deBruijn32tab", Rows.laid_math_bits_deBruijn32tab) = true := by kernel_rfl
theorem kb7 : Tryz.prog.kindBase "math/bits.deBruijn64tab" = some .data := by kernel_rfl
theorem gx7 : goodX Tryz.prog varC varS (some .data) ("math/bits.deBruijn64tab", Rows.laid_math_bits_deBruijn64tab) = true := by kernel_rfl
theorem named_by {P : Program} {g : FuncId} {laid : List (String × DataW Unit)} {code : Code} {stored : List Nat} (h1 : (P.funcs[g]?).bind (·.body) = some code) (h2 : code.laysInOrder [] = some stored) (h3 : (stored.eraseDups.length == stored.length) = true)
    (h4 : P.callsLaidAlone g code = true) (h5 : ∀ x ∈ laid, ∃ k, P.kindBase x.1 = k ∧ goodX P code stored k x = true) : varsNamedLaterB P g laid = true := by
  unfold varsNamedLaterB
  rw [h1]
  dsimp only
  rw [h2]
  dsimp only
  rw [h3, h4, Bool.true_and, Bool.true_and]
  refine List.all_eq_true.2 fun x hx => ?_
  obtain ⟨k, k1, k2⟩ := h5 x hx
  rw [k1]
  exact k2
theorem tie6x : varsNamedLaterB Tryz.prog 811 tieLaid = true := named_by t6a t6b t6c t6d fun x hx => by
  simp only [tieLaid, List.mem_cons, List.not_mem_nil, or_false] at hx
  rcases hx with rfl | rfl | rfl | rfl | rfl | rfl | rfl | rfl
  · exact ⟨_, kb0, gx0⟩
  · exact ⟨_, kb1, gx1⟩
  · exact ⟨_, kb2, gx2⟩
  · exact ⟨_, kb3, gx3⟩
  · exact ⟨_, kb4, gx4⟩
  · exact ⟨_, kb5, gx5⟩
  · exact ⟨_, kb6, gx6⟩
  · exact ⟨_, kb7, gx7⟩
theorem tie6 : varsNamedLaterB Tryz.prog (varsId Tryz.prog) tieLaid = true := by
  rw [varsEq]
  exact tie6x
theorem tie7x (os : Os) (tape : Tape) : varsDone Tryz.prog 400 811 os tape = true := by kernel_rfl
theorem tie7 (os : Os) (tape : Tape) : varsDone Tryz.prog 400 (varsId Tryz.prog) os tape = true := by
  rw [varsEq]
  exact tie7x os tape
theorem tie8x (os : Os) (tape : Tape) : (DataW.laidRun Tryz.prog (varsWorld Tryz.prog 400 811 os tape).memory 8 (tieLaid.map (·.1))).map (·.1) = some tieLaid := by kernel_rfl
theorem tie8 (os : Os) (tape : Tape) : (DataW.laidRun Tryz.prog (varsWorld Tryz.prog 400 (varsId Tryz.prog) os tape).memory 8 (tieLaid.map (·.1))).map (·.1) = some tieLaid := by
  rw [varsEq]
  exact tie8x os tape
theorem tie9x (os : Os) (tape : Tape) : (DataW.laidRun Tryz.prog (varsWorld Tryz.prog 400 811 os tape).memory 8 (tieLaid.map (·.1))).map (fun x => decide x.2.Nodup && laidRowsB Tryz.prog (varsWorld Tryz.prog 400 811 os tape).memory x.2) = some true := by kernel_rfl
theorem tie9 (os : Os) (tape : Tape) : (DataW.laidRun Tryz.prog (varsWorld Tryz.prog 400 (varsId Tryz.prog) os tape).memory 8 (tieLaid.map (·.1))).map (fun x => decide x.2.Nodup && laidRowsB Tryz.prog (varsWorld Tryz.prog 400 (varsId Tryz.prog) os tape).memory x.2) = some true := by
  rw [varsEq]
  exact tie9x os tape
theorem tie10 : (tieLaid.all fun x => x.2.handleName?.isNone) = true := by kernel_rfl
theorem tie : Tryz.prog.laidByTextLater [("strings.asciiSpace", Rows.laid_strings_asciiSpace), ("unicode.White_Space", Rows.laid_unicode_White_Space), ("unicode/utf8.acceptRanges", Rows.laid_unicode_utf8_acceptRanges), ("strconv.ErrSyntax", Rows.laid_strconv_ErrSyntax), ("strconv.ErrRange", Rows.laid_strconv_ErrRange), ("internal/strconv.uint64pow10", Rows.laid_internal_strconv_uint64pow10), ("math/bits.deBruijn32tab", Rows.laid_math_bits_deBruijn32tab), ("math/bits.deBruijn64tab", Rows.laid_math_bits_deBruijn64tab)] [.data, .listed, .data, .sentinel, .sentinel, .data, .data, .data] true :=
  Program.laidByTextLater_by_run (laid := tieLaid) (kinds := tieKinds) 400 8 tie1 tie2 tie3 tie4 tie5 tie6 tie7 tie8 tie9 tie10
theorem buildKnown_row_tie : Rows.buildKnownRow.laidByTextAt .later Tryz.pinned [.data, .listed, .pinned, .data, .pinned, .sentinel, .sentinel, .data, .data, .data] true :=
  OpenClaim.laidByTextAt_pinned rfl rfl tie rfl rfl rfl rfl (fun y hy _e => by
    simp only [Rows.buildKnownRow, List.zip_cons_cons, List.zip_nil_right, List.mem_cons, List.mem_nil_iff, or_false] at hy
    rcases hy with rfl | rfl | rfl | rfl | rfl | rfl | rfl | rfl | rfl | rfl
    · cases _e
    · cases _e
    · exact ⟨pin_laid_unicode_utf8_first, by kernel_rfl⟩
    · cases _e
    · exact ⟨pin_laid_unicode_CaseRanges, by kernel_rfl⟩
    · cases _e
    · cases _e
    · cases _e
    · cases _e
    · cases _e) fits1
end Go.Proofs.YtbbnjiceenjhcaaGreatDoor
