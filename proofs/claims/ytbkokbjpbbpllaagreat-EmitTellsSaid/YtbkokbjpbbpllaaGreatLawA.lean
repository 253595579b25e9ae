/-
  A part of the law's proof over the abstract evaluator. Conditions: those of each theorem, as it states them.
-/
import Derived.Test.YtbkokbjpbbpllaaGreatTreeJ
/-! The law, piece by piece: 9 the lines that are written over, 10 a place in them, 11 the lines, 12 are they more than nil, 13 what is wrong. -/
namespace Go.Proofs.YtbkokbjpbbpllaaGreat
open Go.Tw
noncomputable section
def c3 : Code := match Tryz.f3.body with
  | some c => c
  | none => .skip
def consL : List Con := [con4, conT 6, conT 7, con8, con20]
def pkN : Sx := (.pr 12 (N (D 0)) (.pr 12 (N (D 1)) (.pr 12 (N (D 2)) (.pr 12 (N (D 3)) (.pr 12 (N (D 4)) (.pr 12 (D 5) (.pr 12 (N (D 6)) (.pr 12 (N (D 7)) (.pr 12 (N (D 8)) (.pr 14 (.lit 0) (.lit 0)))))))))))
def u8 : Sx := .ap 8 pkN (.lit 0) (.lit 0)
def u9 : Sx := .ap 9 pkN (.lit 0) (.lit 0)
def u10 : Sx := .ap 10 pkN (.lit 0) (.lit 0)
def z (i : Nat) : Sx × Sx := (N (D i), N (D i))
def w (i : Nat) : Sx × Sx := (D i, D i)
def lA (i : Nat) : AV := .opq 2 i 0 (.slc L7) (.lit 0) (D 12)
def S0 : List (Nat × AV) := [(3, .sym .i64 (D 8)), (2, .sym .i64 (D 7)), (1, .sym .i64 (D 6)), (0, .agg [.sym .i64 (D 0), .sym .i64 (D 1), .sym .i64 (D 2), .sym .i64 (D 3), .sym .i64 (D 4), .opq 0 1023 0 (.slc [.int .i64]) (D 5) (.lit 0)])]
def S1 : List (Nat × AV) := [(1, .sym .i64 (D 6)), (2, .sym .i64 (D 7)), (3, .sym .i64 (D 8)), (4, .ptr 1024 0 0 6)]
def S3 : List (Nat × AV) := [(1, .sym .i64 (D 6)), (2, .sym .i64 (D 7)), (3, .sym .i64 (D 8)), (4, .ptr 1024 0 0 6), (9, .ptr 1026 0 0 6)]
def S4 : List (Nat × AV) := [(1, .sym .i64 (D 6)), (2, .sym .i64 (D 7)), (3, .sym .i64 (D 8)), (4, .ptr 1024 0 0 6), (9, .ptr 1026 0 0 6), (10, lA 1027), (11, .sym .i64 (D 13))]
def S5 : List (Nat × AV) := [(1, .sym .i64 (D 6)), (2, .sym .i64 (D 7)), (3, .sym .i64 (D 8)), (4, .ptr 1024 0 0 6), (9, .ptr 1026 0 0 6), (10, lA 1027), (11, .sym .i64 (D 13)), (12, lA 1028), (13, .sym .i64 (D 13))]
def S6 : List (Nat × AV) := [(1, .sym .i64 (D 6)), (2, .sym .i64 (D 7)), (3, .sym .i64 (D 8)), (4, .ptr 1024 0 0 6), (9, .ptr 1026 0 0 6), (10, lA 1027), (12, lA 1028), (13, .sym .i64 (D 13)), (14, .bool true)]
def S7 : List (Nat × AV) := [(1, .sym .i64 (D 6)), (2, .sym .i64 (D 7)), (3, .sym .i64 (D 8)), (4, .ptr 1024 0 0 6), (9, .ptr 1026 0 0 6), (10, lA 1027), (12, lA 1028), (13, .sym .i64 (D 13)), (14, .bool true), (15, .sym .i64 (D 10))]
def S8 : List (Nat × AV) := [(1, .sym .i64 (D 6)), (2, .sym .i64 (D 7)), (3, .sym .i64 (D 8)), (4, .ptr 1024 0 0 6), (9, .ptr 1026 0 0 6), (12, lA 1027), (13, .sym .i64 (D 13)), (14, .bool true)]
def S9 : List (Nat × AV) := [(1, .sym .i64 (D 6)), (2, .sym .i64 (D 7)), (3, .sym .i64 (D 8)), (4, .ptr 1024 0 0 6), (9, .ptr 1026 0 0 6), (12, lA 1027), (13, .sym .i64 (D 13)), (14, .bool true), (16, lA 1028), (17, .sym .i64 (D 13))]
def o1 : List (Nat × Ob) := [(1024, .box [.sym .i64 (D 0), .sym .i64 (D 1), .sym .i64 (D 2), .sym .i64 (D 3), .sym .i64 (D 4), .opq 0 1023 0 (.slc [.int .i64]) (D 5) (.lit 0)] 24)]
def o3 : List (Nat × Ob) := [(1024, .box [.sym .i64 (D 0), .sym .i64 (D 1), .sym .i64 (D 2), .sym .i64 (D 3), .sym .i64 (D 4), .opq 0 1023 0 (.slc [.int .i64]) (D 5) (.lit 0)] 24), (1025, .opq 2 0 1023 (.slc [.int .i64]) (D 5) (.pr 29 (D 5) (.lit 0)) [] 3), (1026, .box [.sym .i64 (D 0), .sym .i64 (D 1), .sym .i64 (D 2), .sym .i64 (D 3), .sym .i64 (D 4), .opq 2 1025 0 (.slc [.int .i64]) (.lit 0) (.pr 29 (D 5) (.lit 0))] 24)]
def o4 : List (Nat × Ob) := [(1024, .box [.sym .i64 (D 0), .sym .i64 (D 1), .sym .i64 (D 2), .sym .i64 (D 3), .sym .i64 (D 4), .opq 0 1023 0 (.slc [.int .i64]) (D 5) (.lit 0)] 24), (1025, .opq 2 0 1023 (.slc [.int .i64]) (D 5) (.pr 29 (D 5) (.lit 0)) [] 3), (1026, .box [.sym .i64 (D 0), .sym .i64 (D 1), .sym .i64 (D 2), .sym .i64 (D 3), .sym .i64 (D 4), .opq 2 1025 0 (.slc [.int .i64]) (.lit 0) (.pr 29 (D 5) (.lit 0))] 24), (1027, .opq 2 0 1023 (.slc L7) (D 11) (D 12) [] 35)]
def o5 : List (Nat × Ob) := [(1024, .box [.sym .i64 (D 0), .sym .i64 (D 1), .sym .i64 (D 2), .sym .i64 (D 3), .sym .i64 (D 4), .opq 0 1023 0 (.slc [.int .i64]) (D 5) (.lit 0)] 24), (1025, .opq 2 0 1023 (.slc [.int .i64]) (D 5) (.pr 29 (D 5) (.lit 0)) [] 3), (1026, .box [.sym .i64 (D 0), .sym .i64 (D 1), .sym .i64 (D 2), .sym .i64 (D 3), .sym .i64 (D 4), .opq 2 1025 0 (.slc [.int .i64]) (.lit 0) (.pr 29 (D 5) (.lit 0))] 24), (1027, .opq 2 0 1023 (.slc L7) (D 11) (D 12) [] 35), (1028, .opq 2 0 1023 (.slc L7) (D 11) (D 12) [] 35)]
def o7 : List (Nat × Ob) := [(1024, .box [.sym .i64 (D 0), .sym .i64 (D 1), .sym .i64 (D 2), .sym .i64 (D 3), .sym .i64 (D 4), .opq 0 1023 0 (.slc [.int .i64]) (D 5) (.lit 0)] 24), (1025, .opq 2 0 1023 (.slc [.int .i64]) (D 5) (.pr 29 (D 5) (.lit 0)) [] 3), (1026, .box [.sym .i64 (D 0), .sym .i64 (D 1), .sym .i64 (D 2), .sym .i64 (D 3), .sym .i64 (D 4), .opq 2 1025 0 (.slc [.int .i64]) (.lit 0) (.pr 29 (D 5) (.lit 0))] 24), (1027, .opq 2 0 1023 (.slc L7) (D 9) (D 12) [] 35), (1028, .opq 2 0 1023 (.slc L7) (D 11) (D 12) [] 35)]
def id4 : List RE := [⟨1024, 1024, 0, 0, 0⟩, ⟨1025, 1025, 0, 0, 0⟩, ⟨1026, 1026, 0, 0, 0⟩, ⟨1027, 1027, 0, 0, 0⟩]
def id5 : List RE := [⟨1024, 1024, 0, 0, 0⟩, ⟨1025, 1025, 0, 0, 0⟩, ⟨1026, 1026, 0, 0, 0⟩, ⟨1027, 1027, 0, 0, 0⟩, ⟨1028, 1028, 0, 0, 0⟩]
def eLa : Eqs := [z 6, z 7, z 8, z 0, z 1, z 2, z 3, z 4, w 5]
theorem xLa : runHB R0 0 0 (run [] consL 86 (Code.l c3) S0 [] 1024) .normal [⟨1024, 1024, 0, 0, 0⟩] S1 o1 1025 eLa = true := by kernel_rfl
def eLb : Eqs := [z 6, z 7, z 8, z 0, z 1, z 2, z 3, z 4, w 5]
theorem xLb : runHB R0 0 0 (run [((.cmp .lss (.pr 7 (D 5) (.lit 0)) (.lit 21)), true)] consL 86 (Code.l (Code.r c3)) S1 o1 1025) .normal [⟨1024, 1024, 0, 0, 0⟩] S1 o1 1025 eLb = true := by kernel_rfl
def eLx : Eqs := []
theorem xLx : runHB R0 0 0 (run [((.cmp .lss (.pr 7 (D 5) (.lit 0)) (.lit 21)), false)] consL 86 (Code.l (Code.r c3)) S1 o1 1025) .ret [] [(8, .bool true)] [] 1024 eLx = true := by kernel_rfl
def eLc : Eqs := [z 6, z 7, z 8, z 0, z 1, z 2, z 3, z 4, w 5, w 5, ((.pr 29 (D 5) (.lit 0)), (.pr 29 (D 5) (.lit 0))), z 0, z 1, z 2, z 3, z 4, ((.pr 29 (D 5) (.lit 0)), (.pr 29 (D 5) (.lit 0)))]
theorem xLc : runHB R0 0 0 (run [((.cmp .lss (.pr 7 (D 5) (.lit 0)) (.lit 1000000001)), true)] consL 86 (Code.l (Code.r (Code.r c3))) S1 o1 1025) .normal [⟨1024, 1024, 0, 0, 0⟩, ⟨1025, 1028, 0, 0, 0⟩, ⟨1026, 1029, 0, 0, 0⟩] S3 o3 1027 eLc = true := by kernel_rfl
def eLd : Eqs := [z 6, z 7, z 8, (u10, (D 12)), ((.pr 30 u8 (.lit 0)), (N (D 13))), z 0, z 1, z 2, z 3, z 4, w 5, w 5, ((.pr 29 (D 5) (.lit 0)), (.pr 29 (D 5) (.lit 0))), z 0, z 1, z 2, z 3, z 4, ((.pr 29 (D 5) (.lit 0)), (.pr 29 (D 5) (.lit 0))), (u9, (D 11)), (u10, (D 12))]
theorem xLd : runHB R0 0 0 (run [] consL 86 (Code.l (Code.r (Code.r (Code.r c3)))) S3 o3 1027) .normal id4 S4 o4 1028 eLd = true := by kernel_rfl
def eLe : Eqs := [z 6, z 7, z 8, w 12, z 13, (u10, (D 12)), ((.pr 30 u8 (.lit 0)), (N (D 13))), z 0, z 1, z 2, z 3, z 4, w 5, w 5, ((.pr 29 (D 5) (.lit 0)), (.pr 29 (D 5) (.lit 0))), z 0, z 1, z 2, z 3, z 4, ((.pr 29 (D 5) (.lit 0)), (.pr 29 (D 5) (.lit 0))), w 11, w 12, (u9, (D 11)), (u10, (D 12))]
theorem xLe : runHB R0 0 0 (run [] consL 86 (Code.l (Code.r (Code.r (Code.r (Code.r c3))))) S4 o4 1028) .normal id5 S5 o5 1029 eLe = true := by kernel_rfl
def eLf : Eqs := [z 6, z 7, z 8, w 12, w 12, z 13, z 0, z 1, z 2, z 3, z 4, w 5, w 5, ((.pr 29 (D 5) (.lit 0)), (.pr 29 (D 5) (.lit 0))), z 0, z 1, z 2, z 3, z 4, ((.pr 29 (D 5) (.lit 0)), (.pr 29 (D 5) (.lit 0))), w 11, w 12, w 11, w 12]
theorem xLf : runHB R0 0 0 (run [((.cmp .lss (.pr 7 (D 11) (.lit 0)) (.lit 1000000)), true)] consL 86 (Code.l (Code.r (Code.r (Code.r (Code.r (Code.r c3)))))) S5 o5 1029) .normal id5 S6 o5 1029 eLf = true := by kernel_rfl
def eLg : Eqs := [z 6, z 7, z 8, w 12, w 12, z 13, ((.lit 0), (N (D 10))), z 0, z 1, z 2, z 3, z 4, w 5, w 5, ((.pr 29 (D 5) (.lit 0)), (.pr 29 (D 5) (.lit 0))), z 0, z 1, z 2, z 3, z 4, ((.pr 29 (D 5) (.lit 0)), (.pr 29 (D 5) (.lit 0))), ((D 11), (D 9)), w 12, w 11, w 12]
theorem xLg : runHB R0 0 0 (run [] consL 86 (Code.l (Code.l (Code.r (Code.r (Code.r (Code.r (Code.r (Code.r c3)))))))) S6 o5 1029) .normal id5 S7 o7 1029 eLg = true := by kernel_rfl
def eLo : Eqs := [z 6, z 7, z 8, w 12, z 13, z 0, z 1, z 2, z 3, z 4, w 5, w 5, ((.pr 29 (D 5) (.lit 0)), (.pr 29 (D 5) (.lit 0))), z 0, z 1, z 2, z 3, z 4, ((.pr 29 (D 5) (.lit 0)), (.pr 29 (D 5) (.lit 0))), w 11, w 12]
theorem xLo : runHB R0 0 0 (run [((.cmp .lss (D 10) (.pr 7 (D 9) (.lit 0))), false)] consL 86 (Code.l (Code.l (Code.r (Code.l (Code.r (Code.r (Code.r (Code.r (Code.r (Code.r c3)))))))))) S7 o7 1029) (.exit 0) [⟨1024, 1024, 0, 0, 0⟩, ⟨1025, 1025, 0, 0, 0⟩, ⟨1026, 1026, 0, 0, 0⟩, ⟨1027, 1028, 0, 0, 0⟩] S8 o4 1028 eLo = true := by kernel_rfl
def eLs : Eqs := [z 6, z 7, z 8, w 12, w 12, z 13, ((.pr 30 (.bin .add .i64 (D 10) (.lit 1)) (.lit 0)), (N (D 10))), z 0, z 1, z 2, z 3, z 4, w 5, w 5, ((.pr 29 (D 5) (.lit 0)), (.pr 29 (D 5) (.lit 0))), z 0, z 1, z 2, z 3, z 4, ((.pr 29 (D 5) (.lit 0)), (.pr 29 (D 5) (.lit 0))), ((.setc (.setc (.setc (.setc (.setc (.setc (.setc (D 9) (D 10) 6 (.lit 0)) (D 10) 5 (.lit 0)) (D 10) 4 (.lit 0)) (D 10) 3 (.lit 0)) (D 10) 2 (.lit 0)) (D 10) 1 (.lit 0)) (D 10) 0 (.lit 0)), (D 9)), w 12, w 11, w 12]
theorem xLs : runHB R0 0 0 (run [((.cmp .lss (D 10) (.pr 7 (D 9) (.lit 0))), true), ((.cmp .lss (D 10) (.lit 0)), false)] consL 86 (Code.l (Code.l (Code.r (Code.l (Code.r (Code.r (Code.r (Code.r (Code.r (Code.r c3)))))))))) S7 o7 1029) .normal id5 S7 o7 1029 eLs = true := by kernel_rfl
def eLh : Eqs := [z 6, z 7, z 8, w 12, z 13, (u10, (D 12)), ((.pr 30 u8 (.lit 0)), (N (D 13))), z 0, z 1, z 2, z 3, z 4, w 5, w 5, ((.pr 29 (D 5) (.lit 0)), (.pr 29 (D 5) (.lit 0))), z 0, z 1, z 2, z 3, z 4, ((.pr 29 (D 5) (.lit 0)), (.pr 29 (D 5) (.lit 0))), w 11, w 12, (u9, (D 11)), (u10, (D 12))]
theorem xLh : runHB R0 0 0 (run [] consL 86 (Code.l (Code.r (Code.r (Code.r (Code.r (Code.r (Code.r (Code.r c3)))))))) S8 o4 1028) .normal id5 S9 o5 1029 eLh = true := by kernel_rfl
def eLi : Eqs := []
theorem xLi : runHB R0 0 0 (run [((.cmp .lss (.pr 7 (D 11) (.lit 0)) (.lit 1000000)), true), ((.cmp .lss (.pr 7 (D 5) (.lit 0)) (.lit 1000000)), true), ((.cmp .eql (.ap 1 (D 5) (D 5) (.lit 0)) (.lit 0)), false)] consL 86 (Code.r (Code.r (Code.r (Code.r (Code.r (Code.r (Code.r (Code.r c3)))))))) S9 o5 1029) .ret [] [(8, .bool true)] [] 1024 eLi = true := by kernel_rfl
end
end Go.Proofs.YtbkokbjpbbpllaaGreat
/-! The law: whatever it is asked, it tells true. -/
namespace Go.Proofs.YtbkokbjpbbpllaaGreat
open Go.Tw
noncomputable section
def ST.lenAt (fa fb n i m : Nat) : ST → Bool
  | .leaf l => match l[i]? with
    | some e => match lenMax fa fb n e with
      | some k => Nat.ble k m
      | Option.none => false
    | Option.none => false
  | .ask _ t e => lenAt fa fb n i m t && lenAt fa fb n i m e
  | .none => true
theorem lenAt_ok {v : Val} {fa fb n i m : Nat} (hb : ∀ a b c, v.fn fb a b c = .lst (c.toL ++ (v.fn fa a b (.int 0)).toL)) (hn : ∀ a b c, (v.fn fa a b c).toL.length ≤ n) : ∀ {t : ST}, ST.lenAt fa fb n i m t = true → (t.val v i).toL.length ≤ m
  | .leaf l, h => by
    simp only [ST.lenAt] at h
    simp only [ST.val]
    cases hi : l[i]? with
    | none => rw [hi] at h; cases h
    | some e =>
      rw [hi] at h
      dsimp only at h ⊢
      cases hm : lenMax fa fb n e with
      | none => rw [hm] at h; cases h
      | some k =>
        rw [hm] at h
        exact Nat.le_trans (lenMax_ok hb hn hm) (ble_t h)
  | .ask b t e, h => by
    simp only [ST.lenAt, Bool.and_eq_true] at h
    simp only [ST.val]
    cases @Bx.eval v b with
    | true => exact lenAt_ok hb hn h.1
    | false => exact lenAt_ok hb hn h.2
  | .none, _ => Nat.zero_le _
theorem spT_len : ST.lenAt 2 3 8 2 40 spT = true := by kernel_rfl
theorem tmpl_len (a : Dat) : (tmplD a 2).toL.length ≤ 40 := lenAt_ok (v := VB a.one) (fa := 2) (fb := 3) (n := 8) (fun _ _ _ => rfl) (fun _ _ _ => layI_len _ _) spT_len
def zeroR (d : Dat) (k : Int) : Dat := ((((((d.setc k 6 (.int 0)).setc k 5 (.int 0)).setc k 4 (.int 0)).setc k 3 (.int 0)).setc k 2 (.int 0)).setc k 1 (.int 0)).setc k 0 (.int 0)
theorem setc_len (d : Dat) (k : Int) (o : Nat) (c : Dat) : (d.setc k o c).toL.length = d.toL.length := by
  show (d.toL.modify _ _).length = _
  rw [List.length_modify]
theorem zeroR_len (d : Dat) (k : Int) : (zeroR d k).toL.length = d.toL.length := by
  unfold zeroR
  repeat rw [setc_len]
theorem sameI_self (a : Dat) : sameI a a = true := by simp [sameI]
theorem c3_eq : c3 = .seq (Code.l c3) (.seq (Code.l (Code.r c3)) (.seq (Code.l (Code.r (Code.r c3))) (.seq (Code.l (Code.r (Code.r (Code.r c3)))) (.seq (Code.l (Code.r (Code.r (Code.r (Code.r c3))))) (.seq (Code.l (Code.r (Code.r (Code.r (Code.r (Code.r c3))))))
  (.seq (.seq (Code.l (Code.l (Code.r (Code.r (Code.r (Code.r (Code.r (Code.r c3)))))))) (.block 0 (.loop (Code.l (Code.l (Code.r (Code.l (Code.r (Code.r (Code.r (Code.r (Code.r (Code.r c3))))))))))))) (.seq (Code.l (Code.r (Code.r (Code.r (Code.r (Code.r (Code.r (Code.r c3)))))))) (Code.r (Code.r (Code.r (Code.r (Code.r (Code.r (Code.r (Code.r c3))))))))))))))) := by kernel_rfl
theorem consL_ok : ∀ c ∈ consL, c.Sound F0 P gl0 b0 R0 := by
  intro c hc
  simp only [consL, List.mem_cons, List.not_mem_nil, or_false] at hc
  rcases hc with rfl | rfl | rfl | rfl | rfl
  · exact con4_ok
  · exact con6_ok
  · exact con7_ok
  · exact con8_ok
  · exact con20_ok
section
variable (d0 d1 d2 d3 d4 d5 d6 d7 d8 : Dat)
abbrev vL : Val := VL F0 [d0, d1, d2, d3, d4, d5, d6, d7, d8]
def xD (l : Dat) : Nat → Dat
  | 0 => l
  | k + 1 => zeroR (xD l k) k
theorem xD_len (l : Dat) : ∀ k, (xD l k).toL.length = l.toL.length
  | 0 => rfl
  | k + 1 => by rw [xD, zeroR_len, xD_len l k]
abbrev vK (L Y E : Dat) (k : Nat) : Val := VL F0 [d0, d1, d2, d3, d4, d5, d6, d7, d8, xD L k, .int k, L, Y, E]
theorem uK {L Y E : Dat} {u : Sx} (hu : u.okB 9 12 = true) (k : Nat) : @Sx.dat (vK d0 d1 d2 d3 d4 d5 d6 d7 d8 L Y E k) u = @Sx.dat (vL d0 d1 d2 d3 d4 d5 d6 d7 d8) u := by
  refine Sx.okB_dat (v := vK d0 d1 d2 d3 d4 d5 d6 d7 d8 L Y E k) (v2 := vL d0 d1 d2 d3 d4 d5 d6 d7 d8) (nv := 9) (nf := 12) (fun j hj => ?_) (fun _ _ => rfl) hu
  match j, hj with
  | 0, _ => rfl
  | 1, _ => rfl
  | 2, _ => rfl
  | 3, _ => rfl
  | 4, _ => rfl
  | 5, _ => rfl
  | 6, _ => rfl
  | 7, _ => rfl
  | 8, _ => rfl
theorem lnD_len : (@Sx.dat (vL d0 d1 d2 d3 d4 d5 d6 d7 d8) u9).toL.length ≤ 40 := tmpl_len _
variable (L Y E : Dat)
theorem kl_ok : ∀ k, (xD L k).toL.length = L.toL.length := xD_len _
theorem p5_ok (h5 : (d5.toL.length : Int) < 21) (V : Val) (n : Int) (hd : @Sx.dat V (D 5) = d5) (hn : 21 ≤ n) : @Bx.eval V (lt (lenS (D 5)) (I n)) = true := lt_t (show ((@Sx.dat V (D 5)).toL.length : Int) < n by rw [hd]; omega)
theorem p11_ok (hl : L.toL.length ≤ 40) (k : Nat) : @Holds (vK d0 d1 d2 d3 d4 d5 d6 d7 d8 L Y E k) [(lt (lenS (D 11)) (I 1000000), true)] := hcons (lt_t (show (L.toL.length : Int) < 1000000 by omega)) hnil
theorem s_ha  : HR 0 0 86 (vL d0 d1 d2 d3 d4 d5 d6 d7 d8) (Code.l c3) (envL S0) (toldSt b0 [] R0) .normal (vL d0 d1 d2 d3 d4 d5 d6 d7 d8) (envL S1) (toldSt b0 o1 1025) := rn rfl hnil consL_ok (Nat.le_refl 0) xLa (eqs_cons rfl (eqs_cons rfl (eqs_cons rfl (eqs_cons rfl (eqs_cons rfl (eqs_cons rfl (eqs_cons rfl (eqs_cons rfl (eqs_cons rfl eqs_nil)))))))))
theorem s_hb (hL : @Sx.dat (vL d0 d1 d2 d3 d4 d5 d6 d7 d8) u9 = L) (hY : @Sx.dat (vL d0 d1 d2 d3 d4 d5 d6 d7 d8) u10 = Y) (hE : @Sx.dat (vL d0 d1 d2 d3 d4 d5 d6 d7 d8) u8 = E) (hl : L.toL.length ≤ 40) (h5 : (d5.toL.length : Int) < 21) : HR 0 0 86 (vL d0 d1 d2 d3 d4 d5 d6 d7 d8) (Code.l (Code.r c3)) (envL S1) (toldSt b0 o1 1025) .normal (vL d0 d1 d2 d3 d4 d5 d6 d7 d8) (envL S1) (toldSt b0 o1 1025) := rn rfl (hcons (p5_ok d5 h5 (vL d0 d1 d2 d3 d4 d5 d6 d7 d8) 21 rfl (by omega)) hnil) consL_ok (Nat.le_refl 0) xLb (eqs_cons rfl (eqs_cons rfl (eqs_cons rfl (eqs_cons rfl (eqs_cons rfl (eqs_cons rfl (eqs_cons rfl (eqs_cons rfl (eqs_cons rfl eqs_nil)))))))))
theorem s_hc (hL : @Sx.dat (vL d0 d1 d2 d3 d4 d5 d6 d7 d8) u9 = L) (hY : @Sx.dat (vL d0 d1 d2 d3 d4 d5 d6 d7 d8) u10 = Y) (hE : @Sx.dat (vL d0 d1 d2 d3 d4 d5 d6 d7 d8) u8 = E) (hl : L.toL.length ≤ 40) (h5 : (d5.toL.length : Int) < 21) : HR 0 0 86 (vL d0 d1 d2 d3 d4 d5 d6 d7 d8) (Code.l (Code.r (Code.r c3))) (envL S1) (toldSt b0 o1 1025) .normal (vL d0 d1 d2 d3 d4 d5 d6 d7 d8) (envL S3) (toldSt b0 o3 1027) := rn rfl (hcons (p5_ok d5 h5 (vL d0 d1 d2 d3 d4 d5 d6 d7 d8) 1000000001 rfl (by omega)) hnil) consL_ok (Nat.le_refl 0) xLc (eqs_cons rfl (eqs_cons rfl (eqs_cons rfl (eqs_cons rfl (eqs_cons rfl (eqs_cons rfl (eqs_cons rfl (eqs_cons rfl (eqs_cons rfl (eqs_cons rfl (eqs_cons rfl (eqs_cons rfl (eqs_cons rfl (eqs_cons rfl (eqs_cons rfl (eqs_cons rfl (eqs_cons rfl eqs_nil)))))))))))))))))
theorem s_hd (hL : @Sx.dat (vL d0 d1 d2 d3 d4 d5 d6 d7 d8) u9 = L) (hY : @Sx.dat (vL d0 d1 d2 d3 d4 d5 d6 d7 d8) u10 = Y) (hE : @Sx.dat (vL d0 d1 d2 d3 d4 d5 d6 d7 d8) u8 = E) (hl : L.toL.length ≤ 40) (h5 : (d5.toL.length : Int) < 21) : HR 0 0 86 (vL d0 d1 d2 d3 d4 d5 d6 d7 d8) (Code.l (Code.r (Code.r (Code.r c3)))) (envL S3) (toldSt b0 o3 1027) .normal (vK d0 d1 d2 d3 d4 d5 d6 d7 d8 L Y E 0) (envL S4) (toldSt b0 o4 1028) := rn rfl hnil consL_ok (Nat.le_refl 0) xLd (eqs_cons rfl (eqs_cons rfl (eqs_cons rfl (eqs_cons hY (eqs_cons (congrArg (fun d : Dat => Dat.int d.toI) hE) (eqs_cons rfl (eqs_cons rfl (eqs_cons rfl (eqs_cons rfl (eqs_cons rfl (eqs_cons rfl (eqs_cons rfl (eqs_cons rfl (eqs_cons rfl (eqs_cons rfl (eqs_cons rfl (eqs_cons rfl (eqs_cons rfl (eqs_cons rfl (eqs_cons hL (eqs_cons hY eqs_nil)))))))))))))))))))))
theorem s_he (hL : @Sx.dat (vL d0 d1 d2 d3 d4 d5 d6 d7 d8) u9 = L) (hY : @Sx.dat (vL d0 d1 d2 d3 d4 d5 d6 d7 d8) u10 = Y) (hE : @Sx.dat (vL d0 d1 d2 d3 d4 d5 d6 d7 d8) u8 = E) (hl : L.toL.length ≤ 40) (h5 : (d5.toL.length : Int) < 21) : HR 0 0 86 (vK d0 d1 d2 d3 d4 d5 d6 d7 d8 L Y E 0) (Code.l (Code.r (Code.r (Code.r (Code.r c3))))) (envL S4) (toldSt b0 o4 1028) .normal (vK d0 d1 d2 d3 d4 d5 d6 d7 d8 L Y E 0) (envL S5) (toldSt b0 o5 1029) := rn rfl hnil consL_ok (Nat.le_refl 0) xLe (eqs_cons rfl (eqs_cons rfl (eqs_cons rfl (eqs_cons rfl (eqs_cons rfl (eqs_cons ((uK d0 d1 d2 d3 d4 d5 d6 d7 d8 (by rfl) 0).trans hY) (eqs_cons (congrArg (fun d : Dat => Dat.int d.toI) ((uK d0 d1 d2 d3 d4 d5 d6 d7 d8 (by rfl) 0).trans hE)) (eqs_cons rfl (eqs_cons rfl (eqs_cons rfl (eqs_cons rfl (eqs_cons rfl (eqs_cons rfl (eqs_cons rfl (eqs_cons rfl (eqs_cons rfl (eqs_cons rfl (eqs_cons rfl (eqs_cons rfl (eqs_cons rfl (eqs_cons rfl (eqs_cons rfl (eqs_cons rfl (eqs_cons ((uK d0 d1 d2 d3 d4 d5 d6 d7 d8 (by rfl) 0).trans hL) (eqs_cons ((uK d0 d1 d2 d3 d4 d5 d6 d7 d8 (by rfl) 0).trans hY) eqs_nil)))))))))))))))))))))))))
theorem s_hf (hL : @Sx.dat (vL d0 d1 d2 d3 d4 d5 d6 d7 d8) u9 = L) (hY : @Sx.dat (vL d0 d1 d2 d3 d4 d5 d6 d7 d8) u10 = Y) (hE : @Sx.dat (vL d0 d1 d2 d3 d4 d5 d6 d7 d8) u8 = E) (hl : L.toL.length ≤ 40) (h5 : (d5.toL.length : Int) < 21) : HR 0 0 86 (vK d0 d1 d2 d3 d4 d5 d6 d7 d8 L Y E 0) (Code.l (Code.r (Code.r (Code.r (Code.r (Code.r c3)))))) (envL S5) (toldSt b0 o5 1029) .normal (vK d0 d1 d2 d3 d4 d5 d6 d7 d8 L Y E 0) (envL S6) (toldSt b0 o5 1029) := rn rfl (p11_ok d0 d1 d2 d3 d4 d5 d6 d7 d8 L Y E hl 0) consL_ok (Nat.le_refl 0) xLf (eqs_cons rfl (eqs_cons rfl (eqs_cons rfl (eqs_cons rfl (eqs_cons rfl (eqs_cons rfl (eqs_cons rfl (eqs_cons rfl (eqs_cons rfl (eqs_cons rfl (eqs_cons rfl (eqs_cons rfl (eqs_cons rfl (eqs_cons rfl (eqs_cons rfl (eqs_cons rfl (eqs_cons rfl (eqs_cons rfl (eqs_cons rfl (eqs_cons rfl (eqs_cons rfl (eqs_cons rfl (eqs_cons rfl (eqs_cons rfl eqs_nil))))))))))))))))))))))))
theorem s_hg (hL : @Sx.dat (vL d0 d1 d2 d3 d4 d5 d6 d7 d8) u9 = L) (hY : @Sx.dat (vL d0 d1 d2 d3 d4 d5 d6 d7 d8) u10 = Y) (hE : @Sx.dat (vL d0 d1 d2 d3 d4 d5 d6 d7 d8) u8 = E) (hl : L.toL.length ≤ 40) (h5 : (d5.toL.length : Int) < 21) : HR 0 0 86 (vK d0 d1 d2 d3 d4 d5 d6 d7 d8 L Y E 0) (Code.l (Code.l (Code.r (Code.r (Code.r (Code.r (Code.r (Code.r c3)))))))) (envL S6) (toldSt b0 o5 1029) .normal (vK d0 d1 d2 d3 d4 d5 d6 d7 d8 L Y E 0) (envL S7) (toldSt b0 o7 1029) := rn rfl hnil consL_ok (Nat.le_refl 0) xLg (eqs_cons rfl (eqs_cons rfl (eqs_cons rfl (eqs_cons rfl (eqs_cons rfl (eqs_cons rfl (eqs_cons rfl (eqs_cons rfl (eqs_cons rfl (eqs_cons rfl (eqs_cons rfl (eqs_cons rfl (eqs_cons rfl (eqs_cons rfl (eqs_cons rfl (eqs_cons rfl (eqs_cons rfl (eqs_cons rfl (eqs_cons rfl (eqs_cons rfl (eqs_cons rfl (eqs_cons rfl (eqs_cons rfl (eqs_cons rfl (eqs_cons rfl eqs_nil)))))))))))))))))))))))))
theorem s_hh (hL : @Sx.dat (vL d0 d1 d2 d3 d4 d5 d6 d7 d8) u9 = L) (hY : @Sx.dat (vL d0 d1 d2 d3 d4 d5 d6 d7 d8) u10 = Y) (hE : @Sx.dat (vL d0 d1 d2 d3 d4 d5 d6 d7 d8) u8 = E) (hl : L.toL.length ≤ 40) (h5 : (d5.toL.length : Int) < 21) : HR 0 0 86 (vK d0 d1 d2 d3 d4 d5 d6 d7 d8 L Y E 0) (Code.l (Code.r (Code.r (Code.r (Code.r (Code.r (Code.r (Code.r c3)))))))) (envL S8) (toldSt b0 o4 1028) .normal (vK d0 d1 d2 d3 d4 d5 d6 d7 d8 L Y E 0) (envL S9) (toldSt b0 o5 1029) := rn rfl hnil consL_ok (Nat.le_refl 0) xLh (eqs_cons rfl (eqs_cons rfl (eqs_cons rfl (eqs_cons rfl (eqs_cons rfl (eqs_cons ((uK d0 d1 d2 d3 d4 d5 d6 d7 d8 (by rfl) 0).trans hY) (eqs_cons (congrArg (fun d : Dat => Dat.int d.toI) ((uK d0 d1 d2 d3 d4 d5 d6 d7 d8 (by rfl) 0).trans hE)) (eqs_cons rfl (eqs_cons rfl (eqs_cons rfl (eqs_cons rfl (eqs_cons rfl (eqs_cons rfl (eqs_cons rfl (eqs_cons rfl (eqs_cons rfl (eqs_cons rfl (eqs_cons rfl (eqs_cons rfl (eqs_cons rfl (eqs_cons rfl (eqs_cons rfl (eqs_cons rfl (eqs_cons ((uK d0 d1 d2 d3 d4 d5 d6 d7 d8 (by rfl) 0).trans hL) (eqs_cons ((uK d0 d1 d2 d3 d4 d5 d6 d7 d8 (by rfl) 0).trans hY) eqs_nil)))))))))))))))))))))))))
theorem s_hs (hL : @Sx.dat (vL d0 d1 d2 d3 d4 d5 d6 d7 d8) u9 = L) (hY : @Sx.dat (vL d0 d1 d2 d3 d4 d5 d6 d7 d8) u10 = Y) (hE : @Sx.dat (vL d0 d1 d2 d3 d4 d5 d6 d7 d8) u8 = E) (hl : L.toL.length ≤ 40) (h5 : (d5.toL.length : Int) < 21) (k : Nat) (hk : k < L.toL.length) : HR 0 0 86 (vK d0 d1 d2 d3 d4 d5 d6 d7 d8 L Y E k) (Code.l (Code.l (Code.r (Code.l (Code.r (Code.r (Code.r (Code.r (Code.r (Code.r c3)))))))))) (envL S7) (toldSt b0 o7 1029) .normal (vK d0 d1 d2 d3 d4 d5 d6 d7 d8 L Y E (k + 1)) (envL S7) (toldSt b0 o7 1029) := by
  have hp : @Holds (vK d0 d1 d2 d3 d4 d5 d6 d7 d8 L Y E k) [(lt (D 10) (lenS (D 9)), true), (lt (D 10) (I 0), false)] := hcons (lt_t (show (k : Int) < (xD L k).toL.length by rw [kl_ok]; omega)) (hcons (lt_f (show ¬ (k : Int) < 0 by omega)) hnil)
  have ew : wrapI .i64 ((k : Int) + 1) = ((k + 1 : Nat) : Int) := by rw [wrap_small (by omega) (by omega)]; rfl
  exact rn (v := (vK d0 d1 d2 d3 d4 d5 d6 d7 d8 L Y E k)) rfl hp consL_ok (Nat.le_refl 0) xLs (eqs_cons rfl (eqs_cons rfl (eqs_cons rfl (eqs_cons rfl (eqs_cons rfl (eqs_cons rfl (eqs_cons (congrArg Dat.int ew) (eqs_cons rfl (eqs_cons rfl (eqs_cons rfl (eqs_cons rfl (eqs_cons rfl (eqs_cons rfl (eqs_cons rfl (eqs_cons rfl (eqs_cons rfl (eqs_cons rfl (eqs_cons rfl (eqs_cons rfl (eqs_cons rfl (eqs_cons rfl (eqs_cons rfl (eqs_cons rfl (eqs_cons rfl (eqs_cons rfl eqs_nil)))))))))))))))))))))))))
theorem s_ho (hL : @Sx.dat (vL d0 d1 d2 d3 d4 d5 d6 d7 d8) u9 = L) (hY : @Sx.dat (vL d0 d1 d2 d3 d4 d5 d6 d7 d8) u10 = Y) (hE : @Sx.dat (vL d0 d1 d2 d3 d4 d5 d6 d7 d8) u8 = E) (hl : L.toL.length ≤ 40) (h5 : (d5.toL.length : Int) < 21) : HR 0 0 86 (vK d0 d1 d2 d3 d4 d5 d6 d7 d8 L Y E L.toL.length) (Code.l (Code.l (Code.r (Code.l (Code.r (Code.r (Code.r (Code.r (Code.r (Code.r c3)))))))))) (envL S7) (toldSt b0 o7 1029) (.exit 0) (vK d0 d1 d2 d3 d4 d5 d6 d7 d8 L Y E 0) (envL S8) (toldSt b0 o4 1028) := by
  have hp : @Holds (vK d0 d1 d2 d3 d4 d5 d6 d7 d8 L Y E L.toL.length) [(lt (D 10) (lenS (D 9)), false)] := hcons (lt_f (show ¬ ((L.toL.length : Nat) : Int) < (xD L L.toL.length).toL.length by rw [kl_ok]; omega)) hnil
  exact rn (v := (vK d0 d1 d2 d3 d4 d5 d6 d7 d8 L Y E L.toL.length)) rfl hp consL_ok (Nat.le_refl 0) xLo (eqs_cons rfl (eqs_cons rfl (eqs_cons rfl (eqs_cons rfl (eqs_cons rfl (eqs_cons rfl (eqs_cons rfl (eqs_cons rfl (eqs_cons rfl (eqs_cons rfl (eqs_cons rfl (eqs_cons rfl (eqs_cons rfl (eqs_cons rfl (eqs_cons rfl (eqs_cons rfl (eqs_cons rfl (eqs_cons rfl (eqs_cons rfl (eqs_cons rfl (eqs_cons rfl eqs_nil)))))))))))))))))))))
theorem s_hi (hL : @Sx.dat (vL d0 d1 d2 d3 d4 d5 d6 d7 d8) u9 = L) (hY : @Sx.dat (vL d0 d1 d2 d3 d4 d5 d6 d7 d8) u10 = Y) (hE : @Sx.dat (vL d0 d1 d2 d3 d4 d5 d6 d7 d8) u8 = E) (hl : L.toL.length ≤ 40) (h5 : (d5.toL.length : Int) < 21) : HR 0 0 86 (vK d0 d1 d2 d3 d4 d5 d6 d7 d8 L Y E 0) (Code.r (Code.r (Code.r (Code.r (Code.r (Code.r (Code.r (Code.r c3)))))))) (envL S9) (toldSt b0 o5 1029) .ret (vL d0 d1 d2 d3 d4 d5 d6 d7 d8) (envL [(8, .bool true)]) (toldSt b0 [] R0) := by
  have hq : @Bx.eval (vK d0 d1 d2 d3 d4 d5 d6 d7 d8 L Y E 0) (eq (.ap 1 (D 5) (D 5) (I 0)) (I 0)) = false := by
    show (b2i (sameI d5 d5) == 0) = false
    rw [sameI_self]; rfl
  exact rn rfl (happ (p11_ok d0 d1 d2 d3 d4 d5 d6 d7 d8 L Y E hl 0) (hcons (p5_ok d5 h5 (vK d0 d1 d2 d3 d4 d5 d6 d7 d8 L Y E 0) 1000000 rfl (by omega)) (hcons hq hnil))) consL_ok (Nat.le_refl 0) xLi eqs_nil
theorem s_hx (h5 : (d5.toL.length : Int) ≥ 21) : HR 0 0 86 (vL d0 d1 d2 d3 d4 d5 d6 d7 d8) (Code.l (Code.r c3)) (envL S1) (toldSt b0 o1 1025) .ret (vL d0 d1 d2 d3 d4 d5 d6 d7 d8) (envL [(8, .bool true)]) (toldSt b0 [] R0) := by
  have hp : @Holds (vL d0 d1 d2 d3 d4 d5 d6 d7 d8) [(lt (lenS (D 5)) (I 21), false)] := hcons (lt_f (show ¬ (d5.toL.length : Int) < 21 by omega)) hnil
  exact rn (v := (vL d0 d1 d2 d3 d4 d5 d6 d7 d8)) rfl hp consL_ok (Nat.le_refl 0) xLx eqs_nil
theorem law_ht' (hL : @Sx.dat (vL d0 d1 d2 d3 d4 d5 d6 d7 d8) u9 = L) (hY : @Sx.dat (vL d0 d1 d2 d3 d4 d5 d6 d7 d8) u10 = Y) (hE : @Sx.dat (vL d0 d1 d2 d3 d4 d5 d6 d7 d8) u8 = E) (hl : L.toL.length ≤ 40) : HR 0 0 86 (vL d0 d1 d2 d3 d4 d5 d6 d7 d8) c3 (envL S0) (toldSt b0 [] R0) .ret (vL d0 d1 d2 d3 d4 d5 d6 d7 d8) (envL [(8, .bool true)]) (toldSt b0 [] R0) := by
  have ha := s_ha d0 d1 d2 d3 d4 d5 d6 d7 d8
  rw [c3_eq]
  rcases Int.lt_or_le (d5.toL.length : Int) 21 with h5 | h5
  · have hloop := HT.block (id := 0) (HT.loop (Nat.le_refl 0) _ (fun k => (vK d0 d1 d2 d3 d4 d5 d6 d7 d8 L Y E k)) (s_hs d0 d1 d2 d3 d4 d5 d6 d7 d8 L Y E hL hY hE hl h5) (s_ho d0 d1 d2 d3 d4 d5 d6 d7 d8 L Y E hL hY hE hl h5) (by simp))
    exact ha.seq (Nat.le_refl 0) ((s_hb d0 d1 d2 d3 d4 d5 d6 d7 d8 L Y E hL hY hE hl h5).seq (Nat.le_refl 0) ((s_hc d0 d1 d2 d3 d4 d5 d6 d7 d8 L Y E hL hY hE hl h5).seq (Nat.le_refl 0) ((s_hd d0 d1 d2 d3 d4 d5 d6 d7 d8 L Y E hL hY hE hl h5).seq (Nat.le_refl 0) ((s_he d0 d1 d2 d3 d4 d5 d6 d7 d8 L Y E hL hY hE hl h5).seq (Nat.le_refl 0) ((s_hf d0 d1 d2 d3 d4 d5 d6 d7 d8 L Y E hL hY hE hl h5).seq (Nat.le_refl 0) (((s_hg d0 d1 d2 d3 d4 d5 d6 d7 d8 L Y E hL hY hE hl h5).seq (Nat.le_refl 0) hloop).seq (Nat.le_refl 0) ((s_hh d0 d1 d2 d3 d4 d5 d6 d7 d8 L Y E hL hY hE hl h5).seq (Nat.le_refl 0) (s_hi d0 d1 d2 d3 d4 d5 d6 d7 d8 L Y E hL hY hE hl h5))))))))
  · exact ha.seq (Nat.le_refl 0) ((s_hx d0 d1 d2 d3 d4 d5 d6 d7 d8 h5).seq_out (by simp))
theorem law_ht : HR 0 0 86 (vL d0 d1 d2 d3 d4 d5 d6 d7 d8) c3 (envL S0) (toldSt b0 [] R0) .ret (vL d0 d1 d2 d3 d4 d5 d6 d7 d8) (envL [(8, .bool true)]) (toldSt b0 [] R0) := law_ht' d0 d1 d2 d3 d4 d5 d6 d7 d8 _ _ _ rfl rfl rfl (lnD_len d0 d1 d2 d3 d4 d5 d6 d7 d8)
end
end
end Go.Proofs.YtbkokbjpbbpllaaGreat
