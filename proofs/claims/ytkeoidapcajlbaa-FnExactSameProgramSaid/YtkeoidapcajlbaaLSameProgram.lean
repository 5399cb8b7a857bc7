/- FnExactSameProgram: whatever the input, the law returns true. No condition. -/
import Derived.Test.YtkeoidapcajlbaaW
import Derived.Test.YtkeoidapcajlbaaS
import Derived.Deep.RegionHeld3
namespace Go.Proofs.Ytkeoidapcajlbaa.lawSameProgram
open Go.ChangeShapes Go.WideShapes Go.ChangeAt Go.RowKit
set_option maxHeartbeats 8000000 in
set_option maxRecDepth 100000 in
theorem walk (R : Int) (a : Option Addr) (n c : Nat) (Q : Int) (b : Option Addr) (m d : Nat) (w : World) (hm : n ≤ maxLen) (hx0 : ∃ os : List Ord, os.length = n ∧ SlO (· < w.heap.size) w a os)
    (hm' : m ≤ maxLen) (hy0 : ∃ os : List Ord, os.length = m ∧ SlO (· < w.heap.size) w b os) :
    Calls Try.prog 8 #[.agg #[.int .i64 R, .slice a n c], .agg #[.int .i64 Q, .slice b m d]] w (RetV w (.bool true)) := by
  obtain ⟨xs, rfl, hx⟩ := hx0
  obtain ⟨ys, rfl, hy⟩ := hy0
  have HC := fun (wx : World) => szProgram_c R a xs.length c 1048576 wx hm (by omega) (by omega)
  have hb00 : Below w.heap.size w ((w.alloc (.cells #[.int .i64 R, .slice a xs.length c] 35)).alloc (.cells #[.int .i64 Q, .slice b ys.length d] 35)) := ((Below.refl _ _).alloc (Nat.le_refl _) _).alloc (by simp) _
  have HB00 := Lib.hid hb00
  clear hb00
  by_cases hq : xs.length ≤ 1048576
  · have e : (if (1048576 : Int) < xs.length then (-1 : Int) else 1048576 - xs.length) = 1048576 - xs.length := if_neg (by omega)
    rw [e] at HC
    have HS := Lib.hid HC
    clear HC e
    have HD := fun (wx : World) => szProgram_c Q b ys.length d (1048576 - xs.length) wx hm' (by omega) (by omega)
    by_cases hq2 : ys.length ≤ 1048576 - xs.length
    · have e : (if (1048576 - xs.length : Int) < ys.length then (-1 : Int) else 1048576 - xs.length - ys.length) = 1048576 - xs.length - ys.length := if_neg (by omega)
      rw [e] at HD
      have HT := Lib.hid HD
      clear HD e
      have hB := Below.refl w.heap.size w
      go_enter Try.func8, Try.ntmps8
      go_wp2_with fail
      refine (HS.out _).mono ?_
      rintro e w1 ⟨rfl, hb1⟩
      have hs1 := bnext HB00.out hb1 (by simp <;> omega)
      have bx0 : w1.cell? ⟨w.heap.size, 0, none⟩ = some (.int .i64 R) := by rw [bcell1 hb1 (by simp <;> omega)]; simp [go_sem]
      have bx1 : w1.cell? ⟨w.heap.size, 1, none⟩ = some (.slice a xs.length c) := by rw [bcell1 hb1 (by simp <;> omega)]; simp [go_sem]
      have by0 : w1.cell? ⟨w.heap.size + 1, 0, none⟩ = some (.int .i64 Q) := by rw [bcell1 hb1 (by simp)]; simp [go_sem]
      have by1 : w1.cell? ⟨w.heap.size + 1, 1, none⟩ = some (.slice b ys.length d) := by rw [bcell1 hb1 (by simp)]; simp [go_sem]
      have hz1 : w.heap.size + 1 < w1.heap.size := by have := hb1.size; simp at this; omega
      replace hB := hB.trans hs1
      clear hb1 hs1
      go_wp2_with fail
      refine (HT.out _).mono ?_
      rintro e w2 ⟨rfl, hb2⟩
      replace bx0 := (bcell1 hb2 (by omega)).trans bx0
      replace bx1 := (bcell1 hb2 (by omega)).trans bx1
      replace by0 := (bcell1 hb2 (by omega)).trans by0
      replace by1 := (bcell1 hb2 (by omega)).trans by1
      have hz2 := hb2.size
      replace hB := bnext hB hb2 (Nat.le_refl _)
      clear hb2
      go_wp2_with fail
      have tok1 : True := trivial
      go_region_held3 (fun wx => wx.cell? ⟨w.heap.size, 0, none⟩ = some (.int .i64 R) ∧ wx.cell? ⟨w.heap.size, 1, none⟩ = some (.slice a xs.length c) ∧ wx.cell? ⟨w.heap.size + 1, 0, none⟩ = some (.int .i64 Q) ∧ wx.cell? ⟨w.heap.size + 1, 1, none⟩ = some (.slice b ys.length d))
        (first
          | go_keep
          | (refine ⟨?_, ?_, ?_, ?_⟩ <;> (rw [bcell1 hb3 (by show _ < w2.heap.size; omega)]; assumption))
          | (have h3 : w2.heap.size ≤ w3.heap.size := hb3.size; go_split_ands; refine ⟨?_, ?_, ?_, ?_⟩ <;> (rw [bcell1 hb4 (by omega)]; assumption))
          | (have h3 : w2.heap.size ≤ w3.heap.size := hb3.size; have h4 : w3.heap.size ≤ w4.heap.size := hb4.size; go_split_ands; refine ⟨?_, ?_, ?_, ?_⟩ <;> (rw [bcell1 hb5 (by omega)]; assumption)))
        (first
          | (go_at_call 27; have _t := tok1; refine (toProgram_c R _ a c xs _ (hx.below hB.drew) (by omega)).mono ?_; clear tok1 _t; rintro e w3 ⟨v3, F3, rfl, hb3, ho3, hn3, hl3⟩; obtain ⟨a3, c3, rfl⟩ := ho3.valO)
          | (go_at_call 27; refine (toProgram_c Q _ b d ys _ (hy.below (bnext hB.drew hb3 (Nat.le_refl _))) (by omega)).mono ?_; rintro e w4 ⟨v4, F4, rfl, hb4, ho4, hn4, hl4⟩; obtain ⟨a4, c4, rfl⟩ := ho4.valO)
          | (go_at_call 26; refine (specSameProgram_c R Q Any _ _ _ _ xs ys _ (ho3.below hb4).argO.2 ho4.argO.2).mono ?_; rintro e w5 ⟨rfl, hb5⟩))
      have h23 : Below w2.heap.size w2 w5 := ((((Below.refl w2.heap.size w2).drew).trans hb3).trans (hb4.mono hb3.size)).trans (hb5.mono (Nat.le_trans hb3.size hb4.size))
      clear hb3 hb4 hb5 ho3 ho4
      replace bx0 := (bcell1 h23 (by omega)).trans bx0
      replace bx1 := (bcell1 h23 (by omega)).trans bx1
      replace by0 := (bcell1 h23 (by omega)).trans by0
      replace by1 := (bcell1 h23 (by omega)).trans by1
      have hz5 := h23.size
      replace hB := bnext hB h23 (Nat.le_refl _)
      clear h23
      go_wp2_with fail
      refine (toProgram_c R _ a c xs w5 (hx.below hB) (by omega)).mono ?_
      rintro e w6 ⟨v6, F6, rfl, hb6, ho6, hn6, hl6⟩
      obtain ⟨a6, c6, rfl⟩ := ho6.valO
      have hs6 := ho6.argO.2
      replace bx0 := (bcell1 hb6 (by omega)).trans bx0
      replace bx1 := (bcell1 hb6 (by omega)).trans bx1
      replace by0 := (bcell1 hb6 (by omega)).trans by0
      replace by1 := (bcell1 hb6 (by omega)).trans by1
      have hz6 := hb6.size
      replace hB := bnext hB hb6 (Nat.le_refl _)
      clear hb6 ho6
      have lt60 : w.heap.size < w6.heap.size := by omega
      have lt61 : w.heap.size + 1 < w6.heap.size := by omega
      go_wp2_with fail
      refine (toProgram_c Q _ b d ys _ (hy.below (hB.trans ((below_alloc _ _).mono (by omega)))) (by omega)).mono ?_
      rintro e w7 ⟨v7, F7, rfl, hb7, ho7, hn7, hl7⟩
      obtain ⟨a7, c7, rfl⟩ := ho7.valO
      have ht7 := ho7.argO.2
      have cx0 : w7.cell? ⟨w6.heap.size, 0, none⟩ = some (.int .i64 R) := by rw [bcell1 hb7 (by simp)]; simp [go_sem]
      have cx1 : w7.cell? ⟨w6.heap.size, 1, none⟩ = some (.slice a6 xs.length c6) := by rw [bcell1 hb7 (by simp)]; simp [go_sem]
      have h67 := bnext (below_alloc _ _) hb7 (Nat.le_refl _)
      have hz7 : w6.heap.size < w7.heap.size := by have := hb7.size; simp at this; omega
      replace bx0 := (bcell1 h67 (by omega)).trans bx0
      replace bx1 := (bcell1 h67 (by omega)).trans bx1
      replace by0 := (bcell1 h67 (by omega)).trans by0
      replace by1 := (bcell1 h67 (by omega)).trans by1
      replace hB := bnext hB h67 (Nat.le_refl _)
      replace hs6 := hs6.below h67
      clear hb7 ho7 h67
      have lt70 : w.heap.size < w7.heap.size := by omega
      have lt71 : w.heap.size + 1 < w7.heap.size := by omega
      go_wp2_with fail
      refine (implSameProgram_c R Q Any _ _ _ _ xs ys _ (hs6.below (below_alloc _ _)) (ht7.below (below_alloc _ _))).mono ?_
      rintro e w8 ⟨rfl, hb8⟩
      have cy0 : w8.cell? ⟨w7.heap.size, 0, none⟩ = some (.int .i64 Q) := by rw [bcell1 hb8 (by simp)]; simp [go_sem]
      have cy1 : w8.cell? ⟨w7.heap.size, 1, none⟩ = some (.slice a7 ys.length c7) := by rw [bcell1 hb8 (by simp)]; simp [go_sem]
      have h78 := bnext (below_alloc _ _) hb8 (Nat.le_refl _)
      have hz8 : w7.heap.size < w8.heap.size := by have := hb8.size; simp at this; omega
      replace bx0 := (bcell1 h78 (by omega)).trans bx0
      replace bx1 := (bcell1 h78 (by omega)).trans bx1
      replace by0 := (bcell1 h78 (by omega)).trans by0
      replace by1 := (bcell1 h78 (by omega)).trans by1
      replace cx0 := (bcell1 h78 (by omega)).trans cx0
      replace cx1 := (bcell1 h78 (by omega)).trans cx1
      replace hB := bnext hB h78 (Nat.le_refl _)
      replace hs6 := hs6.below h78
      replace ht7 := ht7.below h78
      clear hb8 h78
      go_wp2_with fail
      go_region_held3 (fun wx => wx.cell? ⟨w.heap.size, 0, none⟩ = some (.int .i64 R) ∧ wx.cell? ⟨w.heap.size, 1, none⟩ = some (.slice a xs.length c) ∧ wx.cell? ⟨w.heap.size + 1, 0, none⟩ = some (.int .i64 Q) ∧ wx.cell? ⟨w.heap.size + 1, 1, none⟩ = some (.slice b ys.length d) ∧ wx.cell? ⟨w6.heap.size, 0, none⟩ = some (.int .i64 R) ∧ wx.cell? ⟨w6.heap.size, 1, none⟩ = some (.slice a6 xs.length c6) ∧ wx.cell? ⟨w7.heap.size, 0, none⟩ = some (.int .i64 Q) ∧ wx.cell? ⟨w7.heap.size, 1, none⟩ = some (.slice a7 ys.length c7))
        (first | go_keep | (refine ⟨?_, ?_, ?_, ?_, ?_, ?_, ?_, ?_⟩ <;> (rw [bcell1 hb9 (by show _ < w8.heap.size; omega)]; assumption)) | (have hh : w8.heap.size ≤ w9.heap.size := hb9.size; go_split_ands; refine ⟨?_, ?_, ?_, ?_, ?_, ?_, ?_, ?_⟩ <;> (rw [bcell1 hb10 (by omega)]; assumption)))
        (first
          | (go_at_call 27; refine (toProgram_c R _ a c xs _ (hx.below hB.drew) (by omega)).mono ?_; rintro e w9 ⟨v9, F9, rfl, hb9, ho9, hn9, hl9⟩; obtain ⟨a9, c9, rfl⟩ := ho9.valO)
          | (go_at_call 29; refine (eqProgram_c R _ _ _ _ xs _ (hs6.below ((Below.refl w8.heap.size w8).drew.trans hb9)) ho9.argO.2).mono ?_; rintro e w10 ⟨rfl, hb10⟩))
      have h810 : Below w8.heap.size w8 w10 := (((Below.refl w8.heap.size w8).drew).trans hb9).trans (hb10.mono hb9.size)
      clear hb9 hb10 ho9
      replace bx0 := (bcell1 h810 (by omega)).trans bx0
      replace bx1 := (bcell1 h810 (by omega)).trans bx1
      replace by0 := (bcell1 h810 (by omega)).trans by0
      replace by1 := (bcell1 h810 (by omega)).trans by1
      replace cx0 := (bcell1 h810 (by omega)).trans cx0
      replace cx1 := (bcell1 h810 (by omega)).trans cx1
      replace cy0 := (bcell1 h810 (by omega)).trans cy0
      replace cy1 := (bcell1 h810 (by omega)).trans cy1
      have hz10 := h810.size
      replace hB := bnext hB h810 (Nat.le_refl _)
      replace ht7 := ht7.below h810
      clear h810
      go_wp2_with fail
      go_region_held3 (fun wx => wx.cell? ⟨w.heap.size, 0, none⟩ = some (.int .i64 R) ∧ wx.cell? ⟨w.heap.size, 1, none⟩ = some (.slice a xs.length c) ∧ wx.cell? ⟨w.heap.size + 1, 0, none⟩ = some (.int .i64 Q) ∧ wx.cell? ⟨w.heap.size + 1, 1, none⟩ = some (.slice b ys.length d) ∧ wx.cell? ⟨w6.heap.size, 0, none⟩ = some (.int .i64 R) ∧ wx.cell? ⟨w6.heap.size, 1, none⟩ = some (.slice a6 xs.length c6) ∧ wx.cell? ⟨w7.heap.size, 0, none⟩ = some (.int .i64 Q) ∧ wx.cell? ⟨w7.heap.size, 1, none⟩ = some (.slice a7 ys.length c7))
        (first | go_keep | (refine ⟨?_, ?_, ?_, ?_, ?_, ?_, ?_, ?_⟩ <;> (rw [bcell1 hb11 (by show _ < w10.heap.size; omega)]; assumption)) | (have hh : w10.heap.size ≤ w11.heap.size := hb11.size; go_split_ands; refine ⟨?_, ?_, ?_, ?_, ?_, ?_, ?_, ?_⟩ <;> (rw [bcell1 hb12 (by omega)]; assumption)))
        (first
          | (go_at_call 27; refine (toProgram_c Q _ b d ys _ (hy.below hB.drew) (by omega)).mono ?_; rintro e w11 ⟨v11, F11, rfl, hb11, ho11, hn11, hl11⟩; obtain ⟨a11, c11, rfl⟩ := ho11.valO)
          | (go_at_call 29; refine (eqProgram_c Q _ _ _ _ ys _ (ht7.below ((Below.refl w10.heap.size w10).drew.trans hb11)) ho11.argO.2).mono ?_; rintro e w12 ⟨rfl, hb12⟩))
      have h1012 : Below w10.heap.size w10 w12 := (((Below.refl w10.heap.size w10).drew).trans hb11).trans (hb12.mono hb11.size)
      go_wp2
      go_ret
      exact ⟨rfl, bnext hB h1012 (Nat.le_refl _)⟩
    · have e : (if (1048576 - xs.length : Int) < ys.length then (-1 : Int) else 1048576 - xs.length - ys.length) = -1 := if_pos (by omega)
      rw [e] at HD
      have HT := Lib.hid HD
      clear HD e
      go_enter Try.func8, Try.ntmps8
      go_wp2_with fail
      refine (HS.out _).mono ?_
      rintro e w1 ⟨rfl, hb1⟩
      have by0 : w1.cell? ⟨w.heap.size + 1, 0, none⟩ = some (.int .i64 Q) := by rw [bcell1 hb1 (by simp)]; simp [go_sem]
      have by1 : w1.cell? ⟨w.heap.size + 1, 1, none⟩ = some (.slice b ys.length d) := by rw [bcell1 hb1 (by simp)]; simp [go_sem]
      have hs1 := bnext HB00.out hb1 (by simp <;> omega)
      clear hb1
      go_wp2_with fail
      refine (HT.out _).mono ?_
      rintro e w2 ⟨rfl, hb2⟩
      go_wp2
      go_ret
      exact ⟨rfl, bnext hs1 hb2 (Nat.le_refl _)⟩
  · have e : (if (1048576 : Int) < xs.length then (-1 : Int) else 1048576 - xs.length) = -1 := if_pos (by omega)
    rw [e] at HC
    have HS := Lib.hid HC
    clear HC e
    go_enter Try.func8, Try.ntmps8
    go_wp2_with fail
    refine (HS.out _).mono ?_
    rintro e w1 ⟨rfl, hb1⟩
    have hs1 := bnext HB00.out hb1 (by simp <;> omega)
    clear hb1
    go_wp2
    go_ret
    exact ⟨rfl, hs1⟩
set_option maxRecDepth 100000 in
theorem lifted (os : Os) (started : os.Started) (H : Type) (enc : TypeId × Value → H) :
    ReturnsInHanded {} Try.checked os 8 .any (Rows.fnExactSameProgramSpec.pre6 enc Try.prog Try.f8 Rows.fnExactSameProgramRow.domain false) (Rows.fnExactSameProgramSpec.post enc Try.prog Try.f8 false true false false) :=
  lift Try.func8 (by kernel_rfl) rfl rfl (by kernel_rfl : Try.prog.underlying 4 = some .bool) (by kernel_rfl) (fun ds h => by match ds, h with | [d0, d1], _ => rfl) started
    (ChangeSpec.witness6 (enc := enc) (C := Try.checked) false ⟨#[], #[.agg #[.int .i64 0, .slice none 0 0], .agg #[.int .i64 0, .slice none 0 0]], []⟩ 8 (by kernel_rfl) (by kernel_rfl) (by kernel_rfl) (by kernel_rfl))
    (fun W base args ds p hval hA => by
      rw [Try.params8] at hA hval
      obtain ⟨v0, vs0, d0, ds0, p0, q0, hargs0, rfl, rfl, g0, r0⟩ := ChangeShapes.trodAll_cons hA
      obtain ⟨v1, vs1, d1, ds1, p1, q1, hargs1, rfl, rfl, g1, r1⟩ := ChangeShapes.trodAll_cons r0
      obtain ⟨hnil, rfl, rfl⟩ := ChangeShapes.trodAll_nil r1
      obtain rfl : args = #[v0, v1] := by cases args; simp_all
      obtain ⟨R0, a0, n0, c0, rfl, hm0, hs0⟩ := open_P Try.underlying35 (by kernel_rfl) (hval 0 _ _ rfl rfl) g0
      obtain ⟨R1, a1, n1, c1, rfl, hm1, hs1⟩ := open_P Try.underlying35 (by kernel_rfl) (hval 1 _ _ rfl rfl) g1
      exact walk R0 a0 n0 c0 R1 a1 n1 c1 W hm0 hs0 hm1 hs1)
theorem proved : Rows.FnExactSameProgramSaid :=
  OpenClaim.holds_of_wide 8 Try.f8 rfl rfl rfl rfl rfl rfl rfl ⟨rfl, rfl, rfl, rfl, rfl⟩ rfl rfl rfl rfl rfl (by kernel_rfl) Try.func8 (by kernel_rfl)
    (of_decide_eq_true (by kernel_rfl)) (by unfold Func.isWrapper; first | (rw [if_pos (by decide +kernel)]; kernel_rfl) | (rw [if_neg (by decide +kernel)]; exact ⟨rfl, rfl⟩))
    (fun os started H enc _ => lifted os started H enc)
end Go.Proofs.Ytkeoidapcajlbaa.lawSameProgram
