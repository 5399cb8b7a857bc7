/- FnExactSameStock: whatever the input, the law returns true. No condition. Written by samegen.py. -/
import Derived.Test.YthfkhallnbcopaaWA
import Derived.Deep.RegionHeld3
namespace Go.Proofs.Ythfkhallnbcopaa.lawSameStock
open Go.ChangeShapes Go.WideShapes Go.ChangeAt Go.RowKit
set_option maxHeartbeats 8000000 in
set_option maxRecDepth 100000 in
theorem walk (a_x0 : Option Addr) (n_x0 c_x0 : Nat) (a_x1 : Option Addr) (n_x1 c_x1 : Nat) (a_y0 : Option Addr) (n_y0 c_y0 : Nat) (a_y1 : Option Addr) (n_y1 c_y1 : Nat) (w : World) (hx_x0 : ∃ xs : List (List Int), xs.length = n_x0 ∧ SlII (· < w.heap.size) w a_x0 xs) (hx_x1 : ∃ xs : List Int, xs.length = n_x1 ∧ SlI (· < w.heap.size) w a_x1 xs) (hx_y0 : ∃ xs : List (List Int), xs.length = n_y0 ∧ SlII (· < w.heap.size) w a_y0 xs) (hx_y1 : ∃ xs : List Int, xs.length = n_y1 ∧ SlI (· < w.heap.size) w a_y1 xs) :
    Calls Try.prog 7 #[.agg #[.slice a_x0 n_x0 c_x0, .slice a_x1 n_x1 c_x1], .agg #[.slice a_y0 n_y0 c_y0, .slice a_y1 n_y1 c_y1]] w (RetV w (.bool true)) := by
  obtain ⟨x0, rfl, h_x0⟩ := hx_x0
  obtain ⟨x1, rfl, h_x1⟩ := hx_x1
  obtain ⟨y0, rfl, h_y0⟩ := hx_y0
  obtain ⟨y1, rfl, h_y1⟩ := hx_y1
  have hb00 : Below w.heap.size w ((w.alloc (.cells #[.slice a_x0 x0.length c_x0, .slice a_x1 x1.length c_x1] 54)).alloc (.cells #[.slice a_y0 y0.length c_y0, .slice a_y1 y1.length c_y1] 54)) := ((Below.refl _ _).alloc (Nat.le_refl _) _).alloc (by simp) _
  have HB00 := Lib.hid hb00
  clear hb00
  have hB := Below.refl w.heap.size w
  go_enter Try.func7, Try.ntmps7
  go_wp2_with fail
  refine (szStock_c _ _ _ x0 _ _ x1 1048576 _ (h_x0.below HB00.out) (h_x1.below HB00.out) (by omega) (by omega)).mono ?_
  rintro e w1 ⟨L1, rfl, hb1, d1, e1, p1⟩
  have hs1 := bnext HB00.out hb1 (by simp <;> omega)
  have bx0 : w1.cell? ⟨w.heap.size, 0, none⟩ = some (.slice a_x0 x0.length c_x0) := by rw [bcell1 hb1 (by simp <;> omega)]; simp [go_sem]
  have bx1 : w1.cell? ⟨w.heap.size, 1, none⟩ = some (.slice a_x1 x1.length c_x1) := by rw [bcell1 hb1 (by simp <;> omega)]; simp [go_sem]
  have by0 : w1.cell? ⟨w.heap.size + 1, 0, none⟩ = some (.slice a_y0 y0.length c_y0) := by rw [bcell1 hb1 (by simp <;> omega)]; simp [go_sem]
  have by1 : w1.cell? ⟨w.heap.size + 1, 1, none⟩ = some (.slice a_y1 y1.length c_y1) := by rw [bcell1 hb1 (by simp <;> omega)]; simp [go_sem]
  have hz1 : w.heap.size + 1 < w1.heap.size := by have := hb1.size; simp at this; omega
  replace hB := hB.trans hs1
  clear hb1 hs1
  by_cases n1 : L1 < 0
  · go_wp2
    go_ret
    exact ⟨rfl, hB⟩
  have f1 := Lib.hid (p1 (by omega))
  have m1 : 0 ≤ L1 := by omega
  clear p1
  go_wp2_with fail
  refine (szStock_c _ _ _ y0 _ _ y1 L1 _ (h_y0.below hB) (h_y1.below hB) (by omega) (by omega)).mono ?_
  rintro e w2 ⟨L2, rfl, hb2, d2, e2, p2⟩
  replace bx0 := (bcell1 hb2 (by omega)).trans bx0
  replace bx1 := (bcell1 hb2 (by omega)).trans bx1
  replace by0 := (bcell1 hb2 (by omega)).trans by0
  replace by1 := (bcell1 hb2 (by omega)).trans by1
  have hz2 := hb2.size
  replace hB := bnext hB hb2 (Nat.le_refl _)
  clear hb2
  by_cases n2 : L2 < 0
  · go_wp2
    go_ret
    exact ⟨rfl, hB⟩
  have f2 := Lib.hid (p2 (by omega))
  clear p2
  have fx0 := Lib.hid (f1.out.1)
  have fy0 : Hid (fitII 1048576 y0) := Lib.hid ((f2.out.1).mono e1)
  have fx1 := Lib.hid (f1.out.2)
  have fy1 : Hid (fitI 1048576 y1) := Lib.hid ((f2.out.2).mono e1)
  clear f1 f2
  go_wp2_with fail
  have tok1 : True := trivial
  go_region_held3 (fun wx => wx.cell? ⟨w.heap.size, 0, none⟩ = some (.slice a_x0 x0.length c_x0) ∧ wx.cell? ⟨w.heap.size, 1, none⟩ = some (.slice a_x1 x1.length c_x1) ∧ wx.cell? ⟨w.heap.size + 1, 0, none⟩ = some (.slice a_y0 y0.length c_y0) ∧ wx.cell? ⟨w.heap.size + 1, 1, none⟩ = some (.slice a_y1 y1.length c_y1))
    (first
      | go_keep
      | (refine ⟨?_, ?_, ?_, ?_⟩ <;> (rw [bcell1 hb3 (by show _ < w2.heap.size; omega)]; assumption))
      | (have h3 : w2.heap.size ≤ w3.heap.size := hb3.size; go_split_ands; refine ⟨?_, ?_, ?_, ?_⟩ <;> (rw [bcell1 hb4 (by omega)]; assumption))
      | (have h3 : w2.heap.size ≤ w3.heap.size := hb3.size; have h4 : w3.heap.size ≤ w4.heap.size := hb4.size; go_split_ands; refine ⟨?_, ?_, ?_, ?_⟩ <;> (rw [bcell1 hb5 (by omega)]; assumption)))
    (first
      | (go_at_call 41; have _t := tok1; refine (toStock_c _ _ _ x0 _ _ x1 _ (h_x0.below hB.drew) (h_x1.below hB.drew) fx0.out fx1.out).mono ?_; clear tok1 _t; rintro e w3 ⟨vs3, F3, rfl, hb3, ho3, hn3, hl3⟩; obtain ⟨ra0, rc0, ra1, rc1, evs3, rs0, rs1⟩ := openStock ho3; subst evs3)
      | (go_at_call 41; refine (toStock_c _ _ _ y0 _ _ y1 _ (h_y0.below (bnext hB.drew hb3 (Nat.le_refl _))) (h_y1.below (bnext hB.drew hb3 (Nat.le_refl _))) fy0.out fy1.out).mono ?_; rintro e w4 ⟨vs4, F4, rfl, hb4, ho4, hn4, hl4⟩; obtain ⟨sa0, sc0, sa1, sc1, evs4, ss0, ss1⟩ := openStock ho4; subst evs4)
      | (go_at_call 40; refine (specSameStock_c Any Any _ _ _ _ _ _ _ _ x0 y0 x1 y1 _ (rs0.below hb4) (rs1.below hb4) ss0 ss1).mono ?_; rintro e w5 ⟨rfl, hb5⟩))
  have h23 : Below w2.heap.size w2 w5 := ((((Below.refl w2.heap.size w2).drew).trans hb3).trans (hb4.mono hb3.size)).trans (hb5.mono (Nat.le_trans hb3.size hb4.size))
  clear hb3 hb4 hb5 ho3 ho4 rs0 ss0 rs1 ss1
  replace bx0 := (bcell1 h23 (by omega)).trans bx0
  replace bx1 := (bcell1 h23 (by omega)).trans bx1
  replace by0 := (bcell1 h23 (by omega)).trans by0
  replace by1 := (bcell1 h23 (by omega)).trans by1
  have hz5 := h23.size
  replace hB := bnext hB h23 (Nat.le_refl _)
  clear h23
  go_wp2_with fail
  refine (toStock_c _ _ _ x0 _ _ x1 w5 (h_x0.below hB) (h_x1.below hB) fx0.out fx1.out).mono ?_
  rintro e w6 ⟨vs6, F6, rfl, hb6, ho6, hn6, hl6⟩
  obtain ⟨pa0, pc0, pa1, pc1, evs6, ps0, ps1⟩ := openStock ho6; subst evs6
  replace bx0 := (bcell1 hb6 (by omega)).trans bx0
  replace bx1 := (bcell1 hb6 (by omega)).trans bx1
  replace by0 := (bcell1 hb6 (by omega)).trans by0
  replace by1 := (bcell1 hb6 (by omega)).trans by1
  have hz6 := hb6.size
  replace hB := bnext hB hb6 (Nat.le_refl _)
  clear hb6 ho6
  have lt60 : w.heap.size < w6.heap.size := by omega
  have lt61 : w.heap.size + 1 < w6.heap.size := by omega
  go_wp2_with fail
  refine (toStock_c _ _ _ y0 _ _ y1 _ (h_y0.below (hB.trans ((below_alloc _ _).mono (by omega)))) (h_y1.below (hB.trans ((below_alloc _ _).mono (by omega)))) fy0.out fy1.out).mono ?_
  rintro e w7 ⟨vs7, F7, rfl, hb7, ho7, hn7, hl7⟩
  obtain ⟨qa0, qc0, qa1, qc1, evs7, qs0, qs1⟩ := openStock ho7; subst evs7
  have cx0 : w7.cell? ⟨w6.heap.size, 0, none⟩ = some (.slice pa0 x0.length pc0) := by rw [bcell1 hb7 (by simp)]; simp [go_sem]
  have cx1 : w7.cell? ⟨w6.heap.size, 1, none⟩ = some (.slice pa1 x1.length pc1) := by rw [bcell1 hb7 (by simp)]; simp [go_sem]
  have h67 := bnext (below_alloc _ _) hb7 (Nat.le_refl _)
  have hz7 : w6.heap.size < w7.heap.size := by have := hb7.size; simp at this; omega
  replace bx0 := (bcell1 h67 (by omega)).trans bx0
  replace bx1 := (bcell1 h67 (by omega)).trans bx1
  replace by0 := (bcell1 h67 (by omega)).trans by0
  replace by1 := (bcell1 h67 (by omega)).trans by1
  replace hB := bnext hB h67 (Nat.le_refl _)
  replace ps0 := ps0.below h67
  replace ps1 := ps1.below h67
  clear hb7 ho7 h67
  have lt70 : w.heap.size < w7.heap.size := by omega
  have lt71 : w.heap.size + 1 < w7.heap.size := by omega
  go_wp2_with fail
  refine (implSameStock_c Any Any _ _ _ _ _ _ _ _ x0 y0 x1 y1 _ (ps0.below (below_alloc _ _)) (ps1.below (below_alloc _ _)) (qs0.below (below_alloc _ _)) (qs1.below (below_alloc _ _))).mono ?_
  rintro e w8 ⟨rfl, hb8⟩
  have cy0 : w8.cell? ⟨w7.heap.size, 0, none⟩ = some (.slice qa0 y0.length qc0) := by rw [bcell1 hb8 (by simp)]; simp [go_sem]
  have cy1 : w8.cell? ⟨w7.heap.size, 1, none⟩ = some (.slice qa1 y1.length qc1) := by rw [bcell1 hb8 (by simp)]; simp [go_sem]
  have h78 := bnext (below_alloc _ _) hb8 (Nat.le_refl _)
  have hz8 : w7.heap.size < w8.heap.size := by have := hb8.size; simp at this; omega
  replace bx0 := (bcell1 h78 (by omega)).trans bx0
  replace bx1 := (bcell1 h78 (by omega)).trans bx1
  replace by0 := (bcell1 h78 (by omega)).trans by0
  replace by1 := (bcell1 h78 (by omega)).trans by1
  replace cx0 := (bcell1 h78 (by omega)).trans cx0
  replace cx1 := (bcell1 h78 (by omega)).trans cx1
  replace hB := bnext hB h78 (Nat.le_refl _)
  replace ps0 := ps0.below h78
  replace qs0 := qs0.below h78
  replace ps1 := ps1.below h78
  replace qs1 := qs1.below h78
  clear hb8 h78
  go_wp2_with fail
  go_region_held3 (fun wx => wx.cell? ⟨w.heap.size, 0, none⟩ = some (.slice a_x0 x0.length c_x0) ∧ wx.cell? ⟨w.heap.size, 1, none⟩ = some (.slice a_x1 x1.length c_x1) ∧ wx.cell? ⟨w.heap.size + 1, 0, none⟩ = some (.slice a_y0 y0.length c_y0) ∧ wx.cell? ⟨w.heap.size + 1, 1, none⟩ = some (.slice a_y1 y1.length c_y1) ∧ wx.cell? ⟨w6.heap.size, 0, none⟩ = some (.slice pa0 x0.length pc0) ∧ wx.cell? ⟨w6.heap.size, 1, none⟩ = some (.slice pa1 x1.length pc1) ∧ wx.cell? ⟨w7.heap.size, 0, none⟩ = some (.slice qa0 y0.length qc0) ∧ wx.cell? ⟨w7.heap.size, 1, none⟩ = some (.slice qa1 y1.length qc1))
    (first | go_keep | (refine ⟨?_, ?_, ?_, ?_, ?_, ?_, ?_, ?_⟩ <;> (rw [bcell1 hb9 (by show _ < w8.heap.size; omega)]; assumption)) | (have hh : w8.heap.size ≤ w9.heap.size := hb9.size; go_split_ands; refine ⟨?_, ?_, ?_, ?_, ?_, ?_, ?_, ?_⟩ <;> (rw [bcell1 hb10 (by omega)]; assumption)))
    (first
      | (go_at_call 41; refine (toStock_c _ _ _ x0 _ _ x1 _ (h_x0.below hB.drew) (h_x1.below hB.drew) fx0.out fx1.out).mono ?_; rintro e w9 ⟨vs9, F9, rfl, hb9, ho9, hn9, hl9⟩; obtain ⟨t8a0, t8c0, t8a1, t8c1, evs9, t8s0, t8s1⟩ := openStock ho9; subst evs9)
      | (go_at_call 43; refine (eqStock_c _ _ x0 _ _ x1 _ _ _ _  _ (ps0.below ((Below.refl w8.heap.size w8).drew.trans hb9)) (ps1.below ((Below.refl w8.heap.size w8).drew.trans hb9)) t8s0 t8s1).mono ?_; rintro e w10 ⟨rfl, hb10⟩))
  have h810 : Below w8.heap.size w8 w10 := (((Below.refl w8.heap.size w8).drew).trans hb9).trans (hb10.mono hb9.size)
  clear hb9 hb10 ho9 t8s0 t8s1
  replace bx0 := (bcell1 h810 (by omega)).trans bx0
  replace bx1 := (bcell1 h810 (by omega)).trans bx1
  replace by0 := (bcell1 h810 (by omega)).trans by0
  replace by1 := (bcell1 h810 (by omega)).trans by1
  replace cx0 := (bcell1 h810 (by omega)).trans cx0
  replace cx1 := (bcell1 h810 (by omega)).trans cx1
  replace cy0 := (bcell1 h810 (by omega)).trans cy0
  replace cy1 := (bcell1 h810 (by omega)).trans cy1
  have hz10 := h810.size
  replace hB := bnext hB h810 (Nat.le_refl _)
  replace qs0 := qs0.below h810
  replace qs1 := qs1.below h810
  clear h810
  go_wp2_with fail
  go_region_held3 (fun wx => wx.cell? ⟨w.heap.size, 0, none⟩ = some (.slice a_x0 x0.length c_x0) ∧ wx.cell? ⟨w.heap.size, 1, none⟩ = some (.slice a_x1 x1.length c_x1) ∧ wx.cell? ⟨w.heap.size + 1, 0, none⟩ = some (.slice a_y0 y0.length c_y0) ∧ wx.cell? ⟨w.heap.size + 1, 1, none⟩ = some (.slice a_y1 y1.length c_y1) ∧ wx.cell? ⟨w6.heap.size, 0, none⟩ = some (.slice pa0 x0.length pc0) ∧ wx.cell? ⟨w6.heap.size, 1, none⟩ = some (.slice pa1 x1.length pc1) ∧ wx.cell? ⟨w7.heap.size, 0, none⟩ = some (.slice qa0 y0.length qc0) ∧ wx.cell? ⟨w7.heap.size, 1, none⟩ = some (.slice qa1 y1.length qc1))
    (first | go_keep | (refine ⟨?_, ?_, ?_, ?_, ?_, ?_, ?_, ?_⟩ <;> (rw [bcell1 hb11 (by show _ < w10.heap.size; omega)]; assumption)) | (have hh : w10.heap.size ≤ w11.heap.size := hb11.size; go_split_ands; refine ⟨?_, ?_, ?_, ?_, ?_, ?_, ?_, ?_⟩ <;> (rw [bcell1 hb12 (by omega)]; assumption)))
    (first
      | (go_at_call 41; refine (toStock_c _ _ _ y0 _ _ y1 _ (h_y0.below hB.drew) (h_y1.below hB.drew) fy0.out fy1.out).mono ?_; rintro e w11 ⟨vs11, F11, rfl, hb11, ho11, hn11, hl11⟩; obtain ⟨t10a0, t10c0, t10a1, t10c1, evs11, t10s0, t10s1⟩ := openStock ho11; subst evs11)
      | (go_at_call 43; refine (eqStock_c _ _ y0 _ _ y1 _ _ _ _  _ (qs0.below ((Below.refl w10.heap.size w10).drew.trans hb11)) (qs1.below ((Below.refl w10.heap.size w10).drew.trans hb11)) t10s0 t10s1).mono ?_; rintro e w12 ⟨rfl, hb12⟩))
  have h1012 : Below w10.heap.size w10 w12 := (((Below.refl w10.heap.size w10).drew).trans hb11).trans (hb12.mono hb11.size)
  go_wp2
  go_ret
  exact ⟨rfl, bnext hB h1012 (Nat.le_refl _)⟩
set_option maxRecDepth 100000 in
theorem lifted (os : Os) (started : os.Started) (H : Type) (enc : TypeId × Value → H) :
    ReturnsInHanded {} Try.checked os 7 .any (Rows.fnExactSameStockSpec.pre6 enc Try.prog Try.f7 Rows.fnExactSameStockRow.domain false) (Rows.fnExactSameStockSpec.post enc Try.prog Try.f7 false true false false) :=
  lift Try.func7 (by kernel_rfl) rfl rfl (by kernel_rfl : Try.prog.underlying 4 = some .bool) (by kernel_rfl) (fun ds h => by match ds, h with | [d0, d1], _ => rfl) started
    (ChangeSpec.witness6 (enc := enc) (C := Try.checked) false ⟨#[], #[.agg #[.slice none 0 0, .slice none 0 0], .agg #[.slice none 0 0, .slice none 0 0]], []⟩ 8 (by kernel_rfl) (by kernel_rfl) (by kernel_rfl) (by kernel_rfl))
    (fun W base args ds p hval hA => by
      rw [Try.params7] at hA hval
      obtain ⟨v0, vs0, d0, ds0, p0, q0, hargs0, rfl, rfl, g0, r0⟩ := ChangeShapes.trodAll_cons hA
      obtain ⟨v1, vs1, d1, ds1, p1, q1, hargs1, rfl, rfl, g1, r1⟩ := ChangeShapes.trodAll_cons r0
      obtain ⟨hnil, rfl, rfl⟩ := ChangeShapes.trodAll_nil r1
      obtain rfl : args = #[v0, v1] := by cases args; simp_all
      obtain ⟨ap0, np0, cp0, ap1, np1, cp1, rfl, sp0, sp1⟩ := open_St Try.underlying54 (by kernel_rfl) (hval 0 _ _ rfl rfl) g0
      obtain ⟨aq0, nq0, cq0, aq1, nq1, cq1, rfl, sq0, sq1⟩ := open_St Try.underlying54 (by kernel_rfl) (hval 1 _ _ rfl rfl) g1
      exact walk ap0 np0 cp0 ap1 np1 cp1 aq0 nq0 cq0 aq1 nq1 cq1 W sp0 sp1 sq0 sq1)
theorem proved : Rows.FnExactSameStockSaid :=
  OpenClaim.holds_of_wide 7 Try.f7 rfl rfl rfl rfl rfl rfl rfl ⟨rfl, rfl, rfl, rfl, rfl⟩ rfl rfl rfl rfl rfl (by kernel_rfl) Try.func7 (by kernel_rfl)
    (of_decide_eq_true (by kernel_rfl)) (by unfold Func.isWrapper; first | (rw [if_pos (by decide +kernel)]; kernel_rfl) | (rw [if_neg (by decide +kernel)]; exact ⟨rfl, rfl⟩))
    (fun os started H enc _ => lifted os started H enc)
end Go.Proofs.Ythfkhallnbcopaa.lawSameStock
