/- FnExactHaltValues: whatever the input, the law returns true. No condition. Written by lawgen2.py. -/
import Derived.Test.YtncndnholheemaaHY
import Derived.Test.YtncndnholheemaaHZ
import Derived.Test.YtncndnholheemaaF
import Derived.Test.YtncndnholheemaaWB
import Derived.Test.YtncndnholheemaaYC
import Derived.Deep.RegionHeld3
namespace Go.Proofs.Ytncndnholheemaa.lawHaltValues
open Go.ChangeShapes Go.WideShapes Go.ChangeAt Go.RowKit
set_option maxHeartbeats 3000000 in
set_option maxRecDepth 100000 in
theorem walk (p0 : Int) (p1 : List Ord) (v_p1 : Value) (regs : List Int) (v_regs : Value) (steps : Int) (w : World) (h_p1 : Rd (· < w.heap.size) w (dO p1) v_p1) (h_regs : Rd (· < w.heap.size) w (dI regs) v_regs) :
    Calls Try.prog 4 #[.agg #[.int .i64 p0, v_p1], v_regs, .int .i64 steps] w (RetV w (.bool true)) := by
  obtain ⟨a_p1, n_p1, c_p1, rfl⟩ := (fit_dO p1).sliceR h_p1
  obtain ⟨a_regs, c_regs, rfl, hx_regs⟩ := Rd_I.1 h_regs
  have hm_regs := hx_regs.len
  unfold maxLen at hm_regs
  clear hx_regs
  have hcn := haltValues_cnt p0 p1 regs steps
  by_cases hq_regs : regs.length ≤ 1048576
  rotate_left
  · go_enter Try.func4, Try.ntmps4
    go_wp2
    go_ret
    exact ⟨rfl, by repeat (first | exact Below.refl _ _ | refine Below.alloc ?_ (by simp; try omega) _)⟩
  have hv_regs : vol (dI regs) ≤ 16777216 := by rw [vol_dI]; omega
  have hB := Below.refl w.heap.size w
  go_enter Try.func4, Try.ntmps4
  go_wp2_with fail
  refine (szProgram_d _ (p0) (dO p1) _ 1048576 _ (h_p1.below (hB.trans (below_alloc _ _))) (fit_dO p1) (by omega) (by omega)).mono ?_
  rintro e w1 ⟨L1, rfl, hb1, yy1, uu1, p1⟩
  have hs1 : Below w.heap.size w w1 := (below_alloc _ _).trans (hb1.mono (by simp <;> omega))
  have bx3_0 : w1.cell? ⟨w.heap.size, 0, none⟩ = some (.int .i64 p0) := by rw [bcell1 hb1 (by simp <;> omega)]; simp [go_sem]
  have bx3_1 : w1.cell? ⟨w.heap.size, 1, none⟩ = some (.slice a_p1 n_p1 c_p1) := by rw [bcell1 hb1 (by simp <;> omega)]; simp [go_sem]
  have hz1 : w.heap.size + 1 ≤ w1.heap.size := by have := hb1.size; (try simp at this); omega
  replace hB := bnext hB hs1 (Nat.le_refl _)
  clear hb1 hs1
  by_cases n1 : L1 < 0
  · go_wp2
    go_ret
    exact ⟨rfl, hB⟩
  have q1 := p1 (by omega)
  have m1 : 0 ≤ L1 := by omega
  clear p1
  have hv_p1 : vol (dO p1) ≤ 16777216 := by omega
  go_wp2_with fail
  refine (toProgram_d _ (p0) (dO p1) _ _ (h_p1.below hB) (fit_dO p1) hv_p1).mono ?_
  rintro e w2 ⟨vs2, F2, rfl, hb2, hoo2, hnn2, hll2⟩
  have hs2 : Below w1.heap.size w1 w2 := hb2
  replace bx3_0 := (bcell1 hs2 (by omega)).trans bx3_0
  replace bx3_1 := (bcell1 hs2 (by omega)).trans bx3_1
  have hz2 : w1.heap.size ≤ w2.heap.size := hb2.size
  replace hB := bnext hB hs2 (Nat.le_refl _)
  clear hb2 hs2
  have hvl2 := owA_len _ _ _ hoo2
  obtain ⟨e_2_0, e_2_1, rfl⟩ : ∃ e_2_0 e_2_1, vs2 = [e_2_0, e_2_1] := (by match vs2, hvl2 with | [e_2_0, e_2_1], _ => exact ⟨e_2_0, e_2_1, rfl⟩)
  clear hvl2
  obtain ⟨G2_0, _, ⟨ev2_0, eg2_0⟩, hr2_0, rfl⟩ := hoo2
  subst ev2_0
  subst eg2_0
  obtain ⟨F_z1, _, ho_z1, hr2_1, rfl⟩ := hr2_0
  have hend2 : _ = [] := hr2_1
  subst hend2
  have hl_z1 : ∀ g, g ∈ F_z1 → w1.heap.size ≤ g := fun g hg => by have := hll2 g (by simp [hg]); (try simp at this); omega
  obtain ⟨a_z1, n_z1, c_z1, rfl⟩ := (fit_dO p1).sliceO ho_z1
  have hi_z1 : ∀ g, g ∈ F_z1 → g < w2.heap.size := Ow.lt _ _ _ ho_z1
  have hd_z1 : (F_z1).Nodup := by simpa using hnn2
  clear hnn2 hll2
  go_wp2_with fail
  refine (toInt64S_d _ (dI regs) _ _ (h_regs.below hB) (fit_dI regs) hv_regs).mono ?_
  rintro e w3 ⟨v3, F_z2, rfl, hb3, ho_z2, hnn3, hll3⟩
  have hs3 : Below w2.heap.size w2 w3 := hb3
  replace bx3_0 := (bcell1 hs3 (by omega)).trans bx3_0
  replace bx3_1 := (bcell1 hs3 (by omega)).trans bx3_1
  have hz3 : w2.heap.size ≤ w3.heap.size := hb3.size
  replace ho_z1 := ho_z1.below hs3
  replace hB := bnext hB hs3 (Nat.le_refl _)
  clear hb3 hs3
  have hl_z2 : ∀ g, g ∈ F_z2 → w2.heap.size ≤ g := fun g hg => by have := hll3 g hg; (try simp at this); omega
  obtain ⟨a_z2, n_z2, c_z2, rfl⟩ := (fit_dI regs).sliceO ho_z2
  have hi_z2 : ∀ g, g ∈ F_z2 → g < w3.heap.size := Ow.lt _ _ _ ho_z2
  have hd_z2 := hnn3
  clear hnn3 hll3
  go_wp2_with fail
  refine (specHaltValues_d p0 p1 regs steps _ ho_z1.rdA ho_z2.rdA ).mono ?_
  rintro e w4 ⟨v4, F_z3, rfl, hb4, ho_z3, hnn4, hll4⟩
  have hs4 : Below w3.heap.size w3 w4 := hb4
  replace bx3_0 := (bcell1 hs4 (by omega)).trans bx3_0
  replace bx3_1 := (bcell1 hs4 (by omega)).trans bx3_1
  have hz4 : w3.heap.size ≤ w4.heap.size := hb4.size
  replace ho_z1 := ho_z1.below hs4
  replace ho_z2 := ho_z2.below hs4
  replace hB := bnext hB hs4 (Nat.le_refl _)
  clear hb4 hs4
  have hl_z3 : ∀ g, g ∈ F_z3 → w3.heap.size ≤ g := fun g hg => by have := hll4 g hg; (try simp at this); omega
  obtain ⟨a_z3, n_z3, c_z3, rfl⟩ := (fit_dI ((haltValuesS p0 p1 regs steps).1)).sliceO ho_z3
  have hi_z3 : ∀ g, g ∈ F_z3 → g < w4.heap.size := Ow.lt _ _ _ ho_z3
  have hd_z3 := hnn4
  clear hnn4 hll4
  clear ho_z1 ho_z2
  go_wp2_with fail
  refine (toProgram_d _ (p0) (dO p1) _ _ (h_p1.below hB) (fit_dO p1) hv_p1).mono ?_
  rintro e w5 ⟨vs5, F5, rfl, hb5, hoo5, hnn5, hll5⟩
  have hs5 : Below w4.heap.size w4 w5 := hb5
  replace bx3_0 := (bcell1 hs5 (by omega)).trans bx3_0
  replace bx3_1 := (bcell1 hs5 (by omega)).trans bx3_1
  have hz5 : w4.heap.size ≤ w5.heap.size := hb5.size
  replace ho_z3 := ho_z3.below hs5
  replace hB := bnext hB hs5 (Nat.le_refl _)
  clear hb5 hs5
  have hvl5 := owA_len _ _ _ hoo5
  obtain ⟨e_5_0, e_5_1, rfl⟩ : ∃ e_5_0 e_5_1, vs5 = [e_5_0, e_5_1] := (by match vs5, hvl5 with | [e_5_0, e_5_1], _ => exact ⟨e_5_0, e_5_1, rfl⟩)
  clear hvl5
  obtain ⟨G5_0, _, ⟨ev5_0, eg5_0⟩, hr5_0, rfl⟩ := hoo5
  subst ev5_0
  subst eg5_0
  obtain ⟨F_z4, _, ho_z4, hr5_1, rfl⟩ := hr5_0
  have hend5 : _ = [] := hr5_1
  subst hend5
  have hl_z4 : ∀ g, g ∈ F_z4 → w4.heap.size ≤ g := fun g hg => by have := hll5 g (by simp [hg]); (try simp at this); omega
  obtain ⟨a_z4, n_z4, c_z4, rfl⟩ := (fit_dO p1).sliceO ho_z4
  have hi_z4 : ∀ g, g ∈ F_z4 → g < w5.heap.size := Ow.lt _ _ _ ho_z4
  have hd_z4 : (F_z4).Nodup := by simpa using hnn5
  clear hnn5 hll5
  have lt5_0 : w.heap.size < w5.heap.size := by omega
  go_wp2_with fail
  refine (toInt64S_d _ (dI regs) _ _ (h_regs.below (hB.trans ((below_alloc _ _).mono (by omega)))) (fit_dI regs) hv_regs).mono ?_
  rintro e w6 ⟨v6, F_z5, rfl, hb6, ho_z5, hnn6, hll6⟩
  have hs6 : Below w5.heap.size w5 w6 := (below_alloc _ _).trans (hb6.mono (by simp <;> omega))
  replace bx3_0 := (bcell1 hs6 (by omega)).trans bx3_0
  replace bx3_1 := (bcell1 hs6 (by omega)).trans bx3_1
  have bx10_0 : w6.cell? ⟨w5.heap.size, 0, none⟩ = some (.int .i64 p0) := by rw [bcell1 hb6 (by simp <;> omega)]; simp [go_sem]
  have bx10_1 : w6.cell? ⟨w5.heap.size, 1, none⟩ = some (.slice a_z4 n_z4 c_z4) := by rw [bcell1 hb6 (by simp <;> omega)]; simp [go_sem]
  have hz6 : w5.heap.size + 1 ≤ w6.heap.size := by have := hb6.size; (try simp at this); omega
  replace ho_z3 := ho_z3.below hs6
  replace ho_z4 := ho_z4.below hs6
  replace hB := bnext hB hs6 (Nat.le_refl _)
  clear hb6 hs6
  have hl_z5 : ∀ g, g ∈ F_z5 → w5.heap.size + 1 ≤ g := fun g hg => by have := hll6 g hg; (try simp at this); omega
  obtain ⟨a_z5, n_z5, c_z5, rfl⟩ := (fit_dI regs).sliceO ho_z5
  have hi_z5 : ∀ g, g ∈ F_z5 → g < w6.heap.size := Ow.lt _ _ _ ho_z5
  have hd_z5 := hnn6
  clear hnn6 hll6
  go_wp2_with fail
  refine (implHaltValues_d p0 p1 regs steps _ ho_z4.rdA ho_z5.rdA ).mono ?_
  rintro e w7 ⟨v7, F_z6, rfl, hb7, ho_z6, hnn7, hll7⟩
  have hs7 : Below w6.heap.size w6 w7 := hb7
  replace bx3_0 := (bcell1 hs7 (by omega)).trans bx3_0
  replace bx3_1 := (bcell1 hs7 (by omega)).trans bx3_1
  replace bx10_0 := (bcell1 hs7 (by omega)).trans bx10_0
  replace bx10_1 := (bcell1 hs7 (by omega)).trans bx10_1
  have hz7 : w6.heap.size ≤ w7.heap.size := hb7.size
  replace ho_z3 := ho_z3.below hs7
  replace ho_z4 := ho_z4.below hs7
  replace ho_z5 := ho_z5.below hs7
  replace hB := bnext hB hs7 (Nat.le_refl _)
  clear hb7 hs7
  have hl_z6 : ∀ g, g ∈ F_z6 → w6.heap.size ≤ g := fun g hg => by have := hll7 g hg; (try simp at this); omega
  obtain ⟨a_z6, n_z6, c_z6, rfl⟩ := (fit_dI ((haltValuesS p0 p1 regs steps).1)).sliceO ho_z6
  have hi_z6 : ∀ g, g ∈ F_z6 → g < w7.heap.size := Ow.lt _ _ _ ho_z6
  have hd_z6 := hnn7
  clear hnn7 hll7
  go_wp2_with fail
  refine (eqInt64S_d (dI (haltValuesS p0 p1 regs steps).1) _ _ _ ho_z6.rdA ho_z3.rdA (fit_dI ((haltValuesS p0 p1 regs steps).1))).mono ?_
  rintro e w8 ⟨rfl, hb8⟩
  have hs8 : Below w7.heap.size w7 w8 := hb8
  replace bx3_0 := (bcell1 hs8 (by omega)).trans bx3_0
  replace bx3_1 := (bcell1 hs8 (by omega)).trans bx3_1
  replace bx10_0 := (bcell1 hs8 (by omega)).trans bx10_0
  replace bx10_1 := (bcell1 hs8 (by omega)).trans bx10_1
  have hz8 : w7.heap.size ≤ w8.heap.size := hb8.size
  replace ho_z3 := ho_z3.below hs8
  replace ho_z4 := ho_z4.below hs8
  replace ho_z5 := ho_z5.below hs8
  replace ho_z6 := ho_z6.below hs8
  replace hB := bnext hB hs8 (Nat.le_refl _)
  clear hb8 hs8
  go_wp2_with fail
  go_region_held3 (fun wx => wx.cell? ⟨w.heap.size, 0, none⟩ = some (.int .i64 p0) ∧ wx.cell? ⟨w.heap.size, 1, none⟩ = some (.slice a_p1 n_p1 c_p1) ∧ wx.cell? ⟨w5.heap.size, 0, none⟩ = some (.int .i64 p0) ∧ wx.cell? ⟨w5.heap.size, 1, none⟩ = some (.slice a_z4 n_z4 c_z4))
    (first
      | go_keep
      | (refine ⟨?_, ?_, ?_, ?_⟩ <;> (rw [bcell1 hb9 (by show _ < w8.heap.size; omega)]; assumption))
      | (have h1_ : w8.heap.size ≤ w9.heap.size := hb9.size; (try go_split_ands); refine ⟨?_, ?_, ?_, ?_⟩ <;> (rw [bcell1 hb10 (by omega)]; assumption)))
    (first
      | (go_at_call 20; refine (toProgram_d _ (p0) (dO p1) _ _ (h_p1.below hB.drew) (fit_dO p1) hv_p1).mono ?_; rintro e w9 ⟨vs9, F9, rfl, hb9, hoo9, hnn9, hll9⟩; have hvl9 := owA_len _ _ _ hoo9; obtain ⟨e_9_0, e_9_1, rfl⟩ : ∃ e_9_0 e_9_1, vs9 = [e_9_0, e_9_1] := (by match vs9, hvl9 with | [e_9_0, e_9_1], _ => exact ⟨e_9_0, e_9_1, rfl⟩); clear hvl9; obtain ⟨G9_0, _, ⟨ev9_0, eg9_0⟩, hr9_0, rfl⟩ := hoo9; subst ev9_0; subst eg9_0; obtain ⟨F_z7, _, ho_z7, hr9_1, rfl⟩ := hr9_0; have hend9 : _ = [] := hr9_1; subst hend9; obtain ⟨a_z7, n_z7, c_z7, rfl⟩ := (fit_dO p1).sliceO ho_z7)
      | (go_at_call 24; refine (eqProgram_d (p0) (dO p1) _ _ _ (ho_z4.rdA.below ((Below.refl w8.heap.size w8).drew.trans (hb9.mono (by exact Nat.le_refl _)))) ho_z7.rdA (fit_dO p1)).mono ?_; rintro e w10 ⟨rfl, hb10⟩))
  have hs10 : Below w8.heap.size w8 w10 := (((Below.refl w8.heap.size w8).drew.trans (hb9.mono (by exact Nat.le_refl _))).trans (hb10.mono (by have h_0 : w8.heap.size ≤ w9.heap.size := hb9.size;  first | exact h_0 | omega)))
  have hz9 : w8.heap.size ≤ w9.heap.size := hb9.size
  have hz10 : w9.heap.size ≤ w10.heap.size := hb10.size
  replace bx3_0 := (bcell1 hs10 (by omega)).trans bx3_0
  replace bx3_1 := (bcell1 hs10 (by omega)).trans bx3_1
  replace bx10_0 := (bcell1 hs10 (by omega)).trans bx10_0
  replace bx10_1 := (bcell1 hs10 (by omega)).trans bx10_1
  replace ho_z3 := ho_z3.below hs10
  replace ho_z4 := ho_z4.below hs10
  replace ho_z5 := ho_z5.below hs10
  replace ho_z6 := ho_z6.below hs10
  replace hB := bnext hB hs10 (Nat.le_refl _)
  clear hs10 hb9 hb10 ho_z7
  go_wp2_with fail
  refine (toInt64S_d _ (dI regs) _ _ (h_regs.below hB) (fit_dI regs) hv_regs).mono ?_
  rintro e w11 ⟨v11, F_z8, rfl, hb11, ho_z8, hnn11, hll11⟩
  have hs11 : Below w10.heap.size w10 w11 := hb11
  replace bx3_0 := (bcell1 hs11 (by omega)).trans bx3_0
  replace bx3_1 := (bcell1 hs11 (by omega)).trans bx3_1
  replace bx10_0 := (bcell1 hs11 (by omega)).trans bx10_0
  replace bx10_1 := (bcell1 hs11 (by omega)).trans bx10_1
  have hz11 : w10.heap.size ≤ w11.heap.size := hb11.size
  replace ho_z3 := ho_z3.below hs11
  replace ho_z4 := ho_z4.below hs11
  replace ho_z5 := ho_z5.below hs11
  replace ho_z6 := ho_z6.below hs11
  replace hB := bnext hB hs11 (Nat.le_refl _)
  clear hb11 hs11
  have hl_z8 : ∀ g, g ∈ F_z8 → w10.heap.size ≤ g := fun g hg => by have := hll11 g hg; (try simp at this); omega
  obtain ⟨a_z8, n_z8, c_z8, rfl⟩ := (fit_dI regs).sliceO ho_z8
  have hi_z8 : ∀ g, g ∈ F_z8 → g < w11.heap.size := Ow.lt _ _ _ ho_z8
  have hd_z8 := hnn11
  clear hnn11 hll11
  go_wp2_with fail
  refine (eqInt64S_d (dI regs) _ _ _ ho_z5.rdA ho_z8.rdA (fit_dI regs)).mono ?_
  rintro e w12 ⟨rfl, hb12⟩
  have hs12 : Below w11.heap.size w11 w12 := hb12
  replace bx3_0 := (bcell1 hs12 (by omega)).trans bx3_0
  replace bx3_1 := (bcell1 hs12 (by omega)).trans bx3_1
  replace bx10_0 := (bcell1 hs12 (by omega)).trans bx10_0
  replace bx10_1 := (bcell1 hs12 (by omega)).trans bx10_1
  have hz12 : w11.heap.size ≤ w12.heap.size := hb12.size
  replace ho_z3 := ho_z3.below hs12
  replace ho_z4 := ho_z4.below hs12
  replace ho_z5 := ho_z5.below hs12
  replace ho_z6 := ho_z6.below hs12
  replace ho_z8 := ho_z8.below hs12
  replace hB := bnext hB hs12 (Nat.le_refl _)
  clear hb12 hs12
  clear ho_z8
  go_wp2_with fail
  refine (markProgram_d (p0) (dO p1) _ _ (1) _ ho_z4 (fit_dO p1) hd_z4 (by first | assumption | (have := cnt_le_vol (fit_dO p1); omega)) (by omega) (by omega)).mono ?_
  rintro e w13 ⟨rfl, hb13, hk13_z4⟩
  have hz13 : w12.heap.size ≤ w13.heap.size := hb13.size
  have hf13 : ∀ g, g ∈ F_z4 → w4.heap.size ≤ g ∧ g < w5.heap.size := fun g hg => by exact ⟨hl_z4 g hg, hi_z4 g hg⟩
  replace bx3_0 := (hb13.cell (by omega) (fun hg => by have := hf13 _ hg; omega) _).trans bx3_0
  replace bx3_1 := (hb13.cell (by omega) (fun hg => by have := hf13 _ hg; omega) _).trans bx3_1
  replace bx10_0 := (hb13.cell (by omega) (fun hg => by have := hf13 _ hg; omega) _).trans bx10_0
  replace bx10_1 := (hb13.cell (by omega) (fun hg => by have := hf13 _ hg; omega) _).trans bx10_1
  replace ho_z3 := hb13.ow ho_z3 (fun g h1 h2 => by have := hl_z3 g h1; have := hi_z3 g h1; have := hf13 g h2; omega)
  replace ho_z5 := hb13.ow ho_z5 (fun g h1 h2 => by have := hl_z5 g h1; have := hi_z5 g h1; have := hf13 g h2; omega)
  replace ho_z6 := hb13.ow ho_z6 (fun g h1 h2 => by have := hl_z6 g h1; have := hi_z6 g h1; have := hf13 g h2; omega)
  replace hB := hB.trans (hb13.below (by omega) (fun g hg => by have := hf13 g hg; omega))
  clear hb13 hf13
  clear ho_z4
  have ho_z4 := hk13_z4
  clear hk13_z4
  have hcv13_z4 := cnt_le_vol (fit_dO p1)
  clear ho_z4
  go_wp2_with fail
  refine (markInt64S_d (dI regs) _ _ (1 + cnt (dO p1)) _ ho_z5 hd_z5 (fit_dI regs) (by first | assumption | (have := cnt_le_vol (fit_dI regs); omega)) (by omega) (by omega)).mono ?_
  rintro e w14 ⟨rfl, he14, hk14_z5⟩
  have hb14 := he14.chg
  clear he14
  have hz14 : w13.heap.size ≤ w14.heap.size := hb14.size
  have hf14 : ∀ g, g ∈ F_z5 → w5.heap.size + 1 ≤ g ∧ g < w6.heap.size := fun g hg => by exact ⟨hl_z5 g hg, hi_z5 g hg⟩
  replace bx3_0 := (hb14.cell (by omega) (fun hg => by have := hf14 _ hg; omega) _).trans bx3_0
  replace bx3_1 := (hb14.cell (by omega) (fun hg => by have := hf14 _ hg; omega) _).trans bx3_1
  replace bx10_0 := (hb14.cell (by omega) (fun hg => by have := hf14 _ hg; omega) _).trans bx10_0
  replace bx10_1 := (hb14.cell (by omega) (fun hg => by have := hf14 _ hg; omega) _).trans bx10_1
  replace ho_z3 := hb14.ow ho_z3 (fun g h1 h2 => by have := hl_z3 g h1; have := hi_z3 g h1; have := hf14 g h2; omega)
  replace ho_z6 := hb14.ow ho_z6 (fun g h1 h2 => by have := hl_z6 g h1; have := hi_z6 g h1; have := hf14 g h2; omega)
  replace hB := hB.trans (hb14.below (by omega) (fun g hg => by have := hf14 g hg; omega))
  clear hb14 hf14
  clear ho_z5
  have ho_z5 := hk14_z5
  clear hk14_z5
  have hcv14_z5 := cnt_le_vol (fit_dI regs)
  clear ho_z5
  go_wp2_with fail
  refine (eqInt64S_d (dI (haltValuesS p0 p1 regs steps).1) _ _ _ ho_z6.rdA ho_z3.rdA (fit_dI ((haltValuesS p0 p1 regs steps).1))).mono ?_
  rintro e w15 ⟨rfl, hb15⟩
  have hs15 : Below w14.heap.size w14 w15 := hb15
  replace bx3_0 := (bcell1 hs15 (by omega)).trans bx3_0
  replace bx3_1 := (bcell1 hs15 (by omega)).trans bx3_1
  replace bx10_0 := (bcell1 hs15 (by omega)).trans bx10_0
  replace bx10_1 := (bcell1 hs15 (by omega)).trans bx10_1
  have hz15 : w14.heap.size ≤ w15.heap.size := hb15.size
  replace ho_z3 := ho_z3.below hs15
  replace ho_z6 := ho_z6.below hs15
  replace hB := bnext hB hs15 (Nat.le_refl _)
  clear hb15 hs15
  go_wp2_with fail
  refine (markInt64S_d (dI (haltValuesS p0 p1 regs steps).1) _ _ (1) _ ho_z6 hd_z6 (fit_dI ((haltValuesS p0 p1 regs steps).1)) (by first | assumption | (have := cnt_le_vol (fit_dI ((haltValuesS p0 p1 regs steps).1)); omega)) (by omega) (by omega)).mono ?_
  rintro e w16 ⟨rfl, he16, hk16_z6⟩
  have hb16 := he16.chg
  clear he16
  have hz16 : w15.heap.size ≤ w16.heap.size := hb16.size
  have hf16 : ∀ g, g ∈ F_z6 → w6.heap.size ≤ g ∧ g < w7.heap.size := fun g hg => by exact ⟨hl_z6 g hg, hi_z6 g hg⟩
  replace bx3_0 := (hb16.cell (by omega) (fun hg => by have := hf16 _ hg; omega) _).trans bx3_0
  replace bx3_1 := (hb16.cell (by omega) (fun hg => by have := hf16 _ hg; omega) _).trans bx3_1
  replace bx10_0 := (hb16.cell (by omega) (fun hg => by have := hf16 _ hg; omega) _).trans bx10_0
  replace bx10_1 := (hb16.cell (by omega) (fun hg => by have := hf16 _ hg; omega) _).trans bx10_1
  replace ho_z3 := hb16.ow ho_z3 (fun g h1 h2 => by have := hl_z3 g h1; have := hi_z3 g h1; have := hf16 g h2; omega)
  replace hB := hB.trans (hb16.below (by omega) (fun g hg => by have := hf16 g hg; omega))
  clear hb16 hf16
  clear ho_z6
  have ho_z6 := hk16_z6
  clear hk16_z6
  have hcv16_z6 := cnt_le_vol (fit_dI ((haltValuesS p0 p1 regs steps).1))
  go_wp2_with fail
  refine (heldInt64S_d Any (dI (haltValuesS p0 p1 regs steps).1) _ (1) _ ho_z6.rdA (fit_dI ((haltValuesS p0 p1 regs steps).1)) (by first | assumption | (have := cnt_le_vol (fit_dI ((haltValuesS p0 p1 regs steps).1)); omega)) (by omega) (by omega)).mono ?_
  rintro e w17 ⟨rfl, hb17⟩
  have hs17 : Below w16.heap.size w16 w17 := hb17
  replace bx3_0 := (bcell1 hs17 (by omega)).trans bx3_0
  replace bx3_1 := (bcell1 hs17 (by omega)).trans bx3_1
  replace bx10_0 := (bcell1 hs17 (by omega)).trans bx10_0
  replace bx10_1 := (bcell1 hs17 (by omega)).trans bx10_1
  have hz17 : w16.heap.size ≤ w17.heap.size := hb17.size
  replace ho_z3 := ho_z3.below hs17
  replace ho_z6 := ho_z6.below hs17
  replace hB := bnext hB hs17 (Nat.le_refl _)
  clear hb17 hs17
  go_wp2_with fail
  refine (toProgram_d _ (p0) (dO p1) _ _ (h_p1.below hB) (fit_dO p1) hv_p1).mono ?_
  rintro e w18 ⟨vs18, F18, rfl, hb18, hoo18, hnn18, hll18⟩
  have hs18 : Below w17.heap.size w17 w18 := hb18
  replace bx3_0 := (bcell1 hs18 (by omega)).trans bx3_0
  replace bx3_1 := (bcell1 hs18 (by omega)).trans bx3_1
  replace bx10_0 := (bcell1 hs18 (by omega)).trans bx10_0
  replace bx10_1 := (bcell1 hs18 (by omega)).trans bx10_1
  have hz18 : w17.heap.size ≤ w18.heap.size := hb18.size
  replace ho_z3 := ho_z3.below hs18
  replace ho_z6 := ho_z6.below hs18
  replace hB := bnext hB hs18 (Nat.le_refl _)
  clear hb18 hs18
  have hvl18 := owA_len _ _ _ hoo18
  obtain ⟨e_18_0, e_18_1, rfl⟩ : ∃ e_18_0 e_18_1, vs18 = [e_18_0, e_18_1] := (by match vs18, hvl18 with | [e_18_0, e_18_1], _ => exact ⟨e_18_0, e_18_1, rfl⟩)
  clear hvl18
  obtain ⟨G18_0, _, ⟨ev18_0, eg18_0⟩, hr18_0, rfl⟩ := hoo18
  subst ev18_0
  subst eg18_0
  obtain ⟨F_z9, _, ho_z9, hr18_1, rfl⟩ := hr18_0
  have hend18 : _ = [] := hr18_1
  subst hend18
  have hl_z9 : ∀ g, g ∈ F_z9 → w17.heap.size ≤ g := fun g hg => by have := hll18 g (by simp [hg]); (try simp at this); omega
  obtain ⟨a_z9, n_z9, c_z9, rfl⟩ := (fit_dO p1).sliceO ho_z9
  have hi_z9 : ∀ g, g ∈ F_z9 → g < w18.heap.size := Ow.lt _ _ _ ho_z9
  have hd_z9 : (F_z9).Nodup := by simpa using hnn18
  clear hnn18 hll18
  go_wp2_with fail
  refine (toInt64S_d _ (dI regs) _ _ (h_regs.below hB) (fit_dI regs) hv_regs).mono ?_
  rintro e w19 ⟨v19, F_z10, rfl, hb19, ho_z10, hnn19, hll19⟩
  have hs19 : Below w18.heap.size w18 w19 := hb19
  replace bx3_0 := (bcell1 hs19 (by omega)).trans bx3_0
  replace bx3_1 := (bcell1 hs19 (by omega)).trans bx3_1
  replace bx10_0 := (bcell1 hs19 (by omega)).trans bx10_0
  replace bx10_1 := (bcell1 hs19 (by omega)).trans bx10_1
  have hz19 : w18.heap.size ≤ w19.heap.size := hb19.size
  replace ho_z3 := ho_z3.below hs19
  replace ho_z6 := ho_z6.below hs19
  replace ho_z9 := ho_z9.below hs19
  replace hB := bnext hB hs19 (Nat.le_refl _)
  clear hb19 hs19
  have hl_z10 : ∀ g, g ∈ F_z10 → w18.heap.size ≤ g := fun g hg => by have := hll19 g hg; (try simp at this); omega
  obtain ⟨a_z10, n_z10, c_z10, rfl⟩ := (fit_dI regs).sliceO ho_z10
  have hi_z10 : ∀ g, g ∈ F_z10 → g < w19.heap.size := Ow.lt _ _ _ ho_z10
  have hd_z10 := hnn19
  clear hnn19 hll19
  go_wp2_with fail
  refine (implHaltValues_d p0 p1 regs steps _ ho_z9.rdA ho_z10.rdA ).mono ?_
  rintro e w20 ⟨v20, F_z11, rfl, hb20, ho_z11, hnn20, hll20⟩
  have hs20 : Below w19.heap.size w19 w20 := hb20
  replace bx3_0 := (bcell1 hs20 (by omega)).trans bx3_0
  replace bx3_1 := (bcell1 hs20 (by omega)).trans bx3_1
  replace bx10_0 := (bcell1 hs20 (by omega)).trans bx10_0
  replace bx10_1 := (bcell1 hs20 (by omega)).trans bx10_1
  have hz20 : w19.heap.size ≤ w20.heap.size := hb20.size
  replace ho_z3 := ho_z3.below hs20
  replace ho_z6 := ho_z6.below hs20
  replace ho_z9 := ho_z9.below hs20
  replace ho_z10 := ho_z10.below hs20
  replace hB := bnext hB hs20 (Nat.le_refl _)
  clear hb20 hs20
  have hl_z11 : ∀ g, g ∈ F_z11 → w19.heap.size ≤ g := fun g hg => by have := hll20 g hg; (try simp at this); omega
  obtain ⟨a_z11, n_z11, c_z11, rfl⟩ := (fit_dI ((haltValuesS p0 p1 regs steps).1)).sliceO ho_z11
  have hi_z11 : ∀ g, g ∈ F_z11 → g < w20.heap.size := Ow.lt _ _ _ ho_z11
  have hd_z11 := hnn20
  clear hnn20 hll20
  clear ho_z9 ho_z10
  go_wp2_with fail
  refine (eqInt64S_d (dI (haltValuesS p0 p1 regs steps).1) _ _ _ ho_z11.rdA ho_z3.rdA (fit_dI ((haltValuesS p0 p1 regs steps).1))).mono ?_
  rintro e w21 ⟨rfl, hb21⟩
  have hs21 : Below w20.heap.size w20 w21 := hb21
  replace bx3_0 := (bcell1 hs21 (by omega)).trans bx3_0
  replace bx3_1 := (bcell1 hs21 (by omega)).trans bx3_1
  replace bx10_0 := (bcell1 hs21 (by omega)).trans bx10_0
  replace bx10_1 := (bcell1 hs21 (by omega)).trans bx10_1
  have hz21 : w20.heap.size ≤ w21.heap.size := hb21.size
  replace ho_z3 := ho_z3.below hs21
  replace ho_z6 := ho_z6.below hs21
  replace ho_z11 := ho_z11.below hs21
  replace hB := bnext hB hs21 (Nat.le_refl _)
  clear hb21 hs21
  clear ho_z3 ho_z11
  go_wp2_with fail
  refine (heldInt64S_d Any (dI (haltValuesS p0 p1 regs steps).1) _ (1) _ ho_z6.rdA (fit_dI ((haltValuesS p0 p1 regs steps).1)) (by first | assumption | (have := cnt_le_vol (fit_dI ((haltValuesS p0 p1 regs steps).1)); omega)) (by omega) (by omega)).mono ?_
  rintro e w22 ⟨rfl, hb22⟩
  have hs22 : Below w21.heap.size w21 w22 := hb22
  replace bx3_0 := (bcell1 hs22 (by omega)).trans bx3_0
  replace bx3_1 := (bcell1 hs22 (by omega)).trans bx3_1
  replace bx10_0 := (bcell1 hs22 (by omega)).trans bx10_0
  replace bx10_1 := (bcell1 hs22 (by omega)).trans bx10_1
  have hz22 : w21.heap.size ≤ w22.heap.size := hb22.size
  replace ho_z6 := ho_z6.below hs22
  replace hB := bnext hB hs22 (Nat.le_refl _)
  clear hb22 hs22
  clear ho_z6
  go_wp2
  go_ret
  exact ⟨rfl, hB⟩
set_option maxRecDepth 100000 in
theorem lifted (os : Os) (started : os.Started) (H : Type) (enc : TypeId × Value → H) :
    ReturnsInHanded {} Try.checked os 4 .any (Rows.fnExactHaltValuesSpec.pre6 enc Try.prog Try.f4 Rows.fnExactHaltValuesRow.domain false) (Rows.fnExactHaltValuesSpec.post enc Try.prog Try.f4 false true false false) :=
  lift Try.func4 (by kernel_rfl) rfl rfl (by kernel_rfl : Try.prog.underlying 4 = some .bool) (by kernel_rfl) (fun ds h => by match ds, h with | [d0, d1, d2], _ => rfl) started
    (ChangeSpec.witness6 (enc := enc) (C := Try.checked) false ⟨#[], #[.agg #[.int .i64 0, .slice none 0 0], .slice none 0 0, .int .i64 0], []⟩ 8 (by kernel_rfl) (by kernel_rfl) (by kernel_rfl) (by kernel_rfl))
    (fun W base args ds p hval hA => by
      rw [Try.params4] at hA hval
      obtain ⟨v0, vs0, d0, ds0, p0, q0, hargs0, rfl, rfl, g0, r0⟩ := ChangeShapes.trodAll_cons hA
      obtain ⟨v1, vs1, d1, ds1, p1, q1, hargs1, rfl, rfl, g1, r1⟩ := ChangeShapes.trodAll_cons r0
      obtain ⟨v2, vs2, d2, ds2, p2, q2, hargs2, rfl, rfl, g2, r2⟩ := ChangeShapes.trodAll_cons r1
      obtain ⟨hnil, rfl, rfl⟩ := ChangeShapes.trodAll_nil r2
      obtain rfl : args = #[v0, v1, v2] := by cases args; simp_all
      obtain ⟨vs0x, dsx0, rfl, fx0, rx0⟩ := open_A [.i, .l [.i, .i, .i, .i]] Try.underlying46 (by kernel_rfl) (hval 0 _ _ rfl rfl) g0
      obtain ⟨_, s0_0, rfl, ⟨x0_0, rfl⟩, t0_0⟩ := fx0
      obtain ⟨_, s0_1, rfl, j0_1, t0_1⟩ := t0_0
      obtain ⟨x0_1, rfl⟩ := fitD_O j0_1
      obtain rfl : s0_1 = [] := t0_1
      obtain ⟨y0_0, z0_0, e0_0, k0_0, l0_0⟩ := rx0
      subst e0_0
      obtain rfl : y0_0 = .int .i64 x0_0 := k0_0
      obtain ⟨y0_1, z0_1, e0_1, k0_1, l0_1⟩ := l0_0
      subst e0_1
      obtain rfl : z0_1 = [] := l0_1
      obtain ⟨dx1, fx1, rx1⟩ := open_L Try.underlying24 (by kernel_rfl : shapeOf Try.prog 6 24 = some [.l [.i]]) (hval 1 _ _ rfl rfl) g1
      obtain ⟨x1, rfl⟩ := fitD_I fx1
      obtain ⟨x2, rfl, rfl, rfl, wx2⟩ := open_int (by kernel_rfl : Try.prog.underlying 2 = some (.int .i64)) (hval 2 _ _ rfl rfl) g2
      exact walk x0_0 x0_1 y0_1 x1 v1 x2 W k0_1 rx1)
end Go.Proofs.Ytncndnholheemaa.lawHaltValues
