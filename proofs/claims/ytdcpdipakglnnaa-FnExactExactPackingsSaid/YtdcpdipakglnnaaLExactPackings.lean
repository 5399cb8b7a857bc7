/- FnExactExactPackings: whatever the input, the law returns true. No condition. Written by lawgen2.py. -/
import Derived.Test.YtdcpdipakglnnaaPJ
import Derived.Test.YtdcpdipakglnnaaPO
import Derived.Test.YtdcpdipakglnnaaF
import Derived.Test.YtdcpdipakglnnaaWB
import Derived.Test.YtdcpdipakglnnaaYA
import Derived.Deep.RegionHeld3
namespace Go.Proofs.Ytdcpdipakglnnaa.lawExactPackings
open Go.ChangeShapes Go.WideShapes Go.ChangeAt Go.RowKit
set_option maxHeartbeats 2000000 in
set_option maxRecDepth 100000 in
theorem walk (b : List Int) (v_b : Value) (parts : List (List Int)) (v_parts : Value) (w : World) (h_b : Rd (· < w.heap.size) w (dI b) v_b) (h_parts : Rd (· < w.heap.size) w (dII parts) v_parts) :
    Calls Try.prog 8 #[v_b, v_parts] w (RetV w (.bool true)) := by
  obtain ⟨a_b, c_b, rfl, hx_b⟩ := Rd_I.1 h_b
  have hm_b := hx_b.len
  unfold maxLen at hm_b
  clear hx_b
  obtain ⟨a_parts, n_parts, c_parts, rfl⟩ := (fit_dII parts).sliceR h_parts
  have hcn := packingsS_cnt exactP b parts
  by_cases hq_b : b.length ≤ 1048576
  rotate_left
  · go_enter Try.func8, Try.ntmps8
    go_wp2
    go_ret
    exact ⟨rfl, by repeat (first | exact Below.refl _ _ | refine Below.alloc ?_ (by simp; try omega) _)⟩
  have hv_b : vol (dI b) ≤ 16777216 := by rw [vol_dI]; omega
  have hB := Below.refl w.heap.size w
  go_enter Try.func8, Try.ntmps8
  go_wp2_with fail
  refine (szInt64SS_d _ (dII parts) _ 1048576 _ (h_parts.below hB) (fit_dII parts) (by omega) (by omega)).mono ?_
  rintro e w1 ⟨L1, rfl, hb1, yy1, uu1, p1⟩
  have hs1 : Below w.heap.size w w1 := hb1
  have hz1 : w.heap.size ≤ w1.heap.size := hb1.size
  replace hB := bnext hB hs1 (Nat.le_refl _)
  clear hb1 hs1
  by_cases n1 : L1 < 0
  · go_wp2
    go_ret
    exact ⟨rfl, hB⟩
  have q1 := p1 (by omega)
  have m1 : 0 ≤ L1 := by omega
  clear p1
  have hv_parts : vol (dII parts) ≤ 16777216 := by omega
  go_wp2_with fail
  refine (toInt64S_d _ (dI b) _ _ (h_b.below hB) (fit_dI b) hv_b).mono ?_
  rintro e w2 ⟨v2, F_z1, rfl, hb2, ho_z1, hnn2, hll2⟩
  have hs2 : Below w1.heap.size w1 w2 := hb2
  have hz2 : w1.heap.size ≤ w2.heap.size := hb2.size
  replace hB := bnext hB hs2 (Nat.le_refl _)
  clear hb2 hs2
  have hl_z1 : ∀ g, g ∈ F_z1 → w1.heap.size ≤ g := fun g hg => by have := hll2 g hg; (try simp at this); omega
  obtain ⟨a_z1, n_z1, c_z1, rfl⟩ := (fit_dI b).sliceO ho_z1
  have hi_z1 : ∀ g, g ∈ F_z1 → g < w2.heap.size := Ow.lt _ _ _ ho_z1
  have hd_z1 := hnn2
  clear hnn2 hll2
  go_wp2_with fail
  refine (toInt64SS_d _ (dII parts) _ _ (h_parts.below hB) (fit_dII parts) hv_parts).mono ?_
  rintro e w3 ⟨v3, F_z2, rfl, hb3, ho_z2, hnn3, hll3⟩
  have hs3 : Below w2.heap.size w2 w3 := hb3
  have hz3 : w2.heap.size ≤ w3.heap.size := hb3.size
  replace ho_z1 := ho_z1.below hs3
  replace hB := bnext hB hs3 (Nat.le_refl _)
  clear hb3 hs3
  have hl_z2 : ∀ g, g ∈ F_z2 → w2.heap.size ≤ g := fun g hg => by have := hll3 g hg; (try simp at this); omega
  obtain ⟨a_z2, n_z2, c_z2, rfl⟩ := (fit_dII parts).sliceO ho_z2
  have hi_z2 : ∀ g, g ∈ F_z2 → g < w3.heap.size := Ow.lt _ _ _ ho_z2
  have hd_z2 := hnn3
  clear hnn3 hll3
  go_wp2_with fail
  refine (specExactPackings_d b parts _ ho_z1.rdA ho_z2.rdA ).mono ?_
  rintro e w4 ⟨v4, F_z3, rfl, hb4, ho_z3, hnn4, hll4⟩
  have hs4 : Below w3.heap.size w3 w4 := hb4
  have hz4 : w3.heap.size ≤ w4.heap.size := hb4.size
  replace ho_z1 := ho_z1.below hs4
  replace ho_z2 := ho_z2.below hs4
  replace hB := bnext hB hs4 (Nat.le_refl _)
  clear hb4 hs4
  have hl_z3 : ∀ g, g ∈ F_z3 → w3.heap.size ≤ g := fun g hg => by have := hll4 g hg; (try simp at this); omega
  obtain ⟨a_z3, n_z3, c_z3, rfl⟩ := (fit_dII ((packingsS exactP b parts).1)).sliceO ho_z3
  have hi_z3 : ∀ g, g ∈ F_z3 → g < w4.heap.size := Ow.lt _ _ _ ho_z3
  have hd_z3 := hnn4
  clear hnn4 hll4
  clear ho_z1 ho_z2
  go_wp2_with fail
  refine (toInt64S_d _ (dI b) _ _ (h_b.below hB) (fit_dI b) hv_b).mono ?_
  rintro e w5 ⟨v5, F_z4, rfl, hb5, ho_z4, hnn5, hll5⟩
  have hs5 : Below w4.heap.size w4 w5 := hb5
  have hz5 : w4.heap.size ≤ w5.heap.size := hb5.size
  replace ho_z3 := ho_z3.below hs5
  replace hB := bnext hB hs5 (Nat.le_refl _)
  clear hb5 hs5
  have hl_z4 : ∀ g, g ∈ F_z4 → w4.heap.size ≤ g := fun g hg => by have := hll5 g hg; (try simp at this); omega
  obtain ⟨a_z4, n_z4, c_z4, rfl⟩ := (fit_dI b).sliceO ho_z4
  have hi_z4 : ∀ g, g ∈ F_z4 → g < w5.heap.size := Ow.lt _ _ _ ho_z4
  have hd_z4 := hnn5
  clear hnn5 hll5
  go_wp2_with fail
  refine (toInt64SS_d _ (dII parts) _ _ (h_parts.below hB) (fit_dII parts) hv_parts).mono ?_
  rintro e w6 ⟨v6, F_z5, rfl, hb6, ho_z5, hnn6, hll6⟩
  have hs6 : Below w5.heap.size w5 w6 := hb6
  have hz6 : w5.heap.size ≤ w6.heap.size := hb6.size
  replace ho_z3 := ho_z3.below hs6
  replace ho_z4 := ho_z4.below hs6
  replace hB := bnext hB hs6 (Nat.le_refl _)
  clear hb6 hs6
  have hl_z5 : ∀ g, g ∈ F_z5 → w5.heap.size ≤ g := fun g hg => by have := hll6 g hg; (try simp at this); omega
  obtain ⟨a_z5, n_z5, c_z5, rfl⟩ := (fit_dII parts).sliceO ho_z5
  have hi_z5 : ∀ g, g ∈ F_z5 → g < w6.heap.size := Ow.lt _ _ _ ho_z5
  have hd_z5 := hnn6
  clear hnn6 hll6
  go_wp2_with fail
  refine (implExactPackings_d b parts _ ho_z4.rdA ho_z5.rdA (len_of_volII hv_parts)).mono ?_
  rintro e w7 ⟨v7, F_z6, rfl, hb7, ho_z6, hnn7, hll7⟩
  have hs7 : Below w6.heap.size w6 w7 := hb7
  have hz7 : w6.heap.size ≤ w7.heap.size := hb7.size
  replace ho_z3 := ho_z3.below hs7
  replace ho_z4 := ho_z4.below hs7
  replace ho_z5 := ho_z5.below hs7
  replace hB := bnext hB hs7 (Nat.le_refl _)
  clear hb7 hs7
  have hl_z6 : ∀ g, g ∈ F_z6 → w6.heap.size ≤ g := fun g hg => by have := hll7 g hg; (try simp at this); omega
  obtain ⟨a_z6, n_z6, c_z6, rfl⟩ := (fit_dII ((packingsS exactP b parts).1)).sliceO ho_z6
  have hi_z6 : ∀ g, g ∈ F_z6 → g < w7.heap.size := Ow.lt _ _ _ ho_z6
  have hd_z6 := hnn7
  clear hnn7 hll7
  go_wp2_with fail
  refine (eqInt64SS_d (dII (packingsS exactP b parts).1) _ _ _ ho_z6.rdA ho_z3.rdA (fit_dII ((packingsS exactP b parts).1))).mono ?_
  rintro e w8 ⟨rfl, hb8⟩
  have hs8 : Below w7.heap.size w7 w8 := hb8
  have hz8 : w7.heap.size ≤ w8.heap.size := hb8.size
  replace ho_z3 := ho_z3.below hs8
  replace ho_z4 := ho_z4.below hs8
  replace ho_z5 := ho_z5.below hs8
  replace ho_z6 := ho_z6.below hs8
  replace hB := bnext hB hs8 (Nat.le_refl _)
  clear hb8 hs8
  go_wp2_with fail
  refine (toInt64S_d _ (dI b) _ _ (h_b.below hB) (fit_dI b) hv_b).mono ?_
  rintro e w9 ⟨v9, F_z7, rfl, hb9, ho_z7, hnn9, hll9⟩
  have hs9 : Below w8.heap.size w8 w9 := hb9
  have hz9 : w8.heap.size ≤ w9.heap.size := hb9.size
  replace ho_z3 := ho_z3.below hs9
  replace ho_z4 := ho_z4.below hs9
  replace ho_z5 := ho_z5.below hs9
  replace ho_z6 := ho_z6.below hs9
  replace hB := bnext hB hs9 (Nat.le_refl _)
  clear hb9 hs9
  have hl_z7 : ∀ g, g ∈ F_z7 → w8.heap.size ≤ g := fun g hg => by have := hll9 g hg; (try simp at this); omega
  obtain ⟨a_z7, n_z7, c_z7, rfl⟩ := (fit_dI b).sliceO ho_z7
  have hi_z7 : ∀ g, g ∈ F_z7 → g < w9.heap.size := Ow.lt _ _ _ ho_z7
  have hd_z7 := hnn9
  clear hnn9 hll9
  go_wp2_with fail
  refine (eqInt64S_d (dI b) _ _ _ ho_z4.rdA ho_z7.rdA (fit_dI b)).mono ?_
  rintro e w10 ⟨rfl, hb10⟩
  have hs10 : Below w9.heap.size w9 w10 := hb10
  have hz10 : w9.heap.size ≤ w10.heap.size := hb10.size
  replace ho_z3 := ho_z3.below hs10
  replace ho_z4 := ho_z4.below hs10
  replace ho_z5 := ho_z5.below hs10
  replace ho_z6 := ho_z6.below hs10
  replace ho_z7 := ho_z7.below hs10
  replace hB := bnext hB hs10 (Nat.le_refl _)
  clear hb10 hs10
  clear ho_z7
  go_wp2_with fail
  refine (toInt64SS_d _ (dII parts) _ _ (h_parts.below hB) (fit_dII parts) hv_parts).mono ?_
  rintro e w11 ⟨v11, F_z8, rfl, hb11, ho_z8, hnn11, hll11⟩
  have hs11 : Below w10.heap.size w10 w11 := hb11
  have hz11 : w10.heap.size ≤ w11.heap.size := hb11.size
  replace ho_z3 := ho_z3.below hs11
  replace ho_z4 := ho_z4.below hs11
  replace ho_z5 := ho_z5.below hs11
  replace ho_z6 := ho_z6.below hs11
  replace hB := bnext hB hs11 (Nat.le_refl _)
  clear hb11 hs11
  have hl_z8 : ∀ g, g ∈ F_z8 → w10.heap.size ≤ g := fun g hg => by have := hll11 g hg; (try simp at this); omega
  obtain ⟨a_z8, n_z8, c_z8, rfl⟩ := (fit_dII parts).sliceO ho_z8
  have hi_z8 : ∀ g, g ∈ F_z8 → g < w11.heap.size := Ow.lt _ _ _ ho_z8
  have hd_z8 := hnn11
  clear hnn11 hll11
  go_wp2_with fail
  refine (eqInt64SS_d (dII parts) _ _ _ ho_z5.rdA ho_z8.rdA (fit_dII parts)).mono ?_
  rintro e w12 ⟨rfl, hb12⟩
  have hs12 : Below w11.heap.size w11 w12 := hb12
  have hz12 : w11.heap.size ≤ w12.heap.size := hb12.size
  replace ho_z3 := ho_z3.below hs12
  replace ho_z4 := ho_z4.below hs12
  replace ho_z5 := ho_z5.below hs12
  replace ho_z6 := ho_z6.below hs12
  replace ho_z8 := ho_z8.below hs12
  replace hB := bnext hB hs12 (Nat.le_refl _)
  clear hb12 hs12
  clear ho_z8
  go_wp2_with fail
  refine (markInt64S_d (dI b) _ _ (1) _ ho_z4 hd_z4 (fit_dI b) (by first | assumption | (have := cnt_le_vol (fit_dI b); omega)) (by omega) (by omega)).mono ?_
  rintro e w13 ⟨rfl, he13, hk13_z4⟩
  have hb13 := he13.chg
  clear he13
  have hz13 : w12.heap.size ≤ w13.heap.size := hb13.size
  have hf13 : ∀ g, g ∈ F_z4 → w4.heap.size ≤ g ∧ g < w5.heap.size := fun g hg => by exact ⟨hl_z4 g hg, hi_z4 g hg⟩
  replace ho_z3 := hb13.ow ho_z3 (fun g h1 h2 => by have := hl_z3 g h1; have := hi_z3 g h1; have := hf13 g h2; omega)
  replace ho_z5 := hb13.ow ho_z5 (fun g h1 h2 => by have := hl_z5 g h1; have := hi_z5 g h1; have := hf13 g h2; omega)
  replace ho_z6 := hb13.ow ho_z6 (fun g h1 h2 => by have := hl_z6 g h1; have := hi_z6 g h1; have := hf13 g h2; omega)
  replace hB := hB.trans (hb13.below (by omega) (fun g hg => by have := hf13 g hg; omega))
  clear hb13 hf13
  clear ho_z4
  have ho_z4 := hk13_z4
  clear hk13_z4
  have hcv13_z4 := cnt_le_vol (fit_dI b)
  clear ho_z4
  go_wp2_with fail
  refine (markInt64SS_d (dII parts) _ _ (1 + cnt (dI b)) _ ho_z5 hd_z5 (fit_dII parts) (by first | assumption | (have := cnt_le_vol (fit_dII parts); omega)) (by omega) (by omega)).mono ?_
  rintro e w14 ⟨rfl, he14, hk14_z5⟩
  have hb14 := he14.chg
  clear he14
  have hz14 : w13.heap.size ≤ w14.heap.size := hb14.size
  have hf14 : ∀ g, g ∈ F_z5 → w5.heap.size ≤ g ∧ g < w6.heap.size := fun g hg => by exact ⟨hl_z5 g hg, hi_z5 g hg⟩
  replace ho_z3 := hb14.ow ho_z3 (fun g h1 h2 => by have := hl_z3 g h1; have := hi_z3 g h1; have := hf14 g h2; omega)
  replace ho_z6 := hb14.ow ho_z6 (fun g h1 h2 => by have := hl_z6 g h1; have := hi_z6 g h1; have := hf14 g h2; omega)
  replace hB := hB.trans (hb14.below (by omega) (fun g hg => by have := hf14 g hg; omega))
  clear hb14 hf14
  clear ho_z5
  have ho_z5 := hk14_z5
  clear hk14_z5
  have hcv14_z5 := cnt_le_vol (fit_dII parts)
  clear ho_z5
  go_wp2_with fail
  refine (eqInt64SS_d (dII (packingsS exactP b parts).1) _ _ _ ho_z6.rdA ho_z3.rdA (fit_dII ((packingsS exactP b parts).1))).mono ?_
  rintro e w15 ⟨rfl, hb15⟩
  have hs15 : Below w14.heap.size w14 w15 := hb15
  have hz15 : w14.heap.size ≤ w15.heap.size := hb15.size
  replace ho_z3 := ho_z3.below hs15
  replace ho_z6 := ho_z6.below hs15
  replace hB := bnext hB hs15 (Nat.le_refl _)
  clear hb15 hs15
  go_wp2_with fail
  refine (markInt64SS_d (dII (packingsS exactP b parts).1) _ _ (1) _ ho_z6 hd_z6 (fit_dII ((packingsS exactP b parts).1)) (by first | assumption | (have := cnt_le_vol (fit_dII ((packingsS exactP b parts).1)); omega)) (by omega) (by omega)).mono ?_
  rintro e w16 ⟨rfl, he16, hk16_z6⟩
  have hb16 := he16.chg
  clear he16
  have hz16 : w15.heap.size ≤ w16.heap.size := hb16.size
  have hf16 : ∀ g, g ∈ F_z6 → w6.heap.size ≤ g ∧ g < w7.heap.size := fun g hg => by exact ⟨hl_z6 g hg, hi_z6 g hg⟩
  replace ho_z3 := hb16.ow ho_z3 (fun g h1 h2 => by have := hl_z3 g h1; have := hi_z3 g h1; have := hf16 g h2; omega)
  replace hB := hB.trans (hb16.below (by omega) (fun g hg => by have := hf16 g hg; omega))
  clear hb16 hf16
  clear ho_z6
  have ho_z6 := hk16_z6
  clear hk16_z6
  have hcv16_z6 := cnt_le_vol (fit_dII ((packingsS exactP b parts).1))
  go_wp2_with fail
  refine (heldInt64SS_d Any (dII (packingsS exactP b parts).1) _ (1) _ ho_z6.rdA (fit_dII ((packingsS exactP b parts).1)) (by first | assumption | (have := cnt_le_vol (fit_dII ((packingsS exactP b parts).1)); omega)) (by omega) (by omega)).mono ?_
  rintro e w17 ⟨rfl, hb17⟩
  have hs17 : Below w16.heap.size w16 w17 := hb17
  have hz17 : w16.heap.size ≤ w17.heap.size := hb17.size
  replace ho_z3 := ho_z3.below hs17
  replace ho_z6 := ho_z6.below hs17
  replace hB := bnext hB hs17 (Nat.le_refl _)
  clear hb17 hs17
  go_wp2_with fail
  refine (toInt64S_d _ (dI b) _ _ (h_b.below hB) (fit_dI b) hv_b).mono ?_
  rintro e w18 ⟨v18, F_z9, rfl, hb18, ho_z9, hnn18, hll18⟩
  have hs18 : Below w17.heap.size w17 w18 := hb18
  have hz18 : w17.heap.size ≤ w18.heap.size := hb18.size
  replace ho_z3 := ho_z3.below hs18
  replace ho_z6 := ho_z6.below hs18
  replace hB := bnext hB hs18 (Nat.le_refl _)
  clear hb18 hs18
  have hl_z9 : ∀ g, g ∈ F_z9 → w17.heap.size ≤ g := fun g hg => by have := hll18 g hg; (try simp at this); omega
  obtain ⟨a_z9, n_z9, c_z9, rfl⟩ := (fit_dI b).sliceO ho_z9
  have hi_z9 : ∀ g, g ∈ F_z9 → g < w18.heap.size := Ow.lt _ _ _ ho_z9
  have hd_z9 := hnn18
  clear hnn18 hll18
  go_wp2_with fail
  refine (toInt64SS_d _ (dII parts) _ _ (h_parts.below hB) (fit_dII parts) hv_parts).mono ?_
  rintro e w19 ⟨v19, F_z10, rfl, hb19, ho_z10, hnn19, hll19⟩
  have hs19 : Below w18.heap.size w18 w19 := hb19
  have hz19 : w18.heap.size ≤ w19.heap.size := hb19.size
  replace ho_z3 := ho_z3.below hs19
  replace ho_z6 := ho_z6.below hs19
  replace ho_z9 := ho_z9.below hs19
  replace hB := bnext hB hs19 (Nat.le_refl _)
  clear hb19 hs19
  have hl_z10 : ∀ g, g ∈ F_z10 → w18.heap.size ≤ g := fun g hg => by have := hll19 g hg; (try simp at this); omega
  obtain ⟨a_z10, n_z10, c_z10, rfl⟩ := (fit_dII parts).sliceO ho_z10
  have hi_z10 : ∀ g, g ∈ F_z10 → g < w19.heap.size := Ow.lt _ _ _ ho_z10
  have hd_z10 := hnn19
  clear hnn19 hll19
  go_wp2_with fail
  refine (implExactPackings_d b parts _ ho_z9.rdA ho_z10.rdA (len_of_volII hv_parts)).mono ?_
  rintro e w20 ⟨v20, F_z11, rfl, hb20, ho_z11, hnn20, hll20⟩
  have hs20 : Below w19.heap.size w19 w20 := hb20
  have hz20 : w19.heap.size ≤ w20.heap.size := hb20.size
  replace ho_z3 := ho_z3.below hs20
  replace ho_z6 := ho_z6.below hs20
  replace ho_z9 := ho_z9.below hs20
  replace ho_z10 := ho_z10.below hs20
  replace hB := bnext hB hs20 (Nat.le_refl _)
  clear hb20 hs20
  have hl_z11 : ∀ g, g ∈ F_z11 → w19.heap.size ≤ g := fun g hg => by have := hll20 g hg; (try simp at this); omega
  obtain ⟨a_z11, n_z11, c_z11, rfl⟩ := (fit_dII ((packingsS exactP b parts).1)).sliceO ho_z11
  have hi_z11 : ∀ g, g ∈ F_z11 → g < w20.heap.size := Ow.lt _ _ _ ho_z11
  have hd_z11 := hnn20
  clear hnn20 hll20
  clear ho_z9 ho_z10
  go_wp2_with fail
  refine (eqInt64SS_d (dII (packingsS exactP b parts).1) _ _ _ ho_z11.rdA ho_z3.rdA (fit_dII ((packingsS exactP b parts).1))).mono ?_
  rintro e w21 ⟨rfl, hb21⟩
  have hs21 : Below w20.heap.size w20 w21 := hb21
  have hz21 : w20.heap.size ≤ w21.heap.size := hb21.size
  replace ho_z3 := ho_z3.below hs21
  replace ho_z6 := ho_z6.below hs21
  replace ho_z11 := ho_z11.below hs21
  replace hB := bnext hB hs21 (Nat.le_refl _)
  clear hb21 hs21
  clear ho_z3 ho_z11
  go_wp2_with fail
  refine (heldInt64SS_d Any (dII (packingsS exactP b parts).1) _ (1) _ ho_z6.rdA (fit_dII ((packingsS exactP b parts).1)) (by first | assumption | (have := cnt_le_vol (fit_dII ((packingsS exactP b parts).1)); omega)) (by omega) (by omega)).mono ?_
  rintro e w22 ⟨rfl, hb22⟩
  have hs22 : Below w21.heap.size w21 w22 := hb22
  have hz22 : w21.heap.size ≤ w22.heap.size := hb22.size
  replace ho_z6 := ho_z6.below hs22
  replace hB := bnext hB hs22 (Nat.le_refl _)
  clear hb22 hs22
  clear ho_z6
  go_wp2
  go_ret
  exact ⟨rfl, hB⟩
set_option maxRecDepth 100000 in
theorem lifted (os : Os) (started : os.Started) (H : Type) (enc : TypeId × Value → H) :
    ReturnsInHanded {} Try.checked os 8 .any (Rows.fnExactExactPackingsSpec.pre6 enc Try.prog Try.f8 Rows.fnExactExactPackingsRow.domain false) (Rows.fnExactExactPackingsSpec.post enc Try.prog Try.f8 false true false false) :=
  lift Try.func8 (by kernel_rfl) rfl rfl (by kernel_rfl : Try.prog.underlying 4 = some .bool) (by kernel_rfl) (fun ds h => by match ds, h with | [d0, d1], _ => rfl) started
    (ChangeSpec.witness6 (enc := enc) (C := Try.checked) false ⟨#[], #[.slice none 0 0, .slice none 0 0], []⟩ 8 (by kernel_rfl) (by kernel_rfl) (by kernel_rfl) (by kernel_rfl))
    (fun W base args ds p hval hA => by
      rw [Try.params8] at hA hval
      obtain ⟨v0, vs0, d0, ds0, p0, q0, hargs0, rfl, rfl, g0, r0⟩ := ChangeShapes.trodAll_cons hA
      obtain ⟨v1, vs1, d1, ds1, p1, q1, hargs1, rfl, rfl, g1, r1⟩ := ChangeShapes.trodAll_cons r0
      obtain ⟨hnil, rfl, rfl⟩ := ChangeShapes.trodAll_nil r1
      obtain rfl : args = #[v0, v1] := by cases args; simp_all
      obtain ⟨dx0, fx0, rx0⟩ := open_L Try.underlying23 (by kernel_rfl : shapeOf Try.prog 6 23 = some [.l [.i]]) (hval 0 _ _ rfl rfl) g0
      obtain ⟨x0, rfl⟩ := fitD_I fx0
      obtain ⟨dx1, fx1, rx1⟩ := open_L Try.underlying22 (by kernel_rfl : shapeOf Try.prog 6 22 = some [.l [.l [.i]]]) (hval 1 _ _ rfl rfl) g1
      obtain ⟨x1, rfl⟩ := fitD_II fx1
      exact walk x0 v0 x1 v1 W rx0 rx1)
theorem proved : Rows.FnExactExactPackingsSaid :=
  OpenClaim.holds_of_wide 8 Try.f8 rfl rfl rfl rfl rfl rfl rfl ⟨rfl, rfl, rfl, rfl, rfl⟩ rfl rfl rfl rfl rfl (by kernel_rfl) Try.func8 (by kernel_rfl)
    (of_decide_eq_true (by kernel_rfl)) (by unfold Func.isWrapper; first | (rw [if_pos (by decide +kernel)]; kernel_rfl) | (rw [if_neg (by decide +kernel)]; exact ⟨rfl, rfl⟩))
    (fun os started H enc _ => lifted os started H enc)
end Go.Proofs.Ytdcpdipakglnnaa.lawExactPackings
