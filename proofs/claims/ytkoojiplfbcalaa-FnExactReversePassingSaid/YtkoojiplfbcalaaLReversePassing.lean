/- FnExactReversePassing: whatever the input, the law returns true. No condition. Written by lawgen2.py. -/
import Derived.Test.YtkoojiplfbcalaaRZ
import Derived.Test.YtkoojiplfbcalaaF
import Derived.Test.YtkoojiplfbcalaaWC
import Derived.Test.YtkoojiplfbcalaaYP
import Derived.Test.YtkoojiplfbcalaaLG
import Derived.Deep.RegionHeld3
namespace Go.Proofs.Ytkoojiplfbcalaa.lawReversePassing
open Go.ChangeShapes Go.WideShapes Go.ChangeAt Go.RowKit
set_option maxHeartbeats 3000000 in
set_option maxRecDepth 100000 in
theorem walk (p0 : Int) (p1 : List Int) (v_p1 : Value) (p2 : List Bool) (v_p2 : Value) (p3 : List PR) (v_p3 : Value) (w : World) (h_p1 : Rd (· < w.heap.size) w (dI p1) v_p1) (h_p2 : Rd (· < w.heap.size) w (dB p2) v_p2) (h_p3 : Rd (· < w.heap.size) w (dPR p3) v_p3) :
    Calls Try.prog 8 #[.agg #[.int .i64 p0, v_p1, v_p2, v_p3]] w (RetV w (.bool true)) := by
  obtain ⟨a_p1, n_p1, c_p1, rfl⟩ := (fit_dI p1).sliceR h_p1
  obtain ⟨a_p2, n_p2, c_p2, rfl⟩ := (fit_dB p2).sliceR h_p2
  obtain ⟨a_p3, n_p3, c_p3, rfl⟩ := (fit_dPR p3).sliceR h_p3
  have hcn := rev_cnt1 p0 p1 p2 p3
  have hcn2 := rev_cnt2 p0 p1 p2 p3
  have hcn3 := rev_cnt3 p0 p1 p2 p3
  have hB := Below.refl w.heap.size w
  go_enter Try.func8, Try.ntmps8
  go_wp2_with fail
  refine (szPassing_d _ (p0) (dI p1) _ (dB p2) _ (dPR p3) _ 1048576 _ (h_p1.below (hB.trans (below_alloc _ _))) (h_p2.below (hB.trans (below_alloc _ _))) (h_p3.below (hB.trans (below_alloc _ _))) (fit_dI p1) (fit_dB p2) (fit_dPR p3) (by omega) (by omega)).mono ?_
  rintro e w1 ⟨L1, rfl, hb1, yy1, uu1, p1⟩
  have hs1 : Below w.heap.size w w1 := (below_alloc _ _).trans (hb1.mono (by simp <;> omega))
  have bx1_0 : w1.cell? ⟨w.heap.size, 0, none⟩ = some (.int .i64 p0) := by rw [bcell1 hb1 (by simp <;> omega)]; simp [go_sem]
  have bx1_1 : w1.cell? ⟨w.heap.size, 1, none⟩ = some (.slice a_p1 n_p1 c_p1) := by rw [bcell1 hb1 (by simp <;> omega)]; simp [go_sem]
  have bx1_2 : w1.cell? ⟨w.heap.size, 2, none⟩ = some (.slice a_p2 n_p2 c_p2) := by rw [bcell1 hb1 (by simp <;> omega)]; simp [go_sem]
  have bx1_3 : w1.cell? ⟨w.heap.size, 3, none⟩ = some (.slice a_p3 n_p3 c_p3) := by rw [bcell1 hb1 (by simp <;> omega)]; simp [go_sem]
  have hz1 : w.heap.size + 1 ≤ w1.heap.size := by have := hb1.size; (try simp at this); omega
  replace hB := bnext hB hs1 (Nat.le_refl _)
  clear hb1 hs1
  by_cases n1 : L1 < 0
  · go_wp2
    go_ret
    exact ⟨rfl, hB⟩
  have q1 := p1 (by omega)
  have m1 : 0 ≤ L1 := by omega
  clear p1
  have hv_p1 : vol (dI p1) ≤ 16777216 := by omega
  have hv_p2 : vol (dB p2) ≤ 16777216 := by omega
  have hv_p3 : vol (dPR p3) ≤ 16777216 := by omega
  go_wp2_with fail
  refine (toPassing_d _ (p0) (dI p1) _ (dB p2) _ (dPR p3) _ _ (h_p1.below hB) (h_p2.below hB) (h_p3.below hB) (fit_dI p1) (fit_dB p2) (fit_dPR p3) hv_p1 hv_p2 hv_p3).mono ?_
  rintro e w2 ⟨vs2, F2, rfl, hb2, hoo2, hnn2, hll2⟩
  have hs2 : Below w1.heap.size w1 w2 := hb2
  replace bx1_0 := (bcell1 hs2 (by omega)).trans bx1_0
  replace bx1_1 := (bcell1 hs2 (by omega)).trans bx1_1
  replace bx1_2 := (bcell1 hs2 (by omega)).trans bx1_2
  replace bx1_3 := (bcell1 hs2 (by omega)).trans bx1_3
  have hz2 : w1.heap.size ≤ w2.heap.size := hb2.size
  replace hB := bnext hB hs2 (Nat.le_refl _)
  clear hb2 hs2
  have hvl2 := owA_len _ _ _ hoo2
  obtain ⟨e_2_0, e_2_1, e_2_2, e_2_3, rfl⟩ : ∃ e_2_0 e_2_1 e_2_2 e_2_3, vs2 = [e_2_0, e_2_1, e_2_2, e_2_3] := (by match vs2, hvl2 with | [e_2_0, e_2_1, e_2_2, e_2_3], _ => exact ⟨e_2_0, e_2_1, e_2_2, e_2_3, rfl⟩)
  clear hvl2
  obtain ⟨G2_0, _, ⟨ev2_0, eg2_0⟩, hr2_0, rfl⟩ := hoo2
  subst ev2_0
  subst eg2_0
  obtain ⟨F_z1, _, ho_z1, hr2_1, rfl⟩ := hr2_0
  obtain ⟨F_z2, _, ho_z2, hr2_2, rfl⟩ := hr2_1
  obtain ⟨F_z3, _, ho_z3, hr2_3, rfl⟩ := hr2_2
  have hend2 : _ = [] := hr2_3
  subst hend2
  have hl_z1 : ∀ g, g ∈ F_z1 → w1.heap.size ≤ g := fun g hg => by have := hll2 g (by simp [hg]); (try simp at this); omega
  obtain ⟨a_z1, n_z1, c_z1, rfl⟩ := (fit_dI p1).sliceO ho_z1
  have hl_z2 : ∀ g, g ∈ F_z2 → w1.heap.size ≤ g := fun g hg => by have := hll2 g (by simp [hg]); (try simp at this); omega
  obtain ⟨a_z2, n_z2, c_z2, rfl⟩ := (fit_dB p2).sliceO ho_z2
  have hl_z3 : ∀ g, g ∈ F_z3 → w1.heap.size ≤ g := fun g hg => by have := hll2 g (by simp [hg]); (try simp at this); omega
  obtain ⟨a_z3, n_z3, c_z3, rfl⟩ := (fit_dPR p3).sliceO ho_z3
  have hi_z1 : ∀ g, g ∈ F_z1 → g < w2.heap.size := Ow.lt _ _ _ ho_z1
  have hi_z2 : ∀ g, g ∈ F_z2 → g < w2.heap.size := Ow.lt _ _ _ ho_z2
  have hi_z3 : ∀ g, g ∈ F_z3 → g < w2.heap.size := Ow.lt _ _ _ ho_z3
  have hd_z1 : (F_z1 ++ (F_z2 ++ F_z3)).Nodup := by simpa using hnn2
  clear hnn2 hll2
  go_wp2_with fail
  refine (specReversePassing_d p0 p1 p2 p3 _ ho_z1.rdA ho_z2.rdA ho_z3.rdA ).mono ?_
  rintro e w3 ⟨vs3, F3, rfl, hb3, hoo3, hnn3, hll3⟩
  have hs3 : Below w2.heap.size w2 w3 := hb3
  replace bx1_0 := (bcell1 hs3 (by omega)).trans bx1_0
  replace bx1_1 := (bcell1 hs3 (by omega)).trans bx1_1
  replace bx1_2 := (bcell1 hs3 (by omega)).trans bx1_2
  replace bx1_3 := (bcell1 hs3 (by omega)).trans bx1_3
  have hz3 : w2.heap.size ≤ w3.heap.size := hb3.size
  replace ho_z1 := ho_z1.below hs3
  replace ho_z2 := ho_z2.below hs3
  replace ho_z3 := ho_z3.below hs3
  replace hB := bnext hB hs3 (Nat.le_refl _)
  clear hb3 hs3
  have hvl3 := owA_len _ _ _ hoo3
  obtain ⟨e_3_0, e_3_1, e_3_2, e_3_3, rfl⟩ : ∃ e_3_0 e_3_1 e_3_2 e_3_3, vs3 = [e_3_0, e_3_1, e_3_2, e_3_3] := (by match vs3, hvl3 with | [e_3_0, e_3_1, e_3_2, e_3_3], _ => exact ⟨e_3_0, e_3_1, e_3_2, e_3_3, rfl⟩)
  clear hvl3
  obtain ⟨G3_0, _, ⟨ev3_0, eg3_0⟩, hr3_0, rfl⟩ := hoo3
  subst ev3_0
  subst eg3_0
  obtain ⟨F_z4, _, ho_z4, hr3_1, rfl⟩ := hr3_0
  obtain ⟨F_z5, _, ho_z5, hr3_2, rfl⟩ := hr3_1
  obtain ⟨F_z6, _, ho_z6, hr3_3, rfl⟩ := hr3_2
  have hend3 : _ = [] := hr3_3
  subst hend3
  have hl_z4 : ∀ g, g ∈ F_z4 → w2.heap.size ≤ g := fun g hg => by have := hll3 g (by simp [hg]); (try simp at this); omega
  obtain ⟨a_z4, n_z4, c_z4, rfl⟩ := (fit_dI ((revS p0 p1 p2 p3).1.2.1)).sliceO ho_z4
  have hl_z5 : ∀ g, g ∈ F_z5 → w2.heap.size ≤ g := fun g hg => by have := hll3 g (by simp [hg]); (try simp at this); omega
  obtain ⟨a_z5, n_z5, c_z5, rfl⟩ := (fit_dB ((revS p0 p1 p2 p3).1.2.2.1)).sliceO ho_z5
  have hl_z6 : ∀ g, g ∈ F_z6 → w2.heap.size ≤ g := fun g hg => by have := hll3 g (by simp [hg]); (try simp at this); omega
  obtain ⟨a_z6, n_z6, c_z6, rfl⟩ := (fit_dPR ((revS p0 p1 p2 p3).1.2.2.2)).sliceO ho_z6
  have hi_z4 : ∀ g, g ∈ F_z4 → g < w3.heap.size := Ow.lt _ _ _ ho_z4
  have hi_z5 : ∀ g, g ∈ F_z5 → g < w3.heap.size := Ow.lt _ _ _ ho_z5
  have hi_z6 : ∀ g, g ∈ F_z6 → g < w3.heap.size := Ow.lt _ _ _ ho_z6
  have hd_z4 : (F_z4 ++ (F_z5 ++ F_z6)).Nodup := by simpa using hnn3
  clear hnn3 hll3
  clear ho_z1 ho_z2 ho_z3
  have lt3_0 : w.heap.size < w3.heap.size := by omega
  go_wp2_with fail
  refine (toPassing_d _ (p0) (dI p1) _ (dB p2) _ (dPR p3) _ _ (h_p1.below (hB.trans ((below_alloc _ _).mono (by omega)))) (h_p2.below (hB.trans ((below_alloc _ _).mono (by omega)))) (h_p3.below (hB.trans ((below_alloc _ _).mono (by omega)))) (fit_dI p1) (fit_dB p2) (fit_dPR p3) hv_p1 hv_p2 hv_p3).mono ?_
  rintro e w4 ⟨vs4, F4, rfl, hb4, hoo4, hnn4, hll4⟩
  have hs4 : Below w3.heap.size w3 w4 := (below_alloc _ _).trans (hb4.mono (by simp <;> omega))
  replace bx1_0 := (bcell1 hs4 (by omega)).trans bx1_0
  replace bx1_1 := (bcell1 hs4 (by omega)).trans bx1_1
  replace bx1_2 := (bcell1 hs4 (by omega)).trans bx1_2
  replace bx1_3 := (bcell1 hs4 (by omega)).trans bx1_3
  have bx4_0 : w4.cell? ⟨w3.heap.size, 0, none⟩ = some (.int .i64 ((revS p0 p1 p2 p3).1.1)) := by rw [bcell1 hb4 (by simp <;> omega)]; simp [go_sem]
  have bx4_1 : w4.cell? ⟨w3.heap.size, 1, none⟩ = some (.slice a_z4 n_z4 c_z4) := by rw [bcell1 hb4 (by simp <;> omega)]; simp [go_sem]
  have bx4_2 : w4.cell? ⟨w3.heap.size, 2, none⟩ = some (.slice a_z5 n_z5 c_z5) := by rw [bcell1 hb4 (by simp <;> omega)]; simp [go_sem]
  have bx4_3 : w4.cell? ⟨w3.heap.size, 3, none⟩ = some (.slice a_z6 n_z6 c_z6) := by rw [bcell1 hb4 (by simp <;> omega)]; simp [go_sem]
  have hz4 : w3.heap.size + 1 ≤ w4.heap.size := by have := hb4.size; (try simp at this); omega
  replace ho_z4 := ho_z4.below hs4
  replace ho_z5 := ho_z5.below hs4
  replace ho_z6 := ho_z6.below hs4
  replace hB := bnext hB hs4 (Nat.le_refl _)
  clear hb4 hs4
  have hvl4 := owA_len _ _ _ hoo4
  obtain ⟨e_4_0, e_4_1, e_4_2, e_4_3, rfl⟩ : ∃ e_4_0 e_4_1 e_4_2 e_4_3, vs4 = [e_4_0, e_4_1, e_4_2, e_4_3] := (by match vs4, hvl4 with | [e_4_0, e_4_1, e_4_2, e_4_3], _ => exact ⟨e_4_0, e_4_1, e_4_2, e_4_3, rfl⟩)
  clear hvl4
  obtain ⟨G4_0, _, ⟨ev4_0, eg4_0⟩, hr4_0, rfl⟩ := hoo4
  subst ev4_0
  subst eg4_0
  obtain ⟨F_z7, _, ho_z7, hr4_1, rfl⟩ := hr4_0
  obtain ⟨F_z8, _, ho_z8, hr4_2, rfl⟩ := hr4_1
  obtain ⟨F_z9, _, ho_z9, hr4_3, rfl⟩ := hr4_2
  have hend4 : _ = [] := hr4_3
  subst hend4
  have hl_z7 : ∀ g, g ∈ F_z7 → w3.heap.size + 1 ≤ g := fun g hg => by have := hll4 g (by simp [hg]); (try simp at this); omega
  obtain ⟨a_z7, n_z7, c_z7, rfl⟩ := (fit_dI p1).sliceO ho_z7
  have hl_z8 : ∀ g, g ∈ F_z8 → w3.heap.size + 1 ≤ g := fun g hg => by have := hll4 g (by simp [hg]); (try simp at this); omega
  obtain ⟨a_z8, n_z8, c_z8, rfl⟩ := (fit_dB p2).sliceO ho_z8
  have hl_z9 : ∀ g, g ∈ F_z9 → w3.heap.size + 1 ≤ g := fun g hg => by have := hll4 g (by simp [hg]); (try simp at this); omega
  obtain ⟨a_z9, n_z9, c_z9, rfl⟩ := (fit_dPR p3).sliceO ho_z9
  have hi_z7 : ∀ g, g ∈ F_z7 → g < w4.heap.size := Ow.lt _ _ _ ho_z7
  have hi_z8 : ∀ g, g ∈ F_z8 → g < w4.heap.size := Ow.lt _ _ _ ho_z8
  have hi_z9 : ∀ g, g ∈ F_z9 → g < w4.heap.size := Ow.lt _ _ _ ho_z9
  have hd_z7 : (F_z7 ++ (F_z8 ++ F_z9)).Nodup := by simpa using hnn4
  clear hnn4 hll4
  have lt4_0 : w.heap.size < w4.heap.size := by omega
  have lt4_1 : w3.heap.size < w4.heap.size := by omega
  go_wp2_with fail
  refine (implReversePassing_d p0 p1 p2 p3 _ (ho_z7.below (below_alloc _ _)) (ho_z8.below (below_alloc _ _)) (ho_z9.below (below_alloc _ _)) ).mono ?_
  rintro e w5 ⟨vs5, F5, rfl, hb5, hoo5, hnn5, hll5⟩
  have hs5 : Below w4.heap.size w4 w5 := (below_alloc _ _).trans (hb5.mono (by simp <;> omega))
  replace bx1_0 := (bcell1 hs5 (by omega)).trans bx1_0
  replace bx1_1 := (bcell1 hs5 (by omega)).trans bx1_1
  replace bx1_2 := (bcell1 hs5 (by omega)).trans bx1_2
  replace bx1_3 := (bcell1 hs5 (by omega)).trans bx1_3
  replace bx4_0 := (bcell1 hs5 (by omega)).trans bx4_0
  replace bx4_1 := (bcell1 hs5 (by omega)).trans bx4_1
  replace bx4_2 := (bcell1 hs5 (by omega)).trans bx4_2
  replace bx4_3 := (bcell1 hs5 (by omega)).trans bx4_3
  have bx6_0 : w5.cell? ⟨w4.heap.size, 0, none⟩ = some (.int .i64 p0) := by rw [bcell1 hb5 (by simp <;> omega)]; simp [go_sem]
  have bx6_1 : w5.cell? ⟨w4.heap.size, 1, none⟩ = some (.slice a_z7 n_z7 c_z7) := by rw [bcell1 hb5 (by simp <;> omega)]; simp [go_sem]
  have bx6_2 : w5.cell? ⟨w4.heap.size, 2, none⟩ = some (.slice a_z8 n_z8 c_z8) := by rw [bcell1 hb5 (by simp <;> omega)]; simp [go_sem]
  have bx6_3 : w5.cell? ⟨w4.heap.size, 3, none⟩ = some (.slice a_z9 n_z9 c_z9) := by rw [bcell1 hb5 (by simp <;> omega)]; simp [go_sem]
  have hz5 : w4.heap.size + 1 ≤ w5.heap.size := by have := hb5.size; (try simp at this); omega
  replace ho_z4 := ho_z4.below hs5
  replace ho_z5 := ho_z5.below hs5
  replace ho_z6 := ho_z6.below hs5
  replace ho_z7 := ho_z7.below hs5
  replace ho_z8 := ho_z8.below hs5
  replace ho_z9 := ho_z9.below hs5
  replace hB := bnext hB hs5 (Nat.le_refl _)
  clear hb5 hs5
  have hvl5 := owA_len _ _ _ hoo5
  obtain ⟨e_5_0, e_5_1, e_5_2, e_5_3, rfl⟩ : ∃ e_5_0 e_5_1 e_5_2 e_5_3, vs5 = [e_5_0, e_5_1, e_5_2, e_5_3] := (by match vs5, hvl5 with | [e_5_0, e_5_1, e_5_2, e_5_3], _ => exact ⟨e_5_0, e_5_1, e_5_2, e_5_3, rfl⟩)
  clear hvl5
  obtain ⟨G5_0, _, ⟨ev5_0, eg5_0⟩, hr5_0, rfl⟩ := hoo5
  subst ev5_0
  subst eg5_0
  obtain ⟨F_z10, _, ho_z10, hr5_1, rfl⟩ := hr5_0
  obtain ⟨F_z11, _, ho_z11, hr5_2, rfl⟩ := hr5_1
  obtain ⟨F_z12, _, ho_z12, hr5_3, rfl⟩ := hr5_2
  have hend5 : _ = [] := hr5_3
  subst hend5
  have hl_z10 : ∀ g, g ∈ F_z10 → w4.heap.size + 1 ≤ g := fun g hg => by have := hll5 g (by simp [hg]); (try simp at this); omega
  obtain ⟨a_z10, n_z10, c_z10, rfl⟩ := (fit_dI ((revS p0 p1 p2 p3).1.2.1)).sliceO ho_z10
  have hl_z11 : ∀ g, g ∈ F_z11 → w4.heap.size + 1 ≤ g := fun g hg => by have := hll5 g (by simp [hg]); (try simp at this); omega
  obtain ⟨a_z11, n_z11, c_z11, rfl⟩ := (fit_dB ((revS p0 p1 p2 p3).1.2.2.1)).sliceO ho_z11
  have hl_z12 : ∀ g, g ∈ F_z12 → w4.heap.size + 1 ≤ g := fun g hg => by have := hll5 g (by simp [hg]); (try simp at this); omega
  obtain ⟨a_z12, n_z12, c_z12, rfl⟩ := (fit_dPR ((revS p0 p1 p2 p3).1.2.2.2)).sliceO ho_z12
  have hi_z10 : ∀ g, g ∈ F_z10 → g < w5.heap.size := Ow.lt _ _ _ ho_z10
  have hi_z11 : ∀ g, g ∈ F_z11 → g < w5.heap.size := Ow.lt _ _ _ ho_z11
  have hi_z12 : ∀ g, g ∈ F_z12 → g < w5.heap.size := Ow.lt _ _ _ ho_z12
  have hd_z10 : (F_z10 ++ (F_z11 ++ F_z12)).Nodup := by simpa using hnn5
  clear hnn5 hll5
  have lt5_0 : w.heap.size < w5.heap.size := by omega
  have lt5_1 : w3.heap.size < w5.heap.size := by omega
  have lt5_2 : w4.heap.size < w5.heap.size := by omega
  go_wp2_with fail
  refine (eqPassing_d (((revS p0 p1 p2 p3).1.1)) (dI (revS p0 p1 p2 p3).1.2.1) _ (dB (revS p0 p1 p2 p3).1.2.2.1) _ (dPR (revS p0 p1 p2 p3).1.2.2.2) _ _ _ _ _ (ho_z10.rdA.below (below_alloc _ _)) (ho_z11.rdA.below (below_alloc _ _)) (ho_z12.rdA.below (below_alloc _ _)) (ho_z4.rdA.below (below_alloc _ _)) (ho_z5.rdA.below (below_alloc _ _)) (ho_z6.rdA.below (below_alloc _ _)) (fit_dI ((revS p0 p1 p2 p3).1.2.1)) (fit_dB ((revS p0 p1 p2 p3).1.2.2.1)) (fit_dPR ((revS p0 p1 p2 p3).1.2.2.2))).mono ?_
  rintro e w6 ⟨rfl, hb6⟩
  have hs6 : Below w5.heap.size w5 w6 := (below_alloc _ _).trans (hb6.mono (by simp <;> omega))
  replace bx1_0 := (bcell1 hs6 (by omega)).trans bx1_0
  replace bx1_1 := (bcell1 hs6 (by omega)).trans bx1_1
  replace bx1_2 := (bcell1 hs6 (by omega)).trans bx1_2
  replace bx1_3 := (bcell1 hs6 (by omega)).trans bx1_3
  replace bx4_0 := (bcell1 hs6 (by omega)).trans bx4_0
  replace bx4_1 := (bcell1 hs6 (by omega)).trans bx4_1
  replace bx4_2 := (bcell1 hs6 (by omega)).trans bx4_2
  replace bx4_3 := (bcell1 hs6 (by omega)).trans bx4_3
  replace bx6_0 := (bcell1 hs6 (by omega)).trans bx6_0
  replace bx6_1 := (bcell1 hs6 (by omega)).trans bx6_1
  replace bx6_2 := (bcell1 hs6 (by omega)).trans bx6_2
  replace bx6_3 := (bcell1 hs6 (by omega)).trans bx6_3
  have bx7_0 : w6.cell? ⟨w5.heap.size, 0, none⟩ = some (.int .i64 ((revS p0 p1 p2 p3).1.1)) := by rw [bcell1 hb6 (by simp <;> omega)]; simp [go_sem]
  have bx7_1 : w6.cell? ⟨w5.heap.size, 1, none⟩ = some (.slice a_z10 n_z10 c_z10) := by rw [bcell1 hb6 (by simp <;> omega)]; simp [go_sem]
  have bx7_2 : w6.cell? ⟨w5.heap.size, 2, none⟩ = some (.slice a_z11 n_z11 c_z11) := by rw [bcell1 hb6 (by simp <;> omega)]; simp [go_sem]
  have bx7_3 : w6.cell? ⟨w5.heap.size, 3, none⟩ = some (.slice a_z12 n_z12 c_z12) := by rw [bcell1 hb6 (by simp <;> omega)]; simp [go_sem]
  have hz6 : w5.heap.size + 1 ≤ w6.heap.size := by have := hb6.size; (try simp at this); omega
  replace ho_z4 := ho_z4.below hs6
  replace ho_z5 := ho_z5.below hs6
  replace ho_z6 := ho_z6.below hs6
  replace ho_z7 := ho_z7.below hs6
  replace ho_z8 := ho_z8.below hs6
  replace ho_z9 := ho_z9.below hs6
  replace ho_z10 := ho_z10.below hs6
  replace ho_z11 := ho_z11.below hs6
  replace ho_z12 := ho_z12.below hs6
  replace hB := bnext hB hs6 (Nat.le_refl _)
  clear hb6 hs6
  go_wp2_with fail
  go_region_held3 (fun wx => wx.cell? ⟨w.heap.size, 0, none⟩ = some (.int .i64 p0) ∧ wx.cell? ⟨w.heap.size, 1, none⟩ = some (.slice a_p1 n_p1 c_p1) ∧ wx.cell? ⟨w.heap.size, 2, none⟩ = some (.slice a_p2 n_p2 c_p2) ∧ wx.cell? ⟨w.heap.size, 3, none⟩ = some (.slice a_p3 n_p3 c_p3) ∧ wx.cell? ⟨w3.heap.size, 0, none⟩ = some (.int .i64 ((revS p0 p1 p2 p3).1.1)) ∧ wx.cell? ⟨w3.heap.size, 1, none⟩ = some (.slice a_z4 n_z4 c_z4) ∧ wx.cell? ⟨w3.heap.size, 2, none⟩ = some (.slice a_z5 n_z5 c_z5) ∧ wx.cell? ⟨w3.heap.size, 3, none⟩ = some (.slice a_z6 n_z6 c_z6) ∧ wx.cell? ⟨w4.heap.size, 0, none⟩ = some (.int .i64 p0) ∧ wx.cell? ⟨w4.heap.size, 1, none⟩ = some (.slice a_z7 n_z7 c_z7) ∧ wx.cell? ⟨w4.heap.size, 2, none⟩ = some (.slice a_z8 n_z8 c_z8) ∧ wx.cell? ⟨w4.heap.size, 3, none⟩ = some (.slice a_z9 n_z9 c_z9) ∧ wx.cell? ⟨w5.heap.size, 0, none⟩ = some (.int .i64 ((revS p0 p1 p2 p3).1.1)) ∧ wx.cell? ⟨w5.heap.size, 1, none⟩ = some (.slice a_z10 n_z10 c_z10) ∧ wx.cell? ⟨w5.heap.size, 2, none⟩ = some (.slice a_z11 n_z11 c_z11) ∧ wx.cell? ⟨w5.heap.size, 3, none⟩ = some (.slice a_z12 n_z12 c_z12))
    (first
      | go_keep
      | (refine ⟨?_, ?_, ?_, ?_, ?_, ?_, ?_, ?_, ?_, ?_, ?_, ?_, ?_, ?_, ?_, ?_⟩ <;> (rw [bcell1 hb7 (by show _ < w6.heap.size; omega)]; assumption))
      | (have h1_ : w6.heap.size ≤ w7.heap.size := hb7.size; (try go_split_ands); refine ⟨?_, ?_, ?_, ?_, ?_, ?_, ?_, ?_, ?_, ?_, ?_, ?_, ?_, ?_, ?_, ?_⟩ <;> (rw [bcell1 hb8 (by omega)]; assumption)))
    (first
      | (go_at_call 13; refine (toPassing_d _ (p0) (dI p1) _ (dB p2) _ (dPR p3) _ _ (h_p1.below hB.drew) (h_p2.below hB.drew) (h_p3.below hB.drew) (fit_dI p1) (fit_dB p2) (fit_dPR p3) hv_p1 hv_p2 hv_p3).mono ?_; rintro e w7 ⟨vs7, F7, rfl, hb7, hoo7, hnn7, hll7⟩; have hvl7 := owA_len _ _ _ hoo7; obtain ⟨e_7_0, e_7_1, e_7_2, e_7_3, rfl⟩ : ∃ e_7_0 e_7_1 e_7_2 e_7_3, vs7 = [e_7_0, e_7_1, e_7_2, e_7_3] := (by match vs7, hvl7 with | [e_7_0, e_7_1, e_7_2, e_7_3], _ => exact ⟨e_7_0, e_7_1, e_7_2, e_7_3, rfl⟩); clear hvl7; obtain ⟨G7_0, _, ⟨ev7_0, eg7_0⟩, hr7_0, rfl⟩ := hoo7; subst ev7_0; subst eg7_0; obtain ⟨F_z13, _, ho_z13, hr7_1, rfl⟩ := hr7_0; obtain ⟨F_z14, _, ho_z14, hr7_2, rfl⟩ := hr7_1; obtain ⟨F_z15, _, ho_z15, hr7_3, rfl⟩ := hr7_2; have hend7 : _ = [] := hr7_3; subst hend7; obtain ⟨a_z13, n_z13, c_z13, rfl⟩ := (fit_dI p1).sliceO ho_z13; obtain ⟨a_z14, n_z14, c_z14, rfl⟩ := (fit_dB p2).sliceO ho_z14; obtain ⟨a_z15, n_z15, c_z15, rfl⟩ := (fit_dPR p3).sliceO ho_z15)
      | (go_at_call 17; refine (eqPassing_d (p0) (dI p1) _ (dB p2) _ (dPR p3) _ _ _ _ _ (ho_z7.rdA.below ((Below.refl w6.heap.size w6).drew.trans (hb7.mono (by exact Nat.le_refl _)))) (ho_z8.rdA.below ((Below.refl w6.heap.size w6).drew.trans (hb7.mono (by exact Nat.le_refl _)))) (ho_z9.rdA.below ((Below.refl w6.heap.size w6).drew.trans (hb7.mono (by exact Nat.le_refl _)))) ho_z13.rdA ho_z14.rdA ho_z15.rdA (fit_dI p1) (fit_dB p2) (fit_dPR p3)).mono ?_; rintro e w8 ⟨rfl, hb8⟩))
  have hs8 : Below w6.heap.size w6 w8 := (((Below.refl w6.heap.size w6).drew.trans (hb7.mono (by exact Nat.le_refl _))).trans (hb8.mono (by have h_0 : w6.heap.size ≤ w7.heap.size := hb7.size;  first | exact h_0 | omega)))
  have hz7 : w6.heap.size ≤ w7.heap.size := hb7.size
  have hz8 : w7.heap.size ≤ w8.heap.size := hb8.size
  replace bx1_0 := (bcell1 hs8 (by omega)).trans bx1_0
  replace bx1_1 := (bcell1 hs8 (by omega)).trans bx1_1
  replace bx1_2 := (bcell1 hs8 (by omega)).trans bx1_2
  replace bx1_3 := (bcell1 hs8 (by omega)).trans bx1_3
  replace bx4_0 := (bcell1 hs8 (by omega)).trans bx4_0
  replace bx4_1 := (bcell1 hs8 (by omega)).trans bx4_1
  replace bx4_2 := (bcell1 hs8 (by omega)).trans bx4_2
  replace bx4_3 := (bcell1 hs8 (by omega)).trans bx4_3
  replace bx6_0 := (bcell1 hs8 (by omega)).trans bx6_0
  replace bx6_1 := (bcell1 hs8 (by omega)).trans bx6_1
  replace bx6_2 := (bcell1 hs8 (by omega)).trans bx6_2
  replace bx6_3 := (bcell1 hs8 (by omega)).trans bx6_3
  replace bx7_0 := (bcell1 hs8 (by omega)).trans bx7_0
  replace bx7_1 := (bcell1 hs8 (by omega)).trans bx7_1
  replace bx7_2 := (bcell1 hs8 (by omega)).trans bx7_2
  replace bx7_3 := (bcell1 hs8 (by omega)).trans bx7_3
  replace ho_z4 := ho_z4.below hs8
  replace ho_z5 := ho_z5.below hs8
  replace ho_z6 := ho_z6.below hs8
  replace ho_z7 := ho_z7.below hs8
  replace ho_z8 := ho_z8.below hs8
  replace ho_z9 := ho_z9.below hs8
  replace ho_z10 := ho_z10.below hs8
  replace ho_z11 := ho_z11.below hs8
  replace ho_z12 := ho_z12.below hs8
  replace hB := bnext hB hs8 (Nat.le_refl _)
  clear hs8 hb7 hb8 ho_z13 ho_z14 ho_z15
  go_wp2_with fail
  refine (markPassing_d (p0) (dI p1) _ (dB p2) _ (dPR p3) _ _ _ _ (1) _ ho_z7 ho_z8 ho_z9 (fit_dI p1) (fit_dB p2) (fit_dPR p3) hd_z7 (by first | assumption | (have := cnt_le_vol (fit_dI p1); omega)) (by first | assumption | (have := cnt_le_vol (fit_dB p2); omega)) (by first | assumption | (have := cnt_le_vol (fit_dPR p3); omega)) (by omega) (by omega)).mono ?_
  rintro e w9 ⟨rfl, hb9, hk9_z7, hk9_z8, hk9_z9⟩
  have hz9 : w8.heap.size ≤ w9.heap.size := hb9.size
  have hf9 : ∀ g, g ∈ F_z7 ++ (F_z8 ++ F_z9) → w3.heap.size + 1 ≤ g ∧ g < w4.heap.size := fun g hg => by (try simp only [List.mem_append] at hg); rcases hg with hg | hg | hg <;> first | exact ⟨hl_z7 g hg, hi_z7 g hg⟩ | exact ⟨hl_z8 g hg, hi_z8 g hg⟩ | exact ⟨hl_z9 g hg, hi_z9 g hg⟩
  replace bx1_0 := (hb9.cell (by omega) (fun hg => by have := hf9 _ hg; omega) _).trans bx1_0
  replace bx1_1 := (hb9.cell (by omega) (fun hg => by have := hf9 _ hg; omega) _).trans bx1_1
  replace bx1_2 := (hb9.cell (by omega) (fun hg => by have := hf9 _ hg; omega) _).trans bx1_2
  replace bx1_3 := (hb9.cell (by omega) (fun hg => by have := hf9 _ hg; omega) _).trans bx1_3
  replace bx4_0 := (hb9.cell (by omega) (fun hg => by have := hf9 _ hg; omega) _).trans bx4_0
  replace bx4_1 := (hb9.cell (by omega) (fun hg => by have := hf9 _ hg; omega) _).trans bx4_1
  replace bx4_2 := (hb9.cell (by omega) (fun hg => by have := hf9 _ hg; omega) _).trans bx4_2
  replace bx4_3 := (hb9.cell (by omega) (fun hg => by have := hf9 _ hg; omega) _).trans bx4_3
  replace bx6_0 := (hb9.cell (by omega) (fun hg => by have := hf9 _ hg; omega) _).trans bx6_0
  replace bx6_1 := (hb9.cell (by omega) (fun hg => by have := hf9 _ hg; omega) _).trans bx6_1
  replace bx6_2 := (hb9.cell (by omega) (fun hg => by have := hf9 _ hg; omega) _).trans bx6_2
  replace bx6_3 := (hb9.cell (by omega) (fun hg => by have := hf9 _ hg; omega) _).trans bx6_3
  replace bx7_0 := (hb9.cell (by omega) (fun hg => by have := hf9 _ hg; omega) _).trans bx7_0
  replace bx7_1 := (hb9.cell (by omega) (fun hg => by have := hf9 _ hg; omega) _).trans bx7_1
  replace bx7_2 := (hb9.cell (by omega) (fun hg => by have := hf9 _ hg; omega) _).trans bx7_2
  replace bx7_3 := (hb9.cell (by omega) (fun hg => by have := hf9 _ hg; omega) _).trans bx7_3
  replace ho_z4 := hb9.ow ho_z4 (fun g h1 h2 => by have := hl_z4 g h1; have := hi_z4 g h1; have := hf9 g h2; omega)
  replace ho_z5 := hb9.ow ho_z5 (fun g h1 h2 => by have := hl_z5 g h1; have := hi_z5 g h1; have := hf9 g h2; omega)
  replace ho_z6 := hb9.ow ho_z6 (fun g h1 h2 => by have := hl_z6 g h1; have := hi_z6 g h1; have := hf9 g h2; omega)
  replace ho_z10 := hb9.ow ho_z10 (fun g h1 h2 => by have := hl_z10 g h1; have := hi_z10 g h1; have := hf9 g h2; omega)
  replace ho_z11 := hb9.ow ho_z11 (fun g h1 h2 => by have := hl_z11 g h1; have := hi_z11 g h1; have := hf9 g h2; omega)
  replace ho_z12 := hb9.ow ho_z12 (fun g h1 h2 => by have := hl_z12 g h1; have := hi_z12 g h1; have := hf9 g h2; omega)
  replace hB := hB.trans (hb9.below (by omega) (fun g hg => by have := hf9 g hg; omega))
  clear hb9 hf9
  clear ho_z7
  have ho_z7 := hk9_z7
  clear hk9_z7
  clear ho_z8
  have ho_z8 := hk9_z8
  clear hk9_z8
  clear ho_z9
  have ho_z9 := hk9_z9
  clear hk9_z9
  have hcv9_z7 := cnt_le_vol (fit_dI p1)
  have hcv9_z8 := cnt_le_vol (fit_dB p2)
  have hcv9_z9 := cnt_le_vol (fit_dPR p3)
  clear ho_z7 ho_z8 ho_z9
  go_wp2_with fail
  refine (eqPassing_d (((revS p0 p1 p2 p3).1.1)) (dI (revS p0 p1 p2 p3).1.2.1) _ (dB (revS p0 p1 p2 p3).1.2.2.1) _ (dPR (revS p0 p1 p2 p3).1.2.2.2) _ _ _ _ _ ho_z10.rdA ho_z11.rdA ho_z12.rdA ho_z4.rdA ho_z5.rdA ho_z6.rdA (fit_dI ((revS p0 p1 p2 p3).1.2.1)) (fit_dB ((revS p0 p1 p2 p3).1.2.2.1)) (fit_dPR ((revS p0 p1 p2 p3).1.2.2.2))).mono ?_
  rintro e w10 ⟨rfl, hb10⟩
  have hs10 : Below w9.heap.size w9 w10 := hb10
  replace bx1_0 := (bcell1 hs10 (by omega)).trans bx1_0
  replace bx1_1 := (bcell1 hs10 (by omega)).trans bx1_1
  replace bx1_2 := (bcell1 hs10 (by omega)).trans bx1_2
  replace bx1_3 := (bcell1 hs10 (by omega)).trans bx1_3
  replace bx4_0 := (bcell1 hs10 (by omega)).trans bx4_0
  replace bx4_1 := (bcell1 hs10 (by omega)).trans bx4_1
  replace bx4_2 := (bcell1 hs10 (by omega)).trans bx4_2
  replace bx4_3 := (bcell1 hs10 (by omega)).trans bx4_3
  replace bx6_0 := (bcell1 hs10 (by omega)).trans bx6_0
  replace bx6_1 := (bcell1 hs10 (by omega)).trans bx6_1
  replace bx6_2 := (bcell1 hs10 (by omega)).trans bx6_2
  replace bx6_3 := (bcell1 hs10 (by omega)).trans bx6_3
  replace bx7_0 := (bcell1 hs10 (by omega)).trans bx7_0
  replace bx7_1 := (bcell1 hs10 (by omega)).trans bx7_1
  replace bx7_2 := (bcell1 hs10 (by omega)).trans bx7_2
  replace bx7_3 := (bcell1 hs10 (by omega)).trans bx7_3
  have hz10 : w9.heap.size ≤ w10.heap.size := hb10.size
  replace ho_z4 := ho_z4.below hs10
  replace ho_z5 := ho_z5.below hs10
  replace ho_z6 := ho_z6.below hs10
  replace ho_z10 := ho_z10.below hs10
  replace ho_z11 := ho_z11.below hs10
  replace ho_z12 := ho_z12.below hs10
  replace hB := bnext hB hs10 (Nat.le_refl _)
  clear hb10 hs10
  go_wp2_with fail
  refine (markPassing_d (((revS p0 p1 p2 p3).1.1)) (dI (revS p0 p1 p2 p3).1.2.1) _ (dB (revS p0 p1 p2 p3).1.2.2.1) _ (dPR (revS p0 p1 p2 p3).1.2.2.2) _ _ _ _ (1) _ ho_z10 ho_z11 ho_z12 (fit_dI ((revS p0 p1 p2 p3).1.2.1)) (fit_dB ((revS p0 p1 p2 p3).1.2.2.1)) (fit_dPR ((revS p0 p1 p2 p3).1.2.2.2)) hd_z10 (by first | assumption | (have := cnt_le_vol (fit_dI ((revS p0 p1 p2 p3).1.2.1)); omega)) (by first | assumption | (have := cnt_le_vol (fit_dB ((revS p0 p1 p2 p3).1.2.2.1)); omega)) (by first | assumption | (have := cnt_le_vol (fit_dPR ((revS p0 p1 p2 p3).1.2.2.2)); omega)) (by omega) (by omega)).mono ?_
  rintro e w11 ⟨rfl, hb11, hk11_z10, hk11_z11, hk11_z12⟩
  have hz11 : w10.heap.size ≤ w11.heap.size := hb11.size
  have hf11 : ∀ g, g ∈ F_z10 ++ (F_z11 ++ F_z12) → w4.heap.size + 1 ≤ g ∧ g < w5.heap.size := fun g hg => by (try simp only [List.mem_append] at hg); rcases hg with hg | hg | hg <;> first | exact ⟨hl_z10 g hg, hi_z10 g hg⟩ | exact ⟨hl_z11 g hg, hi_z11 g hg⟩ | exact ⟨hl_z12 g hg, hi_z12 g hg⟩
  replace bx1_0 := (hb11.cell (by omega) (fun hg => by have := hf11 _ hg; omega) _).trans bx1_0
  replace bx1_1 := (hb11.cell (by omega) (fun hg => by have := hf11 _ hg; omega) _).trans bx1_1
  replace bx1_2 := (hb11.cell (by omega) (fun hg => by have := hf11 _ hg; omega) _).trans bx1_2
  replace bx1_3 := (hb11.cell (by omega) (fun hg => by have := hf11 _ hg; omega) _).trans bx1_3
  replace bx4_0 := (hb11.cell (by omega) (fun hg => by have := hf11 _ hg; omega) _).trans bx4_0
  replace bx4_1 := (hb11.cell (by omega) (fun hg => by have := hf11 _ hg; omega) _).trans bx4_1
  replace bx4_2 := (hb11.cell (by omega) (fun hg => by have := hf11 _ hg; omega) _).trans bx4_2
  replace bx4_3 := (hb11.cell (by omega) (fun hg => by have := hf11 _ hg; omega) _).trans bx4_3
  replace bx6_0 := (hb11.cell (by omega) (fun hg => by have := hf11 _ hg; omega) _).trans bx6_0
  replace bx6_1 := (hb11.cell (by omega) (fun hg => by have := hf11 _ hg; omega) _).trans bx6_1
  replace bx6_2 := (hb11.cell (by omega) (fun hg => by have := hf11 _ hg; omega) _).trans bx6_2
  replace bx6_3 := (hb11.cell (by omega) (fun hg => by have := hf11 _ hg; omega) _).trans bx6_3
  replace bx7_0 := (hb11.cell (by omega) (fun hg => by have := hf11 _ hg; omega) _).trans bx7_0
  replace bx7_1 := (hb11.cell (by omega) (fun hg => by have := hf11 _ hg; omega) _).trans bx7_1
  replace bx7_2 := (hb11.cell (by omega) (fun hg => by have := hf11 _ hg; omega) _).trans bx7_2
  replace bx7_3 := (hb11.cell (by omega) (fun hg => by have := hf11 _ hg; omega) _).trans bx7_3
  replace ho_z4 := hb11.ow ho_z4 (fun g h1 h2 => by have := hl_z4 g h1; have := hi_z4 g h1; have := hf11 g h2; omega)
  replace ho_z5 := hb11.ow ho_z5 (fun g h1 h2 => by have := hl_z5 g h1; have := hi_z5 g h1; have := hf11 g h2; omega)
  replace ho_z6 := hb11.ow ho_z6 (fun g h1 h2 => by have := hl_z6 g h1; have := hi_z6 g h1; have := hf11 g h2; omega)
  replace hB := hB.trans (hb11.below (by omega) (fun g hg => by have := hf11 g hg; omega))
  clear hb11 hf11
  clear ho_z10
  have ho_z10 := hk11_z10
  clear hk11_z10
  clear ho_z11
  have ho_z11 := hk11_z11
  clear hk11_z11
  clear ho_z12
  have ho_z12 := hk11_z12
  clear hk11_z12
  have hcv11_z10 := cnt_le_vol (fit_dI ((revS p0 p1 p2 p3).1.2.1))
  have hcv11_z11 := cnt_le_vol (fit_dB ((revS p0 p1 p2 p3).1.2.2.1))
  have hcv11_z12 := cnt_le_vol (fit_dPR ((revS p0 p1 p2 p3).1.2.2.2))
  go_wp2_with fail
  refine (heldPassing_d Any (((revS p0 p1 p2 p3).1.1)) (dI (revS p0 p1 p2 p3).1.2.1) _ (dB (revS p0 p1 p2 p3).1.2.2.1) _ (dPR (revS p0 p1 p2 p3).1.2.2.2) _ (1) _ ho_z10.rdA ho_z11.rdA ho_z12.rdA (fit_dI ((revS p0 p1 p2 p3).1.2.1)) (fit_dB ((revS p0 p1 p2 p3).1.2.2.1)) (fit_dPR ((revS p0 p1 p2 p3).1.2.2.2)) (by first | assumption | (have := cnt_le_vol (fit_dI ((revS p0 p1 p2 p3).1.2.1)); omega)) (by first | assumption | (have := cnt_le_vol (fit_dB ((revS p0 p1 p2 p3).1.2.2.1)); omega)) (by first | assumption | (have := cnt_le_vol (fit_dPR ((revS p0 p1 p2 p3).1.2.2.2)); omega)) (by omega) (by omega)).mono ?_
  rintro e w12 ⟨rfl, hb12⟩
  have hs12 : Below w11.heap.size w11 w12 := hb12
  replace bx1_0 := (bcell1 hs12 (by omega)).trans bx1_0
  replace bx1_1 := (bcell1 hs12 (by omega)).trans bx1_1
  replace bx1_2 := (bcell1 hs12 (by omega)).trans bx1_2
  replace bx1_3 := (bcell1 hs12 (by omega)).trans bx1_3
  replace bx4_0 := (bcell1 hs12 (by omega)).trans bx4_0
  replace bx4_1 := (bcell1 hs12 (by omega)).trans bx4_1
  replace bx4_2 := (bcell1 hs12 (by omega)).trans bx4_2
  replace bx4_3 := (bcell1 hs12 (by omega)).trans bx4_3
  replace bx6_0 := (bcell1 hs12 (by omega)).trans bx6_0
  replace bx6_1 := (bcell1 hs12 (by omega)).trans bx6_1
  replace bx6_2 := (bcell1 hs12 (by omega)).trans bx6_2
  replace bx6_3 := (bcell1 hs12 (by omega)).trans bx6_3
  replace bx7_0 := (bcell1 hs12 (by omega)).trans bx7_0
  replace bx7_1 := (bcell1 hs12 (by omega)).trans bx7_1
  replace bx7_2 := (bcell1 hs12 (by omega)).trans bx7_2
  replace bx7_3 := (bcell1 hs12 (by omega)).trans bx7_3
  have hz12 : w11.heap.size ≤ w12.heap.size := hb12.size
  replace ho_z4 := ho_z4.below hs12
  replace ho_z5 := ho_z5.below hs12
  replace ho_z6 := ho_z6.below hs12
  replace ho_z10 := ho_z10.below hs12
  replace ho_z11 := ho_z11.below hs12
  replace ho_z12 := ho_z12.below hs12
  replace hB := bnext hB hs12 (Nat.le_refl _)
  clear hb12 hs12
  go_wp2_with fail
  refine (toPassing_d _ (p0) (dI p1) _ (dB p2) _ (dPR p3) _ _ (h_p1.below hB) (h_p2.below hB) (h_p3.below hB) (fit_dI p1) (fit_dB p2) (fit_dPR p3) hv_p1 hv_p2 hv_p3).mono ?_
  rintro e w13 ⟨vs13, F13, rfl, hb13, hoo13, hnn13, hll13⟩
  have hs13 : Below w12.heap.size w12 w13 := hb13
  replace bx1_0 := (bcell1 hs13 (by omega)).trans bx1_0
  replace bx1_1 := (bcell1 hs13 (by omega)).trans bx1_1
  replace bx1_2 := (bcell1 hs13 (by omega)).trans bx1_2
  replace bx1_3 := (bcell1 hs13 (by omega)).trans bx1_3
  replace bx4_0 := (bcell1 hs13 (by omega)).trans bx4_0
  replace bx4_1 := (bcell1 hs13 (by omega)).trans bx4_1
  replace bx4_2 := (bcell1 hs13 (by omega)).trans bx4_2
  replace bx4_3 := (bcell1 hs13 (by omega)).trans bx4_3
  replace bx6_0 := (bcell1 hs13 (by omega)).trans bx6_0
  replace bx6_1 := (bcell1 hs13 (by omega)).trans bx6_1
  replace bx6_2 := (bcell1 hs13 (by omega)).trans bx6_2
  replace bx6_3 := (bcell1 hs13 (by omega)).trans bx6_3
  replace bx7_0 := (bcell1 hs13 (by omega)).trans bx7_0
  replace bx7_1 := (bcell1 hs13 (by omega)).trans bx7_1
  replace bx7_2 := (bcell1 hs13 (by omega)).trans bx7_2
  replace bx7_3 := (bcell1 hs13 (by omega)).trans bx7_3
  have hz13 : w12.heap.size ≤ w13.heap.size := hb13.size
  replace ho_z4 := ho_z4.below hs13
  replace ho_z5 := ho_z5.below hs13
  replace ho_z6 := ho_z6.below hs13
  replace ho_z10 := ho_z10.below hs13
  replace ho_z11 := ho_z11.below hs13
  replace ho_z12 := ho_z12.below hs13
  replace hB := bnext hB hs13 (Nat.le_refl _)
  clear hb13 hs13
  have hvl13 := owA_len _ _ _ hoo13
  obtain ⟨e_13_0, e_13_1, e_13_2, e_13_3, rfl⟩ : ∃ e_13_0 e_13_1 e_13_2 e_13_3, vs13 = [e_13_0, e_13_1, e_13_2, e_13_3] := (by match vs13, hvl13 with | [e_13_0, e_13_1, e_13_2, e_13_3], _ => exact ⟨e_13_0, e_13_1, e_13_2, e_13_3, rfl⟩)
  clear hvl13
  obtain ⟨G13_0, _, ⟨ev13_0, eg13_0⟩, hr13_0, rfl⟩ := hoo13
  subst ev13_0
  subst eg13_0
  obtain ⟨F_z16, _, ho_z16, hr13_1, rfl⟩ := hr13_0
  obtain ⟨F_z17, _, ho_z17, hr13_2, rfl⟩ := hr13_1
  obtain ⟨F_z18, _, ho_z18, hr13_3, rfl⟩ := hr13_2
  have hend13 : _ = [] := hr13_3
  subst hend13
  have hl_z16 : ∀ g, g ∈ F_z16 → w12.heap.size ≤ g := fun g hg => by have := hll13 g (by simp [hg]); (try simp at this); omega
  obtain ⟨a_z16, n_z16, c_z16, rfl⟩ := (fit_dI p1).sliceO ho_z16
  have hl_z17 : ∀ g, g ∈ F_z17 → w12.heap.size ≤ g := fun g hg => by have := hll13 g (by simp [hg]); (try simp at this); omega
  obtain ⟨a_z17, n_z17, c_z17, rfl⟩ := (fit_dB p2).sliceO ho_z17
  have hl_z18 : ∀ g, g ∈ F_z18 → w12.heap.size ≤ g := fun g hg => by have := hll13 g (by simp [hg]); (try simp at this); omega
  obtain ⟨a_z18, n_z18, c_z18, rfl⟩ := (fit_dPR p3).sliceO ho_z18
  have hi_z16 : ∀ g, g ∈ F_z16 → g < w13.heap.size := Ow.lt _ _ _ ho_z16
  have hi_z17 : ∀ g, g ∈ F_z17 → g < w13.heap.size := Ow.lt _ _ _ ho_z17
  have hi_z18 : ∀ g, g ∈ F_z18 → g < w13.heap.size := Ow.lt _ _ _ ho_z18
  have hd_z16 : (F_z16 ++ (F_z17 ++ F_z18)).Nodup := by simpa using hnn13
  clear hnn13 hll13
  go_wp2_with fail
  refine (implReversePassing_d p0 p1 p2 p3 _ ho_z16 ho_z17 ho_z18 ).mono ?_
  rintro e w14 ⟨vs14, F14, rfl, hb14, hoo14, hnn14, hll14⟩
  have hs14 : Below w13.heap.size w13 w14 := hb14
  replace bx1_0 := (bcell1 hs14 (by omega)).trans bx1_0
  replace bx1_1 := (bcell1 hs14 (by omega)).trans bx1_1
  replace bx1_2 := (bcell1 hs14 (by omega)).trans bx1_2
  replace bx1_3 := (bcell1 hs14 (by omega)).trans bx1_3
  replace bx4_0 := (bcell1 hs14 (by omega)).trans bx4_0
  replace bx4_1 := (bcell1 hs14 (by omega)).trans bx4_1
  replace bx4_2 := (bcell1 hs14 (by omega)).trans bx4_2
  replace bx4_3 := (bcell1 hs14 (by omega)).trans bx4_3
  replace bx6_0 := (bcell1 hs14 (by omega)).trans bx6_0
  replace bx6_1 := (bcell1 hs14 (by omega)).trans bx6_1
  replace bx6_2 := (bcell1 hs14 (by omega)).trans bx6_2
  replace bx6_3 := (bcell1 hs14 (by omega)).trans bx6_3
  replace bx7_0 := (bcell1 hs14 (by omega)).trans bx7_0
  replace bx7_1 := (bcell1 hs14 (by omega)).trans bx7_1
  replace bx7_2 := (bcell1 hs14 (by omega)).trans bx7_2
  replace bx7_3 := (bcell1 hs14 (by omega)).trans bx7_3
  have hz14 : w13.heap.size ≤ w14.heap.size := hb14.size
  replace ho_z4 := ho_z4.below hs14
  replace ho_z5 := ho_z5.below hs14
  replace ho_z6 := ho_z6.below hs14
  replace ho_z10 := ho_z10.below hs14
  replace ho_z11 := ho_z11.below hs14
  replace ho_z12 := ho_z12.below hs14
  replace ho_z16 := ho_z16.below hs14
  replace ho_z17 := ho_z17.below hs14
  replace ho_z18 := ho_z18.below hs14
  replace hB := bnext hB hs14 (Nat.le_refl _)
  clear hb14 hs14
  have hvl14 := owA_len _ _ _ hoo14
  obtain ⟨e_14_0, e_14_1, e_14_2, e_14_3, rfl⟩ : ∃ e_14_0 e_14_1 e_14_2 e_14_3, vs14 = [e_14_0, e_14_1, e_14_2, e_14_3] := (by match vs14, hvl14 with | [e_14_0, e_14_1, e_14_2, e_14_3], _ => exact ⟨e_14_0, e_14_1, e_14_2, e_14_3, rfl⟩)
  clear hvl14
  obtain ⟨G14_0, _, ⟨ev14_0, eg14_0⟩, hr14_0, rfl⟩ := hoo14
  subst ev14_0
  subst eg14_0
  obtain ⟨F_z19, _, ho_z19, hr14_1, rfl⟩ := hr14_0
  obtain ⟨F_z20, _, ho_z20, hr14_2, rfl⟩ := hr14_1
  obtain ⟨F_z21, _, ho_z21, hr14_3, rfl⟩ := hr14_2
  have hend14 : _ = [] := hr14_3
  subst hend14
  have hl_z19 : ∀ g, g ∈ F_z19 → w13.heap.size ≤ g := fun g hg => by have := hll14 g (by simp [hg]); (try simp at this); omega
  obtain ⟨a_z19, n_z19, c_z19, rfl⟩ := (fit_dI ((revS p0 p1 p2 p3).1.2.1)).sliceO ho_z19
  have hl_z20 : ∀ g, g ∈ F_z20 → w13.heap.size ≤ g := fun g hg => by have := hll14 g (by simp [hg]); (try simp at this); omega
  obtain ⟨a_z20, n_z20, c_z20, rfl⟩ := (fit_dB ((revS p0 p1 p2 p3).1.2.2.1)).sliceO ho_z20
  have hl_z21 : ∀ g, g ∈ F_z21 → w13.heap.size ≤ g := fun g hg => by have := hll14 g (by simp [hg]); (try simp at this); omega
  obtain ⟨a_z21, n_z21, c_z21, rfl⟩ := (fit_dPR ((revS p0 p1 p2 p3).1.2.2.2)).sliceO ho_z21
  have hi_z19 : ∀ g, g ∈ F_z19 → g < w14.heap.size := Ow.lt _ _ _ ho_z19
  have hi_z20 : ∀ g, g ∈ F_z20 → g < w14.heap.size := Ow.lt _ _ _ ho_z20
  have hi_z21 : ∀ g, g ∈ F_z21 → g < w14.heap.size := Ow.lt _ _ _ ho_z21
  have hd_z19 : (F_z19 ++ (F_z20 ++ F_z21)).Nodup := by simpa using hnn14
  clear hnn14 hll14
  clear ho_z16 ho_z17 ho_z18
  have lt14_0 : w.heap.size < w14.heap.size := by omega
  have lt14_1 : w3.heap.size < w14.heap.size := by omega
  have lt14_2 : w4.heap.size < w14.heap.size := by omega
  have lt14_3 : w5.heap.size < w14.heap.size := by omega
  go_wp2_with fail
  refine (eqPassing_d (((revS p0 p1 p2 p3).1.1)) (dI (revS p0 p1 p2 p3).1.2.1) _ (dB (revS p0 p1 p2 p3).1.2.2.1) _ (dPR (revS p0 p1 p2 p3).1.2.2.2) _ _ _ _ _ (ho_z19.rdA.below (below_alloc _ _)) (ho_z20.rdA.below (below_alloc _ _)) (ho_z21.rdA.below (below_alloc _ _)) (ho_z4.rdA.below (below_alloc _ _)) (ho_z5.rdA.below (below_alloc _ _)) (ho_z6.rdA.below (below_alloc _ _)) (fit_dI ((revS p0 p1 p2 p3).1.2.1)) (fit_dB ((revS p0 p1 p2 p3).1.2.2.1)) (fit_dPR ((revS p0 p1 p2 p3).1.2.2.2))).mono ?_
  rintro e w15 ⟨rfl, hb15⟩
  have hs15 : Below w14.heap.size w14 w15 := (below_alloc _ _).trans (hb15.mono (by simp <;> omega))
  replace bx1_0 := (bcell1 hs15 (by omega)).trans bx1_0
  replace bx1_1 := (bcell1 hs15 (by omega)).trans bx1_1
  replace bx1_2 := (bcell1 hs15 (by omega)).trans bx1_2
  replace bx1_3 := (bcell1 hs15 (by omega)).trans bx1_3
  replace bx4_0 := (bcell1 hs15 (by omega)).trans bx4_0
  replace bx4_1 := (bcell1 hs15 (by omega)).trans bx4_1
  replace bx4_2 := (bcell1 hs15 (by omega)).trans bx4_2
  replace bx4_3 := (bcell1 hs15 (by omega)).trans bx4_3
  replace bx6_0 := (bcell1 hs15 (by omega)).trans bx6_0
  replace bx6_1 := (bcell1 hs15 (by omega)).trans bx6_1
  replace bx6_2 := (bcell1 hs15 (by omega)).trans bx6_2
  replace bx6_3 := (bcell1 hs15 (by omega)).trans bx6_3
  replace bx7_0 := (bcell1 hs15 (by omega)).trans bx7_0
  replace bx7_1 := (bcell1 hs15 (by omega)).trans bx7_1
  replace bx7_2 := (bcell1 hs15 (by omega)).trans bx7_2
  replace bx7_3 := (bcell1 hs15 (by omega)).trans bx7_3
  have bx12_0 : w15.cell? ⟨w14.heap.size, 0, none⟩ = some (.int .i64 ((revS p0 p1 p2 p3).1.1)) := by rw [bcell1 hb15 (by simp <;> omega)]; simp [go_sem]
  have bx12_1 : w15.cell? ⟨w14.heap.size, 1, none⟩ = some (.slice a_z19 n_z19 c_z19) := by rw [bcell1 hb15 (by simp <;> omega)]; simp [go_sem]
  have bx12_2 : w15.cell? ⟨w14.heap.size, 2, none⟩ = some (.slice a_z20 n_z20 c_z20) := by rw [bcell1 hb15 (by simp <;> omega)]; simp [go_sem]
  have bx12_3 : w15.cell? ⟨w14.heap.size, 3, none⟩ = some (.slice a_z21 n_z21 c_z21) := by rw [bcell1 hb15 (by simp <;> omega)]; simp [go_sem]
  have hz15 : w14.heap.size + 1 ≤ w15.heap.size := by have := hb15.size; (try simp at this); omega
  replace ho_z4 := ho_z4.below hs15
  replace ho_z5 := ho_z5.below hs15
  replace ho_z6 := ho_z6.below hs15
  replace ho_z10 := ho_z10.below hs15
  replace ho_z11 := ho_z11.below hs15
  replace ho_z12 := ho_z12.below hs15
  replace ho_z19 := ho_z19.below hs15
  replace ho_z20 := ho_z20.below hs15
  replace ho_z21 := ho_z21.below hs15
  replace hB := bnext hB hs15 (Nat.le_refl _)
  clear hb15 hs15
  clear ho_z4 ho_z5 ho_z6 ho_z19 ho_z20 ho_z21
  go_wp2_with fail
  refine (heldPassing_d Any (((revS p0 p1 p2 p3).1.1)) (dI (revS p0 p1 p2 p3).1.2.1) _ (dB (revS p0 p1 p2 p3).1.2.2.1) _ (dPR (revS p0 p1 p2 p3).1.2.2.2) _ (1) _ ho_z10.rdA ho_z11.rdA ho_z12.rdA (fit_dI ((revS p0 p1 p2 p3).1.2.1)) (fit_dB ((revS p0 p1 p2 p3).1.2.2.1)) (fit_dPR ((revS p0 p1 p2 p3).1.2.2.2)) (by first | assumption | (have := cnt_le_vol (fit_dI ((revS p0 p1 p2 p3).1.2.1)); omega)) (by first | assumption | (have := cnt_le_vol (fit_dB ((revS p0 p1 p2 p3).1.2.2.1)); omega)) (by first | assumption | (have := cnt_le_vol (fit_dPR ((revS p0 p1 p2 p3).1.2.2.2)); omega)) (by omega) (by omega)).mono ?_
  rintro e w16 ⟨rfl, hb16⟩
  have hs16 : Below w15.heap.size w15 w16 := hb16
  replace bx1_0 := (bcell1 hs16 (by omega)).trans bx1_0
  replace bx1_1 := (bcell1 hs16 (by omega)).trans bx1_1
  replace bx1_2 := (bcell1 hs16 (by omega)).trans bx1_2
  replace bx1_3 := (bcell1 hs16 (by omega)).trans bx1_3
  replace bx4_0 := (bcell1 hs16 (by omega)).trans bx4_0
  replace bx4_1 := (bcell1 hs16 (by omega)).trans bx4_1
  replace bx4_2 := (bcell1 hs16 (by omega)).trans bx4_2
  replace bx4_3 := (bcell1 hs16 (by omega)).trans bx4_3
  replace bx6_0 := (bcell1 hs16 (by omega)).trans bx6_0
  replace bx6_1 := (bcell1 hs16 (by omega)).trans bx6_1
  replace bx6_2 := (bcell1 hs16 (by omega)).trans bx6_2
  replace bx6_3 := (bcell1 hs16 (by omega)).trans bx6_3
  replace bx7_0 := (bcell1 hs16 (by omega)).trans bx7_0
  replace bx7_1 := (bcell1 hs16 (by omega)).trans bx7_1
  replace bx7_2 := (bcell1 hs16 (by omega)).trans bx7_2
  replace bx7_3 := (bcell1 hs16 (by omega)).trans bx7_3
  replace bx12_0 := (bcell1 hs16 (by omega)).trans bx12_0
  replace bx12_1 := (bcell1 hs16 (by omega)).trans bx12_1
  replace bx12_2 := (bcell1 hs16 (by omega)).trans bx12_2
  replace bx12_3 := (bcell1 hs16 (by omega)).trans bx12_3
  have hz16 : w15.heap.size ≤ w16.heap.size := hb16.size
  replace ho_z10 := ho_z10.below hs16
  replace ho_z11 := ho_z11.below hs16
  replace ho_z12 := ho_z12.below hs16
  replace hB := bnext hB hs16 (Nat.le_refl _)
  clear hb16 hs16
  clear ho_z10 ho_z11 ho_z12
  go_wp2
  go_ret
  exact ⟨rfl, hB⟩
set_option maxRecDepth 100000 in
theorem lifted (os : Os) (started : os.Started) (H : Type) (enc : TypeId × Value → H) :
    ReturnsInHanded {} Try.checked os 8 .any (Rows.fnExactReversePassingSpec.pre6 enc Try.prog Try.f8 Rows.fnExactReversePassingRow.domain false) (Rows.fnExactReversePassingSpec.post enc Try.prog Try.f8 false true false false) :=
  lift Try.func8 (by kernel_rfl) rfl rfl (by kernel_rfl : Try.prog.underlying 4 = some .bool) (by kernel_rfl) (fun ds h => by match ds, h with | [d0], _ => rfl) started
    (ChangeSpec.witness6 (enc := enc) (C := Try.checked) false ⟨#[], #[.agg #[.int .i64 0, .slice none 0 0, .slice none 0 0, .slice none 0 0]], []⟩ 8 (by kernel_rfl) (by kernel_rfl) (by kernel_rfl) (by kernel_rfl))
    (fun W base args ds p hval hA => by
      rw [Try.params8] at hA hval
      obtain ⟨v0, vs0, d0, ds0, p0, q0, hargs0, rfl, rfl, g0, r0⟩ := ChangeShapes.trodAll_cons hA
      obtain ⟨hnil, rfl, rfl⟩ := ChangeShapes.trodAll_nil r0
      obtain rfl : args = #[v0] := by cases args; simp_all
      obtain ⟨vs0x, dsx0, rfl, fx0, rx0⟩ := open_A [.i, .l [.i], .l [.b], .l [.i, .l [.i], .l [.i]]] Try.underlying26 (by kernel_rfl) (hval 0 _ _ rfl rfl) g0
      obtain ⟨_, s0_0, rfl, ⟨x0_0, rfl⟩, t0_0⟩ := fx0
      obtain ⟨_, s0_1, rfl, j0_1, t0_1⟩ := t0_0
      obtain ⟨x0_1, rfl⟩ := fitD_I j0_1
      obtain ⟨_, s0_2, rfl, j0_2, t0_2⟩ := t0_1
      obtain ⟨x0_2, rfl⟩ := fitD_B j0_2
      obtain ⟨_, s0_3, rfl, j0_3, t0_3⟩ := t0_2
      obtain ⟨x0_3, rfl⟩ := fitD_PR j0_3
      obtain rfl : s0_3 = [] := t0_3
      obtain ⟨y0_0, z0_0, e0_0, k0_0, l0_0⟩ := rx0
      subst e0_0
      obtain rfl : y0_0 = .int .i64 x0_0 := k0_0
      obtain ⟨y0_1, z0_1, e0_1, k0_1, l0_1⟩ := l0_0
      subst e0_1
      obtain ⟨y0_2, z0_2, e0_2, k0_2, l0_2⟩ := l0_1
      subst e0_2
      obtain ⟨y0_3, z0_3, e0_3, k0_3, l0_3⟩ := l0_2
      subst e0_3
      obtain rfl : z0_3 = [] := l0_3
      exact walk x0_0 x0_1 y0_1 x0_2 y0_2 x0_3 y0_3 W k0_1 k0_2 k0_3)
end Go.Proofs.Ytkoojiplfbcalaa.lawReversePassing
