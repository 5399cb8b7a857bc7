/- FnExactIsPassChoice: whatever the input, the law returns true. No condition. Written by lawgen2.py. -/
import Derived.Test.YtkoojiplfbcalaaCR
import Derived.Test.YtkoojiplfbcalaaF
import Derived.Test.YtkoojiplfbcalaaWB
import Derived.Test.YtkoojiplfbcalaaYP
import Derived.Deep.RegionHeld3
namespace Go.Proofs.Ytkoojiplfbcalaa.lawIsPassChoice
open Go.ChangeShapes Go.WideShapes Go.ChangeAt Go.RowKit
set_option maxHeartbeats 3000000 in
set_option maxRecDepth 100000 in
theorem walk (p0 : Int) (p1 : List Int) (v_p1 : Value) (p2 : List Bool) (v_p2 : Value) (p3 : List PR) (v_p3 : Value) (s0 : List (List Int)) (v_s0 : Value) (s1 : List Int) (v_s1 : Value) (counts : List Int) (v_counts : Value) (mode : Int) (w : World) (h_p1 : Rd (· < w.heap.size) w (dI p1) v_p1) (h_p2 : Rd (· < w.heap.size) w (dB p2) v_p2) (h_p3 : Rd (· < w.heap.size) w (dPR p3) v_p3) (h_s0 : Rd (· < w.heap.size) w (dII s0) v_s0) (h_s1 : Rd (· < w.heap.size) w (dI s1) v_s1) (h_counts : Rd (· < w.heap.size) w (dI counts) v_counts) :
    Calls Try.prog 3 #[.agg #[.int .i64 p0, v_p1, v_p2, v_p3], .agg #[v_s0, v_s1], v_counts, .int .i64 mode] w (RetV w (.bool true)) := by
  obtain ⟨a_p1, n_p1, c_p1, rfl⟩ := (fit_dI p1).sliceR h_p1
  obtain ⟨a_p2, n_p2, c_p2, rfl⟩ := (fit_dB p2).sliceR h_p2
  obtain ⟨a_p3, n_p3, c_p3, rfl⟩ := (fit_dPR p3).sliceR h_p3
  obtain ⟨a_s0, n_s0, c_s0, rfl⟩ := (fit_dII s0).sliceR h_s0
  obtain ⟨a_s1, n_s1, c_s1, rfl⟩ := (fit_dI s1).sliceR h_s1
  obtain ⟨a_counts, c_counts, rfl, hx_counts⟩ := Rd_I.1 h_counts
  have hm_counts := hx_counts.len
  unfold maxLen at hm_counts
  clear hx_counts
  by_cases hq_counts : counts.length ≤ 1048576
  rotate_left
  · go_enter Try.func3, Try.ntmps3
    go_wp2
    go_ret
    exact ⟨rfl, by repeat (first | exact Below.refl _ _ | refine Below.alloc ?_ (by simp; try omega) _)⟩
  have hv_counts : vol (dI counts) ≤ 16777216 := by rw [vol_dI]; omega
  have hB := Below.refl w.heap.size w
  go_enter Try.func3, Try.ntmps3
  go_wp2_with fail
  refine (szPassing_d _ (p0) (dI p1) _ (dB p2) _ (dPR p3) _ 1048576 _ (h_p1.below (hB.trans ((((Below.refl _ _).alloc (Nat.le_refl _) _).alloc (by simp) _)))) (h_p2.below (hB.trans ((((Below.refl _ _).alloc (Nat.le_refl _) _).alloc (by simp) _)))) (h_p3.below (hB.trans ((((Below.refl _ _).alloc (Nat.le_refl _) _).alloc (by simp) _)))) (fit_dI p1) (fit_dB p2) (fit_dPR p3) (by omega) (by omega)).mono ?_
  rintro e w1 ⟨L1, rfl, hb1, yy1, uu1, p1⟩
  have hs1 : Below w.heap.size w w1 := ((((Below.refl _ _).alloc (Nat.le_refl _) _).alloc (by simp) _)).trans (hb1.mono (by simp <;> omega))
  have bx4_0 : w1.cell? ⟨w.heap.size, 0, none⟩ = some (.int .i64 p0) := by rw [bcell1 hb1 (by simp <;> omega)]; simp [go_sem]
  have bx4_1 : w1.cell? ⟨w.heap.size, 1, none⟩ = some (.slice a_p1 n_p1 c_p1) := by rw [bcell1 hb1 (by simp <;> omega)]; simp [go_sem]
  have bx4_2 : w1.cell? ⟨w.heap.size, 2, none⟩ = some (.slice a_p2 n_p2 c_p2) := by rw [bcell1 hb1 (by simp <;> omega)]; simp [go_sem]
  have bx4_3 : w1.cell? ⟨w.heap.size, 3, none⟩ = some (.slice a_p3 n_p3 c_p3) := by rw [bcell1 hb1 (by simp <;> omega)]; simp [go_sem]
  have bx5_0 : w1.cell? ⟨w.heap.size + 1, 0, none⟩ = some (.slice a_s0 n_s0 c_s0) := by rw [bcell1 hb1 (by simp <;> omega)]; simp [go_sem]
  have bx5_1 : w1.cell? ⟨w.heap.size + 1, 1, none⟩ = some (.slice a_s1 n_s1 c_s1) := by rw [bcell1 hb1 (by simp <;> omega)]; simp [go_sem]
  have hz1 : w.heap.size + 2 ≤ w1.heap.size := by have := hb1.size; (try simp at this); omega
  replace hB := bnext hB hs1 (Nat.le_refl _)
  clear hb1 hs1
  by_cases n1 : L1 < 0
  · go_wp2
    go_ret
    exact ⟨rfl, hB⟩
  have q1 := p1 (by omega)
  have m1 : 0 ≤ L1 := by omega
  clear p1
  have hv_p1 : vol (dI p1) ≤ 16777216 := by omega
  have hv_p2 : vol (dB p2) ≤ 16777216 := by omega
  have hv_p3 : vol (dPR p3) ≤ 16777216 := by omega
  go_wp2_with fail
  refine (szStock_d _ (dII s0) _ (dI s1) _ L1 _ (h_s0.below hB) (h_s1.below hB) (fit_dII s0) (fit_dI s1) (by omega) (by omega)).mono ?_
  rintro e w2 ⟨L2, rfl, hb2, yy2, uu2, p2⟩
  have hs2 : Below w1.heap.size w1 w2 := hb2
  replace bx4_0 := (bcell1 hs2 (by omega)).trans bx4_0
  replace bx4_1 := (bcell1 hs2 (by omega)).trans bx4_1
  replace bx4_2 := (bcell1 hs2 (by omega)).trans bx4_2
  replace bx4_3 := (bcell1 hs2 (by omega)).trans bx4_3
  replace bx5_0 := (bcell1 hs2 (by omega)).trans bx5_0
  replace bx5_1 := (bcell1 hs2 (by omega)).trans bx5_1
  have hz2 : w1.heap.size ≤ w2.heap.size := hb2.size
  replace hB := bnext hB hs2 (Nat.le_refl _)
  clear hb2 hs2
  by_cases n2 : L2 < 0
  · go_wp2
    go_ret
    exact ⟨rfl, hB⟩
  have q2 := p2 (by omega)
  have m2 : 0 ≤ L2 := by omega
  clear p2
  have hv_s0 : vol (dII s0) ≤ 16777216 := by omega
  have hv_s1 : vol (dI s1) ≤ 16777216 := by omega
  go_wp2_with fail
  go_region_held3 (fun wx => wx.cell? ⟨w.heap.size, 0, none⟩ = some (.int .i64 p0) ∧ wx.cell? ⟨w.heap.size, 1, none⟩ = some (.slice a_p1 n_p1 c_p1) ∧ wx.cell? ⟨w.heap.size, 2, none⟩ = some (.slice a_p2 n_p2 c_p2) ∧ wx.cell? ⟨w.heap.size, 3, none⟩ = some (.slice a_p3 n_p3 c_p3) ∧ wx.cell? ⟨w.heap.size + 1, 0, none⟩ = some (.slice a_s0 n_s0 c_s0) ∧ wx.cell? ⟨w.heap.size + 1, 1, none⟩ = some (.slice a_s1 n_s1 c_s1))
    (first
      | go_keep
      | (refine ⟨?_, ?_, ?_, ?_, ?_, ?_⟩ <;> (rw [bcell1 hb3 (by show _ < w2.heap.size; omega)]; assumption))
      | (have h1_ : w2.heap.size ≤ w3.heap.size := hb3.size; (try go_split_ands); refine ⟨?_, ?_, ?_, ?_, ?_, ?_⟩ <;> (rw [bcell1 hb4 (by omega)]; assumption))
      | (have h1_ : w2.heap.size ≤ w3.heap.size := hb3.size; have h2_ : w3.heap.size ≤ w4.heap.size := hb4.size; (try go_split_ands); refine ⟨?_, ?_, ?_, ?_, ?_, ?_⟩ <;> (rw [bcell1 hb5 (by omega)]; assumption))
      | (have h1_ : w2.heap.size ≤ w3.heap.size := hb3.size; have h2_ : w3.heap.size ≤ w4.heap.size := hb4.size; have h3_ : w4.heap.size ≤ w5.heap.size := hb5.size; (try go_split_ands); refine ⟨?_, ?_, ?_, ?_, ?_, ?_⟩ <;> (rw [bcell1 hb6 (by omega)]; assumption)))
    (first
      | (go_at_call 13; refine (toPassing_d _ (p0) (dI p1) _ (dB p2) _ (dPR p3) _ _ (h_p1.below hB.drew) (h_p2.below hB.drew) (h_p3.below hB.drew) (fit_dI p1) (fit_dB p2) (fit_dPR p3) hv_p1 hv_p2 hv_p3).mono ?_; rintro e w3 ⟨vs3, F3, rfl, hb3, hoo3, hnn3, hll3⟩; have hvl3 := owA_len _ _ _ hoo3; obtain ⟨e_3_0, e_3_1, e_3_2, e_3_3, rfl⟩ : ∃ e_3_0 e_3_1 e_3_2 e_3_3, vs3 = [e_3_0, e_3_1, e_3_2, e_3_3] := (by match vs3, hvl3 with | [e_3_0, e_3_1, e_3_2, e_3_3], _ => exact ⟨e_3_0, e_3_1, e_3_2, e_3_3, rfl⟩); clear hvl3; obtain ⟨G3_0, _, ⟨ev3_0, eg3_0⟩, hr3_0, rfl⟩ := hoo3; subst ev3_0; subst eg3_0; obtain ⟨F_z1, _, ho_z1, hr3_1, rfl⟩ := hr3_0; obtain ⟨F_z2, _, ho_z2, hr3_2, rfl⟩ := hr3_1; obtain ⟨F_z3, _, ho_z3, hr3_3, rfl⟩ := hr3_2; have hend3 : _ = [] := hr3_3; subst hend3; obtain ⟨a_z1, n_z1, c_z1, rfl⟩ := (fit_dI p1).sliceO ho_z1; obtain ⟨a_z2, n_z2, c_z2, rfl⟩ := (fit_dB p2).sliceO ho_z2; obtain ⟨a_z3, n_z3, c_z3, rfl⟩ := (fit_dPR p3).sliceO ho_z3)
      | (go_at_call 14; refine (toStock_d _ (dII s0) _ (dI s1) _ _ (h_s0.below (bnext hB.drew hb3 (Nat.le_refl _))) (h_s1.below (bnext hB.drew hb3 (Nat.le_refl _))) (fit_dII s0) (fit_dI s1) hv_s0 hv_s1).mono ?_; rintro e w4 ⟨vs4, F4, rfl, hb4, hoo4, hnn4, hll4⟩; have hvl4 := owA_len _ _ _ hoo4; obtain ⟨e_4_0, e_4_1, rfl⟩ : ∃ e_4_0 e_4_1, vs4 = [e_4_0, e_4_1] := (by match vs4, hvl4 with | [e_4_0, e_4_1], _ => exact ⟨e_4_0, e_4_1, rfl⟩); clear hvl4; obtain ⟨F_z4, _, ho_z4, hr4_0, rfl⟩ := hoo4; obtain ⟨F_z5, _, ho_z5, hr4_1, rfl⟩ := hr4_0; have hend4 : _ = [] := hr4_1; subst hend4; obtain ⟨a_z4, n_z4, c_z4, rfl⟩ := (fit_dII s0).sliceO ho_z4; obtain ⟨a_z5, n_z5, c_z5, rfl⟩ := (fit_dI s1).sliceO ho_z5)
      | (go_at_call 15; refine (toInt64S_d _ (dI counts) _ _ (h_counts.below (bnext (bnext hB.drew hb3 (Nat.le_refl _)) hb4 (Nat.le_refl _))) (fit_dI counts) hv_counts).mono ?_; rintro e w5 ⟨v5, F_z6, rfl, hb5, ho_z6, hnn5, hll5⟩; obtain ⟨a_z6, n_z6, c_z6, rfl⟩ := (fit_dI counts).sliceO ho_z6)
      | (go_at_call 12; refine (specIsPassChoice_d p0 p1 p2 p3 s0 s1 counts mode _ (ho_z1.rdA.below (bnext hb4 hb5 (Nat.le_refl _))) (ho_z2.rdA.below (bnext hb4 hb5 (Nat.le_refl _))) (ho_z3.rdA.below (bnext hb4 hb5 (Nat.le_refl _))) (ho_z4.rdA.below hb5) (ho_z5.rdA.below hb5) ho_z6.rdA ).mono ?_; rintro e w6 ⟨rfl, hb6⟩))
  have hs6 : Below w2.heap.size w2 w6 := (((((Below.refl w2.heap.size w2).drew.trans (hb3.mono (by exact Nat.le_refl _))).trans (hb4.mono (by have h_0 : w2.heap.size ≤ w3.heap.size := hb3.size;  first | exact h_0 | omega))).trans (hb5.mono (by have h_0 : w2.heap.size ≤ w3.heap.size := hb3.size; have h_1 : w3.heap.size ≤ w4.heap.size := hb4.size; first | exact h_0 | omega))).trans (hb6.mono (by have h_0 : w2.heap.size ≤ w3.heap.size := hb3.size; have h_1 : w3.heap.size ≤ w4.heap.size := hb4.size; have h_2 : w4.heap.size ≤ w5.heap.size := hb5.size; first | exact h_0 | omega)))
  have hz3 : w2.heap.size ≤ w3.heap.size := hb3.size
  have hz4 : w3.heap.size ≤ w4.heap.size := hb4.size
  have hz5 : w4.heap.size ≤ w5.heap.size := hb5.size
  have hz6 : w5.heap.size ≤ w6.heap.size := hb6.size
  replace bx4_0 := (bcell1 hs6 (by omega)).trans bx4_0
  replace bx4_1 := (bcell1 hs6 (by omega)).trans bx4_1
  replace bx4_2 := (bcell1 hs6 (by omega)).trans bx4_2
  replace bx4_3 := (bcell1 hs6 (by omega)).trans bx4_3
  replace bx5_0 := (bcell1 hs6 (by omega)).trans bx5_0
  replace bx5_1 := (bcell1 hs6 (by omega)).trans bx5_1
  replace hB := bnext hB hs6 (Nat.le_refl _)
  clear hs6 hb3 hb4 hb5 hb6 ho_z1 ho_z2 ho_z3 ho_z4 ho_z5 ho_z6
  go_wp2_with fail
  refine (toPassing_d _ (p0) (dI p1) _ (dB p2) _ (dPR p3) _ _ (h_p1.below hB) (h_p2.below hB) (h_p3.below hB) (fit_dI p1) (fit_dB p2) (fit_dPR p3) hv_p1 hv_p2 hv_p3).mono ?_
  rintro e w7 ⟨vs7, F7, rfl, hb7, hoo7, hnn7, hll7⟩
  have hs7 : Below w6.heap.size w6 w7 := hb7
  replace bx4_0 := (bcell1 hs7 (by omega)).trans bx4_0
  replace bx4_1 := (bcell1 hs7 (by omega)).trans bx4_1
  replace bx4_2 := (bcell1 hs7 (by omega)).trans bx4_2
  replace bx4_3 := (bcell1 hs7 (by omega)).trans bx4_3
  replace bx5_0 := (bcell1 hs7 (by omega)).trans bx5_0
  replace bx5_1 := (bcell1 hs7 (by omega)).trans bx5_1
  have hz7 : w6.heap.size ≤ w7.heap.size := hb7.size
  replace hB := bnext hB hs7 (Nat.le_refl _)
  clear hb7 hs7
  have hvl7 := owA_len _ _ _ hoo7
  obtain ⟨e_7_0, e_7_1, e_7_2, e_7_3, rfl⟩ : ∃ e_7_0 e_7_1 e_7_2 e_7_3, vs7 = [e_7_0, e_7_1, e_7_2, e_7_3] := (by match vs7, hvl7 with | [e_7_0, e_7_1, e_7_2, e_7_3], _ => exact ⟨e_7_0, e_7_1, e_7_2, e_7_3, rfl⟩)
  clear hvl7
  obtain ⟨G7_0, _, ⟨ev7_0, eg7_0⟩, hr7_0, rfl⟩ := hoo7
  subst ev7_0
  subst eg7_0
  obtain ⟨F_z7, _, ho_z7, hr7_1, rfl⟩ := hr7_0
  obtain ⟨F_z8, _, ho_z8, hr7_2, rfl⟩ := hr7_1
  obtain ⟨F_z9, _, ho_z9, hr7_3, rfl⟩ := hr7_2
  have hend7 : _ = [] := hr7_3
  subst hend7
  have hl_z7 : ∀ g, g ∈ F_z7 → w6.heap.size ≤ g := fun g hg => by have := hll7 g (by simp [hg]); (try simp at this); omega
  obtain ⟨a_z7, n_z7, c_z7, rfl⟩ := (fit_dI p1).sliceO ho_z7
  have hl_z8 : ∀ g, g ∈ F_z8 → w6.heap.size ≤ g := fun g hg => by have := hll7 g (by simp [hg]); (try simp at this); omega
  obtain ⟨a_z8, n_z8, c_z8, rfl⟩ := (fit_dB p2).sliceO ho_z8
  have hl_z9 : ∀ g, g ∈ F_z9 → w6.heap.size ≤ g := fun g hg => by have := hll7 g (by simp [hg]); (try simp at this); omega
  obtain ⟨a_z9, n_z9, c_z9, rfl⟩ := (fit_dPR p3).sliceO ho_z9
  have hi_z7 : ∀ g, g ∈ F_z7 → g < w7.heap.size := Ow.lt _ _ _ ho_z7
  have hi_z8 : ∀ g, g ∈ F_z8 → g < w7.heap.size := Ow.lt _ _ _ ho_z8
  have hi_z9 : ∀ g, g ∈ F_z9 → g < w7.heap.size := Ow.lt _ _ _ ho_z9
  have hd_z7 : (F_z7 ++ (F_z8 ++ F_z9)).Nodup := by simpa using hnn7
  clear hnn7 hll7
  have lt7_0 : w.heap.size < w7.heap.size := by omega
  have lt7_1 : w.heap.size + 1 < w7.heap.size := by omega
  go_wp2_with fail
  refine (toStock_d _ (dII s0) _ (dI s1) _ _ (h_s0.below (hB.trans ((below_alloc _ _).mono (by omega)))) (h_s1.below (hB.trans ((below_alloc _ _).mono (by omega)))) (fit_dII s0) (fit_dI s1) hv_s0 hv_s1).mono ?_
  rintro e w8 ⟨vs8, F8, rfl, hb8, hoo8, hnn8, hll8⟩
  have hs8 : Below w7.heap.size w7 w8 := (below_alloc _ _).trans (hb8.mono (by simp <;> omega))
  replace bx4_0 := (bcell1 hs8 (by omega)).trans bx4_0
  replace bx4_1 := (bcell1 hs8 (by omega)).trans bx4_1
  replace bx4_2 := (bcell1 hs8 (by omega)).trans bx4_2
  replace bx4_3 := (bcell1 hs8 (by omega)).trans bx4_3
  replace bx5_0 := (bcell1 hs8 (by omega)).trans bx5_0
  replace bx5_1 := (bcell1 hs8 (by omega)).trans bx5_1
  have bx12_0 : w8.cell? ⟨w7.heap.size, 0, none⟩ = some (.int .i64 p0) := by rw [bcell1 hb8 (by simp <;> omega)]; simp [go_sem]
  have bx12_1 : w8.cell? ⟨w7.heap.size, 1, none⟩ = some (.slice a_z7 n_z7 c_z7) := by rw [bcell1 hb8 (by simp <;> omega)]; simp [go_sem]
  have bx12_2 : w8.cell? ⟨w7.heap.size, 2, none⟩ = some (.slice a_z8 n_z8 c_z8) := by rw [bcell1 hb8 (by simp <;> omega)]; simp [go_sem]
  have bx12_3 : w8.cell? ⟨w7.heap.size, 3, none⟩ = some (.slice a_z9 n_z9 c_z9) := by rw [bcell1 hb8 (by simp <;> omega)]; simp [go_sem]
  have hz8 : w7.heap.size + 1 ≤ w8.heap.size := by have := hb8.size; (try simp at this); omega
  replace ho_z7 := ho_z7.below hs8
  replace ho_z8 := ho_z8.below hs8
  replace ho_z9 := ho_z9.below hs8
  replace hB := bnext hB hs8 (Nat.le_refl _)
  clear hb8 hs8
  have hvl8 := owA_len _ _ _ hoo8
  obtain ⟨e_8_0, e_8_1, rfl⟩ : ∃ e_8_0 e_8_1, vs8 = [e_8_0, e_8_1] := (by match vs8, hvl8 with | [e_8_0, e_8_1], _ => exact ⟨e_8_0, e_8_1, rfl⟩)
  clear hvl8
  obtain ⟨F_z10, _, ho_z10, hr8_0, rfl⟩ := hoo8
  obtain ⟨F_z11, _, ho_z11, hr8_1, rfl⟩ := hr8_0
  have hend8 : _ = [] := hr8_1
  subst hend8
  have hl_z10 : ∀ g, g ∈ F_z10 → w7.heap.size + 1 ≤ g := fun g hg => by have := hll8 g (by simp [hg]); (try simp at this); omega
  obtain ⟨a_z10, n_z10, c_z10, rfl⟩ := (fit_dII s0).sliceO ho_z10
  have hl_z11 : ∀ g, g ∈ F_z11 → w7.heap.size + 1 ≤ g := fun g hg => by have := hll8 g (by simp [hg]); (try simp at this); omega
  obtain ⟨a_z11, n_z11, c_z11, rfl⟩ := (fit_dI s1).sliceO ho_z11
  have hi_z10 : ∀ g, g ∈ F_z10 → g < w8.heap.size := Ow.lt _ _ _ ho_z10
  have hi_z11 : ∀ g, g ∈ F_z11 → g < w8.heap.size := Ow.lt _ _ _ ho_z11
  have hd_z10 : (F_z10 ++ F_z11).Nodup := by simpa using hnn8
  clear hnn8 hll8
  have lt8_0 : w.heap.size < w8.heap.size := by omega
  have lt8_1 : w.heap.size + 1 < w8.heap.size := by omega
  have lt8_2 : w7.heap.size < w8.heap.size := by omega
  go_wp2_with fail
  refine (toInt64S_d _ (dI counts) _ _ (h_counts.below (hB.trans ((below_alloc _ _).mono (by omega)))) (fit_dI counts) hv_counts).mono ?_
  rintro e w9 ⟨v9, F_z12, rfl, hb9, ho_z12, hnn9, hll9⟩
  have hs9 : Below w8.heap.size w8 w9 := (below_alloc _ _).trans (hb9.mono (by simp <;> omega))
  replace bx4_0 := (bcell1 hs9 (by omega)).trans bx4_0
  replace bx4_1 := (bcell1 hs9 (by omega)).trans bx4_1
  replace bx4_2 := (bcell1 hs9 (by omega)).trans bx4_2
  replace bx4_3 := (bcell1 hs9 (by omega)).trans bx4_3
  replace bx5_0 := (bcell1 hs9 (by omega)).trans bx5_0
  replace bx5_1 := (bcell1 hs9 (by omega)).trans bx5_1
  replace bx12_0 := (bcell1 hs9 (by omega)).trans bx12_0
  replace bx12_1 := (bcell1 hs9 (by omega)).trans bx12_1
  replace bx12_2 := (bcell1 hs9 (by omega)).trans bx12_2
  replace bx12_3 := (bcell1 hs9 (by omega)).trans bx12_3
  have bx13_0 : w9.cell? ⟨w8.heap.size, 0, none⟩ = some (.slice a_z10 n_z10 c_z10) := by rw [bcell1 hb9 (by simp <;> omega)]; simp [go_sem]
  have bx13_1 : w9.cell? ⟨w8.heap.size, 1, none⟩ = some (.slice a_z11 n_z11 c_z11) := by rw [bcell1 hb9 (by simp <;> omega)]; simp [go_sem]
  have hz9 : w8.heap.size + 1 ≤ w9.heap.size := by have := hb9.size; (try simp at this); omega
  replace ho_z7 := ho_z7.below hs9
  replace ho_z8 := ho_z8.below hs9
  replace ho_z9 := ho_z9.below hs9
  replace ho_z10 := ho_z10.below hs9
  replace ho_z11 := ho_z11.below hs9
  replace hB := bnext hB hs9 (Nat.le_refl _)
  clear hb9 hs9
  have hl_z12 : ∀ g, g ∈ F_z12 → w8.heap.size + 1 ≤ g := fun g hg => by have := hll9 g hg; (try simp at this); omega
  obtain ⟨a_z12, n_z12, c_z12, rfl⟩ := (fit_dI counts).sliceO ho_z12
  have hi_z12 : ∀ g, g ∈ F_z12 → g < w9.heap.size := Ow.lt _ _ _ ho_z12
  have hd_z12 := hnn9
  clear hnn9 hll9
  go_wp2_with fail
  refine (implIsPassChoice_d p0 p1 p2 p3 s0 s1 counts mode _ ho_z7 ho_z8 ho_z9 ho_z10 ho_z11 ho_z12 ).mono ?_
  rintro e w10 ⟨rfl, hb10⟩
  have hs10 : Below w9.heap.size w9 w10 := hb10
  replace bx4_0 := (bcell1 hs10 (by omega)).trans bx4_0
  replace bx4_1 := (bcell1 hs10 (by omega)).trans bx4_1
  replace bx4_2 := (bcell1 hs10 (by omega)).trans bx4_2
  replace bx4_3 := (bcell1 hs10 (by omega)).trans bx4_3
  replace bx5_0 := (bcell1 hs10 (by omega)).trans bx5_0
  replace bx5_1 := (bcell1 hs10 (by omega)).trans bx5_1
  replace bx12_0 := (bcell1 hs10 (by omega)).trans bx12_0
  replace bx12_1 := (bcell1 hs10 (by omega)).trans bx12_1
  replace bx12_2 := (bcell1 hs10 (by omega)).trans bx12_2
  replace bx12_3 := (bcell1 hs10 (by omega)).trans bx12_3
  replace bx13_0 := (bcell1 hs10 (by omega)).trans bx13_0
  replace bx13_1 := (bcell1 hs10 (by omega)).trans bx13_1
  have hz10 : w9.heap.size ≤ w10.heap.size := hb10.size
  replace ho_z7 := ho_z7.below hs10
  replace ho_z8 := ho_z8.below hs10
  replace ho_z9 := ho_z9.below hs10
  replace ho_z10 := ho_z10.below hs10
  replace ho_z11 := ho_z11.below hs10
  replace ho_z12 := ho_z12.below hs10
  replace hB := bnext hB hs10 (Nat.le_refl _)
  clear hb10 hs10
  go_wp2_with fail
  go_region_held3 (fun wx => wx.cell? ⟨w.heap.size, 0, none⟩ = some (.int .i64 p0) ∧ wx.cell? ⟨w.heap.size, 1, none⟩ = some (.slice a_p1 n_p1 c_p1) ∧ wx.cell? ⟨w.heap.size, 2, none⟩ = some (.slice a_p2 n_p2 c_p2) ∧ wx.cell? ⟨w.heap.size, 3, none⟩ = some (.slice a_p3 n_p3 c_p3) ∧ wx.cell? ⟨w.heap.size + 1, 0, none⟩ = some (.slice a_s0 n_s0 c_s0) ∧ wx.cell? ⟨w.heap.size + 1, 1, none⟩ = some (.slice a_s1 n_s1 c_s1) ∧ wx.cell? ⟨w7.heap.size, 0, none⟩ = some (.int .i64 p0) ∧ wx.cell? ⟨w7.heap.size, 1, none⟩ = some (.slice a_z7 n_z7 c_z7) ∧ wx.cell? ⟨w7.heap.size, 2, none⟩ = some (.slice a_z8 n_z8 c_z8) ∧ wx.cell? ⟨w7.heap.size, 3, none⟩ = some (.slice a_z9 n_z9 c_z9) ∧ wx.cell? ⟨w8.heap.size, 0, none⟩ = some (.slice a_z10 n_z10 c_z10) ∧ wx.cell? ⟨w8.heap.size, 1, none⟩ = some (.slice a_z11 n_z11 c_z11))
    (first
      | go_keep
      | (refine ⟨?_, ?_, ?_, ?_, ?_, ?_, ?_, ?_, ?_, ?_, ?_, ?_⟩ <;> (rw [bcell1 hb11 (by show _ < w10.heap.size; omega)]; assumption))
      | (have h1_ : w10.heap.size ≤ w11.heap.size := hb11.size; (try go_split_ands); refine ⟨?_, ?_, ?_, ?_, ?_, ?_, ?_, ?_, ?_, ?_, ?_, ?_⟩ <;> (rw [bcell1 hb12 (by omega)]; assumption)))
    (first
      | (go_at_call 13; refine (toPassing_d _ (p0) (dI p1) _ (dB p2) _ (dPR p3) _ _ (h_p1.below hB.drew) (h_p2.below hB.drew) (h_p3.below hB.drew) (fit_dI p1) (fit_dB p2) (fit_dPR p3) hv_p1 hv_p2 hv_p3).mono ?_; rintro e w11 ⟨vs11, F11, rfl, hb11, hoo11, hnn11, hll11⟩; have hvl11 := owA_len _ _ _ hoo11; obtain ⟨e_11_0, e_11_1, e_11_2, e_11_3, rfl⟩ : ∃ e_11_0 e_11_1 e_11_2 e_11_3, vs11 = [e_11_0, e_11_1, e_11_2, e_11_3] := (by match vs11, hvl11 with | [e_11_0, e_11_1, e_11_2, e_11_3], _ => exact ⟨e_11_0, e_11_1, e_11_2, e_11_3, rfl⟩); clear hvl11; obtain ⟨G11_0, _, ⟨ev11_0, eg11_0⟩, hr11_0, rfl⟩ := hoo11; subst ev11_0; subst eg11_0; obtain ⟨F_z13, _, ho_z13, hr11_1, rfl⟩ := hr11_0; obtain ⟨F_z14, _, ho_z14, hr11_2, rfl⟩ := hr11_1; obtain ⟨F_z15, _, ho_z15, hr11_3, rfl⟩ := hr11_2; have hend11 : _ = [] := hr11_3; subst hend11; obtain ⟨a_z13, n_z13, c_z13, rfl⟩ := (fit_dI p1).sliceO ho_z13; obtain ⟨a_z14, n_z14, c_z14, rfl⟩ := (fit_dB p2).sliceO ho_z14; obtain ⟨a_z15, n_z15, c_z15, rfl⟩ := (fit_dPR p3).sliceO ho_z15)
      | (go_at_call 17; refine (eqPassing_d (p0) (dI p1) _ (dB p2) _ (dPR p3) _ _ _ _ _ (ho_z7.rdA.below ((Below.refl w10.heap.size w10).drew.trans (hb11.mono (by exact Nat.le_refl _)))) (ho_z8.rdA.below ((Below.refl w10.heap.size w10).drew.trans (hb11.mono (by exact Nat.le_refl _)))) (ho_z9.rdA.below ((Below.refl w10.heap.size w10).drew.trans (hb11.mono (by exact Nat.le_refl _)))) ho_z13.rdA ho_z14.rdA ho_z15.rdA (fit_dI p1) (fit_dB p2) (fit_dPR p3)).mono ?_; rintro e w12 ⟨rfl, hb12⟩))
  have hs12 : Below w10.heap.size w10 w12 := (((Below.refl w10.heap.size w10).drew.trans (hb11.mono (by exact Nat.le_refl _))).trans (hb12.mono (by have h_0 : w10.heap.size ≤ w11.heap.size := hb11.size;  first | exact h_0 | omega)))
  have hz11 : w10.heap.size ≤ w11.heap.size := hb11.size
  have hz12 : w11.heap.size ≤ w12.heap.size := hb12.size
  replace bx4_0 := (bcell1 hs12 (by omega)).trans bx4_0
  replace bx4_1 := (bcell1 hs12 (by omega)).trans bx4_1
  replace bx4_2 := (bcell1 hs12 (by omega)).trans bx4_2
  replace bx4_3 := (bcell1 hs12 (by omega)).trans bx4_3
  replace bx5_0 := (bcell1 hs12 (by omega)).trans bx5_0
  replace bx5_1 := (bcell1 hs12 (by omega)).trans bx5_1
  replace bx12_0 := (bcell1 hs12 (by omega)).trans bx12_0
  replace bx12_1 := (bcell1 hs12 (by omega)).trans bx12_1
  replace bx12_2 := (bcell1 hs12 (by omega)).trans bx12_2
  replace bx12_3 := (bcell1 hs12 (by omega)).trans bx12_3
  replace bx13_0 := (bcell1 hs12 (by omega)).trans bx13_0
  replace bx13_1 := (bcell1 hs12 (by omega)).trans bx13_1
  replace ho_z7 := ho_z7.below hs12
  replace ho_z8 := ho_z8.below hs12
  replace ho_z9 := ho_z9.below hs12
  replace ho_z10 := ho_z10.below hs12
  replace ho_z11 := ho_z11.below hs12
  replace ho_z12 := ho_z12.below hs12
  replace hB := bnext hB hs12 (Nat.le_refl _)
  clear hs12 hb11 hb12 ho_z13 ho_z14 ho_z15
  clear ho_z7 ho_z8 ho_z9
  go_wp2_with fail
  go_region_held3 (fun wx => wx.cell? ⟨w.heap.size, 0, none⟩ = some (.int .i64 p0) ∧ wx.cell? ⟨w.heap.size, 1, none⟩ = some (.slice a_p1 n_p1 c_p1) ∧ wx.cell? ⟨w.heap.size, 2, none⟩ = some (.slice a_p2 n_p2 c_p2) ∧ wx.cell? ⟨w.heap.size, 3, none⟩ = some (.slice a_p3 n_p3 c_p3) ∧ wx.cell? ⟨w.heap.size + 1, 0, none⟩ = some (.slice a_s0 n_s0 c_s0) ∧ wx.cell? ⟨w.heap.size + 1, 1, none⟩ = some (.slice a_s1 n_s1 c_s1) ∧ wx.cell? ⟨w7.heap.size, 0, none⟩ = some (.int .i64 p0) ∧ wx.cell? ⟨w7.heap.size, 1, none⟩ = some (.slice a_z7 n_z7 c_z7) ∧ wx.cell? ⟨w7.heap.size, 2, none⟩ = some (.slice a_z8 n_z8 c_z8) ∧ wx.cell? ⟨w7.heap.size, 3, none⟩ = some (.slice a_z9 n_z9 c_z9) ∧ wx.cell? ⟨w8.heap.size, 0, none⟩ = some (.slice a_z10 n_z10 c_z10) ∧ wx.cell? ⟨w8.heap.size, 1, none⟩ = some (.slice a_z11 n_z11 c_z11))
    (first
      | go_keep
      | (refine ⟨?_, ?_, ?_, ?_, ?_, ?_, ?_, ?_, ?_, ?_, ?_, ?_⟩ <;> (rw [bcell1 hb13 (by show _ < w12.heap.size; omega)]; assumption))
      | (have h1_ : w12.heap.size ≤ w13.heap.size := hb13.size; (try go_split_ands); refine ⟨?_, ?_, ?_, ?_, ?_, ?_, ?_, ?_, ?_, ?_, ?_, ?_⟩ <;> (rw [bcell1 hb14 (by omega)]; assumption)))
    (first
      | (go_at_call 14; refine (toStock_d _ (dII s0) _ (dI s1) _ _ (h_s0.below hB.drew) (h_s1.below hB.drew) (fit_dII s0) (fit_dI s1) hv_s0 hv_s1).mono ?_; rintro e w13 ⟨vs13, F13, rfl, hb13, hoo13, hnn13, hll13⟩; have hvl13 := owA_len _ _ _ hoo13; obtain ⟨e_13_0, e_13_1, rfl⟩ : ∃ e_13_0 e_13_1, vs13 = [e_13_0, e_13_1] := (by match vs13, hvl13 with | [e_13_0, e_13_1], _ => exact ⟨e_13_0, e_13_1, rfl⟩); clear hvl13; obtain ⟨F_z16, _, ho_z16, hr13_0, rfl⟩ := hoo13; obtain ⟨F_z17, _, ho_z17, hr13_1, rfl⟩ := hr13_0; have hend13 : _ = [] := hr13_1; subst hend13; obtain ⟨a_z16, n_z16, c_z16, rfl⟩ := (fit_dII s0).sliceO ho_z16; obtain ⟨a_z17, n_z17, c_z17, rfl⟩ := (fit_dI s1).sliceO ho_z17)
      | (go_at_call 18; refine (eqStock_d (dII s0) _ (dI s1) _ _ _ _ (ho_z10.rdA.below ((Below.refl w12.heap.size w12).drew.trans (hb13.mono (by exact Nat.le_refl _)))) (ho_z11.rdA.below ((Below.refl w12.heap.size w12).drew.trans (hb13.mono (by exact Nat.le_refl _)))) ho_z16.rdA ho_z17.rdA (fit_dII s0) (fit_dI s1)).mono ?_; rintro e w14 ⟨rfl, hb14⟩))
  have hs14 : Below w12.heap.size w12 w14 := (((Below.refl w12.heap.size w12).drew.trans (hb13.mono (by exact Nat.le_refl _))).trans (hb14.mono (by have h_0 : w12.heap.size ≤ w13.heap.size := hb13.size;  first | exact h_0 | omega)))
  have hz13 : w12.heap.size ≤ w13.heap.size := hb13.size
  have hz14 : w13.heap.size ≤ w14.heap.size := hb14.size
  replace bx4_0 := (bcell1 hs14 (by omega)).trans bx4_0
  replace bx4_1 := (bcell1 hs14 (by omega)).trans bx4_1
  replace bx4_2 := (bcell1 hs14 (by omega)).trans bx4_2
  replace bx4_3 := (bcell1 hs14 (by omega)).trans bx4_3
  replace bx5_0 := (bcell1 hs14 (by omega)).trans bx5_0
  replace bx5_1 := (bcell1 hs14 (by omega)).trans bx5_1
  replace bx12_0 := (bcell1 hs14 (by omega)).trans bx12_0
  replace bx12_1 := (bcell1 hs14 (by omega)).trans bx12_1
  replace bx12_2 := (bcell1 hs14 (by omega)).trans bx12_2
  replace bx12_3 := (bcell1 hs14 (by omega)).trans bx12_3
  replace bx13_0 := (bcell1 hs14 (by omega)).trans bx13_0
  replace bx13_1 := (bcell1 hs14 (by omega)).trans bx13_1
  replace ho_z10 := ho_z10.below hs14
  replace ho_z11 := ho_z11.below hs14
  replace ho_z12 := ho_z12.below hs14
  replace hB := bnext hB hs14 (Nat.le_refl _)
  clear hs14 hb13 hb14 ho_z16 ho_z17
  clear ho_z10 ho_z11
  go_wp2_with fail
  refine (toInt64S_d _ (dI counts) _ _ (h_counts.below hB) (fit_dI counts) hv_counts).mono ?_
  rintro e w15 ⟨v15, F_z18, rfl, hb15, ho_z18, hnn15, hll15⟩
  have hs15 : Below w14.heap.size w14 w15 := hb15
  replace bx4_0 := (bcell1 hs15 (by omega)).trans bx4_0
  replace bx4_1 := (bcell1 hs15 (by omega)).trans bx4_1
  replace bx4_2 := (bcell1 hs15 (by omega)).trans bx4_2
  replace bx4_3 := (bcell1 hs15 (by omega)).trans bx4_3
  replace bx5_0 := (bcell1 hs15 (by omega)).trans bx5_0
  replace bx5_1 := (bcell1 hs15 (by omega)).trans bx5_1
  replace bx12_0 := (bcell1 hs15 (by omega)).trans bx12_0
  replace bx12_1 := (bcell1 hs15 (by omega)).trans bx12_1
  replace bx12_2 := (bcell1 hs15 (by omega)).trans bx12_2
  replace bx12_3 := (bcell1 hs15 (by omega)).trans bx12_3
  replace bx13_0 := (bcell1 hs15 (by omega)).trans bx13_0
  replace bx13_1 := (bcell1 hs15 (by omega)).trans bx13_1
  have hz15 : w14.heap.size ≤ w15.heap.size := hb15.size
  replace ho_z12 := ho_z12.below hs15
  replace hB := bnext hB hs15 (Nat.le_refl _)
  clear hb15 hs15
  have hl_z18 : ∀ g, g ∈ F_z18 → w14.heap.size ≤ g := fun g hg => by have := hll15 g hg; (try simp at this); omega
  obtain ⟨a_z18, n_z18, c_z18, rfl⟩ := (fit_dI counts).sliceO ho_z18
  have hi_z18 : ∀ g, g ∈ F_z18 → g < w15.heap.size := Ow.lt _ _ _ ho_z18
  have hd_z18 := hnn15
  clear hnn15 hll15
  go_wp2_with fail
  refine (eqInt64S_d (dI counts) _ _ _ ho_z12.rdA ho_z18.rdA (fit_dI counts)).mono ?_
  rintro e w16 ⟨rfl, hb16⟩
  have hs16 : Below w15.heap.size w15 w16 := hb16
  replace bx4_0 := (bcell1 hs16 (by omega)).trans bx4_0
  replace bx4_1 := (bcell1 hs16 (by omega)).trans bx4_1
  replace bx4_2 := (bcell1 hs16 (by omega)).trans bx4_2
  replace bx4_3 := (bcell1 hs16 (by omega)).trans bx4_3
  replace bx5_0 := (bcell1 hs16 (by omega)).trans bx5_0
  replace bx5_1 := (bcell1 hs16 (by omega)).trans bx5_1
  replace bx12_0 := (bcell1 hs16 (by omega)).trans bx12_0
  replace bx12_1 := (bcell1 hs16 (by omega)).trans bx12_1
  replace bx12_2 := (bcell1 hs16 (by omega)).trans bx12_2
  replace bx12_3 := (bcell1 hs16 (by omega)).trans bx12_3
  replace bx13_0 := (bcell1 hs16 (by omega)).trans bx13_0
  replace bx13_1 := (bcell1 hs16 (by omega)).trans bx13_1
  have hz16 : w15.heap.size ≤ w16.heap.size := hb16.size
  replace ho_z12 := ho_z12.below hs16
  replace ho_z18 := ho_z18.below hs16
  replace hB := bnext hB hs16 (Nat.le_refl _)
  clear hb16 hs16
  clear ho_z12 ho_z18
  go_wp2
  go_ret
  exact ⟨rfl, hB⟩
set_option maxRecDepth 100000 in
theorem lifted (os : Os) (started : os.Started) (H : Type) (enc : TypeId × Value → H) :
    ReturnsInHanded {} Try.checked os 3 .any (Rows.fnExactIsPassChoiceSpec.pre6 enc Try.prog Try.f3 Rows.fnExactIsPassChoiceRow.domain false) (Rows.fnExactIsPassChoiceSpec.post enc Try.prog Try.f3 false true false false) :=
  lift Try.func3 (by kernel_rfl) rfl rfl (by kernel_rfl : Try.prog.underlying 4 = some .bool) (by kernel_rfl) (fun ds h => by match ds, h with | [d0, d1, d2, d3], _ => rfl) started
    (ChangeSpec.witness6 (enc := enc) (C := Try.checked) false ⟨#[], #[.agg #[.int .i64 0, .slice none 0 0, .slice none 0 0, .slice none 0 0], .agg #[.slice none 0 0, .slice none 0 0], .slice none 0 0, .int .i64 0], []⟩ 8 (by kernel_rfl) (by kernel_rfl) (by kernel_rfl) (by kernel_rfl))
    (fun W base args ds p hval hA => by
      rw [Try.params3] at hA hval
      obtain ⟨v0, vs0, d0, ds0, p0, q0, hargs0, rfl, rfl, g0, r0⟩ := ChangeShapes.trodAll_cons hA
      obtain ⟨v1, vs1, d1, ds1, p1, q1, hargs1, rfl, rfl, g1, r1⟩ := ChangeShapes.trodAll_cons r0
      obtain ⟨v2, vs2, d2, ds2, p2, q2, hargs2, rfl, rfl, g2, r2⟩ := ChangeShapes.trodAll_cons r1
      obtain ⟨v3, vs3, d3, ds3, p3, q3, hargs3, rfl, rfl, g3, r3⟩ := ChangeShapes.trodAll_cons r2
      obtain ⟨hnil, rfl, rfl⟩ := ChangeShapes.trodAll_nil r3
      obtain rfl : args = #[v0, v1, v2, v3] := by cases args; simp_all
      obtain ⟨vs0x, dsx0, rfl, fx0, rx0⟩ := open_A [.i, .l [.i], .l [.b], .l [.i, .l [.i], .l [.i]]] Try.underlying26 (by kernel_rfl) (hval 0 _ _ rfl rfl) g0
      obtain ⟨_, s0_0, rfl, ⟨x0_0, rfl⟩, t0_0⟩ := fx0
      obtain ⟨_, s0_1, rfl, j0_1, t0_1⟩ := t0_0
      obtain ⟨x0_1, rfl⟩ := fitD_I j0_1
      obtain ⟨_, s0_2, rfl, j0_2, t0_2⟩ := t0_1
      obtain ⟨x0_2, rfl⟩ := fitD_B j0_2
      obtain ⟨_, s0_3, rfl, j0_3, t0_3⟩ := t0_2
      obtain ⟨x0_3, rfl⟩ := fitD_PR j0_3
      obtain rfl : s0_3 = [] := t0_3
      obtain ⟨y0_0, z0_0, e0_0, k0_0, l0_0⟩ := rx0
      subst e0_0
      obtain rfl : y0_0 = .int .i64 x0_0 := k0_0
      obtain ⟨y0_1, z0_1, e0_1, k0_1, l0_1⟩ := l0_0
      subst e0_1
      obtain ⟨y0_2, z0_2, e0_2, k0_2, l0_2⟩ := l0_1
      subst e0_2
      obtain ⟨y0_3, z0_3, e0_3, k0_3, l0_3⟩ := l0_2
      subst e0_3
      obtain rfl : z0_3 = [] := l0_3
      obtain ⟨vs1x, dsx1, rfl, fx1, rx1⟩ := open_A [.l [.l [.i]], .l [.i]] Try.underlying29 (by kernel_rfl) (hval 1 _ _ rfl rfl) g1
      obtain ⟨_, s1_0, rfl, j1_0, t1_0⟩ := fx1
      obtain ⟨x1_0, rfl⟩ := fitD_II j1_0
      obtain ⟨_, s1_1, rfl, j1_1, t1_1⟩ := t1_0
      obtain ⟨x1_1, rfl⟩ := fitD_I j1_1
      obtain rfl : s1_1 = [] := t1_1
      obtain ⟨y1_0, z1_0, e1_0, k1_0, l1_0⟩ := rx1
      subst e1_0
      obtain ⟨y1_1, z1_1, e1_1, k1_1, l1_1⟩ := l1_0
      subst e1_1
      obtain rfl : z1_1 = [] := l1_1
      obtain ⟨dx2, fx2, rx2⟩ := open_L Try.underlying22 (by kernel_rfl : shapeOf Try.prog 6 22 = some [.l [.i]]) (hval 2 _ _ rfl rfl) g2
      obtain ⟨x2, rfl⟩ := fitD_I fx2
      obtain ⟨x3, rfl, rfl, rfl, wx3⟩ := open_int (by kernel_rfl : Try.prog.underlying 2 = some (.int .i64)) (hval 3 _ _ rfl rfl) g3
      exact walk x0_0 x0_1 y0_1 x0_2 y0_2 x0_3 y0_3 x1_0 y1_0 x1_1 y1_1 x2 v2 x3 W k0_1 k0_2 k0_3 k1_0 k1_1 rx2)
end Go.Proofs.Ytkoojiplfbcalaa.lawIsPassChoice
