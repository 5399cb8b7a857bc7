/- FnExactPassInvariant: whatever the input, the law returns true. No condition. Written by lawgen2.py. -/
import Derived.Test.YtldjgkandkclpaaPI
import Derived.Test.YtldjgkandkclpaaF
import Derived.Test.YtldjgkandkclpaaWB
import Derived.Test.YtldjgkandkclpaaYP
import Derived.Deep.RegionHeld3
namespace Go.Proofs.Ytldjgkandkclpaa.lawPassInvariant
open Go.ChangeShapes Go.WideShapes Go.ChangeAt Go.RowKit
set_option maxHeartbeats 3000000 in
set_option maxRecDepth 100000 in
theorem walk (p0 : Int) (p1 : List Int) (v_p1 : Value) (p2 : List Bool) (v_p2 : Value) (p3 : List PR) (v_p3 : Value) (s0 : List (List Int)) (v_s0 : Value) (s1 : List Int) (v_s1 : Value) (weights : List (List Int)) (v_weights : Value) (w : World) (h_p1 : Rd (· < w.heap.size) w (dI p1) v_p1) (h_p2 : Rd (· < w.heap.size) w (dB p2) v_p2) (h_p3 : Rd (· < w.heap.size) w (dPR p3) v_p3) (h_s0 : Rd (· < w.heap.size) w (dII s0) v_s0) (h_s1 : Rd (· < w.heap.size) w (dI s1) v_s1) (h_weights : Rd (· < w.heap.size) w (dII weights) v_weights) :
    Calls Try.prog 6 #[.agg #[.int .i64 p0, v_p1, v_p2, v_p3], .agg #[v_s0, v_s1], v_weights] w (RetV w (.bool true)) := by
  obtain ⟨a_p1, n_p1, c_p1, rfl⟩ := (fit_dI p1).sliceR h_p1
  obtain ⟨a_p2, n_p2, c_p2, rfl⟩ := (fit_dB p2).sliceR h_p2
  obtain ⟨a_p3, n_p3, c_p3, rfl⟩ := (fit_dPR p3).sliceR h_p3
  obtain ⟨a_s0, n_s0, c_s0, rfl⟩ := (fit_dII s0).sliceR h_s0
  obtain ⟨a_s1, n_s1, c_s1, rfl⟩ := (fit_dI s1).sliceR h_s1
  obtain ⟨a_weights, n_weights, c_weights, rfl⟩ := (fit_dII weights).sliceR h_weights
  have hB := Below.refl w.heap.size w
  go_enter Try.func6, Try.ntmps6
  go_wp2_with fail
  refine (szPassing_d _ (p0) (dI p1) _ (dB p2) _ (dPR p3) _ 1048576 _ (h_p1.below (hB.trans ((((Below.refl _ _).alloc (Nat.le_refl _) _).alloc (by simp) _)))) (h_p2.below (hB.trans ((((Below.refl _ _).alloc (Nat.le_refl _) _).alloc (by simp) _)))) (h_p3.below (hB.trans ((((Below.refl _ _).alloc (Nat.le_refl _) _).alloc (by simp) _)))) (fit_dI p1) (fit_dB p2) (fit_dPR p3) (by omega) (by omega)).mono ?_
  rintro e w1 ⟨L1, rfl, hb1, yy1, uu1, p1⟩
  have hs1 : Below w.heap.size w w1 := ((((Below.refl _ _).alloc (Nat.le_refl _) _).alloc (by simp) _)).trans (hb1.mono (by simp <;> omega))
  have bx3_0 : w1.cell? ⟨w.heap.size, 0, none⟩ = some (.int .i64 p0) := by rw [bcell1 hb1 (by simp <;> omega)]; simp [go_sem]
  have bx3_1 : w1.cell? ⟨w.heap.size, 1, none⟩ = some (.slice a_p1 n_p1 c_p1) := by rw [bcell1 hb1 (by simp <;> omega)]; simp [go_sem]
  have bx3_2 : w1.cell? ⟨w.heap.size, 2, none⟩ = some (.slice a_p2 n_p2 c_p2) := by rw [bcell1 hb1 (by simp <;> omega)]; simp [go_sem]
  have bx3_3 : w1.cell? ⟨w.heap.size, 3, none⟩ = some (.slice a_p3 n_p3 c_p3) := by rw [bcell1 hb1 (by simp <;> omega)]; simp [go_sem]
  have bx4_0 : w1.cell? ⟨w.heap.size + 1, 0, none⟩ = some (.slice a_s0 n_s0 c_s0) := by rw [bcell1 hb1 (by simp <;> omega)]; simp [go_sem]
  have bx4_1 : w1.cell? ⟨w.heap.size + 1, 1, none⟩ = some (.slice a_s1 n_s1 c_s1) := by rw [bcell1 hb1 (by simp <;> omega)]; simp [go_sem]
  have hz1 : w.heap.size + 2 ≤ w1.heap.size := by have := hb1.size; (try simp at this); omega
  replace hB := bnext hB hs1 (Nat.le_refl _)
  clear hb1 hs1
  by_cases n1 : L1 < 0
  · go_wp2
    go_ret
    exact ⟨rfl, hB⟩
  have q1 := p1 (by omega)
  have m1 : 0 ≤ L1 := by omega
  clear p1
  have hv_p1 : vol (dI p1) ≤ 16777216 := by omega
  have hv_p2 : vol (dB p2) ≤ 16777216 := by omega
  have hv_p3 : vol (dPR p3) ≤ 16777216 := by omega
  go_wp2_with fail
  refine (szStock_d _ (dII s0) _ (dI s1) _ L1 _ (h_s0.below hB) (h_s1.below hB) (fit_dII s0) (fit_dI s1) (by omega) (by omega)).mono ?_
  rintro e w2 ⟨L2, rfl, hb2, yy2, uu2, p2⟩
  have hs2 : Below w1.heap.size w1 w2 := hb2
  replace bx3_0 := (bcell1 hs2 (by omega)).trans bx3_0
  replace bx3_1 := (bcell1 hs2 (by omega)).trans bx3_1
  replace bx3_2 := (bcell1 hs2 (by omega)).trans bx3_2
  replace bx3_3 := (bcell1 hs2 (by omega)).trans bx3_3
  replace bx4_0 := (bcell1 hs2 (by omega)).trans bx4_0
  replace bx4_1 := (bcell1 hs2 (by omega)).trans bx4_1
  have hz2 : w1.heap.size ≤ w2.heap.size := hb2.size
  replace hB := bnext hB hs2 (Nat.le_refl _)
  clear hb2 hs2
  by_cases n2 : L2 < 0
  · go_wp2
    go_ret
    exact ⟨rfl, hB⟩
  have q2 := p2 (by omega)
  have m2 : 0 ≤ L2 := by omega
  clear p2
  have hv_s0 : vol (dII s0) ≤ 16777216 := by omega
  have hv_s1 : vol (dI s1) ≤ 16777216 := by omega
  go_wp2_with fail
  refine (szInt64SS_d _ (dII weights) _ L2 _ (h_weights.below hB) (fit_dII weights) (by omega) (by omega)).mono ?_
  rintro e w3 ⟨L3, rfl, hb3, yy3, uu3, p3⟩
  have hs3 : Below w2.heap.size w2 w3 := hb3
  replace bx3_0 := (bcell1 hs3 (by omega)).trans bx3_0
  replace bx3_1 := (bcell1 hs3 (by omega)).trans bx3_1
  replace bx3_2 := (bcell1 hs3 (by omega)).trans bx3_2
  replace bx3_3 := (bcell1 hs3 (by omega)).trans bx3_3
  replace bx4_0 := (bcell1 hs3 (by omega)).trans bx4_0
  replace bx4_1 := (bcell1 hs3 (by omega)).trans bx4_1
  have hz3 : w2.heap.size ≤ w3.heap.size := hb3.size
  replace hB := bnext hB hs3 (Nat.le_refl _)
  clear hb3 hs3
  by_cases n3 : L3 < 0
  · go_wp2
    go_ret
    exact ⟨rfl, hB⟩
  have q3 := p3 (by omega)
  have m3 : 0 ≤ L3 := by omega
  clear p3
  have hv_weights : vol (dII weights) ≤ 16777216 := by omega
  go_wp2_with fail
  go_region_held3 (fun wx => wx.cell? ⟨w.heap.size, 0, none⟩ = some (.int .i64 p0) ∧ wx.cell? ⟨w.heap.size, 1, none⟩ = some (.slice a_p1 n_p1 c_p1) ∧ wx.cell? ⟨w.heap.size, 2, none⟩ = some (.slice a_p2 n_p2 c_p2) ∧ wx.cell? ⟨w.heap.size, 3, none⟩ = some (.slice a_p3 n_p3 c_p3) ∧ wx.cell? ⟨w.heap.size + 1, 0, none⟩ = some (.slice a_s0 n_s0 c_s0) ∧ wx.cell? ⟨w.heap.size + 1, 1, none⟩ = some (.slice a_s1 n_s1 c_s1))
    (first
      | go_keep
      | (refine ⟨?_, ?_, ?_, ?_, ?_, ?_⟩ <;> (rw [bcell1 hb4 (by show _ < w3.heap.size; omega)]; assumption))
      | (have h1_ : w3.heap.size ≤ w4.heap.size := hb4.size; (try go_split_ands); refine ⟨?_, ?_, ?_, ?_, ?_, ?_⟩ <;> (rw [bcell1 hb5 (by omega)]; assumption))
      | (have h1_ : w3.heap.size ≤ w4.heap.size := hb4.size; have h2_ : w4.heap.size ≤ w5.heap.size := hb5.size; (try go_split_ands); refine ⟨?_, ?_, ?_, ?_, ?_, ?_⟩ <;> (rw [bcell1 hb6 (by omega)]; assumption))
      | (have h1_ : w3.heap.size ≤ w4.heap.size := hb4.size; have h2_ : w4.heap.size ≤ w5.heap.size := hb5.size; have h3_ : w5.heap.size ≤ w6.heap.size := hb6.size; (try go_split_ands); refine ⟨?_, ?_, ?_, ?_, ?_, ?_⟩ <;> (rw [bcell1 hb7 (by omega)]; assumption)))
    (first
      | (go_at_call 15; refine (toPassing_d _ (p0) (dI p1) _ (dB p2) _ (dPR p3) _ _ (h_p1.below hB.drew) (h_p2.below hB.drew) (h_p3.below hB.drew) (fit_dI p1) (fit_dB p2) (fit_dPR p3) hv_p1 hv_p2 hv_p3).mono ?_; rintro e w4 ⟨vs4, F4, rfl, hb4, hoo4, hnn4, hll4⟩; have hvl4 := owA_len _ _ _ hoo4; obtain ⟨e_4_0, e_4_1, e_4_2, e_4_3, rfl⟩ : ∃ e_4_0 e_4_1 e_4_2 e_4_3, vs4 = [e_4_0, e_4_1, e_4_2, e_4_3] := (by match vs4, hvl4 with | [e_4_0, e_4_1, e_4_2, e_4_3], _ => exact ⟨e_4_0, e_4_1, e_4_2, e_4_3, rfl⟩); clear hvl4; obtain ⟨G4_0, _, ⟨ev4_0, eg4_0⟩, hr4_0, rfl⟩ := hoo4; subst ev4_0; subst eg4_0; obtain ⟨F_z1, _, ho_z1, hr4_1, rfl⟩ := hr4_0; obtain ⟨F_z2, _, ho_z2, hr4_2, rfl⟩ := hr4_1; obtain ⟨F_z3, _, ho_z3, hr4_3, rfl⟩ := hr4_2; have hend4 : _ = [] := hr4_3; subst hend4; obtain ⟨a_z1, n_z1, c_z1, rfl⟩ := (fit_dI p1).sliceO ho_z1; obtain ⟨a_z2, n_z2, c_z2, rfl⟩ := (fit_dB p2).sliceO ho_z2; obtain ⟨a_z3, n_z3, c_z3, rfl⟩ := (fit_dPR p3).sliceO ho_z3)
      | (go_at_call 35; refine (toStock_d _ (dII s0) _ (dI s1) _ _ (h_s0.below (bnext hB.drew hb4 (Nat.le_refl _))) (h_s1.below (bnext hB.drew hb4 (Nat.le_refl _))) (fit_dII s0) (fit_dI s1) hv_s0 hv_s1).mono ?_; rintro e w5 ⟨vs5, F5, rfl, hb5, hoo5, hnn5, hll5⟩; have hvl5 := owA_len _ _ _ hoo5; obtain ⟨e_5_0, e_5_1, rfl⟩ : ∃ e_5_0 e_5_1, vs5 = [e_5_0, e_5_1] := (by match vs5, hvl5 with | [e_5_0, e_5_1], _ => exact ⟨e_5_0, e_5_1, rfl⟩); clear hvl5; obtain ⟨F_z4, _, ho_z4, hr5_0, rfl⟩ := hoo5; obtain ⟨F_z5, _, ho_z5, hr5_1, rfl⟩ := hr5_0; have hend5 : _ = [] := hr5_1; subst hend5; obtain ⟨a_z4, n_z4, c_z4, rfl⟩ := (fit_dII s0).sliceO ho_z4; obtain ⟨a_z5, n_z5, c_z5, rfl⟩ := (fit_dI s1).sliceO ho_z5)
      | (go_at_call 22; refine (toInt64SS_d _ (dII weights) _ _ (h_weights.below (bnext (bnext hB.drew hb4 (Nat.le_refl _)) hb5 (Nat.le_refl _))) (fit_dII weights) hv_weights).mono ?_; rintro e w6 ⟨v6, F_z6, rfl, hb6, ho_z6, hnn6, hll6⟩; obtain ⟨a_z6, n_z6, c_z6, rfl⟩ := (fit_dII weights).sliceO ho_z6)
      | (go_at_call 34; refine (specPassInvariant_d p0 p1 p2 p3 s0 s1 weights _ (ho_z1.rdA.below (bnext hb5 hb6 (Nat.le_refl _))) (ho_z2.rdA.below (bnext hb5 hb6 (Nat.le_refl _))) (ho_z3.rdA.below (bnext hb5 hb6 (Nat.le_refl _))) (ho_z4.rdA.below hb6) (ho_z5.rdA.below hb6) ho_z6.rdA ).mono ?_; rintro e w7 ⟨rfl, hb7⟩))
  have hs7 : Below w3.heap.size w3 w7 := (((((Below.refl w3.heap.size w3).drew.trans (hb4.mono (by exact Nat.le_refl _))).trans (hb5.mono (by have h_0 : w3.heap.size ≤ w4.heap.size := hb4.size;  first | exact h_0 | omega))).trans (hb6.mono (by have h_0 : w3.heap.size ≤ w4.heap.size := hb4.size; have h_1 : w4.heap.size ≤ w5.heap.size := hb5.size; first | exact h_0 | omega))).trans (hb7.mono (by have h_0 : w3.heap.size ≤ w4.heap.size := hb4.size; have h_1 : w4.heap.size ≤ w5.heap.size := hb5.size; have h_2 : w5.heap.size ≤ w6.heap.size := hb6.size; first | exact h_0 | omega)))
  have hz4 : w3.heap.size ≤ w4.heap.size := hb4.size
  have hz5 : w4.heap.size ≤ w5.heap.size := hb5.size
  have hz6 : w5.heap.size ≤ w6.heap.size := hb6.size
  have hz7 : w6.heap.size ≤ w7.heap.size := hb7.size
  replace bx3_0 := (bcell1 hs7 (by omega)).trans bx3_0
  replace bx3_1 := (bcell1 hs7 (by omega)).trans bx3_1
  replace bx3_2 := (bcell1 hs7 (by omega)).trans bx3_2
  replace bx3_3 := (bcell1 hs7 (by omega)).trans bx3_3
  replace bx4_0 := (bcell1 hs7 (by omega)).trans bx4_0
  replace bx4_1 := (bcell1 hs7 (by omega)).trans bx4_1
  replace hB := bnext hB hs7 (Nat.le_refl _)
  clear hs7 hb4 hb5 hb6 hb7 ho_z1 ho_z2 ho_z3 ho_z4 ho_z5 ho_z6
  go_wp2_with fail
  refine (toPassing_d _ (p0) (dI p1) _ (dB p2) _ (dPR p3) _ _ (h_p1.below hB) (h_p2.below hB) (h_p3.below hB) (fit_dI p1) (fit_dB p2) (fit_dPR p3) hv_p1 hv_p2 hv_p3).mono ?_
  rintro e w8 ⟨vs8, F8, rfl, hb8, hoo8, hnn8, hll8⟩
  have hs8 : Below w7.heap.size w7 w8 := hb8
  replace bx3_0 := (bcell1 hs8 (by omega)).trans bx3_0
  replace bx3_1 := (bcell1 hs8 (by omega)).trans bx3_1
  replace bx3_2 := (bcell1 hs8 (by omega)).trans bx3_2
  replace bx3_3 := (bcell1 hs8 (by omega)).trans bx3_3
  replace bx4_0 := (bcell1 hs8 (by omega)).trans bx4_0
  replace bx4_1 := (bcell1 hs8 (by omega)).trans bx4_1
  have hz8 : w7.heap.size ≤ w8.heap.size := hb8.size
  replace hB := bnext hB hs8 (Nat.le_refl _)
  clear hb8 hs8
  have hvl8 := owA_len _ _ _ hoo8
  obtain ⟨e_8_0, e_8_1, e_8_2, e_8_3, rfl⟩ : ∃ e_8_0 e_8_1 e_8_2 e_8_3, vs8 = [e_8_0, e_8_1, e_8_2, e_8_3] := (by match vs8, hvl8 with | [e_8_0, e_8_1, e_8_2, e_8_3], _ => exact ⟨e_8_0, e_8_1, e_8_2, e_8_3, rfl⟩)
  clear hvl8
  obtain ⟨G8_0, _, ⟨ev8_0, eg8_0⟩, hr8_0, rfl⟩ := hoo8
  subst ev8_0
  subst eg8_0
  obtain ⟨F_z7, _, ho_z7, hr8_1, rfl⟩ := hr8_0
  obtain ⟨F_z8, _, ho_z8, hr8_2, rfl⟩ := hr8_1
  obtain ⟨F_z9, _, ho_z9, hr8_3, rfl⟩ := hr8_2
  have hend8 : _ = [] := hr8_3
  subst hend8
  have hl_z7 : ∀ g, g ∈ F_z7 → w7.heap.size ≤ g := fun g hg => by have := hll8 g (by simp [hg]); (try simp at this); omega
  obtain ⟨a_z7, n_z7, c_z7, rfl⟩ := (fit_dI p1).sliceO ho_z7
  have hl_z8 : ∀ g, g ∈ F_z8 → w7.heap.size ≤ g := fun g hg => by have := hll8 g (by simp [hg]); (try simp at this); omega
  obtain ⟨a_z8, n_z8, c_z8, rfl⟩ := (fit_dB p2).sliceO ho_z8
  have hl_z9 : ∀ g, g ∈ F_z9 → w7.heap.size ≤ g := fun g hg => by have := hll8 g (by simp [hg]); (try simp at this); omega
  obtain ⟨a_z9, n_z9, c_z9, rfl⟩ := (fit_dPR p3).sliceO ho_z9
  have hi_z7 : ∀ g, g ∈ F_z7 → g < w8.heap.size := Ow.lt _ _ _ ho_z7
  have hi_z8 : ∀ g, g ∈ F_z8 → g < w8.heap.size := Ow.lt _ _ _ ho_z8
  have hi_z9 : ∀ g, g ∈ F_z9 → g < w8.heap.size := Ow.lt _ _ _ ho_z9
  have hd_z7 : (F_z7 ++ (F_z8 ++ F_z9)).Nodup := by simpa using hnn8
  clear hnn8 hll8
  have lt8_0 : w.heap.size < w8.heap.size := by omega
  have lt8_1 : w.heap.size + 1 < w8.heap.size := by omega
  go_wp2_with fail
  refine (toStock_d _ (dII s0) _ (dI s1) _ _ (h_s0.below (hB.trans ((below_alloc _ _).mono (by omega)))) (h_s1.below (hB.trans ((below_alloc _ _).mono (by omega)))) (fit_dII s0) (fit_dI s1) hv_s0 hv_s1).mono ?_
  rintro e w9 ⟨vs9, F9, rfl, hb9, hoo9, hnn9, hll9⟩
  have hs9 : Below w8.heap.size w8 w9 := (below_alloc _ _).trans (hb9.mono (by simp <;> omega))
  replace bx3_0 := (bcell1 hs9 (by omega)).trans bx3_0
  replace bx3_1 := (bcell1 hs9 (by omega)).trans bx3_1
  replace bx3_2 := (bcell1 hs9 (by omega)).trans bx3_2
  replace bx3_3 := (bcell1 hs9 (by omega)).trans bx3_3
  replace bx4_0 := (bcell1 hs9 (by omega)).trans bx4_0
  replace bx4_1 := (bcell1 hs9 (by omega)).trans bx4_1
  have bx10_0 : w9.cell? ⟨w8.heap.size, 0, none⟩ = some (.int .i64 p0) := by rw [bcell1 hb9 (by simp <;> omega)]; simp [go_sem]
  have bx10_1 : w9.cell? ⟨w8.heap.size, 1, none⟩ = some (.slice a_z7 n_z7 c_z7) := by rw [bcell1 hb9 (by simp <;> omega)]; simp [go_sem]
  have bx10_2 : w9.cell? ⟨w8.heap.size, 2, none⟩ = some (.slice a_z8 n_z8 c_z8) := by rw [bcell1 hb9 (by simp <;> omega)]; simp [go_sem]
  have bx10_3 : w9.cell? ⟨w8.heap.size, 3, none⟩ = some (.slice a_z9 n_z9 c_z9) := by rw [bcell1 hb9 (by simp <;> omega)]; simp [go_sem]
  have hz9 : w8.heap.size + 1 ≤ w9.heap.size := by have := hb9.size; (try simp at this); omega
  replace ho_z7 := ho_z7.below hs9
  replace ho_z8 := ho_z8.below hs9
  replace ho_z9 := ho_z9.below hs9
  replace hB := bnext hB hs9 (Nat.le_refl _)
  clear hb9 hs9
  have hvl9 := owA_len _ _ _ hoo9
  obtain ⟨e_9_0, e_9_1, rfl⟩ : ∃ e_9_0 e_9_1, vs9 = [e_9_0, e_9_1] := (by match vs9, hvl9 with | [e_9_0, e_9_1], _ => exact ⟨e_9_0, e_9_1, rfl⟩)
  clear hvl9
  obtain ⟨F_z10, _, ho_z10, hr9_0, rfl⟩ := hoo9
  obtain ⟨F_z11, _, ho_z11, hr9_1, rfl⟩ := hr9_0
  have hend9 : _ = [] := hr9_1
  subst hend9
  have hl_z10 : ∀ g, g ∈ F_z10 → w8.heap.size + 1 ≤ g := fun g hg => by have := hll9 g (by simp [hg]); (try simp at this); omega
  obtain ⟨a_z10, n_z10, c_z10, rfl⟩ := (fit_dII s0).sliceO ho_z10
  have hl_z11 : ∀ g, g ∈ F_z11 → w8.heap.size + 1 ≤ g := fun g hg => by have := hll9 g (by simp [hg]); (try simp at this); omega
  obtain ⟨a_z11, n_z11, c_z11, rfl⟩ := (fit_dI s1).sliceO ho_z11
  have hi_z10 : ∀ g, g ∈ F_z10 → g < w9.heap.size := Ow.lt _ _ _ ho_z10
  have hi_z11 : ∀ g, g ∈ F_z11 → g < w9.heap.size := Ow.lt _ _ _ ho_z11
  have hd_z10 : (F_z10 ++ F_z11).Nodup := by simpa using hnn9
  clear hnn9 hll9
  have lt9_0 : w.heap.size < w9.heap.size := by omega
  have lt9_1 : w.heap.size + 1 < w9.heap.size := by omega
  have lt9_2 : w8.heap.size < w9.heap.size := by omega
  go_wp2_with fail
  refine (toInt64SS_d _ (dII weights) _ _ (h_weights.below (hB.trans ((below_alloc _ _).mono (by omega)))) (fit_dII weights) hv_weights).mono ?_
  rintro e w10 ⟨v10, F_z12, rfl, hb10, ho_z12, hnn10, hll10⟩
  have hs10 : Below w9.heap.size w9 w10 := (below_alloc _ _).trans (hb10.mono (by simp <;> omega))
  replace bx3_0 := (bcell1 hs10 (by omega)).trans bx3_0
  replace bx3_1 := (bcell1 hs10 (by omega)).trans bx3_1
  replace bx3_2 := (bcell1 hs10 (by omega)).trans bx3_2
  replace bx3_3 := (bcell1 hs10 (by omega)).trans bx3_3
  replace bx4_0 := (bcell1 hs10 (by omega)).trans bx4_0
  replace bx4_1 := (bcell1 hs10 (by omega)).trans bx4_1
  replace bx10_0 := (bcell1 hs10 (by omega)).trans bx10_0
  replace bx10_1 := (bcell1 hs10 (by omega)).trans bx10_1
  replace bx10_2 := (bcell1 hs10 (by omega)).trans bx10_2
  replace bx10_3 := (bcell1 hs10 (by omega)).trans bx10_3
  have bx11_0 : w10.cell? ⟨w9.heap.size, 0, none⟩ = some (.slice a_z10 n_z10 c_z10) := by rw [bcell1 hb10 (by simp <;> omega)]; simp [go_sem]
  have bx11_1 : w10.cell? ⟨w9.heap.size, 1, none⟩ = some (.slice a_z11 n_z11 c_z11) := by rw [bcell1 hb10 (by simp <;> omega)]; simp [go_sem]
  have hz10 : w9.heap.size + 1 ≤ w10.heap.size := by have := hb10.size; (try simp at this); omega
  replace ho_z7 := ho_z7.below hs10
  replace ho_z8 := ho_z8.below hs10
  replace ho_z9 := ho_z9.below hs10
  replace ho_z10 := ho_z10.below hs10
  replace ho_z11 := ho_z11.below hs10
  replace hB := bnext hB hs10 (Nat.le_refl _)
  clear hb10 hs10
  have hl_z12 : ∀ g, g ∈ F_z12 → w9.heap.size + 1 ≤ g := fun g hg => by have := hll10 g hg; (try simp at this); omega
  obtain ⟨a_z12, n_z12, c_z12, rfl⟩ := (fit_dII weights).sliceO ho_z12
  have hi_z12 : ∀ g, g ∈ F_z12 → g < w10.heap.size := Ow.lt _ _ _ ho_z12
  have hd_z12 := hnn10
  clear hnn10 hll10
  go_wp2_with fail
  refine (implPassInvariant_d p0 p1 p2 p3 s0 s1 weights _ ho_z7 ho_z8 ho_z9 ho_z10 ho_z11 ho_z12 ).mono ?_
  rintro e w11 ⟨rfl, hb11⟩
  have hs11 : Below w10.heap.size w10 w11 := hb11
  replace bx3_0 := (bcell1 hs11 (by omega)).trans bx3_0
  replace bx3_1 := (bcell1 hs11 (by omega)).trans bx3_1
  replace bx3_2 := (bcell1 hs11 (by omega)).trans bx3_2
  replace bx3_3 := (bcell1 hs11 (by omega)).trans bx3_3
  replace bx4_0 := (bcell1 hs11 (by omega)).trans bx4_0
  replace bx4_1 := (bcell1 hs11 (by omega)).trans bx4_1
  replace bx10_0 := (bcell1 hs11 (by omega)).trans bx10_0
  replace bx10_1 := (bcell1 hs11 (by omega)).trans bx10_1
  replace bx10_2 := (bcell1 hs11 (by omega)).trans bx10_2
  replace bx10_3 := (bcell1 hs11 (by omega)).trans bx10_3
  replace bx11_0 := (bcell1 hs11 (by omega)).trans bx11_0
  replace bx11_1 := (bcell1 hs11 (by omega)).trans bx11_1
  have hz11 : w10.heap.size ≤ w11.heap.size := hb11.size
  replace ho_z7 := ho_z7.below hs11
  replace ho_z8 := ho_z8.below hs11
  replace ho_z9 := ho_z9.below hs11
  replace ho_z10 := ho_z10.below hs11
  replace ho_z11 := ho_z11.below hs11
  replace ho_z12 := ho_z12.below hs11
  replace hB := bnext hB hs11 (Nat.le_refl _)
  clear hb11 hs11
  go_wp2_with fail
  go_region_held3 (fun wx => wx.cell? ⟨w.heap.size, 0, none⟩ = some (.int .i64 p0) ∧ wx.cell? ⟨w.heap.size, 1, none⟩ = some (.slice a_p1 n_p1 c_p1) ∧ wx.cell? ⟨w.heap.size, 2, none⟩ = some (.slice a_p2 n_p2 c_p2) ∧ wx.cell? ⟨w.heap.size, 3, none⟩ = some (.slice a_p3 n_p3 c_p3) ∧ wx.cell? ⟨w.heap.size + 1, 0, none⟩ = some (.slice a_s0 n_s0 c_s0) ∧ wx.cell? ⟨w.heap.size + 1, 1, none⟩ = some (.slice a_s1 n_s1 c_s1) ∧ wx.cell? ⟨w8.heap.size, 0, none⟩ = some (.int .i64 p0) ∧ wx.cell? ⟨w8.heap.size, 1, none⟩ = some (.slice a_z7 n_z7 c_z7) ∧ wx.cell? ⟨w8.heap.size, 2, none⟩ = some (.slice a_z8 n_z8 c_z8) ∧ wx.cell? ⟨w8.heap.size, 3, none⟩ = some (.slice a_z9 n_z9 c_z9) ∧ wx.cell? ⟨w9.heap.size, 0, none⟩ = some (.slice a_z10 n_z10 c_z10) ∧ wx.cell? ⟨w9.heap.size, 1, none⟩ = some (.slice a_z11 n_z11 c_z11))
    (first
      | go_keep
      | (refine ⟨?_, ?_, ?_, ?_, ?_, ?_, ?_, ?_, ?_, ?_, ?_, ?_⟩ <;> (rw [bcell1 hb12 (by show _ < w11.heap.size; omega)]; assumption))
      | (have h1_ : w11.heap.size ≤ w12.heap.size := hb12.size; (try go_split_ands); refine ⟨?_, ?_, ?_, ?_, ?_, ?_, ?_, ?_, ?_, ?_, ?_, ?_⟩ <;> (rw [bcell1 hb13 (by omega)]; assumption)))
    (first
      | (go_at_call 15; refine (toPassing_d _ (p0) (dI p1) _ (dB p2) _ (dPR p3) _ _ (h_p1.below hB.drew) (h_p2.below hB.drew) (h_p3.below hB.drew) (fit_dI p1) (fit_dB p2) (fit_dPR p3) hv_p1 hv_p2 hv_p3).mono ?_; rintro e w12 ⟨vs12, F12, rfl, hb12, hoo12, hnn12, hll12⟩; have hvl12 := owA_len _ _ _ hoo12; obtain ⟨e_12_0, e_12_1, e_12_2, e_12_3, rfl⟩ : ∃ e_12_0 e_12_1 e_12_2 e_12_3, vs12 = [e_12_0, e_12_1, e_12_2, e_12_3] := (by match vs12, hvl12 with | [e_12_0, e_12_1, e_12_2, e_12_3], _ => exact ⟨e_12_0, e_12_1, e_12_2, e_12_3, rfl⟩); clear hvl12; obtain ⟨G12_0, _, ⟨ev12_0, eg12_0⟩, hr12_0, rfl⟩ := hoo12; subst ev12_0; subst eg12_0; obtain ⟨F_z13, _, ho_z13, hr12_1, rfl⟩ := hr12_0; obtain ⟨F_z14, _, ho_z14, hr12_2, rfl⟩ := hr12_1; obtain ⟨F_z15, _, ho_z15, hr12_3, rfl⟩ := hr12_2; have hend12 : _ = [] := hr12_3; subst hend12; obtain ⟨a_z13, n_z13, c_z13, rfl⟩ := (fit_dI p1).sliceO ho_z13; obtain ⟨a_z14, n_z14, c_z14, rfl⟩ := (fit_dB p2).sliceO ho_z14; obtain ⟨a_z15, n_z15, c_z15, rfl⟩ := (fit_dPR p3).sliceO ho_z15)
      | (go_at_call 17; refine (eqPassing_d (p0) (dI p1) _ (dB p2) _ (dPR p3) _ _ _ _ _ (ho_z7.rdA.below ((Below.refl w11.heap.size w11).drew.trans (hb12.mono (by exact Nat.le_refl _)))) (ho_z8.rdA.below ((Below.refl w11.heap.size w11).drew.trans (hb12.mono (by exact Nat.le_refl _)))) (ho_z9.rdA.below ((Below.refl w11.heap.size w11).drew.trans (hb12.mono (by exact Nat.le_refl _)))) ho_z13.rdA ho_z14.rdA ho_z15.rdA (fit_dI p1) (fit_dB p2) (fit_dPR p3)).mono ?_; rintro e w13 ⟨rfl, hb13⟩))
  have hs13 : Below w11.heap.size w11 w13 := (((Below.refl w11.heap.size w11).drew.trans (hb12.mono (by exact Nat.le_refl _))).trans (hb13.mono (by have h_0 : w11.heap.size ≤ w12.heap.size := hb12.size;  first | exact h_0 | omega)))
  have hz12 : w11.heap.size ≤ w12.heap.size := hb12.size
  have hz13 : w12.heap.size ≤ w13.heap.size := hb13.size
  replace bx3_0 := (bcell1 hs13 (by omega)).trans bx3_0
  replace bx3_1 := (bcell1 hs13 (by omega)).trans bx3_1
  replace bx3_2 := (bcell1 hs13 (by omega)).trans bx3_2
  replace bx3_3 := (bcell1 hs13 (by omega)).trans bx3_3
  replace bx4_0 := (bcell1 hs13 (by omega)).trans bx4_0
  replace bx4_1 := (bcell1 hs13 (by omega)).trans bx4_1
  replace bx10_0 := (bcell1 hs13 (by omega)).trans bx10_0
  replace bx10_1 := (bcell1 hs13 (by omega)).trans bx10_1
  replace bx10_2 := (bcell1 hs13 (by omega)).trans bx10_2
  replace bx10_3 := (bcell1 hs13 (by omega)).trans bx10_3
  replace bx11_0 := (bcell1 hs13 (by omega)).trans bx11_0
  replace bx11_1 := (bcell1 hs13 (by omega)).trans bx11_1
  replace ho_z7 := ho_z7.below hs13
  replace ho_z8 := ho_z8.below hs13
  replace ho_z9 := ho_z9.below hs13
  replace ho_z10 := ho_z10.below hs13
  replace ho_z11 := ho_z11.below hs13
  replace ho_z12 := ho_z12.below hs13
  replace hB := bnext hB hs13 (Nat.le_refl _)
  clear hs13 hb12 hb13 ho_z13 ho_z14 ho_z15
  clear ho_z7 ho_z8 ho_z9
  go_wp2_with fail
  go_region_held3 (fun wx => wx.cell? ⟨w.heap.size, 0, none⟩ = some (.int .i64 p0) ∧ wx.cell? ⟨w.heap.size, 1, none⟩ = some (.slice a_p1 n_p1 c_p1) ∧ wx.cell? ⟨w.heap.size, 2, none⟩ = some (.slice a_p2 n_p2 c_p2) ∧ wx.cell? ⟨w.heap.size, 3, none⟩ = some (.slice a_p3 n_p3 c_p3) ∧ wx.cell? ⟨w.heap.size + 1, 0, none⟩ = some (.slice a_s0 n_s0 c_s0) ∧ wx.cell? ⟨w.heap.size + 1, 1, none⟩ = some (.slice a_s1 n_s1 c_s1) ∧ wx.cell? ⟨w8.heap.size, 0, none⟩ = some (.int .i64 p0) ∧ wx.cell? ⟨w8.heap.size, 1, none⟩ = some (.slice a_z7 n_z7 c_z7) ∧ wx.cell? ⟨w8.heap.size, 2, none⟩ = some (.slice a_z8 n_z8 c_z8) ∧ wx.cell? ⟨w8.heap.size, 3, none⟩ = some (.slice a_z9 n_z9 c_z9) ∧ wx.cell? ⟨w9.heap.size, 0, none⟩ = some (.slice a_z10 n_z10 c_z10) ∧ wx.cell? ⟨w9.heap.size, 1, none⟩ = some (.slice a_z11 n_z11 c_z11))
    (first
      | go_keep
      | (refine ⟨?_, ?_, ?_, ?_, ?_, ?_, ?_, ?_, ?_, ?_, ?_, ?_⟩ <;> (rw [bcell1 hb14 (by show _ < w13.heap.size; omega)]; assumption))
      | (have h1_ : w13.heap.size ≤ w14.heap.size := hb14.size; (try go_split_ands); refine ⟨?_, ?_, ?_, ?_, ?_, ?_, ?_, ?_, ?_, ?_, ?_, ?_⟩ <;> (rw [bcell1 hb15 (by omega)]; assumption)))
    (first
      | (go_at_call 35; refine (toStock_d _ (dII s0) _ (dI s1) _ _ (h_s0.below hB.drew) (h_s1.below hB.drew) (fit_dII s0) (fit_dI s1) hv_s0 hv_s1).mono ?_; rintro e w14 ⟨vs14, F14, rfl, hb14, hoo14, hnn14, hll14⟩; have hvl14 := owA_len _ _ _ hoo14; obtain ⟨e_14_0, e_14_1, rfl⟩ : ∃ e_14_0 e_14_1, vs14 = [e_14_0, e_14_1] := (by match vs14, hvl14 with | [e_14_0, e_14_1], _ => exact ⟨e_14_0, e_14_1, rfl⟩); clear hvl14; obtain ⟨F_z16, _, ho_z16, hr14_0, rfl⟩ := hoo14; obtain ⟨F_z17, _, ho_z17, hr14_1, rfl⟩ := hr14_0; have hend14 : _ = [] := hr14_1; subst hend14; obtain ⟨a_z16, n_z16, c_z16, rfl⟩ := (fit_dII s0).sliceO ho_z16; obtain ⟨a_z17, n_z17, c_z17, rfl⟩ := (fit_dI s1).sliceO ho_z17)
      | (go_at_call 37; refine (eqStock_d (dII s0) _ (dI s1) _ _ _ _ (ho_z10.rdA.below ((Below.refl w13.heap.size w13).drew.trans (hb14.mono (by exact Nat.le_refl _)))) (ho_z11.rdA.below ((Below.refl w13.heap.size w13).drew.trans (hb14.mono (by exact Nat.le_refl _)))) ho_z16.rdA ho_z17.rdA (fit_dII s0) (fit_dI s1)).mono ?_; rintro e w15 ⟨rfl, hb15⟩))
  have hs15 : Below w13.heap.size w13 w15 := (((Below.refl w13.heap.size w13).drew.trans (hb14.mono (by exact Nat.le_refl _))).trans (hb15.mono (by have h_0 : w13.heap.size ≤ w14.heap.size := hb14.size;  first | exact h_0 | omega)))
  have hz14 : w13.heap.size ≤ w14.heap.size := hb14.size
  have hz15 : w14.heap.size ≤ w15.heap.size := hb15.size
  replace bx3_0 := (bcell1 hs15 (by omega)).trans bx3_0
  replace bx3_1 := (bcell1 hs15 (by omega)).trans bx3_1
  replace bx3_2 := (bcell1 hs15 (by omega)).trans bx3_2
  replace bx3_3 := (bcell1 hs15 (by omega)).trans bx3_3
  replace bx4_0 := (bcell1 hs15 (by omega)).trans bx4_0
  replace bx4_1 := (bcell1 hs15 (by omega)).trans bx4_1
  replace bx10_0 := (bcell1 hs15 (by omega)).trans bx10_0
  replace bx10_1 := (bcell1 hs15 (by omega)).trans bx10_1
  replace bx10_2 := (bcell1 hs15 (by omega)).trans bx10_2
  replace bx10_3 := (bcell1 hs15 (by omega)).trans bx10_3
  replace bx11_0 := (bcell1 hs15 (by omega)).trans bx11_0
  replace bx11_1 := (bcell1 hs15 (by omega)).trans bx11_1
  replace ho_z10 := ho_z10.below hs15
  replace ho_z11 := ho_z11.below hs15
  replace ho_z12 := ho_z12.below hs15
  replace hB := bnext hB hs15 (Nat.le_refl _)
  clear hs15 hb14 hb15 ho_z16 ho_z17
  clear ho_z10 ho_z11
  go_wp2_with fail
  refine (toInt64SS_d _ (dII weights) _ _ (h_weights.below hB) (fit_dII weights) hv_weights).mono ?_
  rintro e w16 ⟨v16, F_z18, rfl, hb16, ho_z18, hnn16, hll16⟩
  have hs16 : Below w15.heap.size w15 w16 := hb16
  replace bx3_0 := (bcell1 hs16 (by omega)).trans bx3_0
  replace bx3_1 := (bcell1 hs16 (by omega)).trans bx3_1
  replace bx3_2 := (bcell1 hs16 (by omega)).trans bx3_2
  replace bx3_3 := (bcell1 hs16 (by omega)).trans bx3_3
  replace bx4_0 := (bcell1 hs16 (by omega)).trans bx4_0
  replace bx4_1 := (bcell1 hs16 (by omega)).trans bx4_1
  replace bx10_0 := (bcell1 hs16 (by omega)).trans bx10_0
  replace bx10_1 := (bcell1 hs16 (by omega)).trans bx10_1
  replace bx10_2 := (bcell1 hs16 (by omega)).trans bx10_2
  replace bx10_3 := (bcell1 hs16 (by omega)).trans bx10_3
  replace bx11_0 := (bcell1 hs16 (by omega)).trans bx11_0
  replace bx11_1 := (bcell1 hs16 (by omega)).trans bx11_1
  have hz16 : w15.heap.size ≤ w16.heap.size := hb16.size
  replace ho_z12 := ho_z12.below hs16
  replace hB := bnext hB hs16 (Nat.le_refl _)
  clear hb16 hs16
  have hl_z18 : ∀ g, g ∈ F_z18 → w15.heap.size ≤ g := fun g hg => by have := hll16 g hg; (try simp at this); omega
  obtain ⟨a_z18, n_z18, c_z18, rfl⟩ := (fit_dII weights).sliceO ho_z18
  have hi_z18 : ∀ g, g ∈ F_z18 → g < w16.heap.size := Ow.lt _ _ _ ho_z18
  have hd_z18 := hnn16
  clear hnn16 hll16
  go_wp2_with fail
  refine (eqInt64SS_d (dII weights) _ _ _ ho_z12.rdA ho_z18.rdA (fit_dII weights)).mono ?_
  rintro e w17 ⟨rfl, hb17⟩
  have hs17 : Below w16.heap.size w16 w17 := hb17
  replace bx3_0 := (bcell1 hs17 (by omega)).trans bx3_0
  replace bx3_1 := (bcell1 hs17 (by omega)).trans bx3_1
  replace bx3_2 := (bcell1 hs17 (by omega)).trans bx3_2
  replace bx3_3 := (bcell1 hs17 (by omega)).trans bx3_3
  replace bx4_0 := (bcell1 hs17 (by omega)).trans bx4_0
  replace bx4_1 := (bcell1 hs17 (by omega)).trans bx4_1
  replace bx10_0 := (bcell1 hs17 (by omega)).trans bx10_0
  replace bx10_1 := (bcell1 hs17 (by omega)).trans bx10_1
  replace bx10_2 := (bcell1 hs17 (by omega)).trans bx10_2
  replace bx10_3 := (bcell1 hs17 (by omega)).trans bx10_3
  replace bx11_0 := (bcell1 hs17 (by omega)).trans bx11_0
  replace bx11_1 := (bcell1 hs17 (by omega)).trans bx11_1
  have hz17 : w16.heap.size ≤ w17.heap.size := hb17.size
  replace ho_z12 := ho_z12.below hs17
  replace ho_z18 := ho_z18.below hs17
  replace hB := bnext hB hs17 (Nat.le_refl _)
  clear hb17 hs17
  clear ho_z12 ho_z18
  go_wp2
  go_ret
  exact ⟨rfl, hB⟩
set_option maxRecDepth 100000 in
theorem lifted (os : Os) (started : os.Started) (H : Type) (enc : TypeId × Value → H) :
    ReturnsInHanded {} Try.checked os 6 .any (Rows.fnExactPassInvariantSpec.pre6 enc Try.prog Try.f6 Rows.fnExactPassInvariantRow.domain false) (Rows.fnExactPassInvariantSpec.post enc Try.prog Try.f6 false true false false) :=
  lift Try.func6 (by kernel_rfl) rfl rfl (by kernel_rfl : Try.prog.underlying 4 = some .bool) (by kernel_rfl) (fun ds h => by match ds, h with | [d0, d1, d2], _ => rfl) started
    (ChangeSpec.witness6 (enc := enc) (C := Try.checked) false ⟨#[], #[.agg #[.int .i64 0, .slice none 0 0, .slice none 0 0, .slice none 0 0], .agg #[.slice none 0 0, .slice none 0 0], .slice none 0 0], []⟩ 8 (by kernel_rfl) (by kernel_rfl) (by kernel_rfl) (by kernel_rfl))
    (fun W base args ds p hval hA => by
      rw [Try.params6] at hA hval
      obtain ⟨v0, vs0, d0, ds0, p0, q0, hargs0, rfl, rfl, g0, r0⟩ := ChangeShapes.trodAll_cons hA
      obtain ⟨v1, vs1, d1, ds1, p1, q1, hargs1, rfl, rfl, g1, r1⟩ := ChangeShapes.trodAll_cons r0
      obtain ⟨v2, vs2, d2, ds2, p2, q2, hargs2, rfl, rfl, g2, r2⟩ := ChangeShapes.trodAll_cons r1
      obtain ⟨hnil, rfl, rfl⟩ := ChangeShapes.trodAll_nil r2
      obtain rfl : args = #[v0, v1, v2] := by cases args; simp_all
      obtain ⟨vs0x, dsx0, rfl, fx0, rx0⟩ := open_A [.i, .l [.i], .l [.b], .l [.i, .l [.i], .l [.i]]] Try.underlying26 (by kernel_rfl) (hval 0 _ _ rfl rfl) g0
      obtain ⟨_, s0_0, rfl, ⟨x0_0, rfl⟩, t0_0⟩ := fx0
      obtain ⟨_, s0_1, rfl, j0_1, t0_1⟩ := t0_0
      obtain ⟨x0_1, rfl⟩ := fitD_I j0_1
      obtain ⟨_, s0_2, rfl, j0_2, t0_2⟩ := t0_1
      obtain ⟨x0_2, rfl⟩ := fitD_B j0_2
      obtain ⟨_, s0_3, rfl, j0_3, t0_3⟩ := t0_2
      obtain ⟨x0_3, rfl⟩ := fitD_PR j0_3
      obtain rfl : s0_3 = [] := t0_3
      obtain ⟨y0_0, z0_0, e0_0, k0_0, l0_0⟩ := rx0
      subst e0_0
      obtain rfl : y0_0 = .int .i64 x0_0 := k0_0
      obtain ⟨y0_1, z0_1, e0_1, k0_1, l0_1⟩ := l0_0
      subst e0_1
      obtain ⟨y0_2, z0_2, e0_2, k0_2, l0_2⟩ := l0_1
      subst e0_2
      obtain ⟨y0_3, z0_3, e0_3, k0_3, l0_3⟩ := l0_2
      subst e0_3
      obtain rfl : z0_3 = [] := l0_3
      obtain ⟨vs1x, dsx1, rfl, fx1, rx1⟩ := open_A [.l [.l [.i]], .l [.i]] Try.underlying62 (by kernel_rfl) (hval 1 _ _ rfl rfl) g1
      obtain ⟨_, s1_0, rfl, j1_0, t1_0⟩ := fx1
      obtain ⟨x1_0, rfl⟩ := fitD_II j1_0
      obtain ⟨_, s1_1, rfl, j1_1, t1_1⟩ := t1_0
      obtain ⟨x1_1, rfl⟩ := fitD_I j1_1
      obtain rfl : s1_1 = [] := t1_1
      obtain ⟨y1_0, z1_0, e1_0, k1_0, l1_0⟩ := rx1
      subst e1_0
      obtain ⟨y1_1, z1_1, e1_1, k1_1, l1_1⟩ := l1_0
      subst e1_1
      obtain rfl : z1_1 = [] := l1_1
      obtain ⟨dx2, fx2, rx2⟩ := open_L Try.underlying37 (by kernel_rfl : shapeOf Try.prog 6 37 = some [.l [.l [.i]]]) (hval 2 _ _ rfl rfl) g2
      obtain ⟨x2, rfl⟩ := fitD_II fx2
      exact walk x0_0 x0_1 y0_1 x0_2 y0_2 x0_3 y0_3 x1_0 y1_0 x1_1 y1_1 x2 v2 W k0_1 k0_2 k0_3 k1_0 k1_1 rx2)
end Go.Proofs.Ytldjgkandkclpaa.lawPassInvariant
