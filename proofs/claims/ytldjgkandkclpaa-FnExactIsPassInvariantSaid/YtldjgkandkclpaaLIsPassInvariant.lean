/- FnExactIsPassInvariant: whatever the input, the law returns true. No condition. Written by lawgen2.py. -/
import Derived.Test.YtldjgkandkclpaaIP
import Derived.Test.YtldjgkandkclpaaF
import Derived.Test.YtldjgkandkclpaaWB
import Derived.Test.YtldjgkandkclpaaYP
import Derived.Deep.RegionHeld3
namespace Go.Proofs.Ytldjgkandkclpaa.lawIsPassInvariant
open Go.ChangeShapes Go.WideShapes Go.ChangeAt Go.RowKit
set_option maxHeartbeats 3000000 in
set_option maxRecDepth 100000 in
theorem walk (p0 : Int) (p1 : List Int) (v_p1 : Value) (p2 : List Bool) (v_p2 : Value) (p3 : List PR) (v_p3 : Value) (weights : List (List Int)) (v_weights : Value) (w : World) (h_p1 : Rd (· < w.heap.size) w (dI p1) v_p1) (h_p2 : Rd (· < w.heap.size) w (dB p2) v_p2) (h_p3 : Rd (· < w.heap.size) w (dPR p3) v_p3) (h_weights : Rd (· < w.heap.size) w (dII weights) v_weights) :
    Calls Try.prog 4 #[.agg #[.int .i64 p0, v_p1, v_p2, v_p3], v_weights] w (RetV w (.bool true)) := by
  obtain ⟨a_p1, n_p1, c_p1, rfl⟩ := (fit_dI p1).sliceR h_p1
  obtain ⟨a_p2, n_p2, c_p2, rfl⟩ := (fit_dB p2).sliceR h_p2
  obtain ⟨a_p3, n_p3, c_p3, rfl⟩ := (fit_dPR p3).sliceR h_p3
  obtain ⟨a_weights, n_weights, c_weights, rfl⟩ := (fit_dII weights).sliceR h_weights
  have hB := Below.refl w.heap.size w
  go_enter Try.func4, Try.ntmps4
  go_wp2_with fail
  refine (szPassing_d _ (p0) (dI p1) _ (dB p2) _ (dPR p3) _ 1048576 _ (h_p1.below (hB.trans (below_alloc _ _))) (h_p2.below (hB.trans (below_alloc _ _))) (h_p3.below (hB.trans (below_alloc _ _))) (fit_dI p1) (fit_dB p2) (fit_dPR p3) (by omega) (by omega)).mono ?_
  rintro e w1 ⟨L1, rfl, hb1, yy1, uu1, p1⟩
  have hs1 : Below w.heap.size w w1 := (below_alloc _ _).trans (hb1.mono (by simp <;> omega))
  have bx2_0 : w1.cell? ⟨w.heap.size, 0, none⟩ = some (.int .i64 p0) := by rw [bcell1 hb1 (by simp <;> omega)]; simp [go_sem]
  have bx2_1 : w1.cell? ⟨w.heap.size, 1, none⟩ = some (.slice a_p1 n_p1 c_p1) := by rw [bcell1 hb1 (by simp <;> omega)]; simp [go_sem]
  have bx2_2 : w1.cell? ⟨w.heap.size, 2, none⟩ = some (.slice a_p2 n_p2 c_p2) := by rw [bcell1 hb1 (by simp <;> omega)]; simp [go_sem]
  have bx2_3 : w1.cell? ⟨w.heap.size, 3, none⟩ = some (.slice a_p3 n_p3 c_p3) := by rw [bcell1 hb1 (by simp <;> omega)]; simp [go_sem]
  have hz1 : w.heap.size + 1 ≤ w1.heap.size := by have := hb1.size; (try simp at this); omega
  replace hB := bnext hB hs1 (Nat.le_refl _)
  clear hb1 hs1
  by_cases n1 : L1 < 0
  · go_wp2
    go_ret
    exact ⟨rfl, hB⟩
  have q1 := p1 (by omega)
  have m1 : 0 ≤ L1 := by omega
  clear p1
  have hv_p1 : vol (dI p1) ≤ 16777216 := by omega
  have hv_p2 : vol (dB p2) ≤ 16777216 := by omega
  have hv_p3 : vol (dPR p3) ≤ 16777216 := by omega
  go_wp2_with fail
  refine (szInt64SS_d _ (dII weights) _ L1 _ (h_weights.below hB) (fit_dII weights) (by omega) (by omega)).mono ?_
  rintro e w2 ⟨L2, rfl, hb2, yy2, uu2, p2⟩
  have hs2 : Below w1.heap.size w1 w2 := hb2
  replace bx2_0 := (bcell1 hs2 (by omega)).trans bx2_0
  replace bx2_1 := (bcell1 hs2 (by omega)).trans bx2_1
  replace bx2_2 := (bcell1 hs2 (by omega)).trans bx2_2
  replace bx2_3 := (bcell1 hs2 (by omega)).trans bx2_3
  have hz2 : w1.heap.size ≤ w2.heap.size := hb2.size
  replace hB := bnext hB hs2 (Nat.le_refl _)
  clear hb2 hs2
  by_cases n2 : L2 < 0
  · go_wp2
    go_ret
    exact ⟨rfl, hB⟩
  have q2 := p2 (by omega)
  have m2 : 0 ≤ L2 := by omega
  clear p2
  have hv_weights : vol (dII weights) ≤ 16777216 := by omega
  go_wp2_with fail
  refine (toPassing_d _ (p0) (dI p1) _ (dB p2) _ (dPR p3) _ _ (h_p1.below hB) (h_p2.below hB) (h_p3.below hB) (fit_dI p1) (fit_dB p2) (fit_dPR p3) hv_p1 hv_p2 hv_p3).mono ?_
  rintro e w3 ⟨vs3, F3, rfl, hb3, hoo3, hnn3, hll3⟩
  have hs3 : Below w2.heap.size w2 w3 := hb3
  replace bx2_0 := (bcell1 hs3 (by omega)).trans bx2_0
  replace bx2_1 := (bcell1 hs3 (by omega)).trans bx2_1
  replace bx2_2 := (bcell1 hs3 (by omega)).trans bx2_2
  replace bx2_3 := (bcell1 hs3 (by omega)).trans bx2_3
  have hz3 : w2.heap.size ≤ w3.heap.size := hb3.size
  replace hB := bnext hB hs3 (Nat.le_refl _)
  clear hb3 hs3
  have hvl3 := owA_len _ _ _ hoo3
  obtain ⟨e_3_0, e_3_1, e_3_2, e_3_3, rfl⟩ : ∃ e_3_0 e_3_1 e_3_2 e_3_3, vs3 = [e_3_0, e_3_1, e_3_2, e_3_3] := (by match vs3, hvl3 with | [e_3_0, e_3_1, e_3_2, e_3_3], _ => exact ⟨e_3_0, e_3_1, e_3_2, e_3_3, rfl⟩)
  clear hvl3
  obtain ⟨G3_0, _, ⟨ev3_0, eg3_0⟩, hr3_0, rfl⟩ := hoo3
  subst ev3_0
  subst eg3_0
  obtain ⟨F_z1, _, ho_z1, hr3_1, rfl⟩ := hr3_0
  obtain ⟨F_z2, _, ho_z2, hr3_2, rfl⟩ := hr3_1
  obtain ⟨F_z3, _, ho_z3, hr3_3, rfl⟩ := hr3_2
  have hend3 : _ = [] := hr3_3
  subst hend3
  have hl_z1 : ∀ g, g ∈ F_z1 → w2.heap.size ≤ g := fun g hg => by have := hll3 g (by simp [hg]); (try simp at this); omega
  obtain ⟨a_z1, n_z1, c_z1, rfl⟩ := (fit_dI p1).sliceO ho_z1
  have hl_z2 : ∀ g, g ∈ F_z2 → w2.heap.size ≤ g := fun g hg => by have := hll3 g (by simp [hg]); (try simp at this); omega
  obtain ⟨a_z2, n_z2, c_z2, rfl⟩ := (fit_dB p2).sliceO ho_z2
  have hl_z3 : ∀ g, g ∈ F_z3 → w2.heap.size ≤ g := fun g hg => by have := hll3 g (by simp [hg]); (try simp at this); omega
  obtain ⟨a_z3, n_z3, c_z3, rfl⟩ := (fit_dPR p3).sliceO ho_z3
  have hi_z1 : ∀ g, g ∈ F_z1 → g < w3.heap.size := Ow.lt _ _ _ ho_z1
  have hi_z2 : ∀ g, g ∈ F_z2 → g < w3.heap.size := Ow.lt _ _ _ ho_z2
  have hi_z3 : ∀ g, g ∈ F_z3 → g < w3.heap.size := Ow.lt _ _ _ ho_z3
  have hd_z1 : (F_z1 ++ (F_z2 ++ F_z3)).Nodup := by simpa using hnn3
  clear hnn3 hll3
  go_wp2_with fail
  refine (toInt64SS_d _ (dII weights) _ _ (h_weights.below hB) (fit_dII weights) hv_weights).mono ?_
  rintro e w4 ⟨v4, F_z4, rfl, hb4, ho_z4, hnn4, hll4⟩
  have hs4 : Below w3.heap.size w3 w4 := hb4
  replace bx2_0 := (bcell1 hs4 (by omega)).trans bx2_0
  replace bx2_1 := (bcell1 hs4 (by omega)).trans bx2_1
  replace bx2_2 := (bcell1 hs4 (by omega)).trans bx2_2
  replace bx2_3 := (bcell1 hs4 (by omega)).trans bx2_3
  have hz4 : w3.heap.size ≤ w4.heap.size := hb4.size
  replace ho_z1 := ho_z1.below hs4
  replace ho_z2 := ho_z2.below hs4
  replace ho_z3 := ho_z3.below hs4
  replace hB := bnext hB hs4 (Nat.le_refl _)
  clear hb4 hs4
  have hl_z4 : ∀ g, g ∈ F_z4 → w3.heap.size ≤ g := fun g hg => by have := hll4 g hg; (try simp at this); omega
  obtain ⟨a_z4, n_z4, c_z4, rfl⟩ := (fit_dII weights).sliceO ho_z4
  have hi_z4 : ∀ g, g ∈ F_z4 → g < w4.heap.size := Ow.lt _ _ _ ho_z4
  have hd_z4 := hnn4
  clear hnn4 hll4
  go_wp2_with fail
  refine (specIsPassInvariant_d p0 p1 p2 p3 weights _ ho_z1.rdA ho_z2.rdA ho_z3.rdA ho_z4.rdA ).mono ?_
  rintro e w5 ⟨rfl, hb5⟩
  have hs5 : Below w4.heap.size w4 w5 := hb5
  replace bx2_0 := (bcell1 hs5 (by omega)).trans bx2_0
  replace bx2_1 := (bcell1 hs5 (by omega)).trans bx2_1
  replace bx2_2 := (bcell1 hs5 (by omega)).trans bx2_2
  replace bx2_3 := (bcell1 hs5 (by omega)).trans bx2_3
  have hz5 : w4.heap.size ≤ w5.heap.size := hb5.size
  replace ho_z1 := ho_z1.below hs5
  replace ho_z2 := ho_z2.below hs5
  replace ho_z3 := ho_z3.below hs5
  replace ho_z4 := ho_z4.below hs5
  replace hB := bnext hB hs5 (Nat.le_refl _)
  clear hb5 hs5
  clear ho_z1 ho_z2 ho_z3 ho_z4
  go_wp2_with fail
  refine (toPassing_d _ (p0) (dI p1) _ (dB p2) _ (dPR p3) _ _ (h_p1.below hB) (h_p2.below hB) (h_p3.below hB) (fit_dI p1) (fit_dB p2) (fit_dPR p3) hv_p1 hv_p2 hv_p3).mono ?_
  rintro e w6 ⟨vs6, F6, rfl, hb6, hoo6, hnn6, hll6⟩
  have hs6 : Below w5.heap.size w5 w6 := hb6
  replace bx2_0 := (bcell1 hs6 (by omega)).trans bx2_0
  replace bx2_1 := (bcell1 hs6 (by omega)).trans bx2_1
  replace bx2_2 := (bcell1 hs6 (by omega)).trans bx2_2
  replace bx2_3 := (bcell1 hs6 (by omega)).trans bx2_3
  have hz6 : w5.heap.size ≤ w6.heap.size := hb6.size
  replace hB := bnext hB hs6 (Nat.le_refl _)
  clear hb6 hs6
  have hvl6 := owA_len _ _ _ hoo6
  obtain ⟨e_6_0, e_6_1, e_6_2, e_6_3, rfl⟩ : ∃ e_6_0 e_6_1 e_6_2 e_6_3, vs6 = [e_6_0, e_6_1, e_6_2, e_6_3] := (by match vs6, hvl6 with | [e_6_0, e_6_1, e_6_2, e_6_3], _ => exact ⟨e_6_0, e_6_1, e_6_2, e_6_3, rfl⟩)
  clear hvl6
  obtain ⟨G6_0, _, ⟨ev6_0, eg6_0⟩, hr6_0, rfl⟩ := hoo6
  subst ev6_0
  subst eg6_0
  obtain ⟨F_z5, _, ho_z5, hr6_1, rfl⟩ := hr6_0
  obtain ⟨F_z6, _, ho_z6, hr6_2, rfl⟩ := hr6_1
  obtain ⟨F_z7, _, ho_z7, hr6_3, rfl⟩ := hr6_2
  have hend6 : _ = [] := hr6_3
  subst hend6
  have hl_z5 : ∀ g, g ∈ F_z5 → w5.heap.size ≤ g := fun g hg => by have := hll6 g (by simp [hg]); (try simp at this); omega
  obtain ⟨a_z5, n_z5, c_z5, rfl⟩ := (fit_dI p1).sliceO ho_z5
  have hl_z6 : ∀ g, g ∈ F_z6 → w5.heap.size ≤ g := fun g hg => by have := hll6 g (by simp [hg]); (try simp at this); omega
  obtain ⟨a_z6, n_z6, c_z6, rfl⟩ := (fit_dB p2).sliceO ho_z6
  have hl_z7 : ∀ g, g ∈ F_z7 → w5.heap.size ≤ g := fun g hg => by have := hll6 g (by simp [hg]); (try simp at this); omega
  obtain ⟨a_z7, n_z7, c_z7, rfl⟩ := (fit_dPR p3).sliceO ho_z7
  have hi_z5 : ∀ g, g ∈ F_z5 → g < w6.heap.size := Ow.lt _ _ _ ho_z5
  have hi_z6 : ∀ g, g ∈ F_z6 → g < w6.heap.size := Ow.lt _ _ _ ho_z6
  have hi_z7 : ∀ g, g ∈ F_z7 → g < w6.heap.size := Ow.lt _ _ _ ho_z7
  have hd_z5 : (F_z5 ++ (F_z6 ++ F_z7)).Nodup := by simpa using hnn6
  clear hnn6 hll6
  have lt6_0 : w.heap.size < w6.heap.size := by omega
  go_wp2_with fail
  refine (toInt64SS_d _ (dII weights) _ _ (h_weights.below (hB.trans ((below_alloc _ _).mono (by omega)))) (fit_dII weights) hv_weights).mono ?_
  rintro e w7 ⟨v7, F_z8, rfl, hb7, ho_z8, hnn7, hll7⟩
  have hs7 : Below w6.heap.size w6 w7 := (below_alloc _ _).trans (hb7.mono (by simp <;> omega))
  replace bx2_0 := (bcell1 hs7 (by omega)).trans bx2_0
  replace bx2_1 := (bcell1 hs7 (by omega)).trans bx2_1
  replace bx2_2 := (bcell1 hs7 (by omega)).trans bx2_2
  replace bx2_3 := (bcell1 hs7 (by omega)).trans bx2_3
  have bx8_0 : w7.cell? ⟨w6.heap.size, 0, none⟩ = some (.int .i64 p0) := by rw [bcell1 hb7 (by simp <;> omega)]; simp [go_sem]
  have bx8_1 : w7.cell? ⟨w6.heap.size, 1, none⟩ = some (.slice a_z5 n_z5 c_z5) := by rw [bcell1 hb7 (by simp <;> omega)]; simp [go_sem]
  have bx8_2 : w7.cell? ⟨w6.heap.size, 2, none⟩ = some (.slice a_z6 n_z6 c_z6) := by rw [bcell1 hb7 (by simp <;> omega)]; simp [go_sem]
  have bx8_3 : w7.cell? ⟨w6.heap.size, 3, none⟩ = some (.slice a_z7 n_z7 c_z7) := by rw [bcell1 hb7 (by simp <;> omega)]; simp [go_sem]
  have hz7 : w6.heap.size + 1 ≤ w7.heap.size := by have := hb7.size; (try simp at this); omega
  replace ho_z5 := ho_z5.below hs7
  replace ho_z6 := ho_z6.below hs7
  replace ho_z7 := ho_z7.below hs7
  replace hB := bnext hB hs7 (Nat.le_refl _)
  clear hb7 hs7
  have hl_z8 : ∀ g, g ∈ F_z8 → w6.heap.size + 1 ≤ g := fun g hg => by have := hll7 g hg; (try simp at this); omega
  obtain ⟨a_z8, n_z8, c_z8, rfl⟩ := (fit_dII weights).sliceO ho_z8
  have hi_z8 : ∀ g, g ∈ F_z8 → g < w7.heap.size := Ow.lt _ _ _ ho_z8
  have hd_z8 := hnn7
  clear hnn7 hll7
  go_wp2_with fail
  refine (implIsPassInvariant_d p0 p1 p2 p3 weights _ ho_z5 ho_z6 ho_z7 ho_z8 ).mono ?_
  rintro e w8 ⟨rfl, hb8⟩
  have hs8 : Below w7.heap.size w7 w8 := hb8
  replace bx2_0 := (bcell1 hs8 (by omega)).trans bx2_0
  replace bx2_1 := (bcell1 hs8 (by omega)).trans bx2_1
  replace bx2_2 := (bcell1 hs8 (by omega)).trans bx2_2
  replace bx2_3 := (bcell1 hs8 (by omega)).trans bx2_3
  replace bx8_0 := (bcell1 hs8 (by omega)).trans bx8_0
  replace bx8_1 := (bcell1 hs8 (by omega)).trans bx8_1
  replace bx8_2 := (bcell1 hs8 (by omega)).trans bx8_2
  replace bx8_3 := (bcell1 hs8 (by omega)).trans bx8_3
  have hz8 : w7.heap.size ≤ w8.heap.size := hb8.size
  replace ho_z5 := ho_z5.below hs8
  replace ho_z6 := ho_z6.below hs8
  replace ho_z7 := ho_z7.below hs8
  replace ho_z8 := ho_z8.below hs8
  replace hB := bnext hB hs8 (Nat.le_refl _)
  clear hb8 hs8
  go_wp2_with fail
  go_region_held3 (fun wx => wx.cell? ⟨w.heap.size, 0, none⟩ = some (.int .i64 p0) ∧ wx.cell? ⟨w.heap.size, 1, none⟩ = some (.slice a_p1 n_p1 c_p1) ∧ wx.cell? ⟨w.heap.size, 2, none⟩ = some (.slice a_p2 n_p2 c_p2) ∧ wx.cell? ⟨w.heap.size, 3, none⟩ = some (.slice a_p3 n_p3 c_p3) ∧ wx.cell? ⟨w6.heap.size, 0, none⟩ = some (.int .i64 p0) ∧ wx.cell? ⟨w6.heap.size, 1, none⟩ = some (.slice a_z5 n_z5 c_z5) ∧ wx.cell? ⟨w6.heap.size, 2, none⟩ = some (.slice a_z6 n_z6 c_z6) ∧ wx.cell? ⟨w6.heap.size, 3, none⟩ = some (.slice a_z7 n_z7 c_z7))
    (first
      | go_keep
      | (refine ⟨?_, ?_, ?_, ?_, ?_, ?_, ?_, ?_⟩ <;> (rw [bcell1 hb9 (by show _ < w8.heap.size; omega)]; assumption))
      | (have h1_ : w8.heap.size ≤ w9.heap.size := hb9.size; (try go_split_ands); refine ⟨?_, ?_, ?_, ?_, ?_, ?_, ?_, ?_⟩ <;> (rw [bcell1 hb10 (by omega)]; assumption)))
    (first
      | (go_at_call 15; refine (toPassing_d _ (p0) (dI p1) _ (dB p2) _ (dPR p3) _ _ (h_p1.below hB.drew) (h_p2.below hB.drew) (h_p3.below hB.drew) (fit_dI p1) (fit_dB p2) (fit_dPR p3) hv_p1 hv_p2 hv_p3).mono ?_; rintro e w9 ⟨vs9, F9, rfl, hb9, hoo9, hnn9, hll9⟩; have hvl9 := owA_len _ _ _ hoo9; obtain ⟨e_9_0, e_9_1, e_9_2, e_9_3, rfl⟩ : ∃ e_9_0 e_9_1 e_9_2 e_9_3, vs9 = [e_9_0, e_9_1, e_9_2, e_9_3] := (by match vs9, hvl9 with | [e_9_0, e_9_1, e_9_2, e_9_3], _ => exact ⟨e_9_0, e_9_1, e_9_2, e_9_3, rfl⟩); clear hvl9; obtain ⟨G9_0, _, ⟨ev9_0, eg9_0⟩, hr9_0, rfl⟩ := hoo9; subst ev9_0; subst eg9_0; obtain ⟨F_z9, _, ho_z9, hr9_1, rfl⟩ := hr9_0; obtain ⟨F_z10, _, ho_z10, hr9_2, rfl⟩ := hr9_1; obtain ⟨F_z11, _, ho_z11, hr9_3, rfl⟩ := hr9_2; have hend9 : _ = [] := hr9_3; subst hend9; obtain ⟨a_z9, n_z9, c_z9, rfl⟩ := (fit_dI p1).sliceO ho_z9; obtain ⟨a_z10, n_z10, c_z10, rfl⟩ := (fit_dB p2).sliceO ho_z10; obtain ⟨a_z11, n_z11, c_z11, rfl⟩ := (fit_dPR p3).sliceO ho_z11)
      | (go_at_call 17; refine (eqPassing_d (p0) (dI p1) _ (dB p2) _ (dPR p3) _ _ _ _ _ (ho_z5.rdA.below ((Below.refl w8.heap.size w8).drew.trans (hb9.mono (by exact Nat.le_refl _)))) (ho_z6.rdA.below ((Below.refl w8.heap.size w8).drew.trans (hb9.mono (by exact Nat.le_refl _)))) (ho_z7.rdA.below ((Below.refl w8.heap.size w8).drew.trans (hb9.mono (by exact Nat.le_refl _)))) ho_z9.rdA ho_z10.rdA ho_z11.rdA (fit_dI p1) (fit_dB p2) (fit_dPR p3)).mono ?_; rintro e w10 ⟨rfl, hb10⟩))
  have hs10 : Below w8.heap.size w8 w10 := (((Below.refl w8.heap.size w8).drew.trans (hb9.mono (by exact Nat.le_refl _))).trans (hb10.mono (by have h_0 : w8.heap.size ≤ w9.heap.size := hb9.size;  first | exact h_0 | omega)))
  have hz9 : w8.heap.size ≤ w9.heap.size := hb9.size
  have hz10 : w9.heap.size ≤ w10.heap.size := hb10.size
  replace bx2_0 := (bcell1 hs10 (by omega)).trans bx2_0
  replace bx2_1 := (bcell1 hs10 (by omega)).trans bx2_1
  replace bx2_2 := (bcell1 hs10 (by omega)).trans bx2_2
  replace bx2_3 := (bcell1 hs10 (by omega)).trans bx2_3
  replace bx8_0 := (bcell1 hs10 (by omega)).trans bx8_0
  replace bx8_1 := (bcell1 hs10 (by omega)).trans bx8_1
  replace bx8_2 := (bcell1 hs10 (by omega)).trans bx8_2
  replace bx8_3 := (bcell1 hs10 (by omega)).trans bx8_3
  replace ho_z5 := ho_z5.below hs10
  replace ho_z6 := ho_z6.below hs10
  replace ho_z7 := ho_z7.below hs10
  replace ho_z8 := ho_z8.below hs10
  replace hB := bnext hB hs10 (Nat.le_refl _)
  clear hs10 hb9 hb10 ho_z9 ho_z10 ho_z11
  clear ho_z5 ho_z6 ho_z7
  go_wp2_with fail
  refine (toInt64SS_d _ (dII weights) _ _ (h_weights.below hB) (fit_dII weights) hv_weights).mono ?_
  rintro e w11 ⟨v11, F_z12, rfl, hb11, ho_z12, hnn11, hll11⟩
  have hs11 : Below w10.heap.size w10 w11 := hb11
  replace bx2_0 := (bcell1 hs11 (by omega)).trans bx2_0
  replace bx2_1 := (bcell1 hs11 (by omega)).trans bx2_1
  replace bx2_2 := (bcell1 hs11 (by omega)).trans bx2_2
  replace bx2_3 := (bcell1 hs11 (by omega)).trans bx2_3
  replace bx8_0 := (bcell1 hs11 (by omega)).trans bx8_0
  replace bx8_1 := (bcell1 hs11 (by omega)).trans bx8_1
  replace bx8_2 := (bcell1 hs11 (by omega)).trans bx8_2
  replace bx8_3 := (bcell1 hs11 (by omega)).trans bx8_3
  have hz11 : w10.heap.size ≤ w11.heap.size := hb11.size
  replace ho_z8 := ho_z8.below hs11
  replace hB := bnext hB hs11 (Nat.le_refl _)
  clear hb11 hs11
  have hl_z12 : ∀ g, g ∈ F_z12 → w10.heap.size ≤ g := fun g hg => by have := hll11 g hg; (try simp at this); omega
  obtain ⟨a_z12, n_z12, c_z12, rfl⟩ := (fit_dII weights).sliceO ho_z12
  have hi_z12 : ∀ g, g ∈ F_z12 → g < w11.heap.size := Ow.lt _ _ _ ho_z12
  have hd_z12 := hnn11
  clear hnn11 hll11
  go_wp2_with fail
  refine (eqInt64SS_d (dII weights) _ _ _ ho_z8.rdA ho_z12.rdA (fit_dII weights)).mono ?_
  rintro e w12 ⟨rfl, hb12⟩
  have hs12 : Below w11.heap.size w11 w12 := hb12
  replace bx2_0 := (bcell1 hs12 (by omega)).trans bx2_0
  replace bx2_1 := (bcell1 hs12 (by omega)).trans bx2_1
  replace bx2_2 := (bcell1 hs12 (by omega)).trans bx2_2
  replace bx2_3 := (bcell1 hs12 (by omega)).trans bx2_3
  replace bx8_0 := (bcell1 hs12 (by omega)).trans bx8_0
  replace bx8_1 := (bcell1 hs12 (by omega)).trans bx8_1
  replace bx8_2 := (bcell1 hs12 (by omega)).trans bx8_2
  replace bx8_3 := (bcell1 hs12 (by omega)).trans bx8_3
  have hz12 : w11.heap.size ≤ w12.heap.size := hb12.size
  replace ho_z8 := ho_z8.below hs12
  replace ho_z12 := ho_z12.below hs12
  replace hB := bnext hB hs12 (Nat.le_refl _)
  clear hb12 hs12
  clear ho_z8 ho_z12
  go_wp2
  go_ret
  exact ⟨rfl, hB⟩
set_option maxRecDepth 100000 in
theorem lifted (os : Os) (started : os.Started) (H : Type) (enc : TypeId × Value → H) :
    ReturnsInHanded {} Try.checked os 4 .any (Rows.fnExactIsPassInvariantSpec.pre6 enc Try.prog Try.f4 Rows.fnExactIsPassInvariantRow.domain false) (Rows.fnExactIsPassInvariantSpec.post enc Try.prog Try.f4 false true false false) :=
  lift Try.func4 (by kernel_rfl) rfl rfl (by kernel_rfl : Try.prog.underlying 4 = some .bool) (by kernel_rfl) (fun ds h => by match ds, h with | [d0, d1], _ => rfl) started
    (ChangeSpec.witness6 (enc := enc) (C := Try.checked) false ⟨#[], #[.agg #[.int .i64 0, .slice none 0 0, .slice none 0 0, .slice none 0 0], .slice none 0 0], []⟩ 8 (by kernel_rfl) (by kernel_rfl) (by kernel_rfl) (by kernel_rfl))
    (fun W base args ds p hval hA => by
      rw [Try.params4] at hA hval
      obtain ⟨v0, vs0, d0, ds0, p0, q0, hargs0, rfl, rfl, g0, r0⟩ := ChangeShapes.trodAll_cons hA
      obtain ⟨v1, vs1, d1, ds1, p1, q1, hargs1, rfl, rfl, g1, r1⟩ := ChangeShapes.trodAll_cons r0
      obtain ⟨hnil, rfl, rfl⟩ := ChangeShapes.trodAll_nil r1
      obtain rfl : args = #[v0, v1] := by cases args; simp_all
      obtain ⟨vs0x, dsx0, rfl, fx0, rx0⟩ := open_A [.i, .l [.i], .l [.b], .l [.i, .l [.i], .l [.i]]] Try.underlying26 (by kernel_rfl) (hval 0 _ _ rfl rfl) g0
      obtain ⟨_, s0_0, rfl, ⟨x0_0, rfl⟩, t0_0⟩ := fx0
      obtain ⟨_, s0_1, rfl, j0_1, t0_1⟩ := t0_0
      obtain ⟨x0_1, rfl⟩ := fitD_I j0_1
      obtain ⟨_, s0_2, rfl, j0_2, t0_2⟩ := t0_1
      obtain ⟨x0_2, rfl⟩ := fitD_B j0_2
      obtain ⟨_, s0_3, rfl, j0_3, t0_3⟩ := t0_2
      obtain ⟨x0_3, rfl⟩ := fitD_PR j0_3
      obtain rfl : s0_3 = [] := t0_3
      obtain ⟨y0_0, z0_0, e0_0, k0_0, l0_0⟩ := rx0
      subst e0_0
      obtain rfl : y0_0 = .int .i64 x0_0 := k0_0
      obtain ⟨y0_1, z0_1, e0_1, k0_1, l0_1⟩ := l0_0
      subst e0_1
      obtain ⟨y0_2, z0_2, e0_2, k0_2, l0_2⟩ := l0_1
      subst e0_2
      obtain ⟨y0_3, z0_3, e0_3, k0_3, l0_3⟩ := l0_2
      subst e0_3
      obtain rfl : z0_3 = [] := l0_3
      obtain ⟨dx1, fx1, rx1⟩ := open_L Try.underlying37 (by kernel_rfl : shapeOf Try.prog 6 37 = some [.l [.l [.i]]]) (hval 1 _ _ rfl rfl) g1
      obtain ⟨x1, rfl⟩ := fitD_II fx1
      exact walk x0_0 x0_1 y0_1 x0_2 y0_2 x0_3 y0_3 x1 v1 W k0_1 k0_2 k0_3 rx1)
end Go.Proofs.Ytldjgkandkclpaa.lawIsPassInvariant
