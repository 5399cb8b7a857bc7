/- FnExactIsTrapped: whatever the input, the law returns true. No condition. Written by lawgen2.py. -/
import Derived.Test.YtldjgkandkclpaaIT
import Derived.Test.YtldjgkandkclpaaF
import Derived.Test.YtldjgkandkclpaaWC
import Derived.Test.YtldjgkandkclpaaYR
import Derived.Deep.RegionHeld3
namespace Go.Proofs.Ytldjgkandkclpaa.lawIsTrapped
open Go.ChangeShapes Go.WideShapes Go.ChangeAt Go.RowKit
set_option maxHeartbeats 3000000 in
set_option maxRecDepth 100000 in
theorem walk (p0 : Int) (p1 : List Ord) (v_p1 : Value) (t0 : List Bool) (v_t0 : Value) (t1 : List (List Int)) (v_t1 : Value) (t2 : List Int) (v_t2 : Value) (w : World) (h_p1 : Rd (· < w.heap.size) w (dO p1) v_p1) (h_t0 : Rd (· < w.heap.size) w (dB t0) v_t0) (h_t1 : Rd (· < w.heap.size) w (dII t1) v_t1) (h_t2 : Rd (· < w.heap.size) w (dI t2) v_t2) :
    Calls Try.prog 5 #[.agg #[.int .i64 p0, v_p1], .agg #[v_t0, v_t1, v_t2]] w (RetV w (.bool true)) := by
  obtain ⟨a_p1, n_p1, c_p1, rfl⟩ := (fit_dO p1).sliceR h_p1
  obtain ⟨a_t0, n_t0, c_t0, rfl⟩ := (fit_dB t0).sliceR h_t0
  obtain ⟨a_t1, n_t1, c_t1, rfl⟩ := (fit_dII t1).sliceR h_t1
  obtain ⟨a_t2, n_t2, c_t2, rfl⟩ := (fit_dI t2).sliceR h_t2
  have hB := Below.refl w.heap.size w
  go_enter Try.func5, Try.ntmps5
  go_wp2_with fail
  refine (szProgram_d _ (p0) (dO p1) _ 1048576 _ (h_p1.below (hB.trans ((((Below.refl _ _).alloc (Nat.le_refl _) _).alloc (by simp) _)))) (fit_dO p1) (by omega) (by omega)).mono ?_
  rintro e w1 ⟨L1, rfl, hb1, yy1, uu1, p1⟩
  have hs1 : Below w.heap.size w w1 := ((((Below.refl _ _).alloc (Nat.le_refl _) _).alloc (by simp) _)).trans (hb1.mono (by simp <;> omega))
  have bx2_0 : w1.cell? ⟨w.heap.size, 0, none⟩ = some (.int .i64 p0) := by rw [bcell1 hb1 (by simp <;> omega)]; simp [go_sem]
  have bx2_1 : w1.cell? ⟨w.heap.size, 1, none⟩ = some (.slice a_p1 n_p1 c_p1) := by rw [bcell1 hb1 (by simp <;> omega)]; simp [go_sem]
  have bx3_0 : w1.cell? ⟨w.heap.size + 1, 0, none⟩ = some (.slice a_t0 n_t0 c_t0) := by rw [bcell1 hb1 (by simp <;> omega)]; simp [go_sem]
  have bx3_1 : w1.cell? ⟨w.heap.size + 1, 1, none⟩ = some (.slice a_t1 n_t1 c_t1) := by rw [bcell1 hb1 (by simp <;> omega)]; simp [go_sem]
  have bx3_2 : w1.cell? ⟨w.heap.size + 1, 2, none⟩ = some (.slice a_t2 n_t2 c_t2) := by rw [bcell1 hb1 (by simp <;> omega)]; simp [go_sem]
  have hz1 : w.heap.size + 2 ≤ w1.heap.size := by have := hb1.size; (try simp at this); omega
  replace hB := bnext hB hs1 (Nat.le_refl _)
  clear hb1 hs1
  by_cases n1 : L1 < 0
  · go_wp2
    go_ret
    exact ⟨rfl, hB⟩
  have q1 := p1 (by omega)
  have m1 : 0 ≤ L1 := by omega
  clear p1
  have hv_p1 : vol (dO p1) ≤ 16777216 := by omega
  go_wp2_with fail
  refine (szState_d _ (dB t0) _ (dII t1) _ (dI t2) _ L1 _ (h_t0.below hB) (h_t1.below hB) (h_t2.below hB) (fit_dB t0) (fit_dII t1) (fit_dI t2) (by omega) (by omega)).mono ?_
  rintro e w2 ⟨L2, rfl, hb2, yy2, uu2, p2⟩
  have hs2 : Below w1.heap.size w1 w2 := hb2
  replace bx2_0 := (bcell1 hs2 (by omega)).trans bx2_0
  replace bx2_1 := (bcell1 hs2 (by omega)).trans bx2_1
  replace bx3_0 := (bcell1 hs2 (by omega)).trans bx3_0
  replace bx3_1 := (bcell1 hs2 (by omega)).trans bx3_1
  replace bx3_2 := (bcell1 hs2 (by omega)).trans bx3_2
  have hz2 : w1.heap.size ≤ w2.heap.size := hb2.size
  replace hB := bnext hB hs2 (Nat.le_refl _)
  clear hb2 hs2
  by_cases n2 : L2 < 0
  · go_wp2
    go_ret
    exact ⟨rfl, hB⟩
  have q2 := p2 (by omega)
  have m2 : 0 ≤ L2 := by omega
  clear p2
  have hv_t0 : vol (dB t0) ≤ 16777216 := by omega
  have hv_t1 : vol (dII t1) ≤ 16777216 := by omega
  have hv_t2 : vol (dI t2) ≤ 16777216 := by omega
  go_wp2_with fail
  go_region_held3 (fun wx => wx.cell? ⟨w.heap.size, 0, none⟩ = some (.int .i64 p0) ∧ wx.cell? ⟨w.heap.size, 1, none⟩ = some (.slice a_p1 n_p1 c_p1) ∧ wx.cell? ⟨w.heap.size + 1, 0, none⟩ = some (.slice a_t0 n_t0 c_t0) ∧ wx.cell? ⟨w.heap.size + 1, 1, none⟩ = some (.slice a_t1 n_t1 c_t1) ∧ wx.cell? ⟨w.heap.size + 1, 2, none⟩ = some (.slice a_t2 n_t2 c_t2))
    (first
      | go_keep
      | (refine ⟨?_, ?_, ?_, ?_, ?_⟩ <;> (rw [bcell1 hb3 (by show _ < w2.heap.size; omega)]; assumption))
      | (have h1_ : w2.heap.size ≤ w3.heap.size := hb3.size; (try go_split_ands); refine ⟨?_, ?_, ?_, ?_, ?_⟩ <;> (rw [bcell1 hb4 (by omega)]; assumption))
      | (have h1_ : w2.heap.size ≤ w3.heap.size := hb3.size; have h2_ : w3.heap.size ≤ w4.heap.size := hb4.size; (try go_split_ands); refine ⟨?_, ?_, ?_, ?_, ?_⟩ <;> (rw [bcell1 hb5 (by omega)]; assumption)))
    (first
      | (go_at_call 28; refine (toProgram_d _ (p0) (dO p1) _ _ (h_p1.below hB.drew) (fit_dO p1) hv_p1).mono ?_; rintro e w3 ⟨vs3, F3, rfl, hb3, hoo3, hnn3, hll3⟩; have hvl3 := owA_len _ _ _ hoo3; obtain ⟨e_3_0, e_3_1, rfl⟩ : ∃ e_3_0 e_3_1, vs3 = [e_3_0, e_3_1] := (by match vs3, hvl3 with | [e_3_0, e_3_1], _ => exact ⟨e_3_0, e_3_1, rfl⟩); clear hvl3; obtain ⟨G3_0, _, ⟨ev3_0, eg3_0⟩, hr3_0, rfl⟩ := hoo3; subst ev3_0; subst eg3_0; obtain ⟨F_z1, _, ho_z1, hr3_1, rfl⟩ := hr3_0; have hend3 : _ = [] := hr3_1; subst hend3; obtain ⟨a_z1, n_z1, c_z1, rfl⟩ := (fit_dO p1).sliceO ho_z1)
      | (go_at_call 29; refine (toState_d _ (dB t0) _ (dII t1) _ (dI t2) _ _ (h_t0.below (bnext hB.drew hb3 (Nat.le_refl _))) (h_t1.below (bnext hB.drew hb3 (Nat.le_refl _))) (h_t2.below (bnext hB.drew hb3 (Nat.le_refl _))) (fit_dB t0) (fit_dII t1) (fit_dI t2) hv_t0 hv_t1 hv_t2).mono ?_; rintro e w4 ⟨vs4, F4, rfl, hb4, hoo4, hnn4, hll4⟩; have hvl4 := owA_len _ _ _ hoo4; obtain ⟨e_4_0, e_4_1, e_4_2, rfl⟩ : ∃ e_4_0 e_4_1 e_4_2, vs4 = [e_4_0, e_4_1, e_4_2] := (by match vs4, hvl4 with | [e_4_0, e_4_1, e_4_2], _ => exact ⟨e_4_0, e_4_1, e_4_2, rfl⟩); clear hvl4; obtain ⟨F_z2, _, ho_z2, hr4_0, rfl⟩ := hoo4; obtain ⟨F_z3, _, ho_z3, hr4_1, rfl⟩ := hr4_0; obtain ⟨F_z4, _, ho_z4, hr4_2, rfl⟩ := hr4_1; have hend4 : _ = [] := hr4_2; subst hend4; obtain ⟨a_z2, n_z2, c_z2, rfl⟩ := (fit_dB t0).sliceO ho_z2; obtain ⟨a_z3, n_z3, c_z3, rfl⟩ := (fit_dII t1).sliceO ho_z3; obtain ⟨a_z4, n_z4, c_z4, rfl⟩ := (fit_dI t2).sliceO ho_z4)
      | (go_at_call 27; refine (specIsTrapped_d p0 p1 t0 t1 t2 _ (ho_z1.rdA.below hb4) ho_z2.rdA ho_z3.rdA ho_z4.rdA ).mono ?_; rintro e w5 ⟨rfl, hb5⟩))
  have hs5 : Below w2.heap.size w2 w5 := ((((Below.refl w2.heap.size w2).drew.trans (hb3.mono (by exact Nat.le_refl _))).trans (hb4.mono (by have h_0 : w2.heap.size ≤ w3.heap.size := hb3.size;  first | exact h_0 | omega))).trans (hb5.mono (by have h_0 : w2.heap.size ≤ w3.heap.size := hb3.size; have h_1 : w3.heap.size ≤ w4.heap.size := hb4.size; first | exact h_0 | omega)))
  have hz3 : w2.heap.size ≤ w3.heap.size := hb3.size
  have hz4 : w3.heap.size ≤ w4.heap.size := hb4.size
  have hz5 : w4.heap.size ≤ w5.heap.size := hb5.size
  replace bx2_0 := (bcell1 hs5 (by omega)).trans bx2_0
  replace bx2_1 := (bcell1 hs5 (by omega)).trans bx2_1
  replace bx3_0 := (bcell1 hs5 (by omega)).trans bx3_0
  replace bx3_1 := (bcell1 hs5 (by omega)).trans bx3_1
  replace bx3_2 := (bcell1 hs5 (by omega)).trans bx3_2
  replace hB := bnext hB hs5 (Nat.le_refl _)
  clear hs5 hb3 hb4 hb5 ho_z1 ho_z2 ho_z3 ho_z4
  go_wp2_with fail
  refine (toProgram_d _ (p0) (dO p1) _ _ (h_p1.below hB) (fit_dO p1) hv_p1).mono ?_
  rintro e w6 ⟨vs6, F6, rfl, hb6, hoo6, hnn6, hll6⟩
  have hs6 : Below w5.heap.size w5 w6 := hb6
  replace bx2_0 := (bcell1 hs6 (by omega)).trans bx2_0
  replace bx2_1 := (bcell1 hs6 (by omega)).trans bx2_1
  replace bx3_0 := (bcell1 hs6 (by omega)).trans bx3_0
  replace bx3_1 := (bcell1 hs6 (by omega)).trans bx3_1
  replace bx3_2 := (bcell1 hs6 (by omega)).trans bx3_2
  have hz6 : w5.heap.size ≤ w6.heap.size := hb6.size
  replace hB := bnext hB hs6 (Nat.le_refl _)
  clear hb6 hs6
  have hvl6 := owA_len _ _ _ hoo6
  obtain ⟨e_6_0, e_6_1, rfl⟩ : ∃ e_6_0 e_6_1, vs6 = [e_6_0, e_6_1] := (by match vs6, hvl6 with | [e_6_0, e_6_1], _ => exact ⟨e_6_0, e_6_1, rfl⟩)
  clear hvl6
  obtain ⟨G6_0, _, ⟨ev6_0, eg6_0⟩, hr6_0, rfl⟩ := hoo6
  subst ev6_0
  subst eg6_0
  obtain ⟨F_z5, _, ho_z5, hr6_1, rfl⟩ := hr6_0
  have hend6 : _ = [] := hr6_1
  subst hend6
  have hl_z5 : ∀ g, g ∈ F_z5 → w5.heap.size ≤ g := fun g hg => by have := hll6 g (by simp [hg]); (try simp at this); omega
  obtain ⟨a_z5, n_z5, c_z5, rfl⟩ := (fit_dO p1).sliceO ho_z5
  have hi_z5 : ∀ g, g ∈ F_z5 → g < w6.heap.size := Ow.lt _ _ _ ho_z5
  have hd_z5 : (F_z5).Nodup := by simpa using hnn6
  clear hnn6 hll6
  have lt6_0 : w.heap.size < w6.heap.size := by omega
  have lt6_1 : w.heap.size + 1 < w6.heap.size := by omega
  go_wp2_with fail
  refine (toState_d _ (dB t0) _ (dII t1) _ (dI t2) _ _ (h_t0.below (hB.trans ((below_alloc _ _).mono (by omega)))) (h_t1.below (hB.trans ((below_alloc _ _).mono (by omega)))) (h_t2.below (hB.trans ((below_alloc _ _).mono (by omega)))) (fit_dB t0) (fit_dII t1) (fit_dI t2) hv_t0 hv_t1 hv_t2).mono ?_
  rintro e w7 ⟨vs7, F7, rfl, hb7, hoo7, hnn7, hll7⟩
  have hs7 : Below w6.heap.size w6 w7 := (below_alloc _ _).trans (hb7.mono (by simp <;> omega))
  replace bx2_0 := (bcell1 hs7 (by omega)).trans bx2_0
  replace bx2_1 := (bcell1 hs7 (by omega)).trans bx2_1
  replace bx3_0 := (bcell1 hs7 (by omega)).trans bx3_0
  replace bx3_1 := (bcell1 hs7 (by omega)).trans bx3_1
  replace bx3_2 := (bcell1 hs7 (by omega)).trans bx3_2
  have bx8_0 : w7.cell? ⟨w6.heap.size, 0, none⟩ = some (.int .i64 p0) := by rw [bcell1 hb7 (by simp <;> omega)]; simp [go_sem]
  have bx8_1 : w7.cell? ⟨w6.heap.size, 1, none⟩ = some (.slice a_z5 n_z5 c_z5) := by rw [bcell1 hb7 (by simp <;> omega)]; simp [go_sem]
  have hz7 : w6.heap.size + 1 ≤ w7.heap.size := by have := hb7.size; (try simp at this); omega
  replace ho_z5 := ho_z5.below hs7
  replace hB := bnext hB hs7 (Nat.le_refl _)
  clear hb7 hs7
  have hvl7 := owA_len _ _ _ hoo7
  obtain ⟨e_7_0, e_7_1, e_7_2, rfl⟩ : ∃ e_7_0 e_7_1 e_7_2, vs7 = [e_7_0, e_7_1, e_7_2] := (by match vs7, hvl7 with | [e_7_0, e_7_1, e_7_2], _ => exact ⟨e_7_0, e_7_1, e_7_2, rfl⟩)
  clear hvl7
  obtain ⟨F_z6, _, ho_z6, hr7_0, rfl⟩ := hoo7
  obtain ⟨F_z7, _, ho_z7, hr7_1, rfl⟩ := hr7_0
  obtain ⟨F_z8, _, ho_z8, hr7_2, rfl⟩ := hr7_1
  have hend7 : _ = [] := hr7_2
  subst hend7
  have hl_z6 : ∀ g, g ∈ F_z6 → w6.heap.size + 1 ≤ g := fun g hg => by have := hll7 g (by simp [hg]); (try simp at this); omega
  obtain ⟨a_z6, n_z6, c_z6, rfl⟩ := (fit_dB t0).sliceO ho_z6
  have hl_z7 : ∀ g, g ∈ F_z7 → w6.heap.size + 1 ≤ g := fun g hg => by have := hll7 g (by simp [hg]); (try simp at this); omega
  obtain ⟨a_z7, n_z7, c_z7, rfl⟩ := (fit_dII t1).sliceO ho_z7
  have hl_z8 : ∀ g, g ∈ F_z8 → w6.heap.size + 1 ≤ g := fun g hg => by have := hll7 g (by simp [hg]); (try simp at this); omega
  obtain ⟨a_z8, n_z8, c_z8, rfl⟩ := (fit_dI t2).sliceO ho_z8
  have hi_z6 : ∀ g, g ∈ F_z6 → g < w7.heap.size := Ow.lt _ _ _ ho_z6
  have hi_z7 : ∀ g, g ∈ F_z7 → g < w7.heap.size := Ow.lt _ _ _ ho_z7
  have hi_z8 : ∀ g, g ∈ F_z8 → g < w7.heap.size := Ow.lt _ _ _ ho_z8
  have hd_z6 : (F_z6 ++ (F_z7 ++ F_z8)).Nodup := by simpa using hnn7
  clear hnn7 hll7
  have lt7_0 : w.heap.size < w7.heap.size := by omega
  have lt7_1 : w.heap.size + 1 < w7.heap.size := by omega
  have lt7_2 : w6.heap.size < w7.heap.size := by omega
  go_wp2_with fail
  refine (implIsTrapped_d p0 p1 t0 t1 t2 _ (ho_z5.below (below_alloc _ _)) (ho_z6.below (below_alloc _ _)) (ho_z7.below (below_alloc _ _)) (ho_z8.below (below_alloc _ _)) ).mono ?_
  rintro e w8 ⟨rfl, hb8⟩
  have hs8 : Below w7.heap.size w7 w8 := (below_alloc _ _).trans (hb8.mono (by simp <;> omega))
  replace bx2_0 := (bcell1 hs8 (by omega)).trans bx2_0
  replace bx2_1 := (bcell1 hs8 (by omega)).trans bx2_1
  replace bx3_0 := (bcell1 hs8 (by omega)).trans bx3_0
  replace bx3_1 := (bcell1 hs8 (by omega)).trans bx3_1
  replace bx3_2 := (bcell1 hs8 (by omega)).trans bx3_2
  replace bx8_0 := (bcell1 hs8 (by omega)).trans bx8_0
  replace bx8_1 := (bcell1 hs8 (by omega)).trans bx8_1
  have bx9_0 : w8.cell? ⟨w7.heap.size, 0, none⟩ = some (.slice a_z6 n_z6 c_z6) := by rw [bcell1 hb8 (by simp <;> omega)]; simp [go_sem]
  have bx9_1 : w8.cell? ⟨w7.heap.size, 1, none⟩ = some (.slice a_z7 n_z7 c_z7) := by rw [bcell1 hb8 (by simp <;> omega)]; simp [go_sem]
  have bx9_2 : w8.cell? ⟨w7.heap.size, 2, none⟩ = some (.slice a_z8 n_z8 c_z8) := by rw [bcell1 hb8 (by simp <;> omega)]; simp [go_sem]
  have hz8 : w7.heap.size + 1 ≤ w8.heap.size := by have := hb8.size; (try simp at this); omega
  replace ho_z5 := ho_z5.below hs8
  replace ho_z6 := ho_z6.below hs8
  replace ho_z7 := ho_z7.below hs8
  replace ho_z8 := ho_z8.below hs8
  replace hB := bnext hB hs8 (Nat.le_refl _)
  clear hb8 hs8
  go_wp2_with fail
  go_region_held3 (fun wx => wx.cell? ⟨w.heap.size, 0, none⟩ = some (.int .i64 p0) ∧ wx.cell? ⟨w.heap.size, 1, none⟩ = some (.slice a_p1 n_p1 c_p1) ∧ wx.cell? ⟨w.heap.size + 1, 0, none⟩ = some (.slice a_t0 n_t0 c_t0) ∧ wx.cell? ⟨w.heap.size + 1, 1, none⟩ = some (.slice a_t1 n_t1 c_t1) ∧ wx.cell? ⟨w.heap.size + 1, 2, none⟩ = some (.slice a_t2 n_t2 c_t2) ∧ wx.cell? ⟨w6.heap.size, 0, none⟩ = some (.int .i64 p0) ∧ wx.cell? ⟨w6.heap.size, 1, none⟩ = some (.slice a_z5 n_z5 c_z5) ∧ wx.cell? ⟨w7.heap.size, 0, none⟩ = some (.slice a_z6 n_z6 c_z6) ∧ wx.cell? ⟨w7.heap.size, 1, none⟩ = some (.slice a_z7 n_z7 c_z7) ∧ wx.cell? ⟨w7.heap.size, 2, none⟩ = some (.slice a_z8 n_z8 c_z8))
    (first
      | go_keep
      | (refine ⟨?_, ?_, ?_, ?_, ?_, ?_, ?_, ?_, ?_, ?_⟩ <;> (rw [bcell1 hb9 (by show _ < w8.heap.size; omega)]; assumption))
      | (have h1_ : w8.heap.size ≤ w9.heap.size := hb9.size; (try go_split_ands); refine ⟨?_, ?_, ?_, ?_, ?_, ?_, ?_, ?_, ?_, ?_⟩ <;> (rw [bcell1 hb10 (by omega)]; assumption)))
    (first
      | (go_at_call 28; refine (toProgram_d _ (p0) (dO p1) _ _ (h_p1.below hB.drew) (fit_dO p1) hv_p1).mono ?_; rintro e w9 ⟨vs9, F9, rfl, hb9, hoo9, hnn9, hll9⟩; have hvl9 := owA_len _ _ _ hoo9; obtain ⟨e_9_0, e_9_1, rfl⟩ : ∃ e_9_0 e_9_1, vs9 = [e_9_0, e_9_1] := (by match vs9, hvl9 with | [e_9_0, e_9_1], _ => exact ⟨e_9_0, e_9_1, rfl⟩); clear hvl9; obtain ⟨G9_0, _, ⟨ev9_0, eg9_0⟩, hr9_0, rfl⟩ := hoo9; subst ev9_0; subst eg9_0; obtain ⟨F_z9, _, ho_z9, hr9_1, rfl⟩ := hr9_0; have hend9 : _ = [] := hr9_1; subst hend9; obtain ⟨a_z9, n_z9, c_z9, rfl⟩ := (fit_dO p1).sliceO ho_z9)
      | (go_at_call 31; refine (eqProgram_d (p0) (dO p1) _ _ _ (ho_z5.rdA.below ((Below.refl w8.heap.size w8).drew.trans (hb9.mono (by exact Nat.le_refl _)))) ho_z9.rdA (fit_dO p1)).mono ?_; rintro e w10 ⟨rfl, hb10⟩))
  have hs10 : Below w8.heap.size w8 w10 := (((Below.refl w8.heap.size w8).drew.trans (hb9.mono (by exact Nat.le_refl _))).trans (hb10.mono (by have h_0 : w8.heap.size ≤ w9.heap.size := hb9.size;  first | exact h_0 | omega)))
  have hz9 : w8.heap.size ≤ w9.heap.size := hb9.size
  have hz10 : w9.heap.size ≤ w10.heap.size := hb10.size
  replace bx2_0 := (bcell1 hs10 (by omega)).trans bx2_0
  replace bx2_1 := (bcell1 hs10 (by omega)).trans bx2_1
  replace bx3_0 := (bcell1 hs10 (by omega)).trans bx3_0
  replace bx3_1 := (bcell1 hs10 (by omega)).trans bx3_1
  replace bx3_2 := (bcell1 hs10 (by omega)).trans bx3_2
  replace bx8_0 := (bcell1 hs10 (by omega)).trans bx8_0
  replace bx8_1 := (bcell1 hs10 (by omega)).trans bx8_1
  replace bx9_0 := (bcell1 hs10 (by omega)).trans bx9_0
  replace bx9_1 := (bcell1 hs10 (by omega)).trans bx9_1
  replace bx9_2 := (bcell1 hs10 (by omega)).trans bx9_2
  replace ho_z5 := ho_z5.below hs10
  replace ho_z6 := ho_z6.below hs10
  replace ho_z7 := ho_z7.below hs10
  replace ho_z8 := ho_z8.below hs10
  replace hB := bnext hB hs10 (Nat.le_refl _)
  clear hs10 hb9 hb10 ho_z9
  clear ho_z5
  go_wp2_with fail
  go_region_held3 (fun wx => wx.cell? ⟨w.heap.size, 0, none⟩ = some (.int .i64 p0) ∧ wx.cell? ⟨w.heap.size, 1, none⟩ = some (.slice a_p1 n_p1 c_p1) ∧ wx.cell? ⟨w.heap.size + 1, 0, none⟩ = some (.slice a_t0 n_t0 c_t0) ∧ wx.cell? ⟨w.heap.size + 1, 1, none⟩ = some (.slice a_t1 n_t1 c_t1) ∧ wx.cell? ⟨w.heap.size + 1, 2, none⟩ = some (.slice a_t2 n_t2 c_t2) ∧ wx.cell? ⟨w6.heap.size, 0, none⟩ = some (.int .i64 p0) ∧ wx.cell? ⟨w6.heap.size, 1, none⟩ = some (.slice a_z5 n_z5 c_z5) ∧ wx.cell? ⟨w7.heap.size, 0, none⟩ = some (.slice a_z6 n_z6 c_z6) ∧ wx.cell? ⟨w7.heap.size, 1, none⟩ = some (.slice a_z7 n_z7 c_z7) ∧ wx.cell? ⟨w7.heap.size, 2, none⟩ = some (.slice a_z8 n_z8 c_z8))
    (first
      | go_keep
      | (refine ⟨?_, ?_, ?_, ?_, ?_, ?_, ?_, ?_, ?_, ?_⟩ <;> (rw [bcell1 hb11 (by show _ < w10.heap.size; omega)]; assumption))
      | (have h1_ : w10.heap.size ≤ w11.heap.size := hb11.size; (try go_split_ands); refine ⟨?_, ?_, ?_, ?_, ?_, ?_, ?_, ?_, ?_, ?_⟩ <;> (rw [bcell1 hb12 (by omega)]; assumption)))
    (first
      | (go_at_call 29; refine (toState_d _ (dB t0) _ (dII t1) _ (dI t2) _ _ (h_t0.below hB.drew) (h_t1.below hB.drew) (h_t2.below hB.drew) (fit_dB t0) (fit_dII t1) (fit_dI t2) hv_t0 hv_t1 hv_t2).mono ?_; rintro e w11 ⟨vs11, F11, rfl, hb11, hoo11, hnn11, hll11⟩; have hvl11 := owA_len _ _ _ hoo11; obtain ⟨e_11_0, e_11_1, e_11_2, rfl⟩ : ∃ e_11_0 e_11_1 e_11_2, vs11 = [e_11_0, e_11_1, e_11_2] := (by match vs11, hvl11 with | [e_11_0, e_11_1, e_11_2], _ => exact ⟨e_11_0, e_11_1, e_11_2, rfl⟩); clear hvl11; obtain ⟨F_z10, _, ho_z10, hr11_0, rfl⟩ := hoo11; obtain ⟨F_z11, _, ho_z11, hr11_1, rfl⟩ := hr11_0; obtain ⟨F_z12, _, ho_z12, hr11_2, rfl⟩ := hr11_1; have hend11 : _ = [] := hr11_2; subst hend11; obtain ⟨a_z10, n_z10, c_z10, rfl⟩ := (fit_dB t0).sliceO ho_z10; obtain ⟨a_z11, n_z11, c_z11, rfl⟩ := (fit_dII t1).sliceO ho_z11; obtain ⟨a_z12, n_z12, c_z12, rfl⟩ := (fit_dI t2).sliceO ho_z12)
      | (go_at_call 32; refine (eqState_d (dB t0) _ (dII t1) _ (dI t2) _ _ _ _ _ (ho_z6.rdA.below ((Below.refl w10.heap.size w10).drew.trans (hb11.mono (by exact Nat.le_refl _)))) (ho_z7.rdA.below ((Below.refl w10.heap.size w10).drew.trans (hb11.mono (by exact Nat.le_refl _)))) (ho_z8.rdA.below ((Below.refl w10.heap.size w10).drew.trans (hb11.mono (by exact Nat.le_refl _)))) ho_z10.rdA ho_z11.rdA ho_z12.rdA (fit_dB t0) (fit_dII t1) (fit_dI t2)).mono ?_; rintro e w12 ⟨rfl, hb12⟩))
  have hs12 : Below w10.heap.size w10 w12 := (((Below.refl w10.heap.size w10).drew.trans (hb11.mono (by exact Nat.le_refl _))).trans (hb12.mono (by have h_0 : w10.heap.size ≤ w11.heap.size := hb11.size;  first | exact h_0 | omega)))
  have hz11 : w10.heap.size ≤ w11.heap.size := hb11.size
  have hz12 : w11.heap.size ≤ w12.heap.size := hb12.size
  replace bx2_0 := (bcell1 hs12 (by omega)).trans bx2_0
  replace bx2_1 := (bcell1 hs12 (by omega)).trans bx2_1
  replace bx3_0 := (bcell1 hs12 (by omega)).trans bx3_0
  replace bx3_1 := (bcell1 hs12 (by omega)).trans bx3_1
  replace bx3_2 := (bcell1 hs12 (by omega)).trans bx3_2
  replace bx8_0 := (bcell1 hs12 (by omega)).trans bx8_0
  replace bx8_1 := (bcell1 hs12 (by omega)).trans bx8_1
  replace bx9_0 := (bcell1 hs12 (by omega)).trans bx9_0
  replace bx9_1 := (bcell1 hs12 (by omega)).trans bx9_1
  replace bx9_2 := (bcell1 hs12 (by omega)).trans bx9_2
  replace ho_z6 := ho_z6.below hs12
  replace ho_z7 := ho_z7.below hs12
  replace ho_z8 := ho_z8.below hs12
  replace hB := bnext hB hs12 (Nat.le_refl _)
  clear hs12 hb11 hb12 ho_z10 ho_z11 ho_z12
  clear ho_z6 ho_z7 ho_z8
  go_wp2
  go_ret
  exact ⟨rfl, hB⟩
set_option maxRecDepth 100000 in
theorem lifted (os : Os) (started : os.Started) (H : Type) (enc : TypeId × Value → H) :
    ReturnsInHanded {} Try.checked os 5 .any (Rows.fnExactIsTrappedSpec.pre6 enc Try.prog Try.f5 Rows.fnExactIsTrappedRow.domain false) (Rows.fnExactIsTrappedSpec.post enc Try.prog Try.f5 false true false false) :=
  lift Try.func5 (by kernel_rfl) rfl rfl (by kernel_rfl : Try.prog.underlying 4 = some .bool) (by kernel_rfl) (fun ds h => by match ds, h with | [d0, d1], _ => rfl) started
    (ChangeSpec.witness6 (enc := enc) (C := Try.checked) false ⟨#[], #[.agg #[.int .i64 0, .slice none 0 0], .agg #[.slice none 0 0, .slice none 0 0, .slice none 0 0]], []⟩ 8 (by kernel_rfl) (by kernel_rfl) (by kernel_rfl) (by kernel_rfl))
    (fun W base args ds p hval hA => by
      rw [Try.params5] at hA hval
      obtain ⟨v0, vs0, d0, ds0, p0, q0, hargs0, rfl, rfl, g0, r0⟩ := ChangeShapes.trodAll_cons hA
      obtain ⟨v1, vs1, d1, ds1, p1, q1, hargs1, rfl, rfl, g1, r1⟩ := ChangeShapes.trodAll_cons r0
      obtain ⟨hnil, rfl, rfl⟩ := ChangeShapes.trodAll_nil r1
      obtain rfl : args = #[v0, v1] := by cases args; simp_all
      obtain ⟨vs0x, dsx0, rfl, fx0, rx0⟩ := open_A [.i, .l [.i, .i, .i, .i]] Try.underlying46 (by kernel_rfl) (hval 0 _ _ rfl rfl) g0
      obtain ⟨_, s0_0, rfl, ⟨x0_0, rfl⟩, t0_0⟩ := fx0
      obtain ⟨_, s0_1, rfl, j0_1, t0_1⟩ := t0_0
      obtain ⟨x0_1, rfl⟩ := fitD_O j0_1
      obtain rfl : s0_1 = [] := t0_1
      obtain ⟨y0_0, z0_0, e0_0, k0_0, l0_0⟩ := rx0
      subst e0_0
      obtain rfl : y0_0 = .int .i64 x0_0 := k0_0
      obtain ⟨y0_1, z0_1, e0_1, k0_1, l0_1⟩ := l0_0
      subst e0_1
      obtain rfl : z0_1 = [] := l0_1
      obtain ⟨vs1x, dsx1, rfl, fx1, rx1⟩ := open_A [.l [.b], .l [.l [.i]], .l [.i]] Try.underlying48 (by kernel_rfl) (hval 1 _ _ rfl rfl) g1
      obtain ⟨_, s1_0, rfl, j1_0, t1_0⟩ := fx1
      obtain ⟨x1_0, rfl⟩ := fitD_B j1_0
      obtain ⟨_, s1_1, rfl, j1_1, t1_1⟩ := t1_0
      obtain ⟨x1_1, rfl⟩ := fitD_II j1_1
      obtain ⟨_, s1_2, rfl, j1_2, t1_2⟩ := t1_1
      obtain ⟨x1_2, rfl⟩ := fitD_I j1_2
      obtain rfl : s1_2 = [] := t1_2
      obtain ⟨y1_0, z1_0, e1_0, k1_0, l1_0⟩ := rx1
      subst e1_0
      obtain ⟨y1_1, z1_1, e1_1, k1_1, l1_1⟩ := l1_0
      subst e1_1
      obtain ⟨y1_2, z1_2, e1_2, k1_2, l1_2⟩ := l1_1
      subst e1_2
      obtain rfl : z1_2 = [] := l1_2
      exact walk x0_0 x0_1 y0_1 x1_0 y1_0 x1_1 y1_1 x1_2 y1_2 W k0_1 k1_0 k1_1 k1_2)
end Go.Proofs.Ytldjgkandkclpaa.lawIsTrapped
