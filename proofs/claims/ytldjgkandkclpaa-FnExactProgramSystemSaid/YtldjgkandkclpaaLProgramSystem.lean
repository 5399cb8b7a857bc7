/- FnExactProgramSystem: whatever the input, the law returns true. No condition. Written by lawgen2.py. -/
import Derived.Test.YtldjgkandkclpaaMJ
import Derived.Test.YtldjgkandkclpaaF
import Derived.Test.YtldjgkandkclpaaWC
import Derived.Deep.RegionHeld3
namespace Go.Proofs.Ytldjgkandkclpaa.lawProgramSystem
open Go.ChangeShapes Go.WideShapes Go.ChangeAt Go.RowKit
set_option maxHeartbeats 3000000 in
set_option maxRecDepth 100000 in
theorem walk (p0 : Int) (p1 : List Ord) (v_p1 : Value) (mode : Int) (w : World) (h_p1 : Rd (· < w.heap.size) w (dO p1) v_p1) :
    Calls Try.prog 11 #[.agg #[.int .i64 p0, v_p1], .int .i64 mode] w (RetV w (.bool true)) := by
  obtain ⟨a_p1, n_p1, c_p1, rfl⟩ := (fit_dO p1).sliceR h_p1
  have hcn := progSys_cnt1 p0 p1 mode
  have hcn2 := progSys_cnt2 p0 p1 mode
  have hB := Below.refl w.heap.size w
  go_enter Try.func11, Try.ntmps11
  go_wp2_with fail
  refine (szProgram_d _ (p0) (dO p1) _ 1048576 _ (h_p1.below (hB.trans (below_alloc _ _))) (fit_dO p1) (by omega) (by omega)).mono ?_
  rintro e w1 ⟨L1, rfl, hb1, yy1, uu1, p1⟩
  have hs1 : Below w.heap.size w w1 := (below_alloc _ _).trans (hb1.mono (by simp <;> omega))
  have bx2_0 : w1.cell? ⟨w.heap.size, 0, none⟩ = some (.int .i64 p0) := by rw [bcell1 hb1 (by simp <;> omega)]; simp [go_sem]
  have bx2_1 : w1.cell? ⟨w.heap.size, 1, none⟩ = some (.slice a_p1 n_p1 c_p1) := by rw [bcell1 hb1 (by simp <;> omega)]; simp [go_sem]
  have hz1 : w.heap.size + 1 ≤ w1.heap.size := by have := hb1.size; (try simp at this); omega
  replace hB := bnext hB hs1 (Nat.le_refl _)
  clear hb1 hs1
  by_cases n1 : L1 < 0
  · go_wp2
    go_ret
    exact ⟨rfl, hB⟩
  have q1 := p1 (by omega)
  have m1 : 0 ≤ L1 := by omega
  clear p1
  have hv_p1 : vol (dO p1) ≤ 16777216 := by omega
  go_wp2_with fail
  refine (toProgram_d _ (p0) (dO p1) _ _ (h_p1.below hB) (fit_dO p1) hv_p1).mono ?_
  rintro e w2 ⟨vs2, F2, rfl, hb2, hoo2, hnn2, hll2⟩
  have hs2 : Below w1.heap.size w1 w2 := hb2
  replace bx2_0 := (bcell1 hs2 (by omega)).trans bx2_0
  replace bx2_1 := (bcell1 hs2 (by omega)).trans bx2_1
  have hz2 : w1.heap.size ≤ w2.heap.size := hb2.size
  replace hB := bnext hB hs2 (Nat.le_refl _)
  clear hb2 hs2
  have hvl2 := owA_len _ _ _ hoo2
  obtain ⟨e_2_0, e_2_1, rfl⟩ : ∃ e_2_0 e_2_1, vs2 = [e_2_0, e_2_1] := (by match vs2, hvl2 with | [e_2_0, e_2_1], _ => exact ⟨e_2_0, e_2_1, rfl⟩)
  clear hvl2
  obtain ⟨G2_0, _, ⟨ev2_0, eg2_0⟩, hr2_0, rfl⟩ := hoo2
  subst ev2_0
  subst eg2_0
  obtain ⟨F_z1, _, ho_z1, hr2_1, rfl⟩ := hr2_0
  have hend2 : _ = [] := hr2_1
  subst hend2
  have hl_z1 : ∀ g, g ∈ F_z1 → w1.heap.size ≤ g := fun g hg => by have := hll2 g (by simp [hg]); (try simp at this); omega
  obtain ⟨a_z1, n_z1, c_z1, rfl⟩ := (fit_dO p1).sliceO ho_z1
  have hi_z1 : ∀ g, g ∈ F_z1 → g < w2.heap.size := Ow.lt _ _ _ ho_z1
  have hd_z1 : (F_z1).Nodup := by simpa using hnn2
  clear hnn2 hll2
  go_wp2_with fail
  refine (specProgramSystem_d p0 p1 mode _ ho_z1.rdA ).mono ?_
  rintro e w3 ⟨vs3, F3, rfl, hb3, hoo3, hnn3, hll3⟩
  have hs3 : Below w2.heap.size w2 w3 := hb3
  replace bx2_0 := (bcell1 hs3 (by omega)).trans bx2_0
  replace bx2_1 := (bcell1 hs3 (by omega)).trans bx2_1
  have hz3 : w2.heap.size ≤ w3.heap.size := hb3.size
  replace ho_z1 := ho_z1.below hs3
  replace hB := bnext hB hs3 (Nat.le_refl _)
  clear hb3 hs3
  have hvl3 := owA_len _ _ _ hoo3
  obtain ⟨e_3_0, e_3_1, e_3_2, rfl⟩ : ∃ e_3_0 e_3_1 e_3_2, vs3 = [e_3_0, e_3_1, e_3_2] := (by match vs3, hvl3 with | [e_3_0, e_3_1, e_3_2], _ => exact ⟨e_3_0, e_3_1, e_3_2, rfl⟩)
  clear hvl3
  obtain ⟨G3_0, _, ⟨ev3_0, eg3_0⟩, hr3_0, rfl⟩ := hoo3
  subst ev3_0
  subst eg3_0
  obtain ⟨F_z2, _, ho_z2, hr3_1, rfl⟩ := hr3_0
  obtain ⟨F_z3, _, ho_z3, hr3_2, rfl⟩ := hr3_1
  have hend3 : _ = [] := hr3_2
  subst hend3
  have hl_z2 : ∀ g, g ∈ F_z2 → w2.heap.size ≤ g := fun g hg => by have := hll3 g (by simp [hg]); (try simp at this); omega
  obtain ⟨a_z2, n_z2, c_z2, rfl⟩ := (fit_dI ((progSysS p0 p1 mode).1.2.1)).sliceO ho_z2
  have hl_z3 : ∀ g, g ∈ F_z3 → w2.heap.size ≤ g := fun g hg => by have := hll3 g (by simp [hg]); (try simp at this); omega
  obtain ⟨a_z3, n_z3, c_z3, rfl⟩ := (fit_dRul ((progSysS p0 p1 mode).1.2.2)).sliceO ho_z3
  have hi_z2 : ∀ g, g ∈ F_z2 → g < w3.heap.size := Ow.lt _ _ _ ho_z2
  have hi_z3 : ∀ g, g ∈ F_z3 → g < w3.heap.size := Ow.lt _ _ _ ho_z3
  have hd_z2 : (F_z2 ++ F_z3).Nodup := by simpa using hnn3
  clear hnn3 hll3
  clear ho_z1
  have lt3_0 : w.heap.size < w3.heap.size := by omega
  go_wp2_with fail
  refine (toProgram_d _ (p0) (dO p1) _ _ (h_p1.below (hB.trans ((below_alloc _ _).mono (by omega)))) (fit_dO p1) hv_p1).mono ?_
  rintro e w4 ⟨vs4, F4, rfl, hb4, hoo4, hnn4, hll4⟩
  have hs4 : Below w3.heap.size w3 w4 := (below_alloc _ _).trans (hb4.mono (by simp <;> omega))
  replace bx2_0 := (bcell1 hs4 (by omega)).trans bx2_0
  replace bx2_1 := (bcell1 hs4 (by omega)).trans bx2_1
  have bx6_0 : w4.cell? ⟨w3.heap.size, 0, none⟩ = some (.int .i64 ((progSysS p0 p1 mode).1.1)) := by rw [bcell1 hb4 (by simp <;> omega)]; simp [go_sem]
  have bx6_1 : w4.cell? ⟨w3.heap.size, 1, none⟩ = some (.slice a_z2 n_z2 c_z2) := by rw [bcell1 hb4 (by simp <;> omega)]; simp [go_sem]
  have bx6_2 : w4.cell? ⟨w3.heap.size, 2, none⟩ = some (.slice a_z3 n_z3 c_z3) := by rw [bcell1 hb4 (by simp <;> omega)]; simp [go_sem]
  have hz4 : w3.heap.size + 1 ≤ w4.heap.size := by have := hb4.size; (try simp at this); omega
  replace ho_z2 := ho_z2.below hs4
  replace ho_z3 := ho_z3.below hs4
  replace hB := bnext hB hs4 (Nat.le_refl _)
  clear hb4 hs4
  have hvl4 := owA_len _ _ _ hoo4
  obtain ⟨e_4_0, e_4_1, rfl⟩ : ∃ e_4_0 e_4_1, vs4 = [e_4_0, e_4_1] := (by match vs4, hvl4 with | [e_4_0, e_4_1], _ => exact ⟨e_4_0, e_4_1, rfl⟩)
  clear hvl4
  obtain ⟨G4_0, _, ⟨ev4_0, eg4_0⟩, hr4_0, rfl⟩ := hoo4
  subst ev4_0
  subst eg4_0
  obtain ⟨F_z4, _, ho_z4, hr4_1, rfl⟩ := hr4_0
  have hend4 : _ = [] := hr4_1
  subst hend4
  have hl_z4 : ∀ g, g ∈ F_z4 → w3.heap.size + 1 ≤ g := fun g hg => by have := hll4 g (by simp [hg]); (try simp at this); omega
  obtain ⟨a_z4, n_z4, c_z4, rfl⟩ := (fit_dO p1).sliceO ho_z4
  have hi_z4 : ∀ g, g ∈ F_z4 → g < w4.heap.size := Ow.lt _ _ _ ho_z4
  have hd_z4 : (F_z4).Nodup := by simpa using hnn4
  clear hnn4 hll4
  have lt4_0 : w.heap.size < w4.heap.size := by omega
  have lt4_1 : w3.heap.size < w4.heap.size := by omega
  go_wp2_with fail
  refine (implProgramSystem_d p0 p1 mode _ (ho_z4.below (below_alloc _ _)) ).mono ?_
  rintro e w5 ⟨vs5, F5, rfl, hb5, hoo5, hnn5, hll5⟩
  have hs5 : Below w4.heap.size w4 w5 := (below_alloc _ _).trans (hb5.mono (by simp <;> omega))
  replace bx2_0 := (bcell1 hs5 (by omega)).trans bx2_0
  replace bx2_1 := (bcell1 hs5 (by omega)).trans bx2_1
  replace bx6_0 := (bcell1 hs5 (by omega)).trans bx6_0
  replace bx6_1 := (bcell1 hs5 (by omega)).trans bx6_1
  replace bx6_2 := (bcell1 hs5 (by omega)).trans bx6_2
  have bx8_0 : w5.cell? ⟨w4.heap.size, 0, none⟩ = some (.int .i64 p0) := by rw [bcell1 hb5 (by simp <;> omega)]; simp [go_sem]
  have bx8_1 : w5.cell? ⟨w4.heap.size, 1, none⟩ = some (.slice a_z4 n_z4 c_z4) := by rw [bcell1 hb5 (by simp <;> omega)]; simp [go_sem]
  have hz5 : w4.heap.size + 1 ≤ w5.heap.size := by have := hb5.size; (try simp at this); omega
  replace ho_z2 := ho_z2.below hs5
  replace ho_z3 := ho_z3.below hs5
  replace ho_z4 := ho_z4.below hs5
  replace hB := bnext hB hs5 (Nat.le_refl _)
  clear hb5 hs5
  have hvl5 := owA_len _ _ _ hoo5
  obtain ⟨e_5_0, e_5_1, e_5_2, rfl⟩ : ∃ e_5_0 e_5_1 e_5_2, vs5 = [e_5_0, e_5_1, e_5_2] := (by match vs5, hvl5 with | [e_5_0, e_5_1, e_5_2], _ => exact ⟨e_5_0, e_5_1, e_5_2, rfl⟩)
  clear hvl5
  obtain ⟨G5_0, _, ⟨ev5_0, eg5_0⟩, hr5_0, rfl⟩ := hoo5
  subst ev5_0
  subst eg5_0
  obtain ⟨F_z5, _, ho_z5, hr5_1, rfl⟩ := hr5_0
  obtain ⟨F_z6, _, ho_z6, hr5_2, rfl⟩ := hr5_1
  have hend5 : _ = [] := hr5_2
  subst hend5
  have hl_z5 : ∀ g, g ∈ F_z5 → w4.heap.size + 1 ≤ g := fun g hg => by have := hll5 g (by simp [hg]); (try simp at this); omega
  obtain ⟨a_z5, n_z5, c_z5, rfl⟩ := (fit_dI ((progSysS p0 p1 mode).1.2.1)).sliceO ho_z5
  have hl_z6 : ∀ g, g ∈ F_z6 → w4.heap.size + 1 ≤ g := fun g hg => by have := hll5 g (by simp [hg]); (try simp at this); omega
  obtain ⟨a_z6, n_z6, c_z6, rfl⟩ := (fit_dRul ((progSysS p0 p1 mode).1.2.2)).sliceO ho_z6
  have hi_z5 : ∀ g, g ∈ F_z5 → g < w5.heap.size := Ow.lt _ _ _ ho_z5
  have hi_z6 : ∀ g, g ∈ F_z6 → g < w5.heap.size := Ow.lt _ _ _ ho_z6
  have hd_z5 : (F_z5 ++ F_z6).Nodup := by simpa using hnn5
  clear hnn5 hll5
  have lt5_0 : w.heap.size < w5.heap.size := by omega
  have lt5_1 : w3.heap.size < w5.heap.size := by omega
  have lt5_2 : w4.heap.size < w5.heap.size := by omega
  go_wp2_with fail
  refine (eqSystem_d (((progSysS p0 p1 mode).1.1)) (dI (progSysS p0 p1 mode).1.2.1) _ (dRul (progSysS p0 p1 mode).1.2.2) _ _ _ _ (ho_z5.rdA.below (below_alloc _ _)) (ho_z6.rdA.below (below_alloc _ _)) (ho_z2.rdA.below (below_alloc _ _)) (ho_z3.rdA.below (below_alloc _ _)) (fit_dI ((progSysS p0 p1 mode).1.2.1)) (fit_dRul ((progSysS p0 p1 mode).1.2.2))).mono ?_
  rintro e w6 ⟨rfl, hb6⟩
  have hs6 : Below w5.heap.size w5 w6 := (below_alloc _ _).trans (hb6.mono (by simp <;> omega))
  replace bx2_0 := (bcell1 hs6 (by omega)).trans bx2_0
  replace bx2_1 := (bcell1 hs6 (by omega)).trans bx2_1
  replace bx6_0 := (bcell1 hs6 (by omega)).trans bx6_0
  replace bx6_1 := (bcell1 hs6 (by omega)).trans bx6_1
  replace bx6_2 := (bcell1 hs6 (by omega)).trans bx6_2
  replace bx8_0 := (bcell1 hs6 (by omega)).trans bx8_0
  replace bx8_1 := (bcell1 hs6 (by omega)).trans bx8_1
  have bx9_0 : w6.cell? ⟨w5.heap.size, 0, none⟩ = some (.int .i64 ((progSysS p0 p1 mode).1.1)) := by rw [bcell1 hb6 (by simp <;> omega)]; simp [go_sem]
  have bx9_1 : w6.cell? ⟨w5.heap.size, 1, none⟩ = some (.slice a_z5 n_z5 c_z5) := by rw [bcell1 hb6 (by simp <;> omega)]; simp [go_sem]
  have bx9_2 : w6.cell? ⟨w5.heap.size, 2, none⟩ = some (.slice a_z6 n_z6 c_z6) := by rw [bcell1 hb6 (by simp <;> omega)]; simp [go_sem]
  have hz6 : w5.heap.size + 1 ≤ w6.heap.size := by have := hb6.size; (try simp at this); omega
  replace ho_z2 := ho_z2.below hs6
  replace ho_z3 := ho_z3.below hs6
  replace ho_z4 := ho_z4.below hs6
  replace ho_z5 := ho_z5.below hs6
  replace ho_z6 := ho_z6.below hs6
  replace hB := bnext hB hs6 (Nat.le_refl _)
  clear hb6 hs6
  go_wp2_with fail
  go_region_held3 (fun wx => wx.cell? ⟨w.heap.size, 0, none⟩ = some (.int .i64 p0) ∧ wx.cell? ⟨w.heap.size, 1, none⟩ = some (.slice a_p1 n_p1 c_p1) ∧ wx.cell? ⟨w3.heap.size, 0, none⟩ = some (.int .i64 ((progSysS p0 p1 mode).1.1)) ∧ wx.cell? ⟨w3.heap.size, 1, none⟩ = some (.slice a_z2 n_z2 c_z2) ∧ wx.cell? ⟨w3.heap.size, 2, none⟩ = some (.slice a_z3 n_z3 c_z3) ∧ wx.cell? ⟨w4.heap.size, 0, none⟩ = some (.int .i64 p0) ∧ wx.cell? ⟨w4.heap.size, 1, none⟩ = some (.slice a_z4 n_z4 c_z4) ∧ wx.cell? ⟨w5.heap.size, 0, none⟩ = some (.int .i64 ((progSysS p0 p1 mode).1.1)) ∧ wx.cell? ⟨w5.heap.size, 1, none⟩ = some (.slice a_z5 n_z5 c_z5) ∧ wx.cell? ⟨w5.heap.size, 2, none⟩ = some (.slice a_z6 n_z6 c_z6))
    (first
      | go_keep
      | (refine ⟨?_, ?_, ?_, ?_, ?_, ?_, ?_, ?_, ?_, ?_⟩ <;> (rw [bcell1 hb7 (by show _ < w6.heap.size; omega)]; assumption))
      | (have h1_ : w6.heap.size ≤ w7.heap.size := hb7.size; (try go_split_ands); refine ⟨?_, ?_, ?_, ?_, ?_, ?_, ?_, ?_, ?_, ?_⟩ <;> (rw [bcell1 hb8 (by omega)]; assumption)))
    (first
      | (go_at_call 28; refine (toProgram_d _ (p0) (dO p1) _ _ (h_p1.below hB.drew) (fit_dO p1) hv_p1).mono ?_; rintro e w7 ⟨vs7, F7, rfl, hb7, hoo7, hnn7, hll7⟩; have hvl7 := owA_len _ _ _ hoo7; obtain ⟨e_7_0, e_7_1, rfl⟩ : ∃ e_7_0 e_7_1, vs7 = [e_7_0, e_7_1] := (by match vs7, hvl7 with | [e_7_0, e_7_1], _ => exact ⟨e_7_0, e_7_1, rfl⟩); clear hvl7; obtain ⟨G7_0, _, ⟨ev7_0, eg7_0⟩, hr7_0, rfl⟩ := hoo7; subst ev7_0; subst eg7_0; obtain ⟨F_z7, _, ho_z7, hr7_1, rfl⟩ := hr7_0; have hend7 : _ = [] := hr7_1; subst hend7; obtain ⟨a_z7, n_z7, c_z7, rfl⟩ := (fit_dO p1).sliceO ho_z7)
      | (go_at_call 31; refine (eqProgram_d (p0) (dO p1) _ _ _ (ho_z4.rdA.below ((Below.refl w6.heap.size w6).drew.trans (hb7.mono (by exact Nat.le_refl _)))) ho_z7.rdA (fit_dO p1)).mono ?_; rintro e w8 ⟨rfl, hb8⟩))
  have hs8 : Below w6.heap.size w6 w8 := (((Below.refl w6.heap.size w6).drew.trans (hb7.mono (by exact Nat.le_refl _))).trans (hb8.mono (by have h_0 : w6.heap.size ≤ w7.heap.size := hb7.size;  first | exact h_0 | omega)))
  have hz7 : w6.heap.size ≤ w7.heap.size := hb7.size
  have hz8 : w7.heap.size ≤ w8.heap.size := hb8.size
  replace bx2_0 := (bcell1 hs8 (by omega)).trans bx2_0
  replace bx2_1 := (bcell1 hs8 (by omega)).trans bx2_1
  replace bx6_0 := (bcell1 hs8 (by omega)).trans bx6_0
  replace bx6_1 := (bcell1 hs8 (by omega)).trans bx6_1
  replace bx6_2 := (bcell1 hs8 (by omega)).trans bx6_2
  replace bx8_0 := (bcell1 hs8 (by omega)).trans bx8_0
  replace bx8_1 := (bcell1 hs8 (by omega)).trans bx8_1
  replace bx9_0 := (bcell1 hs8 (by omega)).trans bx9_0
  replace bx9_1 := (bcell1 hs8 (by omega)).trans bx9_1
  replace bx9_2 := (bcell1 hs8 (by omega)).trans bx9_2
  replace ho_z2 := ho_z2.below hs8
  replace ho_z3 := ho_z3.below hs8
  replace ho_z4 := ho_z4.below hs8
  replace ho_z5 := ho_z5.below hs8
  replace ho_z6 := ho_z6.below hs8
  replace hB := bnext hB hs8 (Nat.le_refl _)
  clear hs8 hb7 hb8 ho_z7
  go_wp2_with fail
  refine (markProgram_d (p0) (dO p1) _ _ (1) _ ho_z4 (fit_dO p1) hd_z4 (by first | assumption | (have := cnt_le_vol (fit_dO p1); omega)) (by omega) (by omega)).mono ?_
  rintro e w9 ⟨rfl, hb9, hk9_z4⟩
  have hz9 : w8.heap.size ≤ w9.heap.size := hb9.size
  have hf9 : ∀ g, g ∈ F_z4 → w3.heap.size + 1 ≤ g ∧ g < w4.heap.size := fun g hg => by exact ⟨hl_z4 g hg, hi_z4 g hg⟩
  replace bx2_0 := (hb9.cell (by omega) (fun hg => by have := hf9 _ hg; omega) _).trans bx2_0
  replace bx2_1 := (hb9.cell (by omega) (fun hg => by have := hf9 _ hg; omega) _).trans bx2_1
  replace bx6_0 := (hb9.cell (by omega) (fun hg => by have := hf9 _ hg; omega) _).trans bx6_0
  replace bx6_1 := (hb9.cell (by omega) (fun hg => by have := hf9 _ hg; omega) _).trans bx6_1
  replace bx6_2 := (hb9.cell (by omega) (fun hg => by have := hf9 _ hg; omega) _).trans bx6_2
  replace bx8_0 := (hb9.cell (by omega) (fun hg => by have := hf9 _ hg; omega) _).trans bx8_0
  replace bx8_1 := (hb9.cell (by omega) (fun hg => by have := hf9 _ hg; omega) _).trans bx8_1
  replace bx9_0 := (hb9.cell (by omega) (fun hg => by have := hf9 _ hg; omega) _).trans bx9_0
  replace bx9_1 := (hb9.cell (by omega) (fun hg => by have := hf9 _ hg; omega) _).trans bx9_1
  replace bx9_2 := (hb9.cell (by omega) (fun hg => by have := hf9 _ hg; omega) _).trans bx9_2
  replace ho_z2 := hb9.ow ho_z2 (fun g h1 h2 => by have := hl_z2 g h1; have := hi_z2 g h1; have := hf9 g h2; omega)
  replace ho_z3 := hb9.ow ho_z3 (fun g h1 h2 => by have := hl_z3 g h1; have := hi_z3 g h1; have := hf9 g h2; omega)
  replace ho_z5 := hb9.ow ho_z5 (fun g h1 h2 => by have := hl_z5 g h1; have := hi_z5 g h1; have := hf9 g h2; omega)
  replace ho_z6 := hb9.ow ho_z6 (fun g h1 h2 => by have := hl_z6 g h1; have := hi_z6 g h1; have := hf9 g h2; omega)
  replace hB := hB.trans (hb9.below (by omega) (fun g hg => by have := hf9 g hg; omega))
  clear hb9 hf9
  clear ho_z4
  have ho_z4 := hk9_z4
  clear hk9_z4
  have hcv9_z4 := cnt_le_vol (fit_dO p1)
  clear ho_z4
  go_wp2_with fail
  refine (eqSystem_d (((progSysS p0 p1 mode).1.1)) (dI (progSysS p0 p1 mode).1.2.1) _ (dRul (progSysS p0 p1 mode).1.2.2) _ _ _ _ ho_z5.rdA ho_z6.rdA ho_z2.rdA ho_z3.rdA (fit_dI ((progSysS p0 p1 mode).1.2.1)) (fit_dRul ((progSysS p0 p1 mode).1.2.2))).mono ?_
  rintro e w10 ⟨rfl, hb10⟩
  have hs10 : Below w9.heap.size w9 w10 := hb10
  replace bx2_0 := (bcell1 hs10 (by omega)).trans bx2_0
  replace bx2_1 := (bcell1 hs10 (by omega)).trans bx2_1
  replace bx6_0 := (bcell1 hs10 (by omega)).trans bx6_0
  replace bx6_1 := (bcell1 hs10 (by omega)).trans bx6_1
  replace bx6_2 := (bcell1 hs10 (by omega)).trans bx6_2
  replace bx8_0 := (bcell1 hs10 (by omega)).trans bx8_0
  replace bx8_1 := (bcell1 hs10 (by omega)).trans bx8_1
  replace bx9_0 := (bcell1 hs10 (by omega)).trans bx9_0
  replace bx9_1 := (bcell1 hs10 (by omega)).trans bx9_1
  replace bx9_2 := (bcell1 hs10 (by omega)).trans bx9_2
  have hz10 : w9.heap.size ≤ w10.heap.size := hb10.size
  replace ho_z2 := ho_z2.below hs10
  replace ho_z3 := ho_z3.below hs10
  replace ho_z5 := ho_z5.below hs10
  replace ho_z6 := ho_z6.below hs10
  replace hB := bnext hB hs10 (Nat.le_refl _)
  clear hb10 hs10
  go_wp2_with fail
  refine (markSystem_d (((progSysS p0 p1 mode).1.1)) (dI (progSysS p0 p1 mode).1.2.1) _ (dRul (progSysS p0 p1 mode).1.2.2) _ _ _ (1) _ ho_z5 ho_z6 (fit_dI ((progSysS p0 p1 mode).1.2.1)) (fit_dRul ((progSysS p0 p1 mode).1.2.2)) hd_z5 (by first | assumption | (have := cnt_le_vol (fit_dI ((progSysS p0 p1 mode).1.2.1)); omega)) (by first | assumption | (have := cnt_le_vol (fit_dRul ((progSysS p0 p1 mode).1.2.2)); omega)) (by omega) (by omega)).mono ?_
  rintro e w11 ⟨rfl, hb11, hk11_z5, hk11_z6⟩
  have hz11 : w10.heap.size ≤ w11.heap.size := hb11.size
  have hf11 : ∀ g, g ∈ F_z5 ++ F_z6 → w4.heap.size + 1 ≤ g ∧ g < w5.heap.size := fun g hg => by (try simp only [List.mem_append] at hg); rcases hg with hg | hg <;> first | exact ⟨hl_z5 g hg, hi_z5 g hg⟩ | exact ⟨hl_z6 g hg, hi_z6 g hg⟩
  replace bx2_0 := (hb11.cell (by omega) (fun hg => by have := hf11 _ hg; omega) _).trans bx2_0
  replace bx2_1 := (hb11.cell (by omega) (fun hg => by have := hf11 _ hg; omega) _).trans bx2_1
  replace bx6_0 := (hb11.cell (by omega) (fun hg => by have := hf11 _ hg; omega) _).trans bx6_0
  replace bx6_1 := (hb11.cell (by omega) (fun hg => by have := hf11 _ hg; omega) _).trans bx6_1
  replace bx6_2 := (hb11.cell (by omega) (fun hg => by have := hf11 _ hg; omega) _).trans bx6_2
  replace bx8_0 := (hb11.cell (by omega) (fun hg => by have := hf11 _ hg; omega) _).trans bx8_0
  replace bx8_1 := (hb11.cell (by omega) (fun hg => by have := hf11 _ hg; omega) _).trans bx8_1
  replace bx9_0 := (hb11.cell (by omega) (fun hg => by have := hf11 _ hg; omega) _).trans bx9_0
  replace bx9_1 := (hb11.cell (by omega) (fun hg => by have := hf11 _ hg; omega) _).trans bx9_1
  replace bx9_2 := (hb11.cell (by omega) (fun hg => by have := hf11 _ hg; omega) _).trans bx9_2
  replace ho_z2 := hb11.ow ho_z2 (fun g h1 h2 => by have := hl_z2 g h1; have := hi_z2 g h1; have := hf11 g h2; omega)
  replace ho_z3 := hb11.ow ho_z3 (fun g h1 h2 => by have := hl_z3 g h1; have := hi_z3 g h1; have := hf11 g h2; omega)
  replace hB := hB.trans (hb11.below (by omega) (fun g hg => by have := hf11 g hg; omega))
  clear hb11 hf11
  clear ho_z5
  have ho_z5 := hk11_z5
  clear hk11_z5
  clear ho_z6
  have ho_z6 := hk11_z6
  clear hk11_z6
  have hcv11_z5 := cnt_le_vol (fit_dI ((progSysS p0 p1 mode).1.2.1))
  have hcv11_z6 := cnt_le_vol (fit_dRul ((progSysS p0 p1 mode).1.2.2))
  go_wp2_with fail
  refine (heldSystem_d Any (((progSysS p0 p1 mode).1.1)) (dI (progSysS p0 p1 mode).1.2.1) _ (dRul (progSysS p0 p1 mode).1.2.2) _ (1) _ ho_z5.rdA ho_z6.rdA (fit_dI ((progSysS p0 p1 mode).1.2.1)) (fit_dRul ((progSysS p0 p1 mode).1.2.2)) (by first | assumption | (have := cnt_le_vol (fit_dI ((progSysS p0 p1 mode).1.2.1)); omega)) (by first | assumption | (have := cnt_le_vol (fit_dRul ((progSysS p0 p1 mode).1.2.2)); omega)) (by omega) (by omega)).mono ?_
  rintro e w12 ⟨rfl, hb12⟩
  have hs12 : Below w11.heap.size w11 w12 := hb12
  replace bx2_0 := (bcell1 hs12 (by omega)).trans bx2_0
  replace bx2_1 := (bcell1 hs12 (by omega)).trans bx2_1
  replace bx6_0 := (bcell1 hs12 (by omega)).trans bx6_0
  replace bx6_1 := (bcell1 hs12 (by omega)).trans bx6_1
  replace bx6_2 := (bcell1 hs12 (by omega)).trans bx6_2
  replace bx8_0 := (bcell1 hs12 (by omega)).trans bx8_0
  replace bx8_1 := (bcell1 hs12 (by omega)).trans bx8_1
  replace bx9_0 := (bcell1 hs12 (by omega)).trans bx9_0
  replace bx9_1 := (bcell1 hs12 (by omega)).trans bx9_1
  replace bx9_2 := (bcell1 hs12 (by omega)).trans bx9_2
  have hz12 : w11.heap.size ≤ w12.heap.size := hb12.size
  replace ho_z2 := ho_z2.below hs12
  replace ho_z3 := ho_z3.below hs12
  replace ho_z5 := ho_z5.below hs12
  replace ho_z6 := ho_z6.below hs12
  replace hB := bnext hB hs12 (Nat.le_refl _)
  clear hb12 hs12
  go_wp2_with fail
  refine (toProgram_d _ (p0) (dO p1) _ _ (h_p1.below hB) (fit_dO p1) hv_p1).mono ?_
  rintro e w13 ⟨vs13, F13, rfl, hb13, hoo13, hnn13, hll13⟩
  have hs13 : Below w12.heap.size w12 w13 := hb13
  replace bx2_0 := (bcell1 hs13 (by omega)).trans bx2_0
  replace bx2_1 := (bcell1 hs13 (by omega)).trans bx2_1
  replace bx6_0 := (bcell1 hs13 (by omega)).trans bx6_0
  replace bx6_1 := (bcell1 hs13 (by omega)).trans bx6_1
  replace bx6_2 := (bcell1 hs13 (by omega)).trans bx6_2
  replace bx8_0 := (bcell1 hs13 (by omega)).trans bx8_0
  replace bx8_1 := (bcell1 hs13 (by omega)).trans bx8_1
  replace bx9_0 := (bcell1 hs13 (by omega)).trans bx9_0
  replace bx9_1 := (bcell1 hs13 (by omega)).trans bx9_1
  replace bx9_2 := (bcell1 hs13 (by omega)).trans bx9_2
  have hz13 : w12.heap.size ≤ w13.heap.size := hb13.size
  replace ho_z2 := ho_z2.below hs13
  replace ho_z3 := ho_z3.below hs13
  replace ho_z5 := ho_z5.below hs13
  replace ho_z6 := ho_z6.below hs13
  replace hB := bnext hB hs13 (Nat.le_refl _)
  clear hb13 hs13
  have hvl13 := owA_len _ _ _ hoo13
  obtain ⟨e_13_0, e_13_1, rfl⟩ : ∃ e_13_0 e_13_1, vs13 = [e_13_0, e_13_1] := (by match vs13, hvl13 with | [e_13_0, e_13_1], _ => exact ⟨e_13_0, e_13_1, rfl⟩)
  clear hvl13
  obtain ⟨G13_0, _, ⟨ev13_0, eg13_0⟩, hr13_0, rfl⟩ := hoo13
  subst ev13_0
  subst eg13_0
  obtain ⟨F_z8, _, ho_z8, hr13_1, rfl⟩ := hr13_0
  have hend13 : _ = [] := hr13_1
  subst hend13
  have hl_z8 : ∀ g, g ∈ F_z8 → w12.heap.size ≤ g := fun g hg => by have := hll13 g (by simp [hg]); (try simp at this); omega
  obtain ⟨a_z8, n_z8, c_z8, rfl⟩ := (fit_dO p1).sliceO ho_z8
  have hi_z8 : ∀ g, g ∈ F_z8 → g < w13.heap.size := Ow.lt _ _ _ ho_z8
  have hd_z8 : (F_z8).Nodup := by simpa using hnn13
  clear hnn13 hll13
  go_wp2_with fail
  refine (implProgramSystem_d p0 p1 mode _ ho_z8 ).mono ?_
  rintro e w14 ⟨vs14, F14, rfl, hb14, hoo14, hnn14, hll14⟩
  have hs14 : Below w13.heap.size w13 w14 := hb14
  replace bx2_0 := (bcell1 hs14 (by omega)).trans bx2_0
  replace bx2_1 := (bcell1 hs14 (by omega)).trans bx2_1
  replace bx6_0 := (bcell1 hs14 (by omega)).trans bx6_0
  replace bx6_1 := (bcell1 hs14 (by omega)).trans bx6_1
  replace bx6_2 := (bcell1 hs14 (by omega)).trans bx6_2
  replace bx8_0 := (bcell1 hs14 (by omega)).trans bx8_0
  replace bx8_1 := (bcell1 hs14 (by omega)).trans bx8_1
  replace bx9_0 := (bcell1 hs14 (by omega)).trans bx9_0
  replace bx9_1 := (bcell1 hs14 (by omega)).trans bx9_1
  replace bx9_2 := (bcell1 hs14 (by omega)).trans bx9_2
  have hz14 : w13.heap.size ≤ w14.heap.size := hb14.size
  replace ho_z2 := ho_z2.below hs14
  replace ho_z3 := ho_z3.below hs14
  replace ho_z5 := ho_z5.below hs14
  replace ho_z6 := ho_z6.below hs14
  replace ho_z8 := ho_z8.below hs14
  replace hB := bnext hB hs14 (Nat.le_refl _)
  clear hb14 hs14
  have hvl14 := owA_len _ _ _ hoo14
  obtain ⟨e_14_0, e_14_1, e_14_2, rfl⟩ : ∃ e_14_0 e_14_1 e_14_2, vs14 = [e_14_0, e_14_1, e_14_2] := (by match vs14, hvl14 with | [e_14_0, e_14_1, e_14_2], _ => exact ⟨e_14_0, e_14_1, e_14_2, rfl⟩)
  clear hvl14
  obtain ⟨G14_0, _, ⟨ev14_0, eg14_0⟩, hr14_0, rfl⟩ := hoo14
  subst ev14_0
  subst eg14_0
  obtain ⟨F_z9, _, ho_z9, hr14_1, rfl⟩ := hr14_0
  obtain ⟨F_z10, _, ho_z10, hr14_2, rfl⟩ := hr14_1
  have hend14 : _ = [] := hr14_2
  subst hend14
  have hl_z9 : ∀ g, g ∈ F_z9 → w13.heap.size ≤ g := fun g hg => by have := hll14 g (by simp [hg]); (try simp at this); omega
  obtain ⟨a_z9, n_z9, c_z9, rfl⟩ := (fit_dI ((progSysS p0 p1 mode).1.2.1)).sliceO ho_z9
  have hl_z10 : ∀ g, g ∈ F_z10 → w13.heap.size ≤ g := fun g hg => by have := hll14 g (by simp [hg]); (try simp at this); omega
  obtain ⟨a_z10, n_z10, c_z10, rfl⟩ := (fit_dRul ((progSysS p0 p1 mode).1.2.2)).sliceO ho_z10
  have hi_z9 : ∀ g, g ∈ F_z9 → g < w14.heap.size := Ow.lt _ _ _ ho_z9
  have hi_z10 : ∀ g, g ∈ F_z10 → g < w14.heap.size := Ow.lt _ _ _ ho_z10
  have hd_z9 : (F_z9 ++ F_z10).Nodup := by simpa using hnn14
  clear hnn14 hll14
  clear ho_z8
  have lt14_0 : w.heap.size < w14.heap.size := by omega
  have lt14_1 : w3.heap.size < w14.heap.size := by omega
  have lt14_2 : w4.heap.size < w14.heap.size := by omega
  have lt14_3 : w5.heap.size < w14.heap.size := by omega
  go_wp2_with fail
  refine (eqSystem_d (((progSysS p0 p1 mode).1.1)) (dI (progSysS p0 p1 mode).1.2.1) _ (dRul (progSysS p0 p1 mode).1.2.2) _ _ _ _ (ho_z9.rdA.below (below_alloc _ _)) (ho_z10.rdA.below (below_alloc _ _)) (ho_z2.rdA.below (below_alloc _ _)) (ho_z3.rdA.below (below_alloc _ _)) (fit_dI ((progSysS p0 p1 mode).1.2.1)) (fit_dRul ((progSysS p0 p1 mode).1.2.2))).mono ?_
  rintro e w15 ⟨rfl, hb15⟩
  have hs15 : Below w14.heap.size w14 w15 := (below_alloc _ _).trans (hb15.mono (by simp <;> omega))
  replace bx2_0 := (bcell1 hs15 (by omega)).trans bx2_0
  replace bx2_1 := (bcell1 hs15 (by omega)).trans bx2_1
  replace bx6_0 := (bcell1 hs15 (by omega)).trans bx6_0
  replace bx6_1 := (bcell1 hs15 (by omega)).trans bx6_1
  replace bx6_2 := (bcell1 hs15 (by omega)).trans bx6_2
  replace bx8_0 := (bcell1 hs15 (by omega)).trans bx8_0
  replace bx8_1 := (bcell1 hs15 (by omega)).trans bx8_1
  replace bx9_0 := (bcell1 hs15 (by omega)).trans bx9_0
  replace bx9_1 := (bcell1 hs15 (by omega)).trans bx9_1
  replace bx9_2 := (bcell1 hs15 (by omega)).trans bx9_2
  have bx14_0 : w15.cell? ⟨w14.heap.size, 0, none⟩ = some (.int .i64 ((progSysS p0 p1 mode).1.1)) := by rw [bcell1 hb15 (by simp <;> omega)]; simp [go_sem]
  have bx14_1 : w15.cell? ⟨w14.heap.size, 1, none⟩ = some (.slice a_z9 n_z9 c_z9) := by rw [bcell1 hb15 (by simp <;> omega)]; simp [go_sem]
  have bx14_2 : w15.cell? ⟨w14.heap.size, 2, none⟩ = some (.slice a_z10 n_z10 c_z10) := by rw [bcell1 hb15 (by simp <;> omega)]; simp [go_sem]
  have hz15 : w14.heap.size + 1 ≤ w15.heap.size := by have := hb15.size; (try simp at this); omega
  replace ho_z2 := ho_z2.below hs15
  replace ho_z3 := ho_z3.below hs15
  replace ho_z5 := ho_z5.below hs15
  replace ho_z6 := ho_z6.below hs15
  replace ho_z9 := ho_z9.below hs15
  replace ho_z10 := ho_z10.below hs15
  replace hB := bnext hB hs15 (Nat.le_refl _)
  clear hb15 hs15
  clear ho_z2 ho_z3 ho_z9 ho_z10
  go_wp2_with fail
  refine (heldSystem_d Any (((progSysS p0 p1 mode).1.1)) (dI (progSysS p0 p1 mode).1.2.1) _ (dRul (progSysS p0 p1 mode).1.2.2) _ (1) _ ho_z5.rdA ho_z6.rdA (fit_dI ((progSysS p0 p1 mode).1.2.1)) (fit_dRul ((progSysS p0 p1 mode).1.2.2)) (by first | assumption | (have := cnt_le_vol (fit_dI ((progSysS p0 p1 mode).1.2.1)); omega)) (by first | assumption | (have := cnt_le_vol (fit_dRul ((progSysS p0 p1 mode).1.2.2)); omega)) (by omega) (by omega)).mono ?_
  rintro e w16 ⟨rfl, hb16⟩
  have hs16 : Below w15.heap.size w15 w16 := hb16
  replace bx2_0 := (bcell1 hs16 (by omega)).trans bx2_0
  replace bx2_1 := (bcell1 hs16 (by omega)).trans bx2_1
  replace bx6_0 := (bcell1 hs16 (by omega)).trans bx6_0
  replace bx6_1 := (bcell1 hs16 (by omega)).trans bx6_1
  replace bx6_2 := (bcell1 hs16 (by omega)).trans bx6_2
  replace bx8_0 := (bcell1 hs16 (by omega)).trans bx8_0
  replace bx8_1 := (bcell1 hs16 (by omega)).trans bx8_1
  replace bx9_0 := (bcell1 hs16 (by omega)).trans bx9_0
  replace bx9_1 := (bcell1 hs16 (by omega)).trans bx9_1
  replace bx9_2 := (bcell1 hs16 (by omega)).trans bx9_2
  replace bx14_0 := (bcell1 hs16 (by omega)).trans bx14_0
  replace bx14_1 := (bcell1 hs16 (by omega)).trans bx14_1
  replace bx14_2 := (bcell1 hs16 (by omega)).trans bx14_2
  have hz16 : w15.heap.size ≤ w16.heap.size := hb16.size
  replace ho_z5 := ho_z5.below hs16
  replace ho_z6 := ho_z6.below hs16
  replace hB := bnext hB hs16 (Nat.le_refl _)
  clear hb16 hs16
  clear ho_z5 ho_z6
  go_wp2
  go_ret
  exact ⟨rfl, hB⟩
set_option maxRecDepth 100000 in
theorem lifted (os : Os) (started : os.Started) (H : Type) (enc : TypeId × Value → H) :
    ReturnsInHanded {} Try.checked os 11 .any (Rows.fnExactProgramSystemSpec.pre6 enc Try.prog Try.f11 Rows.fnExactProgramSystemRow.domain false) (Rows.fnExactProgramSystemSpec.post enc Try.prog Try.f11 false true false false) :=
  lift Try.func11 (by kernel_rfl) rfl rfl (by kernel_rfl : Try.prog.underlying 4 = some .bool) (by kernel_rfl) (fun ds h => by match ds, h with | [d0, d1], _ => rfl) started
    (ChangeSpec.witness6 (enc := enc) (C := Try.checked) false ⟨#[], #[.agg #[.int .i64 0, .slice none 0 0], .int .i64 0], []⟩ 8 (by kernel_rfl) (by kernel_rfl) (by kernel_rfl) (by kernel_rfl))
    (fun W base args ds p hval hA => by
      rw [Try.params11] at hA hval
      obtain ⟨v0, vs0, d0, ds0, p0, q0, hargs0, rfl, rfl, g0, r0⟩ := ChangeShapes.trodAll_cons hA
      obtain ⟨v1, vs1, d1, ds1, p1, q1, hargs1, rfl, rfl, g1, r1⟩ := ChangeShapes.trodAll_cons r0
      obtain ⟨hnil, rfl, rfl⟩ := ChangeShapes.trodAll_nil r1
      obtain rfl : args = #[v0, v1] := by cases args; simp_all
      obtain ⟨vs0x, dsx0, rfl, fx0, rx0⟩ := open_A [.i, .l [.i, .i, .i, .i]] Try.underlying46 (by kernel_rfl) (hval 0 _ _ rfl rfl) g0
      obtain ⟨_, s0_0, rfl, ⟨x0_0, rfl⟩, t0_0⟩ := fx0
      obtain ⟨_, s0_1, rfl, j0_1, t0_1⟩ := t0_0
      obtain ⟨x0_1, rfl⟩ := fitD_O j0_1
      obtain rfl : s0_1 = [] := t0_1
      obtain ⟨y0_0, z0_0, e0_0, k0_0, l0_0⟩ := rx0
      subst e0_0
      obtain rfl : y0_0 = .int .i64 x0_0 := k0_0
      obtain ⟨y0_1, z0_1, e0_1, k0_1, l0_1⟩ := l0_0
      subst e0_1
      obtain rfl : z0_1 = [] := l0_1
      obtain ⟨x1, rfl, rfl, rfl, wx1⟩ := open_int (by kernel_rfl : Try.prog.underlying 2 = some (.int .i64)) (hval 1 _ _ rfl rfl) g1
      exact walk x0_0 x0_1 y0_1 x1 W k0_1)
end Go.Proofs.Ytldjgkandkclpaa.lawProgramSystem
