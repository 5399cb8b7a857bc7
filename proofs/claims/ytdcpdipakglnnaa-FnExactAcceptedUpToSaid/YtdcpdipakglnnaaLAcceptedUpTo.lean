/- FnExactAcceptedUpTo: whatever the input, the law returns true. No condition. Written by lawgen2.py. -/
import Derived.Test.YtdcpdipakglnnaaNO
import Derived.Test.YtdcpdipakglnnaaF
import Derived.Test.YtdcpdipakglnnaaWB
import Derived.Test.YtdcpdipakglnnaaYC
import Derived.Deep.RegionHeld3
namespace Go.Proofs.Ytdcpdipakglnnaa.lawAcceptedUpTo
open Go.ChangeShapes Go.WideShapes Go.ChangeAt Go.RowKit
set_option maxHeartbeats 3000000 in
set_option maxRecDepth 100000 in
theorem walk (p0 : Int) (p1 : List Ord) (v_p1 : Value) (most : Int) (steps : Int) (w : World) (h_p1 : Rd (· < w.heap.size) w (dO p1) v_p1) :
    Calls Try.prog 11 #[.agg #[.int .i64 p0, v_p1], .int .i64 most, .int .i64 steps] w (RetV w (.bool true)) := by
  obtain ⟨a_p1, n_p1, c_p1, rfl⟩ := (fit_dO p1).sliceR h_p1
  have hcn := accepted_cnt p0 p1 most steps
  have hB := Below.refl w.heap.size w
  go_enter Try.func11, Try.ntmps11
  go_wp2_with fail
  refine (szProgram_d _ (p0) (dO p1) _ 1048576 _ (h_p1.below (hB.trans (below_alloc _ _))) (fit_dO p1) (by omega) (by omega)).mono ?_
  rintro e w1 ⟨L1, rfl, hb1, yy1, uu1, p1⟩
  have hs1 : Below w.heap.size w w1 := (below_alloc _ _).trans (hb1.mono (by simp <;> omega))
  have bx3_0 : w1.cell? ⟨w.heap.size, 0, none⟩ = some (.int .i64 p0) := by rw [bcell1 hb1 (by simp <;> omega)]; simp [go_sem]
  have bx3_1 : w1.cell? ⟨w.heap.size, 1, none⟩ = some (.slice a_p1 n_p1 c_p1) := by rw [bcell1 hb1 (by simp <;> omega)]; simp [go_sem]
  have hz1 : w.heap.size + 1 ≤ w1.heap.size := by have := hb1.size; (try simp at this); omega
  replace hB := bnext hB hs1 (Nat.le_refl _)
  clear hb1 hs1
  by_cases n1 : L1 < 0
  · go_wp2
    go_ret
    exact ⟨rfl, hB⟩
  have q1 := p1 (by omega)
  have m1 : 0 ≤ L1 := by omega
  clear p1
  have hv_p1 : vol (dO p1) ≤ 16777216 := by omega
  go_wp2_with fail
  refine (toProgram_d _ (p0) (dO p1) _ _ (h_p1.below hB) (fit_dO p1) hv_p1).mono ?_
  rintro e w2 ⟨vs2, F2, rfl, hb2, hoo2, hnn2, hll2⟩
  have hs2 : Below w1.heap.size w1 w2 := hb2
  replace bx3_0 := (bcell1 hs2 (by omega)).trans bx3_0
  replace bx3_1 := (bcell1 hs2 (by omega)).trans bx3_1
  have hz2 : w1.heap.size ≤ w2.heap.size := hb2.size
  replace hB := bnext hB hs2 (Nat.le_refl _)
  clear hb2 hs2
  have hvl2 := owA_len _ _ _ hoo2
  obtain ⟨e_2_0, e_2_1, rfl⟩ : ∃ e_2_0 e_2_1, vs2 = [e_2_0, e_2_1] := (by match vs2, hvl2 with | [e_2_0, e_2_1], _ => exact ⟨e_2_0, e_2_1, rfl⟩)
  clear hvl2
  obtain ⟨G2_0, _, ⟨ev2_0, eg2_0⟩, hr2_0, rfl⟩ := hoo2
  subst ev2_0
  subst eg2_0
  obtain ⟨F_z1, _, ho_z1, hr2_1, rfl⟩ := hr2_0
  have hend2 : _ = [] := hr2_1
  subst hend2
  have hl_z1 : ∀ g, g ∈ F_z1 → w1.heap.size ≤ g := fun g hg => by have := hll2 g (by simp [hg]); (try simp at this); omega
  obtain ⟨a_z1, n_z1, c_z1, rfl⟩ := (fit_dO p1).sliceO ho_z1
  have hi_z1 : ∀ g, g ∈ F_z1 → g < w2.heap.size := Ow.lt _ _ _ ho_z1
  have hd_z1 : (F_z1).Nodup := by simpa using hnn2
  clear hnn2 hll2
  go_wp2_with fail
  refine (specAcceptedUpTo_d p0 p1 most steps _ ho_z1.rdA ).mono ?_
  rintro e w3 ⟨v3, F_z2, rfl, hb3, ho_z2, hnn3, hll3⟩
  have hs3 : Below w2.heap.size w2 w3 := hb3
  replace bx3_0 := (bcell1 hs3 (by omega)).trans bx3_0
  replace bx3_1 := (bcell1 hs3 (by omega)).trans bx3_1
  have hz3 : w2.heap.size ≤ w3.heap.size := hb3.size
  replace ho_z1 := ho_z1.below hs3
  replace hB := bnext hB hs3 (Nat.le_refl _)
  clear hb3 hs3
  have hl_z2 : ∀ g, g ∈ F_z2 → w2.heap.size ≤ g := fun g hg => by have := hll3 g hg; (try simp at this); omega
  obtain ⟨a_z2, n_z2, c_z2, rfl⟩ := (fit_dI ((acceptedS p0 p1 most steps).1)).sliceO ho_z2
  have hi_z2 : ∀ g, g ∈ F_z2 → g < w3.heap.size := Ow.lt _ _ _ ho_z2
  have hd_z2 := hnn3
  clear hnn3 hll3
  clear ho_z1
  go_wp2_with fail
  refine (toProgram_d _ (p0) (dO p1) _ _ (h_p1.below hB) (fit_dO p1) hv_p1).mono ?_
  rintro e w4 ⟨vs4, F4, rfl, hb4, hoo4, hnn4, hll4⟩
  have hs4 : Below w3.heap.size w3 w4 := hb4
  replace bx3_0 := (bcell1 hs4 (by omega)).trans bx3_0
  replace bx3_1 := (bcell1 hs4 (by omega)).trans bx3_1
  have hz4 : w3.heap.size ≤ w4.heap.size := hb4.size
  replace ho_z2 := ho_z2.below hs4
  replace hB := bnext hB hs4 (Nat.le_refl _)
  clear hb4 hs4
  have hvl4 := owA_len _ _ _ hoo4
  obtain ⟨e_4_0, e_4_1, rfl⟩ : ∃ e_4_0 e_4_1, vs4 = [e_4_0, e_4_1] := (by match vs4, hvl4 with | [e_4_0, e_4_1], _ => exact ⟨e_4_0, e_4_1, rfl⟩)
  clear hvl4
  obtain ⟨G4_0, _, ⟨ev4_0, eg4_0⟩, hr4_0, rfl⟩ := hoo4
  subst ev4_0
  subst eg4_0
  obtain ⟨F_z3, _, ho_z3, hr4_1, rfl⟩ := hr4_0
  have hend4 : _ = [] := hr4_1
  subst hend4
  have hl_z3 : ∀ g, g ∈ F_z3 → w3.heap.size ≤ g := fun g hg => by have := hll4 g (by simp [hg]); (try simp at this); omega
  obtain ⟨a_z3, n_z3, c_z3, rfl⟩ := (fit_dO p1).sliceO ho_z3
  have hi_z3 : ∀ g, g ∈ F_z3 → g < w4.heap.size := Ow.lt _ _ _ ho_z3
  have hd_z3 : (F_z3).Nodup := by simpa using hnn4
  clear hnn4 hll4
  have lt4_0 : w.heap.size < w4.heap.size := by omega
  go_wp2_with fail
  refine (implAcceptedUpTo_d p0 p1 most steps _ (ho_z3.rdA.below (below_alloc _ _)) ).mono ?_
  rintro e w5 ⟨v5, F_z4, rfl, hb5, ho_z4, hnn5, hll5⟩
  have hs5 : Below w4.heap.size w4 w5 := (below_alloc _ _).trans (hb5.mono (by simp <;> omega))
  replace bx3_0 := (bcell1 hs5 (by omega)).trans bx3_0
  replace bx3_1 := (bcell1 hs5 (by omega)).trans bx3_1
  have bx10_0 : w5.cell? ⟨w4.heap.size, 0, none⟩ = some (.int .i64 p0) := by rw [bcell1 hb5 (by simp <;> omega)]; simp [go_sem]
  have bx10_1 : w5.cell? ⟨w4.heap.size, 1, none⟩ = some (.slice a_z3 n_z3 c_z3) := by rw [bcell1 hb5 (by simp <;> omega)]; simp [go_sem]
  have hz5 : w4.heap.size + 1 ≤ w5.heap.size := by have := hb5.size; (try simp at this); omega
  replace ho_z2 := ho_z2.below hs5
  replace ho_z3 := ho_z3.below hs5
  replace hB := bnext hB hs5 (Nat.le_refl _)
  clear hb5 hs5
  have hl_z4 : ∀ g, g ∈ F_z4 → w4.heap.size + 1 ≤ g := fun g hg => by have := hll5 g hg; (try simp at this); omega
  obtain ⟨a_z4, n_z4, c_z4, rfl⟩ := (fit_dI ((acceptedS p0 p1 most steps).1)).sliceO ho_z4
  have hi_z4 : ∀ g, g ∈ F_z4 → g < w5.heap.size := Ow.lt _ _ _ ho_z4
  have hd_z4 := hnn5
  clear hnn5 hll5
  go_wp2_with fail
  refine (eqInt64S_d (dI (acceptedS p0 p1 most steps).1) _ _ _ ho_z4.rdA ho_z2.rdA (fit_dI ((acceptedS p0 p1 most steps).1))).mono ?_
  rintro e w6 ⟨rfl, hb6⟩
  have hs6 : Below w5.heap.size w5 w6 := hb6
  replace bx3_0 := (bcell1 hs6 (by omega)).trans bx3_0
  replace bx3_1 := (bcell1 hs6 (by omega)).trans bx3_1
  replace bx10_0 := (bcell1 hs6 (by omega)).trans bx10_0
  replace bx10_1 := (bcell1 hs6 (by omega)).trans bx10_1
  have hz6 : w5.heap.size ≤ w6.heap.size := hb6.size
  replace ho_z2 := ho_z2.below hs6
  replace ho_z3 := ho_z3.below hs6
  replace ho_z4 := ho_z4.below hs6
  replace hB := bnext hB hs6 (Nat.le_refl _)
  clear hb6 hs6
  go_wp2_with fail
  go_region_held3 (fun wx => wx.cell? ⟨w.heap.size, 0, none⟩ = some (.int .i64 p0) ∧ wx.cell? ⟨w.heap.size, 1, none⟩ = some (.slice a_p1 n_p1 c_p1) ∧ wx.cell? ⟨w4.heap.size, 0, none⟩ = some (.int .i64 p0) ∧ wx.cell? ⟨w4.heap.size, 1, none⟩ = some (.slice a_z3 n_z3 c_z3))
    (first
      | go_keep
      | (refine ⟨?_, ?_, ?_, ?_⟩ <;> (rw [bcell1 hb7 (by show _ < w6.heap.size; omega)]; assumption))
      | (have h1_ : w6.heap.size ≤ w7.heap.size := hb7.size; (try go_split_ands); refine ⟨?_, ?_, ?_, ?_⟩ <;> (rw [bcell1 hb8 (by omega)]; assumption)))
    (first
      | (go_at_call 39; refine (toProgram_d _ (p0) (dO p1) _ _ (h_p1.below hB.drew) (fit_dO p1) hv_p1).mono ?_; rintro e w7 ⟨vs7, F7, rfl, hb7, hoo7, hnn7, hll7⟩; have hvl7 := owA_len _ _ _ hoo7; obtain ⟨e_7_0, e_7_1, rfl⟩ : ∃ e_7_0 e_7_1, vs7 = [e_7_0, e_7_1] := (by match vs7, hvl7 with | [e_7_0, e_7_1], _ => exact ⟨e_7_0, e_7_1, rfl⟩); clear hvl7; obtain ⟨G7_0, _, ⟨ev7_0, eg7_0⟩, hr7_0, rfl⟩ := hoo7; subst ev7_0; subst eg7_0; obtain ⟨F_z5, _, ho_z5, hr7_1, rfl⟩ := hr7_0; have hend7 : _ = [] := hr7_1; subst hend7; obtain ⟨a_z5, n_z5, c_z5, rfl⟩ := (fit_dO p1).sliceO ho_z5)
      | (go_at_call 41; refine (eqProgram_d (p0) (dO p1) _ _ _ (ho_z3.rdA.below ((Below.refl w6.heap.size w6).drew.trans (hb7.mono (by exact Nat.le_refl _)))) ho_z5.rdA (fit_dO p1)).mono ?_; rintro e w8 ⟨rfl, hb8⟩))
  have hs8 : Below w6.heap.size w6 w8 := (((Below.refl w6.heap.size w6).drew.trans (hb7.mono (by exact Nat.le_refl _))).trans (hb8.mono (by have h_0 : w6.heap.size ≤ w7.heap.size := hb7.size;  first | exact h_0 | omega)))
  have hz7 : w6.heap.size ≤ w7.heap.size := hb7.size
  have hz8 : w7.heap.size ≤ w8.heap.size := hb8.size
  replace bx3_0 := (bcell1 hs8 (by omega)).trans bx3_0
  replace bx3_1 := (bcell1 hs8 (by omega)).trans bx3_1
  replace bx10_0 := (bcell1 hs8 (by omega)).trans bx10_0
  replace bx10_1 := (bcell1 hs8 (by omega)).trans bx10_1
  replace ho_z2 := ho_z2.below hs8
  replace ho_z3 := ho_z3.below hs8
  replace ho_z4 := ho_z4.below hs8
  replace hB := bnext hB hs8 (Nat.le_refl _)
  clear hs8 hb7 hb8 ho_z5
  go_wp2_with fail
  refine (markProgram_d (p0) (dO p1) _ _ (1) _ ho_z3 (fit_dO p1) hd_z3 (by first | assumption | (have := cnt_le_vol (fit_dO p1); omega)) (by omega) (by omega)).mono ?_
  rintro e w9 ⟨rfl, hb9, hk9_z3⟩
  have hz9 : w8.heap.size ≤ w9.heap.size := hb9.size
  have hf9 : ∀ g, g ∈ F_z3 → w3.heap.size ≤ g ∧ g < w4.heap.size := fun g hg => by exact ⟨hl_z3 g hg, hi_z3 g hg⟩
  replace bx3_0 := (hb9.cell (by omega) (fun hg => by have := hf9 _ hg; omega) _).trans bx3_0
  replace bx3_1 := (hb9.cell (by omega) (fun hg => by have := hf9 _ hg; omega) _).trans bx3_1
  replace bx10_0 := (hb9.cell (by omega) (fun hg => by have := hf9 _ hg; omega) _).trans bx10_0
  replace bx10_1 := (hb9.cell (by omega) (fun hg => by have := hf9 _ hg; omega) _).trans bx10_1
  replace ho_z2 := hb9.ow ho_z2 (fun g h1 h2 => by have := hl_z2 g h1; have := hi_z2 g h1; have := hf9 g h2; omega)
  replace ho_z4 := hb9.ow ho_z4 (fun g h1 h2 => by have := hl_z4 g h1; have := hi_z4 g h1; have := hf9 g h2; omega)
  replace hB := hB.trans (hb9.below (by omega) (fun g hg => by have := hf9 g hg; omega))
  clear hb9 hf9
  clear ho_z3
  have ho_z3 := hk9_z3
  clear hk9_z3
  have hcv9_z3 := cnt_le_vol (fit_dO p1)
  clear ho_z3
  go_wp2_with fail
  refine (eqInt64S_d (dI (acceptedS p0 p1 most steps).1) _ _ _ ho_z4.rdA ho_z2.rdA (fit_dI ((acceptedS p0 p1 most steps).1))).mono ?_
  rintro e w10 ⟨rfl, hb10⟩
  have hs10 : Below w9.heap.size w9 w10 := hb10
  replace bx3_0 := (bcell1 hs10 (by omega)).trans bx3_0
  replace bx3_1 := (bcell1 hs10 (by omega)).trans bx3_1
  replace bx10_0 := (bcell1 hs10 (by omega)).trans bx10_0
  replace bx10_1 := (bcell1 hs10 (by omega)).trans bx10_1
  have hz10 : w9.heap.size ≤ w10.heap.size := hb10.size
  replace ho_z2 := ho_z2.below hs10
  replace ho_z4 := ho_z4.below hs10
  replace hB := bnext hB hs10 (Nat.le_refl _)
  clear hb10 hs10
  go_wp2_with fail
  refine (markInt64S_d (dI (acceptedS p0 p1 most steps).1) _ _ (1) _ ho_z4 hd_z4 (fit_dI ((acceptedS p0 p1 most steps).1)) (by first | assumption | (have := cnt_le_vol (fit_dI ((acceptedS p0 p1 most steps).1)); omega)) (by omega) (by omega)).mono ?_
  rintro e w11 ⟨rfl, he11, hk11_z4⟩
  have hb11 := he11.chg
  clear he11
  have hz11 : w10.heap.size ≤ w11.heap.size := hb11.size
  have hf11 : ∀ g, g ∈ F_z4 → w4.heap.size + 1 ≤ g ∧ g < w5.heap.size := fun g hg => by exact ⟨hl_z4 g hg, hi_z4 g hg⟩
  replace bx3_0 := (hb11.cell (by omega) (fun hg => by have := hf11 _ hg; omega) _).trans bx3_0
  replace bx3_1 := (hb11.cell (by omega) (fun hg => by have := hf11 _ hg; omega) _).trans bx3_1
  replace bx10_0 := (hb11.cell (by omega) (fun hg => by have := hf11 _ hg; omega) _).trans bx10_0
  replace bx10_1 := (hb11.cell (by omega) (fun hg => by have := hf11 _ hg; omega) _).trans bx10_1
  replace ho_z2 := hb11.ow ho_z2 (fun g h1 h2 => by have := hl_z2 g h1; have := hi_z2 g h1; have := hf11 g h2; omega)
  replace hB := hB.trans (hb11.below (by omega) (fun g hg => by have := hf11 g hg; omega))
  clear hb11 hf11
  clear ho_z4
  have ho_z4 := hk11_z4
  clear hk11_z4
  have hcv11_z4 := cnt_le_vol (fit_dI ((acceptedS p0 p1 most steps).1))
  go_wp2_with fail
  refine (heldInt64S_d Any (dI (acceptedS p0 p1 most steps).1) _ (1) _ ho_z4.rdA (fit_dI ((acceptedS p0 p1 most steps).1)) (by first | assumption | (have := cnt_le_vol (fit_dI ((acceptedS p0 p1 most steps).1)); omega)) (by omega) (by omega)).mono ?_
  rintro e w12 ⟨rfl, hb12⟩
  have hs12 : Below w11.heap.size w11 w12 := hb12
  replace bx3_0 := (bcell1 hs12 (by omega)).trans bx3_0
  replace bx3_1 := (bcell1 hs12 (by omega)).trans bx3_1
  replace bx10_0 := (bcell1 hs12 (by omega)).trans bx10_0
  replace bx10_1 := (bcell1 hs12 (by omega)).trans bx10_1
  have hz12 : w11.heap.size ≤ w12.heap.size := hb12.size
  replace ho_z2 := ho_z2.below hs12
  replace ho_z4 := ho_z4.below hs12
  replace hB := bnext hB hs12 (Nat.le_refl _)
  clear hb12 hs12
  go_wp2_with fail
  refine (toProgram_d _ (p0) (dO p1) _ _ (h_p1.below hB) (fit_dO p1) hv_p1).mono ?_
  rintro e w13 ⟨vs13, F13, rfl, hb13, hoo13, hnn13, hll13⟩
  have hs13 : Below w12.heap.size w12 w13 := hb13
  replace bx3_0 := (bcell1 hs13 (by omega)).trans bx3_0
  replace bx3_1 := (bcell1 hs13 (by omega)).trans bx3_1
  replace bx10_0 := (bcell1 hs13 (by omega)).trans bx10_0
  replace bx10_1 := (bcell1 hs13 (by omega)).trans bx10_1
  have hz13 : w12.heap.size ≤ w13.heap.size := hb13.size
  replace ho_z2 := ho_z2.below hs13
  replace ho_z4 := ho_z4.below hs13
  replace hB := bnext hB hs13 (Nat.le_refl _)
  clear hb13 hs13
  have hvl13 := owA_len _ _ _ hoo13
  obtain ⟨e_13_0, e_13_1, rfl⟩ : ∃ e_13_0 e_13_1, vs13 = [e_13_0, e_13_1] := (by match vs13, hvl13 with | [e_13_0, e_13_1], _ => exact ⟨e_13_0, e_13_1, rfl⟩)
  clear hvl13
  obtain ⟨G13_0, _, ⟨ev13_0, eg13_0⟩, hr13_0, rfl⟩ := hoo13
  subst ev13_0
  subst eg13_0
  obtain ⟨F_z6, _, ho_z6, hr13_1, rfl⟩ := hr13_0
  have hend13 : _ = [] := hr13_1
  subst hend13
  have hl_z6 : ∀ g, g ∈ F_z6 → w12.heap.size ≤ g := fun g hg => by have := hll13 g (by simp [hg]); (try simp at this); omega
  obtain ⟨a_z6, n_z6, c_z6, rfl⟩ := (fit_dO p1).sliceO ho_z6
  have hi_z6 : ∀ g, g ∈ F_z6 → g < w13.heap.size := Ow.lt _ _ _ ho_z6
  have hd_z6 : (F_z6).Nodup := by simpa using hnn13
  clear hnn13 hll13
  go_wp2_with fail
  refine (implAcceptedUpTo_d p0 p1 most steps _ ho_z6.rdA ).mono ?_
  rintro e w14 ⟨v14, F_z7, rfl, hb14, ho_z7, hnn14, hll14⟩
  have hs14 : Below w13.heap.size w13 w14 := hb14
  replace bx3_0 := (bcell1 hs14 (by omega)).trans bx3_0
  replace bx3_1 := (bcell1 hs14 (by omega)).trans bx3_1
  replace bx10_0 := (bcell1 hs14 (by omega)).trans bx10_0
  replace bx10_1 := (bcell1 hs14 (by omega)).trans bx10_1
  have hz14 : w13.heap.size ≤ w14.heap.size := hb14.size
  replace ho_z2 := ho_z2.below hs14
  replace ho_z4 := ho_z4.below hs14
  replace ho_z6 := ho_z6.below hs14
  replace hB := bnext hB hs14 (Nat.le_refl _)
  clear hb14 hs14
  have hl_z7 : ∀ g, g ∈ F_z7 → w13.heap.size ≤ g := fun g hg => by have := hll14 g hg; (try simp at this); omega
  obtain ⟨a_z7, n_z7, c_z7, rfl⟩ := (fit_dI ((acceptedS p0 p1 most steps).1)).sliceO ho_z7
  have hi_z7 : ∀ g, g ∈ F_z7 → g < w14.heap.size := Ow.lt _ _ _ ho_z7
  have hd_z7 := hnn14
  clear hnn14 hll14
  clear ho_z6
  go_wp2_with fail
  refine (eqInt64S_d (dI (acceptedS p0 p1 most steps).1) _ _ _ ho_z7.rdA ho_z2.rdA (fit_dI ((acceptedS p0 p1 most steps).1))).mono ?_
  rintro e w15 ⟨rfl, hb15⟩
  have hs15 : Below w14.heap.size w14 w15 := hb15
  replace bx3_0 := (bcell1 hs15 (by omega)).trans bx3_0
  replace bx3_1 := (bcell1 hs15 (by omega)).trans bx3_1
  replace bx10_0 := (bcell1 hs15 (by omega)).trans bx10_0
  replace bx10_1 := (bcell1 hs15 (by omega)).trans bx10_1
  have hz15 : w14.heap.size ≤ w15.heap.size := hb15.size
  replace ho_z2 := ho_z2.below hs15
  replace ho_z4 := ho_z4.below hs15
  replace ho_z7 := ho_z7.below hs15
  replace hB := bnext hB hs15 (Nat.le_refl _)
  clear hb15 hs15
  clear ho_z2 ho_z7
  go_wp2_with fail
  refine (heldInt64S_d Any (dI (acceptedS p0 p1 most steps).1) _ (1) _ ho_z4.rdA (fit_dI ((acceptedS p0 p1 most steps).1)) (by first | assumption | (have := cnt_le_vol (fit_dI ((acceptedS p0 p1 most steps).1)); omega)) (by omega) (by omega)).mono ?_
  rintro e w16 ⟨rfl, hb16⟩
  have hs16 : Below w15.heap.size w15 w16 := hb16
  replace bx3_0 := (bcell1 hs16 (by omega)).trans bx3_0
  replace bx3_1 := (bcell1 hs16 (by omega)).trans bx3_1
  replace bx10_0 := (bcell1 hs16 (by omega)).trans bx10_0
  replace bx10_1 := (bcell1 hs16 (by omega)).trans bx10_1
  have hz16 : w15.heap.size ≤ w16.heap.size := hb16.size
  replace ho_z4 := ho_z4.below hs16
  replace hB := bnext hB hs16 (Nat.le_refl _)
  clear hb16 hs16
  clear ho_z4
  go_wp2
  go_ret
  exact ⟨rfl, hB⟩
set_option maxRecDepth 100000 in
theorem lifted (os : Os) (started : os.Started) (H : Type) (enc : TypeId × Value → H) :
    ReturnsInHanded {} Try.checked os 11 .any (Rows.fnExactAcceptedUpToSpec.pre6 enc Try.prog Try.f11 Rows.fnExactAcceptedUpToRow.domain false) (Rows.fnExactAcceptedUpToSpec.post enc Try.prog Try.f11 false true false false) :=
  lift Try.func11 (by kernel_rfl) rfl rfl (by kernel_rfl : Try.prog.underlying 4 = some .bool) (by kernel_rfl) (fun ds h => by match ds, h with | [d0, d1, d2], _ => rfl) started
    (ChangeSpec.witness6 (enc := enc) (C := Try.checked) false ⟨#[], #[.agg #[.int .i64 0, .slice none 0 0], .int .i64 0, .int .i64 0], []⟩ 8 (by kernel_rfl) (by kernel_rfl) (by kernel_rfl) (by kernel_rfl))
    (fun W base args ds p hval hA => by
      rw [Try.params11] at hA hval
      obtain ⟨v0, vs0, d0, ds0, p0, q0, hargs0, rfl, rfl, g0, r0⟩ := ChangeShapes.trodAll_cons hA
      obtain ⟨v1, vs1, d1, ds1, p1, q1, hargs1, rfl, rfl, g1, r1⟩ := ChangeShapes.trodAll_cons r0
      obtain ⟨v2, vs2, d2, ds2, p2, q2, hargs2, rfl, rfl, g2, r2⟩ := ChangeShapes.trodAll_cons r1
      obtain ⟨hnil, rfl, rfl⟩ := ChangeShapes.trodAll_nil r2
      obtain rfl : args = #[v0, v1, v2] := by cases args; simp_all
      obtain ⟨vs0x, dsx0, rfl, fx0, rx0⟩ := open_A [.i, .l [.i, .i, .i, .i]] Try.underlying59 (by kernel_rfl) (hval 0 _ _ rfl rfl) g0
      obtain ⟨_, s0_0, rfl, ⟨x0_0, rfl⟩, t0_0⟩ := fx0
      obtain ⟨_, s0_1, rfl, j0_1, t0_1⟩ := t0_0
      obtain ⟨x0_1, rfl⟩ := fitD_O j0_1
      obtain rfl : s0_1 = [] := t0_1
      obtain ⟨y0_0, z0_0, e0_0, k0_0, l0_0⟩ := rx0
      subst e0_0
      obtain rfl : y0_0 = .int .i64 x0_0 := k0_0
      obtain ⟨y0_1, z0_1, e0_1, k0_1, l0_1⟩ := l0_0
      subst e0_1
      obtain rfl : z0_1 = [] := l0_1
      obtain ⟨x1, rfl, rfl, rfl, wx1⟩ := open_int (by kernel_rfl : Try.prog.underlying 2 = some (.int .i64)) (hval 1 _ _ rfl rfl) g1
      obtain ⟨x2, rfl, rfl, rfl, wx2⟩ := open_int (by kernel_rfl : Try.prog.underlying 2 = some (.int .i64)) (hval 2 _ _ rfl rfl) g2
      exact walk x0_0 x0_1 y0_1 x1 x2 W k0_1)
end Go.Proofs.Ytdcpdipakglnnaa.lawAcceptedUpTo
