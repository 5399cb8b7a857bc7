/- FnExactPassingText: whatever the input, the law returns true. No condition. Written by lawgen2.py. -/
import Derived.Test.YtkbhdpkheincoaaDoorTZ
import Derived.Test.YtkbhdpkheincoaaDoorTV
import Derived.Test.YtkbhdpkheincoaaDoorFD
import Derived.Test.YtkbhdpkheincoaaDoorWC
import Derived.Test.YtkbhdpkheincoaaDoorYP
import Derived.Deep.RegionHeld3
namespace Go.Proofs.YtkbhdpkheincoaaDoor.lawPassingText
open Go.ChangeShapes Go.WideShapes Go.ChangeAt Go.RowKit
set_option maxHeartbeats 3000000 in
set_option maxRecDepth 100000 in
theorem walk (p0 : Int) (p1 : List Int) (v_p1 : Value) (p2 : List Bool) (v_p2 : Value) (p3 : List PR) (v_p3 : Value) (w : World) (h_p1 : Rd (· < w.heap.size) w (dI p1) v_p1) (h_p2 : Rd (· < w.heap.size) w (dB p2) v_p2) (h_p3 : Rd (· < w.heap.size) w (dPR p3) v_p3) (hpw : PowAt w) :
    Calls Tryd.prog 3 #[.agg #[.int .i64 p0, v_p1, v_p2, v_p3]] w (RetV w (.bool true)) := by
  obtain ⟨a_p1, n_p1, c_p1, rfl⟩ := (fit_dI p1).sliceR h_p1
  obtain ⟨a_p2, n_p2, c_p2, rfl⟩ := (fit_dB p2).sliceR h_p2
  obtain ⟨a_p3, n_p3, c_p3, rfl⟩ := (fit_dPR p3).sliceR h_p3
  have hB := Below.refl w.heap.size w
  go_enter Tryd.func3, Tryd.ntmps3
  go_wp2_with fail
  refine (szPassing_d _ (p0) (dI p1) _ (dB p2) _ (dPR p3) _ 1048576 _ (h_p1.below (hB.trans (below_alloc _ _))) (h_p2.below (hB.trans (below_alloc _ _))) (h_p3.below (hB.trans (below_alloc _ _))) (fit_dI p1) (fit_dB p2) (fit_dPR p3) (by omega) (by omega)).mono ?_
  rintro e w1 ⟨L1, rfl, hb1, yy1, uu1, p1⟩
  have hs1 : Below w.heap.size w w1 := (below_alloc _ _).trans (hb1.mono (by simp <;> omega))
  have bx1_0 : w1.cell? ⟨w.heap.size, 0, none⟩ = some (.int .i64 p0) := by rw [bcell1 hb1 (by simp <;> omega)]; simp [go_sem]
  have bx1_1 : w1.cell? ⟨w.heap.size, 1, none⟩ = some (.slice a_p1 n_p1 c_p1) := by rw [bcell1 hb1 (by simp <;> omega)]; simp [go_sem]
  have bx1_2 : w1.cell? ⟨w.heap.size, 2, none⟩ = some (.slice a_p2 n_p2 c_p2) := by rw [bcell1 hb1 (by simp <;> omega)]; simp [go_sem]
  have bx1_3 : w1.cell? ⟨w.heap.size, 3, none⟩ = some (.slice a_p3 n_p3 c_p3) := by rw [bcell1 hb1 (by simp <;> omega)]; simp [go_sem]
  have hz1 : w.heap.size + 1 ≤ w1.heap.size := by have := hb1.size; (try simp at this); omega
  replace hB := bnext hB hs1 (Nat.le_refl _)
  clear hb1 hs1
  by_cases n1 : L1 < 0
  · go_wp2
    go_ret
    exact ⟨rfl, hB⟩
  have q1 := p1 (by omega)
  have m1 : 0 ≤ L1 := by omega
  clear p1
  have hv_p1 : vol (dI p1) ≤ 16777216 := by omega
  have hv_p2 : vol (dB p2) ≤ 16777216 := by omega
  have hv_p3 : vol (dPR p3) ≤ 16777216 := by omega
  go_wp2_with fail
  refine (toPassing_d _ (p0) (dI p1) _ (dB p2) _ (dPR p3) _ _ (h_p1.below hB) (h_p2.below hB) (h_p3.below hB) (fit_dI p1) (fit_dB p2) (fit_dPR p3) hv_p1 hv_p2 hv_p3).mono ?_
  rintro e w2 ⟨vs2, F2, rfl, hb2, hoo2, hnn2, hll2⟩
  have hs2 : Below w1.heap.size w1 w2 := hb2
  replace bx1_0 := (bcell1 hs2 (by omega)).trans bx1_0
  replace bx1_1 := (bcell1 hs2 (by omega)).trans bx1_1
  replace bx1_2 := (bcell1 hs2 (by omega)).trans bx1_2
  replace bx1_3 := (bcell1 hs2 (by omega)).trans bx1_3
  have hz2 : w1.heap.size ≤ w2.heap.size := hb2.size
  replace hB := bnext hB hs2 (Nat.le_refl _)
  clear hb2 hs2
  have hvl2 := owA_len _ _ _ hoo2
  obtain ⟨e_2_0, e_2_1, e_2_2, e_2_3, rfl⟩ : ∃ e_2_0 e_2_1 e_2_2 e_2_3, vs2 = [e_2_0, e_2_1, e_2_2, e_2_3] := (by match vs2, hvl2 with | [e_2_0, e_2_1, e_2_2, e_2_3], _ => exact ⟨e_2_0, e_2_1, e_2_2, e_2_3, rfl⟩)
  clear hvl2
  obtain ⟨G2_0, _, ⟨ev2_0, eg2_0⟩, hr2_0, rfl⟩ := hoo2
  subst ev2_0
  subst eg2_0
  obtain ⟨F_z1, _, ho_z1, hr2_1, rfl⟩ := hr2_0
  obtain ⟨F_z2, _, ho_z2, hr2_2, rfl⟩ := hr2_1
  obtain ⟨F_z3, _, ho_z3, hr2_3, rfl⟩ := hr2_2
  have hend2 : _ = [] := hr2_3
  subst hend2
  have hl_z1 : ∀ g, g ∈ F_z1 → w1.heap.size ≤ g := fun g hg => by have := hll2 g (by simp [hg]); (try simp at this); omega
  obtain ⟨a_z1, n_z1, c_z1, rfl⟩ := (fit_dI p1).sliceO ho_z1
  have hl_z2 : ∀ g, g ∈ F_z2 → w1.heap.size ≤ g := fun g hg => by have := hll2 g (by simp [hg]); (try simp at this); omega
  obtain ⟨a_z2, n_z2, c_z2, rfl⟩ := (fit_dB p2).sliceO ho_z2
  have hl_z3 : ∀ g, g ∈ F_z3 → w1.heap.size ≤ g := fun g hg => by have := hll2 g (by simp [hg]); (try simp at this); omega
  obtain ⟨a_z3, n_z3, c_z3, rfl⟩ := (fit_dPR p3).sliceO ho_z3
  have hi_z1 : ∀ g, g ∈ F_z1 → g < w2.heap.size := Ow.lt _ _ _ ho_z1
  have hi_z2 : ∀ g, g ∈ F_z2 → g < w2.heap.size := Ow.lt _ _ _ ho_z2
  have hi_z3 : ∀ g, g ∈ F_z3 → g < w2.heap.size := Ow.lt _ _ _ ho_z3
  have hd_z1 : (F_z1 ++ (F_z2 ++ F_z3)).Nodup := by simpa using hnn2
  clear hnn2 hll2
  go_wp2_with fail
  refine (specPassingText_d p0 p1 p2 p3 _ ho_z1.rdA ho_z2.rdA ho_z3.rdA ).mono ?_
  rintro e w3 ⟨rfl, hb3⟩
  have hs3 : Below w2.heap.size w2 w3 := hb3
  replace bx1_0 := (bcell1 hs3 (by omega)).trans bx1_0
  replace bx1_1 := (bcell1 hs3 (by omega)).trans bx1_1
  replace bx1_2 := (bcell1 hs3 (by omega)).trans bx1_2
  replace bx1_3 := (bcell1 hs3 (by omega)).trans bx1_3
  have hz3 : w2.heap.size ≤ w3.heap.size := hb3.size
  replace ho_z1 := ho_z1.below hs3
  replace ho_z2 := ho_z2.below hs3
  replace ho_z3 := ho_z3.below hs3
  replace hB := bnext hB hs3 (Nat.le_refl _)
  clear hb3 hs3
  clear ho_z1 ho_z2 ho_z3
  go_wp2_with fail
  refine (toPassing_d _ (p0) (dI p1) _ (dB p2) _ (dPR p3) _ _ (h_p1.below hB) (h_p2.below hB) (h_p3.below hB) (fit_dI p1) (fit_dB p2) (fit_dPR p3) hv_p1 hv_p2 hv_p3).mono ?_
  rintro e w4 ⟨vs4, F4, rfl, hb4, hoo4, hnn4, hll4⟩
  have hs4 : Below w3.heap.size w3 w4 := hb4
  replace bx1_0 := (bcell1 hs4 (by omega)).trans bx1_0
  replace bx1_1 := (bcell1 hs4 (by omega)).trans bx1_1
  replace bx1_2 := (bcell1 hs4 (by omega)).trans bx1_2
  replace bx1_3 := (bcell1 hs4 (by omega)).trans bx1_3
  have hz4 : w3.heap.size ≤ w4.heap.size := hb4.size
  replace hB := bnext hB hs4 (Nat.le_refl _)
  clear hb4 hs4
  have hvl4 := owA_len _ _ _ hoo4
  obtain ⟨e_4_0, e_4_1, e_4_2, e_4_3, rfl⟩ : ∃ e_4_0 e_4_1 e_4_2 e_4_3, vs4 = [e_4_0, e_4_1, e_4_2, e_4_3] := (by match vs4, hvl4 with | [e_4_0, e_4_1, e_4_2, e_4_3], _ => exact ⟨e_4_0, e_4_1, e_4_2, e_4_3, rfl⟩)
  clear hvl4
  obtain ⟨G4_0, _, ⟨ev4_0, eg4_0⟩, hr4_0, rfl⟩ := hoo4
  subst ev4_0
  subst eg4_0
  obtain ⟨F_z4, _, ho_z4, hr4_1, rfl⟩ := hr4_0
  obtain ⟨F_z5, _, ho_z5, hr4_2, rfl⟩ := hr4_1
  obtain ⟨F_z6, _, ho_z6, hr4_3, rfl⟩ := hr4_2
  have hend4 : _ = [] := hr4_3
  subst hend4
  have hl_z4 : ∀ g, g ∈ F_z4 → w3.heap.size ≤ g := fun g hg => by have := hll4 g (by simp [hg]); (try simp at this); omega
  obtain ⟨a_z4, n_z4, c_z4, rfl⟩ := (fit_dI p1).sliceO ho_z4
  have hl_z5 : ∀ g, g ∈ F_z5 → w3.heap.size ≤ g := fun g hg => by have := hll4 g (by simp [hg]); (try simp at this); omega
  obtain ⟨a_z5, n_z5, c_z5, rfl⟩ := (fit_dB p2).sliceO ho_z5
  have hl_z6 : ∀ g, g ∈ F_z6 → w3.heap.size ≤ g := fun g hg => by have := hll4 g (by simp [hg]); (try simp at this); omega
  obtain ⟨a_z6, n_z6, c_z6, rfl⟩ := (fit_dPR p3).sliceO ho_z6
  have hi_z4 : ∀ g, g ∈ F_z4 → g < w4.heap.size := Ow.lt _ _ _ ho_z4
  have hi_z5 : ∀ g, g ∈ F_z5 → g < w4.heap.size := Ow.lt _ _ _ ho_z5
  have hi_z6 : ∀ g, g ∈ F_z6 → g < w4.heap.size := Ow.lt _ _ _ ho_z6
  have hd_z4 : (F_z4 ++ (F_z5 ++ F_z6)).Nodup := by simpa using hnn4
  clear hnn4 hll4
  have lt4_0 : w.heap.size < w4.heap.size := by omega
  go_wp2_with fail
  refine (implPassingText_d p0 p1 p2 p3 _ (ho_z4.below (below_alloc _ _)) (ho_z5.below (below_alloc _ _)) (ho_z6.below (below_alloc _ _)) (hpw.below (bnext hB (below_alloc _ _) (Nat.le_refl _)))).mono ?_
  rintro e w5 ⟨rfl, hb5⟩
  have hs5 : Below w4.heap.size w4 w5 := (below_alloc _ _).trans (hb5.mono (by simp <;> omega))
  replace bx1_0 := (bcell1 hs5 (by omega)).trans bx1_0
  replace bx1_1 := (bcell1 hs5 (by omega)).trans bx1_1
  replace bx1_2 := (bcell1 hs5 (by omega)).trans bx1_2
  replace bx1_3 := (bcell1 hs5 (by omega)).trans bx1_3
  have bx5_0 : w5.cell? ⟨w4.heap.size, 0, none⟩ = some (.int .i64 p0) := by rw [bcell1 hb5 (by simp <;> omega)]; simp [go_sem]
  have bx5_1 : w5.cell? ⟨w4.heap.size, 1, none⟩ = some (.slice a_z4 n_z4 c_z4) := by rw [bcell1 hb5 (by simp <;> omega)]; simp [go_sem]
  have bx5_2 : w5.cell? ⟨w4.heap.size, 2, none⟩ = some (.slice a_z5 n_z5 c_z5) := by rw [bcell1 hb5 (by simp <;> omega)]; simp [go_sem]
  have bx5_3 : w5.cell? ⟨w4.heap.size, 3, none⟩ = some (.slice a_z6 n_z6 c_z6) := by rw [bcell1 hb5 (by simp <;> omega)]; simp [go_sem]
  have hz5 : w4.heap.size + 1 ≤ w5.heap.size := by have := hb5.size; (try simp at this); omega
  replace ho_z4 := ho_z4.below hs5
  replace ho_z5 := ho_z5.below hs5
  replace ho_z6 := ho_z6.below hs5
  replace hB := bnext hB hs5 (Nat.le_refl _)
  clear hb5 hs5
  go_wp2_with fail
  go_region_held3 (fun wx => wx.cell? ⟨w.heap.size, 0, none⟩ = some (.int .i64 p0) ∧ wx.cell? ⟨w.heap.size, 1, none⟩ = some (.slice a_p1 n_p1 c_p1) ∧ wx.cell? ⟨w.heap.size, 2, none⟩ = some (.slice a_p2 n_p2 c_p2) ∧ wx.cell? ⟨w.heap.size, 3, none⟩ = some (.slice a_p3 n_p3 c_p3) ∧ wx.cell? ⟨w4.heap.size, 0, none⟩ = some (.int .i64 p0) ∧ wx.cell? ⟨w4.heap.size, 1, none⟩ = some (.slice a_z4 n_z4 c_z4) ∧ wx.cell? ⟨w4.heap.size, 2, none⟩ = some (.slice a_z5 n_z5 c_z5) ∧ wx.cell? ⟨w4.heap.size, 3, none⟩ = some (.slice a_z6 n_z6 c_z6))
    (first
      | go_keep
      | (refine ⟨?_, ?_, ?_, ?_, ?_, ?_, ?_, ?_⟩ <;> (rw [bcell1 hb6 (by show _ < w5.heap.size; omega)]; assumption))
      | (have h1_ : w5.heap.size ≤ w6.heap.size := hb6.size; (try go_split_ands); refine ⟨?_, ?_, ?_, ?_, ?_, ?_, ?_, ?_⟩ <;> (rw [bcell1 hb7 (by omega)]; assumption)))
    (first
      | (go_at_call 6; refine (toPassing_d _ (p0) (dI p1) _ (dB p2) _ (dPR p3) _ _ (h_p1.below hB.drew) (h_p2.below hB.drew) (h_p3.below hB.drew) (fit_dI p1) (fit_dB p2) (fit_dPR p3) hv_p1 hv_p2 hv_p3).mono ?_; rintro e w6 ⟨vs6, F6, rfl, hb6, hoo6, hnn6, hll6⟩; have hvl6 := owA_len _ _ _ hoo6; obtain ⟨e_6_0, e_6_1, e_6_2, e_6_3, rfl⟩ : ∃ e_6_0 e_6_1 e_6_2 e_6_3, vs6 = [e_6_0, e_6_1, e_6_2, e_6_3] := (by match vs6, hvl6 with | [e_6_0, e_6_1, e_6_2, e_6_3], _ => exact ⟨e_6_0, e_6_1, e_6_2, e_6_3, rfl⟩); clear hvl6; obtain ⟨G6_0, _, ⟨ev6_0, eg6_0⟩, hr6_0, rfl⟩ := hoo6; subst ev6_0; subst eg6_0; obtain ⟨F_z7, _, ho_z7, hr6_1, rfl⟩ := hr6_0; obtain ⟨F_z8, _, ho_z8, hr6_2, rfl⟩ := hr6_1; obtain ⟨F_z9, _, ho_z9, hr6_3, rfl⟩ := hr6_2; have hend6 : _ = [] := hr6_3; subst hend6; obtain ⟨a_z7, n_z7, c_z7, rfl⟩ := (fit_dI p1).sliceO ho_z7; obtain ⟨a_z8, n_z8, c_z8, rfl⟩ := (fit_dB p2).sliceO ho_z8; obtain ⟨a_z9, n_z9, c_z9, rfl⟩ := (fit_dPR p3).sliceO ho_z9)
      | (go_at_call 8; refine (eqPassing_d (p0) (dI p1) _ (dB p2) _ (dPR p3) _ _ _ _ _ (ho_z4.rdA.below ((Below.refl w5.heap.size w5).drew.trans (hb6.mono (by exact Nat.le_refl _)))) (ho_z5.rdA.below ((Below.refl w5.heap.size w5).drew.trans (hb6.mono (by exact Nat.le_refl _)))) (ho_z6.rdA.below ((Below.refl w5.heap.size w5).drew.trans (hb6.mono (by exact Nat.le_refl _)))) ho_z7.rdA ho_z8.rdA ho_z9.rdA (fit_dI p1) (fit_dB p2) (fit_dPR p3)).mono ?_; rintro e w7 ⟨rfl, hb7⟩))
  have hs7 : Below w5.heap.size w5 w7 := (((Below.refl w5.heap.size w5).drew.trans (hb6.mono (by exact Nat.le_refl _))).trans (hb7.mono (by have h_0 : w5.heap.size ≤ w6.heap.size := hb6.size;  first | exact h_0 | omega)))
  have hz6 : w5.heap.size ≤ w6.heap.size := hb6.size
  have hz7 : w6.heap.size ≤ w7.heap.size := hb7.size
  replace bx1_0 := (bcell1 hs7 (by omega)).trans bx1_0
  replace bx1_1 := (bcell1 hs7 (by omega)).trans bx1_1
  replace bx1_2 := (bcell1 hs7 (by omega)).trans bx1_2
  replace bx1_3 := (bcell1 hs7 (by omega)).trans bx1_3
  replace bx5_0 := (bcell1 hs7 (by omega)).trans bx5_0
  replace bx5_1 := (bcell1 hs7 (by omega)).trans bx5_1
  replace bx5_2 := (bcell1 hs7 (by omega)).trans bx5_2
  replace bx5_3 := (bcell1 hs7 (by omega)).trans bx5_3
  replace ho_z4 := ho_z4.below hs7
  replace ho_z5 := ho_z5.below hs7
  replace ho_z6 := ho_z6.below hs7
  replace hB := bnext hB hs7 (Nat.le_refl _)
  clear hs7 hb6 hb7 ho_z7 ho_z8 ho_z9
  clear ho_z4 ho_z5 ho_z6
  go_wp2
  go_ret
  exact ⟨rfl, hB⟩
def laidL : List (String × DataW Unit) := Rows.fnExactPassingTextRow.laid
theorem door_met (os : Os) (args : Array Value) : laidMetH Tryd.prog laidL ((World.doorLaid Tryd.prog 400 os).forCall (fun _ _ => 0) ⟨#[], args, []⟩).memory :=
  laidMetH_of_parts3 (fuel := 8) (laidMet_of_run' 8 (by kernel_rfl) (by kernel_rfl)) (by kernel_rfl) (by kernel_rfl)
set_option maxRecDepth 100000 in
theorem lifted (os : Os) (started : os.Started) (H : Type) (enc : TypeId × Value → H) :
    ReturnsInHanded {} Tryd.checked os 3 .any (fun w args => (Rows.fnExactPassingTextSpec.pre enc Tryd.prog Tryd.f3 [] false w args ∧ laidMetH Tryd.prog laidL w) ∧ sizedMet enc Tryd.prog Tryd.f3 (OpenSpec.ofChange Rows.fnExactPassingTextSpec) false w args) (Rows.fnExactPassingTextSpec.post enc Tryd.prog Tryd.f3 false true false false) :=
  liftLaid (lst := laidL) Tryd.func3 (by kernel_rfl) rfl rfl (by kernel_rfl : Tryd.prog.underlying 4 = some .bool) (by kernel_rfl) (fun ds h => by match ds, h with | [d0], _ => rfl) started
    (ChangeSpec.witness_shaped (enc := enc) (C := Tryd.checked) (os := os) (X := fun w _ => laidMetH Tryd.prog laidL w) false (World.doorLaid Tryd.prog 400 os) #[.agg #[.int .i64 0, .slice none 0 0, .slice none 0 0, .slice none 0 0]] 8 rfl (World.shaped_of_RefB (by kernel_rfl) (by kernel_rfl)) (by kernel_rfl) (by kernel_rfl) (by kernel_rfl) (door_met os _))
    (fun W base args ds p hval hA hL => by
      rw [Tryd.params3] at hA hval
      obtain ⟨v0, vs0, d0, ds0, p0, q0, hargs0, rfl, rfl, g0, r0⟩ := ChangeShapes.trodAll_cons hA
      obtain ⟨hnil, rfl, rfl⟩ := ChangeShapes.trodAll_nil r0
      obtain rfl : args = #[v0] := by cases args; simp_all
      obtain ⟨vs0x, dsx0, rfl, fx0, rx0⟩ := open_A [.i, .l [.i], .l [.b], .l [.i, .l [.i], .l [.i]]] Tryd.underlying26 (by kernel_rfl) (hval 0 _ _ rfl rfl) g0
      obtain ⟨_, s0_0, rfl, ⟨x0_0, rfl⟩, t0_0⟩ := fx0
      obtain ⟨_, s0_1, rfl, j0_1, t0_1⟩ := t0_0
      obtain ⟨x0_1, rfl⟩ := fitD_I j0_1
      obtain ⟨_, s0_2, rfl, j0_2, t0_2⟩ := t0_1
      obtain ⟨x0_2, rfl⟩ := fitD_B j0_2
      obtain ⟨_, s0_3, rfl, j0_3, t0_3⟩ := t0_2
      obtain ⟨x0_3, rfl⟩ := fitD_PR j0_3
      obtain rfl : s0_3 = [] := t0_3
      obtain ⟨y0_0, z0_0, e0_0, k0_0, l0_0⟩ := rx0
      subst e0_0
      obtain rfl : y0_0 = .int .i64 x0_0 := k0_0
      obtain ⟨y0_1, z0_1, e0_1, k0_1, l0_1⟩ := l0_0
      subst e0_1
      obtain ⟨y0_2, z0_2, e0_2, k0_2, l0_2⟩ := l0_1
      subst e0_2
      obtain ⟨y0_3, z0_3, e0_3, k0_3, l0_3⟩ := l0_2
      subst e0_3
      obtain rfl : z0_3 = [] := l0_3
      exact walk x0_0 x0_1 y0_1 x0_2 y0_2 x0_3 y0_3 W k0_1 k0_2 k0_3 (pow_of hL))
end Go.Proofs.YtkbhdpkheincoaaDoor.lawPassingText
