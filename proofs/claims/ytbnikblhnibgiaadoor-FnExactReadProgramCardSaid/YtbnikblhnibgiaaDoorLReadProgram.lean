/- FnExactReadProgram: whatever the input, the law returns true. No condition. Written by lawgen2.py. -/
import Derived.Test.YtbnikblhnibgiaaDoorGD
import Derived.Test.YtbnikblhnibgiaaDoorNK
import Derived.Test.YtbnikblhnibgiaaDoorFE
import Derived.Test.YtbnikblhnibgiaaDoorWC
import Derived.Test.YtbnikblhnibgiaaDoorYC
import Derived.Test.YtbnikblhnibgiaaDoorOF
import Derived.Deep.RegionHeld3
namespace Go.Proofs.YtbnikblhnibgiaaDoor.lawReadProgram
open Go.ChangeShapes Go.WideShapes Go.ChangeAt Go.RowKit
set_option maxHeartbeats 3000000 in
set_option maxRecDepth 100000 in
theorem walk (s : ByteArray) (w : World) (hs_s : s.size ≤ maxLen) (hlib : LibOk w) :
    Calls Tryd.prog 5 #[.string s] w (RetV w (.bool true)) := by
  unfold maxLen at hs_s
  have hcn := readProg_cnt s.data.toList
  by_cases hq_s : s.size ≤ 1048576
  rotate_left
  · go_enter Tryd.func5, Tryd.ntmps5
    go_wp2
    go_ret
    exact ⟨rfl, by repeat (first | exact Below.refl _ _ | refine Below.alloc ?_ (by simp; try omega) _)⟩
  have hB := Below.refl w.heap.size w
  go_enter Tryd.func5, Tryd.ntmps5
  go_wp2_with fail
  refine (specReadProgram_d s _  (by omega)).mono ?_
  rintro e w1 ⟨vs1, F1, rfl, hb1, hoo1, hnn1, hll1⟩
  have hs1 : Below w.heap.size w w1 := hb1
  have hz1 : w.heap.size ≤ w1.heap.size := hb1.size
  replace hB := bnext hB hs1 (Nat.le_refl _)
  clear hb1 hs1
  have hvl1 := owA_len _ _ _ hoo1
  obtain ⟨e_1_0, e_1_1, rfl⟩ : ∃ e_1_0 e_1_1, vs1 = [e_1_0, e_1_1] := (by match vs1, hvl1 with | [e_1_0, e_1_1], _ => exact ⟨e_1_0, e_1_1, rfl⟩)
  clear hvl1
  obtain ⟨G1_0, _, ⟨ev1_0, eg1_0⟩, hr1_0, rfl⟩ := hoo1
  subst ev1_0
  subst eg1_0
  obtain ⟨F_z1, _, ho_z1, hr1_1, rfl⟩ := hr1_0
  have hend1 : _ = [] := hr1_1
  subst hend1
  have hl_z1 : ∀ g, g ∈ F_z1 → w.heap.size ≤ g := fun g hg => by have := hll1 g (by simp [hg]); (try simp at this); omega
  obtain ⟨a_z1, n_z1, c_z1, rfl⟩ := (fit_dO ((readProgS s.data.toList).1.2)).sliceO ho_z1
  have hi_z1 : ∀ g, g ∈ F_z1 → g < w1.heap.size := Ow.lt _ _ _ ho_z1
  have hd_z1 : (F_z1).Nodup := by simpa using hnn1
  clear hnn1 hll1
  go_wp2_with fail
  refine (implReadProgram_d s _  (by omega) (hlib.below (by first | exact hB | exact bnext hB (below_alloc _ _) (Nat.le_refl _) | exact bnext (bnext hB (below_alloc _ _) (Nat.le_refl _)) (below_alloc _ _) (Nat.le_refl _)))).mono ?_
  rintro e w2 ⟨vs2, F2, rfl, hb2, hoo2, hnn2, hll2⟩
  have hs2 : Below w1.heap.size w1 w2 := (below_alloc _ _).trans (hb2.mono (by simp <;> omega))
  have bx3_0 : w2.cell? ⟨w1.heap.size, 0, none⟩ = some (.int .i64 ((readProgS s.data.toList).1.1)) := by rw [bcell1 hb2 (by simp <;> omega)]; simp [go_sem]
  have bx3_1 : w2.cell? ⟨w1.heap.size, 1, none⟩ = some (.slice a_z1 n_z1 c_z1) := by rw [bcell1 hb2 (by simp <;> omega)]; simp [go_sem]
  have hz2 : w1.heap.size + 1 ≤ w2.heap.size := by have := hb2.size; (try simp at this); omega
  replace ho_z1 := ho_z1.below hs2
  replace hB := bnext hB hs2 (Nat.le_refl _)
  clear hb2 hs2
  have hvl2 := owA_len _ _ _ hoo2
  obtain ⟨e_2_0, e_2_1, rfl⟩ : ∃ e_2_0 e_2_1, vs2 = [e_2_0, e_2_1] := (by match vs2, hvl2 with | [e_2_0, e_2_1], _ => exact ⟨e_2_0, e_2_1, rfl⟩)
  clear hvl2
  obtain ⟨G2_0, _, ⟨ev2_0, eg2_0⟩, hr2_0, rfl⟩ := hoo2
  subst ev2_0
  subst eg2_0
  obtain ⟨F_z2, _, ho_z2, hr2_1, rfl⟩ := hr2_0
  have hend2 : _ = [] := hr2_1
  subst hend2
  have hl_z2 : ∀ g, g ∈ F_z2 → w1.heap.size + 1 ≤ g := fun g hg => by have := hll2 g (by simp [hg]); (try simp at this); omega
  obtain ⟨a_z2, n_z2, c_z2, rfl⟩ := (fit_dO ((readProgS s.data.toList).1.2)).sliceO ho_z2
  have hi_z2 : ∀ g, g ∈ F_z2 → g < w2.heap.size := Ow.lt _ _ _ ho_z2
  have hd_z2 : (F_z2).Nodup := by simpa using hnn2
  clear hnn2 hll2
  have lt2_0 : w1.heap.size < w2.heap.size := by omega
  go_wp2_with fail
  refine (eqProgram_d (((readProgS s.data.toList).1.1)) (dO (readProgS s.data.toList).1.2) _ _ _ (ho_z2.rdA.below (below_alloc _ _)) (ho_z1.rdA.below (below_alloc _ _)) (fit_dO ((readProgS s.data.toList).1.2))).mono ?_
  rintro e w3 ⟨rfl, hb3⟩
  have hs3 : Below w2.heap.size w2 w3 := (below_alloc _ _).trans (hb3.mono (by simp <;> omega))
  replace bx3_0 := (bcell1 hs3 (by omega)).trans bx3_0
  replace bx3_1 := (bcell1 hs3 (by omega)).trans bx3_1
  have bx5_0 : w3.cell? ⟨w2.heap.size, 0, none⟩ = some (.int .i64 ((readProgS s.data.toList).1.1)) := by rw [bcell1 hb3 (by simp <;> omega)]; simp [go_sem]
  have bx5_1 : w3.cell? ⟨w2.heap.size, 1, none⟩ = some (.slice a_z2 n_z2 c_z2) := by rw [bcell1 hb3 (by simp <;> omega)]; simp [go_sem]
  have hz3 : w2.heap.size + 1 ≤ w3.heap.size := by have := hb3.size; (try simp at this); omega
  replace ho_z1 := ho_z1.below hs3
  replace ho_z2 := ho_z2.below hs3
  replace hB := bnext hB hs3 (Nat.le_refl _)
  clear hb3 hs3
  go_wp2_with fail
  refine (markProgram_d (((readProgS s.data.toList).1.1)) (dO (readProgS s.data.toList).1.2) _ _ (1) _ ho_z2 (fit_dO ((readProgS s.data.toList).1.2)) hd_z2 (by first | assumption | (have := cnt_le_vol (fit_dO ((readProgS s.data.toList).1.2)); omega)) (by omega) (by omega)).mono ?_
  rintro e w4 ⟨rfl, hb4, hk4_z2⟩
  have hz4 : w3.heap.size ≤ w4.heap.size := hb4.size
  have hf4 : ∀ g, g ∈ F_z2 → w1.heap.size + 1 ≤ g ∧ g < w2.heap.size := fun g hg => by exact ⟨hl_z2 g hg, hi_z2 g hg⟩
  replace bx3_0 := (hb4.cell (by omega) (fun hg => by have := hf4 _ hg; omega) _).trans bx3_0
  replace bx3_1 := (hb4.cell (by omega) (fun hg => by have := hf4 _ hg; omega) _).trans bx3_1
  replace bx5_0 := (hb4.cell (by omega) (fun hg => by have := hf4 _ hg; omega) _).trans bx5_0
  replace bx5_1 := (hb4.cell (by omega) (fun hg => by have := hf4 _ hg; omega) _).trans bx5_1
  replace ho_z1 := hb4.ow ho_z1 (fun g h1 h2 => by have := hl_z1 g h1; have := hi_z1 g h1; have := hf4 g h2; omega)
  replace hB := hB.trans (hb4.below (by omega) (fun g hg => by have := hf4 g hg; omega))
  clear hb4 hf4
  clear ho_z2
  have ho_z2 := hk4_z2
  clear hk4_z2
  have hcv4_z2 := cnt_le_vol (fit_dO ((readProgS s.data.toList).1.2))
  go_wp2_with fail
  refine (heldProgram_d Any (((readProgS s.data.toList).1.1)) (dO (readProgS s.data.toList).1.2) _ (1) _ ho_z2.rdA (fit_dO ((readProgS s.data.toList).1.2)) (by first | assumption | (have := cnt_le_vol (fit_dO ((readProgS s.data.toList).1.2)); omega)) (by omega) (by omega)).mono ?_
  rintro e w5 ⟨rfl, hb5⟩
  have hs5 : Below w4.heap.size w4 w5 := hb5
  replace bx3_0 := (bcell1 hs5 (by omega)).trans bx3_0
  replace bx3_1 := (bcell1 hs5 (by omega)).trans bx3_1
  replace bx5_0 := (bcell1 hs5 (by omega)).trans bx5_0
  replace bx5_1 := (bcell1 hs5 (by omega)).trans bx5_1
  have hz5 : w4.heap.size ≤ w5.heap.size := hb5.size
  replace ho_z1 := ho_z1.below hs5
  replace ho_z2 := ho_z2.below hs5
  replace hB := bnext hB hs5 (Nat.le_refl _)
  clear hb5 hs5
  go_wp2_with fail
  refine (implReadProgram_d s _  (by omega) (hlib.below (by first | exact hB | exact bnext hB (below_alloc _ _) (Nat.le_refl _) | exact bnext (bnext hB (below_alloc _ _) (Nat.le_refl _)) (below_alloc _ _) (Nat.le_refl _)))).mono ?_
  rintro e w6 ⟨vs6, F6, rfl, hb6, hoo6, hnn6, hll6⟩
  have hs6 : Below w5.heap.size w5 w6 := hb6
  replace bx3_0 := (bcell1 hs6 (by omega)).trans bx3_0
  replace bx3_1 := (bcell1 hs6 (by omega)).trans bx3_1
  replace bx5_0 := (bcell1 hs6 (by omega)).trans bx5_0
  replace bx5_1 := (bcell1 hs6 (by omega)).trans bx5_1
  have hz6 : w5.heap.size ≤ w6.heap.size := hb6.size
  replace ho_z1 := ho_z1.below hs6
  replace ho_z2 := ho_z2.below hs6
  replace hB := bnext hB hs6 (Nat.le_refl _)
  clear hb6 hs6
  have hvl6 := owA_len _ _ _ hoo6
  obtain ⟨e_6_0, e_6_1, rfl⟩ : ∃ e_6_0 e_6_1, vs6 = [e_6_0, e_6_1] := (by match vs6, hvl6 with | [e_6_0, e_6_1], _ => exact ⟨e_6_0, e_6_1, rfl⟩)
  clear hvl6
  obtain ⟨G6_0, _, ⟨ev6_0, eg6_0⟩, hr6_0, rfl⟩ := hoo6
  subst ev6_0
  subst eg6_0
  obtain ⟨F_z3, _, ho_z3, hr6_1, rfl⟩ := hr6_0
  have hend6 : _ = [] := hr6_1
  subst hend6
  have hl_z3 : ∀ g, g ∈ F_z3 → w5.heap.size ≤ g := fun g hg => by have := hll6 g (by simp [hg]); (try simp at this); omega
  obtain ⟨a_z3, n_z3, c_z3, rfl⟩ := (fit_dO ((readProgS s.data.toList).1.2)).sliceO ho_z3
  have hi_z3 : ∀ g, g ∈ F_z3 → g < w6.heap.size := Ow.lt _ _ _ ho_z3
  have hd_z3 : (F_z3).Nodup := by simpa using hnn6
  clear hnn6 hll6
  have lt6_0 : w1.heap.size < w6.heap.size := by omega
  have lt6_1 : w2.heap.size < w6.heap.size := by omega
  go_wp2_with fail
  refine (eqProgram_d (((readProgS s.data.toList).1.1)) (dO (readProgS s.data.toList).1.2) _ _ _ (ho_z3.rdA.below (below_alloc _ _)) (ho_z1.rdA.below (below_alloc _ _)) (fit_dO ((readProgS s.data.toList).1.2))).mono ?_
  rintro e w7 ⟨rfl, hb7⟩
  have hs7 : Below w6.heap.size w6 w7 := (below_alloc _ _).trans (hb7.mono (by simp <;> omega))
  replace bx3_0 := (bcell1 hs7 (by omega)).trans bx3_0
  replace bx3_1 := (bcell1 hs7 (by omega)).trans bx3_1
  replace bx5_0 := (bcell1 hs7 (by omega)).trans bx5_0
  replace bx5_1 := (bcell1 hs7 (by omega)).trans bx5_1
  have bx9_0 : w7.cell? ⟨w6.heap.size, 0, none⟩ = some (.int .i64 ((readProgS s.data.toList).1.1)) := by rw [bcell1 hb7 (by simp <;> omega)]; simp [go_sem]
  have bx9_1 : w7.cell? ⟨w6.heap.size, 1, none⟩ = some (.slice a_z3 n_z3 c_z3) := by rw [bcell1 hb7 (by simp <;> omega)]; simp [go_sem]
  have hz7 : w6.heap.size + 1 ≤ w7.heap.size := by have := hb7.size; (try simp at this); omega
  replace ho_z1 := ho_z1.below hs7
  replace ho_z2 := ho_z2.below hs7
  replace ho_z3 := ho_z3.below hs7
  replace hB := bnext hB hs7 (Nat.le_refl _)
  clear hb7 hs7
  clear ho_z1 ho_z3
  go_wp2_with fail
  refine (heldProgram_d Any (((readProgS s.data.toList).1.1)) (dO (readProgS s.data.toList).1.2) _ (1) _ ho_z2.rdA (fit_dO ((readProgS s.data.toList).1.2)) (by first | assumption | (have := cnt_le_vol (fit_dO ((readProgS s.data.toList).1.2)); omega)) (by omega) (by omega)).mono ?_
  rintro e w8 ⟨rfl, hb8⟩
  have hs8 : Below w7.heap.size w7 w8 := hb8
  replace bx3_0 := (bcell1 hs8 (by omega)).trans bx3_0
  replace bx3_1 := (bcell1 hs8 (by omega)).trans bx3_1
  replace bx5_0 := (bcell1 hs8 (by omega)).trans bx5_0
  replace bx5_1 := (bcell1 hs8 (by omega)).trans bx5_1
  replace bx9_0 := (bcell1 hs8 (by omega)).trans bx9_0
  replace bx9_1 := (bcell1 hs8 (by omega)).trans bx9_1
  have hz8 : w7.heap.size ≤ w8.heap.size := hb8.size
  replace ho_z2 := ho_z2.below hs8
  replace hB := bnext hB hs8 (Nat.le_refl _)
  clear hb8 hs8
  clear ho_z2
  go_wp2
  go_ret
  exact ⟨rfl, hB⟩
def laidL : List (String × DataW Unit) := Rows.fnExactReadProgramRow.laid
theorem door_met (os : Os) (args : Array Value) : laidMetH Tryd.prog laidL ((World.laidAll Tryd.prog os laidL).forCall (fun _ _ => 0) ⟨#[], args, []⟩).memory :=
  by rw [MakeChecks.laidMetH_plain _ _ _ (by kernel_rfl)]; exact laidMet_laidAll _ (by kernel_rfl) (by kernel_rfl)
set_option maxRecDepth 100000 in
theorem lifted (os : Os) (started : os.Started) (H : Type) (enc : TypeId × Value → H) :
    ReturnsInHanded {} Tryd.checked os 5 .any (fun w args => (Rows.fnExactReadProgramSpec.pre enc Tryd.prog Tryd.f5 [] false w args ∧ laidMetH Tryd.prog laidL w) ∧ sizedMet enc Tryd.prog Tryd.f5 (OpenSpec.ofChange Rows.fnExactReadProgramSpec) false w args) (Rows.fnExactReadProgramSpec.post enc Tryd.prog Tryd.f5 false true false false) :=
  liftShaped (lst := laidL) Tryd.func5 (by kernel_rfl) rfl rfl (by kernel_rfl : Tryd.prog.underlying 4 = some .bool) (by kernel_rfl) (fun ds h => by match ds, h with | [d0], _ => rfl) started
    (ChangeSpec.witness_shaped (enc := enc) (C := Tryd.checked) (os := os) (X := fun w _ => laidMetH Tryd.prog laidL w) false (World.laidAll Tryd.prog os laidL) #[.string ByteArray.empty] 8 (World.laidAll_os _ _ _) (World.shaped_of_ZipB (by kernel_rfl) (by kernel_rfl)) (by kernel_rfl) (by kernel_rfl) (by kernel_rfl) (door_met os _))
    (fun W base args ds p hval hA hL hSh => by
      rw [Tryd.params5] at hA hval
      obtain ⟨v0, vs0, d0, ds0, p0, q0, hargs0, rfl, rfl, g0, r0⟩ := ChangeShapes.trodAll_cons hA
      obtain ⟨hnil, rfl, rfl⟩ := ChangeShapes.trodAll_nil r0
      obtain rfl : args = #[v0] := by cases args; simp_all
      obtain ⟨x0, rfl, hx0⟩ := open_S (by kernel_rfl : Tryd.prog.underlying 9 = some .string) (hval 0 _ _ rfl rfl) g0
      exact walk x0 W hx0 (lib_ofReadProgram hL hSh))
end Go.Proofs.YtbnikblhnibgiaaDoor.lawReadProgram
