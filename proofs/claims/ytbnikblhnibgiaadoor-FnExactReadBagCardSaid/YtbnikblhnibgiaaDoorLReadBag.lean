/- FnExactReadBag: whatever the input, the law returns true. No condition. Written by lawgen2.py. -/
import Derived.Test.YtbnikblhnibgiaaDoorNI
import Derived.Test.YtbnikblhnibgiaaDoorNK
import Derived.Test.YtbnikblhnibgiaaDoorFE
import Derived.Test.YtbnikblhnibgiaaDoorWB
import Derived.Test.YtbnikblhnibgiaaDoorYB
import Derived.Deep.RegionHeld3
namespace Go.Proofs.YtbnikblhnibgiaaDoor.lawReadBag
open Go.ChangeShapes Go.WideShapes Go.ChangeAt Go.RowKit
set_option maxHeartbeats 3000000 in
set_option maxRecDepth 100000 in
theorem walk (k : Int) (s : ByteArray) (w : World) (hs_s : s.size ≤ maxLen) (hlib : LibOk w) :
    Calls Tryd.prog 3 #[.int .i64 k, .string s] w (RetV w (.bool true)) := by
  unfold maxLen at hs_s
  have hcn := readBagS_cnt k s.data.toList
  by_cases hq_s : s.size ≤ 1048576
  rotate_left
  · go_enter Tryd.func3, Tryd.ntmps3
    go_wp2
    go_ret
    exact ⟨rfl, by repeat (first | exact Below.refl _ _ | refine Below.alloc ?_ (by simp; try omega) _)⟩
  have hB := Below.refl w.heap.size w
  go_enter Tryd.func3, Tryd.ntmps3
  go_wp2_with fail
  refine (specReadBag_d k s _  (by omega)).mono ?_
  rintro e w1 ⟨v1, F_z1, rfl, hb1, ho_z1, hnn1, hll1⟩
  have hs1 : Below w.heap.size w w1 := hb1
  have hz1 : w.heap.size ≤ w1.heap.size := hb1.size
  replace hB := bnext hB hs1 (Nat.le_refl _)
  clear hb1 hs1
  have hl_z1 : ∀ g, g ∈ F_z1 → w.heap.size ≤ g := fun g hg => by have := hll1 g hg; (try simp at this); omega
  obtain ⟨a_z1, n_z1, c_z1, rfl⟩ := (fit_dI ((readBagS k s.data.toList).1)).sliceO ho_z1
  have hi_z1 : ∀ g, g ∈ F_z1 → g < w1.heap.size := Ow.lt _ _ _ ho_z1
  have hd_z1 := hnn1
  clear hnn1 hll1
  go_wp2_with fail
  refine (implReadBag_d k s _  (by omega) (hlib.below hB)).mono ?_
  rintro e w2 ⟨v2, F_z2, rfl, hb2, ho_z2, hnn2, hll2⟩
  have hs2 : Below w1.heap.size w1 w2 := hb2
  have hz2 : w1.heap.size ≤ w2.heap.size := hb2.size
  replace ho_z1 := ho_z1.below hs2
  replace hB := bnext hB hs2 (Nat.le_refl _)
  clear hb2 hs2
  have hl_z2 : ∀ g, g ∈ F_z2 → w1.heap.size ≤ g := fun g hg => by have := hll2 g hg; (try simp at this); omega
  obtain ⟨a_z2, n_z2, c_z2, rfl⟩ := (fit_dI ((readBagS k s.data.toList).1)).sliceO ho_z2
  have hi_z2 : ∀ g, g ∈ F_z2 → g < w2.heap.size := Ow.lt _ _ _ ho_z2
  have hd_z2 := hnn2
  clear hnn2 hll2
  go_wp2_with fail
  refine (eqInt64S_d (dI (readBagS k s.data.toList).1) _ _ _ ho_z2.rdA ho_z1.rdA (fit_dI ((readBagS k s.data.toList).1))).mono ?_
  rintro e w3 ⟨rfl, hb3⟩
  have hs3 : Below w2.heap.size w2 w3 := hb3
  have hz3 : w2.heap.size ≤ w3.heap.size := hb3.size
  replace ho_z1 := ho_z1.below hs3
  replace ho_z2 := ho_z2.below hs3
  replace hB := bnext hB hs3 (Nat.le_refl _)
  clear hb3 hs3
  go_wp2_with fail
  refine (markInt64S_d (dI (readBagS k s.data.toList).1) _ _ (1) _ ho_z2 hd_z2 (fit_dI ((readBagS k s.data.toList).1)) (by first | assumption | (have := cnt_le_vol (fit_dI ((readBagS k s.data.toList).1)); omega)) (by omega) (by omega)).mono ?_
  rintro e w4 ⟨rfl, he4, hk4_z2⟩
  have hb4 := he4.chg
  clear he4
  have hz4 : w3.heap.size ≤ w4.heap.size := hb4.size
  have hf4 : ∀ g, g ∈ F_z2 → w1.heap.size ≤ g ∧ g < w2.heap.size := fun g hg => by exact ⟨hl_z2 g hg, hi_z2 g hg⟩
  replace ho_z1 := hb4.ow ho_z1 (fun g h1 h2 => by have := hl_z1 g h1; have := hi_z1 g h1; have := hf4 g h2; omega)
  replace hB := hB.trans (hb4.below (by omega) (fun g hg => by have := hf4 g hg; omega))
  clear hb4 hf4
  clear ho_z2
  have ho_z2 := hk4_z2
  clear hk4_z2
  have hcv4_z2 := cnt_le_vol (fit_dI ((readBagS k s.data.toList).1))
  go_wp2_with fail
  refine (heldInt64S_d Any (dI (readBagS k s.data.toList).1) _ (1) _ ho_z2.rdA (fit_dI ((readBagS k s.data.toList).1)) (by first | assumption | (have := cnt_le_vol (fit_dI ((readBagS k s.data.toList).1)); omega)) (by omega) (by omega)).mono ?_
  rintro e w5 ⟨rfl, hb5⟩
  have hs5 : Below w4.heap.size w4 w5 := hb5
  have hz5 : w4.heap.size ≤ w5.heap.size := hb5.size
  replace ho_z1 := ho_z1.below hs5
  replace ho_z2 := ho_z2.below hs5
  replace hB := bnext hB hs5 (Nat.le_refl _)
  clear hb5 hs5
  go_wp2_with fail
  refine (implReadBag_d k s _  (by omega) (hlib.below hB)).mono ?_
  rintro e w6 ⟨v6, F_z3, rfl, hb6, ho_z3, hnn6, hll6⟩
  have hs6 : Below w5.heap.size w5 w6 := hb6
  have hz6 : w5.heap.size ≤ w6.heap.size := hb6.size
  replace ho_z1 := ho_z1.below hs6
  replace ho_z2 := ho_z2.below hs6
  replace hB := bnext hB hs6 (Nat.le_refl _)
  clear hb6 hs6
  have hl_z3 : ∀ g, g ∈ F_z3 → w5.heap.size ≤ g := fun g hg => by have := hll6 g hg; (try simp at this); omega
  obtain ⟨a_z3, n_z3, c_z3, rfl⟩ := (fit_dI ((readBagS k s.data.toList).1)).sliceO ho_z3
  have hi_z3 : ∀ g, g ∈ F_z3 → g < w6.heap.size := Ow.lt _ _ _ ho_z3
  have hd_z3 := hnn6
  clear hnn6 hll6
  go_wp2_with fail
  refine (eqInt64S_d (dI (readBagS k s.data.toList).1) _ _ _ ho_z3.rdA ho_z1.rdA (fit_dI ((readBagS k s.data.toList).1))).mono ?_
  rintro e w7 ⟨rfl, hb7⟩
  have hs7 : Below w6.heap.size w6 w7 := hb7
  have hz7 : w6.heap.size ≤ w7.heap.size := hb7.size
  replace ho_z1 := ho_z1.below hs7
  replace ho_z2 := ho_z2.below hs7
  replace ho_z3 := ho_z3.below hs7
  replace hB := bnext hB hs7 (Nat.le_refl _)
  clear hb7 hs7
  clear ho_z1 ho_z3
  go_wp2_with fail
  refine (heldInt64S_d Any (dI (readBagS k s.data.toList).1) _ (1) _ ho_z2.rdA (fit_dI ((readBagS k s.data.toList).1)) (by first | assumption | (have := cnt_le_vol (fit_dI ((readBagS k s.data.toList).1)); omega)) (by omega) (by omega)).mono ?_
  rintro e w8 ⟨rfl, hb8⟩
  have hs8 : Below w7.heap.size w7 w8 := hb8
  have hz8 : w7.heap.size ≤ w8.heap.size := hb8.size
  replace ho_z2 := ho_z2.below hs8
  replace hB := bnext hB hs8 (Nat.le_refl _)
  clear hb8 hs8
  clear ho_z2
  go_wp2
  go_ret
  exact ⟨rfl, hB⟩
def laidL : List (String × DataW Unit) := Rows.fnExactReadBagRow.laid
theorem door_met (os : Os) (args : Array Value) : laidMetH Tryd.prog laidL ((World.laidAll Tryd.prog os laidL).forCall (fun _ _ => 0) ⟨#[], args, []⟩).memory :=
  by rw [MakeChecks.laidMetH_plain _ _ _ (by kernel_rfl)]; exact laidMet_laidAll _ (by kernel_rfl) (by kernel_rfl)
set_option maxRecDepth 100000 in
theorem lifted (os : Os) (started : os.Started) (H : Type) (enc : TypeId × Value → H) :
    ReturnsInHanded {} Tryd.checked os 3 .any (fun w args => (Rows.fnExactReadBagSpec.pre enc Tryd.prog Tryd.f3 [] false w args ∧ laidMetH Tryd.prog laidL w) ∧ sizedMet enc Tryd.prog Tryd.f3 (OpenSpec.ofChange Rows.fnExactReadBagSpec) false w args) (Rows.fnExactReadBagSpec.post enc Tryd.prog Tryd.f3 false true false false) :=
  liftShaped (lst := laidL) Tryd.func3 (by kernel_rfl) rfl rfl (by kernel_rfl : Tryd.prog.underlying 4 = some .bool) (by kernel_rfl) (fun ds h => by match ds, h with | [d0, d1], _ => rfl) started
    (ChangeSpec.witness_shaped (enc := enc) (C := Tryd.checked) (os := os) (X := fun w _ => laidMetH Tryd.prog laidL w) false (World.laidAll Tryd.prog os laidL) #[.int .i64 0, .string ByteArray.empty] 8 (World.laidAll_os _ _ _) (World.shaped_of_ZipB (by kernel_rfl) (by kernel_rfl)) (by kernel_rfl) (by kernel_rfl) (by kernel_rfl) (door_met os _))
    (fun W base args ds p hval hA hL hSh => by
      rw [Tryd.params3] at hA hval
      obtain ⟨v0, vs0, d0, ds0, p0, q0, hargs0, rfl, rfl, g0, r0⟩ := ChangeShapes.trodAll_cons hA
      obtain ⟨v1, vs1, d1, ds1, p1, q1, hargs1, rfl, rfl, g1, r1⟩ := ChangeShapes.trodAll_cons r0
      obtain ⟨hnil, rfl, rfl⟩ := ChangeShapes.trodAll_nil r1
      obtain rfl : args = #[v0, v1] := by cases args; simp_all
      obtain ⟨x0, rfl, rfl, rfl, wx0⟩ := open_int (by kernel_rfl : Tryd.prog.underlying 2 = some (.int .i64)) (hval 0 _ _ rfl rfl) g0
      obtain ⟨x1, rfl, hx1⟩ := open_S (by kernel_rfl : Tryd.prog.underlying 9 = some .string) (hval 1 _ _ rfl rfl) g1
      exact walk x0 x1 W hx1 (lib_ofBag hL hSh))
end Go.Proofs.YtbnikblhnibgiaaDoor.lawReadBag
