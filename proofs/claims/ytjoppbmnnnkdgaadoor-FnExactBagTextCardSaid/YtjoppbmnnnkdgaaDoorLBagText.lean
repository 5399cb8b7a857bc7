/- FnExactBagText: whatever the input, the law returns true. No condition. Written by lawgen2.py. -/
import Derived.Test.YtjoppbmnnnkdgaaDoorTV
import Derived.Test.YtjoppbmnnnkdgaaDoorFD
import Derived.Test.YtjoppbmnnnkdgaaDoorWB
import Derived.Test.YtjoppbmnnnkdgaaDoorYB
import Derived.Deep.RegionHeld3
namespace Go.Proofs.YtjoppbmnnnkdgaaDoor.lawBagText
open Go.ChangeShapes Go.WideShapes Go.ChangeAt Go.RowKit
set_option maxHeartbeats 3000000 in
set_option maxRecDepth 100000 in
theorem walk (b : List Int) (v_b : Value) (w : World) (h_b : Rd (· < w.heap.size) w (dI b) v_b) (hpw : PowAt w) :
    Calls Tryd.prog 4 #[v_b] w (RetV w (.bool true)) := by
  obtain ⟨a_b, c_b, rfl, hx_b⟩ := Rd_I.1 h_b
  have hm_b := hx_b.len
  unfold maxLen at hm_b
  clear hx_b
  by_cases hq_b : b.length ≤ 1048576
  rotate_left
  · go_enter Tryd.func4, Tryd.ntmps4
    go_wp2
    go_ret
    exact ⟨rfl, by repeat (first | exact Below.refl _ _ | refine Below.alloc ?_ (by simp; try omega) _)⟩
  have hv_b : vol (dI b) ≤ 16777216 := by rw [vol_dI]; omega
  have hB := Below.refl w.heap.size w
  go_enter Tryd.func4, Tryd.ntmps4
  go_wp2_with fail
  refine (toInt64S_d _ (dI b) _ _ (h_b.below hB) (fit_dI b) hv_b).mono ?_
  rintro e w1 ⟨v1, F_z1, rfl, hb1, ho_z1, hnn1, hll1⟩
  have hs1 : Below w.heap.size w w1 := hb1
  have hz1 : w.heap.size ≤ w1.heap.size := hb1.size
  replace hB := bnext hB hs1 (Nat.le_refl _)
  clear hb1 hs1
  have hl_z1 : ∀ g, g ∈ F_z1 → w.heap.size ≤ g := fun g hg => by have := hll1 g hg; (try simp at this); omega
  obtain ⟨a_z1, n_z1, c_z1, rfl⟩ := (fit_dI b).sliceO ho_z1
  have hi_z1 : ∀ g, g ∈ F_z1 → g < w1.heap.size := Ow.lt _ _ _ ho_z1
  have hd_z1 := hnn1
  clear hnn1 hll1
  go_wp2_with fail
  refine (specBagText_d b _ ho_z1.rdA ).mono ?_
  rintro e w2 ⟨rfl, hb2⟩
  have hs2 : Below w1.heap.size w1 w2 := hb2
  have hz2 : w1.heap.size ≤ w2.heap.size := hb2.size
  replace ho_z1 := ho_z1.below hs2
  replace hB := bnext hB hs2 (Nat.le_refl _)
  clear hb2 hs2
  clear ho_z1
  go_wp2_with fail
  refine (toInt64S_d _ (dI b) _ _ (h_b.below hB) (fit_dI b) hv_b).mono ?_
  rintro e w3 ⟨v3, F_z2, rfl, hb3, ho_z2, hnn3, hll3⟩
  have hs3 : Below w2.heap.size w2 w3 := hb3
  have hz3 : w2.heap.size ≤ w3.heap.size := hb3.size
  replace hB := bnext hB hs3 (Nat.le_refl _)
  clear hb3 hs3
  have hl_z2 : ∀ g, g ∈ F_z2 → w2.heap.size ≤ g := fun g hg => by have := hll3 g hg; (try simp at this); omega
  obtain ⟨a_z2, n_z2, c_z2, rfl⟩ := (fit_dI b).sliceO ho_z2
  have hi_z2 : ∀ g, g ∈ F_z2 → g < w3.heap.size := Ow.lt _ _ _ ho_z2
  have hd_z2 := hnn3
  clear hnn3 hll3
  go_wp2_with fail
  refine (implBagText_d b _ ho_z2.rdA (hpw.below hB)).mono ?_
  rintro e w4 ⟨rfl, hb4⟩
  have hs4 : Below w3.heap.size w3 w4 := hb4
  have hz4 : w3.heap.size ≤ w4.heap.size := hb4.size
  replace ho_z2 := ho_z2.below hs4
  replace hB := bnext hB hs4 (Nat.le_refl _)
  clear hb4 hs4
  go_wp2_with fail
  refine (toInt64S_d _ (dI b) _ _ (h_b.below hB) (fit_dI b) hv_b).mono ?_
  rintro e w5 ⟨v5, F_z3, rfl, hb5, ho_z3, hnn5, hll5⟩
  have hs5 : Below w4.heap.size w4 w5 := hb5
  have hz5 : w4.heap.size ≤ w5.heap.size := hb5.size
  replace ho_z2 := ho_z2.below hs5
  replace hB := bnext hB hs5 (Nat.le_refl _)
  clear hb5 hs5
  have hl_z3 : ∀ g, g ∈ F_z3 → w4.heap.size ≤ g := fun g hg => by have := hll5 g hg; (try simp at this); omega
  obtain ⟨a_z3, n_z3, c_z3, rfl⟩ := (fit_dI b).sliceO ho_z3
  have hi_z3 : ∀ g, g ∈ F_z3 → g < w5.heap.size := Ow.lt _ _ _ ho_z3
  have hd_z3 := hnn5
  clear hnn5 hll5
  go_wp2_with fail
  refine (eqInt64S_d (dI b) _ _ _ ho_z2.rdA ho_z3.rdA (fit_dI b)).mono ?_
  rintro e w6 ⟨rfl, hb6⟩
  have hs6 : Below w5.heap.size w5 w6 := hb6
  have hz6 : w5.heap.size ≤ w6.heap.size := hb6.size
  replace ho_z2 := ho_z2.below hs6
  replace ho_z3 := ho_z3.below hs6
  replace hB := bnext hB hs6 (Nat.le_refl _)
  clear hb6 hs6
  clear ho_z2 ho_z3
  go_wp2
  go_ret
  exact ⟨rfl, hB⟩
def laidL : List (String × DataW Unit) := Rows.fnExactBagTextRow.laid
theorem door_met (os : Os) (args : Array Value) : laidMetH Tryd.prog laidL ((World.doorLaid Tryd.prog 400 os).forCall (fun _ _ => 0) ⟨#[], args, []⟩).memory :=
  laidMetH_of_parts3 (fuel := 8) (laidMet_of_run' 8 (by kernel_rfl) (by kernel_rfl)) (by kernel_rfl) (by kernel_rfl)
set_option maxRecDepth 100000 in
theorem lifted (os : Os) (started : os.Started) (H : Type) (enc : TypeId × Value → H) :
    ReturnsInHanded {} Tryd.checked os 4 .any (fun w args => (Rows.fnExactBagTextSpec.pre enc Tryd.prog Tryd.f4 [] false w args ∧ laidMetH Tryd.prog laidL w) ∧ sizedMet enc Tryd.prog Tryd.f4 (OpenSpec.ofChange Rows.fnExactBagTextSpec) false w args) (Rows.fnExactBagTextSpec.post enc Tryd.prog Tryd.f4 false true false false) :=
  liftLaid (lst := laidL) Tryd.func4 (by kernel_rfl) rfl rfl (by kernel_rfl : Tryd.prog.underlying 4 = some .bool) (by kernel_rfl) (fun ds h => by match ds, h with | [d0], _ => rfl) started
    (ChangeSpec.witness_shaped (enc := enc) (C := Tryd.checked) (os := os) (X := fun w _ => laidMetH Tryd.prog laidL w) false (World.doorLaid Tryd.prog 400 os) #[.slice none 0 0] 8 rfl (World.shaped_of_RefB (by kernel_rfl) (by kernel_rfl)) (by kernel_rfl) (by kernel_rfl) (by kernel_rfl) (door_met os _))
    (fun W base args ds p hval hA hL => by
      rw [Tryd.params4] at hA hval
      obtain ⟨v0, vs0, d0, ds0, p0, q0, hargs0, rfl, rfl, g0, r0⟩ := ChangeShapes.trodAll_cons hA
      obtain ⟨hnil, rfl, rfl⟩ := ChangeShapes.trodAll_nil r0
      obtain rfl : args = #[v0] := by cases args; simp_all
      obtain ⟨dx0, fx0, rx0⟩ := open_L Tryd.underlying33 (by kernel_rfl : shapeOf Tryd.prog 6 33 = some [.l [.i]]) (hval 0 _ _ rfl rfl) g0
      obtain ⟨x0, rfl⟩ := fitD_I fx0
      exact walk x0 v0 W rx0 (pow_of hL))
end Go.Proofs.YtjoppbmnnnkdgaaDoor.lawBagText
