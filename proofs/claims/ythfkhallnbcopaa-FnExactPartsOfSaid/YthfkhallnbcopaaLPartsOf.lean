/- FnExactPartsOf: whatever the input, the law returns true. No condition. Written by lawgen2.py. -/
import Derived.Test.YthfkhallnbcopaaBV
import Derived.Test.YthfkhallnbcopaaBW
import Derived.Test.YthfkhallnbcopaaF
import Derived.Test.YthfkhallnbcopaaWB
import Derived.Test.YthfkhallnbcopaaYA
import Derived.Deep.RegionHeld3
namespace Go.Proofs.Ythfkhallnbcopaa.lawPartsOf
open Go.ChangeShapes Go.WideShapes Go.ChangeAt Go.RowKit
set_option maxHeartbeats 2000000 in
set_option maxRecDepth 100000 in
theorem walk (b : List Int) (v_b : Value) (w : World) (h_b : Rd (· < w.heap.size) w (dI b) v_b) :
    Calls Try.prog 9 #[v_b] w (RetV w (.bool true)) := by
  obtain ⟨a_b, c_b, rfl, hx_b⟩ := Rd_I.1 h_b
  have hm_b := hx_b.len
  unfold maxLen at hm_b
  clear hx_b
  have hcn := partsOf_cnt b
  by_cases hq_b : b.length ≤ 1048576
  rotate_left
  · go_enter Try.func9, Try.ntmps9
    go_wp2
    go_ret
    exact ⟨rfl, by repeat (first | exact Below.refl _ _ | refine Below.alloc ?_ (by simp; try omega) _)⟩
  have hv_b : vol (dI b) ≤ 16777216 := by rw [vol_dI]; omega
  have hB := Below.refl w.heap.size w
  go_enter Try.func9, Try.ntmps9
  go_wp2_with fail
  refine (toInt64S_d _ (dI b) _ _ (h_b.below hB) (fit_dI b) hv_b).mono ?_
  rintro e w1 ⟨v1, F_z1, rfl, hb1, ho_z1, hnn1, hll1⟩
  have hs1 : Below w.heap.size w w1 := hb1
  have hz1 : w.heap.size ≤ w1.heap.size := hb1.size
  replace hB := bnext hB hs1 (Nat.le_refl _)
  clear hb1 hs1
  have hl_z1 : ∀ g, g ∈ F_z1 → w.heap.size ≤ g := fun g hg => by have := hll1 g hg; (try simp at this); omega
  obtain ⟨a_z1, n_z1, c_z1, rfl⟩ := (fit_dI b).sliceO ho_z1
  have hi_z1 : ∀ g, g ∈ F_z1 → g < w1.heap.size := Ow.lt _ _ _ ho_z1
  have hd_z1 := hnn1
  clear hnn1 hll1
  go_wp2_with fail
  refine (specPartsOf_d b _ ho_z1.rdA).mono ?_
  rintro e w2 ⟨v2, F_z2, rfl, hb2, ho_z2, hnn2, hll2⟩
  have hs2 : Below w1.heap.size w1 w2 := hb2
  have hz2 : w1.heap.size ≤ w2.heap.size := hb2.size
  replace ho_z1 := ho_z1.below hs2
  replace hB := bnext hB hs2 (Nat.le_refl _)
  clear hb2 hs2
  have hl_z2 : ∀ g, g ∈ F_z2 → w1.heap.size ≤ g := fun g hg => by have := hll2 g hg; (try simp at this); omega
  obtain ⟨a_z2, n_z2, c_z2, rfl⟩ := (fit_dII ((partsOfS b).1)).sliceO ho_z2
  have hi_z2 : ∀ g, g ∈ F_z2 → g < w2.heap.size := Ow.lt _ _ _ ho_z2
  have hd_z2 := hnn2
  clear hnn2 hll2
  clear ho_z1
  go_wp2_with fail
  refine (toInt64S_d _ (dI b) _ _ (h_b.below hB) (fit_dI b) hv_b).mono ?_
  rintro e w3 ⟨v3, F_z3, rfl, hb3, ho_z3, hnn3, hll3⟩
  have hs3 : Below w2.heap.size w2 w3 := hb3
  have hz3 : w2.heap.size ≤ w3.heap.size := hb3.size
  replace ho_z2 := ho_z2.below hs3
  replace hB := bnext hB hs3 (Nat.le_refl _)
  clear hb3 hs3
  have hl_z3 : ∀ g, g ∈ F_z3 → w2.heap.size ≤ g := fun g hg => by have := hll3 g hg; (try simp at this); omega
  obtain ⟨a_z3, n_z3, c_z3, rfl⟩ := (fit_dI b).sliceO ho_z3
  have hi_z3 : ∀ g, g ∈ F_z3 → g < w3.heap.size := Ow.lt _ _ _ ho_z3
  have hd_z3 := hnn3
  clear hnn3 hll3
  go_wp2_with fail
  refine (implPartsOf_d b _ ho_z3.rdA).mono ?_
  rintro e w4 ⟨v4, F_z4, rfl, hb4, ho_z4, hnn4, hll4⟩
  have hs4 : Below w3.heap.size w3 w4 := hb4
  have hz4 : w3.heap.size ≤ w4.heap.size := hb4.size
  replace ho_z2 := ho_z2.below hs4
  replace ho_z3 := ho_z3.below hs4
  replace hB := bnext hB hs4 (Nat.le_refl _)
  clear hb4 hs4
  have hl_z4 : ∀ g, g ∈ F_z4 → w3.heap.size ≤ g := fun g hg => by have := hll4 g hg; (try simp at this); omega
  obtain ⟨a_z4, n_z4, c_z4, rfl⟩ := (fit_dII ((partsOfS b).1)).sliceO ho_z4
  have hi_z4 : ∀ g, g ∈ F_z4 → g < w4.heap.size := Ow.lt _ _ _ ho_z4
  have hd_z4 := hnn4
  clear hnn4 hll4
  go_wp2_with fail
  refine (eqInt64SS_d (dII (partsOfS b).1) _ _ _ ho_z4.rdA ho_z2.rdA (fit_dII ((partsOfS b).1))).mono ?_
  rintro e w5 ⟨rfl, hb5⟩
  have hs5 : Below w4.heap.size w4 w5 := hb5
  have hz5 : w4.heap.size ≤ w5.heap.size := hb5.size
  replace ho_z2 := ho_z2.below hs5
  replace ho_z3 := ho_z3.below hs5
  replace ho_z4 := ho_z4.below hs5
  replace hB := bnext hB hs5 (Nat.le_refl _)
  clear hb5 hs5
  go_wp2_with fail
  refine (toInt64S_d _ (dI b) _ _ (h_b.below hB) (fit_dI b) hv_b).mono ?_
  rintro e w6 ⟨v6, F_z5, rfl, hb6, ho_z5, hnn6, hll6⟩
  have hs6 : Below w5.heap.size w5 w6 := hb6
  have hz6 : w5.heap.size ≤ w6.heap.size := hb6.size
  replace ho_z2 := ho_z2.below hs6
  replace ho_z3 := ho_z3.below hs6
  replace ho_z4 := ho_z4.below hs6
  replace hB := bnext hB hs6 (Nat.le_refl _)
  clear hb6 hs6
  have hl_z5 : ∀ g, g ∈ F_z5 → w5.heap.size ≤ g := fun g hg => by have := hll6 g hg; (try simp at this); omega
  obtain ⟨a_z5, n_z5, c_z5, rfl⟩ := (fit_dI b).sliceO ho_z5
  have hi_z5 : ∀ g, g ∈ F_z5 → g < w6.heap.size := Ow.lt _ _ _ ho_z5
  have hd_z5 := hnn6
  clear hnn6 hll6
  go_wp2_with fail
  refine (eqInt64S_d (dI b) _ _ _ ho_z3.rdA ho_z5.rdA (fit_dI b)).mono ?_
  rintro e w7 ⟨rfl, hb7⟩
  have hs7 : Below w6.heap.size w6 w7 := hb7
  have hz7 : w6.heap.size ≤ w7.heap.size := hb7.size
  replace ho_z2 := ho_z2.below hs7
  replace ho_z3 := ho_z3.below hs7
  replace ho_z4 := ho_z4.below hs7
  replace ho_z5 := ho_z5.below hs7
  replace hB := bnext hB hs7 (Nat.le_refl _)
  clear hb7 hs7
  clear ho_z5
  go_wp2_with fail
  refine (markInt64S_d (dI b) _ _ (1) _ ho_z3 hd_z3 (fit_dI b) (by first | assumption | (have := cnt_le_vol (fit_dI b); omega)) (by omega) (by omega)).mono ?_
  rintro e w8 ⟨rfl, he8, hk8_z3⟩
  have hb8 := he8.chg
  clear he8
  have hz8 : w7.heap.size ≤ w8.heap.size := hb8.size
  have hf8 : ∀ g, g ∈ F_z3 → w2.heap.size ≤ g ∧ g < w3.heap.size := fun g hg => by exact ⟨hl_z3 g hg, hi_z3 g hg⟩
  replace ho_z2 := hb8.ow ho_z2 (fun g h1 h2 => by have := hl_z2 g h1; have := hi_z2 g h1; have := hf8 g h2; omega)
  replace ho_z4 := hb8.ow ho_z4 (fun g h1 h2 => by have := hl_z4 g h1; have := hi_z4 g h1; have := hf8 g h2; omega)
  replace hB := hB.trans (hb8.below (by omega) (fun g hg => by have := hf8 g hg; omega))
  clear hb8 hf8
  clear ho_z3
  have ho_z3 := hk8_z3
  clear hk8_z3
  clear ho_z3
  go_wp2_with fail
  refine (eqInt64SS_d (dII (partsOfS b).1) _ _ _ ho_z4.rdA ho_z2.rdA (fit_dII ((partsOfS b).1))).mono ?_
  rintro e w9 ⟨rfl, hb9⟩
  have hs9 : Below w8.heap.size w8 w9 := hb9
  have hz9 : w8.heap.size ≤ w9.heap.size := hb9.size
  replace ho_z2 := ho_z2.below hs9
  replace ho_z4 := ho_z4.below hs9
  replace hB := bnext hB hs9 (Nat.le_refl _)
  clear hb9 hs9
  go_wp2_with fail
  refine (markInt64SS_d (dII (partsOfS b).1) _ _ (1) _ ho_z4 hd_z4 (fit_dII ((partsOfS b).1)) (by first | assumption | (have := cnt_le_vol (fit_dII ((partsOfS b).1)); omega)) (by omega) (by omega)).mono ?_
  rintro e w10 ⟨rfl, he10, hk10_z4⟩
  have hb10 := he10.chg
  clear he10
  have hz10 : w9.heap.size ≤ w10.heap.size := hb10.size
  have hf10 : ∀ g, g ∈ F_z4 → w3.heap.size ≤ g ∧ g < w4.heap.size := fun g hg => by exact ⟨hl_z4 g hg, hi_z4 g hg⟩
  replace ho_z2 := hb10.ow ho_z2 (fun g h1 h2 => by have := hl_z2 g h1; have := hi_z2 g h1; have := hf10 g h2; omega)
  replace hB := hB.trans (hb10.below (by omega) (fun g hg => by have := hf10 g hg; omega))
  clear hb10 hf10
  clear ho_z4
  have ho_z4 := hk10_z4
  clear hk10_z4
  go_wp2_with fail
  refine (heldInt64SS_d Any (dII (partsOfS b).1) _ (1) _ ho_z4.rdA (fit_dII ((partsOfS b).1)) (by first | assumption | (have := cnt_le_vol (fit_dII ((partsOfS b).1)); omega)) (by omega) (by omega)).mono ?_
  rintro e w11 ⟨rfl, hb11⟩
  have hs11 : Below w10.heap.size w10 w11 := hb11
  have hz11 : w10.heap.size ≤ w11.heap.size := hb11.size
  replace ho_z2 := ho_z2.below hs11
  replace ho_z4 := ho_z4.below hs11
  replace hB := bnext hB hs11 (Nat.le_refl _)
  clear hb11 hs11
  go_wp2_with fail
  refine (toInt64S_d _ (dI b) _ _ (h_b.below hB) (fit_dI b) hv_b).mono ?_
  rintro e w12 ⟨v12, F_z6, rfl, hb12, ho_z6, hnn12, hll12⟩
  have hs12 : Below w11.heap.size w11 w12 := hb12
  have hz12 : w11.heap.size ≤ w12.heap.size := hb12.size
  replace ho_z2 := ho_z2.below hs12
  replace ho_z4 := ho_z4.below hs12
  replace hB := bnext hB hs12 (Nat.le_refl _)
  clear hb12 hs12
  have hl_z6 : ∀ g, g ∈ F_z6 → w11.heap.size ≤ g := fun g hg => by have := hll12 g hg; (try simp at this); omega
  obtain ⟨a_z6, n_z6, c_z6, rfl⟩ := (fit_dI b).sliceO ho_z6
  have hi_z6 : ∀ g, g ∈ F_z6 → g < w12.heap.size := Ow.lt _ _ _ ho_z6
  have hd_z6 := hnn12
  clear hnn12 hll12
  go_wp2_with fail
  refine (implPartsOf_d b _ ho_z6.rdA).mono ?_
  rintro e w13 ⟨v13, F_z7, rfl, hb13, ho_z7, hnn13, hll13⟩
  have hs13 : Below w12.heap.size w12 w13 := hb13
  have hz13 : w12.heap.size ≤ w13.heap.size := hb13.size
  replace ho_z2 := ho_z2.below hs13
  replace ho_z4 := ho_z4.below hs13
  replace ho_z6 := ho_z6.below hs13
  replace hB := bnext hB hs13 (Nat.le_refl _)
  clear hb13 hs13
  have hl_z7 : ∀ g, g ∈ F_z7 → w12.heap.size ≤ g := fun g hg => by have := hll13 g hg; (try simp at this); omega
  obtain ⟨a_z7, n_z7, c_z7, rfl⟩ := (fit_dII ((partsOfS b).1)).sliceO ho_z7
  have hi_z7 : ∀ g, g ∈ F_z7 → g < w13.heap.size := Ow.lt _ _ _ ho_z7
  have hd_z7 := hnn13
  clear hnn13 hll13
  clear ho_z6
  go_wp2_with fail
  refine (eqInt64SS_d (dII (partsOfS b).1) _ _ _ ho_z7.rdA ho_z2.rdA (fit_dII ((partsOfS b).1))).mono ?_
  rintro e w14 ⟨rfl, hb14⟩
  have hs14 : Below w13.heap.size w13 w14 := hb14
  have hz14 : w13.heap.size ≤ w14.heap.size := hb14.size
  replace ho_z2 := ho_z2.below hs14
  replace ho_z4 := ho_z4.below hs14
  replace ho_z7 := ho_z7.below hs14
  replace hB := bnext hB hs14 (Nat.le_refl _)
  clear hb14 hs14
  clear ho_z2 ho_z7
  go_wp2_with fail
  refine (heldInt64SS_d Any (dII (partsOfS b).1) _ (1) _ ho_z4.rdA (fit_dII ((partsOfS b).1)) (by first | assumption | (have := cnt_le_vol (fit_dII ((partsOfS b).1)); omega)) (by omega) (by omega)).mono ?_
  rintro e w15 ⟨rfl, hb15⟩
  have hs15 : Below w14.heap.size w14 w15 := hb15
  have hz15 : w14.heap.size ≤ w15.heap.size := hb15.size
  replace ho_z4 := ho_z4.below hs15
  replace hB := bnext hB hs15 (Nat.le_refl _)
  clear hb15 hs15
  clear ho_z4
  go_wp2
  go_ret
  exact ⟨rfl, hB⟩
set_option maxRecDepth 100000 in
theorem lifted (os : Os) (started : os.Started) (H : Type) (enc : TypeId × Value → H) :
    ReturnsInHanded {} Try.checked os 9 .any (Rows.fnExactPartsOfSpec.pre6 enc Try.prog Try.f9 Rows.fnExactPartsOfRow.domain false) (Rows.fnExactPartsOfSpec.post enc Try.prog Try.f9 false true false false) :=
  lift Try.func9 (by kernel_rfl) rfl rfl (by kernel_rfl : Try.prog.underlying 4 = some .bool) (by kernel_rfl) (fun ds h => by match ds, h with | [d0], _ => rfl) started
    (ChangeSpec.witness6 (enc := enc) (C := Try.checked) false ⟨#[], #[.slice none 0 0], []⟩ 8 (by kernel_rfl) (by kernel_rfl) (by kernel_rfl) (by kernel_rfl))
    (fun W base args ds p hval hA => by
      rw [Try.params9] at hA hval
      obtain ⟨v0, vs0, d0, ds0, p0, q0, hargs0, rfl, rfl, g0, r0⟩ := ChangeShapes.trodAll_cons hA
      obtain ⟨hnil, rfl, rfl⟩ := ChangeShapes.trodAll_nil r0
      obtain rfl : args = #[v0] := by cases args; simp_all
      obtain ⟨dx0, fx0, rx0⟩ := open_L Try.underlying22 (by kernel_rfl : shapeOf Try.prog 6 22 = some [.l [.i]]) (hval 0 _ _ rfl rfl) g0
      obtain ⟨x0, rfl⟩ := fitD_I fx0
      exact walk x0 v0 W rx0)
theorem proved : Rows.FnExactPartsOfSaid :=
  OpenClaim.holds_of_wide 9 Try.f9 rfl rfl rfl rfl rfl rfl rfl ⟨rfl, rfl, rfl, rfl, rfl⟩ rfl rfl rfl rfl rfl (by kernel_rfl) Try.func9 (by kernel_rfl)
    (of_decide_eq_true (by kernel_rfl)) (by unfold Func.isWrapper; first | (rw [if_pos (by decide +kernel)]; kernel_rfl) | (rw [if_neg (by decide +kernel)]; exact ⟨rfl, rfl⟩))
    (fun os started H enc _ => lifted os started H enc)
end Go.Proofs.Ythfkhallnbcopaa.lawPartsOf
