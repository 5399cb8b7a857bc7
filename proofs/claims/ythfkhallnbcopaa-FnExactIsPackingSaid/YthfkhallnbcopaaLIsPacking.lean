/- FnExactIsPacking: whatever the input, the law returns true. No condition. Written by lawgen2.py. -/
import Derived.Test.YthfkhallnbcopaaPS
import Derived.Test.YthfkhallnbcopaaF
import Derived.Test.YthfkhallnbcopaaWB
import Derived.Test.YthfkhallnbcopaaYA
import Derived.Deep.RegionHeld3
namespace Go.Proofs.Ythfkhallnbcopaa.lawIsPacking
open Go.ChangeShapes Go.WideShapes Go.ChangeAt Go.RowKit
set_option maxHeartbeats 2000000 in
set_option maxRecDepth 100000 in
theorem walk (b : List Int) (v_b : Value) (parts : List (List Int)) (v_parts : Value) (counts : List Int) (v_counts : Value) (w : World) (h_b : Rd (· < w.heap.size) w (dI b) v_b) (h_parts : Rd (· < w.heap.size) w (dII parts) v_parts) (h_counts : Rd (· < w.heap.size) w (dI counts) v_counts) :
    Calls Try.prog 14 #[v_b, v_parts, v_counts] w (RetV w (.bool true)) := by
  obtain ⟨a_b, c_b, rfl, hx_b⟩ := Rd_I.1 h_b
  have hm_b := hx_b.len
  unfold maxLen at hm_b
  clear hx_b
  obtain ⟨a_parts, n_parts, c_parts, rfl⟩ := (fit_dII parts).sliceR h_parts
  obtain ⟨a_counts, c_counts, rfl, hx_counts⟩ := Rd_I.1 h_counts
  have hm_counts := hx_counts.len
  unfold maxLen at hm_counts
  clear hx_counts
  by_cases hq_b : b.length ≤ 1048576
  rotate_left
  · go_enter Try.func14, Try.ntmps14
    go_wp2
    go_ret
    exact ⟨rfl, by repeat (first | exact Below.refl _ _ | refine Below.alloc ?_ (by simp; try omega) _)⟩
  have hv_b : vol (dI b) ≤ 16777216 := by rw [vol_dI]; omega
  by_cases hq_counts : counts.length ≤ 1048576
  rotate_left
  · go_enter Try.func14, Try.ntmps14
    go_wp2
    go_ret
    exact ⟨rfl, by repeat (first | exact Below.refl _ _ | refine Below.alloc ?_ (by simp; try omega) _)⟩
  have hv_counts : vol (dI counts) ≤ 16777216 := by rw [vol_dI]; omega
  have hB := Below.refl w.heap.size w
  go_enter Try.func14, Try.ntmps14
  go_wp2_with fail
  refine (szInt64SS_d _ (dII parts) _ 1048576 _ (h_parts.below hB) (fit_dII parts) (by omega) (by omega)).mono ?_
  rintro e w1 ⟨L1, rfl, hb1, yy1, uu1, p1⟩
  have hs1 : Below w.heap.size w w1 := hb1
  have hz1 : w.heap.size ≤ w1.heap.size := hb1.size
  replace hB := bnext hB hs1 (Nat.le_refl _)
  clear hb1 hs1
  by_cases n1 : L1 < 0
  · go_wp2
    go_ret
    exact ⟨rfl, hB⟩
  have q1 := p1 (by omega)
  have m1 : 0 ≤ L1 := by omega
  clear p1
  have hv_parts : vol (dII parts) ≤ 16777216 := by omega
  go_wp2_with fail
  refine (toInt64S_d _ (dI b) _ _ (h_b.below hB) (fit_dI b) hv_b).mono ?_
  rintro e w2 ⟨v2, F_z1, rfl, hb2, ho_z1, hnn2, hll2⟩
  have hs2 : Below w1.heap.size w1 w2 := hb2
  have hz2 : w1.heap.size ≤ w2.heap.size := hb2.size
  replace hB := bnext hB hs2 (Nat.le_refl _)
  clear hb2 hs2
  have hl_z1 : ∀ g, g ∈ F_z1 → w1.heap.size ≤ g := fun g hg => by have := hll2 g hg; (try simp at this); omega
  obtain ⟨a_z1, n_z1, c_z1, rfl⟩ := (fit_dI b).sliceO ho_z1
  have hi_z1 : ∀ g, g ∈ F_z1 → g < w2.heap.size := Ow.lt _ _ _ ho_z1
  have hd_z1 := hnn2
  clear hnn2 hll2
  go_wp2_with fail
  refine (toInt64SS_d _ (dII parts) _ _ (h_parts.below hB) (fit_dII parts) hv_parts).mono ?_
  rintro e w3 ⟨v3, F_z2, rfl, hb3, ho_z2, hnn3, hll3⟩
  have hs3 : Below w2.heap.size w2 w3 := hb3
  have hz3 : w2.heap.size ≤ w3.heap.size := hb3.size
  replace ho_z1 := ho_z1.below hs3
  replace hB := bnext hB hs3 (Nat.le_refl _)
  clear hb3 hs3
  have hl_z2 : ∀ g, g ∈ F_z2 → w2.heap.size ≤ g := fun g hg => by have := hll3 g hg; (try simp at this); omega
  obtain ⟨a_z2, n_z2, c_z2, rfl⟩ := (fit_dII parts).sliceO ho_z2
  have hi_z2 : ∀ g, g ∈ F_z2 → g < w3.heap.size := Ow.lt _ _ _ ho_z2
  have hd_z2 := hnn3
  clear hnn3 hll3
  go_wp2_with fail
  refine (toInt64S_d _ (dI counts) _ _ (h_counts.below hB) (fit_dI counts) hv_counts).mono ?_
  rintro e w4 ⟨v4, F_z3, rfl, hb4, ho_z3, hnn4, hll4⟩
  have hs4 : Below w3.heap.size w3 w4 := hb4
  have hz4 : w3.heap.size ≤ w4.heap.size := hb4.size
  replace ho_z1 := ho_z1.below hs4
  replace ho_z2 := ho_z2.below hs4
  replace hB := bnext hB hs4 (Nat.le_refl _)
  clear hb4 hs4
  have hl_z3 : ∀ g, g ∈ F_z3 → w3.heap.size ≤ g := fun g hg => by have := hll4 g hg; (try simp at this); omega
  obtain ⟨a_z3, n_z3, c_z3, rfl⟩ := (fit_dI counts).sliceO ho_z3
  have hi_z3 : ∀ g, g ∈ F_z3 → g < w4.heap.size := Ow.lt _ _ _ ho_z3
  have hd_z3 := hnn4
  clear hnn4 hll4
  go_wp2_with fail
  refine (specIsPacking_d b parts counts _ ho_z1.rdA ho_z2.rdA ho_z3.rdA).mono ?_
  rintro e w5 ⟨rfl, hb5⟩
  have hs5 : Below w4.heap.size w4 w5 := hb5
  have hz5 : w4.heap.size ≤ w5.heap.size := hb5.size
  replace ho_z1 := ho_z1.below hs5
  replace ho_z2 := ho_z2.below hs5
  replace ho_z3 := ho_z3.below hs5
  replace hB := bnext hB hs5 (Nat.le_refl _)
  clear hb5 hs5
  clear ho_z1 ho_z2 ho_z3
  go_wp2_with fail
  refine (toInt64S_d _ (dI b) _ _ (h_b.below hB) (fit_dI b) hv_b).mono ?_
  rintro e w6 ⟨v6, F_z4, rfl, hb6, ho_z4, hnn6, hll6⟩
  have hs6 : Below w5.heap.size w5 w6 := hb6
  have hz6 : w5.heap.size ≤ w6.heap.size := hb6.size
  replace hB := bnext hB hs6 (Nat.le_refl _)
  clear hb6 hs6
  have hl_z4 : ∀ g, g ∈ F_z4 → w5.heap.size ≤ g := fun g hg => by have := hll6 g hg; (try simp at this); omega
  obtain ⟨a_z4, n_z4, c_z4, rfl⟩ := (fit_dI b).sliceO ho_z4
  have hi_z4 : ∀ g, g ∈ F_z4 → g < w6.heap.size := Ow.lt _ _ _ ho_z4
  have hd_z4 := hnn6
  clear hnn6 hll6
  go_wp2_with fail
  refine (toInt64SS_d _ (dII parts) _ _ (h_parts.below hB) (fit_dII parts) hv_parts).mono ?_
  rintro e w7 ⟨v7, F_z5, rfl, hb7, ho_z5, hnn7, hll7⟩
  have hs7 : Below w6.heap.size w6 w7 := hb7
  have hz7 : w6.heap.size ≤ w7.heap.size := hb7.size
  replace ho_z4 := ho_z4.below hs7
  replace hB := bnext hB hs7 (Nat.le_refl _)
  clear hb7 hs7
  have hl_z5 : ∀ g, g ∈ F_z5 → w6.heap.size ≤ g := fun g hg => by have := hll7 g hg; (try simp at this); omega
  obtain ⟨a_z5, n_z5, c_z5, rfl⟩ := (fit_dII parts).sliceO ho_z5
  have hi_z5 : ∀ g, g ∈ F_z5 → g < w7.heap.size := Ow.lt _ _ _ ho_z5
  have hd_z5 := hnn7
  clear hnn7 hll7
  go_wp2_with fail
  refine (toInt64S_d _ (dI counts) _ _ (h_counts.below hB) (fit_dI counts) hv_counts).mono ?_
  rintro e w8 ⟨v8, F_z6, rfl, hb8, ho_z6, hnn8, hll8⟩
  have hs8 : Below w7.heap.size w7 w8 := hb8
  have hz8 : w7.heap.size ≤ w8.heap.size := hb8.size
  replace ho_z4 := ho_z4.below hs8
  replace ho_z5 := ho_z5.below hs8
  replace hB := bnext hB hs8 (Nat.le_refl _)
  clear hb8 hs8
  have hl_z6 : ∀ g, g ∈ F_z6 → w7.heap.size ≤ g := fun g hg => by have := hll8 g hg; (try simp at this); omega
  obtain ⟨a_z6, n_z6, c_z6, rfl⟩ := (fit_dI counts).sliceO ho_z6
  have hi_z6 : ∀ g, g ∈ F_z6 → g < w8.heap.size := Ow.lt _ _ _ ho_z6
  have hd_z6 := hnn8
  clear hnn8 hll8
  go_wp2_with fail
  refine (implIsPacking_d b parts counts _ ho_z4.rdA ho_z5.rdA ho_z6.rdA).mono ?_
  rintro e w9 ⟨rfl, hb9⟩
  have hs9 : Below w8.heap.size w8 w9 := hb9
  have hz9 : w8.heap.size ≤ w9.heap.size := hb9.size
  replace ho_z4 := ho_z4.below hs9
  replace ho_z5 := ho_z5.below hs9
  replace ho_z6 := ho_z6.below hs9
  replace hB := bnext hB hs9 (Nat.le_refl _)
  clear hb9 hs9
  go_wp2_with fail
  refine (toInt64S_d _ (dI b) _ _ (h_b.below hB) (fit_dI b) hv_b).mono ?_
  rintro e w10 ⟨v10, F_z7, rfl, hb10, ho_z7, hnn10, hll10⟩
  have hs10 : Below w9.heap.size w9 w10 := hb10
  have hz10 : w9.heap.size ≤ w10.heap.size := hb10.size
  replace ho_z4 := ho_z4.below hs10
  replace ho_z5 := ho_z5.below hs10
  replace ho_z6 := ho_z6.below hs10
  replace hB := bnext hB hs10 (Nat.le_refl _)
  clear hb10 hs10
  have hl_z7 : ∀ g, g ∈ F_z7 → w9.heap.size ≤ g := fun g hg => by have := hll10 g hg; (try simp at this); omega
  obtain ⟨a_z7, n_z7, c_z7, rfl⟩ := (fit_dI b).sliceO ho_z7
  have hi_z7 : ∀ g, g ∈ F_z7 → g < w10.heap.size := Ow.lt _ _ _ ho_z7
  have hd_z7 := hnn10
  clear hnn10 hll10
  go_wp2_with fail
  refine (eqInt64S_d (dI b) _ _ _ ho_z4.rdA ho_z7.rdA (fit_dI b)).mono ?_
  rintro e w11 ⟨rfl, hb11⟩
  have hs11 : Below w10.heap.size w10 w11 := hb11
  have hz11 : w10.heap.size ≤ w11.heap.size := hb11.size
  replace ho_z4 := ho_z4.below hs11
  replace ho_z5 := ho_z5.below hs11
  replace ho_z6 := ho_z6.below hs11
  replace ho_z7 := ho_z7.below hs11
  replace hB := bnext hB hs11 (Nat.le_refl _)
  clear hb11 hs11
  clear ho_z4 ho_z7
  go_wp2_with fail
  refine (toInt64SS_d _ (dII parts) _ _ (h_parts.below hB) (fit_dII parts) hv_parts).mono ?_
  rintro e w12 ⟨v12, F_z8, rfl, hb12, ho_z8, hnn12, hll12⟩
  have hs12 : Below w11.heap.size w11 w12 := hb12
  have hz12 : w11.heap.size ≤ w12.heap.size := hb12.size
  replace ho_z5 := ho_z5.below hs12
  replace ho_z6 := ho_z6.below hs12
  replace hB := bnext hB hs12 (Nat.le_refl _)
  clear hb12 hs12
  have hl_z8 : ∀ g, g ∈ F_z8 → w11.heap.size ≤ g := fun g hg => by have := hll12 g hg; (try simp at this); omega
  obtain ⟨a_z8, n_z8, c_z8, rfl⟩ := (fit_dII parts).sliceO ho_z8
  have hi_z8 : ∀ g, g ∈ F_z8 → g < w12.heap.size := Ow.lt _ _ _ ho_z8
  have hd_z8 := hnn12
  clear hnn12 hll12
  go_wp2_with fail
  refine (eqInt64SS_d (dII parts) _ _ _ ho_z5.rdA ho_z8.rdA (fit_dII parts)).mono ?_
  rintro e w13 ⟨rfl, hb13⟩
  have hs13 : Below w12.heap.size w12 w13 := hb13
  have hz13 : w12.heap.size ≤ w13.heap.size := hb13.size
  replace ho_z5 := ho_z5.below hs13
  replace ho_z6 := ho_z6.below hs13
  replace ho_z8 := ho_z8.below hs13
  replace hB := bnext hB hs13 (Nat.le_refl _)
  clear hb13 hs13
  clear ho_z5 ho_z8
  go_wp2_with fail
  refine (toInt64S_d _ (dI counts) _ _ (h_counts.below hB) (fit_dI counts) hv_counts).mono ?_
  rintro e w14 ⟨v14, F_z9, rfl, hb14, ho_z9, hnn14, hll14⟩
  have hs14 : Below w13.heap.size w13 w14 := hb14
  have hz14 : w13.heap.size ≤ w14.heap.size := hb14.size
  replace ho_z6 := ho_z6.below hs14
  replace hB := bnext hB hs14 (Nat.le_refl _)
  clear hb14 hs14
  have hl_z9 : ∀ g, g ∈ F_z9 → w13.heap.size ≤ g := fun g hg => by have := hll14 g hg; (try simp at this); omega
  obtain ⟨a_z9, n_z9, c_z9, rfl⟩ := (fit_dI counts).sliceO ho_z9
  have hi_z9 : ∀ g, g ∈ F_z9 → g < w14.heap.size := Ow.lt _ _ _ ho_z9
  have hd_z9 := hnn14
  clear hnn14 hll14
  go_wp2_with fail
  refine (eqInt64S_d (dI counts) _ _ _ ho_z6.rdA ho_z9.rdA (fit_dI counts)).mono ?_
  rintro e w15 ⟨rfl, hb15⟩
  have hs15 : Below w14.heap.size w14 w15 := hb15
  have hz15 : w14.heap.size ≤ w15.heap.size := hb15.size
  replace ho_z6 := ho_z6.below hs15
  replace ho_z9 := ho_z9.below hs15
  replace hB := bnext hB hs15 (Nat.le_refl _)
  clear hb15 hs15
  clear ho_z6 ho_z9
  go_wp2
  go_ret
  exact ⟨rfl, hB⟩
set_option maxRecDepth 100000 in
theorem lifted (os : Os) (started : os.Started) (H : Type) (enc : TypeId × Value → H) :
    ReturnsInHanded {} Try.checked os 14 .any (Rows.fnExactIsPackingSpec.pre6 enc Try.prog Try.f14 Rows.fnExactIsPackingRow.domain false) (Rows.fnExactIsPackingSpec.post enc Try.prog Try.f14 false true false false) :=
  lift Try.func14 (by kernel_rfl) rfl rfl (by kernel_rfl : Try.prog.underlying 4 = some .bool) (by kernel_rfl) (fun ds h => by match ds, h with | [d0, d1, d2], _ => rfl) started
    (ChangeSpec.witness6 (enc := enc) (C := Try.checked) false ⟨#[], #[.slice none 0 0, .slice none 0 0, .slice none 0 0], []⟩ 8 (by kernel_rfl) (by kernel_rfl) (by kernel_rfl) (by kernel_rfl))
    (fun W base args ds p hval hA => by
      rw [Try.params14] at hA hval
      obtain ⟨v0, vs0, d0, ds0, p0, q0, hargs0, rfl, rfl, g0, r0⟩ := ChangeShapes.trodAll_cons hA
      obtain ⟨v1, vs1, d1, ds1, p1, q1, hargs1, rfl, rfl, g1, r1⟩ := ChangeShapes.trodAll_cons r0
      obtain ⟨v2, vs2, d2, ds2, p2, q2, hargs2, rfl, rfl, g2, r2⟩ := ChangeShapes.trodAll_cons r1
      obtain ⟨hnil, rfl, rfl⟩ := ChangeShapes.trodAll_nil r2
      obtain rfl : args = #[v0, v1, v2] := by cases args; simp_all
      obtain ⟨dx0, fx0, rx0⟩ := open_L Try.underlying22 (by kernel_rfl : shapeOf Try.prog 6 22 = some [.l [.i]]) (hval 0 _ _ rfl rfl) g0
      obtain ⟨x0, rfl⟩ := fitD_I fx0
      obtain ⟨dx1, fx1, rx1⟩ := open_L Try.underlying27 (by kernel_rfl : shapeOf Try.prog 6 27 = some [.l [.l [.i]]]) (hval 1 _ _ rfl rfl) g1
      obtain ⟨x1, rfl⟩ := fitD_II fx1
      obtain ⟨dx2, fx2, rx2⟩ := open_L Try.underlying22 (by kernel_rfl : shapeOf Try.prog 6 22 = some [.l [.i]]) (hval 2 _ _ rfl rfl) g2
      obtain ⟨x2, rfl⟩ := fitD_I fx2
      exact walk x0 v0 x1 v1 x2 v2 W rx0 rx1 rx2)
theorem proved : Rows.FnExactIsPackingSaid :=
  OpenClaim.holds_of_wide 14 Try.f14 rfl rfl rfl rfl rfl rfl rfl ⟨rfl, rfl, rfl, rfl, rfl⟩ rfl rfl rfl rfl rfl (by kernel_rfl) Try.func14 (by kernel_rfl)
    (of_decide_eq_true (by kernel_rfl)) (by unfold Func.isWrapper; first | (rw [if_pos (by decide +kernel)]; kernel_rfl) | (rw [if_neg (by decide +kernel)]; exact ⟨rfl, rfl⟩))
    (fun os started H enc _ => lifted os started H enc)
end Go.Proofs.Ythfkhallnbcopaa.lawIsPacking
