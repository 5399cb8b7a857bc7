/- FnExactDecodeState: whatever the input, the law returns true. No condition. Written by lawgen2.py. -/
import Derived.Test.YthlbogmnnenkoaaDS
import Derived.Test.YthlbogmnnenkoaaF
import Derived.Test.YthlbogmnnenkoaaWC
import Derived.Test.YthlbogmnnenkoaaYR
import Derived.Test.YthlbogmnnenkoaaYC
import Derived.Test.YthlbogmnnenkoaaLG
import Derived.Deep.RegionHeld3
namespace Go.Proofs.Ythlbogmnnenkoaa.lawDecodeState
open Go.ChangeShapes Go.WideShapes Go.ChangeAt Go.RowKit
set_option maxHeartbeats 3000000 in
set_option maxRecDepth 100000 in
theorem walk (p0 : Int) (p1 : List Ord) (v_p1 : Value) (mode : Int) (st0 : List Bool) (v_st0 : Value) (st1 : List (List Int)) (v_st1 : Value) (st2 : List Int) (v_st2 : Value) (w : World) (h_p1 : Rd (· < w.heap.size) w (dO p1) v_p1) (h_st0 : Rd (· < w.heap.size) w (dB st0) v_st0) (h_st1 : Rd (· < w.heap.size) w (dII st1) v_st1) (h_st2 : Rd (· < w.heap.size) w (dI st2) v_st2) :
    Calls Try.prog 5 #[.agg #[.int .i64 p0, v_p1], .int .i64 mode, .agg #[v_st0, v_st1, v_st2]] w (RetV w (.bool true)) := by
  obtain ⟨a_p1, n_p1, c_p1, rfl⟩ := (fit_dO p1).sliceR h_p1
  obtain ⟨a_st0, n_st0, c_st0, rfl⟩ := (fit_dB st0).sliceR h_st0
  obtain ⟨a_st1, n_st1, c_st1, rfl⟩ := (fit_dII st1).sliceR h_st1
  obtain ⟨a_st2, n_st2, c_st2, rfl⟩ := (fit_dI st2).sliceR h_st2
  have hcn := decS_cnt p0 p1 mode st0 st1 st2
  have hB := Below.refl w.heap.size w
  go_enter Try.func5, Try.ntmps5
  go_wp2_with fail
  refine (szProgram_d _ (p0) (dO p1) _ 1048576 _ (h_p1.below (hB.trans ((((Below.refl _ _).alloc (Nat.le_refl _) _).alloc (by simp) _)))) (fit_dO p1) (by omega) (by omega)).mono ?_
  rintro e w1 ⟨L1, rfl, hb1, yy1, uu1, p1⟩
  have hs1 : Below w.heap.size w w1 := ((((Below.refl _ _).alloc (Nat.le_refl _) _).alloc (by simp) _)).trans (hb1.mono (by simp <;> omega))
  have bx3_0 : w1.cell? ⟨w.heap.size, 0, none⟩ = some (.int .i64 p0) := by rw [bcell1 hb1 (by simp <;> omega)]; simp [go_sem]
  have bx3_1 : w1.cell? ⟨w.heap.size, 1, none⟩ = some (.slice a_p1 n_p1 c_p1) := by rw [bcell1 hb1 (by simp <;> omega)]; simp [go_sem]
  have bx5_0 : w1.cell? ⟨w.heap.size + 1, 0, none⟩ = some (.slice a_st0 n_st0 c_st0) := by rw [bcell1 hb1 (by simp <;> omega)]; simp [go_sem]
  have bx5_1 : w1.cell? ⟨w.heap.size + 1, 1, none⟩ = some (.slice a_st1 n_st1 c_st1) := by rw [bcell1 hb1 (by simp <;> omega)]; simp [go_sem]
  have bx5_2 : w1.cell? ⟨w.heap.size + 1, 2, none⟩ = some (.slice a_st2 n_st2 c_st2) := by rw [bcell1 hb1 (by simp <;> omega)]; simp [go_sem]
  have hz1 : w.heap.size + 2 ≤ w1.heap.size := by have := hb1.size; (try simp at this); omega
  replace hB := bnext hB hs1 (Nat.le_refl _)
  clear hb1 hs1
  by_cases n1 : L1 < 0
  · go_wp2
    go_ret
    exact ⟨rfl, hB⟩
  have q1 := p1 (by omega)
  have m1 : 0 ≤ L1 := by omega
  clear p1
  have hv_p1 : vol (dO p1) ≤ 16777216 := by omega
  go_wp2_with fail
  refine (szState_d _ (dB st0) _ (dII st1) _ (dI st2) _ L1 _ (h_st0.below hB) (h_st1.below hB) (h_st2.below hB) (fit_dB st0) (fit_dII st1) (fit_dI st2) (by omega) (by omega)).mono ?_
  rintro e w2 ⟨L2, rfl, hb2, yy2, uu2, p2⟩
  have hs2 : Below w1.heap.size w1 w2 := hb2
  replace bx3_0 := (bcell1 hs2 (by omega)).trans bx3_0
  replace bx3_1 := (bcell1 hs2 (by omega)).trans bx3_1
  replace bx5_0 := (bcell1 hs2 (by omega)).trans bx5_0
  replace bx5_1 := (bcell1 hs2 (by omega)).trans bx5_1
  replace bx5_2 := (bcell1 hs2 (by omega)).trans bx5_2
  have hz2 : w1.heap.size ≤ w2.heap.size := hb2.size
  replace hB := bnext hB hs2 (Nat.le_refl _)
  clear hb2 hs2
  by_cases n2 : L2 < 0
  · go_wp2
    go_ret
    exact ⟨rfl, hB⟩
  have q2 := p2 (by omega)
  have m2 : 0 ≤ L2 := by omega
  clear p2
  have hv_st0 : vol (dB st0) ≤ 16777216 := by omega
  have hv_st1 : vol (dII st1) ≤ 16777216 := by omega
  have hv_st2 : vol (dI st2) ≤ 16777216 := by omega
  go_wp2_with fail
  rename_i K8 hK8
  have HRUN0 : Hid (∀ args w, (callFunc 15 args).run Try.prog w = .ok (.enter 15 args) w) := Lib.hid (callFunc_run Try.func15 (by kernel_rfl) rfl)
  have HRUN1 : Hid (∀ args w, (callFunc 30 args).run Try.prog w = .ok (.enter 30 args) w) := Lib.hid (callFunc_run Try.func30 (by kernel_rfl) rfl)
  have HRUN2 : Hid (∀ args w, (callFunc 29 args).run Try.prog w = .ok (.enter 29 args) w) := Lib.hid (callFunc_run Try.func29 (by kernel_rfl) rfl)
  suffices key : ∀ {t0 t2 t4 t6 t7 t10 t11 t12 t13 t14 t15 t16 t17 t18 t19 t20 t21 t22 t23 t24 t25 t26 t27 t28 t29 t30 t31 t32 t33 t34 t35 t36 t37 t38 t39 t40 t41 t42 t43 t44 t45 t46 t47 t48 t49 t50 t51 t52 t53 t54 t55 t56 t57 t58 t59 t60 t61 t62 t63 t64 t65 t66 t67 t68 t69 t70 t71 t72 t73 t74 t75 t76 t77 t78 t79 t80 t81 t82 t83 t84 t85 t86 t87 t88 t89 t90 t91 t92 t93 t94 t95 t96 t97 t98 t99 t100 t101 t102 t103 t104 t105 t106 t107 t108 t109 t110 t111 t112 t113 t114 t115 t116 t117 t118 t119 t120 t121 t122 t123 : Value} {b8 : Nat} {wE8 : World} {a_z5 : Option Addr} {n_z5 c_z5 : Nat} {F_z5 : List Nat}, w2.heap.size ≤ b8 → b8 < wE8.heap.size → Below w2.heap.size w2 wE8 → wE8.cell? ⟨b8, 0, none⟩ = some (.int .i64 ((decS p0 p1 mode st0 st1 st2).1.1)) → wE8.cell? ⟨b8, 1, none⟩ = some (.slice a_z5 n_z5 c_z5) → Ow wE8 (dI (decS p0 p1 mode st0 st1 st2).1.2) (.slice a_z5 n_z5 c_z5) F_z5 → (F_z5).Nodup → (∀ g, g ∈ F_z5 → w2.heap.size ≤ g) → K8 ⟨#[t0, .int .i64 mode, t2, .pointer (some ⟨w.heap.size, 0, none⟩), t4, .pointer (some ⟨w.heap.size + 1, 0, none⟩), t6, t7, .pointer (some ⟨b8, 0, none⟩), .int .i64 ((decS p0 p1 mode st0 st1 st2).2), t10, t11, t12, t13, t14, t15, t16, t17, t18, t19, t20, t21, t22, t23, t24, t25, t26, t27, t28, t29, t30, t31, t32, t33, t34, t35, t36, t37, t38, t39, t40, t41, t42, t43, t44, t45, t46, t47, t48, t49, t50, t51, t52, t53, t54, t55, t56, t57, t58, t59, t60, t61, t62, t63, t64, t65, t66, t67, t68, t69, t70, t71, t72, t73, t74, t75, t76, t77, t78, t79, t80, t81, t82, t83, t84, t85, t86, t87, t88, t89, t90, t91, t92, t93, t94, t95, t96, t97, t98, t99, t100, t101, t102, t103, t104, t105, t106, t107, t108, t109, t110, t111, t112, t113, t114, t115, t116, t117, t118, t119, t120, t121, t122, t123], []⟩ wE8 by
    have hcD : Below w2.heap.size w2 w2.drew := (Below.refl _ _).drew
    have hS0 : w2.drew.cell? ⟨w.heap.size, 0, none⟩ = some (.int .i64 p0) ∧ w2.drew.cell? ⟨w.heap.size, 1, none⟩ = some (.slice a_p1 n_p1 c_p1) ∧ w2.drew.cell? ⟨w.heap.size + 1, 0, none⟩ = some (.slice a_st0 n_st0 c_st0) ∧ w2.drew.cell? ⟨w.heap.size + 1, 1, none⟩ = some (.slice a_st1 n_st1 c_st1) ∧ w2.drew.cell? ⟨w.heap.size + 1, 2, none⟩ = some (.slice a_st2 n_st2 c_st2) := ⟨bx3_0, bx3_1, bx5_0, bx5_1, bx5_2⟩
    refine wp_region_C (n := 12) (l := #[false, false, false, false, false, false, false, false, false, false, false, false]) (fun wx => wx.cell? ⟨w.heap.size, 0, none⟩ = some (.int .i64 p0) ∧ wx.cell? ⟨w.heap.size, 1, none⟩ = some (.slice a_p1 n_p1 c_p1) ∧ wx.cell? ⟨w.heap.size + 1, 0, none⟩ = some (.slice a_st0 n_st0 c_st0) ∧ wx.cell? ⟨w.heap.size + 1, 1, none⟩ = some (.slice a_st1 n_st1 c_st1) ∧ wx.cell? ⟨w.heap.size + 1, 2, none⟩ = some (.slice a_st2 n_st2 c_st2)) [] (by kernel_rfl) rfl rfl ?_
    refine wpC_take (i := 0) (v := ?v0_1) (l' := #[true, false, false, false, false, false, false, false, false, false, false, false]) [1, 4, 5, 6, 7, 8, 10, 11] rfl (by kernel_rfl) (by kernel_rfl) (by kernel_rfl) (by kernel_rfl) (by kernel_rfl) rfl (fun _ _ _ h => h) (by rfl) (fun wx hS => ?q0_1) (by assumption) ?_
    case q0_1 => ((try dsimp only at hS); obtain ⟨hS0, hS1, hS2, hS3, hS4⟩ := hS; go_simp; try with_reducible rfl)
    try simp only [List.getElem_toArray, List.getElem_cons_zero, Act.put, List.setIfInBounds_toArray, List.set_cons_zero, List.set_cons_succ]
    refine wpC_take (i := 2) (v := ?v2_2) (l' := #[true, false, true, false, false, false, false, false, false, false, false, false]) [5, 6, 7, 8, 10, 11] rfl (by kernel_rfl) (by kernel_rfl) (by kernel_rfl) (by kernel_rfl) (by kernel_rfl) rfl (fun _ _ _ h => h) (by rfl) (fun wx hS => ?q2_2) (by assumption) ?_
    case q2_2 => (go_simp; try with_reducible rfl)
    try simp only [List.getElem_toArray, List.getElem_cons_succ, List.getElem_cons_zero, Act.put, List.setIfInBounds_toArray, List.set_cons_zero, List.set_cons_succ]
    refine wpC_take (i := 3) (v := ?v3_3) (l' := #[true, false, true, true, false, false, false, false, false, false, false, false]) [4, 5, 6, 7, 8, 10, 11] rfl (by kernel_rfl) (by kernel_rfl) (by kernel_rfl) (by kernel_rfl) (by kernel_rfl) rfl (fun _ _ _ h => h) (by rfl) (fun wx hS => ?q3_3) (by assumption) ?_
    case q3_3 => ((try dsimp only at hS); obtain ⟨hS0, hS1, hS2, hS3, hS4⟩ := hS; go_simp; try with_reducible rfl)
    try simp only [List.getElem_toArray, List.getElem_cons_succ, List.getElem_cons_zero, Act.put, List.setIfInBounds_toArray, List.set_cons_zero, List.set_cons_succ]
    refine wpC_two (i := 1) (j := 9) (l' := #[true, true, true, true, false, false, false, false, false, false, false, false]) (l'' := #[true, false, true, true, false, false, false, false, false, true, false, false]) (by kernel_rfl) rfl rfl rfl rfl (by rfl) (by rfl) (fun Kr hKr => ?_) (fun Kr hKr => ?_)
    · refine step_callV rfl 15 #[.tmp 30] _ rfl HRUN0.out #[.agg #[.int .i64 p0, .slice a_p1 n_p1 c_p1]] (by first | rfl | (simp [Act.eval]; done) | (simp [Act.eval]; rfl) | (simp [Act.eval]; repeat' constructor)) (toProgram_d _ (p0) (dO p1) _ _ (h_p1.below (bnext hB hcD (Nat.le_refl _))) (fit_dO p1) hv_p1) ?_
      rintro e w3 ⟨vs3, F3, rfl, hb3, hoo3, hnn3, hll3⟩
      have hvl3 := owA_len _ _ _ hoo3
      obtain ⟨e_3_0, e_3_1, rfl⟩ : ∃ e_3_0 e_3_1, vs3 = [e_3_0, e_3_1] := (by match vs3, hvl3 with | [e_3_0, e_3_1], _ => exact ⟨e_3_0, e_3_1, rfl⟩)
      clear hvl3
      obtain ⟨G3_0, _, ⟨ev3_0, eg3_0⟩, hr3_0, rfl⟩ := hoo3
      subst ev3_0
      subst eg3_0
      obtain ⟨F_z1, _, ho_z1, hr3_1, rfl⟩ := hr3_0
      have hend3 : _ = [] := hr3_1
      subst hend3
      obtain ⟨a_z1, n_z1, c_z1, rfl⟩ := (fit_dO p1).sliceO ho_z1
      refine ⟨_, rfl, ?_⟩
      have hc3 : Below w2.heap.size w2 w3 := hcD.trans (hb3.mono hcD.size)
      have hq3 := hc3.size
      have hy3 := hb3.size
      refine hKr _ _ (fun _ => ⟨(bcell1 hc3 (by omega)).trans bx3_0, (bcell1 hc3 (by omega)).trans bx3_1, (bcell1 hc3 (by omega)).trans bx5_0, (bcell1 hc3 (by omega)).trans bx5_1, (bcell1 hc3 (by omega)).trans bx5_2⟩) ?_
      clear hKr Kr
      try simp only [List.getElem_toArray, List.getElem_cons_succ, List.getElem_cons_zero, Act.put, List.setIfInBounds_toArray, List.set_cons_zero, List.set_cons_succ]
      have hS3 : w3.cell? ⟨w.heap.size, 0, none⟩ = some (.int .i64 p0) ∧ w3.cell? ⟨w.heap.size, 1, none⟩ = some (.slice a_p1 n_p1 c_p1) ∧ w3.cell? ⟨w.heap.size + 1, 0, none⟩ = some (.slice a_st0 n_st0 c_st0) ∧ w3.cell? ⟨w.heap.size + 1, 1, none⟩ = some (.slice a_st1 n_st1 c_st1) ∧ w3.cell? ⟨w.heap.size + 1, 2, none⟩ = some (.slice a_st2 n_st2 c_st2) := ⟨(bcell1 hc3 (by omega)).trans bx3_0, (bcell1 hc3 (by omega)).trans bx3_1, (bcell1 hc3 (by omega)).trans bx5_0, (bcell1 hc3 (by omega)).trans bx5_1, (bcell1 hc3 (by omega)).trans bx5_2⟩
      refine wpC_two (i := 4) (j := 9) (l' := #[true, true, true, true, true, false, false, false, false, false, false, false]) (l'' := #[true, true, true, true, false, false, false, false, false, true, false, false]) (by kernel_rfl) rfl rfl rfl rfl (by rfl) (by rfl) (fun Kr hKr => ?_) (fun Kr hKr => ?_)
      · refine step_callV rfl 30 #[.tmp 33] _ rfl HRUN1.out #[.agg #[.slice a_st0 n_st0 c_st0, .slice a_st1 n_st1 c_st1, .slice a_st2 n_st2 c_st2]] (by first | rfl | (simp [Act.eval]; done) | (simp [Act.eval]; rfl) | (simp [Act.eval]; repeat' constructor)) (toState_d _ (dB st0) _ (dII st1) _ (dI st2) _ _ (h_st0.below (bnext hB hc3 (Nat.le_refl _))) (h_st1.below (bnext hB hc3 (Nat.le_refl _))) (h_st2.below (bnext hB hc3 (Nat.le_refl _))) (fit_dB st0) (fit_dII st1) (fit_dI st2) hv_st0 hv_st1 hv_st2) ?_
        rintro e w4 ⟨vs4, F4, rfl, hb4, hoo4, hnn4, hll4⟩
        have hvl4 := owA_len _ _ _ hoo4
        obtain ⟨e_4_0, e_4_1, e_4_2, rfl⟩ : ∃ e_4_0 e_4_1 e_4_2, vs4 = [e_4_0, e_4_1, e_4_2] := (by match vs4, hvl4 with | [e_4_0, e_4_1, e_4_2], _ => exact ⟨e_4_0, e_4_1, e_4_2, rfl⟩)
        clear hvl4
        obtain ⟨F_z2, _, ho_z2, hr4_0, rfl⟩ := hoo4
        obtain ⟨F_z3, _, ho_z3, hr4_1, rfl⟩ := hr4_0
        obtain ⟨F_z4, _, ho_z4, hr4_2, rfl⟩ := hr4_1
        have hend4 : _ = [] := hr4_2
        subst hend4
        obtain ⟨a_z2, n_z2, c_z2, rfl⟩ := (fit_dB st0).sliceO ho_z2
        obtain ⟨a_z3, n_z3, c_z3, rfl⟩ := (fit_dII st1).sliceO ho_z3
        obtain ⟨a_z4, n_z4, c_z4, rfl⟩ := (fit_dI st2).sliceO ho_z4
        refine ⟨_, rfl, ?_⟩
        have hc4 : Below w2.heap.size w2 w4 := hc3.trans (hb4.mono hc3.size)
        have hq4 := hc4.size
        have hy4 := hb4.size
        replace ho_z1 := ho_z1.below hb4
        refine hKr _ _ (fun _ => ⟨(bcell1 hc4 (by omega)).trans bx3_0, (bcell1 hc4 (by omega)).trans bx3_1, (bcell1 hc4 (by omega)).trans bx5_0, (bcell1 hc4 (by omega)).trans bx5_1, (bcell1 hc4 (by omega)).trans bx5_2⟩) ?_
        clear hKr Kr
        try simp only [List.getElem_toArray, List.getElem_cons_succ, List.getElem_cons_zero, Act.put, List.setIfInBounds_toArray, List.set_cons_zero, List.set_cons_succ]
        have hS4 : w4.cell? ⟨w.heap.size, 0, none⟩ = some (.int .i64 p0) ∧ w4.cell? ⟨w.heap.size, 1, none⟩ = some (.slice a_p1 n_p1 c_p1) ∧ w4.cell? ⟨w.heap.size + 1, 0, none⟩ = some (.slice a_st0 n_st0 c_st0) ∧ w4.cell? ⟨w.heap.size + 1, 1, none⟩ = some (.slice a_st1 n_st1 c_st1) ∧ w4.cell? ⟨w.heap.size + 1, 2, none⟩ = some (.slice a_st2 n_st2 c_st2) := ⟨(bcell1 hc4 (by omega)).trans bx3_0, (bcell1 hc4 (by omega)).trans bx3_1, (bcell1 hc4 (by omega)).trans bx5_0, (bcell1 hc4 (by omega)).trans bx5_1, (bcell1 hc4 (by omega)).trans bx5_2⟩
        refine wpC_two (i := 5) (j := 9) (l' := #[true, true, true, true, true, true, false, false, false, false, false, false]) (l'' := #[true, true, true, true, true, false, false, false, false, true, false, false]) (by kernel_rfl) rfl rfl rfl rfl (by rfl) (by rfl) (fun Kr hKr => ?_) (fun Kr hKr => ?_)
        · refine step_callV rfl 29 #[.tmp 31, .tmp 32, .tmp 34] _ rfl HRUN2.out #[.agg #[.int .i64 p0, .slice a_z1 n_z1 c_z1], .int .i64 mode, .agg #[.slice a_z2 n_z2 c_z2, .slice a_z3 n_z3 c_z3, .slice a_z4 n_z4 c_z4]] (by first | rfl | (simp [Act.eval]; done) | (simp [Act.eval]; rfl) | (simp [Act.eval]; repeat' constructor)) (specDecodeState_d p0 p1 mode st0 st1 st2 _ ho_z1 ho_z2 ho_z3 ho_z4 ) ?_
          rintro e w5 ⟨vs5, F5, rfl, hb5, hoo5, hnn5, hll5⟩
          have hvl5 := owA_len _ _ _ hoo5
          obtain ⟨e_5_0, e_5_1, rfl⟩ : ∃ e_5_0 e_5_1, vs5 = [e_5_0, e_5_1] := (by match vs5, hvl5 with | [e_5_0, e_5_1], _ => exact ⟨e_5_0, e_5_1, rfl⟩)
          clear hvl5
          obtain ⟨G5_0, _, ⟨ev5_0, eg5_0⟩, hr5_0, rfl⟩ := hoo5
          subst ev5_0
          subst eg5_0
          obtain ⟨F_z5, _, ho_z5, hr5_1, rfl⟩ := hr5_0
          have hend5 : _ = [] := hr5_1
          subst hend5
          obtain ⟨a_z5, n_z5, c_z5, rfl⟩ := (fit_dI ((decS p0 p1 mode st0 st1 st2).1.2)).sliceO ho_z5
          refine ⟨_, rfl, ?_⟩
          have hc5 : Below w2.heap.size w2 w5 := hc4.trans (hb5.mono hc4.size)
          have hq5 := hc5.size
          have hy5 := hb5.size
          replace ho_z1 := ho_z1.below hb5
          replace ho_z2 := ho_z2.below hb5
          replace ho_z3 := ho_z3.below hb5
          replace ho_z4 := ho_z4.below hb5
          refine hKr _ _ (fun _ => ⟨(bcell1 hc5 (by omega)).trans bx3_0, (bcell1 hc5 (by omega)).trans bx3_1, (bcell1 hc5 (by omega)).trans bx5_0, (bcell1 hc5 (by omega)).trans bx5_1, (bcell1 hc5 (by omega)).trans bx5_2⟩) ?_
          clear hKr Kr
          try simp only [List.getElem_toArray, List.getElem_cons_succ, List.getElem_cons_zero, Act.put, List.setIfInBounds_toArray, List.set_cons_zero, List.set_cons_succ]
          have hS5 : w5.cell? ⟨w.heap.size, 0, none⟩ = some (.int .i64 p0) ∧ w5.cell? ⟨w.heap.size, 1, none⟩ = some (.slice a_p1 n_p1 c_p1) ∧ w5.cell? ⟨w.heap.size + 1, 0, none⟩ = some (.slice a_st0 n_st0 c_st0) ∧ w5.cell? ⟨w.heap.size + 1, 1, none⟩ = some (.slice a_st1 n_st1 c_st1) ∧ w5.cell? ⟨w.heap.size + 1, 2, none⟩ = some (.slice a_st2 n_st2 c_st2) := ⟨(bcell1 hc5 (by omega)).trans bx3_0, (bcell1 hc5 (by omega)).trans bx3_1, (bcell1 hc5 (by omega)).trans bx5_0, (bcell1 hc5 (by omega)).trans bx5_1, (bcell1 hc5 (by omega)).trans bx5_2⟩
          refine wpC_take (i := 6) (v := ?v6_4) (l' := #[true, true, true, true, true, true, true, false, false, false, false, false]) [7, 8, 10, 11] rfl (by kernel_rfl) (by kernel_rfl) (by kernel_rfl) (by kernel_rfl) (by kernel_rfl) rfl (fun _ _ _ h => h) (by rfl) (fun wx hS => ?q6_4) (by assumption) ?_
          case q6_4 => (go_simp; try with_reducible rfl)
          try simp only [List.getElem_toArray, List.getElem_cons_succ, List.getElem_cons_zero, Act.put, List.setIfInBounds_toArray, List.set_cons_zero, List.set_cons_succ]
          refine wpC_take (i := 7) (v := ?v7_5) (l' := #[true, true, true, true, true, true, true, true, false, false, false, false]) [10, 11] rfl (by kernel_rfl) (by kernel_rfl) (by kernel_rfl) (by kernel_rfl) (by kernel_rfl) rfl (fun _ _ _ h => h) (by rfl) (fun wx hS => ?q7_5) (by assumption) ?_
          case q7_5 => (go_simp; try with_reducible rfl)
          try simp only [List.getElem_toArray, List.getElem_cons_succ, List.getElem_cons_zero, Act.put, List.setIfInBounds_toArray, List.set_cons_zero, List.set_cons_succ]
          refine wpC_take (i := 8) (v := ?v8_6) (l' := #[true, true, true, true, true, true, true, true, true, false, false, false]) [11] rfl (by kernel_rfl) (by kernel_rfl) (by kernel_rfl) (by kernel_rfl) (by kernel_rfl) rfl (fun _ _ _ h => h) (by rfl) (fun wx hS => ?q8_6) (by assumption) ?_
          case q8_6 => (go_simp; try with_reducible rfl)
          try simp only [List.getElem_toArray, List.getElem_cons_succ, List.getElem_cons_zero, Act.put, List.setIfInBounds_toArray, List.set_cons_zero, List.set_cons_succ]
          refine wpC_one (i := 9) (l' := #[true, true, true, true, true, true, true, true, true, true, false, false]) (by kernel_rfl) rfl rfl (by rfl) (fun Kr hKr => ?_)
          go_simp
          refine hKr _ _ (fun _ => ⟨(bcell1 (hc5.trans ((below_alloc _ _).mono hc5.size)) (by omega)).trans bx3_0, (bcell1 (hc5.trans ((below_alloc _ _).mono hc5.size)) (by omega)).trans bx3_1, (bcell1 (hc5.trans ((below_alloc _ _).mono hc5.size)) (by omega)).trans bx5_0, (bcell1 (hc5.trans ((below_alloc _ _).mono hc5.size)) (by omega)).trans bx5_1, (bcell1 (hc5.trans ((below_alloc _ _).mono hc5.size)) (by omega)).trans bx5_2⟩) ?_
          clear hKr Kr
          try simp only [List.getElem_toArray, List.getElem_cons_succ, List.getElem_cons_zero, Act.put, List.setIfInBounds_toArray, List.set_cons_zero, List.set_cons_succ]
          obtain ⟨wA, hwA⟩ : ∃ wz, wz = w5.alloc (.cells #[.int .i64 0, .slice none 0 0] 61) := ⟨_, rfl⟩
          rw [← hwA]
          have hcA : Below w2.heap.size w2 wA := by rw [hwA]; exact (hc5.trans ((below_alloc _ _).mono hc5.size))
          have zc0 : wA.cell? ⟨w5.heap.size, 0, none⟩ = some (.int .i64 0) := by rw [hwA]; simp [go_sem]
          have zy0 : wA.frozen? ⟨w5.heap.size, 0, none⟩ = false := by rw [hwA]; simp [go_sem]
          have zc1 : wA.cell? ⟨w5.heap.size, 1, none⟩ = some (.slice none 0 0) := by rw [hwA]; simp [go_sem]
          have zy1 : wA.frozen? ⟨w5.heap.size, 1, none⟩ = false := by rw [hwA]; simp [go_sem]
          have ltA : w5.heap.size < wA.heap.size := by rw [hwA]; simp
          have hqA := hcA.size
          have hi9_z1 : ∀ g, g ∈ F_z1 → g < w5.heap.size := Ow.lt _ _ _ ho_z1
          replace ho_z1 := ho_z1.below (w' := wA) (by rw [hwA]; exact below_alloc _ _)
          have hi9_z2 : ∀ g, g ∈ F_z2 → g < w5.heap.size := Ow.lt _ _ _ ho_z2
          replace ho_z2 := ho_z2.below (w' := wA) (by rw [hwA]; exact below_alloc _ _)
          have hi9_z3 : ∀ g, g ∈ F_z3 → g < w5.heap.size := Ow.lt _ _ _ ho_z3
          replace ho_z3 := ho_z3.below (w' := wA) (by rw [hwA]; exact below_alloc _ _)
          have hi9_z4 : ∀ g, g ∈ F_z4 → g < w5.heap.size := Ow.lt _ _ _ ho_z4
          replace ho_z4 := ho_z4.below (w' := wA) (by rw [hwA]; exact below_alloc _ _)
          have hi9_z5 : ∀ g, g ∈ F_z5 → g < w5.heap.size := Ow.lt _ _ _ ho_z5
          replace ho_z5 := ho_z5.below (w' := wA) (by rw [hwA]; exact below_alloc _ _)
          clear hwA
          have hSA : wA.cell? ⟨w.heap.size, 0, none⟩ = some (.int .i64 p0) ∧ wA.cell? ⟨w.heap.size, 1, none⟩ = some (.slice a_p1 n_p1 c_p1) ∧ wA.cell? ⟨w.heap.size + 1, 0, none⟩ = some (.slice a_st0 n_st0 c_st0) ∧ wA.cell? ⟨w.heap.size + 1, 1, none⟩ = some (.slice a_st1 n_st1 c_st1) ∧ wA.cell? ⟨w.heap.size + 1, 2, none⟩ = some (.slice a_st2 n_st2 c_st2) := ⟨(bcell1 hcA (by omega)).trans bx3_0, (bcell1 hcA (by omega)).trans bx3_1, (bcell1 hcA (by omega)).trans bx5_0, (bcell1 hcA (by omega)).trans bx5_1, (bcell1 hcA (by omega)).trans bx5_2⟩
          refine wpC_one (i := 10) (l' := #[true, true, true, true, true, true, true, true, true, true, true, false]) (by kernel_rfl) rfl rfl (by rfl) (fun Kr hKr => ?_)
          have hBB : w2.heap.size ≤ w5.heap.size := by omega
          go_simp
          have hE := box2 (.int .i64 ((decS p0 p1 mode st0 st1 st2).1.1)) (.slice a_z5 n_z5 c_z5) hcA hBB ltA zc0 zc1
          refine hKr _ _ (fun _ => ⟨(bcell1 hE.1 (by omega)).trans bx3_0, (bcell1 hE.1 (by omega)).trans bx3_1, (bcell1 hE.1 (by omega)).trans bx5_0, (bcell1 hE.1 (by omega)).trans bx5_1, (bcell1 hE.1 (by omega)).trans bx5_2⟩) ?_
          clear hKr Kr
          try simp only [List.getElem_toArray, List.getElem_cons_succ, List.getElem_cons_zero, Act.put, List.setIfInBounds_toArray, List.set_cons_zero, List.set_cons_succ]
          have hSE := And.intro ((bcell1 hE.1 (by omega)).trans bx3_0) (And.intro ((bcell1 hE.1 (by omega)).trans bx3_1) (And.intro ((bcell1 hE.1 (by omega)).trans bx5_0) (And.intro ((bcell1 hE.1 (by omega)).trans bx5_1) ((bcell1 hE.1 (by omega)).trans bx5_2))))
          refine wpC_take (i := 11) (v := ?v11_7) (l' := #[true, true, true, true, true, true, true, true, true, true, true, true]) [] rfl (by kernel_rfl) (by kernel_rfl) (by kernel_rfl) (by kernel_rfl) (by kernel_rfl) rfl (fun _ _ _ h => h) (by rfl) (fun wx hS => ?q11_7) (by assumption) ?_
          case q11_7 => (go_simp; try with_reducible rfl)
          try simp only [List.getElem_toArray, List.getElem_cons_succ, List.getElem_cons_zero, Act.put, List.setIfInBounds_toArray, List.set_cons_zero, List.set_cons_succ]
          refine wpC_done (by kernel_rfl) ?_ _
          obtain ⟨hE1, hE2, hE3, hE4, hE5⟩ := hE
          have hx_z5 : w5.heap.size ∉ F_z5 := fun hg => by have q1 := hll5 (w5.heap.size) (by first | exact hg | simp [hg]); (try have q2 := hi9_z5 _ hg); omega
          exact key hBB hE2 hE1 hE4 hE5 (hE3 _ _ _ ho_z5 hx_z5) (by simpa using hnn5) (fun g hg => by have q1 := hll5 g (by first | exact hg | simp [hg]); omega)
        · go_simp
          refine hKr _ _ (fun _ => ⟨(bcell1 (hc4.trans ((below_alloc _ _).mono hc4.size)) (by omega)).trans bx3_0, (bcell1 (hc4.trans ((below_alloc _ _).mono hc4.size)) (by omega)).trans bx3_1, (bcell1 (hc4.trans ((below_alloc _ _).mono hc4.size)) (by omega)).trans bx5_0, (bcell1 (hc4.trans ((below_alloc _ _).mono hc4.size)) (by omega)).trans bx5_1, (bcell1 (hc4.trans ((below_alloc _ _).mono hc4.size)) (by omega)).trans bx5_2⟩) ?_
          clear hKr Kr
          try simp only [List.getElem_toArray, List.getElem_cons_succ, List.getElem_cons_zero, Act.put, List.setIfInBounds_toArray, List.set_cons_zero, List.set_cons_succ]
          obtain ⟨wA, hwA⟩ : ∃ wz, wz = w4.alloc (.cells #[.int .i64 0, .slice none 0 0] 61) := ⟨_, rfl⟩
          rw [← hwA]
          have hcA : Below w2.heap.size w2 wA := by rw [hwA]; exact (hc4.trans ((below_alloc _ _).mono hc4.size))
          have zc0 : wA.cell? ⟨w4.heap.size, 0, none⟩ = some (.int .i64 0) := by rw [hwA]; simp [go_sem]
          have zy0 : wA.frozen? ⟨w4.heap.size, 0, none⟩ = false := by rw [hwA]; simp [go_sem]
          have zc1 : wA.cell? ⟨w4.heap.size, 1, none⟩ = some (.slice none 0 0) := by rw [hwA]; simp [go_sem]
          have zy1 : wA.frozen? ⟨w4.heap.size, 1, none⟩ = false := by rw [hwA]; simp [go_sem]
          have ltA : w4.heap.size < wA.heap.size := by rw [hwA]; simp
          have hqA := hcA.size
          have hi9_z1 : ∀ g, g ∈ F_z1 → g < w4.heap.size := Ow.lt _ _ _ ho_z1
          replace ho_z1 := ho_z1.below (w' := wA) (by rw [hwA]; exact below_alloc _ _)
          have hi9_z2 : ∀ g, g ∈ F_z2 → g < w4.heap.size := Ow.lt _ _ _ ho_z2
          replace ho_z2 := ho_z2.below (w' := wA) (by rw [hwA]; exact below_alloc _ _)
          have hi9_z3 : ∀ g, g ∈ F_z3 → g < w4.heap.size := Ow.lt _ _ _ ho_z3
          replace ho_z3 := ho_z3.below (w' := wA) (by rw [hwA]; exact below_alloc _ _)
          have hi9_z4 : ∀ g, g ∈ F_z4 → g < w4.heap.size := Ow.lt _ _ _ ho_z4
          replace ho_z4 := ho_z4.below (w' := wA) (by rw [hwA]; exact below_alloc _ _)
          clear hwA
          have hSA : wA.cell? ⟨w.heap.size, 0, none⟩ = some (.int .i64 p0) ∧ wA.cell? ⟨w.heap.size, 1, none⟩ = some (.slice a_p1 n_p1 c_p1) ∧ wA.cell? ⟨w.heap.size + 1, 0, none⟩ = some (.slice a_st0 n_st0 c_st0) ∧ wA.cell? ⟨w.heap.size + 1, 1, none⟩ = some (.slice a_st1 n_st1 c_st1) ∧ wA.cell? ⟨w.heap.size + 1, 2, none⟩ = some (.slice a_st2 n_st2 c_st2) := ⟨(bcell1 hcA (by omega)).trans bx3_0, (bcell1 hcA (by omega)).trans bx3_1, (bcell1 hcA (by omega)).trans bx5_0, (bcell1 hcA (by omega)).trans bx5_1, (bcell1 hcA (by omega)).trans bx5_2⟩
          refine wpC_one (i := 5) (l' := #[true, true, true, true, true, true, false, false, false, true, false, false]) (by kernel_rfl) rfl rfl (by rfl) (fun Kr hKr => ?_)
          refine step_callV rfl 29 #[.tmp 31, .tmp 32, .tmp 34] _ rfl HRUN2.out #[.agg #[.int .i64 p0, .slice a_z1 n_z1 c_z1], .int .i64 mode, .agg #[.slice a_z2 n_z2 c_z2, .slice a_z3 n_z3 c_z3, .slice a_z4 n_z4 c_z4]] (by first | rfl | (simp [Act.eval]; done) | (simp [Act.eval]; rfl) | (simp [Act.eval]; repeat' constructor)) (specDecodeState_d p0 p1 mode st0 st1 st2 _ ho_z1 ho_z2 ho_z3 ho_z4 ) ?_
          rintro e w5 ⟨vs5, F5, rfl, hb5, hoo5, hnn5, hll5⟩
          have hvl5 := owA_len _ _ _ hoo5
          obtain ⟨e_5_0, e_5_1, rfl⟩ : ∃ e_5_0 e_5_1, vs5 = [e_5_0, e_5_1] := (by match vs5, hvl5 with | [e_5_0, e_5_1], _ => exact ⟨e_5_0, e_5_1, rfl⟩)
          clear hvl5
          obtain ⟨G5_0, _, ⟨ev5_0, eg5_0⟩, hr5_0, rfl⟩ := hoo5
          subst ev5_0
          subst eg5_0
          obtain ⟨F_z5, _, ho_z5, hr5_1, rfl⟩ := hr5_0
          have hend5 : _ = [] := hr5_1
          subst hend5
          obtain ⟨a_z5, n_z5, c_z5, rfl⟩ := (fit_dI ((decS p0 p1 mode st0 st1 st2).1.2)).sliceO ho_z5
          refine ⟨_, rfl, ?_⟩
          have hc5 : Below w2.heap.size w2 w5 := hcA.trans (hb5.mono hcA.size)
          have hq5 := hc5.size
          have hy5 := hb5.size
          replace ho_z1 := ho_z1.below hb5
          replace ho_z2 := ho_z2.below hb5
          replace ho_z3 := ho_z3.below hb5
          replace ho_z4 := ho_z4.below hb5
          replace zc0 := (bcell1 hb5 ltA).trans zc0
          replace zy0 := (hb5.frozen (p := ⟨w4.heap.size, 0, none⟩) ltA).trans zy0
          replace zc1 := (bcell1 hb5 ltA).trans zc1
          replace zy1 := (hb5.frozen (p := ⟨w4.heap.size, 1, none⟩) ltA).trans zy1
          have lt5 : w4.heap.size < w5.heap.size := Nat.lt_of_lt_of_le ltA hb5.size
          refine hKr _ _ (fun _ => ⟨(bcell1 hc5 (by omega)).trans bx3_0, (bcell1 hc5 (by omega)).trans bx3_1, (bcell1 hc5 (by omega)).trans bx5_0, (bcell1 hc5 (by omega)).trans bx5_1, (bcell1 hc5 (by omega)).trans bx5_2⟩) ?_
          clear hKr Kr
          try simp only [List.getElem_toArray, List.getElem_cons_succ, List.getElem_cons_zero, Act.put, List.setIfInBounds_toArray, List.set_cons_zero, List.set_cons_succ]
          have hS5 : w5.cell? ⟨w.heap.size, 0, none⟩ = some (.int .i64 p0) ∧ w5.cell? ⟨w.heap.size, 1, none⟩ = some (.slice a_p1 n_p1 c_p1) ∧ w5.cell? ⟨w.heap.size + 1, 0, none⟩ = some (.slice a_st0 n_st0 c_st0) ∧ w5.cell? ⟨w.heap.size + 1, 1, none⟩ = some (.slice a_st1 n_st1 c_st1) ∧ w5.cell? ⟨w.heap.size + 1, 2, none⟩ = some (.slice a_st2 n_st2 c_st2) := ⟨(bcell1 hc5 (by omega)).trans bx3_0, (bcell1 hc5 (by omega)).trans bx3_1, (bcell1 hc5 (by omega)).trans bx5_0, (bcell1 hc5 (by omega)).trans bx5_1, (bcell1 hc5 (by omega)).trans bx5_2⟩
          refine wpC_take (i := 6) (v := ?v6_8) (l' := #[true, true, true, true, true, true, true, false, false, true, false, false]) [7, 8, 10, 11] rfl (by kernel_rfl) (by kernel_rfl) (by kernel_rfl) (by kernel_rfl) (by kernel_rfl) rfl (fun _ _ _ h => h) (by rfl) (fun wx hS => ?q6_8) (by assumption) ?_
          case q6_8 => (go_simp; try with_reducible rfl)
          try simp only [List.getElem_toArray, List.getElem_cons_succ, List.getElem_cons_zero, Act.put, List.setIfInBounds_toArray, List.set_cons_zero, List.set_cons_succ]
          refine wpC_take (i := 7) (v := ?v7_9) (l' := #[true, true, true, true, true, true, true, true, false, true, false, false]) [10, 11] rfl (by kernel_rfl) (by kernel_rfl) (by kernel_rfl) (by kernel_rfl) (by kernel_rfl) rfl (fun _ _ _ h => h) (by rfl) (fun wx hS => ?q7_9) (by assumption) ?_
          case q7_9 => (go_simp; try with_reducible rfl)
          try simp only [List.getElem_toArray, List.getElem_cons_succ, List.getElem_cons_zero, Act.put, List.setIfInBounds_toArray, List.set_cons_zero, List.set_cons_succ]
          refine wpC_take (i := 8) (v := ?v8_10) (l' := #[true, true, true, true, true, true, true, true, true, true, false, false]) [11] rfl (by kernel_rfl) (by kernel_rfl) (by kernel_rfl) (by kernel_rfl) (by kernel_rfl) rfl (fun _ _ _ h => h) (by rfl) (fun wx hS => ?q8_10) (by assumption) ?_
          case q8_10 => (go_simp; try with_reducible rfl)
          try simp only [List.getElem_toArray, List.getElem_cons_succ, List.getElem_cons_zero, Act.put, List.setIfInBounds_toArray, List.set_cons_zero, List.set_cons_succ]
          refine wpC_one (i := 10) (l' := #[true, true, true, true, true, true, true, true, true, true, true, false]) (by kernel_rfl) rfl rfl (by rfl) (fun Kr hKr => ?_)
          have hBB : w2.heap.size ≤ w4.heap.size := by omega
          go_simp
          have hE := box2 (.int .i64 ((decS p0 p1 mode st0 st1 st2).1.1)) (.slice a_z5 n_z5 c_z5) hc5 hBB lt5 zc0 zc1
          refine hKr _ _ (fun _ => ⟨(bcell1 hE.1 (by omega)).trans bx3_0, (bcell1 hE.1 (by omega)).trans bx3_1, (bcell1 hE.1 (by omega)).trans bx5_0, (bcell1 hE.1 (by omega)).trans bx5_1, (bcell1 hE.1 (by omega)).trans bx5_2⟩) ?_
          clear hKr Kr
          try simp only [List.getElem_toArray, List.getElem_cons_succ, List.getElem_cons_zero, Act.put, List.setIfInBounds_toArray, List.set_cons_zero, List.set_cons_succ]
          have hSE := And.intro ((bcell1 hE.1 (by omega)).trans bx3_0) (And.intro ((bcell1 hE.1 (by omega)).trans bx3_1) (And.intro ((bcell1 hE.1 (by omega)).trans bx5_0) (And.intro ((bcell1 hE.1 (by omega)).trans bx5_1) ((bcell1 hE.1 (by omega)).trans bx5_2))))
          refine wpC_take (i := 11) (v := ?v11_11) (l' := #[true, true, true, true, true, true, true, true, true, true, true, true]) [] rfl (by kernel_rfl) (by kernel_rfl) (by kernel_rfl) (by kernel_rfl) (by kernel_rfl) rfl (fun _ _ _ h => h) (by rfl) (fun wx hS => ?q11_11) (by assumption) ?_
          case q11_11 => (go_simp; try with_reducible rfl)
          try simp only [List.getElem_toArray, List.getElem_cons_succ, List.getElem_cons_zero, Act.put, List.setIfInBounds_toArray, List.set_cons_zero, List.set_cons_succ]
          refine wpC_done (by kernel_rfl) ?_ _
          obtain ⟨hE1, hE2, hE3, hE4, hE5⟩ := hE
          have hx_z5 : w4.heap.size ∉ F_z5 := fun hg => by have q1 := hll5 (w4.heap.size) (by first | exact hg | simp [hg]); (try have q2 := hi9_z5 _ hg); omega
          exact key hBB hE2 hE1 hE4 hE5 (hE3 _ _ _ ho_z5 hx_z5) (by simpa using hnn5) (fun g hg => by have q1 := hll5 g (by first | exact hg | simp [hg]); omega)
      · go_simp
        refine hKr _ _ (fun _ => ⟨(bcell1 (hc3.trans ((below_alloc _ _).mono hc3.size)) (by omega)).trans bx3_0, (bcell1 (hc3.trans ((below_alloc _ _).mono hc3.size)) (by omega)).trans bx3_1, (bcell1 (hc3.trans ((below_alloc _ _).mono hc3.size)) (by omega)).trans bx5_0, (bcell1 (hc3.trans ((below_alloc _ _).mono hc3.size)) (by omega)).trans bx5_1, (bcell1 (hc3.trans ((below_alloc _ _).mono hc3.size)) (by omega)).trans bx5_2⟩) ?_
        clear hKr Kr
        try simp only [List.getElem_toArray, List.getElem_cons_succ, List.getElem_cons_zero, Act.put, List.setIfInBounds_toArray, List.set_cons_zero, List.set_cons_succ]
        obtain ⟨wA, hwA⟩ : ∃ wz, wz = w3.alloc (.cells #[.int .i64 0, .slice none 0 0] 61) := ⟨_, rfl⟩
        rw [← hwA]
        have hcA : Below w2.heap.size w2 wA := by rw [hwA]; exact (hc3.trans ((below_alloc _ _).mono hc3.size))
        have zc0 : wA.cell? ⟨w3.heap.size, 0, none⟩ = some (.int .i64 0) := by rw [hwA]; simp [go_sem]
        have zy0 : wA.frozen? ⟨w3.heap.size, 0, none⟩ = false := by rw [hwA]; simp [go_sem]
        have zc1 : wA.cell? ⟨w3.heap.size, 1, none⟩ = some (.slice none 0 0) := by rw [hwA]; simp [go_sem]
        have zy1 : wA.frozen? ⟨w3.heap.size, 1, none⟩ = false := by rw [hwA]; simp [go_sem]
        have ltA : w3.heap.size < wA.heap.size := by rw [hwA]; simp
        have hqA := hcA.size
        have hi9_z1 : ∀ g, g ∈ F_z1 → g < w3.heap.size := Ow.lt _ _ _ ho_z1
        replace ho_z1 := ho_z1.below (w' := wA) (by rw [hwA]; exact below_alloc _ _)
        clear hwA
        have hSA : wA.cell? ⟨w.heap.size, 0, none⟩ = some (.int .i64 p0) ∧ wA.cell? ⟨w.heap.size, 1, none⟩ = some (.slice a_p1 n_p1 c_p1) ∧ wA.cell? ⟨w.heap.size + 1, 0, none⟩ = some (.slice a_st0 n_st0 c_st0) ∧ wA.cell? ⟨w.heap.size + 1, 1, none⟩ = some (.slice a_st1 n_st1 c_st1) ∧ wA.cell? ⟨w.heap.size + 1, 2, none⟩ = some (.slice a_st2 n_st2 c_st2) := ⟨(bcell1 hcA (by omega)).trans bx3_0, (bcell1 hcA (by omega)).trans bx3_1, (bcell1 hcA (by omega)).trans bx5_0, (bcell1 hcA (by omega)).trans bx5_1, (bcell1 hcA (by omega)).trans bx5_2⟩
        refine wpC_one (i := 4) (l' := #[true, true, true, true, true, false, false, false, false, true, false, false]) (by kernel_rfl) rfl rfl (by rfl) (fun Kr hKr => ?_)
        refine step_callV rfl 30 #[.tmp 33] _ rfl HRUN1.out #[.agg #[.slice a_st0 n_st0 c_st0, .slice a_st1 n_st1 c_st1, .slice a_st2 n_st2 c_st2]] (by first | rfl | (simp [Act.eval]; done) | (simp [Act.eval]; rfl) | (simp [Act.eval]; repeat' constructor)) (toState_d _ (dB st0) _ (dII st1) _ (dI st2) _ _ (h_st0.below (bnext hB hcA (Nat.le_refl _))) (h_st1.below (bnext hB hcA (Nat.le_refl _))) (h_st2.below (bnext hB hcA (Nat.le_refl _))) (fit_dB st0) (fit_dII st1) (fit_dI st2) hv_st0 hv_st1 hv_st2) ?_
        rintro e w4 ⟨vs4, F4, rfl, hb4, hoo4, hnn4, hll4⟩
        have hvl4 := owA_len _ _ _ hoo4
        obtain ⟨e_4_0, e_4_1, e_4_2, rfl⟩ : ∃ e_4_0 e_4_1 e_4_2, vs4 = [e_4_0, e_4_1, e_4_2] := (by match vs4, hvl4 with | [e_4_0, e_4_1, e_4_2], _ => exact ⟨e_4_0, e_4_1, e_4_2, rfl⟩)
        clear hvl4
        obtain ⟨F_z2, _, ho_z2, hr4_0, rfl⟩ := hoo4
        obtain ⟨F_z3, _, ho_z3, hr4_1, rfl⟩ := hr4_0
        obtain ⟨F_z4, _, ho_z4, hr4_2, rfl⟩ := hr4_1
        have hend4 : _ = [] := hr4_2
        subst hend4
        obtain ⟨a_z2, n_z2, c_z2, rfl⟩ := (fit_dB st0).sliceO ho_z2
        obtain ⟨a_z3, n_z3, c_z3, rfl⟩ := (fit_dII st1).sliceO ho_z3
        obtain ⟨a_z4, n_z4, c_z4, rfl⟩ := (fit_dI st2).sliceO ho_z4
        refine ⟨_, rfl, ?_⟩
        have hc4 : Below w2.heap.size w2 w4 := hcA.trans (hb4.mono hcA.size)
        have hq4 := hc4.size
        have hy4 := hb4.size
        replace ho_z1 := ho_z1.below hb4
        replace zc0 := (bcell1 hb4 ltA).trans zc0
        replace zy0 := (hb4.frozen (p := ⟨w3.heap.size, 0, none⟩) ltA).trans zy0
        replace zc1 := (bcell1 hb4 ltA).trans zc1
        replace zy1 := (hb4.frozen (p := ⟨w3.heap.size, 1, none⟩) ltA).trans zy1
        have lt4 : w3.heap.size < w4.heap.size := Nat.lt_of_lt_of_le ltA hb4.size
        refine hKr _ _ (fun _ => ⟨(bcell1 hc4 (by omega)).trans bx3_0, (bcell1 hc4 (by omega)).trans bx3_1, (bcell1 hc4 (by omega)).trans bx5_0, (bcell1 hc4 (by omega)).trans bx5_1, (bcell1 hc4 (by omega)).trans bx5_2⟩) ?_
        clear hKr Kr
        try simp only [List.getElem_toArray, List.getElem_cons_succ, List.getElem_cons_zero, Act.put, List.setIfInBounds_toArray, List.set_cons_zero, List.set_cons_succ]
        have hS4 : w4.cell? ⟨w.heap.size, 0, none⟩ = some (.int .i64 p0) ∧ w4.cell? ⟨w.heap.size, 1, none⟩ = some (.slice a_p1 n_p1 c_p1) ∧ w4.cell? ⟨w.heap.size + 1, 0, none⟩ = some (.slice a_st0 n_st0 c_st0) ∧ w4.cell? ⟨w.heap.size + 1, 1, none⟩ = some (.slice a_st1 n_st1 c_st1) ∧ w4.cell? ⟨w.heap.size + 1, 2, none⟩ = some (.slice a_st2 n_st2 c_st2) := ⟨(bcell1 hc4 (by omega)).trans bx3_0, (bcell1 hc4 (by omega)).trans bx3_1, (bcell1 hc4 (by omega)).trans bx5_0, (bcell1 hc4 (by omega)).trans bx5_1, (bcell1 hc4 (by omega)).trans bx5_2⟩
        refine wpC_one (i := 5) (l' := #[true, true, true, true, true, true, false, false, false, true, false, false]) (by kernel_rfl) rfl rfl (by rfl) (fun Kr hKr => ?_)
        refine step_callV rfl 29 #[.tmp 31, .tmp 32, .tmp 34] _ rfl HRUN2.out #[.agg #[.int .i64 p0, .slice a_z1 n_z1 c_z1], .int .i64 mode, .agg #[.slice a_z2 n_z2 c_z2, .slice a_z3 n_z3 c_z3, .slice a_z4 n_z4 c_z4]] (by first | rfl | (simp [Act.eval]; done) | (simp [Act.eval]; rfl) | (simp [Act.eval]; repeat' constructor)) (specDecodeState_d p0 p1 mode st0 st1 st2 _ ho_z1 ho_z2 ho_z3 ho_z4 ) ?_
        rintro e w5 ⟨vs5, F5, rfl, hb5, hoo5, hnn5, hll5⟩
        have hvl5 := owA_len _ _ _ hoo5
        obtain ⟨e_5_0, e_5_1, rfl⟩ : ∃ e_5_0 e_5_1, vs5 = [e_5_0, e_5_1] := (by match vs5, hvl5 with | [e_5_0, e_5_1], _ => exact ⟨e_5_0, e_5_1, rfl⟩)
        clear hvl5
        obtain ⟨G5_0, _, ⟨ev5_0, eg5_0⟩, hr5_0, rfl⟩ := hoo5
        subst ev5_0
        subst eg5_0
        obtain ⟨F_z5, _, ho_z5, hr5_1, rfl⟩ := hr5_0
        have hend5 : _ = [] := hr5_1
        subst hend5
        obtain ⟨a_z5, n_z5, c_z5, rfl⟩ := (fit_dI ((decS p0 p1 mode st0 st1 st2).1.2)).sliceO ho_z5
        refine ⟨_, rfl, ?_⟩
        have hc5 : Below w2.heap.size w2 w5 := hc4.trans (hb5.mono hc4.size)
        have hq5 := hc5.size
        have hy5 := hb5.size
        replace ho_z1 := ho_z1.below hb5
        replace ho_z2 := ho_z2.below hb5
        replace ho_z3 := ho_z3.below hb5
        replace ho_z4 := ho_z4.below hb5
        replace zc0 := (bcell1 hb5 lt4).trans zc0
        replace zy0 := (hb5.frozen (p := ⟨w3.heap.size, 0, none⟩) lt4).trans zy0
        replace zc1 := (bcell1 hb5 lt4).trans zc1
        replace zy1 := (hb5.frozen (p := ⟨w3.heap.size, 1, none⟩) lt4).trans zy1
        have lt5 : w3.heap.size < w5.heap.size := Nat.lt_of_lt_of_le lt4 hb5.size
        refine hKr _ _ (fun _ => ⟨(bcell1 hc5 (by omega)).trans bx3_0, (bcell1 hc5 (by omega)).trans bx3_1, (bcell1 hc5 (by omega)).trans bx5_0, (bcell1 hc5 (by omega)).trans bx5_1, (bcell1 hc5 (by omega)).trans bx5_2⟩) ?_
        clear hKr Kr
        try simp only [List.getElem_toArray, List.getElem_cons_succ, List.getElem_cons_zero, Act.put, List.setIfInBounds_toArray, List.set_cons_zero, List.set_cons_succ]
        have hS5 : w5.cell? ⟨w.heap.size, 0, none⟩ = some (.int .i64 p0) ∧ w5.cell? ⟨w.heap.size, 1, none⟩ = some (.slice a_p1 n_p1 c_p1) ∧ w5.cell? ⟨w.heap.size + 1, 0, none⟩ = some (.slice a_st0 n_st0 c_st0) ∧ w5.cell? ⟨w.heap.size + 1, 1, none⟩ = some (.slice a_st1 n_st1 c_st1) ∧ w5.cell? ⟨w.heap.size + 1, 2, none⟩ = some (.slice a_st2 n_st2 c_st2) := ⟨(bcell1 hc5 (by omega)).trans bx3_0, (bcell1 hc5 (by omega)).trans bx3_1, (bcell1 hc5 (by omega)).trans bx5_0, (bcell1 hc5 (by omega)).trans bx5_1, (bcell1 hc5 (by omega)).trans bx5_2⟩
        refine wpC_take (i := 6) (v := ?v6_12) (l' := #[true, true, true, true, true, true, true, false, false, true, false, false]) [7, 8, 10, 11] rfl (by kernel_rfl) (by kernel_rfl) (by kernel_rfl) (by kernel_rfl) (by kernel_rfl) rfl (fun _ _ _ h => h) (by rfl) (fun wx hS => ?q6_12) (by assumption) ?_
        case q6_12 => (go_simp; try with_reducible rfl)
        try simp only [List.getElem_toArray, List.getElem_cons_succ, List.getElem_cons_zero, Act.put, List.setIfInBounds_toArray, List.set_cons_zero, List.set_cons_succ]
        refine wpC_take (i := 7) (v := ?v7_13) (l' := #[true, true, true, true, true, true, true, true, false, true, false, false]) [10, 11] rfl (by kernel_rfl) (by kernel_rfl) (by kernel_rfl) (by kernel_rfl) (by kernel_rfl) rfl (fun _ _ _ h => h) (by rfl) (fun wx hS => ?q7_13) (by assumption) ?_
        case q7_13 => (go_simp; try with_reducible rfl)
        try simp only [List.getElem_toArray, List.getElem_cons_succ, List.getElem_cons_zero, Act.put, List.setIfInBounds_toArray, List.set_cons_zero, List.set_cons_succ]
        refine wpC_take (i := 8) (v := ?v8_14) (l' := #[true, true, true, true, true, true, true, true, true, true, false, false]) [11] rfl (by kernel_rfl) (by kernel_rfl) (by kernel_rfl) (by kernel_rfl) (by kernel_rfl) rfl (fun _ _ _ h => h) (by rfl) (fun wx hS => ?q8_14) (by assumption) ?_
        case q8_14 => (go_simp; try with_reducible rfl)
        try simp only [List.getElem_toArray, List.getElem_cons_succ, List.getElem_cons_zero, Act.put, List.setIfInBounds_toArray, List.set_cons_zero, List.set_cons_succ]
        refine wpC_one (i := 10) (l' := #[true, true, true, true, true, true, true, true, true, true, true, false]) (by kernel_rfl) rfl rfl (by rfl) (fun Kr hKr => ?_)
        have hBB : w2.heap.size ≤ w3.heap.size := by omega
        go_simp
        have hE := box2 (.int .i64 ((decS p0 p1 mode st0 st1 st2).1.1)) (.slice a_z5 n_z5 c_z5) hc5 hBB lt5 zc0 zc1
        refine hKr _ _ (fun _ => ⟨(bcell1 hE.1 (by omega)).trans bx3_0, (bcell1 hE.1 (by omega)).trans bx3_1, (bcell1 hE.1 (by omega)).trans bx5_0, (bcell1 hE.1 (by omega)).trans bx5_1, (bcell1 hE.1 (by omega)).trans bx5_2⟩) ?_
        clear hKr Kr
        try simp only [List.getElem_toArray, List.getElem_cons_succ, List.getElem_cons_zero, Act.put, List.setIfInBounds_toArray, List.set_cons_zero, List.set_cons_succ]
        have hSE := And.intro ((bcell1 hE.1 (by omega)).trans bx3_0) (And.intro ((bcell1 hE.1 (by omega)).trans bx3_1) (And.intro ((bcell1 hE.1 (by omega)).trans bx5_0) (And.intro ((bcell1 hE.1 (by omega)).trans bx5_1) ((bcell1 hE.1 (by omega)).trans bx5_2))))
        refine wpC_take (i := 11) (v := ?v11_15) (l' := #[true, true, true, true, true, true, true, true, true, true, true, true]) [] rfl (by kernel_rfl) (by kernel_rfl) (by kernel_rfl) (by kernel_rfl) (by kernel_rfl) rfl (fun _ _ _ h => h) (by rfl) (fun wx hS => ?q11_15) (by assumption) ?_
        case q11_15 => (go_simp; try with_reducible rfl)
        try simp only [List.getElem_toArray, List.getElem_cons_succ, List.getElem_cons_zero, Act.put, List.setIfInBounds_toArray, List.set_cons_zero, List.set_cons_succ]
        refine wpC_done (by kernel_rfl) ?_ _
        obtain ⟨hE1, hE2, hE3, hE4, hE5⟩ := hE
        have hx_z5 : w3.heap.size ∉ F_z5 := fun hg => by have q1 := hll5 (w3.heap.size) (by first | exact hg | simp [hg]); (try have q2 := hi9_z5 _ hg); omega
        exact key hBB hE2 hE1 hE4 hE5 (hE3 _ _ _ ho_z5 hx_z5) (by simpa using hnn5) (fun g hg => by have q1 := hll5 g (by first | exact hg | simp [hg]); omega)
    · go_simp
      refine hKr _ _ (fun _ => ⟨(bcell1 (below_dr (below_alloc _ _)) (by omega)).trans bx3_0, (bcell1 (below_dr (below_alloc _ _)) (by omega)).trans bx3_1, (bcell1 (below_dr (below_alloc _ _)) (by omega)).trans bx5_0, (bcell1 (below_dr (below_alloc _ _)) (by omega)).trans bx5_1, (bcell1 (below_dr (below_alloc _ _)) (by omega)).trans bx5_2⟩) ?_
      clear hKr Kr
      try simp only [List.getElem_toArray, List.getElem_cons_succ, List.getElem_cons_zero, Act.put, List.setIfInBounds_toArray, List.set_cons_zero, List.set_cons_succ]
      obtain ⟨wA, hwA⟩ : ∃ wz, wz = (w2.alloc (.cells #[.int .i64 0, .slice none 0 0] 61)).drew := ⟨_, rfl⟩
      rw [← hwA]
      have hcA : Below w2.heap.size w2 wA := by rw [hwA]; exact (below_dr (below_alloc _ _))
      have zc0 : wA.cell? ⟨w2.heap.size, 0, none⟩ = some (.int .i64 0) := by rw [hwA]; simp [go_sem]
      have zy0 : wA.frozen? ⟨w2.heap.size, 0, none⟩ = false := by rw [hwA]; simp [go_sem]
      have zc1 : wA.cell? ⟨w2.heap.size, 1, none⟩ = some (.slice none 0 0) := by rw [hwA]; simp [go_sem]
      have zy1 : wA.frozen? ⟨w2.heap.size, 1, none⟩ = false := by rw [hwA]; simp [go_sem]
      have ltA : w2.heap.size < wA.heap.size := by rw [hwA]; simp
      have hqA := hcA.size
      clear hwA
      have hSA : wA.cell? ⟨w.heap.size, 0, none⟩ = some (.int .i64 p0) ∧ wA.cell? ⟨w.heap.size, 1, none⟩ = some (.slice a_p1 n_p1 c_p1) ∧ wA.cell? ⟨w.heap.size + 1, 0, none⟩ = some (.slice a_st0 n_st0 c_st0) ∧ wA.cell? ⟨w.heap.size + 1, 1, none⟩ = some (.slice a_st1 n_st1 c_st1) ∧ wA.cell? ⟨w.heap.size + 1, 2, none⟩ = some (.slice a_st2 n_st2 c_st2) := ⟨(bcell1 hcA (by omega)).trans bx3_0, (bcell1 hcA (by omega)).trans bx3_1, (bcell1 hcA (by omega)).trans bx5_0, (bcell1 hcA (by omega)).trans bx5_1, (bcell1 hcA (by omega)).trans bx5_2⟩
      refine wpC_one (i := 1) (l' := #[true, true, true, true, false, false, false, false, false, true, false, false]) (by kernel_rfl) rfl rfl (by rfl) (fun Kr hKr => ?_)
      refine step_callV rfl 15 #[.tmp 30] _ rfl HRUN0.out #[.agg #[.int .i64 p0, .slice a_p1 n_p1 c_p1]] (by first | rfl | (simp [Act.eval]; done) | (simp [Act.eval]; rfl) | (simp [Act.eval]; repeat' constructor)) (toProgram_d _ (p0) (dO p1) _ _ (h_p1.below (bnext hB hcA (Nat.le_refl _))) (fit_dO p1) hv_p1) ?_
      rintro e w3 ⟨vs3, F3, rfl, hb3, hoo3, hnn3, hll3⟩
      have hvl3 := owA_len _ _ _ hoo3
      obtain ⟨e_3_0, e_3_1, rfl⟩ : ∃ e_3_0 e_3_1, vs3 = [e_3_0, e_3_1] := (by match vs3, hvl3 with | [e_3_0, e_3_1], _ => exact ⟨e_3_0, e_3_1, rfl⟩)
      clear hvl3
      obtain ⟨G3_0, _, ⟨ev3_0, eg3_0⟩, hr3_0, rfl⟩ := hoo3
      subst ev3_0
      subst eg3_0
      obtain ⟨F_z1, _, ho_z1, hr3_1, rfl⟩ := hr3_0
      have hend3 : _ = [] := hr3_1
      subst hend3
      obtain ⟨a_z1, n_z1, c_z1, rfl⟩ := (fit_dO p1).sliceO ho_z1
      refine ⟨_, rfl, ?_⟩
      have hc3 : Below w2.heap.size w2 w3 := hcA.trans (hb3.mono hcA.size)
      have hq3 := hc3.size
      have hy3 := hb3.size
      replace zc0 := (bcell1 hb3 ltA).trans zc0
      replace zy0 := (hb3.frozen (p := ⟨w2.heap.size, 0, none⟩) ltA).trans zy0
      replace zc1 := (bcell1 hb3 ltA).trans zc1
      replace zy1 := (hb3.frozen (p := ⟨w2.heap.size, 1, none⟩) ltA).trans zy1
      have lt3 : w2.heap.size < w3.heap.size := Nat.lt_of_lt_of_le ltA hb3.size
      refine hKr _ _ (fun _ => ⟨(bcell1 hc3 (by omega)).trans bx3_0, (bcell1 hc3 (by omega)).trans bx3_1, (bcell1 hc3 (by omega)).trans bx5_0, (bcell1 hc3 (by omega)).trans bx5_1, (bcell1 hc3 (by omega)).trans bx5_2⟩) ?_
      clear hKr Kr
      try simp only [List.getElem_toArray, List.getElem_cons_succ, List.getElem_cons_zero, Act.put, List.setIfInBounds_toArray, List.set_cons_zero, List.set_cons_succ]
      have hS3 : w3.cell? ⟨w.heap.size, 0, none⟩ = some (.int .i64 p0) ∧ w3.cell? ⟨w.heap.size, 1, none⟩ = some (.slice a_p1 n_p1 c_p1) ∧ w3.cell? ⟨w.heap.size + 1, 0, none⟩ = some (.slice a_st0 n_st0 c_st0) ∧ w3.cell? ⟨w.heap.size + 1, 1, none⟩ = some (.slice a_st1 n_st1 c_st1) ∧ w3.cell? ⟨w.heap.size + 1, 2, none⟩ = some (.slice a_st2 n_st2 c_st2) := ⟨(bcell1 hc3 (by omega)).trans bx3_0, (bcell1 hc3 (by omega)).trans bx3_1, (bcell1 hc3 (by omega)).trans bx5_0, (bcell1 hc3 (by omega)).trans bx5_1, (bcell1 hc3 (by omega)).trans bx5_2⟩
      refine wpC_one (i := 4) (l' := #[true, true, true, true, true, false, false, false, false, true, false, false]) (by kernel_rfl) rfl rfl (by rfl) (fun Kr hKr => ?_)
      refine step_callV rfl 30 #[.tmp 33] _ rfl HRUN1.out #[.agg #[.slice a_st0 n_st0 c_st0, .slice a_st1 n_st1 c_st1, .slice a_st2 n_st2 c_st2]] (by first | rfl | (simp [Act.eval]; done) | (simp [Act.eval]; rfl) | (simp [Act.eval]; repeat' constructor)) (toState_d _ (dB st0) _ (dII st1) _ (dI st2) _ _ (h_st0.below (bnext hB hc3 (Nat.le_refl _))) (h_st1.below (bnext hB hc3 (Nat.le_refl _))) (h_st2.below (bnext hB hc3 (Nat.le_refl _))) (fit_dB st0) (fit_dII st1) (fit_dI st2) hv_st0 hv_st1 hv_st2) ?_
      rintro e w4 ⟨vs4, F4, rfl, hb4, hoo4, hnn4, hll4⟩
      have hvl4 := owA_len _ _ _ hoo4
      obtain ⟨e_4_0, e_4_1, e_4_2, rfl⟩ : ∃ e_4_0 e_4_1 e_4_2, vs4 = [e_4_0, e_4_1, e_4_2] := (by match vs4, hvl4 with | [e_4_0, e_4_1, e_4_2], _ => exact ⟨e_4_0, e_4_1, e_4_2, rfl⟩)
      clear hvl4
      obtain ⟨F_z2, _, ho_z2, hr4_0, rfl⟩ := hoo4
      obtain ⟨F_z3, _, ho_z3, hr4_1, rfl⟩ := hr4_0
      obtain ⟨F_z4, _, ho_z4, hr4_2, rfl⟩ := hr4_1
      have hend4 : _ = [] := hr4_2
      subst hend4
      obtain ⟨a_z2, n_z2, c_z2, rfl⟩ := (fit_dB st0).sliceO ho_z2
      obtain ⟨a_z3, n_z3, c_z3, rfl⟩ := (fit_dII st1).sliceO ho_z3
      obtain ⟨a_z4, n_z4, c_z4, rfl⟩ := (fit_dI st2).sliceO ho_z4
      refine ⟨_, rfl, ?_⟩
      have hc4 : Below w2.heap.size w2 w4 := hc3.trans (hb4.mono hc3.size)
      have hq4 := hc4.size
      have hy4 := hb4.size
      replace ho_z1 := ho_z1.below hb4
      replace zc0 := (bcell1 hb4 lt3).trans zc0
      replace zy0 := (hb4.frozen (p := ⟨w2.heap.size, 0, none⟩) lt3).trans zy0
      replace zc1 := (bcell1 hb4 lt3).trans zc1
      replace zy1 := (hb4.frozen (p := ⟨w2.heap.size, 1, none⟩) lt3).trans zy1
      have lt4 : w2.heap.size < w4.heap.size := Nat.lt_of_lt_of_le lt3 hb4.size
      refine hKr _ _ (fun _ => ⟨(bcell1 hc4 (by omega)).trans bx3_0, (bcell1 hc4 (by omega)).trans bx3_1, (bcell1 hc4 (by omega)).trans bx5_0, (bcell1 hc4 (by omega)).trans bx5_1, (bcell1 hc4 (by omega)).trans bx5_2⟩) ?_
      clear hKr Kr
      try simp only [List.getElem_toArray, List.getElem_cons_succ, List.getElem_cons_zero, Act.put, List.setIfInBounds_toArray, List.set_cons_zero, List.set_cons_succ]
      have hS4 : w4.cell? ⟨w.heap.size, 0, none⟩ = some (.int .i64 p0) ∧ w4.cell? ⟨w.heap.size, 1, none⟩ = some (.slice a_p1 n_p1 c_p1) ∧ w4.cell? ⟨w.heap.size + 1, 0, none⟩ = some (.slice a_st0 n_st0 c_st0) ∧ w4.cell? ⟨w.heap.size + 1, 1, none⟩ = some (.slice a_st1 n_st1 c_st1) ∧ w4.cell? ⟨w.heap.size + 1, 2, none⟩ = some (.slice a_st2 n_st2 c_st2) := ⟨(bcell1 hc4 (by omega)).trans bx3_0, (bcell1 hc4 (by omega)).trans bx3_1, (bcell1 hc4 (by omega)).trans bx5_0, (bcell1 hc4 (by omega)).trans bx5_1, (bcell1 hc4 (by omega)).trans bx5_2⟩
      refine wpC_one (i := 5) (l' := #[true, true, true, true, true, true, false, false, false, true, false, false]) (by kernel_rfl) rfl rfl (by rfl) (fun Kr hKr => ?_)
      refine step_callV rfl 29 #[.tmp 31, .tmp 32, .tmp 34] _ rfl HRUN2.out #[.agg #[.int .i64 p0, .slice a_z1 n_z1 c_z1], .int .i64 mode, .agg #[.slice a_z2 n_z2 c_z2, .slice a_z3 n_z3 c_z3, .slice a_z4 n_z4 c_z4]] (by first | rfl | (simp [Act.eval]; done) | (simp [Act.eval]; rfl) | (simp [Act.eval]; repeat' constructor)) (specDecodeState_d p0 p1 mode st0 st1 st2 _ ho_z1 ho_z2 ho_z3 ho_z4 ) ?_
      rintro e w5 ⟨vs5, F5, rfl, hb5, hoo5, hnn5, hll5⟩
      have hvl5 := owA_len _ _ _ hoo5
      obtain ⟨e_5_0, e_5_1, rfl⟩ : ∃ e_5_0 e_5_1, vs5 = [e_5_0, e_5_1] := (by match vs5, hvl5 with | [e_5_0, e_5_1], _ => exact ⟨e_5_0, e_5_1, rfl⟩)
      clear hvl5
      obtain ⟨G5_0, _, ⟨ev5_0, eg5_0⟩, hr5_0, rfl⟩ := hoo5
      subst ev5_0
      subst eg5_0
      obtain ⟨F_z5, _, ho_z5, hr5_1, rfl⟩ := hr5_0
      have hend5 : _ = [] := hr5_1
      subst hend5
      obtain ⟨a_z5, n_z5, c_z5, rfl⟩ := (fit_dI ((decS p0 p1 mode st0 st1 st2).1.2)).sliceO ho_z5
      refine ⟨_, rfl, ?_⟩
      have hc5 : Below w2.heap.size w2 w5 := hc4.trans (hb5.mono hc4.size)
      have hq5 := hc5.size
      have hy5 := hb5.size
      replace ho_z1 := ho_z1.below hb5
      replace ho_z2 := ho_z2.below hb5
      replace ho_z3 := ho_z3.below hb5
      replace ho_z4 := ho_z4.below hb5
      replace zc0 := (bcell1 hb5 lt4).trans zc0
      replace zy0 := (hb5.frozen (p := ⟨w2.heap.size, 0, none⟩) lt4).trans zy0
      replace zc1 := (bcell1 hb5 lt4).trans zc1
      replace zy1 := (hb5.frozen (p := ⟨w2.heap.size, 1, none⟩) lt4).trans zy1
      have lt5 : w2.heap.size < w5.heap.size := Nat.lt_of_lt_of_le lt4 hb5.size
      refine hKr _ _ (fun _ => ⟨(bcell1 hc5 (by omega)).trans bx3_0, (bcell1 hc5 (by omega)).trans bx3_1, (bcell1 hc5 (by omega)).trans bx5_0, (bcell1 hc5 (by omega)).trans bx5_1, (bcell1 hc5 (by omega)).trans bx5_2⟩) ?_
      clear hKr Kr
      try simp only [List.getElem_toArray, List.getElem_cons_succ, List.getElem_cons_zero, Act.put, List.setIfInBounds_toArray, List.set_cons_zero, List.set_cons_succ]
      have hS5 : w5.cell? ⟨w.heap.size, 0, none⟩ = some (.int .i64 p0) ∧ w5.cell? ⟨w.heap.size, 1, none⟩ = some (.slice a_p1 n_p1 c_p1) ∧ w5.cell? ⟨w.heap.size + 1, 0, none⟩ = some (.slice a_st0 n_st0 c_st0) ∧ w5.cell? ⟨w.heap.size + 1, 1, none⟩ = some (.slice a_st1 n_st1 c_st1) ∧ w5.cell? ⟨w.heap.size + 1, 2, none⟩ = some (.slice a_st2 n_st2 c_st2) := ⟨(bcell1 hc5 (by omega)).trans bx3_0, (bcell1 hc5 (by omega)).trans bx3_1, (bcell1 hc5 (by omega)).trans bx5_0, (bcell1 hc5 (by omega)).trans bx5_1, (bcell1 hc5 (by omega)).trans bx5_2⟩
      refine wpC_take (i := 6) (v := ?v6_16) (l' := #[true, true, true, true, true, true, true, false, false, true, false, false]) [7, 8, 10, 11] rfl (by kernel_rfl) (by kernel_rfl) (by kernel_rfl) (by kernel_rfl) (by kernel_rfl) rfl (fun _ _ _ h => h) (by rfl) (fun wx hS => ?q6_16) (by assumption) ?_
      case q6_16 => (go_simp; try with_reducible rfl)
      try simp only [List.getElem_toArray, List.getElem_cons_succ, List.getElem_cons_zero, Act.put, List.setIfInBounds_toArray, List.set_cons_zero, List.set_cons_succ]
      refine wpC_take (i := 7) (v := ?v7_17) (l' := #[true, true, true, true, true, true, true, true, false, true, false, false]) [10, 11] rfl (by kernel_rfl) (by kernel_rfl) (by kernel_rfl) (by kernel_rfl) (by kernel_rfl) rfl (fun _ _ _ h => h) (by rfl) (fun wx hS => ?q7_17) (by assumption) ?_
      case q7_17 => (go_simp; try with_reducible rfl)
      try simp only [List.getElem_toArray, List.getElem_cons_succ, List.getElem_cons_zero, Act.put, List.setIfInBounds_toArray, List.set_cons_zero, List.set_cons_succ]
      refine wpC_take (i := 8) (v := ?v8_18) (l' := #[true, true, true, true, true, true, true, true, true, true, false, false]) [11] rfl (by kernel_rfl) (by kernel_rfl) (by kernel_rfl) (by kernel_rfl) (by kernel_rfl) rfl (fun _ _ _ h => h) (by rfl) (fun wx hS => ?q8_18) (by assumption) ?_
      case q8_18 => (go_simp; try with_reducible rfl)
      try simp only [List.getElem_toArray, List.getElem_cons_succ, List.getElem_cons_zero, Act.put, List.setIfInBounds_toArray, List.set_cons_zero, List.set_cons_succ]
      refine wpC_one (i := 10) (l' := #[true, true, true, true, true, true, true, true, true, true, true, false]) (by kernel_rfl) rfl rfl (by rfl) (fun Kr hKr => ?_)
      have hBB : w2.heap.size ≤ w2.heap.size := by omega
      go_simp
      have hE := box2 (.int .i64 ((decS p0 p1 mode st0 st1 st2).1.1)) (.slice a_z5 n_z5 c_z5) hc5 hBB lt5 zc0 zc1
      refine hKr _ _ (fun _ => ⟨(bcell1 hE.1 (by omega)).trans bx3_0, (bcell1 hE.1 (by omega)).trans bx3_1, (bcell1 hE.1 (by omega)).trans bx5_0, (bcell1 hE.1 (by omega)).trans bx5_1, (bcell1 hE.1 (by omega)).trans bx5_2⟩) ?_
      clear hKr Kr
      try simp only [List.getElem_toArray, List.getElem_cons_succ, List.getElem_cons_zero, Act.put, List.setIfInBounds_toArray, List.set_cons_zero, List.set_cons_succ]
      have hSE := And.intro ((bcell1 hE.1 (by omega)).trans bx3_0) (And.intro ((bcell1 hE.1 (by omega)).trans bx3_1) (And.intro ((bcell1 hE.1 (by omega)).trans bx5_0) (And.intro ((bcell1 hE.1 (by omega)).trans bx5_1) ((bcell1 hE.1 (by omega)).trans bx5_2))))
      refine wpC_take (i := 11) (v := ?v11_19) (l' := #[true, true, true, true, true, true, true, true, true, true, true, true]) [] rfl (by kernel_rfl) (by kernel_rfl) (by kernel_rfl) (by kernel_rfl) (by kernel_rfl) rfl (fun _ _ _ h => h) (by rfl) (fun wx hS => ?q11_19) (by assumption) ?_
      case q11_19 => (go_simp; try with_reducible rfl)
      try simp only [List.getElem_toArray, List.getElem_cons_succ, List.getElem_cons_zero, Act.put, List.setIfInBounds_toArray, List.set_cons_zero, List.set_cons_succ]
      refine wpC_done (by kernel_rfl) ?_ _
      obtain ⟨hE1, hE2, hE3, hE4, hE5⟩ := hE
      have hx_z5 : w2.heap.size ∉ F_z5 := fun hg => by have q1 := hll5 (w2.heap.size) (by first | exact hg | simp [hg]); (try have q2 := hi9_z5 _ hg); omega
      exact key hBB hE2 hE1 hE4 hE5 (hE3 _ _ _ ho_z5 hx_z5) (by simpa using hnn5) (fun g hg => by have q1 := hll5 g (by first | exact hg | simp [hg]); omega)
  intro t0 t2 t4 t6 t7 t10 t11 t12 t13 t14 t15 t16 t17 t18 t19 t20 t21 t22 t23 t24 t25 t26 t27 t28 t29 t30 t31 t32 t33 t34 t35 t36 t37 t38 t39 t40 t41 t42 t43 t44 t45 t46 t47 t48 t49 t50 t51 t52 t53 t54 t55 t56 t57 t58 t59 t60 t61 t62 t63 t64 t65 t66 t67 t68 t69 t70 t71 t72 t73 t74 t75 t76 t77 t78 t79 t80 t81 t82 t83 t84 t85 t86 t87 t88 t89 t90 t91 t92 t93 t94 t95 t96 t97 t98 t99 t100 t101 t102 t103 t104 t105 t106 t107 t108 t109 t110 t111 t112 t113 t114 t115 t116 t117 t118 t119 t120 t121 t122 t123 b8 wE8 a_z5 n_z5 c_z5 F_z5 hle8 ltb8 hswE8 bx8_0 bx8_1 ho_z5 hd_z5 hl_z5
  apply hK8
  clear hK8 HRUN0 HRUN1 HRUN2
  have hzwE8 : w2.heap.size ≤ wE8.heap.size := hswE8.size
  replace bx3_0 := (bcell1 hswE8 (by omega)).trans bx3_0
  replace bx3_1 := (bcell1 hswE8 (by omega)).trans bx3_1
  replace bx5_0 := (bcell1 hswE8 (by omega)).trans bx5_0
  replace bx5_1 := (bcell1 hswE8 (by omega)).trans bx5_1
  replace bx5_2 := (bcell1 hswE8 (by omega)).trans bx5_2
  replace hB := bnext hB hswE8 (Nat.le_refl _)
  clear hswE8
  have hi_z5 : ∀ g, g ∈ F_z5 → g < wE8.heap.size := Ow.lt _ _ _ ho_z5
  go_wp2_with fail
  refine (toProgram_d _ (p0) (dO p1) _ _ (h_p1.below hB) (fit_dO p1) hv_p1).mono ?_
  rintro e w6 ⟨vs6, F6, rfl, hb6, hoo6, hnn6, hll6⟩
  have hs6 : Below wE8.heap.size wE8 w6 := hb6
  replace bx3_0 := (bcell1 hs6 (by omega)).trans bx3_0
  replace bx3_1 := (bcell1 hs6 (by omega)).trans bx3_1
  replace bx5_0 := (bcell1 hs6 (by omega)).trans bx5_0
  replace bx5_1 := (bcell1 hs6 (by omega)).trans bx5_1
  replace bx5_2 := (bcell1 hs6 (by omega)).trans bx5_2
  replace bx8_0 := (bcell1 hs6 (by omega)).trans bx8_0
  replace bx8_1 := (bcell1 hs6 (by omega)).trans bx8_1
  have hz6 : wE8.heap.size ≤ w6.heap.size := hb6.size
  replace ho_z5 := ho_z5.below hs6
  replace hB := bnext hB hs6 (Nat.le_refl _)
  clear hb6 hs6
  have hvl6 := owA_len _ _ _ hoo6
  obtain ⟨e_6_0, e_6_1, rfl⟩ : ∃ e_6_0 e_6_1, vs6 = [e_6_0, e_6_1] := (by match vs6, hvl6 with | [e_6_0, e_6_1], _ => exact ⟨e_6_0, e_6_1, rfl⟩)
  clear hvl6
  obtain ⟨G6_0, _, ⟨ev6_0, eg6_0⟩, hr6_0, rfl⟩ := hoo6
  subst ev6_0
  subst eg6_0
  obtain ⟨F_z6, _, ho_z6, hr6_1, rfl⟩ := hr6_0
  have hend6 : _ = [] := hr6_1
  subst hend6
  have hl_z6 : ∀ g, g ∈ F_z6 → wE8.heap.size ≤ g := fun g hg => by have := hll6 g (by simp [hg]); (try simp at this); omega
  obtain ⟨a_z6, n_z6, c_z6, rfl⟩ := (fit_dO p1).sliceO ho_z6
  have hi_z6 : ∀ g, g ∈ F_z6 → g < w6.heap.size := Ow.lt _ _ _ ho_z6
  have hd_z6 : (F_z6).Nodup := by simpa using hnn6
  clear hnn6 hll6
  have lt6_0 : b8 < w6.heap.size := by omega
  have lt6_1 : w.heap.size < w6.heap.size := by omega
  have lt6_2 : w.heap.size + 1 < w6.heap.size := by omega
  go_wp2_with fail
  refine (toState_d _ (dB st0) _ (dII st1) _ (dI st2) _ _ (h_st0.below (hB.trans ((below_alloc _ _).mono (by omega)))) (h_st1.below (hB.trans ((below_alloc _ _).mono (by omega)))) (h_st2.below (hB.trans ((below_alloc _ _).mono (by omega)))) (fit_dB st0) (fit_dII st1) (fit_dI st2) hv_st0 hv_st1 hv_st2).mono ?_
  rintro e w7 ⟨vs7, F7, rfl, hb7, hoo7, hnn7, hll7⟩
  have hs7 : Below w6.heap.size w6 w7 := (below_alloc _ _).trans (hb7.mono (by simp <;> omega))
  replace bx3_0 := (bcell1 hs7 (by omega)).trans bx3_0
  replace bx3_1 := (bcell1 hs7 (by omega)).trans bx3_1
  replace bx5_0 := (bcell1 hs7 (by omega)).trans bx5_0
  replace bx5_1 := (bcell1 hs7 (by omega)).trans bx5_1
  replace bx5_2 := (bcell1 hs7 (by omega)).trans bx5_2
  replace bx8_0 := (bcell1 hs7 (by omega)).trans bx8_0
  replace bx8_1 := (bcell1 hs7 (by omega)).trans bx8_1
  have bx10_0 : w7.cell? ⟨w6.heap.size, 0, none⟩ = some (.int .i64 p0) := by rw [bcell1 hb7 (by simp <;> omega)]; simp [go_sem]
  have bx10_1 : w7.cell? ⟨w6.heap.size, 1, none⟩ = some (.slice a_z6 n_z6 c_z6) := by rw [bcell1 hb7 (by simp <;> omega)]; simp [go_sem]
  have hz7 : w6.heap.size + 1 ≤ w7.heap.size := by have := hb7.size; (try simp at this); omega
  replace ho_z5 := ho_z5.below hs7
  replace ho_z6 := ho_z6.below hs7
  replace hB := bnext hB hs7 (Nat.le_refl _)
  clear hb7 hs7
  have hvl7 := owA_len _ _ _ hoo7
  obtain ⟨e_7_0, e_7_1, e_7_2, rfl⟩ : ∃ e_7_0 e_7_1 e_7_2, vs7 = [e_7_0, e_7_1, e_7_2] := (by match vs7, hvl7 with | [e_7_0, e_7_1, e_7_2], _ => exact ⟨e_7_0, e_7_1, e_7_2, rfl⟩)
  clear hvl7
  obtain ⟨F_z7, _, ho_z7, hr7_0, rfl⟩ := hoo7
  obtain ⟨F_z8, _, ho_z8, hr7_1, rfl⟩ := hr7_0
  obtain ⟨F_z9, _, ho_z9, hr7_2, rfl⟩ := hr7_1
  have hend7 : _ = [] := hr7_2
  subst hend7
  have hl_z7 : ∀ g, g ∈ F_z7 → w6.heap.size + 1 ≤ g := fun g hg => by have := hll7 g (by simp [hg]); (try simp at this); omega
  obtain ⟨a_z7, n_z7, c_z7, rfl⟩ := (fit_dB st0).sliceO ho_z7
  have hl_z8 : ∀ g, g ∈ F_z8 → w6.heap.size + 1 ≤ g := fun g hg => by have := hll7 g (by simp [hg]); (try simp at this); omega
  obtain ⟨a_z8, n_z8, c_z8, rfl⟩ := (fit_dII st1).sliceO ho_z8
  have hl_z9 : ∀ g, g ∈ F_z9 → w6.heap.size + 1 ≤ g := fun g hg => by have := hll7 g (by simp [hg]); (try simp at this); omega
  obtain ⟨a_z9, n_z9, c_z9, rfl⟩ := (fit_dI st2).sliceO ho_z9
  have hi_z7 : ∀ g, g ∈ F_z7 → g < w7.heap.size := Ow.lt _ _ _ ho_z7
  have hi_z8 : ∀ g, g ∈ F_z8 → g < w7.heap.size := Ow.lt _ _ _ ho_z8
  have hi_z9 : ∀ g, g ∈ F_z9 → g < w7.heap.size := Ow.lt _ _ _ ho_z9
  have hd_z7 : (F_z7 ++ (F_z8 ++ F_z9)).Nodup := by simpa using hnn7
  clear hnn7 hll7
  have lt7_0 : b8 < w7.heap.size := by omega
  have lt7_1 : w.heap.size < w7.heap.size := by omega
  have lt7_2 : w.heap.size + 1 < w7.heap.size := by omega
  have lt7_3 : w6.heap.size < w7.heap.size := by omega
  go_wp2_with fail
  refine (implDecodeState_d p0 p1 mode st0 st1 st2 _ (ho_z6.below (below_alloc _ _)) (ho_z7.below (below_alloc _ _)) (ho_z8.below (below_alloc _ _)) (ho_z9.below (below_alloc _ _)) ).mono ?_
  rintro e w8 ⟨vs8, F8, rfl, hb8, hoo8, hnn8, hll8⟩
  have hs8 : Below w7.heap.size w7 w8 := (below_alloc _ _).trans (hb8.mono (by simp <;> omega))
  replace bx3_0 := (bcell1 hs8 (by omega)).trans bx3_0
  replace bx3_1 := (bcell1 hs8 (by omega)).trans bx3_1
  replace bx5_0 := (bcell1 hs8 (by omega)).trans bx5_0
  replace bx5_1 := (bcell1 hs8 (by omega)).trans bx5_1
  replace bx5_2 := (bcell1 hs8 (by omega)).trans bx5_2
  replace bx8_0 := (bcell1 hs8 (by omega)).trans bx8_0
  replace bx8_1 := (bcell1 hs8 (by omega)).trans bx8_1
  replace bx10_0 := (bcell1 hs8 (by omega)).trans bx10_0
  replace bx10_1 := (bcell1 hs8 (by omega)).trans bx10_1
  have bx11_0 : w8.cell? ⟨w7.heap.size, 0, none⟩ = some (.slice a_z7 n_z7 c_z7) := by rw [bcell1 hb8 (by simp <;> omega)]; simp [go_sem]
  have bx11_1 : w8.cell? ⟨w7.heap.size, 1, none⟩ = some (.slice a_z8 n_z8 c_z8) := by rw [bcell1 hb8 (by simp <;> omega)]; simp [go_sem]
  have bx11_2 : w8.cell? ⟨w7.heap.size, 2, none⟩ = some (.slice a_z9 n_z9 c_z9) := by rw [bcell1 hb8 (by simp <;> omega)]; simp [go_sem]
  have hz8 : w7.heap.size + 1 ≤ w8.heap.size := by have := hb8.size; (try simp at this); omega
  replace ho_z5 := ho_z5.below hs8
  replace ho_z6 := ho_z6.below hs8
  replace ho_z7 := ho_z7.below hs8
  replace ho_z8 := ho_z8.below hs8
  replace ho_z9 := ho_z9.below hs8
  replace hB := bnext hB hs8 (Nat.le_refl _)
  clear hb8 hs8
  have hvl8 := owA_len _ _ _ hoo8
  obtain ⟨e_8_0, e_8_1, rfl⟩ : ∃ e_8_0 e_8_1, vs8 = [e_8_0, e_8_1] := (by match vs8, hvl8 with | [e_8_0, e_8_1], _ => exact ⟨e_8_0, e_8_1, rfl⟩)
  clear hvl8
  obtain ⟨G8_0, _, ⟨ev8_0, eg8_0⟩, hr8_0, rfl⟩ := hoo8
  subst ev8_0
  subst eg8_0
  obtain ⟨F_z10, _, ho_z10, hr8_1, rfl⟩ := hr8_0
  have hend8 : _ = [] := hr8_1
  subst hend8
  have hl_z10 : ∀ g, g ∈ F_z10 → w7.heap.size + 1 ≤ g := fun g hg => by have := hll8 g (by simp [hg]); (try simp at this); omega
  obtain ⟨a_z10, n_z10, c_z10, rfl⟩ := (fit_dI ((decS p0 p1 mode st0 st1 st2).1.2)).sliceO ho_z10
  have hi_z10 : ∀ g, g ∈ F_z10 → g < w8.heap.size := Ow.lt _ _ _ ho_z10
  have hd_z10 : (F_z10).Nodup := by simpa using hnn8
  clear hnn8 hll8
  have lt8_0 : b8 < w8.heap.size := by omega
  have lt8_1 : w.heap.size < w8.heap.size := by omega
  have lt8_2 : w.heap.size + 1 < w8.heap.size := by omega
  have lt8_3 : w6.heap.size < w8.heap.size := by omega
  have lt8_4 : w7.heap.size < w8.heap.size := by omega
  go_wp2_with fail
  refine (eqConfig_d (((decS p0 p1 mode st0 st1 st2).1.1)) (dI (decS p0 p1 mode st0 st1 st2).1.2) _ _ _ (ho_z10.rdA.below (below_alloc _ _)) (ho_z5.rdA.below (below_alloc _ _)) (fit_dI ((decS p0 p1 mode st0 st1 st2).1.2))).mono ?_
  rintro e w9 ⟨rfl, hb9⟩
  have hs9 : Below w8.heap.size w8 w9 := (below_alloc _ _).trans (hb9.mono (by simp <;> omega))
  replace bx3_0 := (bcell1 hs9 (by omega)).trans bx3_0
  replace bx3_1 := (bcell1 hs9 (by omega)).trans bx3_1
  replace bx5_0 := (bcell1 hs9 (by omega)).trans bx5_0
  replace bx5_1 := (bcell1 hs9 (by omega)).trans bx5_1
  replace bx5_2 := (bcell1 hs9 (by omega)).trans bx5_2
  replace bx8_0 := (bcell1 hs9 (by omega)).trans bx8_0
  replace bx8_1 := (bcell1 hs9 (by omega)).trans bx8_1
  replace bx10_0 := (bcell1 hs9 (by omega)).trans bx10_0
  replace bx10_1 := (bcell1 hs9 (by omega)).trans bx10_1
  replace bx11_0 := (bcell1 hs9 (by omega)).trans bx11_0
  replace bx11_1 := (bcell1 hs9 (by omega)).trans bx11_1
  replace bx11_2 := (bcell1 hs9 (by omega)).trans bx11_2
  have bx12_0 : w9.cell? ⟨w8.heap.size, 0, none⟩ = some (.int .i64 ((decS p0 p1 mode st0 st1 st2).1.1)) := by rw [bcell1 hb9 (by simp <;> omega)]; simp [go_sem]
  have bx12_1 : w9.cell? ⟨w8.heap.size, 1, none⟩ = some (.slice a_z10 n_z10 c_z10) := by rw [bcell1 hb9 (by simp <;> omega)]; simp [go_sem]
  have hz9 : w8.heap.size + 1 ≤ w9.heap.size := by have := hb9.size; (try simp at this); omega
  replace ho_z5 := ho_z5.below hs9
  replace ho_z6 := ho_z6.below hs9
  replace ho_z7 := ho_z7.below hs9
  replace ho_z8 := ho_z8.below hs9
  replace ho_z9 := ho_z9.below hs9
  replace ho_z10 := ho_z10.below hs9
  replace hB := bnext hB hs9 (Nat.le_refl _)
  clear hb9 hs9
  go_wp2_with fail
  go_region_held3 (fun wx => wx.cell? ⟨w.heap.size, 0, none⟩ = some (.int .i64 p0) ∧ wx.cell? ⟨w.heap.size, 1, none⟩ = some (.slice a_p1 n_p1 c_p1) ∧ wx.cell? ⟨w.heap.size + 1, 0, none⟩ = some (.slice a_st0 n_st0 c_st0) ∧ wx.cell? ⟨w.heap.size + 1, 1, none⟩ = some (.slice a_st1 n_st1 c_st1) ∧ wx.cell? ⟨w.heap.size + 1, 2, none⟩ = some (.slice a_st2 n_st2 c_st2) ∧ wx.cell? ⟨b8, 0, none⟩ = some (.int .i64 ((decS p0 p1 mode st0 st1 st2).1.1)) ∧ wx.cell? ⟨b8, 1, none⟩ = some (.slice a_z5 n_z5 c_z5) ∧ wx.cell? ⟨w6.heap.size, 0, none⟩ = some (.int .i64 p0) ∧ wx.cell? ⟨w6.heap.size, 1, none⟩ = some (.slice a_z6 n_z6 c_z6) ∧ wx.cell? ⟨w7.heap.size, 0, none⟩ = some (.slice a_z7 n_z7 c_z7) ∧ wx.cell? ⟨w7.heap.size, 1, none⟩ = some (.slice a_z8 n_z8 c_z8) ∧ wx.cell? ⟨w7.heap.size, 2, none⟩ = some (.slice a_z9 n_z9 c_z9) ∧ wx.cell? ⟨w8.heap.size, 0, none⟩ = some (.int .i64 ((decS p0 p1 mode st0 st1 st2).1.1)) ∧ wx.cell? ⟨w8.heap.size, 1, none⟩ = some (.slice a_z10 n_z10 c_z10))
    (first
      | go_keep
      | (refine ⟨?_, ?_, ?_, ?_, ?_, ?_, ?_, ?_, ?_, ?_, ?_, ?_, ?_, ?_⟩ <;> (rw [bcell1 hb10 (by show _ < w9.heap.size; omega)]; assumption))
      | (have h1_ : w9.heap.size ≤ w10.heap.size := hb10.size; (try go_split_ands); refine ⟨?_, ?_, ?_, ?_, ?_, ?_, ?_, ?_, ?_, ?_, ?_, ?_, ?_, ?_⟩ <;> (rw [bcell1 hb11 (by omega)]; assumption)))
    (first
      | (go_at_call 15; refine (toProgram_d _ (p0) (dO p1) _ _ (h_p1.below hB.drew) (fit_dO p1) hv_p1).mono ?_; rintro e w10 ⟨vs10, F10, rfl, hb10, hoo10, hnn10, hll10⟩; have hvl10 := owA_len _ _ _ hoo10; obtain ⟨e_10_0, e_10_1, rfl⟩ : ∃ e_10_0 e_10_1, vs10 = [e_10_0, e_10_1] := (by match vs10, hvl10 with | [e_10_0, e_10_1], _ => exact ⟨e_10_0, e_10_1, rfl⟩); clear hvl10; obtain ⟨G10_0, _, ⟨ev10_0, eg10_0⟩, hr10_0, rfl⟩ := hoo10; subst ev10_0; subst eg10_0; obtain ⟨F_z11, _, ho_z11, hr10_1, rfl⟩ := hr10_0; have hend10 : _ = [] := hr10_1; subst hend10; obtain ⟨a_z11, n_z11, c_z11, rfl⟩ := (fit_dO p1).sliceO ho_z11)
      | (go_at_call 17; refine (eqProgram_d (p0) (dO p1) _ _ _ (ho_z6.rdA.below ((Below.refl w9.heap.size w9).drew.trans (hb10.mono (by exact Nat.le_refl _)))) ho_z11.rdA (fit_dO p1)).mono ?_; rintro e w11 ⟨rfl, hb11⟩))
  have hs11 : Below w9.heap.size w9 w11 := (((Below.refl w9.heap.size w9).drew.trans (hb10.mono (by exact Nat.le_refl _))).trans (hb11.mono (by have h_0 : w9.heap.size ≤ w10.heap.size := hb10.size;  first | exact h_0 | omega)))
  have hz10 : w9.heap.size ≤ w10.heap.size := hb10.size
  have hz11 : w10.heap.size ≤ w11.heap.size := hb11.size
  replace bx3_0 := (bcell1 hs11 (by omega)).trans bx3_0
  replace bx3_1 := (bcell1 hs11 (by omega)).trans bx3_1
  replace bx5_0 := (bcell1 hs11 (by omega)).trans bx5_0
  replace bx5_1 := (bcell1 hs11 (by omega)).trans bx5_1
  replace bx5_2 := (bcell1 hs11 (by omega)).trans bx5_2
  replace bx8_0 := (bcell1 hs11 (by omega)).trans bx8_0
  replace bx8_1 := (bcell1 hs11 (by omega)).trans bx8_1
  replace bx10_0 := (bcell1 hs11 (by omega)).trans bx10_0
  replace bx10_1 := (bcell1 hs11 (by omega)).trans bx10_1
  replace bx11_0 := (bcell1 hs11 (by omega)).trans bx11_0
  replace bx11_1 := (bcell1 hs11 (by omega)).trans bx11_1
  replace bx11_2 := (bcell1 hs11 (by omega)).trans bx11_2
  replace bx12_0 := (bcell1 hs11 (by omega)).trans bx12_0
  replace bx12_1 := (bcell1 hs11 (by omega)).trans bx12_1
  replace ho_z5 := ho_z5.below hs11
  replace ho_z6 := ho_z6.below hs11
  replace ho_z7 := ho_z7.below hs11
  replace ho_z8 := ho_z8.below hs11
  replace ho_z9 := ho_z9.below hs11
  replace ho_z10 := ho_z10.below hs11
  replace hB := bnext hB hs11 (Nat.le_refl _)
  clear hs11 hb10 hb11 ho_z11
  go_wp2_with fail
  go_region_held3 (fun wx => wx.cell? ⟨w.heap.size, 0, none⟩ = some (.int .i64 p0) ∧ wx.cell? ⟨w.heap.size, 1, none⟩ = some (.slice a_p1 n_p1 c_p1) ∧ wx.cell? ⟨w.heap.size + 1, 0, none⟩ = some (.slice a_st0 n_st0 c_st0) ∧ wx.cell? ⟨w.heap.size + 1, 1, none⟩ = some (.slice a_st1 n_st1 c_st1) ∧ wx.cell? ⟨w.heap.size + 1, 2, none⟩ = some (.slice a_st2 n_st2 c_st2) ∧ wx.cell? ⟨b8, 0, none⟩ = some (.int .i64 ((decS p0 p1 mode st0 st1 st2).1.1)) ∧ wx.cell? ⟨b8, 1, none⟩ = some (.slice a_z5 n_z5 c_z5) ∧ wx.cell? ⟨w6.heap.size, 0, none⟩ = some (.int .i64 p0) ∧ wx.cell? ⟨w6.heap.size, 1, none⟩ = some (.slice a_z6 n_z6 c_z6) ∧ wx.cell? ⟨w7.heap.size, 0, none⟩ = some (.slice a_z7 n_z7 c_z7) ∧ wx.cell? ⟨w7.heap.size, 1, none⟩ = some (.slice a_z8 n_z8 c_z8) ∧ wx.cell? ⟨w7.heap.size, 2, none⟩ = some (.slice a_z9 n_z9 c_z9) ∧ wx.cell? ⟨w8.heap.size, 0, none⟩ = some (.int .i64 ((decS p0 p1 mode st0 st1 st2).1.1)) ∧ wx.cell? ⟨w8.heap.size, 1, none⟩ = some (.slice a_z10 n_z10 c_z10))
    (first
      | go_keep
      | (refine ⟨?_, ?_, ?_, ?_, ?_, ?_, ?_, ?_, ?_, ?_, ?_, ?_, ?_, ?_⟩ <;> (rw [bcell1 hb12 (by show _ < w11.heap.size; omega)]; assumption))
      | (have h1_ : w11.heap.size ≤ w12.heap.size := hb12.size; (try go_split_ands); refine ⟨?_, ?_, ?_, ?_, ?_, ?_, ?_, ?_, ?_, ?_, ?_, ?_, ?_, ?_⟩ <;> (rw [bcell1 hb13 (by omega)]; assumption)))
    (first
      | (go_at_call 30; refine (toState_d _ (dB st0) _ (dII st1) _ (dI st2) _ _ (h_st0.below hB.drew) (h_st1.below hB.drew) (h_st2.below hB.drew) (fit_dB st0) (fit_dII st1) (fit_dI st2) hv_st0 hv_st1 hv_st2).mono ?_; rintro e w12 ⟨vs12, F12, rfl, hb12, hoo12, hnn12, hll12⟩; have hvl12 := owA_len _ _ _ hoo12; obtain ⟨e_12_0, e_12_1, e_12_2, rfl⟩ : ∃ e_12_0 e_12_1 e_12_2, vs12 = [e_12_0, e_12_1, e_12_2] := (by match vs12, hvl12 with | [e_12_0, e_12_1, e_12_2], _ => exact ⟨e_12_0, e_12_1, e_12_2, rfl⟩); clear hvl12; obtain ⟨F_z12, _, ho_z12, hr12_0, rfl⟩ := hoo12; obtain ⟨F_z13, _, ho_z13, hr12_1, rfl⟩ := hr12_0; obtain ⟨F_z14, _, ho_z14, hr12_2, rfl⟩ := hr12_1; have hend12 : _ = [] := hr12_2; subst hend12; obtain ⟨a_z12, n_z12, c_z12, rfl⟩ := (fit_dB st0).sliceO ho_z12; obtain ⟨a_z13, n_z13, c_z13, rfl⟩ := (fit_dII st1).sliceO ho_z13; obtain ⟨a_z14, n_z14, c_z14, rfl⟩ := (fit_dI st2).sliceO ho_z14)
      | (go_at_call 33; refine (eqState_d (dB st0) _ (dII st1) _ (dI st2) _ _ _ _ _ (ho_z7.rdA.below ((Below.refl w11.heap.size w11).drew.trans (hb12.mono (by exact Nat.le_refl _)))) (ho_z8.rdA.below ((Below.refl w11.heap.size w11).drew.trans (hb12.mono (by exact Nat.le_refl _)))) (ho_z9.rdA.below ((Below.refl w11.heap.size w11).drew.trans (hb12.mono (by exact Nat.le_refl _)))) ho_z12.rdA ho_z13.rdA ho_z14.rdA (fit_dB st0) (fit_dII st1) (fit_dI st2)).mono ?_; rintro e w13 ⟨rfl, hb13⟩))
  have hs13 : Below w11.heap.size w11 w13 := (((Below.refl w11.heap.size w11).drew.trans (hb12.mono (by exact Nat.le_refl _))).trans (hb13.mono (by have h_0 : w11.heap.size ≤ w12.heap.size := hb12.size;  first | exact h_0 | omega)))
  have hz12 : w11.heap.size ≤ w12.heap.size := hb12.size
  have hz13 : w12.heap.size ≤ w13.heap.size := hb13.size
  replace bx3_0 := (bcell1 hs13 (by omega)).trans bx3_0
  replace bx3_1 := (bcell1 hs13 (by omega)).trans bx3_1
  replace bx5_0 := (bcell1 hs13 (by omega)).trans bx5_0
  replace bx5_1 := (bcell1 hs13 (by omega)).trans bx5_1
  replace bx5_2 := (bcell1 hs13 (by omega)).trans bx5_2
  replace bx8_0 := (bcell1 hs13 (by omega)).trans bx8_0
  replace bx8_1 := (bcell1 hs13 (by omega)).trans bx8_1
  replace bx10_0 := (bcell1 hs13 (by omega)).trans bx10_0
  replace bx10_1 := (bcell1 hs13 (by omega)).trans bx10_1
  replace bx11_0 := (bcell1 hs13 (by omega)).trans bx11_0
  replace bx11_1 := (bcell1 hs13 (by omega)).trans bx11_1
  replace bx11_2 := (bcell1 hs13 (by omega)).trans bx11_2
  replace bx12_0 := (bcell1 hs13 (by omega)).trans bx12_0
  replace bx12_1 := (bcell1 hs13 (by omega)).trans bx12_1
  replace ho_z5 := ho_z5.below hs13
  replace ho_z6 := ho_z6.below hs13
  replace ho_z7 := ho_z7.below hs13
  replace ho_z8 := ho_z8.below hs13
  replace ho_z9 := ho_z9.below hs13
  replace ho_z10 := ho_z10.below hs13
  replace hB := bnext hB hs13 (Nat.le_refl _)
  clear hs13 hb12 hb13 ho_z12 ho_z13 ho_z14
  go_wp2_with fail
  refine (markProgram_d (p0) (dO p1) _ _ (1) _ ho_z6 (fit_dO p1) hd_z6 (by first | assumption | (have := cnt_le_vol (fit_dO p1); omega)) (by omega) (by omega)).mono ?_
  rintro e w14 ⟨rfl, hb14, hk14_z6⟩
  have hz14 : w13.heap.size ≤ w14.heap.size := hb14.size
  have hf14 : ∀ g, g ∈ F_z6 → wE8.heap.size ≤ g ∧ g < w6.heap.size := fun g hg => by exact ⟨hl_z6 g hg, hi_z6 g hg⟩
  replace bx3_0 := (hb14.cell (by omega) (fun hg => by have := hf14 _ hg; omega) _).trans bx3_0
  replace bx3_1 := (hb14.cell (by omega) (fun hg => by have := hf14 _ hg; omega) _).trans bx3_1
  replace bx5_0 := (hb14.cell (by omega) (fun hg => by have := hf14 _ hg; omega) _).trans bx5_0
  replace bx5_1 := (hb14.cell (by omega) (fun hg => by have := hf14 _ hg; omega) _).trans bx5_1
  replace bx5_2 := (hb14.cell (by omega) (fun hg => by have := hf14 _ hg; omega) _).trans bx5_2
  replace bx8_0 := (hb14.cell (by omega) (fun hg => by have := hf14 _ hg; omega) _).trans bx8_0
  replace bx8_1 := (hb14.cell (by omega) (fun hg => by have := hf14 _ hg; omega) _).trans bx8_1
  replace bx10_0 := (hb14.cell (by omega) (fun hg => by have := hf14 _ hg; omega) _).trans bx10_0
  replace bx10_1 := (hb14.cell (by omega) (fun hg => by have := hf14 _ hg; omega) _).trans bx10_1
  replace bx11_0 := (hb14.cell (by omega) (fun hg => by have := hf14 _ hg; omega) _).trans bx11_0
  replace bx11_1 := (hb14.cell (by omega) (fun hg => by have := hf14 _ hg; omega) _).trans bx11_1
  replace bx11_2 := (hb14.cell (by omega) (fun hg => by have := hf14 _ hg; omega) _).trans bx11_2
  replace bx12_0 := (hb14.cell (by omega) (fun hg => by have := hf14 _ hg; omega) _).trans bx12_0
  replace bx12_1 := (hb14.cell (by omega) (fun hg => by have := hf14 _ hg; omega) _).trans bx12_1
  replace ho_z5 := hb14.ow ho_z5 (fun g h1 h2 => by have := hl_z5 g h1; have := hi_z5 g h1; have := hf14 g h2; omega)
  replace ho_z7 := hb14.ow ho_z7 (fun g h1 h2 => by have := hl_z7 g h1; have := hi_z7 g h1; have := hf14 g h2; omega)
  replace ho_z8 := hb14.ow ho_z8 (fun g h1 h2 => by have := hl_z8 g h1; have := hi_z8 g h1; have := hf14 g h2; omega)
  replace ho_z9 := hb14.ow ho_z9 (fun g h1 h2 => by have := hl_z9 g h1; have := hi_z9 g h1; have := hf14 g h2; omega)
  replace ho_z10 := hb14.ow ho_z10 (fun g h1 h2 => by have := hl_z10 g h1; have := hi_z10 g h1; have := hf14 g h2; omega)
  replace hB := hB.trans (hb14.below (by omega) (fun g hg => by have := hf14 g hg; omega))
  clear hb14 hf14
  clear ho_z6
  have ho_z6 := hk14_z6
  clear hk14_z6
  have hcv14_z6 := cnt_le_vol (fit_dO p1)
  clear ho_z6
  go_wp2_with fail
  refine (markState_d (dB st0) _ (dII st1) _ (dI st2) _ _ _ _ (1 + cnt (dO p1)) _ ho_z7 ho_z8 ho_z9 (fit_dB st0) (fit_dII st1) (fit_dI st2) hd_z7 (by first | assumption | (have := cnt_le_vol (fit_dB st0); omega)) (by first | assumption | (have := cnt_le_vol (fit_dII st1); omega)) (by first | assumption | (have := cnt_le_vol (fit_dI st2); omega)) (by omega) (by omega)).mono ?_
  rintro e w15 ⟨rfl, hb15, hk15_z7, hk15_z8, hk15_z9⟩
  have hz15 : w14.heap.size ≤ w15.heap.size := hb15.size
  have hf15 : ∀ g, g ∈ F_z7 ++ (F_z8 ++ F_z9) → w6.heap.size + 1 ≤ g ∧ g < w7.heap.size := fun g hg => by (try simp only [List.mem_append] at hg); rcases hg with hg | hg | hg <;> first | exact ⟨hl_z7 g hg, hi_z7 g hg⟩ | exact ⟨hl_z8 g hg, hi_z8 g hg⟩ | exact ⟨hl_z9 g hg, hi_z9 g hg⟩
  replace bx3_0 := (hb15.cell (by omega) (fun hg => by have := hf15 _ hg; omega) _).trans bx3_0
  replace bx3_1 := (hb15.cell (by omega) (fun hg => by have := hf15 _ hg; omega) _).trans bx3_1
  replace bx5_0 := (hb15.cell (by omega) (fun hg => by have := hf15 _ hg; omega) _).trans bx5_0
  replace bx5_1 := (hb15.cell (by omega) (fun hg => by have := hf15 _ hg; omega) _).trans bx5_1
  replace bx5_2 := (hb15.cell (by omega) (fun hg => by have := hf15 _ hg; omega) _).trans bx5_2
  replace bx8_0 := (hb15.cell (by omega) (fun hg => by have := hf15 _ hg; omega) _).trans bx8_0
  replace bx8_1 := (hb15.cell (by omega) (fun hg => by have := hf15 _ hg; omega) _).trans bx8_1
  replace bx10_0 := (hb15.cell (by omega) (fun hg => by have := hf15 _ hg; omega) _).trans bx10_0
  replace bx10_1 := (hb15.cell (by omega) (fun hg => by have := hf15 _ hg; omega) _).trans bx10_1
  replace bx11_0 := (hb15.cell (by omega) (fun hg => by have := hf15 _ hg; omega) _).trans bx11_0
  replace bx11_1 := (hb15.cell (by omega) (fun hg => by have := hf15 _ hg; omega) _).trans bx11_1
  replace bx11_2 := (hb15.cell (by omega) (fun hg => by have := hf15 _ hg; omega) _).trans bx11_2
  replace bx12_0 := (hb15.cell (by omega) (fun hg => by have := hf15 _ hg; omega) _).trans bx12_0
  replace bx12_1 := (hb15.cell (by omega) (fun hg => by have := hf15 _ hg; omega) _).trans bx12_1
  replace ho_z5 := hb15.ow ho_z5 (fun g h1 h2 => by have := hl_z5 g h1; have := hi_z5 g h1; have := hf15 g h2; omega)
  replace ho_z10 := hb15.ow ho_z10 (fun g h1 h2 => by have := hl_z10 g h1; have := hi_z10 g h1; have := hf15 g h2; omega)
  replace hB := hB.trans (hb15.below (by omega) (fun g hg => by have := hf15 g hg; omega))
  clear hb15 hf15
  clear ho_z7
  have ho_z7 := hk15_z7
  clear hk15_z7
  clear ho_z8
  have ho_z8 := hk15_z8
  clear hk15_z8
  clear ho_z9
  have ho_z9 := hk15_z9
  clear hk15_z9
  have hcv15_z7 := cnt_le_vol (fit_dB st0)
  have hcv15_z8 := cnt_le_vol (fit_dII st1)
  have hcv15_z9 := cnt_le_vol (fit_dI st2)
  clear ho_z7 ho_z8 ho_z9
  go_wp2_with fail
  refine (eqConfig_d (((decS p0 p1 mode st0 st1 st2).1.1)) (dI (decS p0 p1 mode st0 st1 st2).1.2) _ _ _ ho_z10.rdA ho_z5.rdA (fit_dI ((decS p0 p1 mode st0 st1 st2).1.2))).mono ?_
  rintro e w16 ⟨rfl, hb16⟩
  have hs16 : Below w15.heap.size w15 w16 := hb16
  replace bx3_0 := (bcell1 hs16 (by omega)).trans bx3_0
  replace bx3_1 := (bcell1 hs16 (by omega)).trans bx3_1
  replace bx5_0 := (bcell1 hs16 (by omega)).trans bx5_0
  replace bx5_1 := (bcell1 hs16 (by omega)).trans bx5_1
  replace bx5_2 := (bcell1 hs16 (by omega)).trans bx5_2
  replace bx8_0 := (bcell1 hs16 (by omega)).trans bx8_0
  replace bx8_1 := (bcell1 hs16 (by omega)).trans bx8_1
  replace bx10_0 := (bcell1 hs16 (by omega)).trans bx10_0
  replace bx10_1 := (bcell1 hs16 (by omega)).trans bx10_1
  replace bx11_0 := (bcell1 hs16 (by omega)).trans bx11_0
  replace bx11_1 := (bcell1 hs16 (by omega)).trans bx11_1
  replace bx11_2 := (bcell1 hs16 (by omega)).trans bx11_2
  replace bx12_0 := (bcell1 hs16 (by omega)).trans bx12_0
  replace bx12_1 := (bcell1 hs16 (by omega)).trans bx12_1
  have hz16 : w15.heap.size ≤ w16.heap.size := hb16.size
  replace ho_z5 := ho_z5.below hs16
  replace ho_z10 := ho_z10.below hs16
  replace hB := bnext hB hs16 (Nat.le_refl _)
  clear hb16 hs16
  go_wp2_with fail
  refine (markConfig_d (((decS p0 p1 mode st0 st1 st2).1.1)) (dI (decS p0 p1 mode st0 st1 st2).1.2) _ _ (1) _ ho_z10 (fit_dI ((decS p0 p1 mode st0 st1 st2).1.2)) hd_z10 (by first | assumption | (have := cnt_le_vol (fit_dI ((decS p0 p1 mode st0 st1 st2).1.2)); omega)) (by omega) (by omega)).mono ?_
  rintro e w17 ⟨rfl, hb17, hk17_z10⟩
  have hz17 : w16.heap.size ≤ w17.heap.size := hb17.size
  have hf17 : ∀ g, g ∈ F_z10 → w7.heap.size + 1 ≤ g ∧ g < w8.heap.size := fun g hg => by exact ⟨hl_z10 g hg, hi_z10 g hg⟩
  replace bx3_0 := (hb17.cell (by omega) (fun hg => by have := hf17 _ hg; omega) _).trans bx3_0
  replace bx3_1 := (hb17.cell (by omega) (fun hg => by have := hf17 _ hg; omega) _).trans bx3_1
  replace bx5_0 := (hb17.cell (by omega) (fun hg => by have := hf17 _ hg; omega) _).trans bx5_0
  replace bx5_1 := (hb17.cell (by omega) (fun hg => by have := hf17 _ hg; omega) _).trans bx5_1
  replace bx5_2 := (hb17.cell (by omega) (fun hg => by have := hf17 _ hg; omega) _).trans bx5_2
  replace bx8_0 := (hb17.cell (by omega) (fun hg => by have := hf17 _ hg; omega) _).trans bx8_0
  replace bx8_1 := (hb17.cell (by omega) (fun hg => by have := hf17 _ hg; omega) _).trans bx8_1
  replace bx10_0 := (hb17.cell (by omega) (fun hg => by have := hf17 _ hg; omega) _).trans bx10_0
  replace bx10_1 := (hb17.cell (by omega) (fun hg => by have := hf17 _ hg; omega) _).trans bx10_1
  replace bx11_0 := (hb17.cell (by omega) (fun hg => by have := hf17 _ hg; omega) _).trans bx11_0
  replace bx11_1 := (hb17.cell (by omega) (fun hg => by have := hf17 _ hg; omega) _).trans bx11_1
  replace bx11_2 := (hb17.cell (by omega) (fun hg => by have := hf17 _ hg; omega) _).trans bx11_2
  replace bx12_0 := (hb17.cell (by omega) (fun hg => by have := hf17 _ hg; omega) _).trans bx12_0
  replace bx12_1 := (hb17.cell (by omega) (fun hg => by have := hf17 _ hg; omega) _).trans bx12_1
  replace ho_z5 := hb17.ow ho_z5 (fun g h1 h2 => by have := hl_z5 g h1; have := hi_z5 g h1; have := hf17 g h2; omega)
  replace hB := hB.trans (hb17.below (by omega) (fun g hg => by have := hf17 g hg; omega))
  clear hb17 hf17
  clear ho_z10
  have ho_z10 := hk17_z10
  clear hk17_z10
  have hcv17_z10 := cnt_le_vol (fit_dI ((decS p0 p1 mode st0 st1 st2).1.2))
  go_wp2_with fail
  refine (heldConfig_d Any (((decS p0 p1 mode st0 st1 st2).1.1)) (dI (decS p0 p1 mode st0 st1 st2).1.2) _ (1) _ ho_z10.rdA (fit_dI ((decS p0 p1 mode st0 st1 st2).1.2)) (by first | assumption | (have := cnt_le_vol (fit_dI ((decS p0 p1 mode st0 st1 st2).1.2)); omega)) (by omega) (by omega)).mono ?_
  rintro e w18 ⟨rfl, hb18⟩
  have hs18 : Below w17.heap.size w17 w18 := hb18
  replace bx3_0 := (bcell1 hs18 (by omega)).trans bx3_0
  replace bx3_1 := (bcell1 hs18 (by omega)).trans bx3_1
  replace bx5_0 := (bcell1 hs18 (by omega)).trans bx5_0
  replace bx5_1 := (bcell1 hs18 (by omega)).trans bx5_1
  replace bx5_2 := (bcell1 hs18 (by omega)).trans bx5_2
  replace bx8_0 := (bcell1 hs18 (by omega)).trans bx8_0
  replace bx8_1 := (bcell1 hs18 (by omega)).trans bx8_1
  replace bx10_0 := (bcell1 hs18 (by omega)).trans bx10_0
  replace bx10_1 := (bcell1 hs18 (by omega)).trans bx10_1
  replace bx11_0 := (bcell1 hs18 (by omega)).trans bx11_0
  replace bx11_1 := (bcell1 hs18 (by omega)).trans bx11_1
  replace bx11_2 := (bcell1 hs18 (by omega)).trans bx11_2
  replace bx12_0 := (bcell1 hs18 (by omega)).trans bx12_0
  replace bx12_1 := (bcell1 hs18 (by omega)).trans bx12_1
  have hz18 : w17.heap.size ≤ w18.heap.size := hb18.size
  replace ho_z5 := ho_z5.below hs18
  replace ho_z10 := ho_z10.below hs18
  replace hB := bnext hB hs18 (Nat.le_refl _)
  clear hb18 hs18
  go_wp2_with fail
  rename_i K17 hK17
  have HRUN0 : Hid (∀ args w, (callFunc 15 args).run Try.prog w = .ok (.enter 15 args) w) := Lib.hid (callFunc_run Try.func15 (by kernel_rfl) rfl)
  have HRUN1 : Hid (∀ args w, (callFunc 30 args).run Try.prog w = .ok (.enter 30 args) w) := Lib.hid (callFunc_run Try.func30 (by kernel_rfl) rfl)
  have HRUN2 : Hid (∀ args w, (callFunc 31 args).run Try.prog w = .ok (.enter 31 args) w) := Lib.hid (callFunc_run Try.func31 (by kernel_rfl) rfl)
  suffices key : ∀ {t0 t1 t2 t3 t4 t5 t6 t7 t10 t11 t13 t14 t19 t20 t21 t22 t23 t24 t25 t26 t27 t28 t29 t30 t31 t32 t33 t34 t35 t36 t37 t38 t39 t40 t41 t42 t43 t44 t45 t46 t47 t48 t49 t50 t51 t52 t53 t54 t55 t56 t57 t58 t59 t60 t61 t62 t63 t64 t65 t66 t67 t68 t69 t70 t71 t72 t73 t74 t75 t76 t77 t78 t79 t80 t81 t82 t83 t84 t85 t86 t87 t88 t89 t90 t91 t92 t93 t94 t95 t96 t97 t98 t99 t100 t101 t102 t103 t104 t105 t106 t107 t108 t109 t110 t111 t112 t113 t114 t115 t116 t117 t118 t119 t120 t121 t122 t123 : Value} {b17 : Nat} {wE17 : World} {a_z19 : Option Addr} {n_z19 c_z19 : Nat} {F_z19 : List Nat}, w18.heap.size ≤ b17 → b17 < wE17.heap.size → Below w18.heap.size w18 wE17 → wE17.cell? ⟨b17, 0, none⟩ = some (.int .i64 ((decS p0 p1 mode st0 st1 st2).1.1)) → wE17.cell? ⟨b17, 1, none⟩ = some (.slice a_z19 n_z19 c_z19) → Ow wE17 (dI (decS p0 p1 mode st0 st1 st2).1.2) (.slice a_z19 n_z19 c_z19) F_z19 → (F_z19).Nodup → (∀ g, g ∈ F_z19 → w18.heap.size ≤ g) → K17 ⟨#[t0, t1, t2, t3, t4, t5, t6, t7, .pointer (some ⟨b8, 0, none⟩), .int .i64 ((decS p0 p1 mode st0 st1 st2).2), t10, t11, .pointer (some ⟨w8.heap.size, 0, none⟩), t13, t14, .int .i64 (1 + cnt (dI (decS p0 p1 mode st0 st1 st2).1.2)), .int .i64 (1 + cnt (dI (decS p0 p1 mode st0 st1 st2).1.2)), .pointer (some ⟨b17, 0, none⟩), .int .i64 ((decS p0 p1 mode st0 st1 st2).2), t19, t20, t21, t22, t23, t24, t25, t26, t27, t28, t29, t30, t31, t32, t33, t34, t35, t36, t37, t38, t39, t40, t41, t42, t43, t44, t45, t46, t47, t48, t49, t50, t51, t52, t53, t54, t55, t56, t57, t58, t59, t60, t61, t62, t63, t64, t65, t66, t67, t68, t69, t70, t71, t72, t73, t74, t75, t76, t77, t78, t79, t80, t81, t82, t83, t84, t85, t86, t87, t88, t89, t90, t91, t92, t93, t94, t95, t96, t97, t98, t99, t100, t101, t102, t103, t104, t105, t106, t107, t108, t109, t110, t111, t112, t113, t114, t115, t116, t117, t118, t119, t120, t121, t122, t123], []⟩ wE17 by
    have hcD : Below w18.heap.size w18 w18.drew := (Below.refl _ _).drew
    have hS0 : w18.drew.cell? ⟨w.heap.size, 0, none⟩ = some (.int .i64 p0) ∧ w18.drew.cell? ⟨w.heap.size, 1, none⟩ = some (.slice a_p1 n_p1 c_p1) ∧ w18.drew.cell? ⟨w.heap.size + 1, 0, none⟩ = some (.slice a_st0 n_st0 c_st0) ∧ w18.drew.cell? ⟨w.heap.size + 1, 1, none⟩ = some (.slice a_st1 n_st1 c_st1) ∧ w18.drew.cell? ⟨w.heap.size + 1, 2, none⟩ = some (.slice a_st2 n_st2 c_st2) ∧ w18.drew.cell? ⟨b8, 0, none⟩ = some (.int .i64 ((decS p0 p1 mode st0 st1 st2).1.1)) ∧ w18.drew.cell? ⟨b8, 1, none⟩ = some (.slice a_z5 n_z5 c_z5) ∧ w18.drew.cell? ⟨w6.heap.size, 0, none⟩ = some (.int .i64 p0) ∧ w18.drew.cell? ⟨w6.heap.size, 1, none⟩ = some (.slice a_z6 n_z6 c_z6) ∧ w18.drew.cell? ⟨w7.heap.size, 0, none⟩ = some (.slice a_z7 n_z7 c_z7) ∧ w18.drew.cell? ⟨w7.heap.size, 1, none⟩ = some (.slice a_z8 n_z8 c_z8) ∧ w18.drew.cell? ⟨w7.heap.size, 2, none⟩ = some (.slice a_z9 n_z9 c_z9) ∧ w18.drew.cell? ⟨w8.heap.size, 0, none⟩ = some (.int .i64 ((decS p0 p1 mode st0 st1 st2).1.1)) ∧ w18.drew.cell? ⟨w8.heap.size, 1, none⟩ = some (.slice a_z10 n_z10 c_z10) := ⟨bx3_0, bx3_1, bx5_0, bx5_1, bx5_2, bx8_0, bx8_1, bx10_0, bx10_1, bx11_0, bx11_1, bx11_2, bx12_0, bx12_1⟩
    refine wp_region_C (n := 12) (l := #[false, false, false, false, false, false, false, false, false, false, false, false]) (fun wx => wx.cell? ⟨w.heap.size, 0, none⟩ = some (.int .i64 p0) ∧ wx.cell? ⟨w.heap.size, 1, none⟩ = some (.slice a_p1 n_p1 c_p1) ∧ wx.cell? ⟨w.heap.size + 1, 0, none⟩ = some (.slice a_st0 n_st0 c_st0) ∧ wx.cell? ⟨w.heap.size + 1, 1, none⟩ = some (.slice a_st1 n_st1 c_st1) ∧ wx.cell? ⟨w.heap.size + 1, 2, none⟩ = some (.slice a_st2 n_st2 c_st2) ∧ wx.cell? ⟨b8, 0, none⟩ = some (.int .i64 ((decS p0 p1 mode st0 st1 st2).1.1)) ∧ wx.cell? ⟨b8, 1, none⟩ = some (.slice a_z5 n_z5 c_z5) ∧ wx.cell? ⟨w6.heap.size, 0, none⟩ = some (.int .i64 p0) ∧ wx.cell? ⟨w6.heap.size, 1, none⟩ = some (.slice a_z6 n_z6 c_z6) ∧ wx.cell? ⟨w7.heap.size, 0, none⟩ = some (.slice a_z7 n_z7 c_z7) ∧ wx.cell? ⟨w7.heap.size, 1, none⟩ = some (.slice a_z8 n_z8 c_z8) ∧ wx.cell? ⟨w7.heap.size, 2, none⟩ = some (.slice a_z9 n_z9 c_z9) ∧ wx.cell? ⟨w8.heap.size, 0, none⟩ = some (.int .i64 ((decS p0 p1 mode st0 st1 st2).1.1)) ∧ wx.cell? ⟨w8.heap.size, 1, none⟩ = some (.slice a_z10 n_z10 c_z10)) [] (by kernel_rfl) rfl rfl ?_
    refine wpC_take (i := 0) (v := ?v0_20) (l' := #[true, false, false, false, false, false, false, false, false, false, false, false]) [1, 4, 5, 6, 7, 8, 10, 11] rfl (by kernel_rfl) (by kernel_rfl) (by kernel_rfl) (by kernel_rfl) (by kernel_rfl) rfl (fun _ _ _ h => h) (by rfl) (fun wx hS => ?q0_20) (by assumption) ?_
    case q0_20 => ((try dsimp only at hS); obtain ⟨hS0, hS1, hS2, hS3, hS4, hS5, hS6, hS7, hS8, hS9, hS10, hS11, hS12, hS13⟩ := hS; go_simp; try with_reducible rfl)
    try simp only [List.getElem_toArray, List.getElem_cons_zero, Act.put, List.setIfInBounds_toArray, List.set_cons_zero, List.set_cons_succ]
    refine wpC_take (i := 2) (v := ?v2_21) (l' := #[true, false, true, false, false, false, false, false, false, false, false, false]) [5, 6, 7, 8, 10, 11] rfl (by kernel_rfl) (by kernel_rfl) (by kernel_rfl) (by kernel_rfl) (by kernel_rfl) rfl (fun _ _ _ h => h) (by rfl) (fun wx hS => ?q2_21) (by assumption) ?_
    case q2_21 => (go_simp; try with_reducible rfl)
    try simp only [List.getElem_toArray, List.getElem_cons_succ, List.getElem_cons_zero, Act.put, List.setIfInBounds_toArray, List.set_cons_zero, List.set_cons_succ]
    refine wpC_take (i := 3) (v := ?v3_22) (l' := #[true, false, true, true, false, false, false, false, false, false, false, false]) [4, 5, 6, 7, 8, 10, 11] rfl (by kernel_rfl) (by kernel_rfl) (by kernel_rfl) (by kernel_rfl) (by kernel_rfl) rfl (fun _ _ _ h => h) (by rfl) (fun wx hS => ?q3_22) (by assumption) ?_
    case q3_22 => ((try dsimp only at hS); obtain ⟨hS0, hS1, hS2, hS3, hS4, hS5, hS6, hS7, hS8, hS9, hS10, hS11, hS12, hS13⟩ := hS; go_simp; try with_reducible rfl)
    try simp only [List.getElem_toArray, List.getElem_cons_succ, List.getElem_cons_zero, Act.put, List.setIfInBounds_toArray, List.set_cons_zero, List.set_cons_succ]
    refine wpC_two (i := 1) (j := 9) (l' := #[true, true, true, true, false, false, false, false, false, false, false, false]) (l'' := #[true, false, true, true, false, false, false, false, false, true, false, false]) (by kernel_rfl) rfl rfl rfl rfl (by rfl) (by rfl) (fun Kr hKr => ?_) (fun Kr hKr => ?_)
    · refine step_callV rfl 15 #[.tmp 99] _ rfl HRUN0.out #[.agg #[.int .i64 p0, .slice a_p1 n_p1 c_p1]] (by first | rfl | (simp [Act.eval]; done) | (simp [Act.eval]; rfl) | (simp [Act.eval]; repeat' constructor)) (toProgram_d _ (p0) (dO p1) _ _ (h_p1.below (bnext hB hcD (Nat.le_refl _))) (fit_dO p1) hv_p1) ?_
      rintro e w19 ⟨vs19, F19, rfl, hb19, hoo19, hnn19, hll19⟩
      have hvl19 := owA_len _ _ _ hoo19
      obtain ⟨e_19_0, e_19_1, rfl⟩ : ∃ e_19_0 e_19_1, vs19 = [e_19_0, e_19_1] := (by match vs19, hvl19 with | [e_19_0, e_19_1], _ => exact ⟨e_19_0, e_19_1, rfl⟩)
      clear hvl19
      obtain ⟨G19_0, _, ⟨ev19_0, eg19_0⟩, hr19_0, rfl⟩ := hoo19
      subst ev19_0
      subst eg19_0
      obtain ⟨F_z15, _, ho_z15, hr19_1, rfl⟩ := hr19_0
      have hend19 : _ = [] := hr19_1
      subst hend19
      obtain ⟨a_z15, n_z15, c_z15, rfl⟩ := (fit_dO p1).sliceO ho_z15
      refine ⟨_, rfl, ?_⟩
      have hc19 : Below w18.heap.size w18 w19 := hcD.trans (hb19.mono hcD.size)
      have hq19 := hc19.size
      have hy19 := hb19.size
      refine hKr _ _ (fun _ => ⟨(bcell1 hc19 (by omega)).trans bx3_0, (bcell1 hc19 (by omega)).trans bx3_1, (bcell1 hc19 (by omega)).trans bx5_0, (bcell1 hc19 (by omega)).trans bx5_1, (bcell1 hc19 (by omega)).trans bx5_2, (bcell1 hc19 (by omega)).trans bx8_0, (bcell1 hc19 (by omega)).trans bx8_1, (bcell1 hc19 (by omega)).trans bx10_0, (bcell1 hc19 (by omega)).trans bx10_1, (bcell1 hc19 (by omega)).trans bx11_0, (bcell1 hc19 (by omega)).trans bx11_1, (bcell1 hc19 (by omega)).trans bx11_2, (bcell1 hc19 (by omega)).trans bx12_0, (bcell1 hc19 (by omega)).trans bx12_1⟩) ?_
      clear hKr Kr
      try simp only [List.getElem_toArray, List.getElem_cons_succ, List.getElem_cons_zero, Act.put, List.setIfInBounds_toArray, List.set_cons_zero, List.set_cons_succ]
      have hS19 : w19.cell? ⟨w.heap.size, 0, none⟩ = some (.int .i64 p0) ∧ w19.cell? ⟨w.heap.size, 1, none⟩ = some (.slice a_p1 n_p1 c_p1) ∧ w19.cell? ⟨w.heap.size + 1, 0, none⟩ = some (.slice a_st0 n_st0 c_st0) ∧ w19.cell? ⟨w.heap.size + 1, 1, none⟩ = some (.slice a_st1 n_st1 c_st1) ∧ w19.cell? ⟨w.heap.size + 1, 2, none⟩ = some (.slice a_st2 n_st2 c_st2) ∧ w19.cell? ⟨b8, 0, none⟩ = some (.int .i64 ((decS p0 p1 mode st0 st1 st2).1.1)) ∧ w19.cell? ⟨b8, 1, none⟩ = some (.slice a_z5 n_z5 c_z5) ∧ w19.cell? ⟨w6.heap.size, 0, none⟩ = some (.int .i64 p0) ∧ w19.cell? ⟨w6.heap.size, 1, none⟩ = some (.slice a_z6 n_z6 c_z6) ∧ w19.cell? ⟨w7.heap.size, 0, none⟩ = some (.slice a_z7 n_z7 c_z7) ∧ w19.cell? ⟨w7.heap.size, 1, none⟩ = some (.slice a_z8 n_z8 c_z8) ∧ w19.cell? ⟨w7.heap.size, 2, none⟩ = some (.slice a_z9 n_z9 c_z9) ∧ w19.cell? ⟨w8.heap.size, 0, none⟩ = some (.int .i64 ((decS p0 p1 mode st0 st1 st2).1.1)) ∧ w19.cell? ⟨w8.heap.size, 1, none⟩ = some (.slice a_z10 n_z10 c_z10) := ⟨(bcell1 hc19 (by omega)).trans bx3_0, (bcell1 hc19 (by omega)).trans bx3_1, (bcell1 hc19 (by omega)).trans bx5_0, (bcell1 hc19 (by omega)).trans bx5_1, (bcell1 hc19 (by omega)).trans bx5_2, (bcell1 hc19 (by omega)).trans bx8_0, (bcell1 hc19 (by omega)).trans bx8_1, (bcell1 hc19 (by omega)).trans bx10_0, (bcell1 hc19 (by omega)).trans bx10_1, (bcell1 hc19 (by omega)).trans bx11_0, (bcell1 hc19 (by omega)).trans bx11_1, (bcell1 hc19 (by omega)).trans bx11_2, (bcell1 hc19 (by omega)).trans bx12_0, (bcell1 hc19 (by omega)).trans bx12_1⟩
      refine wpC_two (i := 4) (j := 9) (l' := #[true, true, true, true, true, false, false, false, false, false, false, false]) (l'' := #[true, true, true, true, false, false, false, false, false, true, false, false]) (by kernel_rfl) rfl rfl rfl rfl (by rfl) (by rfl) (fun Kr hKr => ?_) (fun Kr hKr => ?_)
      · refine step_callV rfl 30 #[.tmp 102] _ rfl HRUN1.out #[.agg #[.slice a_st0 n_st0 c_st0, .slice a_st1 n_st1 c_st1, .slice a_st2 n_st2 c_st2]] (by first | rfl | (simp [Act.eval]; done) | (simp [Act.eval]; rfl) | (simp [Act.eval]; repeat' constructor)) (toState_d _ (dB st0) _ (dII st1) _ (dI st2) _ _ (h_st0.below (bnext hB hc19 (Nat.le_refl _))) (h_st1.below (bnext hB hc19 (Nat.le_refl _))) (h_st2.below (bnext hB hc19 (Nat.le_refl _))) (fit_dB st0) (fit_dII st1) (fit_dI st2) hv_st0 hv_st1 hv_st2) ?_
        rintro e w20 ⟨vs20, F20, rfl, hb20, hoo20, hnn20, hll20⟩
        have hvl20 := owA_len _ _ _ hoo20
        obtain ⟨e_20_0, e_20_1, e_20_2, rfl⟩ : ∃ e_20_0 e_20_1 e_20_2, vs20 = [e_20_0, e_20_1, e_20_2] := (by match vs20, hvl20 with | [e_20_0, e_20_1, e_20_2], _ => exact ⟨e_20_0, e_20_1, e_20_2, rfl⟩)
        clear hvl20
        obtain ⟨F_z16, _, ho_z16, hr20_0, rfl⟩ := hoo20
        obtain ⟨F_z17, _, ho_z17, hr20_1, rfl⟩ := hr20_0
        obtain ⟨F_z18, _, ho_z18, hr20_2, rfl⟩ := hr20_1
        have hend20 : _ = [] := hr20_2
        subst hend20
        obtain ⟨a_z16, n_z16, c_z16, rfl⟩ := (fit_dB st0).sliceO ho_z16
        obtain ⟨a_z17, n_z17, c_z17, rfl⟩ := (fit_dII st1).sliceO ho_z17
        obtain ⟨a_z18, n_z18, c_z18, rfl⟩ := (fit_dI st2).sliceO ho_z18
        refine ⟨_, rfl, ?_⟩
        have hc20 : Below w18.heap.size w18 w20 := hc19.trans (hb20.mono hc19.size)
        have hq20 := hc20.size
        have hy20 := hb20.size
        replace ho_z15 := ho_z15.below hb20
        refine hKr _ _ (fun _ => ⟨(bcell1 hc20 (by omega)).trans bx3_0, (bcell1 hc20 (by omega)).trans bx3_1, (bcell1 hc20 (by omega)).trans bx5_0, (bcell1 hc20 (by omega)).trans bx5_1, (bcell1 hc20 (by omega)).trans bx5_2, (bcell1 hc20 (by omega)).trans bx8_0, (bcell1 hc20 (by omega)).trans bx8_1, (bcell1 hc20 (by omega)).trans bx10_0, (bcell1 hc20 (by omega)).trans bx10_1, (bcell1 hc20 (by omega)).trans bx11_0, (bcell1 hc20 (by omega)).trans bx11_1, (bcell1 hc20 (by omega)).trans bx11_2, (bcell1 hc20 (by omega)).trans bx12_0, (bcell1 hc20 (by omega)).trans bx12_1⟩) ?_
        clear hKr Kr
        try simp only [List.getElem_toArray, List.getElem_cons_succ, List.getElem_cons_zero, Act.put, List.setIfInBounds_toArray, List.set_cons_zero, List.set_cons_succ]
        have hS20 : w20.cell? ⟨w.heap.size, 0, none⟩ = some (.int .i64 p0) ∧ w20.cell? ⟨w.heap.size, 1, none⟩ = some (.slice a_p1 n_p1 c_p1) ∧ w20.cell? ⟨w.heap.size + 1, 0, none⟩ = some (.slice a_st0 n_st0 c_st0) ∧ w20.cell? ⟨w.heap.size + 1, 1, none⟩ = some (.slice a_st1 n_st1 c_st1) ∧ w20.cell? ⟨w.heap.size + 1, 2, none⟩ = some (.slice a_st2 n_st2 c_st2) ∧ w20.cell? ⟨b8, 0, none⟩ = some (.int .i64 ((decS p0 p1 mode st0 st1 st2).1.1)) ∧ w20.cell? ⟨b8, 1, none⟩ = some (.slice a_z5 n_z5 c_z5) ∧ w20.cell? ⟨w6.heap.size, 0, none⟩ = some (.int .i64 p0) ∧ w20.cell? ⟨w6.heap.size, 1, none⟩ = some (.slice a_z6 n_z6 c_z6) ∧ w20.cell? ⟨w7.heap.size, 0, none⟩ = some (.slice a_z7 n_z7 c_z7) ∧ w20.cell? ⟨w7.heap.size, 1, none⟩ = some (.slice a_z8 n_z8 c_z8) ∧ w20.cell? ⟨w7.heap.size, 2, none⟩ = some (.slice a_z9 n_z9 c_z9) ∧ w20.cell? ⟨w8.heap.size, 0, none⟩ = some (.int .i64 ((decS p0 p1 mode st0 st1 st2).1.1)) ∧ w20.cell? ⟨w8.heap.size, 1, none⟩ = some (.slice a_z10 n_z10 c_z10) := ⟨(bcell1 hc20 (by omega)).trans bx3_0, (bcell1 hc20 (by omega)).trans bx3_1, (bcell1 hc20 (by omega)).trans bx5_0, (bcell1 hc20 (by omega)).trans bx5_1, (bcell1 hc20 (by omega)).trans bx5_2, (bcell1 hc20 (by omega)).trans bx8_0, (bcell1 hc20 (by omega)).trans bx8_1, (bcell1 hc20 (by omega)).trans bx10_0, (bcell1 hc20 (by omega)).trans bx10_1, (bcell1 hc20 (by omega)).trans bx11_0, (bcell1 hc20 (by omega)).trans bx11_1, (bcell1 hc20 (by omega)).trans bx11_2, (bcell1 hc20 (by omega)).trans bx12_0, (bcell1 hc20 (by omega)).trans bx12_1⟩
        refine wpC_two (i := 5) (j := 9) (l' := #[true, true, true, true, true, true, false, false, false, false, false, false]) (l'' := #[true, true, true, true, true, false, false, false, false, true, false, false]) (by kernel_rfl) rfl rfl rfl rfl (by rfl) (by rfl) (fun Kr hKr => ?_) (fun Kr hKr => ?_)
        · refine step_callV rfl 31 #[.tmp 100, .tmp 101, .tmp 103] _ rfl HRUN2.out #[.agg #[.int .i64 p0, .slice a_z15 n_z15 c_z15], .int .i64 mode, .agg #[.slice a_z16 n_z16 c_z16, .slice a_z17 n_z17 c_z17, .slice a_z18 n_z18 c_z18]] (by first | rfl | (simp [Act.eval]; done) | (simp [Act.eval]; rfl) | (simp [Act.eval]; repeat' constructor)) (implDecodeState_d p0 p1 mode st0 st1 st2 _ ho_z15 ho_z16 ho_z17 ho_z18 ) ?_
          rintro e w21 ⟨vs21, F21, rfl, hb21, hoo21, hnn21, hll21⟩
          have hvl21 := owA_len _ _ _ hoo21
          obtain ⟨e_21_0, e_21_1, rfl⟩ : ∃ e_21_0 e_21_1, vs21 = [e_21_0, e_21_1] := (by match vs21, hvl21 with | [e_21_0, e_21_1], _ => exact ⟨e_21_0, e_21_1, rfl⟩)
          clear hvl21
          obtain ⟨G21_0, _, ⟨ev21_0, eg21_0⟩, hr21_0, rfl⟩ := hoo21
          subst ev21_0
          subst eg21_0
          obtain ⟨F_z19, _, ho_z19, hr21_1, rfl⟩ := hr21_0
          have hend21 : _ = [] := hr21_1
          subst hend21
          obtain ⟨a_z19, n_z19, c_z19, rfl⟩ := (fit_dI ((decS p0 p1 mode st0 st1 st2).1.2)).sliceO ho_z19
          refine ⟨_, rfl, ?_⟩
          have hc21 : Below w18.heap.size w18 w21 := hc20.trans (hb21.mono hc20.size)
          have hq21 := hc21.size
          have hy21 := hb21.size
          replace ho_z15 := ho_z15.below hb21
          replace ho_z16 := ho_z16.below hb21
          replace ho_z17 := ho_z17.below hb21
          replace ho_z18 := ho_z18.below hb21
          refine hKr _ _ (fun _ => ⟨(bcell1 hc21 (by omega)).trans bx3_0, (bcell1 hc21 (by omega)).trans bx3_1, (bcell1 hc21 (by omega)).trans bx5_0, (bcell1 hc21 (by omega)).trans bx5_1, (bcell1 hc21 (by omega)).trans bx5_2, (bcell1 hc21 (by omega)).trans bx8_0, (bcell1 hc21 (by omega)).trans bx8_1, (bcell1 hc21 (by omega)).trans bx10_0, (bcell1 hc21 (by omega)).trans bx10_1, (bcell1 hc21 (by omega)).trans bx11_0, (bcell1 hc21 (by omega)).trans bx11_1, (bcell1 hc21 (by omega)).trans bx11_2, (bcell1 hc21 (by omega)).trans bx12_0, (bcell1 hc21 (by omega)).trans bx12_1⟩) ?_
          clear hKr Kr
          try simp only [List.getElem_toArray, List.getElem_cons_succ, List.getElem_cons_zero, Act.put, List.setIfInBounds_toArray, List.set_cons_zero, List.set_cons_succ]
          have hS21 : w21.cell? ⟨w.heap.size, 0, none⟩ = some (.int .i64 p0) ∧ w21.cell? ⟨w.heap.size, 1, none⟩ = some (.slice a_p1 n_p1 c_p1) ∧ w21.cell? ⟨w.heap.size + 1, 0, none⟩ = some (.slice a_st0 n_st0 c_st0) ∧ w21.cell? ⟨w.heap.size + 1, 1, none⟩ = some (.slice a_st1 n_st1 c_st1) ∧ w21.cell? ⟨w.heap.size + 1, 2, none⟩ = some (.slice a_st2 n_st2 c_st2) ∧ w21.cell? ⟨b8, 0, none⟩ = some (.int .i64 ((decS p0 p1 mode st0 st1 st2).1.1)) ∧ w21.cell? ⟨b8, 1, none⟩ = some (.slice a_z5 n_z5 c_z5) ∧ w21.cell? ⟨w6.heap.size, 0, none⟩ = some (.int .i64 p0) ∧ w21.cell? ⟨w6.heap.size, 1, none⟩ = some (.slice a_z6 n_z6 c_z6) ∧ w21.cell? ⟨w7.heap.size, 0, none⟩ = some (.slice a_z7 n_z7 c_z7) ∧ w21.cell? ⟨w7.heap.size, 1, none⟩ = some (.slice a_z8 n_z8 c_z8) ∧ w21.cell? ⟨w7.heap.size, 2, none⟩ = some (.slice a_z9 n_z9 c_z9) ∧ w21.cell? ⟨w8.heap.size, 0, none⟩ = some (.int .i64 ((decS p0 p1 mode st0 st1 st2).1.1)) ∧ w21.cell? ⟨w8.heap.size, 1, none⟩ = some (.slice a_z10 n_z10 c_z10) := ⟨(bcell1 hc21 (by omega)).trans bx3_0, (bcell1 hc21 (by omega)).trans bx3_1, (bcell1 hc21 (by omega)).trans bx5_0, (bcell1 hc21 (by omega)).trans bx5_1, (bcell1 hc21 (by omega)).trans bx5_2, (bcell1 hc21 (by omega)).trans bx8_0, (bcell1 hc21 (by omega)).trans bx8_1, (bcell1 hc21 (by omega)).trans bx10_0, (bcell1 hc21 (by omega)).trans bx10_1, (bcell1 hc21 (by omega)).trans bx11_0, (bcell1 hc21 (by omega)).trans bx11_1, (bcell1 hc21 (by omega)).trans bx11_2, (bcell1 hc21 (by omega)).trans bx12_0, (bcell1 hc21 (by omega)).trans bx12_1⟩
          refine wpC_take (i := 6) (v := ?v6_23) (l' := #[true, true, true, true, true, true, true, false, false, false, false, false]) [7, 8, 10, 11] rfl (by kernel_rfl) (by kernel_rfl) (by kernel_rfl) (by kernel_rfl) (by kernel_rfl) rfl (fun _ _ _ h => h) (by rfl) (fun wx hS => ?q6_23) (by assumption) ?_
          case q6_23 => (go_simp; try with_reducible rfl)
          try simp only [List.getElem_toArray, List.getElem_cons_succ, List.getElem_cons_zero, Act.put, List.setIfInBounds_toArray, List.set_cons_zero, List.set_cons_succ]
          refine wpC_take (i := 7) (v := ?v7_24) (l' := #[true, true, true, true, true, true, true, true, false, false, false, false]) [10, 11] rfl (by kernel_rfl) (by kernel_rfl) (by kernel_rfl) (by kernel_rfl) (by kernel_rfl) rfl (fun _ _ _ h => h) (by rfl) (fun wx hS => ?q7_24) (by assumption) ?_
          case q7_24 => (go_simp; try with_reducible rfl)
          try simp only [List.getElem_toArray, List.getElem_cons_succ, List.getElem_cons_zero, Act.put, List.setIfInBounds_toArray, List.set_cons_zero, List.set_cons_succ]
          refine wpC_take (i := 8) (v := ?v8_25) (l' := #[true, true, true, true, true, true, true, true, true, false, false, false]) [11] rfl (by kernel_rfl) (by kernel_rfl) (by kernel_rfl) (by kernel_rfl) (by kernel_rfl) rfl (fun _ _ _ h => h) (by rfl) (fun wx hS => ?q8_25) (by assumption) ?_
          case q8_25 => (go_simp; try with_reducible rfl)
          try simp only [List.getElem_toArray, List.getElem_cons_succ, List.getElem_cons_zero, Act.put, List.setIfInBounds_toArray, List.set_cons_zero, List.set_cons_succ]
          refine wpC_one (i := 9) (l' := #[true, true, true, true, true, true, true, true, true, true, false, false]) (by kernel_rfl) rfl rfl (by rfl) (fun Kr hKr => ?_)
          go_simp
          refine hKr _ _ (fun _ => ⟨(bcell1 (hc21.trans ((below_alloc _ _).mono hc21.size)) (by omega)).trans bx3_0, (bcell1 (hc21.trans ((below_alloc _ _).mono hc21.size)) (by omega)).trans bx3_1, (bcell1 (hc21.trans ((below_alloc _ _).mono hc21.size)) (by omega)).trans bx5_0, (bcell1 (hc21.trans ((below_alloc _ _).mono hc21.size)) (by omega)).trans bx5_1, (bcell1 (hc21.trans ((below_alloc _ _).mono hc21.size)) (by omega)).trans bx5_2, (bcell1 (hc21.trans ((below_alloc _ _).mono hc21.size)) (by omega)).trans bx8_0, (bcell1 (hc21.trans ((below_alloc _ _).mono hc21.size)) (by omega)).trans bx8_1, (bcell1 (hc21.trans ((below_alloc _ _).mono hc21.size)) (by omega)).trans bx10_0, (bcell1 (hc21.trans ((below_alloc _ _).mono hc21.size)) (by omega)).trans bx10_1, (bcell1 (hc21.trans ((below_alloc _ _).mono hc21.size)) (by omega)).trans bx11_0, (bcell1 (hc21.trans ((below_alloc _ _).mono hc21.size)) (by omega)).trans bx11_1, (bcell1 (hc21.trans ((below_alloc _ _).mono hc21.size)) (by omega)).trans bx11_2, (bcell1 (hc21.trans ((below_alloc _ _).mono hc21.size)) (by omega)).trans bx12_0, (bcell1 (hc21.trans ((below_alloc _ _).mono hc21.size)) (by omega)).trans bx12_1⟩) ?_
          clear hKr Kr
          try simp only [List.getElem_toArray, List.getElem_cons_succ, List.getElem_cons_zero, Act.put, List.setIfInBounds_toArray, List.set_cons_zero, List.set_cons_succ]
          obtain ⟨wA, hwA⟩ : ∃ wz, wz = w21.alloc (.cells #[.int .i64 0, .slice none 0 0] 61) := ⟨_, rfl⟩
          rw [← hwA]
          have hcA : Below w18.heap.size w18 wA := by rw [hwA]; exact (hc21.trans ((below_alloc _ _).mono hc21.size))
          have zc0 : wA.cell? ⟨w21.heap.size, 0, none⟩ = some (.int .i64 0) := by rw [hwA]; simp [go_sem]
          have zy0 : wA.frozen? ⟨w21.heap.size, 0, none⟩ = false := by rw [hwA]; simp [go_sem]
          have zc1 : wA.cell? ⟨w21.heap.size, 1, none⟩ = some (.slice none 0 0) := by rw [hwA]; simp [go_sem]
          have zy1 : wA.frozen? ⟨w21.heap.size, 1, none⟩ = false := by rw [hwA]; simp [go_sem]
          have ltA : w21.heap.size < wA.heap.size := by rw [hwA]; simp
          have hqA := hcA.size
          have hi9_z15 : ∀ g, g ∈ F_z15 → g < w21.heap.size := Ow.lt _ _ _ ho_z15
          replace ho_z15 := ho_z15.below (w' := wA) (by rw [hwA]; exact below_alloc _ _)
          have hi9_z16 : ∀ g, g ∈ F_z16 → g < w21.heap.size := Ow.lt _ _ _ ho_z16
          replace ho_z16 := ho_z16.below (w' := wA) (by rw [hwA]; exact below_alloc _ _)
          have hi9_z17 : ∀ g, g ∈ F_z17 → g < w21.heap.size := Ow.lt _ _ _ ho_z17
          replace ho_z17 := ho_z17.below (w' := wA) (by rw [hwA]; exact below_alloc _ _)
          have hi9_z18 : ∀ g, g ∈ F_z18 → g < w21.heap.size := Ow.lt _ _ _ ho_z18
          replace ho_z18 := ho_z18.below (w' := wA) (by rw [hwA]; exact below_alloc _ _)
          have hi9_z19 : ∀ g, g ∈ F_z19 → g < w21.heap.size := Ow.lt _ _ _ ho_z19
          replace ho_z19 := ho_z19.below (w' := wA) (by rw [hwA]; exact below_alloc _ _)
          clear hwA
          have hSA : wA.cell? ⟨w.heap.size, 0, none⟩ = some (.int .i64 p0) ∧ wA.cell? ⟨w.heap.size, 1, none⟩ = some (.slice a_p1 n_p1 c_p1) ∧ wA.cell? ⟨w.heap.size + 1, 0, none⟩ = some (.slice a_st0 n_st0 c_st0) ∧ wA.cell? ⟨w.heap.size + 1, 1, none⟩ = some (.slice a_st1 n_st1 c_st1) ∧ wA.cell? ⟨w.heap.size + 1, 2, none⟩ = some (.slice a_st2 n_st2 c_st2) ∧ wA.cell? ⟨b8, 0, none⟩ = some (.int .i64 ((decS p0 p1 mode st0 st1 st2).1.1)) ∧ wA.cell? ⟨b8, 1, none⟩ = some (.slice a_z5 n_z5 c_z5) ∧ wA.cell? ⟨w6.heap.size, 0, none⟩ = some (.int .i64 p0) ∧ wA.cell? ⟨w6.heap.size, 1, none⟩ = some (.slice a_z6 n_z6 c_z6) ∧ wA.cell? ⟨w7.heap.size, 0, none⟩ = some (.slice a_z7 n_z7 c_z7) ∧ wA.cell? ⟨w7.heap.size, 1, none⟩ = some (.slice a_z8 n_z8 c_z8) ∧ wA.cell? ⟨w7.heap.size, 2, none⟩ = some (.slice a_z9 n_z9 c_z9) ∧ wA.cell? ⟨w8.heap.size, 0, none⟩ = some (.int .i64 ((decS p0 p1 mode st0 st1 st2).1.1)) ∧ wA.cell? ⟨w8.heap.size, 1, none⟩ = some (.slice a_z10 n_z10 c_z10) := ⟨(bcell1 hcA (by omega)).trans bx3_0, (bcell1 hcA (by omega)).trans bx3_1, (bcell1 hcA (by omega)).trans bx5_0, (bcell1 hcA (by omega)).trans bx5_1, (bcell1 hcA (by omega)).trans bx5_2, (bcell1 hcA (by omega)).trans bx8_0, (bcell1 hcA (by omega)).trans bx8_1, (bcell1 hcA (by omega)).trans bx10_0, (bcell1 hcA (by omega)).trans bx10_1, (bcell1 hcA (by omega)).trans bx11_0, (bcell1 hcA (by omega)).trans bx11_1, (bcell1 hcA (by omega)).trans bx11_2, (bcell1 hcA (by omega)).trans bx12_0, (bcell1 hcA (by omega)).trans bx12_1⟩
          refine wpC_one (i := 10) (l' := #[true, true, true, true, true, true, true, true, true, true, true, false]) (by kernel_rfl) rfl rfl (by rfl) (fun Kr hKr => ?_)
          have hBB : w18.heap.size ≤ w21.heap.size := by omega
          go_simp
          have hE := box2 (.int .i64 ((decS p0 p1 mode st0 st1 st2).1.1)) (.slice a_z19 n_z19 c_z19) hcA hBB ltA zc0 zc1
          refine hKr _ _ (fun _ => ⟨(bcell1 hE.1 (by omega)).trans bx3_0, (bcell1 hE.1 (by omega)).trans bx3_1, (bcell1 hE.1 (by omega)).trans bx5_0, (bcell1 hE.1 (by omega)).trans bx5_1, (bcell1 hE.1 (by omega)).trans bx5_2, (bcell1 hE.1 (by omega)).trans bx8_0, (bcell1 hE.1 (by omega)).trans bx8_1, (bcell1 hE.1 (by omega)).trans bx10_0, (bcell1 hE.1 (by omega)).trans bx10_1, (bcell1 hE.1 (by omega)).trans bx11_0, (bcell1 hE.1 (by omega)).trans bx11_1, (bcell1 hE.1 (by omega)).trans bx11_2, (bcell1 hE.1 (by omega)).trans bx12_0, (bcell1 hE.1 (by omega)).trans bx12_1⟩) ?_
          clear hKr Kr
          try simp only [List.getElem_toArray, List.getElem_cons_succ, List.getElem_cons_zero, Act.put, List.setIfInBounds_toArray, List.set_cons_zero, List.set_cons_succ]
          have hSE := And.intro ((bcell1 hE.1 (by omega)).trans bx3_0) (And.intro ((bcell1 hE.1 (by omega)).trans bx3_1) (And.intro ((bcell1 hE.1 (by omega)).trans bx5_0) (And.intro ((bcell1 hE.1 (by omega)).trans bx5_1) (And.intro ((bcell1 hE.1 (by omega)).trans bx5_2) (And.intro ((bcell1 hE.1 (by omega)).trans bx8_0) (And.intro ((bcell1 hE.1 (by omega)).trans bx8_1) (And.intro ((bcell1 hE.1 (by omega)).trans bx10_0) (And.intro ((bcell1 hE.1 (by omega)).trans bx10_1) (And.intro ((bcell1 hE.1 (by omega)).trans bx11_0) (And.intro ((bcell1 hE.1 (by omega)).trans bx11_1) (And.intro ((bcell1 hE.1 (by omega)).trans bx11_2) (And.intro ((bcell1 hE.1 (by omega)).trans bx12_0) ((bcell1 hE.1 (by omega)).trans bx12_1)))))))))))))
          refine wpC_take (i := 11) (v := ?v11_26) (l' := #[true, true, true, true, true, true, true, true, true, true, true, true]) [] rfl (by kernel_rfl) (by kernel_rfl) (by kernel_rfl) (by kernel_rfl) (by kernel_rfl) rfl (fun _ _ _ h => h) (by rfl) (fun wx hS => ?q11_26) (by assumption) ?_
          case q11_26 => (go_simp; try with_reducible rfl)
          try simp only [List.getElem_toArray, List.getElem_cons_succ, List.getElem_cons_zero, Act.put, List.setIfInBounds_toArray, List.set_cons_zero, List.set_cons_succ]
          refine wpC_done (by kernel_rfl) ?_ _
          obtain ⟨hE1, hE2, hE3, hE4, hE5⟩ := hE
          have hx_z19 : w21.heap.size ∉ F_z19 := fun hg => by have q1 := hll21 (w21.heap.size) (by first | exact hg | simp [hg]); (try have q2 := hi9_z19 _ hg); omega
          exact key hBB hE2 hE1 hE4 hE5 (hE3 _ _ _ ho_z19 hx_z19) (by simpa using hnn21) (fun g hg => by have q1 := hll21 g (by first | exact hg | simp [hg]); omega)
        · go_simp
          refine hKr _ _ (fun _ => ⟨(bcell1 (hc20.trans ((below_alloc _ _).mono hc20.size)) (by omega)).trans bx3_0, (bcell1 (hc20.trans ((below_alloc _ _).mono hc20.size)) (by omega)).trans bx3_1, (bcell1 (hc20.trans ((below_alloc _ _).mono hc20.size)) (by omega)).trans bx5_0, (bcell1 (hc20.trans ((below_alloc _ _).mono hc20.size)) (by omega)).trans bx5_1, (bcell1 (hc20.trans ((below_alloc _ _).mono hc20.size)) (by omega)).trans bx5_2, (bcell1 (hc20.trans ((below_alloc _ _).mono hc20.size)) (by omega)).trans bx8_0, (bcell1 (hc20.trans ((below_alloc _ _).mono hc20.size)) (by omega)).trans bx8_1, (bcell1 (hc20.trans ((below_alloc _ _).mono hc20.size)) (by omega)).trans bx10_0, (bcell1 (hc20.trans ((below_alloc _ _).mono hc20.size)) (by omega)).trans bx10_1, (bcell1 (hc20.trans ((below_alloc _ _).mono hc20.size)) (by omega)).trans bx11_0, (bcell1 (hc20.trans ((below_alloc _ _).mono hc20.size)) (by omega)).trans bx11_1, (bcell1 (hc20.trans ((below_alloc _ _).mono hc20.size)) (by omega)).trans bx11_2, (bcell1 (hc20.trans ((below_alloc _ _).mono hc20.size)) (by omega)).trans bx12_0, (bcell1 (hc20.trans ((below_alloc _ _).mono hc20.size)) (by omega)).trans bx12_1⟩) ?_
          clear hKr Kr
          try simp only [List.getElem_toArray, List.getElem_cons_succ, List.getElem_cons_zero, Act.put, List.setIfInBounds_toArray, List.set_cons_zero, List.set_cons_succ]
          obtain ⟨wA, hwA⟩ : ∃ wz, wz = w20.alloc (.cells #[.int .i64 0, .slice none 0 0] 61) := ⟨_, rfl⟩
          rw [← hwA]
          have hcA : Below w18.heap.size w18 wA := by rw [hwA]; exact (hc20.trans ((below_alloc _ _).mono hc20.size))
          have zc0 : wA.cell? ⟨w20.heap.size, 0, none⟩ = some (.int .i64 0) := by rw [hwA]; simp [go_sem]
          have zy0 : wA.frozen? ⟨w20.heap.size, 0, none⟩ = false := by rw [hwA]; simp [go_sem]
          have zc1 : wA.cell? ⟨w20.heap.size, 1, none⟩ = some (.slice none 0 0) := by rw [hwA]; simp [go_sem]
          have zy1 : wA.frozen? ⟨w20.heap.size, 1, none⟩ = false := by rw [hwA]; simp [go_sem]
          have ltA : w20.heap.size < wA.heap.size := by rw [hwA]; simp
          have hqA := hcA.size
          have hi9_z15 : ∀ g, g ∈ F_z15 → g < w20.heap.size := Ow.lt _ _ _ ho_z15
          replace ho_z15 := ho_z15.below (w' := wA) (by rw [hwA]; exact below_alloc _ _)
          have hi9_z16 : ∀ g, g ∈ F_z16 → g < w20.heap.size := Ow.lt _ _ _ ho_z16
          replace ho_z16 := ho_z16.below (w' := wA) (by rw [hwA]; exact below_alloc _ _)
          have hi9_z17 : ∀ g, g ∈ F_z17 → g < w20.heap.size := Ow.lt _ _ _ ho_z17
          replace ho_z17 := ho_z17.below (w' := wA) (by rw [hwA]; exact below_alloc _ _)
          have hi9_z18 : ∀ g, g ∈ F_z18 → g < w20.heap.size := Ow.lt _ _ _ ho_z18
          replace ho_z18 := ho_z18.below (w' := wA) (by rw [hwA]; exact below_alloc _ _)
          clear hwA
          have hSA : wA.cell? ⟨w.heap.size, 0, none⟩ = some (.int .i64 p0) ∧ wA.cell? ⟨w.heap.size, 1, none⟩ = some (.slice a_p1 n_p1 c_p1) ∧ wA.cell? ⟨w.heap.size + 1, 0, none⟩ = some (.slice a_st0 n_st0 c_st0) ∧ wA.cell? ⟨w.heap.size + 1, 1, none⟩ = some (.slice a_st1 n_st1 c_st1) ∧ wA.cell? ⟨w.heap.size + 1, 2, none⟩ = some (.slice a_st2 n_st2 c_st2) ∧ wA.cell? ⟨b8, 0, none⟩ = some (.int .i64 ((decS p0 p1 mode st0 st1 st2).1.1)) ∧ wA.cell? ⟨b8, 1, none⟩ = some (.slice a_z5 n_z5 c_z5) ∧ wA.cell? ⟨w6.heap.size, 0, none⟩ = some (.int .i64 p0) ∧ wA.cell? ⟨w6.heap.size, 1, none⟩ = some (.slice a_z6 n_z6 c_z6) ∧ wA.cell? ⟨w7.heap.size, 0, none⟩ = some (.slice a_z7 n_z7 c_z7) ∧ wA.cell? ⟨w7.heap.size, 1, none⟩ = some (.slice a_z8 n_z8 c_z8) ∧ wA.cell? ⟨w7.heap.size, 2, none⟩ = some (.slice a_z9 n_z9 c_z9) ∧ wA.cell? ⟨w8.heap.size, 0, none⟩ = some (.int .i64 ((decS p0 p1 mode st0 st1 st2).1.1)) ∧ wA.cell? ⟨w8.heap.size, 1, none⟩ = some (.slice a_z10 n_z10 c_z10) := ⟨(bcell1 hcA (by omega)).trans bx3_0, (bcell1 hcA (by omega)).trans bx3_1, (bcell1 hcA (by omega)).trans bx5_0, (bcell1 hcA (by omega)).trans bx5_1, (bcell1 hcA (by omega)).trans bx5_2, (bcell1 hcA (by omega)).trans bx8_0, (bcell1 hcA (by omega)).trans bx8_1, (bcell1 hcA (by omega)).trans bx10_0, (bcell1 hcA (by omega)).trans bx10_1, (bcell1 hcA (by omega)).trans bx11_0, (bcell1 hcA (by omega)).trans bx11_1, (bcell1 hcA (by omega)).trans bx11_2, (bcell1 hcA (by omega)).trans bx12_0, (bcell1 hcA (by omega)).trans bx12_1⟩
          refine wpC_one (i := 5) (l' := #[true, true, true, true, true, true, false, false, false, true, false, false]) (by kernel_rfl) rfl rfl (by rfl) (fun Kr hKr => ?_)
          refine step_callV rfl 31 #[.tmp 100, .tmp 101, .tmp 103] _ rfl HRUN2.out #[.agg #[.int .i64 p0, .slice a_z15 n_z15 c_z15], .int .i64 mode, .agg #[.slice a_z16 n_z16 c_z16, .slice a_z17 n_z17 c_z17, .slice a_z18 n_z18 c_z18]] (by first | rfl | (simp [Act.eval]; done) | (simp [Act.eval]; rfl) | (simp [Act.eval]; repeat' constructor)) (implDecodeState_d p0 p1 mode st0 st1 st2 _ ho_z15 ho_z16 ho_z17 ho_z18 ) ?_
          rintro e w21 ⟨vs21, F21, rfl, hb21, hoo21, hnn21, hll21⟩
          have hvl21 := owA_len _ _ _ hoo21
          obtain ⟨e_21_0, e_21_1, rfl⟩ : ∃ e_21_0 e_21_1, vs21 = [e_21_0, e_21_1] := (by match vs21, hvl21 with | [e_21_0, e_21_1], _ => exact ⟨e_21_0, e_21_1, rfl⟩)
          clear hvl21
          obtain ⟨G21_0, _, ⟨ev21_0, eg21_0⟩, hr21_0, rfl⟩ := hoo21
          subst ev21_0
          subst eg21_0
          obtain ⟨F_z19, _, ho_z19, hr21_1, rfl⟩ := hr21_0
          have hend21 : _ = [] := hr21_1
          subst hend21
          obtain ⟨a_z19, n_z19, c_z19, rfl⟩ := (fit_dI ((decS p0 p1 mode st0 st1 st2).1.2)).sliceO ho_z19
          refine ⟨_, rfl, ?_⟩
          have hc21 : Below w18.heap.size w18 w21 := hcA.trans (hb21.mono hcA.size)
          have hq21 := hc21.size
          have hy21 := hb21.size
          replace ho_z15 := ho_z15.below hb21
          replace ho_z16 := ho_z16.below hb21
          replace ho_z17 := ho_z17.below hb21
          replace ho_z18 := ho_z18.below hb21
          replace zc0 := (bcell1 hb21 ltA).trans zc0
          replace zy0 := (hb21.frozen (p := ⟨w20.heap.size, 0, none⟩) ltA).trans zy0
          replace zc1 := (bcell1 hb21 ltA).trans zc1
          replace zy1 := (hb21.frozen (p := ⟨w20.heap.size, 1, none⟩) ltA).trans zy1
          have lt21 : w20.heap.size < w21.heap.size := Nat.lt_of_lt_of_le ltA hb21.size
          refine hKr _ _ (fun _ => ⟨(bcell1 hc21 (by omega)).trans bx3_0, (bcell1 hc21 (by omega)).trans bx3_1, (bcell1 hc21 (by omega)).trans bx5_0, (bcell1 hc21 (by omega)).trans bx5_1, (bcell1 hc21 (by omega)).trans bx5_2, (bcell1 hc21 (by omega)).trans bx8_0, (bcell1 hc21 (by omega)).trans bx8_1, (bcell1 hc21 (by omega)).trans bx10_0, (bcell1 hc21 (by omega)).trans bx10_1, (bcell1 hc21 (by omega)).trans bx11_0, (bcell1 hc21 (by omega)).trans bx11_1, (bcell1 hc21 (by omega)).trans bx11_2, (bcell1 hc21 (by omega)).trans bx12_0, (bcell1 hc21 (by omega)).trans bx12_1⟩) ?_
          clear hKr Kr
          try simp only [List.getElem_toArray, List.getElem_cons_succ, List.getElem_cons_zero, Act.put, List.setIfInBounds_toArray, List.set_cons_zero, List.set_cons_succ]
          have hS21 : w21.cell? ⟨w.heap.size, 0, none⟩ = some (.int .i64 p0) ∧ w21.cell? ⟨w.heap.size, 1, none⟩ = some (.slice a_p1 n_p1 c_p1) ∧ w21.cell? ⟨w.heap.size + 1, 0, none⟩ = some (.slice a_st0 n_st0 c_st0) ∧ w21.cell? ⟨w.heap.size + 1, 1, none⟩ = some (.slice a_st1 n_st1 c_st1) ∧ w21.cell? ⟨w.heap.size + 1, 2, none⟩ = some (.slice a_st2 n_st2 c_st2) ∧ w21.cell? ⟨b8, 0, none⟩ = some (.int .i64 ((decS p0 p1 mode st0 st1 st2).1.1)) ∧ w21.cell? ⟨b8, 1, none⟩ = some (.slice a_z5 n_z5 c_z5) ∧ w21.cell? ⟨w6.heap.size, 0, none⟩ = some (.int .i64 p0) ∧ w21.cell? ⟨w6.heap.size, 1, none⟩ = some (.slice a_z6 n_z6 c_z6) ∧ w21.cell? ⟨w7.heap.size, 0, none⟩ = some (.slice a_z7 n_z7 c_z7) ∧ w21.cell? ⟨w7.heap.size, 1, none⟩ = some (.slice a_z8 n_z8 c_z8) ∧ w21.cell? ⟨w7.heap.size, 2, none⟩ = some (.slice a_z9 n_z9 c_z9) ∧ w21.cell? ⟨w8.heap.size, 0, none⟩ = some (.int .i64 ((decS p0 p1 mode st0 st1 st2).1.1)) ∧ w21.cell? ⟨w8.heap.size, 1, none⟩ = some (.slice a_z10 n_z10 c_z10) := ⟨(bcell1 hc21 (by omega)).trans bx3_0, (bcell1 hc21 (by omega)).trans bx3_1, (bcell1 hc21 (by omega)).trans bx5_0, (bcell1 hc21 (by omega)).trans bx5_1, (bcell1 hc21 (by omega)).trans bx5_2, (bcell1 hc21 (by omega)).trans bx8_0, (bcell1 hc21 (by omega)).trans bx8_1, (bcell1 hc21 (by omega)).trans bx10_0, (bcell1 hc21 (by omega)).trans bx10_1, (bcell1 hc21 (by omega)).trans bx11_0, (bcell1 hc21 (by omega)).trans bx11_1, (bcell1 hc21 (by omega)).trans bx11_2, (bcell1 hc21 (by omega)).trans bx12_0, (bcell1 hc21 (by omega)).trans bx12_1⟩
          refine wpC_take (i := 6) (v := ?v6_27) (l' := #[true, true, true, true, true, true, true, false, false, true, false, false]) [7, 8, 10, 11] rfl (by kernel_rfl) (by kernel_rfl) (by kernel_rfl) (by kernel_rfl) (by kernel_rfl) rfl (fun _ _ _ h => h) (by rfl) (fun wx hS => ?q6_27) (by assumption) ?_
          case q6_27 => (go_simp; try with_reducible rfl)
          try simp only [List.getElem_toArray, List.getElem_cons_succ, List.getElem_cons_zero, Act.put, List.setIfInBounds_toArray, List.set_cons_zero, List.set_cons_succ]
          refine wpC_take (i := 7) (v := ?v7_28) (l' := #[true, true, true, true, true, true, true, true, false, true, false, false]) [10, 11] rfl (by kernel_rfl) (by kernel_rfl) (by kernel_rfl) (by kernel_rfl) (by kernel_rfl) rfl (fun _ _ _ h => h) (by rfl) (fun wx hS => ?q7_28) (by assumption) ?_
          case q7_28 => (go_simp; try with_reducible rfl)
          try simp only [List.getElem_toArray, List.getElem_cons_succ, List.getElem_cons_zero, Act.put, List.setIfInBounds_toArray, List.set_cons_zero, List.set_cons_succ]
          refine wpC_take (i := 8) (v := ?v8_29) (l' := #[true, true, true, true, true, true, true, true, true, true, false, false]) [11] rfl (by kernel_rfl) (by kernel_rfl) (by kernel_rfl) (by kernel_rfl) (by kernel_rfl) rfl (fun _ _ _ h => h) (by rfl) (fun wx hS => ?q8_29) (by assumption) ?_
          case q8_29 => (go_simp; try with_reducible rfl)
          try simp only [List.getElem_toArray, List.getElem_cons_succ, List.getElem_cons_zero, Act.put, List.setIfInBounds_toArray, List.set_cons_zero, List.set_cons_succ]
          refine wpC_one (i := 10) (l' := #[true, true, true, true, true, true, true, true, true, true, true, false]) (by kernel_rfl) rfl rfl (by rfl) (fun Kr hKr => ?_)
          have hBB : w18.heap.size ≤ w20.heap.size := by omega
          go_simp
          have hE := box2 (.int .i64 ((decS p0 p1 mode st0 st1 st2).1.1)) (.slice a_z19 n_z19 c_z19) hc21 hBB lt21 zc0 zc1
          refine hKr _ _ (fun _ => ⟨(bcell1 hE.1 (by omega)).trans bx3_0, (bcell1 hE.1 (by omega)).trans bx3_1, (bcell1 hE.1 (by omega)).trans bx5_0, (bcell1 hE.1 (by omega)).trans bx5_1, (bcell1 hE.1 (by omega)).trans bx5_2, (bcell1 hE.1 (by omega)).trans bx8_0, (bcell1 hE.1 (by omega)).trans bx8_1, (bcell1 hE.1 (by omega)).trans bx10_0, (bcell1 hE.1 (by omega)).trans bx10_1, (bcell1 hE.1 (by omega)).trans bx11_0, (bcell1 hE.1 (by omega)).trans bx11_1, (bcell1 hE.1 (by omega)).trans bx11_2, (bcell1 hE.1 (by omega)).trans bx12_0, (bcell1 hE.1 (by omega)).trans bx12_1⟩) ?_
          clear hKr Kr
          try simp only [List.getElem_toArray, List.getElem_cons_succ, List.getElem_cons_zero, Act.put, List.setIfInBounds_toArray, List.set_cons_zero, List.set_cons_succ]
          have hSE := And.intro ((bcell1 hE.1 (by omega)).trans bx3_0) (And.intro ((bcell1 hE.1 (by omega)).trans bx3_1) (And.intro ((bcell1 hE.1 (by omega)).trans bx5_0) (And.intro ((bcell1 hE.1 (by omega)).trans bx5_1) (And.intro ((bcell1 hE.1 (by omega)).trans bx5_2) (And.intro ((bcell1 hE.1 (by omega)).trans bx8_0) (And.intro ((bcell1 hE.1 (by omega)).trans bx8_1) (And.intro ((bcell1 hE.1 (by omega)).trans bx10_0) (And.intro ((bcell1 hE.1 (by omega)).trans bx10_1) (And.intro ((bcell1 hE.1 (by omega)).trans bx11_0) (And.intro ((bcell1 hE.1 (by omega)).trans bx11_1) (And.intro ((bcell1 hE.1 (by omega)).trans bx11_2) (And.intro ((bcell1 hE.1 (by omega)).trans bx12_0) ((bcell1 hE.1 (by omega)).trans bx12_1)))))))))))))
          refine wpC_take (i := 11) (v := ?v11_30) (l' := #[true, true, true, true, true, true, true, true, true, true, true, true]) [] rfl (by kernel_rfl) (by kernel_rfl) (by kernel_rfl) (by kernel_rfl) (by kernel_rfl) rfl (fun _ _ _ h => h) (by rfl) (fun wx hS => ?q11_30) (by assumption) ?_
          case q11_30 => (go_simp; try with_reducible rfl)
          try simp only [List.getElem_toArray, List.getElem_cons_succ, List.getElem_cons_zero, Act.put, List.setIfInBounds_toArray, List.set_cons_zero, List.set_cons_succ]
          refine wpC_done (by kernel_rfl) ?_ _
          obtain ⟨hE1, hE2, hE3, hE4, hE5⟩ := hE
          have hx_z19 : w20.heap.size ∉ F_z19 := fun hg => by have q1 := hll21 (w20.heap.size) (by first | exact hg | simp [hg]); (try have q2 := hi9_z19 _ hg); omega
          exact key hBB hE2 hE1 hE4 hE5 (hE3 _ _ _ ho_z19 hx_z19) (by simpa using hnn21) (fun g hg => by have q1 := hll21 g (by first | exact hg | simp [hg]); omega)
      · go_simp
        refine hKr _ _ (fun _ => ⟨(bcell1 (hc19.trans ((below_alloc _ _).mono hc19.size)) (by omega)).trans bx3_0, (bcell1 (hc19.trans ((below_alloc _ _).mono hc19.size)) (by omega)).trans bx3_1, (bcell1 (hc19.trans ((below_alloc _ _).mono hc19.size)) (by omega)).trans bx5_0, (bcell1 (hc19.trans ((below_alloc _ _).mono hc19.size)) (by omega)).trans bx5_1, (bcell1 (hc19.trans ((below_alloc _ _).mono hc19.size)) (by omega)).trans bx5_2, (bcell1 (hc19.trans ((below_alloc _ _).mono hc19.size)) (by omega)).trans bx8_0, (bcell1 (hc19.trans ((below_alloc _ _).mono hc19.size)) (by omega)).trans bx8_1, (bcell1 (hc19.trans ((below_alloc _ _).mono hc19.size)) (by omega)).trans bx10_0, (bcell1 (hc19.trans ((below_alloc _ _).mono hc19.size)) (by omega)).trans bx10_1, (bcell1 (hc19.trans ((below_alloc _ _).mono hc19.size)) (by omega)).trans bx11_0, (bcell1 (hc19.trans ((below_alloc _ _).mono hc19.size)) (by omega)).trans bx11_1, (bcell1 (hc19.trans ((below_alloc _ _).mono hc19.size)) (by omega)).trans bx11_2, (bcell1 (hc19.trans ((below_alloc _ _).mono hc19.size)) (by omega)).trans bx12_0, (bcell1 (hc19.trans ((below_alloc _ _).mono hc19.size)) (by omega)).trans bx12_1⟩) ?_
        clear hKr Kr
        try simp only [List.getElem_toArray, List.getElem_cons_succ, List.getElem_cons_zero, Act.put, List.setIfInBounds_toArray, List.set_cons_zero, List.set_cons_succ]
        obtain ⟨wA, hwA⟩ : ∃ wz, wz = w19.alloc (.cells #[.int .i64 0, .slice none 0 0] 61) := ⟨_, rfl⟩
        rw [← hwA]
        have hcA : Below w18.heap.size w18 wA := by rw [hwA]; exact (hc19.trans ((below_alloc _ _).mono hc19.size))
        have zc0 : wA.cell? ⟨w19.heap.size, 0, none⟩ = some (.int .i64 0) := by rw [hwA]; simp [go_sem]
        have zy0 : wA.frozen? ⟨w19.heap.size, 0, none⟩ = false := by rw [hwA]; simp [go_sem]
        have zc1 : wA.cell? ⟨w19.heap.size, 1, none⟩ = some (.slice none 0 0) := by rw [hwA]; simp [go_sem]
        have zy1 : wA.frozen? ⟨w19.heap.size, 1, none⟩ = false := by rw [hwA]; simp [go_sem]
        have ltA : w19.heap.size < wA.heap.size := by rw [hwA]; simp
        have hqA := hcA.size
        have hi9_z15 : ∀ g, g ∈ F_z15 → g < w19.heap.size := Ow.lt _ _ _ ho_z15
        replace ho_z15 := ho_z15.below (w' := wA) (by rw [hwA]; exact below_alloc _ _)
        clear hwA
        have hSA : wA.cell? ⟨w.heap.size, 0, none⟩ = some (.int .i64 p0) ∧ wA.cell? ⟨w.heap.size, 1, none⟩ = some (.slice a_p1 n_p1 c_p1) ∧ wA.cell? ⟨w.heap.size + 1, 0, none⟩ = some (.slice a_st0 n_st0 c_st0) ∧ wA.cell? ⟨w.heap.size + 1, 1, none⟩ = some (.slice a_st1 n_st1 c_st1) ∧ wA.cell? ⟨w.heap.size + 1, 2, none⟩ = some (.slice a_st2 n_st2 c_st2) ∧ wA.cell? ⟨b8, 0, none⟩ = some (.int .i64 ((decS p0 p1 mode st0 st1 st2).1.1)) ∧ wA.cell? ⟨b8, 1, none⟩ = some (.slice a_z5 n_z5 c_z5) ∧ wA.cell? ⟨w6.heap.size, 0, none⟩ = some (.int .i64 p0) ∧ wA.cell? ⟨w6.heap.size, 1, none⟩ = some (.slice a_z6 n_z6 c_z6) ∧ wA.cell? ⟨w7.heap.size, 0, none⟩ = some (.slice a_z7 n_z7 c_z7) ∧ wA.cell? ⟨w7.heap.size, 1, none⟩ = some (.slice a_z8 n_z8 c_z8) ∧ wA.cell? ⟨w7.heap.size, 2, none⟩ = some (.slice a_z9 n_z9 c_z9) ∧ wA.cell? ⟨w8.heap.size, 0, none⟩ = some (.int .i64 ((decS p0 p1 mode st0 st1 st2).1.1)) ∧ wA.cell? ⟨w8.heap.size, 1, none⟩ = some (.slice a_z10 n_z10 c_z10) := ⟨(bcell1 hcA (by omega)).trans bx3_0, (bcell1 hcA (by omega)).trans bx3_1, (bcell1 hcA (by omega)).trans bx5_0, (bcell1 hcA (by omega)).trans bx5_1, (bcell1 hcA (by omega)).trans bx5_2, (bcell1 hcA (by omega)).trans bx8_0, (bcell1 hcA (by omega)).trans bx8_1, (bcell1 hcA (by omega)).trans bx10_0, (bcell1 hcA (by omega)).trans bx10_1, (bcell1 hcA (by omega)).trans bx11_0, (bcell1 hcA (by omega)).trans bx11_1, (bcell1 hcA (by omega)).trans bx11_2, (bcell1 hcA (by omega)).trans bx12_0, (bcell1 hcA (by omega)).trans bx12_1⟩
        refine wpC_one (i := 4) (l' := #[true, true, true, true, true, false, false, false, false, true, false, false]) (by kernel_rfl) rfl rfl (by rfl) (fun Kr hKr => ?_)
        refine step_callV rfl 30 #[.tmp 102] _ rfl HRUN1.out #[.agg #[.slice a_st0 n_st0 c_st0, .slice a_st1 n_st1 c_st1, .slice a_st2 n_st2 c_st2]] (by first | rfl | (simp [Act.eval]; done) | (simp [Act.eval]; rfl) | (simp [Act.eval]; repeat' constructor)) (toState_d _ (dB st0) _ (dII st1) _ (dI st2) _ _ (h_st0.below (bnext hB hcA (Nat.le_refl _))) (h_st1.below (bnext hB hcA (Nat.le_refl _))) (h_st2.below (bnext hB hcA (Nat.le_refl _))) (fit_dB st0) (fit_dII st1) (fit_dI st2) hv_st0 hv_st1 hv_st2) ?_
        rintro e w20 ⟨vs20, F20, rfl, hb20, hoo20, hnn20, hll20⟩
        have hvl20 := owA_len _ _ _ hoo20
        obtain ⟨e_20_0, e_20_1, e_20_2, rfl⟩ : ∃ e_20_0 e_20_1 e_20_2, vs20 = [e_20_0, e_20_1, e_20_2] := (by match vs20, hvl20 with | [e_20_0, e_20_1, e_20_2], _ => exact ⟨e_20_0, e_20_1, e_20_2, rfl⟩)
        clear hvl20
        obtain ⟨F_z16, _, ho_z16, hr20_0, rfl⟩ := hoo20
        obtain ⟨F_z17, _, ho_z17, hr20_1, rfl⟩ := hr20_0
        obtain ⟨F_z18, _, ho_z18, hr20_2, rfl⟩ := hr20_1
        have hend20 : _ = [] := hr20_2
        subst hend20
        obtain ⟨a_z16, n_z16, c_z16, rfl⟩ := (fit_dB st0).sliceO ho_z16
        obtain ⟨a_z17, n_z17, c_z17, rfl⟩ := (fit_dII st1).sliceO ho_z17
        obtain ⟨a_z18, n_z18, c_z18, rfl⟩ := (fit_dI st2).sliceO ho_z18
        refine ⟨_, rfl, ?_⟩
        have hc20 : Below w18.heap.size w18 w20 := hcA.trans (hb20.mono hcA.size)
        have hq20 := hc20.size
        have hy20 := hb20.size
        replace ho_z15 := ho_z15.below hb20
        replace zc0 := (bcell1 hb20 ltA).trans zc0
        replace zy0 := (hb20.frozen (p := ⟨w19.heap.size, 0, none⟩) ltA).trans zy0
        replace zc1 := (bcell1 hb20 ltA).trans zc1
        replace zy1 := (hb20.frozen (p := ⟨w19.heap.size, 1, none⟩) ltA).trans zy1
        have lt20 : w19.heap.size < w20.heap.size := Nat.lt_of_lt_of_le ltA hb20.size
        refine hKr _ _ (fun _ => ⟨(bcell1 hc20 (by omega)).trans bx3_0, (bcell1 hc20 (by omega)).trans bx3_1, (bcell1 hc20 (by omega)).trans bx5_0, (bcell1 hc20 (by omega)).trans bx5_1, (bcell1 hc20 (by omega)).trans bx5_2, (bcell1 hc20 (by omega)).trans bx8_0, (bcell1 hc20 (by omega)).trans bx8_1, (bcell1 hc20 (by omega)).trans bx10_0, (bcell1 hc20 (by omega)).trans bx10_1, (bcell1 hc20 (by omega)).trans bx11_0, (bcell1 hc20 (by omega)).trans bx11_1, (bcell1 hc20 (by omega)).trans bx11_2, (bcell1 hc20 (by omega)).trans bx12_0, (bcell1 hc20 (by omega)).trans bx12_1⟩) ?_
        clear hKr Kr
        try simp only [List.getElem_toArray, List.getElem_cons_succ, List.getElem_cons_zero, Act.put, List.setIfInBounds_toArray, List.set_cons_zero, List.set_cons_succ]
        have hS20 : w20.cell? ⟨w.heap.size, 0, none⟩ = some (.int .i64 p0) ∧ w20.cell? ⟨w.heap.size, 1, none⟩ = some (.slice a_p1 n_p1 c_p1) ∧ w20.cell? ⟨w.heap.size + 1, 0, none⟩ = some (.slice a_st0 n_st0 c_st0) ∧ w20.cell? ⟨w.heap.size + 1, 1, none⟩ = some (.slice a_st1 n_st1 c_st1) ∧ w20.cell? ⟨w.heap.size + 1, 2, none⟩ = some (.slice a_st2 n_st2 c_st2) ∧ w20.cell? ⟨b8, 0, none⟩ = some (.int .i64 ((decS p0 p1 mode st0 st1 st2).1.1)) ∧ w20.cell? ⟨b8, 1, none⟩ = some (.slice a_z5 n_z5 c_z5) ∧ w20.cell? ⟨w6.heap.size, 0, none⟩ = some (.int .i64 p0) ∧ w20.cell? ⟨w6.heap.size, 1, none⟩ = some (.slice a_z6 n_z6 c_z6) ∧ w20.cell? ⟨w7.heap.size, 0, none⟩ = some (.slice a_z7 n_z7 c_z7) ∧ w20.cell? ⟨w7.heap.size, 1, none⟩ = some (.slice a_z8 n_z8 c_z8) ∧ w20.cell? ⟨w7.heap.size, 2, none⟩ = some (.slice a_z9 n_z9 c_z9) ∧ w20.cell? ⟨w8.heap.size, 0, none⟩ = some (.int .i64 ((decS p0 p1 mode st0 st1 st2).1.1)) ∧ w20.cell? ⟨w8.heap.size, 1, none⟩ = some (.slice a_z10 n_z10 c_z10) := ⟨(bcell1 hc20 (by omega)).trans bx3_0, (bcell1 hc20 (by omega)).trans bx3_1, (bcell1 hc20 (by omega)).trans bx5_0, (bcell1 hc20 (by omega)).trans bx5_1, (bcell1 hc20 (by omega)).trans bx5_2, (bcell1 hc20 (by omega)).trans bx8_0, (bcell1 hc20 (by omega)).trans bx8_1, (bcell1 hc20 (by omega)).trans bx10_0, (bcell1 hc20 (by omega)).trans bx10_1, (bcell1 hc20 (by omega)).trans bx11_0, (bcell1 hc20 (by omega)).trans bx11_1, (bcell1 hc20 (by omega)).trans bx11_2, (bcell1 hc20 (by omega)).trans bx12_0, (bcell1 hc20 (by omega)).trans bx12_1⟩
        refine wpC_one (i := 5) (l' := #[true, true, true, true, true, true, false, false, false, true, false, false]) (by kernel_rfl) rfl rfl (by rfl) (fun Kr hKr => ?_)
        refine step_callV rfl 31 #[.tmp 100, .tmp 101, .tmp 103] _ rfl HRUN2.out #[.agg #[.int .i64 p0, .slice a_z15 n_z15 c_z15], .int .i64 mode, .agg #[.slice a_z16 n_z16 c_z16, .slice a_z17 n_z17 c_z17, .slice a_z18 n_z18 c_z18]] (by first | rfl | (simp [Act.eval]; done) | (simp [Act.eval]; rfl) | (simp [Act.eval]; repeat' constructor)) (implDecodeState_d p0 p1 mode st0 st1 st2 _ ho_z15 ho_z16 ho_z17 ho_z18 ) ?_
        rintro e w21 ⟨vs21, F21, rfl, hb21, hoo21, hnn21, hll21⟩
        have hvl21 := owA_len _ _ _ hoo21
        obtain ⟨e_21_0, e_21_1, rfl⟩ : ∃ e_21_0 e_21_1, vs21 = [e_21_0, e_21_1] := (by match vs21, hvl21 with | [e_21_0, e_21_1], _ => exact ⟨e_21_0, e_21_1, rfl⟩)
        clear hvl21
        obtain ⟨G21_0, _, ⟨ev21_0, eg21_0⟩, hr21_0, rfl⟩ := hoo21
        subst ev21_0
        subst eg21_0
        obtain ⟨F_z19, _, ho_z19, hr21_1, rfl⟩ := hr21_0
        have hend21 : _ = [] := hr21_1
        subst hend21
        obtain ⟨a_z19, n_z19, c_z19, rfl⟩ := (fit_dI ((decS p0 p1 mode st0 st1 st2).1.2)).sliceO ho_z19
        refine ⟨_, rfl, ?_⟩
        have hc21 : Below w18.heap.size w18 w21 := hc20.trans (hb21.mono hc20.size)
        have hq21 := hc21.size
        have hy21 := hb21.size
        replace ho_z15 := ho_z15.below hb21
        replace ho_z16 := ho_z16.below hb21
        replace ho_z17 := ho_z17.below hb21
        replace ho_z18 := ho_z18.below hb21
        replace zc0 := (bcell1 hb21 lt20).trans zc0
        replace zy0 := (hb21.frozen (p := ⟨w19.heap.size, 0, none⟩) lt20).trans zy0
        replace zc1 := (bcell1 hb21 lt20).trans zc1
        replace zy1 := (hb21.frozen (p := ⟨w19.heap.size, 1, none⟩) lt20).trans zy1
        have lt21 : w19.heap.size < w21.heap.size := Nat.lt_of_lt_of_le lt20 hb21.size
        refine hKr _ _ (fun _ => ⟨(bcell1 hc21 (by omega)).trans bx3_0, (bcell1 hc21 (by omega)).trans bx3_1, (bcell1 hc21 (by omega)).trans bx5_0, (bcell1 hc21 (by omega)).trans bx5_1, (bcell1 hc21 (by omega)).trans bx5_2, (bcell1 hc21 (by omega)).trans bx8_0, (bcell1 hc21 (by omega)).trans bx8_1, (bcell1 hc21 (by omega)).trans bx10_0, (bcell1 hc21 (by omega)).trans bx10_1, (bcell1 hc21 (by omega)).trans bx11_0, (bcell1 hc21 (by omega)).trans bx11_1, (bcell1 hc21 (by omega)).trans bx11_2, (bcell1 hc21 (by omega)).trans bx12_0, (bcell1 hc21 (by omega)).trans bx12_1⟩) ?_
        clear hKr Kr
        try simp only [List.getElem_toArray, List.getElem_cons_succ, List.getElem_cons_zero, Act.put, List.setIfInBounds_toArray, List.set_cons_zero, List.set_cons_succ]
        have hS21 : w21.cell? ⟨w.heap.size, 0, none⟩ = some (.int .i64 p0) ∧ w21.cell? ⟨w.heap.size, 1, none⟩ = some (.slice a_p1 n_p1 c_p1) ∧ w21.cell? ⟨w.heap.size + 1, 0, none⟩ = some (.slice a_st0 n_st0 c_st0) ∧ w21.cell? ⟨w.heap.size + 1, 1, none⟩ = some (.slice a_st1 n_st1 c_st1) ∧ w21.cell? ⟨w.heap.size + 1, 2, none⟩ = some (.slice a_st2 n_st2 c_st2) ∧ w21.cell? ⟨b8, 0, none⟩ = some (.int .i64 ((decS p0 p1 mode st0 st1 st2).1.1)) ∧ w21.cell? ⟨b8, 1, none⟩ = some (.slice a_z5 n_z5 c_z5) ∧ w21.cell? ⟨w6.heap.size, 0, none⟩ = some (.int .i64 p0) ∧ w21.cell? ⟨w6.heap.size, 1, none⟩ = some (.slice a_z6 n_z6 c_z6) ∧ w21.cell? ⟨w7.heap.size, 0, none⟩ = some (.slice a_z7 n_z7 c_z7) ∧ w21.cell? ⟨w7.heap.size, 1, none⟩ = some (.slice a_z8 n_z8 c_z8) ∧ w21.cell? ⟨w7.heap.size, 2, none⟩ = some (.slice a_z9 n_z9 c_z9) ∧ w21.cell? ⟨w8.heap.size, 0, none⟩ = some (.int .i64 ((decS p0 p1 mode st0 st1 st2).1.1)) ∧ w21.cell? ⟨w8.heap.size, 1, none⟩ = some (.slice a_z10 n_z10 c_z10) := ⟨(bcell1 hc21 (by omega)).trans bx3_0, (bcell1 hc21 (by omega)).trans bx3_1, (bcell1 hc21 (by omega)).trans bx5_0, (bcell1 hc21 (by omega)).trans bx5_1, (bcell1 hc21 (by omega)).trans bx5_2, (bcell1 hc21 (by omega)).trans bx8_0, (bcell1 hc21 (by omega)).trans bx8_1, (bcell1 hc21 (by omega)).trans bx10_0, (bcell1 hc21 (by omega)).trans bx10_1, (bcell1 hc21 (by omega)).trans bx11_0, (bcell1 hc21 (by omega)).trans bx11_1, (bcell1 hc21 (by omega)).trans bx11_2, (bcell1 hc21 (by omega)).trans bx12_0, (bcell1 hc21 (by omega)).trans bx12_1⟩
        refine wpC_take (i := 6) (v := ?v6_31) (l' := #[true, true, true, true, true, true, true, false, false, true, false, false]) [7, 8, 10, 11] rfl (by kernel_rfl) (by kernel_rfl) (by kernel_rfl) (by kernel_rfl) (by kernel_rfl) rfl (fun _ _ _ h => h) (by rfl) (fun wx hS => ?q6_31) (by assumption) ?_
        case q6_31 => (go_simp; try with_reducible rfl)
        try simp only [List.getElem_toArray, List.getElem_cons_succ, List.getElem_cons_zero, Act.put, List.setIfInBounds_toArray, List.set_cons_zero, List.set_cons_succ]
        refine wpC_take (i := 7) (v := ?v7_32) (l' := #[true, true, true, true, true, true, true, true, false, true, false, false]) [10, 11] rfl (by kernel_rfl) (by kernel_rfl) (by kernel_rfl) (by kernel_rfl) (by kernel_rfl) rfl (fun _ _ _ h => h) (by rfl) (fun wx hS => ?q7_32) (by assumption) ?_
        case q7_32 => (go_simp; try with_reducible rfl)
        try simp only [List.getElem_toArray, List.getElem_cons_succ, List.getElem_cons_zero, Act.put, List.setIfInBounds_toArray, List.set_cons_zero, List.set_cons_succ]
        refine wpC_take (i := 8) (v := ?v8_33) (l' := #[true, true, true, true, true, true, true, true, true, true, false, false]) [11] rfl (by kernel_rfl) (by kernel_rfl) (by kernel_rfl) (by kernel_rfl) (by kernel_rfl) rfl (fun _ _ _ h => h) (by rfl) (fun wx hS => ?q8_33) (by assumption) ?_
        case q8_33 => (go_simp; try with_reducible rfl)
        try simp only [List.getElem_toArray, List.getElem_cons_succ, List.getElem_cons_zero, Act.put, List.setIfInBounds_toArray, List.set_cons_zero, List.set_cons_succ]
        refine wpC_one (i := 10) (l' := #[true, true, true, true, true, true, true, true, true, true, true, false]) (by kernel_rfl) rfl rfl (by rfl) (fun Kr hKr => ?_)
        have hBB : w18.heap.size ≤ w19.heap.size := by omega
        go_simp
        have hE := box2 (.int .i64 ((decS p0 p1 mode st0 st1 st2).1.1)) (.slice a_z19 n_z19 c_z19) hc21 hBB lt21 zc0 zc1
        refine hKr _ _ (fun _ => ⟨(bcell1 hE.1 (by omega)).trans bx3_0, (bcell1 hE.1 (by omega)).trans bx3_1, (bcell1 hE.1 (by omega)).trans bx5_0, (bcell1 hE.1 (by omega)).trans bx5_1, (bcell1 hE.1 (by omega)).trans bx5_2, (bcell1 hE.1 (by omega)).trans bx8_0, (bcell1 hE.1 (by omega)).trans bx8_1, (bcell1 hE.1 (by omega)).trans bx10_0, (bcell1 hE.1 (by omega)).trans bx10_1, (bcell1 hE.1 (by omega)).trans bx11_0, (bcell1 hE.1 (by omega)).trans bx11_1, (bcell1 hE.1 (by omega)).trans bx11_2, (bcell1 hE.1 (by omega)).trans bx12_0, (bcell1 hE.1 (by omega)).trans bx12_1⟩) ?_
        clear hKr Kr
        try simp only [List.getElem_toArray, List.getElem_cons_succ, List.getElem_cons_zero, Act.put, List.setIfInBounds_toArray, List.set_cons_zero, List.set_cons_succ]
        have hSE := And.intro ((bcell1 hE.1 (by omega)).trans bx3_0) (And.intro ((bcell1 hE.1 (by omega)).trans bx3_1) (And.intro ((bcell1 hE.1 (by omega)).trans bx5_0) (And.intro ((bcell1 hE.1 (by omega)).trans bx5_1) (And.intro ((bcell1 hE.1 (by omega)).trans bx5_2) (And.intro ((bcell1 hE.1 (by omega)).trans bx8_0) (And.intro ((bcell1 hE.1 (by omega)).trans bx8_1) (And.intro ((bcell1 hE.1 (by omega)).trans bx10_0) (And.intro ((bcell1 hE.1 (by omega)).trans bx10_1) (And.intro ((bcell1 hE.1 (by omega)).trans bx11_0) (And.intro ((bcell1 hE.1 (by omega)).trans bx11_1) (And.intro ((bcell1 hE.1 (by omega)).trans bx11_2) (And.intro ((bcell1 hE.1 (by omega)).trans bx12_0) ((bcell1 hE.1 (by omega)).trans bx12_1)))))))))))))
        refine wpC_take (i := 11) (v := ?v11_34) (l' := #[true, true, true, true, true, true, true, true, true, true, true, true]) [] rfl (by kernel_rfl) (by kernel_rfl) (by kernel_rfl) (by kernel_rfl) (by kernel_rfl) rfl (fun _ _ _ h => h) (by rfl) (fun wx hS => ?q11_34) (by assumption) ?_
        case q11_34 => (go_simp; try with_reducible rfl)
        try simp only [List.getElem_toArray, List.getElem_cons_succ, List.getElem_cons_zero, Act.put, List.setIfInBounds_toArray, List.set_cons_zero, List.set_cons_succ]
        refine wpC_done (by kernel_rfl) ?_ _
        obtain ⟨hE1, hE2, hE3, hE4, hE5⟩ := hE
        have hx_z19 : w19.heap.size ∉ F_z19 := fun hg => by have q1 := hll21 (w19.heap.size) (by first | exact hg | simp [hg]); (try have q2 := hi9_z19 _ hg); omega
        exact key hBB hE2 hE1 hE4 hE5 (hE3 _ _ _ ho_z19 hx_z19) (by simpa using hnn21) (fun g hg => by have q1 := hll21 g (by first | exact hg | simp [hg]); omega)
    · go_simp
      refine hKr _ _ (fun _ => ⟨(bcell1 (below_dr (below_alloc _ _)) (by omega)).trans bx3_0, (bcell1 (below_dr (below_alloc _ _)) (by omega)).trans bx3_1, (bcell1 (below_dr (below_alloc _ _)) (by omega)).trans bx5_0, (bcell1 (below_dr (below_alloc _ _)) (by omega)).trans bx5_1, (bcell1 (below_dr (below_alloc _ _)) (by omega)).trans bx5_2, (bcell1 (below_dr (below_alloc _ _)) (by omega)).trans bx8_0, (bcell1 (below_dr (below_alloc _ _)) (by omega)).trans bx8_1, (bcell1 (below_dr (below_alloc _ _)) (by omega)).trans bx10_0, (bcell1 (below_dr (below_alloc _ _)) (by omega)).trans bx10_1, (bcell1 (below_dr (below_alloc _ _)) (by omega)).trans bx11_0, (bcell1 (below_dr (below_alloc _ _)) (by omega)).trans bx11_1, (bcell1 (below_dr (below_alloc _ _)) (by omega)).trans bx11_2, (bcell1 (below_dr (below_alloc _ _)) (by omega)).trans bx12_0, (bcell1 (below_dr (below_alloc _ _)) (by omega)).trans bx12_1⟩) ?_
      clear hKr Kr
      try simp only [List.getElem_toArray, List.getElem_cons_succ, List.getElem_cons_zero, Act.put, List.setIfInBounds_toArray, List.set_cons_zero, List.set_cons_succ]
      obtain ⟨wA, hwA⟩ : ∃ wz, wz = (w18.alloc (.cells #[.int .i64 0, .slice none 0 0] 61)).drew := ⟨_, rfl⟩
      rw [← hwA]
      have hcA : Below w18.heap.size w18 wA := by rw [hwA]; exact (below_dr (below_alloc _ _))
      have zc0 : wA.cell? ⟨w18.heap.size, 0, none⟩ = some (.int .i64 0) := by rw [hwA]; simp [go_sem]
      have zy0 : wA.frozen? ⟨w18.heap.size, 0, none⟩ = false := by rw [hwA]; simp [go_sem]
      have zc1 : wA.cell? ⟨w18.heap.size, 1, none⟩ = some (.slice none 0 0) := by rw [hwA]; simp [go_sem]
      have zy1 : wA.frozen? ⟨w18.heap.size, 1, none⟩ = false := by rw [hwA]; simp [go_sem]
      have ltA : w18.heap.size < wA.heap.size := by rw [hwA]; simp
      have hqA := hcA.size
      clear hwA
      have hSA : wA.cell? ⟨w.heap.size, 0, none⟩ = some (.int .i64 p0) ∧ wA.cell? ⟨w.heap.size, 1, none⟩ = some (.slice a_p1 n_p1 c_p1) ∧ wA.cell? ⟨w.heap.size + 1, 0, none⟩ = some (.slice a_st0 n_st0 c_st0) ∧ wA.cell? ⟨w.heap.size + 1, 1, none⟩ = some (.slice a_st1 n_st1 c_st1) ∧ wA.cell? ⟨w.heap.size + 1, 2, none⟩ = some (.slice a_st2 n_st2 c_st2) ∧ wA.cell? ⟨b8, 0, none⟩ = some (.int .i64 ((decS p0 p1 mode st0 st1 st2).1.1)) ∧ wA.cell? ⟨b8, 1, none⟩ = some (.slice a_z5 n_z5 c_z5) ∧ wA.cell? ⟨w6.heap.size, 0, none⟩ = some (.int .i64 p0) ∧ wA.cell? ⟨w6.heap.size, 1, none⟩ = some (.slice a_z6 n_z6 c_z6) ∧ wA.cell? ⟨w7.heap.size, 0, none⟩ = some (.slice a_z7 n_z7 c_z7) ∧ wA.cell? ⟨w7.heap.size, 1, none⟩ = some (.slice a_z8 n_z8 c_z8) ∧ wA.cell? ⟨w7.heap.size, 2, none⟩ = some (.slice a_z9 n_z9 c_z9) ∧ wA.cell? ⟨w8.heap.size, 0, none⟩ = some (.int .i64 ((decS p0 p1 mode st0 st1 st2).1.1)) ∧ wA.cell? ⟨w8.heap.size, 1, none⟩ = some (.slice a_z10 n_z10 c_z10) := ⟨(bcell1 hcA (by omega)).trans bx3_0, (bcell1 hcA (by omega)).trans bx3_1, (bcell1 hcA (by omega)).trans bx5_0, (bcell1 hcA (by omega)).trans bx5_1, (bcell1 hcA (by omega)).trans bx5_2, (bcell1 hcA (by omega)).trans bx8_0, (bcell1 hcA (by omega)).trans bx8_1, (bcell1 hcA (by omega)).trans bx10_0, (bcell1 hcA (by omega)).trans bx10_1, (bcell1 hcA (by omega)).trans bx11_0, (bcell1 hcA (by omega)).trans bx11_1, (bcell1 hcA (by omega)).trans bx11_2, (bcell1 hcA (by omega)).trans bx12_0, (bcell1 hcA (by omega)).trans bx12_1⟩
      refine wpC_one (i := 1) (l' := #[true, true, true, true, false, false, false, false, false, true, false, false]) (by kernel_rfl) rfl rfl (by rfl) (fun Kr hKr => ?_)
      refine step_callV rfl 15 #[.tmp 99] _ rfl HRUN0.out #[.agg #[.int .i64 p0, .slice a_p1 n_p1 c_p1]] (by first | rfl | (simp [Act.eval]; done) | (simp [Act.eval]; rfl) | (simp [Act.eval]; repeat' constructor)) (toProgram_d _ (p0) (dO p1) _ _ (h_p1.below (bnext hB hcA (Nat.le_refl _))) (fit_dO p1) hv_p1) ?_
      rintro e w19 ⟨vs19, F19, rfl, hb19, hoo19, hnn19, hll19⟩
      have hvl19 := owA_len _ _ _ hoo19
      obtain ⟨e_19_0, e_19_1, rfl⟩ : ∃ e_19_0 e_19_1, vs19 = [e_19_0, e_19_1] := (by match vs19, hvl19 with | [e_19_0, e_19_1], _ => exact ⟨e_19_0, e_19_1, rfl⟩)
      clear hvl19
      obtain ⟨G19_0, _, ⟨ev19_0, eg19_0⟩, hr19_0, rfl⟩ := hoo19
      subst ev19_0
      subst eg19_0
      obtain ⟨F_z15, _, ho_z15, hr19_1, rfl⟩ := hr19_0
      have hend19 : _ = [] := hr19_1
      subst hend19
      obtain ⟨a_z15, n_z15, c_z15, rfl⟩ := (fit_dO p1).sliceO ho_z15
      refine ⟨_, rfl, ?_⟩
      have hc19 : Below w18.heap.size w18 w19 := hcA.trans (hb19.mono hcA.size)
      have hq19 := hc19.size
      have hy19 := hb19.size
      replace zc0 := (bcell1 hb19 ltA).trans zc0
      replace zy0 := (hb19.frozen (p := ⟨w18.heap.size, 0, none⟩) ltA).trans zy0
      replace zc1 := (bcell1 hb19 ltA).trans zc1
      replace zy1 := (hb19.frozen (p := ⟨w18.heap.size, 1, none⟩) ltA).trans zy1
      have lt19 : w18.heap.size < w19.heap.size := Nat.lt_of_lt_of_le ltA hb19.size
      refine hKr _ _ (fun _ => ⟨(bcell1 hc19 (by omega)).trans bx3_0, (bcell1 hc19 (by omega)).trans bx3_1, (bcell1 hc19 (by omega)).trans bx5_0, (bcell1 hc19 (by omega)).trans bx5_1, (bcell1 hc19 (by omega)).trans bx5_2, (bcell1 hc19 (by omega)).trans bx8_0, (bcell1 hc19 (by omega)).trans bx8_1, (bcell1 hc19 (by omega)).trans bx10_0, (bcell1 hc19 (by omega)).trans bx10_1, (bcell1 hc19 (by omega)).trans bx11_0, (bcell1 hc19 (by omega)).trans bx11_1, (bcell1 hc19 (by omega)).trans bx11_2, (bcell1 hc19 (by omega)).trans bx12_0, (bcell1 hc19 (by omega)).trans bx12_1⟩) ?_
      clear hKr Kr
      try simp only [List.getElem_toArray, List.getElem_cons_succ, List.getElem_cons_zero, Act.put, List.setIfInBounds_toArray, List.set_cons_zero, List.set_cons_succ]
      have hS19 : w19.cell? ⟨w.heap.size, 0, none⟩ = some (.int .i64 p0) ∧ w19.cell? ⟨w.heap.size, 1, none⟩ = some (.slice a_p1 n_p1 c_p1) ∧ w19.cell? ⟨w.heap.size + 1, 0, none⟩ = some (.slice a_st0 n_st0 c_st0) ∧ w19.cell? ⟨w.heap.size + 1, 1, none⟩ = some (.slice a_st1 n_st1 c_st1) ∧ w19.cell? ⟨w.heap.size + 1, 2, none⟩ = some (.slice a_st2 n_st2 c_st2) ∧ w19.cell? ⟨b8, 0, none⟩ = some (.int .i64 ((decS p0 p1 mode st0 st1 st2).1.1)) ∧ w19.cell? ⟨b8, 1, none⟩ = some (.slice a_z5 n_z5 c_z5) ∧ w19.cell? ⟨w6.heap.size, 0, none⟩ = some (.int .i64 p0) ∧ w19.cell? ⟨w6.heap.size, 1, none⟩ = some (.slice a_z6 n_z6 c_z6) ∧ w19.cell? ⟨w7.heap.size, 0, none⟩ = some (.slice a_z7 n_z7 c_z7) ∧ w19.cell? ⟨w7.heap.size, 1, none⟩ = some (.slice a_z8 n_z8 c_z8) ∧ w19.cell? ⟨w7.heap.size, 2, none⟩ = some (.slice a_z9 n_z9 c_z9) ∧ w19.cell? ⟨w8.heap.size, 0, none⟩ = some (.int .i64 ((decS p0 p1 mode st0 st1 st2).1.1)) ∧ w19.cell? ⟨w8.heap.size, 1, none⟩ = some (.slice a_z10 n_z10 c_z10) := ⟨(bcell1 hc19 (by omega)).trans bx3_0, (bcell1 hc19 (by omega)).trans bx3_1, (bcell1 hc19 (by omega)).trans bx5_0, (bcell1 hc19 (by omega)).trans bx5_1, (bcell1 hc19 (by omega)).trans bx5_2, (bcell1 hc19 (by omega)).trans bx8_0, (bcell1 hc19 (by omega)).trans bx8_1, (bcell1 hc19 (by omega)).trans bx10_0, (bcell1 hc19 (by omega)).trans bx10_1, (bcell1 hc19 (by omega)).trans bx11_0, (bcell1 hc19 (by omega)).trans bx11_1, (bcell1 hc19 (by omega)).trans bx11_2, (bcell1 hc19 (by omega)).trans bx12_0, (bcell1 hc19 (by omega)).trans bx12_1⟩
      refine wpC_one (i := 4) (l' := #[true, true, true, true, true, false, false, false, false, true, false, false]) (by kernel_rfl) rfl rfl (by rfl) (fun Kr hKr => ?_)
      refine step_callV rfl 30 #[.tmp 102] _ rfl HRUN1.out #[.agg #[.slice a_st0 n_st0 c_st0, .slice a_st1 n_st1 c_st1, .slice a_st2 n_st2 c_st2]] (by first | rfl | (simp [Act.eval]; done) | (simp [Act.eval]; rfl) | (simp [Act.eval]; repeat' constructor)) (toState_d _ (dB st0) _ (dII st1) _ (dI st2) _ _ (h_st0.below (bnext hB hc19 (Nat.le_refl _))) (h_st1.below (bnext hB hc19 (Nat.le_refl _))) (h_st2.below (bnext hB hc19 (Nat.le_refl _))) (fit_dB st0) (fit_dII st1) (fit_dI st2) hv_st0 hv_st1 hv_st2) ?_
      rintro e w20 ⟨vs20, F20, rfl, hb20, hoo20, hnn20, hll20⟩
      have hvl20 := owA_len _ _ _ hoo20
      obtain ⟨e_20_0, e_20_1, e_20_2, rfl⟩ : ∃ e_20_0 e_20_1 e_20_2, vs20 = [e_20_0, e_20_1, e_20_2] := (by match vs20, hvl20 with | [e_20_0, e_20_1, e_20_2], _ => exact ⟨e_20_0, e_20_1, e_20_2, rfl⟩)
      clear hvl20
      obtain ⟨F_z16, _, ho_z16, hr20_0, rfl⟩ := hoo20
      obtain ⟨F_z17, _, ho_z17, hr20_1, rfl⟩ := hr20_0
      obtain ⟨F_z18, _, ho_z18, hr20_2, rfl⟩ := hr20_1
      have hend20 : _ = [] := hr20_2
      subst hend20
      obtain ⟨a_z16, n_z16, c_z16, rfl⟩ := (fit_dB st0).sliceO ho_z16
      obtain ⟨a_z17, n_z17, c_z17, rfl⟩ := (fit_dII st1).sliceO ho_z17
      obtain ⟨a_z18, n_z18, c_z18, rfl⟩ := (fit_dI st2).sliceO ho_z18
      refine ⟨_, rfl, ?_⟩
      have hc20 : Below w18.heap.size w18 w20 := hc19.trans (hb20.mono hc19.size)
      have hq20 := hc20.size
      have hy20 := hb20.size
      replace ho_z15 := ho_z15.below hb20
      replace zc0 := (bcell1 hb20 lt19).trans zc0
      replace zy0 := (hb20.frozen (p := ⟨w18.heap.size, 0, none⟩) lt19).trans zy0
      replace zc1 := (bcell1 hb20 lt19).trans zc1
      replace zy1 := (hb20.frozen (p := ⟨w18.heap.size, 1, none⟩) lt19).trans zy1
      have lt20 : w18.heap.size < w20.heap.size := Nat.lt_of_lt_of_le lt19 hb20.size
      refine hKr _ _ (fun _ => ⟨(bcell1 hc20 (by omega)).trans bx3_0, (bcell1 hc20 (by omega)).trans bx3_1, (bcell1 hc20 (by omega)).trans bx5_0, (bcell1 hc20 (by omega)).trans bx5_1, (bcell1 hc20 (by omega)).trans bx5_2, (bcell1 hc20 (by omega)).trans bx8_0, (bcell1 hc20 (by omega)).trans bx8_1, (bcell1 hc20 (by omega)).trans bx10_0, (bcell1 hc20 (by omega)).trans bx10_1, (bcell1 hc20 (by omega)).trans bx11_0, (bcell1 hc20 (by omega)).trans bx11_1, (bcell1 hc20 (by omega)).trans bx11_2, (bcell1 hc20 (by omega)).trans bx12_0, (bcell1 hc20 (by omega)).trans bx12_1⟩) ?_
      clear hKr Kr
      try simp only [List.getElem_toArray, List.getElem_cons_succ, List.getElem_cons_zero, Act.put, List.setIfInBounds_toArray, List.set_cons_zero, List.set_cons_succ]
      have hS20 : w20.cell? ⟨w.heap.size, 0, none⟩ = some (.int .i64 p0) ∧ w20.cell? ⟨w.heap.size, 1, none⟩ = some (.slice a_p1 n_p1 c_p1) ∧ w20.cell? ⟨w.heap.size + 1, 0, none⟩ = some (.slice a_st0 n_st0 c_st0) ∧ w20.cell? ⟨w.heap.size + 1, 1, none⟩ = some (.slice a_st1 n_st1 c_st1) ∧ w20.cell? ⟨w.heap.size + 1, 2, none⟩ = some (.slice a_st2 n_st2 c_st2) ∧ w20.cell? ⟨b8, 0, none⟩ = some (.int .i64 ((decS p0 p1 mode st0 st1 st2).1.1)) ∧ w20.cell? ⟨b8, 1, none⟩ = some (.slice a_z5 n_z5 c_z5) ∧ w20.cell? ⟨w6.heap.size, 0, none⟩ = some (.int .i64 p0) ∧ w20.cell? ⟨w6.heap.size, 1, none⟩ = some (.slice a_z6 n_z6 c_z6) ∧ w20.cell? ⟨w7.heap.size, 0, none⟩ = some (.slice a_z7 n_z7 c_z7) ∧ w20.cell? ⟨w7.heap.size, 1, none⟩ = some (.slice a_z8 n_z8 c_z8) ∧ w20.cell? ⟨w7.heap.size, 2, none⟩ = some (.slice a_z9 n_z9 c_z9) ∧ w20.cell? ⟨w8.heap.size, 0, none⟩ = some (.int .i64 ((decS p0 p1 mode st0 st1 st2).1.1)) ∧ w20.cell? ⟨w8.heap.size, 1, none⟩ = some (.slice a_z10 n_z10 c_z10) := ⟨(bcell1 hc20 (by omega)).trans bx3_0, (bcell1 hc20 (by omega)).trans bx3_1, (bcell1 hc20 (by omega)).trans bx5_0, (bcell1 hc20 (by omega)).trans bx5_1, (bcell1 hc20 (by omega)).trans bx5_2, (bcell1 hc20 (by omega)).trans bx8_0, (bcell1 hc20 (by omega)).trans bx8_1, (bcell1 hc20 (by omega)).trans bx10_0, (bcell1 hc20 (by omega)).trans bx10_1, (bcell1 hc20 (by omega)).trans bx11_0, (bcell1 hc20 (by omega)).trans bx11_1, (bcell1 hc20 (by omega)).trans bx11_2, (bcell1 hc20 (by omega)).trans bx12_0, (bcell1 hc20 (by omega)).trans bx12_1⟩
      refine wpC_one (i := 5) (l' := #[true, true, true, true, true, true, false, false, false, true, false, false]) (by kernel_rfl) rfl rfl (by rfl) (fun Kr hKr => ?_)
      refine step_callV rfl 31 #[.tmp 100, .tmp 101, .tmp 103] _ rfl HRUN2.out #[.agg #[.int .i64 p0, .slice a_z15 n_z15 c_z15], .int .i64 mode, .agg #[.slice a_z16 n_z16 c_z16, .slice a_z17 n_z17 c_z17, .slice a_z18 n_z18 c_z18]] (by first | rfl | (simp [Act.eval]; done) | (simp [Act.eval]; rfl) | (simp [Act.eval]; repeat' constructor)) (implDecodeState_d p0 p1 mode st0 st1 st2 _ ho_z15 ho_z16 ho_z17 ho_z18 ) ?_
      rintro e w21 ⟨vs21, F21, rfl, hb21, hoo21, hnn21, hll21⟩
      have hvl21 := owA_len _ _ _ hoo21
      obtain ⟨e_21_0, e_21_1, rfl⟩ : ∃ e_21_0 e_21_1, vs21 = [e_21_0, e_21_1] := (by match vs21, hvl21 with | [e_21_0, e_21_1], _ => exact ⟨e_21_0, e_21_1, rfl⟩)
      clear hvl21
      obtain ⟨G21_0, _, ⟨ev21_0, eg21_0⟩, hr21_0, rfl⟩ := hoo21
      subst ev21_0
      subst eg21_0
      obtain ⟨F_z19, _, ho_z19, hr21_1, rfl⟩ := hr21_0
      have hend21 : _ = [] := hr21_1
      subst hend21
      obtain ⟨a_z19, n_z19, c_z19, rfl⟩ := (fit_dI ((decS p0 p1 mode st0 st1 st2).1.2)).sliceO ho_z19
      refine ⟨_, rfl, ?_⟩
      have hc21 : Below w18.heap.size w18 w21 := hc20.trans (hb21.mono hc20.size)
      have hq21 := hc21.size
      have hy21 := hb21.size
      replace ho_z15 := ho_z15.below hb21
      replace ho_z16 := ho_z16.below hb21
      replace ho_z17 := ho_z17.below hb21
      replace ho_z18 := ho_z18.below hb21
      replace zc0 := (bcell1 hb21 lt20).trans zc0
      replace zy0 := (hb21.frozen (p := ⟨w18.heap.size, 0, none⟩) lt20).trans zy0
      replace zc1 := (bcell1 hb21 lt20).trans zc1
      replace zy1 := (hb21.frozen (p := ⟨w18.heap.size, 1, none⟩) lt20).trans zy1
      have lt21 : w18.heap.size < w21.heap.size := Nat.lt_of_lt_of_le lt20 hb21.size
      refine hKr _ _ (fun _ => ⟨(bcell1 hc21 (by omega)).trans bx3_0, (bcell1 hc21 (by omega)).trans bx3_1, (bcell1 hc21 (by omega)).trans bx5_0, (bcell1 hc21 (by omega)).trans bx5_1, (bcell1 hc21 (by omega)).trans bx5_2, (bcell1 hc21 (by omega)).trans bx8_0, (bcell1 hc21 (by omega)).trans bx8_1, (bcell1 hc21 (by omega)).trans bx10_0, (bcell1 hc21 (by omega)).trans bx10_1, (bcell1 hc21 (by omega)).trans bx11_0, (bcell1 hc21 (by omega)).trans bx11_1, (bcell1 hc21 (by omega)).trans bx11_2, (bcell1 hc21 (by omega)).trans bx12_0, (bcell1 hc21 (by omega)).trans bx12_1⟩) ?_
      clear hKr Kr
      try simp only [List.getElem_toArray, List.getElem_cons_succ, List.getElem_cons_zero, Act.put, List.setIfInBounds_toArray, List.set_cons_zero, List.set_cons_succ]
      have hS21 : w21.cell? ⟨w.heap.size, 0, none⟩ = some (.int .i64 p0) ∧ w21.cell? ⟨w.heap.size, 1, none⟩ = some (.slice a_p1 n_p1 c_p1) ∧ w21.cell? ⟨w.heap.size + 1, 0, none⟩ = some (.slice a_st0 n_st0 c_st0) ∧ w21.cell? ⟨w.heap.size + 1, 1, none⟩ = some (.slice a_st1 n_st1 c_st1) ∧ w21.cell? ⟨w.heap.size + 1, 2, none⟩ = some (.slice a_st2 n_st2 c_st2) ∧ w21.cell? ⟨b8, 0, none⟩ = some (.int .i64 ((decS p0 p1 mode st0 st1 st2).1.1)) ∧ w21.cell? ⟨b8, 1, none⟩ = some (.slice a_z5 n_z5 c_z5) ∧ w21.cell? ⟨w6.heap.size, 0, none⟩ = some (.int .i64 p0) ∧ w21.cell? ⟨w6.heap.size, 1, none⟩ = some (.slice a_z6 n_z6 c_z6) ∧ w21.cell? ⟨w7.heap.size, 0, none⟩ = some (.slice a_z7 n_z7 c_z7) ∧ w21.cell? ⟨w7.heap.size, 1, none⟩ = some (.slice a_z8 n_z8 c_z8) ∧ w21.cell? ⟨w7.heap.size, 2, none⟩ = some (.slice a_z9 n_z9 c_z9) ∧ w21.cell? ⟨w8.heap.size, 0, none⟩ = some (.int .i64 ((decS p0 p1 mode st0 st1 st2).1.1)) ∧ w21.cell? ⟨w8.heap.size, 1, none⟩ = some (.slice a_z10 n_z10 c_z10) := ⟨(bcell1 hc21 (by omega)).trans bx3_0, (bcell1 hc21 (by omega)).trans bx3_1, (bcell1 hc21 (by omega)).trans bx5_0, (bcell1 hc21 (by omega)).trans bx5_1, (bcell1 hc21 (by omega)).trans bx5_2, (bcell1 hc21 (by omega)).trans bx8_0, (bcell1 hc21 (by omega)).trans bx8_1, (bcell1 hc21 (by omega)).trans bx10_0, (bcell1 hc21 (by omega)).trans bx10_1, (bcell1 hc21 (by omega)).trans bx11_0, (bcell1 hc21 (by omega)).trans bx11_1, (bcell1 hc21 (by omega)).trans bx11_2, (bcell1 hc21 (by omega)).trans bx12_0, (bcell1 hc21 (by omega)).trans bx12_1⟩
      refine wpC_take (i := 6) (v := ?v6_35) (l' := #[true, true, true, true, true, true, true, false, false, true, false, false]) [7, 8, 10, 11] rfl (by kernel_rfl) (by kernel_rfl) (by kernel_rfl) (by kernel_rfl) (by kernel_rfl) rfl (fun _ _ _ h => h) (by rfl) (fun wx hS => ?q6_35) (by assumption) ?_
      case q6_35 => (go_simp; try with_reducible rfl)
      try simp only [List.getElem_toArray, List.getElem_cons_succ, List.getElem_cons_zero, Act.put, List.setIfInBounds_toArray, List.set_cons_zero, List.set_cons_succ]
      refine wpC_take (i := 7) (v := ?v7_36) (l' := #[true, true, true, true, true, true, true, true, false, true, false, false]) [10, 11] rfl (by kernel_rfl) (by kernel_rfl) (by kernel_rfl) (by kernel_rfl) (by kernel_rfl) rfl (fun _ _ _ h => h) (by rfl) (fun wx hS => ?q7_36) (by assumption) ?_
      case q7_36 => (go_simp; try with_reducible rfl)
      try simp only [List.getElem_toArray, List.getElem_cons_succ, List.getElem_cons_zero, Act.put, List.setIfInBounds_toArray, List.set_cons_zero, List.set_cons_succ]
      refine wpC_take (i := 8) (v := ?v8_37) (l' := #[true, true, true, true, true, true, true, true, true, true, false, false]) [11] rfl (by kernel_rfl) (by kernel_rfl) (by kernel_rfl) (by kernel_rfl) (by kernel_rfl) rfl (fun _ _ _ h => h) (by rfl) (fun wx hS => ?q8_37) (by assumption) ?_
      case q8_37 => (go_simp; try with_reducible rfl)
      try simp only [List.getElem_toArray, List.getElem_cons_succ, List.getElem_cons_zero, Act.put, List.setIfInBounds_toArray, List.set_cons_zero, List.set_cons_succ]
      refine wpC_one (i := 10) (l' := #[true, true, true, true, true, true, true, true, true, true, true, false]) (by kernel_rfl) rfl rfl (by rfl) (fun Kr hKr => ?_)
      have hBB : w18.heap.size ≤ w18.heap.size := by omega
      go_simp
      have hE := box2 (.int .i64 ((decS p0 p1 mode st0 st1 st2).1.1)) (.slice a_z19 n_z19 c_z19) hc21 hBB lt21 zc0 zc1
      refine hKr _ _ (fun _ => ⟨(bcell1 hE.1 (by omega)).trans bx3_0, (bcell1 hE.1 (by omega)).trans bx3_1, (bcell1 hE.1 (by omega)).trans bx5_0, (bcell1 hE.1 (by omega)).trans bx5_1, (bcell1 hE.1 (by omega)).trans bx5_2, (bcell1 hE.1 (by omega)).trans bx8_0, (bcell1 hE.1 (by omega)).trans bx8_1, (bcell1 hE.1 (by omega)).trans bx10_0, (bcell1 hE.1 (by omega)).trans bx10_1, (bcell1 hE.1 (by omega)).trans bx11_0, (bcell1 hE.1 (by omega)).trans bx11_1, (bcell1 hE.1 (by omega)).trans bx11_2, (bcell1 hE.1 (by omega)).trans bx12_0, (bcell1 hE.1 (by omega)).trans bx12_1⟩) ?_
      clear hKr Kr
      try simp only [List.getElem_toArray, List.getElem_cons_succ, List.getElem_cons_zero, Act.put, List.setIfInBounds_toArray, List.set_cons_zero, List.set_cons_succ]
      have hSE := And.intro ((bcell1 hE.1 (by omega)).trans bx3_0) (And.intro ((bcell1 hE.1 (by omega)).trans bx3_1) (And.intro ((bcell1 hE.1 (by omega)).trans bx5_0) (And.intro ((bcell1 hE.1 (by omega)).trans bx5_1) (And.intro ((bcell1 hE.1 (by omega)).trans bx5_2) (And.intro ((bcell1 hE.1 (by omega)).trans bx8_0) (And.intro ((bcell1 hE.1 (by omega)).trans bx8_1) (And.intro ((bcell1 hE.1 (by omega)).trans bx10_0) (And.intro ((bcell1 hE.1 (by omega)).trans bx10_1) (And.intro ((bcell1 hE.1 (by omega)).trans bx11_0) (And.intro ((bcell1 hE.1 (by omega)).trans bx11_1) (And.intro ((bcell1 hE.1 (by omega)).trans bx11_2) (And.intro ((bcell1 hE.1 (by omega)).trans bx12_0) ((bcell1 hE.1 (by omega)).trans bx12_1)))))))))))))
      refine wpC_take (i := 11) (v := ?v11_38) (l' := #[true, true, true, true, true, true, true, true, true, true, true, true]) [] rfl (by kernel_rfl) (by kernel_rfl) (by kernel_rfl) (by kernel_rfl) (by kernel_rfl) rfl (fun _ _ _ h => h) (by rfl) (fun wx hS => ?q11_38) (by assumption) ?_
      case q11_38 => (go_simp; try with_reducible rfl)
      try simp only [List.getElem_toArray, List.getElem_cons_succ, List.getElem_cons_zero, Act.put, List.setIfInBounds_toArray, List.set_cons_zero, List.set_cons_succ]
      refine wpC_done (by kernel_rfl) ?_ _
      obtain ⟨hE1, hE2, hE3, hE4, hE5⟩ := hE
      have hx_z19 : w18.heap.size ∉ F_z19 := fun hg => by have q1 := hll21 (w18.heap.size) (by first | exact hg | simp [hg]); (try have q2 := hi9_z19 _ hg); omega
      exact key hBB hE2 hE1 hE4 hE5 (hE3 _ _ _ ho_z19 hx_z19) (by simpa using hnn21) (fun g hg => by have q1 := hll21 g (by first | exact hg | simp [hg]); omega)
  intro t0 t1 t2 t3 t4 t5 t6 t7 t10 t11 t13 t14 t19 t20 t21 t22 t23 t24 t25 t26 t27 t28 t29 t30 t31 t32 t33 t34 t35 t36 t37 t38 t39 t40 t41 t42 t43 t44 t45 t46 t47 t48 t49 t50 t51 t52 t53 t54 t55 t56 t57 t58 t59 t60 t61 t62 t63 t64 t65 t66 t67 t68 t69 t70 t71 t72 t73 t74 t75 t76 t77 t78 t79 t80 t81 t82 t83 t84 t85 t86 t87 t88 t89 t90 t91 t92 t93 t94 t95 t96 t97 t98 t99 t100 t101 t102 t103 t104 t105 t106 t107 t108 t109 t110 t111 t112 t113 t114 t115 t116 t117 t118 t119 t120 t121 t122 t123 b17 wE17 a_z19 n_z19 c_z19 F_z19 hle17 ltb17 hswE17 bx17_0 bx17_1 ho_z19 hd_z19 hl_z19
  apply hK17
  clear hK17 HRUN0 HRUN1 HRUN2
  have hzwE17 : w18.heap.size ≤ wE17.heap.size := hswE17.size
  replace bx3_0 := (bcell1 hswE17 (by omega)).trans bx3_0
  replace bx3_1 := (bcell1 hswE17 (by omega)).trans bx3_1
  replace bx5_0 := (bcell1 hswE17 (by omega)).trans bx5_0
  replace bx5_1 := (bcell1 hswE17 (by omega)).trans bx5_1
  replace bx5_2 := (bcell1 hswE17 (by omega)).trans bx5_2
  replace bx8_0 := (bcell1 hswE17 (by omega)).trans bx8_0
  replace bx8_1 := (bcell1 hswE17 (by omega)).trans bx8_1
  replace bx10_0 := (bcell1 hswE17 (by omega)).trans bx10_0
  replace bx10_1 := (bcell1 hswE17 (by omega)).trans bx10_1
  replace bx11_0 := (bcell1 hswE17 (by omega)).trans bx11_0
  replace bx11_1 := (bcell1 hswE17 (by omega)).trans bx11_1
  replace bx11_2 := (bcell1 hswE17 (by omega)).trans bx11_2
  replace bx12_0 := (bcell1 hswE17 (by omega)).trans bx12_0
  replace bx12_1 := (bcell1 hswE17 (by omega)).trans bx12_1
  replace ho_z5 := ho_z5.below hswE17
  replace ho_z10 := ho_z10.below hswE17
  replace hB := bnext hB hswE17 (Nat.le_refl _)
  clear hswE17
  have hi_z19 : ∀ g, g ∈ F_z19 → g < wE17.heap.size := Ow.lt _ _ _ ho_z19
  go_wp2_with fail
  refine (eqConfig_d (((decS p0 p1 mode st0 st1 st2).1.1)) (dI (decS p0 p1 mode st0 st1 st2).1.2) _ _ _ ho_z19.rdA ho_z5.rdA (fit_dI ((decS p0 p1 mode st0 st1 st2).1.2))).mono ?_
  rintro e w22 ⟨rfl, hb22⟩
  have hs22 : Below wE17.heap.size wE17 w22 := hb22
  replace bx3_0 := (bcell1 hs22 (by omega)).trans bx3_0
  replace bx3_1 := (bcell1 hs22 (by omega)).trans bx3_1
  replace bx5_0 := (bcell1 hs22 (by omega)).trans bx5_0
  replace bx5_1 := (bcell1 hs22 (by omega)).trans bx5_1
  replace bx5_2 := (bcell1 hs22 (by omega)).trans bx5_2
  replace bx8_0 := (bcell1 hs22 (by omega)).trans bx8_0
  replace bx8_1 := (bcell1 hs22 (by omega)).trans bx8_1
  replace bx10_0 := (bcell1 hs22 (by omega)).trans bx10_0
  replace bx10_1 := (bcell1 hs22 (by omega)).trans bx10_1
  replace bx11_0 := (bcell1 hs22 (by omega)).trans bx11_0
  replace bx11_1 := (bcell1 hs22 (by omega)).trans bx11_1
  replace bx11_2 := (bcell1 hs22 (by omega)).trans bx11_2
  replace bx12_0 := (bcell1 hs22 (by omega)).trans bx12_0
  replace bx12_1 := (bcell1 hs22 (by omega)).trans bx12_1
  replace bx17_0 := (bcell1 hs22 (by omega)).trans bx17_0
  replace bx17_1 := (bcell1 hs22 (by omega)).trans bx17_1
  have hz22 : wE17.heap.size ≤ w22.heap.size := hb22.size
  replace ho_z5 := ho_z5.below hs22
  replace ho_z10 := ho_z10.below hs22
  replace ho_z19 := ho_z19.below hs22
  replace hB := bnext hB hs22 (Nat.le_refl _)
  clear hb22 hs22
  clear ho_z5 ho_z19
  go_wp2_with fail
  refine (heldConfig_d Any (((decS p0 p1 mode st0 st1 st2).1.1)) (dI (decS p0 p1 mode st0 st1 st2).1.2) _ (1) _ ho_z10.rdA (fit_dI ((decS p0 p1 mode st0 st1 st2).1.2)) (by first | assumption | (have := cnt_le_vol (fit_dI ((decS p0 p1 mode st0 st1 st2).1.2)); omega)) (by omega) (by omega)).mono ?_
  rintro e w23 ⟨rfl, hb23⟩
  have hs23 : Below w22.heap.size w22 w23 := hb23
  replace bx3_0 := (bcell1 hs23 (by omega)).trans bx3_0
  replace bx3_1 := (bcell1 hs23 (by omega)).trans bx3_1
  replace bx5_0 := (bcell1 hs23 (by omega)).trans bx5_0
  replace bx5_1 := (bcell1 hs23 (by omega)).trans bx5_1
  replace bx5_2 := (bcell1 hs23 (by omega)).trans bx5_2
  replace bx8_0 := (bcell1 hs23 (by omega)).trans bx8_0
  replace bx8_1 := (bcell1 hs23 (by omega)).trans bx8_1
  replace bx10_0 := (bcell1 hs23 (by omega)).trans bx10_0
  replace bx10_1 := (bcell1 hs23 (by omega)).trans bx10_1
  replace bx11_0 := (bcell1 hs23 (by omega)).trans bx11_0
  replace bx11_1 := (bcell1 hs23 (by omega)).trans bx11_1
  replace bx11_2 := (bcell1 hs23 (by omega)).trans bx11_2
  replace bx12_0 := (bcell1 hs23 (by omega)).trans bx12_0
  replace bx12_1 := (bcell1 hs23 (by omega)).trans bx12_1
  replace bx17_0 := (bcell1 hs23 (by omega)).trans bx17_0
  replace bx17_1 := (bcell1 hs23 (by omega)).trans bx17_1
  have hz23 : w22.heap.size ≤ w23.heap.size := hb23.size
  replace ho_z10 := ho_z10.below hs23
  replace hB := bnext hB hs23 (Nat.le_refl _)
  clear hb23 hs23
  clear ho_z10
  go_wp2
  go_ret
  exact ⟨rfl, hB⟩
set_option maxRecDepth 100000 in
theorem lifted (os : Os) (started : os.Started) (H : Type) (enc : TypeId × Value → H) :
    ReturnsInHanded {} Try.checked os 5 .any (Rows.fnExactDecodeStateSpec.pre6 enc Try.prog Try.f5 Rows.fnExactDecodeStateRow.domain false) (Rows.fnExactDecodeStateSpec.post enc Try.prog Try.f5 false true false false) :=
  lift Try.func5 (by kernel_rfl) rfl rfl (by kernel_rfl : Try.prog.underlying 4 = some .bool) (by kernel_rfl) (fun ds h => by match ds, h with | [d0, d1, d2], _ => rfl) started
    (ChangeSpec.witness6 (enc := enc) (C := Try.checked) false ⟨#[], #[.agg #[.int .i64 0, .slice none 0 0], .int .i64 0, .agg #[.slice none 0 0, .slice none 0 0, .slice none 0 0]], []⟩ 8 (by kernel_rfl) (by kernel_rfl) (by kernel_rfl) (by kernel_rfl))
    (fun W base args ds p hval hA => by
      rw [Try.params5] at hA hval
      obtain ⟨v0, vs0, d0, ds0, p0, q0, hargs0, rfl, rfl, g0, r0⟩ := ChangeShapes.trodAll_cons hA
      obtain ⟨v1, vs1, d1, ds1, p1, q1, hargs1, rfl, rfl, g1, r1⟩ := ChangeShapes.trodAll_cons r0
      obtain ⟨v2, vs2, d2, ds2, p2, q2, hargs2, rfl, rfl, g2, r2⟩ := ChangeShapes.trodAll_cons r1
      obtain ⟨hnil, rfl, rfl⟩ := ChangeShapes.trodAll_nil r2
      obtain rfl : args = #[v0, v1, v2] := by cases args; simp_all
      obtain ⟨vs0x, dsx0, rfl, fx0, rx0⟩ := open_A [.i, .l [.i, .i, .i, .i]] Try.underlying24 (by kernel_rfl) (hval 0 _ _ rfl rfl) g0
      obtain ⟨_, s0_0, rfl, ⟨x0_0, rfl⟩, t0_0⟩ := fx0
      obtain ⟨_, s0_1, rfl, j0_1, t0_1⟩ := t0_0
      obtain ⟨x0_1, rfl⟩ := fitD_O j0_1
      obtain rfl : s0_1 = [] := t0_1
      obtain ⟨y0_0, z0_0, e0_0, k0_0, l0_0⟩ := rx0
      subst e0_0
      obtain rfl : y0_0 = .int .i64 x0_0 := k0_0
      obtain ⟨y0_1, z0_1, e0_1, k0_1, l0_1⟩ := l0_0
      subst e0_1
      obtain rfl : z0_1 = [] := l0_1
      obtain ⟨x1, rfl, rfl, rfl, wx1⟩ := open_int (by kernel_rfl : Try.prog.underlying 2 = some (.int .i64)) (hval 1 _ _ rfl rfl) g1
      obtain ⟨vs2x, dsx2, rfl, fx2, rx2⟩ := open_A [.l [.b], .l [.l [.i]], .l [.i]] Try.underlying58 (by kernel_rfl) (hval 2 _ _ rfl rfl) g2
      obtain ⟨_, s2_0, rfl, j2_0, t2_0⟩ := fx2
      obtain ⟨x2_0, rfl⟩ := fitD_B j2_0
      obtain ⟨_, s2_1, rfl, j2_1, t2_1⟩ := t2_0
      obtain ⟨x2_1, rfl⟩ := fitD_II j2_1
      obtain ⟨_, s2_2, rfl, j2_2, t2_2⟩ := t2_1
      obtain ⟨x2_2, rfl⟩ := fitD_I j2_2
      obtain rfl : s2_2 = [] := t2_2
      obtain ⟨y2_0, z2_0, e2_0, k2_0, l2_0⟩ := rx2
      subst e2_0
      obtain ⟨y2_1, z2_1, e2_1, k2_1, l2_1⟩ := l2_0
      subst e2_1
      obtain ⟨y2_2, z2_2, e2_2, k2_2, l2_2⟩ := l2_1
      subst e2_2
      obtain rfl : z2_2 = [] := l2_2
      exact walk x0_0 x0_1 y0_1 x1 x2_0 y2_0 x2_1 y2_1 x2_2 y2_2 W k0_1 k2_0 k2_1 k2_2)
end Go.Proofs.Ythlbogmnnenkoaa.lawDecodeState
