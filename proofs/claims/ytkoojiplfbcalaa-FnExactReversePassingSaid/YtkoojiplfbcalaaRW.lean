/- ReversePassing, the program's. Written by mkrv2.py. -/
import Derived.Test.YtkoojiplfbcalaaRV
import Derived.Test.YtkoojiplfbcalaaRM
import Derived.Test.YtkoojiplfbcalaaLG
namespace Go.Proofs.Ytkoojiplfbcalaa
open Go.RowKit

set_option maxHeartbeats 4000000 in
set_option maxRecDepth 100000 in
theorem implReversePassing_c (x0 : Int) (x1 : List Int) (x2 : List Bool) (x3 : List PR) (a1 a2 a3 : Option Addr) (c1 c2 c3 : Nat) (w : World) (h1 : SlI Any w a1 x1) (hc1 : x1.length ≤ c1) (h2 : SlB Any w a2 x2) (h3 : Rd Any w (dPR x3) (.slice a3 x3.length c3)) :
    Calls Try.prog 49 #[.agg #[.int .i64 x0, .slice a1 x1.length c1, .slice a2 x2.length c2, .slice a3 x3.length c3]] w (RetAC w (psD (revS x0 x1 x2 x3).1) (revS x0 x1 x2 x3).2) := by
  have hb0 : Below w.heap.size w ((w.alloc (.cells #[.int .i64 x0, .slice a1 x1.length c1, .slice a2 x2.length c2, .slice a3 x3.length c3] 36)).alloc (.cells #[.int .i64 0, .slice none 0 0, .slice none 0 0, .slice none 0 0] 36)) := ((Below.refl _ _).alloc (Nat.le_refl _) _).alloc (by simp) _
  have HV := Lib.hid (validPassing_c x0 x1 x2 x3 a1 a2 a3 c1 c2 c3 ((w.alloc (.cells #[.int .i64 x0, .slice a1 x1.length c1, .slice a2 x2.length c2, .slice a3 x3.length c3] 36)).alloc (.cells #[.int .i64 0, .slice none 0 0, .slice none 0 0, .slice none 0 0] 36)) (h1.below hb0) hc1 (h2.below hb0) (h3.below hb0))
  have HB0 := Lib.hid hb0
  clear hb0
  by_cases hok : okPass x0 x1 x2 x3 = true
  rotate_left
  · have hres : revS x0 x1 x2 x3 = (zPsn, 1) := by rw [revS, if_neg hok]
    have hok' : okPass x0 x1 x2 x3 = false := by simpa using hok
    rw [hok'] at HV
    rw [hres]
    clear hres hok hok'
    go_enter Try.func49, Try.ntmps49
    go_wp2_with fail
    refine HV.out.mono ?_
    rintro e w1 ⟨rfl, hb1⟩
    have f0 : w1.cell? ⟨w.heap.size, 0, none⟩ = some (.int .i64 x0) := by rw [bcell1 hb1 (by simp <;> omega)]; simp [go_sem]
    have f1 : w1.cell? ⟨w.heap.size, 1, none⟩ = some (.slice a1 x1.length c1) := by rw [bcell1 hb1 (by simp <;> omega)]; simp [go_sem]
    have f2 : w1.cell? ⟨w.heap.size, 2, none⟩ = some (.slice a2 x2.length c2) := by rw [bcell1 hb1 (by simp <;> omega)]; simp [go_sem]
    have f3 : w1.cell? ⟨w.heap.size, 3, none⟩ = some (.slice a3 x3.length c3) := by rw [bcell1 hb1 (by simp <;> omega)]; simp [go_sem]
    have r0 : w1.cell? ⟨w.heap.size + 1, 0, none⟩ = some (.int .i64 0) := by rw [bcell1 hb1 (by simp)]; simp [go_sem]
    have r1 : w1.cell? ⟨w.heap.size + 1, 1, none⟩ = some (.slice none 0 0) := by rw [bcell1 hb1 (by simp)]; simp [go_sem]
    have r2 : w1.cell? ⟨w.heap.size + 1, 2, none⟩ = some (.slice none 0 0) := by rw [bcell1 hb1 (by simp)]; simp [go_sem]
    have r3 : w1.cell? ⟨w.heap.size + 1, 3, none⟩ = some (.slice none 0 0) := by rw [bcell1 hb1 (by simp)]; simp [go_sem]
    have z0 : w1.frozen? ⟨w.heap.size + 1, 0, none⟩ = false := by rw [hb1.frozen (p := ⟨w.heap.size + 1, 0, none⟩) (by simp)]; simp [go_sem]
    have z1 : w1.frozen? ⟨w.heap.size + 1, 1, none⟩ = false := by rw [hb1.frozen (p := ⟨w.heap.size + 1, 1, none⟩) (by simp)]; simp [go_sem]
    have z2 : w1.frozen? ⟨w.heap.size + 1, 2, none⟩ = false := by rw [hb1.frozen (p := ⟨w.heap.size + 1, 2, none⟩) (by simp)]; simp [go_sem]
    have z3 : w1.frozen? ⟨w.heap.size + 1, 3, none⟩ = false := by rw [hb1.frozen (p := ⟨w.heap.size + 1, 3, none⟩) (by simp)]; simp [go_sem]
    have HB1 : Hid (Below w.heap.size w w1) := Lib.hid (HB0.out.trans (hb1.mono (by simp <;> omega)))
    clear hb1
    have sA := set4 w1 (w.heap.size + 1) (.int .i64 0) (.slice none 0 0) (.slice none 0 0) (.slice none 0 0) r0 r1 r2 r3
    go_wp2
    refine bodyPost_ret (v := .tuple #[.agg #[.int .i64 0, .slice none 0 0, .slice none 0 0, .slice none 0 0], .int .i64 1]) (by simp [results, Try.results49, go_sem, sA]) rfl ?_
    exact RetAC.zero HB1.out (by omega) 1
  · obtain ⟨K0, rfl, hps⟩ := PsOk.of hok
    rw [hok] at HV
    have hl1 : 0 < x1.length := hps.p1
    have hl2 : 0 < x2.length := by have := hps.free; have := hps.k1; omega
    obtain ⟨d1, rfl⟩ := h1.addr hl1
    obtain ⟨d2, rfl⟩ := h2.addr hl2
    have H1 := Lib.hid h1
    have H2 := Lib.hid h2
    have H3 := Lib.hid h3
    have hok2 := hok
    have HPS := Lib.hid hps
    have HOK := Lib.hid hok
    have HC1 := Lib.hid hc1
    have hx4 := hps.p4
    have hx28 : x2.length ≤ 8 := by have := hps.free; have := hps.k8; omega
    have hr8 := hps.r8
    clear h1 h2 h3 hps hok hok2 hc1
    go_enter Try.func49, Try.ntmps49
    go_wp2_with fail
    refine HV.out.mono ?_
    rintro e w1 ⟨rfl, hb1⟩
    have f0 : w1.cell? ⟨w.heap.size, 0, none⟩ = some (.int .i64 (K0 : Int)) := by rw [bcell1 hb1 (by simp <;> omega)]; simp [go_sem]
    have f1 : w1.cell? ⟨w.heap.size, 1, none⟩ = some (.slice (some d1) x1.length c1) := by rw [bcell1 hb1 (by simp <;> omega)]; simp [go_sem]
    have f2 : w1.cell? ⟨w.heap.size, 2, none⟩ = some (.slice (some d2) x2.length c2) := by rw [bcell1 hb1 (by simp <;> omega)]; simp [go_sem]
    have f3 : w1.cell? ⟨w.heap.size, 3, none⟩ = some (.slice a3 x3.length c3) := by rw [bcell1 hb1 (by simp <;> omega)]; simp [go_sem]
    have r0 : w1.cell? ⟨w.heap.size + 1, 0, none⟩ = some (.int .i64 0) := by rw [bcell1 hb1 (by simp)]; simp [go_sem]
    have r1 : w1.cell? ⟨w.heap.size + 1, 1, none⟩ = some (.slice none 0 0) := by rw [bcell1 hb1 (by simp)]; simp [go_sem]
    have r2 : w1.cell? ⟨w.heap.size + 1, 2, none⟩ = some (.slice none 0 0) := by rw [bcell1 hb1 (by simp)]; simp [go_sem]
    have r3 : w1.cell? ⟨w.heap.size + 1, 3, none⟩ = some (.slice none 0 0) := by rw [bcell1 hb1 (by simp)]; simp [go_sem]
    have z0 : w1.frozen? ⟨w.heap.size + 1, 0, none⟩ = false := by rw [hb1.frozen (p := ⟨w.heap.size + 1, 0, none⟩) (by simp)]; simp [go_sem]
    have z1 : w1.frozen? ⟨w.heap.size + 1, 1, none⟩ = false := by rw [hb1.frozen (p := ⟨w.heap.size + 1, 1, none⟩) (by simp)]; simp [go_sem]
    have z2 : w1.frozen? ⟨w.heap.size + 1, 2, none⟩ = false := by rw [hb1.frozen (p := ⟨w.heap.size + 1, 2, none⟩) (by simp)]; simp [go_sem]
    have z3 : w1.frozen? ⟨w.heap.size + 1, 3, none⟩ = false := by rw [hb1.frozen (p := ⟨w.heap.size + 1, 3, none⟩) (by simp)]; simp [go_sem]
    have HB1 : Hid (Below w.heap.size w w1) := Lib.hid (HB0.out.trans (hb1.mono (by simp <;> omega)))
    have hz1 : w.heap.size + 2 ≤ w1.heap.size := by have := hb1.size; (try simp at this); omega
    clear hb1
    have HRI := Lib.hid (callFunc_run (P := Try.prog) Try.func107 (by kernel_rfl) rfl)
    have HRB := Lib.hid (callFunc_run (P := Try.prog) Try.func117 (by kernel_rfl) rfl)
    have HCI : Hid (∀ wx, Below w1.heap.size w1 wx → Calls Try.prog 107 #[.slice (some d1) x1.length c1] wx (RetD wx (dI x1))) := Lib.hid fun wx h => clone_c Any d1 c1 x1 wx (H1.out.below (HB1.out.trans (h.mono (by omega)))) (by omega)
    have HCB : Hid (∀ wx, Below w1.heap.size w1 wx → Calls Try.prog 117 #[.slice (some d2) x2.length c2] wx (RetD wx (dB x2))) := Lib.hid fun wx h => cloneBool_c Any d2 c2 x2 wx (H2.out.below (HB1.out.trans (h.mono (by omega)))) (by omega)
    go_wp2
    rename_i K hK
    suffices key : ∀ {t11 t12 t13 t14 t15 t16 t17 t18 t19 : Value} {w2 : World} {g m1 m2 : Nat} {q1 q2 : Option Addr} {F1 F2 : List Nat}, Hid (Below w1.heap.size w1 w2) → Hid (Rev w1.heap.size w2 g K0 x1 x2 [] (.slice q1 x1.length m1) (.slice q2 x2.length m2) F1 F2 (.slice none 0 0) []) → K ⟨#[(.agg #[.int .i64 K0, .slice (some d1) x1.length c1, .slice (some d2) x2.length c2, .slice a3 x3.length c3]), .pointer (some ⟨w.heap.size, 0, none⟩), .pointer (some ⟨w.heap.size + 1, 0, none⟩), .int .i64 0, .pointer (some ⟨g, 0, none⟩), undef, undef, (.agg #[.int .i64 K0, .slice (some d1) x1.length c1, .slice (some d2) x2.length c2, .slice a3 x3.length c3]), .bool true, .bool false, undef, t11, t12, t13, t14, t15, t16, t17, t18, t19, undef, undef, undef, undef, undef, undef, undef, undef, undef, undef, undef, undef, undef, undef, undef, undef, undef, undef, undef, undef, undef, undef, undef, undef, undef, undef, undef], []⟩ w2 by
      have hcD : Below w1.heap.size w1 w1.drew := (Below.refl _ _).drew
      have hS0 : w1.drew.cell? ⟨w.heap.size, 0, none⟩ = some (.int .i64 (K0 : Int)) ∧ w1.drew.cell? ⟨w.heap.size, 1, none⟩ = some (.slice (some d1) x1.length c1) ∧ w1.drew.cell? ⟨w.heap.size, 2, none⟩ = some (.slice (some d2) x2.length c2) := ⟨f0, f1, f2⟩
      refine wp_region_C (n := 11) (l := #[false, false, false, false, false, false, false, false, false, false, false]) (fun wx => wx.cell? ⟨w.heap.size, 0, none⟩ = some (.int .i64 (K0 : Int)) ∧ wx.cell? ⟨w.heap.size, 1, none⟩ = some (.slice (some d1) x1.length c1) ∧ wx.cell? ⟨w.heap.size, 2, none⟩ = some (.slice (some d2) x2.length c2)) [10] (by kernel_rfl) rfl rfl ?_
      refine wpC_take (i := 0) (v := ?v0_1) (l' := #[true, false, false, false, false, false, false, false, false, false, false]) [1, 8, 10] rfl (by kernel_rfl) (by kernel_rfl) (by kernel_rfl) (by kernel_rfl) (by kernel_rfl) rfl (fun _ _ _ h => h) (by rfl) (fun wx hS => ?q0_1) (by assumption) ?_
      case q0_1 => (go_simp; try with_reducible rfl)
      try simp only [List.getElem_toArray, List.getElem_cons_zero, Act.put, List.setIfInBounds_toArray, List.set_cons_zero, List.set_cons_succ]
      refine wpC_take (i := 1) (v := ?v1_2) (l' := #[true, true, false, false, false, false, false, false, false, false, false]) [8, 10] rfl (by kernel_rfl) (by kernel_rfl) (by kernel_rfl) (by kernel_rfl) (by kernel_rfl) rfl (fun _ _ _ h => h) (by rfl) (fun wx hS => ?q1_2) (by assumption) ?_
      case q1_2 => ((try dsimp only at hS); obtain ⟨hS1, hS2, hS3⟩ := hS; go_simp; try with_reducible rfl)
      try simp only [List.getElem_toArray, List.getElem_cons_succ, List.getElem_cons_zero, Act.put, List.setIfInBounds_toArray, List.set_cons_zero, List.set_cons_succ]
      refine wpC_take (i := 2) (v := ?v2_3) (l' := #[true, true, true, false, false, false, false, false, false, false, false]) [3, 4, 7, 8, 10] rfl (by kernel_rfl) (by kernel_rfl) (by kernel_rfl) (by kernel_rfl) (by kernel_rfl) rfl (fun _ _ _ h => h) (by rfl) (fun wx hS => ?q2_3) (by assumption) ?_
      case q2_3 => (go_simp; try with_reducible rfl)
      try simp only [List.getElem_toArray, List.getElem_cons_succ, List.getElem_cons_zero, Act.put, List.setIfInBounds_toArray, List.set_cons_zero, List.set_cons_succ]
      refine wpC_take (i := 3) (v := ?v3_4) (l' := #[true, true, true, true, false, false, false, false, false, false, false]) [4, 7, 8, 10] rfl (by kernel_rfl) (by kernel_rfl) (by kernel_rfl) (by kernel_rfl) (by kernel_rfl) rfl (fun _ _ _ h => h) (by rfl) (fun wx hS => ?q3_4) (by assumption) ?_
      case q3_4 => ((try dsimp only at hS); obtain ⟨hS1, hS2, hS3⟩ := hS; go_simp; try with_reducible rfl)
      try simp only [List.getElem_toArray, List.getElem_cons_succ, List.getElem_cons_zero, Act.put, List.setIfInBounds_toArray, List.set_cons_zero, List.set_cons_succ]
      refine wpC_take (i := 5) (v := ?v5_5) (l' := #[true, true, true, true, false, true, false, false, false, false, false]) [6, 7, 8, 10] rfl (by kernel_rfl) (by kernel_rfl) (by kernel_rfl) (by kernel_rfl) (by kernel_rfl) rfl (fun _ _ _ h => h) (by rfl) (fun wx hS => ?q5_5) (by assumption) ?_
      case q5_5 => (go_simp; try with_reducible rfl)
      try simp only [List.getElem_toArray, List.getElem_cons_succ, List.getElem_cons_zero, Act.put, List.setIfInBounds_toArray, List.set_cons_zero, List.set_cons_succ]
      refine wpC_take (i := 6) (v := ?v6_6) (l' := #[true, true, true, true, false, true, true, false, false, false, false]) [7, 8, 10] rfl (by kernel_rfl) (by kernel_rfl) (by kernel_rfl) (by kernel_rfl) (by kernel_rfl) rfl (fun _ _ _ h => h) (by rfl) (fun wx hS => ?q6_6) (by assumption) ?_
      case q6_6 => ((try dsimp only at hS); obtain ⟨hS1, hS2, hS3⟩ := hS; go_simp; try with_reducible rfl)
      try simp only [List.getElem_toArray, List.getElem_cons_succ, List.getElem_cons_zero, Act.put, List.setIfInBounds_toArray, List.set_cons_zero, List.set_cons_succ]
      refine wpC_two (i := 4) (j := 9) (l' := #[true, true, true, true, true, true, true, false, false, false, false]) (l'' := #[true, true, true, true, false, true, true, false, false, true, false]) (by kernel_rfl) rfl rfl rfl rfl (by rfl) (by rfl) (fun Kr hKr => ?_) (fun Kr hKr => ?_)
      · refine step_callV rfl 107 _ _ rfl HRI.out #[.slice (some d1) x1.length c1] (by first | rfl | (simp [Act.eval]; done) | (simp [Act.eval]; rfl) | (simp [Act.eval]; repeat' constructor)) (HCI.out _ hcD) ?_
        rintro e w4 ⟨v4, F4, rfl, hb4, ho4, hn4, hl4⟩
        obtain ⟨q1, m1, rfl⟩ := ho4.val
        refine ⟨_, rfl, ?_⟩
        have hc4 : Below w1.heap.size w1 w4 := hcD.trans (hb4.mono hcD.size)
        have hqq4 := hb4.size
        have hq4 := hc4.size
        have hi4 : ∀ g, g ∈ F4 → g < w4.heap.size := Ow.lt _ _ _ ho4
        have hz4 : w1.heap.size ≤ w4.heap.size := hc4.size
        have hl4' : ∀ g, g ∈ F4 → w1.heap.size ≤ g := hl4
        refine hKr _ _ (fun _ => ⟨(bcell1 hc4 (by omega)).trans f0, (bcell1 hc4 (by omega)).trans f1, (bcell1 hc4 (by omega)).trans f2⟩) ?_
        clear hKr Kr
        try simp only [List.getElem_toArray, List.getElem_cons_succ, List.getElem_cons_zero, Act.put, List.setIfInBounds_toArray, List.set_cons_zero, List.set_cons_succ]
        have hS4 : w4.cell? ⟨w.heap.size, 0, none⟩ = some (.int .i64 (K0 : Int)) ∧ w4.cell? ⟨w.heap.size, 1, none⟩ = some (.slice (some d1) x1.length c1) ∧ w4.cell? ⟨w.heap.size, 2, none⟩ = some (.slice (some d2) x2.length c2) := ⟨(bcell1 hc4 (by omega)).trans f0, (bcell1 hc4 (by omega)).trans f1, (bcell1 hc4 (by omega)).trans f2⟩
        refine wpC_two (i := 7) (j := 9) (l' := #[true, true, true, true, true, true, true, true, false, false, false]) (l'' := #[true, true, true, true, true, true, true, false, false, true, false]) (by kernel_rfl) rfl rfl rfl rfl (by rfl) (by rfl) (fun Kr hKr => ?_) (fun Kr hKr => ?_)
        · refine step_callV rfl 117 _ _ rfl HRB.out #[.slice (some d2) x2.length c2] (by first | rfl | (simp [Act.eval]; done) | (simp [Act.eval]; rfl) | (simp [Act.eval]; repeat' constructor)) (HCB.out _ hc4) ?_
          rintro e w5 ⟨v5, F5, rfl, hb5, ho5, hn5, hl5⟩
          obtain ⟨q2, m2, rfl⟩ := ho5.valB
          refine ⟨_, rfl, ?_⟩
          have hc5 : Below w1.heap.size w1 w5 := hc4.trans (hb5.mono hc4.size)
          have hqq5 := hb5.size
          have hq5 := hc5.size
          have hi5 : ∀ g, g ∈ F5 → g < w5.heap.size := Ow.lt _ _ _ ho5
          have hl5' : ∀ g, g ∈ F5 → w4.heap.size ≤ g := hl5
          replace ho4 := ho4.below hb5
          refine hKr _ _ (fun _ => ⟨(bcell1 hc5 (by omega)).trans f0, (bcell1 hc5 (by omega)).trans f1, (bcell1 hc5 (by omega)).trans f2⟩) ?_
          clear hKr Kr
          try simp only [List.getElem_toArray, List.getElem_cons_succ, List.getElem_cons_zero, Act.put, List.setIfInBounds_toArray, List.set_cons_zero, List.set_cons_succ]
          have hS5 : w5.cell? ⟨w.heap.size, 0, none⟩ = some (.int .i64 (K0 : Int)) ∧ w5.cell? ⟨w.heap.size, 1, none⟩ = some (.slice (some d1) x1.length c1) ∧ w5.cell? ⟨w.heap.size, 2, none⟩ = some (.slice (some d2) x2.length c2) := ⟨(bcell1 hc5 (by omega)).trans f0, (bcell1 hc5 (by omega)).trans f1, (bcell1 hc5 (by omega)).trans f2⟩
          refine wpC_take (i := 8) (v := ?v8_7) (l' := #[true, true, true, true, true, true, true, true, true, false, false]) [10] rfl (by kernel_rfl) (by kernel_rfl) (by kernel_rfl) (by kernel_rfl) (by kernel_rfl) rfl (fun _ _ _ h => h) (by rfl) (fun wx hS => ?q8_7) (by assumption) ?_
          case q8_7 => (go_simp; try with_reducible rfl)
          try simp only [List.getElem_toArray, List.getElem_cons_succ, List.getElem_cons_zero, Act.put, List.setIfInBounds_toArray, List.set_cons_zero, List.set_cons_succ]
          refine wpC_one (i := 9) (l' := #[true, true, true, true, true, true, true, true, true, true, false]) (by kernel_rfl) rfl rfl (by rfl) (fun Kr hKr => ?_)
          go_simp
          refine hKr _ _ (fun _ => ⟨(bcell1 (hc5.trans ((below_alloc _ _).mono hc5.size)) (by omega)).trans f0, (bcell1 (hc5.trans ((below_alloc _ _).mono hc5.size)) (by omega)).trans f1, (bcell1 (hc5.trans ((below_alloc _ _).mono hc5.size)) (by omega)).trans f2⟩) ?_
          clear hKr Kr
          try simp only [List.getElem_toArray, List.getElem_cons_succ, List.getElem_cons_zero, Act.put, List.setIfInBounds_toArray, List.set_cons_zero, List.set_cons_succ]
          obtain ⟨wA, hwA⟩ : ∃ wz, wz = w5.alloc (.cells #[.int .i64 0, .slice none 0 0, .slice none 0 0, .slice none 0 0] 36) := ⟨_, rfl⟩
          rw [← hwA]
          have hcA : Below w1.heap.size w1 wA := by rw [hwA]; exact (hc5.trans ((below_alloc _ _).mono hc5.size))
          have zc0 : wA.cell? ⟨w5.heap.size, 0, none⟩ = some (.int .i64 0) := by rw [hwA]; simp [go_sem]
          have zy0 : wA.frozen? ⟨w5.heap.size, 0, none⟩ = false := by rw [hwA]; simp [go_sem]
          have zc1 : wA.cell? ⟨w5.heap.size, 1, none⟩ = some (.slice none 0 0) := by rw [hwA]; simp [go_sem]
          have zy1 : wA.frozen? ⟨w5.heap.size, 1, none⟩ = false := by rw [hwA]; simp [go_sem]
          have zc2 : wA.cell? ⟨w5.heap.size, 2, none⟩ = some (.slice none 0 0) := by rw [hwA]; simp [go_sem]
          have zy2 : wA.frozen? ⟨w5.heap.size, 2, none⟩ = false := by rw [hwA]; simp [go_sem]
          have zc3 : wA.cell? ⟨w5.heap.size, 3, none⟩ = some (.slice none 0 0) := by rw [hwA]; simp [go_sem]
          have zy3 : wA.frozen? ⟨w5.heap.size, 3, none⟩ = false := by rw [hwA]; simp [go_sem]
          have ltA : w5.heap.size < wA.heap.size := by rw [hwA]; simp
          have hqA := hcA.size
          replace ho4 := ho4.below (w' := wA) (by rw [hwA]; exact below_alloc _ _)
          replace ho5 := ho5.below (w' := wA) (by rw [hwA]; exact below_alloc _ _)
          have hgt : w5.heap.size ≤ wA.heap.size := by rw [hwA]; simp
          clear hwA
          have hSA : wA.cell? ⟨w.heap.size, 0, none⟩ = some (.int .i64 (K0 : Int)) ∧ wA.cell? ⟨w.heap.size, 1, none⟩ = some (.slice (some d1) x1.length c1) ∧ wA.cell? ⟨w.heap.size, 2, none⟩ = some (.slice (some d2) x2.length c2) := ⟨(bcell1 hcA (by omega)).trans f0, (bcell1 hcA (by omega)).trans f1, (bcell1 hcA (by omega)).trans f2⟩
          refine wpC_one (i := 10) (l' := #[true, true, true, true, true, true, true, true, true, true, true]) (by kernel_rfl) rfl rfl (by rfl) (fun Kr hKr => ?_)
          have hBB : w1.heap.size ≤ w5.heap.size := by omega
          go_simp
          have hE := box4 (.int .i64 K0) (.slice q1 x1.length m1) (.slice q2 x2.length m2) (.slice none 0 0) hcA hBB ltA zc0 zc1 zc2 zc3
          refine hKr _ _ (fun _ => ⟨(bcell1 hE.1 (by omega)).trans f0, (bcell1 hE.1 (by omega)).trans f1, (bcell1 hE.1 (by omega)).trans f2⟩) ?_
          clear hKr Kr
          try simp only [List.getElem_toArray, List.getElem_cons_succ, List.getElem_cons_zero, Act.put, List.setIfInBounds_toArray, List.set_cons_zero, List.set_cons_succ]
          refine wpC_done (by kernel_rfl) ?_ _
          obtain ⟨hE1, hE2, hE3, hE4, hE5, hE6, hE7⟩ := hE
          have hx4 : w5.heap.size ∉ F4 := fun hg => by have q1 := hl4' _ hg; have q2 := hi4 _ hg; omega
          have hx5 : w5.heap.size ∉ F5 := fun hg => by have q1 := hl5' _ hg; have q2 := hi5 _ hg; omega
          have hn45 : (F4 ++ F5).Nodup := List.nodup_append.2 ⟨hn4, hn5, fun a ha c hcc e => by subst e; have q1 := hi4 _ ha; have q2 := hl5' _ hcc; omega⟩
          have hl45 : ∀ x, x ∈ F4 ++ F5 → w1.heap.size ≤ x := fun x hx => by
            rcases List.mem_append.1 hx with hx | hx
            · have := hl4' x hx; omega
            · have := hl5' x hx; omega
          exact key (Lib.hid hE1) (Lib.hid (Rev.box hE4 hE5 hE6 hE7 ((froz4 _ _ _ _ _ _ 3).trans zy3) (hE3 _ _ _ ho4 hx4) (hE3 _ _ _ ho5 hx5) hn45 hl45 (fun e => by rcases List.mem_append.1 e with e | e; exact hx4 e; exact hx5 e) ⟨hBB, hE2⟩))
        · go_simp
          refine hKr _ _ (fun _ => ⟨(bcell1 (hc4.trans ((below_alloc _ _).mono hc4.size)) (by omega)).trans f0, (bcell1 (hc4.trans ((below_alloc _ _).mono hc4.size)) (by omega)).trans f1, (bcell1 (hc4.trans ((below_alloc _ _).mono hc4.size)) (by omega)).trans f2⟩) ?_
          clear hKr Kr
          try simp only [List.getElem_toArray, List.getElem_cons_succ, List.getElem_cons_zero, Act.put, List.setIfInBounds_toArray, List.set_cons_zero, List.set_cons_succ]
          obtain ⟨wA, hwA⟩ : ∃ wz, wz = w4.alloc (.cells #[.int .i64 0, .slice none 0 0, .slice none 0 0, .slice none 0 0] 36) := ⟨_, rfl⟩
          rw [← hwA]
          have hcA : Below w1.heap.size w1 wA := by rw [hwA]; exact (hc4.trans ((below_alloc _ _).mono hc4.size))
          have zc0 : wA.cell? ⟨w4.heap.size, 0, none⟩ = some (.int .i64 0) := by rw [hwA]; simp [go_sem]
          have zy0 : wA.frozen? ⟨w4.heap.size, 0, none⟩ = false := by rw [hwA]; simp [go_sem]
          have zc1 : wA.cell? ⟨w4.heap.size, 1, none⟩ = some (.slice none 0 0) := by rw [hwA]; simp [go_sem]
          have zy1 : wA.frozen? ⟨w4.heap.size, 1, none⟩ = false := by rw [hwA]; simp [go_sem]
          have zc2 : wA.cell? ⟨w4.heap.size, 2, none⟩ = some (.slice none 0 0) := by rw [hwA]; simp [go_sem]
          have zy2 : wA.frozen? ⟨w4.heap.size, 2, none⟩ = false := by rw [hwA]; simp [go_sem]
          have zc3 : wA.cell? ⟨w4.heap.size, 3, none⟩ = some (.slice none 0 0) := by rw [hwA]; simp [go_sem]
          have zy3 : wA.frozen? ⟨w4.heap.size, 3, none⟩ = false := by rw [hwA]; simp [go_sem]
          have ltA : w4.heap.size < wA.heap.size := by rw [hwA]; simp
          have hqA := hcA.size
          replace ho4 := ho4.below (w' := wA) (by rw [hwA]; exact below_alloc _ _)
          have hgt : w4.heap.size ≤ wA.heap.size := by rw [hwA]; simp
          clear hwA
          have hSA : wA.cell? ⟨w.heap.size, 0, none⟩ = some (.int .i64 (K0 : Int)) ∧ wA.cell? ⟨w.heap.size, 1, none⟩ = some (.slice (some d1) x1.length c1) ∧ wA.cell? ⟨w.heap.size, 2, none⟩ = some (.slice (some d2) x2.length c2) := ⟨(bcell1 hcA (by omega)).trans f0, (bcell1 hcA (by omega)).trans f1, (bcell1 hcA (by omega)).trans f2⟩
          refine wpC_one (i := 7) (l' := #[true, true, true, true, true, true, true, true, false, true, false]) (by kernel_rfl) rfl rfl (by rfl) (fun Kr hKr => ?_)
          refine step_callV rfl 117 _ _ rfl HRB.out #[.slice (some d2) x2.length c2] (by first | rfl | (simp [Act.eval]; done) | (simp [Act.eval]; rfl) | (simp [Act.eval]; repeat' constructor)) (HCB.out _ hcA) ?_
          rintro e w5 ⟨v5, F5, rfl, hb5, ho5, hn5, hl5⟩
          obtain ⟨q2, m2, rfl⟩ := ho5.valB
          refine ⟨_, rfl, ?_⟩
          have hc5 : Below w1.heap.size w1 w5 := hcA.trans (hb5.mono hcA.size)
          have hqq5 := hb5.size
          have hq5 := hc5.size
          have hi5 : ∀ g, g ∈ F5 → g < w5.heap.size := Ow.lt _ _ _ ho5
          have hl5' : ∀ g, g ∈ F5 → wA.heap.size ≤ g := hl5
          replace ho4 := ho4.below hb5
          replace zc0 := (bcell1 hb5 ltA).trans zc0
          replace zy0 := (hb5.frozen (p := ⟨w4.heap.size, 0, none⟩) ltA).trans zy0
          replace zc1 := (bcell1 hb5 ltA).trans zc1
          replace zy1 := (hb5.frozen (p := ⟨w4.heap.size, 1, none⟩) ltA).trans zy1
          replace zc2 := (bcell1 hb5 ltA).trans zc2
          replace zy2 := (hb5.frozen (p := ⟨w4.heap.size, 2, none⟩) ltA).trans zy2
          replace zc3 := (bcell1 hb5 ltA).trans zc3
          replace zy3 := (hb5.frozen (p := ⟨w4.heap.size, 3, none⟩) ltA).trans zy3
          have lt5 : w4.heap.size < w5.heap.size := Nat.lt_of_lt_of_le ltA hb5.size
          refine hKr _ _ (fun _ => ⟨(bcell1 hc5 (by omega)).trans f0, (bcell1 hc5 (by omega)).trans f1, (bcell1 hc5 (by omega)).trans f2⟩) ?_
          clear hKr Kr
          try simp only [List.getElem_toArray, List.getElem_cons_succ, List.getElem_cons_zero, Act.put, List.setIfInBounds_toArray, List.set_cons_zero, List.set_cons_succ]
          have hS5 : w5.cell? ⟨w.heap.size, 0, none⟩ = some (.int .i64 (K0 : Int)) ∧ w5.cell? ⟨w.heap.size, 1, none⟩ = some (.slice (some d1) x1.length c1) ∧ w5.cell? ⟨w.heap.size, 2, none⟩ = some (.slice (some d2) x2.length c2) := ⟨(bcell1 hc5 (by omega)).trans f0, (bcell1 hc5 (by omega)).trans f1, (bcell1 hc5 (by omega)).trans f2⟩
          refine wpC_take (i := 8) (v := ?v8_8) (l' := #[true, true, true, true, true, true, true, true, true, true, false]) [10] rfl (by kernel_rfl) (by kernel_rfl) (by kernel_rfl) (by kernel_rfl) (by kernel_rfl) rfl (fun _ _ _ h => h) (by rfl) (fun wx hS => ?q8_8) (by assumption) ?_
          case q8_8 => (go_simp; try with_reducible rfl)
          try simp only [List.getElem_toArray, List.getElem_cons_succ, List.getElem_cons_zero, Act.put, List.setIfInBounds_toArray, List.set_cons_zero, List.set_cons_succ]
          refine wpC_one (i := 10) (l' := #[true, true, true, true, true, true, true, true, true, true, true]) (by kernel_rfl) rfl rfl (by rfl) (fun Kr hKr => ?_)
          have hBB : w1.heap.size ≤ w4.heap.size := by omega
          go_simp
          have hE := box4 (.int .i64 K0) (.slice q1 x1.length m1) (.slice q2 x2.length m2) (.slice none 0 0) hc5 hBB lt5 zc0 zc1 zc2 zc3
          refine hKr _ _ (fun _ => ⟨(bcell1 hE.1 (by omega)).trans f0, (bcell1 hE.1 (by omega)).trans f1, (bcell1 hE.1 (by omega)).trans f2⟩) ?_
          clear hKr Kr
          try simp only [List.getElem_toArray, List.getElem_cons_succ, List.getElem_cons_zero, Act.put, List.setIfInBounds_toArray, List.set_cons_zero, List.set_cons_succ]
          refine wpC_done (by kernel_rfl) ?_ _
          obtain ⟨hE1, hE2, hE3, hE4, hE5, hE6, hE7⟩ := hE
          have hx4 : w4.heap.size ∉ F4 := fun hg => by have q1 := hl4' _ hg; have q2 := hi4 _ hg; omega
          have hx5 : w4.heap.size ∉ F5 := fun hg => by have q1 := hl5' _ hg; have q2 := hi5 _ hg; omega
          have hn45 : (F4 ++ F5).Nodup := List.nodup_append.2 ⟨hn4, hn5, fun a ha c hcc e => by subst e; have q1 := hi4 _ ha; have q2 := hl5' _ hcc; omega⟩
          have hl45 : ∀ x, x ∈ F4 ++ F5 → w1.heap.size ≤ x := fun x hx => by
            rcases List.mem_append.1 hx with hx | hx
            · have := hl4' x hx; omega
            · have := hl5' x hx; omega
          exact key (Lib.hid hE1) (Lib.hid (Rev.box hE4 hE5 hE6 hE7 ((froz4 _ _ _ _ _ _ 3).trans zy3) (hE3 _ _ _ ho4 hx4) (hE3 _ _ _ ho5 hx5) hn45 hl45 (fun e => by rcases List.mem_append.1 e with e | e; exact hx4 e; exact hx5 e) ⟨hBB, hE2⟩))
      · go_simp
        refine hKr _ _ (fun _ => ⟨(bcell1 (below_drP (below_alloc _ _)) (by omega)).trans f0, (bcell1 (below_drP (below_alloc _ _)) (by omega)).trans f1, (bcell1 (below_drP (below_alloc _ _)) (by omega)).trans f2⟩) ?_
        clear hKr Kr
        try simp only [List.getElem_toArray, List.getElem_cons_succ, List.getElem_cons_zero, Act.put, List.setIfInBounds_toArray, List.set_cons_zero, List.set_cons_succ]
        obtain ⟨wA, hwA⟩ : ∃ wz, wz = (w1.alloc (.cells #[.int .i64 0, .slice none 0 0, .slice none 0 0, .slice none 0 0] 36)).drew := ⟨_, rfl⟩
        rw [← hwA]
        have hcA : Below w1.heap.size w1 wA := by rw [hwA]; exact (below_drP (below_alloc _ _))
        have zc0 : wA.cell? ⟨w1.heap.size, 0, none⟩ = some (.int .i64 0) := by rw [hwA]; simp [go_sem]
        have zy0 : wA.frozen? ⟨w1.heap.size, 0, none⟩ = false := by rw [hwA]; simp [go_sem]
        have zc1 : wA.cell? ⟨w1.heap.size, 1, none⟩ = some (.slice none 0 0) := by rw [hwA]; simp [go_sem]
        have zy1 : wA.frozen? ⟨w1.heap.size, 1, none⟩ = false := by rw [hwA]; simp [go_sem]
        have zc2 : wA.cell? ⟨w1.heap.size, 2, none⟩ = some (.slice none 0 0) := by rw [hwA]; simp [go_sem]
        have zy2 : wA.frozen? ⟨w1.heap.size, 2, none⟩ = false := by rw [hwA]; simp [go_sem]
        have zc3 : wA.cell? ⟨w1.heap.size, 3, none⟩ = some (.slice none 0 0) := by rw [hwA]; simp [go_sem]
        have zy3 : wA.frozen? ⟨w1.heap.size, 3, none⟩ = false := by rw [hwA]; simp [go_sem]
        have ltA : w1.heap.size < wA.heap.size := by rw [hwA]; simp
        have hqA := hcA.size
        have hgt : w1.heap.size ≤ wA.heap.size := by rw [hwA]; simp
        clear hwA
        have hSA : wA.cell? ⟨w.heap.size, 0, none⟩ = some (.int .i64 (K0 : Int)) ∧ wA.cell? ⟨w.heap.size, 1, none⟩ = some (.slice (some d1) x1.length c1) ∧ wA.cell? ⟨w.heap.size, 2, none⟩ = some (.slice (some d2) x2.length c2) := ⟨(bcell1 hcA (by omega)).trans f0, (bcell1 hcA (by omega)).trans f1, (bcell1 hcA (by omega)).trans f2⟩
        refine wpC_one (i := 4) (l' := #[true, true, true, true, true, true, true, false, false, true, false]) (by kernel_rfl) rfl rfl (by rfl) (fun Kr hKr => ?_)
        refine step_callV rfl 107 _ _ rfl HRI.out #[.slice (some d1) x1.length c1] (by first | rfl | (simp [Act.eval]; done) | (simp [Act.eval]; rfl) | (simp [Act.eval]; repeat' constructor)) (HCI.out _ hcA) ?_
        rintro e w4 ⟨v4, F4, rfl, hb4, ho4, hn4, hl4⟩
        obtain ⟨q1, m1, rfl⟩ := ho4.val
        refine ⟨_, rfl, ?_⟩
        have hc4 : Below w1.heap.size w1 w4 := hcA.trans (hb4.mono hcA.size)
        have hqq4 := hb4.size
        have hq4 := hc4.size
        have hi4 : ∀ g, g ∈ F4 → g < w4.heap.size := Ow.lt _ _ _ ho4
        have hl4' : ∀ g, g ∈ F4 → wA.heap.size ≤ g := hl4
        replace zc0 := (bcell1 hb4 ltA).trans zc0
        replace zy0 := (hb4.frozen (p := ⟨w1.heap.size, 0, none⟩) ltA).trans zy0
        replace zc1 := (bcell1 hb4 ltA).trans zc1
        replace zy1 := (hb4.frozen (p := ⟨w1.heap.size, 1, none⟩) ltA).trans zy1
        replace zc2 := (bcell1 hb4 ltA).trans zc2
        replace zy2 := (hb4.frozen (p := ⟨w1.heap.size, 2, none⟩) ltA).trans zy2
        replace zc3 := (bcell1 hb4 ltA).trans zc3
        replace zy3 := (hb4.frozen (p := ⟨w1.heap.size, 3, none⟩) ltA).trans zy3
        have lt4 : w1.heap.size < w4.heap.size := Nat.lt_of_lt_of_le ltA hb4.size
        refine hKr _ _ (fun _ => ⟨(bcell1 hc4 (by omega)).trans f0, (bcell1 hc4 (by omega)).trans f1, (bcell1 hc4 (by omega)).trans f2⟩) ?_
        clear hKr Kr
        try simp only [List.getElem_toArray, List.getElem_cons_succ, List.getElem_cons_zero, Act.put, List.setIfInBounds_toArray, List.set_cons_zero, List.set_cons_succ]
        have hS4 : w4.cell? ⟨w.heap.size, 0, none⟩ = some (.int .i64 (K0 : Int)) ∧ w4.cell? ⟨w.heap.size, 1, none⟩ = some (.slice (some d1) x1.length c1) ∧ w4.cell? ⟨w.heap.size, 2, none⟩ = some (.slice (some d2) x2.length c2) := ⟨(bcell1 hc4 (by omega)).trans f0, (bcell1 hc4 (by omega)).trans f1, (bcell1 hc4 (by omega)).trans f2⟩
        refine wpC_one (i := 7) (l' := #[true, true, true, true, true, true, true, true, false, true, false]) (by kernel_rfl) rfl rfl (by rfl) (fun Kr hKr => ?_)
        refine step_callV rfl 117 _ _ rfl HRB.out #[.slice (some d2) x2.length c2] (by first | rfl | (simp [Act.eval]; done) | (simp [Act.eval]; rfl) | (simp [Act.eval]; repeat' constructor)) (HCB.out _ hc4) ?_
        rintro e w5 ⟨v5, F5, rfl, hb5, ho5, hn5, hl5⟩
        obtain ⟨q2, m2, rfl⟩ := ho5.valB
        refine ⟨_, rfl, ?_⟩
        have hc5 : Below w1.heap.size w1 w5 := hc4.trans (hb5.mono hc4.size)
        have hqq5 := hb5.size
        have hq5 := hc5.size
        have hi5 : ∀ g, g ∈ F5 → g < w5.heap.size := Ow.lt _ _ _ ho5
        have hl5' : ∀ g, g ∈ F5 → w4.heap.size ≤ g := hl5
        replace ho4 := ho4.below hb5
        replace zc0 := (bcell1 hb5 lt4).trans zc0
        replace zy0 := (hb5.frozen (p := ⟨w1.heap.size, 0, none⟩) lt4).trans zy0
        replace zc1 := (bcell1 hb5 lt4).trans zc1
        replace zy1 := (hb5.frozen (p := ⟨w1.heap.size, 1, none⟩) lt4).trans zy1
        replace zc2 := (bcell1 hb5 lt4).trans zc2
        replace zy2 := (hb5.frozen (p := ⟨w1.heap.size, 2, none⟩) lt4).trans zy2
        replace zc3 := (bcell1 hb5 lt4).trans zc3
        replace zy3 := (hb5.frozen (p := ⟨w1.heap.size, 3, none⟩) lt4).trans zy3
        have lt5 : w1.heap.size < w5.heap.size := Nat.lt_of_lt_of_le lt4 hb5.size
        refine hKr _ _ (fun _ => ⟨(bcell1 hc5 (by omega)).trans f0, (bcell1 hc5 (by omega)).trans f1, (bcell1 hc5 (by omega)).trans f2⟩) ?_
        clear hKr Kr
        try simp only [List.getElem_toArray, List.getElem_cons_succ, List.getElem_cons_zero, Act.put, List.setIfInBounds_toArray, List.set_cons_zero, List.set_cons_succ]
        have hS5 : w5.cell? ⟨w.heap.size, 0, none⟩ = some (.int .i64 (K0 : Int)) ∧ w5.cell? ⟨w.heap.size, 1, none⟩ = some (.slice (some d1) x1.length c1) ∧ w5.cell? ⟨w.heap.size, 2, none⟩ = some (.slice (some d2) x2.length c2) := ⟨(bcell1 hc5 (by omega)).trans f0, (bcell1 hc5 (by omega)).trans f1, (bcell1 hc5 (by omega)).trans f2⟩
        refine wpC_take (i := 8) (v := ?v8_9) (l' := #[true, true, true, true, true, true, true, true, true, true, false]) [10] rfl (by kernel_rfl) (by kernel_rfl) (by kernel_rfl) (by kernel_rfl) (by kernel_rfl) rfl (fun _ _ _ h => h) (by rfl) (fun wx hS => ?q8_9) (by assumption) ?_
        case q8_9 => (go_simp; try with_reducible rfl)
        try simp only [List.getElem_toArray, List.getElem_cons_succ, List.getElem_cons_zero, Act.put, List.setIfInBounds_toArray, List.set_cons_zero, List.set_cons_succ]
        refine wpC_one (i := 10) (l' := #[true, true, true, true, true, true, true, true, true, true, true]) (by kernel_rfl) rfl rfl (by rfl) (fun Kr hKr => ?_)
        have hBB : w1.heap.size ≤ w1.heap.size := by omega
        go_simp
        have hE := box4 (.int .i64 K0) (.slice q1 x1.length m1) (.slice q2 x2.length m2) (.slice none 0 0) hc5 hBB lt5 zc0 zc1 zc2 zc3
        refine hKr _ _ (fun _ => ⟨(bcell1 hE.1 (by omega)).trans f0, (bcell1 hE.1 (by omega)).trans f1, (bcell1 hE.1 (by omega)).trans f2⟩) ?_
        clear hKr Kr
        try simp only [List.getElem_toArray, List.getElem_cons_succ, List.getElem_cons_zero, Act.put, List.setIfInBounds_toArray, List.set_cons_zero, List.set_cons_succ]
        refine wpC_done (by kernel_rfl) ?_ _
        obtain ⟨hE1, hE2, hE3, hE4, hE5, hE6, hE7⟩ := hE
        have hx4 : w1.heap.size ∉ F4 := fun hg => by have q1 := hl4' _ hg; have q2 := hi4 _ hg; omega
        have hx5 : w1.heap.size ∉ F5 := fun hg => by have q1 := hl5' _ hg; have q2 := hi5 _ hg; omega
        have hn45 : (F4 ++ F5).Nodup := List.nodup_append.2 ⟨hn4, hn5, fun a ha c hcc e => by subst e; have q1 := hi4 _ ha; have q2 := hl5' _ hcc; omega⟩
        have hl45 : ∀ x, x ∈ F4 ++ F5 → w1.heap.size ≤ x := fun x hx => by
          rcases List.mem_append.1 hx with hx | hx
          · have := hl4' x hx; omega
          · have := hl5' x hx; omega
        exact key (Lib.hid hE1) (Lib.hid (Rev.box hE4 hE5 hE6 hE7 ((froz4 _ _ _ _ _ _ 3).trans zy3) (hE3 _ _ _ ho4 hx4) (hE3 _ _ _ ho5 hx5) hn45 hl45 (fun e => by rcases List.mem_append.1 e with e | e; exact hx4 e; exact hx5 e) ⟨hBB, hE2⟩))
    intro t11 t12 t13 t14 t15 t16 t17 t18 t19 w2 g m1 m2 q1 q2 F1 F2 HX2 HR2
    apply hK
    have RZ := Lib.hid (And.intro r0 (And.intro r1 (And.intro r2 (And.intro r3 (And.intro z0 (And.intro z1 (And.intro z2 z3)))))))
    clear hK HCI HCB z0 z1 z2 z3 r0 r1 r2 r3 f0 f1 f2
    replace f3 := (bcell1 HX2.out (World.block_lt_of_cell? _ _ f3)).trans f3

    obtain ⟨_, _, ex, hxs⟩ := Rd_PR H3.out
    cases ex
    have i4 := ix_of (P := Try.prog) tabPassRuleSM.under tabPassRuleSM.size hxs.ptr c3
    have HX := Lib.hid hxs
    have HCX : Hid (∀ wx k, k < x3.length → Below w.heap.size w wx → ∃ e1 e2 n1 n2, wx.cell? (adr a3 (k * 3 + 1)) = some (.slice (some e1) (nthPR x3 k).out.length n1) ∧ wx.cell? (adr a3 (k * 3 + 2)) = some (.slice (some e2) (nthPR x3 k).inn.length n2) ∧ (∀ wy, Below wx.heap.size wx wy → Calls Try.prog 107 #[.slice (some e1) (nthPR x3 k).out.length n1] wy (RetD wy (dI (nthPR x3 k).out))) ∧ (∀ wy, Below wx.heap.size wx wy → Calls Try.prog 107 #[.slice (some e2) (nthPR x3 k).inn.length n2] wy (RetD wy (dI (nthPR x3 k).inn)))) := Lib.hid (fun wx k hk hb => by
      obtain ⟨u1, n1, g1, s1⟩ := hxs.c1 k hk
      obtain ⟨u2, n2, g2, s2⟩ := hxs.c2 k hk
      have o1 := (HPS.out.out k hk).2
      have o2 := (HPS.out.inn k hk).2
      have hK1 := HPS.out.k1
      have hK8 := HPS.out.k8
      obtain ⟨e1, rfl⟩ := s1.addr (by omega)
      obtain ⟨e2, rfl⟩ := s2.addr (by omega)
      refine ⟨e1, e2, n1, n2, (hb.cell (World.block_lt_of_cell? w _ g1)).trans g1, (hb.cell (World.block_lt_of_cell? w _ g2)).trans g2, fun wy hy => clone_c Any e1 n1 _ wy ((s1.below hb).below hy) (by omega), fun wy hy => clone_c Any e2 n2 _ wy ((s2.below hb).below hy) (by omega)⟩)
    have HC0 : Hid (∀ wx k, k < x3.length → Below w.heap.size w wx → wx.cell? (adr a3 (k * 3)) = some (.int .i64 (nthPR x3 k).cell)) := Lib.hid (fun wx k hk hb => (hb.cell (World.block_lt_of_cell? w _ (hxs.c0 k hk))).trans (hxs.c0 k hk))
    clear hxs
    go_wp2
    go_loopw [6, 23] (fun _ i wr => ∃ (k : Nat) (RS : List PR) (v : Value) (G : List Nat), k ≤ x3.length ∧ i = .int .i64 k ∧ Hid (RS = (x3.take k).map revPR) ∧ Hid (Below w1.heap.size w1 wr) ∧ Hid (Rev w1.heap.size wr g K0 x1 x2 RS (.slice q1 x1.length m1) (.slice q2 x2.length m2) F1 F2 v G)) (fun _ i _ => x3.length - (intOf i).toNat)
    case atStart => exact ⟨0, [], _, _, Nat.zero_le _, rfl, Lib.hid rfl, HX2, HR2⟩
    case round =>
      obtain ⟨k, RS, v, G, hk, rfl, HRS, HB, HR⟩ := hrel
      have HBW : Hid (Below w.heap.size w wr) := Lib.hid (HB1.out.trans (HB.out.mono (by omega)))
      obtain ⟨_, av, cv, rfl⟩ := HR.out.lst.val
      by_cases hlt : k < x3.length
      · have hki : (k : Int) < x3.length := by omega
        obtain ⟨e1, e2, n1, n2, gr1, gr2, hcl1, hcl2⟩ := HCX.out wr k hlt HBW.out
        have gr0 := HC0.out wr k hlt HBW.out
        obtain ⟨r, hr⟩ : ∃ r, r = nthPR x3 k := ⟨_, rfl⟩
        rw [← hr] at gr0 gr1 gr2 hcl1 hcl2
        have HCL1 := Lib.hid hcl1
        have HCL2 := Lib.hid hcl2
        have HRR := Lib.hid hr
        have HRSL : Hid (RS.length = k) := Lib.hid (by rw [HRS.out]; simp; omega)
        clear hr hcl1 hcl2
        go_wp2
        obtain ⟨wq, hwq⟩ : ∃ z, z = wr.alloc (.cells #[.int .i64 r.cell, .slice (some e1) r.out.length n1, .slice (some e2) r.inn.length n2] 122) := ⟨_, rfl⟩
        rw [← hwq]
        have hbq : Below wr.heap.size wr wq := by rw [hwq]; exact below_alloc _ _
        have hzq : wq.heap.size = wr.heap.size + 1 := by rw [hwq]; simp
        have s0 : wq.cell? ⟨wr.heap.size, 0, none⟩ = some (.int .i64 r.cell) := by rw [hwq]; simp [go_sem]
        have s1 : wq.cell? ⟨wr.heap.size, 1, none⟩ = some (.slice (some e1) r.out.length n1) := by rw [hwq]; simp [go_sem]
        have s2 : wq.cell? ⟨wr.heap.size, 2, none⟩ = some (.slice (some e2) r.inn.length n2) := by rw [hwq]; simp [go_sem]
        have hgl := HR.out.hg.2
        have s3 : wq.cell? ⟨g, 3, none⟩ = some (.slice av RS.length cv) := (bcell1 hbq hgl).trans HR.out.c3
        have hgq : g < wq.heap.size := by omega
        have hwl : wr.heap.size < wq.heap.size := by omega
        have hob : ∀ x, x ∈ ob (.slice av RS.length cv) → w1.heap.size ≤ x ∧ x < wr.heap.size ∧ x ≠ g := fun x hx => ⟨(HR.out.lst.lt x (ob_sub HR.out.lst _ hx)).1, (HR.out.lst.lt x (ob_sub HR.out.lst _ hx)).2, fun e => HR.out.apG (e ▸ ob_sub HR.out.lst _ hx)⟩
        have HOB := Lib.hid hob
        have HGL := Lib.hid HR.out.lst.lt
        clear hwq hob gr0 gr1 gr2
        have hcD : Below wq.heap.size wq wq.drew := (Below.refl _ _).drew
        have hS0 : wq.drew.cell? ⟨g, 3, none⟩ = some (.slice av RS.length cv) ∧ wq.drew.cell? ⟨wr.heap.size, 0, none⟩ = some (.int .i64 r.cell) ∧ wq.drew.cell? ⟨wr.heap.size, 1, none⟩ = some (.slice (some e1) r.out.length n1) ∧ wq.drew.cell? ⟨wr.heap.size, 2, none⟩ = some (.slice (some e2) r.inn.length n2) := ⟨s3, s0, s1, s2⟩
        refine wp_region_C (n := 15) (l := #[false, false, false, false, false, false, false, false, false, false, false, false, false, false, false]) (fun wx => wx.cell? ⟨g, 3, none⟩ = some (.slice av RS.length cv) ∧ wx.cell? ⟨wr.heap.size, 0, none⟩ = some (.int .i64 r.cell) ∧ wx.cell? ⟨wr.heap.size, 1, none⟩ = some (.slice (some e1) r.out.length n1) ∧ wx.cell? ⟨wr.heap.size, 2, none⟩ = some (.slice (some e2) r.inn.length n2)) [14] (by kernel_rfl) rfl rfl ?_
        refine wpC_take (i := 0) (v := ?v0_10) (l' := #[true, false, false, false, false, false, false, false, false, false, false, false, false, false, false]) [1, 12, 13, 14] rfl (by kernel_rfl) (by kernel_rfl) (by kernel_rfl) (by kernel_rfl) (by kernel_rfl) rfl (fun _ _ _ h => h) (by rfl) (fun wx hS => ?q0_10) (by assumption) ?_
        case q0_10 => (go_simp; try with_reducible rfl)
        try simp only [List.getElem_toArray, List.getElem_cons_zero, Act.put, List.setIfInBounds_toArray, List.set_cons_zero, List.set_cons_succ]
        refine wpC_take (i := 1) (v := ?v1_11) (l' := #[true, true, false, false, false, false, false, false, false, false, false, false, false, false, false]) [12, 13, 14] rfl (by kernel_rfl) (by kernel_rfl) (by kernel_rfl) (by kernel_rfl) (by kernel_rfl) rfl (fun _ _ _ h => h) (by rfl) (fun wx hS => ?q1_11) (by assumption) ?_
        case q1_11 => ((try dsimp only at hS); obtain ⟨hS1, hS2, hS3, hS4⟩ := hS; go_simp; try with_reducible rfl)
        try simp only [List.getElem_toArray, List.getElem_cons_succ, List.getElem_cons_zero, Act.put, List.setIfInBounds_toArray, List.set_cons_zero, List.set_cons_succ]
        refine wpC_take (i := 2) (v := ?v2_12) (l' := #[true, true, true, false, false, false, false, false, false, false, false, false, false, false, false]) [3, 10, 11, 12, 13, 14] rfl (by kernel_rfl) (by kernel_rfl) (by kernel_rfl) (by kernel_rfl) (by kernel_rfl) rfl (fun _ _ _ h => h) (by rfl) (fun wx hS => ?q2_12) (by assumption) ?_
        case q2_12 => (go_simp; try with_reducible rfl)
        try simp only [List.getElem_toArray, List.getElem_cons_succ, List.getElem_cons_zero, Act.put, List.setIfInBounds_toArray, List.set_cons_zero, List.set_cons_succ]
        refine wpC_take (i := 3) (v := ?v3_13) (l' := #[true, true, true, true, false, false, false, false, false, false, false, false, false, false, false]) [10, 11, 12, 13, 14] rfl (by kernel_rfl) (by kernel_rfl) (by kernel_rfl) (by kernel_rfl) (by kernel_rfl) rfl (fun _ _ _ h => h) (by rfl) (fun wx hS => ?q3_13) (by assumption) ?_
        case q3_13 => ((try dsimp only at hS); obtain ⟨hS1, hS2, hS3, hS4⟩ := hS; go_simp; try with_reducible rfl)
        try simp only [List.getElem_toArray, List.getElem_cons_succ, List.getElem_cons_zero, Act.put, List.setIfInBounds_toArray, List.set_cons_zero, List.set_cons_succ]
        refine wpC_take (i := 4) (v := ?v4_14) (l' := #[true, true, true, true, true, false, false, false, false, false, false, false, false, false, false]) [5, 6, 9, 10, 11, 12, 13, 14] rfl (by kernel_rfl) (by kernel_rfl) (by kernel_rfl) (by kernel_rfl) (by kernel_rfl) rfl (fun _ _ _ h => h) (by rfl) (fun wx hS => ?q4_14) (by assumption) ?_
        case q4_14 => (go_simp; try with_reducible rfl)
        try simp only [List.getElem_toArray, List.getElem_cons_succ, List.getElem_cons_zero, Act.put, List.setIfInBounds_toArray, List.set_cons_zero, List.set_cons_succ]
        refine wpC_take (i := 5) (v := ?v5_15) (l' := #[true, true, true, true, true, true, false, false, false, false, false, false, false, false, false]) [6, 9, 10, 11, 12, 13, 14] rfl (by kernel_rfl) (by kernel_rfl) (by kernel_rfl) (by kernel_rfl) (by kernel_rfl) rfl (fun _ _ _ h => h) (by rfl) (fun wx hS => ?q5_15) (by assumption) ?_
        case q5_15 => ((try dsimp only at hS); obtain ⟨hS1, hS2, hS3, hS4⟩ := hS; go_simp; try with_reducible rfl)
        try simp only [List.getElem_toArray, List.getElem_cons_succ, List.getElem_cons_zero, Act.put, List.setIfInBounds_toArray, List.set_cons_zero, List.set_cons_succ]
        refine wpC_take (i := 7) (v := ?v7_16) (l' := #[true, true, true, true, true, true, false, true, false, false, false, false, false, false, false]) [8, 9, 10, 11, 12, 13, 14] rfl (by kernel_rfl) (by kernel_rfl) (by kernel_rfl) (by kernel_rfl) (by kernel_rfl) rfl (fun _ _ _ h => h) (by rfl) (fun wx hS => ?q7_16) (by assumption) ?_
        case q7_16 => (go_simp; try with_reducible rfl)
        try simp only [List.getElem_toArray, List.getElem_cons_succ, List.getElem_cons_zero, Act.put, List.setIfInBounds_toArray, List.set_cons_zero, List.set_cons_succ]
        refine wpC_take (i := 8) (v := ?v8_17) (l' := #[true, true, true, true, true, true, false, true, true, false, false, false, false, false, false]) [9, 10, 11, 12, 13, 14] rfl (by kernel_rfl) (by kernel_rfl) (by kernel_rfl) (by kernel_rfl) (by kernel_rfl) rfl (fun _ _ _ h => h) (by rfl) (fun wx hS => ?q8_17) (by assumption) ?_
        case q8_17 => ((try dsimp only at hS); obtain ⟨hS1, hS2, hS3, hS4⟩ := hS; go_simp; try with_reducible rfl)
        try simp only [List.getElem_toArray, List.getElem_cons_succ, List.getElem_cons_zero, Act.put, List.setIfInBounds_toArray, List.set_cons_zero, List.set_cons_succ]
        refine wpC_one (i := 6) (l' := #[true, true, true, true, true, true, true, true, true, false, false, false, false, false, false]) (by kernel_rfl) rfl rfl (by rfl) (fun Kr hKr => ?_)
        refine step_callV rfl 107 _ _ rfl HRI.out #[.slice (some e2) r.inn.length n2] (by first | rfl | (simp [Act.eval]; done) | (simp [Act.eval]; rfl) | (simp [Act.eval]; repeat' constructor)) (HCL2.out _ (hbq.trans (Below.mono hcD (by omega)))) ?_
        rintro e w4 ⟨v4, F4, rfl, hb4, ho4, hn4, hl4⟩
        obtain ⟨q4, m4, rfl⟩ := ho4.val
        refine ⟨_, rfl, ?_⟩
        have hc4 : Below wq.heap.size wq w4 := hcD.trans (hb4.mono (Nat.le_refl _))
        have hl4' : ∀ x, x ∈ F4 → wq.heap.size ≤ x := hl4
        have hq4 := hc4.size
        have hS4w : w4.cell? ⟨g, 3, none⟩ = some (.slice av RS.length cv) ∧ w4.cell? ⟨wr.heap.size, 0, none⟩ = some (.int .i64 r.cell) ∧ w4.cell? ⟨wr.heap.size, 1, none⟩ = some (.slice (some e1) r.out.length n1) ∧ w4.cell? ⟨wr.heap.size, 2, none⟩ = some (.slice (some e2) r.inn.length n2) := ⟨(bcell1 hc4 hgq).trans s3, (bcell1 hc4 hwl).trans s0, (bcell1 hc4 hwl).trans s1, (bcell1 hc4 hwl).trans s2⟩
        refine hKr _ _ (fun _ => hS4w) ?_
        clear hKr Kr
        try simp only [List.getElem_toArray, List.getElem_cons_succ, List.getElem_cons_zero, Act.put, List.setIfInBounds_toArray, List.set_cons_zero, List.set_cons_succ]
        have hi4 : ∀ x, x ∈ F4 → x < w4.heap.size := Ow.lt _ _ _ ho4
        refine wpC_one (i := 9) (l' := #[true, true, true, true, true, true, true, true, true, true, false, false, false, false, false]) (by kernel_rfl) rfl rfl (by rfl) (fun Kr hKr => ?_)
        refine step_callV rfl 107 _ _ rfl HRI.out #[.slice (some e1) r.out.length n1] (by first | rfl | (simp [Act.eval]; done) | (simp [Act.eval]; rfl) | (simp [Act.eval]; repeat' constructor)) (HCL1.out _ (hbq.trans (Below.mono hc4 (by omega)))) ?_
        rintro e w5 ⟨v5, F5, rfl, hb5, ho5, hn5, hl5⟩
        obtain ⟨q5, m5, rfl⟩ := ho5.val
        refine ⟨_, rfl, ?_⟩
        have hc5 : Below wq.heap.size wq w5 := hc4.trans (hb5.mono hc4.size)
        have hq5 := hc5.size
        have hS5w : w5.cell? ⟨g, 3, none⟩ = some (.slice av RS.length cv) ∧ w5.cell? ⟨wr.heap.size, 0, none⟩ = some (.int .i64 r.cell) ∧ w5.cell? ⟨wr.heap.size, 1, none⟩ = some (.slice (some e1) r.out.length n1) ∧ w5.cell? ⟨wr.heap.size, 2, none⟩ = some (.slice (some e2) r.inn.length n2) := ⟨(bcell1 hc5 hgq).trans s3, (bcell1 hc5 hwl).trans s0, (bcell1 hc5 hwl).trans s1, (bcell1 hc5 hwl).trans s2⟩
        refine hKr _ _ (fun _ => hS5w) ?_
        clear hKr Kr
        try simp only [List.getElem_toArray, List.getElem_cons_succ, List.getElem_cons_zero, Act.put, List.setIfInBounds_toArray, List.set_cons_zero, List.set_cons_succ]
        refine wpC_take (i := 10) (v := ?v10_18) (l' := #[true, true, true, true, true, true, true, true, true, true, true, false, false, false, false]) [11, 12, 13, 14] rfl (by kernel_rfl) (by kernel_rfl) (by kernel_rfl) (by kernel_rfl) (by kernel_rfl) rfl (fun _ _ _ h => h) (by rfl) (fun wx hS => ?q10_18) (by assumption) ?_
        case q10_18 => (go_simp; try with_reducible rfl)
        try simp only [List.getElem_toArray, List.getElem_cons_succ, List.getElem_cons_zero, Act.put, List.setIfInBounds_toArray, List.set_cons_zero, List.set_cons_succ]
        refine wpC_one (i := 11) (l' := #[true, true, true, true, true, true, true, true, true, true, true, true, false, false, false]) (by kernel_rfl) rfl rfl (by rfl) (fun Kr hKr => ?_)
        have hba := below_alloc w5 (.cells #[.int .i64 r.cell, .slice q4 r.inn.length m4, .slice q5 r.out.length m5] 122)
        have hc6 := hc5.trans (hba.mono hc5.size)
        go_simp
        refine hKr _ _ (fun _ => ⟨(bcell1 hc6 hgq).trans s3, (bcell1 hc6 hwl).trans s0, (bcell1 hc6 hwl).trans s1, (bcell1 hc6 hwl).trans s2⟩) ?_
        clear hKr Kr
        try simp only [List.getElem_toArray, List.getElem_cons_succ, List.getElem_cons_zero, Act.put, List.setIfInBounds_toArray, List.set_cons_zero, List.set_cons_succ]
        have hS6w : (w5.alloc (.cells #[.int .i64 r.cell, .slice q4 r.inn.length m4, .slice q5 r.out.length m5] 122)).cell? ⟨g, 3, none⟩ = some (.slice av RS.length cv) ∧ (w5.alloc (.cells #[.int .i64 r.cell, .slice q4 r.inn.length m4, .slice q5 r.out.length m5] 122)).cell? ⟨wr.heap.size, 0, none⟩ = some (.int .i64 r.cell) ∧ (w5.alloc (.cells #[.int .i64 r.cell, .slice q4 r.inn.length m4, .slice q5 r.out.length m5] 122)).cell? ⟨wr.heap.size, 1, none⟩ = some (.slice (some e1) r.out.length n1) ∧ (w5.alloc (.cells #[.int .i64 r.cell, .slice q4 r.inn.length m4, .slice q5 r.out.length m5] 122)).cell? ⟨wr.heap.size, 2, none⟩ = some (.slice (some e2) r.inn.length n2) := ⟨(bcell1 hc6 hgq).trans s3, (bcell1 hc6 hwl).trans s0, (bcell1 hc6 hwl).trans s1, (bcell1 hc6 hwl).trans s2⟩
        have hcw6 := hbq.trans (Below.mono hc6 (by omega))
        have HL6 := Lib.hid (HR.out.lst.below hcw6)
        have HROW := Lib.hid (RowAt.pr (B := w1.heap.size) (L := wq.heap.size) (E := 122) (G := G) (r := r) ho4 hb5 ho5 hn4 hn5 hl4' hl5 (by have := HB.out.size; omega) hc4.size (fun x hx => by have := (HGL.out x hx).2; omega))
        refine wpC_one (i := 12) (l' := #[true, true, true, true, true, true, true, true, true, true, true, true, true, false, false]) (by kernel_rfl) rfl rfl (by rfl) (fun Kr hKr => ?_)
        refine step_lst rfl (.tmp 28) (.tmp 38) 34 rfl tabPassRuleSM rfl (by omega) (by decide) w1.heap.size _ RS.length (RS.flatMap PR.ds) (revPR r).ds G (F4 ++ F5) _ rfl HL6.out w5.heap.size rfl HROW.out (by have := HRSL.out; omega) (by have := HB.out.size; simp; omega) ?_
        intro v7 w7 G7 hN
        obtain ⟨_, a7, c7, rfl⟩ := hN.lst.val
        have hz6 : (w5.alloc (.cells #[.int .i64 r.cell, .slice q4 r.inn.length m4, .slice q5 r.out.length m5] 122)).heap.size = w5.heap.size + 1 := by simp
        have ng : g ∉ ob (.slice av RS.length cv) := fun e => (HOB.out _ e).2.2 rfl
        have nw : wr.heap.size ∉ ob (.slice av RS.length cv) := fun e => by have := (HOB.out _ e).2.1; omega
        have hS7w : w7.cell? ⟨g, 3, none⟩ = some (.slice av RS.length cv) ∧ w7.cell? ⟨wr.heap.size, 0, none⟩ = some (.int .i64 r.cell) ∧ w7.cell? ⟨wr.heap.size, 1, none⟩ = some (.slice (some e1) r.out.length n1) ∧ w7.cell? ⟨wr.heap.size, 2, none⟩ = some (.slice (some e2) r.inn.length n2) := ⟨(hN.chg.cell (by omega) ng 3).trans hS6w.1, (hN.chg.cell (by omega) nw 0).trans hS6w.2.1, (hN.chg.cell (by omega) nw 1).trans hS6w.2.2.1, (hN.chg.cell (by omega) nw 2).trans hS6w.2.2.2⟩
        obtain ⟨d1, d2, hd3, hd4⟩ := HR.out.put hcw6 hN (fun x hx => by rcases List.mem_append.1 hx with hx | hx; (have := hl4' x hx; omega); (have := hl5 x hx; have := hc4.size; omega))
        refine hKr _ _ (fun _ => hS7w) ?_
        clear hKr Kr
        try simp only [List.getElem_toArray, List.getElem_cons_succ, List.getElem_cons_zero, Act.put, List.setIfInBounds_toArray, List.set_cons_zero, List.set_cons_succ]
        have HB9 : Hid (Below w1.heap.size w1 (w7.setCell ⟨g, 3, none⟩ (.slice a7 (RS.length + 1) c7))) := Lib.hid (HB.out.trans hd3)
        have HR9 := Lib.hid hd4
        have HRS9 : Hid (RS ++ [revPR r] = (x3.take (k + 1)).map revPR) := Lib.hid (by rw [List.take_succ_eq_append_getElem hlt, List.map_append, ← HRS.out, HRR.out]; simp [nthPR, hlt])
        clear hd3 hd4 hN hS6w hcw6 hc6 hba
        refine wpC_take (i := 13) (v := ?v13_19) (l' := #[true, true, true, true, true, true, true, true, true, true, true, true, true, true, false]) [14] rfl (by kernel_rfl) (by kernel_rfl) (by kernel_rfl) (by kernel_rfl) (by kernel_rfl) rfl (fun _ _ _ h => h) (by rfl) (fun wx hS => ?q13_19) (by assumption) ?_
        case q13_19 => (go_simp; try with_reducible rfl)
        try simp only [List.getElem_toArray, List.getElem_cons_succ, List.getElem_cons_zero, Act.put, List.setIfInBounds_toArray, List.set_cons_zero, List.set_cons_succ]
        refine wpC_one (i := 14) (l' := #[true, true, true, true, true, true, true, true, true, true, true, true, true, true, true]) (by kernel_rfl) rfl rfl (by rfl) (fun Kr hKr => ?_)
        go_simp
        refine hKr _ _ (fun h => absurd (by decide) h) ?_
        clear hKr Kr
        try simp only [List.getElem_toArray, List.getElem_cons_succ, List.getElem_cons_zero, Act.put, List.setIfInBounds_toArray, List.set_cons_zero, List.set_cons_succ]
        refine wpC_done (by kernel_rfl) ?_ _
        go_wp2
        first
          | (go_roundw
             case rel => exact ⟨k + 1, _, _, _, by omega, by go_num, HRS9, HB9, HR9⟩
             case measure => simp [intOf]; omega)
          | (refine ⟨⟨k + 1, _, _, _, by omega, by go_num, HRS9, HB9, HR9⟩, ?_⟩
             simp [intOf]; omega)
      · obtain rfl : k = x3.length := by omega
        rw [List.take_length] at HRS
        have hRS := HRS.out
        have HRL : Hid (RS.length ≤ 8) := Lib.hid (by rw [hRS]; simp; omega)
        obtain ⟨a', c', e', hcap, hs1⟩ := HR.out.o1.capI
        cases e'
        obtain ⟨a', c', e', hs2⟩ := Rd_B.1 HR.out.o2.rdA
        cases e'
        obtain ⟨G', ho3, _, _⟩ := HR.out.lst.ow (by omega) (by have := HRL.out; unfold maxLen; omega)
        have HV2 := Lib.hid (validPassing_c (K0 : Int) x1 x2 RS q1 q2 av m1 m2 cv wr hs1 hcap hs2 ho3.rdA)
        have g0 := HR.out.c0
        have g1 := HR.out.c1
        have g2 := HR.out.c2
        have g3 := HR.out.c3
        have hgl := HR.out.hg.2
        cases hok2 : okPass (K0 : Int) x1 x2 RS
        · have hres : revS (K0 : Int) x1 x2 x3 = (zPsn, 4) := by rw [revS, if_pos HOK.out, ← hRS, if_neg (by rw [hok2]; simp)]
          rw [hok2] at HV2
          have HRES := Lib.hid hres
          clear hres hok2 hRS hcap hs1 hs2 ho3
          go_wp2_with fail
          refine HV2.out.mono ?_
          rintro e w9 ⟨rfl, hb9⟩
          have HB9 : Hid (Below w1.heap.size w1 w9) := Lib.hid (bnext HB.out hb9 (Nat.le_refl _))
          have HBW9 : Hid (Below w.heap.size w w9) := Lib.hid (HB1.out.trans (HB9.out.mono (by omega)))
          obtain ⟨r0, r1, r2, r3, z0, z1, z2, z3⟩ := RZ.out
          have hlt1 : w.heap.size + 1 < w1.heap.size := by omega
          replace r0 := (bcell1 HB9.out hlt1).trans r0
          replace r1 := (bcell1 HB9.out hlt1).trans r1
          replace r2 := (bcell1 HB9.out hlt1).trans r2
          replace r3 := (bcell1 HB9.out hlt1).trans r3
          replace z0 := (HB9.out.frozen (p := ⟨w.heap.size + 1, 0, none⟩) hlt1).trans z0
          replace z1 := (HB9.out.frozen (p := ⟨w.heap.size + 1, 1, none⟩) hlt1).trans z1
          replace z2 := (HB9.out.frozen (p := ⟨w.heap.size + 1, 2, none⟩) hlt1).trans z2
          replace z3 := (HB9.out.frozen (p := ⟨w.heap.size + 1, 3, none⟩) hlt1).trans z3
          clear hb9 g0 g1 g2 g3
          have sA := set4 w9 (w.heap.size + 1) (.int .i64 0) (.slice none 0 0) (.slice none 0 0) (.slice none 0 0) r0 r1 r2 r3
          go_wp2
          refine bodyPost_ret (v := .tuple #[.agg #[.int .i64 0, .slice none 0 0, .slice none 0 0, .slice none 0 0], .int .i64 4]) (by simp [results, Try.results49, go_sem, sA]) rfl ?_
          rw [HRES.out]
          exact RetAC.zero (b := w.heap.size + 1) HBW9.out (Nat.le_succ _) 4
        · have hres : revS (K0 : Int) x1 x2 x3 = (((K0 : Int), x1, x2, RS), 0) := by rw [revS, if_pos HOK.out, ← hRS, if_pos hok2]
          rw [hok2] at HV2
          have HRES := Lib.hid hres
          clear hres hok2 hRS hcap hs1 hs2 ho3
          go_wp2_with fail
          refine HV2.out.mono ?_
          rintro e w9 ⟨rfl, hb9⟩
          have HB9 : Hid (Below w1.heap.size w1 w9) := Lib.hid (bnext HB.out hb9 (Nat.le_refl _))
          have HBW9 : Hid (Below w.heap.size w w9) := Lib.hid (HB1.out.trans (HB9.out.mono (by omega)))
          have HR9 := Lib.hid (HR.out.keep hb9)
          obtain ⟨r0, r1, r2, r3, z0, z1, z2, z3⟩ := RZ.out
          have hlt1 : w.heap.size + 1 < w1.heap.size := by omega
          replace r0 := (bcell1 HB9.out hlt1).trans r0
          replace r1 := (bcell1 HB9.out hlt1).trans r1
          replace r2 := (bcell1 HB9.out hlt1).trans r2
          replace r3 := (bcell1 HB9.out hlt1).trans r3
          replace z0 := (HB9.out.frozen (p := ⟨w.heap.size + 1, 0, none⟩) hlt1).trans z0
          replace z1 := (HB9.out.frozen (p := ⟨w.heap.size + 1, 1, none⟩) hlt1).trans z1
          replace z2 := (HB9.out.frozen (p := ⟨w.heap.size + 1, 2, none⟩) hlt1).trans z2
          replace z3 := (HB9.out.frozen (p := ⟨w.heap.size + 1, 3, none⟩) hlt1).trans z3
          replace g0 := (bcell1 hb9 hgl).trans g0
          replace g1 := (bcell1 hb9 hgl).trans g1
          replace g2 := (bcell1 hb9 hgl).trans g2
          replace g3 := (bcell1 hb9 hgl).trans g3
          clear hb9
          have sA := set4 w9 (w.heap.size + 1) (.int .i64 K0) (.slice q1 x1.length m1) (.slice q2 x2.length m2) (.slice av RS.length cv) r0 r1 r2 r3
          go_wp2
          refine bodyPost_ret (v := .tuple #[.agg #[.int .i64 K0, .slice q1 x1.length m1, .slice q2 x2.length m2, .slice av RS.length cv], .int .i64 0]) (by simp [results, Try.results49, go_sem, sA]) rfl ?_
          rw [HRES.out]
          exact HR9.out.retAC (b := w.heap.size + 1) HBW9.out (Nat.le_succ _) hlt1 (by have := HRL.out; unfold maxLen; omega)
end Go.Proofs.Ytkoojiplfbcalaa
