/- ReversePassing, the reference's. Written by mkrv2.py. -/
import Derived.Test.YtkoojiplfbcalaaRV
import Derived.Test.YtkoojiplfbcalaaRM
import Derived.Test.YtkoojiplfbcalaaLG
namespace Go.Proofs.Ytkoojiplfbcalaa
open Go.RowKit

/-- 'append(v, xs...)' of yes and no to an empty list, at a step of a region that draws its order. -/
theorem step_bools {P : Program} {ops : Array Oper} {o : Oper} {ac : Act} {w : World} {K : Act → World → Prop} {Q : Exit → Act → World → Prop} {X : Prop} (hgd : o.guard = none) (s x : Operand) (T : TypeId)
    (ho : o.op = .call { callee := .builtin .append, args := #[s, x], argTypes := #[T, T] }) {E bytes : Nat} {z : Value} (tab : Tab P T E z 1 bytes) (hzs : z.cells.size = 1) (hby : bytes ≤ 1024)
    (B : Nat) (v : Value) (G : List Nat) (hs : ac.eval s = v) (h : Lst E 1 w B v 0 [] G) (ad : Addr) (m c : Nat) (ys : List Bool) (hx : ac.eval x = .slice (some ad) m c) (hn : ys.length = m) (hc : ∀ j u, (ys.map Value.bool)[j]? = some u → w.cell? (ad.add j) = some u) (hlen : m < 4294967296) (hm : 0 < m) (hB : B ≤ w.heap.size)
    (hK : ∀ v' w' G', Lst E 1 w' B v' m (ys.map .b) G' → Chg (ob v) w w' → (∀ g, g ∈ G' → g ∈ ob v ∨ w.heap.size ≤ g) → K (ac.put o.dst v') w') : if Region.wanted o (yielded ops ac.tmps) = true then Oper.wp P o ac w K Q else X := by
  have hw : Region.wanted o (yielded ops ac.tmps) = true := by simp [Region.wanted, hgd]
  rw [if_pos hw]
  obtain ⟨i0, hi, hz0, hz1, hz2⟩ := info_parts tab.info
  obtain ⟨vs, F, h1, h2, _⟩ := h
  have hvs : vs = [] := by
    cases vs with
    | nil => rfl
    | cons a b => exact h2.elim
  subst hvs
  obtain ⟨v', w', e, q2, q3, q4⟩ := run_app (P := P) (ty := o.type) w B T E i0 z 1 bytes tab.under hi hz0 hz1 hz2 hzs (by omega) v 0 [] h1 ad m c (ys.map .bool) (by simp [hn]) hc (bools_one ys) (by unfold maxLen; omega) (by
    have : (0 + m) * bytes ≤ 4294967296 * 1024 := Nat.mul_le_mul (by omega) hby
    omega) hB hm
  unfold Oper.wp execOp
  simp only [ho, resolve, invoke, builtin, Sem.run_bind, Sem.run_pure, Result.andThen_ok, List.map_toArray, List.map_cons, List.map_nil, hs, hx, e]
  refine hK v' w' (ob v') ⟨ys.map .bool, [], by simpa using q2, owA_bools _ _, by simp, by simp, by simp, by simp⟩ (grown_chg q3) fun g hg => ?_
  rcases q4 g (mem_ob.1 hg) with hh | hh
  · exact .inl (mem_ob.2 hh)
  · exact .inr hh

set_option maxHeartbeats 4000000 in
set_option maxRecDepth 100000 in
theorem specReversePassing_c (x0 : Int) (x1 : List Int) (x2 : List Bool) (x3 : List PR) (a1 a2 a3 : Option Addr) (c1 c2 c3 : Nat) (w : World) (h1 : SlI Any w a1 x1) (h2 : SlB Any w a2 x2) (h3 : Rd Any w (dPR x3) (.slice a3 x3.length c3)) :
    Calls Try.prog 48 #[.agg #[.int .i64 x0, .slice a1 x1.length c1, .slice a2 x2.length c2, .slice a3 x3.length c3]] w (RetAC w (psD (revS x0 x1 x2 x3).1) (revS x0 x1 x2 x3).2) := by
  have hb0 : Below w.heap.size w ((w.alloc (.cells #[.int .i64 x0, .slice a1 x1.length c1, .slice a2 x2.length c2, .slice a3 x3.length c3] 36)).alloc (.cells #[.int .i64 0, .slice none 0 0, .slice none 0 0, .slice none 0 0] 36)) := ((Below.refl _ _).alloc (Nat.le_refl _) _).alloc (by simp) _
  have HV := Lib.hid (l06Ok_c x0 x1 x2 x3 a1 a2 a3 c1 c2 c3 w.heap.size ((w.alloc (.cells #[.int .i64 x0, .slice a1 x1.length c1, .slice a2 x2.length c2, .slice a3 x3.length c3] 36)).alloc (.cells #[.int .i64 0, .slice none 0 0, .slice none 0 0, .slice none 0 0] 36)) (h1.below hb0) (h2.below hb0) (h3.below hb0) (by simp [go_sem]) (by simp [go_sem]) (by simp [go_sem]) (by simp [go_sem]))
  have HB0 := Lib.hid hb0
  clear hb0
  by_cases hok : okPass x0 x1 x2 x3 = true
  rotate_left
  · have hres : revS x0 x1 x2 x3 = (zPsn, 1) := by rw [revS, if_neg hok]
    have hok' : okPass x0 x1 x2 x3 = false := by simpa using hok
    rw [hok'] at HV
    rw [hres]
    clear hres hok hok'
    go_enter Try.func48, Try.ntmps48
    go_wp2_with fail
    refine HV.out.mono ?_
    rintro e w1 ⟨rfl, hb1⟩
    have f0 : w1.cell? ⟨w.heap.size, 0, none⟩ = some (.int .i64 x0) := by rw [bcell1 hb1 (by simp <;> omega)]; simp [go_sem]
    have f1 : w1.cell? ⟨w.heap.size, 1, none⟩ = some (.slice a1 x1.length c1) := by rw [bcell1 hb1 (by simp <;> omega)]; simp [go_sem]
    have f2 : w1.cell? ⟨w.heap.size, 2, none⟩ = some (.slice a2 x2.length c2) := by rw [bcell1 hb1 (by simp <;> omega)]; simp [go_sem]
    have f3 : w1.cell? ⟨w.heap.size, 3, none⟩ = some (.slice a3 x3.length c3) := by rw [bcell1 hb1 (by simp <;> omega)]; simp [go_sem]
    have r0 : w1.cell? ⟨w.heap.size + 1, 0, none⟩ = some (.int .i64 0) := by rw [bcell1 hb1 (by simp)]; simp [go_sem]
    have r1 : w1.cell? ⟨w.heap.size + 1, 1, none⟩ = some (.slice none 0 0) := by rw [bcell1 hb1 (by simp)]; simp [go_sem]
    have r2 : w1.cell? ⟨w.heap.size + 1, 2, none⟩ = some (.slice none 0 0) := by rw [bcell1 hb1 (by simp)]; simp [go_sem]
    have r3 : w1.cell? ⟨w.heap.size + 1, 3, none⟩ = some (.slice none 0 0) := by rw [bcell1 hb1 (by simp)]; simp [go_sem]
    have z0 : w1.frozen? ⟨w.heap.size + 1, 0, none⟩ = false := by rw [hb1.frozen (p := ⟨w.heap.size + 1, 0, none⟩) (by simp)]; simp [go_sem]
    have z1 : w1.frozen? ⟨w.heap.size + 1, 1, none⟩ = false := by rw [hb1.frozen (p := ⟨w.heap.size + 1, 1, none⟩) (by simp)]; simp [go_sem]
    have z2 : w1.frozen? ⟨w.heap.size + 1, 2, none⟩ = false := by rw [hb1.frozen (p := ⟨w.heap.size + 1, 2, none⟩) (by simp)]; simp [go_sem]
    have z3 : w1.frozen? ⟨w.heap.size + 1, 3, none⟩ = false := by rw [hb1.frozen (p := ⟨w.heap.size + 1, 3, none⟩) (by simp)]; simp [go_sem]
    have HB1 : Hid (Below w.heap.size w w1) := Lib.hid (HB0.out.trans (hb1.mono (by simp <;> omega)))
    clear hb1
    have sA := set4 w1 (w.heap.size + 1) (.int .i64 0) (.slice none 0 0) (.slice none 0 0) (.slice none 0 0) r0 r1 r2 r3
    go_wp2
    refine bodyPost_ret (v := .tuple #[.agg #[.int .i64 0, .slice none 0 0, .slice none 0 0, .slice none 0 0], .int .i64 1]) (by simp [results, Try.results48, go_sem, sA]) rfl ?_
    exact RetAC.zero HB1.out (by omega) 1
  · obtain ⟨K0, rfl, hps⟩ := PsOk.of hok
    rw [hok] at HV
    have hl1 : 0 < x1.length := hps.p1
    have hl2 : 0 < x2.length := by have := hps.free; have := hps.k1; omega
    obtain ⟨d1, rfl⟩ := h1.addr hl1
    obtain ⟨d2, rfl⟩ := h2.addr hl2
    have H1 := Lib.hid h1
    have H2 := Lib.hid h2
    have H3 := Lib.hid h3
    have hok2 := hok
    have HPS := Lib.hid hps
    have HOK := Lib.hid hok
    have hx4 := hps.p4
    have hx28 : x2.length ≤ 8 := by have := hps.free; have := hps.k8; omega
    have hr8 := hps.r8
    clear h1 h2 h3 hps hok hok2
    go_enter Try.func48, Try.ntmps48
    go_wp2_with fail
    refine HV.out.mono ?_
    rintro e w1 ⟨rfl, hb1⟩
    have f0 : w1.cell? ⟨w.heap.size, 0, none⟩ = some (.int .i64 (K0 : Int)) := by rw [bcell1 hb1 (by simp <;> omega)]; simp [go_sem]
    have f1 : w1.cell? ⟨w.heap.size, 1, none⟩ = some (.slice (some d1) x1.length c1) := by rw [bcell1 hb1 (by simp <;> omega)]; simp [go_sem]
    have f2 : w1.cell? ⟨w.heap.size, 2, none⟩ = some (.slice (some d2) x2.length c2) := by rw [bcell1 hb1 (by simp <;> omega)]; simp [go_sem]
    have f3 : w1.cell? ⟨w.heap.size, 3, none⟩ = some (.slice a3 x3.length c3) := by rw [bcell1 hb1 (by simp <;> omega)]; simp [go_sem]
    have r0 : w1.cell? ⟨w.heap.size + 1, 0, none⟩ = some (.int .i64 0) := by rw [bcell1 hb1 (by simp)]; simp [go_sem]
    have r1 : w1.cell? ⟨w.heap.size + 1, 1, none⟩ = some (.slice none 0 0) := by rw [bcell1 hb1 (by simp)]; simp [go_sem]
    have r2 : w1.cell? ⟨w.heap.size + 1, 2, none⟩ = some (.slice none 0 0) := by rw [bcell1 hb1 (by simp)]; simp [go_sem]
    have r3 : w1.cell? ⟨w.heap.size + 1, 3, none⟩ = some (.slice none 0 0) := by rw [bcell1 hb1 (by simp)]; simp [go_sem]
    have z0 : w1.frozen? ⟨w.heap.size + 1, 0, none⟩ = false := by rw [hb1.frozen (p := ⟨w.heap.size + 1, 0, none⟩) (by simp)]; simp [go_sem]
    have z1 : w1.frozen? ⟨w.heap.size + 1, 1, none⟩ = false := by rw [hb1.frozen (p := ⟨w.heap.size + 1, 1, none⟩) (by simp)]; simp [go_sem]
    have z2 : w1.frozen? ⟨w.heap.size + 1, 2, none⟩ = false := by rw [hb1.frozen (p := ⟨w.heap.size + 1, 2, none⟩) (by simp)]; simp [go_sem]
    have z3 : w1.frozen? ⟨w.heap.size + 1, 3, none⟩ = false := by rw [hb1.frozen (p := ⟨w.heap.size + 1, 3, none⟩) (by simp)]; simp [go_sem]
    have HB1 : Hid (Below w.heap.size w w1) := Lib.hid (HB0.out.trans (hb1.mono (by simp <;> omega)))
    have hz1 : w.heap.size + 2 ≤ w1.heap.size := by have := hb1.size; (try simp at this); omega
    clear hb1
    have HRI := Lib.hid (callFunc_run (P := Try.prog) Try.func100 (by kernel_rfl) rfl)
    have HCI : Hid (∀ wx, Below w1.heap.size w1 wx → Calls Try.prog 100 #[.slice (some d1) x1.length c1] wx (RetD wx (dI x1))) := Lib.hid fun wx h => l00Own_c Any (some d1) c1 x1 wx (H1.out.below (HB1.out.trans (h.mono (by omega)))) ⟨_, rfl⟩ (by omega)
    have HVL : Hid (∀ wx, Below w1.heap.size w1 wx → ∀ j u, (x2.map Value.bool)[j]? = some u → wx.cell? (d2.add j) = some u) := Lib.hid fun wx h => (H2.out.below (HB1.out.trans (h.mono (by omega)))).vals
    go_wp2
    rename_i K hK
    suffices key : ∀ {t10 t11 t12 t13 t14 t15 t16 t17 t18 t19 : Value} {w2 : World} {g m1 m2 : Nat} {q1 q2 : Option Addr} {F1 F2 : List Nat}, Hid (Below w1.heap.size w1 w2) → Hid (Rev w1.heap.size w2 g K0 x1 x2 [] (.slice q1 x1.length m1) (.slice q2 x2.length m2) F1 F2 (.slice none 0 0) []) → K ⟨#[(.agg #[.int .i64 K0, .slice (some d1) x1.length c1, .slice (some d2) x2.length c2, .slice a3 x3.length c3]), .pointer (some ⟨w.heap.size, 0, none⟩), .pointer (some ⟨w.heap.size + 1, 0, none⟩), .int .i64 0, .pointer (some ⟨g, 0, none⟩), undef, undef, .bool true, .bool false, undef, t10, t11, t12, t13, t14, t15, t16, t17, t18, t19, undef, undef, undef, undef, undef, undef, undef, undef, undef, undef, undef, undef, undef, undef, undef, undef, undef, undef, undef, undef, undef, undef, undef, undef, undef, undef, undef, undef, undef, undef, undef, undef, undef, undef, undef], []⟩ w2 by
      have hcD : Below w1.heap.size w1 w1.drew := (Below.refl _ _).drew
      have hS0 : w1.drew.cell? ⟨w.heap.size, 0, none⟩ = some (.int .i64 (K0 : Int)) ∧ w1.drew.cell? ⟨w.heap.size, 1, none⟩ = some (.slice (some d1) x1.length c1) ∧ w1.drew.cell? ⟨w.heap.size, 2, none⟩ = some (.slice (some d2) x2.length c2) := ⟨f0, f1, f2⟩
      refine wp_region_C (n := 12) (l := #[false, false, false, false, false, false, false, false, false, false, false, false]) (fun wx => wx.cell? ⟨w.heap.size, 0, none⟩ = some (.int .i64 (K0 : Int)) ∧ wx.cell? ⟨w.heap.size, 1, none⟩ = some (.slice (some d1) x1.length c1) ∧ wx.cell? ⟨w.heap.size, 2, none⟩ = some (.slice (some d2) x2.length c2)) [11] (by kernel_rfl) rfl rfl ?_
      refine wpC_take (i := 0) (v := ?v0_20) (l' := #[true, false, false, false, false, false, false, false, false, false, false, false]) [1, 9, 11] rfl (by kernel_rfl) (by kernel_rfl) (by kernel_rfl) (by kernel_rfl) (by kernel_rfl) rfl (fun _ _ _ h => h) (by rfl) (fun wx hS => ?q0_20) (by assumption) ?_
      case q0_20 => (go_simp; try with_reducible rfl)
      try simp only [List.getElem_toArray, List.getElem_cons_zero, Act.put, List.setIfInBounds_toArray, List.set_cons_zero, List.set_cons_succ]
      refine wpC_take (i := 1) (v := ?v1_21) (l' := #[true, true, false, false, false, false, false, false, false, false, false, false]) [9, 11] rfl (by kernel_rfl) (by kernel_rfl) (by kernel_rfl) (by kernel_rfl) (by kernel_rfl) rfl (fun _ _ _ h => h) (by rfl) (fun wx hS => ?q1_21) (by assumption) ?_
      case q1_21 => ((try dsimp only at hS); obtain ⟨hS1, hS2, hS3⟩ := hS; go_simp; try with_reducible rfl)
      try simp only [List.getElem_toArray, List.getElem_cons_succ, List.getElem_cons_zero, Act.put, List.setIfInBounds_toArray, List.set_cons_zero, List.set_cons_succ]
      refine wpC_take (i := 2) (v := ?v2_22) (l' := #[true, true, true, false, false, false, false, false, false, false, false, false]) [3, 4, 8, 9, 11] rfl (by kernel_rfl) (by kernel_rfl) (by kernel_rfl) (by kernel_rfl) (by kernel_rfl) rfl (fun _ _ _ h => h) (by rfl) (fun wx hS => ?q2_22) (by assumption) ?_
      case q2_22 => (go_simp; try with_reducible rfl)
      try simp only [List.getElem_toArray, List.getElem_cons_succ, List.getElem_cons_zero, Act.put, List.setIfInBounds_toArray, List.set_cons_zero, List.set_cons_succ]
      refine wpC_take (i := 3) (v := ?v3_23) (l' := #[true, true, true, true, false, false, false, false, false, false, false, false]) [4, 8, 9, 11] rfl (by kernel_rfl) (by kernel_rfl) (by kernel_rfl) (by kernel_rfl) (by kernel_rfl) rfl (fun _ _ _ h => h) (by rfl) (fun wx hS => ?q3_23) (by assumption) ?_
      case q3_23 => ((try dsimp only at hS); obtain ⟨hS1, hS2, hS3⟩ := hS; go_simp; try with_reducible rfl)
      try simp only [List.getElem_toArray, List.getElem_cons_succ, List.getElem_cons_zero, Act.put, List.setIfInBounds_toArray, List.set_cons_zero, List.set_cons_succ]
      refine wpC_take (i := 6) (v := ?v6_24) (l' := #[true, true, true, true, false, false, true, false, false, false, false, false]) [7, 8, 9, 11] rfl (by kernel_rfl) (by kernel_rfl) (by kernel_rfl) (by kernel_rfl) (by kernel_rfl) rfl (fun _ _ _ h => h) (by rfl) (fun wx hS => ?q6_24) (by assumption) ?_
      case q6_24 => (go_simp; try with_reducible rfl)
      try simp only [List.getElem_toArray, List.getElem_cons_succ, List.getElem_cons_zero, Act.put, List.setIfInBounds_toArray, List.set_cons_zero, List.set_cons_succ]
      refine wpC_take (i := 7) (v := ?v7_25) (l' := #[true, true, true, true, false, false, true, true, false, false, false, false]) [8, 9, 11] rfl (by kernel_rfl) (by kernel_rfl) (by kernel_rfl) (by kernel_rfl) (by kernel_rfl) rfl (fun _ _ _ h => h) (by rfl) (fun wx hS => ?q7_25) (by assumption) ?_
      case q7_25 => ((try dsimp only at hS); obtain ⟨hS1, hS2, hS3⟩ := hS; go_simp; try with_reducible rfl)
      try simp only [List.getElem_toArray, List.getElem_cons_succ, List.getElem_cons_zero, Act.put, List.setIfInBounds_toArray, List.set_cons_zero, List.set_cons_succ]
      refine wpC_three (i := 4) (j := 5) (m := 10) (l1 := #[true, true, true, true, true, false, true, true, false, false, false, false]) (l2 := #[true, true, true, true, false, true, true, true, false, false, false, false]) (l3 := #[true, true, true, true, false, false, true, true, false, false, true, false]) (by kernel_rfl) rfl rfl rfl rfl rfl rfl (by rfl) (by rfl) (by rfl) (fun Kr hKr => ?_) (fun Kr hKr => ?_) (fun Kr hKr => ?_)
      · refine step_callV rfl 100 _ _ rfl HRI.out #[.slice (some d1) x1.length c1] (by first | rfl | (simp [Act.eval]; done) | (simp [Act.eval]; rfl) | (simp [Act.eval]; repeat' constructor)) (HCI.out _ hcD) ?_
        rintro e w4 ⟨v4, F4, rfl, hb4, ho4, hn4, hl4⟩
        obtain ⟨q1, m1, rfl⟩ := ho4.val
        refine ⟨_, rfl, ?_⟩
        have hc4 : Below w1.heap.size w1 w4 := hcD.trans (hb4.mono hcD.size)
        have hqq4 := hb4.size
        have hq4 := hc4.size
        have hi4 : ∀ g, g ∈ F4 → g < w4.heap.size := Ow.lt _ _ _ ho4
        have hz4 : w1.heap.size ≤ w4.heap.size := hc4.size
        have hl4' : ∀ g, g ∈ F4 → w1.heap.size ≤ g := hl4
        refine hKr _ _ (fun _ => ⟨(bcell1 hc4 (by omega)).trans f0, (bcell1 hc4 (by omega)).trans f1, (bcell1 hc4 (by omega)).trans f2⟩) ?_
        clear hKr Kr
        try simp only [List.getElem_toArray, List.getElem_cons_succ, List.getElem_cons_zero, Act.put, List.setIfInBounds_toArray, List.set_cons_zero, List.set_cons_succ]
        have hS4 : w4.cell? ⟨w.heap.size, 0, none⟩ = some (.int .i64 (K0 : Int)) ∧ w4.cell? ⟨w.heap.size, 1, none⟩ = some (.slice (some d1) x1.length c1) ∧ w4.cell? ⟨w.heap.size, 2, none⟩ = some (.slice (some d2) x2.length c2) := ⟨(bcell1 hc4 (by omega)).trans f0, (bcell1 hc4 (by omega)).trans f1, (bcell1 hc4 (by omega)).trans f2⟩
        refine wpC_two (i := 5) (j := 10) (l' := #[true, true, true, true, true, true, true, true, false, false, false, false]) (l'' := #[true, true, true, true, true, false, true, true, false, false, true, false]) (by kernel_rfl) rfl rfl rfl rfl (by rfl) (by rfl) (fun Kr hKr => ?_) (fun Kr hKr => ?_)
        · go_simp
          refine hKr _ _ (fun _ => ⟨(bcell1 (hc4.trans ((below_alloc _ _).mono hc4.size)) (by omega)).trans f0, (bcell1 (hc4.trans ((below_alloc _ _).mono hc4.size)) (by omega)).trans f1, (bcell1 (hc4.trans ((below_alloc _ _).mono hc4.size)) (by omega)).trans f2⟩) ?_
          clear hKr Kr
          try simp only [List.getElem_toArray, List.getElem_cons_succ, List.getElem_cons_zero, Act.put, List.setIfInBounds_toArray, List.set_cons_zero, List.set_cons_succ]
          obtain ⟨wM, hwM⟩ : ∃ wz, wz = w4.alloc (.cells #[] 4) := ⟨_, rfl⟩
          rw [← hwM]
          have hcM : Below w1.heap.size w1 wM := by rw [hwM]; exact (hc4.trans ((below_alloc _ _).mono hc4.size))
          have hxM : Below w4.heap.size w4 wM := by rw [hwM]; exact below_alloc _ _
          have hLM : Lst 4 1 wM w1.heap.size (.slice (some ⟨w4.heap.size, 0, none⟩) 0 0) 0 [] [w4.heap.size] := by rw [hwM]; exact Lst.made 4 1 w4 w1.heap.size hc4.size
          have ltM : w4.heap.size < wM.heap.size := by rw [hwM]; simp
          have hqM := hcM.size
          have hgM := hxM.size
          replace ho4 := ho4.below hxM
          clear hwM
          have hSM : wM.cell? ⟨w.heap.size, 0, none⟩ = some (.int .i64 (K0 : Int)) ∧ wM.cell? ⟨w.heap.size, 1, none⟩ = some (.slice (some d1) x1.length c1) ∧ wM.cell? ⟨w.heap.size, 2, none⟩ = some (.slice (some d2) x2.length c2) := ⟨(bcell1 hcM (by omega)).trans f0, (bcell1 hcM (by omega)).trans f1, (bcell1 hcM (by omega)).trans f2⟩
          refine wpC_two (i := 8) (j := 10) (l' := #[true, true, true, true, true, true, true, true, true, false, false, false]) (l'' := #[true, true, true, true, true, true, true, true, false, false, true, false]) (by kernel_rfl) rfl rfl rfl rfl (by rfl) (by rfl) (fun Kr hKr => ?_) (fun Kr hKr => ?_)
          · have hcb8 := fun j u hu => HVL.out wM hcM j u hu
            refine step_bools rfl _ _ 23 rfl tabB rfl (by decide) w1.heap.size (.slice (some ⟨w4.heap.size, 0, none⟩) 0 0) _ rfl hLM d2 x2.length c2 x2 rfl rfl hcb8 (by omega) (by omega) hcM.size ?_
            intro v5 w5 G5 hL5 hch5 hg5
            obtain ⟨_, q2, m2, rfl⟩ := hL5.val
            obtain ⟨F5, ho5, hn5, hs5⟩ := hL5.ow (by omega) (by unfold maxLen; omega)
            have hob : ob (.slice (some ⟨w4.heap.size, 0, none⟩) 0 0) = [w4.heap.size] := rfl
            rw [hob] at hch5 hg5
            have hc5 : Below w1.heap.size w1 w5 := hcM.trans (hch5.below hcM.size (fun y hy => by simp at hy; omega))
            have hq5 := hc5.size
            have hqq5 := hch5.size
            have hi5 : ∀ g, g ∈ F5 → g < w5.heap.size := Ow.lt _ _ _ ho5
            have hl5' : ∀ g, g ∈ F5 → g = w4.heap.size ∨ wM.heap.size ≤ g := fun y hy => by rcases hg5 y (hs5 y hy) with h | h; (left; simpa using h); exact .inr h
            have hne4 : ∀ g, g ∈ F4 → g ≠ w4.heap.size := fun y hy => by have q1 := hl4' y hy; have q2 := hi4 y hy; omega
            replace ho4 := hch5.ow ho4 (fun y hy e => hne4 y hy (by simpa using e))
            refine hKr _ _ (fun _ => ⟨(bcell1 hc5 (by omega)).trans f0, (bcell1 hc5 (by omega)).trans f1, (bcell1 hc5 (by omega)).trans f2⟩) ?_
            clear hKr Kr
            try simp only [List.getElem_toArray, List.getElem_cons_succ, List.getElem_cons_zero, Act.put, List.setIfInBounds_toArray, List.set_cons_zero, List.set_cons_succ]
            have hi4b : ∀ g, g ∈ F4 → g < wM.heap.size := fun y hy => by have := hi4 y hy; omega
            have hS5 : w5.cell? ⟨w.heap.size, 0, none⟩ = some (.int .i64 (K0 : Int)) ∧ w5.cell? ⟨w.heap.size, 1, none⟩ = some (.slice (some d1) x1.length c1) ∧ w5.cell? ⟨w.heap.size, 2, none⟩ = some (.slice (some d2) x2.length c2) := ⟨(bcell1 hc5 (by omega)).trans f0, (bcell1 hc5 (by omega)).trans f1, (bcell1 hc5 (by omega)).trans f2⟩
            refine wpC_take (i := 9) (v := ?v9_26) (l' := #[true, true, true, true, true, true, true, true, true, true, false, false]) [11] rfl (by kernel_rfl) (by kernel_rfl) (by kernel_rfl) (by kernel_rfl) (by kernel_rfl) rfl (fun _ _ _ h => h) (by rfl) (fun wx hS => ?q9_26) (by assumption) ?_
            case q9_26 => (go_simp; try with_reducible rfl)
            try simp only [List.getElem_toArray, List.getElem_cons_succ, List.getElem_cons_zero, Act.put, List.setIfInBounds_toArray, List.set_cons_zero, List.set_cons_succ]
            refine wpC_one (i := 10) (l' := #[true, true, true, true, true, true, true, true, true, true, true, false]) (by kernel_rfl) rfl rfl (by rfl) (fun Kr hKr => ?_)
            go_simp
            refine hKr _ _ (fun _ => ⟨(bcell1 (hc5.trans ((below_alloc _ _).mono hc5.size)) (by omega)).trans f0, (bcell1 (hc5.trans ((below_alloc _ _).mono hc5.size)) (by omega)).trans f1, (bcell1 (hc5.trans ((below_alloc _ _).mono hc5.size)) (by omega)).trans f2⟩) ?_
            clear hKr Kr
            try simp only [List.getElem_toArray, List.getElem_cons_succ, List.getElem_cons_zero, Act.put, List.setIfInBounds_toArray, List.set_cons_zero, List.set_cons_succ]
            obtain ⟨wA, hwA⟩ : ∃ wz, wz = w5.alloc (.cells #[.int .i64 0, .slice none 0 0, .slice none 0 0, .slice none 0 0] 36) := ⟨_, rfl⟩
            rw [← hwA]
            have hcA : Below w1.heap.size w1 wA := by rw [hwA]; exact (hc5.trans ((below_alloc _ _).mono hc5.size))
            have zc0 : wA.cell? ⟨w5.heap.size, 0, none⟩ = some (.int .i64 0) := by rw [hwA]; simp [go_sem]
            have zy0 : wA.frozen? ⟨w5.heap.size, 0, none⟩ = false := by rw [hwA]; simp [go_sem]
            have zc1 : wA.cell? ⟨w5.heap.size, 1, none⟩ = some (.slice none 0 0) := by rw [hwA]; simp [go_sem]
            have zy1 : wA.frozen? ⟨w5.heap.size, 1, none⟩ = false := by rw [hwA]; simp [go_sem]
            have zc2 : wA.cell? ⟨w5.heap.size, 2, none⟩ = some (.slice none 0 0) := by rw [hwA]; simp [go_sem]
            have zy2 : wA.frozen? ⟨w5.heap.size, 2, none⟩ = false := by rw [hwA]; simp [go_sem]
            have zc3 : wA.cell? ⟨w5.heap.size, 3, none⟩ = some (.slice none 0 0) := by rw [hwA]; simp [go_sem]
            have zy3 : wA.frozen? ⟨w5.heap.size, 3, none⟩ = false := by rw [hwA]; simp [go_sem]
            have ltA : w5.heap.size < wA.heap.size := by rw [hwA]; simp
            have hqA := hcA.size
            replace ho4 := ho4.below (w' := wA) (by rw [hwA]; exact below_alloc _ _)
            replace ho5 := ho5.below (w' := wA) (by rw [hwA]; exact below_alloc _ _)
            have hgt : w5.heap.size ≤ wA.heap.size := by rw [hwA]; simp
            clear hwA
            have hSA : wA.cell? ⟨w.heap.size, 0, none⟩ = some (.int .i64 (K0 : Int)) ∧ wA.cell? ⟨w.heap.size, 1, none⟩ = some (.slice (some d1) x1.length c1) ∧ wA.cell? ⟨w.heap.size, 2, none⟩ = some (.slice (some d2) x2.length c2) := ⟨(bcell1 hcA (by omega)).trans f0, (bcell1 hcA (by omega)).trans f1, (bcell1 hcA (by omega)).trans f2⟩
            refine wpC_one (i := 11) (l' := #[true, true, true, true, true, true, true, true, true, true, true, true]) (by kernel_rfl) rfl rfl (by rfl) (fun Kr hKr => ?_)
            have hBB : w1.heap.size ≤ w5.heap.size := by omega
            go_simp
            have hE := box4 (.int .i64 K0) (.slice q1 x1.length m1) (.slice q2 x2.length m2) (.slice none 0 0) hcA hBB ltA zc0 zc1 zc2 zc3
            refine hKr _ _ (fun _ => ⟨(bcell1 hE.1 (by omega)).trans f0, (bcell1 hE.1 (by omega)).trans f1, (bcell1 hE.1 (by omega)).trans f2⟩) ?_
            clear hKr Kr
            try simp only [List.getElem_toArray, List.getElem_cons_succ, List.getElem_cons_zero, Act.put, List.setIfInBounds_toArray, List.set_cons_zero, List.set_cons_succ]
            refine wpC_done (by kernel_rfl) ?_ _
            obtain ⟨hE1, hE2, hE3, hE4, hE5, hE6, hE7⟩ := hE
            have hx4 : w5.heap.size ∉ F4 := fun hg => by have q1 := hl4' _ hg; have q2 := hi4 _ hg; omega
            have hx5 : w5.heap.size ∉ F5 := fun hg => by
              have q2 := hi5 _ hg
              rcases hl5' _ hg with q1 | q1 <;> omega
            have hn45 : (F4 ++ F5).Nodup := List.nodup_append.2 ⟨hn4, hn5, fun a ha c hcc e => by
              subst e
              have q1 := hi4b _ ha
              have q3 := hne4 _ ha
              rcases hl5' _ hcc with q2 | q2 <;> omega⟩
            have hl45 : ∀ x, x ∈ F4 ++ F5 → w1.heap.size ≤ x := fun x hx => by
              rcases List.mem_append.1 hx with hx | hx
              · have := hl4' x hx; omega
              · rcases hl5' x hx with q | q <;> omega
            exact key (Lib.hid hE1) (Lib.hid (Rev.box hE4 hE5 hE6 hE7 ((froz4 _ _ _ _ _ _ 3).trans zy3) (hE3 _ _ _ ho4 hx4) (hE3 _ _ _ ho5 hx5) hn45 hl45 (fun e => by rcases List.mem_append.1 e with e | e; exact hx4 e; exact hx5 e) ⟨hBB, hE2⟩))
          · go_simp
            refine hKr _ _ (fun _ => ⟨(bcell1 (hcM.trans ((below_alloc _ _).mono hcM.size)) (by omega)).trans f0, (bcell1 (hcM.trans ((below_alloc _ _).mono hcM.size)) (by omega)).trans f1, (bcell1 (hcM.trans ((below_alloc _ _).mono hcM.size)) (by omega)).trans f2⟩) ?_
            clear hKr Kr
            try simp only [List.getElem_toArray, List.getElem_cons_succ, List.getElem_cons_zero, Act.put, List.setIfInBounds_toArray, List.set_cons_zero, List.set_cons_succ]
            obtain ⟨wA, hwA⟩ : ∃ wz, wz = wM.alloc (.cells #[.int .i64 0, .slice none 0 0, .slice none 0 0, .slice none 0 0] 36) := ⟨_, rfl⟩
            rw [← hwA]
            have hcA : Below w1.heap.size w1 wA := by rw [hwA]; exact (hcM.trans ((below_alloc _ _).mono hcM.size))
            have zc0 : wA.cell? ⟨wM.heap.size, 0, none⟩ = some (.int .i64 0) := by rw [hwA]; simp [go_sem]
            have zy0 : wA.frozen? ⟨wM.heap.size, 0, none⟩ = false := by rw [hwA]; simp [go_sem]
            have zc1 : wA.cell? ⟨wM.heap.size, 1, none⟩ = some (.slice none 0 0) := by rw [hwA]; simp [go_sem]
            have zy1 : wA.frozen? ⟨wM.heap.size, 1, none⟩ = false := by rw [hwA]; simp [go_sem]
            have zc2 : wA.cell? ⟨wM.heap.size, 2, none⟩ = some (.slice none 0 0) := by rw [hwA]; simp [go_sem]
            have zy2 : wA.frozen? ⟨wM.heap.size, 2, none⟩ = false := by rw [hwA]; simp [go_sem]
            have zc3 : wA.cell? ⟨wM.heap.size, 3, none⟩ = some (.slice none 0 0) := by rw [hwA]; simp [go_sem]
            have zy3 : wA.frozen? ⟨wM.heap.size, 3, none⟩ = false := by rw [hwA]; simp [go_sem]
            have ltA : wM.heap.size < wA.heap.size := by rw [hwA]; simp
            have hqA := hcA.size
            replace ho4 := ho4.below (w' := wA) (by rw [hwA]; exact below_alloc _ _)
            replace hLM := hLM.below (w' := wA) (by rw [hwA]; exact below_alloc _ _)
            have hgt : wM.heap.size ≤ wA.heap.size := by rw [hwA]; simp
            clear hwA
            have hSA : wA.cell? ⟨w.heap.size, 0, none⟩ = some (.int .i64 (K0 : Int)) ∧ wA.cell? ⟨w.heap.size, 1, none⟩ = some (.slice (some d1) x1.length c1) ∧ wA.cell? ⟨w.heap.size, 2, none⟩ = some (.slice (some d2) x2.length c2) := ⟨(bcell1 hcA (by omega)).trans f0, (bcell1 hcA (by omega)).trans f1, (bcell1 hcA (by omega)).trans f2⟩
            refine wpC_one (i := 8) (l' := #[true, true, true, true, true, true, true, true, true, false, true, false]) (by kernel_rfl) rfl rfl (by rfl) (fun Kr hKr => ?_)
            have hcb8 := fun j u hu => HVL.out wA hcA j u hu
            refine step_bools rfl _ _ 23 rfl tabB rfl (by decide) w1.heap.size (.slice (some ⟨w4.heap.size, 0, none⟩) 0 0) _ rfl hLM d2 x2.length c2 x2 rfl rfl hcb8 (by omega) (by omega) hcA.size ?_
            intro v5 w5 G5 hL5 hch5 hg5
            obtain ⟨_, q2, m2, rfl⟩ := hL5.val
            obtain ⟨F5, ho5, hn5, hs5⟩ := hL5.ow (by omega) (by unfold maxLen; omega)
            have hob : ob (.slice (some ⟨w4.heap.size, 0, none⟩) 0 0) = [w4.heap.size] := rfl
            rw [hob] at hch5 hg5
            have hc5 : Below w1.heap.size w1 w5 := hcA.trans (hch5.below hcA.size (fun y hy => by simp at hy; omega))
            have hq5 := hc5.size
            have hqq5 := hch5.size
            have hi5 : ∀ g, g ∈ F5 → g < w5.heap.size := Ow.lt _ _ _ ho5
            have hl5' : ∀ g, g ∈ F5 → g = w4.heap.size ∨ wA.heap.size ≤ g := fun y hy => by rcases hg5 y (hs5 y hy) with h | h; (left; simpa using h); exact .inr h
            have hne4 : ∀ g, g ∈ F4 → g ≠ w4.heap.size := fun y hy => by have q1 := hl4' y hy; have q2 := hi4 y hy; omega
            replace ho4 := hch5.ow ho4 (fun y hy e => hne4 y hy (by simpa using e))
            have hna : wM.heap.size ∉ [w4.heap.size] := by simp; omega
            replace zc0 := (hch5.cell ltA hna 0).trans zc0
            replace zy0 := (hch5.frozen ltA hna 0).trans zy0
            replace zc1 := (hch5.cell ltA hna 1).trans zc1
            replace zy1 := (hch5.frozen ltA hna 1).trans zy1
            replace zc2 := (hch5.cell ltA hna 2).trans zc2
            replace zy2 := (hch5.frozen ltA hna 2).trans zy2
            replace zc3 := (hch5.cell ltA hna 3).trans zc3
            replace zy3 := (hch5.frozen ltA hna 3).trans zy3
            have lt5 : wM.heap.size < w5.heap.size := Nat.lt_of_lt_of_le ltA hch5.size
            refine hKr _ _ (fun _ => ⟨(bcell1 hc5 (by omega)).trans f0, (bcell1 hc5 (by omega)).trans f1, (bcell1 hc5 (by omega)).trans f2⟩) ?_
            clear hKr Kr
            try simp only [List.getElem_toArray, List.getElem_cons_succ, List.getElem_cons_zero, Act.put, List.setIfInBounds_toArray, List.set_cons_zero, List.set_cons_succ]
            have hi4b : ∀ g, g ∈ F4 → g < wA.heap.size := fun y hy => by have := hi4 y hy; omega
            have hS5 : w5.cell? ⟨w.heap.size, 0, none⟩ = some (.int .i64 (K0 : Int)) ∧ w5.cell? ⟨w.heap.size, 1, none⟩ = some (.slice (some d1) x1.length c1) ∧ w5.cell? ⟨w.heap.size, 2, none⟩ = some (.slice (some d2) x2.length c2) := ⟨(bcell1 hc5 (by omega)).trans f0, (bcell1 hc5 (by omega)).trans f1, (bcell1 hc5 (by omega)).trans f2⟩
            refine wpC_take (i := 9) (v := ?v9_27) (l' := #[true, true, true, true, true, true, true, true, true, true, true, false]) [11] rfl (by kernel_rfl) (by kernel_rfl) (by kernel_rfl) (by kernel_rfl) (by kernel_rfl) rfl (fun _ _ _ h => h) (by rfl) (fun wx hS => ?q9_27) (by assumption) ?_
            case q9_27 => (go_simp; try with_reducible rfl)
            try simp only [List.getElem_toArray, List.getElem_cons_succ, List.getElem_cons_zero, Act.put, List.setIfInBounds_toArray, List.set_cons_zero, List.set_cons_succ]
            refine wpC_one (i := 11) (l' := #[true, true, true, true, true, true, true, true, true, true, true, true]) (by kernel_rfl) rfl rfl (by rfl) (fun Kr hKr => ?_)
            have hBB : w1.heap.size ≤ wM.heap.size := by omega
            go_simp
            have hE := box4 (.int .i64 K0) (.slice q1 x1.length m1) (.slice q2 x2.length m2) (.slice none 0 0) hc5 hBB lt5 zc0 zc1 zc2 zc3
            refine hKr _ _ (fun _ => ⟨(bcell1 hE.1 (by omega)).trans f0, (bcell1 hE.1 (by omega)).trans f1, (bcell1 hE.1 (by omega)).trans f2⟩) ?_
            clear hKr Kr
            try simp only [List.getElem_toArray, List.getElem_cons_succ, List.getElem_cons_zero, Act.put, List.setIfInBounds_toArray, List.set_cons_zero, List.set_cons_succ]
            refine wpC_done (by kernel_rfl) ?_ _
            obtain ⟨hE1, hE2, hE3, hE4, hE5, hE6, hE7⟩ := hE
            have hx4 : wM.heap.size ∉ F4 := fun hg => by have q1 := hl4' _ hg; have q2 := hi4 _ hg; omega
            have hx5 : wM.heap.size ∉ F5 := fun hg => by
              have q2 := hi5 _ hg
              rcases hl5' _ hg with q1 | q1 <;> omega
            have hn45 : (F4 ++ F5).Nodup := List.nodup_append.2 ⟨hn4, hn5, fun a ha c hcc e => by
              subst e
              have q1 := hi4b _ ha
              have q3 := hne4 _ ha
              rcases hl5' _ hcc with q2 | q2 <;> omega⟩
            have hl45 : ∀ x, x ∈ F4 ++ F5 → w1.heap.size ≤ x := fun x hx => by
              rcases List.mem_append.1 hx with hx | hx
              · have := hl4' x hx; omega
              · rcases hl5' x hx with q | q <;> omega
            exact key (Lib.hid hE1) (Lib.hid (Rev.box hE4 hE5 hE6 hE7 ((froz4 _ _ _ _ _ _ 3).trans zy3) (hE3 _ _ _ ho4 hx4) (hE3 _ _ _ ho5 hx5) hn45 hl45 (fun e => by rcases List.mem_append.1 e with e | e; exact hx4 e; exact hx5 e) ⟨hBB, hE2⟩))
        · go_simp
          refine hKr _ _ (fun _ => ⟨(bcell1 (hc4.trans ((below_alloc _ _).mono hc4.size)) (by omega)).trans f0, (bcell1 (hc4.trans ((below_alloc _ _).mono hc4.size)) (by omega)).trans f1, (bcell1 (hc4.trans ((below_alloc _ _).mono hc4.size)) (by omega)).trans f2⟩) ?_
          clear hKr Kr
          try simp only [List.getElem_toArray, List.getElem_cons_succ, List.getElem_cons_zero, Act.put, List.setIfInBounds_toArray, List.set_cons_zero, List.set_cons_succ]
          obtain ⟨wA, hwA⟩ : ∃ wz, wz = w4.alloc (.cells #[.int .i64 0, .slice none 0 0, .slice none 0 0, .slice none 0 0] 36) := ⟨_, rfl⟩
          rw [← hwA]
          have hcA : Below w1.heap.size w1 wA := by rw [hwA]; exact (hc4.trans ((below_alloc _ _).mono hc4.size))
          have zc0 : wA.cell? ⟨w4.heap.size, 0, none⟩ = some (.int .i64 0) := by rw [hwA]; simp [go_sem]
          have zy0 : wA.frozen? ⟨w4.heap.size, 0, none⟩ = false := by rw [hwA]; simp [go_sem]
          have zc1 : wA.cell? ⟨w4.heap.size, 1, none⟩ = some (.slice none 0 0) := by rw [hwA]; simp [go_sem]
          have zy1 : wA.frozen? ⟨w4.heap.size, 1, none⟩ = false := by rw [hwA]; simp [go_sem]
          have zc2 : wA.cell? ⟨w4.heap.size, 2, none⟩ = some (.slice none 0 0) := by rw [hwA]; simp [go_sem]
          have zy2 : wA.frozen? ⟨w4.heap.size, 2, none⟩ = false := by rw [hwA]; simp [go_sem]
          have zc3 : wA.cell? ⟨w4.heap.size, 3, none⟩ = some (.slice none 0 0) := by rw [hwA]; simp [go_sem]
          have zy3 : wA.frozen? ⟨w4.heap.size, 3, none⟩ = false := by rw [hwA]; simp [go_sem]
          have ltA : w4.heap.size < wA.heap.size := by rw [hwA]; simp
          have hqA := hcA.size
          replace ho4 := ho4.below (w' := wA) (by rw [hwA]; exact below_alloc _ _)
          have hgt : w4.heap.size ≤ wA.heap.size := by rw [hwA]; simp
          clear hwA
          have hSA : wA.cell? ⟨w.heap.size, 0, none⟩ = some (.int .i64 (K0 : Int)) ∧ wA.cell? ⟨w.heap.size, 1, none⟩ = some (.slice (some d1) x1.length c1) ∧ wA.cell? ⟨w.heap.size, 2, none⟩ = some (.slice (some d2) x2.length c2) := ⟨(bcell1 hcA (by omega)).trans f0, (bcell1 hcA (by omega)).trans f1, (bcell1 hcA (by omega)).trans f2⟩
          refine wpC_one (i := 5) (l' := #[true, true, true, true, true, true, true, true, false, false, true, false]) (by kernel_rfl) rfl rfl (by rfl) (fun Kr hKr => ?_)
          go_simp
          refine hKr _ _ (fun _ => ⟨(bcell1 (hcA.trans ((below_alloc _ _).mono hcA.size)) (by omega)).trans f0, (bcell1 (hcA.trans ((below_alloc _ _).mono hcA.size)) (by omega)).trans f1, (bcell1 (hcA.trans ((below_alloc _ _).mono hcA.size)) (by omega)).trans f2⟩) ?_
          clear hKr Kr
          try simp only [List.getElem_toArray, List.getElem_cons_succ, List.getElem_cons_zero, Act.put, List.setIfInBounds_toArray, List.set_cons_zero, List.set_cons_succ]
          obtain ⟨wM, hwM⟩ : ∃ wz, wz = wA.alloc (.cells #[] 4) := ⟨_, rfl⟩
          rw [← hwM]
          have hcM : Below w1.heap.size w1 wM := by rw [hwM]; exact (hcA.trans ((below_alloc _ _).mono hcA.size))
          have hxM : Below wA.heap.size wA wM := by rw [hwM]; exact below_alloc _ _
          have hLM : Lst 4 1 wM w1.heap.size (.slice (some ⟨wA.heap.size, 0, none⟩) 0 0) 0 [] [wA.heap.size] := by rw [hwM]; exact Lst.made 4 1 wA w1.heap.size hcA.size
          have ltM : wA.heap.size < wM.heap.size := by rw [hwM]; simp
          have hqM := hcM.size
          have hgM := hxM.size
          replace ho4 := ho4.below hxM
          replace zc0 := (bcell1 hxM ltA).trans zc0
          replace zy0 := (hxM.frozen (p := ⟨w4.heap.size, 0, none⟩) ltA).trans zy0
          replace zc1 := (bcell1 hxM ltA).trans zc1
          replace zy1 := (hxM.frozen (p := ⟨w4.heap.size, 1, none⟩) ltA).trans zy1
          replace zc2 := (bcell1 hxM ltA).trans zc2
          replace zy2 := (hxM.frozen (p := ⟨w4.heap.size, 2, none⟩) ltA).trans zy2
          replace zc3 := (bcell1 hxM ltA).trans zc3
          replace zy3 := (hxM.frozen (p := ⟨w4.heap.size, 3, none⟩) ltA).trans zy3
          have ltAM : w4.heap.size < wM.heap.size := Nat.lt_of_lt_of_le ltA hxM.size
          clear hwM
          have hSM : wM.cell? ⟨w.heap.size, 0, none⟩ = some (.int .i64 (K0 : Int)) ∧ wM.cell? ⟨w.heap.size, 1, none⟩ = some (.slice (some d1) x1.length c1) ∧ wM.cell? ⟨w.heap.size, 2, none⟩ = some (.slice (some d2) x2.length c2) := ⟨(bcell1 hcM (by omega)).trans f0, (bcell1 hcM (by omega)).trans f1, (bcell1 hcM (by omega)).trans f2⟩
          refine wpC_one (i := 8) (l' := #[true, true, true, true, true, true, true, true, true, false, true, false]) (by kernel_rfl) rfl rfl (by rfl) (fun Kr hKr => ?_)
          have hcb8 := fun j u hu => HVL.out wM hcM j u hu
          refine step_bools rfl _ _ 23 rfl tabB rfl (by decide) w1.heap.size (.slice (some ⟨wA.heap.size, 0, none⟩) 0 0) _ rfl hLM d2 x2.length c2 x2 rfl rfl hcb8 (by omega) (by omega) hcM.size ?_
          intro v5 w5 G5 hL5 hch5 hg5
          obtain ⟨_, q2, m2, rfl⟩ := hL5.val
          obtain ⟨F5, ho5, hn5, hs5⟩ := hL5.ow (by omega) (by unfold maxLen; omega)
          have hob : ob (.slice (some ⟨wA.heap.size, 0, none⟩) 0 0) = [wA.heap.size] := rfl
          rw [hob] at hch5 hg5
          have hc5 : Below w1.heap.size w1 w5 := hcM.trans (hch5.below hcM.size (fun y hy => by simp at hy; omega))
          have hq5 := hc5.size
          have hqq5 := hch5.size
          have hi5 : ∀ g, g ∈ F5 → g < w5.heap.size := Ow.lt _ _ _ ho5
          have hl5' : ∀ g, g ∈ F5 → g = wA.heap.size ∨ wM.heap.size ≤ g := fun y hy => by rcases hg5 y (hs5 y hy) with h | h; (left; simpa using h); exact .inr h
          have hne4 : ∀ g, g ∈ F4 → g ≠ wA.heap.size := fun y hy => by have q1 := hl4' y hy; have q2 := hi4 y hy; omega
          replace ho4 := hch5.ow ho4 (fun y hy e => hne4 y hy (by simpa using e))
          have hna : w4.heap.size ∉ [wA.heap.size] := by simp; omega
          replace zc0 := (hch5.cell ltAM hna 0).trans zc0
          replace zy0 := (hch5.frozen ltAM hna 0).trans zy0
          replace zc1 := (hch5.cell ltAM hna 1).trans zc1
          replace zy1 := (hch5.frozen ltAM hna 1).trans zy1
          replace zc2 := (hch5.cell ltAM hna 2).trans zc2
          replace zy2 := (hch5.frozen ltAM hna 2).trans zy2
          replace zc3 := (hch5.cell ltAM hna 3).trans zc3
          replace zy3 := (hch5.frozen ltAM hna 3).trans zy3
          have lt5 : w4.heap.size < w5.heap.size := Nat.lt_of_lt_of_le ltAM hch5.size
          refine hKr _ _ (fun _ => ⟨(bcell1 hc5 (by omega)).trans f0, (bcell1 hc5 (by omega)).trans f1, (bcell1 hc5 (by omega)).trans f2⟩) ?_
          clear hKr Kr
          try simp only [List.getElem_toArray, List.getElem_cons_succ, List.getElem_cons_zero, Act.put, List.setIfInBounds_toArray, List.set_cons_zero, List.set_cons_succ]
          have hi4b : ∀ g, g ∈ F4 → g < wM.heap.size := fun y hy => by have := hi4 y hy; omega
          have hS5 : w5.cell? ⟨w.heap.size, 0, none⟩ = some (.int .i64 (K0 : Int)) ∧ w5.cell? ⟨w.heap.size, 1, none⟩ = some (.slice (some d1) x1.length c1) ∧ w5.cell? ⟨w.heap.size, 2, none⟩ = some (.slice (some d2) x2.length c2) := ⟨(bcell1 hc5 (by omega)).trans f0, (bcell1 hc5 (by omega)).trans f1, (bcell1 hc5 (by omega)).trans f2⟩
          refine wpC_take (i := 9) (v := ?v9_28) (l' := #[true, true, true, true, true, true, true, true, true, true, true, false]) [11] rfl (by kernel_rfl) (by kernel_rfl) (by kernel_rfl) (by kernel_rfl) (by kernel_rfl) rfl (fun _ _ _ h => h) (by rfl) (fun wx hS => ?q9_28) (by assumption) ?_
          case q9_28 => (go_simp; try with_reducible rfl)
          try simp only [List.getElem_toArray, List.getElem_cons_succ, List.getElem_cons_zero, Act.put, List.setIfInBounds_toArray, List.set_cons_zero, List.set_cons_succ]
          refine wpC_one (i := 11) (l' := #[true, true, true, true, true, true, true, true, true, true, true, true]) (by kernel_rfl) rfl rfl (by rfl) (fun Kr hKr => ?_)
          have hBB : w1.heap.size ≤ w4.heap.size := by omega
          go_simp
          have hE := box4 (.int .i64 K0) (.slice q1 x1.length m1) (.slice q2 x2.length m2) (.slice none 0 0) hc5 hBB lt5 zc0 zc1 zc2 zc3
          refine hKr _ _ (fun _ => ⟨(bcell1 hE.1 (by omega)).trans f0, (bcell1 hE.1 (by omega)).trans f1, (bcell1 hE.1 (by omega)).trans f2⟩) ?_
          clear hKr Kr
          try simp only [List.getElem_toArray, List.getElem_cons_succ, List.getElem_cons_zero, Act.put, List.setIfInBounds_toArray, List.set_cons_zero, List.set_cons_succ]
          refine wpC_done (by kernel_rfl) ?_ _
          obtain ⟨hE1, hE2, hE3, hE4, hE5, hE6, hE7⟩ := hE
          have hx4 : w4.heap.size ∉ F4 := fun hg => by have q1 := hl4' _ hg; have q2 := hi4 _ hg; omega
          have hx5 : w4.heap.size ∉ F5 := fun hg => by
            have q2 := hi5 _ hg
            rcases hl5' _ hg with q1 | q1 <;> omega
          have hn45 : (F4 ++ F5).Nodup := List.nodup_append.2 ⟨hn4, hn5, fun a ha c hcc e => by
            subst e
            have q1 := hi4b _ ha
            have q3 := hne4 _ ha
            rcases hl5' _ hcc with q2 | q2 <;> omega⟩
          have hl45 : ∀ x, x ∈ F4 ++ F5 → w1.heap.size ≤ x := fun x hx => by
            rcases List.mem_append.1 hx with hx | hx
            · have := hl4' x hx; omega
            · rcases hl5' x hx with q | q <;> omega
          exact key (Lib.hid hE1) (Lib.hid (Rev.box hE4 hE5 hE6 hE7 ((froz4 _ _ _ _ _ _ 3).trans zy3) (hE3 _ _ _ ho4 hx4) (hE3 _ _ _ ho5 hx5) hn45 hl45 (fun e => by rcases List.mem_append.1 e with e | e; exact hx4 e; exact hx5 e) ⟨hBB, hE2⟩))
      · go_simp
        refine hKr _ _ (fun _ => ⟨(bcell1 (below_drP (below_alloc _ _)) (by omega)).trans f0, (bcell1 (below_drP (below_alloc _ _)) (by omega)).trans f1, (bcell1 (below_drP (below_alloc _ _)) (by omega)).trans f2⟩) ?_
        clear hKr Kr
        try simp only [List.getElem_toArray, List.getElem_cons_succ, List.getElem_cons_zero, Act.put, List.setIfInBounds_toArray, List.set_cons_zero, List.set_cons_succ]
        obtain ⟨wM, hwM⟩ : ∃ wz, wz = (w1.alloc (.cells #[] 4)).drew := ⟨_, rfl⟩
        rw [← hwM]
        have hcM : Below w1.heap.size w1 wM := by rw [hwM]; exact (below_drP (below_alloc _ _))
        have hxM : Below w1.heap.size w1 wM := by rw [hwM]; exact (below_drP (below_alloc _ _))
        have hLM : Lst 4 1 wM w1.heap.size (.slice (some ⟨w1.heap.size, 0, none⟩) 0 0) 0 [] [w1.heap.size] := by rw [hwM]; exact (Lst.made 4 1 w1 w1.heap.size (Nat.le_refl _)).below (Below.refl _ _).drew
        have ltM : w1.heap.size < wM.heap.size := by rw [hwM]; simp
        have hqM := hcM.size
        have hgM := hxM.size
        clear hwM
        have hSM : wM.cell? ⟨w.heap.size, 0, none⟩ = some (.int .i64 (K0 : Int)) ∧ wM.cell? ⟨w.heap.size, 1, none⟩ = some (.slice (some d1) x1.length c1) ∧ wM.cell? ⟨w.heap.size, 2, none⟩ = some (.slice (some d2) x2.length c2) := ⟨(bcell1 hcM (by omega)).trans f0, (bcell1 hcM (by omega)).trans f1, (bcell1 hcM (by omega)).trans f2⟩
        refine wpC_two (i := 4) (j := 10) (l' := #[true, true, true, true, true, true, true, true, false, false, false, false]) (l'' := #[true, true, true, true, false, true, true, true, false, false, true, false]) (by kernel_rfl) rfl rfl rfl rfl (by rfl) (by rfl) (fun Kr hKr => ?_) (fun Kr hKr => ?_)
        · refine step_callV rfl 100 _ _ rfl HRI.out #[.slice (some d1) x1.length c1] (by first | rfl | (simp [Act.eval]; done) | (simp [Act.eval]; rfl) | (simp [Act.eval]; repeat' constructor)) (HCI.out _ hcM) ?_
          rintro e w4 ⟨v4, F4, rfl, hb4, ho4, hn4, hl4⟩
          obtain ⟨q1, m1, rfl⟩ := ho4.val
          refine ⟨_, rfl, ?_⟩
          have hc4 : Below w1.heap.size w1 w4 := hcM.trans (hb4.mono hcM.size)
          have hqq4 := hb4.size
          have hq4 := hc4.size
          have hi4 : ∀ g, g ∈ F4 → g < w4.heap.size := Ow.lt _ _ _ ho4
          have hl4' : ∀ g, g ∈ F4 → wM.heap.size ≤ g := hl4
          replace hLM := hLM.below hb4
          refine hKr _ _ (fun _ => ⟨(bcell1 hc4 (by omega)).trans f0, (bcell1 hc4 (by omega)).trans f1, (bcell1 hc4 (by omega)).trans f2⟩) ?_
          clear hKr Kr
          try simp only [List.getElem_toArray, List.getElem_cons_succ, List.getElem_cons_zero, Act.put, List.setIfInBounds_toArray, List.set_cons_zero, List.set_cons_succ]
          have hS4 : w4.cell? ⟨w.heap.size, 0, none⟩ = some (.int .i64 (K0 : Int)) ∧ w4.cell? ⟨w.heap.size, 1, none⟩ = some (.slice (some d1) x1.length c1) ∧ w4.cell? ⟨w.heap.size, 2, none⟩ = some (.slice (some d2) x2.length c2) := ⟨(bcell1 hc4 (by omega)).trans f0, (bcell1 hc4 (by omega)).trans f1, (bcell1 hc4 (by omega)).trans f2⟩
          refine wpC_two (i := 8) (j := 10) (l' := #[true, true, true, true, true, true, true, true, true, false, false, false]) (l'' := #[true, true, true, true, true, true, true, true, false, false, true, false]) (by kernel_rfl) rfl rfl rfl rfl (by rfl) (by rfl) (fun Kr hKr => ?_) (fun Kr hKr => ?_)
          · have hcb8 := fun j u hu => HVL.out w4 hc4 j u hu
            refine step_bools rfl _ _ 23 rfl tabB rfl (by decide) w1.heap.size (.slice (some ⟨w1.heap.size, 0, none⟩) 0 0) _ rfl hLM d2 x2.length c2 x2 rfl rfl hcb8 (by omega) (by omega) hc4.size ?_
            intro v5 w5 G5 hL5 hch5 hg5
            obtain ⟨_, q2, m2, rfl⟩ := hL5.val
            obtain ⟨F5, ho5, hn5, hs5⟩ := hL5.ow (by omega) (by unfold maxLen; omega)
            have hob : ob (.slice (some ⟨w1.heap.size, 0, none⟩) 0 0) = [w1.heap.size] := rfl
            rw [hob] at hch5 hg5
            have hc5 : Below w1.heap.size w1 w5 := hc4.trans (hch5.below hc4.size (fun y hy => by simp at hy; omega))
            have hq5 := hc5.size
            have hqq5 := hch5.size
            have hi5 : ∀ g, g ∈ F5 → g < w5.heap.size := Ow.lt _ _ _ ho5
            have hl5' : ∀ g, g ∈ F5 → g = w1.heap.size ∨ w4.heap.size ≤ g := fun y hy => by rcases hg5 y (hs5 y hy) with h | h; (left; simpa using h); exact .inr h
            have hne4 : ∀ g, g ∈ F4 → g ≠ w1.heap.size := fun y hy => by have q1 := hl4' y hy; have q2 := hi4 y hy; omega
            replace ho4 := hch5.ow ho4 (fun y hy e => hne4 y hy (by simpa using e))
            refine hKr _ _ (fun _ => ⟨(bcell1 hc5 (by omega)).trans f0, (bcell1 hc5 (by omega)).trans f1, (bcell1 hc5 (by omega)).trans f2⟩) ?_
            clear hKr Kr
            try simp only [List.getElem_toArray, List.getElem_cons_succ, List.getElem_cons_zero, Act.put, List.setIfInBounds_toArray, List.set_cons_zero, List.set_cons_succ]
            have hi4b : ∀ g, g ∈ F4 → g < w4.heap.size := fun y hy => by have := hi4 y hy; omega
            have hS5 : w5.cell? ⟨w.heap.size, 0, none⟩ = some (.int .i64 (K0 : Int)) ∧ w5.cell? ⟨w.heap.size, 1, none⟩ = some (.slice (some d1) x1.length c1) ∧ w5.cell? ⟨w.heap.size, 2, none⟩ = some (.slice (some d2) x2.length c2) := ⟨(bcell1 hc5 (by omega)).trans f0, (bcell1 hc5 (by omega)).trans f1, (bcell1 hc5 (by omega)).trans f2⟩
            refine wpC_take (i := 9) (v := ?v9_29) (l' := #[true, true, true, true, true, true, true, true, true, true, false, false]) [11] rfl (by kernel_rfl) (by kernel_rfl) (by kernel_rfl) (by kernel_rfl) (by kernel_rfl) rfl (fun _ _ _ h => h) (by rfl) (fun wx hS => ?q9_29) (by assumption) ?_
            case q9_29 => (go_simp; try with_reducible rfl)
            try simp only [List.getElem_toArray, List.getElem_cons_succ, List.getElem_cons_zero, Act.put, List.setIfInBounds_toArray, List.set_cons_zero, List.set_cons_succ]
            refine wpC_one (i := 10) (l' := #[true, true, true, true, true, true, true, true, true, true, true, false]) (by kernel_rfl) rfl rfl (by rfl) (fun Kr hKr => ?_)
            go_simp
            refine hKr _ _ (fun _ => ⟨(bcell1 (hc5.trans ((below_alloc _ _).mono hc5.size)) (by omega)).trans f0, (bcell1 (hc5.trans ((below_alloc _ _).mono hc5.size)) (by omega)).trans f1, (bcell1 (hc5.trans ((below_alloc _ _).mono hc5.size)) (by omega)).trans f2⟩) ?_
            clear hKr Kr
            try simp only [List.getElem_toArray, List.getElem_cons_succ, List.getElem_cons_zero, Act.put, List.setIfInBounds_toArray, List.set_cons_zero, List.set_cons_succ]
            obtain ⟨wA, hwA⟩ : ∃ wz, wz = w5.alloc (.cells #[.int .i64 0, .slice none 0 0, .slice none 0 0, .slice none 0 0] 36) := ⟨_, rfl⟩
            rw [← hwA]
            have hcA : Below w1.heap.size w1 wA := by rw [hwA]; exact (hc5.trans ((below_alloc _ _).mono hc5.size))
            have zc0 : wA.cell? ⟨w5.heap.size, 0, none⟩ = some (.int .i64 0) := by rw [hwA]; simp [go_sem]
            have zy0 : wA.frozen? ⟨w5.heap.size, 0, none⟩ = false := by rw [hwA]; simp [go_sem]
            have zc1 : wA.cell? ⟨w5.heap.size, 1, none⟩ = some (.slice none 0 0) := by rw [hwA]; simp [go_sem]
            have zy1 : wA.frozen? ⟨w5.heap.size, 1, none⟩ = false := by rw [hwA]; simp [go_sem]
            have zc2 : wA.cell? ⟨w5.heap.size, 2, none⟩ = some (.slice none 0 0) := by rw [hwA]; simp [go_sem]
            have zy2 : wA.frozen? ⟨w5.heap.size, 2, none⟩ = false := by rw [hwA]; simp [go_sem]
            have zc3 : wA.cell? ⟨w5.heap.size, 3, none⟩ = some (.slice none 0 0) := by rw [hwA]; simp [go_sem]
            have zy3 : wA.frozen? ⟨w5.heap.size, 3, none⟩ = false := by rw [hwA]; simp [go_sem]
            have ltA : w5.heap.size < wA.heap.size := by rw [hwA]; simp
            have hqA := hcA.size
            replace ho4 := ho4.below (w' := wA) (by rw [hwA]; exact below_alloc _ _)
            replace ho5 := ho5.below (w' := wA) (by rw [hwA]; exact below_alloc _ _)
            have hgt : w5.heap.size ≤ wA.heap.size := by rw [hwA]; simp
            clear hwA
            have hSA : wA.cell? ⟨w.heap.size, 0, none⟩ = some (.int .i64 (K0 : Int)) ∧ wA.cell? ⟨w.heap.size, 1, none⟩ = some (.slice (some d1) x1.length c1) ∧ wA.cell? ⟨w.heap.size, 2, none⟩ = some (.slice (some d2) x2.length c2) := ⟨(bcell1 hcA (by omega)).trans f0, (bcell1 hcA (by omega)).trans f1, (bcell1 hcA (by omega)).trans f2⟩
            refine wpC_one (i := 11) (l' := #[true, true, true, true, true, true, true, true, true, true, true, true]) (by kernel_rfl) rfl rfl (by rfl) (fun Kr hKr => ?_)
            have hBB : w1.heap.size ≤ w5.heap.size := by omega
            go_simp
            have hE := box4 (.int .i64 K0) (.slice q1 x1.length m1) (.slice q2 x2.length m2) (.slice none 0 0) hcA hBB ltA zc0 zc1 zc2 zc3
            refine hKr _ _ (fun _ => ⟨(bcell1 hE.1 (by omega)).trans f0, (bcell1 hE.1 (by omega)).trans f1, (bcell1 hE.1 (by omega)).trans f2⟩) ?_
            clear hKr Kr
            try simp only [List.getElem_toArray, List.getElem_cons_succ, List.getElem_cons_zero, Act.put, List.setIfInBounds_toArray, List.set_cons_zero, List.set_cons_succ]
            refine wpC_done (by kernel_rfl) ?_ _
            obtain ⟨hE1, hE2, hE3, hE4, hE5, hE6, hE7⟩ := hE
            have hx4 : w5.heap.size ∉ F4 := fun hg => by have q1 := hl4' _ hg; have q2 := hi4 _ hg; omega
            have hx5 : w5.heap.size ∉ F5 := fun hg => by
              have q2 := hi5 _ hg
              rcases hl5' _ hg with q1 | q1 <;> omega
            have hn45 : (F4 ++ F5).Nodup := List.nodup_append.2 ⟨hn4, hn5, fun a ha c hcc e => by
              subst e
              have q1 := hi4b _ ha
              have q3 := hne4 _ ha
              rcases hl5' _ hcc with q2 | q2 <;> omega⟩
            have hl45 : ∀ x, x ∈ F4 ++ F5 → w1.heap.size ≤ x := fun x hx => by
              rcases List.mem_append.1 hx with hx | hx
              · have := hl4' x hx; omega
              · rcases hl5' x hx with q | q <;> omega
            exact key (Lib.hid hE1) (Lib.hid (Rev.box hE4 hE5 hE6 hE7 ((froz4 _ _ _ _ _ _ 3).trans zy3) (hE3 _ _ _ ho4 hx4) (hE3 _ _ _ ho5 hx5) hn45 hl45 (fun e => by rcases List.mem_append.1 e with e | e; exact hx4 e; exact hx5 e) ⟨hBB, hE2⟩))
          · go_simp
            refine hKr _ _ (fun _ => ⟨(bcell1 (hc4.trans ((below_alloc _ _).mono hc4.size)) (by omega)).trans f0, (bcell1 (hc4.trans ((below_alloc _ _).mono hc4.size)) (by omega)).trans f1, (bcell1 (hc4.trans ((below_alloc _ _).mono hc4.size)) (by omega)).trans f2⟩) ?_
            clear hKr Kr
            try simp only [List.getElem_toArray, List.getElem_cons_succ, List.getElem_cons_zero, Act.put, List.setIfInBounds_toArray, List.set_cons_zero, List.set_cons_succ]
            obtain ⟨wA, hwA⟩ : ∃ wz, wz = w4.alloc (.cells #[.int .i64 0, .slice none 0 0, .slice none 0 0, .slice none 0 0] 36) := ⟨_, rfl⟩
            rw [← hwA]
            have hcA : Below w1.heap.size w1 wA := by rw [hwA]; exact (hc4.trans ((below_alloc _ _).mono hc4.size))
            have zc0 : wA.cell? ⟨w4.heap.size, 0, none⟩ = some (.int .i64 0) := by rw [hwA]; simp [go_sem]
            have zy0 : wA.frozen? ⟨w4.heap.size, 0, none⟩ = false := by rw [hwA]; simp [go_sem]
            have zc1 : wA.cell? ⟨w4.heap.size, 1, none⟩ = some (.slice none 0 0) := by rw [hwA]; simp [go_sem]
            have zy1 : wA.frozen? ⟨w4.heap.size, 1, none⟩ = false := by rw [hwA]; simp [go_sem]
            have zc2 : wA.cell? ⟨w4.heap.size, 2, none⟩ = some (.slice none 0 0) := by rw [hwA]; simp [go_sem]
            have zy2 : wA.frozen? ⟨w4.heap.size, 2, none⟩ = false := by rw [hwA]; simp [go_sem]
            have zc3 : wA.cell? ⟨w4.heap.size, 3, none⟩ = some (.slice none 0 0) := by rw [hwA]; simp [go_sem]
            have zy3 : wA.frozen? ⟨w4.heap.size, 3, none⟩ = false := by rw [hwA]; simp [go_sem]
            have ltA : w4.heap.size < wA.heap.size := by rw [hwA]; simp
            have hqA := hcA.size
            replace ho4 := ho4.below (w' := wA) (by rw [hwA]; exact below_alloc _ _)
            replace hLM := hLM.below (w' := wA) (by rw [hwA]; exact below_alloc _ _)
            have hgt : w4.heap.size ≤ wA.heap.size := by rw [hwA]; simp
            clear hwA
            have hSA : wA.cell? ⟨w.heap.size, 0, none⟩ = some (.int .i64 (K0 : Int)) ∧ wA.cell? ⟨w.heap.size, 1, none⟩ = some (.slice (some d1) x1.length c1) ∧ wA.cell? ⟨w.heap.size, 2, none⟩ = some (.slice (some d2) x2.length c2) := ⟨(bcell1 hcA (by omega)).trans f0, (bcell1 hcA (by omega)).trans f1, (bcell1 hcA (by omega)).trans f2⟩
            refine wpC_one (i := 8) (l' := #[true, true, true, true, true, true, true, true, true, false, true, false]) (by kernel_rfl) rfl rfl (by rfl) (fun Kr hKr => ?_)
            have hcb8 := fun j u hu => HVL.out wA hcA j u hu
            refine step_bools rfl _ _ 23 rfl tabB rfl (by decide) w1.heap.size (.slice (some ⟨w1.heap.size, 0, none⟩) 0 0) _ rfl hLM d2 x2.length c2 x2 rfl rfl hcb8 (by omega) (by omega) hcA.size ?_
            intro v5 w5 G5 hL5 hch5 hg5
            obtain ⟨_, q2, m2, rfl⟩ := hL5.val
            obtain ⟨F5, ho5, hn5, hs5⟩ := hL5.ow (by omega) (by unfold maxLen; omega)
            have hob : ob (.slice (some ⟨w1.heap.size, 0, none⟩) 0 0) = [w1.heap.size] := rfl
            rw [hob] at hch5 hg5
            have hc5 : Below w1.heap.size w1 w5 := hcA.trans (hch5.below hcA.size (fun y hy => by simp at hy; omega))
            have hq5 := hc5.size
            have hqq5 := hch5.size
            have hi5 : ∀ g, g ∈ F5 → g < w5.heap.size := Ow.lt _ _ _ ho5
            have hl5' : ∀ g, g ∈ F5 → g = w1.heap.size ∨ wA.heap.size ≤ g := fun y hy => by rcases hg5 y (hs5 y hy) with h | h; (left; simpa using h); exact .inr h
            have hne4 : ∀ g, g ∈ F4 → g ≠ w1.heap.size := fun y hy => by have q1 := hl4' y hy; have q2 := hi4 y hy; omega
            replace ho4 := hch5.ow ho4 (fun y hy e => hne4 y hy (by simpa using e))
            have hna : w4.heap.size ∉ [w1.heap.size] := by simp; omega
            replace zc0 := (hch5.cell ltA hna 0).trans zc0
            replace zy0 := (hch5.frozen ltA hna 0).trans zy0
            replace zc1 := (hch5.cell ltA hna 1).trans zc1
            replace zy1 := (hch5.frozen ltA hna 1).trans zy1
            replace zc2 := (hch5.cell ltA hna 2).trans zc2
            replace zy2 := (hch5.frozen ltA hna 2).trans zy2
            replace zc3 := (hch5.cell ltA hna 3).trans zc3
            replace zy3 := (hch5.frozen ltA hna 3).trans zy3
            have lt5 : w4.heap.size < w5.heap.size := Nat.lt_of_lt_of_le ltA hch5.size
            refine hKr _ _ (fun _ => ⟨(bcell1 hc5 (by omega)).trans f0, (bcell1 hc5 (by omega)).trans f1, (bcell1 hc5 (by omega)).trans f2⟩) ?_
            clear hKr Kr
            try simp only [List.getElem_toArray, List.getElem_cons_succ, List.getElem_cons_zero, Act.put, List.setIfInBounds_toArray, List.set_cons_zero, List.set_cons_succ]
            have hi4b : ∀ g, g ∈ F4 → g < wA.heap.size := fun y hy => by have := hi4 y hy; omega
            have hS5 : w5.cell? ⟨w.heap.size, 0, none⟩ = some (.int .i64 (K0 : Int)) ∧ w5.cell? ⟨w.heap.size, 1, none⟩ = some (.slice (some d1) x1.length c1) ∧ w5.cell? ⟨w.heap.size, 2, none⟩ = some (.slice (some d2) x2.length c2) := ⟨(bcell1 hc5 (by omega)).trans f0, (bcell1 hc5 (by omega)).trans f1, (bcell1 hc5 (by omega)).trans f2⟩
            refine wpC_take (i := 9) (v := ?v9_30) (l' := #[true, true, true, true, true, true, true, true, true, true, true, false]) [11] rfl (by kernel_rfl) (by kernel_rfl) (by kernel_rfl) (by kernel_rfl) (by kernel_rfl) rfl (fun _ _ _ h => h) (by rfl) (fun wx hS => ?q9_30) (by assumption) ?_
            case q9_30 => (go_simp; try with_reducible rfl)
            try simp only [List.getElem_toArray, List.getElem_cons_succ, List.getElem_cons_zero, Act.put, List.setIfInBounds_toArray, List.set_cons_zero, List.set_cons_succ]
            refine wpC_one (i := 11) (l' := #[true, true, true, true, true, true, true, true, true, true, true, true]) (by kernel_rfl) rfl rfl (by rfl) (fun Kr hKr => ?_)
            have hBB : w1.heap.size ≤ w4.heap.size := by omega
            go_simp
            have hE := box4 (.int .i64 K0) (.slice q1 x1.length m1) (.slice q2 x2.length m2) (.slice none 0 0) hc5 hBB lt5 zc0 zc1 zc2 zc3
            refine hKr _ _ (fun _ => ⟨(bcell1 hE.1 (by omega)).trans f0, (bcell1 hE.1 (by omega)).trans f1, (bcell1 hE.1 (by omega)).trans f2⟩) ?_
            clear hKr Kr
            try simp only [List.getElem_toArray, List.getElem_cons_succ, List.getElem_cons_zero, Act.put, List.setIfInBounds_toArray, List.set_cons_zero, List.set_cons_succ]
            refine wpC_done (by kernel_rfl) ?_ _
            obtain ⟨hE1, hE2, hE3, hE4, hE5, hE6, hE7⟩ := hE
            have hx4 : w4.heap.size ∉ F4 := fun hg => by have q1 := hl4' _ hg; have q2 := hi4 _ hg; omega
            have hx5 : w4.heap.size ∉ F5 := fun hg => by
              have q2 := hi5 _ hg
              rcases hl5' _ hg with q1 | q1 <;> omega
            have hn45 : (F4 ++ F5).Nodup := List.nodup_append.2 ⟨hn4, hn5, fun a ha c hcc e => by
              subst e
              have q1 := hi4b _ ha
              have q3 := hne4 _ ha
              rcases hl5' _ hcc with q2 | q2 <;> omega⟩
            have hl45 : ∀ x, x ∈ F4 ++ F5 → w1.heap.size ≤ x := fun x hx => by
              rcases List.mem_append.1 hx with hx | hx
              · have := hl4' x hx; omega
              · rcases hl5' x hx with q | q <;> omega
            exact key (Lib.hid hE1) (Lib.hid (Rev.box hE4 hE5 hE6 hE7 ((froz4 _ _ _ _ _ _ 3).trans zy3) (hE3 _ _ _ ho4 hx4) (hE3 _ _ _ ho5 hx5) hn45 hl45 (fun e => by rcases List.mem_append.1 e with e | e; exact hx4 e; exact hx5 e) ⟨hBB, hE2⟩))
        · go_simp
          refine hKr _ _ (fun _ => ⟨(bcell1 (hcM.trans ((below_alloc _ _).mono hcM.size)) (by omega)).trans f0, (bcell1 (hcM.trans ((below_alloc _ _).mono hcM.size)) (by omega)).trans f1, (bcell1 (hcM.trans ((below_alloc _ _).mono hcM.size)) (by omega)).trans f2⟩) ?_
          clear hKr Kr
          try simp only [List.getElem_toArray, List.getElem_cons_succ, List.getElem_cons_zero, Act.put, List.setIfInBounds_toArray, List.set_cons_zero, List.set_cons_succ]
          obtain ⟨wA, hwA⟩ : ∃ wz, wz = wM.alloc (.cells #[.int .i64 0, .slice none 0 0, .slice none 0 0, .slice none 0 0] 36) := ⟨_, rfl⟩
          rw [← hwA]
          have hcA : Below w1.heap.size w1 wA := by rw [hwA]; exact (hcM.trans ((below_alloc _ _).mono hcM.size))
          have zc0 : wA.cell? ⟨wM.heap.size, 0, none⟩ = some (.int .i64 0) := by rw [hwA]; simp [go_sem]
          have zy0 : wA.frozen? ⟨wM.heap.size, 0, none⟩ = false := by rw [hwA]; simp [go_sem]
          have zc1 : wA.cell? ⟨wM.heap.size, 1, none⟩ = some (.slice none 0 0) := by rw [hwA]; simp [go_sem]
          have zy1 : wA.frozen? ⟨wM.heap.size, 1, none⟩ = false := by rw [hwA]; simp [go_sem]
          have zc2 : wA.cell? ⟨wM.heap.size, 2, none⟩ = some (.slice none 0 0) := by rw [hwA]; simp [go_sem]
          have zy2 : wA.frozen? ⟨wM.heap.size, 2, none⟩ = false := by rw [hwA]; simp [go_sem]
          have zc3 : wA.cell? ⟨wM.heap.size, 3, none⟩ = some (.slice none 0 0) := by rw [hwA]; simp [go_sem]
          have zy3 : wA.frozen? ⟨wM.heap.size, 3, none⟩ = false := by rw [hwA]; simp [go_sem]
          have ltA : wM.heap.size < wA.heap.size := by rw [hwA]; simp
          have hqA := hcA.size
          replace hLM := hLM.below (w' := wA) (by rw [hwA]; exact below_alloc _ _)
          have hgt : wM.heap.size ≤ wA.heap.size := by rw [hwA]; simp
          clear hwA
          have hSA : wA.cell? ⟨w.heap.size, 0, none⟩ = some (.int .i64 (K0 : Int)) ∧ wA.cell? ⟨w.heap.size, 1, none⟩ = some (.slice (some d1) x1.length c1) ∧ wA.cell? ⟨w.heap.size, 2, none⟩ = some (.slice (some d2) x2.length c2) := ⟨(bcell1 hcA (by omega)).trans f0, (bcell1 hcA (by omega)).trans f1, (bcell1 hcA (by omega)).trans f2⟩
          refine wpC_one (i := 4) (l' := #[true, true, true, true, true, true, true, true, false, false, true, false]) (by kernel_rfl) rfl rfl (by rfl) (fun Kr hKr => ?_)
          refine step_callV rfl 100 _ _ rfl HRI.out #[.slice (some d1) x1.length c1] (by first | rfl | (simp [Act.eval]; done) | (simp [Act.eval]; rfl) | (simp [Act.eval]; repeat' constructor)) (HCI.out _ hcA) ?_
          rintro e w4 ⟨v4, F4, rfl, hb4, ho4, hn4, hl4⟩
          obtain ⟨q1, m1, rfl⟩ := ho4.val
          refine ⟨_, rfl, ?_⟩
          have hc4 : Below w1.heap.size w1 w4 := hcA.trans (hb4.mono hcA.size)
          have hqq4 := hb4.size
          have hq4 := hc4.size
          have hi4 : ∀ g, g ∈ F4 → g < w4.heap.size := Ow.lt _ _ _ ho4
          have hl4' : ∀ g, g ∈ F4 → wA.heap.size ≤ g := hl4
          replace hLM := hLM.below hb4
          replace zc0 := (bcell1 hb4 ltA).trans zc0
          replace zy0 := (hb4.frozen (p := ⟨wM.heap.size, 0, none⟩) ltA).trans zy0
          replace zc1 := (bcell1 hb4 ltA).trans zc1
          replace zy1 := (hb4.frozen (p := ⟨wM.heap.size, 1, none⟩) ltA).trans zy1
          replace zc2 := (bcell1 hb4 ltA).trans zc2
          replace zy2 := (hb4.frozen (p := ⟨wM.heap.size, 2, none⟩) ltA).trans zy2
          replace zc3 := (bcell1 hb4 ltA).trans zc3
          replace zy3 := (hb4.frozen (p := ⟨wM.heap.size, 3, none⟩) ltA).trans zy3
          have lt4 : wM.heap.size < w4.heap.size := Nat.lt_of_lt_of_le ltA hb4.size
          refine hKr _ _ (fun _ => ⟨(bcell1 hc4 (by omega)).trans f0, (bcell1 hc4 (by omega)).trans f1, (bcell1 hc4 (by omega)).trans f2⟩) ?_
          clear hKr Kr
          try simp only [List.getElem_toArray, List.getElem_cons_succ, List.getElem_cons_zero, Act.put, List.setIfInBounds_toArray, List.set_cons_zero, List.set_cons_succ]
          have hS4 : w4.cell? ⟨w.heap.size, 0, none⟩ = some (.int .i64 (K0 : Int)) ∧ w4.cell? ⟨w.heap.size, 1, none⟩ = some (.slice (some d1) x1.length c1) ∧ w4.cell? ⟨w.heap.size, 2, none⟩ = some (.slice (some d2) x2.length c2) := ⟨(bcell1 hc4 (by omega)).trans f0, (bcell1 hc4 (by omega)).trans f1, (bcell1 hc4 (by omega)).trans f2⟩
          refine wpC_one (i := 8) (l' := #[true, true, true, true, true, true, true, true, true, false, true, false]) (by kernel_rfl) rfl rfl (by rfl) (fun Kr hKr => ?_)
          have hcb8 := fun j u hu => HVL.out w4 hc4 j u hu
          refine step_bools rfl _ _ 23 rfl tabB rfl (by decide) w1.heap.size (.slice (some ⟨w1.heap.size, 0, none⟩) 0 0) _ rfl hLM d2 x2.length c2 x2 rfl rfl hcb8 (by omega) (by omega) hc4.size ?_
          intro v5 w5 G5 hL5 hch5 hg5
          obtain ⟨_, q2, m2, rfl⟩ := hL5.val
          obtain ⟨F5, ho5, hn5, hs5⟩ := hL5.ow (by omega) (by unfold maxLen; omega)
          have hob : ob (.slice (some ⟨w1.heap.size, 0, none⟩) 0 0) = [w1.heap.size] := rfl
          rw [hob] at hch5 hg5
          have hc5 : Below w1.heap.size w1 w5 := hc4.trans (hch5.below hc4.size (fun y hy => by simp at hy; omega))
          have hq5 := hc5.size
          have hqq5 := hch5.size
          have hi5 : ∀ g, g ∈ F5 → g < w5.heap.size := Ow.lt _ _ _ ho5
          have hl5' : ∀ g, g ∈ F5 → g = w1.heap.size ∨ w4.heap.size ≤ g := fun y hy => by rcases hg5 y (hs5 y hy) with h | h; (left; simpa using h); exact .inr h
          have hne4 : ∀ g, g ∈ F4 → g ≠ w1.heap.size := fun y hy => by have q1 := hl4' y hy; have q2 := hi4 y hy; omega
          replace ho4 := hch5.ow ho4 (fun y hy e => hne4 y hy (by simpa using e))
          have hna : wM.heap.size ∉ [w1.heap.size] := by simp; omega
          replace zc0 := (hch5.cell lt4 hna 0).trans zc0
          replace zy0 := (hch5.frozen lt4 hna 0).trans zy0
          replace zc1 := (hch5.cell lt4 hna 1).trans zc1
          replace zy1 := (hch5.frozen lt4 hna 1).trans zy1
          replace zc2 := (hch5.cell lt4 hna 2).trans zc2
          replace zy2 := (hch5.frozen lt4 hna 2).trans zy2
          replace zc3 := (hch5.cell lt4 hna 3).trans zc3
          replace zy3 := (hch5.frozen lt4 hna 3).trans zy3
          have lt5 : wM.heap.size < w5.heap.size := Nat.lt_of_lt_of_le lt4 hch5.size
          refine hKr _ _ (fun _ => ⟨(bcell1 hc5 (by omega)).trans f0, (bcell1 hc5 (by omega)).trans f1, (bcell1 hc5 (by omega)).trans f2⟩) ?_
          clear hKr Kr
          try simp only [List.getElem_toArray, List.getElem_cons_succ, List.getElem_cons_zero, Act.put, List.setIfInBounds_toArray, List.set_cons_zero, List.set_cons_succ]
          have hi4b : ∀ g, g ∈ F4 → g < w4.heap.size := fun y hy => by have := hi4 y hy; omega
          have hS5 : w5.cell? ⟨w.heap.size, 0, none⟩ = some (.int .i64 (K0 : Int)) ∧ w5.cell? ⟨w.heap.size, 1, none⟩ = some (.slice (some d1) x1.length c1) ∧ w5.cell? ⟨w.heap.size, 2, none⟩ = some (.slice (some d2) x2.length c2) := ⟨(bcell1 hc5 (by omega)).trans f0, (bcell1 hc5 (by omega)).trans f1, (bcell1 hc5 (by omega)).trans f2⟩
          refine wpC_take (i := 9) (v := ?v9_31) (l' := #[true, true, true, true, true, true, true, true, true, true, true, false]) [11] rfl (by kernel_rfl) (by kernel_rfl) (by kernel_rfl) (by kernel_rfl) (by kernel_rfl) rfl (fun _ _ _ h => h) (by rfl) (fun wx hS => ?q9_31) (by assumption) ?_
          case q9_31 => (go_simp; try with_reducible rfl)
          try simp only [List.getElem_toArray, List.getElem_cons_succ, List.getElem_cons_zero, Act.put, List.setIfInBounds_toArray, List.set_cons_zero, List.set_cons_succ]
          refine wpC_one (i := 11) (l' := #[true, true, true, true, true, true, true, true, true, true, true, true]) (by kernel_rfl) rfl rfl (by rfl) (fun Kr hKr => ?_)
          have hBB : w1.heap.size ≤ wM.heap.size := by omega
          go_simp
          have hE := box4 (.int .i64 K0) (.slice q1 x1.length m1) (.slice q2 x2.length m2) (.slice none 0 0) hc5 hBB lt5 zc0 zc1 zc2 zc3
          refine hKr _ _ (fun _ => ⟨(bcell1 hE.1 (by omega)).trans f0, (bcell1 hE.1 (by omega)).trans f1, (bcell1 hE.1 (by omega)).trans f2⟩) ?_
          clear hKr Kr
          try simp only [List.getElem_toArray, List.getElem_cons_succ, List.getElem_cons_zero, Act.put, List.setIfInBounds_toArray, List.set_cons_zero, List.set_cons_succ]
          refine wpC_done (by kernel_rfl) ?_ _
          obtain ⟨hE1, hE2, hE3, hE4, hE5, hE6, hE7⟩ := hE
          have hx4 : wM.heap.size ∉ F4 := fun hg => by have q1 := hl4' _ hg; have q2 := hi4 _ hg; omega
          have hx5 : wM.heap.size ∉ F5 := fun hg => by
            have q2 := hi5 _ hg
            rcases hl5' _ hg with q1 | q1 <;> omega
          have hn45 : (F4 ++ F5).Nodup := List.nodup_append.2 ⟨hn4, hn5, fun a ha c hcc e => by
            subst e
            have q1 := hi4b _ ha
            have q3 := hne4 _ ha
            rcases hl5' _ hcc with q2 | q2 <;> omega⟩
          have hl45 : ∀ x, x ∈ F4 ++ F5 → w1.heap.size ≤ x := fun x hx => by
            rcases List.mem_append.1 hx with hx | hx
            · have := hl4' x hx; omega
            · rcases hl5' x hx with q | q <;> omega
          exact key (Lib.hid hE1) (Lib.hid (Rev.box hE4 hE5 hE6 hE7 ((froz4 _ _ _ _ _ _ 3).trans zy3) (hE3 _ _ _ ho4 hx4) (hE3 _ _ _ ho5 hx5) hn45 hl45 (fun e => by rcases List.mem_append.1 e with e | e; exact hx4 e; exact hx5 e) ⟨hBB, hE2⟩))
      · go_simp
        refine hKr _ _ (fun _ => ⟨(bcell1 (below_drP (below_alloc _ _)) (by omega)).trans f0, (bcell1 (below_drP (below_alloc _ _)) (by omega)).trans f1, (bcell1 (below_drP (below_alloc _ _)) (by omega)).trans f2⟩) ?_
        clear hKr Kr
        try simp only [List.getElem_toArray, List.getElem_cons_succ, List.getElem_cons_zero, Act.put, List.setIfInBounds_toArray, List.set_cons_zero, List.set_cons_succ]
        obtain ⟨wA, hwA⟩ : ∃ wz, wz = (w1.alloc (.cells #[.int .i64 0, .slice none 0 0, .slice none 0 0, .slice none 0 0] 36)).drew := ⟨_, rfl⟩
        rw [← hwA]
        have hcA : Below w1.heap.size w1 wA := by rw [hwA]; exact (below_drP (below_alloc _ _))
        have zc0 : wA.cell? ⟨w1.heap.size, 0, none⟩ = some (.int .i64 0) := by rw [hwA]; simp [go_sem]
        have zy0 : wA.frozen? ⟨w1.heap.size, 0, none⟩ = false := by rw [hwA]; simp [go_sem]
        have zc1 : wA.cell? ⟨w1.heap.size, 1, none⟩ = some (.slice none 0 0) := by rw [hwA]; simp [go_sem]
        have zy1 : wA.frozen? ⟨w1.heap.size, 1, none⟩ = false := by rw [hwA]; simp [go_sem]
        have zc2 : wA.cell? ⟨w1.heap.size, 2, none⟩ = some (.slice none 0 0) := by rw [hwA]; simp [go_sem]
        have zy2 : wA.frozen? ⟨w1.heap.size, 2, none⟩ = false := by rw [hwA]; simp [go_sem]
        have zc3 : wA.cell? ⟨w1.heap.size, 3, none⟩ = some (.slice none 0 0) := by rw [hwA]; simp [go_sem]
        have zy3 : wA.frozen? ⟨w1.heap.size, 3, none⟩ = false := by rw [hwA]; simp [go_sem]
        have ltA : w1.heap.size < wA.heap.size := by rw [hwA]; simp
        have hqA := hcA.size
        have hgt : w1.heap.size ≤ wA.heap.size := by rw [hwA]; simp
        clear hwA
        have hSA : wA.cell? ⟨w.heap.size, 0, none⟩ = some (.int .i64 (K0 : Int)) ∧ wA.cell? ⟨w.heap.size, 1, none⟩ = some (.slice (some d1) x1.length c1) ∧ wA.cell? ⟨w.heap.size, 2, none⟩ = some (.slice (some d2) x2.length c2) := ⟨(bcell1 hcA (by omega)).trans f0, (bcell1 hcA (by omega)).trans f1, (bcell1 hcA (by omega)).trans f2⟩
        refine wpC_two (i := 4) (j := 5) (l' := #[true, true, true, true, true, false, true, true, false, false, true, false]) (l'' := #[true, true, true, true, false, true, true, true, false, false, true, false]) (by kernel_rfl) rfl rfl rfl rfl (by rfl) (by rfl) (fun Kr hKr => ?_) (fun Kr hKr => ?_)
        · refine step_callV rfl 100 _ _ rfl HRI.out #[.slice (some d1) x1.length c1] (by first | rfl | (simp [Act.eval]; done) | (simp [Act.eval]; rfl) | (simp [Act.eval]; repeat' constructor)) (HCI.out _ hcA) ?_
          rintro e w4 ⟨v4, F4, rfl, hb4, ho4, hn4, hl4⟩
          obtain ⟨q1, m1, rfl⟩ := ho4.val
          refine ⟨_, rfl, ?_⟩
          have hc4 : Below w1.heap.size w1 w4 := hcA.trans (hb4.mono hcA.size)
          have hqq4 := hb4.size
          have hq4 := hc4.size
          have hi4 : ∀ g, g ∈ F4 → g < w4.heap.size := Ow.lt _ _ _ ho4
          have hl4' : ∀ g, g ∈ F4 → wA.heap.size ≤ g := hl4
          replace zc0 := (bcell1 hb4 ltA).trans zc0
          replace zy0 := (hb4.frozen (p := ⟨w1.heap.size, 0, none⟩) ltA).trans zy0
          replace zc1 := (bcell1 hb4 ltA).trans zc1
          replace zy1 := (hb4.frozen (p := ⟨w1.heap.size, 1, none⟩) ltA).trans zy1
          replace zc2 := (bcell1 hb4 ltA).trans zc2
          replace zy2 := (hb4.frozen (p := ⟨w1.heap.size, 2, none⟩) ltA).trans zy2
          replace zc3 := (bcell1 hb4 ltA).trans zc3
          replace zy3 := (hb4.frozen (p := ⟨w1.heap.size, 3, none⟩) ltA).trans zy3
          have lt4 : w1.heap.size < w4.heap.size := Nat.lt_of_lt_of_le ltA hb4.size
          refine hKr _ _ (fun _ => ⟨(bcell1 hc4 (by omega)).trans f0, (bcell1 hc4 (by omega)).trans f1, (bcell1 hc4 (by omega)).trans f2⟩) ?_
          clear hKr Kr
          try simp only [List.getElem_toArray, List.getElem_cons_succ, List.getElem_cons_zero, Act.put, List.setIfInBounds_toArray, List.set_cons_zero, List.set_cons_succ]
          have hS4 : w4.cell? ⟨w.heap.size, 0, none⟩ = some (.int .i64 (K0 : Int)) ∧ w4.cell? ⟨w.heap.size, 1, none⟩ = some (.slice (some d1) x1.length c1) ∧ w4.cell? ⟨w.heap.size, 2, none⟩ = some (.slice (some d2) x2.length c2) := ⟨(bcell1 hc4 (by omega)).trans f0, (bcell1 hc4 (by omega)).trans f1, (bcell1 hc4 (by omega)).trans f2⟩
          refine wpC_one (i := 5) (l' := #[true, true, true, true, true, true, true, true, false, false, true, false]) (by kernel_rfl) rfl rfl (by rfl) (fun Kr hKr => ?_)
          go_simp
          refine hKr _ _ (fun _ => ⟨(bcell1 (hc4.trans ((below_alloc _ _).mono hc4.size)) (by omega)).trans f0, (bcell1 (hc4.trans ((below_alloc _ _).mono hc4.size)) (by omega)).trans f1, (bcell1 (hc4.trans ((below_alloc _ _).mono hc4.size)) (by omega)).trans f2⟩) ?_
          clear hKr Kr
          try simp only [List.getElem_toArray, List.getElem_cons_succ, List.getElem_cons_zero, Act.put, List.setIfInBounds_toArray, List.set_cons_zero, List.set_cons_succ]
          obtain ⟨wM, hwM⟩ : ∃ wz, wz = w4.alloc (.cells #[] 4) := ⟨_, rfl⟩
          rw [← hwM]
          have hcM : Below w1.heap.size w1 wM := by rw [hwM]; exact (hc4.trans ((below_alloc _ _).mono hc4.size))
          have hxM : Below w4.heap.size w4 wM := by rw [hwM]; exact below_alloc _ _
          have hLM : Lst 4 1 wM w1.heap.size (.slice (some ⟨w4.heap.size, 0, none⟩) 0 0) 0 [] [w4.heap.size] := by rw [hwM]; exact Lst.made 4 1 w4 w1.heap.size hc4.size
          have ltM : w4.heap.size < wM.heap.size := by rw [hwM]; simp
          have hqM := hcM.size
          have hgM := hxM.size
          replace ho4 := ho4.below hxM
          replace zc0 := (bcell1 hxM lt4).trans zc0
          replace zy0 := (hxM.frozen (p := ⟨w1.heap.size, 0, none⟩) lt4).trans zy0
          replace zc1 := (bcell1 hxM lt4).trans zc1
          replace zy1 := (hxM.frozen (p := ⟨w1.heap.size, 1, none⟩) lt4).trans zy1
          replace zc2 := (bcell1 hxM lt4).trans zc2
          replace zy2 := (hxM.frozen (p := ⟨w1.heap.size, 2, none⟩) lt4).trans zy2
          replace zc3 := (bcell1 hxM lt4).trans zc3
          replace zy3 := (hxM.frozen (p := ⟨w1.heap.size, 3, none⟩) lt4).trans zy3
          have ltAM : w1.heap.size < wM.heap.size := Nat.lt_of_lt_of_le lt4 hxM.size
          clear hwM
          have hSM : wM.cell? ⟨w.heap.size, 0, none⟩ = some (.int .i64 (K0 : Int)) ∧ wM.cell? ⟨w.heap.size, 1, none⟩ = some (.slice (some d1) x1.length c1) ∧ wM.cell? ⟨w.heap.size, 2, none⟩ = some (.slice (some d2) x2.length c2) := ⟨(bcell1 hcM (by omega)).trans f0, (bcell1 hcM (by omega)).trans f1, (bcell1 hcM (by omega)).trans f2⟩
          refine wpC_one (i := 8) (l' := #[true, true, true, true, true, true, true, true, true, false, true, false]) (by kernel_rfl) rfl rfl (by rfl) (fun Kr hKr => ?_)
          have hcb8 := fun j u hu => HVL.out wM hcM j u hu
          refine step_bools rfl _ _ 23 rfl tabB rfl (by decide) w1.heap.size (.slice (some ⟨w4.heap.size, 0, none⟩) 0 0) _ rfl hLM d2 x2.length c2 x2 rfl rfl hcb8 (by omega) (by omega) hcM.size ?_
          intro v5 w5 G5 hL5 hch5 hg5
          obtain ⟨_, q2, m2, rfl⟩ := hL5.val
          obtain ⟨F5, ho5, hn5, hs5⟩ := hL5.ow (by omega) (by unfold maxLen; omega)
          have hob : ob (.slice (some ⟨w4.heap.size, 0, none⟩) 0 0) = [w4.heap.size] := rfl
          rw [hob] at hch5 hg5
          have hc5 : Below w1.heap.size w1 w5 := hcM.trans (hch5.below hcM.size (fun y hy => by simp at hy; omega))
          have hq5 := hc5.size
          have hqq5 := hch5.size
          have hi5 : ∀ g, g ∈ F5 → g < w5.heap.size := Ow.lt _ _ _ ho5
          have hl5' : ∀ g, g ∈ F5 → g = w4.heap.size ∨ wM.heap.size ≤ g := fun y hy => by rcases hg5 y (hs5 y hy) with h | h; (left; simpa using h); exact .inr h
          have hne4 : ∀ g, g ∈ F4 → g ≠ w4.heap.size := fun y hy => by have q1 := hl4' y hy; have q2 := hi4 y hy; omega
          replace ho4 := hch5.ow ho4 (fun y hy e => hne4 y hy (by simpa using e))
          have hna : w1.heap.size ∉ [w4.heap.size] := by simp; omega
          replace zc0 := (hch5.cell ltAM hna 0).trans zc0
          replace zy0 := (hch5.frozen ltAM hna 0).trans zy0
          replace zc1 := (hch5.cell ltAM hna 1).trans zc1
          replace zy1 := (hch5.frozen ltAM hna 1).trans zy1
          replace zc2 := (hch5.cell ltAM hna 2).trans zc2
          replace zy2 := (hch5.frozen ltAM hna 2).trans zy2
          replace zc3 := (hch5.cell ltAM hna 3).trans zc3
          replace zy3 := (hch5.frozen ltAM hna 3).trans zy3
          have lt5 : w1.heap.size < w5.heap.size := Nat.lt_of_lt_of_le ltAM hch5.size
          refine hKr _ _ (fun _ => ⟨(bcell1 hc5 (by omega)).trans f0, (bcell1 hc5 (by omega)).trans f1, (bcell1 hc5 (by omega)).trans f2⟩) ?_
          clear hKr Kr
          try simp only [List.getElem_toArray, List.getElem_cons_succ, List.getElem_cons_zero, Act.put, List.setIfInBounds_toArray, List.set_cons_zero, List.set_cons_succ]
          have hi4b : ∀ g, g ∈ F4 → g < wM.heap.size := fun y hy => by have := hi4 y hy; omega
          have hS5 : w5.cell? ⟨w.heap.size, 0, none⟩ = some (.int .i64 (K0 : Int)) ∧ w5.cell? ⟨w.heap.size, 1, none⟩ = some (.slice (some d1) x1.length c1) ∧ w5.cell? ⟨w.heap.size, 2, none⟩ = some (.slice (some d2) x2.length c2) := ⟨(bcell1 hc5 (by omega)).trans f0, (bcell1 hc5 (by omega)).trans f1, (bcell1 hc5 (by omega)).trans f2⟩
          refine wpC_take (i := 9) (v := ?v9_32) (l' := #[true, true, true, true, true, true, true, true, true, true, true, false]) [11] rfl (by kernel_rfl) (by kernel_rfl) (by kernel_rfl) (by kernel_rfl) (by kernel_rfl) rfl (fun _ _ _ h => h) (by rfl) (fun wx hS => ?q9_32) (by assumption) ?_
          case q9_32 => (go_simp; try with_reducible rfl)
          try simp only [List.getElem_toArray, List.getElem_cons_succ, List.getElem_cons_zero, Act.put, List.setIfInBounds_toArray, List.set_cons_zero, List.set_cons_succ]
          refine wpC_one (i := 11) (l' := #[true, true, true, true, true, true, true, true, true, true, true, true]) (by kernel_rfl) rfl rfl (by rfl) (fun Kr hKr => ?_)
          have hBB : w1.heap.size ≤ w1.heap.size := by omega
          go_simp
          have hE := box4 (.int .i64 K0) (.slice q1 x1.length m1) (.slice q2 x2.length m2) (.slice none 0 0) hc5 hBB lt5 zc0 zc1 zc2 zc3
          refine hKr _ _ (fun _ => ⟨(bcell1 hE.1 (by omega)).trans f0, (bcell1 hE.1 (by omega)).trans f1, (bcell1 hE.1 (by omega)).trans f2⟩) ?_
          clear hKr Kr
          try simp only [List.getElem_toArray, List.getElem_cons_succ, List.getElem_cons_zero, Act.put, List.setIfInBounds_toArray, List.set_cons_zero, List.set_cons_succ]
          refine wpC_done (by kernel_rfl) ?_ _
          obtain ⟨hE1, hE2, hE3, hE4, hE5, hE6, hE7⟩ := hE
          have hx4 : w1.heap.size ∉ F4 := fun hg => by have q1 := hl4' _ hg; have q2 := hi4 _ hg; omega
          have hx5 : w1.heap.size ∉ F5 := fun hg => by
            have q2 := hi5 _ hg
            rcases hl5' _ hg with q1 | q1 <;> omega
          have hn45 : (F4 ++ F5).Nodup := List.nodup_append.2 ⟨hn4, hn5, fun a ha c hcc e => by
            subst e
            have q1 := hi4b _ ha
            have q3 := hne4 _ ha
            rcases hl5' _ hcc with q2 | q2 <;> omega⟩
          have hl45 : ∀ x, x ∈ F4 ++ F5 → w1.heap.size ≤ x := fun x hx => by
            rcases List.mem_append.1 hx with hx | hx
            · have := hl4' x hx; omega
            · rcases hl5' x hx with q | q <;> omega
          exact key (Lib.hid hE1) (Lib.hid (Rev.box hE4 hE5 hE6 hE7 ((froz4 _ _ _ _ _ _ 3).trans zy3) (hE3 _ _ _ ho4 hx4) (hE3 _ _ _ ho5 hx5) hn45 hl45 (fun e => by rcases List.mem_append.1 e with e | e; exact hx4 e; exact hx5 e) ⟨hBB, hE2⟩))
        · go_simp
          refine hKr _ _ (fun _ => ⟨(bcell1 (hcA.trans ((below_alloc _ _).mono hcA.size)) (by omega)).trans f0, (bcell1 (hcA.trans ((below_alloc _ _).mono hcA.size)) (by omega)).trans f1, (bcell1 (hcA.trans ((below_alloc _ _).mono hcA.size)) (by omega)).trans f2⟩) ?_
          clear hKr Kr
          try simp only [List.getElem_toArray, List.getElem_cons_succ, List.getElem_cons_zero, Act.put, List.setIfInBounds_toArray, List.set_cons_zero, List.set_cons_succ]
          obtain ⟨wM, hwM⟩ : ∃ wz, wz = wA.alloc (.cells #[] 4) := ⟨_, rfl⟩
          rw [← hwM]
          have hcM : Below w1.heap.size w1 wM := by rw [hwM]; exact (hcA.trans ((below_alloc _ _).mono hcA.size))
          have hxM : Below wA.heap.size wA wM := by rw [hwM]; exact below_alloc _ _
          have hLM : Lst 4 1 wM w1.heap.size (.slice (some ⟨wA.heap.size, 0, none⟩) 0 0) 0 [] [wA.heap.size] := by rw [hwM]; exact Lst.made 4 1 wA w1.heap.size hcA.size
          have ltM : wA.heap.size < wM.heap.size := by rw [hwM]; simp
          have hqM := hcM.size
          have hgM := hxM.size
          replace zc0 := (bcell1 hxM ltA).trans zc0
          replace zy0 := (hxM.frozen (p := ⟨w1.heap.size, 0, none⟩) ltA).trans zy0
          replace zc1 := (bcell1 hxM ltA).trans zc1
          replace zy1 := (hxM.frozen (p := ⟨w1.heap.size, 1, none⟩) ltA).trans zy1
          replace zc2 := (bcell1 hxM ltA).trans zc2
          replace zy2 := (hxM.frozen (p := ⟨w1.heap.size, 2, none⟩) ltA).trans zy2
          replace zc3 := (bcell1 hxM ltA).trans zc3
          replace zy3 := (hxM.frozen (p := ⟨w1.heap.size, 3, none⟩) ltA).trans zy3
          have ltAM : w1.heap.size < wM.heap.size := Nat.lt_of_lt_of_le ltA hxM.size
          clear hwM
          have hSM : wM.cell? ⟨w.heap.size, 0, none⟩ = some (.int .i64 (K0 : Int)) ∧ wM.cell? ⟨w.heap.size, 1, none⟩ = some (.slice (some d1) x1.length c1) ∧ wM.cell? ⟨w.heap.size, 2, none⟩ = some (.slice (some d2) x2.length c2) := ⟨(bcell1 hcM (by omega)).trans f0, (bcell1 hcM (by omega)).trans f1, (bcell1 hcM (by omega)).trans f2⟩
          refine wpC_one (i := 4) (l' := #[true, true, true, true, true, true, true, true, false, false, true, false]) (by kernel_rfl) rfl rfl (by rfl) (fun Kr hKr => ?_)
          refine step_callV rfl 100 _ _ rfl HRI.out #[.slice (some d1) x1.length c1] (by first | rfl | (simp [Act.eval]; done) | (simp [Act.eval]; rfl) | (simp [Act.eval]; repeat' constructor)) (HCI.out _ hcM) ?_
          rintro e w4 ⟨v4, F4, rfl, hb4, ho4, hn4, hl4⟩
          obtain ⟨q1, m1, rfl⟩ := ho4.val
          refine ⟨_, rfl, ?_⟩
          have hc4 : Below w1.heap.size w1 w4 := hcM.trans (hb4.mono hcM.size)
          have hqq4 := hb4.size
          have hq4 := hc4.size
          have hi4 : ∀ g, g ∈ F4 → g < w4.heap.size := Ow.lt _ _ _ ho4
          have hl4' : ∀ g, g ∈ F4 → wM.heap.size ≤ g := hl4
          replace hLM := hLM.below hb4
          replace zc0 := (bcell1 hb4 ltAM).trans zc0
          replace zy0 := (hb4.frozen (p := ⟨w1.heap.size, 0, none⟩) ltAM).trans zy0
          replace zc1 := (bcell1 hb4 ltAM).trans zc1
          replace zy1 := (hb4.frozen (p := ⟨w1.heap.size, 1, none⟩) ltAM).trans zy1
          replace zc2 := (bcell1 hb4 ltAM).trans zc2
          replace zy2 := (hb4.frozen (p := ⟨w1.heap.size, 2, none⟩) ltAM).trans zy2
          replace zc3 := (bcell1 hb4 ltAM).trans zc3
          replace zy3 := (hb4.frozen (p := ⟨w1.heap.size, 3, none⟩) ltAM).trans zy3
          have lt4 : w1.heap.size < w4.heap.size := Nat.lt_of_lt_of_le ltAM hb4.size
          refine hKr _ _ (fun _ => ⟨(bcell1 hc4 (by omega)).trans f0, (bcell1 hc4 (by omega)).trans f1, (bcell1 hc4 (by omega)).trans f2⟩) ?_
          clear hKr Kr
          try simp only [List.getElem_toArray, List.getElem_cons_succ, List.getElem_cons_zero, Act.put, List.setIfInBounds_toArray, List.set_cons_zero, List.set_cons_succ]
          have hS4 : w4.cell? ⟨w.heap.size, 0, none⟩ = some (.int .i64 (K0 : Int)) ∧ w4.cell? ⟨w.heap.size, 1, none⟩ = some (.slice (some d1) x1.length c1) ∧ w4.cell? ⟨w.heap.size, 2, none⟩ = some (.slice (some d2) x2.length c2) := ⟨(bcell1 hc4 (by omega)).trans f0, (bcell1 hc4 (by omega)).trans f1, (bcell1 hc4 (by omega)).trans f2⟩
          refine wpC_one (i := 8) (l' := #[true, true, true, true, true, true, true, true, true, false, true, false]) (by kernel_rfl) rfl rfl (by rfl) (fun Kr hKr => ?_)
          have hcb8 := fun j u hu => HVL.out w4 hc4 j u hu
          refine step_bools rfl _ _ 23 rfl tabB rfl (by decide) w1.heap.size (.slice (some ⟨wA.heap.size, 0, none⟩) 0 0) _ rfl hLM d2 x2.length c2 x2 rfl rfl hcb8 (by omega) (by omega) hc4.size ?_
          intro v5 w5 G5 hL5 hch5 hg5
          obtain ⟨_, q2, m2, rfl⟩ := hL5.val
          obtain ⟨F5, ho5, hn5, hs5⟩ := hL5.ow (by omega) (by unfold maxLen; omega)
          have hob : ob (.slice (some ⟨wA.heap.size, 0, none⟩) 0 0) = [wA.heap.size] := rfl
          rw [hob] at hch5 hg5
          have hc5 : Below w1.heap.size w1 w5 := hc4.trans (hch5.below hc4.size (fun y hy => by simp at hy; omega))
          have hq5 := hc5.size
          have hqq5 := hch5.size
          have hi5 : ∀ g, g ∈ F5 → g < w5.heap.size := Ow.lt _ _ _ ho5
          have hl5' : ∀ g, g ∈ F5 → g = wA.heap.size ∨ w4.heap.size ≤ g := fun y hy => by rcases hg5 y (hs5 y hy) with h | h; (left; simpa using h); exact .inr h
          have hne4 : ∀ g, g ∈ F4 → g ≠ wA.heap.size := fun y hy => by have q1 := hl4' y hy; have q2 := hi4 y hy; omega
          replace ho4 := hch5.ow ho4 (fun y hy e => hne4 y hy (by simpa using e))
          have hna : w1.heap.size ∉ [wA.heap.size] := by simp; omega
          replace zc0 := (hch5.cell lt4 hna 0).trans zc0
          replace zy0 := (hch5.frozen lt4 hna 0).trans zy0
          replace zc1 := (hch5.cell lt4 hna 1).trans zc1
          replace zy1 := (hch5.frozen lt4 hna 1).trans zy1
          replace zc2 := (hch5.cell lt4 hna 2).trans zc2
          replace zy2 := (hch5.frozen lt4 hna 2).trans zy2
          replace zc3 := (hch5.cell lt4 hna 3).trans zc3
          replace zy3 := (hch5.frozen lt4 hna 3).trans zy3
          have lt5 : w1.heap.size < w5.heap.size := Nat.lt_of_lt_of_le lt4 hch5.size
          refine hKr _ _ (fun _ => ⟨(bcell1 hc5 (by omega)).trans f0, (bcell1 hc5 (by omega)).trans f1, (bcell1 hc5 (by omega)).trans f2⟩) ?_
          clear hKr Kr
          try simp only [List.getElem_toArray, List.getElem_cons_succ, List.getElem_cons_zero, Act.put, List.setIfInBounds_toArray, List.set_cons_zero, List.set_cons_succ]
          have hi4b : ∀ g, g ∈ F4 → g < w4.heap.size := fun y hy => by have := hi4 y hy; omega
          have hS5 : w5.cell? ⟨w.heap.size, 0, none⟩ = some (.int .i64 (K0 : Int)) ∧ w5.cell? ⟨w.heap.size, 1, none⟩ = some (.slice (some d1) x1.length c1) ∧ w5.cell? ⟨w.heap.size, 2, none⟩ = some (.slice (some d2) x2.length c2) := ⟨(bcell1 hc5 (by omega)).trans f0, (bcell1 hc5 (by omega)).trans f1, (bcell1 hc5 (by omega)).trans f2⟩
          refine wpC_take (i := 9) (v := ?v9_33) (l' := #[true, true, true, true, true, true, true, true, true, true, true, false]) [11] rfl (by kernel_rfl) (by kernel_rfl) (by kernel_rfl) (by kernel_rfl) (by kernel_rfl) rfl (fun _ _ _ h => h) (by rfl) (fun wx hS => ?q9_33) (by assumption) ?_
          case q9_33 => (go_simp; try with_reducible rfl)
          try simp only [List.getElem_toArray, List.getElem_cons_succ, List.getElem_cons_zero, Act.put, List.setIfInBounds_toArray, List.set_cons_zero, List.set_cons_succ]
          refine wpC_one (i := 11) (l' := #[true, true, true, true, true, true, true, true, true, true, true, true]) (by kernel_rfl) rfl rfl (by rfl) (fun Kr hKr => ?_)
          have hBB : w1.heap.size ≤ w1.heap.size := by omega
          go_simp
          have hE := box4 (.int .i64 K0) (.slice q1 x1.length m1) (.slice q2 x2.length m2) (.slice none 0 0) hc5 hBB lt5 zc0 zc1 zc2 zc3
          refine hKr _ _ (fun _ => ⟨(bcell1 hE.1 (by omega)).trans f0, (bcell1 hE.1 (by omega)).trans f1, (bcell1 hE.1 (by omega)).trans f2⟩) ?_
          clear hKr Kr
          try simp only [List.getElem_toArray, List.getElem_cons_succ, List.getElem_cons_zero, Act.put, List.setIfInBounds_toArray, List.set_cons_zero, List.set_cons_succ]
          refine wpC_done (by kernel_rfl) ?_ _
          obtain ⟨hE1, hE2, hE3, hE4, hE5, hE6, hE7⟩ := hE
          have hx4 : w1.heap.size ∉ F4 := fun hg => by have q1 := hl4' _ hg; have q2 := hi4 _ hg; omega
          have hx5 : w1.heap.size ∉ F5 := fun hg => by
            have q2 := hi5 _ hg
            rcases hl5' _ hg with q1 | q1 <;> omega
          have hn45 : (F4 ++ F5).Nodup := List.nodup_append.2 ⟨hn4, hn5, fun a ha c hcc e => by
            subst e
            have q1 := hi4b _ ha
            have q3 := hne4 _ ha
            rcases hl5' _ hcc with q2 | q2 <;> omega⟩
          have hl45 : ∀ x, x ∈ F4 ++ F5 → w1.heap.size ≤ x := fun x hx => by
            rcases List.mem_append.1 hx with hx | hx
            · have := hl4' x hx; omega
            · rcases hl5' x hx with q | q <;> omega
          exact key (Lib.hid hE1) (Lib.hid (Rev.box hE4 hE5 hE6 hE7 ((froz4 _ _ _ _ _ _ 3).trans zy3) (hE3 _ _ _ ho4 hx4) (hE3 _ _ _ ho5 hx5) hn45 hl45 (fun e => by rcases List.mem_append.1 e with e | e; exact hx4 e; exact hx5 e) ⟨hBB, hE2⟩))
    intro t10 t11 t12 t13 t14 t15 t16 t17 t18 t19 w2 g m1 m2 q1 q2 F1 F2 HX2 HR2
    apply hK
    have RZ := Lib.hid (And.intro r0 (And.intro r1 (And.intro r2 (And.intro r3 (And.intro z0 (And.intro z1 (And.intro z2 z3)))))))
    clear hK HCI HVL z0 z1 z2 z3 r0 r1 r2 r3 f0 f1 f2
    have hw1l : w.heap.size < w1.heap.size := by omega
    have F3 := Lib.hid f3
    obtain ⟨_, _, ex, hxs⟩ := Rd_PR H3.out
    cases ex
    have i4 := ix_of (P := Try.prog) tabPassRuleSM.under tabPassRuleSM.size hxs.ptr c3
    simp only [adr] at i4
    have HX := Lib.hid hxs
    have HCX : Hid (∀ wx k, k < x3.length → Below w.heap.size w wx → ∃ e1 e2 n1 n2, wx.cell? ⟨blk a3, ofs a3 + k * 3 + 1, none⟩ = some (.slice (some e1) (nthPR x3 k).out.length n1) ∧ wx.cell? ⟨blk a3, ofs a3 + k * 3 + 2, none⟩ = some (.slice (some e2) (nthPR x3 k).inn.length n2) ∧ (∀ wy, Below wx.heap.size wx wy → Calls Try.prog 100 #[.slice (some e1) (nthPR x3 k).out.length n1] wy (RetD wy (dI (nthPR x3 k).out))) ∧ (∀ wy, Below wx.heap.size wx wy → Calls Try.prog 100 #[.slice (some e2) (nthPR x3 k).inn.length n2] wy (RetD wy (dI (nthPR x3 k).inn)))) := Lib.hid (fun wx k hk hb => by
      obtain ⟨u1, n1, g1, s1⟩ := hxs.c1 k hk
      obtain ⟨u2, n2, g2, s2⟩ := hxs.c2 k hk
      have o1 := (HPS.out.out k hk).2
      have o2 := (HPS.out.inn k hk).2
      have hK1 := HPS.out.k1
      have hK8 := HPS.out.k8
      obtain ⟨e1, rfl⟩ := s1.addr (by omega)
      obtain ⟨e2, rfl⟩ := s2.addr (by omega)
      refine ⟨e1, e2, n1, n2, (hb.cell (World.block_lt_of_cell? w _ g1)).trans g1, (hb.cell (World.block_lt_of_cell? w _ g2)).trans g2, fun wy hy => l00Own_c Any (some e1) n1 _ wy ((s1.below hb).below hy) ⟨_, rfl⟩ (by omega), fun wy hy => l00Own_c Any (some e2) n2 _ wy ((s2.below hb).below hy) ⟨_, rfl⟩ (by omega)⟩)
    have HC0 : Hid (∀ wx k, k < x3.length → Below w.heap.size w wx → wx.cell? ⟨blk a3, ofs a3 + k * 3, none⟩ = some (.int .i64 (nthPR x3 k).cell) ∧ blk a3 < w.heap.size) := Lib.hid (fun wx k hk hb => ⟨(hb.cell (World.block_lt_of_cell? w _ (hxs.c0 k hk))).trans (hxs.c0 k hk), World.block_lt_of_cell? w _ (hxs.c0 k hk)⟩)
    clear hxs f3
    go_wp2
    go_loopw [5, 6] (fun i _ wr => ∃ (k : Nat) (RS : List PR) (v : Value) (G : List Nat), k ≤ x3.length ∧ i = .int .i64 k ∧ Hid (RS = (x3.take k).map revPR) ∧ Hid (Below w1.heap.size w1 wr) ∧ Hid (Rev w1.heap.size wr g K0 x1 x2 RS (.slice q1 x1.length m1) (.slice q2 x2.length m2) F1 F2 v G)) (fun i _ _ => x3.length - (intOf i).toNat)
    case atStart => exact ⟨0, [], _, _, Nat.zero_le _, rfl, Lib.hid rfl, HX2, HR2⟩
    case round =>
      obtain ⟨k, RS, v, G, hk, rfl, HRS, HB, HR⟩ := hrel
      have HBW : Hid (Below w.heap.size w wr) := Lib.hid (HB1.out.trans (HB.out.mono (by omega)))
      obtain ⟨_, av, cv, rfl⟩ := HR.out.lst.val
      have f3 := (bcell1 HB.out hw1l).trans F3.out
      by_cases hlt : k < x3.length
      · have hki : (k : Int) < x3.length := by omega
        obtain ⟨e1, e2, n1, n2, s1, s2, hcl1, hcl2⟩ := HCX.out wr k hlt HBW.out
        obtain ⟨s0, hbl⟩ := HC0.out wr k hlt HBW.out
        obtain ⟨r, hr⟩ : ∃ r, r = nthPR x3 k := ⟨_, rfl⟩
        rw [← hr] at s0 s1 s2 hcl1 hcl2
        have HCL1 := Lib.hid hcl1
        have HCL2 := Lib.hid hcl2
        have HRR := Lib.hid hr
        have HRSL : Hid (RS.length = k) := Lib.hid (by rw [HRS.out]; simp; omega)
        clear hr hcl1 hcl2
        have hbq : Below wr.heap.size wr wr := Below.refl _ _
        have hgl := HR.out.hg.2
        have s3 : wr.cell? ⟨g, 3, none⟩ = some (.slice av RS.length cv) := HR.out.c3
        have hgq : g < wr.heap.size := hgl
        have hbz := HB.out.size
        have hwl : blk a3 < wr.heap.size := by omega
        have hob : ∀ x, x ∈ ob (.slice av RS.length cv) → w1.heap.size ≤ x ∧ x < wr.heap.size ∧ x ≠ g := fun x hx => ⟨(HR.out.lst.lt x (ob_sub HR.out.lst _ hx)).1, (HR.out.lst.lt x (ob_sub HR.out.lst _ hx)).2, fun e => HR.out.apG (e ▸ ob_sub HR.out.lst _ hx)⟩
        have HOB := Lib.hid hob
        have HGL := Lib.hid HR.out.lst.lt
        clear hob
        go_wp2
        have hcD : Below wr.heap.size wr wr.drew := (Below.refl _ _).drew
        have hS0 : wr.drew.cell? ⟨g, 3, none⟩ = some (.slice av RS.length cv) ∧ wr.drew.cell? ⟨blk a3, ofs a3 + k * 3, none⟩ = some (.int .i64 r.cell) ∧ wr.drew.cell? ⟨blk a3, ofs a3 + k * 3 + 1, none⟩ = some (.slice (some e1) r.out.length n1) ∧ wr.drew.cell? ⟨blk a3, ofs a3 + k * 3 + 2, none⟩ = some (.slice (some e2) r.inn.length n2) := ⟨s3, s0, s1, s2⟩
        refine wp_region_C (n := 21) (l := #[false, false, false, false, false, false, false, false, false, false, false, false, false, false, false, false, false, false, false, false, false]) (fun wx => wx.cell? ⟨g, 3, none⟩ = some (.slice av RS.length cv) ∧ wx.cell? ⟨blk a3, ofs a3 + k * 3, none⟩ = some (.int .i64 r.cell) ∧ wx.cell? ⟨blk a3, ofs a3 + k * 3 + 1, none⟩ = some (.slice (some e1) r.out.length n1) ∧ wx.cell? ⟨blk a3, ofs a3 + k * 3 + 2, none⟩ = some (.slice (some e2) r.inn.length n2)) [20] (by kernel_rfl) rfl rfl ?_
        refine wpC_take (i := 0) (v := ?v0_34) (l' := #[true, false, false, false, false, false, false, false, false, false, false, false, false, false, false, false, false, false, false, false, false]) [1, 18, 19, 20] rfl (by kernel_rfl) (by kernel_rfl) (by kernel_rfl) (by kernel_rfl) (by kernel_rfl) rfl (fun _ _ _ h => h) (by rfl) (fun wx hS => ?q0_34) (by assumption) ?_
        case q0_34 => (go_simp; try with_reducible rfl)
        try simp only [List.getElem_toArray, List.getElem_cons_zero, Act.put, List.setIfInBounds_toArray, List.set_cons_zero, List.set_cons_succ]
        refine wpC_take (i := 1) (v := ?v1_35) (l' := #[true, true, false, false, false, false, false, false, false, false, false, false, false, false, false, false, false, false, false, false, false]) [18, 19, 20] rfl (by kernel_rfl) (by kernel_rfl) (by kernel_rfl) (by kernel_rfl) (by kernel_rfl) rfl (fun _ _ _ h => h) (by rfl) (fun wx hS => ?q1_35) (by assumption) ?_
        case q1_35 => ((try dsimp only at hS); obtain ⟨hS1, hS2, hS3, hS4⟩ := hS; go_simp; try with_reducible rfl)
        try simp only [List.getElem_toArray, List.getElem_cons_succ, List.getElem_cons_zero, Act.put, List.setIfInBounds_toArray, List.set_cons_zero, List.set_cons_succ]
        refine wpC_take (i := 2) (v := ?v2_36) (l' := #[true, true, true, false, false, false, false, false, false, false, false, false, false, false, false, false, false, false, false, false, false]) [3, 4, 5, 16, 17, 18, 19, 20] rfl (by kernel_rfl) (by kernel_rfl) (by kernel_rfl) (by kernel_rfl) (by kernel_rfl) rfl (fun _ _ _ h => h) (by rfl) (fun wx hS => ?q2_36) (by assumption) ?_
        case q2_36 => (go_simp; try with_reducible rfl)
        try simp only [List.getElem_toArray, List.getElem_cons_succ, List.getElem_cons_zero, Act.put, List.setIfInBounds_toArray, List.set_cons_zero, List.set_cons_succ]
        refine wpC_take (i := 3) (v := ?v3_37) (l' := #[true, true, true, true, false, false, false, false, false, false, false, false, false, false, false, false, false, false, false, false, false]) [4, 5, 16, 17, 18, 19, 20] rfl (by kernel_rfl) (by kernel_rfl) (by kernel_rfl) (by kernel_rfl) (by kernel_rfl) rfl (fun _ _ _ h => h) (by rfl) (fun wx hS => ?q3_37) (by assumption) ?_
        case q3_37 => (go_simp; try with_reducible rfl)
        try simp only [List.getElem_toArray, List.getElem_cons_succ, List.getElem_cons_zero, Act.put, List.setIfInBounds_toArray, List.set_cons_zero, List.set_cons_succ]
        refine wpC_take (i := 4) (v := ?v4_38) (l' := #[true, true, true, true, true, false, false, false, false, false, false, false, false, false, false, false, false, false, false, false, false]) [5, 16, 17, 18, 19, 20] rfl (by kernel_rfl) (by kernel_rfl) (by kernel_rfl) (by kernel_rfl) (by kernel_rfl) rfl (fun _ _ _ h => h) (by rfl) (fun wx hS => ?q4_38) (by assumption) ?_
        case q4_38 => (go_simp; try with_reducible rfl)
        try simp only [List.getElem_toArray, List.getElem_cons_succ, List.getElem_cons_zero, Act.put, List.setIfInBounds_toArray, List.set_cons_zero, List.set_cons_succ]
        refine wpC_take (i := 5) (v := ?v5_39) (l' := #[true, true, true, true, true, true, false, false, false, false, false, false, false, false, false, false, false, false, false, false, false]) [16, 17, 18, 19, 20] rfl (by kernel_rfl) (by kernel_rfl) (by kernel_rfl) (by kernel_rfl) (by kernel_rfl) rfl (fun _ _ _ h => h) (by rfl) (fun wx hS => ?q5_39) (by assumption) ?_
        case q5_39 => ((try dsimp only at hS); obtain ⟨hS1, hS2, hS3, hS4⟩ := hS; go_simp; try with_reducible rfl)
        try simp only [List.getElem_toArray, List.getElem_cons_succ, List.getElem_cons_zero, Act.put, List.setIfInBounds_toArray, List.set_cons_zero, List.set_cons_succ]
        refine wpC_take (i := 6) (v := ?v6_40) (l' := #[true, true, true, true, true, true, true, false, false, false, false, false, false, false, false, false, false, false, false, false, false]) [7, 8, 9, 10, 15, 16, 17, 18, 19, 20] rfl (by kernel_rfl) (by kernel_rfl) (by kernel_rfl) (by kernel_rfl) (by kernel_rfl) rfl (fun _ _ _ h => h) (by rfl) (fun wx hS => ?q6_40) (by assumption) ?_
        case q6_40 => (go_simp; try with_reducible rfl)
        try simp only [List.getElem_toArray, List.getElem_cons_succ, List.getElem_cons_zero, Act.put, List.setIfInBounds_toArray, List.set_cons_zero, List.set_cons_succ]
        refine wpC_take (i := 7) (v := ?v7_41) (l' := #[true, true, true, true, true, true, true, true, false, false, false, false, false, false, false, false, false, false, false, false, false]) [8, 9, 10, 15, 16, 17, 18, 19, 20] rfl (by kernel_rfl) (by kernel_rfl) (by kernel_rfl) (by kernel_rfl) (by kernel_rfl) rfl (fun _ _ _ h => h) (by rfl) (fun wx hS => ?q7_41) (by assumption) ?_
        case q7_41 => (go_simp; try with_reducible rfl)
        try simp only [List.getElem_toArray, List.getElem_cons_succ, List.getElem_cons_zero, Act.put, List.setIfInBounds_toArray, List.set_cons_zero, List.set_cons_succ]
        refine wpC_take (i := 8) (v := ?v8_42) (l' := #[true, true, true, true, true, true, true, true, true, false, false, false, false, false, false, false, false, false, false, false, false]) [9, 10, 15, 16, 17, 18, 19, 20] rfl (by kernel_rfl) (by kernel_rfl) (by kernel_rfl) (by kernel_rfl) (by kernel_rfl) rfl (fun _ _ _ h => h) (by rfl) (fun wx hS => ?q8_42) (by assumption) ?_
        case q8_42 => (go_simp; try with_reducible rfl)
        try simp only [List.getElem_toArray, List.getElem_cons_succ, List.getElem_cons_zero, Act.put, List.setIfInBounds_toArray, List.set_cons_zero, List.set_cons_succ]
        refine wpC_take (i := 9) (v := ?v9_43) (l' := #[true, true, true, true, true, true, true, true, true, true, false, false, false, false, false, false, false, false, false, false, false]) [10, 15, 16, 17, 18, 19, 20] rfl (by kernel_rfl) (by kernel_rfl) (by kernel_rfl) (by kernel_rfl) (by kernel_rfl) rfl (fun _ _ _ h => h) (by rfl) (fun wx hS => ?q9_43) (by assumption) ?_
        case q9_43 => ((try dsimp only at hS); obtain ⟨hS1, hS2, hS3, hS4⟩ := hS; go_simp; try with_reducible rfl)
        try simp only [List.getElem_toArray, List.getElem_cons_succ, List.getElem_cons_zero, Act.put, List.setIfInBounds_toArray, List.set_cons_zero, List.set_cons_succ]
        refine wpC_take (i := 11) (v := ?v11_44) (l' := #[true, true, true, true, true, true, true, true, true, true, false, true, false, false, false, false, false, false, false, false, false]) [12, 13, 14, 15, 16, 17, 18, 19, 20] rfl (by kernel_rfl) (by kernel_rfl) (by kernel_rfl) (by kernel_rfl) (by kernel_rfl) rfl (fun _ _ _ h => h) (by rfl) (fun wx hS => ?q11_44) (by assumption) ?_
        case q11_44 => (go_simp; try with_reducible rfl)
        try simp only [List.getElem_toArray, List.getElem_cons_succ, List.getElem_cons_zero, Act.put, List.setIfInBounds_toArray, List.set_cons_zero, List.set_cons_succ]
        refine wpC_take (i := 12) (v := ?v12_45) (l' := #[true, true, true, true, true, true, true, true, true, true, false, true, true, false, false, false, false, false, false, false, false]) [13, 14, 15, 16, 17, 18, 19, 20] rfl (by kernel_rfl) (by kernel_rfl) (by kernel_rfl) (by kernel_rfl) (by kernel_rfl) rfl (fun _ _ _ h => h) (by rfl) (fun wx hS => ?q12_45) (by assumption) ?_
        case q12_45 => (go_simp; try with_reducible rfl)
        try simp only [List.getElem_toArray, List.getElem_cons_succ, List.getElem_cons_zero, Act.put, List.setIfInBounds_toArray, List.set_cons_zero, List.set_cons_succ]
        refine wpC_take (i := 13) (v := ?v13_46) (l' := #[true, true, true, true, true, true, true, true, true, true, false, true, true, true, false, false, false, false, false, false, false]) [14, 15, 16, 17, 18, 19, 20] rfl (by kernel_rfl) (by kernel_rfl) (by kernel_rfl) (by kernel_rfl) (by kernel_rfl) rfl (fun _ _ _ h => h) (by rfl) (fun wx hS => ?q13_46) (by assumption) ?_
        case q13_46 => (go_simp; try with_reducible rfl)
        try simp only [List.getElem_toArray, List.getElem_cons_succ, List.getElem_cons_zero, Act.put, List.setIfInBounds_toArray, List.set_cons_zero, List.set_cons_succ]
        refine wpC_take (i := 14) (v := ?v14_47) (l' := #[true, true, true, true, true, true, true, true, true, true, false, true, true, true, true, false, false, false, false, false, false]) [15, 16, 17, 18, 19, 20] rfl (by kernel_rfl) (by kernel_rfl) (by kernel_rfl) (by kernel_rfl) (by kernel_rfl) rfl (fun _ _ _ h => h) (by rfl) (fun wx hS => ?q14_47) (by assumption) ?_
        case q14_47 => ((try dsimp only at hS); obtain ⟨hS1, hS2, hS3, hS4⟩ := hS; go_simp; try with_reducible rfl)
        try simp only [List.getElem_toArray, List.getElem_cons_succ, List.getElem_cons_zero, Act.put, List.setIfInBounds_toArray, List.set_cons_zero, List.set_cons_succ]
        refine wpC_one (i := 10) (l' := #[true, true, true, true, true, true, true, true, true, true, true, true, true, true, true, false, false, false, false, false, false]) (by kernel_rfl) rfl rfl (by rfl) (fun Kr hKr => ?_)
        refine step_callV rfl 100 _ _ rfl HRI.out #[.slice (some e2) r.inn.length n2] (by first | rfl | (simp [Act.eval]; done) | (simp [Act.eval]; rfl) | (simp [Act.eval]; repeat' constructor)) (HCL2.out _ (hbq.trans (Below.mono hcD (by omega)))) ?_
        rintro e w4 ⟨v4, F4, rfl, hb4, ho4, hn4, hl4⟩
        obtain ⟨q4, m4, rfl⟩ := ho4.val
        refine ⟨_, rfl, ?_⟩
        have hc4 : Below wr.heap.size wr w4 := hcD.trans (hb4.mono (Nat.le_refl _))
        have hl4' : ∀ x, x ∈ F4 → wr.heap.size ≤ x := hl4
        have hq4 := hc4.size
        have hS4w : w4.cell? ⟨g, 3, none⟩ = some (.slice av RS.length cv) ∧ w4.cell? ⟨blk a3, ofs a3 + k * 3, none⟩ = some (.int .i64 r.cell) ∧ w4.cell? ⟨blk a3, ofs a3 + k * 3 + 1, none⟩ = some (.slice (some e1) r.out.length n1) ∧ w4.cell? ⟨blk a3, ofs a3 + k * 3 + 2, none⟩ = some (.slice (some e2) r.inn.length n2) := ⟨(bcell1 hc4 hgq).trans s3, (bcell1 hc4 hwl).trans s0, (bcell1 hc4 hwl).trans s1, (bcell1 hc4 hwl).trans s2⟩
        refine hKr _ _ (fun _ => hS4w) ?_
        clear hKr Kr
        try simp only [List.getElem_toArray, List.getElem_cons_succ, List.getElem_cons_zero, Act.put, List.setIfInBounds_toArray, List.set_cons_zero, List.set_cons_succ]
        have hi4 : ∀ x, x ∈ F4 → x < w4.heap.size := Ow.lt _ _ _ ho4
        refine wpC_one (i := 15) (l' := #[true, true, true, true, true, true, true, true, true, true, true, true, true, true, true, true, false, false, false, false, false]) (by kernel_rfl) rfl rfl (by rfl) (fun Kr hKr => ?_)
        refine step_callV rfl 100 _ _ rfl HRI.out #[.slice (some e1) r.out.length n1] (by first | rfl | (simp [Act.eval]; done) | (simp [Act.eval]; rfl) | (simp [Act.eval]; repeat' constructor)) (HCL1.out _ (hbq.trans (Below.mono hc4 (by omega)))) ?_
        rintro e w5 ⟨v5, F5, rfl, hb5, ho5, hn5, hl5⟩
        obtain ⟨q5, m5, rfl⟩ := ho5.val
        refine ⟨_, rfl, ?_⟩
        have hc5 : Below wr.heap.size wr w5 := hc4.trans (hb5.mono hc4.size)
        have hq5 := hc5.size
        have hS5w : w5.cell? ⟨g, 3, none⟩ = some (.slice av RS.length cv) ∧ w5.cell? ⟨blk a3, ofs a3 + k * 3, none⟩ = some (.int .i64 r.cell) ∧ w5.cell? ⟨blk a3, ofs a3 + k * 3 + 1, none⟩ = some (.slice (some e1) r.out.length n1) ∧ w5.cell? ⟨blk a3, ofs a3 + k * 3 + 2, none⟩ = some (.slice (some e2) r.inn.length n2) := ⟨(bcell1 hc5 hgq).trans s3, (bcell1 hc5 hwl).trans s0, (bcell1 hc5 hwl).trans s1, (bcell1 hc5 hwl).trans s2⟩
        refine hKr _ _ (fun _ => hS5w) ?_
        clear hKr Kr
        try simp only [List.getElem_toArray, List.getElem_cons_succ, List.getElem_cons_zero, Act.put, List.setIfInBounds_toArray, List.set_cons_zero, List.set_cons_succ]
        refine wpC_take (i := 16) (v := ?v16_48) (l' := #[true, true, true, true, true, true, true, true, true, true, true, true, true, true, true, true, true, false, false, false, false]) [17, 18, 19, 20] rfl (by kernel_rfl) (by kernel_rfl) (by kernel_rfl) (by kernel_rfl) (by kernel_rfl) rfl (fun _ _ _ h => h) (by rfl) (fun wx hS => ?q16_48) (by assumption) ?_
        case q16_48 => (go_simp; try with_reducible rfl)
        try simp only [List.getElem_toArray, List.getElem_cons_succ, List.getElem_cons_zero, Act.put, List.setIfInBounds_toArray, List.set_cons_zero, List.set_cons_succ]
        refine wpC_one (i := 17) (l' := #[true, true, true, true, true, true, true, true, true, true, true, true, true, true, true, true, true, true, false, false, false]) (by kernel_rfl) rfl rfl (by rfl) (fun Kr hKr => ?_)
        have hba := below_alloc w5 (.cells #[.int .i64 r.cell, .slice q4 r.inn.length m4, .slice q5 r.out.length m5] 122)
        have hc6 := hc5.trans (hba.mono hc5.size)
        go_simp
        refine hKr _ _ (fun _ => ⟨(bcell1 hc6 hgq).trans s3, (bcell1 hc6 hwl).trans s0, (bcell1 hc6 hwl).trans s1, (bcell1 hc6 hwl).trans s2⟩) ?_
        clear hKr Kr
        try simp only [List.getElem_toArray, List.getElem_cons_succ, List.getElem_cons_zero, Act.put, List.setIfInBounds_toArray, List.set_cons_zero, List.set_cons_succ]
        have hS6w : (w5.alloc (.cells #[.int .i64 r.cell, .slice q4 r.inn.length m4, .slice q5 r.out.length m5] 122)).cell? ⟨g, 3, none⟩ = some (.slice av RS.length cv) ∧ (w5.alloc (.cells #[.int .i64 r.cell, .slice q4 r.inn.length m4, .slice q5 r.out.length m5] 122)).cell? ⟨blk a3, ofs a3 + k * 3, none⟩ = some (.int .i64 r.cell) ∧ (w5.alloc (.cells #[.int .i64 r.cell, .slice q4 r.inn.length m4, .slice q5 r.out.length m5] 122)).cell? ⟨blk a3, ofs a3 + k * 3 + 1, none⟩ = some (.slice (some e1) r.out.length n1) ∧ (w5.alloc (.cells #[.int .i64 r.cell, .slice q4 r.inn.length m4, .slice q5 r.out.length m5] 122)).cell? ⟨blk a3, ofs a3 + k * 3 + 2, none⟩ = some (.slice (some e2) r.inn.length n2) := ⟨(bcell1 hc6 hgq).trans s3, (bcell1 hc6 hwl).trans s0, (bcell1 hc6 hwl).trans s1, (bcell1 hc6 hwl).trans s2⟩
        have hcw6 := hbq.trans (Below.mono hc6 (by omega))
        have HL6 := Lib.hid (HR.out.lst.below hcw6)
        have HROW := Lib.hid (RowAt.pr (B := w1.heap.size) (L := wr.heap.size) (E := 122) (G := G) (r := r) ho4 hb5 ho5 hn4 hn5 hl4' hl5 (by have := HB.out.size; omega) hc4.size (fun x hx => by have := (HGL.out x hx).2; omega))
        refine wpC_one (i := 18) (l' := #[true, true, true, true, true, true, true, true, true, true, true, true, true, true, true, true, true, true, true, false, false]) (by kernel_rfl) rfl rfl (by rfl) (fun Kr hKr => ?_)
        refine step_lst rfl (.tmp 32) (.tmp 48) 34 rfl tabPassRuleSM rfl (by omega) (by decide) w1.heap.size _ RS.length (RS.flatMap PR.ds) (revPR r).ds G (F4 ++ F5) _ rfl HL6.out w5.heap.size rfl HROW.out (by have := HRSL.out; omega) (by have := HB.out.size; simp; omega) ?_
        intro v7 w7 G7 hN
        obtain ⟨_, a7, c7, rfl⟩ := hN.lst.val
        have hz6 : (w5.alloc (.cells #[.int .i64 r.cell, .slice q4 r.inn.length m4, .slice q5 r.out.length m5] 122)).heap.size = w5.heap.size + 1 := by simp
        have ng : g ∉ ob (.slice av RS.length cv) := fun e => (HOB.out _ e).2.2 rfl
        have nw : blk a3 ∉ ob (.slice av RS.length cv) := fun e => by have := (HOB.out _ e).1; omega
        have hS7w : w7.cell? ⟨g, 3, none⟩ = some (.slice av RS.length cv) ∧ w7.cell? ⟨blk a3, ofs a3 + k * 3, none⟩ = some (.int .i64 r.cell) ∧ w7.cell? ⟨blk a3, ofs a3 + k * 3 + 1, none⟩ = some (.slice (some e1) r.out.length n1) ∧ w7.cell? ⟨blk a3, ofs a3 + k * 3 + 2, none⟩ = some (.slice (some e2) r.inn.length n2) := ⟨(hN.chg.cell (by omega) ng 3).trans hS6w.1, (hN.chg.cell (by omega) nw (ofs a3 + k * 3)).trans hS6w.2.1, (hN.chg.cell (by omega) nw (ofs a3 + k * 3 + 1)).trans hS6w.2.2.1, (hN.chg.cell (by omega) nw (ofs a3 + k * 3 + 2)).trans hS6w.2.2.2⟩
        obtain ⟨d1, d2, hd3, hd4⟩ := HR.out.put hcw6 hN (fun x hx => by rcases List.mem_append.1 hx with hx | hx; (have := hl4' x hx; omega); (have := hl5 x hx; have := hc4.size; omega))
        refine hKr _ _ (fun _ => hS7w) ?_
        clear hKr Kr
        try simp only [List.getElem_toArray, List.getElem_cons_succ, List.getElem_cons_zero, Act.put, List.setIfInBounds_toArray, List.set_cons_zero, List.set_cons_succ]
        have HB9 : Hid (Below w1.heap.size w1 (w7.setCell ⟨g, 3, none⟩ (.slice a7 (RS.length + 1) c7))) := Lib.hid (HB.out.trans hd3)
        have HR9 := Lib.hid hd4
        have HRS9 : Hid (RS ++ [revPR r] = (x3.take (k + 1)).map revPR) := Lib.hid (by rw [List.take_succ_eq_append_getElem hlt, List.map_append, ← HRS.out, HRR.out]; simp [nthPR, hlt])
        clear hd3 hd4 hN hS6w hcw6 hc6 hba
        refine wpC_take (i := 19) (v := ?v19_49) (l' := #[true, true, true, true, true, true, true, true, true, true, true, true, true, true, true, true, true, true, true, true, false]) [20] rfl (by kernel_rfl) (by kernel_rfl) (by kernel_rfl) (by kernel_rfl) (by kernel_rfl) rfl (fun _ _ _ h => h) (by rfl) (fun wx hS => ?q19_49) (by assumption) ?_
        case q19_49 => (go_simp; try with_reducible rfl)
        try simp only [List.getElem_toArray, List.getElem_cons_succ, List.getElem_cons_zero, Act.put, List.setIfInBounds_toArray, List.set_cons_zero, List.set_cons_succ]
        refine wpC_one (i := 20) (l' := #[true, true, true, true, true, true, true, true, true, true, true, true, true, true, true, true, true, true, true, true, true]) (by kernel_rfl) rfl rfl (by rfl) (fun Kr hKr => ?_)
        go_simp
        refine hKr _ _ (fun h => absurd (by decide) h) ?_
        clear hKr Kr
        try simp only [List.getElem_toArray, List.getElem_cons_succ, List.getElem_cons_zero, Act.put, List.setIfInBounds_toArray, List.set_cons_zero, List.set_cons_succ]
        refine wpC_done (by kernel_rfl) ?_ _
        go_wp2
        first
          | (go_roundw
             case rel => exact ⟨k + 1, _, _, _, by omega, by go_num, HRS9, HB9, HR9⟩
             case measure => simp [intOf]; omega)
          | (refine ⟨⟨k + 1, _, _, _, by omega, by go_num, HRS9, HB9, HR9⟩, ?_⟩
             simp [intOf]; omega)
      · obtain rfl : k = x3.length := by omega
        rw [List.take_length] at HRS
        have hRS := HRS.out
        have HRL : Hid (RS.length ≤ 8) := Lib.hid (by rw [hRS]; simp; omega)
        obtain ⟨a', c', e', hcap, hs1⟩ := HR.out.o1.capI
        cases e'
        obtain ⟨a', c', e', hs2⟩ := Rd_B.1 HR.out.o2.rdA
        cases e'
        obtain ⟨G', ho3, _, _⟩ := HR.out.lst.ow (by omega) (by have := HRL.out; unfold maxLen; omega)
        have HV2 := Lib.hid (l06Ok_c (K0 : Int) x1 x2 RS q1 q2 av m1 m2 cv g wr hs1 hs2 ho3.rdA HR.out.c0 HR.out.c1 HR.out.c2 HR.out.c3)
        have g0 := HR.out.c0
        have g1 := HR.out.c1
        have g2 := HR.out.c2
        have g3 := HR.out.c3
        have hgl := HR.out.hg.2
        cases hok2 : okPass (K0 : Int) x1 x2 RS
        · have hres : revS (K0 : Int) x1 x2 x3 = (zPsn, 4) := by rw [revS, if_pos HOK.out, ← hRS, if_neg (by rw [hok2]; simp)]
          rw [hok2] at HV2
          have HRES := Lib.hid hres
          clear hres hok2 hRS hcap hs1 hs2 ho3
          go_wp2_with fail
          refine HV2.out.mono ?_
          rintro e w9 ⟨rfl, hb9⟩
          have HB9 : Hid (Below w1.heap.size w1 w9) := Lib.hid (bnext HB.out hb9 (Nat.le_refl _))
          have HBW9 : Hid (Below w.heap.size w w9) := Lib.hid (HB1.out.trans (HB9.out.mono (by omega)))
          obtain ⟨r0, r1, r2, r3, z0, z1, z2, z3⟩ := RZ.out
          have hlt1 : w.heap.size + 1 < w1.heap.size := by omega
          replace r0 := (bcell1 HB9.out hlt1).trans r0
          replace r1 := (bcell1 HB9.out hlt1).trans r1
          replace r2 := (bcell1 HB9.out hlt1).trans r2
          replace r3 := (bcell1 HB9.out hlt1).trans r3
          replace z0 := (HB9.out.frozen (p := ⟨w.heap.size + 1, 0, none⟩) hlt1).trans z0
          replace z1 := (HB9.out.frozen (p := ⟨w.heap.size + 1, 1, none⟩) hlt1).trans z1
          replace z2 := (HB9.out.frozen (p := ⟨w.heap.size + 1, 2, none⟩) hlt1).trans z2
          replace z3 := (HB9.out.frozen (p := ⟨w.heap.size + 1, 3, none⟩) hlt1).trans z3
          clear hb9 g0 g1 g2 g3
          have sA := set4 w9 (w.heap.size + 1) (.int .i64 0) (.slice none 0 0) (.slice none 0 0) (.slice none 0 0) r0 r1 r2 r3
          go_wp2
          refine bodyPost_ret (v := .tuple #[.agg #[.int .i64 0, .slice none 0 0, .slice none 0 0, .slice none 0 0], .int .i64 4]) (by simp [results, Try.results48, go_sem, sA]) rfl ?_
          rw [HRES.out]
          exact RetAC.zero (b := w.heap.size + 1) HBW9.out (Nat.le_succ _) 4
        · have hres : revS (K0 : Int) x1 x2 x3 = (((K0 : Int), x1, x2, RS), 0) := by rw [revS, if_pos HOK.out, ← hRS, if_pos hok2]
          rw [hok2] at HV2
          have HRES := Lib.hid hres
          clear hres hok2 hRS hcap hs1 hs2 ho3
          go_wp2_with fail
          refine HV2.out.mono ?_
          rintro e w9 ⟨rfl, hb9⟩
          have HB9 : Hid (Below w1.heap.size w1 w9) := Lib.hid (bnext HB.out hb9 (Nat.le_refl _))
          have HBW9 : Hid (Below w.heap.size w w9) := Lib.hid (HB1.out.trans (HB9.out.mono (by omega)))
          have HR9 := Lib.hid (HR.out.keep hb9)
          obtain ⟨r0, r1, r2, r3, z0, z1, z2, z3⟩ := RZ.out
          have hlt1 : w.heap.size + 1 < w1.heap.size := by omega
          replace r0 := (bcell1 HB9.out hlt1).trans r0
          replace r1 := (bcell1 HB9.out hlt1).trans r1
          replace r2 := (bcell1 HB9.out hlt1).trans r2
          replace r3 := (bcell1 HB9.out hlt1).trans r3
          replace z0 := (HB9.out.frozen (p := ⟨w.heap.size + 1, 0, none⟩) hlt1).trans z0
          replace z1 := (HB9.out.frozen (p := ⟨w.heap.size + 1, 1, none⟩) hlt1).trans z1
          replace z2 := (HB9.out.frozen (p := ⟨w.heap.size + 1, 2, none⟩) hlt1).trans z2
          replace z3 := (HB9.out.frozen (p := ⟨w.heap.size + 1, 3, none⟩) hlt1).trans z3
          replace g0 := (bcell1 hb9 hgl).trans g0
          replace g1 := (bcell1 hb9 hgl).trans g1
          replace g2 := (bcell1 hb9 hgl).trans g2
          replace g3 := (bcell1 hb9 hgl).trans g3
          clear hb9
          have sA := set4 w9 (w.heap.size + 1) (.int .i64 K0) (.slice q1 x1.length m1) (.slice q2 x2.length m2) (.slice av RS.length cv) r0 r1 r2 r3
          go_wp2
          refine bodyPost_ret (v := .tuple #[.agg #[.int .i64 K0, .slice q1 x1.length m1, .slice q2 x2.length m2, .slice av RS.length cv], .int .i64 0]) (by simp [results, Try.results48, go_sem, sA]) rfl ?_
          rw [HRES.out]
          exact HR9.out.retAC (b := w.heap.size + 1) HBW9.out (Nat.le_succ _) hlt1 (by have := HRL.out; unfold maxLen; omega)
end Go.Proofs.Ytkoojiplfbcalaa
