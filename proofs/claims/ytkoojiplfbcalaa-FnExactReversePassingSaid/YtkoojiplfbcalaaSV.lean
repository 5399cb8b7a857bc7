/- Valid stocks. -/
import Derived.Test.YtkoojiplfbcalaaPY
namespace Go.Proofs.Ytkoojiplfbcalaa
open Go.RowKit

theorem okPass_ok {x0 : Int} {x1 : List Int} {x2 : List Bool} {x3 : List PR} (h : okPass x0 x1 x2 x3 = true) : 1 ≤ x0 ∧ x0 ≤ 8 ∧ 1 ≤ x1.length ∧ x1.length ≤ 4 ∧ nth x1 0 = -1 ∧ (x2.length : Int) = x0 ∧ x3.length ≤ 8 := by
  simp only [okPass, Bool.and_eq_true] at h
  exact passHead_ok h.1.1
def okStockAll (x0 : Int) (x1 : List Int) (x2 : List Bool) (x3 : List PR) (y0 : List (List Int)) (y1 : List Int) : Bool := okPass x0 x1 x2 x3 && okStock x0 x1.length x2 y0 y1
theorem validStock1_c (x0 : Int) (p : Nat) (a : Option Addr) (c : Nat) (xs : List Int) (w : World) (hx : SlI Any w a xs) (hp : w.cell? ⟨p, 0, none⟩ = some (.int .i64 x0)) :
    Calls Try.prog 187 #[.slice a xs.length c, .pointer (some ⟨p, 0, none⟩)] w (RetP w (.bool (!validBagS x0 xs))) := by
  have HC := Lib.hid (validBag_c x0 Any a c xs w hx)
  go_enter Try.func187, Try.ntmps187
  go_wp2_with fail
  refine HC.out.mono ?_
  rintro e w' ⟨rfl, rfl⟩
  go_wp2
  go_ret
  exact ⟨rfl, rfl⟩
set_option maxHeartbeats 4000000 in
theorem validStock_c (x0 : Int) (x1 : List Int) (x2 : List Bool) (x3 : List PR) (y0 : List (List Int)) (y1 : List Int) (a1 a2 a3 b0 b1 : Option Addr) (c1 c2 c3 d0 d1 : Nat) (w : World) (h1 : SlI Any w a1 x1) (hc1 : x1.length ≤ c1) (h2 : SlB Any w a2 x2) (h3 : Rd Any w (dPR x3) (.slice a3 x3.length c3)) (k0 : SlII Any w b0 y0) (k1 : SlI Any w b1 y1) :
    Calls Try.prog 152 #[.agg #[.int .i64 x0, .slice a1 x1.length c1, .slice a2 x2.length c2, .slice a3 x3.length c3], .agg #[.slice b0 y0.length d0, .slice b1 y1.length d1]] w (RetV w (.bool (okStockAll x0 x1 x2 x3 y0 y1))) := by
  have hb0 : Below w.heap.size w ((w.alloc (.cells #[.int .i64 x0, .slice a1 x1.length c1, .slice a2 x2.length c2, .slice a3 x3.length c3] 36)).alloc (.cells #[.slice b0 y0.length d0, .slice b1 y1.length d1] 38)) := ((Below.refl _ _).alloc (Nat.le_refl _) _).alloc (by simp) _
  have HC := Lib.hid (validPassing_c x0 x1 x2 x3 a1 a2 a3 c1 c2 c3 ((w.alloc (.cells #[.int .i64 x0, .slice a1 x1.length c1, .slice a2 x2.length c2, .slice a3 x3.length c3] 36)).alloc (.cells #[.slice b0 y0.length d0, .slice b1 y1.length d1] 38)) (h1.below hb0) hc1 (h2.below hb0) (h3.below hb0))
  have l0 := k0.len
  have l1 := k1.len
  have l2 := h2.len
  have l3 := h1.len
  unfold maxLen at l0 l1 l2 l3
  have i1 := k1.ix tabI.under tabI.size d1
  have i2 := h2.ix tabB.under tabB.size c2
  have HB0 := Lib.hid hb0
  have H2 := Lib.hid h2
  have K0 := Lib.hid k0
  have K1 := Lib.hid k1
  clear h1 h2 h3 k0 k1 hb0
  cases hP : okPass x0 x1 x2 x3
  · have e : okStockAll x0 x1 x2 x3 y0 y1 = false := by simp [okStockAll, hP]
    rw [e]
    rw [hP] at HC
    clear e hP
    go_enter Try.func152, Try.ntmps152
    go_wp2_with fail
    refine HC.out.mono ?_
    rintro e w1 ⟨rfl, hb1⟩
    have HB1 := Lib.hid (HB0.out.trans (hb1.mono (by simp <;> omega)))
    clear hb1
    go_wp2
    go_ret
    exact ⟨rfl, HB1.out⟩
  · rw [hP] at HC
    have hok := okPass_ok hP
    have hfl := hok.2.2.2.2.2.1
    have HP := Lib.hid hP
    have HOK := Lib.hid hok
    have HFL := Lib.hid hfl
    clear hP hok hfl
    cases hl : ((y0.length : Int) != x1.length)
    rotate_left
    · have e : okStockAll x0 x1 x2 x3 y0 y1 = false := by
        have : ¬ y0.length = x1.length := by simp at hl; omega
        simp [okStockAll, okStock, this]
      rw [e]
      clear e
      go_enter Try.func152, Try.ntmps152
      go_wp2_with fail
      refine HC.out.mono ?_
      rintro e w1 ⟨rfl, hb1⟩
      have f0 : w1.cell? ⟨w.heap.size, 0, none⟩ = some (.int .i64 x0) := by rw [bcell1 hb1 (by simp <;> omega)]; simp [go_sem]
      have f1 : w1.cell? ⟨w.heap.size, 1, none⟩ = some (.slice a1 x1.length c1) := by rw [bcell1 hb1 (by simp <;> omega)]; simp [go_sem]
      have f2 : w1.cell? ⟨w.heap.size, 2, none⟩ = some (.slice a2 x2.length c2) := by rw [bcell1 hb1 (by simp <;> omega)]; simp [go_sem]
      have f3 : w1.cell? ⟨w.heap.size, 3, none⟩ = some (.slice a3 x3.length c3) := by rw [bcell1 hb1 (by simp <;> omega)]; simp [go_sem]
      have e0 : w1.cell? ⟨w.heap.size + 1, 0, none⟩ = some (.slice b0 y0.length d0) := by rw [bcell1 hb1 (by simp <;> omega)]; simp [go_sem]
      have e1 : w1.cell? ⟨w.heap.size + 1, 1, none⟩ = some (.slice b1 y1.length d1) := by rw [bcell1 hb1 (by simp <;> omega)]; simp [go_sem]
      have HB1 := Lib.hid (HB0.out.trans (hb1.mono (by simp <;> omega)))
      clear hb1
      go_wp2
      go_ret
      exact ⟨rfl, HB1.out⟩
    · have HL : Hid (y0.length = x1.length) := Lib.hid (by simp at hl; omega)
      cases hv : validBagS x0 y1
      · have e : okStockAll x0 x1 x2 x3 y0 y1 = false := by simp [okStockAll, okStock, hv]
        rw [e]
        have HV := Lib.hid hv
        clear e hv
        go_enter Try.func152, Try.ntmps152
        go_wp2_with fail
        refine HC.out.mono ?_
        rintro e w1 ⟨rfl, hb1⟩
        have f0 : w1.cell? ⟨w.heap.size, 0, none⟩ = some (.int .i64 x0) := by rw [bcell1 hb1 (by simp <;> omega)]; simp [go_sem]
        have f1 : w1.cell? ⟨w.heap.size, 1, none⟩ = some (.slice a1 x1.length c1) := by rw [bcell1 hb1 (by simp <;> omega)]; simp [go_sem]
        have f2 : w1.cell? ⟨w.heap.size, 2, none⟩ = some (.slice a2 x2.length c2) := by rw [bcell1 hb1 (by simp <;> omega)]; simp [go_sem]
        have f3 : w1.cell? ⟨w.heap.size, 3, none⟩ = some (.slice a3 x3.length c3) := by rw [bcell1 hb1 (by simp <;> omega)]; simp [go_sem]
        have e0 : w1.cell? ⟨w.heap.size + 1, 0, none⟩ = some (.slice b0 y0.length d0) := by rw [bcell1 hb1 (by simp <;> omega)]; simp [go_sem]
        have e1 : w1.cell? ⟨w.heap.size + 1, 1, none⟩ = some (.slice b1 y1.length d1) := by rw [bcell1 hb1 (by simp <;> omega)]; simp [go_sem]
        have HB1 := Lib.hid (HB0.out.trans (hb1.mono (by simp <;> omega)))
        have HVB := Lib.hid (validBag_c x0 Any b1 d1 y1 w1 (K1.out.below HB1.out))
        rw [HV.out] at HVB
        clear hb1
        go_wp2_with fail
        refine HVB.out.mono ?_
        rintro e w2 ⟨rfl, rfl⟩
        go_wp2
        go_ret
        exact ⟨rfl, HB1.out⟩
      · have HV := Lib.hid hv
        have HYL := Lib.hid (validBagS_ok hv).2
        clear hv
        go_enter Try.func152, Try.ntmps152
        go_wp2_with fail
        refine HC.out.mono ?_
        rintro e w1 ⟨rfl, hb1⟩
        have f0 : w1.cell? ⟨w.heap.size, 0, none⟩ = some (.int .i64 x0) := by rw [bcell1 hb1 (by simp <;> omega)]; simp [go_sem]
        have f1 : w1.cell? ⟨w.heap.size, 1, none⟩ = some (.slice a1 x1.length c1) := by rw [bcell1 hb1 (by simp <;> omega)]; simp [go_sem]
        have f2 : w1.cell? ⟨w.heap.size, 2, none⟩ = some (.slice a2 x2.length c2) := by rw [bcell1 hb1 (by simp <;> omega)]; simp [go_sem]
        have f3 : w1.cell? ⟨w.heap.size, 3, none⟩ = some (.slice a3 x3.length c3) := by rw [bcell1 hb1 (by simp <;> omega)]; simp [go_sem]
        have e0 : w1.cell? ⟨w.heap.size + 1, 0, none⟩ = some (.slice b0 y0.length d0) := by rw [bcell1 hb1 (by simp <;> omega)]; simp [go_sem]
        have e1 : w1.cell? ⟨w.heap.size + 1, 1, none⟩ = some (.slice b1 y1.length d1) := by rw [bcell1 hb1 (by simp <;> omega)]; simp [go_sem]
        have HB1 := Lib.hid (HB0.out.trans (hb1.mono (by simp <;> omega)))
        have HVB := Lib.hid (validBag_c x0 Any b1 d1 y1 w1 (K1.out.below HB1.out))
        rw [HV.out] at HVB
        clear hb1
        go_wp2_with fail
        refine HVB.out.mono ?_
        rintro e w2 ⟨rfl, rfl⟩
        clear f1 f3
        go_wp2
        go_loopw [5, 6, 30] (fun _ _ i wr => ∃ k : Nat, k ≤ y1.length ∧ i = .int .i64 k ∧ w1 = wr ∧ (∀ j, j < k → free1 x2 y1 j = false)) (fun _ _ i _ => y1.length - (intOf i).toNat)
        case atStart => exact ⟨0, Nat.zero_le _, rfl, rfl, by omega⟩
        case round =>
          obtain ⟨k, hk, rfl, rfl, hj⟩ := hrel
          have HJ := Lib.hid hj
          clear hj
          by_cases hlt : k < y1.length
          · have k2 : (k : Int) < x2.length := by have := HFL.out; have := HYL.out; omega
            have g1 := (K1.out.below HB1.out).cell k hlt
            have g2 := (H2.out.below HB1.out).cell k (by omega)
            by_cases hp : 0 < nth y1 k
            · cases hb : nthB x2 k
              · have HR : Hid (free1 x2 y1 k = false) := Lib.hid (by simp [free1, hb])
                rw [hb] at g2
                clear hb
                go_wp2
                go_roundw
                case rel => exact ⟨k + 1, by omega, by go_num, trivial, upto HJ.out HR.out⟩
                case measure => simp [intOf]; omega
              · have HR : Hid (okStockAll x0 x1 x2 x3 y0 y1 = false) := Lib.hid (by
                  have : noFreeS x2 y1 = false := noFreeS_false hlt (by simp [free1, hb, hp])
                  simp [okStockAll, okStock, this])
                rw [hb] at g2
                clear hb
                go_wp2
                go_ret
                exact ⟨ret_bool HR.out.symm, HB1.out⟩
            · have HR : Hid (free1 x2 y1 k = false) := Lib.hid (by simp [free1, hp])
              go_wp2
              go_roundw
              case rel => exact ⟨k + 1, by omega, by go_num, trivial, upto HJ.out HR.out⟩
              case measure => simp [intOf]; omega
          · have e : k = y1.length := by omega
            have hnf := noFreeS_true (free := x2) (xs := y1) (e ▸ HJ.out)
            have HR : Hid (okStockAll x0 x1 x2 x3 y0 y1 = allII (validBagS x0) y0) := Lib.hid (by simp only [okStockAll, okStock, HP.out, HV.out, hnf, HL.out, decide_true, Bool.true_and])
            have HCF := Lib.hid (containsFuncII_c 187 #[.pointer (some ⟨w.heap.size, 0, none⟩)] (fun p => !validBagS x0 p) (callFunc_run Try.func187 (by kernel_rfl) rfl) Any b0 d0 y0 w1 (K0.out.below HB1.out)
              (Lib.hid fun j hj a' d' h => validStock1_c x0 w.heap.size a' d' _ w1 h f0))
            rw [anyII_not] at HCF
            clear hnf
            go_wp2_with fail
            refine HCF.out.mono ?_
            rintro e w9 ⟨rfl, rfl⟩
            go_wp2
            go_ret
            exact ⟨ret_bool (by first | (rw [HR.out]; done) | (rw [HR.out]; simp)), HB1.out⟩
theorem implValidStock_d (x0 : Int) (x1 : List Int) (x2 : List Bool) (x3 : List PR) (y0 : List (List Int)) (y1 : List Int) {v1 v2 v3 u0 u1 : Value} {F1 F2 F3 G0 G1 : List Nat} (w : World) (h1 : Ow w (dI x1) v1 F1) (h2 : Ow w (dB x2) v2 F2) (h3 : Ow w (dPR x3) v3 F3) (k0 : Ow w (dII y0) u0 G0) (k1 : Ow w (dI y1) u1 G1) :
    Calls Try.prog 152 #[.agg #[.int .i64 x0, v1, v2, v3], .agg #[u0, u1]] w (RetV w (.bool (okStockAll x0 x1 x2 x3 y0 y1))) := by
  obtain ⟨a1, c1, rfl, hc1, j1⟩ := h1.capI
  obtain ⟨a2, c2, rfl, j2⟩ := Rd_B.1 h2.rdA
  obtain ⟨a3, c3, rfl, _⟩ := Rd_PR h3.rdA
  obtain ⟨b0, d0, rfl, j3⟩ := Rd_II.1 k0.rdA
  obtain ⟨b1, d1, rfl, j4⟩ := Rd_I.1 k1.rdA
  exact validStock_c x0 x1 x2 x3 y0 y1 a1 a2 a3 b0 b1 c1 c2 c3 d0 d1 w j1 hc1 j2 h3.rdA j3 j4
set_option maxHeartbeats 4000000 in
theorem l06Stock_c (x0 : Int) (np nr : Nat) (x2 : List Bool) (y0 : List (List Int)) (y1 : List Int) (a1 a2 a3 b0 b1 : Option Addr) (c1 c2 c3 d0 d1 : Nat) (p q : Nat) (w : World) (h2 : SlB Any w a2 x2) (k0 : SlII Any w b0 y0) (k1 : SlI Any w b1 y1)
    (hp0 : w.cell? ⟨p, 0, none⟩ = some (.int .i64 x0)) (hp1 : w.cell? ⟨p, 1, none⟩ = some (.slice a1 np c1)) (hp2 : w.cell? ⟨p, 2, none⟩ = some (.slice a2 x2.length c2)) (hp3 : w.cell? ⟨p, 3, none⟩ = some (.slice a3 nr c3))
    (hq0 : w.cell? ⟨q, 0, none⟩ = some (.slice b0 y0.length d0)) (hq1 : w.cell? ⟨q, 1, none⟩ = some (.slice b1 y1.length d1)) (hx0 : 1 ≤ x0 ∧ x0 ≤ 8) (_hnp : np ≤ 4) (hfl : (x2.length : Int) = x0) :
    Calls Try.prog 130 #[.pointer (some ⟨p, 0, none⟩), .pointer (some ⟨q, 0, none⟩)] w (RetV w (.bool (okStock x0 np x2 y0 y1))) := by
  have l0 := k0.len
  have l1 := k1.len
  have l2 := h2.len
  unfold maxLen at l0 l1 l2
  have i0 := k0.ix tabII.under tabII.size d0
  have i1 := k1.ix tabI.under tabI.size d1
  have i2 := h2.ix tabB.under tabB.size c2
  have hpl : p < w.heap.size := World.block_lt_of_cell? w _ hp0
  have hql : q < w.heap.size := World.block_lt_of_cell? w _ hq0
  have hv : ∀ x : Wd w, Calls Try.prog 131 #[.int .i64 x0, .slice b1 y1.length d1] (wat x) (RetP (wat x) (.bool (validBagS x0 y1))) := fun x => by rw [← bag6_eq hx0]; exact l06Bag_c x0 Any b1 d1 y1 _ (k1.below (wat_below x))
  have HV := Lib.hid (fun x : Wd w => callsP (hv x))
  have H2 := Lib.hid h2
  have K0 := Lib.hid k0
  have K1 := Lib.hid k1
  have HX0 := Lib.hid hx0
  have HFL := Lib.hid hfl
  have z0 := wat_cell hp0
  have z1 := wat_cell hp1
  have z2 := wat_cell hp2
  have z3 := wat_cell hp3
  have t0 := wat_cell hq0
  have t1 := wat_cell hq1
  clear hv h2 k0 k1 hfl
  cases hl : ((y0.length : Int) != np)
  rotate_left
  · have e : okStock x0 np x2 y0 y1 = false := by
      have : ¬ y0.length = np := by simp at hl; omega
      simp [okStock, this]
    rw [e]
    clear e
    go_enter Try.func130, Try.ntmps130
    go_wp2
    refine wp_quiet_wd (by kernel_rfl) (by kernel_rfl) ?_
    repeat (go_big_quiet_step (first | with_reducible exact wdV (HV.out _)))
    refine wpQuiet_nil ?_
    rintro _ ⟨wq, rfl⟩
    go_wp2
    go_ret
    exact ⟨rfl, wat_below wq⟩
  · have HL : Hid (y0.length = np) := Lib.hid (by simp at hl; omega)
    cases hvb : validBagS x0 y1
    · have e : okStock x0 np x2 y0 y1 = false := by simp [okStock, hvb]
      rw [e]
      rw [hvb] at HV
      clear e hvb
      go_enter Try.func130, Try.ntmps130
      go_wp2
      refine wp_quiet_wd (by kernel_rfl) (by kernel_rfl) ?_
      repeat (go_big_quiet_step (first | with_reducible exact wdV (HV.out _)))
      refine wpQuiet_nil ?_
      rintro _ ⟨wq, rfl⟩
      go_wp2
      go_ret
      exact ⟨rfl, wat_below wq⟩
    · have HVB := Lib.hid hvb
      have HYL := Lib.hid (validBagS_ok hvb).2
      rw [hvb] at HV
      clear hvb
      go_enter Try.func130, Try.ntmps130
      go_wp2
      refine wp_quiet_wd (by kernel_rfl) (by kernel_rfl) ?_
      repeat (go_big_quiet_step (first | with_reducible exact wdV (HV.out _)))
      refine wpQuiet_nil ?_
      rintro _ ⟨wq, rfl⟩
      have HWB := Lib.hid (wat_below wq)
      clear z0 z1 z2 z3 t0 t1
      go_wp2
      go_loopw [5] (fun i wr => ∃ k : Nat, k ≤ y0.length ∧ i = .int .i64 k ∧ Below w.heap.size w wr ∧ (∀ j, j < k → validBagS x0 (nthR y0 j) = true)) (fun i _ => y0.length - (intOf i).toNat)
      case atStart => exact ⟨0, Nat.zero_le _, rfl, HWB.out, by omega⟩
      case round =>
        obtain ⟨k, hk, rfl, hb, hj⟩ := hrel
        have HJ := Lib.hid hj
        have HB := Lib.hid hb
        have f0 := (bcell1 hb hpl).trans hp0
        have f2 := (bcell1 hb hpl).trans hp2
        have e0 := (bcell1 hb hql).trans hq0
        have e1 := (bcell1 hb hql).trans hq1
        clear hj hb
        by_cases hlt : k < y0.length
        · obtain ⟨a', d', g1, hs⟩ := (K0.out.below HB.out).cell k hlt
          have hv : ∀ x : Wd wr, Calls Try.prog 131 #[.int .i64 x0, .slice a' (nthR y0 k).length d'] (wat x) (RetP (wat x) (.bool (validBagS x0 (nthR y0 k)))) := fun x => by rw [← bag6_eq HX0.out]; exact l06Bag_c x0 Any a' d' _ _ (hs.below (wat_below x))
          have HV2 := Lib.hid (fun x : Wd wr => callsP (hv x))
          have z0 := wat_cell f0
          have t0 := wat_cell e0
          have t1 := wat_cell g1
          clear hv hs
          cases hp : validBagS x0 (nthR y0 k)
          · have HR : Hid (okStock x0 np x2 y0 y1 = false) := Lib.hid (by
              have := allII_false (p := validBagS x0) hlt hp
              simp [okStock, this])
            rw [hp] at HV2
            clear hp
            go_wp2
            refine wp_quiet_wd (by kernel_rfl) (by kernel_rfl) ?_
            repeat (go_big_quiet_step (with_reducible exact wdV (HV2.out _)))
            refine wpQuiet_nil ?_
            rintro _ ⟨wq, rfl⟩
            go_wp2
            go_ret
            exact ⟨ret_bool HR.out.symm, bnext HB.out (wat_below wq) (Nat.le_refl _)⟩
          · have HR := Lib.hid hp
            rw [hp] at HV2
            clear hp
            go_wp2
            refine wp_quiet_wd (by kernel_rfl) (by kernel_rfl) ?_
            repeat (go_big_quiet_step (with_reducible exact wdV (HV2.out _)))
            refine wpQuiet_nil ?_
            rintro _ ⟨wq, rfl⟩
            go_wp2
            go_roundw
            case rel => exact ⟨k + 1, by omega, by go_num, bnext HB.out (wat_below wq) (Nat.le_refl _), upto HJ.out HR.out⟩
            case measure => simp [intOf]; omega
        · have e : k = y0.length := by omega
          have HA := Lib.hid (allII_true (p := validBagS x0) (xs := y0) (e ▸ HJ.out))
          clear HJ e
          go_wp2
          clear hlt hk
          go_loopw [6] (fun i wx => ∃ k : Nat, k ≤ y1.length ∧ i = .int .i64 k ∧ wr = wx ∧ (∀ j, j < k → free1 x2 y1 j = false)) (fun i _ => y1.length - (intOf i).toNat)
          case atStart => exact ⟨0, Nat.zero_le _, rfl, rfl, by omega⟩
          case round =>
            obtain ⟨k, hk, rfl, rfl, hj⟩ := hrel
            have HJ := Lib.hid hj
            clear hj
            by_cases hlt : k < y1.length
            · have k2 : (k : Int) < x2.length := by have := HFL.out; have := HYL.out; omega
              have g1 := (K1.out.below HB.out).cell k hlt
              have g2 := (H2.out.below HB.out).cell k (by omega)
              cases hb : nthB x2 k
              · have HR : Hid (free1 x2 y1 k = false) := Lib.hid (by simp [free1, hb])
                rw [hb] at g2
                clear hb
                go_wp2
                go_roundw
                case rel => exact ⟨k + 1, by omega, by go_num, trivial, upto HJ.out HR.out⟩
                case measure => simp [intOf]; omega
              · rw [hb] at g2
                by_cases hp : 0 < nth y1 k
                · have HR : Hid (okStock x0 np x2 y0 y1 = false) := Lib.hid (by
                    have : noFreeS x2 y1 = false := noFreeS_false hlt (by simp [free1, hb, hp])
                    simp [okStock, this])
                  clear hb
                  go_wp2
                  go_ret
                  exact ⟨ret_bool HR.out.symm, HB.out⟩
                · have HR : Hid (free1 x2 y1 k = false) := Lib.hid (by simp [free1, hp])
                  clear hb
                  go_wp2
                  go_roundw
                  case rel => exact ⟨k + 1, by omega, by go_num, trivial, upto HJ.out HR.out⟩
                  case measure => simp [intOf]; omega
            · have e : k = y1.length := by omega
              have hnf := noFreeS_true (free := x2) (xs := y1) (e ▸ HJ.out)
              have HR : Hid (okStock x0 np x2 y0 y1 = true) := Lib.hid (by simp only [okStock, HVB.out, hnf, HA.out, HL.out, decide_true, Bool.and_self])
              clear hnf
              go_wp2
              go_ret
              exact ⟨ret_bool HR.out.symm, HB.out⟩
