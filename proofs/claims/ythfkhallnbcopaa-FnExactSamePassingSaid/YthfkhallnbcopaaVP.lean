/- Passing systems: compared. -/
import Derived.Test.YthfkhallnbcopaaTP
import Derived.Test.YthfkhallnbcopaaYP
namespace Go.Proofs.Ythfkhallnbcopaa
open Go.RowKit

def prB (a b : PR) : Bool := (a.cell == b.cell) && eqI a.out b.out && eqI a.inn b.inn
def eqPR (xs ys : List PR) : Bool := decide (xs.length = ys.length) && (List.range xs.length).all fun i => prB (nthPR xs i) (nthPR ys i)
theorem eqPR_len {xs ys : List PR} (h : ¬ xs.length = ys.length) : eqPR xs ys = false := by simp [eqPR, h]
theorem eqPR_true {xs ys : List PR} (h : xs.length = ys.length) (h2 : ∀ j, j < xs.length → prB (nthPR xs j) (nthPR ys j) = true) : eqPR xs ys = true := by
  rw [eqPR, h]
  simp only [decide_true, Bool.true_and]
  rw [List.all_eq_true]; intro j hj; exact h2 j (by rw [h]; simpa using hj)
theorem eqPR_false {xs ys : List PR} {k : Nat} (hk : k < xs.length) (h : prB (nthPR xs k) (nthPR ys k) = false) : eqPR xs ys = false := by
  have : ((List.range xs.length).all fun i => prB (nthPR xs i) (nthPR ys i)) = false := by
    rw [List.all_eq_false]; exact ⟨k, by simpa using hk, by rw [h]; simp⟩
  rw [eqPR, this, Bool.and_false]
def samePa (x0 : Int) (x1 : List Int) (x2 : List Bool) (x3 : List PR) (y0 : Int) (y1 : List Int) (y2 : List Bool) (y3 : List PR) : Bool := (x0 == y0) && eqI x1 y1 && eqB x2 y2 && eqPR x3 y3
set_option maxHeartbeats 1000000 in
theorem samePR1_c (x y : PR) (a1 b1 a2 b2 : Option Addr) (c1 d1 c2 d2 : Nat) (w : World) (h1 : SlI Any w a1 x.out) (h2 : SlI Any w a2 x.inn) (g1 : SlI Any w b1 y.out) (g2 : SlI Any w b2 y.inn) :
    Calls Try.prog 129 #[.agg #[.int .i64 x.cell, .slice a1 x.out.length c1, .slice a2 x.inn.length c2], .agg #[.int .i64 y.cell, .slice b1 y.out.length d1, .slice b2 y.inn.length d2]] w (RetV w (.bool (prB x y))) := by
  have hb : Below w.heap.size w ((w.alloc (.cells #[.int .i64 x.cell, .slice a1 x.out.length c1, .slice a2 x.inn.length c2] 117)).alloc (.cells #[.int .i64 y.cell, .slice b1 y.out.length d1, .slice b2 y.inn.length d2] 117)) := ((Below.refl _ _).alloc (Nat.le_refl _) _).alloc (by simp) _
  have HC := Lib.hid (slicesEqualI_c Any Any a1 b1 c1 d1 x.out y.out _ (h1.below hb) (g1.below hb))
  have HD := Lib.hid (fun n => slicesEqualI_c Any Any a2 b2 c2 d2 x.inn y.inn _ (h2.below (hb.trans (below_drewN _ _ n))) (g2.below (hb.trans (below_drewN _ _ n))))
  have HB := Lib.hid hb
  clear hb
  cases h : (x.cell == y.cell)
  · have e : prB x y = false := by simp [prB, h]
    rw [e]; clear e
    go_enter Try.func129, Try.ntmps129
    go_wp2
    go_ret
    exact ⟨rfl, HB.out⟩
  · cases k1 : eqI x.out y.out
    · have e : prB x y = false := by simp [prB, k1]
      rw [e]; clear e
      rw [k1] at HC
      go_enter Try.func129, Try.ntmps129
      go_wp2_with fail
      refine HC.out.mono ?_
      rintro e w' ⟨rfl, n, rfl⟩
      go_wp2
      go_ret
      exact ⟨rfl, HB.out.trans (below_drewN _ _ _)⟩
    · have e : prB x y = eqI x.inn y.inn := by simp [prB, h, k1]
      rw [e]; clear e
      rw [k1] at HC
      go_enter Try.func129, Try.ntmps129
      go_wp2_with fail
      refine HC.out.mono ?_
      rintro e w' ⟨rfl, n, rfl⟩
      go_wp2_with fail
      refine (HD.out n).mono ?_
      rintro e w' ⟨rfl, m, rfl⟩
      go_wp2
      go_ret
      exact ⟨rfl, HB.out.trans (below_drewN _ _ _)⟩
set_option maxHeartbeats 2000000 in
theorem equalFuncPR_c (xs ys : List PR) (u v : Value) (w : World) (hx : Rd Any w (dPR xs) u) (hy : Rd Any w (dPR ys) v) :
    Calls Try.prog 128 #[u, v, .func (.func 129) #[] #[]] w (RetV w (.bool (eqPR xs ys))) := by
  obtain ⟨a, c, rfl, hxs⟩ := Rd_PR hx
  obtain ⟨b, d, rfl, hys⟩ := Rd_PR hy
  have l1 := hxs.len
  have l2 := hys.len
  unfold maxLen at l1 l2
  cases hl : ((xs.length : Int) != ys.length)
  · have hq : xs.length = ys.length := by simp at hl; omega
    have HQ := Lib.hid hq
    clear hq
    have i1 := ix_of (P := Try.prog) tabPassRuleSM.under tabPassRuleSM.size hxs.ptr c
    have i2 := ix_of (P := Try.prog) tabPassRuleSM.under tabPassRuleSM.size hys.ptr d
    clear hxs hys
    go_enter Try.func128, Try.ntmps128
    go_wp2
    go_loopw [7, 8, 9, 17] (fun _ _ _ i wr => ∃ k : Nat, k ≤ xs.length ∧ i = .int .i64 k ∧ Below w.heap.size w wr ∧ (∀ j, j < k → prB (nthPR xs j) (nthPR ys j) = true)) (fun _ _ _ i _ => xs.length - (intOf i).toNat)
    case atStart => exact ⟨0, Nat.zero_le _, rfl, Below.refl _ _, by omega⟩
    case round =>
        obtain ⟨k, hk, rfl, hb, hj⟩ := hrel
        have HJ := Lib.hid hj
        have HB := Lib.hid hb
        clear hj hb
        by_cases hlt : k < xs.length
        · have hlt2 : k < ys.length := by have := HQ.out; omega
          have k2 : (k : Int) < ys.length := by omega
          obtain ⟨_, _, ex, hxs⟩ := Rd_PR (hx.below HB.out)
          obtain ⟨_, _, ey, hys⟩ := Rd_PR (hy.below HB.out)
          cases ex
          cases ey
          have g0 := hxs.c0 k hlt
          obtain ⟨a1, c1, g1, h1⟩ := hxs.c1 k hlt
          obtain ⟨a2, c2, g2, h2⟩ := hxs.c2 k hlt
          have f0 := hys.c0 k hlt2
          obtain ⟨b1, d1, f1, e1⟩ := hys.c1 k hlt2
          obtain ⟨b2, d2, f2, e2⟩ := hys.c2 k hlt2
          have HC := Lib.hid (fun (wx : World) (hb : Below wr.heap.size wr wx) => samePR1_c (nthPR xs k) (nthPR ys k) a1 b1 a2 b2 c1 d1 c2 d2 wx (h1.below hb) (h2.below hb) (e1.below hb) (e2.below hb))
          have hz := HB.out.size
          have F0 := fun o => ((below_alloc wr o).cell (World.block_lt_of_cell? wr _ f0)).trans f0
          have F1 := fun o => ((below_alloc wr o).cell (World.block_lt_of_cell? wr _ f1)).trans f1
          have F2 := fun o => ((below_alloc wr o).cell (World.block_lt_of_cell? wr _ f2)).trans f2
          clear hxs hys h1 h2 e1 e2 f0 f1 f2
          cases hp : prB (nthPR xs k) (nthPR ys k)
          · have HP := Lib.hid hp
            rw [hp] at HC
            clear hp
            go_wp2_with fail
            refine (HC.out _ (((Below.refl _ _).alloc (Nat.le_refl _) _).alloc (by simp) _)).mono ?_
            rintro e w' ⟨rfl, hb'⟩
            have hbb := HB.out.trans ((((Below.refl _ _).alloc (Nat.le_refl _) _).alloc (by simp) _ |>.trans (hb'.mono (by simp; omega))).mono hz)
            clear hb'
            go_wp2
            go_ret
            exact ⟨ret_bool (eqPR_false hlt HP.out).symm, hbb⟩
          · have HP := Lib.hid hp
            rw [hp] at HC
            clear hp
            go_wp2_with fail
            refine (HC.out _ (((Below.refl _ _).alloc (Nat.le_refl _) _).alloc (by simp) _)).mono ?_
            rintro e w' ⟨rfl, hb'⟩
            have hbb := HB.out.trans ((((Below.refl _ _).alloc (Nat.le_refl _) _).alloc (by simp) _ |>.trans (hb'.mono (by simp; omega))).mono hz)
            clear hb' g0 g1 g2 F0 F1 F2
            go_wp2
            go_roundw
            case rel => exact ⟨k + 1, by omega, by go_num, hbb, upto HJ.out HP.out⟩
            case measure => simp [intOf]; omega
        · go_wp2
          go_ret
          have e : k = xs.length := by omega
          exact ⟨ret_bool (eqPR_true HQ.out (e ▸ HJ.out)).symm, HB.out⟩
  · have hq : ¬ xs.length = ys.length := by simp at hl; omega
    have HQ := Lib.hid hq
    clear hq
    go_enter Try.func128, Try.ntmps128
    go_wp2
    go_ret
    exact ⟨ret_bool (eqPR_len HQ.out).symm, Below.refl _ _⟩
set_option maxHeartbeats 2000000 in
theorem implSamePassing_d (x0 : Int) (x1 : List Int) (x2 : List Bool) (x3 : List PR) (y0 : Int) (y1 : List Int) (y2 : List Bool) (y3 : List PR) {u1 u2 u3 v1 v2 v3 : Value} (w : World) (hx1 : Rd Any w (dI x1) u1) (hx2 : Rd Any w (dB x2) u2) (hx3 : Rd Any w (dPR x3) u3) (hy1 : Rd Any w (dI y1) v1) (hy2 : Rd Any w (dB y2) v2) (hy3 : Rd Any w (dPR y3) v3) :
    Calls Try.prog 56 #[.agg #[.int .i64 x0, u1, u2, u3], .agg #[.int .i64 y0, v1, v2, v3]] w (RetV w (.bool (samePa x0 x1 x2 x3 y0 y1 y2 y3))) := by
  obtain ⟨a1, c1, rfl, kx1⟩ := Rd_I.1 hx1
  obtain ⟨a2, c2, rfl, kx2⟩ := Rd_B.1 hx2
  obtain ⟨a3, c3, rfl, _⟩ := Rd_PR hx3
  obtain ⟨b1, d1, rfl, ky1⟩ := Rd_I.1 hy1
  obtain ⟨b2, d2, rfl, ky2⟩ := Rd_B.1 hy2
  obtain ⟨b3, d3, rfl, _⟩ := Rd_PR hy3
  have hb : Below w.heap.size w ((w.alloc (.cells #[.int .i64 x0, .slice a1 x1.length c1, .slice a2 x2.length c2, .slice a3 x3.length c3] 38)).alloc (.cells #[.int .i64 y0, .slice b1 y1.length d1, .slice b2 y2.length d2, .slice b3 y3.length d3] 38)) := ((Below.refl _ _).alloc (Nat.le_refl _) _).alloc (by simp) _
  have HC := Lib.hid (slicesEqualI_c Any Any a1 b1 c1 d1 x1 y1 _ (kx1.below hb) (ky1.below hb))
  have HD := Lib.hid (fun n => slicesEqualB_c Any Any a2 b2 c2 d2 x2 y2 _ (kx2.below (hb.trans (below_drewN _ _ n))) (ky2.below (hb.trans (below_drewN _ _ n))))
  have HE := Lib.hid (fun n => equalFuncPR_c x3 y3 _ _ _ (hx3.below (hb.trans (below_drewN _ _ n))) (hy3.below (hb.trans (below_drewN _ _ n))))
  have HB := Lib.hid hb
  clear hb hx1 hx2 hx3 hy1 hy2 hy3 kx1 kx2 ky1 ky2
  cases h : (x0 == y0)
  · have e : samePa x0 x1 x2 x3 y0 y1 y2 y3 = false := by simp [samePa, h]
    rw [e]; clear e
    go_enter Try.func56, Try.ntmps56
    go_wp2
    go_ret
    exact ⟨rfl, HB.out⟩
  · cases k1 : eqI x1 y1
    · have e : samePa x0 x1 x2 x3 y0 y1 y2 y3 = false := by simp [samePa, k1]
      rw [e]; clear e
      rw [k1] at HC
      go_enter Try.func56, Try.ntmps56
      go_wp2_with fail
      refine HC.out.mono ?_
      rintro e w' ⟨rfl, n, rfl⟩
      go_wp2
      go_ret
      exact ⟨rfl, HB.out.trans (below_drewN _ _ _)⟩
    · rw [k1] at HC
      cases k2 : eqB x2 y2
      · have e : samePa x0 x1 x2 x3 y0 y1 y2 y3 = false := by simp [samePa, k2]
        rw [e]; clear e
        have HD' := Lib.hid (fun n => k2 ▸ HD.out n)
        clear HD
        go_enter Try.func56, Try.ntmps56
        go_wp2_with fail
        refine HC.out.mono ?_
        rintro e w' ⟨rfl, n, rfl⟩
        go_wp2_with fail
        refine (HD'.out n).mono ?_
        rintro e w' ⟨rfl, m, rfl⟩
        go_wp2
        go_ret
        exact ⟨rfl, HB.out.trans (below_drewN _ _ _)⟩
      · have e : samePa x0 x1 x2 x3 y0 y1 y2 y3 = eqPR x3 y3 := by simp [samePa, h, k1, k2]
        rw [e]; clear e
        have HD' := Lib.hid (fun n => k2 ▸ HD.out n)
        clear HD
        go_enter Try.func56, Try.ntmps56
        go_wp2_with fail
        refine HC.out.mono ?_
        rintro e w' ⟨rfl, n, rfl⟩
        go_wp2_with fail
        refine (HD'.out n).mono ?_
        rintro e w' ⟨rfl, m, rfl⟩
        rw [World.drewN_drewN]
        go_wp2_with fail
        refine (HE.out _).mono ?_
        rintro e w' ⟨rfl, hb'⟩
        have hbb := bnext HB.out ((below_drewN _ _ _).trans hb') (Nat.le_refl _)
        clear hb'
        go_wp2
        go_ret
        exact ⟨rfl, hbb⟩
set_option maxHeartbeats 4000000 in
theorem specSamePassing_d (x0 : Int) (x1 : List Int) (x2 : List Bool) (x3 : List PR) (y0 : Int) (y1 : List Int) (y2 : List Bool) (y3 : List PR) {u1 u2 u3 v1 v2 v3 : Value} (w : World) (hx1 : Rd Any w (dI x1) u1) (hx2 : Rd Any w (dB x2) u2) (hx3 : Rd Any w (dPR x3) u3) (hy1 : Rd Any w (dI y1) v1) (hy2 : Rd Any w (dB y2) v2) (hy3 : Rd Any w (dPR y3) v3) :
    Calls Try.prog 54 #[.agg #[.int .i64 x0, u1, u2, u3], .agg #[.int .i64 y0, v1, v2, v3]] w (RetV w (.bool (samePa x0 x1 x2 x3 y0 y1 y2 y3))) := by
  obtain ⟨a1, c1, rfl, kx1⟩ := Rd_I.1 hx1
  obtain ⟨a2, c2, rfl, kx2⟩ := Rd_B.1 hx2
  obtain ⟨a3, c3, rfl, kx3⟩ := Rd_PR hx3
  obtain ⟨b1, d1, rfl, ky1⟩ := Rd_I.1 hy1
  obtain ⟨b2, d2, rfl, ky2⟩ := Rd_B.1 hy2
  obtain ⟨b3, d3, rfl, ky3⟩ := Rd_PR hy3
  have m2 := kx2.len
  have n2 := ky2.len
  have m3 := kx3.len
  have n3 := ky3.len
  unfold maxLen at m2 n2 m3 n3
  have hb : Below w.heap.size w ((w.alloc (.cells #[.int .i64 x0, .slice a1 x1.length c1, .slice a2 x2.length c2, .slice a3 x3.length c3] 38)).alloc (.cells #[.int .i64 y0, .slice b1 y1.length d1, .slice b2 y2.length d2, .slice b3 y3.length d3] 38)) := ((Below.refl _ _).alloc (Nat.le_refl _) _).alloc (by simp) _
  have HC := Lib.hid (fun n => l00Same_c Any Any a1 b1 c1 d1 x1 y1 _ (kx1.below (hb.trans (below_drewN _ _ n))) (ky1.below (hb.trans (below_drewN _ _ n))))
  have HB := Lib.hid hb
  have i2 := kx2.ix tabB.under tabB.size c2
  have j2 := ky2.ix tabB.under tabB.size d2
  have i3 := ix_of (P := Try.prog) tabPassRuleSM.under tabPassRuleSM.size kx3.ptr c3
  have j3 := ix_of (P := Try.prog) tabPassRuleSM.under tabPassRuleSM.size ky3.ptr d3
  clear hb hx1 hy1 kx1 ky1 kx2 ky2 kx3 ky3
  cases h : (x0 != y0)
  · have h0 : (x0 == y0) = true := by simpa using h
    have H0 := Lib.hid h0
    clear h0
    cases k1 : eqI x1 y1
    · have e : samePa x0 x1 x2 x3 y0 y1 y2 y3 = false := by simp [samePa, k1]
      rw [e]; clear e
      rw [k1] at HC
      go_enter Try.func54, Try.ntmps54
      go_wp2_with fail
      refine (HC.out 0).mono ?_
      rintro e w' ⟨rfl, n, rfl⟩
      go_wp2
      go_ret
      exact ⟨rfl, HB.out.trans ((below_drewN _ _ 0).trans (below_drewN _ _ _))⟩
    · have K1 := Lib.hid k1
      rw [k1] at HC
      clear k1
      cases hl2 : ((x2.length : Int) != y2.length)
      · have q2 : x2.length = y2.length := by simp at hl2; omega
        have Q2 := Lib.hid q2
        clear q2
        cases hl3 : ((x3.length : Int) != y3.length)
        · have q3 : x3.length = y3.length := by simp at hl3; omega
          have Q3 := Lib.hid q3
          clear q3
          go_enter Try.func54, Try.ntmps54
          go_wp2_with fail
          refine (HC.out 0).mono ?_
          rintro e w' ⟨rfl, n0, rfl⟩
          go_wp2
          go_loopw [5] (fun i wr => ∃ k n : Nat, k ≤ x2.length ∧ i = .int .i64 k ∧ wr = ((w.alloc (.cells #[.int .i64 x0, .slice a1 x1.length c1, .slice a2 x2.length c2, .slice a3 x3.length c3] 38)).alloc (.cells #[.int .i64 y0, .slice b1 y1.length d1, .slice b2 y2.length d2, .slice b3 y3.length d3] 38)).drewN n ∧ (∀ j, j < k → nthB x2 j = nthB y2 j)) (fun i _ => x2.length - (intOf i).toNat)
          case atStart => exact ⟨0, _, Nat.zero_le _, rfl, rfl, by omega⟩
          case round =>
            obtain ⟨k, n, hk, rfl, rfl, hj⟩ := hrel
            have HJ := Lib.hid hj
            clear hj
            by_cases hlt : k < x2.length
            · have hlt2 : k < y2.length := by have := Q2.out; omega
              have k2 : (k : Int) < y2.length := by omega
              obtain ⟨_, _, ex, kx2⟩ := Rd_B.1 (hx2.below HB.out)
              obtain ⟨_, _, ey, ky2⟩ := Rd_B.1 (hy2.below HB.out)
              cases ex
              cases ey
              have g1 := kx2.cell k hlt
              have g2 := ky2.cell k hlt2
              clear kx2 ky2
              by_cases hp : nthB x2 k = nthB y2 k
              · have HP := Lib.hid hp
                rw [hp] at g1
                clear hp
                go_wp2
                go_quiet (fail)
                go_wp2
                go_roundw
                case rel => exact ⟨k + 1, _, by omega, by go_num, rfl, upto HJ.out HP.out⟩
                case measure => simp [intOf]; omega
              · have HP := Lib.hid hp
                have hv : (nthB x2 k = true ∧ nthB y2 k = false) ∨ (nthB x2 k = false ∧ nthB y2 k = true) := by cases e1 : nthB x2 k <;> cases e2 : nthB y2 k <;> simp_all
                clear hp
                rcases hv with ⟨v1, v2⟩ | ⟨v1, v2⟩
                all_goals
                  rw [v1] at g1
                  rw [v2] at g2
                  clear v1 v2
                  go_wp2
                  go_quiet (fail)
                  go_wp2
                  go_ret
                  exact ⟨ret_bool (by simp [samePa, eqB_false HP.out]), HB.out.trans ((below_drewN _ _ _).trans (below_drewN _ _ _))⟩
            · have E2 := Lib.hid (eqB_true Q2.out (fun j hj => HJ.out j (by omega)))
              go_wp2
              go_loopw [6] (fun i wr => ∃ k n : Nat, k ≤ x3.length ∧ i = .int .i64 k ∧ wr = ((w.alloc (.cells #[.int .i64 x0, .slice a1 x1.length c1, .slice a2 x2.length c2, .slice a3 x3.length c3] 38)).alloc (.cells #[.int .i64 y0, .slice b1 y1.length d1, .slice b2 y2.length d2, .slice b3 y3.length d3] 38)).drewN n ∧ (∀ j, j < k → prB (nthPR x3 j) (nthPR y3 j) = true)) (fun i _ => x3.length - (intOf i).toNat)
              case atStart => exact ⟨0, _, Nat.zero_le _, rfl, rfl, by omega⟩
              case round =>
                clear hlt hk HJ HC
                obtain ⟨k, n, hk, rfl, rfl, hj⟩ := hrel
                have HJ := Lib.hid hj
                clear hj
                by_cases hlt : k < x3.length
                · have hlt2 : k < y3.length := by have := Q3.out; omega
                  have k2 : (k : Int) < y3.length := by omega
                  obtain ⟨_, _, ex, kx3⟩ := Rd_PR (hx3.below HB.out)
                  obtain ⟨_, _, ey, ky3⟩ := Rd_PR (hy3.below HB.out)
                  cases ex
                  cases ey
                  have g0 := kx3.c0 k hlt
                  obtain ⟨p1, r1, g1, h1⟩ := kx3.c1 k hlt
                  obtain ⟨p2, r2, g2, h2⟩ := kx3.c2 k hlt
                  have f0 := ky3.c0 k hlt2
                  obtain ⟨q1, s1, f1, e1⟩ := ky3.c1 k hlt2
                  obtain ⟨q2, s2, f2, e2⟩ := ky3.c2 k hlt2
                  have HE1 := Lib.hid (fun n => l00Same_c Any Any p1 q1 r1 s1 _ _ _ (h1.below (below_drewN _ ((w.alloc (.cells #[.int .i64 x0, .slice a1 x1.length c1, .slice a2 x2.length c2, .slice a3 x3.length c3] 38)).alloc (.cells #[.int .i64 y0, .slice b1 y1.length d1, .slice b2 y2.length d2, .slice b3 y3.length d3] 38)) n)) (e1.below (below_drewN _ ((w.alloc (.cells #[.int .i64 x0, .slice a1 x1.length c1, .slice a2 x2.length c2, .slice a3 x3.length c3] 38)).alloc (.cells #[.int .i64 y0, .slice b1 y1.length d1, .slice b2 y2.length d2, .slice b3 y3.length d3] 38)) n)))
                  have HE2 := Lib.hid (fun n => l00Same_c Any Any p2 q2 r2 s2 _ _ _ (h2.below (below_drewN _ ((w.alloc (.cells #[.int .i64 x0, .slice a1 x1.length c1, .slice a2 x2.length c2, .slice a3 x3.length c3] 38)).alloc (.cells #[.int .i64 y0, .slice b1 y1.length d1, .slice b2 y2.length d2, .slice b3 y3.length d3] 38)) n)) (e2.below (below_drewN _ ((w.alloc (.cells #[.int .i64 x0, .slice a1 x1.length c1, .slice a2 x2.length c2, .slice a3 x3.length c3] 38)).alloc (.cells #[.int .i64 y0, .slice b1 y1.length d1, .slice b2 y2.length d2, .slice b3 y3.length d3] 38)) n)))
                  clear h1 h2 e1 e2 kx3 ky3
                  cases hp : ((nthPR x3 k).cell != (nthPR y3 k).cell)
                  · have hp0 : ((nthPR x3 k).cell == (nthPR y3 k).cell) = true := by simpa using hp
                    have HP := Lib.hid hp0
                    clear hp0
                    cases hp1 : eqI (nthPR x3 k).out (nthPR y3 k).out
                    · have HP1 := Lib.hid hp1
                      rw [hp1] at HE1
                      clear hp1 HE2
                      go_wp2
                      go_quiet (with_reducible exact stillQ2 (HE1.out _))
                      go_wp2
                      go_ret
                      exact ⟨ret_bool (by rw [samePa, eqPR_false ‹_› (by simp [prB, HP1.out])]; simp), HB.out.trans ((below_drewN _ _ _).trans (below_drewN _ _ _))⟩
                    · have HP1 := Lib.hid hp1
                      rw [hp1] at HE1
                      clear hp1
                      cases hp2 : eqI (nthPR x3 k).inn (nthPR y3 k).inn
                      · have HP2 := Lib.hid hp2
                        rw [hp2] at HE2
                        clear hp2
                        go_wp2
                        go_quiet (first | with_reducible exact stillQ2 (HE1.out _) | with_reducible exact stillQ2 (HE2.out _))
                        go_wp2
                        go_ret
                        exact ⟨ret_bool (by rw [samePa, eqPR_false ‹_› (by simp [prB, HP2.out])]; simp), HB.out.trans ((below_drewN _ _ _).trans (below_drewN _ _ _))⟩
                      · have HP2 := Lib.hid hp2
                        rw [hp2] at HE2
                        clear hp2
                        go_wp2
                        go_quiet (first | with_reducible exact stillQ2 (HE1.out _) | with_reducible exact stillQ2 (HE2.out _))
                        go_wp2
                        go_roundw
                        case rel => exact ⟨k + 1, _, by omega, by go_num, rfl, upto HJ.out (by simp only [prB, HP.out, HP1.out, HP2.out, Bool.and_self])⟩
                        case measure => simp [intOf]; omega
                  · have hp0 : ((nthPR x3 k).cell == (nthPR y3 k).cell) = false := by simpa using hp
                    have HP := Lib.hid hp0
                    clear hp0
                    go_wp2
                    go_quiet (fail)
                    go_wp2
                    go_ret
                    exact ⟨ret_bool (by rw [samePa, eqPR_false ‹_› (by simp only [prB, HP.out, Bool.false_and])]; simp), HB.out.trans ((below_drewN _ _ _).trans (below_drewN _ _ _))⟩
                · go_wp2
                  go_ret
                  have e : k = x3.length := by omega
                  exact ⟨ret_bool (by rw [samePa, H0.out, K1.out, E2.out, eqPR_true Q3.out (e ▸ HJ.out)]; rfl), HB.out.trans (below_drewN _ _ _)⟩
        · have q3 : ¬ x3.length = y3.length := by simp at hl3; omega
          have e : samePa x0 x1 x2 x3 y0 y1 y2 y3 = false := by simp [samePa, eqPR_len q3]
          rw [e]; clear e q3
          go_enter Try.func54, Try.ntmps54
          go_wp2_with fail
          refine (HC.out 0).mono ?_
          rintro e w' ⟨rfl, n0, rfl⟩
          go_wp2
          go_ret
          exact ⟨rfl, HB.out.trans ((below_drewN _ _ 0).trans (below_drewN _ _ _))⟩
      · have q2 : ¬ x2.length = y2.length := by simp at hl2; omega
        have e : samePa x0 x1 x2 x3 y0 y1 y2 y3 = false := by simp [samePa, eqB_len q2]
        rw [e]; clear e q2
        go_enter Try.func54, Try.ntmps54
        go_wp2_with fail
        refine (HC.out 0).mono ?_
        rintro e w' ⟨rfl, n0, rfl⟩
        go_wp2
        go_ret
        exact ⟨rfl, HB.out.trans ((below_drewN _ _ 0).trans (below_drewN _ _ _))⟩
  · have h0 : (x0 == y0) = false := by simpa using h
    have e : samePa x0 x1 x2 x3 y0 y1 y2 y3 = false := by simp [samePa, h0]
    rw [e]; clear e h0
    go_enter Try.func54, Try.ntmps54
    go_wp2
    go_ret
    exact ⟨rfl, HB.out⟩
end Go.Proofs.Ythfkhallnbcopaa
