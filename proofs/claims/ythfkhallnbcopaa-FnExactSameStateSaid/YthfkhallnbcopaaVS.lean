/- States: compared. -/
import Derived.Test.YthfkhallnbcopaaUS
namespace Go.Proofs.Ythfkhallnbcopaa
open Go.RowKit

/-- Are two states the same? -/
def sameSS (x0 y0 : List Bool) (x1 y1 : List (List Int)) (x2 y2 : List Int) : Bool := eqB x0 y0 && eqII x1 y1 && eqI x2 y2
set_option maxHeartbeats 1000000 in
theorem implSameState_c (S T : Nat → Prop) (a0 b0 a1 b1 a2 b2 : Option Addr) (c0 d0 c1 d1 c2 d2 : Nat) (x0 y0 : List Bool) (x1 y1 : List (List Int)) (x2 y2 : List Int) (w : World) (hx0 : SlB S w a0 x0) (hx1 : SlII S w a1 x1) (hx2 : SlI S w a2 x2) (hy0 : SlB T w b0 y0) (hy1 : SlII T w b1 y1) (hy2 : SlI T w b2 y2) :
    Calls Try.prog 51 #[.agg #[.slice a0 x0.length c0, .slice a1 x1.length c1, .slice a2 x2.length c2], .agg #[.slice b0 y0.length d0, .slice b1 y1.length d1, .slice b2 y2.length d2]] w (RetV w (.bool (sameSS x0 y0 x1 y1 x2 y2))) := by
  have hb : Below w.heap.size w ((w.alloc (.cells #[.slice a0 x0.length c0, .slice a1 x1.length c1, .slice a2 x2.length c2] 65)).alloc (.cells #[.slice b0 y0.length d0, .slice b1 y1.length d1, .slice b2 y2.length d2] 65)) := ((Below.refl _ _).alloc (Nat.le_refl _) _).alloc (by simp) _
  have HC := Lib.hid (slicesEqualB_c S T a0 b0 c0 d0 x0 y0 _ (hx0.below hb) (hy0.below hb))
  have HD := Lib.hid (fun n => equalFuncII_c S T a1 b1 c1 d1 x1 y1 _ (hx1.below (hb.trans (below_drewN _ _ n))) (hy1.below (hb.trans (below_drewN _ _ n))))
  have HE := Lib.hid (fun n => slicesEqualI_c S T a2 b2 c2 d2 x2 y2 _ (hx2.below (hb.trans (below_drewN _ _ n))) (hy2.below (hb.trans (below_drewN _ _ n))))
  have HB := Lib.hid hb
  clear hb
  cases h : eqB x0 y0
  · have e : sameSS x0 y0 x1 y1 x2 y2 = false := by simp [sameSS, h]
    rw [e]; clear e
    rw [h] at HC
    go_enter Try.func51, Try.ntmps51
    go_wp2_with fail
    refine HC.out.mono ?_
    rintro e w' ⟨rfl, n, rfl⟩
    go_wp2
    go_ret
    exact ⟨rfl, HB.out.trans (below_drewN _ _ _)⟩
  · rw [h] at HC
    cases h1 : eqII x1 y1
    · have e : sameSS x0 y0 x1 y1 x2 y2 = false := by simp [sameSS, h1]
      rw [e]; clear e
      have HD' := Lib.hid (fun n => h1 ▸ HD.out n)
      clear HD
      go_enter Try.func51, Try.ntmps51
      go_wp2_with fail
      refine HC.out.mono ?_
      rintro e w' ⟨rfl, n, rfl⟩
      go_wp2_with fail
      refine (HD'.out n).mono ?_
      rintro e w' ⟨rfl, m, rfl⟩
      go_wp2
      go_ret
      exact ⟨rfl, HB.out.trans (below_drewN _ _ _)⟩
    · have e : sameSS x0 y0 x1 y1 x2 y2 = eqI x2 y2 := by simp [sameSS, h, h1]
      rw [e]; clear e
      have HD' := Lib.hid (fun n => h1 ▸ HD.out n)
      clear HD
      go_enter Try.func51, Try.ntmps51
      go_wp2_with fail
      refine HC.out.mono ?_
      rintro e w' ⟨rfl, n, rfl⟩
      go_wp2_with fail
      refine (HD'.out n).mono ?_
      rintro e w' ⟨rfl, m, rfl⟩
      go_wp2_with fail
      refine (HE.out _).mono ?_
      rintro e w' ⟨rfl, m', rfl⟩
      go_wp2
      go_ret
      exact ⟨rfl, HB.out.trans (below_drewN _ _ _)⟩
set_option maxHeartbeats 4000000 in
theorem l02Same_c (S T : Nat → Prop) (p q : Nat) (a0 b0 a1 b1 a2 b2 : Option Addr) (c0 d0 c1 d1 c2 d2 : Nat) (x0 y0 : List Bool) (x1 y1 : List (List Int)) (x2 y2 : List Int) (w : World) (hx0 : SlB S w a0 x0) (hx1 : SlII S w a1 x1) (hx2 : SlI S w a2 x2) (hy0 : SlB T w b0 y0) (hy1 : SlII T w b1 y1) (hy2 : SlI T w b2 y2)
   (p0 : w.cell? ⟨p, 0, none⟩ = some (.slice a0 x0.length c0)) (p1 : w.cell? ⟨p, 1, none⟩ = some (.slice a1 x1.length c1)) (p2 : w.cell? ⟨p, 2, none⟩ = some (.slice a2 x2.length c2)) (q0 : w.cell? ⟨q, 0, none⟩ = some (.slice b0 y0.length d0)) (q1 : w.cell? ⟨q, 1, none⟩ = some (.slice b1 y1.length d1)) (q2 : w.cell? ⟨q, 2, none⟩ = some (.slice b2 y2.length d2)) :
    Calls Try.prog 121 #[.pointer (some ⟨p, 0, none⟩), .pointer (some ⟨q, 0, none⟩)] w (RetQ w (.bool (sameSS x0 y0 x1 y1 x2 y2))) := by
  have l0 := hx0.len
  have l1 := hx1.len
  have m0 := hy0.len
  have m1 := hy1.len
  unfold maxLen at l0 l1 m0 m1
  have HC := Lib.hid (fun n => l00Same_c S T a2 b2 c2 d2 x2 y2 _ (hx2.below (below_drewN _ w n)) (hy2.below (below_drewN _ w n)))
  have i0 := hx0.ix tabB.under tabB.size c0
  have j0 := hy0.ix tabB.under tabB.size d0
  have i1 := hx1.ix tabII.under tabII.size c1
  have j1 := hy1.ix tabII.under tabII.size d1
  cases hl : ((x0.length : Int) != y0.length)
  · have hq : x0.length = y0.length := by simp at hl; omega
    have HQ := Lib.hid hq
    clear hq
    cases hl1 : ((x1.length : Int) != y1.length)
    · have hq1 : x1.length = y1.length := by simp at hl1; omega
      have HQ1 := Lib.hid hq1
      clear hq1
      cases h2 : eqI x2 y2
      · have e : sameSS x0 y0 x1 y1 x2 y2 = false := by simp [sameSS, h2]
        rw [e]; clear e
        rw [h2] at HC
        go_enter Try.func121, Try.ntmps121
        go_wp2
        go_quiet (with_reducible exact stillQ (HC.out _))
        go_wp2
        go_ret
        exact ⟨rfl, _, rfl⟩
      · have e : sameSS x0 y0 x1 y1 x2 y2 = (eqB x0 y0 && eqII x1 y1) := by simp [sameSS, h2]
        rw [e]; clear e
        rw [h2] at HC
        go_enter Try.func121, Try.ntmps121
        go_wp2
        go_quiet (with_reducible exact stillQ (HC.out _))
        go_wp2
        go_loopw [5] (fun i wr => ∃ k n : Nat, k ≤ x0.length ∧ i = .int .i64 k ∧ wr = w.drewN n ∧ (∀ j, j < k → nthB x0 j = nthB y0 j)) (fun i _ => x0.length - (intOf i).toNat)
        case atStart => exact ⟨0, _, Nat.zero_le _, rfl, rfl, by omega⟩
        case round =>
          obtain ⟨k, n, hk, rfl, rfl, hj⟩ := hrel
          have HJ := Lib.hid hj
          clear hj
          by_cases hlt : k < x0.length
          · have hlt2 : k < y0.length := by have := HQ.out; omega
            have k2 : (k : Int) < y0.length := by omega
            have g1 := hx0.cell k hlt
            have g2 := hy0.cell k hlt2
            by_cases hp : nthB x0 k = nthB y0 k
            · have HP := Lib.hid hp
              rw [hp] at g1
              clear hp
              go_wp2
              go_quiet (fail)
              go_wp2
              go_roundw
              case rel => exact ⟨k + 1, _, by omega, by go_num, rfl, upto HJ.out HP.out⟩
              case measure => simp [intOf]; omega
            · have HP := Lib.hid hp
              have hv : (nthB x0 k = true ∧ nthB y0 k = false) ∨ (nthB x0 k = false ∧ nthB y0 k = true) := by cases e1 : nthB x0 k <;> cases e2 : nthB y0 k <;> simp_all
              clear hp
              rcases hv with ⟨v1, v2⟩ | ⟨v1, v2⟩
              all_goals
                rw [v1] at g1
                rw [v2] at g2
                clear v1 v2
                go_wp2
                go_quiet (fail)
                go_wp2
                go_ret
                exact ⟨ret_bool (by rw [eqB_false HP.out]; rfl), _, by rw [World.drewN_drewN]⟩
          · have e0 : eqB x0 y0 = true := eqB_true HQ.out (fun j hj => HJ.out j (by omega))
            rw [e0]
            have HE0 := Lib.hid e0
            clear e0
            go_wp2
            go_loopw [6] (fun i wr => ∃ k n : Nat, k ≤ x1.length ∧ i = .int .i64 k ∧ wr = w.drewN n ∧ (∀ j, j < k → eqI (nthR x1 j) (nthR y1 j) = true)) (fun i _ => x1.length - (intOf i).toNat)
            case atStart => exact ⟨0, _, Nat.zero_le _, rfl, rfl, by omega⟩
            case round =>
              obtain ⟨k, n, hk, rfl, rfl, hj⟩ := hrel
              have HJ := Lib.hid hj
              clear hj
              by_cases hlt : k < x1.length
              · have hlt2 : k < y1.length := by have := HQ1.out; omega
                have k2 : (k : Int) < y1.length := by omega
                obtain ⟨u1, v1, g1, h1⟩ := hx1.cell k hlt
                obtain ⟨u2, v2, g2, h2'⟩ := hy1.cell k hlt2
                have HE := Lib.hid (fun n => l00Same_c S T u1 u2 v1 v2 _ _ _ (h1.below (below_drewN _ w n)) (h2'.below (below_drewN _ w n)))
                clear h1 h2'
                cases hp : eqI (nthR x1 k) (nthR y1 k)
                · have HP := Lib.hid hp
                  rw [hp] at HE
                  clear hp
                  go_wp2
                  go_quiet (with_reducible exact stillQ2 (HE.out _))
                  go_wp2
                  go_ret
                  exact ⟨ret_bool (by rw [eqII_false HP.out]; simp), _, by rw [World.drewN_drewN]⟩
                · have HP := Lib.hid hp
                  rw [hp] at HE
                  clear hp
                  go_wp2
                  go_quiet (with_reducible exact stillQ2 (HE.out _))
                  go_wp2
                  go_roundw
                  case rel => exact ⟨k + 1, _, by omega, by go_num, rfl, upto HJ.out HP.out⟩
                  case measure => simp [intOf]; omega
              · go_wp2
                go_ret
                exact ⟨ret_bool (by rw [eqII_true HQ1.out (fun j hj => HJ.out j (by omega))]; simp [HE0.out]), n, rfl⟩
    · have hq : ¬ x1.length = y1.length := by simp at hl1; omega
      have e : sameSS x0 y0 x1 y1 x2 y2 = false := by simp [sameSS, eqII_len hq]
      rw [e]; clear e hq
      have HQ2 := Lib.hid hl
      go_enter Try.func121, Try.ntmps121
      go_wp2
      go_quiet (with_reducible exact stillQ (HC.out _))
      go_wp2
      go_ret
      exact ⟨rfl, _, rfl⟩
  · have hq : ¬ x0.length = y0.length := by simp at hl; omega
    have e : sameSS x0 y0 x1 y1 x2 y2 = false := by simp [sameSS, eqB_len hq]
    rw [e]; clear e hq
    go_enter Try.func121, Try.ntmps121
    go_wp2
    go_quiet (with_reducible exact stillQ (HC.out _))
    go_wp2
    go_ret
    exact ⟨rfl, _, rfl⟩
theorem specSameState_c (S T : Nat → Prop) (a0 b0 a1 b1 a2 b2 : Option Addr) (c0 d0 c1 d1 c2 d2 : Nat) (x0 y0 : List Bool) (x1 y1 : List (List Int)) (x2 y2 : List Int) (w : World) (hx0 : SlB S w a0 x0) (hx1 : SlII S w a1 x1) (hx2 : SlI S w a2 x2) (hy0 : SlB T w b0 y0) (hy1 : SlII T w b1 y1) (hy2 : SlI T w b2 y2) :
    Calls Try.prog 49 #[.agg #[.slice a0 x0.length c0, .slice a1 x1.length c1, .slice a2 x2.length c2], .agg #[.slice b0 y0.length d0, .slice b1 y1.length d1, .slice b2 y2.length d2]] w (RetV w (.bool (sameSS x0 y0 x1 y1 x2 y2))) := by
  have hb : Below w.heap.size w ((w.alloc (.cells #[.slice a0 x0.length c0, .slice a1 x1.length c1, .slice a2 x2.length c2] 65)).alloc (.cells #[.slice b0 y0.length d0, .slice b1 y1.length d1, .slice b2 y2.length d2] 65)) := ((Below.refl _ _).alloc (Nat.le_refl _) _).alloc (by simp) _
  have HC := Lib.hid (l02Same_c S T w.heap.size (w.heap.size + 1) a0 b0 a1 b1 a2 b2 c0 d0 c1 d1 c2 d2 x0 y0 x1 y1 x2 y2 _ (hx0.below hb) (hx1.below hb) (hx2.below hb) (hy0.below hb) (hy1.below hb) (hy2.below hb) (by simp [go_sem]) (by simp [go_sem]) (by simp [go_sem]) (by simp [go_sem]) (by simp [go_sem]) (by simp [go_sem]))
  have HB := Lib.hid hb
  clear hb
  go_enter Try.func49, Try.ntmps49
  go_wp2_with fail
  refine HC.out.mono ?_
  rintro e w' ⟨rfl, n, rfl⟩
  go_wp2
  go_ret
  exact ⟨rfl, HB.out.trans (below_drewN _ _ _)⟩
end Go.Proofs.Ythfkhallnbcopaa
