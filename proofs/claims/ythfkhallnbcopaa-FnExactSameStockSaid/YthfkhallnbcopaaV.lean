/- Stocks: compared. -/
import Derived.Test.YthfkhallnbcopaaU
namespace Go.Proofs.Ythfkhallnbcopaa
open Go.RowKit

/-- Are two stocks the same? -/
def sameSt (x : List (List Int)) (x1 : List Int) (y : List (List Int)) (y1 : List Int) : Bool := eqI x1 y1 && eqII x y
set_option maxHeartbeats 1000000 in
theorem implSameStock_c (S T : Nat → Prop) (a b a1 b1 : Option Addr) (c d c1 d1 : Nat) (x y : List (List Int)) (x1 y1 : List Int) (w : World) (hx : SlII S w a x) (hx1 : SlI S w a1 x1) (hy : SlII T w b y) (hy1 : SlI T w b1 y1) :
    Calls Try.prog 42 #[.agg #[.slice a x.length c, .slice a1 x1.length c1], .agg #[.slice b y.length d, .slice b1 y1.length d1]] w (RetV w (.bool (sameSt x x1 y y1))) := by
  have hb : Below w.heap.size w ((w.alloc (.cells #[.slice a x.length c, .slice a1 x1.length c1] 40)).alloc (.cells #[.slice b y.length d, .slice b1 y1.length d1] 40)) := ((Below.refl _ _).alloc (Nat.le_refl _) _).alloc (by simp) _
  have HC := Lib.hid (equalFuncII_c S T a b c d x y _ (hx.below hb) (hy.below hb))
  have HD := Lib.hid (fun n => slicesEqualI_c S T a1 b1 c1 d1 x1 y1 _ (hx1.below (hb.trans (below_drewN _ _ n))) (hy1.below (hb.trans (below_drewN _ _ n))))
  have HB := Lib.hid hb
  clear hb
  cases h : eqII x y
  · have e : sameSt x x1 y y1 = false := by simp [sameSt, h]
    rw [e]; clear e
    rw [h] at HC
    go_enter Try.func42, Try.ntmps42
    go_wp2_with fail
    refine HC.out.mono ?_
    rintro e w' ⟨rfl, n, rfl⟩
    go_wp2
    go_ret
    exact ⟨rfl, HB.out.trans (below_drewN _ _ _)⟩
  · have e : sameSt x x1 y y1 = eqI x1 y1 := by simp [sameSt, h]
    rw [e]; clear e
    rw [h] at HC
    go_enter Try.func42, Try.ntmps42
    go_wp2_with fail
    refine HC.out.mono ?_
    rintro e w' ⟨rfl, n, rfl⟩
    go_wp2_with fail
    refine (HD.out n).mono ?_
    rintro e w' ⟨rfl, m, rfl⟩
    go_wp2
    go_ret
    exact ⟨rfl, HB.out.trans (below_drewN _ _ _)⟩
set_option maxHeartbeats 2000000 in
theorem l06Same_c (S T : Nat → Prop) (p q : Nat) (a b a1 b1 : Option Addr) (c d c1 d1 : Nat) (x y : List (List Int)) (x1 y1 : List Int) (w : World) (hx : SlII S w a x) (hx1 : SlI S w a1 x1) (hy : SlII T w b y) (hy1 : SlI T w b1 y1)
   (p0 : w.cell? ⟨p, 0, none⟩ = some (.slice a x.length c)) (p1 : w.cell? ⟨p, 1, none⟩ = some (.slice a1 x1.length c1)) (q0 : w.cell? ⟨q, 0, none⟩ = some (.slice b y.length d)) (q1 : w.cell? ⟨q, 1, none⟩ = some (.slice b1 y1.length d1)) :
    Calls Try.prog 111 #[.pointer (some ⟨p, 0, none⟩), .pointer (some ⟨q, 0, none⟩)] w (RetQ w (.bool (sameSt x x1 y y1))) := by
  have l1 := hx.len
  have l2 := hy.len
  unfold maxLen at l1 l2
  have HC := Lib.hid (fun n => l00Same_c S T a1 b1 c1 d1 x1 y1 _ (hx1.below (below_drewN _ w n)) (hy1.below (below_drewN _ w n)))
  have i1 := hx.ix tabII.under tabII.size c
  have i2 := hy.ix tabII.under tabII.size d
  cases h : eqI x1 y1
  · have e : sameSt x x1 y y1 = false := by simp [sameSt, h]
    rw [e]; clear e
    rw [h] at HC
    go_enter Try.func111, Try.ntmps111
    go_wp2
    go_quiet (with_reducible exact stillQ (HC.out _))
    go_wp2
    go_ret
    exact ⟨rfl, _, rfl⟩
  · have e : sameSt x x1 y y1 = eqII x y := by simp [sameSt, h]
    rw [e]; clear e
    rw [h] at HC
    cases hl : ((x.length : Int) != y.length)
    · have hq : x.length = y.length := by simp at hl; omega
      have HQ := Lib.hid hq
      clear hq
      go_enter Try.func111, Try.ntmps111
      go_wp2
      go_quiet (with_reducible exact stillQ (HC.out _))
      go_wp2
      go_loopw [5] (fun i wr => ∃ k n : Nat, k ≤ x.length ∧ i = .int .i64 k ∧ wr = w.drewN n ∧ (∀ j, j < k → eqI (nthR x j) (nthR y j) = true)) (fun i _ => x.length - (intOf i).toNat)
      case atStart => exact ⟨0, _, Nat.zero_le _, rfl, rfl, by omega⟩
      case round =>
        obtain ⟨k, n, hk, rfl, rfl, hj⟩ := hrel
        have HJ := Lib.hid hj
        clear hj
        by_cases hlt : k < x.length
        · have hlt2 : k < y.length := by have := HQ.out; omega
          have k2 : (k : Int) < y.length := by omega
          obtain ⟨u1, v1, g1, h1⟩ := hx.cell k hlt
          obtain ⟨u2, v2, g2, h2⟩ := hy.cell k hlt2
          have HE := Lib.hid (fun n => l00Same_c S T u1 u2 v1 v2 _ _ _ (h1.below (below_drewN _ w n)) (h2.below (below_drewN _ w n)))
          clear h1 h2
          cases hp : eqI (nthR x k) (nthR y k)
          · have HP := Lib.hid hp
            rw [hp] at HE
            clear hp
            go_wp2
            go_quiet (with_reducible exact stillQ2 (HE.out _))
            go_wp2
            go_ret
            exact ⟨ret_bool (eqII_false HP.out).symm, _, by rw [World.drewN_drewN]⟩
          · have HP := Lib.hid hp
            rw [hp] at HE
            clear hp
            go_wp2
            go_quiet (with_reducible exact stillQ2 (HE.out _))
            go_wp2
            go_roundw
            case rel => exact ⟨k + 1, _, by omega, by go_num, rfl, upto HJ.out HP.out⟩
            case measure => simp [intOf]; omega
        · go_wp2
          go_ret
          have e : k = x.length := by omega
          exact ⟨ret_bool (eqII_true HQ.out (e ▸ HJ.out)).symm, n, rfl⟩
    · have hq : ¬ x.length = y.length := by simp at hl; omega
      have HQ := Lib.hid hq
      clear hq
      go_enter Try.func111, Try.ntmps111
      go_wp2
      go_quiet (with_reducible exact stillQ (HC.out _))
      go_wp2
      go_ret
      exact ⟨ret_bool (eqII_len HQ.out).symm, _, rfl⟩
theorem specSameStock_c (S T : Nat → Prop) (a b a1 b1 : Option Addr) (c d c1 d1 : Nat) (x y : List (List Int)) (x1 y1 : List Int) (w : World) (hx : SlII S w a x) (hx1 : SlI S w a1 x1) (hy : SlII T w b y) (hy1 : SlI T w b1 y1) :
    Calls Try.prog 40 #[.agg #[.slice a x.length c, .slice a1 x1.length c1], .agg #[.slice b y.length d, .slice b1 y1.length d1]] w (RetV w (.bool (sameSt x x1 y y1))) := by
  have hb : Below w.heap.size w ((w.alloc (.cells #[.slice a x.length c, .slice a1 x1.length c1] 40)).alloc (.cells #[.slice b y.length d, .slice b1 y1.length d1] 40)) := ((Below.refl _ _).alloc (Nat.le_refl _) _).alloc (by simp) _
  have HC := Lib.hid (l06Same_c S T w.heap.size (w.heap.size + 1) a b a1 b1 c d c1 d1 x y x1 y1 _ (hx.below hb) (hx1.below hb) (hy.below hb) (hy1.below hb) (by simp [go_sem]) (by simp [go_sem]) (by simp [go_sem]) (by simp [go_sem]))
  have HB := Lib.hid hb
  clear hb
  go_enter Try.func40, Try.ntmps40
  go_wp2_with fail
  refine HC.out.mono ?_
  rintro e w' ⟨rfl, n, rfl⟩
  go_wp2
  go_ret
  exact ⟨rfl, HB.out.trans (below_drewN _ _ _)⟩
end Go.Proofs.Ythfkhallnbcopaa
