/- Contracts of the exported functions on bags (third part): add, take, times. -/
import Derived.Test.YthlbogmnnenkoaaE
namespace Go.Proofs.Ythlbogmnnenkoaa
open Go.RowKit

/-- How often a list is in another one, over the first k places. -/
def timesTo (xs ys : List Int) : Nat → Int
  | 0 => 1000
  | k + 1 => if 0 < nth xs k then minI (timesTo xs ys k) (nth ys k / nth xs k) else timesTo xs ys k
def timesS (xs ys : List Int) : Int := timesTo xs ys xs.length
/-- Is there an object in the first k places? -/
def someTo (xs : List Int) (k : Nat) : Bool := (List.range k).any fun i => decide (0 < nth xs i)
/-- The reference's way. -/
def bestTo (xs ys : List Int) (k : Nat) : Int := if someTo xs k = true then timesTo xs ys k else -1
theorem someTo_succ (xs : List Int) (k : Nat) : someTo xs (k + 1) = (someTo xs k || decide (0 < nth xs k)) := by simp [someTo, List.range_succ]
theorem timesTo_bd {xs ys : List Int} (hy : ∀ j, j < xs.length → 0 ≤ nth ys j ∧ nth ys j ≤ 1000) : ∀ k, k ≤ xs.length → 0 ≤ timesTo xs ys k ∧ timesTo xs ys k ≤ 1000
  | 0, _ => by simp [timesTo]
  | k + 1, hk => by
    have ih := timesTo_bd hy k (by omega)
    have h1 := hy k (by omega)
    unfold timesTo
    split
    · rename_i h
      have h2 : 0 ≤ nth ys k / nth xs k := Int.ediv_nonneg h1.1 (by omega)
      unfold minI
      split <;> omega
    · exact ih
theorem div_bd {x y : Int} (hx : 0 < x) (hy : 0 ≤ y ∧ y ≤ 1000) : 0 ≤ y / x ∧ y / x ≤ 1000 :=
  ⟨Int.ediv_nonneg hy.1 (by omega), Int.le_trans (Int.ediv_le_self _ hy.1) hy.2⟩
theorem bestTo_skip {xs ys : List Int} {k : Nat} (h : ¬ 0 < nth xs k) : bestTo xs ys (k + 1) = bestTo xs ys k := by
  unfold bestTo
  rw [someTo_succ, show timesTo xs ys (k + 1) = timesTo xs ys k from by rw [timesTo, if_neg h], show decide (0 < nth xs k) = false from by simpa using h, Bool.or_false]
theorem bestTo_first {xs ys : List Int} {k : Nat} (hy : ∀ j, j < xs.length → 0 ≤ nth ys j ∧ nth ys j ≤ 1000) (hk : k < xs.length) (h : 0 < nth xs k) (hs : someTo xs k = false) : bestTo xs ys (k + 1) = nth ys k / nth xs k := by
  have h1000 : ∀ j, someTo xs j = false → timesTo xs ys j = 1000 := by
    intro j
    induction j with
    | zero => intro _; rfl
    | succ j ih =>
      intro hj
      rw [someTo_succ, Bool.or_eq_false_iff] at hj
      unfold timesTo
      rw [if_neg (by simpa using hj.2)]
      exact ih hj.1
  have hd := div_bd h (hy k hk)
  unfold bestTo timesTo
  rw [someTo_succ, h1000 k hs, if_pos h, show decide (0 < nth xs k) = true from by simpa using h, Bool.or_true, if_pos rfl]
  unfold minI
  split <;> omega
theorem bestTo_more {xs ys : List Int} {k : Nat} (h : 0 < nth xs k) (hs : someTo xs k = true) : bestTo xs ys (k + 1) = if nth ys k / nth xs k < bestTo xs ys k then nth ys k / nth xs k else bestTo xs ys k := by
  unfold bestTo
  rw [someTo_succ, hs]
  simp only [Bool.true_or, if_true]
  rw [timesTo, if_pos h, minI]
  split <;> split <;> omega
theorem someTo_sum {xs : List Int} (h : isBagS xs = true) : (sumS xs == 0) = !someTo xs xs.length := by
  have key : ∀ k, k ≤ xs.length → (0 ≤ sumTo xs k ∧ sumTo xs k ≤ 1000 * k) ∧ ((sumTo xs k = 0) ↔ someTo xs k = false) := by
    intro k
    induction k with
    | zero => intro _; simp [sumTo, someTo]
    | succ k ih =>
      intro hk
      obtain ⟨⟨h1, h2⟩, h3⟩ := ih (by omega)
      have hb := isBagS_at h (k := k) (by omega)
      have hl := (isBagS_len h).2
      have e : sumTo xs (k + 1) = sumTo xs k + nth xs k := by
        rw [sumTo, wrap64]; omega
      rw [e, someTo_succ]
      refine ⟨⟨by omega, by push_cast; omega⟩, ?_⟩
      rw [Bool.or_eq_false_iff, ← h3]
      simp
      omega
  have := (key xs.length (Nat.le_refl _)).2
  unfold sumS
  cases hs : someTo xs xs.length
  · rw [hs] at this; simp [this.2 rfl]
  · rw [hs] at this
    have h0 : ¬ sumTo xs xs.length = 0 := fun e => by have := this.1 e; cases this
    simp [h0]
def timesInS (xs ys : List Int) : Int × Int := if twoS xs ys = 0 then (if sumS xs == 0 then (0, 4) else (timesS xs ys, 0)) else (0, twoS xs ys)
set_option maxHeartbeats 800000 in
theorem timesIn_c (S : Nat → Prop) (a b : Option Addr) (c c' : Nat) (xs ys : List Int) (w : World) (hx : SlI S w a xs) (hy : SlI S w b ys) (hl : xs.length ≤ ys.length) (hxb : ∀ j, j < xs.length → 0 ≤ nth xs j ∧ nth xs j ≤ 1000) (hyb : ∀ j, j < xs.length → 0 ≤ nth ys j ∧ nth ys j ≤ 1000) :
    Calls Try.prog 158 #[.slice a xs.length c, .slice b ys.length c'] w (RetP w (.int .i64 (timesS xs ys))) := by
  have l1 := hx.len
  unfold maxLen at l1
  have HX := Lib.hid hxb
  have HY := Lib.hid hyb
  clear hxb hyb
  have i1 := hx.ix tabI.under tabI.size c
  have i2 := hy.ix tabI.under tabI.size c'
  go_enter Try.func158, Try.ntmps158
  go_wp2
  go_loopw [5, 6, 7, 10] (fun t _ _ i wr => ∃ k : Nat, k ≤ xs.length ∧ i = .int .i64 k ∧ w = wr ∧ t = .int .i64 (timesTo xs ys k)) (fun _ _ _ i _ => xs.length - (intOf i).toNat)
  case atStart => exact ⟨0, Nat.zero_le _, rfl, rfl, rfl⟩
  case round =>
      obtain ⟨k, hk, rfl, rfl, rfl⟩ := hrel
      by_cases hlt : k < xs.length
      · have g1 := hx.cell k hlt
        have g2 := hy.cell k (by omega)
        have k2 : (k : Int) < ys.length := by omega
        have b1 := HX.out k hlt
        have b2 := HY.out k hlt
        by_cases hp : 0 < nth xs k
        · have hd := div_bd hp b2
          go_wp2
          go_roundw
          case rel => exact ⟨k + 1, by omega, by go_num, trivial, by rw [timesTo, if_pos hp]; unfold minI; congr 1; split <;> split <;> omega⟩
          case measure => simp [intOf]; omega
        · go_wp2
          go_roundw
          case rel => exact ⟨k + 1, by omega, by go_num, trivial, by rw [timesTo, if_neg hp]⟩
          case measure => simp [intOf]; omega
      · go_wp2
        go_ret
        have e : k = xs.length := by omega
        exact ⟨ret_int (by rw [e]; rfl), rfl⟩
theorem bestTo_neg {xs ys : List Int} {k : Nat} (h : someTo xs k = false) : bestTo xs ys k = -1 := by simp [bestTo, h]
theorem bestTo_nonneg {xs ys : List Int} {k : Nat} (hy : ∀ j, j < xs.length → 0 ≤ nth ys j ∧ nth ys j ≤ 1000) (hk : k ≤ xs.length) (h : someTo xs k = true) : 0 ≤ bestTo xs ys k ∧ bestTo xs ys k ≤ 1000 := by
  simp only [bestTo, h, if_true]
  exact timesTo_bd hy k hk
set_option maxHeartbeats 1600000 in
theorem l01Times_c (S : Nat → Prop) (a b : Option Addr) (c c' : Nat) (xs ys : List Int) (w : World) (hx : SlI S w a xs) (hy : SlI S w b ys) (hl : xs.length ≤ ys.length) (hxb : ∀ j, j < xs.length → 0 ≤ nth xs j ∧ nth xs j ≤ 1000) (hyb : ∀ j, j < xs.length → 0 ≤ nth ys j ∧ nth ys j ≤ 1000) :
    Calls Try.prog 264 #[.slice a xs.length c, .slice b ys.length c'] w (RetQ w (.int .i64 (bestTo xs ys xs.length))) := by
  have l1 := hx.len
  unfold maxLen at l1
  have HX := Lib.hid hxb
  have HY := Lib.hid hyb
  clear hxb hyb
  have i1 := hx.ix tabI.under tabI.size c
  have i2 := hy.ix tabI.under tabI.size c'
  go_enter Try.func264, Try.ntmps264
  go_wp2
  go_loopw [5, 6] (fun t i wr => ∃ k n : Nat, k ≤ xs.length ∧ i = .int .i64 k ∧ wr = w.drewN n ∧ t = .int .i64 (bestTo xs ys k)) (fun _ i _ => xs.length - (intOf i).toNat)
  case atStart => exact ⟨0, 0, Nat.zero_le _, rfl, rfl, rfl⟩
  case round =>
      obtain ⟨k, n, hk, rfl, rfl, rfl⟩ := hrel
      by_cases hlt : k < xs.length
      · have g1 := hx.cell k hlt
        have g2 := hy.cell k (by omega)
        have k2 : (k : Int) < ys.length := by omega
        have b1 := HX.out k hlt
        have b2 := HY.out k hlt
        by_cases hp : 0 < nth xs k
        · have hd := div_bd hp b2
          have ht : IntKind.i64.wrap ((nth ys k).tdiv (nth xs k)) = nth ys k / nth xs k := by
            rw [Int.tdiv_eq_ediv_of_nonneg b2.1, wrap_64]
            unfold wrap64
            omega
          cases hs : someTo xs k
          · have e1 := Lib.hid (bestTo_first HY.out hlt hp hs)
            have hn : bestTo xs ys k < 0 := by rw [bestTo_neg hs]; omega
            clear hs
            go_wp2
            go_quiet (fail)
            go_wp2
            go_quiet (fail)
            go_wp2
            go_roundw
            case rel => exact ⟨k + 1, _, by omega, by go_num, rfl, by rw [e1.out]⟩
            case measure => simp [intOf]; omega
          · have e1 := Lib.hid (bestTo_more (ys := ys) hp hs)
            have hz : ¬ nth xs k = 0 := by omega
            have hn := bestTo_nonneg HY.out hk hs
            clear hs
            by_cases hc : nth ys k / nth xs k < bestTo xs ys k
            · go_wp2
              go_quiet (fail)
              go_wp2
              go_quiet (fail)
              go_wp2
              go_roundw
              case rel => exact ⟨k + 1, _, by omega, by go_num, rfl, by rw [e1.out, if_pos hc]⟩
              case measure => simp [intOf]; omega
            · go_wp2
              go_quiet (fail)
              go_wp2
              go_roundw
              case rel => exact ⟨k + 1, _, by omega, by go_num, rfl, by rw [e1.out, if_neg (by omega)]⟩
              case measure => simp [intOf]; omega
        · have e1 := Lib.hid (bestTo_skip (ys := ys) hp)
          have hz : nth xs k = 0 := by omega
          rw [hz] at g1
          clear hp b1 hz
          go_wp2
          go_quiet (fail)
          go_wp2
          go_roundw
          case rel => exact ⟨k + 1, _, by omega, by go_num, rfl, by rw [e1.out]⟩
          case measure => simp [intOf]; omega
      · go_wp2
        go_ret
        have e : k = xs.length := by omega
        exact ⟨ret_int (by rw [e]), n, rfl⟩
theorem implTimesIn_c (S : Nat → Prop) (a b : Option Addr) (c c' : Nat) (xs ys : List Int) (w : World) (hx : SlI S w a xs) (hy : SlI S w b ys) :
    Calls Try.prog 54 #[.slice a xs.length c, .slice b ys.length c'] w (RetP w (.tuple #[.int .i64 (timesInS xs ys).1, .int .i64 (timesInS xs ys).2])) := by
  cases h : (twoS xs ys != 0)
  · have H0 : twoS xs ys = 0 := by simpa using h
    have hk := twoS_ok H0
    cases h3 : (sumS xs == 0)
    · have H1 := Lib.hid hk
      have ev : timesInS xs ys = (timesS xs ys, 0) := by simp [timesInS, H0, h3]
      rw [ev]
      have h' : (twoS xs ys == 0) = true := by simpa using H0
      clear hk H0 ev
      go_enter Try.func54, Try.ntmps54
      go_wp2_with fail
      refine (twoBags_c S _ _ _ _ _ _ _ hx hy).mono ?_
      rintro e w' ⟨rfl, rfl⟩
      go_wp2_with fail
      refine (bagSize_c S _ _ _ _ hx).mono ?_
      rintro e w' ⟨rfl, rfl⟩
      go_wp2_with fail
      refine (timesIn_c S _ _ _ _ _ _ _ hx hy (Nat.le_of_eq H1.out.2.2) (fun j hj => isBagS_at H1.out.1 hj) (fun j hj => isBagS_at H1.out.2.1 (H1.out.2.2 ▸ hj))).mono ?_
      rintro e w' ⟨rfl, rfl⟩
      clear h h3 h'
      go_wp2
      go_ret2
      exact ⟨rfl, rfl⟩
    · have ev : timesInS xs ys = (0, 4) := by simp [timesInS, H0, h3]
      rw [ev]
      have h' : (twoS xs ys == 0) = true := by simpa using H0
      clear hk H0 ev
      go_enter Try.func54, Try.ntmps54
      go_wp2_with fail
      refine (twoBags_c S _ _ _ _ _ _ _ hx hy).mono ?_
      rintro e w' ⟨rfl, rfl⟩
      go_wp2_with fail
      refine (bagSize_c S _ _ _ _ hx).mono ?_
      rintro e w' ⟨rfl, rfl⟩
      go_wp2
      go_ret2
      exact ⟨rfl, rfl⟩
  · have H0 : ¬ twoS xs ys = 0 := by simpa using h
    have ev : timesInS xs ys = (0, twoS xs ys) := by simp [timesInS, H0]
    rw [ev]
    have h' : (twoS xs ys == 0) = false := by simpa using H0
    clear H0 ev
    go_enter Try.func54, Try.ntmps54
    go_wp2_with fail
    refine (twoBags_c S _ _ _ _ _ _ _ hx hy).mono ?_
    rintro e w' ⟨rfl, rfl⟩
    go_wp2
    go_ret2
    exact ⟨rfl, rfl⟩
theorem implAddBags_c (S : Nat → Prop) (a b : Option Addr) (c c' : Nat) (xs ys : List Int) (w : World) (hx : SlI S w a xs) (hy : SlI S w b ys) :
    Calls Try.prog 44 #[.slice a xs.length c, .slice b ys.length c'] w (RetDC w (dI (addS xs ys).1) (addS xs ys).2) := by
  cases h : (twoS xs ys != 0)
  · have H0 : twoS xs ys = 0 := by simpa using h
    have hk := twoS_ok H0
    have hlx := (isBagS_len hk.1).2
    have H1 := Lib.hid hk.2.2
    clear hk
    have ev : addS xs ys = toldS (plusS xs ys 1) := by simp [addS, H0]
    rw [ev]; clear ev H0
    go_enter Try.func44, Try.ntmps44
    go_wp2_with fail
    refine (twoBags_c S _ _ _ _ _ _ _ hx hy).mono ?_
    rintro e w' ⟨rfl, rfl⟩
    go_wp2_with fail
    refine (plus_c S _ _ _ _ _ _ 1 _ hx hy (Nat.le_of_eq H1.out) (by omega)).mono ?_
    rintro e w1 ⟨v, F, rfl, hb, ho, hn, hF⟩
    obtain ⟨a1, c1, rfl⟩ := ho.val
    have HB := Lib.hid hb
    have HF := Lib.hid hF
    clear h hb hF
    go_wp2_with fail
    refine (bagOrLimit_c Any _ _ _ _ ho.arg).mono ?_
    intro e w2 ht
    have ht' := ht.dc (w0 := w) ho hn HF.out HB.out
    obtain ⟨v2, F2, rfl, hr⟩ := ht'
    have HR := Lib.hid hr
    clear hr ht ho hn
    go_wp2
    go_ret2
    exact ⟨v2, F2, rfl, HR.out⟩
  · have H0 : ¬ twoS xs ys = 0 := by simpa using h
    have ev : addS xs ys = ([], twoS xs ys) := by simp [addS, H0]
    rw [ev]; clear ev H0
    go_enter Try.func44, Try.ntmps44
    go_wp2_with fail
    refine (twoBags_c S _ _ _ _ _ _ _ hx hy).mono ?_
    rintro e w' ⟨rfl, rfl⟩
    go_wp2
    go_ret2
    exact RetDC.none _ _ _ (by first | exact Below.refl _ _ | exact below_alloc _ _)
set_option maxHeartbeats 400000 in
theorem implTakeBag_c (S : Nat → Prop) (a b : Option Addr) (c c' : Nat) (xs ys : List Int) (w : World) (hx : SlI S w a xs) (hy : SlI S w b ys) :
    Calls Try.prog 45 #[.slice a xs.length c, .slice b ys.length c'] w (RetDC w (dI (takeS xs ys).1) (takeS xs ys).2) := by
  cases h : (twoS xs ys != 0)
  · have H0 : twoS xs ys = 0 := by simpa using h
    have hk := twoS_ok H0
    have hlx := (isBagS_len hk.1).2
    have H1 := Lib.hid hk.2.2
    clear hk
    cases h3 : withinS ys xs
    · have H3 := Lib.hid h3
      have ev : takeS xs ys = ([], 4) := by simp [takeS, H0, h3]
      have h' : (twoS xs ys == 0) = true := by simpa using H0
      rw [ev]; clear ev H0 h3
      go_enter Try.func45, Try.ntmps45
      go_wp2_with fail
      refine (twoBags_c S _ _ _ _ _ _ _ hx hy).mono ?_
      rintro e w' ⟨rfl, rfl⟩
      go_wp2_with fail
      refine (isWithin_c S _ _ _ _ _ _ _ hy hx (Nat.le_of_eq H1.out.symm)).mono ?_
      rintro e w' ⟨rfl, rfl⟩
      rw [H3.out]
      go_wp2
      go_ret2
      exact RetDC.none _ _ _ (by first | exact Below.refl _ _ | exact (Below.refl _ _).alloc (Nat.le_refl _) _)
    · have H3 := Lib.hid h3
      have ev : takeS xs ys = (plusS xs ys (-1), 0) := by simp [takeS, H0, h3]
      have h' : (twoS xs ys == 0) = true := by simpa using H0
      rw [ev]; clear ev H0 h3
      go_enter Try.func45, Try.ntmps45
      go_wp2_with fail
      refine (twoBags_c S _ _ _ _ _ _ _ hx hy).mono ?_
      rintro e w' ⟨rfl, rfl⟩
      go_wp2_with fail
      refine (isWithin_c S _ _ _ _ _ _ _ hy hx (Nat.le_of_eq H1.out.symm)).mono ?_
      rintro e w' ⟨rfl, rfl⟩
      rw [H3.out]
      go_wp2_with fail
      refine (plus_c S _ _ _ _ _ _ (-1) _ hx hy (Nat.le_of_eq H1.out) (by omega)).mono ?_
      rintro e w1 ⟨v, F, rfl, hr⟩
      have HR := Lib.hid hr
      clear hr h
      go_wp2
      go_ret2
      exact ⟨v, F, rfl, HR.out⟩
  · have H0 : ¬ twoS xs ys = 0 := by simpa using h
    have ev : takeS xs ys = ([], twoS xs ys) := by simp [takeS, H0]
    have h' : (twoS xs ys == 0) = false := by simpa using H0
    rw [ev]; clear ev H0
    go_enter Try.func45, Try.ntmps45
    go_wp2_with fail
    refine (twoBags_c S _ _ _ _ _ _ _ hx hy).mono ?_
    rintro e w' ⟨rfl, rfl⟩
    go_wp2
    go_ret2
    exact RetDC.none _ _ _ (by first | exact Below.refl _ _ | exact below_alloc _ _)
