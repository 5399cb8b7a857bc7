/- FnExactTimesIn: whatever the input, the law returns true. No condition. -/
import Derived.Test.YthfkhallnbcopaaF
import Derived.Test.YthfkhallnbcopaaJ
import Derived.Test.YthfkhallnbcopaaH
namespace Go.Proofs.Ythfkhallnbcopaa.lawTimesIn
open Go.ChangeShapes Go.WideShapes Go.ChangeAt Go.RowKit
set_option maxHeartbeats 4000000 in
set_option maxRecDepth 100000 in
theorem walk (a_xs : Option Addr) (n_xs c_xs : Nat) (a_ys : Option Addr) (n_ys c_ys : Nat) (w : World) (hm_xs : n_xs ≤ maxLen) (hx_xs : ∃ xs : List Int, xs.length = n_xs ∧ SlI (· < w.heap.size) w a_xs xs) (hm_ys : n_ys ≤ maxLen) (hx_ys : ∃ xs : List Int, xs.length = n_ys ∧ SlI (· < w.heap.size) w a_ys xs) :
    Calls Try.prog 3 #[.slice a_xs n_xs c_xs, .slice a_ys n_ys c_ys] w (RetV w (.bool true)) := by
  obtain ⟨xs, rfl, hx_xs⟩ := hx_xs
  unfold maxLen at hm_xs
  obtain ⟨ys, rfl, hx_ys⟩ := hx_ys
  unfold maxLen at hm_ys
  by_cases hq_xs : xs.length ≤ 1048576
  rotate_left
  · go_enter Try.func3, Try.ntmps3
    go_wp2
    go_ret
    exact ⟨rfl, Below.refl _ _⟩
  by_cases hq_ys : ys.length ≤ 1048576
  rotate_left
  · go_enter Try.func3, Try.ntmps3
    go_wp2
    go_ret
    exact ⟨rfl, Below.refl _ _⟩
  have hB := Below.refl w.heap.size w
  go_enter Try.func3, Try.ntmps3
  go_wp2_with fail
  refine (toInt64S_c _ _ _ _ _ (hx_xs.below hB) (by omega)).mono ?_
  intro e w1 h1
  obtain ⟨v, F_txs, rfl, hb1, ho_txs, hn_txs, hl_txs⟩ := h1
  have hz1 := hb1.size
  replace hB := bnext hB hb1 (Nat.le_refl _)
  obtain ⟨a_txs, c_txs, rfl⟩ := ho_txs.val
  have hi_txs := ho_txs.top (Nat.le_refl _)
  go_wp2_with fail
  refine (toInt64S_c _ _ _ _ _ (hx_ys.below hB) (by omega)).mono ?_
  intro e w2 h2
  obtain ⟨v, F_tys, rfl, hb2, ho_tys, hn_tys, hl_tys⟩ := h2
  have hz2 := hb2.size
  replace ho_txs := ho_txs.below hb2
  replace hB := bnext hB hb2 (Nat.le_refl _)
  obtain ⟨a_tys, c_tys, rfl⟩ := ho_tys.val
  have hi_tys := ho_tys.top (Nat.le_refl _)
  go_wp2_with fail
  refine (specTimesIn_c Any _ _ _ _ _ _ _ ho_txs.arg ho_tys.arg).mono ?_
  intro e w3 h3
  obtain ⟨rfl, hb3⟩ := h3.v
  have hz3 := hb3.size
  replace ho_txs := ho_txs.below hb3
  replace ho_tys := ho_tys.below hb3
  replace hB := bnext hB hb3 (Nat.le_refl _)
  go_wp2_with fail
  refine (toInt64S_c _ _ _ _ _ (hx_xs.below hB) (by omega)).mono ?_
  intro e w4 h4
  obtain ⟨v, F_xxs, rfl, hb4, ho_xxs, hn_xxs, hl_xxs⟩ := h4
  have hz4 := hb4.size
  replace ho_txs := ho_txs.below hb4
  replace ho_tys := ho_tys.below hb4
  replace hB := bnext hB hb4 (Nat.le_refl _)
  obtain ⟨a_xxs, c_xxs, rfl⟩ := ho_xxs.val
  have hi_xxs := ho_xxs.top (Nat.le_refl _)
  go_wp2_with fail
  refine (toInt64S_c _ _ _ _ _ (hx_ys.below hB) (by omega)).mono ?_
  intro e w5 h5
  obtain ⟨v, F_xys, rfl, hb5, ho_xys, hn_xys, hl_xys⟩ := h5
  have hz5 := hb5.size
  replace ho_txs := ho_txs.below hb5
  replace ho_tys := ho_tys.below hb5
  replace ho_xxs := ho_xxs.below hb5
  replace hB := bnext hB hb5 (Nat.le_refl _)
  obtain ⟨a_xys, c_xys, rfl⟩ := ho_xys.val
  have hi_xys := ho_xys.top (Nat.le_refl _)
  go_wp2_with fail
  refine (implTimesIn_c Any _ _ _ _ _ _ _ ho_xxs.arg ho_xys.arg).mono ?_
  intro e w6 h6
  obtain ⟨rfl, hb6⟩ := h6.v
  have hz6 := hb6.size
  replace ho_txs := ho_txs.below hb6
  replace ho_tys := ho_tys.below hb6
  replace ho_xxs := ho_xxs.below hb6
  replace ho_xys := ho_xys.below hb6
  replace hB := bnext hB hb6 (Nat.le_refl _)
  go_wp2_with fail
  refine (toInt64S_c _ _ _ _ _ (hx_xs.below hB) (by omega)).mono ?_
  intro e w7 h7
  obtain ⟨v, F_yxs, rfl, hb7, ho_yxs, hn_yxs, hl_yxs⟩ := h7
  have hz7 := hb7.size
  replace ho_txs := ho_txs.below hb7
  replace ho_tys := ho_tys.below hb7
  replace ho_xxs := ho_xxs.below hb7
  replace ho_xys := ho_xys.below hb7
  replace hB := bnext hB hb7 (Nat.le_refl _)
  obtain ⟨a_yxs, c_yxs, rfl⟩ := ho_yxs.val
  have hi_yxs := ho_yxs.top (Nat.le_refl _)
  go_wp2_with fail
  refine (eqInt64S_c Any Any _ _ _ _ _ _ ho_xxs.arg ho_yxs.arg).mono ?_
  intro e w8 h8
  obtain ⟨rfl, hb8⟩ := h8.v
  have hz8 := hb8.size
  replace ho_txs := ho_txs.below hb8
  replace ho_tys := ho_tys.below hb8
  replace ho_xxs := ho_xxs.below hb8
  replace ho_xys := ho_xys.below hb8
  replace ho_yxs := ho_yxs.below hb8
  replace hB := bnext hB hb8 (Nat.le_refl _)
  go_wp2_with fail
  refine (toInt64S_c _ _ _ _ _ (hx_ys.below hB) (by omega)).mono ?_
  intro e w9 h9
  obtain ⟨v, F_yys, rfl, hb9, ho_yys, hn_yys, hl_yys⟩ := h9
  have hz9 := hb9.size
  replace ho_txs := ho_txs.below hb9
  replace ho_tys := ho_tys.below hb9
  replace ho_xxs := ho_xxs.below hb9
  replace ho_xys := ho_xys.below hb9
  replace ho_yxs := ho_yxs.below hb9
  replace hB := bnext hB hb9 (Nat.le_refl _)
  obtain ⟨a_yys, c_yys, rfl⟩ := ho_yys.val
  have hi_yys := ho_yys.top (Nat.le_refl _)
  go_wp2_with fail
  refine (eqInt64S_c Any Any _ _ _ _ _ _ ho_xys.arg ho_yys.arg).mono ?_
  intro e w10 h10
  obtain ⟨rfl, hb10⟩ := h10.v
  have hz10 := hb10.size
  replace ho_txs := ho_txs.below hb10
  replace ho_tys := ho_tys.below hb10
  replace ho_xxs := ho_xxs.below hb10
  replace ho_xys := ho_xys.below hb10
  replace ho_yxs := ho_yxs.below hb10
  replace ho_yys := ho_yys.below hb10
  replace hB := bnext hB hb10 (Nat.le_refl _)
  go_wp2
  go_ret
  exact ⟨rfl, hB⟩
set_option maxRecDepth 100000 in
theorem lifted (os : Os) (started : os.Started) (H : Type) (enc : TypeId × Value → H) :
    ReturnsInHanded {} Try.checked os 3 .any (Rows.fnExactTimesInSpec.pre6 enc Try.prog Try.f3 Rows.fnExactTimesInRow.domain false) (Rows.fnExactTimesInSpec.post enc Try.prog Try.f3 false true false false) :=
  lift Try.func3 (by kernel_rfl) rfl rfl (by kernel_rfl : Try.prog.underlying 4 = some .bool) (by kernel_rfl) (fun ds h => by match ds, h with | [d0, d1], _ => rfl) started
    (ChangeSpec.witness6 (enc := enc) (C := Try.checked) false ⟨#[], #[.slice none 0 0, .slice none 0 0], []⟩ 8 (by kernel_rfl) (by kernel_rfl) (by kernel_rfl) (by kernel_rfl))
    (fun W base args ds p hval hA => by
      rw [Try.params3] at hA hval
      obtain ⟨v0, vs0, d0, ds0, p0, q0, hargs0, rfl, rfl, g0, r0⟩ := ChangeShapes.trodAll_cons hA
      obtain ⟨v1, vs1, d1, ds1, p1, q1, hargs1, rfl, rfl, g1, r1⟩ := ChangeShapes.trodAll_cons r0
      obtain ⟨hnil, rfl, rfl⟩ := ChangeShapes.trodAll_nil r1
      obtain rfl : args = #[v0, v1] := by cases args; simp_all
      obtain ⟨a0, n0, c0, rfl, hs0⟩ := open_I tabI.under (by kernel_rfl : Try.prog.underlying 2 = some (.int .i64)) (by kernel_rfl) (hval 0 _ _ rfl rfl) g0
      obtain ⟨a1, n1, c1, rfl, hs1⟩ := open_I tabI.under (by kernel_rfl : Try.prog.underlying 2 = some (.int .i64)) (by kernel_rfl) (hval 1 _ _ rfl rfl) g1
      exact walk a0 n0 c0 a1 n1 c1 W (by obtain ⟨xs, h1, h2⟩ := hs0; rw [← h1]; exact h2.len) hs0 (by obtain ⟨xs, h1, h2⟩ := hs1; rw [← h1]; exact h2.len) hs1)
theorem proved : Rows.FnExactTimesInSaid :=
  OpenClaim.holds_of_wide 3 Try.f3 rfl rfl rfl rfl rfl rfl rfl ⟨rfl, rfl, rfl, rfl, rfl⟩ rfl rfl rfl rfl rfl (by kernel_rfl) Try.func3 (by kernel_rfl)
    (of_decide_eq_true (by kernel_rfl)) (by unfold Func.isWrapper; first | (rw [if_pos (by decide +kernel)]; kernel_rfl) | (rw [if_neg (by decide +kernel)]; exact ⟨rfl, rfl⟩))
    (fun os started H enc _ => lifted os started H enc)
end Go.Proofs.Ythfkhallnbcopaa.lawTimesIn
