/- FnExactBagSize: whatever the input, the law returns true. No condition. -/
import Derived.Test.YtkeoidapcajlbaaF
import Derived.Test.YtkeoidapcajlbaaE
import Derived.Test.YtkeoidapcajlbaaH
namespace Go.Proofs.Ytkeoidapcajlbaa.lawBagSize
open Go.ChangeShapes Go.WideShapes Go.ChangeAt Go.RowKit
set_option maxHeartbeats 4000000 in
set_option maxRecDepth 100000 in
theorem walk (a_xs : Option Addr) (n_xs c_xs : Nat) (w : World) (hm_xs : n_xs ≤ maxLen) (hx_xs : ∃ xs : List Int, xs.length = n_xs ∧ SlI (· < w.heap.size) w a_xs xs) :
    Calls Try.prog 6 #[.slice a_xs n_xs c_xs] w (RetV w (.bool true)) := by
  obtain ⟨xs, rfl, hx_xs⟩ := hx_xs
  unfold maxLen at hm_xs
  by_cases hq_xs : xs.length ≤ 1048576
  rotate_left
  · go_enter Try.func6, Try.ntmps6
    go_wp2
    go_ret
    exact ⟨rfl, Below.refl _ _⟩
  have hB := Below.refl w.heap.size w
  go_enter Try.func6, Try.ntmps6
  go_wp2_with fail
  refine (toInt64S_c _ _ _ _ _ (hx_xs.below hB) (by omega)).mono ?_
  intro e w1 h1
  obtain ⟨v, F_txs, rfl, hb1, ho_txs, hn_txs, hl_txs⟩ := h1
  have hz1 := hb1.size
  replace hB := bnext hB hb1 (Nat.le_refl _)
  obtain ⟨a_txs, c_txs, rfl⟩ := ho_txs.val
  have hi_txs := ho_txs.top (Nat.le_refl _)
  go_wp2_with fail
  refine (specBagSize_c Any _ _ _ _ ho_txs.arg).mono ?_
  intro e w2 h2
  obtain ⟨rfl, hb2⟩ := h2.v
  have hz2 := hb2.size
  replace ho_txs := ho_txs.below hb2
  replace hB := bnext hB hb2 (Nat.le_refl _)
  go_wp2_with fail
  refine (toInt64S_c _ _ _ _ _ (hx_xs.below hB) (by omega)).mono ?_
  intro e w3 h3
  obtain ⟨v, F_xxs, rfl, hb3, ho_xxs, hn_xxs, hl_xxs⟩ := h3
  have hz3 := hb3.size
  replace ho_txs := ho_txs.below hb3
  replace hB := bnext hB hb3 (Nat.le_refl _)
  obtain ⟨a_xxs, c_xxs, rfl⟩ := ho_xxs.val
  have hi_xxs := ho_xxs.top (Nat.le_refl _)
  go_wp2_with fail
  refine (implBagSize_c Any _ _ _ _ ho_xxs.arg).mono ?_
  intro e w4 h4
  obtain ⟨rfl, hb4⟩ := h4.v
  have hz4 := hb4.size
  replace ho_txs := ho_txs.below hb4
  replace ho_xxs := ho_xxs.below hb4
  replace hB := bnext hB hb4 (Nat.le_refl _)
  go_wp2_with fail
  refine (toInt64S_c _ _ _ _ _ (hx_xs.below hB) (by omega)).mono ?_
  intro e w5 h5
  obtain ⟨v, F_yxs, rfl, hb5, ho_yxs, hn_yxs, hl_yxs⟩ := h5
  have hz5 := hb5.size
  replace ho_txs := ho_txs.below hb5
  replace ho_xxs := ho_xxs.below hb5
  replace hB := bnext hB hb5 (Nat.le_refl _)
  obtain ⟨a_yxs, c_yxs, rfl⟩ := ho_yxs.val
  have hi_yxs := ho_yxs.top (Nat.le_refl _)
  go_wp2_with fail
  refine (eqInt64S_c Any Any _ _ _ _ _ _ ho_xxs.arg ho_yxs.arg).mono ?_
  intro e w6 h6
  obtain ⟨rfl, hb6⟩ := h6.v
  have hz6 := hb6.size
  replace ho_txs := ho_txs.below hb6
  replace ho_xxs := ho_xxs.below hb6
  replace ho_yxs := ho_yxs.below hb6
  replace hB := bnext hB hb6 (Nat.le_refl _)
  go_wp2
  go_ret
  exact ⟨rfl, hB⟩
set_option maxRecDepth 100000 in
theorem lifted (os : Os) (started : os.Started) (H : Type) (enc : TypeId × Value → H) :
    ReturnsInHanded {} Try.checked os 6 .any (Rows.fnExactBagSizeSpec.pre6 enc Try.prog Try.f6 Rows.fnExactBagSizeRow.domain false) (Rows.fnExactBagSizeSpec.post enc Try.prog Try.f6 false true false false) :=
  lift Try.func6 (by kernel_rfl) rfl rfl (by kernel_rfl : Try.prog.underlying 4 = some .bool) (by kernel_rfl) (fun ds h => by match ds, h with | [d0], _ => rfl) started
    (ChangeSpec.witness6 (enc := enc) (C := Try.checked) false ⟨#[], #[.slice none 0 0], []⟩ 8 (by kernel_rfl) (by kernel_rfl) (by kernel_rfl) (by kernel_rfl))
    (fun W base args ds p hval hA => by
      rw [Try.params6] at hA hval
      obtain ⟨v0, vs0, d0, ds0, p0, q0, hargs0, rfl, rfl, g0, r0⟩ := ChangeShapes.trodAll_cons hA
      obtain ⟨hnil, rfl, rfl⟩ := ChangeShapes.trodAll_nil r0
      obtain rfl : args = #[v0] := by cases args; simp_all
      obtain ⟨a0, n0, c0, rfl, hs0⟩ := open_I tabI.under (by kernel_rfl : Try.prog.underlying 2 = some (.int .i64)) (by kernel_rfl) (hval 0 _ _ rfl rfl) g0
      exact walk a0 n0 c0 W (by obtain ⟨xs, h1, h2⟩ := hs0; rw [← h1]; exact h2.len) hs0)
theorem proved : Rows.FnExactBagSizeSaid :=
  OpenClaim.holds_of_wide 6 Try.f6 rfl rfl rfl rfl rfl rfl rfl ⟨rfl, rfl, rfl, rfl, rfl⟩ rfl rfl rfl rfl rfl (by kernel_rfl) Try.func6 (by kernel_rfl)
    (of_decide_eq_true (by kernel_rfl)) (by unfold Func.isWrapper; first | (rw [if_pos (by decide +kernel)]; kernel_rfl) | (rw [if_neg (by decide +kernel)]; exact ⟨rfl, rfl⟩))
    (fun os started H enc _ => lifted os started H enc)
end Go.Proofs.Ytkeoidapcajlbaa.lawBagSize
