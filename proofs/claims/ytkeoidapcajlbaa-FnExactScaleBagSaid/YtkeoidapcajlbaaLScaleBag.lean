/- FnExactScaleBag: whatever the input, the law returns true. No condition. -/
import Derived.Test.YtkeoidapcajlbaaF
import Derived.Test.YtkeoidapcajlbaaI
import Derived.Test.YtkeoidapcajlbaaH
namespace Go.Proofs.Ytkeoidapcajlbaa.lawScaleBag
open Go.ChangeShapes Go.WideShapes Go.ChangeAt Go.RowKit
set_option maxHeartbeats 4000000 in
set_option maxRecDepth 100000 in
theorem walk (a_xs : Option Addr) (n_xs c_xs : Nat) (f : Int) (w : World) (hm_xs : n_xs ≤ maxLen) (hx_xs : ∃ xs : List Int, xs.length = n_xs ∧ SlI (· < w.heap.size) w a_xs xs) :
    Calls Try.prog 13 #[.slice a_xs n_xs c_xs, .int .i64 f] w (RetV w (.bool true)) := by
  obtain ⟨xs, rfl, hx_xs⟩ := hx_xs
  unfold maxLen at hm_xs
  by_cases hq_xs : xs.length ≤ 1048576
  rotate_left
  · go_enter Try.func13, Try.ntmps13
    go_wp2
    go_ret
    exact ⟨rfl, Below.refl _ _⟩
  have hlen := scaleS_len xs f
  have hB := Below.refl w.heap.size w
  go_enter Try.func13, Try.ntmps13
  go_wp2_with fail
  refine (toInt64S_c _ _ _ _ _ (hx_xs.below hB) (by omega)).mono ?_
  intro e w1 h1
  obtain ⟨v, F_txs, rfl, hb1, ho_txs, hn_txs, hl_txs⟩ := h1
  have hz1 := hb1.size
  replace hB := bnext hB hb1 (Nat.le_refl _)
  obtain ⟨a_txs, c_txs, rfl⟩ := ho_txs.val
  have hi_txs := ho_txs.top (Nat.le_refl _)
  go_wp2_with fail
  refine (specScaleBag_c _ Any _ _ _ _ ho_txs.arg).mono ?_
  intro e w2 h2
  obtain ⟨v, F_r, rfl, hb2, ho_r, hn_r, hl_r⟩ := h2
  have hz2 := hb2.size
  replace ho_txs := ho_txs.below hb2
  replace hB := bnext hB hb2 (Nat.le_refl _)
  obtain ⟨a_r, c_r, rfl⟩ := ho_r.val
  have hi_r := ho_r.top (Nat.le_refl _)
  go_wp2_with fail
  refine (toInt64S_c _ _ _ _ _ (hx_xs.below hB) (by omega)).mono ?_
  intro e w3 h3
  obtain ⟨v, F_xxs, rfl, hb3, ho_xxs, hn_xxs, hl_xxs⟩ := h3
  have hz3 := hb3.size
  replace ho_txs := ho_txs.below hb3
  replace ho_r := ho_r.below hb3
  replace hB := bnext hB hb3 (Nat.le_refl _)
  obtain ⟨a_xxs, c_xxs, rfl⟩ := ho_xxs.val
  have hi_xxs := ho_xxs.top (Nat.le_refl _)
  go_wp2_with fail
  refine (implScaleBag_c _ Any _ _ _ _ ho_xxs.arg).mono ?_
  intro e w4 h4
  obtain ⟨v, F_g, rfl, hb4, ho_g, hn_g, hl_g⟩ := h4
  have hz4 := hb4.size
  replace ho_txs := ho_txs.below hb4
  replace ho_r := ho_r.below hb4
  replace ho_xxs := ho_xxs.below hb4
  replace hB := bnext hB hb4 (Nat.le_refl _)
  obtain ⟨a_g, c_g, rfl⟩ := ho_g.val
  have hi_g := ho_g.top (Nat.le_refl _)
  go_wp2_with fail
  refine (eqInt64S_c Any Any _ _ _ _ _ _ ho_g.arg ho_r.arg).mono ?_
  intro e w5 h5
  obtain ⟨rfl, hb5⟩ := h5.v
  have hz5 := hb5.size
  replace ho_txs := ho_txs.below hb5
  replace ho_r := ho_r.below hb5
  replace ho_xxs := ho_xxs.below hb5
  replace ho_g := ho_g.below hb5
  replace hB := bnext hB hb5 (Nat.le_refl _)
  go_wp2_with fail
  refine (toInt64S_c _ _ _ _ _ (hx_xs.below hB) (by omega)).mono ?_
  intro e w6 h6
  obtain ⟨v, F_yxs, rfl, hb6, ho_yxs, hn_yxs, hl_yxs⟩ := h6
  have hz6 := hb6.size
  replace ho_txs := ho_txs.below hb6
  replace ho_r := ho_r.below hb6
  replace ho_xxs := ho_xxs.below hb6
  replace ho_g := ho_g.below hb6
  replace hB := bnext hB hb6 (Nat.le_refl _)
  obtain ⟨a_yxs, c_yxs, rfl⟩ := ho_yxs.val
  have hi_yxs := ho_yxs.top (Nat.le_refl _)
  go_wp2_with fail
  refine (eqInt64S_c Any Any _ _ _ _ _ _ ho_xxs.arg ho_yxs.arg).mono ?_
  intro e w7 h7
  obtain ⟨rfl, hb7⟩ := h7.v
  have hz7 := hb7.size
  replace ho_txs := ho_txs.below hb7
  replace ho_r := ho_r.below hb7
  replace ho_xxs := ho_xxs.below hb7
  replace ho_g := ho_g.below hb7
  replace ho_yxs := ho_yxs.below hb7
  replace hB := bnext hB hb7 (Nat.le_refl _)
  go_wp2_with fail
  refine (markInt64S_c F_xxs _ _ _ _ _ ho_xxs.own (by first | omega | (simp; omega)) (by omega) (by omega)).mono ?_
  intro e w8 h8
  obtain ⟨rfl, he8, hy8⟩ := h8
  have hz8 := Nat.le_of_eq he8.size.symm
  replace ho_txs := he8.ow ho_txs (fun g h1 h2 => by have := hl_txs g h1; have := hi_txs g h1; have := hl_xxs g h2; have := hi_xxs g h2; omega)
  replace ho_r := he8.ow ho_r (fun g h1 h2 => by have := hl_r g h1; have := hi_r g h1; have := hl_xxs g h2; have := hi_xxs g h2; omega)
  replace ho_g := he8.ow ho_g (fun g h1 h2 => by have := hl_g g h1; have := hi_g g h1; have := hl_xxs g h2; have := hi_xxs g h2; omega)
  replace ho_yxs := he8.ow ho_yxs (fun g h1 h2 => by have := hl_yxs g h1; have := hi_yxs g h1; have := hl_xxs g h2; have := hi_xxs g h2; omega)
  have hW8 := he8.below (B := w.heap.size) (fun g h2 => by have := hl_xxs g h2; omega)
  replace hB := hB.trans hW8
  clear ho_xxs
  have ho_xxs := hy8
  clear hy8
  go_wp2_with fail
  refine (eqInt64S_c Any Any _ _ _ _ _ _ ho_g.arg ho_r.arg).mono ?_
  intro e w9 h9
  obtain ⟨rfl, hb9⟩ := h9.v
  have hz9 := hb9.size
  replace ho_txs := ho_txs.below hb9
  replace ho_r := ho_r.below hb9
  replace ho_xxs := ho_xxs.below hb9
  replace ho_g := ho_g.below hb9
  replace ho_yxs := ho_yxs.below hb9
  replace hB := bnext hB hb9 (Nat.le_refl _)
  go_wp2_with fail
  refine (markInt64S_c F_g _ _ _ _ _ ho_g.own (by first | omega | (simp; omega)) (by omega) (by omega)).mono ?_
  intro e w10 h10
  obtain ⟨rfl, he10, hy10⟩ := h10
  have hz10 := Nat.le_of_eq he10.size.symm
  replace ho_txs := he10.ow ho_txs (fun g h1 h2 => by have := hl_txs g h1; have := hi_txs g h1; have := hl_g g h2; have := hi_g g h2; omega)
  replace ho_r := he10.ow ho_r (fun g h1 h2 => by have := hl_r g h1; have := hi_r g h1; have := hl_g g h2; have := hi_g g h2; omega)
  replace ho_xxs := he10.ow ho_xxs (fun g h1 h2 => by have := hl_xxs g h1; have := hi_xxs g h1; have := hl_g g h2; have := hi_g g h2; omega)
  replace ho_yxs := he10.ow ho_yxs (fun g h1 h2 => by have := hl_yxs g h1; have := hi_yxs g h1; have := hl_g g h2; have := hi_g g h2; omega)
  have hW10 := he10.below (B := w.heap.size) (fun g h2 => by have := hl_g g h2; omega)
  replace hB := hB.trans hW10
  clear ho_g
  have ho_g := hy10
  clear hy10
  go_wp2_with fail
  refine (heldInt64S_c Any _ _ _ _ _ ho_g.arg (by omega) (by omega) (by omega)).mono ?_
  intro e w11 h11
  obtain ⟨rfl, hb11⟩ := h11.v
  have hz11 := hb11.size
  replace ho_txs := ho_txs.below hb11
  replace ho_r := ho_r.below hb11
  replace ho_xxs := ho_xxs.below hb11
  replace ho_g := ho_g.below hb11
  replace ho_yxs := ho_yxs.below hb11
  replace hB := bnext hB hb11 (Nat.le_refl _)
  go_wp2_with fail
  refine (toInt64S_c _ _ _ _ _ (hx_xs.below hB) (by omega)).mono ?_
  intro e w12 h12
  obtain ⟨v, F_zxs, rfl, hb12, ho_zxs, hn_zxs, hl_zxs⟩ := h12
  have hz12 := hb12.size
  replace ho_txs := ho_txs.below hb12
  replace ho_r := ho_r.below hb12
  replace ho_xxs := ho_xxs.below hb12
  replace ho_g := ho_g.below hb12
  replace ho_yxs := ho_yxs.below hb12
  replace hB := bnext hB hb12 (Nat.le_refl _)
  obtain ⟨a_zxs, c_zxs, rfl⟩ := ho_zxs.val
  have hi_zxs := ho_zxs.top (Nat.le_refl _)
  go_wp2_with fail
  refine (implScaleBag_c _ Any _ _ _ _ ho_zxs.arg).mono ?_
  intro e w13 h13
  obtain ⟨v, F_k, rfl, hb13, ho_k, hn_k, hl_k⟩ := h13
  have hz13 := hb13.size
  replace ho_txs := ho_txs.below hb13
  replace ho_r := ho_r.below hb13
  replace ho_xxs := ho_xxs.below hb13
  replace ho_g := ho_g.below hb13
  replace ho_yxs := ho_yxs.below hb13
  replace ho_zxs := ho_zxs.below hb13
  replace hB := bnext hB hb13 (Nat.le_refl _)
  obtain ⟨a_k, c_k, rfl⟩ := ho_k.val
  have hi_k := ho_k.top (Nat.le_refl _)
  go_wp2_with fail
  refine (eqInt64S_c Any Any _ _ _ _ _ _ ho_k.arg ho_r.arg).mono ?_
  intro e w14 h14
  obtain ⟨rfl, hb14⟩ := h14.v
  have hz14 := hb14.size
  replace ho_txs := ho_txs.below hb14
  replace ho_r := ho_r.below hb14
  replace ho_xxs := ho_xxs.below hb14
  replace ho_g := ho_g.below hb14
  replace ho_yxs := ho_yxs.below hb14
  replace ho_zxs := ho_zxs.below hb14
  replace ho_k := ho_k.below hb14
  replace hB := bnext hB hb14 (Nat.le_refl _)
  go_wp2_with fail
  refine (heldInt64S_c Any _ _ _ _ _ ho_g.arg (by omega) (by omega) (by omega)).mono ?_
  intro e w15 h15
  obtain ⟨rfl, hb15⟩ := h15.v
  have hz15 := hb15.size
  replace ho_txs := ho_txs.below hb15
  replace ho_r := ho_r.below hb15
  replace ho_xxs := ho_xxs.below hb15
  replace ho_g := ho_g.below hb15
  replace ho_yxs := ho_yxs.below hb15
  replace ho_zxs := ho_zxs.below hb15
  replace ho_k := ho_k.below hb15
  replace hB := bnext hB hb15 (Nat.le_refl _)
  go_wp2
  go_ret
  exact ⟨rfl, hB⟩
set_option maxRecDepth 100000 in
theorem lifted (os : Os) (started : os.Started) (H : Type) (enc : TypeId × Value → H) :
    ReturnsInHanded {} Try.checked os 13 .any (Rows.fnExactScaleBagSpec.pre6 enc Try.prog Try.f13 Rows.fnExactScaleBagRow.domain false) (Rows.fnExactScaleBagSpec.post enc Try.prog Try.f13 false true false false) :=
  lift Try.func13 (by kernel_rfl) rfl rfl (by kernel_rfl : Try.prog.underlying 4 = some .bool) (by kernel_rfl) (fun ds h => by match ds, h with | [d0, d1], _ => rfl) started
    (ChangeSpec.witness6 (enc := enc) (C := Try.checked) false ⟨#[], #[.slice none 0 0, .int .i64 0], []⟩ 8 (by kernel_rfl) (by kernel_rfl) (by kernel_rfl) (by kernel_rfl))
    (fun W base args ds p hval hA => by
      rw [Try.params13] at hA hval
      obtain ⟨v0, vs0, d0, ds0, p0, q0, hargs0, rfl, rfl, g0, r0⟩ := ChangeShapes.trodAll_cons hA
      obtain ⟨v1, vs1, d1, ds1, p1, q1, hargs1, rfl, rfl, g1, r1⟩ := ChangeShapes.trodAll_cons r0
      obtain ⟨hnil, rfl, rfl⟩ := ChangeShapes.trodAll_nil r1
      obtain rfl : args = #[v0, v1] := by cases args; simp_all
      obtain ⟨a0, n0, c0, rfl, hs0⟩ := open_I tabI.under (by kernel_rfl : Try.prog.underlying 2 = some (.int .i64)) (by kernel_rfl) (hval 0 _ _ rfl rfl) g0
      obtain ⟨x1, rfl, rfl, rfl, wx1⟩ := open_int (by kernel_rfl : Try.prog.underlying 2 = some (.int .i64)) (hval 1 _ _ rfl rfl) g1
      exact walk a0 n0 c0 x1 W (by obtain ⟨xs, h1, h2⟩ := hs0; rw [← h1]; exact h2.len) hs0)
theorem proved : Rows.FnExactScaleBagSaid :=
  OpenClaim.holds_of_wide 13 Try.f13 rfl rfl rfl rfl rfl rfl rfl ⟨rfl, rfl, rfl, rfl, rfl⟩ rfl rfl rfl rfl rfl (by kernel_rfl) Try.func13 (by kernel_rfl)
    (of_decide_eq_true (by kernel_rfl)) (by unfold Func.isWrapper; first | (rw [if_pos (by decide +kernel)]; kernel_rfl) | (rw [if_neg (by decide +kernel)]; exact ⟨rfl, rfl⟩))
    (fun os started H enc _ => lifted os started H enc)
end Go.Proofs.Ytkeoidapcajlbaa.lawScaleBag
