/- FnExactTakeBag: whatever the input, the law returns true. No condition. -/
import Derived.Test.YthfkhallnbcopaaF
import Derived.Test.YthfkhallnbcopaaJ
import Derived.Test.YthfkhallnbcopaaH
namespace Go.Proofs.Ythfkhallnbcopaa.lawTakeBag
open Go.ChangeShapes Go.WideShapes Go.ChangeAt Go.RowKit
set_option maxHeartbeats 4000000 in
set_option maxRecDepth 100000 in
theorem walk (a_xs : Option Addr) (n_xs c_xs : Nat) (a_ys : Option Addr) (n_ys c_ys : Nat) (w : World) (hm_xs : n_xs ≤ maxLen) (hx_xs : ∃ xs : List Int, xs.length = n_xs ∧ SlI (· < w.heap.size) w a_xs xs) (hm_ys : n_ys ≤ maxLen) (hx_ys : ∃ xs : List Int, xs.length = n_ys ∧ SlI (· < w.heap.size) w a_ys xs) :
    Calls Try.prog 8 #[.slice a_xs n_xs c_xs, .slice a_ys n_ys c_ys] w (RetV w (.bool true)) := by
  obtain ⟨xs, rfl, hx_xs⟩ := hx_xs
  unfold maxLen at hm_xs
  obtain ⟨ys, rfl, hx_ys⟩ := hx_ys
  unfold maxLen at hm_ys
  by_cases hq_xs : xs.length ≤ 1048576
  rotate_left
  · go_enter Try.func8, Try.ntmps8
    go_wp2
    go_ret
    exact ⟨rfl, Below.refl _ _⟩
  by_cases hq_ys : ys.length ≤ 1048576
  rotate_left
  · go_enter Try.func8, Try.ntmps8
    go_wp2
    go_ret
    exact ⟨rfl, Below.refl _ _⟩
  have hlen := takeS_len xs ys
  have hB := Below.refl w.heap.size w
  go_enter Try.func8, Try.ntmps8
  go_wp2_with fail
  refine (toInt64S_c _ _ _ _ _ (hx_xs.below hB) (by omega)).mono ?_
  intro e w1 h1
  obtain ⟨v, F_txs, rfl, hb1, ho_txs, hn_txs, hl_txs⟩ := h1
  have hz1 := hb1.size
  replace hB := bnext hB hb1 (Nat.le_refl _)
  obtain ⟨a_txs, c_txs, rfl⟩ := ho_txs.val
  have hi_txs := ho_txs.top (Nat.le_refl _)
  go_wp2_with fail
  refine (toInt64S_c _ _ _ _ _ (hx_ys.below hB) (by omega)).mono ?_
  intro e w2 h2
  obtain ⟨v, F_tys, rfl, hb2, ho_tys, hn_tys, hl_tys⟩ := h2
  have hz2 := hb2.size
  replace ho_txs := ho_txs.below hb2
  replace hB := bnext hB hb2 (Nat.le_refl _)
  obtain ⟨a_tys, c_tys, rfl⟩ := ho_tys.val
  have hi_tys := ho_tys.top (Nat.le_refl _)
  go_wp2_with fail
  refine (specTakeBag_c Any _ _ _ _ _ _ _ ho_txs.arg ho_tys.arg).mono ?_
  intro e w3 h3
  obtain ⟨v, F_r, rfl, hb3, ho_r, hn_r, hl_r⟩ := h3
  have hz3 := hb3.size
  replace ho_txs := ho_txs.below hb3
  replace ho_tys := ho_tys.below hb3
  replace hB := bnext hB hb3 (Nat.le_refl _)
  obtain ⟨a_r, c_r, rfl⟩ := ho_r.val
  have hi_r := ho_r.top (Nat.le_refl _)
  go_wp2_with fail
  refine (toInt64S_c _ _ _ _ _ (hx_xs.below hB) (by omega)).mono ?_
  intro e w4 h4
  obtain ⟨v, F_xxs, rfl, hb4, ho_xxs, hn_xxs, hl_xxs⟩ := h4
  have hz4 := hb4.size
  replace ho_txs := ho_txs.below hb4
  replace ho_tys := ho_tys.below hb4
  replace ho_r := ho_r.below hb4
  replace hB := bnext hB hb4 (Nat.le_refl _)
  obtain ⟨a_xxs, c_xxs, rfl⟩ := ho_xxs.val
  have hi_xxs := ho_xxs.top (Nat.le_refl _)
  go_wp2_with fail
  refine (toInt64S_c _ _ _ _ _ (hx_ys.below hB) (by omega)).mono ?_
  intro e w5 h5
  obtain ⟨v, F_xys, rfl, hb5, ho_xys, hn_xys, hl_xys⟩ := h5
  have hz5 := hb5.size
  replace ho_txs := ho_txs.below hb5
  replace ho_tys := ho_tys.below hb5
  replace ho_r := ho_r.below hb5
  replace ho_xxs := ho_xxs.below hb5
  replace hB := bnext hB hb5 (Nat.le_refl _)
  obtain ⟨a_xys, c_xys, rfl⟩ := ho_xys.val
  have hi_xys := ho_xys.top (Nat.le_refl _)
  go_wp2_with fail
  refine (implTakeBag_c Any _ _ _ _ _ _ _ ho_xxs.arg ho_xys.arg).mono ?_
  intro e w6 h6
  obtain ⟨v, F_g, rfl, hb6, ho_g, hn_g, hl_g⟩ := h6
  have hz6 := hb6.size
  replace ho_txs := ho_txs.below hb6
  replace ho_tys := ho_tys.below hb6
  replace ho_r := ho_r.below hb6
  replace ho_xxs := ho_xxs.below hb6
  replace ho_xys := ho_xys.below hb6
  replace hB := bnext hB hb6 (Nat.le_refl _)
  obtain ⟨a_g, c_g, rfl⟩ := ho_g.val
  have hi_g := ho_g.top (Nat.le_refl _)
  go_wp2_with fail
  refine (eqInt64S_c Any Any _ _ _ _ _ _ ho_g.arg ho_r.arg).mono ?_
  intro e w7 h7
  obtain ⟨rfl, hb7⟩ := h7.v
  have hz7 := hb7.size
  replace ho_txs := ho_txs.below hb7
  replace ho_tys := ho_tys.below hb7
  replace ho_r := ho_r.below hb7
  replace ho_xxs := ho_xxs.below hb7
  replace ho_xys := ho_xys.below hb7
  replace ho_g := ho_g.below hb7
  replace hB := bnext hB hb7 (Nat.le_refl _)
  go_wp2_with fail
  refine (toInt64S_c _ _ _ _ _ (hx_xs.below hB) (by omega)).mono ?_
  intro e w8 h8
  obtain ⟨v, F_yxs, rfl, hb8, ho_yxs, hn_yxs, hl_yxs⟩ := h8
  have hz8 := hb8.size
  replace ho_txs := ho_txs.below hb8
  replace ho_tys := ho_tys.below hb8
  replace ho_r := ho_r.below hb8
  replace ho_xxs := ho_xxs.below hb8
  replace ho_xys := ho_xys.below hb8
  replace ho_g := ho_g.below hb8
  replace hB := bnext hB hb8 (Nat.le_refl _)
  obtain ⟨a_yxs, c_yxs, rfl⟩ := ho_yxs.val
  have hi_yxs := ho_yxs.top (Nat.le_refl _)
  go_wp2_with fail
  refine (eqInt64S_c Any Any _ _ _ _ _ _ ho_xxs.arg ho_yxs.arg).mono ?_
  intro e w9 h9
  obtain ⟨rfl, hb9⟩ := h9.v
  have hz9 := hb9.size
  replace ho_txs := ho_txs.below hb9
  replace ho_tys := ho_tys.below hb9
  replace ho_r := ho_r.below hb9
  replace ho_xxs := ho_xxs.below hb9
  replace ho_xys := ho_xys.below hb9
  replace ho_g := ho_g.below hb9
  replace ho_yxs := ho_yxs.below hb9
  replace hB := bnext hB hb9 (Nat.le_refl _)
  go_wp2_with fail
  refine (toInt64S_c _ _ _ _ _ (hx_ys.below hB) (by omega)).mono ?_
  intro e w10 h10
  obtain ⟨v, F_yys, rfl, hb10, ho_yys, hn_yys, hl_yys⟩ := h10
  have hz10 := hb10.size
  replace ho_txs := ho_txs.below hb10
  replace ho_tys := ho_tys.below hb10
  replace ho_r := ho_r.below hb10
  replace ho_xxs := ho_xxs.below hb10
  replace ho_xys := ho_xys.below hb10
  replace ho_g := ho_g.below hb10
  replace ho_yxs := ho_yxs.below hb10
  replace hB := bnext hB hb10 (Nat.le_refl _)
  obtain ⟨a_yys, c_yys, rfl⟩ := ho_yys.val
  have hi_yys := ho_yys.top (Nat.le_refl _)
  go_wp2_with fail
  refine (eqInt64S_c Any Any _ _ _ _ _ _ ho_xys.arg ho_yys.arg).mono ?_
  intro e w11 h11
  obtain ⟨rfl, hb11⟩ := h11.v
  have hz11 := hb11.size
  replace ho_txs := ho_txs.below hb11
  replace ho_tys := ho_tys.below hb11
  replace ho_r := ho_r.below hb11
  replace ho_xxs := ho_xxs.below hb11
  replace ho_xys := ho_xys.below hb11
  replace ho_g := ho_g.below hb11
  replace ho_yxs := ho_yxs.below hb11
  replace ho_yys := ho_yys.below hb11
  replace hB := bnext hB hb11 (Nat.le_refl _)
  go_wp2_with fail
  refine (markInt64S_c F_xxs _ _ _ _ _ ho_xxs.own (by first | omega | (simp; omega)) (by omega) (by omega)).mono ?_
  intro e w12 h12
  obtain ⟨rfl, he12, hy12⟩ := h12
  have hz12 := Nat.le_of_eq he12.size.symm
  replace ho_txs := he12.ow ho_txs (fun g h1 h2 => by have := hl_txs g h1; have := hi_txs g h1; have := hl_xxs g h2; have := hi_xxs g h2; omega)
  replace ho_tys := he12.ow ho_tys (fun g h1 h2 => by have := hl_tys g h1; have := hi_tys g h1; have := hl_xxs g h2; have := hi_xxs g h2; omega)
  replace ho_r := he12.ow ho_r (fun g h1 h2 => by have := hl_r g h1; have := hi_r g h1; have := hl_xxs g h2; have := hi_xxs g h2; omega)
  replace ho_xys := he12.ow ho_xys (fun g h1 h2 => by have := hl_xys g h1; have := hi_xys g h1; have := hl_xxs g h2; have := hi_xxs g h2; omega)
  replace ho_g := he12.ow ho_g (fun g h1 h2 => by have := hl_g g h1; have := hi_g g h1; have := hl_xxs g h2; have := hi_xxs g h2; omega)
  replace ho_yxs := he12.ow ho_yxs (fun g h1 h2 => by have := hl_yxs g h1; have := hi_yxs g h1; have := hl_xxs g h2; have := hi_xxs g h2; omega)
  replace ho_yys := he12.ow ho_yys (fun g h1 h2 => by have := hl_yys g h1; have := hi_yys g h1; have := hl_xxs g h2; have := hi_xxs g h2; omega)
  have hW12 := he12.below (B := w.heap.size) (fun g h2 => by have := hl_xxs g h2; omega)
  replace hB := hB.trans hW12
  clear ho_xxs
  have ho_xxs := hy12
  clear hy12
  go_wp2_with fail
  refine (markInt64S_c F_xys _ _ _ _ _ ho_xys.own (by first | omega | (simp; omega)) (by omega) (by omega)).mono ?_
  intro e w13 h13
  obtain ⟨rfl, he13, hy13⟩ := h13
  have hz13 := Nat.le_of_eq he13.size.symm
  replace ho_txs := he13.ow ho_txs (fun g h1 h2 => by have := hl_txs g h1; have := hi_txs g h1; have := hl_xys g h2; have := hi_xys g h2; omega)
  replace ho_tys := he13.ow ho_tys (fun g h1 h2 => by have := hl_tys g h1; have := hi_tys g h1; have := hl_xys g h2; have := hi_xys g h2; omega)
  replace ho_r := he13.ow ho_r (fun g h1 h2 => by have := hl_r g h1; have := hi_r g h1; have := hl_xys g h2; have := hi_xys g h2; omega)
  replace ho_xxs := he13.ow ho_xxs (fun g h1 h2 => by have := hl_xxs g h1; have := hi_xxs g h1; have := hl_xys g h2; have := hi_xys g h2; omega)
  replace ho_g := he13.ow ho_g (fun g h1 h2 => by have := hl_g g h1; have := hi_g g h1; have := hl_xys g h2; have := hi_xys g h2; omega)
  replace ho_yxs := he13.ow ho_yxs (fun g h1 h2 => by have := hl_yxs g h1; have := hi_yxs g h1; have := hl_xys g h2; have := hi_xys g h2; omega)
  replace ho_yys := he13.ow ho_yys (fun g h1 h2 => by have := hl_yys g h1; have := hi_yys g h1; have := hl_xys g h2; have := hi_xys g h2; omega)
  have hW13 := he13.below (B := w.heap.size) (fun g h2 => by have := hl_xys g h2; omega)
  replace hB := hB.trans hW13
  clear ho_xys
  have ho_xys := hy13
  clear hy13
  go_wp2_with fail
  refine (eqInt64S_c Any Any _ _ _ _ _ _ ho_g.arg ho_r.arg).mono ?_
  intro e w14 h14
  obtain ⟨rfl, hb14⟩ := h14.v
  have hz14 := hb14.size
  replace ho_txs := ho_txs.below hb14
  replace ho_tys := ho_tys.below hb14
  replace ho_r := ho_r.below hb14
  replace ho_xxs := ho_xxs.below hb14
  replace ho_xys := ho_xys.below hb14
  replace ho_g := ho_g.below hb14
  replace ho_yxs := ho_yxs.below hb14
  replace ho_yys := ho_yys.below hb14
  replace hB := bnext hB hb14 (Nat.le_refl _)
  go_wp2_with fail
  refine (markInt64S_c F_g _ _ _ _ _ ho_g.own (by first | omega | (simp; omega)) (by omega) (by omega)).mono ?_
  intro e w15 h15
  obtain ⟨rfl, he15, hy15⟩ := h15
  have hz15 := Nat.le_of_eq he15.size.symm
  replace ho_txs := he15.ow ho_txs (fun g h1 h2 => by have := hl_txs g h1; have := hi_txs g h1; have := hl_g g h2; have := hi_g g h2; omega)
  replace ho_tys := he15.ow ho_tys (fun g h1 h2 => by have := hl_tys g h1; have := hi_tys g h1; have := hl_g g h2; have := hi_g g h2; omega)
  replace ho_r := he15.ow ho_r (fun g h1 h2 => by have := hl_r g h1; have := hi_r g h1; have := hl_g g h2; have := hi_g g h2; omega)
  replace ho_xxs := he15.ow ho_xxs (fun g h1 h2 => by have := hl_xxs g h1; have := hi_xxs g h1; have := hl_g g h2; have := hi_g g h2; omega)
  replace ho_xys := he15.ow ho_xys (fun g h1 h2 => by have := hl_xys g h1; have := hi_xys g h1; have := hl_g g h2; have := hi_g g h2; omega)
  replace ho_yxs := he15.ow ho_yxs (fun g h1 h2 => by have := hl_yxs g h1; have := hi_yxs g h1; have := hl_g g h2; have := hi_g g h2; omega)
  replace ho_yys := he15.ow ho_yys (fun g h1 h2 => by have := hl_yys g h1; have := hi_yys g h1; have := hl_g g h2; have := hi_g g h2; omega)
  have hW15 := he15.below (B := w.heap.size) (fun g h2 => by have := hl_g g h2; omega)
  replace hB := hB.trans hW15
  clear ho_g
  have ho_g := hy15
  clear hy15
  go_wp2_with fail
  refine (heldInt64S_c Any _ _ _ _ _ ho_g.arg (by omega) (by omega) (by omega)).mono ?_
  intro e w16 h16
  obtain ⟨rfl, hb16⟩ := h16.v
  have hz16 := hb16.size
  replace ho_txs := ho_txs.below hb16
  replace ho_tys := ho_tys.below hb16
  replace ho_r := ho_r.below hb16
  replace ho_xxs := ho_xxs.below hb16
  replace ho_xys := ho_xys.below hb16
  replace ho_g := ho_g.below hb16
  replace ho_yxs := ho_yxs.below hb16
  replace ho_yys := ho_yys.below hb16
  replace hB := bnext hB hb16 (Nat.le_refl _)
  go_wp2_with fail
  refine (toInt64S_c _ _ _ _ _ (hx_xs.below hB) (by omega)).mono ?_
  intro e w17 h17
  obtain ⟨v, F_zxs, rfl, hb17, ho_zxs, hn_zxs, hl_zxs⟩ := h17
  have hz17 := hb17.size
  replace ho_txs := ho_txs.below hb17
  replace ho_tys := ho_tys.below hb17
  replace ho_r := ho_r.below hb17
  replace ho_xxs := ho_xxs.below hb17
  replace ho_xys := ho_xys.below hb17
  replace ho_g := ho_g.below hb17
  replace ho_yxs := ho_yxs.below hb17
  replace ho_yys := ho_yys.below hb17
  replace hB := bnext hB hb17 (Nat.le_refl _)
  obtain ⟨a_zxs, c_zxs, rfl⟩ := ho_zxs.val
  have hi_zxs := ho_zxs.top (Nat.le_refl _)
  go_wp2_with fail
  refine (toInt64S_c _ _ _ _ _ (hx_ys.below hB) (by omega)).mono ?_
  intro e w18 h18
  obtain ⟨v, F_zys, rfl, hb18, ho_zys, hn_zys, hl_zys⟩ := h18
  have hz18 := hb18.size
  replace ho_txs := ho_txs.below hb18
  replace ho_tys := ho_tys.below hb18
  replace ho_r := ho_r.below hb18
  replace ho_xxs := ho_xxs.below hb18
  replace ho_xys := ho_xys.below hb18
  replace ho_g := ho_g.below hb18
  replace ho_yxs := ho_yxs.below hb18
  replace ho_yys := ho_yys.below hb18
  replace ho_zxs := ho_zxs.below hb18
  replace hB := bnext hB hb18 (Nat.le_refl _)
  obtain ⟨a_zys, c_zys, rfl⟩ := ho_zys.val
  have hi_zys := ho_zys.top (Nat.le_refl _)
  go_wp2_with fail
  refine (implTakeBag_c Any _ _ _ _ _ _ _ ho_zxs.arg ho_zys.arg).mono ?_
  intro e w19 h19
  obtain ⟨v, F_k, rfl, hb19, ho_k, hn_k, hl_k⟩ := h19
  have hz19 := hb19.size
  replace ho_txs := ho_txs.below hb19
  replace ho_tys := ho_tys.below hb19
  replace ho_r := ho_r.below hb19
  replace ho_xxs := ho_xxs.below hb19
  replace ho_xys := ho_xys.below hb19
  replace ho_g := ho_g.below hb19
  replace ho_yxs := ho_yxs.below hb19
  replace ho_yys := ho_yys.below hb19
  replace ho_zxs := ho_zxs.below hb19
  replace ho_zys := ho_zys.below hb19
  replace hB := bnext hB hb19 (Nat.le_refl _)
  obtain ⟨a_k, c_k, rfl⟩ := ho_k.val
  have hi_k := ho_k.top (Nat.le_refl _)
  go_wp2_with fail
  refine (eqInt64S_c Any Any _ _ _ _ _ _ ho_k.arg ho_r.arg).mono ?_
  intro e w20 h20
  obtain ⟨rfl, hb20⟩ := h20.v
  have hz20 := hb20.size
  replace ho_txs := ho_txs.below hb20
  replace ho_tys := ho_tys.below hb20
  replace ho_r := ho_r.below hb20
  replace ho_xxs := ho_xxs.below hb20
  replace ho_xys := ho_xys.below hb20
  replace ho_g := ho_g.below hb20
  replace ho_yxs := ho_yxs.below hb20
  replace ho_yys := ho_yys.below hb20
  replace ho_zxs := ho_zxs.below hb20
  replace ho_zys := ho_zys.below hb20
  replace ho_k := ho_k.below hb20
  replace hB := bnext hB hb20 (Nat.le_refl _)
  go_wp2_with fail
  refine (heldInt64S_c Any _ _ _ _ _ ho_g.arg (by omega) (by omega) (by omega)).mono ?_
  intro e w21 h21
  obtain ⟨rfl, hb21⟩ := h21.v
  have hz21 := hb21.size
  replace ho_txs := ho_txs.below hb21
  replace ho_tys := ho_tys.below hb21
  replace ho_r := ho_r.below hb21
  replace ho_xxs := ho_xxs.below hb21
  replace ho_xys := ho_xys.below hb21
  replace ho_g := ho_g.below hb21
  replace ho_yxs := ho_yxs.below hb21
  replace ho_yys := ho_yys.below hb21
  replace ho_zxs := ho_zxs.below hb21
  replace ho_zys := ho_zys.below hb21
  replace ho_k := ho_k.below hb21
  replace hB := bnext hB hb21 (Nat.le_refl _)
  go_wp2
  go_ret
  exact ⟨rfl, hB⟩
set_option maxRecDepth 100000 in
theorem lifted (os : Os) (started : os.Started) (H : Type) (enc : TypeId × Value → H) :
    ReturnsInHanded {} Try.checked os 8 .any (Rows.fnExactTakeBagSpec.pre6 enc Try.prog Try.f8 Rows.fnExactTakeBagRow.domain false) (Rows.fnExactTakeBagSpec.post enc Try.prog Try.f8 false true false false) :=
  lift Try.func8 (by kernel_rfl) rfl rfl (by kernel_rfl : Try.prog.underlying 4 = some .bool) (by kernel_rfl) (fun ds h => by match ds, h with | [d0, d1], _ => rfl) started
    (ChangeSpec.witness6 (enc := enc) (C := Try.checked) false ⟨#[], #[.slice none 0 0, .slice none 0 0], []⟩ 8 (by kernel_rfl) (by kernel_rfl) (by kernel_rfl) (by kernel_rfl))
    (fun W base args ds p hval hA => by
      rw [Try.params8] at hA hval
      obtain ⟨v0, vs0, d0, ds0, p0, q0, hargs0, rfl, rfl, g0, r0⟩ := ChangeShapes.trodAll_cons hA
      obtain ⟨v1, vs1, d1, ds1, p1, q1, hargs1, rfl, rfl, g1, r1⟩ := ChangeShapes.trodAll_cons r0
      obtain ⟨hnil, rfl, rfl⟩ := ChangeShapes.trodAll_nil r1
      obtain rfl : args = #[v0, v1] := by cases args; simp_all
      obtain ⟨a0, n0, c0, rfl, hs0⟩ := open_I tabI.under (by kernel_rfl : Try.prog.underlying 2 = some (.int .i64)) (by kernel_rfl) (hval 0 _ _ rfl rfl) g0
      obtain ⟨a1, n1, c1, rfl, hs1⟩ := open_I tabI.under (by kernel_rfl : Try.prog.underlying 2 = some (.int .i64)) (by kernel_rfl) (hval 1 _ _ rfl rfl) g1
      exact walk a0 n0 c0 a1 n1 c1 W (by obtain ⟨xs, h1, h2⟩ := hs0; rw [← h1]; exact h2.len) hs0 (by obtain ⟨xs, h1, h2⟩ := hs1; rw [← h1]; exact h2.len) hs1)
theorem proved : Rows.FnExactTakeBagSaid :=
  OpenClaim.holds_of_wide 8 Try.f8 rfl rfl rfl rfl rfl rfl rfl ⟨rfl, rfl, rfl, rfl, rfl⟩ rfl rfl rfl rfl rfl (by kernel_rfl) Try.func8 (by kernel_rfl)
    (of_decide_eq_true (by kernel_rfl)) (by unfold Func.isWrapper; first | (rw [if_pos (by decide +kernel)]; kernel_rfl) | (rw [if_neg (by decide +kernel)]; exact ⟨rfl, rfl⟩))
    (fun os started H enc _ => lifted os started H enc)
end Go.Proofs.Ythfkhallnbcopaa.lawTakeBag
