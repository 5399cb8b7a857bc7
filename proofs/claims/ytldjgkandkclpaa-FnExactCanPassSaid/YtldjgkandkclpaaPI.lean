/- Weights of places; the invariant's value: contracts. -/
import Derived.Test.YtldjgkandkclpaaST
import Derived.Test.YtldjgkandkclpaaI
namespace Go.Proofs.Ytldjgkandkclpaa
open Go.RowKit

def passInvS (x0 : Int) (x1 : List Int) (x2 : List Bool) (x3 : List PR) (y0 : List (List Int)) (y1 : List Int) (ws : List (List Int)) : Int × Int :=
  if stCode x0 x1 x2 x3 y0 y1 = 0 then (if areW x0 x1.length ws = true then (invTo ws y0 y1 x1.length x1.length, 0) else (0, 2)) else (0, stCode x0 x1 x2 x3 y0 y1)
theorem take_flat {xss : List (List Int)} {k : Nat} (h : k < xss.length) : (xss.take (k + 1)).flatten = (xss.take k).flatten ++ nthR xss k := by
  rw [List.take_succ_eq_append_getElem h, List.flatten_append, nthR_lt h]; simp
theorem takeflat_len {xss : List (List Int)} {K : Nat} (h : ∀ i, i < xss.length → (nthR xss i).length = K) : ∀ k, k ≤ xss.length → (xss.take k).flatten.length = k * K
  | 0, _ => by simp
  | k + 1, hk => by rw [take_flat (by omega), List.length_append, takeflat_len h k (by omega), h k (by omega), Nat.add_mul, Nat.one_mul]
theorem bags_flat (y0 : List (List Int)) (y1 : List Int) : (bagsS y0 y1).flatten = (y0.take y0.length).flatten ++ y1 := by simp [bagsS]
theorem small_mul {k K n : Nat} (h1 : k ≤ n) (h2 : K ≤ 8) : k * K ≤ 8 * n := by
  have := Nat.mul_le_mul h1 h2; rw [Nat.mul_comm n 8] at this; exact this
theorem SlI.addr0 {S : Nat → Prop} {w : World} {a : Option Addr} {xs : List Int} (h : SlI S w a xs) (h0 : 1 ≤ xs.length) : ∃ ad, a = some ad := h.addr h0
set_option maxHeartbeats 400000 in
theorem indexFuncII_v (f : FuncId) (caps : Array Value) (p : List Int → Bool) (hcall : ∀ args w, (callFunc f args).run Try.prog w = .ok (.enter f args) w)
   (S : Nat → Prop) (a : Option Addr) (c : Nat) (xs : List (List Int)) (w : World) (hx : SlII S w a xs)
   (hf : Hid (∀ j, j < xs.length → ∀ a' c' w', Below w.heap.size w w' → SlI S w' a' (nthR xs j) → Calls Try.prog f (#[.slice a' (nthR xs j).length c'] ++ caps) w' (RetV w' (.bool (p (nthR xs j)))))) :
    Calls Try.prog 185 #[.slice a xs.length c, .func (.func f) #[] caps] w (RetV w (.int .i64 (idxII p xs))) := by
  have l1 := hx.len
  unfold maxLen at l1
  have i1 := hx.ix tabII.under tabII.size c
  go_enter Try.func185, Try.ntmps185
  go_wp2
  go_loopw [5, 8] (fun _ i wr => ∃ k : Nat, k ≤ xs.length ∧ i = .int .i64 k ∧ Below w.heap.size w wr ∧ (∀ j, j < k → p (nthR xs j) = false)) (fun _ i _ => xs.length - (intOf i).toNat)
  case atStart => exact ⟨0, Nat.zero_le _, rfl, Below.refl _ _, by omega⟩
  case round =>
      obtain ⟨k, hk, rfl, hb, hj⟩ := hrel
      have HJ := Lib.hid hj
      have HB := Lib.hid hb
      clear hj hb
      by_cases hlt : k < xs.length
      · obtain ⟨a', c', g1, hs⟩ := (hx.below HB.out).cell k hlt
        have HC := Lib.hid (hf.out k hlt a' c' wr HB.out hs)
        clear hs
        go_wp2_with fail
        refine HC.out.mono ?_
        rintro e w' ⟨rfl, hb2⟩
        have HB2 := Lib.hid (bnext HB.out hb2 (Nat.le_refl _))
        clear hb2
        cases hp : p (nthR xs k)
        · have hp' := Lib.hid hp
          clear hp
          go_wp2
          go_roundw
          case rel => exact ⟨k + 1, by omega, by go_num, HB2.out, upto HJ.out hp'.out⟩
          case measure => simp [intOf]; omega
        · have HP := Lib.hid hp
          clear hp
          go_wp2
          go_ret
          exact ⟨ret_int (idxII_at hlt HJ.out HP.out).symm, HB2.out⟩
      · go_wp2
        go_ret
        have e : k = xs.length := by omega
        exact ⟨ret_int (idxII_none (e ▸ HJ.out)).symm, HB.out⟩
theorem containsFuncII_v (f : FuncId) (caps : Array Value) (p : List Int → Bool) (hcall : ∀ args w, (callFunc f args).run Try.prog w = .ok (.enter f args) w)
   (S : Nat → Prop) (a : Option Addr) (c : Nat) (xs : List (List Int)) (w : World) (hx : SlII S w a xs)
   (hf : Hid (∀ j, j < xs.length → ∀ a' c' w', Below w.heap.size w w' → SlI S w' a' (nthR xs j) → Calls Try.prog f (#[.slice a' (nthR xs j).length c'] ++ caps) w' (RetV w' (.bool (p (nthR xs j)))))) :
    Calls Try.prog 144 #[.slice a xs.length c, .func (.func f) #[] caps] w (RetV w (.bool (anyII p xs))) := by
  go_enter Try.func144, Try.ntmps144
  go_wp2_with fail
  refine (indexFuncII_v f caps p hcall S a c xs w hx hf).mono ?_
  rintro e w' ⟨rfl, hb⟩
  go_wp2
  go_ret
  exact ⟨ret_bool (idxII_any p xs), hb⟩
theorem outside_c (x0 : Int) (n c1 : Nat) (a1 : Option Addr) (v2 v3 : Value) (w : World) (hn : n ≤ maxLen) :
    Calls Try.prog 89 #[.agg #[.int .i64 x0, .slice a1 n c1, v2, v3]] w (RetV w (.int .i64 n)) := by
  have hb0 := below_alloc w (.cells #[.int .i64 x0, .slice a1 n c1, v2, v3] 30)
  go_enter Try.func89, Try.ntmps89
  go_wp2_with fail
  refine (size_int_c _ _ _ _ hn).mono ?_
  rintro e w' ⟨rfl, rfl⟩
  go_wp2
  go_ret
  exact ⟨rfl, hb0⟩
theorem areWeights11_c (n : Int) (w : World) : Calls Try.prog 147 #[.int .i64 n] w (RetP w (.bool (!inRg n (-1000) 1000))) := by
  go_enter Try.func147, Try.ntmps147
  go_wp2_with fail
  refine (inRange_c _ _ _ _).mono ?_
  rintro e w' ⟨rfl, rfl⟩
  go_wp2
  go_ret
  exact ⟨rfl, rfl⟩
set_option maxHeartbeats 1000000 in
theorem areWeights1_c (x0 : Int) (p : Nat) (a : Option Addr) (c : Nat) (xs : List Int) (w : World) (hx : SlI Any w a xs) (hp : w.cell? ⟨p, 0, none⟩ = some (.int .i64 x0)) :
    Calls Try.prog 145 #[.slice a xs.length c, .pointer (some ⟨p, 0, none⟩)] w (RetV w (.bool (!wOk x0 xs))) := by
  have l1 := hx.len
  have HS := Lib.hid (fun x : Wd w => callsP (size_int_c a xs.length c (wat x) l1))
  have HC := Lib.hid (fun x : Wd w => callsP (containsFuncI_c 147 #[] (fun n => !inRg n (-1000) 1000) (callFunc_run Try.func147 (by kernel_rfl) rfl) Any a c xs (wat x) (hx.below (wat_below x)) (Lib.hid fun n => areWeights11_c n (wat x))))
  rw [anyB_not] at HC
  have q0 := wat_cell hp
  clear hx hp l1
  cases b1 : ((xs.length : Int) == x0)
  · have e : (!wOk x0 xs) = true := by simp [wOk, b1]
    have b2 : ((xs.length : Int) != x0) = true := by simpa using b1
    rw [e]
    clear e
    go_enter Try.func145, Try.ntmps145
    go_wp2
    refine wp_quiet_wd (by kernel_rfl) (by kernel_rfl) ?_
    repeat (go_big_quiet_step (first | with_reducible exact wdV (HS.out _) | with_reducible exact wdV (HC.out _)))
    refine wpQuiet_nil ?_
    rintro _ ⟨wq, rfl⟩
    go_wp2
    go_ret
    exact ⟨rfl, wat_below wq⟩
  · have e : (!wOk x0 xs) = !allB (fun n => inRg n (-1000) 1000) xs := by simp [wOk, b1]
    have b2 : ((xs.length : Int) != x0) = false := by simpa using b1
    rw [e]
    clear e
    go_enter Try.func145, Try.ntmps145
    go_wp2
    refine wp_quiet_wd (by kernel_rfl) (by kernel_rfl) ?_
    repeat (go_big_quiet_step (first | with_reducible exact wdV (HS.out _) | with_reducible exact wdV (HC.out _)))
    refine wpQuiet_nil ?_
    rintro _ ⟨wq, rfl⟩
    go_wp2
    go_ret
    exact ⟨rfl, wat_below wq⟩
set_option maxHeartbeats 1000000 in
theorem areWeights_c (x0 : Int) (n c1 : Nat) (a1 : Option Addr) (v2 v3 : Value) (b : Option Addr) (d : Nat) (ws : List (List Int)) (w : World) (hn : n ≤ 4) (hx : SlII Any w b ws) :
    Calls Try.prog 88 #[.agg #[.int .i64 x0, .slice a1 n c1, v2, v3], .slice b ws.length d] w (RetV w (.bool (areW x0 n ws))) := by
  have hb0 := below_alloc w (.cells #[.int .i64 x0, .slice a1 n c1, v2, v3] 30)
  have l1 := hx.len
  unfold maxLen at l1
  have HC := Lib.hid (containsFuncII_v 145 #[.pointer (some ⟨w.heap.size, 0, none⟩)] (fun l => !wOk x0 l) (callFunc_run Try.func145 (by kernel_rfl) rfl) Any b d ws (w.alloc (.cells #[.int .i64 x0, .slice a1 n c1, v2, v3] 30)) (hx.below hb0)
    (Lib.hid fun j hj a' c' w' hb h => areWeights1_c x0 w.heap.size a' c' _ w' h (by rw [bcell1 hb (by simp)]; simp [go_sem])))
  rw [anyII_not] at HC
  have HB0 := Lib.hid hb0
  clear hx hb0
  cases hl : ((ws.length : Int) == n + 1)
  · have e : areW x0 n ws = false := by
      have : ¬ ws.length = n + 1 := by intro h; rw [h] at hl; simp at hl
      simp [areW, this]
    rw [e]
    clear e
    go_enter Try.func88, Try.ntmps88
    go_wp2
    go_ret
    exact ⟨rfl, HB0.out⟩
  · have e : areW x0 n ws = allII (wOk x0) ws := by
      have : ws.length = n + 1 := by simp at hl; omega
      simp [areW, this]
    rw [e]
    clear e
    go_enter Try.func88, Try.ntmps88
    go_wp2_with fail
    refine HC.out.mono ?_
    rintro e w1 ⟨rfl, hb1⟩
    have HB1 := Lib.hid (HB0.out.trans (hb1.mono (by simp <;> omega)))
    clear hb1
    go_wp2
    go_ret
    exact ⟨ret_bool (by simp), HB1.out⟩
set_option maxHeartbeats 4000000 in
set_option maxRecDepth 100000 in
theorem implPassInvariant_c (x0 : Int) (x1 : List Int) (x2 : List Bool) (x3 : List PR) (y0 : List (List Int)) (y1 : List Int) (a1 a2 a3 b0 b1 : Option Addr) (c1 c2 c3 d0 d1 : Nat) (w : World) (h1 : SlI Any w a1 x1) (hc1 : x1.length ≤ c1) (h2 : SlB Any w a2 x2) (h3 : Rd Any w (dPR x3) (.slice a3 x3.length c3)) (k0 : SlII Any w b0 y0) (k1 : SlI Any w b1 y1) (b : Option Addr) (d : Nat) (ws : List (List Int)) (kw : SlII Any w b ws) :
    Calls Try.prog 36 #[.agg #[.int .i64 x0, .slice a1 x1.length c1, .slice a2 x2.length c2, .slice a3 x3.length c3], .agg #[.slice b0 y0.length d0, .slice b1 y1.length d1], .slice b ws.length d] w (RetV w (.tuple #[.int .i64 (passInvS x0 x1 x2 x3 y0 y1 ws).1, .int .i64 (passInvS x0 x1 x2 x3 y0 y1 ws).2])) := by
  have hb0 : Below w.heap.size w ((w.alloc (.cells #[.int .i64 x0, .slice a1 x1.length c1, .slice a2 x2.length c2, .slice a3 x3.length c3] 30)).alloc (.cells #[.slice b0 y0.length d0, .slice b1 y1.length d1] 66)) := ((Below.refl _ _).alloc (Nat.le_refl _) _).alloc (by simp) _
  have HC := Lib.hid (stockCode_c x0 x1 x2 x3 y0 y1 a1 a2 a3 b0 b1 c1 c2 c3 d0 d1 ((w.alloc (.cells #[.int .i64 x0, .slice a1 x1.length c1, .slice a2 x2.length c2, .slice a3 x3.length c3] 30)).alloc (.cells #[.slice b0 y0.length d0, .slice b1 y1.length d1] 66)) (h1.below hb0) hc1 (h2.below hb0) (h3.below hb0) (k0.below hb0) (k1.below hb0))
  have HB0 := Lib.hid hb0
  clear hb0
  by_cases hcode : stCode x0 x1 x2 x3 y0 y1 = 0
  · obtain ⟨K, hxK, hps, hst⟩ := stockAll_ok (stCode_ok hcode)
    have HA := Lib.hid (fun wx (h : Below w.heap.size w wx) => areWeights_c x0 x1.length c1 a1 (.slice a2 x2.length c2) (.slice a3 x3.length c3) b d ws wx hps.p4 (kw.below h))
    have HO := Lib.hid (fun wx => outside_c x0 x1.length c1 a1 (.slice a2 x2.length c2) (.slice a3 x3.length c3) wx (by have := hps.p4; unfold maxLen; omega))
    have l0 := k0.len
    have l2 := kw.len
    unfold maxLen at l0 l2
    have i1 := k0.ix tabII.under tabII.size d0
    have i2 := kw.ix tabII.under tabII.size d
    have K0 := Lib.hid k0
    have K1 := Lib.hid k1
    have KW := Lib.hid kw
    have HN : Hid (y0.length = x1.length) := Lib.hid hst.len
    have h4 := hps.p4
    cases hw : areW x0 x1.length ws
    · have ev : passInvS x0 x1 x2 x3 y0 y1 ws = (0, 2) := by simp [passInvS, hcode, hw]
      have HA2 : Hid (∀ wx, Below w.heap.size w wx → Calls Try.prog 88 #[.agg #[.int .i64 x0, .slice a1 x1.length c1, .slice a2 x2.length c2, .slice a3 x3.length c3], .slice b ws.length d] wx (RetV wx (.bool false))) := Lib.hid (fun wx h => by have := HA.out wx h; rwa [hw] at this)
      rw [ev]
      rw [hcode] at HC
      clear ev hcode hxK hps hst h1 h2 h3 k0 k1 kw hw HA
      go_enter Try.func36, Try.ntmps36
      go_wp2_with fail
      refine HC.out.mono ?_
      rintro e w1 ⟨rfl, hb1⟩
      have f0 : w1.cell? ⟨w.heap.size, 0, none⟩ = some (.int .i64 x0) := by rw [bcell1 hb1 (by simp <;> omega)]; simp [go_sem]
      have f1 : w1.cell? ⟨w.heap.size, 1, none⟩ = some (.slice a1 x1.length c1) := by rw [bcell1 hb1 (by simp <;> omega)]; simp [go_sem]
      have f2 : w1.cell? ⟨w.heap.size, 2, none⟩ = some (.slice a2 x2.length c2) := by rw [bcell1 hb1 (by simp <;> omega)]; simp [go_sem]
      have f3 : w1.cell? ⟨w.heap.size, 3, none⟩ = some (.slice a3 x3.length c3) := by rw [bcell1 hb1 (by simp <;> omega)]; simp [go_sem]
      have e0 : w1.cell? ⟨w.heap.size + 1, 0, none⟩ = some (.slice b0 y0.length d0) := by rw [bcell1 hb1 (by simp <;> omega)]; simp [go_sem]
      have e1 : w1.cell? ⟨w.heap.size + 1, 1, none⟩ = some (.slice b1 y1.length d1) := by rw [bcell1 hb1 (by simp <;> omega)]; simp [go_sem]
      have zz : w.heap.size + 1 < w1.heap.size := World.block_lt_of_cell? w1 _ e0
      have HB1 := Lib.hid (HB0.out.trans (hb1.mono (by simp <;> omega)))
      clear hb1
      go_wp2_with fail
      refine (HA2.out w1 HB1.out).mono ?_
      rintro e w2 ⟨rfl, hb2⟩
      replace f0 := (bcell1 hb2 (by omega)).trans f0
      replace f1 := (bcell1 hb2 (by omega)).trans f1
      replace f2 := (bcell1 hb2 (by omega)).trans f2
      replace f3 := (bcell1 hb2 (by omega)).trans f3
      replace e0 := (bcell1 hb2 (by omega)).trans e0
      replace e1 := (bcell1 hb2 (by omega)).trans e1
      have HB2 := Lib.hid (bnext HB1.out hb2 (Nat.le_refl _))
      clear hb2
      go_wp2
      go_ret2
      exact ⟨rfl, HB2.out⟩
    · have ev : passInvS x0 x1 x2 x3 y0 y1 ws = (invTo ws y0 y1 x1.length x1.length, 0) := by simp [passInvS, hcode, hw]
      rw [hxK] at hw
      have HWL : Hid (∀ i, i < ws.length → (nthR ws i).length = K) := Lib.hid fun i hi => by have h := (areW_ok hw).1; exact ((areW_ok hw).2 i (by omega)).1
      have hwl := (areW_ok hw).1
      have HR : Hid (∀ i, i < y0.length → (nthR y0 i).length = K) := Lib.hid fun i hi => (hst.bag i (by have := hst.len; omega)).2
      have HYK : Hid (y1.length = K ∧ K ≤ 8) := Lib.hid ⟨hst.around.2, hps.k8⟩
      have HWN : Hid (ws.length = x1.length + 1) := Lib.hid hwl
      have HA2 : Hid (∀ wx, Below w.heap.size w wx → Calls Try.prog 88 #[.agg #[.int .i64 x0, .slice a1 x1.length c1, .slice a2 x2.length c2, .slice a3 x3.length c3], .slice b ws.length d] wx (RetV wx (.bool true))) := Lib.hid (fun wx h => by have := HA.out wx h; rw [← hxK] at hw; rwa [hw] at this)
      rw [ev]
      rw [hcode] at HC
      clear ev hcode hxK hps hst h1 h2 h3 k0 k1 kw hw HA hwl
      go_enter Try.func36, Try.ntmps36
      go_wp2_with fail
      refine HC.out.mono ?_
      rintro e w1 ⟨rfl, hb1⟩
      have f0 : w1.cell? ⟨w.heap.size, 0, none⟩ = some (.int .i64 x0) := by rw [bcell1 hb1 (by simp <;> omega)]; simp [go_sem]
      have f1 : w1.cell? ⟨w.heap.size, 1, none⟩ = some (.slice a1 x1.length c1) := by rw [bcell1 hb1 (by simp <;> omega)]; simp [go_sem]
      have f2 : w1.cell? ⟨w.heap.size, 2, none⟩ = some (.slice a2 x2.length c2) := by rw [bcell1 hb1 (by simp <;> omega)]; simp [go_sem]
      have f3 : w1.cell? ⟨w.heap.size, 3, none⟩ = some (.slice a3 x3.length c3) := by rw [bcell1 hb1 (by simp <;> omega)]; simp [go_sem]
      have e0 : w1.cell? ⟨w.heap.size + 1, 0, none⟩ = some (.slice b0 y0.length d0) := by rw [bcell1 hb1 (by simp <;> omega)]; simp [go_sem]
      have e1 : w1.cell? ⟨w.heap.size + 1, 1, none⟩ = some (.slice b1 y1.length d1) := by rw [bcell1 hb1 (by simp <;> omega)]; simp [go_sem]
      have zz : w.heap.size + 1 < w1.heap.size := World.block_lt_of_cell? w1 _ e0
      have HB1 := Lib.hid (HB0.out.trans (hb1.mono (by simp <;> omega)))
      clear hb1
      go_wp2_with fail
      refine (HA2.out w1 HB1.out).mono ?_
      rintro e w2 ⟨rfl, hb2⟩
      replace f0 := (bcell1 hb2 (by omega)).trans f0
      replace f1 := (bcell1 hb2 (by omega)).trans f1
      replace f2 := (bcell1 hb2 (by omega)).trans f2
      replace f3 := (bcell1 hb2 (by omega)).trans f3
      replace e0 := (bcell1 hb2 (by omega)).trans e0
      replace e1 := (bcell1 hb2 (by omega)).trans e1
      have HB2 := Lib.hid (bnext HB1.out hb2 (Nat.le_refl _))
      have z2 : w.heap.size + 1 < w2.heap.size := Nat.lt_of_lt_of_le zz hb2.size
      clear hb2 zz
      have kx : (x1.length : Int) < ws.length := by have := HWN.out; omega
      obtain ⟨aw, cw, gw, hsw⟩ := (KW.out.below HB2.out).cell x1.length (by omega)
      have HOV := Lib.hid (fun x : Wd w2 => HO.out (wat x))
      have HWV := Lib.hid (fun x : Wd w2 => weigh_c Any b1 aw d1 cw y1 (nthR ws x1.length) (wat x) ((K1.out.below HB2.out).below (wat_below x)) (hsw.below (wat_below x)).any (by rw [HWL.out _ (by omega), HYK.out.1]; exact Nat.le_refl _) (by have := HYK.out; omega))
      have rf0 := wat_cell f0
      have rf1 := wat_cell f1
      have rf2 := wat_cell f2
      have rf3 := wat_cell f3
      have re0 := wat_cell e0
      have re1 := wat_cell e1
      have rgw := wat_cell gw
      clear hsw
      go_wp2
      refine wp_quiet_wd (by kernel_rfl) (by kernel_rfl) ?_
      repeat (go_big_quiet_step (first | with_reducible exact wdV (HOV.out _) | with_reducible exact wdV (HWV.out _)))
      refine wpQuiet_nil ?_
      rintro _ ⟨wq, rfl⟩
      have g0 := re0 wq
      have HB3 := Lib.hid (bnext HB2.out (wat_below wq) (Nat.le_refl _))
      clear rf0 rf1 rf2 rf3 re0 re1 rgw f0 f1 f2 f3 e0 e1 gw
      go_wp2
      go_loopw [9, 10, 11, 37] (fun s _ _ i wr => ∃ k : Nat, k ≤ y0.length ∧ i = .int .i64 k ∧ s = .int .i64 (invTo ws y0 y1 x1.length k) ∧ Below w.heap.size w wr) (fun _ _ _ i _ => y0.length - (intOf i).toNat)
      case atStart => exact ⟨0, Nat.zero_le _, rfl, rfl, HB3.out⟩
      case round =>
        obtain ⟨k, hk, rfl, rfl, hb⟩ := hrel
        have HB := Lib.hid hb
        clear hb
        by_cases hlt : k < y0.length
        · have hlt2 : (k : Int) < ws.length := by have := HN.out; omega
          obtain ⟨ay, cy, gy, hsy⟩ := (K0.out.below HB.out).cell k hlt
          obtain ⟨av, cv, gv, hsv⟩ := (KW.out.below HB.out).cell k (by omega)
          have HG := Lib.hid (weigh_c Any ay av cy cv (nthR y0 k) (nthR ws k) wr hsy.any hsv.any (by rw [HWL.out _ (by omega), HR.out _ hlt]; exact Nat.le_refl _) (by rw [HR.out _ hlt]; have := HYK.out; omega))
          have hw64 : IntKind.i64.wrap (invTo ws y0 y1 x1.length k + weighS (nthR y0 k) (nthR ws k)) = invTo ws y0 y1 x1.length (k + 1) := by rw [wrap_64, invTo]
          clear hsy hsv
          go_wp2_with fail
          refine HG.out.mono ?_
          rintro e w4 ⟨rfl, hb4⟩
          have HB4 := Lib.hid (bnext HB.out hb4 (Nat.le_refl _))
          clear hb4 gy gv
          go_wp2
          go_roundw
          case rel => exact ⟨k + 1, by omega, by go_num, (by first | rfl | (rw [← hw64]) | (simp only [hw64])), HB4.out⟩
          case measure => simp [intOf]; omega
        · have e : k = x1.length := by have := HN.out; omega
          subst e
          go_wp2
          go_ret2
          exact ⟨rfl, HB.out⟩
  · have ev : passInvS x0 x1 x2 x3 y0 y1 ws = (0, stCode x0 x1 x2 x3 y0 y1) := by rw [passInvS, if_neg hcode]
    have hc1' : (stCode x0 x1 x2 x3 y0 y1 == 0) = false := by simpa using hcode
    have hc2 : (stCode x0 x1 x2 x3 y0 y1 != 0) = true := by simpa using hcode
    rw [ev]
    clear ev hcode h1 h2 h3 k0 k1
    go_enter Try.func36, Try.ntmps36
    go_wp2_with fail
    refine HC.out.mono ?_
    rintro e w1 ⟨rfl, hb1⟩
    have HB1 := Lib.hid (HB0.out.trans (hb1.mono (by simp <;> omega)))
    clear hb1
    go_wp2
    go_ret2
    exact ⟨rfl, HB1.out⟩
set_option maxHeartbeats 2000000 in
set_option maxRecDepth 100000 in
theorem l06Flat_c (K : Nat) (y0 : List (List Int)) (y1 : List Int) (b0 b1 : Option Addr) (d0 d1 : Nat) (p q : Addr) (qb : Nat) (w : World) (k0 : SlII Any w b0 y0) (k1 : SlI Any w b1 y1) (hq : q = ⟨qb, 0, none⟩)
    (hq0 : w.cell? ⟨qb, 0, none⟩ = some (.slice b0 y0.length d0)) (hq1 : w.cell? ⟨qb, 1, none⟩ = some (.slice b1 y1.length d1)) (hr : Hid (∀ i, i < y0.length → (nthR y0 i).length = K)) (h1 : y1.length = K) (hK : 1 ≤ K) (hK8 : K ≤ 8) (hn : y0.length ≤ 4) :
    Calls Try.prog 104 #[.pointer (some p), .pointer (some q)] w (RetB 2 w (bagsS y0 y1).flatten) := by
  subst hq
  have i1 := k0.ix tabII.under tabII.size d0
  have zq : qb < w.heap.size := World.block_lt_of_cell? w _ hq0
  have hbl := Bld.empty 2 w w.heap.size (Nat.le_refl _)
  have K0 := Lib.hid k0
  have K1 := Lib.hid k1
  have H1 := Lib.hid h1
  have HL := Lib.hid (fun k (h : k ≤ y0.length) => takeflat_len hr.out k h)
  have HBL := Lib.hid hbl
  have HB0 := Lib.hid (below_alloc w (.cells #[] 2))
  clear k0 k1 h1 hbl
  go_enter Try.func104, Try.ntmps104
  go_wp2
  go_loopw [5, 6] (fun v i wr => ∃ k : Nat, k ≤ y0.length ∧ i = .int .i64 k ∧ Below w.heap.size w wr ∧ Bld 2 wr w.heap.size v ((y0.take k).flatten.map (.int .i64))) (fun _ i _ => y0.length - (intOf i).toNat)
  case atStart => exact ⟨0, Nat.zero_le _, rfl, HB0.out, HBL.out⟩
  case round =>
    obtain ⟨k, hk, rfl, hb, hbl⟩ := hrel
    have f0 := (bcell1 hb zq).trans hq0
    have f1 := (bcell1 hb zq).trans hq1
    have hz := hb.size
    have HB := Lib.hid hb
    have HL2 := Lib.hid hbl
    clear hb hbl
    by_cases hlt : k < y0.length
    · obtain ⟨ay, cy, gy, hsy⟩ := (K0.out.below HB.out).cell k hlt
      have hrk := hr.out k hlt
      have had := hsy.addr (by omega)
      have hln := HL.out k hk
      have hm := small_mul (k := k) (K := K) (n := 4) (by omega) hK8
      have HS := Lib.hid hsy.any
      have HAD := Lib.hid had
      have HLT : Hid (((y0.take k).flatten.map (Value.int .i64)).length + (nthR y0 k).length < 4294967296) := Lib.hid (by rw [List.length_map, hln, hrk]; omega)
      clear hsy had hln hm hrk
      go_wp2_with (at_builtin; refine app_many rfl _ _ 22 rfl tabI rfl (by decide) w.heap.size _ _ rfl HL2.out Any ay cy (nthR y0 k) rfl HS.out HAD.out HLT.out hz ?_)
      intro v' w1 hbl1 hb1
      have HB1 := Lib.hid (HB.out.trans hb1)
      have HBL1 : Hid (Bld 2 w1 w.heap.size v' ((y0.take (k + 1)).flatten.map (.int .i64))) := Lib.hid (by rw [take_flat hlt]; simpa [List.map_flatten, List.map_take] using hbl1)
      clear hbl1 hb1 gy f0 f1
      go_wp2
      go_roundw
      case rel => exact ⟨k + 1, by omega, by go_num, HB1.out, HBL1.out⟩
      case measure => simp [intOf]; omega
    · have e : k = y0.length := by omega
      subst e
      have had := (K1.out.below HB.out).addr (by have := H1.out; omega)
      have hln := HL.out _ hk
      have hm := small_mul (k := y0.length) (K := K) (n := 4) (by omega) hK8
      have HS := Lib.hid (K1.out.below HB.out)
      have HAD := Lib.hid had
      have HLT : Hid (((y0.take y0.length).flatten.map (Value.int .i64)).length + y1.length < 4294967296) := Lib.hid (by rw [List.length_map, hln, H1.out]; omega)
      clear had hln hm
      go_wp2_with (at_builtin; refine app_many rfl _ _ 22 rfl tabI rfl (by decide) w.heap.size _ _ rfl HL2.out Any b1 d1 y1 rfl HS.out HAD.out HLT.out hz ?_)
      intro v' w1 hbl1 hb1
      have HB1 := Lib.hid (HB.out.trans hb1)
      have HBL1 : Hid (Bld 2 w1 w.heap.size v' ((bagsS y0 y1).flatten.map (.int .i64))) := Lib.hid (by rw [bags_flat]; simpa [List.map_flatten, List.map_take] using hbl1)
      clear hbl1 hb1 f0 f1
      go_wp2
      go_ret
      exact ⟨_, rfl, HB1.out, HBL1.out⟩
set_option maxHeartbeats 2000000 in
set_option maxRecDepth 100000 in
theorem l06Level_c (K : Nat) (ws : List (List Int)) (b : Option Addr) (d : Nat) (w : World) (k0 : SlII Any w b ws) (hr : Hid (∀ i, i < ws.length → (nthR ws i).length = K)) (hK : 1 ≤ K) (hK8 : K ≤ 8) (hn : ws.length ≤ 5) :
    Calls Try.prog 84 #[.slice b ws.length d] w (RetB 2 w ws.flatten) := by
  have i1 := k0.ix tabII.under tabII.size d
  have hbl := Bld.empty 2 w w.heap.size (Nat.le_refl _)
  have K0 := Lib.hid k0
  have HL := Lib.hid (fun k (h : k ≤ ws.length) => takeflat_len hr.out k h)
  have HBL := Lib.hid hbl
  have HB0 := Lib.hid (below_alloc w (.cells #[] 2))
  clear k0 hbl
  go_enter Try.func84, Try.ntmps84
  go_wp2
  go_loopw [3, 4] (fun v i wr => ∃ k : Nat, k ≤ ws.length ∧ i = .int .i64 k ∧ Below w.heap.size w wr ∧ Bld 2 wr w.heap.size v ((ws.take k).flatten.map (.int .i64))) (fun _ i _ => ws.length - (intOf i).toNat)
  case atStart => exact ⟨0, Nat.zero_le _, rfl, HB0.out, HBL.out⟩
  case round =>
    obtain ⟨k, hk, rfl, hb, hbl⟩ := hrel
    have hz := hb.size
    have HB := Lib.hid hb
    have HL2 := Lib.hid hbl
    clear hb hbl
    by_cases hlt : k < ws.length
    · obtain ⟨ay, cy, gy, hsy⟩ := (K0.out.below HB.out).cell k hlt
      have hrk := hr.out k hlt
      have had := hsy.addr (by omega)
      have hln := HL.out k hk
      have hm := small_mul (k := k) (K := K) (n := 5) (by omega) hK8
      have HS := Lib.hid hsy.any
      have HAD := Lib.hid had
      have HLT : Hid (((ws.take k).flatten.map (Value.int .i64)).length + (nthR ws k).length < 4294967296) := Lib.hid (by rw [List.length_map, hln, hrk]; omega)
      clear hsy had hln hm hrk
      go_wp2_with (at_builtin; refine app_many rfl _ _ 22 rfl tabI rfl (by decide) w.heap.size _ _ rfl HL2.out Any ay cy (nthR ws k) rfl HS.out HAD.out HLT.out hz ?_)
      intro v' w1 hbl1 hb1
      have HB1 := Lib.hid (HB.out.trans hb1)
      have HBL1 : Hid (Bld 2 w1 w.heap.size v' ((ws.take (k + 1)).flatten.map (.int .i64))) := Lib.hid (by rw [take_flat hlt]; simpa [List.map_flatten, List.map_take] using hbl1)
      clear hbl1 hb1 gy
      go_wp2
      go_roundw
      case rel => exact ⟨k + 1, by omega, by go_num, HB1.out, HBL1.out⟩
      case measure => simp [intOf]; omega
    · have e : k = ws.length := by omega
      have HBL1 : Hid (Bld 2 wr w.heap.size _ (ws.flatten.map (.int .i64))) := Lib.hid (by have := HL2.out; rwa [e, List.take_length] at this)
      clear HL2
      go_wp2
      go_ret
      exact ⟨_, rfl, HB.out, HBL1.out⟩
set_option maxHeartbeats 1000000 in
theorem l06Dot_c (a b : Option Addr) (c d : Nat) (xs ys : List Int) (w : World) (hx : SlI Any w a xs) (hy : SlI Any w b ys) (hl : xs.length ≤ ys.length) :
    Calls Try.prog 87 #[.slice a xs.length c, .slice b ys.length d] w (RetV w (.int .i64 (dotTo xs ys xs.length))) := by
  have l1 := hx.len
  have l2 := hy.len
  unfold maxLen at l1 l2
  have i1 := hx.ix tabI.under tabI.size c
  have i2 := hy.ix tabI.under tabI.size d
  go_enter Try.func87, Try.ntmps87
  go_wp2
  go_loopw [5, 6] (fun s i wr => ∃ k n : Nat, k ≤ xs.length ∧ i = .int .i64 k ∧ s = .int .i64 (dotTo xs ys k) ∧ wr = w.drewN n) (fun _ i _ => xs.length - (intOf i).toNat)
  case atStart => exact ⟨0, 0, Nat.zero_le _, rfl, rfl, rfl⟩
  case round =>
    obtain ⟨k, n, hk, rfl, rfl, rfl⟩ := hrel
    by_cases hlt : k < xs.length
    · have g1 := hx.cell k hlt
      have g2 := hy.cell k (by omega)
      have k2 : (k : Int) < ys.length := by omega
      have hw64 : IntKind.i64.wrap (dotTo xs ys k + IntKind.i64.wrap (nth xs k * nth ys k)) = dotTo xs ys (k + 1) := by rw [wrap_64, wrap_64, dotTo]
      go_wp2
      go_quiet (fail)
      go_wp2
      go_roundw
      case rel => exact ⟨k + 1, _, by omega, by go_num, (by first | rfl | (rw [← hw64])), rfl⟩
      case measure => simp [intOf]; omega
    · have e : k = xs.length := by omega
      subst e
      go_wp2
      go_ret
      exact ⟨rfl, below_drewN _ _ _⟩
theorem wOk_len {x0 : Int} {l : List Int} (h : ¬ (l.length : Int) = x0) : wOk x0 l = false := by simp [wOk, h]
theorem wOk_eq {x0 : Int} {l : List Int} (h : (l.length : Int) = x0) : wOk x0 l = allB (fun w => inRg w (-1000) 1000) l := by simp [wOk, h]
set_option maxHeartbeats 2000000 in
theorem l06Weights_c (x0 : Int) (n c1 : Nat) (a1 : Option Addr) (p : Nat) (b : Option Addr) (d : Nat) (ws : List (List Int)) (w : World) (hn : n ≤ 4) (hx : SlII Any w b ws) (hp0 : w.cell? ⟨p, 0, none⟩ = some (.int .i64 x0)) (hp1 : w.cell? ⟨p, 1, none⟩ = some (.slice a1 n c1)) :
    Calls Try.prog 83 #[.pointer (some ⟨p, 0, none⟩), .slice b ws.length d] w (RetV w (.bool (areW x0 n ws))) := by
  have l1 := hx.len
  unfold maxLen at l1
  have i1 := hx.ix tabII.under tabII.size d
  have K0 := Lib.hid hx
  clear hx
  cases hl : ((ws.length : Int) == n + 1)
  · have e : areW x0 n ws = false := by
      have : ¬ ws.length = n + 1 := by intro h; rw [h] at hl; simp at hl
      simp [areW, this]
    have hl' : ((ws.length : Int) != n + 1) = true := by simpa using hl
    rw [e]
    clear e
    go_enter Try.func83, Try.ntmps83
    go_wp2
    go_ret
    exact ⟨rfl, Below.refl _ _⟩
  · have hlen : ws.length = n + 1 := by simp at hl; omega
    have hl' : ((ws.length : Int) != n + 1) = false := by simpa using hl
    have HE : Hid (areW x0 n ws = allII (wOk x0) ws) := Lib.hid (by simp [areW, hlen])
    clear hlen
    have zp : p < w.heap.size := World.block_lt_of_cell? w _ hp0
    go_enter Try.func83, Try.ntmps83
    go_wp2
    go_loopw [5, 6] (fun i _ wr => ∃ k : Nat, k ≤ ws.length ∧ i = .int .i64 k ∧ Below w.heap.size w wr ∧ (∀ j, j < k → wOk x0 (nthR ws j) = true)) (fun i _ _ => ws.length - (intOf i).toNat)
    case atStart => exact ⟨0, Nat.zero_le _, rfl, Below.refl _ _, by omega⟩
    case round =>
      obtain ⟨k, hk, rfl, hb, hj⟩ := hrel
      have HJ := Lib.hid hj
      have HB := Lib.hid hb
      have f0 := (bcell1 hb zp).trans hp0
      clear hj hb
      by_cases hlt : k < ws.length
      · obtain ⟨ay, cy, gy, hsy⟩ := (K0.out.below HB.out).cell k hlt
        have ly := hsy.len
        unfold maxLen at ly
        cases hq : (((nthR ws k).length : Int) != x0)
        · have hq2 : ((nthR ws k).length : Int) = x0 := by simpa using hq
          have HW := Lib.hid (wOk_eq hq2)
          have i2 := hsy.ix tabI.under tabI.size cy
          have HSY := Lib.hid hsy
          clear hq2 hsy
          go_wp2
          go_quiet (fail)
          go_wp2
          go_loopw [6] (fun i wr2 => ∃ q n2 : Nat, q ≤ (nthR ws k).length ∧ i = .int .i64 q ∧ wr.drewN n2 = wr2 ∧ (∀ j, j < q → inRg (nth (nthR ws k) j) (-1000) 1000 = true)) (fun i _ => (nthR ws k).length - (intOf i).toNat)
          case atStart => exact ⟨0, _, Nat.zero_le _, rfl, rfl, by omega⟩
          case round =>
            obtain ⟨q, n2, hq1, rfl, rfl, hj⟩ := hrel
            have HJ2 := Lib.hid hj
            clear hj
            by_cases hlt2 : q < (nthR ws k).length
            · have g2 := HSY.out.cell q hlt2
              go_wp2_with fail
              refine (l00In_c _ _ _ _).mono ?_
              rintro e w' ⟨rfl, rfl⟩
              cases hp : inRg (nth (nthR ws k) q) (-1000) 1000
              · have HR : Hid (areW x0 n ws = false) := Lib.hid (by rw [HE.out]; exact allII_false hlt (by rw [HW.out]; exact allB_false (p := fun w => inRg w (-1000) 1000) hlt2 hp))
                clear hp
                go_wp2
                go_ret
                exact ⟨ret_bool HR.out.symm, HB.out.trans (below_drewN _ _ _)⟩
              · have HP := Lib.hid hp
                clear hp
                go_wp2
                go_roundw
                case rel => exact ⟨q + 1, _, by omega, by go_num, rfl, upto HJ2.out HP.out⟩
                case measure => simp [intOf]; omega
            · have e : q = (nthR ws k).length := by omega
              have HP : Hid (wOk x0 (nthR ws k) = true) := Lib.hid (by rw [HW.out]; exact allB_true (p := fun w => inRg w (-1000) 1000) (e ▸ HJ2.out))
              go_wp2
              go_roundw
              case rel => exact ⟨k + 1, by omega, by go_num, HB.out.trans (below_drewN _ _ _), upto HJ.out HP.out⟩
              case measure => simp [intOf]; omega
        · have hq2 : ¬ ((nthR ws k).length : Int) = x0 := by simpa using hq
          have HR : Hid (areW x0 n ws = false) := Lib.hid (by rw [HE.out]; exact allII_false hlt (wOk_len hq2))
          clear hq2 hsy
          go_wp2
          go_quiet (fail)
          go_wp2
          go_ret
          exact ⟨ret_bool HR.out.symm, HB.out.trans (below_drewN _ _ _)⟩
      · have e : k = ws.length := by omega
        have HR : Hid (areW x0 n ws = true) := Lib.hid (by rw [HE.out]; exact allII_true (e ▸ HJ.out))
        go_wp2
        go_ret
        exact ⟨ret_bool HR.out.symm, HB.out⟩
set_option maxHeartbeats 4000000 in
set_option maxRecDepth 100000 in
theorem specPassInvariant_c (x0 : Int) (x1 : List Int) (x2 : List Bool) (x3 : List PR) (y0 : List (List Int)) (y1 : List Int) (a1 a2 a3 b0 b1 : Option Addr) (c1 c2 c3 d0 d1 : Nat) (w : World) (h1 : SlI Any w a1 x1) (h2 : SlB Any w a2 x2) (h3 : Rd Any w (dPR x3) (.slice a3 x3.length c3)) (k0 : SlII Any w b0 y0) (k1 : SlI Any w b1 y1) (b : Option Addr) (d : Nat) (ws : List (List Int)) (kw : SlII Any w b ws) :
    Calls Try.prog 34 #[.agg #[.int .i64 x0, .slice a1 x1.length c1, .slice a2 x2.length c2, .slice a3 x3.length c3], .agg #[.slice b0 y0.length d0, .slice b1 y1.length d1], .slice b ws.length d] w (RetV w (.tuple #[.int .i64 (passInvS x0 x1 x2 x3 y0 y1 ws).1, .int .i64 (passInvS x0 x1 x2 x3 y0 y1 ws).2])) := by
  have hb0 : Below w.heap.size w ((w.alloc (.cells #[.int .i64 x0, .slice a1 x1.length c1, .slice a2 x2.length c2, .slice a3 x3.length c3] 30)).alloc (.cells #[.slice b0 y0.length d0, .slice b1 y1.length d1] 66)) := ((Below.refl _ _).alloc (Nat.le_refl _) _).alloc (by simp) _
  have HC := Lib.hid (l06Code_c x0 x1 x2 x3 y0 y1 a1 a2 a3 b0 b1 c1 c2 c3 d0 d1 ((w.alloc (.cells #[.int .i64 x0, .slice a1 x1.length c1, .slice a2 x2.length c2, .slice a3 x3.length c3] 30)).alloc (.cells #[.slice b0 y0.length d0, .slice b1 y1.length d1] 66)) (h1.below hb0) (h2.below hb0) (h3.below hb0) (k0.below hb0) (k1.below hb0) w.heap.size (w.heap.size + 1) (by simp [go_sem]) (by simp [go_sem]) (by simp [go_sem]) (by simp [go_sem]) (by simp [go_sem]) (by simp [go_sem]))
  have HB0 := Lib.hid hb0
  clear hb0
  by_cases hcode : stCode x0 x1 x2 x3 y0 y1 = 0
  · obtain ⟨K, hxK, hps, hst⟩ := stockAll_ok (stCode_ok hcode)
    have K0 := Lib.hid k0
    have K1 := Lib.hid k1
    have KW := Lib.hid kw
    have h4 := hps.p4
    cases hw : areW x0 x1.length ws
    · have ev : passInvS x0 x1 x2 x3 y0 y1 ws = (0, 2) := by simp [passInvS, hcode, hw]
      have HW := Lib.hid hw
      rw [ev]
      rw [hcode] at HC
      clear ev hcode hxK hps hst h1 h2 h3 k0 k1 kw hw
      go_enter Try.func34, Try.ntmps34
      go_wp2_with fail
      refine HC.out.mono ?_
      rintro e w1 ⟨rfl, hb1⟩
      have f0 : w1.cell? ⟨w.heap.size, 0, none⟩ = some (.int .i64 x0) := by rw [bcell1 hb1 (by simp <;> omega)]; simp [go_sem]
      have f1 : w1.cell? ⟨w.heap.size, 1, none⟩ = some (.slice a1 x1.length c1) := by rw [bcell1 hb1 (by simp <;> omega)]; simp [go_sem]
      have f2 : w1.cell? ⟨w.heap.size, 2, none⟩ = some (.slice a2 x2.length c2) := by rw [bcell1 hb1 (by simp <;> omega)]; simp [go_sem]
      have f3 : w1.cell? ⟨w.heap.size, 3, none⟩ = some (.slice a3 x3.length c3) := by rw [bcell1 hb1 (by simp <;> omega)]; simp [go_sem]
      have e0 : w1.cell? ⟨w.heap.size + 1, 0, none⟩ = some (.slice b0 y0.length d0) := by rw [bcell1 hb1 (by simp <;> omega)]; simp [go_sem]
      have e1 : w1.cell? ⟨w.heap.size + 1, 1, none⟩ = some (.slice b1 y1.length d1) := by rw [bcell1 hb1 (by simp <;> omega)]; simp [go_sem]
      have HB1 := Lib.hid (HB0.out.trans (hb1.mono (by simp <;> omega)))
      have HWC := Lib.hid (l06Weights_c x0 x1.length c1 a1 w.heap.size b d ws w1 h4 (KW.out.below HB1.out) f0 f1)
      rw [HW.out] at HWC
      have zz : w.heap.size + 1 < w1.heap.size := World.block_lt_of_cell? w1 _ e0
      clear hb1
      go_wp2_with fail
      refine HWC.out.mono ?_
      rintro e w2 ⟨rfl, hb2⟩
      have HB2 := Lib.hid (bnext HB1.out hb2 (Nat.le_refl _))
      clear hb2 f0 f1 f2 f3 e0 e1
      go_wp2
      go_ret2
      exact ⟨rfl, HB2.out⟩
    · have ev : passInvS x0 x1 x2 x3 y0 y1 ws = (invTo ws y0 y1 x1.length x1.length, 0) := by simp [passInvS, hcode, hw]
      have HW := Lib.hid hw
      rw [hxK] at hw
      have HWL : Hid (∀ i, i < ws.length → (nthR ws i).length = K) := Lib.hid fun i hi => by have h := (areW_ok hw).1; exact ((areW_ok hw).2 i (by omega)).1
      have HWN : Hid (ws.length = x1.length + 1) := Lib.hid (areW_ok hw).1
      have HDOT := Lib.hid (dot_inv hps.k8 hps.p4 hst hw)
      have HLE : Hid ((bagsS y0 y1).flatten.length ≤ ws.flatten.length ∧ (bagsS y0 y1).flatten.length ≤ 40 ∧ ws.flatten.length ≤ 40) := Lib.hid (by
        have e1 := (flat_start hst).1
        have e2 := (flat_weights hw).1
        have := small_mul (k := x1.length + 1) (K := K) (n := 5) (by omega) hps.k8
        omega)
      obtain ⟨L1, hL1⟩ : ∃ L, L = (bagsS y0 y1).flatten := ⟨_, rfl⟩
      obtain ⟨L2, hL2⟩ : ∃ L, L = ws.flatten := ⟨_, rfl⟩
      rw [← hL1, ← hL2] at HDOT HLE
      have HL1 := Lib.hid hL1
      have HL2 := Lib.hid hL2
      clear hL1 hL2
      have HR : Hid (∀ i, i < y0.length → (nthR y0 i).length = K) := Lib.hid fun i hi => (hst.bag i (by have := hst.len; omega)).2
      have HYK : Hid (y1.length = K ∧ 1 ≤ K ∧ K ≤ 8 ∧ y0.length = x1.length) := Lib.hid ⟨hst.around.2, hps.k1, hps.k8, hst.len⟩
      rw [ev]
      rw [hcode] at HC
      clear ev hcode hxK hps hst h1 h2 h3 k0 k1 kw hw
      go_enter Try.func34, Try.ntmps34
      go_wp2_with fail
      refine HC.out.mono ?_
      rintro e w1 ⟨rfl, hb1⟩
      have f0 : w1.cell? ⟨w.heap.size, 0, none⟩ = some (.int .i64 x0) := by rw [bcell1 hb1 (by simp <;> omega)]; simp [go_sem]
      have f1 : w1.cell? ⟨w.heap.size, 1, none⟩ = some (.slice a1 x1.length c1) := by rw [bcell1 hb1 (by simp <;> omega)]; simp [go_sem]
      have f2 : w1.cell? ⟨w.heap.size, 2, none⟩ = some (.slice a2 x2.length c2) := by rw [bcell1 hb1 (by simp <;> omega)]; simp [go_sem]
      have f3 : w1.cell? ⟨w.heap.size, 3, none⟩ = some (.slice a3 x3.length c3) := by rw [bcell1 hb1 (by simp <;> omega)]; simp [go_sem]
      have e0 : w1.cell? ⟨w.heap.size + 1, 0, none⟩ = some (.slice b0 y0.length d0) := by rw [bcell1 hb1 (by simp <;> omega)]; simp [go_sem]
      have e1 : w1.cell? ⟨w.heap.size + 1, 1, none⟩ = some (.slice b1 y1.length d1) := by rw [bcell1 hb1 (by simp <;> omega)]; simp [go_sem]
      have HB1 := Lib.hid (HB0.out.trans (hb1.mono (by simp <;> omega)))
      have HWC := Lib.hid (l06Weights_c x0 x1.length c1 a1 w.heap.size b d ws w1 h4 (KW.out.below HB1.out) f0 f1)
      rw [HW.out] at HWC
      have zz : w.heap.size + 1 < w1.heap.size := World.block_lt_of_cell? w1 _ e0
      clear hb1
      go_wp2_with fail
      refine HWC.out.mono ?_
      rintro e w2 ⟨rfl, hb2⟩
      have HB2 := Lib.hid (bnext HB1.out hb2 (Nat.le_refl _))
      replace e0 := (bcell1 hb2 (by omega)).trans e0
      replace e1 := (bcell1 hb2 (by omega)).trans e1
      have HF := Lib.hid (l06Flat_c K y0 y1 b0 b1 d0 d1 ⟨w.heap.size, 0, none⟩ ⟨w.heap.size + 1, 0, none⟩ (w.heap.size + 1) w2 (K0.out.below HB2.out) (K1.out.below HB2.out) rfl e0 e1 HR HYK.out.1 HYK.out.2.1 HYK.out.2.2.1 (by have := HYK.out; omega))
      clear hb2 f0 f1 f2 f3 e0 e1 zz
      go_wp2_with fail
      refine HF.out.mono ?_
      rintro e w3 ⟨v3, rfl, hb3, hl3⟩
      have HB3 := Lib.hid (bnext HB2.out hb3 (Nat.le_refl _))
      rw [← HL1.out] at hl3
      obtain ⟨a3', c3', F3, rfl, ho3, _, _⟩ := Ow.ofBld hl3 (by have := HLE.out; unfold maxLen; omega)
      have HO3 := Lib.hid ho3
      have HLV := Lib.hid (l06Level_c K ws b d w3 (KW.out.below HB3.out) HWL HYK.out.2.1 HYK.out.2.2.1 (by have := HWN.out; omega))
      clear hb3 hl3 ho3
      go_wp2_with fail
      refine HLV.out.mono ?_
      rintro e w4 ⟨v4, rfl, hb4, hl4⟩
      have HB4 := Lib.hid (bnext HB3.out hb4 (Nat.le_refl _))
      rw [← HL2.out] at hl4
      obtain ⟨a4', c4', F4, rfl, ho4, _, _⟩ := Ow.ofBld hl4 (by have := HLE.out; unfold maxLen; omega)
      have HD := Lib.hid (l06Dot_c a3' a4' c3' c4' L1 L2 w4 (HO3.out.arg.below hb4) ho4.arg HLE.out.1)
      rw [HDOT.out] at HD
      clear hb4 hl4 ho4
      go_wp2_with fail
      refine HD.out.mono ?_
      rintro e w5 ⟨rfl, hb5⟩
      have HB5 := Lib.hid (bnext HB4.out hb5 (Nat.le_refl _))
      clear hb5
      go_wp2
      go_ret2
      exact ⟨rfl, HB5.out⟩
  · have ev : passInvS x0 x1 x2 x3 y0 y1 ws = (0, stCode x0 x1 x2 x3 y0 y1) := by rw [passInvS, if_neg hcode]
    have hc1' : (stCode x0 x1 x2 x3 y0 y1 == 0) = false := by simpa using hcode
    have hc2 : (stCode x0 x1 x2 x3 y0 y1 != 0) = true := by simpa using hcode
    rw [ev]
    clear ev hcode h1 h2 h3 k0 k1
    go_enter Try.func34, Try.ntmps34
    go_wp2_with fail
    refine HC.out.mono ?_
    rintro e w1 ⟨rfl, hb1⟩
    have HB1 := Lib.hid (HB0.out.trans (hb1.mono (by simp <;> omega)))
    clear hb1
    go_wp2
    go_ret2
    exact ⟨rfl, HB1.out⟩
theorem implPassInvariant_d (x0 : Int) (x1 : List Int) (x2 : List Bool) (x3 : List PR) (y0 : List (List Int)) (y1 : List Int) (ws : List (List Int)) {v1 v2 v3 u0 u1 uw : Value} {F1 F2 F3 G0 G1 Gw : List Nat} (w : World) (h1 : Ow w (dI x1) v1 F1) (h2 : Ow w (dB x2) v2 F2) (h3 : Ow w (dPR x3) v3 F3) (k0 : Ow w (dII y0) u0 G0) (k1 : Ow w (dI y1) u1 G1) (kw : Ow w (dII ws) uw Gw) :
    Calls Try.prog 36 #[.agg #[.int .i64 x0, v1, v2, v3], .agg #[u0, u1], uw] w (RetV w (.tuple #[.int .i64 (passInvS x0 x1 x2 x3 y0 y1 ws).1, .int .i64 (passInvS x0 x1 x2 x3 y0 y1 ws).2])) := by
  obtain ⟨a1, c1, rfl, hc, j1⟩ := h1.capI
  obtain ⟨a2, c2, rfl, j2⟩ := Rd_B.1 h2.rdA
  have h3' := h3.rdA
  obtain ⟨a3, c3, rfl, _⟩ := Rd_PR h3'
  obtain ⟨b0, d0, rfl, j3⟩ := Rd_II.1 k0.rdA
  obtain ⟨b1, d1, rfl, j4⟩ := Rd_I.1 k1.rdA
  obtain ⟨b, d, rfl, j5⟩ := Rd_II.1 kw.rdA
  exact implPassInvariant_c x0 x1 x2 x3 y0 y1 a1 a2 a3 b0 b1 c1 c2 c3 d0 d1 w j1 hc j2 h3' j3 j4 b d ws j5
theorem specPassInvariant_d (x0 : Int) (x1 : List Int) (x2 : List Bool) (x3 : List PR) (y0 : List (List Int)) (y1 : List Int) (ws : List (List Int)) {v1 v2 v3 u0 u1 uw : Value} (w : World) (h1 : Rd Any w (dI x1) v1) (h2 : Rd Any w (dB x2) v2) (h3 : Rd Any w (dPR x3) v3) (k0 : Rd Any w (dII y0) u0) (k1 : Rd Any w (dI y1) u1) (kw : Rd Any w (dII ws) uw) :
    Calls Try.prog 34 #[.agg #[.int .i64 x0, v1, v2, v3], .agg #[u0, u1], uw] w (RetV w (.tuple #[.int .i64 (passInvS x0 x1 x2 x3 y0 y1 ws).1, .int .i64 (passInvS x0 x1 x2 x3 y0 y1 ws).2])) := by
  obtain ⟨a1, c1, rfl, j1⟩ := Rd_I.1 h1
  obtain ⟨a2, c2, rfl, j2⟩ := Rd_B.1 h2
  have h3' := h3
  obtain ⟨a3, c3, rfl, _⟩ := Rd_PR h3'
  obtain ⟨b0, d0, rfl, j3⟩ := Rd_II.1 k0
  obtain ⟨b1, d1, rfl, j4⟩ := Rd_I.1 k1
  obtain ⟨b, d, rfl, j5⟩ := Rd_II.1 kw
  exact specPassInvariant_c x0 x1 x2 x3 y0 y1 a1 a2 a3 b0 b1 c1 c2 c3 d0 d1 w j1 j2 h3' j3 j4 b d ws j5
end Go.Proofs.Ytldjgkandkclpaa
