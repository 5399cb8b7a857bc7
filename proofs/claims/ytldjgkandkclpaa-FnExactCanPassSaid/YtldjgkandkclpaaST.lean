/- The code of a passing system and a stock; the total of a stock. -/
import Derived.Test.YtldjgkandkclpaaSV
import Derived.Test.YtldjgkandkclpaaQC
import Derived.Test.YtldjgkandkclpaaBL
namespace Go.Proofs.Ytldjgkandkclpaa
open Go.RowKit

def stCode (x0 : Int) (x1 : List Int) (x2 : List Bool) (x3 : List PR) (y0 : List (List Int)) (y1 : List Int) : Int := if okPass x0 x1 x2 x3 = true then (if okStockAll x0 x1 x2 x3 y0 y1 = true then 0 else 2) else 1
theorem stCode_ok {x0 : Int} {x1 : List Int} {x2 : List Bool} {x3 : List PR} {y0 : List (List Int)} {y1 : List Int} (h : stCode x0 x1 x2 x3 y0 y1 = 0) : okStockAll x0 x1 x2 x3 y0 y1 = true := by
  unfold stCode at h
  split at h
  · split at h
    · assumption
    · exact absurd h (by decide)
  · exact absurd h (by decide)
theorem stCode_bad {x0 : Int} {x1 : List Int} {x2 : List Bool} {x3 : List PR} {y0 : List (List Int)} {y1 : List Int} (h : okPass x0 x1 x2 x3 = false) : stCode x0 x1 x2 x3 y0 y1 = 1 := by simp [stCode, h]
theorem stCode_two {x0 : Int} {x1 : List Int} {x2 : List Bool} {x3 : List PR} {y0 : List (List Int)} {y1 : List Int} (h : okPass x0 x1 x2 x3 = true) (h2 : okStockAll x0 x1 x2 x3 y0 y1 = false) : stCode x0 x1 x2 x3 y0 y1 = 2 := by simp [stCode, h, h2]
theorem stCode_zero {x0 : Int} {x1 : List Int} {x2 : List Bool} {x3 : List PR} {y0 : List (List Int)} {y1 : List Int} (h : okPass x0 x1 x2 x3 = true) (h2 : okStockAll x0 x1 x2 x3 y0 y1 = true) : stCode x0 x1 x2 x3 y0 y1 = 0 := by simp [stCode, h, h2]
/-- The sum of the first bags. -/
def totTo (y1 : List Int) (y0 : List (List Int)) : Nat → List Int
  | 0 => y1
  | k + 1 => plusS (totTo y1 y0 k) (nthR y0 k) 1
theorem totTo_len (y1 : List Int) (y0 : List (List Int)) : ∀ k, (totTo y1 y0 k).length = y1.length
  | 0 => rfl
  | k + 1 => by rw [totTo, plusS_len, totTo_len]
def stockTotalS (x0 : Int) (x1 : List Int) (x2 : List Bool) (x3 : List PR) (y0 : List (List Int)) (y1 : List Int) : List Int × Int := if stCode x0 x1 x2 x3 y0 y1 = 0 then (totTo y1 y0 y0.length, 0) else ([], stCode x0 x1 x2 x3 y0 y1)
theorem stockTotal_cnt (x0 : Int) (x1 : List Int) (x2 : List Bool) (x3 : List PR) (y0 : List (List Int)) (y1 : List Int) : cnt (dI (stockTotalS x0 x1 x2 x3 y0 y1).1) ≤ 16777216 := by
  rw [cnt_dI]
  unfold stockTotalS
  split
  · rename_i h
    obtain ⟨K, _, hp, hs⟩ := stockAll_ok (stCode_ok h)
    have := hs.around.2
    have := hp.k8
    rw [totTo_len]; omega
  · simp
/-- One place of a sum. -/
theorem nth_ext {xs ys : List Int} (hl : xs.length = ys.length) (h : ∀ j, j < ys.length → nth xs j = nth ys j) : xs = ys := eq_of_nth hl (fun j hj => h j (by omega))
theorem addW_one {x y : Int} (hy : 0 ≤ y ∧ y ≤ 1000) : addW 1 x y = wrap64 (x + y) := by
  have : wrap64 (1 * y) = y := by unfold wrap64; omega
  rw [addW, this]
set_option maxHeartbeats 2000000 in
theorem stockCode_c (x0 : Int) (x1 : List Int) (x2 : List Bool) (x3 : List PR) (y0 : List (List Int)) (y1 : List Int) (a1 a2 a3 b0 b1 : Option Addr) (c1 c2 c3 d0 d1 : Nat) (w : World) (h1 : SlI Any w a1 x1) (hc1 : x1.length ≤ c1) (h2 : SlB Any w a2 x2) (h3 : Rd Any w (dPR x3) (.slice a3 x3.length c3)) (k0 : SlII Any w b0 y0) (k1 : SlI Any w b1 y1) :
    Calls Try.prog 105 #[.agg #[.int .i64 x0, .slice a1 x1.length c1, .slice a2 x2.length c2, .slice a3 x3.length c3], .agg #[.slice b0 y0.length d0, .slice b1 y1.length d1]] w (RetV w (.int .i64 (stCode x0 x1 x2 x3 y0 y1))) := by
  have hb0 : Below w.heap.size w ((w.alloc (.cells #[.int .i64 x0, .slice a1 x1.length c1, .slice a2 x2.length c2, .slice a3 x3.length c3] 30)).alloc (.cells #[.slice b0 y0.length d0, .slice b1 y1.length d1] 66)) := ((Below.refl _ _).alloc (Nat.le_refl _) _).alloc (by simp) _
  have HP := Lib.hid (validPassing_c x0 x1 x2 x3 a1 a2 a3 c1 c2 c3 ((w.alloc (.cells #[.int .i64 x0, .slice a1 x1.length c1, .slice a2 x2.length c2, .slice a3 x3.length c3] 30)).alloc (.cells #[.slice b0 y0.length d0, .slice b1 y1.length d1] 66)) (h1.below hb0) hc1 (h2.below hb0) (h3.below hb0))
  have HS := Lib.hid (fun wx (h : Below w.heap.size w wx) => validStock_c x0 x1 x2 x3 y0 y1 a1 a2 a3 b0 b1 c1 c2 c3 d0 d1 wx (h1.below h) hc1 (h2.below h) (h3.below h) (k0.below h) (k1.below h))
  have HB0 := Lib.hid hb0
  clear h1 h2 h3 k0 k1 hb0
  cases hP : okPass x0 x1 x2 x3
  · rw [stCode_bad hP]
    rw [hP] at HP
    clear hP
    go_enter Try.func105, Try.ntmps105
    go_wp2_with fail
    refine HP.out.mono ?_
    rintro e w1 ⟨rfl, hb1⟩
    have HB1 := Lib.hid (HB0.out.trans (hb1.mono (by simp <;> omega)))
    clear hb1
    go_wp2
    go_ret
    exact ⟨rfl, HB1.out⟩
  · have HPP := Lib.hid hP
    rw [hP] at HP
    clear hP
    cases hS : okStockAll x0 x1 x2 x3 y0 y1
    · have HR : Hid (stCode x0 x1 x2 x3 y0 y1 = 2) := Lib.hid (stCode_two HPP.out hS)
      rw [HR.out]
      rw [hS] at HS
      clear hS
      go_enter Try.func105, Try.ntmps105
      go_wp2_with fail
      refine HP.out.mono ?_
      rintro e w1 ⟨rfl, hb1⟩
      have f0 : w1.cell? ⟨w.heap.size, 0, none⟩ = some (.int .i64 x0) := by rw [bcell1 hb1 (by simp <;> omega)]; simp [go_sem]
      have f1 : w1.cell? ⟨w.heap.size, 1, none⟩ = some (.slice a1 x1.length c1) := by rw [bcell1 hb1 (by simp <;> omega)]; simp [go_sem]
      have f2 : w1.cell? ⟨w.heap.size, 2, none⟩ = some (.slice a2 x2.length c2) := by rw [bcell1 hb1 (by simp <;> omega)]; simp [go_sem]
      have f3 : w1.cell? ⟨w.heap.size, 3, none⟩ = some (.slice a3 x3.length c3) := by rw [bcell1 hb1 (by simp <;> omega)]; simp [go_sem]
      have e0 : w1.cell? ⟨w.heap.size + 1, 0, none⟩ = some (.slice b0 y0.length d0) := by rw [bcell1 hb1 (by simp <;> omega)]; simp [go_sem]
      have e1 : w1.cell? ⟨w.heap.size + 1, 1, none⟩ = some (.slice b1 y1.length d1) := by rw [bcell1 hb1 (by simp <;> omega)]; simp [go_sem]
      have HB1 := Lib.hid (HB0.out.trans (hb1.mono (by simp <;> omega)))
      clear hb1
      go_wp2_with fail
      refine (HS.out w1 HB1.out).mono ?_
      rintro e w2 ⟨rfl, hb2⟩
      have HB2 := Lib.hid (bnext HB1.out hb2 (Nat.le_refl _))
      clear hb2 f0 f1 f2 f3 e0 e1
      go_wp2
      go_ret
      exact ⟨rfl, HB2.out⟩
    · have HR : Hid (stCode x0 x1 x2 x3 y0 y1 = 0) := Lib.hid (stCode_zero HPP.out hS)
      rw [HR.out]
      rw [hS] at HS
      clear hS
      go_enter Try.func105, Try.ntmps105
      go_wp2_with fail
      refine HP.out.mono ?_
      rintro e w1 ⟨rfl, hb1⟩
      have f0 : w1.cell? ⟨w.heap.size, 0, none⟩ = some (.int .i64 x0) := by rw [bcell1 hb1 (by simp <;> omega)]; simp [go_sem]
      have f1 : w1.cell? ⟨w.heap.size, 1, none⟩ = some (.slice a1 x1.length c1) := by rw [bcell1 hb1 (by simp <;> omega)]; simp [go_sem]
      have f2 : w1.cell? ⟨w.heap.size, 2, none⟩ = some (.slice a2 x2.length c2) := by rw [bcell1 hb1 (by simp <;> omega)]; simp [go_sem]
      have f3 : w1.cell? ⟨w.heap.size, 3, none⟩ = some (.slice a3 x3.length c3) := by rw [bcell1 hb1 (by simp <;> omega)]; simp [go_sem]
      have e0 : w1.cell? ⟨w.heap.size + 1, 0, none⟩ = some (.slice b0 y0.length d0) := by rw [bcell1 hb1 (by simp <;> omega)]; simp [go_sem]
      have e1 : w1.cell? ⟨w.heap.size + 1, 1, none⟩ = some (.slice b1 y1.length d1) := by rw [bcell1 hb1 (by simp <;> omega)]; simp [go_sem]
      have HB1 := Lib.hid (HB0.out.trans (hb1.mono (by simp <;> omega)))
      clear hb1
      go_wp2_with fail
      refine (HS.out w1 HB1.out).mono ?_
      rintro e w2 ⟨rfl, hb2⟩
      have HB2 := Lib.hid (bnext HB1.out hb2 (Nat.le_refl _))
      clear hb2 f0 f1 f2 f3 e0 e1
      go_wp2
      go_ret
      exact ⟨rfl, HB2.out⟩
set_option maxHeartbeats 2000000 in
theorem l06Code_c (x0 : Int) (x1 : List Int) (x2 : List Bool) (x3 : List PR) (y0 : List (List Int)) (y1 : List Int) (a1 a2 a3 b0 b1 : Option Addr) (c1 c2 c3 d0 d1 : Nat) (w : World) (h1 : SlI Any w a1 x1) (h2 : SlB Any w a2 x2) (h3 : Rd Any w (dPR x3) (.slice a3 x3.length c3)) (k0 : SlII Any w b0 y0) (k1 : SlI Any w b1 y1)
    (p q : Nat) (hp0 : w.cell? ⟨p, 0, none⟩ = some (.int .i64 x0)) (hp1 : w.cell? ⟨p, 1, none⟩ = some (.slice a1 x1.length c1)) (hp2 : w.cell? ⟨p, 2, none⟩ = some (.slice a2 x2.length c2)) (hp3 : w.cell? ⟨p, 3, none⟩ = some (.slice a3 x3.length c3)) (hq0 : w.cell? ⟨q, 0, none⟩ = some (.slice b0 y0.length d0)) (hq1 : w.cell? ⟨q, 1, none⟩ = some (.slice b1 y1.length d1)) :
    Calls Try.prog 103 #[.pointer (some ⟨p, 0, none⟩), .pointer (some ⟨q, 0, none⟩)] w (RetV w (.int .i64 (stCode x0 x1 x2 x3 y0 y1))) := by
  have HP := Lib.hid (l06Ok_c x0 x1 x2 x3 a1 a2 a3 c1 c2 c3 p w h1 h2 h3 hp0 hp1 hp2 hp3)
  have zp := World.block_lt_of_cell? w _ hp0
  have zq := World.block_lt_of_cell? w _ hq0
  have HS : okPass x0 x1 x2 x3 = true → Hid (∀ wx, Below w.heap.size w wx → Calls Try.prog 163 #[.pointer (some ⟨p, 0, none⟩), .pointer (some ⟨q, 0, none⟩)] wx (RetV wx (.bool (okStock x0 x1.length x2 y0 y1)))) := fun hP => by
    have hok := okPass_ok hP
    exact Lib.hid fun wx hx => l06Stock_c x0 x1.length x3.length x2 y0 y1 a1 a2 a3 b0 b1 c1 c2 c3 d0 d1 p q wx (h2.below hx) (k0.below hx) (k1.below hx) ((bcell1 hx zp).trans hp0) ((bcell1 hx zp).trans hp1) ((bcell1 hx zp).trans hp2) ((bcell1 hx zp).trans hp3) ((bcell1 hx zq).trans hq0) ((bcell1 hx zq).trans hq1) ⟨hok.1, hok.2.1⟩ hok.2.2.2.1 hok.2.2.2.2.2.1
  clear h1 h2 h3 k0 k1 hp0 hp1 hp2 hp3 hq0 hq1 zp zq
  cases hP : okPass x0 x1 x2 x3
  · rw [stCode_bad hP]
    rw [hP] at HP
    clear hP HS
    go_enter Try.func103, Try.ntmps103
    go_wp2_with fail
    refine HP.out.mono ?_
    rintro e w1 ⟨rfl, hb1⟩
    have HB1 := Lib.hid hb1
    clear hb1
    go_wp2
    go_ret
    exact ⟨rfl, HB1.out⟩
  · have HS2 := HS hP
    have HE : Hid (okStockAll x0 x1 x2 x3 y0 y1 = okStock x0 x1.length x2 y0 y1) := Lib.hid (by simp [okStockAll, hP])
    have HPP := Lib.hid hP
    rw [hP] at HP
    clear hP HS
    cases hS : okStock x0 x1.length x2 y0 y1
    · have HR : Hid (stCode x0 x1 x2 x3 y0 y1 = 2) := Lib.hid (stCode_two HPP.out (by rw [HE.out, hS]))
      rw [HR.out]
      rw [hS] at HS2
      clear hS
      go_enter Try.func103, Try.ntmps103
      go_wp2_with fail
      refine HP.out.mono ?_
      rintro e w1 ⟨rfl, hb1⟩
      have HB1 := Lib.hid hb1
      clear hb1
      go_wp2_with fail
      refine (HS2.out w1 HB1.out).mono ?_
      rintro e w2 ⟨rfl, hb2⟩
      have HB2 := Lib.hid (bnext HB1.out hb2 (Nat.le_refl _))
      clear hb2
      go_wp2
      go_ret
      exact ⟨rfl, HB2.out⟩
    · have HR : Hid (stCode x0 x1 x2 x3 y0 y1 = 0) := Lib.hid (stCode_zero HPP.out (by rw [HE.out, hS]))
      rw [HR.out]
      rw [hS] at HS2
      clear hS
      go_enter Try.func103, Try.ntmps103
      go_wp2_with fail
      refine HP.out.mono ?_
      rintro e w1 ⟨rfl, hb1⟩
      have HB1 := Lib.hid hb1
      clear hb1
      go_wp2_with fail
      refine (HS2.out w1 HB1.out).mono ?_
      rintro e w2 ⟨rfl, hb2⟩
      have HB2 := Lib.hid (bnext HB1.out hb2 (Nat.le_refl _))
      clear hb2
      go_wp2
      go_ret
      exact ⟨rfl, HB2.out⟩
set_option maxHeartbeats 2000000 in
set_option maxRecDepth 100000 in
theorem implStockTotal_c (x0 : Int) (x1 : List Int) (x2 : List Bool) (x3 : List PR) (y0 : List (List Int)) (y1 : List Int) (a1 a2 a3 b0 b1 : Option Addr) (c1 c2 c3 d0 d1 : Nat) (w : World) (h1 : SlI Any w a1 x1) (hc1 : x1.length ≤ c1) (h2 : SlB Any w a2 x2) (h3 : Rd Any w (dPR x3) (.slice a3 x3.length c3)) (k0 : SlII Any w b0 y0) (k1 : SlI Any w b1 y1) :
    Calls Try.prog 39 #[.agg #[.int .i64 x0, .slice a1 x1.length c1, .slice a2 x2.length c2, .slice a3 x3.length c3], .agg #[.slice b0 y0.length d0, .slice b1 y1.length d1]] w (RetDC w (dI (stockTotalS x0 x1 x2 x3 y0 y1).1) (stockTotalS x0 x1 x2 x3 y0 y1).2) := by
  have hb0 : Below w.heap.size w ((w.alloc (.cells #[.int .i64 x0, .slice a1 x1.length c1, .slice a2 x2.length c2, .slice a3 x3.length c3] 30)).alloc (.cells #[.slice b0 y0.length d0, .slice b1 y1.length d1] 66)) := ((Below.refl _ _).alloc (Nat.le_refl _) _).alloc (by simp) _
  have HC := Lib.hid (stockCode_c x0 x1 x2 x3 y0 y1 a1 a2 a3 b0 b1 c1 c2 c3 d0 d1 ((w.alloc (.cells #[.int .i64 x0, .slice a1 x1.length c1, .slice a2 x2.length c2, .slice a3 x3.length c3] 30)).alloc (.cells #[.slice b0 y0.length d0, .slice b1 y1.length d1] 66)) (h1.below hb0) hc1 (h2.below hb0) (h3.below hb0) (k0.below hb0) (k1.below hb0))
  have HB0 := Lib.hid hb0
  clear hb0
  by_cases hcode : stCode x0 x1 x2 x3 y0 y1 = 0
  · obtain ⟨K, hxK, hps, hst⟩ := stockAll_ok (stCode_ok hcode)
    have ev : stockTotalS x0 x1 x2 x3 y0 y1 = (totTo y1 y0 y0.length, 0) := by rw [stockTotalS, if_pos hcode]
    have HL : Hid (y1.length = K ∧ K ≤ 8) := Lib.hid ⟨hst.around.2, hps.k8⟩
    have HR : Hid (∀ i, i < y0.length → (nthR y0 i).length = K) := Lib.hid fun i hi => (hst.bag i (by have := hst.len; omega)).2
    obtain ⟨ad, rfl⟩ := k1.addr (by have := HL.out; have := hps.k1; omega)
    have l0 := k0.len
    unfold maxLen at l0
    have i1 := k0.ix tabII.under tabII.size d0
    have K0 := Lib.hid k0
    have K1 := Lib.hid k1
    rw [ev]
    rw [hcode] at HC
    clear ev hcode hxK hps hst h1 h2 h3 k0 k1
    go_enter Try.func39, Try.ntmps39
    go_wp2_with fail
    refine HC.out.mono ?_
    rintro e w1 ⟨rfl, hb1⟩
    have f0 : w1.cell? ⟨w.heap.size, 0, none⟩ = some (.int .i64 x0) := by rw [bcell1 hb1 (by simp <;> omega)]; simp [go_sem]
    have f1 : w1.cell? ⟨w.heap.size, 1, none⟩ = some (.slice a1 x1.length c1) := by rw [bcell1 hb1 (by simp <;> omega)]; simp [go_sem]
    have f2 : w1.cell? ⟨w.heap.size, 2, none⟩ = some (.slice a2 x2.length c2) := by rw [bcell1 hb1 (by simp <;> omega)]; simp [go_sem]
    have f3 : w1.cell? ⟨w.heap.size, 3, none⟩ = some (.slice a3 x3.length c3) := by rw [bcell1 hb1 (by simp <;> omega)]; simp [go_sem]
    have e0 : w1.cell? ⟨w.heap.size + 1, 0, none⟩ = some (.slice b0 y0.length d0) := by rw [bcell1 hb1 (by simp <;> omega)]; simp [go_sem]
    have e1 : w1.cell? ⟨w.heap.size + 1, 1, none⟩ = some (.slice (some ad) y1.length d1) := by rw [bcell1 hb1 (by simp <;> omega)]; simp [go_sem]
    have zz : w.heap.size + 1 < w1.heap.size := World.block_lt_of_cell? w1 _ e0
    have HB1 := Lib.hid (HB0.out.trans (hb1.mono (by simp <;> omega)))
    clear hb1
    have HCL := Lib.hid (clone_c Any ad d1 y1 w1 (K1.out.below HB1.out) (by have := HL.out; omega))
    go_wp2_with fail
    refine HCL.out.mono ?_
    intro e w2 h
    obtain ⟨v2, F2, rfl, h2⟩ := h
    have hb2 := h2.1
    replace e0 := (bcell1 hb2 (by omega)).trans e0
    have HK := Lib.hid (Kept.next HB1.out (show RetD w1 _ _ w2 from ⟨v2, F2, rfl, h2⟩))
    clear h2 hb2 f0 f1 f2 f3 e1 zz
    go_wp2
    go_loopw [7, 9, 22] (fun v _ i wr => ∃ k : Nat, k ≤ y0.length ∧ i = .int .i64 k ∧ Kept w wr (dI (totTo y1 y0 k)) v) (fun _ _ i _ => y0.length - (intOf i).toNat)
    case atStart => exact ⟨0, Nat.zero_le _, rfl, HK.out⟩
    case round =>
      obtain ⟨k, hk, rfl, hkp⟩ := hrel
      have hw := hkp.1
      by_cases hlt : k < y0.length
      · obtain ⟨ao1, co1, g1, hs⟩ := (K0.out.below hw).cell k hlt
        obtain ⟨ao, co, rfl, hao⟩ := hkp.val
        have HC2 := Lib.hid (plus_c Any ao ao1 co co1 _ _ 1 wr hao hs.any (by rw [totTo_len, HR.out k hlt]; have := HL.out; omega) (by rw [totTo_len]; have := HL.out; omega))
        have HW := Lib.hid hw
        clear hs hkp hao hw
        go_wp2_with fail
        refine HC2.out.mono ?_
        intro e w3 h
        obtain ⟨v1, F1, rfl, h1⟩ := h
        have H1 := Lib.hid (Kept.next HW.out (show RetD wr _ _ w3 from ⟨v1, F1, rfl, h1⟩))
        rw [← totTo] at H1
        clear h1 g1
        go_wp2
        go_roundw
        case rel => exact ⟨k + 1, by omega, by go_num, H1.out⟩
        case measure => simp [intOf]; omega
      · have e : k = y0.length := by omega
        have HR2 := Lib.hid hkp.ret
        clear hkp hw
        subst e
        go_wp2
        go_ret2
        exact RetDC.ofD HR2.out (Below.refl _ _)
  · have ev : stockTotalS x0 x1 x2 x3 y0 y1 = ([], stCode x0 x1 x2 x3 y0 y1) := by rw [stockTotalS, if_neg hcode]
    have hc1' : (stCode x0 x1 x2 x3 y0 y1 == 0) = false := by simpa using hcode
    have hc2 : (stCode x0 x1 x2 x3 y0 y1 != 0) = true := by simpa using hcode
    rw [ev]
    clear ev hcode h1 h2 h3 k0 k1
    go_enter Try.func39, Try.ntmps39
    go_wp2_with fail
    refine HC.out.mono ?_
    rintro e w1 ⟨rfl, hb1⟩
    have HB1 := Lib.hid (HB0.out.trans (hb1.mono (by simp <;> omega)))
    clear hb1
    go_wp2
    go_ret2
    exact RetDC.none _ _ _ HB1.out
theorem Bld.ptr {E : Nat} {w : World} {B : Nat} {v : Value} {vs : List Value} (h : Bld E w B v vs) (h0 : 0 < vs.length) : ∃ g c, v = .slice (some ⟨g, 0, none⟩) vs.length c := by
  obtain ⟨_, h2⟩ := h
  rcases h2 with ⟨_, h3⟩ | ⟨g, cap, cur, h1, _⟩
  · omega
  · exact ⟨g, cap, h1⟩
/-- The first q from the new list, the others from the old. -/
def mixS (new old : List Int) (q : Nat) : List Int := (List.range old.length).map fun j => if j < q then nth new j else nth old j
theorem mix_len (new old : List Int) (q : Nat) : (mixS new old q).length = old.length := by simp [mixS]
theorem mix_at {new old : List Int} {q j : Nat} (h : j < old.length) : nth (mixS new old q) j = if j < q then nth new j else nth old j := by simp [mixS, nth, h]
theorem mix_zero (new old : List Int) : mixS new old 0 = old := nth_ext (mix_len _ _ _) fun j hj => by rw [mix_at hj, if_neg (by omega)]
theorem mix_full {new old : List Int} (h : new.length = old.length) : mixS new old old.length = new := nth_ext (by rw [mix_len, h]) fun j hj => by rw [mix_at (by omega), if_pos (by omega)]
theorem mix_set {new old : List Int} {q : Nat} (h : q < old.length) : (mixS new old q).set q (nth new q) = mixS new old (q + 1) := nth_ext (by simp [mix_len]) fun j hj => by
  rw [mix_len] at hj
  rw [nth_set (by rw [mix_len]; exact h), mix_at hj, mix_at hj]
  by_cases e : j = q
  · subst e; rw [if_pos rfl, if_pos (by omega)]
  · rw [if_neg e]
    by_cases e2 : j < q
    · rw [if_pos e2, if_pos (by omega)]
    · rw [if_neg e2, if_neg (by omega)]
set_option maxHeartbeats 2000000 in
set_option maxRecDepth 100000 in
theorem specStockTotal_c (x0 : Int) (x1 : List Int) (x2 : List Bool) (x3 : List PR) (y0 : List (List Int)) (y1 : List Int) (a1 a2 a3 b0 b1 : Option Addr) (c1 c2 c3 d0 d1 : Nat) (w : World) (h1 : SlI Any w a1 x1) (h2 : SlB Any w a2 x2) (h3 : Rd Any w (dPR x3) (.slice a3 x3.length c3)) (k0 : SlII Any w b0 y0) (k1 : SlI Any w b1 y1) :
    Calls Try.prog 38 #[.agg #[.int .i64 x0, .slice a1 x1.length c1, .slice a2 x2.length c2, .slice a3 x3.length c3], .agg #[.slice b0 y0.length d0, .slice b1 y1.length d1]] w (RetDC w (dI (stockTotalS x0 x1 x2 x3 y0 y1).1) (stockTotalS x0 x1 x2 x3 y0 y1).2) := by
  have hb0 : Below w.heap.size w ((w.alloc (.cells #[.int .i64 x0, .slice a1 x1.length c1, .slice a2 x2.length c2, .slice a3 x3.length c3] 30)).alloc (.cells #[.slice b0 y0.length d0, .slice b1 y1.length d1] 66)) := ((Below.refl _ _).alloc (Nat.le_refl _) _).alloc (by simp) _
  have HC := Lib.hid (l06Code_c x0 x1 x2 x3 y0 y1 a1 a2 a3 b0 b1 c1 c2 c3 d0 d1 ((w.alloc (.cells #[.int .i64 x0, .slice a1 x1.length c1, .slice a2 x2.length c2, .slice a3 x3.length c3] 30)).alloc (.cells #[.slice b0 y0.length d0, .slice b1 y1.length d1] 66)) (h1.below hb0) (h2.below hb0) (h3.below hb0) (k0.below hb0) (k1.below hb0) w.heap.size (w.heap.size + 1) (by simp [go_sem]) (by simp [go_sem]) (by simp [go_sem]) (by simp [go_sem]) (by simp [go_sem]) (by simp [go_sem]))
  have HB0 := Lib.hid hb0
  clear hb0
  by_cases hcode : stCode x0 x1 x2 x3 y0 y1 = 0
  · obtain ⟨K, hxK, hps, hst⟩ := stockAll_ok (stCode_ok hcode)
    have ev : stockTotalS x0 x1 x2 x3 y0 y1 = (totTo y1 y0 y0.length, 0) := by rw [stockTotalS, if_pos hcode]
    have HL : Hid (y1.length = K ∧ K ≤ 8) := Lib.hid ⟨hst.around.2, hps.k8⟩
    have HR : Hid (∀ i, i < y0.length → (nthR y0 i).length = K ∧ ∀ j, j < K → 0 ≤ nth (nthR y0 i) j ∧ nth (nthR y0 i) j ≤ 1000) := Lib.hid fun i hi => by
      have hq := hst.bag i (by have := hst.len; omega)
      exact ⟨hq.2, fun j hj => isBagS_at hq.1 (by omega)⟩
    obtain ⟨ad, rfl⟩ := k1.addr (by have := HL.out; have := hps.k1; omega)
    have HK0 := Lib.hid hps.k1
    have l0 := k0.len
    unfold maxLen at l0
    have i1 := k0.ix tabII.under tabII.size d0
    have K0 := Lib.hid k0
    have K1 := Lib.hid k1
    rw [ev]
    rw [hcode] at HC
    clear ev hcode hxK hps hst h1 h2 h3 k0 k1
    go_enter Try.func38, Try.ntmps38
    go_wp2_with fail
    refine HC.out.mono ?_
    rintro e w1 ⟨rfl, hb1⟩
    have f0 : w1.cell? ⟨w.heap.size, 0, none⟩ = some (.int .i64 x0) := by rw [bcell1 hb1 (by simp <;> omega)]; simp [go_sem]
    have f1 : w1.cell? ⟨w.heap.size, 1, none⟩ = some (.slice a1 x1.length c1) := by rw [bcell1 hb1 (by simp <;> omega)]; simp [go_sem]
    have f2 : w1.cell? ⟨w.heap.size, 2, none⟩ = some (.slice a2 x2.length c2) := by rw [bcell1 hb1 (by simp <;> omega)]; simp [go_sem]
    have f3 : w1.cell? ⟨w.heap.size, 3, none⟩ = some (.slice a3 x3.length c3) := by rw [bcell1 hb1 (by simp <;> omega)]; simp [go_sem]
    have e0 : w1.cell? ⟨w.heap.size + 1, 0, none⟩ = some (.slice b0 y0.length d0) := by rw [bcell1 hb1 (by simp <;> omega)]; simp [go_sem]
    have e1 : w1.cell? ⟨w.heap.size + 1, 1, none⟩ = some (.slice (some ad) y1.length d1) := by rw [bcell1 hb1 (by simp <;> omega)]; simp [go_sem]
    have zz : w.heap.size + 1 < w1.heap.size := World.block_lt_of_cell? w1 _ e0
    have HB1 := Lib.hid (HB0.out.trans (hb1.mono (by simp <;> omega)))
    clear hb1
    have HCL := Lib.hid (l00OwnB_c Any (some ad) d1 y1 w1 (K1.out.below HB1.out) ⟨ad, rfl⟩ (by have := HL.out; omega))
    go_wp2_with fail
    refine HCL.out.mono ?_
    rintro e w2 ⟨v2, rfl, hb2, hl2⟩
    obtain ⟨g, cg, rfl⟩ : ∃ g c, v2 = .slice (some ⟨g, 0, none⟩) y1.length c := by
      have := hl2.ptr (by have := i1; have := HL.out; have := HK0.out; simp; omega)
      simpa using this
    have HG := Lib.hid hl2.base
    have HB2 := Lib.hid hb2
    have HL2 := Lib.hid hl2
    have E0 := Lib.hid e0
    have ZZ := Lib.hid zz
    clear hb2 hl2 f0 f1 f2 f3 e0 e1 zz
    have y8 : y1.length ≤ 8 := by have := HL.out; omega
    go_wp2
    go_loopw [8, 9] (fun i _ wr => ∃ k : Nat, k ≤ y0.length ∧ i = .int .i64 k ∧ Below w1.heap.size w1 wr ∧ Bld 2 wr w1.heap.size (.slice (some ⟨g, 0, none⟩) y1.length cg) ((totTo y1 y0 k).map (.int .i64))) (fun i _ _ => y0.length - (intOf i).toNat)
    case atStart => exact ⟨0, Nat.zero_le _, rfl, HB2.out, HL2.out⟩
    case round =>
      obtain ⟨k, hk, rfl, hb, hbl⟩ := hrel
      have f0 := (bcell1 hb ZZ.out).trans E0.out
      by_cases hlt : k < y0.length
      · have HB := Lib.hid hb
        have HBL := Lib.hid hbl
        clear hb hbl
        go_wp2
        go_loopw [9] (fun j wr => ∃ q : Nat, q ≤ y1.length ∧ j = .int .i64 q ∧ Below w1.heap.size w1 wr ∧ Bld 2 wr w1.heap.size (.slice (some ⟨g, 0, none⟩) y1.length cg) ((mixS (totTo y1 y0 (k + 1)) (totTo y1 y0 k) q).map (.int .i64))) (fun j _ => y1.length - (intOf j).toNat)
        case atStart => exact ⟨0, Nat.zero_le _, rfl, HB.out, by rw [mix_zero]; exact HBL.out⟩
        case round =>
          obtain ⟨q, hq, rfl, hb, hbl⟩ := hrel
          by_cases hlt2 : q < y1.length
          · have hK := HL.out
            have hrow := HR.out k hlt
            have hbw : Below w.heap.size w w1 := HB1.out
            obtain ⟨ao1, co1, g1, hs⟩ := (K0.out.below (bnext hbw hb (Nat.le_refl _))).cell k hlt
            have g2 := hs.cell q (by omega)
            have i2 := hs.ix tabI.under tabI.size co1
            have i3 := fun w' => ix_of (P := Try.prog) tabI.under tabI.size (a := some ⟨g, 0, none⟩) (n := y1.length) (fun _ => ⟨g, 0, rfl⟩) cg q w' (by omega) (by omega)
            simp only [Nat.mul_one, adr, blk, ofs, Int.toNat_natCast, Nat.zero_add] at i3
            have g3 : wr.cell? ⟨g, q, none⟩ = some (.int .i64 (nth (totTo y1 y0 k) q)) := by
              refine hbl.cell ?_
              rw [List.getElem?_map, List.getElem?_eq_getElem (by rw [mix_len, totTo_len]; exact hlt2), ← nth_lt, mix_at (by rw [totTo_len]; exact hlt2), if_neg (by omega)]; rfl
            have z3 : wr.frozen? ⟨g, q, none⟩ = false := hbl.free q
            have f1 := (bcell1 hb ZZ.out).trans E0.out
            have hw64 : IntKind.i64.wrap (nth (totTo y1 y0 k) q + nth (nthR y0 k) q) = nth (totTo y1 y0 (k + 1)) q := by
              rw [wrap_64, totTo, plusS_nth (by rw [totTo_len]; exact hlt2), addW_one (hrow.2 q (by omega))]
            have HS := Lib.hid ((hbl.below (w' := wr.drew) (Below.refl _ _).drew).set q (.int .i64 (nth (totTo y1 y0 (k + 1)) q)))
            have HBq := Lib.hid hb
            have kk : (q : Int) < (nthR y0 k).length := by omega
            clear hb hbl hs hK hrow hbw
            go_wp2
            go_region
            all_goals
              go_wp2
              go_roundw
              case rel => exact ⟨q + 1, by omega, by go_num, HBq.out.drew.setCell HG.out.1 _, by rw [← mix_set (by rw [totTo_len]; exact hlt2), List.map_set]; exact HS.out⟩
              case measure => simp [intOf]; omega
          · have e : q = y1.length := by omega
            have HBq := Lib.hid hb
            have HBL2 : Hid (Bld 2 wr w1.heap.size (.slice (some ⟨g, 0, none⟩) y1.length cg) ((totTo y1 y0 (k + 1)).map (.int .i64))) := Lib.hid (by
              have := hbl
              rw [e, show y1.length = (totTo y1 y0 k).length from (totTo_len _ _ _).symm, mix_full (by rw [totTo_len, totTo_len])] at this
              rwa [totTo_len] at this)
            clear hb hbl
            go_wp2
            go_roundw
            case rel => exact ⟨k + 1, by omega, by go_num, HBq.out, HBL2.out⟩
            case measure => simp [intOf]; omega
      · have e : k = y0.length := by omega
        subst e
        have HR2 := Lib.hid (RetD.ofBld (w := w1) hbl (by rw [totTo_len]; unfold maxLen; have := HL.out; omega) hb)
        clear hb hbl
        go_wp2
        go_ret2
        exact RetDC.from HB1.out (RetDC.ofD HR2.out (Below.refl _ _))
  · have ev : stockTotalS x0 x1 x2 x3 y0 y1 = ([], stCode x0 x1 x2 x3 y0 y1) := by rw [stockTotalS, if_neg hcode]
    have hc1' : (stCode x0 x1 x2 x3 y0 y1 == 0) = false := by simpa using hcode
    have hc2 : (stCode x0 x1 x2 x3 y0 y1 != 0) = true := by simpa using hcode
    rw [ev]
    clear ev hcode h1 h2 h3 k0 k1
    go_enter Try.func38, Try.ntmps38
    go_wp2_with fail
    refine HC.out.mono ?_
    rintro e w1 ⟨rfl, hb1⟩
    have HB1 := Lib.hid (HB0.out.trans (hb1.mono (by simp <;> omega)))
    clear hb1
    go_wp2
    go_ret2
    exact RetDC.none _ _ _ (HB1.out.alloc HB1.out.size _)
theorem implStockTotal_d (x0 : Int) (x1 : List Int) (x2 : List Bool) (x3 : List PR) (y0 : List (List Int)) (y1 : List Int) {v1 v2 v3 u0 u1 : Value} {F1 F2 F3 G0 G1 : List Nat} (w : World) (h1 : Ow w (dI x1) v1 F1) (h2 : Ow w (dB x2) v2 F2) (h3 : Ow w (dPR x3) v3 F3) (k0 : Ow w (dII y0) u0 G0) (k1 : Ow w (dI y1) u1 G1) :
    Calls Try.prog 39 #[.agg #[.int .i64 x0, v1, v2, v3], .agg #[u0, u1]] w (RetDC w (dI (stockTotalS x0 x1 x2 x3 y0 y1).1) (stockTotalS x0 x1 x2 x3 y0 y1).2) := by
  obtain ⟨a1, c1, rfl, hc, k1'⟩ := h1.capI
  obtain ⟨a2, c2, rfl, k2'⟩ := Rd_B.1 h2.rdA
  have h3' := h3.rdA
  obtain ⟨a3, c3, rfl, _⟩ := Rd_PR h3'
  obtain ⟨b0, d0, rfl, j3⟩ := Rd_II.1 k0.rdA
  obtain ⟨b1, d1, rfl, j4⟩ := Rd_I.1 k1.rdA
  exact implStockTotal_c x0 x1 x2 x3 y0 y1 a1 a2 a3 b0 b1 c1 c2 c3 d0 d1 w k1' hc k2' h3' j3 j4
theorem specStockTotal_d (x0 : Int) (x1 : List Int) (x2 : List Bool) (x3 : List PR) (y0 : List (List Int)) (y1 : List Int) {v1 v2 v3 u0 u1 : Value} (w : World) (h1 : Rd Any w (dI x1) v1) (h2 : Rd Any w (dB x2) v2) (h3 : Rd Any w (dPR x3) v3) (k0 : Rd Any w (dII y0) u0) (k1 : Rd Any w (dI y1) u1) :
    Calls Try.prog 38 #[.agg #[.int .i64 x0, v1, v2, v3], .agg #[u0, u1]] w (RetDC w (dI (stockTotalS x0 x1 x2 x3 y0 y1).1) (stockTotalS x0 x1 x2 x3 y0 y1).2) := by
  obtain ⟨a1, c1, rfl, k1'⟩ := Rd_I.1 h1
  obtain ⟨a2, c2, rfl, k2'⟩ := Rd_B.1 h2
  have h3' := h3
  obtain ⟨a3, c3, rfl, _⟩ := Rd_PR h3'
  obtain ⟨b0, d0, rfl, j3⟩ := Rd_II.1 k0
  obtain ⟨b1, d1, rfl, j4⟩ := Rd_I.1 k1
  exact specStockTotal_c x0 x1 x2 x3 y0 y1 a1 a2 a3 b0 b1 c1 c2 c3 d0 d1 w k1' k2' h3' j3 j4
end Go.Proofs.Ytldjgkandkclpaa
