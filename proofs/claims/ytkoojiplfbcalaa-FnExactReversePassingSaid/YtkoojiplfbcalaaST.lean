/- The code of a passing system and a stock; the total of a stock. -/
import Derived.Test.YtkoojiplfbcalaaSV
import Derived.Test.YtkoojiplfbcalaaQC
import Derived.Test.YtkoojiplfbcalaaBL
namespace Go.Proofs.Ytkoojiplfbcalaa
open Go.RowKit

def stCode (x0 : Int) (x1 : List Int) (x2 : List Bool) (x3 : List PR) (y0 : List (List Int)) (y1 : List Int) : Int := if okPass x0 x1 x2 x3 = true then (if okStockAll x0 x1 x2 x3 y0 y1 = true then 0 else 2) else 1
theorem stCode_ok {x0 : Int} {x1 : List Int} {x2 : List Bool} {x3 : List PR} {y0 : List (List Int)} {y1 : List Int} (h : stCode x0 x1 x2 x3 y0 y1 = 0) : okStockAll x0 x1 x2 x3 y0 y1 = true := by
  unfold stCode at h
  split at h
  · split at h
    · assumption
    · exact absurd h (by decide)
  · exact absurd h (by decide)
theorem stCode_bad {x0 : Int} {x1 : List Int} {x2 : List Bool} {x3 : List PR} {y0 : List (List Int)} {y1 : List Int} (h : okPass x0 x1 x2 x3 = false) : stCode x0 x1 x2 x3 y0 y1 = 1 := by simp [stCode, h]
theorem stCode_two {x0 : Int} {x1 : List Int} {x2 : List Bool} {x3 : List PR} {y0 : List (List Int)} {y1 : List Int} (h : okPass x0 x1 x2 x3 = true) (h2 : okStockAll x0 x1 x2 x3 y0 y1 = false) : stCode x0 x1 x2 x3 y0 y1 = 2 := by simp [stCode, h, h2]
theorem stCode_zero {x0 : Int} {x1 : List Int} {x2 : List Bool} {x3 : List PR} {y0 : List (List Int)} {y1 : List Int} (h : okPass x0 x1 x2 x3 = true) (h2 : okStockAll x0 x1 x2 x3 y0 y1 = true) : stCode x0 x1 x2 x3 y0 y1 = 0 := by simp [stCode, h, h2]
/-- The sum of the first bags. -/
def totTo (y1 : List Int) (y0 : List (List Int)) : Nat → List Int
  | 0 => y1
  | k + 1 => plusS (totTo y1 y0 k) (nthR y0 k) 1
theorem totTo_len (y1 : List Int) (y0 : List (List Int)) : ∀ k, (totTo y1 y0 k).length = y1.length
  | 0 => rfl
  | k + 1 => by rw [totTo, plusS_len, totTo_len]
def stockTotalS (x0 : Int) (x1 : List Int) (x2 : List Bool) (x3 : List PR) (y0 : List (List Int)) (y1 : List Int) : List Int × Int := if stCode x0 x1 x2 x3 y0 y1 = 0 then (totTo y1 y0 y0.length, 0) else ([], stCode x0 x1 x2 x3 y0 y1)
theorem stockTotal_cnt (x0 : Int) (x1 : List Int) (x2 : List Bool) (x3 : List PR) (y0 : List (List Int)) (y1 : List Int) : cnt (dI (stockTotalS x0 x1 x2 x3 y0 y1).1) ≤ 16777216 := by
  rw [cnt_dI]
  unfold stockTotalS
  split
  · rename_i h
    obtain ⟨K, _, hp, hs⟩ := stockAll_ok (stCode_ok h)
    have := hs.around.2
    have := hp.k8
    rw [totTo_len]; omega
  · simp
/-- One place of a sum. -/
theorem nth_ext {xs ys : List Int} (hl : xs.length = ys.length) (h : ∀ j, j < ys.length → nth xs j = nth ys j) : xs = ys := eq_of_nth hl (fun j hj => h j (by omega))
theorem addW_one {x y : Int} (hy : 0 ≤ y ∧ y ≤ 1000) : addW 1 x y = wrap64 (x + y) := by
  have : wrap64 (1 * y) = y := by unfold wrap64; omega
  rw [addW, this]
set_option maxHeartbeats 2000000 in
theorem stockCode_c (x0 : Int) (x1 : List Int) (x2 : List Bool) (x3 : List PR) (y0 : List (List Int)) (y1 : List Int) (a1 a2 a3 b0 b1 : Option Addr) (c1 c2 c3 d0 d1 : Nat) (w : World) (h1 : SlI Any w a1 x1) (hc1 : x1.length ≤ c1) (h2 : SlB Any w a2 x2) (h3 : Rd Any w (dPR x3) (.slice a3 x3.length c3)) (k0 : SlII Any w b0 y0) (k1 : SlI Any w b1 y1) :
    Calls Try.prog 83 #[.agg #[.int .i64 x0, .slice a1 x1.length c1, .slice a2 x2.length c2, .slice a3 x3.length c3], .agg #[.slice b0 y0.length d0, .slice b1 y1.length d1]] w (RetV w (.int .i64 (stCode x0 x1 x2 x3 y0 y1))) := by
  have hb0 : Below w.heap.size w ((w.alloc (.cells #[.int .i64 x0, .slice a1 x1.length c1, .slice a2 x2.length c2, .slice a3 x3.length c3] 36)).alloc (.cells #[.slice b0 y0.length d0, .slice b1 y1.length d1] 38)) := ((Below.refl _ _).alloc (Nat.le_refl _) _).alloc (by simp) _
  have HP := Lib.hid (validPassing_c x0 x1 x2 x3 a1 a2 a3 c1 c2 c3 ((w.alloc (.cells #[.int .i64 x0, .slice a1 x1.length c1, .slice a2 x2.length c2, .slice a3 x3.length c3] 36)).alloc (.cells #[.slice b0 y0.length d0, .slice b1 y1.length d1] 38)) (h1.below hb0) hc1 (h2.below hb0) (h3.below hb0))
  have HS := Lib.hid (fun wx (h : Below w.heap.size w wx) => validStock_c x0 x1 x2 x3 y0 y1 a1 a2 a3 b0 b1 c1 c2 c3 d0 d1 wx (h1.below h) hc1 (h2.below h) (h3.below h) (k0.below h) (k1.below h))
  have HB0 := Lib.hid hb0
  clear h1 h2 h3 k0 k1 hb0
  cases hP : okPass x0 x1 x2 x3
  · rw [stCode_bad hP]
    rw [hP] at HP
    clear hP
    go_enter Try.func83, Try.ntmps83
    go_wp2_with fail
    refine HP.out.mono ?_
    rintro e w1 ⟨rfl, hb1⟩
    have HB1 := Lib.hid (HB0.out.trans (hb1.mono (by simp <;> omega)))
    clear hb1
    go_wp2
    go_ret
    exact ⟨rfl, HB1.out⟩
  · have HPP := Lib.hid hP
    rw [hP] at HP
    clear hP
    cases hS : okStockAll x0 x1 x2 x3 y0 y1
    · have HR : Hid (stCode x0 x1 x2 x3 y0 y1 = 2) := Lib.hid (stCode_two HPP.out hS)
      rw [HR.out]
      rw [hS] at HS
      clear hS
      go_enter Try.func83, Try.ntmps83
      go_wp2_with fail
      refine HP.out.mono ?_
      rintro e w1 ⟨rfl, hb1⟩
      have f0 : w1.cell? ⟨w.heap.size, 0, none⟩ = some (.int .i64 x0) := by rw [bcell1 hb1 (by simp <;> omega)]; simp [go_sem]
      have f1 : w1.cell? ⟨w.heap.size, 1, none⟩ = some (.slice a1 x1.length c1) := by rw [bcell1 hb1 (by simp <;> omega)]; simp [go_sem]
      have f2 : w1.cell? ⟨w.heap.size, 2, none⟩ = some (.slice a2 x2.length c2) := by rw [bcell1 hb1 (by simp <;> omega)]; simp [go_sem]
      have f3 : w1.cell? ⟨w.heap.size, 3, none⟩ = some (.slice a3 x3.length c3) := by rw [bcell1 hb1 (by simp <;> omega)]; simp [go_sem]
      have e0 : w1.cell? ⟨w.heap.size + 1, 0, none⟩ = some (.slice b0 y0.length d0) := by rw [bcell1 hb1 (by simp <;> omega)]; simp [go_sem]
      have e1 : w1.cell? ⟨w.heap.size + 1, 1, none⟩ = some (.slice b1 y1.length d1) := by rw [bcell1 hb1 (by simp <;> omega)]; simp [go_sem]
      have HB1 := Lib.hid (HB0.out.trans (hb1.mono (by simp <;> omega)))
      clear hb1
      go_wp2_with fail
      refine (HS.out w1 HB1.out).mono ?_
      rintro e w2 ⟨rfl, hb2⟩
      have HB2 := Lib.hid (bnext HB1.out hb2 (Nat.le_refl _))
      clear hb2 f0 f1 f2 f3 e0 e1
      go_wp2
      go_ret
      exact ⟨rfl, HB2.out⟩
    · have HR : Hid (stCode x0 x1 x2 x3 y0 y1 = 0) := Lib.hid (stCode_zero HPP.out hS)
      rw [HR.out]
      rw [hS] at HS
      clear hS
      go_enter Try.func83, Try.ntmps83
      go_wp2_with fail
      refine HP.out.mono ?_
      rintro e w1 ⟨rfl, hb1⟩
      have f0 : w1.cell? ⟨w.heap.size, 0, none⟩ = some (.int .i64 x0) := by rw [bcell1 hb1 (by simp <;> omega)]; simp [go_sem]
      have f1 : w1.cell? ⟨w.heap.size, 1, none⟩ = some (.slice a1 x1.length c1) := by rw [bcell1 hb1 (by simp <;> omega)]; simp [go_sem]
      have f2 : w1.cell? ⟨w.heap.size, 2, none⟩ = some (.slice a2 x2.length c2) := by rw [bcell1 hb1 (by simp <;> omega)]; simp [go_sem]
      have f3 : w1.cell? ⟨w.heap.size, 3, none⟩ = some (.slice a3 x3.length c3) := by rw [bcell1 hb1 (by simp <;> omega)]; simp [go_sem]
      have e0 : w1.cell? ⟨w.heap.size + 1, 0, none⟩ = some (.slice b0 y0.length d0) := by rw [bcell1 hb1 (by simp <;> omega)]; simp [go_sem]
      have e1 : w1.cell? ⟨w.heap.size + 1, 1, none⟩ = some (.slice b1 y1.length d1) := by rw [bcell1 hb1 (by simp <;> omega)]; simp [go_sem]
      have HB1 := Lib.hid (HB0.out.trans (hb1.mono (by simp <;> omega)))
      clear hb1
      go_wp2_with fail
      refine (HS.out w1 HB1.out).mono ?_
      rintro e w2 ⟨rfl, hb2⟩
      have HB2 := Lib.hid (bnext HB1.out hb2 (Nat.le_refl _))
      clear hb2 f0 f1 f2 f3 e0 e1
      go_wp2
      go_ret
      exact ⟨rfl, HB2.out⟩
set_option maxHeartbeats 2000000 in
theorem l06Code_c (x0 : Int) (x1 : List Int) (x2 : List Bool) (x3 : List PR) (y0 : List (List Int)) (y1 : List Int) (a1 a2 a3 b0 b1 : Option Addr) (c1 c2 c3 d0 d1 : Nat) (w : World) (h1 : SlI Any w a1 x1) (h2 : SlB Any w a2 x2) (h3 : Rd Any w (dPR x3) (.slice a3 x3.length c3)) (k0 : SlII Any w b0 y0) (k1 : SlI Any w b1 y1)
    (p q : Nat) (hp0 : w.cell? ⟨p, 0, none⟩ = some (.int .i64 x0)) (hp1 : w.cell? ⟨p, 1, none⟩ = some (.slice a1 x1.length c1)) (hp2 : w.cell? ⟨p, 2, none⟩ = some (.slice a2 x2.length c2)) (hp3 : w.cell? ⟨p, 3, none⟩ = some (.slice a3 x3.length c3)) (hq0 : w.cell? ⟨q, 0, none⟩ = some (.slice b0 y0.length d0)) (hq1 : w.cell? ⟨q, 1, none⟩ = some (.slice b1 y1.length d1)) :
    Calls Try.prog 61 #[.pointer (some ⟨p, 0, none⟩), .pointer (some ⟨q, 0, none⟩)] w (RetV w (.int .i64 (stCode x0 x1 x2 x3 y0 y1))) := by
  have HP := Lib.hid (l06Ok_c x0 x1 x2 x3 a1 a2 a3 c1 c2 c3 p w h1 h2 h3 hp0 hp1 hp2 hp3)
  have zp := World.block_lt_of_cell? w _ hp0
  have zq := World.block_lt_of_cell? w _ hq0
  have HS : okPass x0 x1 x2 x3 = true → Hid (∀ wx, Below w.heap.size w wx → Calls Try.prog 130 #[.pointer (some ⟨p, 0, none⟩), .pointer (some ⟨q, 0, none⟩)] wx (RetV wx (.bool (okStock x0 x1.length x2 y0 y1)))) := fun hP => by
    have hok := okPass_ok hP
    exact Lib.hid fun wx hx => l06Stock_c x0 x1.length x3.length x2 y0 y1 a1 a2 a3 b0 b1 c1 c2 c3 d0 d1 p q wx (h2.below hx) (k0.below hx) (k1.below hx) ((bcell1 hx zp).trans hp0) ((bcell1 hx zp).trans hp1) ((bcell1 hx zp).trans hp2) ((bcell1 hx zp).trans hp3) ((bcell1 hx zq).trans hq0) ((bcell1 hx zq).trans hq1) ⟨hok.1, hok.2.1⟩ hok.2.2.2.1 hok.2.2.2.2.2.1
  clear h1 h2 h3 k0 k1 hp0 hp1 hp2 hp3 hq0 hq1 zp zq
  cases hP : okPass x0 x1 x2 x3
  · rw [stCode_bad hP]
    rw [hP] at HP
    clear hP HS
    go_enter Try.func61, Try.ntmps61
    go_wp2_with fail
    refine HP.out.mono ?_
    rintro e w1 ⟨rfl, hb1⟩
    have HB1 := Lib.hid hb1
    clear hb1
    go_wp2
    go_ret
    exact ⟨rfl, HB1.out⟩
  · have HS2 := HS hP
    have HE : Hid (okStockAll x0 x1 x2 x3 y0 y1 = okStock x0 x1.length x2 y0 y1) := Lib.hid (by simp [okStockAll, hP])
    have HPP := Lib.hid hP
    rw [hP] at HP
    clear hP HS
    cases hS : okStock x0 x1.length x2 y0 y1
    · have HR : Hid (stCode x0 x1 x2 x3 y0 y1 = 2) := Lib.hid (stCode_two HPP.out (by rw [HE.out, hS]))
      rw [HR.out]
      rw [hS] at HS2
      clear hS
      go_enter Try.func61, Try.ntmps61
      go_wp2_with fail
      refine HP.out.mono ?_
      rintro e w1 ⟨rfl, hb1⟩
      have HB1 := Lib.hid hb1
      clear hb1
      go_wp2_with fail
      refine (HS2.out w1 HB1.out).mono ?_
      rintro e w2 ⟨rfl, hb2⟩
      have HB2 := Lib.hid (bnext HB1.out hb2 (Nat.le_refl _))
      clear hb2
      go_wp2
      go_ret
      exact ⟨rfl, HB2.out⟩
    · have HR : Hid (stCode x0 x1 x2 x3 y0 y1 = 0) := Lib.hid (stCode_zero HPP.out (by rw [HE.out, hS]))
      rw [HR.out]
      rw [hS] at HS2
      clear hS
      go_enter Try.func61, Try.ntmps61
      go_wp2_with fail
      refine HP.out.mono ?_
      rintro e w1 ⟨rfl, hb1⟩
      have HB1 := Lib.hid hb1
      clear hb1
      go_wp2_with fail
      refine (HS2.out w1 HB1.out).mono ?_
      rintro e w2 ⟨rfl, hb2⟩
      have HB2 := Lib.hid (bnext HB1.out hb2 (Nat.le_refl _))
      clear hb2
      go_wp2
      go_ret
      exact ⟨rfl, HB2.out⟩
theorem Bld.ptr {E : Nat} {w : World} {B : Nat} {v : Value} {vs : List Value} (h : Bld E w B v vs) (h0 : 0 < vs.length) : ∃ g c, v = .slice (some ⟨g, 0, none⟩) vs.length c := by
  obtain ⟨_, h2⟩ := h
  rcases h2 with ⟨_, h3⟩ | ⟨g, cap, cur, h1, _⟩
  · omega
  · exact ⟨g, cap, h1⟩
/-- The first q from the new list, the others from the old. -/
def mixS (new old : List Int) (q : Nat) : List Int := (List.range old.length).map fun j => if j < q then nth new j else nth old j
theorem mix_len (new old : List Int) (q : Nat) : (mixS new old q).length = old.length := by simp [mixS]
theorem mix_at {new old : List Int} {q j : Nat} (h : j < old.length) : nth (mixS new old q) j = if j < q then nth new j else nth old j := by simp [mixS, nth, h]
theorem mix_zero (new old : List Int) : mixS new old 0 = old := nth_ext (mix_len _ _ _) fun j hj => by rw [mix_at hj, if_neg (by omega)]
theorem mix_full {new old : List Int} (h : new.length = old.length) : mixS new old old.length = new := nth_ext (by rw [mix_len, h]) fun j hj => by rw [mix_at (by omega), if_pos (by omega)]
theorem mix_set {new old : List Int} {q : Nat} (h : q < old.length) : (mixS new old q).set q (nth new q) = mixS new old (q + 1) := nth_ext (by simp [mix_len]) fun j hj => by
  rw [mix_len] at hj
  rw [nth_set (by rw [mix_len]; exact h), mix_at hj, mix_at hj]
  by_cases e : j = q
  · subst e; rw [if_pos rfl, if_pos (by omega)]
  · rw [if_neg e]
    by_cases e2 : j < q
    · rw [if_pos e2, if_pos (by omega)]
    · rw [if_neg e2, if_neg (by omega)]
