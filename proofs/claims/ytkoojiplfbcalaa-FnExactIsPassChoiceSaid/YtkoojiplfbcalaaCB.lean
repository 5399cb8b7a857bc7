/- Choices of passing systems: plain law. No program is in sight. -/
import Derived.Test.YtkoojiplfbcalaaQC
namespace Go.Proofs.Ytkoojiplfbcalaa
open Go.RowKit

theorem sumTo_zero {xs : List Int} : ∀ k, (∀ j, j < k → nth xs j = 0) → sumTo xs k = 0
  | 0, _ => rfl
  | k + 1, h => by rw [sumTo, sumTo_zero k (fun j hj => h j (by omega)), h k (by omega)]; unfold wrap64; omega
theorem sum_some {xs : List Int} (h : sumS xs ≠ 0) : ∃ k, k < xs.length ∧ nth xs k ≠ 0 := by
  refine Classical.byContradiction fun hn => h (sumTo_zero _ fun j hj => ?_)
  refine Classical.byContradiction fun h0 => hn ⟨j, hj, h0⟩
/-- A rule takes something somewhere. -/
theorem needs_some {K : Nat} {x1 : List Int} {x2 : List Bool} {x3 : List PR} (h : PsOk K x1 x2 x3) {q : Nat} (hq : q < x3.length) : ∃ pl k, pl ≤ x1.length ∧ k < K ∧ 1 ≤ needs x1 x2 (nthPR x3 q) pl k := by
  obtain ⟨u1, u2, u3, u4, u5, u6⟩ := h.upN hq
  have ho := h.out q hq
  have hi := h.inn q hq
  have hout : sumS (nthPR x3 q).out ≠ 0 → ∃ pl k, pl ≤ x1.length ∧ k < K ∧ 1 ≤ needs x1 x2 (nthPR x3 q) pl k := fun hs => by
    obtain ⟨k, hk, hz⟩ := sum_some hs
    have b := out_bd h hq (k := k) (by omega)
    refine ⟨cellN (nthPR x3 q), k, by omega, by omega, ?_⟩
    unfold needs
    rw [if_pos rfl, if_neg (fun e => u3 e.symm)]
    omega
  have hinn : ∀ k, k < K → nth (innS x2 (nthPR x3 q)) k ≠ 0 → ∃ pl k, pl ≤ x1.length ∧ k < K ∧ 1 ≤ needs x1 x2 (nthPR x3 q) pl k := fun k hk hz => by
    have b := innS_bd (x2 := x2) h hq hk
    refine ⟨upN x1 (nthPR x3 q), k, u2, hk, ?_⟩
    unfold needs
    rw [if_neg u3, if_pos rfl]
    omega
  by_cases hso : sumS (nthPR x3 q).out = 0
  · rcases h.own q hq with hc | hc | hc
    · have hsi : sumS (nthPR x3 q).inn ≠ 0 := fun e => h.some q hq (by rw [hso, e]; rfl)
      obtain ⟨k, hk, hz⟩ := sum_some hsi
      refine hinn k (by omega) ?_
      rw [innS, if_neg (by omega)]
      exact hz
    · omega
    · rw [hasBoundS, List.any_eq_true] at hc
      obtain ⟨k, hk, hb⟩ := hc
      have hk2 : k < (nthPR x3 q).inn.length := by simpa using hk
      have b := inn_bd h hq (k := k) (by omega)
      refine hinn k (by omega) ?_
      unfold innS
      simp only [bound1, Bool.and_eq_true, Bool.not_eq_true', decide_eq_true_eq] at hb
      split
      · rw [boundS_at hk2, if_neg (by simp [hb])]
        omega
      · omega
  · exact hout hso
/-- A count beyond 1000 never fits. -/
theorem over_fits {K : Nat} {x1 : List Int} {x2 : List Bool} {x3 : List PR} {y0 : List (List Int)} {y1 : List Int} {cs : List Int} (h : PsOk K x1 x2 x3) (hs : StOk K x1.length y0 y1) (hc : ∀ j, 0 ≤ nth cs j ∧ nth cs j ≤ 1000) (hl : cs.length = x3.length) {q : Nat} (hq : q < x3.length) (he : nth cs q = 1000) :
    fitsB x1 x2 x3 (bagsS y0 y1) (cs.set q (nth cs q + 1)) = false := by
  have hc2 : cntBd (cs.set q (nth cs q + 1)) := fun j => by
    rw [nth_set (by omega)]
    have := hc j
    have := hc q
    split <;> omega
  cases hf : fitsB x1 x2 x3 (bagsS y0 y1) (cs.set q (nth cs q + 1))
  · rfl
  · exfalso
    have hg := (fitsB_iff h hs hc2 (by simpa using hl)).1 hf
    obtain ⟨pl, k, hp, hk, hn⟩ := needs_some h hq
    have g := hg pl k hp hk
    have m := lev_mono (bags := bagsS y0 y1) h hc2 pl hk (q + 1) (x3.length - (q + 1)) (by omega)
    rw [show q + 1 + (x3.length - (q + 1)) = x3.length by omega] at m
    have b := (lev_bd h hc2 pl hk (bagsS_at hs hp hk) q (by omega)).2
    rw [lev, nth_set (by omega), if_pos rfl] at m
    have hm : (1001 : Int) ≤ 1001 * needs x1 x2 (nthPR x3 q) pl k := by omega
    have e : (nth cs q + 1) * needs x1 x2 (nthPR x3 q) pl k = 1001 * needs x1 x2 (nthPR x3 q) pl k := by rw [he]; rfl
    rw [e] at m
    omega
/-- One more of rule q fits. -/
def roomS (x1 : List Int) (x2 : List Bool) (x3 : List PR) (bags : List (List Int)) (cs : List Int) (q : Nat) : Bool := fitsB x1 x2 x3 bags (cs.set q (nth cs q + 1))
/-- One of the first n rules is at work in the cell c, if cells may not be shared. -/
def busyTo (x3 : List PR) (cs : List Int) (mode c : Int) : Nat → Bool
  | 0 => false
  | j + 1 => busyTo x3 cs mode c j || ((nthPR x3 j).cell == c && decide (0 < nth cs j) && mode == 2)
/-- Whether the counts are a choice. -/
def chosenTo (x1 : List Int) (x2 : List Bool) (x3 : List PR) (bags : List (List Int)) (cs : List Int) (mode : Int) : Nat → Bool
  | 0 => true
  | k + 1 => chosenTo x1 x2 x3 bags cs mode k && (busyTo x3 cs mode (nthPR x3 k).cell cs.length || !roomS x1 x2 x3 bags cs k)
def chosenS (x1 : List Int) (x2 : List Bool) (x3 : List PR) (bags : List (List Int)) (cs : List Int) (mode : Int) : Bool :=
  if (sumS cs == 0 || mode == 3) = true then sumS cs == 1 else chosenTo x1 x2 x3 bags cs mode x3.length
theorem chosen_stop {x1 : List Int} {x2 : List Bool} {x3 : List PR} {bags : List (List Int)} {cs : List Int} {mode : Int} {k : Nat} (h1 : busyTo x3 cs mode (nthPR x3 k).cell cs.length = false) (h2 : roomS x1 x2 x3 bags cs k = true) : ∀ n, k < n → chosenTo x1 x2 x3 bags cs mode n = false
  | n + 1, hn => by
    rw [chosenTo]
    by_cases e : k = n
    · subst e; rw [h1, h2]; simp
    · rw [chosen_stop h1 h2 n (by omega)]; rfl
end Go.Proofs.Ytkoojiplfbcalaa
