/- Contracts of the exported functions on bags (third part): add, take, times. -/
import Derived.Test.YtncndnholheemaaE
namespace Go.Proofs.Ytncndnholheemaa
open Go.RowKit

/-- How often a list is in another one, over the first k places. -/
def timesTo (xs ys : List Int) : Nat → Int
  | 0 => 1000
  | k + 1 => if 0 < nth xs k then minI (timesTo xs ys k) (nth ys k / nth xs k) else timesTo xs ys k
def timesS (xs ys : List Int) : Int := timesTo xs ys xs.length
/-- Is there an object in the first k places? -/
def someTo (xs : List Int) (k : Nat) : Bool := (List.range k).any fun i => decide (0 < nth xs i)
/-- The reference's way. -/
def bestTo (xs ys : List Int) (k : Nat) : Int := if someTo xs k = true then timesTo xs ys k else -1
theorem someTo_succ (xs : List Int) (k : Nat) : someTo xs (k + 1) = (someTo xs k || decide (0 < nth xs k)) := by simp [someTo, List.range_succ]
theorem timesTo_bd {xs ys : List Int} (hy : ∀ j, j < xs.length → 0 ≤ nth ys j ∧ nth ys j ≤ 1000) : ∀ k, k ≤ xs.length → 0 ≤ timesTo xs ys k ∧ timesTo xs ys k ≤ 1000
  | 0, _ => by simp [timesTo]
  | k + 1, hk => by
    have ih := timesTo_bd hy k (by omega)
    have h1 := hy k (by omega)
    unfold timesTo
    split
    · rename_i h
      have h2 : 0 ≤ nth ys k / nth xs k := Int.ediv_nonneg h1.1 (by omega)
      unfold minI
      split <;> omega
    · exact ih
theorem div_bd {x y : Int} (hx : 0 < x) (hy : 0 ≤ y ∧ y ≤ 1000) : 0 ≤ y / x ∧ y / x ≤ 1000 :=
  ⟨Int.ediv_nonneg hy.1 (by omega), Int.le_trans (Int.ediv_le_self _ hy.1) hy.2⟩
theorem bestTo_skip {xs ys : List Int} {k : Nat} (h : ¬ 0 < nth xs k) : bestTo xs ys (k + 1) = bestTo xs ys k := by
  unfold bestTo
  rw [someTo_succ, show timesTo xs ys (k + 1) = timesTo xs ys k from by rw [timesTo, if_neg h], show decide (0 < nth xs k) = false from by simpa using h, Bool.or_false]
theorem bestTo_first {xs ys : List Int} {k : Nat} (hy : ∀ j, j < xs.length → 0 ≤ nth ys j ∧ nth ys j ≤ 1000) (hk : k < xs.length) (h : 0 < nth xs k) (hs : someTo xs k = false) : bestTo xs ys (k + 1) = nth ys k / nth xs k := by
  have h1000 : ∀ j, someTo xs j = false → timesTo xs ys j = 1000 := by
    intro j
    induction j with
    | zero => intro _; rfl
    | succ j ih =>
      intro hj
      rw [someTo_succ, Bool.or_eq_false_iff] at hj
      unfold timesTo
      rw [if_neg (by simpa using hj.2)]
      exact ih hj.1
  have hd := div_bd h (hy k hk)
  unfold bestTo timesTo
  rw [someTo_succ, h1000 k hs, if_pos h, show decide (0 < nth xs k) = true from by simpa using h, Bool.or_true, if_pos rfl]
  unfold minI
  split <;> omega
theorem bestTo_more {xs ys : List Int} {k : Nat} (h : 0 < nth xs k) (hs : someTo xs k = true) : bestTo xs ys (k + 1) = if nth ys k / nth xs k < bestTo xs ys k then nth ys k / nth xs k else bestTo xs ys k := by
  unfold bestTo
  rw [someTo_succ, hs]
  simp only [Bool.true_or, if_true]
  rw [timesTo, if_pos h, minI]
  split <;> split <;> omega
theorem someTo_sum {xs : List Int} (h : isBagS xs = true) : (sumS xs == 0) = !someTo xs xs.length := by
  have key : ∀ k, k ≤ xs.length → (0 ≤ sumTo xs k ∧ sumTo xs k ≤ 1000 * k) ∧ ((sumTo xs k = 0) ↔ someTo xs k = false) := by
    intro k
    induction k with
    | zero => intro _; simp [sumTo, someTo]
    | succ k ih =>
      intro hk
      obtain ⟨⟨h1, h2⟩, h3⟩ := ih (by omega)
      have hb := isBagS_at h (k := k) (by omega)
      have hl := (isBagS_len h).2
      have e : sumTo xs (k + 1) = sumTo xs k + nth xs k := by
        rw [sumTo, wrap64]; omega
      rw [e, someTo_succ]
      refine ⟨⟨by omega, by push_cast; omega⟩, ?_⟩
      rw [Bool.or_eq_false_iff, ← h3]
      simp
      omega
  have := (key xs.length (Nat.le_refl _)).2
  unfold sumS
  cases hs : someTo xs xs.length
  · rw [hs] at this; simp [this.2 rfl]
  · rw [hs] at this
    have h0 : ¬ sumTo xs xs.length = 0 := fun e => by have := this.1 e; cases this
    simp [h0]
def timesInS (xs ys : List Int) : Int × Int := if twoS xs ys = 0 then (if sumS xs == 0 then (0, 4) else (timesS xs ys, 0)) else (0, twoS xs ys)
