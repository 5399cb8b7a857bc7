/- Sums of small bags: what the law of sums asks, in plain lists. No program is in sight. -/
import Derived.Test.YthlbogmnnenkoaaI
import Derived.Test.YthlbogmnnenkoaaJ
namespace Go.Proofs.Ythlbogmnnenkoaa
open Go.RowKit

/-- Two bags with few objects. -/
structure TwoSmall (a b : List Int) : Prop where
  len : a.length = b.length
  lo : 1 ≤ a.length
  hi : a.length ≤ 8
  bda : ∀ j, j < a.length → 0 ≤ nth a j ∧ nth a j ≤ 6
  bdb : ∀ j, j < b.length → 0 ≤ nth b j ∧ nth b j ≤ 4
theorem bag_of {xs : List Int} (h1 : 1 ≤ xs.length) (h2 : xs.length ≤ 8) (h : ∀ j, j < xs.length → 0 ≤ nth xs j ∧ nth xs j ≤ 1000) : isBagS xs = true := by
  have h3 : allB cntOk xs = true := allB_true fun j hj => by have := h j hj; simp [cntOk, inRg]; omega
  simp [isBagS, h3, inRg]; omega
theorem list_eq {xs ys : List Int} (hl : xs.length = ys.length) (h : ∀ j, j < xs.length → nth xs j = nth ys j) : xs = ys := by
  refine List.ext_getElem hl fun i h1 h2 => ?_
  have := h i h1
  rwa [nth_lt h1, nth_lt h2] at this
theorem two_zero {xs ys : List Int} (hx : isBagS xs = true) (hy : isBagS ys = true) (hl : xs.length = ys.length) : twoS xs ys = 0 := by simp [twoS, hx, hy, hl]
theorem plus_at {xs ys : List Int} {f : Int} {j : Nat} (h : j < xs.length) (_hf : -1000 ≤ f ∧ f ≤ 1000) (hx : -1000000 ≤ nth xs j ∧ nth xs j ≤ 1000000) (_hy : -1000 ≤ nth ys j ∧ nth ys j ≤ 1000) (hp : -1000000 ≤ f * nth ys j ∧ f * nth ys j ≤ 1000000) : nth (plusS xs ys f) j = nth xs j + f * nth ys j := by
  rw [plusS, zipF_at h, addW]
  have e : wrap64 (f * nth ys j) = f * nth ys j := by unfold wrap64; omega
  rw [e]; unfold wrap64; omega
theorem plus_one {xs ys : List Int} {j : Nat} (h : j < xs.length) (hx : 0 ≤ nth xs j ∧ nth xs j ≤ 1000) (hy : 0 ≤ nth ys j ∧ nth ys j ≤ 1000) : nth (plusS xs ys 1) j = nth xs j + nth ys j := by
  rw [plus_at h (by omega) (by omega) (by omega) (by omega)]; omega
theorem plus_neg {xs ys : List Int} {j : Nat} (h : j < xs.length) (hx : 0 ≤ nth xs j ∧ nth xs j ≤ 1000) (hy : 0 ≤ nth ys j ∧ nth ys j ≤ 1000) : nth (plusS xs ys (-1)) j = nth xs j - nth ys j := by
  rw [plus_at h (by omega) (by omega) (by omega) (by omega)]; omega
theorem min_at {xs ys : List Int} {j : Nat} (h : j < xs.length) : nth (zipF minI xs ys xs.length) j = minI (nth xs j) (nth ys j) := zipF_at h
theorem max_at {xs ys : List Int} {j : Nat} (h : j < xs.length) : nth (zipF maxI xs ys xs.length) j = maxI (nth xs j) (nth ys j) := zipF_at h
theorem within_at {xs ys : List Int} (h : withinS xs ys = true) {j : Nat} (hj : j < xs.length) : nth xs j ≤ nth ys j := by
  rw [withinS, List.all_eq_true] at h
  simpa using h j (by simpa using hj)
section
variable {a b : List Int} (h : TwoSmall a b)
include h
theorem TwoSmall.bagA : isBagS a = true := bag_of h.lo h.hi fun j hj => by have := h.bda j hj; omega
theorem TwoSmall.bagB : isBagS b = true := bag_of (by have := h.lo; have := h.len; omega) (by have := h.hi; have := h.len; omega) fun j hj => by have := h.bdb j hj; omega
theorem TwoSmall.sumAt {j : Nat} (hj : j < a.length) : nth (plusS a b 1) j = nth a j + nth b j := by
  have := h.bda j hj; have := h.bdb j (by rw [← h.len]; exact hj)
  exact plus_one hj (by omega) (by omega)
theorem TwoSmall.bagS : isBagS (plusS a b 1) = true := bag_of (by rw [plusS_len]; exact h.lo) (by rw [plusS_len]; exact h.hi) fun j hj => by
  rw [plusS_len] at hj
  have := h.bda j hj; have := h.bdb j (by rw [← h.len]; exact hj); rw [h.sumAt hj]; omega
theorem TwoSmall.add : addS a b = (plusS a b 1, 0) := by
  rw [addS, if_pos (two_zero h.bagA h.bagB h.len), toldS, if_pos h.bagS]
theorem TwoSmall.back : takeS (plusS a b 1) b = (a, 0) := by
  have hw : withinS b (plusS a b 1) = true := withinS_true fun j hj => by
    have hj' : j < a.length := by rw [h.len]; exact hj
    have := h.bda j hj'; rw [h.sumAt hj']; omega
  rw [takeS, if_pos (two_zero h.bagS h.bagB (by rw [plusS_len]; exact h.len)), if_pos hw]
  have e : plusS (plusS a b 1) b (-1) = a := list_eq (by rw [plusS_len, plusS_len]) fun j hj => by
    rw [plusS_len, plusS_len] at hj
    have := h.bda j hj; have := h.bdb j (by rw [← h.len]; exact hj)
    rw [plus_neg (by rw [plusS_len]; exact hj) (by rw [h.sumAt hj]; omega) (by omega), h.sumAt hj]; omega
  rw [e]
theorem TwoSmall.meet : meetS a b = (zipF minI a b a.length, 0) := by rw [meetS, if_pos (two_zero h.bagA h.bagB h.len)]
theorem TwoSmall.join : joinS a b = (zipF maxI a b a.length, 0) := by rw [joinS, if_pos (two_zero h.bagA h.bagB h.len)]
theorem TwoSmall.both : addS (zipF minI a b a.length) (zipF maxI a b a.length) = (plusS a b 1, 0) := by
  have b1 : isBagS (zipF minI a b a.length) = true := bag_of (by rw [zipF_len]; exact h.lo) (by rw [zipF_len]; exact h.hi) fun j hj => by
    rw [zipF_len] at hj
    have := h.bda j hj; have := h.bdb j (by rw [← h.len]; exact hj); rw [min_at hj]; unfold minI; split <;> omega
  have b2 : isBagS (zipF maxI a b a.length) = true := bag_of (by rw [zipF_len]; exact h.lo) (by rw [zipF_len]; exact h.hi) fun j hj => by
    rw [zipF_len] at hj
    have := h.bda j hj; have := h.bdb j (by rw [← h.len]; exact hj); rw [max_at hj]; unfold maxI; split <;> omega
  have e : plusS (zipF minI a b a.length) (zipF maxI a b a.length) 1 = plusS a b 1 := list_eq (by rw [plusS_len, plusS_len, zipF_len]) fun j hj => by
    rw [plusS_len, zipF_len] at hj
    have := h.bda j hj; have := h.bdb j (by rw [← h.len]; exact hj)
    rw [plus_one (by rw [zipF_len]; exact hj) (by rw [min_at hj]; unfold minI; split <;> omega) (by rw [max_at hj]; unfold maxI; split <;> omega), h.sumAt hj, min_at hj, max_at hj]
    unfold minI maxI; split <;> split <;> omega
  rw [addS, if_pos (two_zero b1 b2 (by rw [zipF_len, zipF_len])), e, toldS, if_pos h.bagS]
theorem TwoSmall.within : isWithinS b a = (withinS b a, 0) := by rw [isWithinS, if_pos (two_zero h.bagB h.bagA h.len.symm)]
theorem TwoSmall.seven : (takeS a b).2 = if withinS b a = true then 0 else 4 := by
  rw [takeS, if_pos (two_zero h.bagA h.bagB h.len)]; split <;> rfl
theorem TwoSmall.same : withinS b a = decide (zipF minI a b a.length = b) := by
  rw [Bool.eq_iff_iff, decide_eq_true_eq]
  constructor
  · intro hw
    refine list_eq (by rw [zipF_len]; exact h.len) fun j hj => ?_
    rw [zipF_len] at hj
    have := within_at hw (j := j) (by rw [← h.len]; exact hj)
    rw [min_at hj]; unfold minI; split <;> omega
  · intro e
    refine withinS_true fun j hj => ?_
    have hj' : j < a.length := by rw [h.len]; exact hj
    have e2 := congrArg (fun l => nth l j) e
    simp only [min_at hj'] at e2
    unfold minI at e2
    split at e2 <;> omega
end
/-- A sum that can't be too great. -/
def sumX (xs : List Int) : Nat → Int
  | 0 => 0
  | k + 1 => sumX xs k + nth xs k
theorem sumTo_X {xs : List Int} : ∀ k, k ≤ 100 → (∀ j, j < k → -1000 ≤ nth xs j ∧ nth xs j ≤ 1000) → sumTo xs k = sumX xs k ∧ -(1000 * k) ≤ sumX xs k ∧ sumX xs k ≤ 1000 * k
  | 0, _, _ => by simp [sumTo, sumX]
  | k + 1, hk, h => by
    obtain ⟨h1, h2, h3⟩ := sumTo_X k (by omega) fun j hj => h j (by omega)
    have := h k (by omega)
    refine ⟨?_, ?_, ?_⟩
    · rw [sumTo, sumX, h1]; unfold wrap64; omega
    · rw [sumX]; push_cast; omega
    · rw [sumX]; push_cast; omega
theorem sumX_add {xs ys zs : List Int} : ∀ k, (∀ j, j < k → nth zs j = nth xs j + nth ys j) → sumX zs k = sumX xs k + sumX ys k
  | 0, _ => rfl
  | k + 1, h => by rw [sumX, sumX, sumX, sumX_add k (fun j hj => h j (by omega)), h k (by omega)]; omega
theorem prod10 {x y : Int} (hx : 0 ≤ x ∧ x ≤ 10) (hy : -4 ≤ y ∧ y ≤ 4) : -40 ≤ x * y ∧ x * y ≤ 40 := by
  have : x = 0 ∨ x = 1 ∨ x = 2 ∨ x = 3 ∨ x = 4 ∨ x = 5 ∨ x = 6 ∨ x = 7 ∨ x = 8 ∨ x = 9 ∨ x = 10 := by omega
  rcases this with rfl | rfl | rfl | rfl | rfl | rfl | rfl | rfl | rfl | rfl | rfl <;> omega
theorem mul_at {xs ws : List Int} {j : Nat} (h : j < xs.length) (hx : 0 ≤ nth xs j ∧ nth xs j ≤ 10) (hy : -4 ≤ nth ws j ∧ nth ws j ≤ 4) : nth (zipF mulW xs ws xs.length) j = nth xs j * nth ws j := by
  rw [zipF_at h, mulW]
  have := prod10 hx hy
  unfold wrap64; omega
theorem weigh_X {xs ws : List Int} (hl : xs.length ≤ 8) (hx : ∀ j, j < xs.length → 0 ≤ nth xs j ∧ nth xs j ≤ 10) (hy : ∀ j, j < xs.length → -4 ≤ nth ws j ∧ nth ws j ≤ 4) :
    weighS xs ws = sumX (zipF mulW xs ws xs.length) xs.length ∧ -8000 ≤ weighS xs ws ∧ weighS xs ws ≤ 8000 := by
  have := sumTo_X (xs := zipF mulW xs ws xs.length) xs.length (by omega) fun j hj => by rw [mul_at hj (hx j hj) (hy j hj)]; have := prod10 (hx j hj) (hy j hj); omega
  have e : weighS xs ws = sumTo (zipF mulW xs ws xs.length) xs.length := by rw [weighS, sumS, zipF_len]
  rw [e]; exact ⟨this.1, by omega, by omega⟩
section
variable {a b : List Int} (h : TwoSmall a b)
include h
theorem TwoSmall.weigh {ws : List Int} (hw : ws.length = a.length) (hb : ∀ j, j < a.length → -4 ≤ nth ws j ∧ nth ws j ≤ 4) :
    weighBagS a ws = (weighS a ws, 0) ∧ weighBagS b ws = (weighS b ws, 0) ∧ weighBagS (plusS a b 1) ws = (weighS (plusS a b 1) ws, 0) ∧ weighS a ws + weighS b ws = weighS (plusS a b 1) ws ∧ -8000 ≤ weighS a ws ∧ weighS a ws ≤ 8000 ∧ -8000 ≤ weighS b ws ∧ weighS b ws ≤ 8000 := by
  have hll := h.len
  have hlo := h.lo
  have hhi := h.hi
  have hr : allB (fun n => inRg n (-1000) 1000) ws = true := allB_true fun j hj => by have := hb j (by omega); simp [inRg]; omega
  have ba : ∀ j, j < a.length → 0 ≤ nth a j ∧ nth a j ≤ 10 := fun j hj => by have := h.bda j hj; omega
  have bb : ∀ j, j < b.length → 0 ≤ nth b j ∧ nth b j ≤ 10 := fun j hj => by have := h.bdb j hj; omega
  have bs : ∀ j, j < (plusS a b 1).length → 0 ≤ nth (plusS a b 1) j ∧ nth (plusS a b 1) j ≤ 10 := fun j hj => by
    rw [plusS_len] at hj
    rw [h.sumAt hj]; have := h.bda j hj; have := h.bdb j (by omega); omega
  have sl := plusS_len a b 1
  have w1 := weigh_X hhi ba hb
  have w2 := weigh_X (xs := b) (by omega) bb fun j hj => hb j (by omega)
  have w3 := weigh_X (xs := plusS a b 1) (by omega) bs fun j hj => hb j (by omega)
  refine ⟨?_, ?_, ?_, ?_, w1.2.1, w1.2.2, w2.2.1, w2.2.2⟩
  · rw [weighBagS, if_pos h.bagA, if_pos ⟨hw, hr⟩]
  · rw [weighBagS, if_pos h.bagB, if_pos ⟨by omega, hr⟩]
  · rw [weighBagS, if_pos h.bagS, if_pos ⟨by omega, hr⟩]
  · rw [w1.1, w2.1, w3.1]
    have e := sumX_add (xs := zipF mulW a ws a.length) (ys := zipF mulW b ws b.length) (zs := zipF mulW (plusS a b 1) ws (plusS a b 1).length) a.length fun j hj => by
      rw [mul_at hj (ba j hj) (hb j hj), mul_at (by omega) (bb j (by omega)) (hb j hj), mul_at (by omega) (bs j (by omega)) (hb j hj), h.sumAt hj, Int.add_mul]
    rw [sl, ← hll]
    rw [sl, ← hll] at e
    exact e.symm
theorem TwoSmall.size : bagSizeS (plusS a b 1) = (sumS (plusS a b 1), 0) ∧ sumS (plusS a b 1) = sumS a + sumS b ∧ 0 ≤ sumS a ∧ sumS a ≤ 8000 ∧ 0 ≤ sumS b ∧ sumS b ≤ 8000 := by
  have hll := h.len
  have hlo := h.lo
  have hhi := h.hi
  have sl := plusS_len a b 1
  have s1 := sumTo_X (xs := a) a.length (by omega) fun j hj => by have := h.bda j hj; omega
  have s2 := sumTo_X (xs := b) b.length (by omega) fun j hj => by have := h.bdb j hj; omega
  have s3 := sumTo_X (xs := plusS a b 1) (plusS a b 1).length (by omega) fun j hj => by rw [h.sumAt (by omega)]; have := h.bda j (by omega); have := h.bdb j (by omega); omega
  have e := sumX_add (xs := a) (ys := b) (zs := plusS a b 1) a.length fun j hj => h.sumAt hj
  have pos : ∀ (xs : List Int) k, (∀ j, j < k → 0 ≤ nth xs j) → 0 ≤ sumX xs k := by
    intro xs k
    induction k with
    | zero => intro _; exact Int.le_refl _
    | succ k ih => intro hh; have := ih fun j hj => hh j (by omega); have := hh k (by omega); rw [sumX]; omega
  have p1 := pos a a.length fun j hj => (h.bda j hj).1
  have p2 := pos b b.length fun j hj => (h.bdb j hj).1
  refine ⟨by rw [bagSizeS, if_pos h.bagS], ?_, ?_, ?_, ?_, ?_⟩
  · rw [sumS, sumS, sumS, s1.1, s2.1, s3.1, sl, ← hll]; exact e
  · rw [sumS, s1.1]; exact p1
  · rw [sumS, s1.1]; omega
  · rw [sumS, s2.1]; exact p2
  · rw [sumS, s2.1]; omega
end
theorem tmsTo_le {xs ys : List Int} : ∀ k, ∀ j, j < k → 0 < nth xs j → timesTo xs ys k ≤ nth ys j / nth xs j
  | 0, j, hj, _ => absurd hj (by omega)
  | k + 1, j, hj, h0 => by
    by_cases e : j = k
    · subst e
      rw [timesTo, if_pos h0]; unfold minI; split <;> omega
    · have := tmsTo_le (xs := xs) (ys := ys) k j (by omega) h0
      rw [timesTo]
      split
      · unfold minI; split <;> omega
      · exact this
theorem tmsTo_some {xs ys : List Int} : ∀ k, timesTo xs ys k = 1000 ∨ ∃ j, j < k ∧ 0 < nth xs j ∧ timesTo xs ys k = nth ys j / nth xs j
  | 0 => .inl rfl
  | k + 1 => by
    rw [timesTo]
    split
    · rename_i h
      unfold minI
      split
      · rcases tmsTo_some (xs := xs) (ys := ys) k with e | ⟨j, h1, h2, h3⟩
        · exact .inl e
        · exact .inr ⟨j, by omega, h2, h3⟩
      · exact .inr ⟨k, by omega, h, rfl⟩
    · rcases tmsTo_some (xs := xs) (ys := ys) k with e | ⟨j, h1, h2, h3⟩
      · exact .inl e
      · exact .inr ⟨j, by omega, h2, h3⟩
theorem TwoSmall.times {a b : List Int} (h : TwoSmall a b) (hs : ¬ sumS b = 0) :
    ∃ n : Int, 0 ≤ n ∧ n ≤ 6 ∧ timesInS b a = (n, 0) ∧ scaleS b n = (plusS (List.replicate b.length 0) b n, 0) ∧ (plusS (List.replicate b.length 0) b n).length = b.length ∧ isWithinS (plusS (List.replicate b.length 0) b n) a = (true, 0) ∧
      addS (plusS (List.replicate b.length 0) b n) b = (plusS (plusS (List.replicate b.length 0) b n) b 1, 0) ∧ isWithinS (plusS (plusS (List.replicate b.length 0) b n) b 1) a = (false, 0) := by
  have hll := h.len
  have hlo := h.lo
  have hhi := h.hi
  have hsome : someTo b b.length = true := by
    have := someTo_sum h.bagB
    rw [show (sumS b == 0) = false from by simpa using hs] at this
    cases hq : someTo b b.length
    · rw [hq] at this; cases this
    · rfl
  obtain ⟨i, hi, hbi⟩ : ∃ i, i < b.length ∧ 0 < nth b i := by
    rw [someTo, List.any_eq_true] at hsome
    obtain ⟨i, h1, h2⟩ := hsome
    exact ⟨i, by simpa using h1, by simpa using h2⟩
  have hle := tmsTo_le (xs := b) (ys := a) b.length
  have hnn : 0 ≤ timesS b a := (timesTo_bd (xs := b) (ys := a) (fun j hj => by have := h.bda j (by omega); omega) b.length (Nat.le_refl _)).1
  have hn6 : timesS b a ≤ 6 := by
    have h1 := hle i hi hbi
    have h2 := h.bda i (by omega)
    have h3 := Int.ediv_le_self (nth b i) h2.1
    have : timesS b a ≤ nth a i / nth b i := h1
    omega
  obtain ⟨n, hn⟩ : ∃ n, n = timesS b a := ⟨_, rfl⟩
  rw [← hn] at hnn hn6
  have rl : (List.replicate b.length (0 : Int)).length = b.length := List.length_replicate
  have r0 : ∀ j, j < b.length → nth (List.replicate b.length (0 : Int)) j = 0 := fun j hj => by simp [nth, hj]
  have pb : ∀ j, j < b.length → 0 ≤ n * nth b j ∧ n * nth b j ≤ 24 := fun j hj => by
    have := h.bdb j hj
    have hn : n = 0 ∨ n = 1 ∨ n = 2 ∨ n = 3 ∨ n = 4 ∨ n = 5 ∨ n = 6 := by omega
    rcases hn with rfl | rfl | rfl | rfl | rfl | rfl | rfl <;> omega
  have s1 : ∀ j, j < b.length → nth (plusS (List.replicate b.length 0) b n) j = n * nth b j := fun j hj => by
    have := h.bdb j hj; have := pb j hj
    rw [plus_at (by omega) (by omega) (by rw [r0 j hj]; omega) (by omega) (by omega), r0 j hj]; omega
  have l1 : (plusS (List.replicate b.length 0) b n).length = b.length := by rw [plusS_len, rl]
  have s2 : ∀ j, j < b.length → nth (plusS (plusS (List.replicate b.length 0) b n) b 1) j = n * nth b j + nth b j := fun j hj => by
    have := h.bdb j hj; have := pb j hj
    rw [plus_one (by omega) (by rw [s1 j hj]; omega) (by omega), s1 j hj]
  have l2 : (plusS (plusS (List.replicate b.length 0) b n) b 1).length = b.length := by rw [plusS_len, l1]
  have g1 : isBagS (plusS (List.replicate b.length 0) b n) = true := bag_of (by omega) (by omega) fun j hj => by rw [s1 j (by omega)]; have := pb j (by omega); omega
  have g2 : isBagS (plusS (plusS (List.replicate b.length 0) b n) b 1) = true := bag_of (by omega) (by omega) fun j hj => by rw [s2 j (by omega)]; have := pb j (by omega); have := h.bdb j (by omega); omega
  refine ⟨n, hnn, hn6, ?_, ?_, l1, ?_, ?_, ?_⟩
  · rw [timesInS, if_pos (two_zero h.bagB h.bagA hll.symm), if_neg (by simpa using hs), hn]
  · rw [scaleS, if_pos h.bagB, if_pos (by simp [inRg]; omega), toldS, if_pos g1]
  · have hw : withinS (plusS (List.replicate b.length 0) b n) a = true := withinS_true fun j hj => by
      rw [l1] at hj
      rw [s1 j hj]
      by_cases h0 : 0 < nth b j
      · have h1 := hle j hj h0
        have h2 : n ≤ nth a j / nth b j := by rw [hn]; exact h1
        exact Int.le_trans (Int.mul_le_mul_of_nonneg_right h2 (by omega)) (Int.ediv_mul_le _ (by omega))
      · have e : nth b j = 0 := by have := h.bdb j hj; omega
        rw [e, Int.mul_zero]; exact (h.bda j (by omega)).1
    rw [isWithinS, if_pos (two_zero g1 h.bagA (by omega)), hw]
  · rw [addS, if_pos (two_zero g1 h.bagB l1), toldS, if_pos g2]
  · rcases tmsTo_some (xs := b) (ys := a) b.length with e | ⟨j, h1, h2, h3⟩
    · have : n = 1000 := by rw [hn]; exact e
      omega
    · have hw : withinS (plusS (plusS (List.replicate b.length 0) b n) b 1) a = false := withinS_false (k := j) (by omega) (by
        rw [s2 j h1]
        have e : n = nth a j / nth b j := by rw [hn]; exact h3
        have := Int.lt_ediv_add_one_mul_self (nth a j) h2
        rw [← e, Int.add_mul, Int.one_mul] at this
        exact this)
      rw [isWithinS, if_pos (two_zero g2 h.bagA (by omega)), hw]
end Go.Proofs.Ythlbogmnnenkoaa
