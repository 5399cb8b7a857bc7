/- Weights of places: plain sums. No program is in sight. -/
import Derived.Test.YtkbhdpkheincoaaDoorQA
namespace Go.Proofs.YtkbhdpkheincoaaDoor
open Go.RowKit

def sumN (f : Nat → Int) : Nat → Int
  | 0 => 0
  | n + 1 => sumN f n + f n
theorem sumN_congr {f g : Nat → Int} : ∀ n, (∀ i, i < n → f i = g i) → sumN f n = sumN g n
  | 0, _ => rfl
  | n + 1, h => by rw [sumN, sumN, sumN_congr n (fun i hi => h i (by omega)), h n (by omega)]
theorem sumN_add (f g : Nat → Int) : ∀ n, sumN (fun i => f i + g i) n = sumN f n + sumN g n
  | 0 => rfl
  | n + 1 => by simp only [sumN, sumN_add f g n]; omega
theorem sumN_neg (f : Nat → Int) : ∀ n, sumN (fun i => - f i) n = - sumN f n
  | 0 => rfl
  | n + 1 => by simp only [sumN, sumN_neg f n]; omega
theorem sumN_zero {f : Nat → Int} : ∀ n, (∀ i, i < n → f i = 0) → sumN f n = 0
  | 0, _ => rfl
  | n + 1, h => by rw [sumN, sumN_zero n (fun i hi => h i (by omega)), h n (by omega)]; rfl
theorem sumN_split (f : Nat → Int) (m : Nat) : ∀ n, sumN f (m + n) = sumN f m + sumN (fun i => f (m + i)) n
  | 0 => by simp [sumN]
  | n + 1 => by rw [← Nat.add_assoc, sumN, sumN_split f m n, sumN]; omega
theorem sumN_block (f : Nat → Int) (K : Nat) : ∀ n, sumN f (n * K) = sumN (fun pl => sumN (fun k => f (pl * K + k)) K) n
  | 0 => by simp [sumN]
  | n + 1 => by rw [Nat.add_mul, Nat.one_mul, sumN_split, sumN_block f K n, sumN]
theorem sumN_one {f : Nat → Int} {a : Nat} : ∀ n, a < n → (∀ i, i < n → i ≠ a → f i = 0) → sumN f n = f a
  | 0, h, _ => absurd h (by omega)
  | n + 1, h, hz => by
    rw [sumN]
    by_cases e : a = n
    · subst e
      rw [sumN_zero a (fun i hi => hz i (by omega) (by omega))]; omega
    · rw [sumN_one n (by omega) (fun i hi h => hz i (by omega) h), hz n (by omega) (Ne.symm e)]; omega
theorem sumN_two {f : Nat → Int} {a b : Nat} {n : Nat} (ha : a < n) (hb : b < n) (hab : a ≠ b) (hz : ∀ i, i < n → i ≠ a → i ≠ b → f i = 0) : sumN f n = f a + f b := by
  have h1 : sumN f n = sumN (fun i => (if i = a then f a else 0) + (if i = b then f b else 0)) n := sumN_congr n fun i hi => by
    by_cases e1 : i = a
    · subst e1; rw [if_pos rfl, if_neg hab]; omega
    · by_cases e2 : i = b
      · subst e2; rw [if_neg e1, if_pos rfl]; omega
      · rw [if_neg e1, if_neg e2, hz i hi e1 e2]; rfl
  rw [h1, sumN_add, sumN_one n ha (fun i _ h => if_neg h), sumN_one n hb (fun i _ h => if_neg h), if_pos rfl, if_pos rfl]
theorem sumN_bd {f : Nat → Int} {B : Int} : ∀ n, (∀ i, i < n → -B ≤ f i ∧ f i ≤ B) → -(B * n) ≤ sumN f n ∧ sumN f n ≤ B * n
  | 0, _ => by simp [sumN]
  | n + 1, h => by
    have ih := sumN_bd n (fun i hi => h i (by omega))
    have h1 := h n (by omega)
    rw [sumN]
    have e : B * ((n + 1 : Nat) : Int) = B * n + B := by rw [show ((n + 1 : Nat) : Int) = (n : Int) + 1 by omega, Int.mul_add]; omega
    rw [e]; omega
/-- A sum of products. -/
def dotN (xs ys : List Int) (n : Nat) : Int := sumN (fun k => nth xs k * nth ys k) n
/-- As the machine reckons it. -/
def dotTo (xs ys : List Int) : Nat → Int
  | 0 => 0
  | k + 1 => wrap64 (dotTo xs ys k + wrap64 (nth xs k * nth ys k))
theorem prod_bd {a b A : Int} (h1 : -A ≤ a ∧ a ≤ A) (h2 : -1000 ≤ b ∧ b ≤ 1000) : -(A * 1000) ≤ a * b ∧ a * b ≤ A * 1000 := by
  have hA : 0 ≤ A := by omega
  rcases Int.le_total 0 a with ha | ha <;> rcases Int.le_total 0 b with hb | hb
  · have := Int.mul_le_mul h1.2 h2.2 hb hA
    have := Int.mul_nonneg ha hb
    omega
  · have := Int.mul_le_mul h1.2 (show -b ≤ 1000 by omega) (by omega) hA
    have := Int.mul_nonneg ha (show 0 ≤ -b by omega)
    rw [Int.mul_neg] at *
    omega
  · have := Int.mul_le_mul (show -a ≤ A by omega) h2.2 hb hA
    have := Int.mul_nonneg (show 0 ≤ -a by omega) hb
    rw [Int.neg_mul] at *
    omega
  · have := Int.mul_le_mul (show -a ≤ A by omega) (show -b ≤ 1000 by omega) (by omega) hA
    have := Int.mul_nonneg (show 0 ≤ -a by omega) (show 0 ≤ -b by omega)
    rw [Int.neg_mul_neg] at *
    omega
theorem dotTo_eq {xs ys : List Int} {n : Nat} (hn : n ≤ 100) (hx : ∀ k, k < n → -5000 ≤ nth xs k ∧ nth xs k ≤ 5000) (hy : ∀ k, k < n → -1000 ≤ nth ys k ∧ nth ys k ≤ 1000) : ∀ k, k ≤ n → dotTo xs ys k = dotN xs ys k
  | 0, _ => rfl
  | k + 1, hk => by
    have ih := dotTo_eq hn hx hy k (by omega)
    have hb := sumN_bd (f := fun k => nth xs k * nth ys k) (B := 5000000) k (fun i hi => by have := prod_bd (hx i (by omega)) (hy i (by omega)); omega)
    have h1 := prod_bd (hx k (by omega)) (hy k (by omega))
    rw [dotTo, ih, dotN, dotN, sumN]
    have hk2 : (k : Int) ≤ 100 := by omega
    unfold wrap64
    generalize sumN (fun k => nth xs k * nth ys k) k = A at *
    generalize nth xs k * nth ys k = B at *
    omega
theorem weigh_eq {xs ws : List Int} (hn : xs.length ≤ 100) (hx : ∀ k, k < xs.length → -5000 ≤ nth xs k ∧ nth xs k ≤ 5000) (hy : ∀ k, k < xs.length → -1000 ≤ nth ws k ∧ nth ws k ≤ 1000) : weighS xs ws = dotN xs ws xs.length := by
  have key : ∀ k, k ≤ xs.length → sumTo (zipF mulW xs ws xs.length) k = dotTo xs ws k := by
    intro k
    induction k with
    | zero => intro _; rfl
    | succ k ih => intro hk; rw [sumTo, ih (by omega), zipF_at (by omega), dotTo, mulW]
  unfold weighS sumS
  rw [zipF_len, key _ (Nat.le_refl _), dotTo_eq hn hx hy _ (Nat.le_refl _)]
/-- The lists are weights. -/
def wOk (x0 : Int) (l : List Int) : Bool := ((l.length : Int) == x0) && allB (fun w => inRg w (-1000) 1000) l
def areW (x0 : Int) (n : Nat) (ws : List (List Int)) : Bool := decide (ws.length = n + 1) && allII (wOk x0) ws
theorem areW_ok {K : Nat} {n : Nat} {ws : List (List Int)} (h : areW K n ws = true) : ws.length = n + 1 ∧ ∀ pl, pl ≤ n → (nthR ws pl).length = K ∧ ∀ k, k < K → -1000 ≤ nth (nthR ws pl) k ∧ nth (nthR ws pl) k ≤ 1000 := by
  simp only [areW, Bool.and_eq_true, decide_eq_true_eq] at h
  refine ⟨h.1, fun pl hp => ?_⟩
  have h2 := allII_at h.2 (k := pl) (by omega)
  simp only [wOk, Bool.and_eq_true, beq_iff_eq] at h2
  refine ⟨by omega, fun k hk => ?_⟩
  have := allB_at h2.2 (k := k) (by omega)
  simpa [inRg] using this
/-- The weight of all places. -/
def invS (K n : Nat) (ws : List (List Int)) (y0 : List (List Int)) (y1 : List Int) : Int := dotN y1 (nthR ws n) K + sumN (fun c => dotN (nthR y0 c) (nthR ws c) K) n
/-- The program's sum. -/
def invTo (ws : List (List Int)) (y0 : List (List Int)) (y1 : List Int) (n : Nat) : Nat → Int
  | 0 => weighS y1 (nthR ws n)
  | c + 1 => wrap64 (invTo ws y0 y1 n c + weighS (nthR y0 c) (nthR ws c))
theorem bag_bd {b : List Int} {K : Nat} (h : isBagS b = true ∧ b.length = K) : ∀ k, k < b.length → -5000 ≤ nth b k ∧ nth b k ≤ 5000 := fun k hk => by
  have := isBagS_at h.1 hk; omega
theorem invTo_eq {K : Nat} {n : Nat} {ws y0 : List (List Int)} {y1 : List Int} (hK : K ≤ 8) (hn : n ≤ 4) (hs : StOk K n y0 y1) (hw : areW K n ws = true) : ∀ c, c ≤ n → invTo ws y0 y1 n c = dotN y1 (nthR ws n) K + sumN (fun c => dotN (nthR y0 c) (nthR ws c) K) c
  | 0, _ => by
    have w := (areW_ok hw).2 n (Nat.le_refl _)
    have ha := hs.around
    rw [invTo, weigh_eq (by omega) (bag_bd ha) (fun k hk => w.2 k (by omega)), ha.2, sumN]; omega
  | c + 1, hc => by
    have ih := invTo_eq hK hn hs hw c (by omega)
    have w := (areW_ok hw).2 c (by omega)
    have hb := hs.bag c (by omega)
    have bd : ∀ (x y : List Int), (∀ k, k < K → -5000 ≤ nth x k ∧ nth x k ≤ 5000) → (∀ k, k < K → -1000 ≤ nth y k ∧ nth y k ≤ 1000) → -40000000 ≤ dotN x y K ∧ dotN x y K ≤ 40000000 := fun x y hx hy => by
      have := sumN_bd (f := fun k => nth x k * nth y k) (B := 5000000) K (fun i hi => by have := prod_bd (hx i hi) (hy i hi); omega)
      have : (K : Int) ≤ 8 := by omega
      unfold dotN; omega
    have b1 := bd y1 (nthR ws n) (fun k hk => bag_bd hs.around k (by rw [hs.around.2]; exact hk)) ((areW_ok hw).2 n (Nat.le_refl _)).2
    have b2 := sumN_bd (f := fun c => dotN (nthR y0 c) (nthR ws c) K) (B := 40000000) c (fun i hi => bd _ _ (fun k hk => bag_bd (hs.bag i (by omega)) k (by rw [(hs.bag i (by omega)).2]; exact hk)) ((areW_ok hw).2 i (by omega)).2)
    have b3 := bd (nthR y0 c) (nthR ws c) (fun k hk => bag_bd hb k (by rw [hb.2]; exact hk)) w.2
    have : (c : Int) ≤ 4 := by omega
    rw [invTo, ih, weigh_eq (by omega) (bag_bd hb) (fun k hk => w.2 k (by omega)), hb.2, sumN]
    unfold wrap64; omega
theorem flat_sum {K n : Nat} {xs ys : List Int} {f g : Nat → Nat → Int} (hx : Flat K n xs f) (hy : Flat K n ys g) : dotN xs ys ((n + 1) * K) = sumN (fun pl => sumN (fun k => f pl k * g pl k) K) (n + 1) := by
  unfold dotN
  rw [sumN_block]
  exact sumN_congr _ fun pl hp => sumN_congr _ fun k hk => by rw [hx.2 pl k (by omega) hk, hy.2 pl k (by omega) hk]
theorem flat_weights {K n : Nat} {ws : List (List Int)} (h : areW K n ws = true) : Flat K n ws.flatten (fun pl k => nth (nthR ws pl) k) := by
  obtain ⟨hl, hw⟩ := areW_ok h
  obtain ⟨h1, h2⟩ := flatten_nth (K := K) ws (fun pl hp => (hw pl (by omega)).1)
  exact ⟨by rw [h1, hl], fun pl k hp hk => h2 pl k (by omega) hk⟩
theorem dot_inv {K n : Nat} {ws y0 : List (List Int)} {y1 : List Int} (hK : K ≤ 8) (hn : n ≤ 4) (hs : StOk K n y0 y1) (hw : areW K n ws = true) : dotTo (bagsS y0 y1).flatten ws.flatten (bagsS y0 y1).flatten.length = invTo ws y0 y1 n n := by
  have hx := flat_start hs
  have hy := flat_weights hw
  have hl := hs.len
  have hlen : (n + 1) * K ≤ 40 := by have := Nat.mul_le_mul (show n + 1 ≤ 5 by omega) hK; omega
  have hat : ∀ q, q < (n + 1) * K → ∃ pl k, pl ≤ n ∧ k < K ∧ q = pl * K + k := fun q hq => by
    have hK0 : 0 < K := by rcases Nat.eq_zero_or_pos K with e | e; (subst e; simp at hq); exact e
    have hqd : q / K < n + 1 := by rw [Nat.div_lt_iff_lt_mul hK0]; exact hq
    exact ⟨q / K, q % K, by omega, Nat.mod_lt _ hK0, by have := Nat.div_add_mod q K; rw [Nat.mul_comm K] at this; omega⟩
  rw [hx.1, dotTo_eq (n := (n + 1) * K) (by omega) (fun q hq => ?_) (fun q hq => ?_) _ (Nat.le_refl _), flat_sum hx hy, invTo_eq hK hn hs hw n (Nat.le_refl _), sumN]
  · rw [Int.add_comm]
    have e1 : nthR (bagsS y0 y1) n = y1 := by
      rw [nthR_lt (by rw [bagsS_len]; omega)]
      simp [bagsS, hl]
    congr 1
    · show dotN (nthR (bagsS y0 y1) n) _ K = _
      rw [e1]
    · refine sumN_congr _ fun c hc => ?_
      have e2 : nthR (bagsS y0 y1) c = nthR y0 c := by
        rw [nthR_lt (by rw [bagsS_len]; omega), nthR_lt (by omega)]
        simp only [bagsS]
        rw [List.getElem_append_left (by omega)]
      show dotN (nthR (bagsS y0 y1) c) _ K = _
      rw [e2]
  · obtain ⟨pl, k, hp, hk, rfl⟩ := hat q hq
    rw [hx.2 pl k hp hk]
    have := bagsS_at hs hp hk
    dsimp only
    omega
  · obtain ⟨pl, k, hp, hk, rfl⟩ := hat q hq
    rw [hy.2 pl k hp hk]
    exact ((areW_ok hw).2 pl hp).2 k hk
end Go.Proofs.YtkbhdpkheincoaaDoor
