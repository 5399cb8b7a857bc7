/- Invariants of a passing system: plain sums. No program is in sight. -/
import Derived.Test.YtkbhdpkheincoaaDoorQB
namespace Go.Proofs.YtkbhdpkheincoaaDoor
open Go.RowKit

def giveK (own up : Nat) (r : PR) (n : Int) (ins : Bool) (k : Nat) (xs : List Int) : List Int :=
  let xs1 := xs.set (own + k) (wrap64 (nth xs (own + k) + wrap64 (nth r.inn k * n)))
  if ins = true then xs1.set (up + k) (wrap64 (nth xs1 (up + k) + wrap64 (nth r.out k * n))) else xs1
def giveF (own up : Nat) (x2 : List Bool) (r : PR) (n : Int) (xs : List Int) : Nat → List Int
  | 0 => xs
  | k + 1 => giveK own up r n (insK x2 r k) k (giveF own up x2 r n xs k)
theorem giveK_len (own up : Nat) (r : PR) (n : Int) (ins : Bool) (k : Nat) (s : List Int) : (giveK own up r n ins k s).length = s.length := by
  unfold giveK; dsimp only; split <;> simp
theorem giveF_len (own up : Nat) (x2 : List Bool) (r : PR) (n : Int) (xs : List Int) : ∀ k, (giveF own up x2 r n xs k).length = xs.length
  | 0 => rfl
  | k + 1 => by rw [giveF, giveK_len, giveF_len]
/-- What a rule gives of kind k to a place. -/
def gives (x1 : List Int) (x2 : List Bool) (r : PR) (pl k : Nat) : Int := (if pl = cellN r then nth r.inn k else 0) + (if pl = upN x1 r ∧ insK x2 r k = true then nth r.out k else 0)
theorem wrap_add {x y : Int} (hy : 0 ≤ y ∧ y ≤ 1000) (hx : -100000000 ≤ x ∧ x ≤ 100000000) : wrap64 (x + wrap64 (y * 1)) = x + y := by
  rw [Int.mul_one]; unfold wrap64; omega
theorem giveF_at {K : Nat} {x1 : List Int} {x2 : List Bool} {x3 : List PR} (h : PsOk K x1 x2 x3) {i : Nat} (hi : i < x3.length) {f : Nat → Nat → Int} (hf : ∀ pl k, pl ≤ x1.length → k < K → -100000000 ≤ f pl k ∧ f pl k ≤ 1000) {xs : List Int} (hx : Flat K x1.length xs f) :
    ∀ j, j ≤ K → ∀ pl k, pl ≤ x1.length → k < K → nth (giveF (cellN (nthPR x3 i) * K) (upN x1 (nthPR x3 i) * K) x2 (nthPR x3 i) 1 xs j) (pl * K + k) = if k < j then f pl k + gives x1 x2 (nthPR x3 i) pl k else f pl k
  | 0, _, pl, k, hp, hk => by rw [giveF, if_neg (by omega)]; exact hx.2 pl k hp hk
  | j + 1, hj, pl, k, hp, hk => by
    have ih1 := giveF_at h hi hf hx j (by omega)
    obtain ⟨u1, u2, u3, _⟩ := h.upN hi
    have hlen := giveF_len (cellN (nthPR x3 i) * K) (upN x1 (nthPR x3 i) * K) x2 (nthPR x3 i) 1 xs j
    rw [hx.1] at hlen
    have ha := idx_lt (K := K) (k := j) (show cellN (nthPR x3 i) ≤ x1.length by omega) (by omega)
    have hb := idx_lt (K := K) (k := j) u2 (by omega)
    have hab : cellN (nthPR x3 i) * K + j ≠ upN x1 (nthPR x3 i) * K + j := fun e => u3 (idx_inj (by omega) (by omega) e).1.symm
    have va := ih1 (cellN (nthPR x3 i)) j (by omega) (by omega)
    have vb := ih1 (upN x1 (nthPR x3 i)) j u2 (by omega)
    rw [if_neg (by omega)] at va vb
    have wa : wrap64 (f (cellN (nthPR x3 i)) j + wrap64 (nth (nthPR x3 i).inn j * 1)) = f (cellN (nthPR x3 i)) j + gives x1 x2 (nthPR x3 i) (cellN (nthPR x3 i)) j := by
      rw [wrap_add (inn_bd h hi (by omega)) (by have := hf (cellN (nthPR x3 i)) j (by omega) (by omega); omega), gives, if_pos rfl, if_neg (fun e => u3 e.1.symm)]; omega
    have wb : insK x2 (nthPR x3 i) j = true → wrap64 (f (upN x1 (nthPR x3 i)) j + wrap64 (nth (nthPR x3 i).out j * 1)) = f (upN x1 (nthPR x3 i)) j + gives x1 x2 (nthPR x3 i) (upN x1 (nthPR x3 i)) j := fun hin => by
      rw [wrap_add (out_bd h hi (by omega)) (by have := hf (upN x1 (nthPR x3 i)) j u2 (by omega); omega), gives, if_neg u3, if_pos ⟨rfl, hin⟩]; omega
    have wc : ¬ insK x2 (nthPR x3 i) j = true → gives x1 x2 (nthPR x3 i) (upN x1 (nthPR x3 i)) j = 0 := fun hin => by
      rw [gives, if_neg u3, if_neg (fun e => hin e.2)]; rfl
    have wd : ∀ pl, pl ≠ cellN (nthPR x3 i) → pl ≠ upN x1 (nthPR x3 i) → gives x1 x2 (nthPR x3 i) pl j = 0 := fun pl e1 e2 => by
      rw [gives, if_neg e1, if_neg (fun e => e2 e.1)]; rfl
    rw [giveF]
    generalize giveF (cellN (nthPR x3 i) * K) (upN x1 (nthPR x3 i) * K) x2 (nthPR x3 i) 1 xs j = S at *
    have hx1 : ∀ q, nth (S.set (cellN (nthPR x3 i) * K + j) (wrap64 (nth S (cellN (nthPR x3 i) * K + j) + wrap64 (nth (nthPR x3 i).inn j * 1)))) q = if q = cellN (nthPR x3 i) * K + j then f (cellN (nthPR x3 i)) j + gives x1 x2 (nthPR x3 i) (cellN (nthPR x3 i)) j else nth S q := fun q => by
      rw [nth_set (by omega), va, wa]
    by_cases hin : insK x2 (nthPR x3 i) j = true
    · simp only [giveK, hin, if_true]
      rw [nth_set (by simp; omega), hx1 (upN x1 (nthPR x3 i) * K + j), if_neg (Ne.symm hab), vb, wb hin]
      by_cases e1 : pl * K + k = upN x1 (nthPR x3 i) * K + j
      · obtain ⟨rfl, rfl⟩ := idx_inj hk (by omega) e1
        rw [if_pos rfl, if_pos (by omega)]
      · rw [if_neg e1, hx1]
        by_cases e2 : pl * K + k = cellN (nthPR x3 i) * K + j
        · obtain ⟨rfl, rfl⟩ := idx_inj hk (by omega) e2
          rw [if_pos rfl, if_pos (by omega)]
        · rw [if_neg e2, ih1 pl k hp hk]
          by_cases e3 : k < j
          · rw [if_pos e3, if_pos (by omega)]
          · rw [if_neg e3]
            by_cases e4 : k = j
            · subst e4
              rw [if_pos (by omega), wd pl (fun e => e2 (by rw [e])) (fun e => e1 (by rw [e]))]; simp
            · rw [if_neg (by omega)]
    · simp only [giveK, hin, Bool.false_eq_true, if_false]
      rw [hx1]
      by_cases e2 : pl * K + k = cellN (nthPR x3 i) * K + j
      · obtain ⟨rfl, rfl⟩ := idx_inj hk (by omega) e2
        rw [if_pos rfl, if_pos (by omega)]
      · rw [if_neg e2, ih1 pl k hp hk]
        by_cases e3 : k < j
        · rw [if_pos e3, if_pos (by omega)]
        · rw [if_neg e3]
          by_cases e4 : k = j
          · subst e4
            rw [if_pos (by omega)]
            by_cases e5 : pl = upN x1 (nthPR x3 i)
            · subst e5; rw [wc hin]; simp
            · rw [wd pl (fun e => e2 (by rw [e])) e5]; simp
          · rw [if_neg (by omega)]
/-- What a rule changes in all, as the reference reckons. -/
def changeF (K : Nat) (x1 : List Int) (x2 : List Bool) (r : PR) : List Int :=
  giveF (cellN r * K) (upN x1 r * K) x2 r 1 (takeF (cellN r * K) (upN x1 r * K) x2 r 1 (List.replicate ((x1.length + 1) * K) 0) K).1 K
theorem flat_zero (K n : Nat) : Flat K n (List.replicate ((n + 1) * K) 0) (fun _ _ => 0) := by
  refine ⟨by simp, fun pl k hp hk => ?_⟩
  have := idx_lt hp hk
  simp [nth, this]
theorem changeF_flat {K : Nat} {x1 : List Int} {x2 : List Bool} {x3 : List PR} (h : PsOk K x1 x2 x3) {i : Nat} (hi : i < x3.length) :
    Flat K x1.length (changeF K x1 x2 (nthPR x3 i)) (fun pl k => gives x1 x2 (nthPR x3 i) pl k - needs x1 x2 (nthPR x3 i) pl k) := by
  have t1 := (takeF_all h hi (n := 1) (by omega) (f := fun _ _ => 0) (fun _ _ _ _ => by omega) (flat_zero K x1.length)).1
  have e : ∀ pl k, less x1 x2 (nthPR x3 i) 1 (fun _ _ => 0) pl k = - needs x1 x2 (nthPR x3 i) pl k := fun pl k => by rw [less]; omega
  refine ⟨by unfold changeF; rw [giveF_len, t1.1], fun pl k hp hk => ?_⟩
  unfold changeF
  rw [giveF_at h hi (f := less x1 x2 (nthPR x3 i) 1 (fun _ _ => 0)) (fun pl k hp hk => by rw [e]; have := needs_bd h hi pl hk; omega) t1 K (Nat.le_refl _) pl k hp hk, if_pos hk, e]
  dsimp only
  omega
def goesS (r : PR) : List Int := plusS r.out r.inn (-1)
def invRule (x1 : List Int) (ws : List (List Int)) (r : PR) : Bool := weighS (goesS r) (nthR ws (cellN r)) == weighS (goesS r) (nthR ws (upN x1 r))
/-- The weights of free objects in the surroundings are none. -/
def freeZero (x2 : List Bool) (l : List Int) : Bool := (List.range x2.length).all fun k => !(nthB x2 k && nth l k != 0)
theorem freeZero_true {x2 : List Bool} {l : List Int} (h : ∀ k, k < x2.length → (nthB x2 k && nth l k != 0) = false) : freeZero x2 l = true := by
  rw [freeZero, List.all_eq_true]; intro k hk; rw [h k (by simpa using hk)]; rfl
theorem freeZero_false {x2 : List Bool} {l : List Int} {k : Nat} (hk : k < x2.length) (h : (nthB x2 k && nth l k != 0) = true) : freeZero x2 l = false := by
  rw [freeZero, List.all_eq_false]; exact ⟨k, by simpa using hk, by rw [h]; simp⟩
theorem freeZero_at {x2 : List Bool} {l : List Int} (h : freeZero x2 l = true) {k : Nat} (hk : k < x2.length) (hf : nthB x2 k = true) : nth l k = 0 := by
  rw [freeZero, List.all_eq_true] at h
  have := h k (by simpa using hk)
  simpa [hf] using this
theorem change_dot {K : Nat} {x1 : List Int} {x2 : List Bool} {x3 : List PR} {ws : List (List Int)} (h : PsOk K x1 x2 x3) (hw : areW K x1.length ws = true) (hz : freeZero x2 (nthR ws x1.length) = true) {i : Nat} (hi : i < x3.length) :
    (dotTo (changeF K x1 x2 (nthPR x3 i)) ws.flatten (changeF K x1 x2 (nthPR x3 i)).length == 0) = invRule x1 ws (nthPR x3 i) := by
  obtain ⟨u1, u2, u3, _, _, u6⟩ := h.upN hi
  have hx := changeF_flat h hi
  have hy := flat_weights hw
  have h8 := h.k8
  have h4 := h.p4
  have hlen : (x1.length + 1) * K ≤ 40 := by have := Nat.mul_le_mul (show x1.length + 1 ≤ 5 by omega) h8; omega
  have hat : ∀ q, q < (x1.length + 1) * K → ∃ pl k, pl ≤ x1.length ∧ k < K ∧ q = pl * K + k := fun q hq => by
    have hK0 : 0 < K := by rcases Nat.eq_zero_or_pos K with e | e; (subst e; simp at hq); exact e
    have hqd : q / K < x1.length + 1 := by rw [Nat.div_lt_iff_lt_mul hK0]; exact hq
    exact ⟨q / K, q % K, by omega, Nat.mod_lt _ hK0, by have := Nat.div_add_mod q K; rw [Nat.mul_comm K] at this; omega⟩
  have hgb : ∀ pl k, k < K → 0 ≤ gives x1 x2 (nthPR x3 i) pl k ∧ gives x1 x2 (nthPR x3 i) pl k ≤ 2000 := fun pl k hk => by
    have h1 := inn_bd h hi hk
    have h2 := out_bd h hi hk
    unfold gives
    split <;> split <;> omega
  have hW := (areW_ok hw).2
  have hol := (h.out i hi).2
  have hil := (h.inn i hi).2
  have hgl : (goesS (nthPR x3 i)).length = K := by rw [goesS, plusS_len, hol]
  have hgn : ∀ k, k < K → nth (goesS (nthPR x3 i)) k = nth (nthPR x3 i).out k - nth (nthPR x3 i).inn k := fun k hk => by
    have := addW_neg (n := 1) (by omega) (inn_bd h hi hk) (show -100000000 ≤ nth (nthPR x3 i).out k ∧ nth (nthPR x3 i).out k ≤ 100000000 by have := out_bd h hi hk; omega)
    rw [goesS, plusS_nth (by omega), this]; omega
  have hwg : ∀ pl, pl ≤ x1.length → weighS (goesS (nthPR x3 i)) (nthR ws pl) = dotN (goesS (nthPR x3 i)) (nthR ws pl) K := fun pl hp => by
    rw [weigh_eq (by omega) (fun k hk => by rw [hgn k (by omega)]; have := out_bd h hi (k := k) (by omega); have := inn_bd h hi (k := k) (by omega); omega) (fun k hk => (hW pl hp).2 k (by omega)), hgl]
  have key : dotTo (changeF K x1 x2 (nthPR x3 i)) ws.flatten (changeF K x1 x2 (nthPR x3 i)).length = dotN (goesS (nthPR x3 i)) (nthR ws (upN x1 (nthPR x3 i))) K - dotN (goesS (nthPR x3 i)) (nthR ws (cellN (nthPR x3 i))) K := by
    rw [hx.1, dotTo_eq (n := (x1.length + 1) * K) (by omega) (fun q hq => ?_) (fun q hq => ?_) _ (Nat.le_refl _), flat_sum hx hy, sumN_two (a := upN x1 (nthPR x3 i)) (b := cellN (nthPR x3 i)) (by omega) (by omega) u3]
    · have e1 : sumN (fun k => (gives x1 x2 (nthPR x3 i) (upN x1 (nthPR x3 i)) k - needs x1 x2 (nthPR x3 i) (upN x1 (nthPR x3 i)) k) * nth (nthR ws (upN x1 (nthPR x3 i))) k) K = dotN (goesS (nthPR x3 i)) (nthR ws (upN x1 (nthPR x3 i))) K := sumN_congr _ fun k hk => by
        rw [hgn k hk, needs_up h hi, innS_ins h hi hk]
        by_cases hin : insK x2 (nthPR x3 i) k = true
        · rw [if_pos hin, gives, if_neg u3, if_pos ⟨rfl, hin⟩]; congr 1; omega
        · rw [if_neg hin, gives, if_neg u3, if_neg (fun e => hin e.2)]
          have hc : (nthPR x3 i).cell = 0 ∧ nthB x2 k = true := by
            have hc0 := h.cell i hi
            simp only [insK, Bool.or_eq_true, decide_eq_true_eq, Bool.not_eq_true', not_or, Bool.not_eq_false] at hin
            exact ⟨by omega, hin.2⟩
          rw [u6.1 hc.1, freeZero_at hz (by have := h.free; omega) hc.2]; simp
      have e2 : sumN (fun k => (gives x1 x2 (nthPR x3 i) (cellN (nthPR x3 i)) k - needs x1 x2 (nthPR x3 i) (cellN (nthPR x3 i)) k) * nth (nthR ws (cellN (nthPR x3 i))) k) K = - dotN (goesS (nthPR x3 i)) (nthR ws (cellN (nthPR x3 i))) K := by
        rw [dotN, ← sumN_neg]
        refine sumN_congr _ fun k hk => ?_
        rw [hgn k hk, needs_cell h hi, gives, if_pos rfl, if_neg (fun e => u3 e.1.symm), ← Int.neg_mul]
        congr 1; omega
      show sumN _ K + sumN _ K = _
      rw [e1, e2]; omega
    · intro pl hp n1 n2
      refine sumN_zero _ fun k hk => ?_
      rw [needs_else n2 n1, gives, if_neg n2, if_neg (fun e => n1 e.1)]; simp
    · obtain ⟨pl, k, hp, hk, rfl⟩ := hat q hq
      rw [hx.2 pl k hp hk]
      have := hgb pl k hk
      have := needs_bd h hi pl hk
      dsimp only
      omega
    · obtain ⟨pl, k, hp, hk, rfl⟩ := hat q hq
      rw [hy.2 pl k hp hk]
      exact (hW pl hp).2 k hk
  rw [key, invRule, hwg _ (by omega), hwg _ u2, Bool.eq_iff_iff]
  simp only [beq_iff_eq]
  omega
end Go.Proofs.YtkbhdpkheincoaaDoor
