/- Lists of bags in order: what the law of lists asks, in plain lists. No program is in sight. -/
import Derived.Test.YthlbogmnnenkoaaBS
import Derived.Test.YthlbogmnnenkoaaI
namespace Go.Proofs.Ythlbogmnnenkoaa
open Go.RowKit

/-- A list comes before another one. -/
def lessS : List Int → List Int → Bool
  | x :: xs, y :: ys => if x = y then lessS xs ys else decide (x < y)
  | _, _ => false
theorem lessS_cons (x : Int) (xs ys : List Int) : lessS (x :: xs) (x :: ys) = lessS xs ys := by simp [lessS]
theorem lessS_lt {x y : Int} (h : x < y) (xs ys : List Int) : lessS (x :: xs) (y :: ys) = true := by
  have : ¬ x = y := by omega
  simp [lessS, this, h]
theorem lessS_drop {xs ys : List Int} {k : Nat} (hk : k < xs.length) (hk2 : k < ys.length) (he : nth xs k = nth ys k) : lessS (xs.drop k) (ys.drop k) = lessS (xs.drop (k + 1)) (ys.drop (k + 1)) := by
  rw [List.drop_eq_getElem_cons hk, List.drop_eq_getElem_cons hk2]
  rw [nth_lt hk, nth_lt hk2] at he
  rw [he, lessS_cons]
theorem lessS_diff {xs ys : List Int} {k : Nat} (hk : k < xs.length) (hk2 : k < ys.length) (he : ¬ nth xs k = nth ys k) : lessS (xs.drop k) (ys.drop k) = decide (nth xs k < nth ys k) := by
  rw [List.drop_eq_getElem_cons hk, List.drop_eq_getElem_cons hk2]
  rw [nth_lt hk, nth_lt hk2] at *
  simp [lessS, he]
theorem lessS_end {xs ys : List Int} {k : Nat} (h : xs.length ≤ k ∨ ys.length ≤ k) : lessS (xs.drop k) (ys.drop k) = false := by
  rcases h with h | h
  · rw [List.drop_eq_nil_of_le h]; rfl
  · rw [List.drop_eq_nil_of_le h]
    cases xs.drop k <;> rfl
/-- Lists of one length, in order. -/
def Rises (n : Nat) (all : List (List Int)) : Prop := (∀ x, x ∈ all → x.length = n) ∧ all.Pairwise fun x y => lessS x y = true
theorem Rises.len {n : Nat} {all : List (List Int)} (h : Rises n all) {i : Nat} (hi : i < all.length) : (nthR all i).length = n := by
  rw [nthR_lt hi]; exact h.1 _ (List.getElem_mem hi)
theorem Rises.less {n : Nat} {all : List (List Int)} (h : Rises n all) {i : Nat} (hi : i + 1 < all.length) : lessS (nthR all i) (nthR all (i + 1)) = true := by
  rw [nthR_lt (by omega), nthR_lt hi]
  exact List.pairwise_iff_getElem.1 h.2 i (i + 1) (by omega) hi (by omega)
theorem rises_flat {n : Nat} {m : Nat} {f : Nat → List (List Int)} (h : ∀ i, i < m → Rises n (f i)) : Rises (n + 1) ((List.range m).flatMap fun i => (f i).map ((i : Int) :: ·)) := by
  constructor
  · intro x hx
    simp only [List.mem_flatMap, List.mem_map, List.mem_range] at hx
    obtain ⟨i, hi, y, hy, rfl⟩ := hx
    simp [(h i hi).1 y hy]
  · rw [List.pairwise_flatMap]
    constructor
    · intro i hi
      rw [List.pairwise_map]
      exact ((h i (by simpa using hi)).2).imp fun hxy => by rw [lessS_cons]; exact hxy
    · refine List.pairwise_lt_range.imp ?_
      intro i j hij x hx y hy
      simp only [List.mem_map] at hx hy
      obtain ⟨x', _, rfl⟩ := hx
      obtain ⟨y', _, rfl⟩ := hy
      exact lessS_lt (by omega) _ _
theorem ofSz_rises : ∀ r l, Rises (r + 1) (ofSz r l)
  | 0, l => ⟨fun x hx => by simp [ofSz] at hx; subst hx; rfl, by simp [ofSz]⟩
  | r + 1, l => rises_flat fun i _ => ofSz_rises r (l - i)
theorem partsS_rises : ∀ b : List Int, Rises b.length (partsS b)
  | [] => ⟨fun x hx => by simp [partsS] at hx; subst hx; rfl, by simp [partsS]⟩
  | b :: bs => rises_flat fun _ _ => partsS_rises bs
theorem partsS_at : ∀ (b x : List Int), x ∈ partsS b → (∀ j, j < b.length → 0 ≤ nth b j) → ∀ j, j < x.length → 0 ≤ nth x j ∧ nth x j ≤ nth b j
  | [], x, h, _, j, hj => by simp [partsS] at h; subst h; simp at hj
  | b :: bs, x, h, hb, j, hj => by
    simp only [partsS, List.mem_flatMap, List.mem_map, List.mem_range] at h
    obtain ⟨n, hn, y, hy, rfl⟩ := h
    cases j with
    | zero =>
      have := hb 0 (by simp)
      simp [nth] at this ⊢
      omega
    | succ j =>
      have := partsS_at bs y hy (fun j hj => by have := hb (j + 1) (by simpa using hj); simpa [nth] using this) j (by simpa using hj)
      simpa [nth] using this
/-- How many parts there are. -/
def prodS : List Int → Int
  | [] => 1
  | b :: bs => (b + 1) * prodS bs
theorem flat_const {m c : Nat} {g : Nat → List (List Int)} (h : ∀ i, (g i).length = c) : ((List.range m).flatMap g).length = m * c := by
  induction m with
  | zero => simp
  | succ m ih => rw [List.range_succ, List.flatMap_append, List.length_append, ih]; simp [h, Nat.add_mul]
theorem partsS_count : ∀ b : List Int, (∀ j, j < b.length → 0 ≤ nth b j) → ((partsS b).length : Int) = prodS b
  | [], _ => rfl
  | b :: bs, hb => by
    have ih := partsS_count bs (fun j hj => by have := hb (j + 1) (by simpa using hj); simpa [nth] using this)
    have h0 : 0 ≤ b := by have := hb 0 (by simp); simpa [nth] using this
    rw [partsS, flat_const (c := (partsS bs).length) (fun i => by simp), prodS, ← ih]
    push_cast
    rw [show ((b.toNat : Nat) : Int) = b by omega]
theorem prodS_take : ∀ (b : List Int) (k : Nat), k < b.length → prodS (b.take (k + 1)) = prodS (b.take k) * (nth b k + 1)
  | [], k, h => by simp at h
  | b :: bs, 0, _ => by simp [prodS, nth]
  | b :: bs, k + 1, h => by
    have := prodS_take bs k (by simpa using h)
    simp only [List.take_succ_cons, prodS, this]
    rw [show nth (b :: bs) (k + 1) = nth bs k by simp [nth], Int.mul_assoc]
theorem seven {x y : Int} {B : Int} (hx : 1 ≤ x ∧ x ≤ B) (hy : 0 ≤ y ∧ y ≤ 6) : 1 ≤ x * (y + 1) ∧ x * (y + 1) ≤ 7 * B := by
  have : y = 0 ∨ y = 1 ∨ y = 2 ∨ y = 3 ∨ y = 4 ∨ y = 5 ∨ y = 6 := by omega
  rcases this with rfl | rfl | rfl | rfl | rfl | rfl | rfl <;> omega
theorem prodS_bd {b : List Int} (hb : ∀ j, j < b.length → 0 ≤ nth b j ∧ nth b j ≤ 6) (h4 : b.length ≤ 4) {k : Nat} (hk : k ≤ b.length) : 1 ≤ prodS (b.take k) ∧ prodS (b.take k) ≤ 2401 := by
  have key : ∀ k, k ≤ b.length → 1 ≤ prodS (b.take k) ∧ prodS (b.take k) ≤ 7 ^ k := by
    intro k
    induction k with
    | zero => intro _; simp [prodS]
    | succ k ih =>
      intro hk
      have := ih (by omega)
      rw [prodS_take b k (by omega), Int.pow_succ, Int.mul_comm (7 ^ k) 7]
      exact seven this (hb k (by omega))
  have h1 := key k hk
  have : k = 0 ∨ k = 1 ∨ k = 2 ∨ k = 3 ∨ k = 4 := by omega
  rcases this with rfl | rfl | rfl | rfl | rfl <;> simp at h1 ⊢ <;> omega
/-- How many bags there are, as the law reckons. -/
def dueB (size : Int) : Nat → Int
  | 0 => 1
  | k + 1 => dueB size k * (size + (k + 1)) / (k + 1)
/-- What is so of all small bags. -/
def smallOk (r l : Nat) : Bool := decide (((ofSz r l).length : Int) = dueB l r) && (ofSz r l).all (fun x => sumS x == (l : Int) && validBagS ((r : Int) + 1) x) && (List.range 4).all fun k => decide (1 ≤ dueB l k ∧ dueB l k ≤ 100)
theorem smallOk_all : (List.range 4).all (fun r => (List.range 7).all fun l => smallOk r l) = true := by decide +kernel
theorem small_ok {r l : Nat} (hr : r < 4) (hl : l < 7) : ((ofSz r l).length : Int) = dueB l r ∧ (∀ x, x ∈ ofSz r l → sumS x = l ∧ validBagS ((r : Int) + 1) x = true) ∧ ∀ k, k < 4 → 1 ≤ dueB l k ∧ dueB l k ≤ 100 := by
  have h := List.all_eq_true.1 (List.all_eq_true.1 smallOk_all r (by simpa using hr)) l (by simpa using hl)
  simp only [smallOk, Bool.and_eq_true, decide_eq_true_eq, List.all_eq_true, beq_iff_eq] at h
  exact ⟨h.1.1, h.1.2, fun k hk => h.2 k (by simpa using hk)⟩
theorem bagsOf_small {r l : Nat} (hr : r < 4) (hl : l < 7) : bagsOfSizeS ((r : Int) + 1) l = (ofSz r l, 0) := by
  obtain ⟨h1, _, h3⟩ := small_ok hr hl
  have := h3 r hr
  rw [bagsOfSizeS, if_pos (by simp [inRg]; omega), show ((r : Int) + 1).toNat - 1 = r by omega, Int.toNat_natCast, lim, if_pos (by omega)]
theorem part_within {b x : List Int} (h1 : 1 ≤ b.length) (h4 : b.length ≤ 4) (hb : ∀ j, j < b.length → 0 ≤ nth b j ∧ nth b j ≤ 6) (hx : x ∈ partsS b) : isWithinS x b = (true, 0) := by
  have hl := partsS_len b x hx
  have ha := partsS_at b x hx (fun j hj => (hb j hj).1)
  have bx : isBagS x = true := by
    have : allB cntOk x = true := allB_true fun j hj => by have := ha j hj; have := hb j (by omega); simp [cntOk, inRg]; omega
    simp [isBagS, this, inRg]; omega
  have bb : isBagS b = true := by
    have : allB cntOk b = true := allB_true fun j hj => by have := hb j hj; simp [cntOk, inRg]; omega
    simp [isBagS, this, inRg]; omega
  have hw : withinS x b = true := withinS_true fun j hj => (ha j hj).2
  rw [isWithinS, if_pos (by simp [twoS, bx, bb, hl]), hw]
theorem bag_small {b : List Int} (h1 : 1 ≤ b.length) (h4 : b.length ≤ 4) (hb : ∀ j, j < b.length → 0 ≤ nth b j ∧ nth b j ≤ 6) : partsOfS b = lim (partsS b) := by
  have bb : isBagS b = true := by
    have : allB cntOk b = true := allB_true fun j hj => by have := hb j hj; simp [cntOk, inRg]; omega
    simp [isBagS, this, inRg]; omega
  rw [partsOfS, if_pos bb]
end Go.Proofs.Ythlbogmnnenkoaa
