/- Valid passing systems, valid stocks: what they are. No program is in sight. -/
import Derived.Test.YtdcpdipakglnnaaTP
import Derived.Test.YtdcpdipakglnnaaPG
namespace Go.Proofs.Ytdcpdipakglnnaa
open Go.RowKit

/-- An object of a kind that is not free. -/
def bound1 (free : List Bool) (xs : List Int) (k : Nat) : Bool := decide (0 < nth xs k) && !nthB free k
def hasBoundS (free : List Bool) (xs : List Int) : Bool := (List.range xs.length).any (bound1 free xs)
theorem hasBoundS_true {free : List Bool} {xs : List Int} {k : Nat} (hk : k < xs.length) (h : bound1 free xs k = true) : hasBoundS free xs = true := by
  rw [hasBoundS, List.any_eq_true]; exact ⟨k, by simpa using hk, h⟩
theorem hasBoundS_false {free : List Bool} {xs : List Int} (h : ∀ j, j < xs.length → bound1 free xs j = false) : hasBoundS free xs = false := by
  rw [hasBoundS, List.any_eq_false]; intro j hj; rw [h j (by simpa using hj)]; simp
/-- A rule is right. -/
def ruleOk (kinds : Int) (n : Nat) (free : List Bool) (r : PR) : Bool :=
  inRg r.cell 0 ((n : Int) - 1) && validBagS kinds r.out && validBagS kinds r.inn && !(sumS r.out + sumS r.inn == 0) && (decide (0 < r.cell) || decide (0 < sumS r.out) || hasBoundS free r.inn)
def allPR (p : PR → Bool) (rs : List PR) : Bool := (List.range rs.length).all fun i => p (nthPR rs i)
theorem allPR_true {p : PR → Bool} {rs : List PR} (h : ∀ j, j < rs.length → p (nthPR rs j) = true) : allPR p rs = true := by
  rw [allPR, List.all_eq_true]; intro j hj; exact h j (by simpa using hj)
theorem allPR_false {p : PR → Bool} {rs : List PR} {k : Nat} (hk : k < rs.length) (h : p (nthPR rs k) = false) : allPR p rs = false := by
  rw [allPR, List.all_eq_false]; exact ⟨k, by simpa using hk, by rw [h]; simp⟩
theorem allPR_at {p : PR → Bool} {rs : List PR} (h : allPR p rs = true) {k : Nat} (hk : k < rs.length) : p (nthPR rs k) = true := by
  rw [allPR, List.all_eq_true] at h; exact h k (by simpa using hk)
/-- The parent of cell i + 1 comes before it. -/
def parOk (xs : List Int) (i : Nat) : Bool := inRg (nth xs (i + 1)) 0 i
def parsOk (xs : List Int) : Bool := (List.range (xs.length - 1)).all (parOk xs)
theorem parsOk_true {xs : List Int} (h : ∀ j, j + 1 < xs.length → parOk xs j = true) : parsOk xs = true := by
  rw [parsOk, List.all_eq_true]; intro j hj; exact h j (by simp at hj; omega)
theorem parsOk_false {xs : List Int} {k : Nat} (hk : k + 1 < xs.length) (h : parOk xs k = false) : parsOk xs = false := by
  rw [parsOk, List.all_eq_false]; exact ⟨k, by simp; omega, by rw [h]; simp⟩
theorem parsOk_at {xs : List Int} (h : parsOk xs = true) {k : Nat} (hk : k + 1 < xs.length) : parOk xs k = true := by
  rw [parsOk, List.all_eq_true] at h; exact h k (by simp; omega)
/-- What is looked at first. -/
def passHead (x0 : Int) (x1 : List Int) (x2 : List Bool) (x3 : List PR) : Bool := inRg x0 1 8 && inRg x1.length 1 4 && (nth x1 0 == -1) && ((x2.length : Int) == x0) && decide (x3.length ≤ 8)
def okPass (x0 : Int) (x1 : List Int) (x2 : List Bool) (x3 : List PR) : Bool := passHead x0 x1 x2 x3 && parsOk x1 && allPR (ruleOk x0 x1.length x2) x3
/-- An object of a free kind. -/
def free1 (free : List Bool) (xs : List Int) (k : Nat) : Bool := decide (0 < nth xs k) && nthB free k
def noFreeS (free : List Bool) (xs : List Int) : Bool := (List.range xs.length).all fun k => !free1 free xs k
theorem noFreeS_true {free : List Bool} {xs : List Int} (h : ∀ j, j < xs.length → free1 free xs j = false) : noFreeS free xs = true := by
  rw [noFreeS, List.all_eq_true]; intro j hj; rw [h j (by simpa using hj)]; rfl
theorem noFreeS_false {free : List Bool} {xs : List Int} {k : Nat} (hk : k < xs.length) (h : free1 free xs k = true) : noFreeS free xs = false := by
  rw [noFreeS, List.all_eq_false]; exact ⟨k, by simpa using hk, by rw [h]; simp⟩
/-- A stock is right for a passing system. -/
def okStock (x0 : Int) (n : Nat) (x2 : List Bool) (cells : List (List Int)) (around : List Int) : Bool := decide (cells.length = n) && validBagS x0 around && noFreeS x2 around && allII (validBagS x0) cells
theorem passHead_ok {x0 : Int} {x1 : List Int} {x2 : List Bool} {x3 : List PR} (h : passHead x0 x1 x2 x3 = true) : 1 ≤ x0 ∧ x0 ≤ 8 ∧ 1 ≤ x1.length ∧ x1.length ≤ 4 ∧ nth x1 0 = -1 ∧ (x2.length : Int) = x0 ∧ x3.length ≤ 8 := by
  simp [passHead, inRg] at h; omega
theorem validBagS_ok {k : Int} {xs : List Int} (h : validBagS k xs = true) : isBagS xs = true ∧ (xs.length : Int) = k := by
  simp [validBagS] at h; exact h
end Go.Proofs.Ytdcpdipakglnnaa
