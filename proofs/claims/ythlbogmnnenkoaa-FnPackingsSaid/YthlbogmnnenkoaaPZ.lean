/- Packings of drawn bags: facts for the law. No program is in sight. -/
import Derived.Test.YthlbogmnnenkoaaPX
import Derived.Test.YthlbogmnnenkoaaDP
import Derived.Test.YthlbogmnnenkoaaPB
import Derived.Test.YthlbogmnnenkoaaPO
namespace Go.Proofs.Ythlbogmnnenkoaa
open Go.RowKit

theorem partOk.bag {K : Nat} {p : List Int} (h : partOk K p) (h1 : 1 ≤ K) (h3 : K ≤ 3) : isBagS p = true := by
  have : allB cntOk p = true := allB_true fun j _ => by have := h.2.1 j; simp [cntOk, inRg]; omega
  have := h.1
  simp [isBagS, *, inRg]; omega
theorem BagParts.ok {b : List Int} {ps : List (List Int)} (h : BagParts b ps) : isBagS b = true ∧ askS b.length ps = 0 ∧ ¬ 16 < sumS b := by
  have hb : isBagS b = true := by
    have : allB cntOk b = true := allB_true fun j _ => by have := h.bd j; simp [cntOk, inRg]; omega
    have := h.lo; have := h.hi
    simp [isBagS, *, inRg]; omega
  refine ⟨hb, ?_, ?_⟩
  · have h1 : allII isBagS ps = true := by
      rw [allII, List.all_eq_true]; intro p hp; exact (h.pk p hp).bag h.lo h.hi
    have h2 : allII (fitPart b.length) ps = true := by
      rw [allII, List.all_eq_true]; intro p hp
      have := h.pk p hp
      simp [fitPart, this.1, this.2.2]
    have := h.pl
    rw [askS, if_pos h1, if_pos ⟨by omega, h2⟩]
  · have := h.sum
    rw [sumS_X (fun j => by have := h.bd j; omega) (by have := h.hi; omega)]; omega
theorem BagParts.lim {b : List Int} {ps : List (List Int)} (h : BagParts b ps) (P : List (List Int) → List Int → Bool) : packingsS P b ps = lim (packs (P ps) ps b) := by
  obtain ⟨h1, h2, h3⟩ := h.ok
  rw [packingsS, if_pos (by rw [asked, if_pos h1, h2]), if_neg h3]
theorem BagParts.greedy {b : List Int} {ps : List (List Int)} (h : BagParts b ps) : greedyS b ps = ((greedyTo b ps ps.length).1, 0) := by
  obtain ⟨h1, h2, _⟩ := h.ok
  rw [greedyS, if_pos (by rw [asked, if_pos h1, h2])]
/-- Nothing is left. -/
def zRest (b : List Int) (ps : List (List Int)) (c : List Int) : Bool := sumS (restL ps b c) == 0
/-- How many of the first k leave nothing. -/
def foundTo (b : List Int) (ps all : List (List Int)) (k : Nat) : Nat := ((all.take k).filter (zRest b ps)).length
theorem foundTo_succ {b : List Int} {ps all : List (List Int)} {k : Nat} (h : k < all.length) : foundTo b ps all (k + 1) = foundTo b ps all k + if zRest b ps (nthR all k) = true then 1 else 0 := by
  unfold foundTo
  rw [List.take_succ_eq_append_getElem h, List.filter_append, List.length_append, ← nthR_lt h]
  rw [List.filter_cons, List.filter_nil]
  split <;> simp
theorem foundTo_le (b : List Int) (ps all : List (List Int)) (k : Nat) : foundTo b ps all k ≤ all.length := by
  unfold foundTo
  have := List.length_filter_le (zRest b ps) (all.take k)
  simp only [List.length_take] at this
  omega
end Go.Proofs.Ythlbogmnnenkoaa
