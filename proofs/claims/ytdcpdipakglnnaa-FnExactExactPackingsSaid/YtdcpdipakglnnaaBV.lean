/- All parts of a bag: the program's functions and the reference's. -/
import Derived.Test.YtdcpdipakglnnaaBS
import Derived.Test.YtdcpdipakglnnaaBU
namespace Go.Proofs.Ytdcpdipakglnnaa
open Go.RowKit

theorem drop_nth {b : List Int} {k : Nat} (h : k < b.length) : b.drop k = nth b k :: b.drop (k + 1) := by
  rw [nth_lt h, List.drop_eq_getElem_cons h]
theorem partsTo_split (p bs : List Int) {j m : Nat} (h : j ≤ m) : ∃ rest, partsTo p bs m = partsTo p bs j ++ rest := by
  induction m with
  | zero => exact ⟨[], by rw [show j = 0 from by omega]; simp⟩
  | succ m ih =>
    by_cases e : j = m + 1
    · subst e; exact ⟨[], by simp⟩
    · obtain ⟨rest, e⟩ := ih (by omega)
      exact ⟨_, by rw [partsTo_succ, e, List.append_assoc]⟩
