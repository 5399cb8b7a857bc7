/- The greedy packing: both functions. -/
import Derived.Test.YtncndnholheemaaPG
namespace Go.Proofs.Ytncndnholheemaa
open Go.RowKit

theorem codeS_zeros (kinds : Int) (ps : List (List Int)) : codeS kinds ps (List.replicate ps.length 0) = askS kinds ps := by
  have h : cntsOk ps.length (List.replicate ps.length 0) = true := cntsOk_true (by simp) (fun j hj => by simp [nth, hj, cntOk, inRg])
  unfold codeS
  rw [if_pos h]
  split
  · rename_i h2; rw [h2]
  · rfl
theorem len_of_volII {xs : List (List Int)} (h : vol (dII xs) ≤ 16777216) : xs.length ≤ 16777216 := by
  have := volL_len (xs.map dI)
  simp only [List.length_map] at this
  exact Nat.le_trans this h
