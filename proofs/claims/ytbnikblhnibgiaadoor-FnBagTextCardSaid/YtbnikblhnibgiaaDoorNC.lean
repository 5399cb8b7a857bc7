/- What FnBagText needs: the text of a bag is read as the bag, the text and a blank isn't read. -/
import Derived.Test.YtbnikblhnibgiaaDoorNB
namespace Go.Proofs.YtbnikblhnibgiaaDoor
theorem cutL_end (c : UInt8) : ∀ s : Bs, cutL c (s ++ [c]) = cutL c s ++ [[]]
  | [] => by simp [cutL]
  | x :: l => by
    have ih := cutL_end c l
    rw [List.cons_append, cutL, cutL, ih]
    split
    · rfl
    · obtain ⟨a, r, h⟩ := List.exists_cons_of_ne_nil (cutL_ne c l)
      rw [h]; rfl
theorem sfold_end {kinds : Nat} : ∀ (ws : List Bs) (b : List Int) (nx : Nat), sfold kinds (ws ++ [[]]) b nx = none
  | [], b, nx => rfl
  | w :: r, b, nx => by
    rw [List.cons_append, sfold]
    cases hw : sstep kinds b nx w with
    | none => rfl
    | some p => exact sfold_end r p.1 p.2
theorem bagL_ne {b : List Int} (h8 : b.length ≤ 8) : bagL b ≠ [] := by
  unfold bagL
  split
  · simp
  · rename_i h
    intro e
    have := cutL_join h (fun w hw => (words_no h8 w hw).1)
    rw [e] at this
    have hm : ([] : Bs) ∈ wordsL b b.length := by rw [← this]; simp [cutL]
    have hw : ∀ k, ∀ w ∈ wordsL b k, w ≠ [] := by
      intro k
      induction k with
      | zero => intro w hw; simp [wordsL] at hw
      | succ k ih =>
        intro w hw
        rw [wordsL] at hw
        split at hw
        · exact ih w hw
        · rcases List.mem_append.1 hw with h | h
          · exact ih w h
          · simp only [List.mem_singleton] at h; subst h; simp [wordL]
    exact hw _ _ hm rfl
theorem read_blank {kinds : Nat} {b : List Int} (h8 : b.length ≤ 8) : specRead kinds (bagL b ++ [32]) = none := by
  unfold specRead
  rw [if_neg, cutL_end, sfold_end]
  intro e
  have hl := congrArg List.length e
  have := List.length_pos_iff.2 (bagL_ne h8)
  simp at hl
  exact absurd hl (bagL_ne h8)
end Go.Proofs.YtbnikblhnibgiaaDoor
