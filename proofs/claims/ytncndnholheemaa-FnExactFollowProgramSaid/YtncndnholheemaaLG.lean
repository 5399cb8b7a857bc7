/- A result of several cells put into a box. No program is in sight. -/
import Derived.Test.YtncndnholheemaaRM
namespace Go.Proofs.Ytncndnholheemaa
open Go.RowKit

theorem cell_far (w : World) (b i j : Nat) (v : Value) (h : i ≠ j) : (w.setCell ⟨b, i, none⟩ v).cell? ⟨b, j, none⟩ = w.cell? ⟨b, j, none⟩ := World.cell?_setCell_other _ _ _ _ (by intro e; cases e; exact h rfl)
theorem size_set (w : World) (p : Addr) (v : Value) : (w.setCell p v).heap.size = w.heap.size := by simp [World.setCell]
theorem box2 {base w : World} {b : Nat} {u0 u1 : Value} (v0 v1 : Value) (h : Below base.heap.size base w) (hb : base.heap.size ≤ b) (hl : b < w.heap.size) (h0 : w.cell? ⟨b, 0, none⟩ = some u0) (h1 : w.cell? ⟨b, 1, none⟩ = some u1) :
    Below base.heap.size base ((w.setCell ⟨b, 0, none⟩ v0).setCell ⟨b, 1, none⟩ v1) ∧ b < ((w.setCell ⟨b, 0, none⟩ v0).setCell ⟨b, 1, none⟩ v1).heap.size ∧ (∀ d v F, Ow w d v F → b ∉ F → Ow ((w.setCell ⟨b, 0, none⟩ v0).setCell ⟨b, 1, none⟩ v1) d v F) ∧
    ((w.setCell ⟨b, 0, none⟩ v0).setCell ⟨b, 1, none⟩ v1).cell? ⟨b, 0, none⟩ = some v0 ∧ ((w.setCell ⟨b, 0, none⟩ v0).setCell ⟨b, 1, none⟩ v1).cell? ⟨b, 1, none⟩ = some v1 := by
  refine ⟨(h.setCell hb _).setCell hb _, by rw [size_set, size_set]; exact hl, fun d v F ho hF => (ho.setCell hF _).setCell hF _, ?_, ?_⟩
  · rw [cell_far _ _ 1 0 _ (by omega)]; exact World.cell?_setCell_same _ _ _ h0
  · exact World.cell?_setCell_same _ _ _ (by rw [cell_far _ _ 0 1 _ (by omega)]; exact h1)
theorem box3 {base w : World} {b : Nat} {u0 u1 u2 : Value} (v0 v1 v2 : Value) (h : Below base.heap.size base w) (hb : base.heap.size ≤ b) (hl : b < w.heap.size) (h0 : w.cell? ⟨b, 0, none⟩ = some u0) (h1 : w.cell? ⟨b, 1, none⟩ = some u1) (h2 : w.cell? ⟨b, 2, none⟩ = some u2) :
    Below base.heap.size base (((w.setCell ⟨b, 0, none⟩ v0).setCell ⟨b, 1, none⟩ v1).setCell ⟨b, 2, none⟩ v2) ∧ b < (((w.setCell ⟨b, 0, none⟩ v0).setCell ⟨b, 1, none⟩ v1).setCell ⟨b, 2, none⟩ v2).heap.size ∧ (∀ d v F, Ow w d v F → b ∉ F → Ow (((w.setCell ⟨b, 0, none⟩ v0).setCell ⟨b, 1, none⟩ v1).setCell ⟨b, 2, none⟩ v2) d v F) ∧
    (((w.setCell ⟨b, 0, none⟩ v0).setCell ⟨b, 1, none⟩ v1).setCell ⟨b, 2, none⟩ v2).cell? ⟨b, 0, none⟩ = some v0 ∧ (((w.setCell ⟨b, 0, none⟩ v0).setCell ⟨b, 1, none⟩ v1).setCell ⟨b, 2, none⟩ v2).cell? ⟨b, 1, none⟩ = some v1 ∧ (((w.setCell ⟨b, 0, none⟩ v0).setCell ⟨b, 1, none⟩ v1).setCell ⟨b, 2, none⟩ v2).cell? ⟨b, 2, none⟩ = some v2 := by
  refine ⟨((h.setCell hb _).setCell hb _).setCell hb _, by rw [size_set, size_set, size_set]; exact hl, fun d v F ho hF => ((ho.setCell hF _).setCell hF _).setCell hF _, ?_, ?_, ?_⟩
  · rw [cell_far _ _ 2 0 _ (by omega), cell_far _ _ 1 0 _ (by omega)]; exact World.cell?_setCell_same _ _ _ h0
  · rw [cell_far _ _ 2 1 _ (by omega)]; exact World.cell?_setCell_same _ _ _ (by rw [cell_far _ _ 0 1 _ (by omega)]; exact h1)
  · exact World.cell?_setCell_same _ _ _ (by rw [cell_far _ _ 1 2 _ (by omega), cell_far _ _ 0 2 _ (by omega)]; exact h2)
theorem box4 {base w : World} {b : Nat} {u0 u1 u2 u3 : Value} (v0 v1 v2 v3 : Value) (h : Below base.heap.size base w) (hb : base.heap.size ≤ b) (hl : b < w.heap.size) (h0 : w.cell? ⟨b, 0, none⟩ = some u0) (h1 : w.cell? ⟨b, 1, none⟩ = some u1) (h2 : w.cell? ⟨b, 2, none⟩ = some u2) (h3 : w.cell? ⟨b, 3, none⟩ = some u3) :
    Below base.heap.size base ((((w.setCell ⟨b, 0, none⟩ v0).setCell ⟨b, 1, none⟩ v1).setCell ⟨b, 2, none⟩ v2).setCell ⟨b, 3, none⟩ v3) ∧ b < ((((w.setCell ⟨b, 0, none⟩ v0).setCell ⟨b, 1, none⟩ v1).setCell ⟨b, 2, none⟩ v2).setCell ⟨b, 3, none⟩ v3).heap.size ∧ (∀ d v F, Ow w d v F → b ∉ F → Ow ((((w.setCell ⟨b, 0, none⟩ v0).setCell ⟨b, 1, none⟩ v1).setCell ⟨b, 2, none⟩ v2).setCell ⟨b, 3, none⟩ v3) d v F) ∧
    ((((w.setCell ⟨b, 0, none⟩ v0).setCell ⟨b, 1, none⟩ v1).setCell ⟨b, 2, none⟩ v2).setCell ⟨b, 3, none⟩ v3).cell? ⟨b, 0, none⟩ = some v0 ∧ ((((w.setCell ⟨b, 0, none⟩ v0).setCell ⟨b, 1, none⟩ v1).setCell ⟨b, 2, none⟩ v2).setCell ⟨b, 3, none⟩ v3).cell? ⟨b, 1, none⟩ = some v1 ∧
    ((((w.setCell ⟨b, 0, none⟩ v0).setCell ⟨b, 1, none⟩ v1).setCell ⟨b, 2, none⟩ v2).setCell ⟨b, 3, none⟩ v3).cell? ⟨b, 2, none⟩ = some v2 ∧ ((((w.setCell ⟨b, 0, none⟩ v0).setCell ⟨b, 1, none⟩ v1).setCell ⟨b, 2, none⟩ v2).setCell ⟨b, 3, none⟩ v3).cell? ⟨b, 3, none⟩ = some v3 := by
  refine ⟨(((h.setCell hb _).setCell hb _).setCell hb _).setCell hb _, by rw [size_set, size_set, size_set, size_set]; exact hl, fun d v F ho hF => (((ho.setCell hF _).setCell hF _).setCell hF _).setCell hF _, ?_, ?_, ?_, ?_⟩
  · rw [cell_far _ _ 3 0 _ (by omega), cell_far _ _ 2 0 _ (by omega), cell_far _ _ 1 0 _ (by omega)]; exact World.cell?_setCell_same _ _ _ h0
  · rw [cell_far _ _ 3 1 _ (by omega), cell_far _ _ 2 1 _ (by omega)]; exact World.cell?_setCell_same _ _ _ (by rw [cell_far _ _ 0 1 _ (by omega)]; exact h1)
  · rw [cell_far _ _ 3 2 _ (by omega)]; exact World.cell?_setCell_same _ _ _ (by rw [cell_far _ _ 1 2 _ (by omega), cell_far _ _ 0 2 _ (by omega)]; exact h2)
  · exact World.cell?_setCell_same _ _ _ (by rw [cell_far _ _ 2 3 _ (by omega), cell_far _ _ 1 3 _ (by omega), cell_far _ _ 0 3 _ (by omega)]; exact h3)
end Go.Proofs.Ytncndnholheemaa
