/- Contracts of the exported functions on bags (first part). -/
import Derived.Test.YtbnikblhnibgiaaDoorD
namespace Go.Proofs.YtbnikblhnibgiaaDoor
open Go.RowKit

/-- What becomes of a list that must be a bag. -/
def Told (w : World) (a : Option Addr) (xs : List Int) (c : Nat) (e : Ending) (w' : World) : Prop :=
  Below w.heap.size w w' ∧ ((isBagS xs = true ∧ e = .returned (.tuple #[.slice a xs.length c, .int .i64 0])) ∨ (isBagS xs = false ∧ ∃ a' c', e = .returned (.tuple #[.slice a' 0 c', .int .i64 3])))
theorem Told.dc {w0 w w' : World} {a : Option Addr} {xs : List Int} {c : Nat} {e : Ending} {F : List Nat} (h : Told w a xs c e w') (ho : Ow w (dI xs) (.slice a xs.length c) F) (hn : F.Nodup) (hF : ∀ g, g ∈ F → w0.heap.size ≤ g) (hb : Below w0.heap.size w0 w) :
    RetDC w0 (dI (toldS xs).1) (toldS xs).2 e w' := by
  obtain ⟨h1, ⟨h2, rfl⟩ | ⟨h2, a', c', rfl⟩⟩ := h
  · simp only [toldS, h2, if_true]
    exact ⟨_, F, rfl, bnext hb h1 (Nat.le_refl _), Ow.stable _ _ F (fun k hk => h1.block k (Ow.lt _ _ F ho k hk)) ho, hn, hF⟩
  · simp only [toldS, h2, Bool.false_eq_true, if_false]
    exact RetDC.none a' c' 3 (bnext hb h1 (Nat.le_refl _))
