/- Valid stocks. -/
import Derived.Test.YtkbhdpkheincoaaDoorPY
namespace Go.Proofs.YtkbhdpkheincoaaDoor
open Go.RowKit

theorem okPass_ok {x0 : Int} {x1 : List Int} {x2 : List Bool} {x3 : List PR} (h : okPass x0 x1 x2 x3 = true) : 1 ≤ x0 ∧ x0 ≤ 8 ∧ 1 ≤ x1.length ∧ x1.length ≤ 4 ∧ nth x1 0 = -1 ∧ (x2.length : Int) = x0 ∧ x3.length ≤ 8 := by
  simp only [okPass, Bool.and_eq_true] at h
  exact passHead_ok h.1.1
def okStockAll (x0 : Int) (x1 : List Int) (x2 : List Bool) (x3 : List PR) (y0 : List (List Int)) (y1 : List Int) : Bool := okPass x0 x1 x2 x3 && okStock x0 x1.length x2 y0 y1
