/- A region that draws its order and whose calls leave the old memory alone, whatever they make: one walk in the order of the text. No program is in sight. -/
import Derived.Test.YtbnikblhnibgiaaDoorG
namespace Go.Proofs.YtbnikblhnibgiaaDoor
open Go.RowKit

/-- The worlds in which the old memory is as it was. -/
def Wd (w : World) : Type := { w' : World // Below w.heap.size w w' }
instance (w : World) : Nonempty (Wd w) := ⟨⟨w, Below.refl _ _⟩⟩
def wat {w : World} (x : Wd w) : World := x.1
theorem wat_below {w : World} (x : Wd w) : Below w.heap.size w (wat x) := x.2
theorem wp_quiet_wd {P : Program} {id : Nat} {Q : Exit → Act → World → Prop} {a : Act} {w : World} {l : List Oper} (hm : P.follows .mixedOrders = true) (hB : Region.lexB .any l.toArray = true)
    (h : wpQuiet P l.toArray (fun w' => ∃ x : Wd w, w' = wat x) (fun a' => ∀ w', (∃ x : Wd w, w' = wat x) → Q .normal a' w') l a) : (Code.region id l.toArray true).wp P Q a w :=
  wp_region_quiet (C := fun w' => ∃ x : Wd w, w' = wat x) hm hB ⟨⟨{ w with drawn := w.drawn + 1 }, (Below.refl _ w).drew⟩, rfl⟩ (by simpa using h)
theorem wat_cell {w : World} {p : Addr} {v : Value} (h : w.cell? p = some v) : ∀ x : Wd w, (wat x).cell? p = some v := fun x => (x.2.cell (World.block_lt_of_cell? w _ h)).trans h
theorem wdV {P : Program} {f : FuncId} {args : Array Value} {w : World} {x : Wd w} {v : Value} (h : Calls P f args (wat x) (RetV (wat x) v)) : Calls P f args (wat x) fun e w'' => e = .returned v ∧ ∃ y : Wd w, w'' = wat y :=
  h.mono fun _ w'' ⟨he, hb⟩ => ⟨he, ⟨w'', bnext x.2 hb (Nat.le_refl _)⟩, rfl⟩
theorem callsP {P : Program} {f : FuncId} {args : Array Value} {w : World} {v : Value} (h : Calls P f args w (RetP w v)) : Calls P f args w (RetV w v) := h.mono fun _ _ h => h.v
theorem callsQ {P : Program} {f : FuncId} {args : Array Value} {w : World} {v : Value} (h : Calls P f args w (RetQ w v)) : Calls P f args w (RetV w v) := h.mono fun _ _ h => h.v
end Go.Proofs.YtbnikblhnibgiaaDoor
