/- Numbers of one digit as text: contracts. -/
import Derived.Test.YtbnikblhnibgiaaDoorR
import Derived.Laws.Concat
import Derived.Laws.Strings
import Derived.Laws.IdiomStrings
namespace Go.Proofs.YtbnikblhnibgiaaDoor
open Go.RowKit

/-- The text of a number of one digit. -/
def decL (i : Nat) : List UInt8 := [UInt8.ofNat (48 + i)]
theorem dig_cases {i : Nat} (h : i < 10) : i = 0 ∨ i = 1 ∨ i = 2 ∨ i = 3 ∨ i = 4 ∨ i = 5 ∨ i = 6 ∨ i = 7 ∨ i = 8 ∨ i = 9 := by omega
set_option maxRecDepth 100000 in
theorem small_c (i : Nat) (hi : i < 10) (w : World) : Calls Tryd.prog 96 #[.int .i64 i] w (RetP w (.string ⟨(decL i).toArray⟩)) := by
  rcases dig_cases hi with rfl | rfl | rfl | rfl | rfl | rfl | rfl | rfl | rfl | rfl
  all_goals
    clear hi
    go_enter Tryd.func96, Tryd.ntmps96
    go_wp2
    go_ret
    exact ⟨rfl, rfl⟩
set_option maxRecDepth 100000 in
theorem formatIn_c (i : Nat) (hi : i < 10) (w : World) : Calls Tryd.prog 83 #[.int .i64 i, .int .i64 10] w (RetP w (.string ⟨(decL i).toArray⟩)) := by
  have h1 : (0 : Int) ≤ i := by omega
  have h2 : (i : Int) < 100 := by omega
  go_enter Tryd.func83, Tryd.ntmps83
  go_wp2_with fail
  refine (small_c i hi w).mono ?_
  rintro e w' ⟨rfl, rfl⟩
  go_wp2
  go_ret
  exact ⟨rfl, rfl⟩
theorem formatInt_c (i : Nat) (hi : i < 10) (w : World) : Calls Tryd.prog 67 #[.int .i64 i, .int .i64 10] w (RetP w (.string ⟨(decL i).toArray⟩)) := by
  go_enter Tryd.func67, Tryd.ntmps67
  go_wp2_with fail
  refine (formatIn_c i hi w).mono ?_
  rintro e w' ⟨rfl, rfl⟩
  go_wp2
  go_ret
  exact ⟨rfl, rfl⟩
theorem decimal_c (i : Nat) (hi : i < 10) (w : World) : Calls Tryd.prog 55 #[.int .i64 i] w (RetP w (.string ⟨(decL i).toArray⟩)) := by
  go_enter Tryd.func55, Tryd.ntmps55
  go_wp2_with fail
  refine (formatInt_c i hi w).mono ?_
  rintro e w' ⟨rfl, rfl⟩
  go_wp2
  go_ret
  exact ⟨rfl, rfl⟩
set_option maxRecDepth 100000 in
theorem Decimal_c (i : Nat) (hi : i < 10) (w : World) : Calls Tryd.prog 57 #[.int .i64 i] w (RetV w (.string ⟨(decL i).toArray⟩)) := by
  have h1 : ¬ (10 : Int) ≤ i := by omega
  have h2 : IntKind.u8.wrap (48 + (i : Int)) = 48 + i := by simp [IntKind.wrap, IntKind.bits, IntKind.signed]; omega
  have kc : (convert 28 9 (.slice (some ⟨w.heap.size, 0, none⟩) 1 1)).run Tryd.prog (w.alloc (.cells #[.int .u8 (48 + (i : Int))] 5)) = .ok (.string ⟨(decL i).toArray⟩) (w.alloc (.cells #[.int .u8 (48 + (i : Int))] 5)) :=
    run_convert_bytes_back (P := Tryd.prog) (w.alloc (.cells #[.int .u8 (48 + (i : Int))] 5)) 28 9 5 ⟨w.heap.size, 0, none⟩ 1 [UInt8.ofNat (48 + i)] Tryd.underlying28 Tryd.underlying5 Tryd.underlying9 (fun j hj => by
      have : j = 0 := by simp at hj; omega
      subst this
      simp [Addr.add]; omega)
  go_enter Tryd.func57, Tryd.ntmps57
  go_wp2
  go_ret
  exact ⟨rfl, below_alloc _ _⟩
end Go.Proofs.YtbnikblhnibgiaaDoor
