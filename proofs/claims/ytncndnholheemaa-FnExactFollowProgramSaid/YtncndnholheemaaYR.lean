/- The laws' functions on rules, systems and states: by shape. Written by tygen.py. -/
import Derived.Test.YtncndnholheemaaYA
namespace Go.Proofs.Ytncndnholheemaa
open Go.RowKit

theorem uncons {n : Nat} {l : List Value} (h : l.length = n + 1) : ∃ x t, l = x :: t ∧ t.length = n := by
  cases l with
  | nil => simp at h
  | cons x t => exact ⟨x, t, rfl, by simpa using h⟩
theorem tabIntoSM : Tab Try.prog 171 238 (.agg #[.int .i64 0, .slice none 0 0]) 2 32 := ⟨by kernel_rfl, by kernel_rfl⟩
theorem tabRuleSM : Tab Try.prog 118 173 (.agg #[.int .i64 0, .int .i64 0, .slice none 0 0, .slice none 0 0, .slice none 0 0, .slice none 0 0, .slice none 0 0, .slice none 0 0, .bool false]) 9 168 := ⟨by kernel_rfl, by kernel_rfl⟩
