/- Orders: which data are such a list. -/
import Derived.Test.YtbnikblhnibgiaaDoorP
import Derived.Test.YtbnikblhnibgiaaDoorTC
namespace Go.Proofs.YtbnikblhnibgiaaDoor
open Go.RowKit

theorem fitD_O {d : D} (h : Fit (.l [.i, .i, .i, .i]) d) : ∃ rs, d = dO rs := by
  obtain ⟨rows, rfl, hr⟩ := h
  have key : ∀ rows : List (List D), (∀ r, r ∈ rows → FitL [.i, .i, .i, .i] r) → ∃ rs : List Ord, rows.flatten = rs.flatMap Ord.ds := by
    intro rows
    induction rows with
    | nil => intro _; exact ⟨[], rfl⟩
    | cons r rows ih =>
      intro h
      obtain ⟨rs, e⟩ := ih (fun r hr => h r (by simp [hr]))
      obtain ⟨_, r0, e0, ⟨n0, rfl⟩, h0⟩ := h r (by simp)
      subst e0
      obtain ⟨_, r1, e1, ⟨n1, rfl⟩, h1⟩ := h0
      subst e1
      obtain ⟨_, r2, e2, ⟨n2, rfl⟩, h2⟩ := h1
      subst e2
      obtain ⟨_, r3, e3, ⟨n3, rfl⟩, h3⟩ := h2
      subst e3
      rw [show r3 = [] from h3]
      exact ⟨⟨n0, n1, n2, n3⟩ :: rs, by simp [e, Ord.ds]⟩
  obtain ⟨rs, e⟩ := key rows hr
  exact ⟨rs, by rw [e]; rfl⟩
theorem fit_dO (rs : List Ord) : Fit (.l [.i, .i, .i, .i]) (dO rs) := by
  refine ⟨rs.map Ord.ds, ?_, fun r hr => ?_⟩
  · simp only [dO]; congr 1
  · obtain ⟨x, _, rfl⟩ := List.mem_map.1 hr
    exact ⟨_, _, rfl, ⟨_, rfl⟩, ⟨_, _, rfl, ⟨_, rfl⟩, ⟨_, _, rfl, ⟨_, rfl⟩, ⟨_, _, rfl, ⟨_, rfl⟩, rfl⟩⟩⟩⟩
end Go.Proofs.YtbnikblhnibgiaaDoor
