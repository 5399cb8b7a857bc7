/- Rules that pass objects, as data. Written by rowtype.py. No program is in sight. -/
import Derived.Test.YtncndnholheemaaWB
namespace Go.Proofs.Ytncndnholheemaa
open Go.RowKit

/-- A rule that passes objects. -/
structure PR where
  cell : Int
  out : List Int
  inn : List Int
def PR.ds (r : PR) : List D := [.i r.cell, dI r.out, dI r.inn]
def zPR : PR := ⟨0, [], []⟩
def nthPR (rs : List PR) (i : Nat) : PR := rs.getD i zPR
theorem nthPR_lt {rs : List PR} {i : Nat} (h : i < rs.length) : nthPR rs i = rs[i] := by simp [nthPR, h]
theorem nthPR_get {rs : List PR} {i : Nat} (h : i < rs.length) : rs[i]? = some (nthPR rs i) := by simp [nthPR, h]
def dPR (rs : List PR) : D := .l 3 (rs.flatMap PR.ds)
/-- The cells of a list of them. -/
structure SlPR (S : Nat → Prop) (w : World) (a : Option Addr) (rs : List PR) : Prop where
  len : rs.length ≤ maxLen
  ptr : 0 < rs.length → ∃ g o, a = some ⟨g, o, none⟩
  c0 : ∀ i, i < rs.length → w.cell? (adr a (i * 3)) = some (.int .i64 (nthPR rs i).cell)
  c1 : ∀ i, i < rs.length → ∃ a' c', w.cell? (adr a (i * 3 + 1)) = some (.slice a' (nthPR rs i).out.length c') ∧ SlI S w a' (nthPR rs i).out
  c2 : ∀ i, i < rs.length → ∃ a' c', w.cell? (adr a (i * 3 + 2)) = some (.slice a' (nthPR rs i).inn.length c') ∧ SlI S w a' (nthPR rs i).inn
theorem dPR_len (rs : List PR) : (rs.flatMap PR.ds).length = rs.length * 3 := row_len PR.ds 3 (fun _ => rfl) rs
theorem Rd_PR {S : Nat → Prop} {w : World} {rs : List PR} {v : Value} (h : Rd S w (dPR rs) v) : ∃ a c, v = .slice a rs.length c ∧ SlPR S w a rs := by
  obtain ⟨a, c, rfl, hm, hp, HG⟩ := h.row (dPR_len rs) (by omega)
  have key : ∀ i j d, i < rs.length → j < 3 → (nthPR rs i).ds[j]? = some d → ∃ u, w.cell? (adr a (i * 3 + j)) = some u ∧ Rd S w d u := fun i j d hi hj hd => HG.out w (Below.refl _ _) _ _ (by rw [row_get PR.ds 3 (fun _ => rfl) rs i j _ (nthPR_get hi) hj]; exact hd)
  refine ⟨a, c, rfl, hm, hp, fun i hi => ?_, fun i hi => ?_, fun i hi => ?_⟩
  · obtain ⟨u, h1, h2⟩ := key i 0 _ hi (by omega) rfl
    rw [show u = _ from h2] at h1; exact h1
  · obtain ⟨u, h1, h2⟩ := key i 1 _ hi (by omega) rfl
    obtain ⟨a', c', rfl, h3⟩ := Rd_I.1 h2
    exact ⟨a', c', h1, h3⟩
  · obtain ⟨u, h1, h2⟩ := key i 2 _ hi (by omega) rfl
    obtain ⟨a', c', rfl, h3⟩ := Rd_I.1 h2
    exact ⟨a', c', h1, h3⟩
theorem fitD_PR {d : D} (h : Fit (.l [.i, .l [.i], .l [.i]]) d) : ∃ rs, d = dPR rs := by
  obtain ⟨rows, rfl, hr⟩ := h
  have key : ∀ rows : List (List D), (∀ r, r ∈ rows → FitL [.i, .l [.i], .l [.i]] r) → ∃ rs : List PR, rows.flatten = rs.flatMap PR.ds := by
    intro rows
    induction rows with
    | nil => intro _; exact ⟨[], rfl⟩
    | cons r rows ih =>
      intro h
      obtain ⟨rs, e⟩ := ih (fun r hr => h r (by simp [hr]))
      obtain ⟨_, r0, e0, ⟨n0, rfl⟩, h0⟩ := h r (by simp)
      subst e0
      obtain ⟨_, r1, e1, f1, h1⟩ := h0
      subst e1
      obtain ⟨n1, rfl⟩ := fitD_I f1
      obtain ⟨_, r2, e2, f2, h2⟩ := h1
      subst e2
      obtain ⟨n2, rfl⟩ := fitD_I f2
      rw [show r2 = [] from h2]
      exact ⟨⟨n0, n1, n2⟩ :: rs, by simp [e, PR.ds]⟩
  obtain ⟨rs, e⟩ := key rows hr
  exact ⟨rs, by rw [e]; rfl⟩
theorem fit_dPR (rs : List PR) : Fit (.l [.i, .l [.i], .l [.i]]) (dPR rs) := by
  refine ⟨rs.map PR.ds, ?_, fun r hr => ?_⟩
  · simp only [dPR]; congr 1
  · obtain ⟨x, _, rfl⟩ := List.mem_map.1 hr
    exact ⟨_, _, rfl, ⟨_, rfl⟩, ⟨_, _, rfl, fit_dI _, ⟨_, _, rfl, fit_dI _, rfl⟩⟩⟩
end Go.Proofs.Ytncndnholheemaa
