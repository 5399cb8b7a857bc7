/- Configs, as data. Written by rowtype.py. No program is in sight. -/
import Derived.Test.YtbnikblhnibgiaaDoorWB
namespace Go.Proofs.YtbnikblhnibgiaaDoor
open Go.RowKit

/-- A config. -/
structure Cfg where
  pc : Int
  regs : List Int
def Cfg.ds (r : Cfg) : List D := [.i r.pc, dI r.regs]
def zCfg : Cfg := ⟨0, []⟩
def nthCfg (rs : List Cfg) (i : Nat) : Cfg := rs.getD i zCfg
theorem nthCfg_lt {rs : List Cfg} {i : Nat} (h : i < rs.length) : nthCfg rs i = rs[i] := by simp [nthCfg, h]
theorem nthCfg_get {rs : List Cfg} {i : Nat} (h : i < rs.length) : rs[i]? = some (nthCfg rs i) := by simp [nthCfg, h]
def dCS (rs : List Cfg) : D := .l 2 (rs.flatMap Cfg.ds)
/-- The cells of a list of them. -/
structure SlCS (S : Nat → Prop) (w : World) (a : Option Addr) (rs : List Cfg) : Prop where
  len : rs.length ≤ maxLen
  ptr : 0 < rs.length → ∃ g o, a = some ⟨g, o, none⟩
  c0 : ∀ i, i < rs.length → w.cell? (adr a (i * 2)) = some (.int .i64 (nthCfg rs i).pc)
  c1 : ∀ i, i < rs.length → ∃ a' c', w.cell? (adr a (i * 2 + 1)) = some (.slice a' (nthCfg rs i).regs.length c') ∧ SlI S w a' (nthCfg rs i).regs
theorem dCS_len (rs : List Cfg) : (rs.flatMap Cfg.ds).length = rs.length * 2 := row_len Cfg.ds 2 (fun _ => rfl) rs
theorem Rd_CS {S : Nat → Prop} {w : World} {rs : List Cfg} {v : Value} (h : Rd S w (dCS rs) v) : ∃ a c, v = .slice a rs.length c ∧ SlCS S w a rs := by
  obtain ⟨a, c, rfl, hm, hp, HG⟩ := h.row (dCS_len rs) (by omega)
  have key : ∀ i j d, i < rs.length → j < 2 → (nthCfg rs i).ds[j]? = some d → ∃ u, w.cell? (adr a (i * 2 + j)) = some u ∧ Rd S w d u := fun i j d hi hj hd => HG.out w (Below.refl _ _) _ _ (by rw [row_get Cfg.ds 2 (fun _ => rfl) rs i j _ (nthCfg_get hi) hj]; exact hd)
  refine ⟨a, c, rfl, hm, hp, fun i hi => ?_, fun i hi => ?_⟩
  · obtain ⟨u, h1, h2⟩ := key i 0 _ hi (by omega) rfl
    rw [show u = _ from h2] at h1; exact h1
  · obtain ⟨u, h1, h2⟩ := key i 1 _ hi (by omega) rfl
    obtain ⟨a', c', rfl, h3⟩ := Rd_I.1 h2
    exact ⟨a', c', h1, h3⟩
theorem fitD_CS {d : D} (h : Fit (.l [.i, .l [.i]]) d) : ∃ rs, d = dCS rs := by
  obtain ⟨rows, rfl, hr⟩ := h
  have key : ∀ rows : List (List D), (∀ r, r ∈ rows → FitL [.i, .l [.i]] r) → ∃ rs : List Cfg, rows.flatten = rs.flatMap Cfg.ds := by
    intro rows
    induction rows with
    | nil => intro _; exact ⟨[], rfl⟩
    | cons r rows ih =>
      intro h
      obtain ⟨rs, e⟩ := ih (fun r hr => h r (by simp [hr]))
      obtain ⟨_, r0, e0, ⟨n0, rfl⟩, h0⟩ := h r (by simp)
      subst e0
      obtain ⟨_, r1, e1, f1, h1⟩ := h0
      subst e1
      obtain ⟨n1, rfl⟩ := fitD_I f1
      rw [show r1 = [] from h1]
      exact ⟨⟨n0, n1⟩ :: rs, by simp [e, Cfg.ds]⟩
  obtain ⟨rs, e⟩ := key rows hr
  exact ⟨rs, by rw [e]; rfl⟩
theorem fit_dCS (rs : List Cfg) : Fit (.l [.i, .l [.i]]) (dCS rs) := by
  refine ⟨rs.map Cfg.ds, ?_, fun r hr => ?_⟩
  · simp only [dCS]; congr 1
  · obtain ⟨x, _, rfl⟩ := List.mem_map.1 hr
    exact ⟨_, _, rfl, ⟨_, rfl⟩, ⟨_, _, rfl, fit_dI _, rfl⟩⟩
end Go.Proofs.YtbnikblhnibgiaaDoor
