/- Rules of systems, as data. Written by rowtype.py. No program is in sight. -/
import Derived.Test.YtncndnholheemaaWB
namespace Go.Proofs.Ytncndnholheemaa
open Go.RowKit

/-- What goes into a cell. -/
structure Inn where
  cell : Int
  bag : List Int
def Inn.ds (r : Inn) : List D := [.i r.cell, dI r.bag]
def zInn : Inn := ⟨0, []⟩
def nthInn (rs : List Inn) (i : Nat) : Inn := rs.getD i zInn
theorem nthInn_lt {rs : List Inn} {i : Nat} (h : i < rs.length) : nthInn rs i = rs[i] := by simp [nthInn, h]
theorem nthInn_get {rs : List Inn} {i : Nat} (h : i < rs.length) : rs[i]? = some (nthInn rs i) := by simp [nthInn, h]
def dInn (rs : List Inn) : D := .l 2 (rs.flatMap Inn.ds)
/-- The cells of a list of them. -/
structure SlInn (S : Nat → Prop) (w : World) (a : Option Addr) (rs : List Inn) : Prop where
  len : rs.length ≤ maxLen
  ptr : 0 < rs.length → ∃ g o, a = some ⟨g, o, none⟩
  c0 : ∀ i, i < rs.length → w.cell? (adr a (i * 2)) = some (.int .i64 (nthInn rs i).cell)
  c1 : ∀ i, i < rs.length → ∃ a' c', w.cell? (adr a (i * 2 + 1)) = some (.slice a' (nthInn rs i).bag.length c') ∧ SlI S w a' (nthInn rs i).bag
theorem dInn_len (rs : List Inn) : (rs.flatMap Inn.ds).length = rs.length * 2 := row_len Inn.ds 2 (fun _ => rfl) rs
theorem Rd_Inn {S : Nat → Prop} {w : World} {rs : List Inn} {v : Value} (h : Rd S w (dInn rs) v) : ∃ a c, v = .slice a rs.length c ∧ SlInn S w a rs := by
  obtain ⟨a, c, rfl, hm, hp, HG⟩ := h.row (dInn_len rs) (by omega)
  have key : ∀ i j d, i < rs.length → j < 2 → (nthInn rs i).ds[j]? = some d → ∃ u, w.cell? (adr a (i * 2 + j)) = some u ∧ Rd S w d u := fun i j d hi hj hd => HG.out w (Below.refl _ _) _ _ (by rw [row_get Inn.ds 2 (fun _ => rfl) rs i j _ (nthInn_get hi) hj]; exact hd)
  refine ⟨a, c, rfl, hm, hp, fun i hi => ?_, fun i hi => ?_⟩
  · obtain ⟨u, h1, h2⟩ := key i 0 _ hi (by omega) rfl
    rw [show u = _ from h2] at h1; exact h1
  · obtain ⟨u, h1, h2⟩ := key i 1 _ hi (by omega) rfl
    obtain ⟨a', c', rfl, h3⟩ := Rd_I.1 h2
    exact ⟨a', c', h1, h3⟩
theorem fitD_Inn {d : D} (h : Fit (.l [.i, .l [.i]]) d) : ∃ rs, d = dInn rs := by
  obtain ⟨rows, rfl, hr⟩ := h
  have key : ∀ rows : List (List D), (∀ r, r ∈ rows → FitL [.i, .l [.i]] r) → ∃ rs : List Inn, rows.flatten = rs.flatMap Inn.ds := by
    intro rows
    induction rows with
    | nil => intro _; exact ⟨[], rfl⟩
    | cons r rows ih =>
      intro h
      obtain ⟨rs, e⟩ := ih (fun r hr => h r (by simp [hr]))
      obtain ⟨_, r0, e0, ⟨n0, rfl⟩, h0⟩ := h r (by simp)
      subst e0
      obtain ⟨_, r1, e1, f1, h1⟩ := h0
      subst e1
      obtain ⟨n1, rfl⟩ := fitD_I f1
      rw [show r1 = [] from h1]
      exact ⟨⟨n0, n1⟩ :: rs, by simp [e, Inn.ds]⟩
  obtain ⟨rs, e⟩ := key rows hr
  exact ⟨rs, by rw [e]; rfl⟩
theorem fit_dInn (rs : List Inn) : Fit (.l [.i, .l [.i]]) (dInn rs) := by
  refine ⟨rs.map Inn.ds, ?_, fun r hr => ?_⟩
  · simp only [dInn]; congr 1
  · obtain ⟨x, _, rfl⟩ := List.mem_map.1 hr
    exact ⟨_, _, rfl, ⟨_, rfl⟩, ⟨_, _, rfl, fit_dI _, rfl⟩⟩
/-- A rule of a system. -/
structure Rul where
  cell : Int
  rank : Int
  need : List Int
  have_ : List Int
  lack : List Int
  here : List Int
  out : List Int
  into : List Inn
  melts : Bool
def Rul.ds (r : Rul) : List D := [.i r.cell, .i r.rank, dI r.need, dI r.have_, dI r.lack, dI r.here, dI r.out, dInn r.into, .b r.melts]
def zRul : Rul := ⟨0, 0, [], [], [], [], [], [], false⟩
def nthRul (rs : List Rul) (i : Nat) : Rul := rs.getD i zRul
theorem nthRul_lt {rs : List Rul} {i : Nat} (h : i < rs.length) : nthRul rs i = rs[i] := by simp [nthRul, h]
theorem nthRul_get {rs : List Rul} {i : Nat} (h : i < rs.length) : rs[i]? = some (nthRul rs i) := by simp [nthRul, h]
def dRul (rs : List Rul) : D := .l 9 (rs.flatMap Rul.ds)
/-- The cells of a list of them. -/
structure SlRul (S : Nat → Prop) (w : World) (a : Option Addr) (rs : List Rul) : Prop where
  len : rs.length ≤ maxLen
  ptr : 0 < rs.length → ∃ g o, a = some ⟨g, o, none⟩
  c0 : ∀ i, i < rs.length → w.cell? (adr a (i * 9)) = some (.int .i64 (nthRul rs i).cell)
  c1 : ∀ i, i < rs.length → w.cell? (adr a (i * 9 + 1)) = some (.int .i64 (nthRul rs i).rank)
  c2 : ∀ i, i < rs.length → ∃ a' c', w.cell? (adr a (i * 9 + 2)) = some (.slice a' (nthRul rs i).need.length c') ∧ SlI S w a' (nthRul rs i).need
  c3 : ∀ i, i < rs.length → ∃ a' c', w.cell? (adr a (i * 9 + 3)) = some (.slice a' (nthRul rs i).have_.length c') ∧ SlI S w a' (nthRul rs i).have_
  c4 : ∀ i, i < rs.length → ∃ a' c', w.cell? (adr a (i * 9 + 4)) = some (.slice a' (nthRul rs i).lack.length c') ∧ SlI S w a' (nthRul rs i).lack
  c5 : ∀ i, i < rs.length → ∃ a' c', w.cell? (adr a (i * 9 + 5)) = some (.slice a' (nthRul rs i).here.length c') ∧ SlI S w a' (nthRul rs i).here
  c6 : ∀ i, i < rs.length → ∃ a' c', w.cell? (adr a (i * 9 + 6)) = some (.slice a' (nthRul rs i).out.length c') ∧ SlI S w a' (nthRul rs i).out
  c7 : ∀ i, i < rs.length → ∃ a' c', w.cell? (adr a (i * 9 + 7)) = some (.slice a' (nthRul rs i).into.length c') ∧ Rd S w (dInn (nthRul rs i).into) (.slice a' (nthRul rs i).into.length c')
  c8 : ∀ i, i < rs.length → w.cell? (adr a (i * 9 + 8)) = some (.bool (nthRul rs i).melts)
theorem dRul_len (rs : List Rul) : (rs.flatMap Rul.ds).length = rs.length * 9 := row_len Rul.ds 9 (fun _ => rfl) rs
theorem Rd_Rul {S : Nat → Prop} {w : World} {rs : List Rul} {v : Value} (h : Rd S w (dRul rs) v) : ∃ a c, v = .slice a rs.length c ∧ SlRul S w a rs := by
  obtain ⟨a, c, rfl, hm, hp, HG⟩ := h.row (dRul_len rs) (by omega)
  have key : ∀ i j d, i < rs.length → j < 9 → (nthRul rs i).ds[j]? = some d → ∃ u, w.cell? (adr a (i * 9 + j)) = some u ∧ Rd S w d u := fun i j d hi hj hd => HG.out w (Below.refl _ _) _ _ (by rw [row_get Rul.ds 9 (fun _ => rfl) rs i j _ (nthRul_get hi) hj]; exact hd)
  refine ⟨a, c, rfl, hm, hp, fun i hi => ?_, fun i hi => ?_, fun i hi => ?_, fun i hi => ?_, fun i hi => ?_, fun i hi => ?_, fun i hi => ?_, fun i hi => ?_, fun i hi => ?_⟩
  · obtain ⟨u, h1, h2⟩ := key i 0 _ hi (by omega) rfl
    rw [show u = _ from h2] at h1; exact h1
  · obtain ⟨u, h1, h2⟩ := key i 1 _ hi (by omega) rfl
    rw [show u = _ from h2] at h1; exact h1
  · obtain ⟨u, h1, h2⟩ := key i 2 _ hi (by omega) rfl
    obtain ⟨a', c', rfl, h3⟩ := Rd_I.1 h2
    exact ⟨a', c', h1, h3⟩
  · obtain ⟨u, h1, h2⟩ := key i 3 _ hi (by omega) rfl
    obtain ⟨a', c', rfl, h3⟩ := Rd_I.1 h2
    exact ⟨a', c', h1, h3⟩
  · obtain ⟨u, h1, h2⟩ := key i 4 _ hi (by omega) rfl
    obtain ⟨a', c', rfl, h3⟩ := Rd_I.1 h2
    exact ⟨a', c', h1, h3⟩
  · obtain ⟨u, h1, h2⟩ := key i 5 _ hi (by omega) rfl
    obtain ⟨a', c', rfl, h3⟩ := Rd_I.1 h2
    exact ⟨a', c', h1, h3⟩
  · obtain ⟨u, h1, h2⟩ := key i 6 _ hi (by omega) rfl
    obtain ⟨a', c', rfl, h3⟩ := Rd_I.1 h2
    exact ⟨a', c', h1, h3⟩
  · obtain ⟨u, h1, h2⟩ := key i 7 _ hi (by omega) rfl
    obtain ⟨a', c', rfl, _⟩ := Rd_Inn h2
    exact ⟨a', c', h1, h2⟩
  · obtain ⟨u, h1, h2⟩ := key i 8 _ hi (by omega) rfl
    rw [show u = _ from h2] at h1; exact h1
theorem fitD_Rul {d : D} (h : Fit (.l [.i, .i, .l [.i], .l [.i], .l [.i], .l [.i], .l [.i], .l [.i, .l [.i]], .b]) d) : ∃ rs, d = dRul rs := by
  obtain ⟨rows, rfl, hr⟩ := h
  have key : ∀ rows : List (List D), (∀ r, r ∈ rows → FitL [.i, .i, .l [.i], .l [.i], .l [.i], .l [.i], .l [.i], .l [.i, .l [.i]], .b] r) → ∃ rs : List Rul, rows.flatten = rs.flatMap Rul.ds := by
    intro rows
    induction rows with
    | nil => intro _; exact ⟨[], rfl⟩
    | cons r rows ih =>
      intro h
      obtain ⟨rs, e⟩ := ih (fun r hr => h r (by simp [hr]))
      obtain ⟨_, r0, e0, ⟨n0, rfl⟩, h0⟩ := h r (by simp)
      subst e0
      obtain ⟨_, r1, e1, ⟨n1, rfl⟩, h1⟩ := h0
      subst e1
      obtain ⟨_, r2, e2, f2, h2⟩ := h1
      subst e2
      obtain ⟨n2, rfl⟩ := fitD_I f2
      obtain ⟨_, r3, e3, f3, h3⟩ := h2
      subst e3
      obtain ⟨n3, rfl⟩ := fitD_I f3
      obtain ⟨_, r4, e4, f4, h4⟩ := h3
      subst e4
      obtain ⟨n4, rfl⟩ := fitD_I f4
      obtain ⟨_, r5, e5, f5, h5⟩ := h4
      subst e5
      obtain ⟨n5, rfl⟩ := fitD_I f5
      obtain ⟨_, r6, e6, f6, h6⟩ := h5
      subst e6
      obtain ⟨n6, rfl⟩ := fitD_I f6
      obtain ⟨_, r7, e7, f7, h7⟩ := h6
      subst e7
      obtain ⟨n7, rfl⟩ := fitD_Inn f7
      obtain ⟨_, r8, e8, ⟨n8, rfl⟩, h8⟩ := h7
      subst e8
      rw [show r8 = [] from h8]
      exact ⟨⟨n0, n1, n2, n3, n4, n5, n6, n7, n8⟩ :: rs, by simp [e, Rul.ds]⟩
  obtain ⟨rs, e⟩ := key rows hr
  exact ⟨rs, by rw [e]; rfl⟩
theorem fit_dRul (rs : List Rul) : Fit (.l [.i, .i, .l [.i], .l [.i], .l [.i], .l [.i], .l [.i], .l [.i, .l [.i]], .b]) (dRul rs) := by
  refine ⟨rs.map Rul.ds, ?_, fun r hr => ?_⟩
  · simp only [dRul]; congr 1
  · obtain ⟨x, _, rfl⟩ := List.mem_map.1 hr
    exact ⟨_, _, rfl, ⟨_, rfl⟩, ⟨_, _, rfl, ⟨_, rfl⟩, ⟨_, _, rfl, fit_dI _, ⟨_, _, rfl, fit_dI _, ⟨_, _, rfl, fit_dI _, ⟨_, _, rfl, fit_dI _, ⟨_, _, rfl, fit_dI _, ⟨_, _, rfl, fit_dInn _, ⟨_, _, rfl, ⟨_, rfl⟩, rfl⟩⟩⟩⟩⟩⟩⟩⟩⟩
end Go.Proofs.Ytncndnholheemaa
