/- The laws' functions on lists of numbers and of bools: by shape. Written by tygen.py. -/
import Derived.Test.YtkbhdpkheincoaaDoorY
import Derived.Test.YtkbhdpkheincoaaDoorN
namespace Go.Proofs.YtkbhdpkheincoaaDoor
open Go.RowKit

theorem fitD_I {d : D} (h : Fit (.l [.i]) d) : ∃ xs, d = dI xs := by
  obtain ⟨rows, rfl, hr⟩ := h
  have key : ∀ rows : List (List D), (∀ r, r ∈ rows → FitL [.i] r) → ∃ xs : List Int, rows.flatten = xs.map .i := by
    intro rows
    induction rows with
    | nil => intro _; exact ⟨[], rfl⟩
    | cons r rows ih =>
      intro h
      obtain ⟨xs, e⟩ := ih (fun r hr => h r (by simp [hr]))
      obtain ⟨d0, r0, rfl, ⟨n0, rfl⟩, h4⟩ := h r (by simp)
      rw [show r0 = [] from h4]
      exact ⟨n0 :: xs, by simp [e]⟩
  obtain ⟨xs, e⟩ := key rows hr
  exact ⟨xs, by rw [e]; rfl⟩
theorem fitD_B {d : D} (h : Fit (.l [.b]) d) : ∃ xs, d = dB xs := by
  obtain ⟨rows, rfl, hr⟩ := h
  have key : ∀ rows : List (List D), (∀ r, r ∈ rows → FitL [.b] r) → ∃ xs : List Bool, rows.flatten = xs.map .b := by
    intro rows
    induction rows with
    | nil => intro _; exact ⟨[], rfl⟩
    | cons r rows ih =>
      intro h
      obtain ⟨xs, e⟩ := ih (fun r hr => h r (by simp [hr]))
      obtain ⟨d0, r0, rfl, ⟨n0, rfl⟩, h4⟩ := h r (by simp)
      rw [show r0 = [] from h4]
      exact ⟨n0 :: xs, by simp [e]⟩
  obtain ⟨xs, e⟩ := key rows hr
  exact ⟨xs, by rw [e]; rfl⟩
theorem fitD_II {d : D} (h : Fit (.l [.l [.i]]) d) : ∃ xs, d = dII xs := by
  obtain ⟨rows, rfl, hr⟩ := h
  have key : ∀ rows : List (List D), (∀ r, r ∈ rows → FitL [.l [.i]] r) → ∃ xs : List (List Int), rows.flatten = xs.map dI := by
    intro rows
    induction rows with
    | nil => intro _; exact ⟨[], rfl⟩
    | cons r rows ih =>
      intro h
      obtain ⟨xs, e⟩ := ih (fun r hr => h r (by simp [hr]))
      obtain ⟨d0, r0, rfl, h0, h4⟩ := h r (by simp)
      obtain ⟨n0, rfl⟩ := fitD_I h0
      rw [show r0 = [] from h4]
      exact ⟨n0 :: xs, by simp [e]⟩
  obtain ⟨xs, e⟩ := key rows hr
  exact ⟨xs, by rw [e]; rfl⟩
theorem fit_dI (xs : List Int) : Fit (.l [.i]) (dI xs) := by
  refine ⟨xs.map fun x => [.i x], ?_, fun r hr => ?_⟩
  · simp only [dI]; congr 1; induction xs with
    | nil => rfl
    | cons x xs ih => simp [ih]
  · obtain ⟨x, _, rfl⟩ := List.mem_map.1 hr
    exact ⟨_, _, rfl, ⟨x, rfl⟩, rfl⟩
theorem fit_dB (xs : List Bool) : Fit (.l [.b]) (dB xs) := by
  refine ⟨xs.map fun x => [.b x], ?_, fun r hr => ?_⟩
  · simp only [dB]; congr 1; induction xs with
    | nil => rfl
    | cons x xs ih => simp [ih]
  · obtain ⟨x, _, rfl⟩ := List.mem_map.1 hr
    exact ⟨_, _, rfl, ⟨x, rfl⟩, rfl⟩
theorem fit_dII (xs : List (List Int)) : Fit (.l [.l [.i]]) (dII xs) := by
  refine ⟨xs.map fun x => [dI x], ?_, fun r hr => ?_⟩
  · simp only [dII]; congr 1; induction xs with
    | nil => rfl
    | cons x xs ih => simp [ih]
  · obtain ⟨x, _, rfl⟩ := List.mem_map.1 hr
    exact ⟨_, _, rfl, fit_dI x, rfl⟩
theorem szInt64S_d (S : Nat → Prop) (d : D) (v : Value) (left : Int) (w : World) (h : Rd S w d v) (hf : Fit (.l [.i]) d) (h0 : 0 ≤ left) (h1 : left ≤ 1048576) :
    Calls Tryd.prog 9 #[v, .int .i64 left] w (RetSv w left (vol d)) := by
  obtain ⟨xs, rfl⟩ := fitD_I hf
  obtain ⟨a, c, rfl, hx⟩ := Rd_I.1 h
  refine (szInt64S_c a xs.length c left w hx.len h0 h1).mono ?_
  rintro e w' ⟨rfl, rfl⟩
  refine ⟨_, rfl, Below.refl _ _, ?_, ?_, fun h => ?_⟩ <;> (try rw [vol_dI]) <;> split at * <;> omega
theorem szBoolS_d (S : Nat → Prop) (d : D) (v : Value) (left : Int) (w : World) (h : Rd S w d v) (hf : Fit (.l [.b]) d) (h0 : 0 ≤ left) (h1 : left ≤ 1048576) :
    Calls Tryd.prog 10 #[v, .int .i64 left] w (RetSv w left (vol d)) := by
  obtain ⟨xs, rfl⟩ := fitD_B hf
  obtain ⟨a, c, rfl, hx⟩ := Rd_B.1 h
  refine (szBoolS_c a xs.length c left w hx.len h0 h1).mono ?_
  rintro e w' ⟨rfl, rfl⟩
  refine ⟨_, rfl, Below.refl _ _, ?_, ?_, fun h => ?_⟩ <;> (try rw [vol_dB]) <;> split at * <;> omega
theorem toInt64S_d (S : Nat → Prop) (d : D) (v : Value) (w : World) (h : Rd S w d v) (hf : Fit (.l [.i]) d) (hv : vol d ≤ 16777216) :
    Calls Tryd.prog 14 #[v] w (RetD w d) := by
  obtain ⟨xs, rfl⟩ := fitD_I hf
  obtain ⟨a, c, rfl, hx⟩ := Rd_I.1 h
  rw [vol_dI] at hv
  exact toInt64S_c S a c xs w hx (by omega)
theorem toBoolS_d (S : Nat → Prop) (d : D) (v : Value) (w : World) (h : Rd S w d v) (hf : Fit (.l [.b]) d) (hv : vol d ≤ 16777216) :
    Calls Tryd.prog 15 #[v] w (RetD w d) := by
  obtain ⟨xs, rfl⟩ := fitD_B hf
  obtain ⟨a, c, rfl, hx⟩ := Rd_B.1 h
  rw [vol_dB] at hv
  exact toBoolS_c S a c xs w hx (by omega)
theorem eqInt64S_d (d : D) (v v' : Value) (w : World) (h : Rd Any w d v) (h' : Rd Any w d v') (hf : Fit (.l [.i]) d) :
    Calls Tryd.prog 20 #[v, v'] w (RetV w (.bool true)) := by
  obtain ⟨xs, rfl⟩ := fitD_I hf
  obtain ⟨a, c, rfl, hx⟩ := Rd_I.1 h
  obtain ⟨a', c', rfl, hx'⟩ := Rd_I.1 h'
  exact (eqInt64S_c Any Any a a' c c' xs w hx hx').mono fun _ _ h => h.v
theorem eqBoolS_d (d : D) (v v' : Value) (w : World) (h : Rd Any w d v) (h' : Rd Any w d v') (hf : Fit (.l [.b]) d) :
    Calls Tryd.prog 21 #[v, v'] w (RetV w (.bool true)) := by
  obtain ⟨xs, rfl⟩ := fitD_B hf
  obtain ⟨a, c, rfl, hx⟩ := Rd_B.1 h
  obtain ⟨a', c', rfl, hx'⟩ := Rd_B.1 h'
  exact (eqBoolS_c Any Any a a' c c' xs w hx hx').mono fun _ _ h => h.v
