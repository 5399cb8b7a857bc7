/- The laws' functions on lists of numbers and of bools: by shape. Written by tygen.py. -/
import Derived.Test.YtbnikblhnibgiaaDoorY
import Derived.Test.YtbnikblhnibgiaaDoorN
namespace Go.Proofs.YtbnikblhnibgiaaDoor
open Go.RowKit

theorem fitD_I {d : D} (h : Fit (.l [.i]) d) : ∃ xs, d = dI xs := by
  obtain ⟨rows, rfl, hr⟩ := h
  have key : ∀ rows : List (List D), (∀ r, r ∈ rows → FitL [.i] r) → ∃ xs : List Int, rows.flatten = xs.map .i := by
    intro rows
    induction rows with
    | nil => intro _; exact ⟨[], rfl⟩
    | cons r rows ih =>
      intro h
      obtain ⟨xs, e⟩ := ih (fun r hr => h r (by simp [hr]))
      obtain ⟨d0, r0, rfl, ⟨n0, rfl⟩, h4⟩ := h r (by simp)
      rw [show r0 = [] from h4]
      exact ⟨n0 :: xs, by simp [e]⟩
  obtain ⟨xs, e⟩ := key rows hr
  exact ⟨xs, by rw [e]; rfl⟩
theorem fitD_B {d : D} (h : Fit (.l [.b]) d) : ∃ xs, d = dB xs := by
  obtain ⟨rows, rfl, hr⟩ := h
  have key : ∀ rows : List (List D), (∀ r, r ∈ rows → FitL [.b] r) → ∃ xs : List Bool, rows.flatten = xs.map .b := by
    intro rows
    induction rows with
    | nil => intro _; exact ⟨[], rfl⟩
    | cons r rows ih =>
      intro h
      obtain ⟨xs, e⟩ := ih (fun r hr => h r (by simp [hr]))
      obtain ⟨d0, r0, rfl, ⟨n0, rfl⟩, h4⟩ := h r (by simp)
      rw [show r0 = [] from h4]
      exact ⟨n0 :: xs, by simp [e]⟩
  obtain ⟨xs, e⟩ := key rows hr
  exact ⟨xs, by rw [e]; rfl⟩
theorem fitD_II {d : D} (h : Fit (.l [.l [.i]]) d) : ∃ xs, d = dII xs := by
  obtain ⟨rows, rfl, hr⟩ := h
  have key : ∀ rows : List (List D), (∀ r, r ∈ rows → FitL [.l [.i]] r) → ∃ xs : List (List Int), rows.flatten = xs.map dI := by
    intro rows
    induction rows with
    | nil => intro _; exact ⟨[], rfl⟩
    | cons r rows ih =>
      intro h
      obtain ⟨xs, e⟩ := ih (fun r hr => h r (by simp [hr]))
      obtain ⟨d0, r0, rfl, h0, h4⟩ := h r (by simp)
      obtain ⟨n0, rfl⟩ := fitD_I h0
      rw [show r0 = [] from h4]
      exact ⟨n0 :: xs, by simp [e]⟩
  obtain ⟨xs, e⟩ := key rows hr
  exact ⟨xs, by rw [e]; rfl⟩
theorem fit_dI (xs : List Int) : Fit (.l [.i]) (dI xs) := by
  refine ⟨xs.map fun x => [.i x], ?_, fun r hr => ?_⟩
  · simp only [dI]; congr 1; induction xs with
    | nil => rfl
    | cons x xs ih => simp [ih]
  · obtain ⟨x, _, rfl⟩ := List.mem_map.1 hr
    exact ⟨_, _, rfl, ⟨x, rfl⟩, rfl⟩
theorem fit_dB (xs : List Bool) : Fit (.l [.b]) (dB xs) := by
  refine ⟨xs.map fun x => [.b x], ?_, fun r hr => ?_⟩
  · simp only [dB]; congr 1; induction xs with
    | nil => rfl
    | cons x xs ih => simp [ih]
  · obtain ⟨x, _, rfl⟩ := List.mem_map.1 hr
    exact ⟨_, _, rfl, ⟨x, rfl⟩, rfl⟩
theorem fit_dII (xs : List (List Int)) : Fit (.l [.l [.i]]) (dII xs) := by
  refine ⟨xs.map fun x => [dI x], ?_, fun r hr => ?_⟩
  · simp only [dII]; congr 1; induction xs with
    | nil => rfl
    | cons x xs ih => simp [ih]
  · obtain ⟨x, _, rfl⟩ := List.mem_map.1 hr
    exact ⟨_, _, rfl, fit_dI x, rfl⟩
theorem eqInt64S_d (d : D) (v v' : Value) (w : World) (h : Rd Any w d v) (h' : Rd Any w d v') (hf : Fit (.l [.i]) d) :
    Calls Tryd.prog 8 #[v, v'] w (RetV w (.bool true)) := by
  obtain ⟨xs, rfl⟩ := fitD_I hf
  obtain ⟨a, c, rfl, hx⟩ := Rd_I.1 h
  obtain ⟨a', c', rfl, hx'⟩ := Rd_I.1 h'
  exact (eqInt64S_c Any Any a a' c c' xs w hx hx').mono fun _ _ h => h.v
theorem markInt64S_d (d : D) (v : Value) (F : List Nat) (m : Int) (w : World) (h : Ow w d v F) (_hnd : F.Nodup) (hf : Fit (.l [.i]) d) (hv : cnt d ≤ 16777216) (m0 : 0 ≤ m) (m1 : m ≤ 34359738368) :
    Calls Tryd.prog 9 #[v, .int .i64 m] w (RetMk w F m d v) := by
  obtain ⟨xs, rfl⟩ := fitD_I hf
  obtain ⟨a, c, rfl, hcp, hx⟩ := Ow_I.1 h
  rw [cnt_dI] at hv
  refine (markInt64S_c8 F a c xs m w hcp hx (by omega) m0 m1).mono ?_
  rintro e w' ⟨rfl, h1, h2⟩
  exact ⟨by rw [cnt_dI], h1, by rw [mk_dI]; exact h2⟩
theorem heldInt64S_d (S : Nat → Prop) (d : D) (v : Value) (m : Int) (w : World) (h : Rd S w (mkD m d) v) (hf : Fit (.l [.i]) d) (hv : cnt d ≤ 16777216) (m0 : 0 ≤ m) (m1 : m ≤ 34359738368) :
    Calls Tryd.prog 10 #[v, .int .i64 m] w (RetV w (.int .i64 (m + cnt d))) := by
  obtain ⟨xs, rfl⟩ := fitD_I hf
  rw [mk_dI] at h
  obtain ⟨a, c, rfl, hx⟩ := Rd_I.1 h
  rw [cnt_dI] at hv ⊢
  rw [marks_len]
  exact (heldInt64S_c8 S a c xs.length m w hx (by omega) m0 m1).mono fun _ _ h => h.v
