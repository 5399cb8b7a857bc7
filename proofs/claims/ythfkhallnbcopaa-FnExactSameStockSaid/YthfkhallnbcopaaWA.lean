/- Arguments that are stocks, opened. -/
import Derived.Test.YthfkhallnbcopaaW
import Derived.Test.YthfkhallnbcopaaV
namespace Go.Proofs.Ythfkhallnbcopaa
open Go.ChangeShapes Go.WideShapes Go.ChangeAt Go.RowKit

theorem rows_int : ∀ (rows : List (List D)), (∀ r, r ∈ rows → FitL [.i] r) → ∃ xs : List Int, rows.flatten = xs.map .i
  | [], _ => ⟨[], rfl⟩
  | r :: rows, h => by
    obtain ⟨xs, e⟩ := rows_int rows (fun r hr => h r (by simp [hr]))
    obtain ⟨d0, r0, rfl, ⟨n0, rfl⟩, h4⟩ := h r (by simp)
    rw [show r0 = [] from h4]
    exact ⟨n0 :: xs, by simp [e]⟩
theorem fit_I {d : D} (h : Fit (.l [.i]) d) : ∃ xs, d = dI xs := by
  obtain ⟨rows, rfl, hr⟩ := h
  obtain ⟨xs, e⟩ := rows_int rows hr
  exact ⟨xs, by rw [e]; rfl⟩
theorem rows_II : ∀ (rows : List (List D)), (∀ r, r ∈ rows → FitL [.l [.i]] r) → ∃ xs : List (List Int), rows.flatten = xs.map dI
  | [], _ => ⟨[], rfl⟩
  | r :: rows, h => by
    obtain ⟨xs, e⟩ := rows_II rows (fun r hr => h r (by simp [hr]))
    obtain ⟨d0, r0, rfl, h0, h4⟩ := h r (by simp)
    obtain ⟨n0, rfl⟩ := fit_I h0
    rw [show r0 = [] from h4]
    exact ⟨n0 :: xs, by simp [e]⟩
theorem fit_II {d : D} (h : Fit (.l [.l [.i]]) d) : ∃ xs, d = dII xs := by
  obtain ⟨rows, rfl, hr⟩ := h
  obtain ⟨xs, e⟩ := rows_II rows hr
  exact ⟨xs, by rw [e]; rfl⟩
/-- What a stock's struct value is. -/
theorem openStock {w : World} {x : List (List Int)} {x1 : List Int} {vs : List Value} {F : List Nat} (h : OwA w [dII x, dI x1] vs F) : ∃ a c a1 c1, vs = [.slice a x.length c, .slice a1 x1.length c1] ∧ SlII Any w a x ∧ SlI Any w a1 x1 := by
  match vs, h with
  | [v, v1], h =>
    obtain ⟨F1, F2, h1, ⟨F3, F4, h2, _, _⟩, _⟩ := h
    obtain ⟨a, c, rfl⟩ := h1.valII
    obtain ⟨a1, c1, rfl⟩ := h2.val
    exact ⟨a, c, a1, c1, rfl, h1.argII, h2.arg⟩
/-- A parameter that is a stock. -/
theorem open_St {H : Type} {enc : TypeId × Value → H} {P : Program} {W : World} {T : TypeId} {fs : Array Field} (hT : P.underlying T = some (.struct fs)) (hS : shapeOf P 6 T = some [.l [.l [.i]], .l [.i]]) {v : Value} {d : DataW H} {p : List MemPlace} {base : Nat}
    (hval : Value.okWide P W .any base T v) (h : DataW.Trod enc P W 0 (fun _ => true) true T v d p) : ∃ a n c a1 n1 c1, v = .agg #[.slice a n c, .slice a1 n1 c1] ∧ (∃ x : List (List Int), x.length = n ∧ SlII (· < W.heap.size) W a x) ∧ ∃ x1 : List Int, x1.length = n1 ∧ SlI (· < W.heap.size) W a1 x1 := by
  obtain ⟨cs, rfl, _⟩ := okWide_struct hT hval
  obtain ⟨fuel, hf⟩ := h
  obtain ⟨ds, h1, h2⟩ := trod_rd 6 fuel T _ _ _ hS hf
  obtain ⟨d0, r0, rfl, f0, d1, r1, rfl, f1, h3⟩ := h1
  rw [show r1 = [] from h3] at h2
  obtain ⟨x, rfl⟩ := fit_II f0
  obtain ⟨x1, rfl⟩ := fit_I f1
  obtain ⟨v0, vr0, e0, hv0, v1, vr1, e1, hv1, e2⟩ := h2
  obtain ⟨a, c, k0, s0⟩ := Rd_II.1 hv0
  obtain ⟨a1, c1, k1, s1⟩ := Rd_I.1 hv1
  refine ⟨a, x.length, c, a1, x1.length, c1, ?_, ⟨x, rfl, s0⟩, x1, rfl, s1⟩
  rw [show vr1 = [] from e2, k1] at e1
  rw [k0, e1] at e0
  obtain ⟨l⟩ := cs
  simp only [Value.cells] at e0
  rw [e0]
end Go.Proofs.Ythfkhallnbcopaa
