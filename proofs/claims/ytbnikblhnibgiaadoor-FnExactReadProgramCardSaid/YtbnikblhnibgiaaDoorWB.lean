/- Arguments of any shape, opened. -/
import Derived.Test.YtbnikblhnibgiaaDoorYB
namespace Go.Proofs.YtbnikblhnibgiaaDoor
open Go.ChangeShapes Go.WideShapes Go.ChangeAt Go.RowKit

theorem cnt_le_vol {es : List Sh} {d : D} (h : Fit (.l es) d) : cnt d ≤ vol d := by
  obtain ⟨rows, rfl, _⟩ := h
  exact cntL_le _
/-- A parameter that is a struct. -/
theorem open_A {H : Type} {enc : TypeId × Value → H} {P : Program} {W : World} {T : TypeId} {fs : Array Field} (es : List Sh) (hT : P.underlying T = some (.struct fs)) (hS : shapeOf P 6 T = some es) {v : Value} {d : DataW H} {p : List MemPlace} {base : Nat}
    (hval : Value.okWide P W .any base T v) (h : DataW.Trod enc P W 0 (fun _ => true) true T v d p) : ∃ (vs : List Value) (ds : List D), v = .agg ⟨vs⟩ ∧ FitL es ds ∧ RdAll (· < W.heap.size) W ds vs := by
  obtain ⟨⟨cs⟩, rfl, _⟩ := okWide_struct hT hval
  obtain ⟨fuel, hf⟩ := h
  obtain ⟨ds, h1, h2⟩ := trod_rd 6 fuel T _ _ _ hS hf
  exact ⟨cs, ds, rfl, h1, by simpa only [Value.cells] using h2⟩
/-- A parameter that is a slice. -/
theorem open_L {H : Type} {enc : TypeId × Value → H} {P : Program} {W : World} {T E : TypeId} {es : List Sh} (hT : P.underlying T = some (.slice E)) (hS : shapeOf P 6 T = some [.l es]) {v : Value} {d : DataW H} {p : List MemPlace} {base : Nat}
    (hval : Value.okWide P W .any base T v) (h : DataW.Trod enc P W 0 (fun _ => true) true T v d p) : ∃ d : D, Fit (.l es) d ∧ Rd (· < W.heap.size) W d v := by
  obtain ⟨a, n, c, rfl⟩ := okWide_slice hT hval
  obtain ⟨fuel, hf⟩ := h
  obtain ⟨ds, h1, h2⟩ := trod_rd 6 fuel T _ _ _ hS hf
  obtain ⟨d0, r0, rfl, f0, h3⟩ := h1
  rw [show r0 = [] from h3] at h2
  obtain ⟨v0, vr0, e0, hv0, _⟩ := h2
  simp only [Value.cells] at e0
  refine ⟨d0, f0, ?_⟩
  have : v0 = .slice a n c := by
    have := congrArg (·[0]?) e0
    simpa using this.symm
  rw [← this]; exact hv0
/-- A parameter that is a text. -/
theorem open_S {H : Type} {enc : TypeId × Value → H} {P : Program} {W : World} {T : TypeId} (hT : P.underlying T = some .string) {v : Value} {d : DataW H} {p : List MemPlace} {base : Nat}
    (hval : Value.okWide P W .any base T v) (h : DataW.Trod enc P W 0 (fun _ => true) true T v d p) : ∃ s, v = .string s ∧ s.size ≤ maxLen := by
  obtain ⟨s, rfl⟩ := okWide_string hT hval
  obtain ⟨fuel, hf⟩ := h
  cases fuel with
  | zero => simp [DataW.trod] at hf
  | succ fuel =>
    obtain ⟨s', h1, _, h3⟩ := DataW.trod_string hT hf
    have : s = s' := by
      have := congrArg (·[0]?) h1
      simpa [Value.cells] using this
    subst this
    exact ⟨s, rfl, h3⟩
end Go.Proofs.YtbnikblhnibgiaaDoor
