/- The laws over bytes: what a parameter of bytes reads as; the laws' own small functions: contracts. -/
import Derived.Test.YtncndnholheemaaDR
import Derived.Test.YtncndnholheemaaWB
namespace Go.Proofs.Ytncndnholheemaa
open Go.ChangeShapes Go.WideShapes Go.ChangeAt Go.RowKit

/-- A parameter of bytes. -/
theorem open_U {H : Type} {enc : TypeId × Value → H} {P : Program} {W : World} {T E : TypeId} (hT : P.underlying T = some (.slice E)) (hE : P.underlying E = some (.int .u8)) (hc : P.cellsOf E = 1) {v : Value} {d : DataW H} {p : List MemPlace} {base : Nat}
    (hval : Value.okWide P W .any base T v) (h : DataW.Trod enc P W 0 (fun _ => true) true T v d p) : ∃ a n c, v = .slice a n c ∧ SlU (· < W.heap.size) W a n := by
  obtain ⟨a0, n0, c0, rfl⟩ := okWide_slice hT hval
  obtain ⟨fuel, hf⟩ := h
  rcases open_ints hT hE hc hf with ⟨hcs, _⟩ | ⟨a, len', cap', zs, hcs, _, hl, hm, hz, _, hcell, hwz⟩
  · simp [Value.cells] at hcs
    obtain ⟨rfl, rfl, rfl⟩ := hcs
    exact ⟨none, 0, 0, rfl, by simp [maxLen], by simp, by simp⟩
  · simp [Value.cells] at hcs
    obtain ⟨rfl, rfl, rfl⟩ := hcs
    simp only [if_true] at hz
    refine ⟨some a, n0, c0, rfl, by omega, fun h0 => ?_, fun i hi => ?_⟩
    · have g0 := hcell 0 (by omega)
      have e := spot_none g0
      exact ⟨World.block_lt_of_cell? W (a.add 0) g0, a.block, a.off, by rw [← e]⟩
    · have g0 := spot_none (hcell 0 (by omega))
      have gi := hcell i (by omega)
      have hw := hwz (zs.getD i 0) (by
        have : i < zs.length := by omega
        simp [List.getD, this])
      have h1 : IntKind.u8.min = 0 := rfl
      have h2 : IntKind.u8.max = 255 := rfl
      simp only [Lit.wf, Bool.and_eq_true, decide_eq_true_eq] at hw
      refine ⟨zs.getD i 0, by omega, by omega, ?_⟩
      rw [g0] at gi ⊢
      rw [Addr.add_lit] at gi
      exact gi
theorem SlI.anyT {S : Nat → Prop} {w : World} {a : Option Addr} {xs : List Int} (h : SlI S w a xs) : SlI Any w a xs := ⟨h.len, fun h0 => ⟨trivial, (h.ptr h0).2⟩, h.cell⟩
theorem Ow.slA {w : World} {xs : List Int} {v : Value} {F : List Nat} (h : Ow w (dI xs) v F) : ∃ a c, v = .slice a xs.length c ∧ SlI Any w a xs := by
  obtain ⟨a, c, e, hs⟩ := h.slI
  exact ⟨a, c, e, hs.anyT⟩
