/- All bags of a size: the reference's functions. -/
import Derived.Test.YtncndnholheemaaBS
namespace Go.Proofs.Ytncndnholheemaa
open Go.RowKit

theorem capA_over {L : List (List Int)} (h : 2000 < L.length) (h2 : L.length ≤ 2001) (x : List (List Int)) : capA L x = L := by
  unfold capA; rw [List.take_append_of_le_length (by omega), List.take_of_length_le (by omega)]
theorem Bld.lower {E : TypeId} {w : World} {B B' : Nat} {v : Value} {vs : List Value} (h : Bld E w B v vs) (hB : B' ≤ B) : Bld E w B' v vs := by
  obtain ⟨h0, h2⟩ := h
  refine ⟨h0, ?_⟩
  rcases h2 with h2 | ⟨g, cap, cur, e, h1, h3⟩
  · exact .inl h2
  · exact .inr ⟨g, cap, cur, e, Nat.le_trans hB h1, h3⟩
theorem SlI.chg {w w' : World} {ad : Addr} {xs : List Int} {F : List Nat} (h : SlI Any w (some ad) xs) (hc : Chg F w w') (hn : ad.block ∉ F) : SlI Any w' (some ad) xs :=
  ⟨h.len, h.ptr, fun i hi => by
    have h1 := h.cell i hi
    have hlt := World.block_lt_of_cell? w _ h1
    simp only [adr, blk, ofs] at h1 hlt ⊢
    rw [hc.cell hlt hn]; exact h1⟩
/-- What a function that adds lists to those at gl leaves. -/
def OutPost (w : World) (B gl : Nat) (L' : List (List Int)) (G : List Nat) (E : TypeId) (e : Ending) (w' : World) : Prop :=
  e = .returned (.tuple #[]) ∧ ∃ G', Box E 1 w' B gl L'.length (L'.map dI) G' ∧ Chg (gl :: G) w w' ∧ ∀ g, g ∈ G' → g ∈ G ∨ w.heap.size ≤ g
/- All parts of a bag: the program's functions and the reference's. -/
theorem drop_nth {b : List Int} {k : Nat} (h : k < b.length) : b.drop k = nth b k :: b.drop (k + 1) := by
  rw [nth_lt h, List.drop_eq_getElem_cons h]
theorem partsTo_split (p bs : List Int) {j m : Nat} (h : j ≤ m) : ∃ rest, partsTo p bs m = partsTo p bs j ++ rest := by
  induction m with
  | zero => exact ⟨[], by rw [show j = 0 from by omega]; simp⟩
  | succ m ih =>
    by_cases e : j = m + 1
    · subst e; exact ⟨[], by simp⟩
    · obtain ⟨rest, e⟩ := ih (by omega)
      exact ⟨_, by rw [partsTo_succ, e, List.append_assoc]⟩
