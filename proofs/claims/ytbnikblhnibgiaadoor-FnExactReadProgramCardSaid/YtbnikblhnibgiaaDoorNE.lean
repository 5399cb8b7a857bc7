/- What the library's functions tell: cutting, numbers; what must lie in memory for them. -/
import Derived.Test.YtbnikblhnibgiaaDoorNA
import Derived.Test.YtbnikblhnibgiaaDoorSHL
import Derived.Test.YtbnikblhnibgiaaDoorTW
import Derived.ShapedOpen
import Derived.HandedShaped
import Derived.Lib.SmallJoins
namespace Go.Proofs.YtbnikblhnibgiaaDoor
open Go.RowKit
/-- The cells and the table that the library reads. -/
structure LibOk (w : World) : Prop where
  max : ∃ m, w.cell? ⟨2, 0, none⟩ = some (.int .i64 m)
  syn : ∃ ev, w.cell? ⟨0, 0, none⟩ = some ev ∧ (ev = .nilIface ∨ ∃ te pe, ev = .iface te pe)
  rng : ∃ ev, w.cell? ⟨1, 0, none⟩ = some ev ∧ (ev = .nilIface ∨ ∃ te pe, ev = .iface te pe)
  pow : PowAt w
theorem cell_lt {w : World} {g i : Nat} {v : Value} (h : w.cell? ⟨g, i, none⟩ = some v) : g < w.heap.size := by
  by_cases e : g < w.heap.size
  · exact e
  · simp [World.cell?, Array.getElem?_eq_none (Nat.le_of_not_lt e)] at h
theorem LibOk.below {w w' : World} (h : LibOk w) (hb : Below w.heap.size w w') : LibOk w' := by
  obtain ⟨⟨m, h1⟩, ⟨e1, h2, h2'⟩, ⟨e2, h3, h3'⟩, h4⟩ := h
  exact ⟨⟨m, by rw [bcell1 hb (cell_lt h1)]; exact h1⟩, ⟨e1, by rw [bcell1 hb (cell_lt h2)]; exact h2, h2'⟩, ⟨e2, by rw [bcell1 hb (cell_lt h3)]; exact h3, h3'⟩, h4.below hb⟩
theorem parse_c (s : ByteArray) (hs : s.size ≤ 2097152) (w : World) (h : LibOk w) :
    Calls Tryd.prog 45 #[.string s, .int .i64 10, .int .i64 64] w (fun e w' => ∃ x, e = .returned (.tuple #[.int .i64 (pvS s.data.toList), x]) ∧ Below w.heap.size w w') := by
  cases hp : Lib.parseIntB 64 s.data.toList with
  | ok v =>
    refine (Tryd.strconv_ParseInt_10_at64_ok s (by omega) v hp w).mono ?_
    rintro e w' ⟨rfl, hw⟩
    refine ⟨_, by rw [pvS, hp], ?_⟩
    rcases hw with rfl | ⟨t, rfl⟩
    · exact Below.refl _ _
    · exact Go.Joins.below_bytesWorld _ _ _ _ (Nat.le_refl _)
  | «syntax» =>
    obtain ⟨ev, h1, h2⟩ := h.syn
    refine (Tryd.strconv_ParseInt_10_at64_syntax s (by omega) hp ev w h1 h2).mono ?_
    rintro e w' ⟨N, rfl, _, _, hb⟩
    exact ⟨_, by rw [pvS, hp], hb⟩
  | range =>
    obtain ⟨ev, h1, h2⟩ := h.rng
    refine (Tryd.strconv_ParseInt_10_at64_range s (by omega) hp ev w h1 h2).mono ?_
    rintro e w' ⟨N, rfl, _, _, hb⟩
    exact ⟨_, by rw [pvS, hp], hb⟩
theorem split_c (s : ByteArray) (c : UInt8) (hs : s.size ≤ 2097152) (w : World) (h : LibOk w) :
    Calls Tryd.prog 46 #[.string s, .string ⟨#[c]⟩] w (fun e w' => ∃ ws : List ByteArray, ws.map (·.data.toList) = cutL c s.data.toList ∧ 1 ≤ ws.length ∧ ws.length ≤ s.size + 1 ∧
      e = .returned (.slice (some ⟨w.heap.size, 0, none⟩) ws.length ws.length) ∧ w' = w.alloc (.cells (ws.map Value.string).toArray 9)) := by
  obtain ⟨m, hm⟩ := h.max
  refine (Tryd.strings_Split s ⟨#[c]⟩ m w (by omega) hm (Nat.le_refl 1)).mono ?_
  rintro e w' ⟨rfl, rfl⟩
  have hl := Lib.splitB_all ⟨#[c]⟩ (Nat.le_refl 1) 0 _ s rfl
  have hle := Lib.countB_le ⟨#[c]⟩ (Nat.le_refl 1) _ s (Nat.le_refl _)
  refine ⟨Lib.splitB ⟨#[c]⟩ 0 (Lib.countB s ⟨#[c]⟩) s, ?_, by omega, by omega, by rw [hl], rfl⟩
  rw [Lib.splitB_data]
  exact split_cut c s.data.toList
end Go.Proofs.YtbnikblhnibgiaaDoor
