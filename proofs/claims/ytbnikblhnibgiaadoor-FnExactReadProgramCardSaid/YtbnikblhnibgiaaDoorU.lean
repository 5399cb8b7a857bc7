/- A block that is filled element by element with data of their own; the laws' functions on lists of lists. -/
import Derived.Test.YtbnikblhnibgiaaDoorK
namespace Go.Proofs.YtbnikblhnibgiaaDoor
open Go.RowKit

theorem OwL.setCell {w : World} : ∀ (ds : List D) (g o : Nat) (F : List Nat), OwL w ds g o F → g ∉ F → ∀ (i : Nat) (u : Value), o + ds.length ≤ i → OwL (w.setCell ⟨g, i, none⟩ u) ds g o F
  | [], _, _, _, r, _, _, _, _ => r
  | d :: ds, g, o, F, r, hg, i, u, hi => by
    obtain ⟨v, F1, F2, hc, hf, hd, hr, hF⟩ := r
    subst hF
    simp only [List.length_cons] at hi
    refine ⟨v, F1, F2, ?_, ?_, Ow.setCell hd (by intro h; exact hg (List.mem_append_left _ h)) u, OwL.setCell ds g (o + 1) F2 hr (fun h => hg (by simp [h])) i u (by omega), rfl⟩
    · rw [World.cell?_setCell_other _ _ _ _ (by intro e; simp at e <;> omega)]; exact hc
    · rw [World.frozen?_setCell]; exact hf
theorem OwL.snoc {w : World} {d : D} {v : Value} {F' : List Nat} : ∀ (ds : List D) (g o : Nat) (F : List Nat), OwL w ds g o F → w.cell? ⟨g, o + ds.length, none⟩ = some v → w.frozen? ⟨g, o + ds.length, none⟩ = false → Ow w d v F' → OwL w (ds ++ [d]) g o (F ++ F')
  | [], g, o, F, r, hc, hf, hd => by
    have r' : F = [] := r
    subst r'
    exact ⟨v, F', [], by simpa using hc, by simpa using hf, hd, rfl, by simp⟩
  | d0 :: ds, g, o, F, r, hc, hf, hd => by
    obtain ⟨v0, F1, F2, hc0, hf0, hd0, hr, hF⟩ := r
    subst hF
    refine ⟨v0, F1, F2 ++ F', hc0, hf0, hd0, OwL.snoc ds g (o + 1) F2 hr ?_ ?_ hd, by simp⟩
    · rw [show o + 1 + ds.length = o + (d0 :: ds).length from by simp; omega]; exact hc
    · rw [show o + 1 + ds.length = o + (d0 :: ds).length from by simp; omega]; exact hf
theorem OwL.below {w w' : World} {ds : List D} {g o : Nat} {F : List Nat} (h : OwL w ds g o F) (hb : Below w.heap.size w w') (hg : g < w.heap.size) : OwL w' ds g o F :=
  OwL.stable ds g o F (hb.block g hg) (fun k hk => hb.block k (OwL.lt ds g o F h k hk)) h
/-- Block g (made since w) holds the data ds in its first cells, each in memory of its own; n cells can be written. -/
structure Fil (w wr : World) (g n : Nat) (ds : List D) (F : List Nat) : Prop where
  below : Below w.heap.size w wr
  base : w.heap.size ≤ g
  lt : g < wr.heap.size
  own : OwL wr ds g 0 F
  out : g ∉ F
  nodup : F.Nodup
  fresh : ∀ x, x ∈ F → w.heap.size ≤ x
  has : ∀ i, i < n → ∃ v, wr.cell? ⟨g, i, none⟩ = some v
  free : ∀ i, wr.frozen? ⟨g, i, none⟩ = false
theorem Fil.carry {w wr w' : World} {g n : Nat} {ds : List D} {F : List Nat} (h : Fil w wr g n ds F) (hb : Below wr.heap.size wr w') : Fil w w' g n ds F := by
  have e : ∀ i, w'.cell? ⟨g, i, none⟩ = wr.cell? ⟨g, i, none⟩ := fun i => hb.cell (p := ⟨g, i, none⟩) h.lt
  exact ⟨bnext h.below hb (Nat.le_refl _), h.base, Nat.lt_of_lt_of_le h.lt hb.size, h.own.below hb h.lt, h.out, h.nodup, h.fresh, fun i hi => by rw [e]; exact h.has i hi, fun i => by rw [hb.frozen (p := ⟨g, i, none⟩) h.lt]; exact h.free i⟩
/-- One datum more. -/
theorem Fil.next {w wr w' : World} {g n : Nat} {ds : List D} {F : List Nat} {d : D} {v : Value} {F' : List Nat} (h : Fil w wr g n ds F) (hb : Below wr.heap.size wr w') (ho : Ow w' d v F') (hn : F'.Nodup) (hl : ∀ x, x ∈ F' → wr.heap.size ≤ x) (hk : ds.length < n) :
    Fil w (w'.setCell ⟨g, ds.length, none⟩ v) g n (ds ++ [d]) (F ++ F') := by
  have hc := h.carry hb
  have hg' : g ∉ F' := fun e => by have := hl g e; have := h.lt; omega
  obtain ⟨u, hu⟩ := hc.has _ hk
  refine ⟨hc.below.setCell hc.base _, hc.base, by rw [show (w'.setCell ⟨g, ds.length, none⟩ v).heap.size = w'.heap.size from (Exc.setCell w' ⟨g, ds.length, none⟩ v).size]; exact hc.lt, ?_, ?_, ?_, ?_, fun i hi => ?_, fun i => by rw [World.frozen?_setCell]; exact hc.free i⟩
  · exact OwL.snoc ds g 0 F (OwL.setCell ds g 0 F hc.own hc.out _ _ (by omega)) (by rw [Nat.zero_add]; exact World.cell?_setCell_same w' _ _ hu) (by rw [World.frozen?_setCell]; exact hc.free _) (Ow.setCell ho hg' v)
  · intro e; rcases List.mem_append.1 e with e | e
    · exact hc.out e
    · exact hg' e
  · refine List.nodup_append.2 ⟨hc.nodup, hn, fun a ha b hb' e => ?_⟩
    subst e
    have h1 := OwL.lt ds g 0 F h.own a ha
    have h2 := hl a hb'
    omega
  · intro x hx; rcases List.mem_append.1 hx with hx | hx
    · exact hc.fresh x hx
    · have := hl x hx; have := h.below.size; omega
  · by_cases e : i = ds.length
    · subst e; exact ⟨v, World.cell?_setCell_same w' _ _ hu⟩
    · obtain ⟨u', hu'⟩ := hc.has i hi
      exact ⟨u', by rw [World.cell?_setCell_other _ _ _ _ (by intro e'; simp at e' <;> omega)]; exact hu'⟩
theorem Fil.start {E : Nat} {w w0 : World} {n c : Nat} {z : Value} (h : Bld E w0 w.heap.size (.slice (some ⟨w.heap.size, 0, none⟩) n c) (List.replicate n z)) (hb : Below w.heap.size w w0) (hz : w.heap.size < w0.heap.size) : Fil w w0 w.heap.size n [] [] :=
  ⟨hb, Nat.le_refl _, hz, rfl, by simp, by simp, by simp, fun i hi => ⟨z, h.cell (by simp [hi])⟩, fun i => h.free i⟩
theorem Fil.ret {w wr : World} {g n : Nat} {ds : List D} {F : List Nat} (h : Fil w wr g n ds F) (hn : ds.length = n) (hm : n ≤ maxLen) : RetD w (.l 1 ds) (.returned (.slice (some ⟨g, 0, none⟩) n n)) wr := by
  by_cases e : ds = []
  · subst e
    simp at hn; subst hn
    exact ⟨_, [], rfl, h.below, Ow_empty _ _ _ _, by simp, by simp⟩
  · refine ⟨_, g :: F, rfl, h.below, ⟨_, n, n, rfl, by omega, hm, .inr ⟨g, 0, F, rfl, ⟨e, Nat.le_refl _⟩, rfl, h.own⟩⟩, List.nodup_cons.2 ⟨h.out, h.nodup⟩, fun x hx => ?_⟩
    rcases List.mem_cons.1 hx with rfl | hx
    · exact h.base
    · exact h.fresh x hx
theorem take_succ_II {xss : List (List Int)} {k : Nat} (h : k < xss.length) : (xss.take k).map dI ++ [dI (nthR xss k)] = (xss.take (k + 1)).map dI := by
  rw [nthR_lt h, List.take_succ_eq_append_getElem h, List.map_append]; rfl
theorem SlII.any {S : Nat → Prop} {w : World} {a : Option Addr} {xs : List (List Int)} (h : SlII S w a xs) : SlII Any w a xs := ⟨h.len, fun h0 => ⟨trivial, (h.ptr h0).2⟩, fun i hi => by obtain ⟨a', c', h1, h2⟩ := h.cell i hi; exact ⟨a', c', h1, h2.any⟩⟩
theorem Ow.valII {w : World} {xs : List (List Int)} {v : Value} {F : List Nat} (h : Ow w (dII xs) v F) : ∃ a c, v = .slice a xs.length c := by
  obtain ⟨a, c, e, _⟩ := Rd_II.1 (Ow.rd _ _ _ h); exact ⟨a, c, e⟩
theorem Ow.argII {w : World} {xs : List (List Int)} {a : Option Addr} {n c : Nat} {F : List Nat} (h : Ow w (dII xs) (.slice a n c) F) : SlII Any w a xs := by
  obtain ⟨a', c', e, h'⟩ := Rd_II.1 (Ow.rd _ _ _ h); cases e; exact h'.any
/-- The law's measure of an argument: what is left of left; if that isn't below 0, P. -/
def RetSz (w : World) (left : Int) (p : Prop) (e : Ending) (w' : World) : Prop := ∃ L : Int, e = .returned (.int .i64 L) ∧ Below w.heap.size w w' ∧ -1 ≤ L ∧ L ≤ left ∧ (0 ≤ L → p)
def fitI (left : Int) (xs : List Int) : Prop := (xs.length : Int) ≤ left
def fitII (left : Int) (xs : List (List Int)) : Prop := (xs.length : Int) ≤ left ∧ ∀ j, j < xs.length → ((nthR xs j).length : Int) ≤ left
/- The laws' functions on struct values whose fields are numbers and slices: measure, copy, compare. Written by structgen.py. -/
theorem fitI.mono {l m : Int} {xs : List Int} (h : fitI l xs) (hl : l ≤ m) : fitI m xs := by unfold fitI at *; omega
theorem fitII.mono {l m : Int} {xs : List (List Int)} (h : fitII l xs) (hl : l ≤ m) : fitII m xs := ⟨by have := h.1; omega, fun j hj => by have := h.2 j hj; omega⟩
theorem fitI.to {xs : List Int} (h : fitI 1048576 xs) : xs.length ≤ 4294967296 := by unfold fitI at h; omega
theorem fitII.to {xs : List (List Int)} (h : fitII 1048576 xs) : xs.length ≤ 4294967296 ∧ ∀ j, j < xs.length → (nthR xs j).length ≤ 4294967296 := ⟨by have := h.1; omega, fun j hj => by have := h.2 j hj; omega⟩
theorem Ow.box {w : World} {d : D} {v : Value} {F : List Nat} {B : Nat} (h : Ow w d v F) (hF : ∀ g, g ∈ F → B < g) (i : Nat) (u : Value) : Ow (w.setCell ⟨B, i, none⟩ u) d v F :=
  Ow.setCell h (fun hg => Nat.lt_irrefl _ (hF _ hg)) u
/-- The values hold the data, one by one, in the blocks F. -/
def OwA (w : World) : List D → List Value → List Nat → Prop
  | [], [], F => F = []
  | d :: ds, v :: vs, F => ∃ F1 F2, Ow w d v F1 ∧ OwA w ds vs F2 ∧ F = F1 ++ F2
  | _, _, _ => False
/-- The call returns a struct whose fields' data lie in memory of their own. -/
def RetA (w : World) (ds : List D) (e : Ending) (w' : World) : Prop := ∃ vs F, e = .returned (.agg ⟨vs⟩) ∧ Below w.heap.size w w' ∧ OwA w' ds vs F ∧ F.Nodup ∧ ∀ g, g ∈ F → w.heap.size ≤ g
theorem nodup_next {F G : List Nat} (B : Nat) (h1 : F.Nodup) (h2 : G.Nodup) (hF : ∀ g, g ∈ F → g < B) (hG : ∀ g, g ∈ G → B ≤ g) : (F ++ G).Nodup :=
  List.nodup_append.2 ⟨h1, h2, fun a ha b hb e => by subst e; have := hF a ha; have := hG a hb; omega⟩
