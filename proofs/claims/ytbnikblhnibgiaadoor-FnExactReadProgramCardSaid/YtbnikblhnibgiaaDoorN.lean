/- Lists of bools: copied, compared, measured. -/
import Derived.Test.YtbnikblhnibgiaaDoorU
namespace Go.Proofs.YtbnikblhnibgiaaDoor
open Go.RowKit

def nthB (xs : List Bool) (i : Nat) : Bool := xs.getD i false
theorem nthB_lt {xs : List Bool} {i : Nat} (h : i < xs.length) : nthB xs i = xs[i] := by simp [nthB, h]
/-- Cells of a list of bools. -/
structure SlB (S : Nat → Prop) (w : World) (a : Option Addr) (xs : List Bool) : Prop where
  len : xs.length ≤ maxLen
  ptr : 0 < xs.length → S (blk a) ∧ ∃ g o, a = some ⟨g, o, none⟩
  cell : ∀ i, i < xs.length → w.cell? (adr a i) = some (.bool (nthB xs i))
theorem Rd_B {S : Nat → Prop} {w : World} {xs : List Bool} {v : Value} : Rd S w (dB xs) v ↔ ∃ a c, v = .slice a xs.length c ∧ SlB S w a xs := by
  constructor
  · rintro ⟨a, m, c, hv, hl, hm, hp, hr⟩
    have hl' : xs.length = m := by simpa using hl
    subst hl'
    refine ⟨a, c, hv, hm, fun h0 => ?_, fun i hi => ?_⟩
    · rcases hp with hp | hp
      · simp at hp; subst hp; simp at h0
      · exact hp
    · obtain ⟨u, hc, hu⟩ := RdL.get _ _ _ hr i (.b (nthB xs i)) (by simp [nthB, hi])
      rw [show u = _ from hu] at hc; exact hc
  · rintro ⟨a, c, rfl, h⟩
    refine ⟨a, xs.length, c, rfl, by simp, h.len, ?_, ?_⟩
    · cases xs with
      | nil => exact .inl rfl
      | cons x xs => exact .inr (h.ptr (by simp))
    · refine RdL.mk _ _ _ fun i d hd => ?_
      simp only [List.getElem?_map, Option.map_eq_some_iff] at hd
      obtain ⟨x, hx, rfl⟩ := hd
      have hi := (List.getElem?_eq_some_iff.1 hx).1
      refine ⟨_, h.cell i hi, ?_⟩
      show Value.bool (nthB xs i) = .bool x
      simp [nthB, List.getD, hx]

theorem SlB.below {S : Nat → Prop} {w w' : World} {a : Option Addr} {xs : List Bool} (h : SlB S w a xs) (hb : Below w.heap.size w w') : SlB S w' a xs := by
  obtain ⟨a', c', e, h'⟩ := Rd_B.1 ((Rd_B.2 ⟨a, 0, rfl, h⟩).below hb)
  cases e; exact h'
theorem SlB.ix {P : Program} {T E : Nat} {S : Nat → Prop} {w : World} {a : Option Addr} {xs : List Bool} (h : SlB S w a xs) (hT : P.underlying T = some (.slice E)) (hE : (P.info? E).map (·.size) = some 1)
   (c : Nat) (i : Int) (w' : World) (h0 : 0 ≤ i) (h1 : i < xs.length) : (Instr.indexAt T (.slice a xs.length c) (.int .i64 i)).run P w' = .ok (.pointer (some (adr a i.toNat))) w' := by
  rw [ix_of hT hE (fun h0 => (h.ptr h0).2) c i w' h0 h1, Nat.mul_one]
theorem eq_of_nthB {xs ys : List Bool} (hl : xs.length = ys.length) (h : ∀ j, j < xs.length → nthB xs j = nthB ys j) : xs = ys := by
  refine List.ext_getElem hl fun i h1 h2 => ?_
  have := h i h1
  rwa [nthB_lt h1, nthB_lt h2] at this
def eqB (xs ys : List Bool) : Bool := decide (xs = ys)
theorem eqB_len {xs ys : List Bool} (h : ¬ xs.length = ys.length) : eqB xs ys = false := decide_eq_false fun e => h (by rw [e])
theorem eqB_false {xs ys : List Bool} {j : Nat} (h : ¬ nthB xs j = nthB ys j) : eqB xs ys = false := decide_eq_false fun e => h (by rw [e])
theorem eqB_true {xs ys : List Bool} (hl : xs.length = ys.length) (h : ∀ j, j < xs.length → nthB xs j = nthB ys j) : eqB xs ys = true := decide_eq_true (eq_of_nthB hl h)
def fitB (left : Int) (xs : List Bool) : Prop := (xs.length : Int) ≤ left
theorem fitB.mono {l m : Int} {xs : List Bool} (h : fitB l xs) (hl : l ≤ m) : fitB m xs := by unfold fitB at *; omega
theorem fitB.to {xs : List Bool} (h : fitB 1048576 xs) : xs.length ≤ 4294967296 := by unfold fitB at h; omega
theorem SlB.any {S : Nat → Prop} {w : World} {a : Option Addr} {xs : List Bool} (h : SlB S w a xs) : SlB Any w a xs := ⟨h.len, fun h0 => ⟨trivial, (h.ptr h0).2⟩, h.cell⟩
theorem Ow.valB {w : World} {xs : List Bool} {v : Value} {F : List Nat} (h : Ow w (dB xs) v F) : ∃ a c, v = .slice a xs.length c := by
  obtain ⟨a, c, e, _⟩ := Rd_B.1 (Ow.rd _ _ _ h); exact ⟨a, c, e⟩
theorem Ow.argB {w : World} {xs : List Bool} {a : Option Addr} {n c : Nat} {F : List Nat} (h : Ow w (dB xs) (.slice a n c) F) : SlB Any w a xs := by
  obtain ⟨a', c', e, h'⟩ := Rd_B.1 (Ow.rd _ _ _ h); cases e; exact h'.any
theorem take_succ_B {xs : List Bool} {k : Nat} (h : k < xs.length) : (xs.take k).map D.b ++ [.b (nthB xs k)] = (xs.take (k + 1)).map D.b := by
  rw [nthB_lt h, List.take_succ_eq_append_getElem h, List.map_append]; rfl
