/- Contracts of the laws' own functions on lists of numbers: copy, compare, mark, look at marks. -/
import Derived.Test.YtkbhdpkheincoaaDoorD
namespace Go.Proofs.YtkbhdpkheincoaaDoor
open Go.RowKit

set_option maxHeartbeats 400000 in
theorem toInt64S_c (S : Nat → Prop) (a : Option Addr) (c : Nat) (xs : List Int) (w : World) (hx : SlI S w a xs) (l1 : xs.length ≤ 4294967296) :
    Calls Tryd.prog 14 #[.slice a xs.length c] w (RetD w (dI xs)) := by
  have i1 := hx.ix tabI.under tabI.size c
  go_enter Tryd.func14, Tryd.ntmps14
  go_wp2_with (at_make; refine make_one rfl _ _ 22 rfl tabI rfl (by decide) xs.length _ _ rfl rfl rfl rfl l1 w.heap.size (Nat.le_refl _) ?_)
  intro w0 hbl0 hb0 hz0
  rw [fill_zero _ _ (fun i => .int .i64 (nth xs i))] at hbl0
  go_wp2
  go_loopw [4] (fun i wr => ∃ k : Nat, k ≤ xs.length ∧ i = .int .i64 k ∧ Below w.heap.size w wr ∧ Bld 2 wr w.heap.size (.slice (some ⟨w.heap.size, 0, none⟩) xs.length xs.length) (fill xs.length (.int .i64 0) (fun i => .int .i64 (nth xs i)) k)) (fun i _ => xs.length - (intOf i).toNat)
  case atStart => exact ⟨0, Nat.zero_le _, rfl, hb0, hbl0⟩
  case round =>
      obtain ⟨k, hk, rfl, hb, hbl⟩ := hrel
      have HB := Lib.hid hb
      have HL := Lib.hid hbl
      by_cases hlt : k < xs.length
      · have g1 := (hx.below hb).cell k hlt
        have g2 := hbl.cell (fill_at hlt)
        have g3 := hbl.free k
        clear hb hbl hbl0
        go_wp2
        go_roundw
        case rel => exact ⟨k + 1, by omega, by go_num, HB.out.setCell (by exact Nat.le_refl _) _, by have := HL.out.set k (.int .i64 (nth xs k)); rw [fill_set (g := fun i => .int .i64 (nth xs i))] at this; exact this⟩
        case measure => simp [intOf]; omega
      · clear hb hbl hbl0
        go_wp2
        go_ret
        obtain rfl : k = xs.length := by omega
        have h := HL.out
        rw [fill_ints] at h
        exact RetD.ofBld h (by unfold maxLen; omega) HB.out
set_option maxHeartbeats 400000 in
theorem eqInt64S_c (S T : Nat → Prop) (a b : Option Addr) (c c' : Nat) (xs : List Int) (w : World) (hx : SlI S w a xs) (hy : SlI T w b xs) :
    Calls Tryd.prog 20 #[.slice a xs.length c, .slice b xs.length c'] w (RetQ w (.bool true)) := by
  have l1 := hx.len
  unfold maxLen at l1
  have i1 := hx.ix tabI.under tabI.size c
  have i2 := hy.ix tabI.under tabI.size c'
  go_enter Tryd.func20, Tryd.ntmps20
  go_wp2
  go_loopw [5] (fun i wr => ∃ k n : Nat, k ≤ xs.length ∧ i = .int .i64 k ∧ wr = w.drewN n) (fun i _ => xs.length - (intOf i).toNat)
  case atStart => exact ⟨0, 0, Nat.zero_le _, rfl, rfl⟩
  case round =>
      obtain ⟨k, n, hk, rfl, rfl⟩ := hrel
      by_cases hlt : k < xs.length
      · have g1 := hx.cell k hlt
        have g2 := hy.cell k hlt
        go_wp2
        go_quiet (fail)
        go_wp2
        go_roundw
        case rel => exact ⟨k + 1, _, by omega, by go_num, rfl⟩
        case measure => simp [intOf]; omega
      · go_wp2
        go_ret
        exact ⟨rfl, n, rfl⟩
/-- Behind k marks. -/
structure Mkd (F : List Nat) (w wr : World) (a : Option Addr) (xs : List Int) (m : Int) (k : Nat) : Prop where
  exc : Exc F w wr
  done : ∀ i, i < k → wr.cell? (adr a i) = some (.int .i64 (m + i))
  rest : ∀ i, k ≤ i → i < xs.length → wr.cell? (adr a i) = some (.int .i64 (nth xs i))
  free : ∀ i, i < xs.length → wr.frozen? (adr a i) = false
theorem adr_ne {a : Option Addr} {i j : Nat} (h : i ≠ j) : adr a i ≠ adr a j := by
  intro e; simp [adr] at e; omega
theorem Mkd.next {F : List Nat} {w wr : World} {a : Option Addr} {xs : List Int} {m : Int} {k : Nat} (h : Mkd F w wr a xs m k) (hk : k < xs.length) (hF : blk a ∈ F) : Mkd F w (wr.setCell (adr a k) (.int .i64 (m + k))) a xs m (k + 1) :=
  ⟨h.exc.trans ((Exc.setCell wr (adr a k) _).wider (by intro g hg; simp at hg; subst hg; exact hF)), fun i hi => by
      by_cases e : i = k
      · subst e; exact World.cell?_setCell_same wr _ _ (h.rest i (Nat.le_refl _) hk)
      · rw [World.cell?_setCell_other _ _ _ _ (adr_ne (Ne.symm e))]; exact h.done i (by omega),
    fun i hi hx => by rw [World.cell?_setCell_other _ _ _ _ (adr_ne (by omega))]; exact h.rest i (by omega) hx,
    fun i hi => by rw [World.frozen?_setCell]; exact h.free i hi⟩
theorem szInt64S_c (a : Option Addr) (n c : Nat) (left : Int) (w : World) (hn : n ≤ maxLen) (h0 : 0 ≤ left) (h1 : left ≤ 1048576) :
    Calls Tryd.prog 9 #[.slice a n c, .int .i64 left] w (RetP w (.int .i64 (if left < n then -1 else left - n))) := by
  unfold maxLen at hn
  by_cases h : left < n
  · rw [if_pos h]
    go_enter Tryd.func9, Tryd.ntmps9
    go_wp2
    go_ret
    exact ⟨rfl, rfl⟩
  · rw [if_neg h]
    go_enter Tryd.func9, Tryd.ntmps9
    go_wp2
    go_ret
    exact ⟨rfl, rfl⟩
/-- What is left when lists have been weighed, one by one; -1 if it isn't enough. -/
def szNext (left : Int) (xs : List Int) : Int := if left < xs.length then -1 else left - xs.length
def szII (left : Int) (xs : List (List Int)) : Int := if left < xs.length then -1 else (xs.foldl (fun l r => if l < 0 then l else szNext l r) (left - xs.length))
end Go.Proofs.YtkbhdpkheincoaaDoor
