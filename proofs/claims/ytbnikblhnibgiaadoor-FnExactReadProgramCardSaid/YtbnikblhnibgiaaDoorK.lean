/- Contracts of the laws' own functions on lists of numbers: copy, compare, mark, look at marks. -/
import Derived.Test.YtbnikblhnibgiaaDoorD
namespace Go.Proofs.YtbnikblhnibgiaaDoor
open Go.RowKit

set_option maxHeartbeats 400000 in
theorem eqInt64S_c (S T : Nat → Prop) (a b : Option Addr) (c c' : Nat) (xs : List Int) (w : World) (hx : SlI S w a xs) (hy : SlI T w b xs) :
    Calls Tryd.prog 8 #[.slice a xs.length c, .slice b xs.length c'] w (RetQ w (.bool true)) := by
  have l1 := hx.len
  unfold maxLen at l1
  have i1 := hx.ix tabI.under tabI.size c
  have i2 := hy.ix tabI.under tabI.size c'
  go_enter Tryd.func8, Tryd.ntmps8
  go_wp2
  go_loopw [5] (fun i wr => ∃ k n : Nat, k ≤ xs.length ∧ i = .int .i64 k ∧ wr = w.drewN n) (fun i _ => xs.length - (intOf i).toNat)
  case atStart => exact ⟨0, 0, Nat.zero_le _, rfl, rfl⟩
  case round =>
      obtain ⟨k, n, hk, rfl, rfl⟩ := hrel
      by_cases hlt : k < xs.length
      · have g1 := hx.cell k hlt
        have g2 := hy.cell k hlt
        go_wp2
        go_quiet (fail)
        go_wp2
        go_roundw
        case rel => exact ⟨k + 1, _, by omega, by go_num, rfl⟩
        case measure => simp [intOf]; omega
      · go_wp2
        go_ret
        exact ⟨rfl, n, rfl⟩
/-- Behind k marks. -/
structure Mkd (F : List Nat) (w wr : World) (a : Option Addr) (xs : List Int) (m : Int) (k : Nat) : Prop where
  exc : Exc F w wr
  done : ∀ i, i < k → wr.cell? (adr a i) = some (.int .i64 (m + i))
  rest : ∀ i, k ≤ i → i < xs.length → wr.cell? (adr a i) = some (.int .i64 (nth xs i))
  free : ∀ i, i < xs.length → wr.frozen? (adr a i) = false
theorem adr_ne {a : Option Addr} {i j : Nat} (h : i ≠ j) : adr a i ≠ adr a j := by
  intro e; simp [adr] at e; omega
theorem Mkd.next {F : List Nat} {w wr : World} {a : Option Addr} {xs : List Int} {m : Int} {k : Nat} (h : Mkd F w wr a xs m k) (hk : k < xs.length) (hF : blk a ∈ F) : Mkd F w (wr.setCell (adr a k) (.int .i64 (m + k))) a xs m (k + 1) :=
  ⟨h.exc.trans ((Exc.setCell wr (adr a k) _).wider (by intro g hg; simp at hg; subst hg; exact hF)), fun i hi => by
      by_cases e : i = k
      · subst e; exact World.cell?_setCell_same wr _ _ (h.rest i (Nat.le_refl _) hk)
      · rw [World.cell?_setCell_other _ _ _ _ (adr_ne (Ne.symm e))]; exact h.done i (by omega),
    fun i hi hx => by rw [World.cell?_setCell_other _ _ _ _ (adr_ne (by omega))]; exact h.rest i (by omega) hx,
    fun i hi => by rw [World.frozen?_setCell]; exact h.free i hi⟩
/-- The call has marked what it was given from m on: behind it the datum reads as its marks. -/
def RetM (w : World) (F : List Nat) (m : Int) (n : Nat) (d : D) (v : Value) (e : Ending) (w' : World) : Prop := e = .returned (.int .i64 (m + n)) ∧ Exc F w w' ∧ Ow w' d v F
set_option maxHeartbeats 400000 in
theorem markInt64S_c8 (F : List Nat) (a : Option Addr) (c : Nat) (xs : List Int) (m : Int) (w : World) (hcp : xs.length ≤ c) (hx : OwI w a xs F) (l1 : xs.length ≤ 4294967296) (m0 : 0 ≤ m) (m1 : m ≤ 34359738368) :
    Calls Tryd.prog 9 #[.slice a xs.length c, .int .i64 m] w (RetM w F m xs.length (dI (marks m xs.length)) (.slice a xs.length c)) := by
  have i1 := ix_of (P := Tryd.prog) tabI.under tabI.size (a := a) (n := xs.length) (fun h0 => by
    rcases hx.foot with ⟨rfl, _⟩ | ⟨_, h, _⟩
    · simp at h0
    · exact h) c
  simp only [Nat.mul_one] at i1
  have hF : 0 < xs.length → blk a ∈ F := fun h0 => by
    rcases hx.foot with ⟨rfl, _⟩ | ⟨_, _, rfl⟩
    · simp at h0
    · simp
  have HF := Lib.hid hF
  have HCP := Lib.hid hcp
  clear hF hcp
  go_enter Tryd.func9, Tryd.ntmps9
  go_wp2
  go_loopw [1, 5] (fun q i wr => ∃ k : Nat, k ≤ xs.length ∧ i = .int .i64 k ∧ q = .int .i64 (m + k) ∧ Mkd F w wr a xs m k) (fun _ i _ => xs.length - (intOf i).toNat)
  case atStart => exact ⟨0, Nat.zero_le _, rfl, by simp, Exc.refl _ _, by omega, fun i _ hi => hx.cell i hi, hx.free⟩
  case round =>
      obtain ⟨k, hk, rfl, rfl, hm⟩ := hrel
      by_cases hlt : k < xs.length
      · have g1 := hm.rest k (Nat.le_refl _) hlt
        have g2 := hm.free k hlt
        have HM := Lib.hid (hm.next hlt (HF.out (by omega)))
        clear hm
        go_wp2
        go_roundw
        case rel => exact ⟨k + 1, by omega, by go_num, by congr 1; omega, HM.out⟩
        case measure => simp [intOf]; omega
      · go_wp2
        go_ret
        obtain rfl : k = xs.length := by omega
        refine ⟨rfl, hm.exc, Ow_I.2 ⟨a, c, by rw [marks_len], by rw [marks_len]; exact HCP.out, by rw [marks_len]; exact hx.len, ?_, fun i hi => ?_, fun i hi => ?_⟩⟩
        · rcases hx.foot with ⟨rfl, h⟩ | ⟨h1, h2, h3⟩
          · exact .inl ⟨rfl, h⟩
          · refine .inr ⟨fun e => h1 ?_, h2, h3⟩
            have := congrArg List.length e
            rw [marks_len] at this
            exact List.eq_nil_of_length_eq_zero this
        · rw [marks_len] at hi; rw [marks_at hi]; exact hm.done i hi
        · rw [marks_len] at hi; exact hm.free i hi
set_option maxHeartbeats 400000 in
theorem heldInt64S_c8 (S : Nat → Prop) (a : Option Addr) (c : Nat) (n : Nat) (m : Int) (w : World) (hx : SlI S w a (marks m n)) (l1 : n ≤ 4294967296) (m0 : 0 ≤ m) (m1 : m ≤ 34359738368) :
    Calls Tryd.prog 10 #[.slice a n c, .int .i64 m] w (RetP w (.int .i64 (m + n))) := by
  have hc := hx.cell
  have i1 := hx.ix tabI.under tabI.size c
  rw [marks_len] at i1 hc
  have HC := Lib.hid hc
  clear hc
  go_enter Tryd.func10, Tryd.ntmps10
  go_wp2
  go_loopw [1, 5] (fun q i wr => ∃ k : Nat, k ≤ n ∧ i = .int .i64 k ∧ q = .int .i64 (m + k) ∧ w = wr) (fun _ i _ => n - (intOf i).toNat)
  case atStart => exact ⟨0, Nat.zero_le _, rfl, by simp, rfl⟩
  case round =>
      obtain ⟨k, hk, rfl, rfl, rfl⟩ := hrel
      by_cases hlt : k < n
      · have g1 := HC.out k hlt
        rw [marks_at hlt] at g1
        go_wp2
        go_roundw
        case rel => exact ⟨k + 1, by omega, by go_num, by congr 1; omega, trivial⟩
        case measure => simp [intOf]; omega
      · go_wp2
        go_ret
        obtain rfl : k = n := by omega
        exact ⟨rfl, rfl⟩
theorem markInt64S_c (F : List Nat) (a : Option Addr) (c : Nat) (xs : List Int) (m : Int) (w : World) (hcp : xs.length ≤ c) (hx : OwI w a xs F) (l1 : xs.length ≤ 4294967296) (m0 : 0 ≤ m) (m1 : m ≤ 4294967296) :
    Calls Tryd.prog 9 #[.slice a xs.length c, .int .i64 m] w (RetM w F m xs.length (dI (marks m xs.length)) (.slice a xs.length c)) := markInt64S_c8 F a c xs m w hcp hx l1 m0 (by omega)
theorem heldInt64S_c (S : Nat → Prop) (a : Option Addr) (c : Nat) (n : Nat) (m : Int) (w : World) (hx : SlI S w a (marks m n)) (l1 : n ≤ 4294967296) (m0 : 0 ≤ m) (m1 : m ≤ 4294967296) :
    Calls Tryd.prog 10 #[.slice a n c, .int .i64 m] w (RetP w (.int .i64 (m + n))) := heldInt64S_c8 S a c n m w hx l1 m0 (by omega)

/-- What is left when lists have been weighed, one by one; -1 if it isn't enough. -/
def szNext (left : Int) (xs : List Int) : Int := if left < xs.length then -1 else left - xs.length
def szII (left : Int) (xs : List (List Int)) : Int := if left < xs.length then -1 else (xs.foldl (fun l r => if l < 0 then l else szNext l r) (left - xs.length))
end Go.Proofs.YtbnikblhnibgiaaDoor
