/- The laws' functions on the order of lists: contracts. -/
import Derived.Test.YthlbogmnnenkoaaDL
import Derived.Test.YthlbogmnnenkoaaBY
import Derived.Test.YthlbogmnnenkoaaQV
namespace Go.Proofs.Ythlbogmnnenkoaa
open Go.RowKit

theorem drewN_two (w : World) (n m : Nat) : (w.drewN n).drewN m = w.drewN (n + m) := by simp [World.drewN, Nat.add_assoc]
theorem drewE2 (w : World) (n m : Nat) : ∃ k, (w.drewN n).drewN m = w.drewN k := ⟨_, drewN_two w n m⟩
theorem drewE3 (w : World) (n m l : Nat) : ∃ k, ((w.drewN n).drewN m).drewN l = w.drewN k := ⟨_, by rw [drewN_two, drewN_two]⟩
theorem SlII.anyT {S : Nat → Prop} {w : World} {a : Option Addr} {xs : List (List Int)} (h : SlII S w a xs) : SlII Any w a xs := ⟨h.len, fun h0 => ⟨trivial, (h.ptr h0).2⟩, fun i hi => by obtain ⟨a', c', h1, h2⟩ := h.cell i hi; exact ⟨a', c', h1, h2.anyT⟩⟩
theorem Ow.slAA {w : World} {xs : List (List Int)} {v : Value} {F : List Nat} (h : Ow w (dII xs) v F) : ∃ a c, v = .slice a xs.length c ∧ SlII Any w a xs := by
  obtain ⟨a, c, e, hs⟩ := Rd_II.1 (Ow.rd _ _ _ h)
  exact ⟨a, c, e, hs.anyT⟩
set_option maxHeartbeats 1000000 in
theorem a2Less_c (S T : Nat → Prop) (a b : Option Addr) (c c' : Nat) (xs ys : List Int) (w : World) (hx : SlI S w a xs) (hy : SlI T w b ys) :
    Calls Try.prog 162 #[.slice a xs.length c, .slice b ys.length c'] w (RetQ w (.bool (lessS xs ys))) := by
  have l1 := hx.len
  have l2 := hy.len
  unfold maxLen at l1 l2
  have i1 := hx.ix tabI.under tabI.size c
  have i2 := hy.ix tabI.under tabI.size c'
  go_enter Try.func162, Try.ntmps162
  go_wp2
  go_loopw [5] (fun i wr => ∃ k n : Nat, k ≤ xs.length ∧ i = .int .i64 k ∧ wr = w.drewN n ∧ Hid (lessS xs ys = lessS (xs.drop k) (ys.drop k))) (fun i _ => xs.length - (intOf i).toNat)
  case atStart => exact ⟨0, 0, Nat.zero_le _, rfl, rfl, Lib.hid rfl⟩
  case round =>
    obtain ⟨k, n, hk, rfl, rfl, HL⟩ := hrel
    by_cases hlt : k < xs.length
    · by_cases hlt2 : k < ys.length
      · have g1 := hx.cell k hlt
        have g2 := hy.cell k hlt2
        have q2 : (k : Int) < ys.length := by omega
        by_cases hne : nth xs k = nth ys k
        · have HE := Lib.hid (HL.out.trans (lessS_drop hlt hlt2 hne))
          rw [← hne] at g2
          clear hne
          go_wp2
          go_quiet (fail)
          go_wp2
          go_roundw
          case rel => exact ⟨k + 1, _, by omega, by go_num, rfl, HE⟩
          case measure => simp [intOf]; omega
        · have hb : (nth xs k != nth ys k) = true := by simp [hne]
          have HE2 : Hid (decide (nth xs k < nth ys k) = lessS xs ys) := Lib.hid (HL.out.trans (lessS_diff hlt hlt2 hne)).symm
          by_cases hl : nth xs k < nth ys k
          · have HE : Hid (lessS xs ys = true) := Lib.hid (HL.out.trans ((lessS_diff hlt hlt2 hne).trans (decide_eq_true hl)))
            go_wp2
            go_quiet (fail)
            go_wp2
            go_quiet (fail)
            go_wp2
            go_ret
            exact ⟨by first | exact ret_bool HE.out.symm | exact ret_bool HE2.out, by first | exact ⟨_, rfl⟩ | exact drewE2 _ _ _ | exact drewE3 _ _ _ _⟩
          · have HE : Hid (lessS xs ys = false) := Lib.hid (HL.out.trans ((lessS_diff hlt hlt2 hne).trans (decide_eq_false hl)))
            go_wp2
            go_quiet (fail)
            go_wp2
            go_quiet (fail)
            go_wp2
            go_ret
            exact ⟨by first | exact ret_bool HE.out.symm | exact ret_bool HE2.out, by first | exact ⟨_, rfl⟩ | exact drewE2 _ _ _ | exact drewE3 _ _ _ _⟩
      · have HE : Hid (lessS xs ys = false) := Lib.hid (HL.out.trans (lessS_end (.inr (by omega))))
        have q2 : ¬ (k : Int) < ys.length := by omega
        go_wp2
        go_ret
        exact ⟨ret_bool HE.out.symm, n, rfl⟩
    · have HE : Hid (lessS xs ys = false) := Lib.hid (HL.out.trans (lessS_end (.inl (by omega))))
      go_wp2
      go_ret
      exact ⟨ret_bool HE.out.symm, n, rfl⟩
set_option maxHeartbeats 2000000 in
theorem a2Rising_c (a : Option Addr) (c : Nat) (n : Nat) (all : List (List Int)) (w : World) (hx : SlII Any w a all) (h : Rises n all) :
    Calls Try.prog 57 #[.slice a all.length c, .int .i64 n] w (RetV w (.bool true)) := by
  have l1 := hx.len
  unfold maxLen at l1
  have i1 := hx.ix tabII.under tabII.size c
  have HR := Lib.hid h
  clear h
  go_enter Try.func57, Try.ntmps57
  go_wp2
  go_loopw [5] (fun i wr => ∃ k : Nat, k ≤ all.length ∧ i = .int .i64 k ∧ Hid (Below w.heap.size w wr)) (fun i _ => all.length - (intOf i).toNat)
  case atStart => exact ⟨0, Nat.zero_le _, rfl, Lib.hid (Below.refl _ _)⟩
  case round =>
    obtain ⟨k, hk, rfl, HB⟩ := hrel
    by_cases hlt : k < all.length
    · obtain ⟨a1, c1, g1, s1⟩ := (hx.below HB.out).cell k hlt
      have e1 := HR.out.len hlt
      by_cases h0 : k = 0
      · subst h0
        rw [e1] at g1
        have q1 := wat_cell g1
        have i9 := fun w' => i1 0 w' (by omega) (by omega)
        clear g1 s1 e1
        go_wp2
        refine wp_quiet_wd (by kernel_rfl) (by kernel_rfl) ?_
        repeat (go_big_quiet_step (fail))
        refine wpQuiet_nil ?_
        rintro _ ⟨wq, rfl⟩
        have HBQ := Lib.hid (bnext HB.out (wat_below wq) (Nat.le_refl _))
        go_wp2
        go_roundw
        case rel => exact ⟨1, by omega, by go_num, HBQ⟩
        case measure => simp [intOf]; omega
      · obtain ⟨j, rfl⟩ : ∃ j, k = j + 1 := ⟨k - 1, by omega⟩
        obtain ⟨a0, c0, g0, s0⟩ := (hx.below HB.out).cell j (by omega)
        have e0 := HR.out.len (i := j) (by omega)
        have hjl : (j : Int) < all.length := by omega
        have hjl1 : (j : Int) + 1 < all.length := by omega
        have i9 := fun w' => i1 ((j : Int) + 1) w' (by omega) (by omega)
        have i8 := fun w' => i1 (j : Int) w' (by omega) (by omega)
        have e6 : ((j : Int) + 1).toNat = j + 1 := by omega
        have e7 : (0 : Int) < (j : Int) + 1 := by omega
        have HC := Lib.hid (fun x : Wd wr => callsQ (a2Less_c Any Any a0 a1 c0 c1 _ _ (wat x) (s0.below (wat_below x)) (s1.below (wat_below x))))
        rw [HR.out.less hlt, e0, e1] at HC
        rw [e1] at g1
        rw [e0] at g0
        have q1 := wat_cell g1
        have q0 := wat_cell g0
        clear g1 s1 e1 g0 s0 e0
        go_wp2
        refine wp_quiet_wd (by kernel_rfl) (by kernel_rfl) ?_
        repeat (go_big_quiet_step (with_reducible exact wdV (HC.out _)))
        refine wpQuiet_nil ?_
        rintro _ ⟨wq, rfl⟩
        have HBQ := Lib.hid (bnext HB.out (wat_below wq) (Nat.le_refl _))
        go_wp2
        go_roundw
        case rel => exact ⟨j + 2, by omega, by go_num, HBQ⟩
        case measure => simp [intOf]; omega
    · go_wp2
      go_ret
      exact ⟨rfl, HB.out⟩
end Go.Proofs.Ythlbogmnnenkoaa
