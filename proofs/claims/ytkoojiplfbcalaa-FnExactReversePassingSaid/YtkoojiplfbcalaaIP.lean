/- Whether weights are an invariant: contracts. -/
import Derived.Test.YtkoojiplfbcalaaTK
namespace Go.Proofs.Ytkoojiplfbcalaa
open Go.RowKit

def isPassInvS (x0 : Int) (x1 : List Int) (x2 : List Bool) (x3 : List PR) (ws : List (List Int)) : Bool × Int :=
  if okPass x0 x1 x2 x3 = true then (if areW x0 x1.length ws = true then (freeZero x2 (nthR ws x1.length) && allPR (invRule x1 ws) x3, 0) else (false, 2)) else (false, 1)
theorem isPassInv_bad {x0 : Int} {x1 : List Int} {x2 : List Bool} {x3 : List PR} {ws : List (List Int)} (h : okPass x0 x1 x2 x3 = false) : isPassInvS x0 x1 x2 x3 ws = (false, 1) := by simp [isPassInvS, h]
theorem isPassInv_two {x0 : Int} {x1 : List Int} {x2 : List Bool} {x3 : List PR} {ws : List (List Int)} (h : okPass x0 x1 x2 x3 = true) (h2 : areW x0 x1.length ws = false) : isPassInvS x0 x1 x2 x3 ws = (false, 2) := by simp [isPassInvS, h, h2]
theorem isPassInv_fine {x0 : Int} {x1 : List Int} {x2 : List Bool} {x3 : List PR} {ws : List (List Int)} (h : okPass x0 x1 x2 x3 = true) (h2 : areW x0 x1.length ws = true) : isPassInvS x0 x1 x2 x3 ws = (freeZero x2 (nthR ws x1.length) && allPR (invRule x1 ws) x3, 0) := by simp [isPassInvS, h, h2]
set_option maxHeartbeats 1000000 in
theorem parent_c (x0 : Int) (x1 : List Int) (a1 : Option Addr) (c1 : Nat) (v2 v3 : Value) (c : Int) (w : World) (h1 : SlI Any w a1 x1) (hc : 0 ≤ c ∧ c < x1.length) :
    Calls Try.prog 183 #[.agg #[.int .i64 x0, .slice a1 x1.length c1, v2, v3], .int .i64 c] w (RetV w (.int .i64 (upS x1 c))) := by
  have hb0 := below_alloc w (.cells #[.int .i64 x0, .slice a1 x1.length c1, v2, v3] 36)
  have l1 := h1.len
  have HO := Lib.hid (outside_c x0 x1.length c1 a1 v2 v3 (w.alloc (.cells #[.int .i64 x0, .slice a1 x1.length c1, v2, v3] 36)) l1)
  have i1 := fun w' => h1.ix tabI.under tabI.size c1 c w' hc.1 hc.2
  have g1 := (h1.below hb0).cell c.toNat (by omega)
  have HB0 := Lib.hid hb0
  clear hb0 h1
  by_cases e : c = 0
  · have e2 : upS x1 c = x1.length := by simp [upS, e]
    have e3 : (c == 0) = true := by simpa using e
    rw [e2]
    clear e2 e g1 i1
    go_enter Try.func183, Try.ntmps183
    go_wp2_with fail
    refine HO.out.mono ?_
    rintro e w1 ⟨rfl, hb1⟩
    have HB1 := Lib.hid (HB0.out.trans (hb1.mono (by simp <;> omega)))
    clear hb1
    go_wp2
    go_ret
    exact ⟨rfl, HB1.out⟩
  · have e2 : upS x1 c = nth x1 c.toNat := by simp [upS, e]
    have e3 : (c == 0) = false := by simpa using e
    rw [e2]
    clear e2 e
    go_enter Try.func183, Try.ntmps183
    go_wp2
    go_ret
    exact ⟨rfl, HB0.out⟩
