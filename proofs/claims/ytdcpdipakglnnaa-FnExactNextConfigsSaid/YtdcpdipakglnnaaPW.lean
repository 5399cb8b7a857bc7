/- Valid passing systems: the program's functions. -/
import Derived.Test.YtdcpdipakglnnaaPV
import Derived.Test.YtdcpdipakglnnaaYP
import Derived.Test.YtdcpdipakglnnaaQV
namespace Go.Proofs.Ytdcpdipakglnnaa
open Go.RowKit

theorem sumTo_bd {xs : List Int} (h : small xs) : ∀ k, k ≤ xs.length → k ≤ 8 → 0 ≤ sumTo xs k ∧ sumTo xs k ≤ 1000 * k
  | 0, _, _ => by simp [sumTo]
  | k + 1, hk, h8 => by
    have ih := sumTo_bd h k (by omega) (by omega)
    have hx := h k (by omega)
    rw [sumTo, wrap64]; omega
theorem sumS_bd {xs : List Int} (h : isBagS xs = true) : 0 ≤ sumS xs ∧ sumS xs ≤ 8000 := by
  have h8 := isBagS_len h
  have := sumTo_bd (isBagS_small h) xs.length (Nat.le_refl _) h8.2
  unfold sumS; omega
theorem size_bool_c (a : Option Addr) (n c : Nat) (w : World) (_hn : n ≤ maxLen) : Calls Try.prog 93 #[.slice a n c] w (RetP w (.int .i64 n)) := by
  unfold maxLen at _hn
  go_enter Try.func93, Try.ntmps93
  go_wp2
  go_ret
  exact ⟨rfl, rfl⟩
set_option maxHeartbeats 800000 in
theorem hasBound_c (x0 : Int) (v1 v3 : Value) (af ab : Option Addr) (cf cb : Nat) (free : List Bool) (xs : List Int) (w : World) (hf : SlB Any w af free) (hx : SlI Any w ab xs) (hl : xs.length ≤ free.length) :
    Calls Try.prog 98 #[.agg #[.int .i64 x0, v1, .slice af free.length cf, v3], .slice ab xs.length cb] w (RetV w (.bool (hasBoundS free xs))) := by
  have l1 := hx.len
  have l2 := hf.len
  unfold maxLen at l1 l2
  have i1 := hx.ix tabI.under tabI.size cb
  have i2 := hf.ix tabB.under tabB.size cf
  have HX := Lib.hid (hx.below (below_alloc w (.cells #[.int .i64 x0, v1, .slice af free.length cf, v3] 43)))
  have HF := Lib.hid (hf.below (below_alloc w (.cells #[.int .i64 x0, v1, .slice af free.length cf, v3] 43)))
  clear hx hf
  go_enter Try.func98, Try.ntmps98
  go_wp2
  go_loopw [5, 6, 9] (fun _ _ i wr => ∃ k : Nat, k ≤ xs.length ∧ i = .int .i64 k ∧ wr = w.alloc (.cells #[.int .i64 x0, v1, .slice af free.length cf, v3] 43) ∧ (∀ j, j < k → bound1 free xs j = false)) (fun _ _ i _ => xs.length - (intOf i).toNat)
  case atStart => exact ⟨0, Nat.zero_le _, rfl, rfl, by omega⟩
  case round =>
    obtain ⟨k, hk, rfl, rfl, hj⟩ := hrel
    have HJ := Lib.hid hj
    clear hj
    by_cases hlt : k < xs.length
    · have k2 : (k : Int) < free.length := by omega
      have g1 := HX.out.cell k hlt
      have g2 := HF.out.cell k (by omega)
      by_cases h0 : 0 < nth xs k
      · cases hb : nthB free k
        · have HR := Lib.hid (hasBoundS_true (free := free) hlt (by simp [bound1, h0, hb]))
          rw [hb] at g2
          clear hb
          go_wp2
          go_ret
          exact ⟨ret_bool HR.out.symm, below_alloc _ _⟩
        · have HR : Hid (bound1 free xs k = false) := Lib.hid (by simp [bound1, hb])
          rw [hb] at g2
          clear hb
          go_wp2
          go_roundw
          case rel => exact ⟨k + 1, by omega, by go_num, trivial, upto HJ.out HR.out⟩
          case measure => simp [intOf]; omega
      · have HR : Hid (bound1 free xs k = false) := Lib.hid (by simp [bound1, h0])
        go_wp2
        go_roundw
        case rel => exact ⟨k + 1, by omega, by go_num, trivial, upto HJ.out HR.out⟩
        case measure => simp [intOf]; omega
    · have e : k = xs.length := by omega
      have HR := Lib.hid (hasBoundS_false (free := free) (xs := xs) (e ▸ HJ.out))
      go_wp2
      go_ret
      exact ⟨ret_bool HR.out.symm, below_alloc _ _⟩
set_option maxHeartbeats 4000000 in
theorem validPassing1_c (x0 : Int) (np nr : Nat) (free : List Bool) (r : PR) (a1 a2 ap af ar : Option Addr) (c1 c2 cp cf cr : Nat) (p : Nat) (w : World) (h1 : SlI Any w a1 r.out) (h2 : SlI Any w a2 r.inn) (hf : SlB Any w af free)
    (hp0 : w.cell? ⟨p, 0, none⟩ = some (.int .i64 x0)) (hp1 : w.cell? ⟨p, 1, none⟩ = some (.slice ap np cp)) (hp2 : w.cell? ⟨p, 2, none⟩ = some (.slice af free.length cf)) (hp3 : w.cell? ⟨p, 3, none⟩ = some (.slice ar nr cr)) (hnp : np ≤ 4) (hfl : (free.length : Int) = x0) :
    Calls Try.prog 95 #[.agg #[.int .i64 r.cell, .slice a1 r.out.length c1, .slice a2 r.inn.length c2], .pointer (some ⟨p, 0, none⟩)] w (RetV w (.bool (!ruleOk x0 np free r))) := by
  have hpl : p < w.heap.size := World.block_lt_of_cell? w _ hp0
  have hb0 := below_alloc w (.cells #[.int .i64 r.cell, .slice a1 r.out.length c1, .slice a2 r.inn.length c2] 125)
  have hb : ∀ x : Wd (w.alloc (.cells #[.int .i64 r.cell, .slice a1 r.out.length c1, .slice a2 r.inn.length c2] 125)), Below w.heap.size w (wat x) := fun x => hb0.trans ((wat_below x).mono (by simp))
  have HS := Lib.hid (fun x : Wd (w.alloc (.cells #[.int .i64 r.cell, .slice a1 r.out.length c1, .slice a2 r.inn.length c2] 125)) => callsP (size_int_c ap np cp (wat x) (by unfold maxLen; omega)))
  have HI := Lib.hid (fun x : Wd (w.alloc (.cells #[.int .i64 r.cell, .slice a1 r.out.length c1, .slice a2 r.inn.length c2] 125)) => callsP (inRange_c r.cell 0 ((np : Int) - 1) (wat x)))
  have HV1 := Lib.hid (fun x : Wd (w.alloc (.cells #[.int .i64 r.cell, .slice a1 r.out.length c1, .slice a2 r.inn.length c2] 125)) => callsP (validBag_c x0 Any a1 c1 r.out _ (h1.below (hb x))))
  have HV2 := Lib.hid (fun x : Wd (w.alloc (.cells #[.int .i64 r.cell, .slice a1 r.out.length c1, .slice a2 r.inn.length c2] 125)) => callsP (validBag_c x0 Any a2 c2 r.inn _ (h2.below (hb x))))
  have HB1 := Lib.hid (fun x : Wd (w.alloc (.cells #[.int .i64 r.cell, .slice a1 r.out.length c1, .slice a2 r.inn.length c2] 125)) => callsP (bagSize_c Any a1 c1 r.out _ (h1.below (hb x))))
  have HB2 := Lib.hid (fun x : Wd (w.alloc (.cells #[.int .i64 r.cell, .slice a1 r.out.length c1, .slice a2 r.inn.length c2] 125)) => callsP (bagSize_c Any a2 c2 r.inn _ (h2.below (hb x))))
  have hwn : IntKind.i64.wrap ((np : Int) - 1) = (np : Int) - 1 := by rw [IntKind.wrap_i64]; omega
  have r0 := wat_cell (show (w.alloc (.cells #[.int .i64 r.cell, .slice a1 r.out.length c1, .slice a2 r.inn.length c2] 125)).cell? ⟨w.heap.size, 0, none⟩ = some (.int .i64 r.cell) by simp [go_sem])
  have r1 := wat_cell (show (w.alloc (.cells #[.int .i64 r.cell, .slice a1 r.out.length c1, .slice a2 r.inn.length c2] 125)).cell? ⟨w.heap.size, 1, none⟩ = some (.slice a1 r.out.length c1) by simp [go_sem])
  have r2 := wat_cell (show (w.alloc (.cells #[.int .i64 r.cell, .slice a1 r.out.length c1, .slice a2 r.inn.length c2] 125)).cell? ⟨w.heap.size, 2, none⟩ = some (.slice a2 r.inn.length c2) by simp [go_sem])
  have q0 := wat_cell (show (w.alloc (.cells #[.int .i64 r.cell, .slice a1 r.out.length c1, .slice a2 r.inn.length c2] 125)).cell? ⟨p, 0, none⟩ = _ from (bcell1 hb0 hpl).trans hp0)
  have q1 := wat_cell (show (w.alloc (.cells #[.int .i64 r.cell, .slice a1 r.out.length c1, .slice a2 r.inn.length c2] 125)).cell? ⟨p, 1, none⟩ = _ from (bcell1 hb0 hpl).trans hp1)
  have q2 := wat_cell (show (w.alloc (.cells #[.int .i64 r.cell, .slice a1 r.out.length c1, .slice a2 r.inn.length c2] 125)).cell? ⟨p, 2, none⟩ = _ from (bcell1 hb0 hpl).trans hp2)
  have q3 := wat_cell (show (w.alloc (.cells #[.int .i64 r.cell, .slice a1 r.out.length c1, .slice a2 r.inn.length c2] 125)).cell? ⟨p, 3, none⟩ = _ from (bcell1 hb0 hpl).trans hp3)
  have HB := Lib.hid hb
  have H2 := Lib.hid h2
  have HF := Lib.hid hf
  have HFL := Lib.hid hfl
  have HH : True := trivial
  clear hb hb0 h1 h2 hf hfl hp0 hp1 hp2 hp3
  cases b1 : inRg r.cell 0 ((np : Int) - 1)
  · have e : ruleOk x0 np free r = false := by simp [ruleOk, b1]
    rw [e]
    rw [b1] at HI
    clear e b1
    go_enter Try.func95, Try.ntmps95
    go_wp2
    refine wp_quiet_wd (by kernel_rfl) (by kernel_rfl) ?_
    repeat (go_big_quiet_step (first | with_reducible exact wdV (HS.out _) | with_reducible exact wdV (HI.out _) | with_reducible exact wdV (HV1.out _) | with_reducible exact wdV (HV2.out _) | with_reducible exact wdV (HB1.out _) | with_reducible exact wdV (HB2.out _) | with_reducible exact wdV (HH.out _)))
    refine wpQuiet_nil ?_
    rintro _ ⟨wq, rfl⟩
    go_wp2
    go_ret
    exact ⟨rfl, HB.out _⟩
  · rw [b1] at HI
    cases b2 : validBagS x0 r.out
    · have e : ruleOk x0 np free r = false := by simp [ruleOk, b2]
      rw [e]
      rw [b2] at HV1
      clear e b1 b2
      go_enter Try.func95, Try.ntmps95
      go_wp2
      refine wp_quiet_wd (by kernel_rfl) (by kernel_rfl) ?_
      repeat (go_big_quiet_step (first | with_reducible exact wdV (HS.out _) | with_reducible exact wdV (HI.out _) | with_reducible exact wdV (HV1.out _) | with_reducible exact wdV (HV2.out _) | with_reducible exact wdV (HB1.out _) | with_reducible exact wdV (HB2.out _) | with_reducible exact wdV (HH.out _)))
      refine wpQuiet_nil ?_
      rintro _ ⟨wq, rfl⟩
      go_wp2
      go_ret
      exact ⟨rfl, HB.out _⟩
    · rw [b2] at HV1
      cases b3 : validBagS x0 r.inn
      · have e : ruleOk x0 np free r = false := by simp [ruleOk, b3]
        rw [e]
        rw [b3] at HV2
        clear e b1 b2 b3
        go_enter Try.func95, Try.ntmps95
        go_wp2
        refine wp_quiet_wd (by kernel_rfl) (by kernel_rfl) ?_
        repeat (go_big_quiet_step (first | with_reducible exact wdV (HS.out _) | with_reducible exact wdV (HI.out _) | with_reducible exact wdV (HV1.out _) | with_reducible exact wdV (HV2.out _) | with_reducible exact wdV (HB1.out _) | with_reducible exact wdV (HB2.out _) | with_reducible exact wdV (HH.out _)))
        refine wpQuiet_nil ?_
        rintro _ ⟨wq, rfl⟩
        go_wp2
        go_ret
        exact ⟨rfl, HB.out _⟩
      · rw [b3] at HV2
        have s1 := sumS_bd (validBagS_ok b2).1
        have s2 := sumS_bd (validBagS_ok b3).1
        have HLI := Lib.hid (validBagS_ok b3).2
        have hws : IntKind.i64.wrap (sumS r.out + sumS r.inn) = sumS r.out + sumS r.inn := by rw [IntKind.wrap_i64]; omega
        cases b4 : (sumS r.out + sumS r.inn == 0)
        · cases b5 : (r.cell == 0)
          · have e : ruleOk x0 np free r = true := by
              have hc : 0 < r.cell := by simp [inRg] at b1 b5; omega
              simp only [ruleOk, b1, b2, b3, b4, hc, decide_true, Bool.true_or, Bool.not_false, Bool.and_self]
            rw [e]
            clear e b1 b2 b3
            go_enter Try.func95, Try.ntmps95
            go_wp2
            refine wp_quiet_wd (by kernel_rfl) (by kernel_rfl) ?_
            repeat (go_big_quiet_step (first | with_reducible exact wdV (HS.out _) | with_reducible exact wdV (HI.out _) | with_reducible exact wdV (HV1.out _) | with_reducible exact wdV (HV2.out _) | with_reducible exact wdV (HB1.out _) | with_reducible exact wdV (HB2.out _) | with_reducible exact wdV (HH.out _)))
            refine wpQuiet_nil ?_
            rintro _ ⟨wq, rfl⟩
            go_wp2
            go_ret
            exact ⟨rfl, HB.out _⟩
          · cases b6 : (sumS r.out == 0)
            · have e : ruleOk x0 np free r = true := by
                have hc : 0 < sumS r.out := by simp at b6; omega
                simp only [ruleOk, b1, b2, b3, b4, hc, decide_true, Bool.true_or, Bool.or_true, Bool.not_false, Bool.and_self]
              rw [e]
              clear e b1 b2 b3
              go_enter Try.func95, Try.ntmps95
              go_wp2
              refine wp_quiet_wd (by kernel_rfl) (by kernel_rfl) ?_
              repeat (go_big_quiet_step (first | with_reducible exact wdV (HS.out _) | with_reducible exact wdV (HI.out _) | with_reducible exact wdV (HV1.out _) | with_reducible exact wdV (HV2.out _) | with_reducible exact wdV (HB1.out _) | with_reducible exact wdV (HB2.out _) | with_reducible exact wdV (HH.out _)))
              refine wpQuiet_nil ?_
              rintro _ ⟨wq, rfl⟩
              go_wp2
              go_ret
              exact ⟨rfl, HB.out _⟩
            · have e : ruleOk x0 np free r = hasBoundS free r.inn := by
                have hc : ¬ 0 < r.cell := by simp at b5; omega
                have hc2 : ¬ 0 < sumS r.out := by simp at b6; omega
                simp only [ruleOk, b1, b2, b3, b4, hc, hc2, decide_false, Bool.false_or, Bool.not_false, Bool.and_self, Bool.true_and]
              rw [e]
              have HH := Lib.hid (fun x : Wd (w.alloc (.cells #[.int .i64 r.cell, .slice a1 r.out.length c1, .slice a2 r.inn.length c2] 125)) => hasBound_c x0 (.slice ap np cp) (.slice ar nr cr) af a2 cf c2 free r.inn (wat x) (HF.out.below (HB.out x)) (H2.out.below (HB.out x)) (by have := HFL.out; have := HLI.out; omega))
              clear e b1 b2 b3
              go_enter Try.func95, Try.ntmps95
              go_wp2
              refine wp_quiet_wd (by kernel_rfl) (by kernel_rfl) ?_
              repeat (go_big_quiet_step (first | with_reducible exact wdV (HS.out _) | with_reducible exact wdV (HI.out _) | with_reducible exact wdV (HV1.out _) | with_reducible exact wdV (HV2.out _) | with_reducible exact wdV (HB1.out _) | with_reducible exact wdV (HB2.out _) | with_reducible exact wdV (HH.out _)))
              refine wpQuiet_nil ?_
              rintro _ ⟨wq, rfl⟩
              go_wp2
              go_ret
              exact ⟨rfl, HB.out _⟩
        · have e : ruleOk x0 np free r = false := by simp only [ruleOk, b4, Bool.not_true, Bool.and_false, Bool.false_and]
          rw [e]
          clear e b1 b2 b3
          go_enter Try.func95, Try.ntmps95
          go_wp2
          refine wp_quiet_wd (by kernel_rfl) (by kernel_rfl) ?_
          repeat (go_big_quiet_step (first | with_reducible exact wdV (HS.out _) | with_reducible exact wdV (HI.out _) | with_reducible exact wdV (HV1.out _) | with_reducible exact wdV (HV2.out _) | with_reducible exact wdV (HB1.out _) | with_reducible exact wdV (HB2.out _) | with_reducible exact wdV (HH.out _)))
          refine wpQuiet_nil ?_
          rintro _ ⟨wq, rfl⟩
          go_wp2
          go_ret
          exact ⟨rfl, HB.out _⟩
end Go.Proofs.Ytdcpdipakglnnaa
