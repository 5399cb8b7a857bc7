/- Valid passing systems, valid stocks: what they are. No program is in sight. -/
import Derived.Test.YtncndnholheemaaTP
import Derived.Test.YtncndnholheemaaPG
import Derived.Test.YtncndnholheemaaYP
import Derived.Test.YtncndnholheemaaQV
namespace Go.Proofs.Ytncndnholheemaa
open Go.RowKit

/-- An object of a kind that is not free. -/
def bound1 (free : List Bool) (xs : List Int) (k : Nat) : Bool := decide (0 < nth xs k) && !nthB free k
def hasBoundS (free : List Bool) (xs : List Int) : Bool := (List.range xs.length).any (bound1 free xs)
theorem hasBoundS_true {free : List Bool} {xs : List Int} {k : Nat} (hk : k < xs.length) (h : bound1 free xs k = true) : hasBoundS free xs = true := by
  rw [hasBoundS, List.any_eq_true]; exact ⟨k, by simpa using hk, h⟩
theorem hasBoundS_false {free : List Bool} {xs : List Int} (h : ∀ j, j < xs.length → bound1 free xs j = false) : hasBoundS free xs = false := by
  rw [hasBoundS, List.any_eq_false]; intro j hj; rw [h j (by simpa using hj)]; simp
/-- A rule is right. -/
def ruleOk (kinds : Int) (n : Nat) (free : List Bool) (r : PR) : Bool :=
  inRg r.cell 0 ((n : Int) - 1) && validBagS kinds r.out && validBagS kinds r.inn && !(sumS r.out + sumS r.inn == 0) && (decide (0 < r.cell) || decide (0 < sumS r.out) || hasBoundS free r.inn)
def allPR (p : PR → Bool) (rs : List PR) : Bool := (List.range rs.length).all fun i => p (nthPR rs i)
theorem allPR_true {p : PR → Bool} {rs : List PR} (h : ∀ j, j < rs.length → p (nthPR rs j) = true) : allPR p rs = true := by
  rw [allPR, List.all_eq_true]; intro j hj; exact h j (by simpa using hj)
theorem allPR_false {p : PR → Bool} {rs : List PR} {k : Nat} (hk : k < rs.length) (h : p (nthPR rs k) = false) : allPR p rs = false := by
  rw [allPR, List.all_eq_false]; exact ⟨k, by simpa using hk, by rw [h]; simp⟩
theorem allPR_at {p : PR → Bool} {rs : List PR} (h : allPR p rs = true) {k : Nat} (hk : k < rs.length) : p (nthPR rs k) = true := by
  rw [allPR, List.all_eq_true] at h; exact h k (by simpa using hk)
/-- The parent of cell i + 1 comes before it. -/
def parOk (xs : List Int) (i : Nat) : Bool := inRg (nth xs (i + 1)) 0 i
def parsOk (xs : List Int) : Bool := (List.range (xs.length - 1)).all (parOk xs)
theorem parsOk_true {xs : List Int} (h : ∀ j, j + 1 < xs.length → parOk xs j = true) : parsOk xs = true := by
  rw [parsOk, List.all_eq_true]; intro j hj; exact h j (by simp at hj; omega)
theorem parsOk_false {xs : List Int} {k : Nat} (hk : k + 1 < xs.length) (h : parOk xs k = false) : parsOk xs = false := by
  rw [parsOk, List.all_eq_false]; exact ⟨k, by simp; omega, by rw [h]; simp⟩
theorem parsOk_at {xs : List Int} (h : parsOk xs = true) {k : Nat} (hk : k + 1 < xs.length) : parOk xs k = true := by
  rw [parsOk, List.all_eq_true] at h; exact h k (by simp; omega)
/-- What is looked at first. -/
def passHead (x0 : Int) (x1 : List Int) (x2 : List Bool) (x3 : List PR) : Bool := inRg x0 1 8 && inRg x1.length 1 4 && (nth x1 0 == -1) && ((x2.length : Int) == x0) && decide (x3.length ≤ 8)
def okPass (x0 : Int) (x1 : List Int) (x2 : List Bool) (x3 : List PR) : Bool := passHead x0 x1 x2 x3 && parsOk x1 && allPR (ruleOk x0 x1.length x2) x3
/-- An object of a free kind. -/
def free1 (free : List Bool) (xs : List Int) (k : Nat) : Bool := decide (0 < nth xs k) && nthB free k
def noFreeS (free : List Bool) (xs : List Int) : Bool := (List.range xs.length).all fun k => !free1 free xs k
theorem noFreeS_true {free : List Bool} {xs : List Int} (h : ∀ j, j < xs.length → free1 free xs j = false) : noFreeS free xs = true := by
  rw [noFreeS, List.all_eq_true]; intro j hj; rw [h j (by simpa using hj)]; rfl
theorem noFreeS_false {free : List Bool} {xs : List Int} {k : Nat} (hk : k < xs.length) (h : free1 free xs k = true) : noFreeS free xs = false := by
  rw [noFreeS, List.all_eq_false]; exact ⟨k, by simpa using hk, by rw [h]; simp⟩
/-- A stock is right for a passing system. -/
def okStock (x0 : Int) (n : Nat) (x2 : List Bool) (cells : List (List Int)) (around : List Int) : Bool := decide (cells.length = n) && validBagS x0 around && noFreeS x2 around && allII (validBagS x0) cells
theorem passHead_ok {x0 : Int} {x1 : List Int} {x2 : List Bool} {x3 : List PR} (h : passHead x0 x1 x2 x3 = true) : 1 ≤ x0 ∧ x0 ≤ 8 ∧ 1 ≤ x1.length ∧ x1.length ≤ 4 ∧ nth x1 0 = -1 ∧ (x2.length : Int) = x0 ∧ x3.length ≤ 8 := by
  simp [passHead, inRg] at h; omega
theorem validBagS_ok {k : Int} {xs : List Int} (h : validBagS k xs = true) : isBagS xs = true ∧ (xs.length : Int) = k := by
  simp [validBagS] at h; exact h

/- Valid passing systems: the program's functions. -/
theorem sumTo_bd {xs : List Int} (h : small xs) : ∀ k, k ≤ xs.length → k ≤ 8 → 0 ≤ sumTo xs k ∧ sumTo xs k ≤ 1000 * k
  | 0, _, _ => by simp [sumTo]
  | k + 1, hk, h8 => by
    have ih := sumTo_bd h k (by omega) (by omega)
    have hx := h k (by omega)
    rw [sumTo, wrap64]; omega
theorem sumS_bd {xs : List Int} (h : isBagS xs = true) : 0 ≤ sumS xs ∧ sumS xs ≤ 8000 := by
  have h8 := isBagS_len h
  have := sumTo_bd (isBagS_small h) xs.length (Nat.le_refl _) h8.2
  unfold sumS; omega
theorem size_bool_c (a : Option Addr) (n c : Nat) (w : World) (_hn : n ≤ maxLen) : Calls Try.prog 145 #[.slice a n c] w (RetP w (.int .i64 n)) := by
  unfold maxLen at _hn
  go_enter Try.func145, Try.ntmps145
  go_wp2
  go_ret
  exact ⟨rfl, rfl⟩
set_option maxHeartbeats 800000 in
theorem hasBound_c (x0 : Int) (v1 v3 : Value) (af ab : Option Addr) (cf cb : Nat) (free : List Bool) (xs : List Int) (w : World) (hf : SlB Any w af free) (hx : SlI Any w ab xs) (hl : xs.length ≤ free.length) :
    Calls Try.prog 149 #[.agg #[.int .i64 x0, v1, .slice af free.length cf, v3], .slice ab xs.length cb] w (RetV w (.bool (hasBoundS free xs))) := by
  have l1 := hx.len
  have l2 := hf.len
  unfold maxLen at l1 l2
  have i1 := hx.ix tabI.under tabI.size cb
  have i2 := hf.ix tabB.under tabB.size cf
  have HX := Lib.hid (hx.below (below_alloc w (.cells #[.int .i64 x0, v1, .slice af free.length cf, v3] 28)))
  have HF := Lib.hid (hf.below (below_alloc w (.cells #[.int .i64 x0, v1, .slice af free.length cf, v3] 28)))
  clear hx hf
  go_enter Try.func149, Try.ntmps149
  go_wp2
  go_loopw [5, 6, 9] (fun _ _ i wr => ∃ k : Nat, k ≤ xs.length ∧ i = .int .i64 k ∧ wr = w.alloc (.cells #[.int .i64 x0, v1, .slice af free.length cf, v3] 28) ∧ (∀ j, j < k → bound1 free xs j = false)) (fun _ _ i _ => xs.length - (intOf i).toNat)
  case atStart => exact ⟨0, Nat.zero_le _, rfl, rfl, by omega⟩
  case round =>
    obtain ⟨k, hk, rfl, rfl, hj⟩ := hrel
    have HJ := Lib.hid hj
    clear hj
    by_cases hlt : k < xs.length
    · have k2 : (k : Int) < free.length := by omega
      have g1 := HX.out.cell k hlt
      have g2 := HF.out.cell k (by omega)
      by_cases h0 : 0 < nth xs k
      · cases hb : nthB free k
        · have HR := Lib.hid (hasBoundS_true (free := free) hlt (by simp [bound1, h0, hb]))
          rw [hb] at g2
          clear hb
          go_wp2
          go_ret
          exact ⟨ret_bool HR.out.symm, below_alloc _ _⟩
        · have HR : Hid (bound1 free xs k = false) := Lib.hid (by simp [bound1, hb])
          rw [hb] at g2
          clear hb
          go_wp2
          go_roundw
          case rel => exact ⟨k + 1, by omega, by go_num, trivial, upto HJ.out HR.out⟩
          case measure => simp [intOf]; omega
      · have HR : Hid (bound1 free xs k = false) := Lib.hid (by simp [bound1, h0])
        go_wp2
        go_roundw
        case rel => exact ⟨k + 1, by omega, by go_num, trivial, upto HJ.out HR.out⟩
        case measure => simp [intOf]; omega
    · have e : k = xs.length := by omega
      have HR := Lib.hid (hasBoundS_false (free := free) (xs := xs) (e ▸ HJ.out))
      go_wp2
      go_ret
      exact ⟨ret_bool HR.out.symm, below_alloc _ _⟩
set_option maxHeartbeats 4000000 in
theorem validPassing1_c (x0 : Int) (np nr : Nat) (free : List Bool) (r : PR) (a1 a2 ap af ar : Option Addr) (c1 c2 cp cf cr : Nat) (p : Nat) (w : World) (h1 : SlI Any w a1 r.out) (h2 : SlI Any w a2 r.inn) (hf : SlB Any w af free)
    (hp0 : w.cell? ⟨p, 0, none⟩ = some (.int .i64 x0)) (hp1 : w.cell? ⟨p, 1, none⟩ = some (.slice ap np cp)) (hp2 : w.cell? ⟨p, 2, none⟩ = some (.slice af free.length cf)) (hp3 : w.cell? ⟨p, 3, none⟩ = some (.slice ar nr cr)) (hnp : np ≤ 4) (hfl : (free.length : Int) = x0) :
    Calls Try.prog 147 #[.agg #[.int .i64 r.cell, .slice a1 r.out.length c1, .slice a2 r.inn.length c2], .pointer (some ⟨p, 0, none⟩)] w (RetV w (.bool (!ruleOk x0 np free r))) := by
  have hpl : p < w.heap.size := World.block_lt_of_cell? w _ hp0
  have hb0 := below_alloc w (.cells #[.int .i64 r.cell, .slice a1 r.out.length c1, .slice a2 r.inn.length c2] 96)
  have hb : ∀ x : Wd (w.alloc (.cells #[.int .i64 r.cell, .slice a1 r.out.length c1, .slice a2 r.inn.length c2] 96)), Below w.heap.size w (wat x) := fun x => hb0.trans ((wat_below x).mono (by simp))
  have HS := Lib.hid (fun x : Wd (w.alloc (.cells #[.int .i64 r.cell, .slice a1 r.out.length c1, .slice a2 r.inn.length c2] 96)) => callsP (size_int_c ap np cp (wat x) (by unfold maxLen; omega)))
  have HI := Lib.hid (fun x : Wd (w.alloc (.cells #[.int .i64 r.cell, .slice a1 r.out.length c1, .slice a2 r.inn.length c2] 96)) => callsP (inRange_c r.cell 0 ((np : Int) - 1) (wat x)))
  have HV1 := Lib.hid (fun x : Wd (w.alloc (.cells #[.int .i64 r.cell, .slice a1 r.out.length c1, .slice a2 r.inn.length c2] 96)) => callsP (validBag_c x0 Any a1 c1 r.out _ (h1.below (hb x))))
  have HV2 := Lib.hid (fun x : Wd (w.alloc (.cells #[.int .i64 r.cell, .slice a1 r.out.length c1, .slice a2 r.inn.length c2] 96)) => callsP (validBag_c x0 Any a2 c2 r.inn _ (h2.below (hb x))))
  have HB1 := Lib.hid (fun x : Wd (w.alloc (.cells #[.int .i64 r.cell, .slice a1 r.out.length c1, .slice a2 r.inn.length c2] 96)) => callsP (bagSize_c Any a1 c1 r.out _ (h1.below (hb x))))
  have HB2 := Lib.hid (fun x : Wd (w.alloc (.cells #[.int .i64 r.cell, .slice a1 r.out.length c1, .slice a2 r.inn.length c2] 96)) => callsP (bagSize_c Any a2 c2 r.inn _ (h2.below (hb x))))
  have hwn : IntKind.i64.wrap ((np : Int) - 1) = (np : Int) - 1 := by rw [IntKind.wrap_i64]; omega
  have r0 := wat_cell (show (w.alloc (.cells #[.int .i64 r.cell, .slice a1 r.out.length c1, .slice a2 r.inn.length c2] 96)).cell? ⟨w.heap.size, 0, none⟩ = some (.int .i64 r.cell) by simp [go_sem])
  have r1 := wat_cell (show (w.alloc (.cells #[.int .i64 r.cell, .slice a1 r.out.length c1, .slice a2 r.inn.length c2] 96)).cell? ⟨w.heap.size, 1, none⟩ = some (.slice a1 r.out.length c1) by simp [go_sem])
  have r2 := wat_cell (show (w.alloc (.cells #[.int .i64 r.cell, .slice a1 r.out.length c1, .slice a2 r.inn.length c2] 96)).cell? ⟨w.heap.size, 2, none⟩ = some (.slice a2 r.inn.length c2) by simp [go_sem])
  have q0 := wat_cell (show (w.alloc (.cells #[.int .i64 r.cell, .slice a1 r.out.length c1, .slice a2 r.inn.length c2] 96)).cell? ⟨p, 0, none⟩ = _ from (bcell1 hb0 hpl).trans hp0)
  have q1 := wat_cell (show (w.alloc (.cells #[.int .i64 r.cell, .slice a1 r.out.length c1, .slice a2 r.inn.length c2] 96)).cell? ⟨p, 1, none⟩ = _ from (bcell1 hb0 hpl).trans hp1)
  have q2 := wat_cell (show (w.alloc (.cells #[.int .i64 r.cell, .slice a1 r.out.length c1, .slice a2 r.inn.length c2] 96)).cell? ⟨p, 2, none⟩ = _ from (bcell1 hb0 hpl).trans hp2)
  have q3 := wat_cell (show (w.alloc (.cells #[.int .i64 r.cell, .slice a1 r.out.length c1, .slice a2 r.inn.length c2] 96)).cell? ⟨p, 3, none⟩ = _ from (bcell1 hb0 hpl).trans hp3)
  have HB := Lib.hid hb
  have H2 := Lib.hid h2
  have HF := Lib.hid hf
  have HFL := Lib.hid hfl
  have HH : True := trivial
  clear hb hb0 h1 h2 hf hfl hp0 hp1 hp2 hp3
  cases b1 : inRg r.cell 0 ((np : Int) - 1)
  · have e : ruleOk x0 np free r = false := by simp [ruleOk, b1]
    rw [e]
    rw [b1] at HI
    clear e b1
    go_enter Try.func147, Try.ntmps147
    go_wp2
    refine wp_quiet_wd (by kernel_rfl) (by kernel_rfl) ?_
    repeat (go_big_quiet_step (first | with_reducible exact wdV (HS.out _) | with_reducible exact wdV (HI.out _) | with_reducible exact wdV (HV1.out _) | with_reducible exact wdV (HV2.out _) | with_reducible exact wdV (HB1.out _) | with_reducible exact wdV (HB2.out _) | with_reducible exact wdV (HH.out _)))
    refine wpQuiet_nil ?_
    rintro _ ⟨wq, rfl⟩
    go_wp2
    go_ret
    exact ⟨rfl, HB.out _⟩
  · rw [b1] at HI
    cases b2 : validBagS x0 r.out
    · have e : ruleOk x0 np free r = false := by simp [ruleOk, b2]
      rw [e]
      rw [b2] at HV1
      clear e b1 b2
      go_enter Try.func147, Try.ntmps147
      go_wp2
      refine wp_quiet_wd (by kernel_rfl) (by kernel_rfl) ?_
      repeat (go_big_quiet_step (first | with_reducible exact wdV (HS.out _) | with_reducible exact wdV (HI.out _) | with_reducible exact wdV (HV1.out _) | with_reducible exact wdV (HV2.out _) | with_reducible exact wdV (HB1.out _) | with_reducible exact wdV (HB2.out _) | with_reducible exact wdV (HH.out _)))
      refine wpQuiet_nil ?_
      rintro _ ⟨wq, rfl⟩
      go_wp2
      go_ret
      exact ⟨rfl, HB.out _⟩
    · rw [b2] at HV1
      cases b3 : validBagS x0 r.inn
      · have e : ruleOk x0 np free r = false := by simp [ruleOk, b3]
        rw [e]
        rw [b3] at HV2
        clear e b1 b2 b3
        go_enter Try.func147, Try.ntmps147
        go_wp2
        refine wp_quiet_wd (by kernel_rfl) (by kernel_rfl) ?_
        repeat (go_big_quiet_step (first | with_reducible exact wdV (HS.out _) | with_reducible exact wdV (HI.out _) | with_reducible exact wdV (HV1.out _) | with_reducible exact wdV (HV2.out _) | with_reducible exact wdV (HB1.out _) | with_reducible exact wdV (HB2.out _) | with_reducible exact wdV (HH.out _)))
        refine wpQuiet_nil ?_
        rintro _ ⟨wq, rfl⟩
        go_wp2
        go_ret
        exact ⟨rfl, HB.out _⟩
      · rw [b3] at HV2
        have s1 := sumS_bd (validBagS_ok b2).1
        have s2 := sumS_bd (validBagS_ok b3).1
        have HLI := Lib.hid (validBagS_ok b3).2
        have hws : IntKind.i64.wrap (sumS r.out + sumS r.inn) = sumS r.out + sumS r.inn := by rw [IntKind.wrap_i64]; omega
        cases b4 : (sumS r.out + sumS r.inn == 0)
        · cases b5 : (r.cell == 0)
          · have e : ruleOk x0 np free r = true := by
              have hc : 0 < r.cell := by simp [inRg] at b1 b5; omega
              simp only [ruleOk, b1, b2, b3, b4, hc, decide_true, Bool.true_or, Bool.not_false, Bool.and_self]
            rw [e]
            clear e b1 b2 b3
            go_enter Try.func147, Try.ntmps147
            go_wp2
            refine wp_quiet_wd (by kernel_rfl) (by kernel_rfl) ?_
            repeat (go_big_quiet_step (first | with_reducible exact wdV (HS.out _) | with_reducible exact wdV (HI.out _) | with_reducible exact wdV (HV1.out _) | with_reducible exact wdV (HV2.out _) | with_reducible exact wdV (HB1.out _) | with_reducible exact wdV (HB2.out _) | with_reducible exact wdV (HH.out _)))
            refine wpQuiet_nil ?_
            rintro _ ⟨wq, rfl⟩
            go_wp2
            go_ret
            exact ⟨rfl, HB.out _⟩
          · cases b6 : (sumS r.out == 0)
            · have e : ruleOk x0 np free r = true := by
                have hc : 0 < sumS r.out := by simp at b6; omega
                simp only [ruleOk, b1, b2, b3, b4, hc, decide_true, Bool.true_or, Bool.or_true, Bool.not_false, Bool.and_self]
              rw [e]
              clear e b1 b2 b3
              go_enter Try.func147, Try.ntmps147
              go_wp2
              refine wp_quiet_wd (by kernel_rfl) (by kernel_rfl) ?_
              repeat (go_big_quiet_step (first | with_reducible exact wdV (HS.out _) | with_reducible exact wdV (HI.out _) | with_reducible exact wdV (HV1.out _) | with_reducible exact wdV (HV2.out _) | with_reducible exact wdV (HB1.out _) | with_reducible exact wdV (HB2.out _) | with_reducible exact wdV (HH.out _)))
              refine wpQuiet_nil ?_
              rintro _ ⟨wq, rfl⟩
              go_wp2
              go_ret
              exact ⟨rfl, HB.out _⟩
            · have e : ruleOk x0 np free r = hasBoundS free r.inn := by
                have hc : ¬ 0 < r.cell := by simp at b5; omega
                have hc2 : ¬ 0 < sumS r.out := by simp at b6; omega
                simp only [ruleOk, b1, b2, b3, b4, hc, hc2, decide_false, Bool.false_or, Bool.not_false, Bool.and_self, Bool.true_and]
              rw [e]
              have HH := Lib.hid (fun x : Wd (w.alloc (.cells #[.int .i64 r.cell, .slice a1 r.out.length c1, .slice a2 r.inn.length c2] 96)) => hasBound_c x0 (.slice ap np cp) (.slice ar nr cr) af a2 cf c2 free r.inn (wat x) (HF.out.below (HB.out x)) (H2.out.below (HB.out x)) (by have := HFL.out; have := HLI.out; omega))
              clear e b1 b2 b3
              go_enter Try.func147, Try.ntmps147
              go_wp2
              refine wp_quiet_wd (by kernel_rfl) (by kernel_rfl) ?_
              repeat (go_big_quiet_step (first | with_reducible exact wdV (HS.out _) | with_reducible exact wdV (HI.out _) | with_reducible exact wdV (HV1.out _) | with_reducible exact wdV (HV2.out _) | with_reducible exact wdV (HB1.out _) | with_reducible exact wdV (HB2.out _) | with_reducible exact wdV (HH.out _)))
              refine wpQuiet_nil ?_
              rintro _ ⟨wq, rfl⟩
              go_wp2
              go_ret
              exact ⟨rfl, HB.out _⟩
        · have e : ruleOk x0 np free r = false := by simp only [ruleOk, b4, Bool.not_true, Bool.and_false, Bool.false_and]
          rw [e]
          clear e b1 b2 b3
          go_enter Try.func147, Try.ntmps147
          go_wp2
          refine wp_quiet_wd (by kernel_rfl) (by kernel_rfl) ?_
          repeat (go_big_quiet_step (first | with_reducible exact wdV (HS.out _) | with_reducible exact wdV (HI.out _) | with_reducible exact wdV (HV1.out _) | with_reducible exact wdV (HV2.out _) | with_reducible exact wdV (HB1.out _) | with_reducible exact wdV (HB2.out _) | with_reducible exact wdV (HH.out _)))
          refine wpQuiet_nil ?_
          rintro _ ⟨wq, rfl⟩
          go_wp2
          go_ret
          exact ⟨rfl, HB.out _⟩

/- Valid passing systems: the program's function. -/
theorem slice_from {P : Program} {T E : Nat} (hT : P.underlying T = some (.slice E)) (hE : (P.info? E).map (·.size) = some 1) (g o n N c : Nat) (hn : n = N + 1) (w' : World) :
    (Instr.slice T (.slice (some ⟨g, o, none⟩) n c) (some (.int .i64 1)) none none).run P w' = .ok (.slice (some ⟨g, if c = 1 then o else o + 1, none⟩) N (c - 1)) w' := by
  have hE' : ∃ info, P.info? E = some info ∧ info.size = 1 := by
    cases hh : P.info? E with
    | none => simp [hh] at hE
    | some info => exact ⟨info, rfl, by simpa [hh] using hE⟩
  obtain ⟨info, hi, hs⟩ := hE'
  subst hn
  have hn1 : ¬ ((N : Int) + 1 < 1) := by omega
  by_cases hc : c = 1
  · simp [hn1, Instr.slice, Instr.sliceBounds, Instr.sliceBound, run_underlying hT, asIntOf, sizeOf, typeInfo, hi, hs, hc]
  · simp [hn1, Instr.slice, Instr.sliceBounds, Instr.sliceBound, run_underlying hT, asIntOf, sizeOf, typeInfo, hi, hs, hc, Addr.add_lit]
theorem Ow.capI {w : World} {xs : List Int} {v : Value} {F : List Nat} (h : Ow w (dI xs) v F) : ∃ a c, v = .slice a xs.length c ∧ xs.length ≤ c ∧ SlI Any w a xs := by
  obtain ⟨a, c, rfl, hc, _⟩ := Ow_I.1 h
  exact ⟨a, c, rfl, hc, h.arg⟩
set_option maxHeartbeats 1000000 in
theorem indexFuncPR_c (f : FuncId) (caps : Array Value) (p : PR → Bool) (hcall : ∀ args w, (callFunc f args).run Try.prog w = .ok (.enter f args) w) (xs : List PR) (u : Value) (w : World) (hx : Rd Any w (dPR xs) u)
    (hf : Hid (∀ wx, Below w.heap.size w wx → ∀ j, j < xs.length → ∀ a1 c1 a2 c2, SlI Any wx a1 (nthPR xs j).out → SlI Any wx a2 (nthPR xs j).inn → Calls Try.prog f (#[.agg #[.int .i64 (nthPR xs j).cell, .slice a1 (nthPR xs j).out.length c1, .slice a2 (nthPR xs j).inn.length c2]] ++ caps) wx (RetV wx (.bool (p (nthPR xs j)))))) :
    Calls Try.prog 165 #[u, .func (.func f) #[] caps] w (fun e w' => ∃ i : Int, e = .returned (.int .i64 i) ∧ Below w.heap.size w w' ∧ decide (0 ≤ i) = !allPR (fun r => !p r) xs) := by
  obtain ⟨a, c, rfl, hxs⟩ := Rd_PR hx
  have l1 := hxs.len
  unfold maxLen at l1
  have i1 := ix_of (P := Try.prog) tabPassRuleSM.under tabPassRuleSM.size hxs.ptr c
  clear hxs
  go_enter Try.func165, Try.ntmps165
  go_wp2
  go_loopw [5, 8] (fun _ i wr => ∃ k : Nat, k ≤ xs.length ∧ i = .int .i64 k ∧ Below w.heap.size w wr ∧ (∀ j, j < k → p (nthPR xs j) = false)) (fun _ i _ => xs.length - (intOf i).toNat)
  case atStart => exact ⟨0, Nat.zero_le _, rfl, Below.refl _ _, by omega⟩
  case round =>
      obtain ⟨k, hk, rfl, hb, hj⟩ := hrel
      have HJ := Lib.hid hj
      have HB := Lib.hid hb
      clear hj hb
      by_cases hlt : k < xs.length
      · obtain ⟨_, _, ex, hxs⟩ := Rd_PR (hx.below HB.out)
        cases ex
        have g0 := hxs.c0 k hlt
        obtain ⟨a1, c1, g1, h1⟩ := hxs.c1 k hlt
        obtain ⟨a2, c2, g2, h2⟩ := hxs.c2 k hlt
        have HC := Lib.hid (hf.out wr HB.out k hlt a1 c1 a2 c2 h1 h2)
        clear hxs h1 h2
        go_wp2_with fail
        refine HC.out.mono ?_
        rintro e w1 ⟨rfl, hb1⟩
        have HB1 := Lib.hid (bnext HB.out hb1 (Nat.le_refl _))
        clear hb1 g0 g1 g2
        cases hp : p (nthPR xs k)
        · have HP := Lib.hid hp
          clear hp
          go_wp2
          go_roundw
          case rel => exact ⟨k + 1, by omega, by go_num, HB1.out, upto HJ.out HP.out⟩
          case measure => simp [intOf]; omega
        · have HR := Lib.hid (allPR_false (p := fun r => !p r) hlt (by simp [hp]))
          clear hp
          go_wp2
          go_ret
          exact ⟨_, rfl, HB1.out, by rw [HR.out]; simp⟩
      · have e : k = xs.length := by omega
        have HR := Lib.hid (allPR_true (p := fun r => !p r) (rs := xs) (fun j hj => by simp [HJ.out j (by omega)]))
        go_wp2
        go_ret
        exact ⟨_, rfl, HB.out, by rw [HR.out]; simp⟩
set_option maxHeartbeats 400000 in
theorem containsFuncPR_c (f : FuncId) (caps : Array Value) (p : PR → Bool) (hcall : ∀ args w, (callFunc f args).run Try.prog w = .ok (.enter f args) w) (xs : List PR) (u : Value) (w : World) (hx : Rd Any w (dPR xs) u)
    (hf : Hid (∀ wx, Below w.heap.size w wx → ∀ j, j < xs.length → ∀ a1 c1 a2 c2, SlI Any wx a1 (nthPR xs j).out → SlI Any wx a2 (nthPR xs j).inn → Calls Try.prog f (#[.agg #[.int .i64 (nthPR xs j).cell, .slice a1 (nthPR xs j).out.length c1, .slice a2 (nthPR xs j).inn.length c2]] ++ caps) wx (RetV wx (.bool (p (nthPR xs j)))))) :
    Calls Try.prog 146 #[u, .func (.func f) #[] caps] w (RetV w (.bool (!allPR (fun r => !p r) xs))) := by
  have HC := Lib.hid (indexFuncPR_c f caps p hcall xs u w hx hf)
  obtain ⟨a, c, rfl, _⟩ := Rd_PR hx
  clear hx hf
  go_enter Try.func146, Try.ntmps146
  go_wp2_with fail
  refine HC.out.mono ?_
  rintro e w' ⟨i, rfl, hb, hi⟩
  have HB := Lib.hid hb
  have HI := Lib.hid hi
  clear hb hi
  go_wp2
  go_ret
  exact ⟨ret_bool HI.out, HB.out⟩
set_option maxHeartbeats 4000000 in
theorem validPassing_c (x0 : Int) (x1 : List Int) (x2 : List Bool) (x3 : List PR) (a1 a2 a3 : Option Addr) (c1 c2 c3 : Nat) (w : World) (h1 : SlI Any w a1 x1) (hc1 : x1.length ≤ c1) (h2 : SlB Any w a2 x2) (h3 : Rd Any w (dPR x3) (.slice a3 x3.length c3)) :
    Calls Try.prog 112 #[.agg #[.int .i64 x0, .slice a1 x1.length c1, .slice a2 x2.length c2, .slice a3 x3.length c3]] w (RetV w (.bool (okPass x0 x1 x2 x3))) := by
  have l1 := h1.len
  have l2 := h2.len
  obtain ⟨_, _, e3, k3⟩ := Rd_PR h3
  cases e3
  have l3 := k3.len
  unfold maxLen at l1 l2 l3
  clear k3
  have hb0 := below_alloc w (.cells #[.int .i64 x0, .slice a1 x1.length c1, .slice a2 x2.length c2, .slice a3 x3.length c3] 28)
  have hb : ∀ x : Wd (w.alloc (.cells #[.int .i64 x0, .slice a1 x1.length c1, .slice a2 x2.length c2, .slice a3 x3.length c3] 28)), Below w.heap.size w (wat x) := fun x => hb0.trans ((wat_below x).mono (by simp))
  have HI0 := Lib.hid (fun x : Wd (w.alloc (.cells #[.int .i64 x0, .slice a1 x1.length c1, .slice a2 x2.length c2, .slice a3 x3.length c3] 28)) => callsP (inRange_c x0 1 8 (wat x)))
  have HS1 := Lib.hid (fun x : Wd (w.alloc (.cells #[.int .i64 x0, .slice a1 x1.length c1, .slice a2 x2.length c2, .slice a3 x3.length c3] 28)) => callsP (size_int_c a1 x1.length c1 (wat x) h1.len))
  have HI1 := Lib.hid (fun x : Wd (w.alloc (.cells #[.int .i64 x0, .slice a1 x1.length c1, .slice a2 x2.length c2, .slice a3 x3.length c3] 28)) => callsP (inRange_c x1.length 1 4 (wat x)))
  have HS2 := Lib.hid (fun x : Wd (w.alloc (.cells #[.int .i64 x0, .slice a1 x1.length c1, .slice a2 x2.length c2, .slice a3 x3.length c3] 28)) => callsP (size_bool_c a2 x2.length c2 (wat x) h2.len))
  have q0 := wat_cell (show (w.alloc (.cells #[.int .i64 x0, .slice a1 x1.length c1, .slice a2 x2.length c2, .slice a3 x3.length c3] 28)).cell? ⟨w.heap.size, 0, none⟩ = some (.int .i64 x0) by simp [go_sem])
  have q1 := wat_cell (show (w.alloc (.cells #[.int .i64 x0, .slice a1 x1.length c1, .slice a2 x2.length c2, .slice a3 x3.length c3] 28)).cell? ⟨w.heap.size, 1, none⟩ = some (.slice a1 x1.length c1) by simp [go_sem])
  have q2 := wat_cell (show (w.alloc (.cells #[.int .i64 x0, .slice a1 x1.length c1, .slice a2 x2.length c2, .slice a3 x3.length c3] 28)).cell? ⟨w.heap.size, 2, none⟩ = some (.slice a2 x2.length c2) by simp [go_sem])
  have q3 := wat_cell (show (w.alloc (.cells #[.int .i64 x0, .slice a1 x1.length c1, .slice a2 x2.length c2, .slice a3 x3.length c3] 28)).cell? ⟨w.heap.size, 3, none⟩ = some (.slice a3 x3.length c3) by simp [go_sem])
  have i1 := h1.ix tabI.under tabI.size c1
  have HB := Lib.hid hb
  have H1 := Lib.hid h1
  have H2 := Lib.hid h2
  have H3 := Lib.hid h3
  clear hb h1 h2 h3
  cases b1 : inRg x0 1 8
  · have e : okPass x0 x1 x2 x3 = false := by simp [okPass, passHead, b1]
    rw [e]
    rw [b1] at HI0
    clear e b1
    go_enter Try.func112, Try.ntmps112
    go_wp2
    refine wp_quiet_wd (by kernel_rfl) (by kernel_rfl) ?_
    repeat (go_big_quiet_step (first | with_reducible exact wdV (HI0.out _) | with_reducible exact wdV (HS1.out _) | with_reducible exact wdV (HI1.out _) | with_reducible exact wdV (HS2.out _)))
    refine wpQuiet_nil ?_
    rintro _ ⟨wq, rfl⟩
    go_wp2
    go_ret
    exact ⟨rfl, HB.out wq⟩
  · rw [b1] at HI0
    cases b2 : inRg x1.length 1 4
    · have e : okPass x0 x1 x2 x3 = false := by simp [okPass, passHead, b2]
      rw [e]
      rw [b2] at HI1
      clear e b2
      go_enter Try.func112, Try.ntmps112
      go_wp2
      refine wp_quiet_wd (by kernel_rfl) (by kernel_rfl) ?_
      repeat (go_big_quiet_step (first | with_reducible exact wdV (HI0.out _) | with_reducible exact wdV (HS1.out _) | with_reducible exact wdV (HI1.out _) | with_reducible exact wdV (HS2.out _)))
      refine wpQuiet_nil ?_
      rintro _ ⟨wq, rfl⟩
      go_wp2
      go_ret
      exact ⟨rfl, HB.out wq⟩
    · rw [b2] at HI1
      have hl4 : 1 ≤ x1.length ∧ x1.length ≤ 4 := by simp [inRg] at b2; omega
      have hp0 : (0 : Int) < x1.length := by omega
      have i0 := fun w' => i1 0 w' (by omega) hp0
      rw [Int.toNat_zero] at i0
      have g0 := wat_cell (show (w.alloc (.cells #[.int .i64 x0, .slice a1 x1.length c1, .slice a2 x2.length c2, .slice a3 x3.length c3] 28)).cell? (adr a1 0) = some (.int .i64 (nth x1 0)) from (hb0.cell (World.block_lt_of_cell? w _ (H1.out.cell 0 (by omega)))).trans (H1.out.cell 0 (by omega)))
      cases b3 : (nth x1 0 != -1)
      rotate_left
      · have b3' : (nth x1 0 == -1) = false := by simpa using b3
        have e : okPass x0 x1 x2 x3 = false := by simp [okPass, passHead, b3']
        rw [e]
        clear e b3'
        go_enter Try.func112, Try.ntmps112
        go_wp2
        refine wp_quiet_wd (by kernel_rfl) (by kernel_rfl) ?_
        repeat (go_big_quiet_step (first | with_reducible exact wdV (HI0.out _) | with_reducible exact wdV (HS1.out _) | with_reducible exact wdV (HI1.out _) | with_reducible exact wdV (HS2.out _)))
        refine wpQuiet_nil ?_
        rintro _ ⟨wq, rfl⟩
        go_wp2
        go_ret
        exact ⟨rfl, HB.out wq⟩
      · have B3 : Hid ((nth x1 0 == -1) = true) := Lib.hid (by simpa using b3)
        cases b4 : ((x2.length : Int) != x0)
        rotate_left
        · have b4' : ((x2.length : Int) == x0) = false := by simpa using b4
          have e : okPass x0 x1 x2 x3 = false := by simp [okPass, passHead, b4']
          rw [e]
          clear e b4'
          go_enter Try.func112, Try.ntmps112
          go_wp2
          refine wp_quiet_wd (by kernel_rfl) (by kernel_rfl) ?_
          repeat (go_big_quiet_step (first | with_reducible exact wdV (HI0.out _) | with_reducible exact wdV (HS1.out _) | with_reducible exact wdV (HI1.out _) | with_reducible exact wdV (HS2.out _)))
          refine wpQuiet_nil ?_
          rintro _ ⟨wq, rfl⟩
          go_wp2
          go_ret
          exact ⟨rfl, HB.out wq⟩
        · have B4 : Hid (((x2.length : Int) == x0) = true) := Lib.hid (by simpa using b4)
          by_cases b5 : (8 : Int) < x3.length
          · have b5' : ¬ x3.length ≤ 8 := by omega
            have e : okPass x0 x1 x2 x3 = false := by simp [okPass, passHead, b5']
            rw [e]
            clear e b5'
            go_enter Try.func112, Try.ntmps112
            go_wp2
            refine wp_quiet_wd (by kernel_rfl) (by kernel_rfl) ?_
            repeat (go_big_quiet_step (first | with_reducible exact wdV (HI0.out _) | with_reducible exact wdV (HS1.out _) | with_reducible exact wdV (HI1.out _) | with_reducible exact wdV (HS2.out _)))
            refine wpQuiet_nil ?_
            rintro _ ⟨wq, rfl⟩
            go_wp2
            go_ret
            exact ⟨rfl, HB.out wq⟩
          · have HD : Hid (passHead x0 x1 x2 x3 = true) := Lib.hid (by simp only [passHead, b1, b2, B3.out, B4.out, decide_eq_true (show x3.length ≤ 8 by omega), Bool.and_self])
            obtain ⟨g, o, ha⟩ := (H1.out.ptr (by omega)).2
            obtain ⟨N, hN⟩ : ∃ N, x1.length = N + 1 := ⟨x1.length - 1, by omega⟩
            have hsl := slice_from (P := Try.prog) tabI.under tabI.size g o x1.length N c1 hN
            rw [← ha] at hsl
            have HA := Lib.hid ha
            obtain ⟨oo, hoo⟩ : ∃ oo, oo = if c1 = 1 then o else o + 1 := ⟨_, rfl⟩
            rw [← hoo] at hsl
            have i2 := ix_of (P := Try.prog) tabI.under tabI.size (a := some ⟨g, oo, none⟩) (n := N) (fun _ => ⟨g, oo, rfl⟩) (c1 - 1)
            simp only [Nat.mul_one, adr, blk, ofs] at i2
            have HOO := Lib.hid hoo
            have HN := Lib.hid hN
            have HC1 := Lib.hid hc1
            have hN3 : N ≤ 3 := by omega
            have h0 := Lib.hid hb0
            clear b1 b2 hN hoo hc1 hb0 ha
            go_enter Try.func112, Try.ntmps112
            go_wp2
            refine wp_quiet_wd (by kernel_rfl) (by kernel_rfl) ?_
            repeat (go_big_quiet_step (first | with_reducible exact wdV (HI0.out _) | with_reducible exact wdV (HS1.out _) | with_reducible exact wdV (HI1.out _) | with_reducible exact wdV (HS2.out _)))
            refine wpQuiet_nil ?_
            rintro _ ⟨wq, rfl⟩
            have hwb := wat_below wq
            have f0 := q0 wq
            have f1 := q1 wq
            have f2 := q2 wq
            have f3 := q3 wq
            have hz : w.heap.size < (wat wq).heap.size := by have := hwb.size; simp at this; omega
            have HWB := Lib.hid hwb
            clear q0 q1 q2 q3 g0 hwb
            go_wp2
            go_loopw [3, 4, 41] (fun _ _ i wr => ∃ k : Nat, k ≤ N ∧ i = .int .i64 k ∧ wat wq = wr ∧ (∀ j, j < k → parOk x1 j = true)) (fun _ _ i _ => N - (intOf i).toNat)
            case atStart => exact ⟨0, Nat.zero_le _, rfl, rfl, by omega⟩
            case round =>
              obtain ⟨k, hk, rfl, rfl, hj⟩ := hrel
              have HJ := Lib.hid hj
              clear hj
              by_cases hlt : k < N
              · have g1 : (wat wq).cell? ⟨g, oo + k, none⟩ = some (.int .i64 (nth x1 (k + 1))) := by
                  have h := (H1.out.below (HB.out wq)).cell (k + 1) (by have := HN.out; omega)
                  have e : oo = o + 1 := by rw [HOO.out, if_neg (by have := HC1.out; have := HN.out; omega)]
                  rw [show adr a1 (k + 1) = ⟨g, o + (k + 1), none⟩ from by rw [HA.out]; rfl] at h
                  rw [e, show o + 1 + k = o + (k + 1) from by omega]; exact h
                go_wp2_with fail
                refine (inRange_c _ _ _ _).mono ?_
                rintro e w' ⟨rfl, rfl⟩
                cases hp : inRg (nth x1 (k + 1)) 0 k
                · have HR : Hid (okPass x0 x1 x2 x3 = false) := Lib.hid (by rw [okPass, parsOk_false (k := k) (by have := HN.out; omega) hp]; simp)
                  clear hp
                  go_wp2
                  go_ret
                  exact ⟨ret_bool HR.out.symm, HB.out wq⟩
                · have HP := Lib.hid (show parOk x1 k = true from hp)
                  clear hp
                  go_wp2
                  go_roundw
                  case rel => exact ⟨k + 1, by omega, by go_num, trivial, upto HJ.out HP.out⟩
                  case measure => simp [intOf]; omega
              · have hpp : parsOk x1 = true := parsOk_true (fun j hj => HJ.out j (by have := HN.out; omega))
                have HR : Hid (okPass x0 x1 x2 x3 = allPR (ruleOk x0 x1.length x2) x3) := Lib.hid (by rw [okPass, HD.out, hpp]; simp)
                have HC := Lib.hid (containsFuncPR_c 147 #[.pointer (some ⟨w.heap.size, 0, none⟩)] (fun r => !ruleOk x0 x1.length x2 r) (callFunc_run Try.func147 (by kernel_rfl) rfl) x3 (.slice a3 x3.length c3) (wat wq) (H3.out.below (HB.out wq))
                  (Lib.hid fun wx hbx j hj b1 d1 b2 d2 k1 k2 => validPassing1_c x0 x1.length x3.length x2 (nthPR x3 j) b1 b2 _ a2 a3 d1 d2 c1 c2 c3 w.heap.size wx k1 k2 ((H2.out.below (HB.out wq)).below hbx) ((bcell1 hbx hz).trans f0) ((bcell1 hbx hz).trans f1) ((bcell1 hbx hz).trans f2) ((bcell1 hbx hz).trans f3) (by have := HN.out; omega) (by have := B4.out; simpa using this)))
                clear hpp
                go_wp2_with fail
                refine HC.out.mono ?_
                rintro e w9 ⟨rfl, hb9⟩
                have HB9 := Lib.hid (bnext (HB.out wq) hb9 (Nat.le_refl _))
                clear hb9
                go_wp2
                go_ret
                exact ⟨ret_bool (by first | (rw [HR.out]; done) | (rw [HR.out]; simp)), HB9.out⟩
theorem implValidPassing_d (x0 : Int) (x1 : List Int) (x2 : List Bool) (x3 : List PR) {v1 v2 v3 : Value} {F1 F2 F3 : List Nat} (w : World) (h1 : Ow w (dI x1) v1 F1) (h2 : Ow w (dB x2) v2 F2) (h3 : Ow w (dPR x3) v3 F3) :
    Calls Try.prog 112 #[.agg #[.int .i64 x0, v1, v2, v3]] w (RetV w (.bool (okPass x0 x1 x2 x3))) := by
  obtain ⟨a1, c1, rfl, hc1, k1⟩ := h1.capI
  obtain ⟨a2, c2, rfl, k2⟩ := Rd_B.1 h2.rdA
  obtain ⟨a3, c3, rfl, _⟩ := Rd_PR h3.rdA
  exact validPassing_c x0 x1 x2 x3 a1 a2 a3 c1 c2 c3 w k1 hc1 k2 h3.rdA

/- Valid passing systems: the reference's functions. -/
set_option maxHeartbeats 400000 in
theorem l06Sum_c (S : Nat → Prop) (a : Option Addr) (c : Nat) (xs : List Int) (w : World) (hx : SlI S w a xs) :
    Calls Try.prog 134 #[.slice a xs.length c] w (RetP w (.int .i64 (sumS xs))) := by
  have l1 := hx.len
  unfold maxLen at l1
  have i1 := hx.ix tabI.under tabI.size c
  go_enter Try.func134, Try.ntmps134
  go_wp2
  go_loopw [3, 4] (fun s i wr => ∃ k : Nat, k ≤ xs.length ∧ i = .int .i64 k ∧ w = wr ∧ s = .int .i64 (sumTo xs k)) (fun _ i _ => xs.length - (intOf i).toNat)
  case atStart => exact ⟨0, Nat.zero_le _, rfl, rfl, rfl⟩
  case round =>
      obtain ⟨k, hk, rfl, rfl, rfl⟩ := hrel
      by_cases hlt : k < xs.length
      · have g1 := hx.cell k hlt
        go_wp2
        go_roundw
        case rel => exact ⟨k + 1, by omega, by go_num, trivial, rfl⟩
        case measure => simp [intOf]; omega
      · go_wp2
        go_ret
        have e : k = xs.length := by omega
        exact ⟨ret_int (by rw [e]; rfl), rfl⟩
def bag6 (k : Int) (xs : List Int) : Bool := allB cntOk xs && ((xs.length : Int) == k)
theorem bag6_eq {k : Int} {xs : List Int} (h : 1 ≤ k ∧ k ≤ 8) : bag6 k xs = validBagS k xs := by
  unfold bag6 validBagS isBagS
  by_cases e : (xs.length : Int) = k
  · have : inRg xs.length 1 8 = true := by rw [inRg, decide_eq_true (by omega), decide_eq_true (by omega)]; rfl
    rw [this, Bool.and_true]
  · have : ((xs.length : Int) == k) = false := by simpa using e
    rw [this, Bool.and_false, Bool.and_false]
set_option maxHeartbeats 400000 in
theorem l06Bag_c (k6 : Int) (S : Nat → Prop) (a : Option Addr) (c : Nat) (cs : List Int) (w : World) (hx : SlI S w a cs) :
    Calls Try.prog 106 #[.int .i64 k6, .slice a cs.length c] w (RetP w (.bool (bag6 k6 cs))) := by
  have l1 := hx.len
  unfold maxLen at l1
  have i1 := hx.ix tabI.under tabI.size c
  go_enter Try.func106, Try.ntmps106
  go_wp2
  go_loopw [5] (fun i wr => ∃ k : Nat, k ≤ cs.length ∧ i = .int .i64 k ∧ w = wr ∧ (∀ j, j < k → cntOk (nth cs j) = true)) (fun i _ => cs.length - (intOf i).toNat)
  case atStart => exact ⟨0, Nat.zero_le _, rfl, rfl, by omega⟩
  case round =>
    obtain ⟨k, hk, rfl, rfl, hj⟩ := hrel
    have HJ := Lib.hid hj
    clear hj
    by_cases hlt : k < cs.length
    · have g1 := hx.cell k hlt
      go_wp2_with fail
      refine (l00In_c _ _ _ _).mono ?_
      rintro e w' ⟨rfl, rfl⟩
      cases hp : inRg (nth cs k) 0 1000
      · have HR := Lib.hid (allB_false (p := cntOk) hlt hp)
        clear hp
        go_wp2
        go_ret
        exact ⟨ret_bool (by rw [bag6, HR.out]; rfl), rfl⟩
      · have HP := Lib.hid (show cntOk (nth cs k) = true from hp)
        clear hp
        go_wp2
        go_roundw
        case rel => exact ⟨k + 1, by omega, by go_num, trivial, upto HJ.out HP.out⟩
        case measure => simp [intOf]; omega
    · have e : k = cs.length := by omega
      have HP := Lib.hid (allB_true (p := cntOk) (xs := cs) (e ▸ HJ.out))
      go_wp2
      go_ret
      exact ⟨ret_bool (by rw [bag6, HP.out, Bool.true_and]), rfl⟩
set_option maxHeartbeats 4000000 in
theorem l06Rule_c (x0 : Int) (np nr : Nat) (free : List Bool) (r : PR) (a1 a2 ap af ar : Option Addr) (c1 c2 cp cf cr : Nat) (p rg ro : Nat) (w : World) (h1 : SlI Any w a1 r.out) (h2 : SlI Any w a2 r.inn) (hf : SlB Any w af free)
    (hp0 : w.cell? ⟨p, 0, none⟩ = some (.int .i64 x0)) (hp1 : w.cell? ⟨p, 1, none⟩ = some (.slice ap np cp)) (hp2 : w.cell? ⟨p, 2, none⟩ = some (.slice af free.length cf)) (hp3 : w.cell? ⟨p, 3, none⟩ = some (.slice ar nr cr))
    (hr0 : w.cell? ⟨rg, ro, none⟩ = some (.int .i64 r.cell)) (hr1 : w.cell? ⟨rg, ro + 1, none⟩ = some (.slice a1 r.out.length c1)) (hr2 : w.cell? ⟨rg, ro + 2, none⟩ = some (.slice a2 r.inn.length c2)) (hx0 : 1 ≤ x0 ∧ x0 ≤ 8) (hnp : np ≤ 4) (hfl : (free.length : Int) = x0) :
    Calls Try.prog 94 #[.pointer (some ⟨p, 0, none⟩), .pointer (some ⟨rg, ro, none⟩)] w (RetV w (.bool (ruleOk x0 np free r))) := by
  have l1 := h2.len
  have l2 := hf.len
  unfold maxLen at l1 l2
  have hv1 : ∀ x : Wd w, Calls Try.prog 106 #[.int .i64 x0, .slice a1 r.out.length c1] (wat x) (RetP (wat x) (.bool (validBagS x0 r.out))) := fun x => by rw [← bag6_eq hx0]; exact l06Bag_c x0 Any a1 c1 r.out _ (h1.below (wat_below x))
  have hv2 : ∀ x : Wd w, Calls Try.prog 106 #[.int .i64 x0, .slice a2 r.inn.length c2] (wat x) (RetP (wat x) (.bool (validBagS x0 r.inn))) := fun x => by rw [← bag6_eq hx0]; exact l06Bag_c x0 Any a2 c2 r.inn _ (h2.below (wat_below x))
  have HI := Lib.hid (fun x : Wd w => callsP (l00In_c r.cell 0 ((np : Int) - 1) (wat x)))
  have HV1 := Lib.hid (fun x : Wd w => callsP (hv1 x))
  have HV2 := Lib.hid (fun x : Wd w => callsP (hv2 x))
  have HB1 := Lib.hid (fun x : Wd w => callsP (l06Sum_c Any a1 c1 r.out _ (h1.below (wat_below x))))
  have HB2 := Lib.hid (fun x : Wd w => callsP (l06Sum_c Any a2 c2 r.inn _ (h2.below (wat_below x))))
  have hwn : IntKind.i64.wrap ((np : Int) - 1) = (np : Int) - 1 := by rw [IntKind.wrap_i64]; omega
  have r0 := wat_cell hr0
  have r1 := wat_cell hr1
  have r2 := wat_cell hr2
  have q0 := wat_cell hp0
  have q1 := wat_cell hp1
  have q2 := wat_cell hp2
  have q3 := wat_cell hp3
  have i1 := h2.ix tabI.under tabI.size c2
  have i2 := hf.ix tabB.under tabB.size cf
  have H2 := Lib.hid h2
  have HF := Lib.hid hf
  have HFL := Lib.hid hfl
  clear hv1 hv2 h1 h2 hf hfl hp0 hp1 hp2 hp3 hr0 hr1 hr2
  cases b1 : inRg r.cell 0 ((np : Int) - 1)
  · have e : ruleOk x0 np free r = false := by simp only [ruleOk, b1, Bool.false_and]
    rw [e]
    rw [b1] at HI
    clear e b1
    go_enter Try.func94, Try.ntmps94
    go_wp2
    refine wp_quiet_wd (by kernel_rfl) (by kernel_rfl) ?_
    repeat (go_big_quiet_step (first | with_reducible exact wdV (HI.out _) | with_reducible exact wdV (HV1.out _) | with_reducible exact wdV (HV2.out _) | with_reducible exact wdV (HB1.out _) | with_reducible exact wdV (HB2.out _)))
    refine wpQuiet_nil ?_
    rintro _ ⟨wq, rfl⟩
    go_wp2
    go_ret
    exact ⟨rfl, wat_below wq⟩
  · rw [b1] at HI
    cases b2 : validBagS x0 r.out
    · have e : ruleOk x0 np free r = false := by simp only [ruleOk, b2, Bool.false_and, Bool.and_false]
      rw [e]
      rw [b2] at HV1
      clear e b1 b2
      go_enter Try.func94, Try.ntmps94
      go_wp2
      refine wp_quiet_wd (by kernel_rfl) (by kernel_rfl) ?_
      repeat (go_big_quiet_step (first | with_reducible exact wdV (HI.out _) | with_reducible exact wdV (HV1.out _) | with_reducible exact wdV (HV2.out _) | with_reducible exact wdV (HB1.out _) | with_reducible exact wdV (HB2.out _)))
      refine wpQuiet_nil ?_
      rintro _ ⟨wq, rfl⟩
      go_wp2
      go_ret
      exact ⟨rfl, wat_below wq⟩
    · rw [b2] at HV1
      cases b3 : validBagS x0 r.inn
      · have e : ruleOk x0 np free r = false := by simp only [ruleOk, b3, Bool.false_and, Bool.and_false]
        rw [e]
        rw [b3] at HV2
        clear e b1 b2 b3
        go_enter Try.func94, Try.ntmps94
        go_wp2
        refine wp_quiet_wd (by kernel_rfl) (by kernel_rfl) ?_
        repeat (go_big_quiet_step (first | with_reducible exact wdV (HI.out _) | with_reducible exact wdV (HV1.out _) | with_reducible exact wdV (HV2.out _) | with_reducible exact wdV (HB1.out _) | with_reducible exact wdV (HB2.out _)))
        refine wpQuiet_nil ?_
        rintro _ ⟨wq, rfl⟩
        go_wp2
        go_ret
        exact ⟨rfl, wat_below wq⟩
      · rw [b3] at HV2
        have s1 := sumS_bd (validBagS_ok b2).1
        have s2 := sumS_bd (validBagS_ok b3).1
        have HLI := Lib.hid (validBagS_ok b3).2
        have hws : IntKind.i64.wrap (sumS r.out + sumS r.inn) = sumS r.out + sumS r.inn := by rw [IntKind.wrap_i64]; omega
        cases b4 : (sumS r.out + sumS r.inn == 0)
        rotate_left
        · have e : ruleOk x0 np free r = false := by simp only [ruleOk, b4, Bool.false_and, Bool.and_false, Bool.not_true]
          rw [e]
          clear e b1 b2 b3
          go_enter Try.func94, Try.ntmps94
          go_wp2
          refine wp_quiet_wd (by kernel_rfl) (by kernel_rfl) ?_
          repeat (go_big_quiet_step (first | with_reducible exact wdV (HI.out _) | with_reducible exact wdV (HV1.out _) | with_reducible exact wdV (HV2.out _) | with_reducible exact wdV (HB1.out _) | with_reducible exact wdV (HB2.out _)))
          refine wpQuiet_nil ?_
          rintro _ ⟨wq, rfl⟩
          go_wp2
          go_ret
          exact ⟨rfl, wat_below wq⟩
        · by_cases b5 : 0 < r.cell
          · have e : ruleOk x0 np free r = true := by
              simp only [ruleOk, b1, b2, b3, b4, b5, decide_true, Bool.true_or, Bool.not_false, Bool.and_self]
            rw [e]
            clear e b1 b2 b3
            go_enter Try.func94, Try.ntmps94
            go_wp2
            refine wp_quiet_wd (by kernel_rfl) (by kernel_rfl) ?_
            repeat (go_big_quiet_step (first | with_reducible exact wdV (HI.out _) | with_reducible exact wdV (HV1.out _) | with_reducible exact wdV (HV2.out _) | with_reducible exact wdV (HB1.out _) | with_reducible exact wdV (HB2.out _)))
            refine wpQuiet_nil ?_
            rintro _ ⟨wq, rfl⟩
            have f0 := r0 wq
            have f1 := r1 wq
            go_wp2
            go_ret
            exact ⟨rfl, wat_below wq⟩
          · by_cases b6 : 0 < sumS r.out
            · have e : ruleOk x0 np free r = true := by
                simp only [ruleOk, b1, b2, b3, b4, b6, decide_true, Bool.true_or, Bool.or_true, Bool.not_false, Bool.and_self]
              rw [e]
              clear e b1 b2 b3
              go_enter Try.func94, Try.ntmps94
              go_wp2
              refine wp_quiet_wd (by kernel_rfl) (by kernel_rfl) ?_
              repeat (go_big_quiet_step (first | with_reducible exact wdV (HI.out _) | with_reducible exact wdV (HV1.out _) | with_reducible exact wdV (HV2.out _) | with_reducible exact wdV (HB1.out _) | with_reducible exact wdV (HB2.out _)))
              refine wpQuiet_nil ?_
              rintro _ ⟨wq, rfl⟩
              have f0 := r0 wq
              have f1 := r1 wq
              go_wp2_with fail
              refine (HB1.out wq).mono ?_
              rintro e w1 ⟨rfl, hb1⟩
              have HB := Lib.hid (bnext (wat_below wq) hb1 (Nat.le_refl _))
              clear hb1
              go_wp2
              go_ret
              exact ⟨rfl, HB.out⟩
            · have e : ruleOk x0 np free r = hasBoundS free r.inn := by
                simp only [ruleOk, b1, b2, b3, b4, b5, b6, decide_false, Bool.false_or, Bool.not_false, Bool.and_self, Bool.true_and]
              rw [e]
              clear e b1 b2 b3
              go_enter Try.func94, Try.ntmps94
              go_wp2
              refine wp_quiet_wd (by kernel_rfl) (by kernel_rfl) ?_
              repeat (go_big_quiet_step (first | with_reducible exact wdV (HI.out _) | with_reducible exact wdV (HV1.out _) | with_reducible exact wdV (HV2.out _) | with_reducible exact wdV (HB1.out _) | with_reducible exact wdV (HB2.out _)))
              refine wpQuiet_nil ?_
              rintro _ ⟨wq, rfl⟩
              have f0 := r0 wq
              have f1 := r1 wq
              go_wp2_with fail
              refine (HB1.out wq).mono ?_
              rintro e w1 ⟨rfl, hb1⟩
              have hbw := bnext (wat_below wq) hb1 (Nat.le_refl _)
              have f2 := (hb1.cell (World.block_lt_of_cell? _ _ (r2 wq))).trans (r2 wq)
              have f3 := (hb1.cell (World.block_lt_of_cell? _ _ (q2 wq))).trans (q2 wq)
              have HB := Lib.hid hbw
              clear hb1 hbw r0 r1 r2 q0 q1 q2 q3 f0 f1
              go_wp2
              go_loopw [5] (fun i wr => ∃ k : Nat, k ≤ r.inn.length ∧ i = .int .i64 k ∧ w1 = wr ∧ (∀ j, j < k → bound1 free r.inn j = false)) (fun i _ => r.inn.length - (intOf i).toNat)
              case atStart => exact ⟨0, Nat.zero_le _, rfl, rfl, by omega⟩
              case round =>
                obtain ⟨k, hk, rfl, rfl, hj⟩ := hrel
                have HJ := Lib.hid hj
                clear hj
                by_cases hlt : k < r.inn.length
                · have k2 : (k : Int) < free.length := by have := HFL.out; have := HLI.out; omega
                  have g1 := (H2.out.below HB.out).cell k hlt
                  have g2 := (HF.out.below HB.out).cell k (by omega)
                  by_cases h0 : 0 < nth r.inn k
                  · cases hb : nthB free k
                    · have HR := Lib.hid (hasBoundS_true (free := free) hlt (by simp [bound1, h0, hb]))
                      rw [hb] at g2
                      clear hb
                      go_wp2
                      go_ret
                      exact ⟨ret_bool HR.out.symm, HB.out⟩
                    · have HR : Hid (bound1 free r.inn k = false) := Lib.hid (by simp [bound1, hb])
                      rw [hb] at g2
                      clear hb
                      go_wp2
                      go_roundw
                      case rel => exact ⟨k + 1, by omega, by go_num, trivial, upto HJ.out HR.out⟩
                      case measure => simp [intOf]; omega
                  · have HR : Hid (bound1 free r.inn k = false) := Lib.hid (by simp [bound1, h0])
                    go_wp2
                    go_roundw
                    case rel => exact ⟨k + 1, by omega, by go_num, trivial, upto HJ.out HR.out⟩
                    case measure => simp [intOf]; omega
                · have e : k = r.inn.length := by omega
                  have HR := Lib.hid (hasBoundS_false (free := free) (xs := r.inn) (e ▸ HJ.out))
                  go_wp2
                  go_ret
                  exact ⟨ret_bool HR.out.symm, HB.out⟩
set_option maxHeartbeats 4000000 in
theorem l06Ok_c (x0 : Int) (x1 : List Int) (x2 : List Bool) (x3 : List PR) (a1 a2 a3 : Option Addr) (c1 c2 c3 : Nat) (p : Nat) (w : World) (h1 : SlI Any w a1 x1) (h2 : SlB Any w a2 x2) (h3 : Rd Any w (dPR x3) (.slice a3 x3.length c3))
    (hp0 : w.cell? ⟨p, 0, none⟩ = some (.int .i64 x0)) (hp1 : w.cell? ⟨p, 1, none⟩ = some (.slice a1 x1.length c1)) (hp2 : w.cell? ⟨p, 2, none⟩ = some (.slice a2 x2.length c2)) (hp3 : w.cell? ⟨p, 3, none⟩ = some (.slice a3 x3.length c3)) :
    Calls Try.prog 104 #[.pointer (some ⟨p, 0, none⟩)] w (RetV w (.bool (okPass x0 x1 x2 x3))) := by
  have l1 := h1.len
  have l2 := h2.len
  obtain ⟨_, _, e3, k3⟩ := Rd_PR h3
  cases e3
  have l3 := k3.len
  unfold maxLen at l1 l2 l3
  have HI0 := Lib.hid (fun x : Wd w => callsP (l00In_c x0 1 8 (wat x)))
  have HI1 := Lib.hid (fun x : Wd w => callsP (l00In_c x1.length 1 4 (wat x)))
  have hpl : p < w.heap.size := World.block_lt_of_cell? w _ hp0
  have q0 := wat_cell hp0
  have q1 := wat_cell hp1
  have q2 := wat_cell hp2
  have q3 := wat_cell hp3
  have i1 := h1.ix tabI.under tabI.size c1
  have i3 := ix_of (P := Try.prog) tabPassRuleSM.under tabPassRuleSM.size k3.ptr c3
  have H1 := Lib.hid h1
  have H2 := Lib.hid h2
  have H3 := Lib.hid h3
  clear h1 h2 h3 k3
  cases b1 : inRg x0 1 8
  · have e : okPass x0 x1 x2 x3 = false := by simp [okPass, passHead, b1]
    rw [e]
    rw [b1] at HI0
    clear e b1
    go_enter Try.func104, Try.ntmps104
    go_wp2
    refine wp_quiet_wd (by kernel_rfl) (by kernel_rfl) ?_
    repeat (go_big_quiet_step (first | with_reducible exact wdV (HI0.out _) | with_reducible exact wdV (HI1.out _)))
    refine wpQuiet_nil ?_
    rintro _ ⟨wq, rfl⟩
    go_wp2
    go_ret
    exact ⟨rfl, wat_below wq⟩
  · rw [b1] at HI0
    cases b2 : inRg x1.length 1 4
    · have e : okPass x0 x1 x2 x3 = false := by simp [okPass, passHead, b2]
      rw [e]
      rw [b2] at HI1
      clear e b1 b2
      go_enter Try.func104, Try.ntmps104
      go_wp2
      refine wp_quiet_wd (by kernel_rfl) (by kernel_rfl) ?_
      repeat (go_big_quiet_step (first | with_reducible exact wdV (HI0.out _) | with_reducible exact wdV (HI1.out _)))
      refine wpQuiet_nil ?_
      rintro _ ⟨wq, rfl⟩
      go_wp2
      go_ret
      exact ⟨rfl, wat_below wq⟩
    · rw [b2] at HI1
      have hl4 : 1 ≤ x1.length ∧ x1.length ≤ 4 := by simp [inRg] at b2; omega
      have hx0 : 1 ≤ x0 ∧ x0 ≤ 8 := by simpa [inRg] using b1
      have hp00 : (0 : Int) < x1.length := by omega
      have i0 := fun w' => i1 0 w' (by omega) hp00
      rw [Int.toNat_zero] at i0
      have g0 := wat_cell (H1.out.cell 0 (by omega))
      cases b4 : ((x2.length : Int) != x0)
      rotate_left
      · have b4' : ((x2.length : Int) == x0) = false := by simpa using b4
        have e : okPass x0 x1 x2 x3 = false := by simp [okPass, passHead, b4']
        rw [e]
        clear e b4' b1 b2
        go_enter Try.func104, Try.ntmps104
        go_wp2
        refine wp_quiet_wd (by kernel_rfl) (by kernel_rfl) ?_
        repeat (go_big_quiet_step (first | with_reducible exact wdV (HI0.out _) | with_reducible exact wdV (HI1.out _)))
        refine wpQuiet_nil ?_
        rintro _ ⟨wq, rfl⟩
        go_wp2
        go_ret
        exact ⟨rfl, wat_below wq⟩
      · have B4 : Hid (((x2.length : Int) == x0) = true) := Lib.hid (by simpa using b4)
        by_cases b5 : (8 : Int) < x3.length
        · have b5' : ¬ x3.length ≤ 8 := by omega
          have e : okPass x0 x1 x2 x3 = false := by simp [okPass, passHead, b5']
          rw [e]
          clear e b5' b1 b2
          go_enter Try.func104, Try.ntmps104
          go_wp2
          refine wp_quiet_wd (by kernel_rfl) (by kernel_rfl) ?_
          repeat (go_big_quiet_step (first | with_reducible exact wdV (HI0.out _) | with_reducible exact wdV (HI1.out _)))
          refine wpQuiet_nil ?_
          rintro _ ⟨wq, rfl⟩
          go_wp2
          go_ret
          exact ⟨rfl, wat_below wq⟩
        · have b5d : decide ((8 : Int) < (x3.length : Int)) = false := decide_eq_false b5
          cases b3 : (nth x1 0 != -1)
          rotate_left
          · have b3' : (nth x1 0 == -1) = false := by simpa using b3
            have e : okPass x0 x1 x2 x3 = false := by simp [okPass, passHead, b3']
            rw [e]
            clear e b3' b1 b2
            go_enter Try.func104, Try.ntmps104
            go_wp2
            refine wp_quiet_wd (by kernel_rfl) (by kernel_rfl) ?_
            repeat (go_big_quiet_step (first | with_reducible exact wdV (HI0.out _) | with_reducible exact wdV (HI1.out _)))
            refine wpQuiet_nil ?_
            rintro _ ⟨wq, rfl⟩
            go_wp2
            go_ret
            exact ⟨rfl, wat_below wq⟩
          · have B3 : Hid ((nth x1 0 == -1) = true) := Lib.hid (by simpa using b3)
            have HD : Hid (passHead x0 x1 x2 x3 = true) := Lib.hid (by simp only [passHead, b1, b2, B3.out, B4.out, decide_eq_true (show x3.length ≤ 8 by omega), Bool.and_self])
            clear b1 b2
            go_enter Try.func104, Try.ntmps104
            go_wp2
            refine wp_quiet_wd (by kernel_rfl) (by kernel_rfl) ?_
            repeat (go_big_quiet_step (first | with_reducible exact wdV (HI0.out _) | with_reducible exact wdV (HI1.out _)))
            refine wpQuiet_nil ?_
            rintro _ ⟨wq, rfl⟩
            have hwb := wat_below wq
            have f0 := q0 wq
            have f1 := q1 wq
            have f2 := q2 wq
            have f3 := q3 wq
            have hz : p < (wat wq).heap.size := by have := hwb.size; omega
            have HWB := Lib.hid hwb
            clear q0 q1 q2 q3 g0 hwb hp0 hp1 hp2 hp3 i0
            go_wp2
            go_loopw [4] (fun i wr => ∃ k : Nat, k + 1 ≤ x1.length ∧ i = .int .i64 ((k : Int) + 1) ∧ wat wq = wr ∧ (∀ j, j < k → parOk x1 j = true)) (fun i _ => x1.length - (intOf i).toNat)
            case atStart => exact ⟨0, by omega, rfl, rfl, by omega⟩
            case round =>
              obtain ⟨k, hk, rfl, rfl, hj⟩ := hrel
              have HJ := Lib.hid hj
              clear hj
              have hwk : IntKind.i64.wrap ((k : Int) + 1 - 1) = (k : Int) := by rw [IntKind.wrap_i64]; omega
              by_cases hlt : k + 1 < x1.length
              · have g1 := (H1.out.below HWB.out).cell (k + 1) hlt
                have hlt' : (k : Int) + 1 < x1.length := by omega
                have i2 := fun w' => i1 ((k : Int) + 1) w' (by omega) hlt'
                rw [show ((k : Int) + 1).toNat = k + 1 from by omega] at i2
                go_wp2_with fail
                refine (l00In_c _ _ _ _).mono ?_
                rintro e w' ⟨rfl, rfl⟩
                cases hp : inRg (nth x1 (k + 1)) 0 k
                · have HR : Hid (okPass x0 x1 x2 x3 = false) := Lib.hid (by rw [okPass, parsOk_false hlt hp]; simp)
                  clear hp
                  go_wp2
                  go_ret
                  exact ⟨ret_bool HR.out.symm, HWB.out⟩
                · have HP := Lib.hid (show parOk x1 k = true from hp)
                  clear hp
                  go_wp2
                  go_roundw
                  case rel => exact ⟨k + 1, by omega, by go_num, trivial, upto HJ.out HP.out⟩
                  case measure => simp [intOf]; omega
              · have hpp : parsOk x1 = true := parsOk_true (fun j hj => HJ.out j (by omega))
                have hlt' : ¬ (k : Int) + 1 < x1.length := by omega
                have HR : Hid (okPass x0 x1 x2 x3 = allPR (ruleOk x0 x1.length x2) x3) := Lib.hid (by rw [okPass, HD.out, hpp]; simp)
                clear hpp hwk
                go_wp2
                go_loopw [5] (fun i wr => ∃ m : Nat, m ≤ x3.length ∧ i = .int .i64 m ∧ Below (wat wq).heap.size (wat wq) wr ∧ (∀ j, j < m → ruleOk x0 x1.length x2 (nthPR x3 j) = true)) (fun i _ => x3.length - (intOf i).toNat)
                case atStart => exact ⟨0, Nat.zero_le _, rfl, Below.refl _ _, by omega⟩
                case round =>
                  obtain ⟨m, hm, rfl, hb, hj⟩ := hrel
                  have HJ2 := Lib.hid hj
                  have HB := Lib.hid hb
                  have y0 := (bcell1 hb hz).trans f0
                  have y1 := (bcell1 hb hz).trans f1
                  have y2 := (bcell1 hb hz).trans f2
                  have y3 := (bcell1 hb hz).trans f3
                  clear hj hb
                  by_cases hlt3 : m < x3.length
                  · obtain ⟨_, _, ex, hxs⟩ := Rd_PR ((H3.out.below HWB.out).below HB.out)
                    cases ex
                    have g0 := hxs.c0 m hlt3
                    obtain ⟨b1, d1, g1, k1⟩ := hxs.c1 m hlt3
                    obtain ⟨b2, d2, g2, k2⟩ := hxs.c2 m hlt3
                    have HC := Lib.hid (l06Rule_c x0 x1.length x3.length x2 (nthPR x3 m) b1 b2 a1 a2 a3 d1 d2 c1 c2 c3 p (blk a3) (ofs a3 + m * 3) wr k1 k2 ((H2.out.below HWB.out).below HB.out) y0 y1 y2 y3 g0 g1 g2 hx0 hl4.2 (by have := B4.out; simpa using this))
                    clear hxs k1 k2 g0 g1 g2
                    go_wp2_with fail
                    refine HC.out.mono ?_
                    rintro e w9 ⟨rfl, hb9⟩
                    have HB9 := Lib.hid (bnext HB.out hb9 (Nat.le_refl _))
                    clear hb9
                    cases hp : ruleOk x0 x1.length x2 (nthPR x3 m)
                    · have HF := Lib.hid (allPR_false (p := ruleOk x0 x1.length x2) hlt3 hp)
                      clear hp
                      go_wp2
                      go_ret
                      exact ⟨ret_bool (by rw [HR.out, HF.out]), bnext HWB.out HB9.out (Nat.le_refl _)⟩
                    · have HP := Lib.hid hp
                      clear hp
                      go_wp2
                      go_roundw
                      case rel => exact ⟨m + 1, by omega, by go_num, HB9.out, upto HJ2.out HP.out⟩
                      case measure => simp [intOf]; omega
                  · have e : m = x3.length := by omega
                    have HF := Lib.hid (allPR_true (p := ruleOk x0 x1.length x2) (rs := x3) (e ▸ HJ2.out))
                    go_wp2
                    go_ret
                    exact ⟨ret_bool (by rw [HR.out, HF.out]), bnext HWB.out HB.out (Nat.le_refl _)⟩
