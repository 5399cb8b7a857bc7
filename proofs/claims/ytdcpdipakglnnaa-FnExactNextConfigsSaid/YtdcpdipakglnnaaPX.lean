/- Valid passing systems: the program's function. -/
import Derived.Test.YtdcpdipakglnnaaPW
namespace Go.Proofs.Ytdcpdipakglnnaa
open Go.RowKit

theorem slice_from {P : Program} {T E : Nat} (hT : P.underlying T = some (.slice E)) (hE : (P.info? E).map (·.size) = some 1) (g o n N c : Nat) (hn : n = N + 1) (w' : World) :
    (Instr.slice T (.slice (some ⟨g, o, none⟩) n c) (some (.int .i64 1)) none none).run P w' = .ok (.slice (some ⟨g, if c = 1 then o else o + 1, none⟩) N (c - 1)) w' := by
  have hE' : ∃ info, P.info? E = some info ∧ info.size = 1 := by
    cases hh : P.info? E with
    | none => simp [hh] at hE
    | some info => exact ⟨info, rfl, by simpa [hh] using hE⟩
  obtain ⟨info, hi, hs⟩ := hE'
  subst hn
  have hn1 : ¬ ((N : Int) + 1 < 1) := by omega
  by_cases hc : c = 1
  · simp [hn1, Instr.slice, Instr.sliceBounds, Instr.sliceBound, run_underlying hT, asIntOf, sizeOf, typeInfo, hi, hs, hc]
  · simp [hn1, Instr.slice, Instr.sliceBounds, Instr.sliceBound, run_underlying hT, asIntOf, sizeOf, typeInfo, hi, hs, hc, Addr.add_lit]
theorem Ow.capI {w : World} {xs : List Int} {v : Value} {F : List Nat} (h : Ow w (dI xs) v F) : ∃ a c, v = .slice a xs.length c ∧ xs.length ≤ c ∧ SlI Any w a xs := by
  obtain ⟨a, c, rfl, hc, _⟩ := Ow_I.1 h
  exact ⟨a, c, rfl, hc, h.arg⟩
set_option maxHeartbeats 1000000 in
theorem indexFuncPR_c (f : FuncId) (caps : Array Value) (p : PR → Bool) (hcall : ∀ args w, (callFunc f args).run Try.prog w = .ok (.enter f args) w) (xs : List PR) (u : Value) (w : World) (hx : Rd Any w (dPR xs) u)
    (hf : Hid (∀ wx, Below w.heap.size w wx → ∀ j, j < xs.length → ∀ a1 c1 a2 c2, SlI Any wx a1 (nthPR xs j).out → SlI Any wx a2 (nthPR xs j).inn → Calls Try.prog f (#[.agg #[.int .i64 (nthPR xs j).cell, .slice a1 (nthPR xs j).out.length c1, .slice a2 (nthPR xs j).inn.length c2]] ++ caps) wx (RetV wx (.bool (p (nthPR xs j)))))) :
    Calls Try.prog 155 #[u, .func (.func f) #[] caps] w (fun e w' => ∃ i : Int, e = .returned (.int .i64 i) ∧ Below w.heap.size w w' ∧ decide (0 ≤ i) = !allPR (fun r => !p r) xs) := by
  obtain ⟨a, c, rfl, hxs⟩ := Rd_PR hx
  have l1 := hxs.len
  unfold maxLen at l1
  have i1 := ix_of (P := Try.prog) tabPassRuleSM.under tabPassRuleSM.size hxs.ptr c
  clear hxs
  go_enter Try.func155, Try.ntmps155
  go_wp2
  go_loopw [5, 8] (fun _ i wr => ∃ k : Nat, k ≤ xs.length ∧ i = .int .i64 k ∧ Below w.heap.size w wr ∧ (∀ j, j < k → p (nthPR xs j) = false)) (fun _ i _ => xs.length - (intOf i).toNat)
  case atStart => exact ⟨0, Nat.zero_le _, rfl, Below.refl _ _, by omega⟩
  case round =>
      obtain ⟨k, hk, rfl, hb, hj⟩ := hrel
      have HJ := Lib.hid hj
      have HB := Lib.hid hb
      clear hj hb
      by_cases hlt : k < xs.length
      · obtain ⟨_, _, ex, hxs⟩ := Rd_PR (hx.below HB.out)
        cases ex
        have g0 := hxs.c0 k hlt
        obtain ⟨a1, c1, g1, h1⟩ := hxs.c1 k hlt
        obtain ⟨a2, c2, g2, h2⟩ := hxs.c2 k hlt
        have HC := Lib.hid (hf.out wr HB.out k hlt a1 c1 a2 c2 h1 h2)
        clear hxs h1 h2
        go_wp2_with fail
        refine HC.out.mono ?_
        rintro e w1 ⟨rfl, hb1⟩
        have HB1 := Lib.hid (bnext HB.out hb1 (Nat.le_refl _))
        clear hb1 g0 g1 g2
        cases hp : p (nthPR xs k)
        · have HP := Lib.hid hp
          clear hp
          go_wp2
          go_roundw
          case rel => exact ⟨k + 1, by omega, by go_num, HB1.out, upto HJ.out HP.out⟩
          case measure => simp [intOf]; omega
        · have HR := Lib.hid (allPR_false (p := fun r => !p r) hlt (by simp [hp]))
          clear hp
          go_wp2
          go_ret
          exact ⟨_, rfl, HB1.out, by rw [HR.out]; simp⟩
      · have e : k = xs.length := by omega
        have HR := Lib.hid (allPR_true (p := fun r => !p r) (rs := xs) (fun j hj => by simp [HJ.out j (by omega)]))
        go_wp2
        go_ret
        exact ⟨_, rfl, HB.out, by rw [HR.out]; simp⟩
set_option maxHeartbeats 400000 in
theorem containsFuncPR_c (f : FuncId) (caps : Array Value) (p : PR → Bool) (hcall : ∀ args w, (callFunc f args).run Try.prog w = .ok (.enter f args) w) (xs : List PR) (u : Value) (w : World) (hx : Rd Any w (dPR xs) u)
    (hf : Hid (∀ wx, Below w.heap.size w wx → ∀ j, j < xs.length → ∀ a1 c1 a2 c2, SlI Any wx a1 (nthPR xs j).out → SlI Any wx a2 (nthPR xs j).inn → Calls Try.prog f (#[.agg #[.int .i64 (nthPR xs j).cell, .slice a1 (nthPR xs j).out.length c1, .slice a2 (nthPR xs j).inn.length c2]] ++ caps) wx (RetV wx (.bool (p (nthPR xs j)))))) :
    Calls Try.prog 94 #[u, .func (.func f) #[] caps] w (RetV w (.bool (!allPR (fun r => !p r) xs))) := by
  have HC := Lib.hid (indexFuncPR_c f caps p hcall xs u w hx hf)
  obtain ⟨a, c, rfl, _⟩ := Rd_PR hx
  clear hx hf
  go_enter Try.func94, Try.ntmps94
  go_wp2_with fail
  refine HC.out.mono ?_
  rintro e w' ⟨i, rfl, hb, hi⟩
  have HB := Lib.hid hb
  have HI := Lib.hid hi
  clear hb hi
  go_wp2
  go_ret
  exact ⟨ret_bool HI.out, HB.out⟩
set_option maxHeartbeats 4000000 in
theorem validPassing_c (x0 : Int) (x1 : List Int) (x2 : List Bool) (x3 : List PR) (a1 a2 a3 : Option Addr) (c1 c2 c3 : Nat) (w : World) (h1 : SlI Any w a1 x1) (hc1 : x1.length ≤ c1) (h2 : SlB Any w a2 x2) (h3 : Rd Any w (dPR x3) (.slice a3 x3.length c3)) :
    Calls Try.prog 30 #[.agg #[.int .i64 x0, .slice a1 x1.length c1, .slice a2 x2.length c2, .slice a3 x3.length c3]] w (RetV w (.bool (okPass x0 x1 x2 x3))) := by
  have l1 := h1.len
  have l2 := h2.len
  obtain ⟨_, _, e3, k3⟩ := Rd_PR h3
  cases e3
  have l3 := k3.len
  unfold maxLen at l1 l2 l3
  clear k3
  have hb0 := below_alloc w (.cells #[.int .i64 x0, .slice a1 x1.length c1, .slice a2 x2.length c2, .slice a3 x3.length c3] 43)
  have hb : ∀ x : Wd (w.alloc (.cells #[.int .i64 x0, .slice a1 x1.length c1, .slice a2 x2.length c2, .slice a3 x3.length c3] 43)), Below w.heap.size w (wat x) := fun x => hb0.trans ((wat_below x).mono (by simp))
  have HI0 := Lib.hid (fun x : Wd (w.alloc (.cells #[.int .i64 x0, .slice a1 x1.length c1, .slice a2 x2.length c2, .slice a3 x3.length c3] 43)) => callsP (inRange_c x0 1 8 (wat x)))
  have HS1 := Lib.hid (fun x : Wd (w.alloc (.cells #[.int .i64 x0, .slice a1 x1.length c1, .slice a2 x2.length c2, .slice a3 x3.length c3] 43)) => callsP (size_int_c a1 x1.length c1 (wat x) h1.len))
  have HI1 := Lib.hid (fun x : Wd (w.alloc (.cells #[.int .i64 x0, .slice a1 x1.length c1, .slice a2 x2.length c2, .slice a3 x3.length c3] 43)) => callsP (inRange_c x1.length 1 4 (wat x)))
  have HS2 := Lib.hid (fun x : Wd (w.alloc (.cells #[.int .i64 x0, .slice a1 x1.length c1, .slice a2 x2.length c2, .slice a3 x3.length c3] 43)) => callsP (size_bool_c a2 x2.length c2 (wat x) h2.len))
  have q0 := wat_cell (show (w.alloc (.cells #[.int .i64 x0, .slice a1 x1.length c1, .slice a2 x2.length c2, .slice a3 x3.length c3] 43)).cell? ⟨w.heap.size, 0, none⟩ = some (.int .i64 x0) by simp [go_sem])
  have q1 := wat_cell (show (w.alloc (.cells #[.int .i64 x0, .slice a1 x1.length c1, .slice a2 x2.length c2, .slice a3 x3.length c3] 43)).cell? ⟨w.heap.size, 1, none⟩ = some (.slice a1 x1.length c1) by simp [go_sem])
  have q2 := wat_cell (show (w.alloc (.cells #[.int .i64 x0, .slice a1 x1.length c1, .slice a2 x2.length c2, .slice a3 x3.length c3] 43)).cell? ⟨w.heap.size, 2, none⟩ = some (.slice a2 x2.length c2) by simp [go_sem])
  have q3 := wat_cell (show (w.alloc (.cells #[.int .i64 x0, .slice a1 x1.length c1, .slice a2 x2.length c2, .slice a3 x3.length c3] 43)).cell? ⟨w.heap.size, 3, none⟩ = some (.slice a3 x3.length c3) by simp [go_sem])
  have i1 := h1.ix tabI.under tabI.size c1
  have HB := Lib.hid hb
  have H1 := Lib.hid h1
  have H2 := Lib.hid h2
  have H3 := Lib.hid h3
  clear hb h1 h2 h3
  cases b1 : inRg x0 1 8
  · have e : okPass x0 x1 x2 x3 = false := by simp [okPass, passHead, b1]
    rw [e]
    rw [b1] at HI0
    clear e b1
    go_enter Try.func30, Try.ntmps30
    go_wp2
    refine wp_quiet_wd (by kernel_rfl) (by kernel_rfl) ?_
    repeat (go_big_quiet_step (first | with_reducible exact wdV (HI0.out _) | with_reducible exact wdV (HS1.out _) | with_reducible exact wdV (HI1.out _) | with_reducible exact wdV (HS2.out _)))
    refine wpQuiet_nil ?_
    rintro _ ⟨wq, rfl⟩
    go_wp2
    go_ret
    exact ⟨rfl, HB.out wq⟩
  · rw [b1] at HI0
    cases b2 : inRg x1.length 1 4
    · have e : okPass x0 x1 x2 x3 = false := by simp [okPass, passHead, b2]
      rw [e]
      rw [b2] at HI1
      clear e b2
      go_enter Try.func30, Try.ntmps30
      go_wp2
      refine wp_quiet_wd (by kernel_rfl) (by kernel_rfl) ?_
      repeat (go_big_quiet_step (first | with_reducible exact wdV (HI0.out _) | with_reducible exact wdV (HS1.out _) | with_reducible exact wdV (HI1.out _) | with_reducible exact wdV (HS2.out _)))
      refine wpQuiet_nil ?_
      rintro _ ⟨wq, rfl⟩
      go_wp2
      go_ret
      exact ⟨rfl, HB.out wq⟩
    · rw [b2] at HI1
      have hl4 : 1 ≤ x1.length ∧ x1.length ≤ 4 := by simp [inRg] at b2; omega
      have hp0 : (0 : Int) < x1.length := by omega
      have i0 := fun w' => i1 0 w' (by omega) hp0
      rw [Int.toNat_zero] at i0
      have g0 := wat_cell (show (w.alloc (.cells #[.int .i64 x0, .slice a1 x1.length c1, .slice a2 x2.length c2, .slice a3 x3.length c3] 43)).cell? (adr a1 0) = some (.int .i64 (nth x1 0)) from (hb0.cell (World.block_lt_of_cell? w _ (H1.out.cell 0 (by omega)))).trans (H1.out.cell 0 (by omega)))
      cases b3 : (nth x1 0 != -1)
      rotate_left
      · have b3' : (nth x1 0 == -1) = false := by simpa using b3
        have e : okPass x0 x1 x2 x3 = false := by simp [okPass, passHead, b3']
        rw [e]
        clear e b3'
        go_enter Try.func30, Try.ntmps30
        go_wp2
        refine wp_quiet_wd (by kernel_rfl) (by kernel_rfl) ?_
        repeat (go_big_quiet_step (first | with_reducible exact wdV (HI0.out _) | with_reducible exact wdV (HS1.out _) | with_reducible exact wdV (HI1.out _) | with_reducible exact wdV (HS2.out _)))
        refine wpQuiet_nil ?_
        rintro _ ⟨wq, rfl⟩
        go_wp2
        go_ret
        exact ⟨rfl, HB.out wq⟩
      · have B3 : Hid ((nth x1 0 == -1) = true) := Lib.hid (by simpa using b3)
        cases b4 : ((x2.length : Int) != x0)
        rotate_left
        · have b4' : ((x2.length : Int) == x0) = false := by simpa using b4
          have e : okPass x0 x1 x2 x3 = false := by simp [okPass, passHead, b4']
          rw [e]
          clear e b4'
          go_enter Try.func30, Try.ntmps30
          go_wp2
          refine wp_quiet_wd (by kernel_rfl) (by kernel_rfl) ?_
          repeat (go_big_quiet_step (first | with_reducible exact wdV (HI0.out _) | with_reducible exact wdV (HS1.out _) | with_reducible exact wdV (HI1.out _) | with_reducible exact wdV (HS2.out _)))
          refine wpQuiet_nil ?_
          rintro _ ⟨wq, rfl⟩
          go_wp2
          go_ret
          exact ⟨rfl, HB.out wq⟩
        · have B4 : Hid (((x2.length : Int) == x0) = true) := Lib.hid (by simpa using b4)
          by_cases b5 : (8 : Int) < x3.length
          · have b5' : ¬ x3.length ≤ 8 := by omega
            have e : okPass x0 x1 x2 x3 = false := by simp [okPass, passHead, b5']
            rw [e]
            clear e b5'
            go_enter Try.func30, Try.ntmps30
            go_wp2
            refine wp_quiet_wd (by kernel_rfl) (by kernel_rfl) ?_
            repeat (go_big_quiet_step (first | with_reducible exact wdV (HI0.out _) | with_reducible exact wdV (HS1.out _) | with_reducible exact wdV (HI1.out _) | with_reducible exact wdV (HS2.out _)))
            refine wpQuiet_nil ?_
            rintro _ ⟨wq, rfl⟩
            go_wp2
            go_ret
            exact ⟨rfl, HB.out wq⟩
          · have HD : Hid (passHead x0 x1 x2 x3 = true) := Lib.hid (by simp only [passHead, b1, b2, B3.out, B4.out, decide_eq_true (show x3.length ≤ 8 by omega), Bool.and_self])
            obtain ⟨g, o, ha⟩ := (H1.out.ptr (by omega)).2
            obtain ⟨N, hN⟩ : ∃ N, x1.length = N + 1 := ⟨x1.length - 1, by omega⟩
            have hsl := slice_from (P := Try.prog) tabI.under tabI.size g o x1.length N c1 hN
            rw [← ha] at hsl
            have HA := Lib.hid ha
            obtain ⟨oo, hoo⟩ : ∃ oo, oo = if c1 = 1 then o else o + 1 := ⟨_, rfl⟩
            rw [← hoo] at hsl
            have i2 := ix_of (P := Try.prog) tabI.under tabI.size (a := some ⟨g, oo, none⟩) (n := N) (fun _ => ⟨g, oo, rfl⟩) (c1 - 1)
            simp only [Nat.mul_one, adr, blk, ofs] at i2
            have HOO := Lib.hid hoo
            have HN := Lib.hid hN
            have HC1 := Lib.hid hc1
            have hN3 : N ≤ 3 := by omega
            have h0 := Lib.hid hb0
            clear b1 b2 hN hoo hc1 hb0 ha
            go_enter Try.func30, Try.ntmps30
            go_wp2
            refine wp_quiet_wd (by kernel_rfl) (by kernel_rfl) ?_
            repeat (go_big_quiet_step (first | with_reducible exact wdV (HI0.out _) | with_reducible exact wdV (HS1.out _) | with_reducible exact wdV (HI1.out _) | with_reducible exact wdV (HS2.out _)))
            refine wpQuiet_nil ?_
            rintro _ ⟨wq, rfl⟩
            have hwb := wat_below wq
            have f0 := q0 wq
            have f1 := q1 wq
            have f2 := q2 wq
            have f3 := q3 wq
            have hz : w.heap.size < (wat wq).heap.size := by have := hwb.size; simp at this; omega
            have HWB := Lib.hid hwb
            clear q0 q1 q2 q3 g0 hwb
            go_wp2
            go_loopw [3, 4, 41] (fun _ _ i wr => ∃ k : Nat, k ≤ N ∧ i = .int .i64 k ∧ wat wq = wr ∧ (∀ j, j < k → parOk x1 j = true)) (fun _ _ i _ => N - (intOf i).toNat)
            case atStart => exact ⟨0, Nat.zero_le _, rfl, rfl, by omega⟩
            case round =>
              obtain ⟨k, hk, rfl, rfl, hj⟩ := hrel
              have HJ := Lib.hid hj
              clear hj
              by_cases hlt : k < N
              · have g1 : (wat wq).cell? ⟨g, oo + k, none⟩ = some (.int .i64 (nth x1 (k + 1))) := by
                  have h := (H1.out.below (HB.out wq)).cell (k + 1) (by have := HN.out; omega)
                  have e : oo = o + 1 := by rw [HOO.out, if_neg (by have := HC1.out; have := HN.out; omega)]
                  rw [show adr a1 (k + 1) = ⟨g, o + (k + 1), none⟩ from by rw [HA.out]; rfl] at h
                  rw [e, show o + 1 + k = o + (k + 1) from by omega]; exact h
                go_wp2_with fail
                refine (inRange_c _ _ _ _).mono ?_
                rintro e w' ⟨rfl, rfl⟩
                cases hp : inRg (nth x1 (k + 1)) 0 k
                · have HR : Hid (okPass x0 x1 x2 x3 = false) := Lib.hid (by rw [okPass, parsOk_false (k := k) (by have := HN.out; omega) hp]; simp)
                  clear hp
                  go_wp2
                  go_ret
                  exact ⟨ret_bool HR.out.symm, HB.out wq⟩
                · have HP := Lib.hid (show parOk x1 k = true from hp)
                  clear hp
                  go_wp2
                  go_roundw
                  case rel => exact ⟨k + 1, by omega, by go_num, trivial, upto HJ.out HP.out⟩
                  case measure => simp [intOf]; omega
              · have hpp : parsOk x1 = true := parsOk_true (fun j hj => HJ.out j (by have := HN.out; omega))
                have HR : Hid (okPass x0 x1 x2 x3 = allPR (ruleOk x0 x1.length x2) x3) := Lib.hid (by rw [okPass, HD.out, hpp]; simp)
                have HC := Lib.hid (containsFuncPR_c 95 #[.pointer (some ⟨w.heap.size, 0, none⟩)] (fun r => !ruleOk x0 x1.length x2 r) (callFunc_run Try.func95 (by kernel_rfl) rfl) x3 (.slice a3 x3.length c3) (wat wq) (H3.out.below (HB.out wq))
                  (Lib.hid fun wx hbx j hj b1 d1 b2 d2 k1 k2 => validPassing1_c x0 x1.length x3.length x2 (nthPR x3 j) b1 b2 _ a2 a3 d1 d2 c1 c2 c3 w.heap.size wx k1 k2 ((H2.out.below (HB.out wq)).below hbx) ((bcell1 hbx hz).trans f0) ((bcell1 hbx hz).trans f1) ((bcell1 hbx hz).trans f2) ((bcell1 hbx hz).trans f3) (by have := HN.out; omega) (by have := B4.out; simpa using this)))
                clear hpp
                go_wp2_with fail
                refine HC.out.mono ?_
                rintro e w9 ⟨rfl, hb9⟩
                have HB9 := Lib.hid (bnext (HB.out wq) hb9 (Nat.le_refl _))
                clear hb9
                go_wp2
                go_ret
                exact ⟨ret_bool (by first | (rw [HR.out]; done) | (rw [HR.out]; simp)), HB9.out⟩
theorem implValidPassing_d (x0 : Int) (x1 : List Int) (x2 : List Bool) (x3 : List PR) {v1 v2 v3 : Value} {F1 F2 F3 : List Nat} (w : World) (h1 : Ow w (dI x1) v1 F1) (h2 : Ow w (dB x2) v2 F2) (h3 : Ow w (dPR x3) v3 F3) :
    Calls Try.prog 30 #[.agg #[.int .i64 x0, v1, v2, v3]] w (RetV w (.bool (okPass x0 x1 x2 x3))) := by
  obtain ⟨a1, c1, rfl, hc1, k1⟩ := h1.capI
  obtain ⟨a2, c2, rfl, k2⟩ := Rd_B.1 h2.rdA
  obtain ⟨a3, c3, rfl, _⟩ := Rd_PR h3.rdA
  exact validPassing_c x0 x1 x2 x3 a1 a2 a3 c1 c2 c3 w k1 hc1 k2 h3.rdA
end Go.Proofs.Ytdcpdipakglnnaa
