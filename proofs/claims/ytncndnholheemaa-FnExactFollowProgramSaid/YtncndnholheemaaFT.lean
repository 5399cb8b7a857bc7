/- The choices by which a cell follows a program: the reference's function. Written by mkft.py. -/
import Derived.Test.YtncndnholheemaaFS
import Derived.Test.YtncndnholheemaaMI
import Derived.Test.YtncndnholheemaaBW
namespace Go.Proofs.Ytncndnholheemaa
open Go.RowKit

/-- What is known of the configs that a run leaves behind. -/
theorem runC_mid {R : Int} {os : List Ord} (hvp : validProgS R os = true) : ∀ (n : Nat) (c : Cfg), confOk R os.length c.pc c.regs = true → ∀ i, i + 1 < (runC os n c).1.length → confOk R os.length (nthCfg (runC os n c).1 i).pc (nthCfg (runC os n c).1 i).regs = true ∧ haltS os (nthCfg (runC os n c).1 i).pc = false
  | 0, c, _, i, hi => by simp [runC] at hi
  | n + 1, c, hc, i, hi => by
    by_cases h1 : haltS os c.pc = true
    · rw [runC_halt h1] at hi; simp at hi
    · have h1' : haltS os c.pc = false := by simpa using h1
      by_cases h2 : choice (nthO os c.pc.toNat) = true
      · rw [runC_choice h1' h2] at hi; simp at hi
      · have h2' : choice (nthO os c.pc.toNat) = false := by simpa using h2
        rcases nextS_code os c.pc c.regs with h3 | ⟨_, h3⟩
        · rw [runC_step h1' h2' h3] at hi ⊢
          cases i with
          | zero => exact ⟨by simpa [nthCfg] using hc, by simpa [nthCfg] using h1'⟩
          | succ i =>
            have ih := runC_mid hvp n (firstS os c) (firstS_ok hvp hc h1' h3) i (by simpa using hi)
            simpa [nthCfg] using ih
        · rw [runC_stuck h1' h2' h3] at hi; simp at hi
theorem folL_take (R : Nat) (os : List Ord) (mode : Int) (cs : List Cfg) {k : Nat} (h : k < cs.length) : folL R os mode (cs.take (k + 1)) = folL R os mode (cs.take k) ++ folC R os mode (nthCfg cs k) := by
  rw [List.take_succ_eq_append_getElem h, folL_snoc, nthCfg_lt h]
theorem nth_shift (W : Int) (kl : List Int) {j : Nat} (h : j < kl.length) : nth (kl.map fun k => W + k) j = W + nth kl j := by
  rw [nth_lt (by simpa using h), nth_lt h]; simp
theorem Bld.lit (E : TypeId) (w : World) (v : Value) : Bld E (w.alloc (.cells #[v] E)) w.heap.size (.slice (some ⟨w.heap.size, 0, none⟩) 1 1) [v] := by
  exact ⟨by simp, .inr ⟨w.heap.size, 1, #[v], rfl, Nat.le_refl _, heap_alloc_new w _, Nat.le_refl _, by simp [maxLen], by simp, by simp⟩⟩
theorem codeSys_bad {R : Int} {os : List Ord} {mode : Int} {right : Bool} (h : modeCodeS R os mode right ≠ 0) : codeSysS R os mode right = (zSys, modeCodeS R os mode right) := by
  unfold codeSysS; rw [if_neg h]
theorem codeSys_fine {K : Nat} {os : List Ord} {mode : Int} {right : Bool} (h : modeCodeS K os mode right = 0) : codeSysS K os mode right = ((((kindsN K os mode : Nat) : Int), [-1], rulesS K os mode), 0) := by
  unfold codeSysS; rw [if_pos h]; rfl
set_option maxHeartbeats 8000000 in
set_option maxRecDepth 100000 in
theorem specFollowProgram_d (R : Int) (os : List Ord) (mode : Int) (regs : List Int) (steps : Int) {vo vr : Value} (w : World) (h1 : Rd Any w (dO os) vo) (h2 : Rd Any w (dI regs) vr) :
    Calls Try.prog 35 #[.agg #[.int .i64 R, vo], .int .i64 mode, vr, .int .i64 steps] w (RetDC w (dII (followS R os mode regs steps).1) (followS R os mode regs steps).2) := by
  obtain ⟨ao, co, rfl, ho⟩ := Rd_O.1 h1
  obtain ⟨a, c, rfl, hx⟩ := Rd_I.1 h2
  obtain ⟨w0, hw0⟩ : ∃ wz, wz = w.alloc (.cells #[.int .i64 R, .slice ao os.length co] 52) := ⟨_, rfl⟩
  have hb0 : Below w.heap.size w w0 := by rw [hw0]; exact below_alloc _ _
  have hz0 : w0.heap.size = w.heap.size + 1 := by rw [hw0]; simp
  have p0 : w0.cell? ⟨w.heap.size, 0, none⟩ = some (.int .i64 R) := by rw [hw0]; simp [go_sem]
  have p1 : w0.cell? ⟨w.heap.size, 1, none⟩ = some (.slice ao os.length co) := by rw [hw0]; simp [go_sem]
  have HK := Lib.hid (l05Ok_c R Any ao co os w.heap.size w0 (ho.below hb0) p0 p1)
  have HP : Hid (∀ wx, Below w0.heap.size w0 wx → SlO Any wx ao os ∧ SlI Any wx a regs ∧ wx.cell? ⟨w.heap.size, 0, none⟩ = some (.int .i64 R) ∧ wx.cell? ⟨w.heap.size, 1, none⟩ = some (.slice ao os.length co)) := Lib.hid (fun wx hb => ⟨(ho.below hb0).below hb, (hx.below hb0).below hb, (bcell1 hb (by omega)).trans p0, (bcell1 hb (by omega)).trans p1⟩)
  have HB0 := Lib.hid hb0
  have HW0 := Lib.hid hw0
  have HZ0 := Lib.hid hz0
  clear h1 h2 ho hx hb0 hw0 hz0 p0 p1
  have HERR : Hid (∀ (code : Int) (a : Option Addr) (c : Nat) (w' : World), followS R os mode regs steps = ([], code) → Below w.heap.size w w' → RetDC w (dII (followS R os mode regs steps).1) (followS R os mode regs steps).2 (.returned (.tuple #[.slice a 0 c, .int .i64 code])) w') := Lib.hid (fun code a c w' h hb => by rw [h]; exact RetDC.none _ _ _ hb)
  cases hv : validProgS R os
  · have hcode : modeCodeS R os mode true ≠ 0 := by unfold modeCodeS; rw [hv]; simp
    have heq : modeCodeS R os mode (regsOk R regs && inRg steps 0 200) = modeCodeS R os mode true := by unfold modeCodeS; rw [hv]; rfl
    rw [hv] at HK
    clear hv
    go_enter Try.func35, Try.ntmps35
    go_wp2_with fail
    rw [← HW0.out]
    refine HK.out.mono ?_
    rintro e w1 ⟨rfl, hb1⟩
    have HCD := Lib.hid (l05Code_c R w.heap.size ao co os mode true w1 (HP.out _ hb1).1 (HP.out _ hb1).2.2.1 (HP.out _ hb1).2.2.2)
    rw [codeSys_bad hcode] at HCD
    obtain ⟨code, hcd⟩ : ∃ x, x = modeCodeS R os mode true := ⟨_, rfl⟩
    rw [← hcd] at HCD
    have hne : (code != 0) = true := by rw [hcd]; simpa using hcode
    have HFO : Hid (followS R os mode regs steps = ([], code)) := Lib.hid (by rw [hcd]; unfold followS; rw [heq, if_neg hcode])
    have HBP := Lib.hid hb1
    clear hcd
    go_wp2_with fail
    refine HCD.out.mono ?_
    rintro e w3 ⟨vs, F3, rfl, hb3, ho3, hn3, hF3⟩
    obtain ⟨a1, n1, c1, a2, c2, rfl⟩ := ho3.three
    have HB3 : Hid (Below w.heap.size w w3) := Lib.hid (HB0.out.trans ((bnext HBP.out hb3 (Nat.le_refl _)).mono (by have := HZ0.out; omega)))
    clear hb3 ho3 hn3 hF3
    go_wp2
    go_ret2
    exact HERR.out _ _ _ _ HFO.out (bnext HB3.out (below_al (below_alloc _ _) _) (Nat.le_refl _))
  · have HRG := Lib.hid (fun wx hb => l05Regs_c R w.heap.size a c regs wx (HP.out wx hb).2.1 (HP.out wx hb).2.2.1)
    rw [hv] at HK
    cases hr : regsOk R regs
    · have hcode : modeCodeS R os mode false ≠ 0 := by unfold modeCodeS; rw [hv]; simp
      have heq : modeCodeS R os mode (regsOk R regs && inRg steps 0 200) = modeCodeS R os mode false := by rw [hr]; rfl
      rw [hr] at HRG
      clear hv hr
      go_enter Try.func35, Try.ntmps35
      go_wp2_with fail
      rw [← HW0.out]
      refine HK.out.mono ?_
      rintro e w1 ⟨rfl, hb1⟩
      go_wp2_with fail
      refine (HRG.out w1 hb1).mono ?_
      rintro e w2 ⟨rfl, rfl⟩
      have hb2' := hb1
      have HCD := Lib.hid (l05Code_c R w.heap.size ao co os mode false w1 (HP.out _ hb2').1 (HP.out _ hb2').2.2.1 (HP.out _ hb2').2.2.2)
      rw [codeSys_bad hcode] at HCD
      obtain ⟨code, hcd⟩ : ∃ x, x = modeCodeS R os mode false := ⟨_, rfl⟩
      rw [← hcd] at HCD
      have hne : (code != 0) = true := by rw [hcd]; simpa using hcode
      have HFO : Hid (followS R os mode regs steps = ([], code)) := Lib.hid (by rw [hcd]; unfold followS; rw [heq, if_neg hcode])
      have HBP := Lib.hid hb2'
      clear hcd
      go_wp2_with fail
      refine HCD.out.mono ?_
      rintro e w3 ⟨vs, F3, rfl, hb3, ho3, hn3, hF3⟩
      obtain ⟨a1, n1, c1, a2, c2, rfl⟩ := ho3.three
      have HB3 : Hid (Below w.heap.size w w3) := Lib.hid (HB0.out.trans ((bnext HBP.out hb3 (Nat.le_refl _)).mono (by have := HZ0.out; omega)))
      clear hb3 ho3 hn3 hF3
      go_wp2
      go_ret2
      exact HERR.out _ _ _ _ HFO.out (bnext HB3.out (below_al (below_alloc _ _) _) (Nat.le_refl _))
    · cases hs : inRg steps 0 200
      · have hcode : modeCodeS R os mode false ≠ 0 := by unfold modeCodeS; rw [hv]; simp
        have heq : modeCodeS R os mode (regsOk R regs && inRg steps 0 200) = modeCodeS R os mode false := by rw [hr, hs]; rfl
        rw [hr] at HRG
        have HS := Lib.hid hs
        clear hv hr hs
        go_enter Try.func35, Try.ntmps35
        go_wp2_with fail
        rw [← HW0.out]
        refine HK.out.mono ?_
        rintro e w1 ⟨rfl, hb1⟩
        go_wp2_with fail
        refine (HRG.out w1 hb1).mono ?_
        rintro e w2 ⟨rfl, rfl⟩
        have hb2' := hb1
        go_wp2_with fail
        refine (l00In_c _ _ _ _).mono ?_
        rintro e w2 ⟨rfl, rfl⟩
        rw [HS.out]
        have HCD := Lib.hid (l05Code_c R w.heap.size ao co os mode false w1 (HP.out _ hb2').1 (HP.out _ hb2').2.2.1 (HP.out _ hb2').2.2.2)
        rw [codeSys_bad hcode] at HCD
        obtain ⟨code, hcd⟩ : ∃ x, x = modeCodeS R os mode false := ⟨_, rfl⟩
        rw [← hcd] at HCD
        have hne : (code != 0) = true := by rw [hcd]; simpa using hcode
        have HFO : Hid (followS R os mode regs steps = ([], code)) := Lib.hid (by rw [hcd]; unfold followS; rw [heq, if_neg hcode])
        have HBP := Lib.hid hb2'
        clear hcd
        go_wp2_with fail
        refine HCD.out.mono ?_
        rintro e w3 ⟨vs, F3, rfl, hb3, ho3, hn3, hF3⟩
        obtain ⟨a1, n1, c1, a2, c2, rfl⟩ := ho3.three
        have HB3 : Hid (Below w.heap.size w w3) := Lib.hid (HB0.out.trans ((bnext HBP.out hb3 (Nat.le_refl _)).mono (by have := HZ0.out; omega)))
        clear hb3 ho3 hn3 hF3
        go_wp2
        go_ret2
        exact HERR.out _ _ _ _ HFO.out (bnext HB3.out (below_al (below_alloc _ _) _) (Nat.le_refl _))
      · have HS := Lib.hid hs
        rw [hr] at HRG
        have heq : modeCodeS R os mode (regsOk R regs && inRg steps 0 200) = modeCodeS R os mode true := by rw [hr, hs]; rfl
        have START : ∀ w1, Below w0.heap.size w0 w1 → True := fun _ _ => trivial
        by_cases hcode : modeCodeS R os mode true = 0
        rotate_left
        · clear hv hr hs START
          go_enter Try.func35, Try.ntmps35
          go_wp2_with fail
          rw [← HW0.out]
          refine HK.out.mono ?_
          rintro e w1 ⟨rfl, hb1⟩
          go_wp2_with fail
          refine (HRG.out w1 hb1).mono ?_
          rintro e w2 ⟨rfl, rfl⟩
          have hb2' := hb1
          go_wp2_with fail
          refine (l00In_c _ _ _ _).mono ?_
          rintro e w2 ⟨rfl, rfl⟩
          rw [HS.out]
          have HCD := Lib.hid (l05Code_c R w.heap.size ao co os mode true w1 (HP.out _ hb2').1 (HP.out _ hb2').2.2.1 (HP.out _ hb2').2.2.2)
          rw [codeSys_bad hcode] at HCD
          obtain ⟨code, hcd⟩ : ∃ x, x = modeCodeS R os mode true := ⟨_, rfl⟩
          rw [← hcd] at HCD
          have hne : (code != 0) = true := by rw [hcd]; simpa using hcode
          have HFO : Hid (followS R os mode regs steps = ([], code)) := Lib.hid (by rw [hcd]; unfold followS; rw [heq, if_neg hcode])
          have HBP := Lib.hid hb2'
          clear hcd
          go_wp2_with fail
          refine HCD.out.mono ?_
          rintro e w3 ⟨vs, F3, rfl, hb3, ho3, hn3, hF3⟩
          obtain ⟨a1, n1, c1, a2, c2, rfl⟩ := ho3.three
          have HB3 : Hid (Below w.heap.size w w3) := Lib.hid (HB0.out.trans ((bnext HBP.out hb3 (Nat.le_refl _)).mono (by have := HZ0.out; omega)))
          clear hb3 ho3 hn3 hF3
          go_wp2
          go_ret2
          exact HERR.out _ _ _ _ HFO.out (bnext HB3.out (below_al (below_alloc _ _) _) (Nat.le_refl _))
        · clear START
          obtain ⟨K, rfl, hpg, hm1, hm2, _, _, _⟩ := modeCode_zero hcode
          have hst : 0 ≤ steps ∧ steps ≤ 200 := by simpa [inRg] using hs
          obtain ⟨n, rfl⟩ : ∃ n : Nat, steps = n := ⟨steps.toNat, by omega⟩
          have hres : followS K os mode regs n = (if (runC os n ⟨0, regs⟩).2 = 0 then (folL K os mode (runC os n ⟨0, regs⟩).1.dropLast, 0) else ([], (runC os n ⟨0, regs⟩).2)) := by unfold followS; rw [heq, if_pos hcode]; rfl
          obtain ⟨LL, CC, hLC⟩ : ∃ LL CC, followS K os mode regs n = (LL, CC) := ⟨_, _, rfl⟩
          rw [hLC] at hres ⊢
          have HRES := Lib.hid hres
          have HSY := Lib.hid (codeSys_fine hcode)
          have HPG := Lib.hid hpg
          have HMM := Lib.hid (And.intro hm1 hm2)
          have HVP := Lib.hid hv
          have HRK := Lib.hid hr
          have HST := Lib.hid hst
          clear hcode hres hLC hpg hm1 hm2 hv hr hs hst heq HERR
          go_enter Try.func35, Try.ntmps35
          go_wp2_with fail
          rw [← HW0.out]
          refine HK.out.mono ?_
          rintro e w1 ⟨rfl, hb1⟩
          go_wp2_with fail
          refine (HRG.out w1 hb1).mono ?_
          rintro e w2 ⟨rfl, rfl⟩
          have hb2' := hb1
          go_wp2_with fail
          refine (l00In_c _ _ _ _).mono ?_
          rintro e w2 ⟨rfl, rfl⟩
          rw [HS.out]
          have HB2 := Lib.hid hb2'
          clear hb1 hb2'
          have HCD := Lib.hid (l05Code_c K w.heap.size ao co os mode true w1 (HP.out _ HB2.out).1 (HP.out _ HB2.out).2.2.1 (HP.out _ HB2.out).2.2.2)
          rw [HSY.out] at HCD
          go_wp2_with fail
          refine HCD.out.mono ?_
          rintro e w3 ⟨vs, F3, rfl, hb3, ho3, hn3, hF3⟩
          obtain ⟨a1, n1, c1, a2, c2, rfl⟩ := ho3.three
          have HB3 := Lib.hid (bnext HB2.out hb3 (Nat.le_refl _))
          clear hb3 ho3 hn3 hF3 HCD HK HRG
          obtain ⟨M, hM⟩ : ∃ M, M = (rulesS K os mode).length := ⟨_, rfl⟩
          rw [← hM]
          have HM := Lib.hid hM
          have hM25 : M ≤ 25 := by rw [hM]; have := rulesS_len K os mode; have := HPG.out.n6; omega
          clear hM
          go_wp2_with fail
          obtain ⟨w4, hw4⟩ : ∃ wz, wz = w3.alloc (.cells #[.int .i64 (kindsN K os mode : Nat), .slice a1 n1 c1, .slice a2 M c2] 120) := ⟨_, rfl⟩
          rw [← hw4]
          have hb4 : Below w3.heap.size w3 w4 := by rw [hw4]; exact below_alloc _ _
          have s2 : w4.cell? ⟨w3.heap.size, 2, none⟩ = some (.slice a2 M c2) := by rw [hw4]; simp [go_sem]
          have hz4 : w3.heap.size < w4.heap.size := by rw [hw4]; simp
          have HB4 : Hid (Below w0.heap.size w0 w4) := Lib.hid (bnext HB3.out hb4 (Nat.le_refl _))
          have HRUN := Lib.hid (l05Run_c K os n w.heap.size ao co a c regs w4 (HP.out _ HB4.out).1 (HP.out _ HB4.out).2.1 (HP.out _ HB4.out).2.2.1 (HP.out _ HB4.out).2.2.2 HVP.out HRK.out (by have := HST.out; omega))
          have HZ4 : Hid (w.heap.size + 1 ≤ w3.heap.size) := Lib.hid (by have := HB3.out.size; have := HZ0.out; omega)
          clear hw4 hb4
          refine HRUN.out.mono ?_
          rintro e w5 ⟨v5, F5, rfl, hb5, ho5, hn5, hF5⟩
          have S2 := (bcell1 hb5 hz4).trans s2
          have HB5 : Hid (Below w0.heap.size w0 w5) := Lib.hid (bnext HB4.out hb5 (Nat.le_refl _))
          have HBW : Hid (Below w.heap.size w w5) := Lib.hid (HB0.out.trans (HB5.out.mono (by have := HZ0.out; omega)))
          have hz5 : w3.heap.size < w5.heap.size := Nat.lt_of_lt_of_le hz4 hb5.size
          have HLN : Hid ((runC os n ⟨0, regs⟩).1.length ≤ 201 ∧ 0 < (runC os n ⟨0, regs⟩).1.length) := Lib.hid ⟨by have := runC_len os n ⟨0, regs⟩; have := HST.out; omega, runC_pos os n ⟨0, regs⟩⟩
          obtain ⟨al, cl, rfl, hcl⟩ := Rd_CS (Ow.rd _ _ _ ho5)
          have HCS := Lib.hid hcl
          clear hb5 ho5 hn5 hF5 hcl s2 hz4 HRUN
          by_cases hrc : (runC os n ⟨0, regs⟩).2 = 0
          rotate_left
          · have e1 : LL = [] ∧ CC = (runC os n ⟨0, regs⟩).2 := by have h := HRES.out; rw [if_neg hrc] at h; exact Prod.mk.inj h
            obtain ⟨rfl, hCC⟩ := e1
            rw [← hCC] at hrc ⊢
            have hq : (CC != 0) = true := by simpa using hrc
            clear hrc HRES hCC
            go_wp2
            go_ret2
            exact RetDC.none _ _ _ (bnext HBW.out (below_alloc _ _) (Nat.le_refl _))
          · have e1 : LL = folL K os mode (runC os n ⟨0, regs⟩).1.dropLast ∧ CC = 0 := by have h := HRES.out; rw [if_pos hrc] at h; exact Prod.mk.inj h
            obtain ⟨hLL, rfl⟩ := e1
            have HML : Hid (∀ i, i + 1 < (runC os n ⟨0, regs⟩).1.length → confOk K os.length (nthCfg (runC os n ⟨0, regs⟩).1 i).pc (nthCfg (runC os n ⟨0, regs⟩).1 i).regs = true ∧ haltS os (nthCfg (runC os n ⟨0, regs⟩).1 i).pc = false) := Lib.hid (runC_mid HVP.out n ⟨0, regs⟩ (start_ok HRK.out))
            rw [hrc]
            obtain ⟨cs, hcs⟩ : ∃ l, l = (runC os n ⟨0, regs⟩).1 := ⟨_, rfl⟩
            rw [← hcs] at HLN HCS HML hLL ⊢
            have HLL := Lib.hid hLL
            clear hrc HRES hLL hcs
            obtain ⟨N, hN⟩ : ∃ m, m = cs.length := ⟨_, rfl⟩
            rw [← hN] at HLN HML ⊢
            have HNN := Lib.hid hN
            have hN2 : N ≤ 201 ∧ 0 < N := HLN.out
            have hN3 := hN2.1
            have hN4 := hN2.2
            have iL := ix_of (P := Try.prog) tabConfigSM.under tabConfigSM.size (a := al) (n := N) (fun h => HCS.out.ptr (by rw [← hN]; exact h)) cl
            have hlst := Lst.made 24 1 w5 w5.heap.size (Nat.le_refl _)
            have HL5 := Lib.hid hlst
            clear hN hN2 hlst HLN
            go_wp2
            go_loopw [14, 15, 16, 17, 18, 19] (fun v i _ _ _ _ wr => ∃ (k : Nat) (L : List (List Int)) (G : List Nat), k + 1 ≤ N ∧ i = .int .i64 k ∧ Hid (L = folL K os mode (cs.take k)) ∧ Hid (Below w5.heap.size w5 wr) ∧ Hid (Lst 24 1 wr w5.heap.size v L.length (L.map dI) G)) (fun _ i _ _ _ _ _ => N - (intOf i).toNat)
            case atStart => exact ⟨0, [], _, by omega, rfl, Lib.hid (by simp [folL]), Lib.hid (below_alloc _ _), HL5⟩
            case round =>
              obtain ⟨k, L, G, hk, rfl, HLE, HBR, HLR⟩ := hrel
              obtain ⟨wo, hwo⟩ : ∃ z, z = wr := ⟨_, rfl⟩
              subst hwo
              have HLB : Hid (L.length ≤ 402) := Lib.hid (by
                rw [HLE.out]
                have h := folL_len K os mode (cs.take k)
                have h2 : (cs.take k).length ≤ k := by simp; omega
                omega)
              have S2r := (bcell1 HBR.out hz5).trans S2
              by_cases hlt : k + 1 < N
              rotate_left
              · have hfin : LL = L := by
                  rw [HLL.out, HLE.out, List.dropLast_eq_take, ← HNN.out]
                  congr 2
                  omega
                have HFN := Lib.hid hfin
                clear hfin
                go_wp2
                go_ret2
                rw [HFN.out]
                obtain ⟨G2, ho, hn, hsub⟩ := HLR.out.ow (by omega) (by have := HLB.out; unfold maxLen; omega)
                exact ⟨_, G2, rfl, bnext HBW.out HBR.out (Nat.le_refl _), ho, hn, fun g hg => by have := (HLR.out.lt g (hsub g hg)).1; have := HBW.out.size; omega⟩
              · obtain ⟨hcf, hh⟩ := HML.out k hlt
                obtain ⟨a', c', q1, hsr⟩ := HCS.out.c1 k (by rw [← HNN.out]; omega)
                have q0 := HCS.out.c0 k (by rw [← HNN.out]; omega)
                obtain ⟨cc, hcc⟩ : ∃ x, x = nthCfg cs k := ⟨_, rfl⟩
                rw [← hcc] at hcf hh q0 q1 hsr
                have HCC := Lib.hid hcc
                clear hcc
                have Q0 := (HBR.out.cell (World.block_lt_of_cell? w5 _ q0)).trans q0
                have Q1 := (HBR.out.cell (World.block_lt_of_cell? w5 _ q1)).trans q1
                have hSR := (hsr.below HBR.out).any
                have hP : 0 ≤ cc.pc ∧ cc.pc ≤ os.length := by simp [confOk, inRg] at hcf; omega
                have hne : cc.pc ≠ os.length ∧ (nthO os cc.pc.toNat).op ≠ 3 := by simp [haltS] at hh; exact hh
                obtain ⟨pn, hpn⟩ : ∃ m : Nat, cc.pc = m := ⟨cc.pc.toNat, by omega⟩
                have hplt : pn < os.length := by omega
                have hrl := (regsOk_ok (R := (K : Int)) (regs := cc.regs) (by simp only [confOk, Bool.and_eq_true] at hcf; exact hcf.2)).1
                have hord := HPG.out.at hplt
                rw [hpn, Int.toNat_natCast] at hne
                have hop : (nthO os pn).op = 1 ∨ (nthO os pn).op = 2 := by omega
                have HBP : Hid (Below w0.heap.size w0 wo) := Lib.hid (bnext HB5.out HBR.out (Nat.le_refl _))
                obtain ⟨ho, _, pp0, pp1⟩ := HP.out wo HBP.out
                have t0 := ho.c0 pn hplt
                have t1 := ho.c1 pn hplt
                have t2 := ho.c2 pn hplt
                have t3 := ho.c3 pn hplt
                have hplt2 : (pn : Int) < os.length := by omega
                have i0 := fun w' => ixO ho co (pn : Int) w' (by omega) hplt2
                have i1 := fun w' => iL (k : Int) w' (by omega) (by omega)
                simp only [Int.toNat_natCast] at i0 i1
                have hr : (0 : Int) ≤ (nthO os pn).reg ∧ (nthO os pn).reg < cc.regs.length := by omega
                have g1 := hSR.cell (nthO os pn).reg.toNat (by omega)
                have i2 := fun w' => hSR.ix tabI.under tabI.size c' (nthO os pn).reg w' hr.1 hr.2
                have HOF := Lib.hid (fun kk hkk => off_lt (R := K) (mode := mode) hplt hop (nth cc.regs (nthO os pn).reg.toNat) kk hkk)
                have HFC : Hid (folC K os mode cc = (offS (nthO os pn) mode (nth cc.regs (nthO os pn).reg.toNat)).map fun k => vecS M (baseS K os mode pn + k.toNat)) := Lib.hid (by rw [HM.out, folC, hpn, Int.toNat_natCast])
                have HTK : Hid (folL K os mode (cs.take (k + 1)) = L ++ folC K os mode cc) := Lib.hid (by rw [folL_take _ _ _ _ (by rw [← HNN.out]; omega), ← HLE.out, ← HCC.out])
                have HFST := Lib.hid (fun wx (hb : Below wo.heap.size wo wx) => l05First_c K w.heap.size ao co os mode pn wx (HP.out wx (bnext HBP.out hb (Nat.le_refl _))).1 (HP.out wx (bnext HBP.out hb (Nat.le_refl _))).2.2.1 (HP.out wx (bnext HBP.out hb (Nat.le_refl _))).2.2.2 HPG.out HMM.out (by omega))
                obtain ⟨ord, hordd⟩ : ∃ x, x = nthO os pn := ⟨_, rfl⟩
                rw [← hordd] at t0 t1 t2 t3 hr g1 i2 HOF HFC hop
                obtain ⟨x, hxr⟩ : ∃ x, x = nth cc.regs ord.reg.toNat := ⟨_, rfl⟩
                rw [← hxr] at g1 HOF HFC
                obtain ⟨W, hW⟩ : ∃ W, W = baseS K os mode pn := ⟨_, rfl⟩
                rw [← hW] at HOF HFC HFST
                rw [← HM.out] at HOF
                rw [hpn] at Q0
                have hpl : w.heap.size < wo.heap.size := by have := HBP.out.size; have := HZ0.out; omega
                have hkN : (k : Int) < N := by omega
                have k0 := fun ob => ((below_alloc wo ob).cell (World.block_lt_of_cell? wo _ t0)).trans t0
                have k1 := fun ob => ((below_alloc wo ob).cell (World.block_lt_of_cell? wo _ t1)).trans t1
                have k2 := fun ob => ((below_alloc wo ob).cell (World.block_lt_of_cell? wo _ t2)).trans t2
                have k3 := fun ob => ((below_alloc wo ob).cell (World.block_lt_of_cell? wo _ t3)).trans t3
                have k4 := fun ob => ((below_alloc wo ob).cell (World.block_lt_of_cell? wo _ Q0)).trans Q0
                have k5 := fun ob => (bcell1 (i := 1) (below_alloc wo ob) hpl).trans pp1
                clear hcf hh hP hne hrl hord ho hordd hxr hW hpn q0 q1 hsr hSR
                go_wp2
                go_region
                go_wp2_with fail
                obtain ⟨wA, hwA⟩ : ∃ wz, wz = (wo.alloc (.cells #[.int .i64 ord.op, .int .i64 ord.reg, .int .i64 ord.to, .int .i64 ord.els] 125)).drew := ⟨_, rfl⟩
                rw [← hwA]
                have hbA : Below wo.heap.size wo wA := by rw [hwA]; exact (below_alloc wo _).drew
                have x0 : wA.cell? ⟨wo.heap.size, 0, none⟩ = some (.int .i64 ord.op) := by rw [hwA]; simp [go_sem]
                have x1 : wA.cell? ⟨wo.heap.size, 1, none⟩ = some (.int .i64 ord.reg) := by rw [hwA]; simp [go_sem]
                have hzA : wo.heap.size < wA.heap.size := by rw [hwA]; simp
                clear hwA k0 k1 k2 k3 k4 k5 t0 t1 t2 t3 i0
                refine (HFST.out wA hbA).mono ?_
                rintro e w7 ⟨rfl, hb7⟩
                have hbr7 : Below wo.heap.size wo w7 := bnext hbA hb7 (Nat.le_refl _)
                have hz7 : wA.heap.size ≤ w7.heap.size := hb7.size
                have y0 := (bcell1 hb7 hzA).trans x0
                have y1 := (bcell1 hb7 hzA).trans x1
                have y2 := (hbr7.cell (World.block_lt_of_cell? wo _ Q1)).trans Q1
                have y3 := (hbr7.cell (World.block_lt_of_cell? wo _ g1)).trans g1
                have hzw : wo.heap.size < w7.heap.size := by omega
                have k0 := fun ob => ((below_alloc w7 ob).cell (World.block_lt_of_cell? w7 _ y0)).trans y0
                have k1 := fun ob => ((below_alloc w7 ob).cell (World.block_lt_of_cell? w7 _ y1)).trans y1
                have k2 := fun ob => ((below_alloc w7 ob).cell (World.block_lt_of_cell? w7 _ y2)).trans y2
                have k3 := fun ob => ((below_alloc w7 ob).cell (World.block_lt_of_cell? w7 _ y3)).trans y3
                have HB7 := Lib.hid hbr7
                have HS7 := Lib.hid ((bcell1 hbr7 (by have := HBR.out.size; omega)).trans S2r)
                clear hbA hb7 x0 x1 y0 y1 y2 y3 Q0 Q1 g1 S2r pp0 pp1 hbr7

                have S2w := (HBR.out.cell (p := ⟨w3.heap.size, 2, none⟩) hz5).trans S2
                have hW25 : W < M := by
                  have h := HOF.out
                  unfold offS at h
                  split at h
                  · split at h
                    · have := (h 1 (by simp)).2; omega
                    · have := (h 1 (by simp)).2; omega
                  · have := (h 0 (by simp)).2; omega
                by_cases d1 : ord.op = 2
                · by_cases d2 : x = 0
                  · by_cases d3 : mode = 3
                    · have HKS : Hid (offS ord mode x = [1, 2]) := Lib.hid (by simp [offS, d1, d2, d3])
                      subst d3
                      have HROW : Hid (Bld 2 ((w7.alloc (.cells #[.int .i64 ((W : Int) + 1)] 2)).drew) w7.heap.size (.slice (some ⟨w7.heap.size, 0, none⟩) 1 1) [.int .i64 ((W : Int) + 1)]) := Lib.hid (Bld.below (Bld.lit _ _ _) (Below.refl _ _).drew)
                      have HBX : Hid (Below wo.heap.size wo ((w7.alloc (.cells #[.int .i64 ((W : Int) + 1)] 2)).drew)) := Lib.hid ((bnext HB7.out (below_alloc w7 _) (Nat.le_refl _)).drew)
                      go_wp2
                      go_region
                      go_wp2_with (at_builtin; refine app_one rfl _ _ 24 rfl tabI rfl (by decide) w7.heap.size (.slice (some ⟨w7.heap.size, 0, none⟩) 1 1) [.int .i64 ((W : Int) + 1)] rfl (HROW.out.below (below_alloc _ _)) _ (.int .i64 ((W : Int) + 1 + 1)) rfl rfl ?ac (by simp) (by simp; omega) ?_)
                      case ac => simp [go_sem]
                      intro v17 w17 hbl17 hb17
                      obtain ⟨gR, cR, hv17⟩ := rowVal hbl17 (by simp)
                      have hv18 : v17 = .slice (some ⟨gR, 0, none⟩) 2 cR := hv17
                      subst hv18
                      clear hv17
                      have hb17' := (HBX.out.trans ((below_alloc _ _).mono HBX.out.size)).trans (hb17.mono HB7.out.size)
                      have HB17 := Lib.hid hb17'
                      have HBL17 := Lib.hid hbl17
                      clear hbl17 hb17 hb17'
                      go_wp2_with fail
                      obtain ⟨wD, hwD⟩ : ∃ wz, wz = w17 := ⟨_, rfl⟩
                      rw [← hwD]
                      have hbD : Below wo.heap.size wo wD := by rw [hwD]; exact HB17.out
                      have hgR : w7.heap.size ≤ gR ∧ gR < wD.heap.size := by rw [hwD]; exact Bld.base HBL17.out
                      have hcR : ∀ j, j < 2 → wD.cell? ⟨gR, j, none⟩ = some (.int .i64 (nth (([1, 2] : List Int).map fun k => (W : Int) + k) j)) := by rw [hwD]; exact (fun j hj => by match j, hj with | 0, _ => exact Bld.cell HBL17.out (i := 0) rfl | 1, _ => exact (Bld.cell HBL17.out (i := 1) rfl).trans (by simp [nth]; omega))
                      have hS7 : wD.cell? ⟨w3.heap.size, 2, none⟩ = some (.slice a2 M c2) := (hbD.cell (p := ⟨w3.heap.size, 2, none⟩) (by have := HBR.out.size; show w3.heap.size < wo.heap.size; omega)).trans S2w
                      have hgG : gR ∉ G := fun h => by have := (HLR.out.lt _ h).2; omega
                      have hsG : w3.heap.size ∉ G := fun h => by have := (HLR.out.lt _ h).1; omega
                      have hsD : w3.heap.size < wD.heap.size := by have := HBR.out.size; have := hbD.size; omega
                      have iR := ix_of (P := Try.prog) tabI.under tabI.size (a := some ⟨gR, 0, none⟩) (n := 2) (fun _ => ⟨gR, 0, rfl⟩) cR
                      simp only [Nat.mul_one, adr, blk, ofs, Nat.zero_add] at iR
                      have HBD := Lib.hid hbD
                      have HCR := Lib.hid hcR
                      have HS8 := Lib.hid hS7
                      have HLD := Lib.hid (HLR.out.below hbD)
                      clear hwD hbD hcR hS7 i2 k0 k1 k2 k3
                      go_loopw [14, 18, 19] (fun v2 i _ wr => ∃ (j : Nat) (G2 : List Nat), j ≤ 2 ∧ i = .int .i64 j ∧ Hid (Lst 24 1 wr w5.heap.size v2 (L ++ (([1, 2] : List Int).map fun k => vecS M (W + k.toNat)).take j).length ((L ++ (([1, 2] : List Int).map fun k => vecS M (W + k.toNat)).take j).map dI) G2) ∧ Hid (Chg G wD wr) ∧ Hid (∀ g, g ∈ G2 → g ∈ G ∨ wD.heap.size ≤ g)) (fun _ i _ _ => 2 - (intOf i).toNat)
                      case atStart => exact ⟨0, G, Nat.zero_le _, rfl, by simpa using HLD, Lib.hid (Chg.refl _ _), Lib.hid fun g hg => .inl hg⟩
                      case round =>
                        obtain ⟨j, G2, hj, rfl, HR, HC, HG⟩ := hrel
                        by_cases hlt2 : j < 2
                        · have hjt : (j : Int) < 2 := by omega
                          have i6 := fun w' => iR (j : Int) w' (by omega) hjt
                          simp only [Int.toNat_natCast] at i6
                          have S2q := (HC.out.cell hsD hsG 2).trans HS8.out
                          have hge : nth ([1, 2] : List Int) j ∈ ([1, 2] : List Int) := by rw [nth_lt (show j < ([1, 2] : List Int).length from hlt2)]; exact List.getElem_mem hlt2
                          have hof := HOF.out _ (by rw [HKS.out]; exact hge)
                          obtain ⟨kk, hkk⟩ : ∃ m : Nat, nth ([1, 2] : List Int) j = (m : Int) := ⟨(nth ([1, 2] : List Int) j).toNat, by omega⟩
                          rw [hkk, Int.toNat_natCast] at hof
                          have hofM : W + kk < M := hof.2
                          have K1 : wr.cell? ⟨gR, j, none⟩ = some (.int .i64 ((W + kk : Nat) : Int)) := by
                            rw [HC.out.cell hgR.2 hgG j, HCR.out j hlt2, nth_shift W _ (show j < ([1, 2] : List Int).length from hlt2), hkk]; simp
                          have HNX : Hid ((L ++ (([1, 2] : List Int).map fun k => vecS M (W + k.toNat)).take j) ++ [vecS M (W + kk)] = L ++ (([1, 2] : List Int).map fun k => vecS M (W + k.toNat)).take (j + 1)) := Lib.hid (by
                            rw [List.append_assoc, List.take_succ_eq_append_getElem (by simpa using hlt2), List.getElem_map]
                            have e2 : ([1, 2] : List Int)[j]'hlt2 = (kk : Int) := by rw [← hkk, nth_lt hlt2]
                            rw [e2, Int.toNat_natCast])
                          obtain ⟨LL1, hLL1⟩ : ∃ l, l = L ++ (([1, 2] : List Int).map fun k => vecS M (W + k.toNat)).take j := ⟨_, rfl⟩
                          have hLs : LL1.length ≤ 404 := by rw [hLL1, List.length_append, List.length_take]; have := HLB.out; simp; omega
                          rw [← hLL1] at HR HNX
                          have HLS := Lib.hid hLs
                          have hz57 : w5.heap.size ≤ wr.heap.size := by have := HBR.out.size; have := HBD.out.size; have := HC.out.size; omega
                          clear hge hLL1 hLs hkk hof
                          go_wp2_with (at_make; refine make_one rfl _ _ 24 rfl tabI rfl (by decide) M _ _ rfl rfl rfl rfl (by omega) wr.heap.size (Nat.le_refl _) ?_)
                          intro w9 hbl9 hb9 hz9
                          have hAr : gR < wr.heap.size := Nat.lt_of_lt_of_le hgR.2 HC.out.size
                          have K2 := (hb9.cell (p := ⟨gR, j, none⟩) hAr).trans K1
                          have i7 := ix_of (P := Try.prog) tabI.under tabI.size (a := some ⟨wr.heap.size, 0, none⟩) (n := M) (fun _ => ⟨wr.heap.size, 0, rfl⟩) M
                          simp only [Nat.mul_one, adr, blk, ofs, Nat.zero_add] at i7
                          have i8 := fun w' => i7 ((W + kk : Nat) : Int) w' (by omega) (by omega)
                          simp only [Int.toNat_natCast] at i8
                          have hbl9' : Bld 2 w9 wr.heap.size (.slice (some ⟨wr.heap.size, 0, none⟩) M M) ((List.replicate M (0 : Int)).map (.int .i64)) := by rw [List.map_replicate]; exact hbl9
                          have x1 := hbl9'.atN (i := W + kk) (by simp; exact hofM)
                          have x2 := hbl9'.free (W + kk)
                          have HBL9 := Lib.hid hbl9'
                          have HB9 := Lib.hid hb9
                          have hblv : Bld 2 (w9.setCell ⟨wr.heap.size, W + kk, none⟩ (.int .i64 1)) wr.heap.size (.slice (some ⟨wr.heap.size, 0, none⟩) M M) ((vecS M (W + kk)).map (.int .i64)) := HBL9.out.setN (W + kk) 1
                          have hbv : Below wr.heap.size wr (w9.setCell ⟨wr.heap.size, W + kk, none⟩ (.int .i64 1)) := HB9.out.setCell (by exact Nat.le_refl _) _
                          obtain ⟨ap, cp2, Fp, ep, hop2, hnp, hfp⟩ := hblv.ow (by rw [vecS_len]; unfold maxLen; omega)
                          rw [vecS_len] at ep hop2
                          cases ep
                          have HLSV := Lib.hid (HR.out.below hbv)
                          have HOP := Lib.hid hop2
                          have HFP := Lib.hid hfp
                          have HBV := Lib.hid hbv
                          have HLT := Lib.hid HR.out.lt
                          have hz9v : w9.heap.size ≤ (w9.setCell ⟨wr.heap.size, W + kk, none⟩ (.int .i64 1)).heap.size := by simp [World.setCell]
                          have HZV := Lib.hid hz9v
                          clear hbl9 hbl9' hb9 hblv hbv hop2 hfp hz9v K1
                          go_wp2_with (at_builtin; refine app_lst rfl _ _ 29 rfl tabII rfl (by omega) (by decide) w5.heap.size _ LL1.length (LL1.map dI) [dI (vecS M (W + kk))] G2 Fp [.slice (some ⟨wr.heap.size, 0, none⟩) M M] rfl (HLSV.out.below (below_alloc _ _)) _ rfl ⟨⟨Fp, [], HOP.out.below (below_alloc _ _), rfl, by simp⟩, rfl, hnp, fun x hx => by have := HFP.out x hx; omega, fun x hx hg => (by have h9 : wr.heap.size ≤ x := HFP.out x hx; have := (HLT.out x hg).2; omega), (fun j u hu => by match j, hu with | 0, hu => (simp at hu; subst hu; simp [go_sem])), by simp [Value.oneCell']⟩ (by have := HLS.out; omega) (by have := HZV.out; simp; omega) ?_)
                          intro v3 w10 G4 hN
                          have HR4 : Hid (Lst 24 1 w10 w5.heap.size v3 (L ++ (([1, 2] : List Int).map fun k => vecS M (W + k.toNat)).take (j + 1)).length ((L ++ (([1, 2] : List Int).map fun k => vecS M (W + k.toNat)).take (j + 1)).map dI) G4) := Lib.hid (by
                            have h := hN.lst
                            rw [← HNX.out, List.length_append, List.map_append]
                            exact h)
                          have hF2 : ∀ g, g ∈ Fp → wr.heap.size ≤ g := HFP.out
                          have HC4 : Hid (Chg G wD w10) := Lib.hid ((HC.out.trans (Chg.ofBelow (HBV.out.trans ((below_alloc _ _).mono (by have := HZV.out; omega))))).compG hN.chg (fun g hg => HG.out g (ob_sub HR.out _ hg)))
                          have HG4 : Hid (∀ g, g ∈ G4 → g ∈ G ∨ wD.heap.size ≤ g) := Lib.hid (fun g hg => by
                            have hzq := HC.out.size
                            have hzv := HZV.out
                            rcases hN.mem g hg with e | e | e
                            · exact HG.out g e
                            · have := hF2 g e; exact .inr (by omega)
                            · simp at e; exact .inr (by omega))
                          clear hN hF2
                          go_wp2
                          go_roundw
                          case rel => first | exact ⟨j + 1, G4, by omega, by go_num, HR4, HC4, HG4⟩ | ((repeat apply Exists.intro); refine ⟨?_, rfl⟩; exact ⟨j + 1, G4, by omega, by go_num, HR4, HC4, HG4⟩)
                          case measure => simp [intOf]; omega
                        · obtain rfl : j = 2 := by omega
                          have HLE1 : Hid (L ++ (([1, 2] : List Int).map fun k => vecS M (W + k.toNat)).take 2 = folL K os 3 (cs.take (k + 1))) := Lib.hid (by rw [HTK.out, HFC.out, HKS.out]; rfl)
                          have HBR1 : Hid (Below w5.heap.size w5 wr) := Lib.hid ((HBR.out.trans (HBD.out.mono HBR.out.size)).trans (HC.out.below (by have := HBR.out.size; have := HBD.out.size; omega) (fun g hg => (HLR.out.lt g hg).1)))
                          have HR5 := HR
                          rw [HLE1.out] at HR5
                          go_wp2
                          go_roundw
                          case rel => first | exact ⟨k + 1, _, G2, by omega, by go_num, Lib.hid rfl, HBR1, HR5⟩ | ((repeat apply Exists.intro); refine ⟨?_, rfl⟩; exact ⟨k + 1, _, G2, by omega, by go_num, Lib.hid rfl, HBR1, HR5⟩)
                          case measure => simp [intOf]; omega
                    · have HKS : Hid (offS ord mode x = [1]) := Lib.hid (by simp [offS, d1, d2, d3])
                      have b3 : (mode == 3) = false := by simpa using d3
                      clear d3
                      go_wp2
                      go_region
                      go_wp2_with fail
                      obtain ⟨wD, hwD⟩ : ∃ wz, wz = (w7.alloc (.cells #[.int .i64 ((W : Int) + 1)] 2)).drew := ⟨_, rfl⟩
                      rw [← hwD]
                      have hbD : Below wo.heap.size wo wD := by rw [hwD]; exact (bnext HB7.out (below_alloc w7 _) (Nat.le_refl _)).drew
                      have hgR : w7.heap.size ≤ w7.heap.size ∧ w7.heap.size < wD.heap.size := by rw [hwD]; exact ⟨Nat.le_refl _, by simp⟩
                      have hcR : ∀ j, j < 1 → wD.cell? ⟨w7.heap.size, j, none⟩ = some (.int .i64 (nth (([1] : List Int).map fun k => (W : Int) + k) j)) := by rw [hwD]; exact (fun j hj => by (obtain rfl : j = 0 := by omega); simp [go_sem, nth])
                      have hS7 : wD.cell? ⟨w3.heap.size, 2, none⟩ = some (.slice a2 M c2) := (hbD.cell (p := ⟨w3.heap.size, 2, none⟩) (by have := HBR.out.size; show w3.heap.size < wo.heap.size; omega)).trans S2w
                      have hgG : w7.heap.size ∉ G := fun h => by have := (HLR.out.lt _ h).2; omega
                      have hsG : w3.heap.size ∉ G := fun h => by have := (HLR.out.lt _ h).1; omega
                      have hsD : w3.heap.size < wD.heap.size := by have := HBR.out.size; have := hbD.size; omega
                      have iR := ix_of (P := Try.prog) tabI.under tabI.size (a := some ⟨w7.heap.size, 0, none⟩) (n := 1) (fun _ => ⟨w7.heap.size, 0, rfl⟩) 1
                      simp only [Nat.mul_one, adr, blk, ofs, Nat.zero_add] at iR
                      have HBD := Lib.hid hbD
                      have HCR := Lib.hid hcR
                      have HS8 := Lib.hid hS7
                      have HLD := Lib.hid (HLR.out.below hbD)
                      clear hwD hbD hcR hS7 i2 k0 k1 k2 k3
                      go_loopw [14, 18, 19] (fun v2 i _ wr => ∃ (j : Nat) (G2 : List Nat), j ≤ 1 ∧ i = .int .i64 j ∧ Hid (Lst 24 1 wr w5.heap.size v2 (L ++ (([1] : List Int).map fun k => vecS M (W + k.toNat)).take j).length ((L ++ (([1] : List Int).map fun k => vecS M (W + k.toNat)).take j).map dI) G2) ∧ Hid (Chg G wD wr) ∧ Hid (∀ g, g ∈ G2 → g ∈ G ∨ wD.heap.size ≤ g)) (fun _ i _ _ => 1 - (intOf i).toNat)
                      case atStart => exact ⟨0, G, Nat.zero_le _, rfl, by simpa using HLD, Lib.hid (Chg.refl _ _), Lib.hid fun g hg => .inl hg⟩
                      case round =>
                        obtain ⟨j, G2, hj, rfl, HR, HC, HG⟩ := hrel
                        by_cases hlt2 : j < 1
                        · have hjt : (j : Int) < 1 := by omega
                          have i6 := fun w' => iR (j : Int) w' (by omega) hjt
                          simp only [Int.toNat_natCast] at i6
                          have S2q := (HC.out.cell hsD hsG 2).trans HS8.out
                          have hge : nth ([1] : List Int) j ∈ ([1] : List Int) := by rw [nth_lt (show j < ([1] : List Int).length from hlt2)]; exact List.getElem_mem hlt2
                          have hof := HOF.out _ (by rw [HKS.out]; exact hge)
                          obtain ⟨kk, hkk⟩ : ∃ m : Nat, nth ([1] : List Int) j = (m : Int) := ⟨(nth ([1] : List Int) j).toNat, by omega⟩
                          rw [hkk, Int.toNat_natCast] at hof
                          have hofM : W + kk < M := hof.2
                          have K1 : wr.cell? ⟨w7.heap.size, j, none⟩ = some (.int .i64 ((W + kk : Nat) : Int)) := by
                            rw [HC.out.cell hgR.2 hgG j, HCR.out j hlt2, nth_shift W _ (show j < ([1] : List Int).length from hlt2), hkk]; simp
                          have HNX : Hid ((L ++ (([1] : List Int).map fun k => vecS M (W + k.toNat)).take j) ++ [vecS M (W + kk)] = L ++ (([1] : List Int).map fun k => vecS M (W + k.toNat)).take (j + 1)) := Lib.hid (by
                            rw [List.append_assoc, List.take_succ_eq_append_getElem (by simpa using hlt2), List.getElem_map]
                            have e2 : ([1] : List Int)[j]'hlt2 = (kk : Int) := by rw [← hkk, nth_lt hlt2]
                            rw [e2, Int.toNat_natCast])
                          obtain ⟨LL1, hLL1⟩ : ∃ l, l = L ++ (([1] : List Int).map fun k => vecS M (W + k.toNat)).take j := ⟨_, rfl⟩
                          have hLs : LL1.length ≤ 404 := by rw [hLL1, List.length_append, List.length_take]; have := HLB.out; simp; omega
                          rw [← hLL1] at HR HNX
                          have HLS := Lib.hid hLs
                          have hz57 : w5.heap.size ≤ wr.heap.size := by have := HBR.out.size; have := HBD.out.size; have := HC.out.size; omega
                          clear hge hLL1 hLs hkk hof
                          go_wp2_with (at_make; refine make_one rfl _ _ 24 rfl tabI rfl (by decide) M _ _ rfl rfl rfl rfl (by omega) wr.heap.size (Nat.le_refl _) ?_)
                          intro w9 hbl9 hb9 hz9
                          have hAr : w7.heap.size < wr.heap.size := Nat.lt_of_lt_of_le hgR.2 HC.out.size
                          have K2 := (hb9.cell (p := ⟨w7.heap.size, j, none⟩) hAr).trans K1
                          have i7 := ix_of (P := Try.prog) tabI.under tabI.size (a := some ⟨wr.heap.size, 0, none⟩) (n := M) (fun _ => ⟨wr.heap.size, 0, rfl⟩) M
                          simp only [Nat.mul_one, adr, blk, ofs, Nat.zero_add] at i7
                          have i8 := fun w' => i7 ((W + kk : Nat) : Int) w' (by omega) (by omega)
                          simp only [Int.toNat_natCast] at i8
                          have hbl9' : Bld 2 w9 wr.heap.size (.slice (some ⟨wr.heap.size, 0, none⟩) M M) ((List.replicate M (0 : Int)).map (.int .i64)) := by rw [List.map_replicate]; exact hbl9
                          have x1 := hbl9'.atN (i := W + kk) (by simp; exact hofM)
                          have x2 := hbl9'.free (W + kk)
                          have HBL9 := Lib.hid hbl9'
                          have HB9 := Lib.hid hb9
                          have hblv : Bld 2 (w9.setCell ⟨wr.heap.size, W + kk, none⟩ (.int .i64 1)) wr.heap.size (.slice (some ⟨wr.heap.size, 0, none⟩) M M) ((vecS M (W + kk)).map (.int .i64)) := HBL9.out.setN (W + kk) 1
                          have hbv : Below wr.heap.size wr (w9.setCell ⟨wr.heap.size, W + kk, none⟩ (.int .i64 1)) := HB9.out.setCell (by exact Nat.le_refl _) _
                          obtain ⟨ap, cp2, Fp, ep, hop2, hnp, hfp⟩ := hblv.ow (by rw [vecS_len]; unfold maxLen; omega)
                          rw [vecS_len] at ep hop2
                          cases ep
                          have HLSV := Lib.hid (HR.out.below hbv)
                          have HOP := Lib.hid hop2
                          have HFP := Lib.hid hfp
                          have HBV := Lib.hid hbv
                          have HLT := Lib.hid HR.out.lt
                          have hz9v : w9.heap.size ≤ (w9.setCell ⟨wr.heap.size, W + kk, none⟩ (.int .i64 1)).heap.size := by simp [World.setCell]
                          have HZV := Lib.hid hz9v
                          clear hbl9 hbl9' hb9 hblv hbv hop2 hfp hz9v K1
                          go_wp2_with (at_builtin; refine app_lst rfl _ _ 29 rfl tabII rfl (by omega) (by decide) w5.heap.size _ LL1.length (LL1.map dI) [dI (vecS M (W + kk))] G2 Fp [.slice (some ⟨wr.heap.size, 0, none⟩) M M] rfl (HLSV.out.below (below_alloc _ _)) _ rfl ⟨⟨Fp, [], HOP.out.below (below_alloc _ _), rfl, by simp⟩, rfl, hnp, fun x hx => by have := HFP.out x hx; omega, fun x hx hg => (by have h9 : wr.heap.size ≤ x := HFP.out x hx; have := (HLT.out x hg).2; omega), (fun j u hu => by match j, hu with | 0, hu => (simp at hu; subst hu; simp [go_sem])), by simp [Value.oneCell']⟩ (by have := HLS.out; omega) (by have := HZV.out; simp; omega) ?_)
                          intro v3 w10 G4 hN
                          have HR4 : Hid (Lst 24 1 w10 w5.heap.size v3 (L ++ (([1] : List Int).map fun k => vecS M (W + k.toNat)).take (j + 1)).length ((L ++ (([1] : List Int).map fun k => vecS M (W + k.toNat)).take (j + 1)).map dI) G4) := Lib.hid (by
                            have h := hN.lst
                            rw [← HNX.out, List.length_append, List.map_append]
                            exact h)
                          have hF2 : ∀ g, g ∈ Fp → wr.heap.size ≤ g := HFP.out
                          have HC4 : Hid (Chg G wD w10) := Lib.hid ((HC.out.trans (Chg.ofBelow (HBV.out.trans ((below_alloc _ _).mono (by have := HZV.out; omega))))).compG hN.chg (fun g hg => HG.out g (ob_sub HR.out _ hg)))
                          have HG4 : Hid (∀ g, g ∈ G4 → g ∈ G ∨ wD.heap.size ≤ g) := Lib.hid (fun g hg => by
                            have hzq := HC.out.size
                            have hzv := HZV.out
                            rcases hN.mem g hg with e | e | e
                            · exact HG.out g e
                            · have := hF2 g e; exact .inr (by omega)
                            · simp at e; exact .inr (by omega))
                          clear hN hF2
                          go_wp2
                          go_roundw
                          case rel => first | exact ⟨j + 1, G4, by omega, by go_num, HR4, HC4, HG4⟩ | ((repeat apply Exists.intro); refine ⟨?_, rfl⟩; exact ⟨j + 1, G4, by omega, by go_num, HR4, HC4, HG4⟩)
                          case measure => simp [intOf]; omega
                        · obtain rfl : j = 1 := by omega
                          have HLE1 : Hid (L ++ (([1] : List Int).map fun k => vecS M (W + k.toNat)).take 1 = folL K os mode (cs.take (k + 1))) := Lib.hid (by rw [HTK.out, HFC.out, HKS.out]; rfl)
                          have HBR1 : Hid (Below w5.heap.size w5 wr) := Lib.hid ((HBR.out.trans (HBD.out.mono HBR.out.size)).trans (HC.out.below (by have := HBR.out.size; have := HBD.out.size; omega) (fun g hg => (HLR.out.lt g hg).1)))
                          have HR5 := HR
                          rw [HLE1.out] at HR5
                          go_wp2
                          go_roundw
                          case rel => first | exact ⟨k + 1, _, G2, by omega, by go_num, Lib.hid rfl, HBR1, HR5⟩ | ((repeat apply Exists.intro); refine ⟨?_, rfl⟩; exact ⟨k + 1, _, G2, by omega, by go_num, Lib.hid rfl, HBR1, HR5⟩)
                          case measure => simp [intOf]; omega
                  · have HKS : Hid (offS ord mode x = [0]) := Lib.hid (by simp [offS, d2])
                    have b2 : (x == 0) = false := by simpa using d2
                    clear d2
                    go_wp2
                    go_region
                    go_wp2_with fail
                    obtain ⟨wD, hwD⟩ : ∃ wz, wz = (w7.alloc (.cells #[.int .i64 (W : Int)] 2)).drew := ⟨_, rfl⟩
                    rw [← hwD]
                    have hbD : Below wo.heap.size wo wD := by rw [hwD]; exact (bnext HB7.out (below_alloc w7 _) (Nat.le_refl _)).drew
                    have hgR : w7.heap.size ≤ w7.heap.size ∧ w7.heap.size < wD.heap.size := by rw [hwD]; exact ⟨Nat.le_refl _, by simp⟩
                    have hcR : ∀ j, j < 1 → wD.cell? ⟨w7.heap.size, j, none⟩ = some (.int .i64 (nth (([0] : List Int).map fun k => (W : Int) + k) j)) := by rw [hwD]; exact (fun j hj => by (obtain rfl : j = 0 := by omega); simp [go_sem, nth])
                    have hS7 : wD.cell? ⟨w3.heap.size, 2, none⟩ = some (.slice a2 M c2) := (hbD.cell (p := ⟨w3.heap.size, 2, none⟩) (by have := HBR.out.size; show w3.heap.size < wo.heap.size; omega)).trans S2w
                    have hgG : w7.heap.size ∉ G := fun h => by have := (HLR.out.lt _ h).2; omega
                    have hsG : w3.heap.size ∉ G := fun h => by have := (HLR.out.lt _ h).1; omega
                    have hsD : w3.heap.size < wD.heap.size := by have := HBR.out.size; have := hbD.size; omega
                    have iR := ix_of (P := Try.prog) tabI.under tabI.size (a := some ⟨w7.heap.size, 0, none⟩) (n := 1) (fun _ => ⟨w7.heap.size, 0, rfl⟩) 1
                    simp only [Nat.mul_one, adr, blk, ofs, Nat.zero_add] at iR
                    have HBD := Lib.hid hbD
                    have HCR := Lib.hid hcR
                    have HS8 := Lib.hid hS7
                    have HLD := Lib.hid (HLR.out.below hbD)
                    clear hwD hbD hcR hS7 i2 k0 k1 k2 k3
                    go_loopw [14, 18, 19] (fun v2 i _ wr => ∃ (j : Nat) (G2 : List Nat), j ≤ 1 ∧ i = .int .i64 j ∧ Hid (Lst 24 1 wr w5.heap.size v2 (L ++ (([0] : List Int).map fun k => vecS M (W + k.toNat)).take j).length ((L ++ (([0] : List Int).map fun k => vecS M (W + k.toNat)).take j).map dI) G2) ∧ Hid (Chg G wD wr) ∧ Hid (∀ g, g ∈ G2 → g ∈ G ∨ wD.heap.size ≤ g)) (fun _ i _ _ => 1 - (intOf i).toNat)
                    case atStart => exact ⟨0, G, Nat.zero_le _, rfl, by simpa using HLD, Lib.hid (Chg.refl _ _), Lib.hid fun g hg => .inl hg⟩
                    case round =>
                      obtain ⟨j, G2, hj, rfl, HR, HC, HG⟩ := hrel
                      by_cases hlt2 : j < 1
                      · have hjt : (j : Int) < 1 := by omega
                        have i6 := fun w' => iR (j : Int) w' (by omega) hjt
                        simp only [Int.toNat_natCast] at i6
                        have S2q := (HC.out.cell hsD hsG 2).trans HS8.out
                        have hge : nth ([0] : List Int) j ∈ ([0] : List Int) := by rw [nth_lt (show j < ([0] : List Int).length from hlt2)]; exact List.getElem_mem hlt2
                        have hof := HOF.out _ (by rw [HKS.out]; exact hge)
                        obtain ⟨kk, hkk⟩ : ∃ m : Nat, nth ([0] : List Int) j = (m : Int) := ⟨(nth ([0] : List Int) j).toNat, by omega⟩
                        rw [hkk, Int.toNat_natCast] at hof
                        have hofM : W + kk < M := hof.2
                        have K1 : wr.cell? ⟨w7.heap.size, j, none⟩ = some (.int .i64 ((W + kk : Nat) : Int)) := by
                          rw [HC.out.cell hgR.2 hgG j, HCR.out j hlt2, nth_shift W _ (show j < ([0] : List Int).length from hlt2), hkk]; simp
                        have HNX : Hid ((L ++ (([0] : List Int).map fun k => vecS M (W + k.toNat)).take j) ++ [vecS M (W + kk)] = L ++ (([0] : List Int).map fun k => vecS M (W + k.toNat)).take (j + 1)) := Lib.hid (by
                          rw [List.append_assoc, List.take_succ_eq_append_getElem (by simpa using hlt2), List.getElem_map]
                          have e2 : ([0] : List Int)[j]'hlt2 = (kk : Int) := by rw [← hkk, nth_lt hlt2]
                          rw [e2, Int.toNat_natCast])
                        obtain ⟨LL1, hLL1⟩ : ∃ l, l = L ++ (([0] : List Int).map fun k => vecS M (W + k.toNat)).take j := ⟨_, rfl⟩
                        have hLs : LL1.length ≤ 404 := by rw [hLL1, List.length_append, List.length_take]; have := HLB.out; simp; omega
                        rw [← hLL1] at HR HNX
                        have HLS := Lib.hid hLs
                        have hz57 : w5.heap.size ≤ wr.heap.size := by have := HBR.out.size; have := HBD.out.size; have := HC.out.size; omega
                        clear hge hLL1 hLs hkk hof
                        go_wp2_with (at_make; refine make_one rfl _ _ 24 rfl tabI rfl (by decide) M _ _ rfl rfl rfl rfl (by omega) wr.heap.size (Nat.le_refl _) ?_)
                        intro w9 hbl9 hb9 hz9
                        have hAr : w7.heap.size < wr.heap.size := Nat.lt_of_lt_of_le hgR.2 HC.out.size
                        have K2 := (hb9.cell (p := ⟨w7.heap.size, j, none⟩) hAr).trans K1
                        have i7 := ix_of (P := Try.prog) tabI.under tabI.size (a := some ⟨wr.heap.size, 0, none⟩) (n := M) (fun _ => ⟨wr.heap.size, 0, rfl⟩) M
                        simp only [Nat.mul_one, adr, blk, ofs, Nat.zero_add] at i7
                        have i8 := fun w' => i7 ((W + kk : Nat) : Int) w' (by omega) (by omega)
                        simp only [Int.toNat_natCast] at i8
                        have hbl9' : Bld 2 w9 wr.heap.size (.slice (some ⟨wr.heap.size, 0, none⟩) M M) ((List.replicate M (0 : Int)).map (.int .i64)) := by rw [List.map_replicate]; exact hbl9
                        have x1 := hbl9'.atN (i := W + kk) (by simp; exact hofM)
                        have x2 := hbl9'.free (W + kk)
                        have HBL9 := Lib.hid hbl9'
                        have HB9 := Lib.hid hb9
                        have hblv : Bld 2 (w9.setCell ⟨wr.heap.size, W + kk, none⟩ (.int .i64 1)) wr.heap.size (.slice (some ⟨wr.heap.size, 0, none⟩) M M) ((vecS M (W + kk)).map (.int .i64)) := HBL9.out.setN (W + kk) 1
                        have hbv : Below wr.heap.size wr (w9.setCell ⟨wr.heap.size, W + kk, none⟩ (.int .i64 1)) := HB9.out.setCell (by exact Nat.le_refl _) _
                        obtain ⟨ap, cp2, Fp, ep, hop2, hnp, hfp⟩ := hblv.ow (by rw [vecS_len]; unfold maxLen; omega)
                        rw [vecS_len] at ep hop2
                        cases ep
                        have HLSV := Lib.hid (HR.out.below hbv)
                        have HOP := Lib.hid hop2
                        have HFP := Lib.hid hfp
                        have HBV := Lib.hid hbv
                        have HLT := Lib.hid HR.out.lt
                        have hz9v : w9.heap.size ≤ (w9.setCell ⟨wr.heap.size, W + kk, none⟩ (.int .i64 1)).heap.size := by simp [World.setCell]
                        have HZV := Lib.hid hz9v
                        clear hbl9 hbl9' hb9 hblv hbv hop2 hfp hz9v K1
                        go_wp2_with (at_builtin; refine app_lst rfl _ _ 29 rfl tabII rfl (by omega) (by decide) w5.heap.size _ LL1.length (LL1.map dI) [dI (vecS M (W + kk))] G2 Fp [.slice (some ⟨wr.heap.size, 0, none⟩) M M] rfl (HLSV.out.below (below_alloc _ _)) _ rfl ⟨⟨Fp, [], HOP.out.below (below_alloc _ _), rfl, by simp⟩, rfl, hnp, fun x hx => by have := HFP.out x hx; omega, fun x hx hg => (by have h9 : wr.heap.size ≤ x := HFP.out x hx; have := (HLT.out x hg).2; omega), (fun j u hu => by match j, hu with | 0, hu => (simp at hu; subst hu; simp [go_sem])), by simp [Value.oneCell']⟩ (by have := HLS.out; omega) (by have := HZV.out; simp; omega) ?_)
                        intro v3 w10 G4 hN
                        have HR4 : Hid (Lst 24 1 w10 w5.heap.size v3 (L ++ (([0] : List Int).map fun k => vecS M (W + k.toNat)).take (j + 1)).length ((L ++ (([0] : List Int).map fun k => vecS M (W + k.toNat)).take (j + 1)).map dI) G4) := Lib.hid (by
                          have h := hN.lst
                          rw [← HNX.out, List.length_append, List.map_append]
                          exact h)
                        have hF2 : ∀ g, g ∈ Fp → wr.heap.size ≤ g := HFP.out
                        have HC4 : Hid (Chg G wD w10) := Lib.hid ((HC.out.trans (Chg.ofBelow (HBV.out.trans ((below_alloc _ _).mono (by have := HZV.out; omega))))).compG hN.chg (fun g hg => HG.out g (ob_sub HR.out _ hg)))
                        have HG4 : Hid (∀ g, g ∈ G4 → g ∈ G ∨ wD.heap.size ≤ g) := Lib.hid (fun g hg => by
                          have hzq := HC.out.size
                          have hzv := HZV.out
                          rcases hN.mem g hg with e | e | e
                          · exact HG.out g e
                          · have := hF2 g e; exact .inr (by omega)
                          · simp at e; exact .inr (by omega))
                        clear hN hF2
                        go_wp2
                        go_roundw
                        case rel => first | exact ⟨j + 1, G4, by omega, by go_num, HR4, HC4, HG4⟩ | ((repeat apply Exists.intro); refine ⟨?_, rfl⟩; exact ⟨j + 1, G4, by omega, by go_num, HR4, HC4, HG4⟩)
                        case measure => simp [intOf]; omega
                      · obtain rfl : j = 1 := by omega
                        have HLE1 : Hid (L ++ (([0] : List Int).map fun k => vecS M (W + k.toNat)).take 1 = folL K os mode (cs.take (k + 1))) := Lib.hid (by rw [HTK.out, HFC.out, HKS.out]; rfl)
                        have HBR1 : Hid (Below w5.heap.size w5 wr) := Lib.hid ((HBR.out.trans (HBD.out.mono HBR.out.size)).trans (HC.out.below (by have := HBR.out.size; have := HBD.out.size; omega) (fun g hg => (HLR.out.lt g hg).1)))
                        have HR5 := HR
                        rw [HLE1.out] at HR5
                        go_wp2
                        go_roundw
                        case rel => first | exact ⟨k + 1, _, G2, by omega, by go_num, Lib.hid rfl, HBR1, HR5⟩ | ((repeat apply Exists.intro); refine ⟨?_, rfl⟩; exact ⟨k + 1, _, G2, by omega, by go_num, Lib.hid rfl, HBR1, HR5⟩)
                        case measure => simp [intOf]; omega
                · have HKS : Hid (offS ord mode x = [0]) := Lib.hid (by simp [offS, d1])
                  have b1 : (ord.op == 2) = false := by simpa using d1
                  clear d1
                  go_wp2
                  go_region
                  go_wp2_with fail
                  obtain ⟨wD, hwD⟩ : ∃ wz, wz = (w7.alloc (.cells #[.int .i64 (W : Int)] 2)).drew := ⟨_, rfl⟩
                  rw [← hwD]
                  have hbD : Below wo.heap.size wo wD := by rw [hwD]; exact (bnext HB7.out (below_alloc w7 _) (Nat.le_refl _)).drew
                  have hgR : w7.heap.size ≤ w7.heap.size ∧ w7.heap.size < wD.heap.size := by rw [hwD]; exact ⟨Nat.le_refl _, by simp⟩
                  have hcR : ∀ j, j < 1 → wD.cell? ⟨w7.heap.size, j, none⟩ = some (.int .i64 (nth (([0] : List Int).map fun k => (W : Int) + k) j)) := by rw [hwD]; exact (fun j hj => by (obtain rfl : j = 0 := by omega); simp [go_sem, nth])
                  have hS7 : wD.cell? ⟨w3.heap.size, 2, none⟩ = some (.slice a2 M c2) := (hbD.cell (p := ⟨w3.heap.size, 2, none⟩) (by have := HBR.out.size; show w3.heap.size < wo.heap.size; omega)).trans S2w
                  have hgG : w7.heap.size ∉ G := fun h => by have := (HLR.out.lt _ h).2; omega
                  have hsG : w3.heap.size ∉ G := fun h => by have := (HLR.out.lt _ h).1; omega
                  have hsD : w3.heap.size < wD.heap.size := by have := HBR.out.size; have := hbD.size; omega
                  have iR := ix_of (P := Try.prog) tabI.under tabI.size (a := some ⟨w7.heap.size, 0, none⟩) (n := 1) (fun _ => ⟨w7.heap.size, 0, rfl⟩) 1
                  simp only [Nat.mul_one, adr, blk, ofs, Nat.zero_add] at iR
                  have HBD := Lib.hid hbD
                  have HCR := Lib.hid hcR
                  have HS8 := Lib.hid hS7
                  have HLD := Lib.hid (HLR.out.below hbD)
                  clear hwD hbD hcR hS7 i2 k0 k1 k2 k3
                  go_loopw [14, 18, 19] (fun v2 i _ wr => ∃ (j : Nat) (G2 : List Nat), j ≤ 1 ∧ i = .int .i64 j ∧ Hid (Lst 24 1 wr w5.heap.size v2 (L ++ (([0] : List Int).map fun k => vecS M (W + k.toNat)).take j).length ((L ++ (([0] : List Int).map fun k => vecS M (W + k.toNat)).take j).map dI) G2) ∧ Hid (Chg G wD wr) ∧ Hid (∀ g, g ∈ G2 → g ∈ G ∨ wD.heap.size ≤ g)) (fun _ i _ _ => 1 - (intOf i).toNat)
                  case atStart => exact ⟨0, G, Nat.zero_le _, rfl, by simpa using HLD, Lib.hid (Chg.refl _ _), Lib.hid fun g hg => .inl hg⟩
                  case round =>
                    obtain ⟨j, G2, hj, rfl, HR, HC, HG⟩ := hrel
                    by_cases hlt2 : j < 1
                    · have hjt : (j : Int) < 1 := by omega
                      have i6 := fun w' => iR (j : Int) w' (by omega) hjt
                      simp only [Int.toNat_natCast] at i6
                      have S2q := (HC.out.cell hsD hsG 2).trans HS8.out
                      have hge : nth ([0] : List Int) j ∈ ([0] : List Int) := by rw [nth_lt (show j < ([0] : List Int).length from hlt2)]; exact List.getElem_mem hlt2
                      have hof := HOF.out _ (by rw [HKS.out]; exact hge)
                      obtain ⟨kk, hkk⟩ : ∃ m : Nat, nth ([0] : List Int) j = (m : Int) := ⟨(nth ([0] : List Int) j).toNat, by omega⟩
                      rw [hkk, Int.toNat_natCast] at hof
                      have hofM : W + kk < M := hof.2
                      have K1 : wr.cell? ⟨w7.heap.size, j, none⟩ = some (.int .i64 ((W + kk : Nat) : Int)) := by
                        rw [HC.out.cell hgR.2 hgG j, HCR.out j hlt2, nth_shift W _ (show j < ([0] : List Int).length from hlt2), hkk]; simp
                      have HNX : Hid ((L ++ (([0] : List Int).map fun k => vecS M (W + k.toNat)).take j) ++ [vecS M (W + kk)] = L ++ (([0] : List Int).map fun k => vecS M (W + k.toNat)).take (j + 1)) := Lib.hid (by
                        rw [List.append_assoc, List.take_succ_eq_append_getElem (by simpa using hlt2), List.getElem_map]
                        have e2 : ([0] : List Int)[j]'hlt2 = (kk : Int) := by rw [← hkk, nth_lt hlt2]
                        rw [e2, Int.toNat_natCast])
                      obtain ⟨LL1, hLL1⟩ : ∃ l, l = L ++ (([0] : List Int).map fun k => vecS M (W + k.toNat)).take j := ⟨_, rfl⟩
                      have hLs : LL1.length ≤ 404 := by rw [hLL1, List.length_append, List.length_take]; have := HLB.out; simp; omega
                      rw [← hLL1] at HR HNX
                      have HLS := Lib.hid hLs
                      have hz57 : w5.heap.size ≤ wr.heap.size := by have := HBR.out.size; have := HBD.out.size; have := HC.out.size; omega
                      clear hge hLL1 hLs hkk hof
                      go_wp2_with (at_make; refine make_one rfl _ _ 24 rfl tabI rfl (by decide) M _ _ rfl rfl rfl rfl (by omega) wr.heap.size (Nat.le_refl _) ?_)
                      intro w9 hbl9 hb9 hz9
                      have hAr : w7.heap.size < wr.heap.size := Nat.lt_of_lt_of_le hgR.2 HC.out.size
                      have K2 := (hb9.cell (p := ⟨w7.heap.size, j, none⟩) hAr).trans K1
                      have i7 := ix_of (P := Try.prog) tabI.under tabI.size (a := some ⟨wr.heap.size, 0, none⟩) (n := M) (fun _ => ⟨wr.heap.size, 0, rfl⟩) M
                      simp only [Nat.mul_one, adr, blk, ofs, Nat.zero_add] at i7
                      have i8 := fun w' => i7 ((W + kk : Nat) : Int) w' (by omega) (by omega)
                      simp only [Int.toNat_natCast] at i8
                      have hbl9' : Bld 2 w9 wr.heap.size (.slice (some ⟨wr.heap.size, 0, none⟩) M M) ((List.replicate M (0 : Int)).map (.int .i64)) := by rw [List.map_replicate]; exact hbl9
                      have x1 := hbl9'.atN (i := W + kk) (by simp; exact hofM)
                      have x2 := hbl9'.free (W + kk)
                      have HBL9 := Lib.hid hbl9'
                      have HB9 := Lib.hid hb9
                      have hblv : Bld 2 (w9.setCell ⟨wr.heap.size, W + kk, none⟩ (.int .i64 1)) wr.heap.size (.slice (some ⟨wr.heap.size, 0, none⟩) M M) ((vecS M (W + kk)).map (.int .i64)) := HBL9.out.setN (W + kk) 1
                      have hbv : Below wr.heap.size wr (w9.setCell ⟨wr.heap.size, W + kk, none⟩ (.int .i64 1)) := HB9.out.setCell (by exact Nat.le_refl _) _
                      obtain ⟨ap, cp2, Fp, ep, hop2, hnp, hfp⟩ := hblv.ow (by rw [vecS_len]; unfold maxLen; omega)
                      rw [vecS_len] at ep hop2
                      cases ep
                      have HLSV := Lib.hid (HR.out.below hbv)
                      have HOP := Lib.hid hop2
                      have HFP := Lib.hid hfp
                      have HBV := Lib.hid hbv
                      have HLT := Lib.hid HR.out.lt
                      have hz9v : w9.heap.size ≤ (w9.setCell ⟨wr.heap.size, W + kk, none⟩ (.int .i64 1)).heap.size := by simp [World.setCell]
                      have HZV := Lib.hid hz9v
                      clear hbl9 hbl9' hb9 hblv hbv hop2 hfp hz9v K1
                      go_wp2_with (at_builtin; refine app_lst rfl _ _ 29 rfl tabII rfl (by omega) (by decide) w5.heap.size _ LL1.length (LL1.map dI) [dI (vecS M (W + kk))] G2 Fp [.slice (some ⟨wr.heap.size, 0, none⟩) M M] rfl (HLSV.out.below (below_alloc _ _)) _ rfl ⟨⟨Fp, [], HOP.out.below (below_alloc _ _), rfl, by simp⟩, rfl, hnp, fun x hx => by have := HFP.out x hx; omega, fun x hx hg => (by have h9 : wr.heap.size ≤ x := HFP.out x hx; have := (HLT.out x hg).2; omega), (fun j u hu => by match j, hu with | 0, hu => (simp at hu; subst hu; simp [go_sem])), by simp [Value.oneCell']⟩ (by have := HLS.out; omega) (by have := HZV.out; simp; omega) ?_)
                      intro v3 w10 G4 hN
                      have HR4 : Hid (Lst 24 1 w10 w5.heap.size v3 (L ++ (([0] : List Int).map fun k => vecS M (W + k.toNat)).take (j + 1)).length ((L ++ (([0] : List Int).map fun k => vecS M (W + k.toNat)).take (j + 1)).map dI) G4) := Lib.hid (by
                        have h := hN.lst
                        rw [← HNX.out, List.length_append, List.map_append]
                        exact h)
                      have hF2 : ∀ g, g ∈ Fp → wr.heap.size ≤ g := HFP.out
                      have HC4 : Hid (Chg G wD w10) := Lib.hid ((HC.out.trans (Chg.ofBelow (HBV.out.trans ((below_alloc _ _).mono (by have := HZV.out; omega))))).compG hN.chg (fun g hg => HG.out g (ob_sub HR.out _ hg)))
                      have HG4 : Hid (∀ g, g ∈ G4 → g ∈ G ∨ wD.heap.size ≤ g) := Lib.hid (fun g hg => by
                        have hzq := HC.out.size
                        have hzv := HZV.out
                        rcases hN.mem g hg with e | e | e
                        · exact HG.out g e
                        · have := hF2 g e; exact .inr (by omega)
                        · simp at e; exact .inr (by omega))
                      clear hN hF2
                      go_wp2
                      go_roundw
                      case rel => first | exact ⟨j + 1, G4, by omega, by go_num, HR4, HC4, HG4⟩ | ((repeat apply Exists.intro); refine ⟨?_, rfl⟩; exact ⟨j + 1, G4, by omega, by go_num, HR4, HC4, HG4⟩)
                      case measure => simp [intOf]; omega
                    · obtain rfl : j = 1 := by omega
                      have HLE1 : Hid (L ++ (([0] : List Int).map fun k => vecS M (W + k.toNat)).take 1 = folL K os mode (cs.take (k + 1))) := Lib.hid (by rw [HTK.out, HFC.out, HKS.out]; rfl)
                      have HBR1 : Hid (Below w5.heap.size w5 wr) := Lib.hid ((HBR.out.trans (HBD.out.mono HBR.out.size)).trans (HC.out.below (by have := HBR.out.size; have := HBD.out.size; omega) (fun g hg => (HLR.out.lt g hg).1)))
                      have HR5 := HR
                      rw [HLE1.out] at HR5
                      go_wp2
                      go_roundw
                      case rel => first | exact ⟨k + 1, _, G2, by omega, by go_num, Lib.hid rfl, HBR1, HR5⟩ | ((repeat apply Exists.intro); refine ⟨?_, rfl⟩; exact ⟨k + 1, _, G2, by omega, by go_num, Lib.hid rfl, HBR1, HR5⟩)
                      case measure => simp [intOf]; omega
end Go.Proofs.Ytncndnholheemaa
