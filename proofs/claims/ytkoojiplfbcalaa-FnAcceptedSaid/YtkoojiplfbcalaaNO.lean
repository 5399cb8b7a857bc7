/- What is accepted up to a number: what it is, and the program's. -/
import Derived.Test.YtkoojiplfbcalaaNM
namespace Go.Proofs.Ytkoojiplfbcalaa
open Go.RowKit

/-- The registers to begin with. -/
def regsN (r : Nat) (n : Int) : List Int := (List.replicate r (0 : Int)).set 0 n
/-- Whether a number is accepted, and a code. -/
def accF (R : Int) (os : List Ord) (steps : Int) (k : Nat) : Bool × Int := (haltS os (runP R os (regsN R.toNat k) steps).1.pc, (runP R os (regsN R.toNat k) steps).2.2)
/-- The first k numbers gone through. -/
def accTo (f : Nat → Bool × Int) : Nat → List Int × Int
  | 0 => ([], 0)
  | k + 1 => if (accTo f k).2 = 0 then (if (f k).2 = 0 then (if (f k).1 = true then ((accTo f k).1 ++ [(k : Int)], 0) else ((accTo f k).1, 0)) else ([], (f k).2)) else accTo f k
theorem accTo_len (f : Nat → Bool × Int) : ∀ k, (accTo f k).1.length ≤ k
  | 0 => by simp [accTo]
  | k + 1 => by
    have := accTo_len f k
    unfold accTo
    split
    · split
      · split
        · simp; omega
        · simp; omega
      · simp
    · omega
theorem accTo_stay {f : Nat → Bool × Int} {k : Nat} (h : (accTo f k).2 ≠ 0) : ∀ d, accTo f (k + d) = accTo f k
  | 0 => rfl
  | d + 1 => by
    have ih := accTo_stay h d
    rw [← Nat.add_assoc, accTo, if_neg (by rw [ih]; exact h)]
    exact ih
theorem accTo_err {f : Nat → Bool × Int} {k m : Nat} (h : (accTo f k).2 = 0) (h2 : (f k).2 ≠ 0) (hk : k < m) : accTo f m = ([], (f k).2) := by
  have e : accTo f (k + 1) = ([], (f k).2) := by rw [accTo, if_pos h, if_neg h2]
  have := accTo_stay (k := k + 1) (by rw [e]; exact h2) (m - (k + 1))
  rw [show k + 1 + (m - (k + 1)) = m by omega] at this
  rw [this, e]
theorem accTo_yes {f : Nat → Bool × Int} {k : Nat} (h : (accTo f k).2 = 0) (h2 : (f k).2 = 0) (h3 : (f k).1 = true) : accTo f (k + 1) = ((accTo f k).1 ++ [(k : Int)], 0) := by rw [accTo, if_pos h, if_pos h2, if_pos h3]
theorem accTo_no {f : Nat → Bool × Int} {k : Nat} (h : (accTo f k).2 = 0) (h2 : (f k).2 = 0) (h3 : (f k).1 = false) : accTo f (k + 1) = ((accTo f k).1, 0) := by rw [accTo, if_pos h, if_pos h2, if_neg (by rw [h3]; simp)]
def acceptedS (R : Int) (os : List Ord) (most steps : Int) : List Int × Int :=
  if validProgS R os = true then (if inRg most 0 1000 = true ∧ inRg steps 0 200 = true then accTo (accF R os steps) (most.toNat + 1) else ([], 2)) else ([], 1)
theorem regsN_len (r : Nat) (n : Int) : (regsN r n).length = r := by simp [regsN]
theorem regsN_ok {r : Nat} {k : Nat} (hk : k ≤ 1000) : regsOk r (regsN r k) = true := by
  have h0 : regsOk (r : Int) (List.replicate r (0 : Int)) = true := by
    simp only [regsOk, Bool.and_eq_true]
    refine ⟨by simp, ?_⟩
    rw [allB, List.all_eq_true]
    intro x hx
    rw [(List.mem_replicate.1 hx).2]
    simp [cntOk, inRg]
  exact set_cnt h0 (by omega)
theorem runE_pc {R : Int} {os : List Ord} (hv : validProgS R os = true) : ∀ (k n : Nat) (c : Cfg), confOk R os.length c.pc c.regs = true → 0 ≤ (runE os k n c).1.pc ∧ (runE os k n c).1.pc ≤ os.length
  | 0, n, c, h => by
    simp only [runE]
    simp [confOk, inRg] at h; omega
  | k + 1, n, c, h => by
    have hp : 0 ≤ c.pc ∧ c.pc ≤ os.length := by simp [confOk, inRg] at h; omega
    unfold runE
    split
    · exact hp
    · rename_i hh
      split
      · simp [zCfg]
      · split
        · rename_i h0
          exact runE_pc hv k (n + 1) _ (firstS_ok hv h (by simpa using hh) h0)
        · simp [zCfg]
theorem runP_pc {R : Int} {os : List Ord} {regs : List Int} {steps : Int} : 0 ≤ (runP R os regs steps).1.pc ∧ (runP R os regs steps).1.pc ≤ os.length := by
  unfold runP
  split
  · rename_i h
    obtain ⟨k1, k2, _⟩ := askRun_ok h
    exact runE_pc k1 _ _ _ (start_ok k2)
  · simp [zCfg]
theorem accepted_cnt (R : Int) (os : List Ord) (most steps : Int) : cnt (dI (acceptedS R os most steps).1) ≤ 16777216 := by
  rw [cnt_dI]
  unfold acceptedS
  split
  · split
    · rename_i h
      have := accTo_len (accF R os steps) (most.toNat + 1)
      have : most ≤ 1000 := by have := h.1; simp [inRg] at this; omega
      omega
    · simp
  · simp
theorem acc_bad {R : Int} {os : List Ord} {most steps : Int} (h : validProgS R os = false) : acceptedS R os most steps = ([], 1) := by simp [acceptedS, h]
theorem acc_two {R : Int} {os : List Ord} {most steps : Int} (h : validProgS R os = true) (h2 : inRg most 0 1000 = false ∨ inRg steps 0 200 = false) : acceptedS R os most steps = ([], 2) := by
  rcases h2 with h2 | h2 <;> simp [acceptedS, h, h2]
theorem acc_fine {R : Int} {os : List Ord} {m : Nat} {steps : Int} (h : validProgS R os = true) (h2 : inRg m 0 1000 = true) (h3 : inRg steps 0 200 = true) : acceptedS R os m steps = accTo (accF R os steps) (m + 1) := by
  simp [acceptedS, h, h2, h3]
set_option maxHeartbeats 8000000 in
set_option maxRecDepth 100000 in
theorem implAcceptedUpTo_d (R : Int) (os : List Ord) (most steps : Int) {vo : Value} (w : World) (h1 : Rd Any w (dO os) vo) :
    Calls Try.prog 32 #[.agg #[.int .i64 R, vo], .int .i64 most, .int .i64 steps] w (RetDC w (dI (acceptedS R os most steps).1) (acceptedS R os most steps).2) := by
  obtain ⟨ao, co, rfl, ho⟩ := Rd_O.1 h1
  have hb0 : Below w.heap.size w (w.alloc (.cells #[.int .i64 R, .slice ao os.length co] 59)) := below_alloc _ _
  have HV := Lib.hid (implValidProgram_c R Any ao co os _ (ho.below hb0))
  have HB0 := Lib.hid hb0
  have HO := Lib.hid ho
  have H1 := Lib.hid h1
  clear hb0 ho h1
  cases hv : validProgS R os
  · rw [acc_bad hv]
    rw [hv] at HV
    clear hv
    go_enter Try.func32, Try.ntmps32
    go_wp2_with fail
    refine HV.out.mono ?_
    rintro e w1 ⟨rfl, hb1⟩
    have hz1 : w.heap.size + 1 ≤ w1.heap.size := by have := hb1.size; (try simp at this); omega
    have HB1 := Lib.hid (HB0.out.trans (hb1.mono (by simp <;> omega)))
    have P0 : w1.cell? ⟨w.heap.size, 0, none⟩ = some (.int .i64 R) := by rw [bcell1 hb1 (by simp)]; simp [go_sem]
    have P1 : w1.cell? ⟨w.heap.size, 1, none⟩ = some (.slice ao os.length co) := by rw [bcell1 hb1 (by simp)]; simp [go_sem]
    clear hb1
    go_wp2
    go_ret2
    exact RetDC.none _ _ _ HB1.out
  · rw [hv] at HV
    have HVP := Lib.hid hv
    cases hm : inRg most 0 1000
    · rw [acc_two hv (.inl hm)]
      have HM := Lib.hid hm
      clear hv hm
      go_enter Try.func32, Try.ntmps32
      go_wp2_with fail
      refine HV.out.mono ?_
      rintro e w1 ⟨rfl, hb1⟩
      have hz1 : w.heap.size + 1 ≤ w1.heap.size := by have := hb1.size; (try simp at this); omega
      have HB1 := Lib.hid (HB0.out.trans (hb1.mono (by simp <;> omega)))
      have P0 : w1.cell? ⟨w.heap.size, 0, none⟩ = some (.int .i64 R) := by rw [bcell1 hb1 (by simp)]; simp [go_sem]
      have P1 : w1.cell? ⟨w.heap.size, 1, none⟩ = some (.slice ao os.length co) := by rw [bcell1 hb1 (by simp)]; simp [go_sem]
      clear hb1
      go_wp2_with fail
      refine (inRange_c _ 0 1000 w1).mono ?_
      rintro e w3 ⟨rfl, rfl⟩
      have hM := HM.out
      go_wp2
      go_ret2
      exact RetDC.none _ _ _ HB1.out
    · cases hs : inRg steps 0 200
      · rw [acc_two hv (.inr hs)]
        have HM := Lib.hid hm
        have HS := Lib.hid hs
        clear hv hm hs
        go_enter Try.func32, Try.ntmps32
        go_wp2_with fail
        refine HV.out.mono ?_
        rintro e w1 ⟨rfl, hb1⟩
        have hz1 : w.heap.size + 1 ≤ w1.heap.size := by have := hb1.size; (try simp at this); omega
        have HB1 := Lib.hid (HB0.out.trans (hb1.mono (by simp <;> omega)))
        have P0 : w1.cell? ⟨w.heap.size, 0, none⟩ = some (.int .i64 R) := by rw [bcell1 hb1 (by simp)]; simp [go_sem]
        have P1 : w1.cell? ⟨w.heap.size, 1, none⟩ = some (.slice ao os.length co) := by rw [bcell1 hb1 (by simp)]; simp [go_sem]
        clear hb1
        go_wp2_with fail
        refine (inRange_c _ 0 1000 w1).mono ?_
        rintro e w3 ⟨rfl, rfl⟩
        have hM := HM.out
        go_wp2_with fail
        refine (inRange_c steps 0 200 _).mono ?_
        rintro e w3 ⟨rfl, rfl⟩
        have hS := HS.out
        go_wp2
        go_ret2
        exact RetDC.none _ _ _ HB1.out
      · obtain ⟨m, rfl⟩ : ∃ m : Nat, most = m := ⟨most.toNat, by simp [inRg] at hm; omega⟩
        obtain ⟨r, rfl⟩ : ∃ r : Nat, R = r := ⟨R.toNat, by simp [validProgS, inRg] at hv; omega⟩
        rw [acc_fine hv hm hs]
        have hm2 : m ≤ 1000 := by simp [inRg] at hm; omega
        have hr2 : 1 ≤ r ∧ r ≤ 3 := by simp [validProgS, inRg] at hv; omega
        have HM := Lib.hid hm
        have HS := Lib.hid hs
        clear hv hm hs
        go_enter Try.func32, Try.ntmps32
        go_wp2_with fail
        refine HV.out.mono ?_
        rintro e w1 ⟨rfl, hb1⟩
        have hz1 : w.heap.size + 1 ≤ w1.heap.size := by have := hb1.size; (try simp at this); omega
        have HB1 := Lib.hid (HB0.out.trans (hb1.mono (by simp <;> omega)))
        have P0 : w1.cell? ⟨w.heap.size, 0, none⟩ = some (.int .i64 r) := by rw [bcell1 hb1 (by simp)]; simp [go_sem]
        have P1 : w1.cell? ⟨w.heap.size, 1, none⟩ = some (.slice ao os.length co) := by rw [bcell1 hb1 (by simp)]; simp [go_sem]
        clear hb1
        go_wp2_with fail
        refine (inRange_c _ 0 1000 w1).mono ?_
        rintro e w3 ⟨rfl, rfl⟩
        have hM := HM.out
        go_wp2_with fail
        refine (inRange_c steps 0 200 _).mono ?_
        rintro e w3 ⟨rfl, rfl⟩
        have hS := HS.out
        go_wp2
        go_loopw [8, 9, 10, 11, 12, 13] (fun v i0 _ _ _ _ wr => ∃ (k : Nat), k ≤ m + 1 ∧ i0 = .int .i64 k ∧ (accTo (accF r os steps) k).2 = 0 ∧ Hid (Below w.heap.size w wr) ∧ Hid (Bld 2 wr (w.heap.size + 1) v ((accTo (accF r os steps) k).1.map (.int .i64))) ∧ wr.cell? ⟨w.heap.size, 0, none⟩ = some (.int .i64 r) ∧ wr.cell? ⟨w.heap.size, 1, none⟩ = some (.slice ao os.length co) ∧ w.heap.size + 1 ≤ wr.heap.size) (fun _ i0 _ _ _ _ _ => m + 1 - (intOf i0).toNat)
        case atStart => exact ⟨0, Nat.zero_le _, rfl, rfl, Lib.hid (HB1.out.alloc HB1.out.size _), Lib.hid ((Bld.empty 2 w1 _ (Nat.le_refl _)).lower hz1), (bcell1 (below_alloc w1 _) (by omega)).trans P0, (bcell1 (below_alloc w1 _) (by omega)).trans P1, by simp; omega⟩
        case round =>
          obtain ⟨k, hk, rfl, hz, HB, HL, P0, P1, hz0⟩ := hrel
          have HZ := Lib.hid hz
          clear hz
          by_cases hlt : k ≤ m
          rotate_left
          · obtain rfl : k = m + 1 := by omega
            go_wp2
            go_ret2
            exact HZ.out ▸ RetDC.ofD (RetD.ofBld (HL.out.lower (by omega)) (by have := accTo_len (accF r os steps) (m + 1); unfold maxLen; omega) HB.out) (Below.refl _ _)
          · go_wp2_with (at_make; refine make_one rfl _ _ 22 rfl tabI rfl (by decide) r _ _ rfl rfl rfl rfl (by omega) wr.heap.size (Nat.le_refl _) ?_)
            intro w2 hbl2 hb2 hz2
            have c0 : w2.cell? ⟨wr.heap.size, 0, none⟩ = some (.int .i64 0) := hbl2.cell (i := 0) (by rw [List.getElem?_replicate, if_pos (by omega)])
            have f0 := hbl2.free 0
            have hset : Bld 2 (w2.setCell ⟨wr.heap.size, 0, none⟩ (.int .i64 k)) wr.heap.size (.slice (some ⟨wr.heap.size, 0, none⟩) r r) ((regsN r k).map (.int .i64)) := by have := hbl2.set 0 (.int .i64 k); simpa [regsN, List.map_set] using this
            obtain ⟨a2, c2, F2, ev2, how2, _, _⟩ := hset.ow (by rw [regsN_len]; unfold maxLen; omega)
            have HRD : Hid (Rd Any (w2.setCell ⟨wr.heap.size, 0, none⟩ (.int .i64 k)) (dI (regsN r k)) (.slice (some ⟨wr.heap.size, 0, none⟩) r r)) := Lib.hid (by rw [ev2]; exact how2.rdA)
            have HBS : Hid (Below wr.heap.size wr (w2.setCell ⟨wr.heap.size, 0, none⟩ (.int .i64 k))) := Lib.hid (hb2.setCell (Nat.le_refl _) _)
            have hsz : (w2.setCell ⟨wr.heap.size, 0, none⟩ (.int .i64 k)).heap.size = w2.heap.size := (Exc.setCell w2 ⟨wr.heap.size, 0, none⟩ _).size
            have i1 : ∀ w', (Instr.indexAt 22 (.slice (some ⟨wr.heap.size, 0, none⟩) r r) (.int .i64 0)).run Try.prog w' = .ok (.pointer (some ⟨wr.heap.size, 0, none⟩)) w' := fun w' => by
              have := ix_of (P := Try.prog) tabI.under tabI.size (a := some ⟨wr.heap.size, 0, none⟩) (n := r) (fun _ => ⟨_, _, rfl⟩) r 0 w' (by omega) (by omega)
              simpa [adr, blk, ofs] using this
            have Q0 := (bcell1 HBS.out (by omega)).trans P0
            have Q1 := (bcell1 HBS.out (by omega)).trans P1
            clear hbl2 hb2 hset how2 ev2
            go_wp2_with fail
            refine (implRunProgram_d r os (regsN r k) steps _ (H1.out.below (HB.out.trans (HBS.out.mono HB.out.size))) HRD.out).mono ?_
            rintro e w4 hr4
            obtain ⟨a5, c5, F5, rfl, hb4, _, _, _⟩ := hr4.cfg
            have hz4 : wr.heap.size + 1 ≤ w4.heap.size := by have := hb4.size; omega
            have HB4 : Hid (Below wr.heap.size wr w4) := Lib.hid (bnext HBS.out hb4 (Nat.le_refl _))
            have HBW : Hid (Below w.heap.size w w4) := Lib.hid (HB.out.trans (HB4.out.mono HB.out.size))
            have aP0 := fun ob => (bcell1 (below_alloc w4 ob) (by omega)).trans ((bcell1 HB4.out (by omega)).trans P0)
            have aP1 := fun ob => (bcell1 (below_alloc w4 ob) (by omega)).trans ((bcell1 HB4.out (by omega)).trans P1)
            clear hb4 hr4
            by_cases h5 : (accF r os steps k).2 = 0
            rotate_left
            · have HE := Lib.hid (accTo_err (m := m + 1) HZ.out h5 (by omega))
              have bk : ((runP r os (regsN r k) steps).2.2 != 0) = true := by simpa [accF] using h5
              clear h5
              go_wp2
              go_ret2
              rw [HE.out]
              exact RetDC.none _ _ _ (HBW.out.alloc HBW.out.size _)
            · have bk : ((runP r os (regsN r k) steps).2.2 != 0) = false := by simpa [accF] using h5
              have H5 := Lib.hid h5
              clear h5
              have hpc := runP_pc (R := r) (os := os) (regs := regsN r k) (steps := steps)
              go_wp2_with fail
              refine (halts_c r ao co os (runP r os (regsN r k) steps).1.pc (.slice a5 (runP r os (regsN r k) steps).1.regs.length c5) _ (HO.out.below (HBW.out.alloc HBW.out.size _)) hpc.1 hpc.2).mono ?_
              rintro e w5 ⟨rfl, hb5⟩
              have hz5 : w4.heap.size + 1 ≤ w5.heap.size := by have := hb5.size; (try simp at this); omega
              have HB5 : Hid (Below wr.heap.size wr w5) := Lib.hid (HB4.out.trans (((below_alloc _ _).trans (hb5.mono (by simp))).mono (by omega)))
              have HBW5 : Hid (Below w.heap.size w w5) := Lib.hid (HB.out.trans (HB5.out.mono HB.out.size))
              have HL5 := Lib.hid (HL.out.below HB5.out)
              have S0 := (bcell1 HB5.out (by omega)).trans P0
              have S1 := (bcell1 HB5.out (by omega)).trans P1
              clear hb5 aP0 aP1 Q0 Q1 P0 P1
              cases hh : haltS os (runP r os (regsN r k) steps).1.pc
              · have HE := Lib.hid (accTo_no HZ.out H5.out (show (accF r os steps k).1 = false from hh))
                clear hh
                go_wp2
                go_roundw
                case rel => exact ⟨k + 1, by omega, by go_num, by rw [HE.out], HBW5, by rw [HE.out]; exact HL5, S0, S1, by omega⟩
                case measure => simp [intOf]; omega
              · have HE := Lib.hid (accTo_yes HZ.out H5.out (show (accF r os steps k).1 = true from hh))
                clear hh
                have hbl' := HL5.out.below (below_alloc w5 (.cells #[.int .i64 k] 2))
                have hln := accTo_len (accF r os steps) k
                go_wp2_with (at_builtin; refine app_one rfl _ _ 22 rfl tabI rfl (by decide) (w.heap.size + 1) _ _ rfl hbl' w5.heap.size (.int .i64 k) rfl rfl ?c1 ?c2 ?c3 ?_)
                case c1 => simp
                case c2 => simp; omega
                case c3 => simp; omega
                intro v' w6 hbl6 hb6
                have hz6 : w5.heap.size + 1 ≤ w6.heap.size := by have := hb6.size; (try simp at this); omega
                have HL6 : Hid (Bld 2 w6 (w.heap.size + 1) v' ((accTo (accF r os steps) (k + 1)).1.map (.int .i64))) := Lib.hid (by rw [HE.out]; simpa using hbl6)
                have HBW6 : Hid (Below w.heap.size w w6) := Lib.hid ((HBW5.out.alloc HBW5.out.size _).trans (hb6.mono (by omega)))
                replace S0 := (bcell1 hb6 (by omega)).trans ((bcell1 (below_alloc w5 _) (by omega)).trans S0)
                replace S1 := (bcell1 hb6 (by omega)).trans ((bcell1 (below_alloc w5 _) (by omega)).trans S1)
                clear hbl' hbl6 hb6
                go_wp2
                go_roundw
                case rel => exact ⟨k + 1, by omega, by go_num, by rw [HE.out], HBW6, HL6, S0, S1, by omega⟩
                case measure => simp [intOf]; omega
theorem accF_ask {r : Nat} {os : List Ord} {st k : Nat} (hv : validProgS r os = true) (hk : k ≤ 1000) (hs : inRg st 0 200 = true) : askRun r os (regsN r k) st = 0 := askRun_zero hv (regsN_ok hk) hs
theorem accF_err {r : Nat} {os : List Ord} {st k : Nat} (ha : askRun r os (regsN r k) st = 0) (h : (runC os st ⟨0, regsN r k⟩).2 ≠ 0) : accF r os st k = (haltS os 0, (runC os st ⟨0, regsN r k⟩).2) := by
  simp only [accF, Int.toNat_natCast, runP_err ha h, zCfg]
theorem accF_fine {r : Nat} {os : List Ord} {st k n : Nat} (ha : askRun r os (regsN r k) st = 0) (h : (runC os st ⟨0, regsN r k⟩).2 = 0) (hn : (runC os st ⟨0, regsN r k⟩).1.length = n + 1) : accF r os st k = (haltS os (nthCfg (runC os st ⟨0, regsN r k⟩).1 n).pc, 0) := by
  simp only [accF, Int.toNat_natCast, runP_fine ha h hn]
set_option maxHeartbeats 8000000 in
set_option maxRecDepth 100000 in
theorem specAcceptedUpTo_d (R : Int) (os : List Ord) (most steps : Int) {vo : Value} (w : World) (h1 : Rd Any w (dO os) vo) :
    Calls Try.prog 33 #[.agg #[.int .i64 R, vo], .int .i64 most, .int .i64 steps] w (RetDC w (dI (acceptedS R os most steps).1) (acceptedS R os most steps).2) := by
  obtain ⟨ao, co, rfl, ho⟩ := Rd_O.1 h1
  have hb0 : Below w.heap.size w (w.alloc (.cells #[.int .i64 R, .slice ao os.length co] 59)) := below_alloc _ _
  have HV := Lib.hid (l05Ok_c R Any ao co os w.heap.size _ (ho.below hb0) (by simp [go_sem]) (by simp [go_sem]))
  have HB0 := Lib.hid hb0
  have HO := Lib.hid ho
  clear hb0 ho h1
  go_enter Try.func33, Try.ntmps33
  go_wp2_with fail
  refine HV.out.mono ?_
  rintro e w1 ⟨rfl, hb1⟩
  have hz1 : w.heap.size + 1 ≤ w1.heap.size := by have := hb1.size; (try simp at this); omega
  have HB1 := Lib.hid (HB0.out.trans (hb1.mono (by simp <;> omega)))
  have P0 : w1.cell? ⟨w.heap.size, 0, none⟩ = some (.int .i64 R) := by rw [bcell1 hb1 (by simp)]; simp [go_sem]
  have P1 : w1.cell? ⟨w.heap.size, 1, none⟩ = some (.slice ao os.length co) := by rw [bcell1 hb1 (by simp)]; simp [go_sem]
  clear hb1
  cases hv : validProgS R os
  · have HE := Lib.hid (acc_bad (most := most) (steps := steps) hv)
    clear hv
    go_wp2
    go_ret2
    rw [HE.out]
    exact RetDC.none _ _ _ (HB1.out.alloc HB1.out.size _)
  · have HVP := Lib.hid hv
    go_wp2_with fail
    refine (l00In_c most 0 1000 w1).mono ?_
    rintro e w3 ⟨rfl, rfl⟩
    cases hm : inRg most 0 1000
    · have HE := Lib.hid (acc_two (steps := steps) hv (.inl hm))
      clear hv hm
      go_wp2
      go_ret2
      rw [HE.out]
      exact RetDC.none _ _ _ (HB1.out.alloc HB1.out.size _)
    · go_wp2_with fail
      refine (l00In_c steps 0 200 _).mono ?_
      rintro e w3 ⟨rfl, rfl⟩
      cases hs : inRg steps 0 200
      · have HE := Lib.hid (acc_two (most := most) hv (.inr hs))
        clear hv hm hs
        go_wp2
        go_ret2
        rw [HE.out]
        exact RetDC.none _ _ _ (HB1.out.alloc HB1.out.size _)
      · obtain ⟨m, rfl⟩ : ∃ m : Nat, most = m := ⟨most.toNat, by simp [inRg] at hm; omega⟩
        obtain ⟨st, rfl⟩ : ∃ m : Nat, steps = m := ⟨steps.toNat, by simp [inRg] at hs; omega⟩
        obtain ⟨r, rfl⟩ : ∃ r : Nat, R = r := ⟨R.toNat, by simp [validProgS, inRg] at hv; omega⟩
        have HFN := Lib.hid (acc_fine hv hm hs)
        have hm2 : m ≤ 1000 := by simp [inRg] at hm; omega
        have hs2 : st ≤ 200 := by simp [inRg] at hs; omega
        have hr2 : 1 ≤ r ∧ r ≤ 3 := by simp [validProgS, inRg] at hv; omega
        have HS := Lib.hid hs
        clear hv hm hs
        go_wp2
        go_loopw [8, 9, 10, 11, 12] (fun v i0 _ _ _ wr => ∃ (k : Nat), k ≤ m + 1 ∧ i0 = .int .i64 k ∧ (accTo (accF r os st) k).2 = 0 ∧ Hid (Below w.heap.size w wr) ∧ Hid (Bld 2 wr (w.heap.size + 1) v ((accTo (accF r os st) k).1.map (.int .i64))) ∧ wr.cell? ⟨w.heap.size, 0, none⟩ = some (.int .i64 r) ∧ wr.cell? ⟨w.heap.size, 1, none⟩ = some (.slice ao os.length co) ∧ w.heap.size + 1 ≤ wr.heap.size) (fun _ i0 _ _ _ _ => m + 1 - (intOf i0).toNat)
        case atStart => exact ⟨0, Nat.zero_le _, rfl, rfl, Lib.hid (HB1.out.alloc HB1.out.size _), Lib.hid ((Bld.empty 2 w1 _ (Nat.le_refl _)).lower hz1), (bcell1 (below_alloc w1 _) (by omega)).trans P0, (bcell1 (below_alloc w1 _) (by omega)).trans P1, by simp; omega⟩
        case round =>
          obtain ⟨k, hk, rfl, hz, HB, HL, P0, P1, hz0⟩ := hrel
          have HZ := Lib.hid hz
          clear hz
          by_cases hlt : k ≤ m
          rotate_left
          · obtain rfl : k = m + 1 := by omega
            go_wp2
            go_ret2
            rw [HFN.out, show accTo (accF r os st) (m + 1) = ((accTo (accF r os st) (m + 1)).1, 0) from by rw [← HZ.out]]
            exact RetDC.ofD (RetD.ofBld (HL.out.lower (by omega)) (show (accTo (accF r os st) (m + 1)).1.length ≤ maxLen from by have := accTo_len (accF r os st) (m + 1); unfold maxLen; omega) HB.out) (Below.refl _ _)
          · go_wp2_with (at_make; refine make_one rfl _ _ 22 rfl tabI rfl (by decide) r _ _ rfl rfl rfl rfl (by omega) wr.heap.size (Nat.le_refl _) ?_)
            intro w2 hbl2 hb2 hz2
            have c0 : w2.cell? ⟨wr.heap.size, 0, none⟩ = some (.int .i64 0) := hbl2.cell (i := 0) (by rw [List.getElem?_replicate, if_pos (by omega)])
            have f0 := hbl2.free 0
            have hset : Bld 2 (w2.setCell ⟨wr.heap.size, 0, none⟩ (.int .i64 k)) wr.heap.size (.slice (some ⟨wr.heap.size, 0, none⟩) r r) ((regsN r k).map (.int .i64)) := by have := hbl2.set 0 (.int .i64 k); simpa [regsN, List.map_set] using this
            have hsl := SlI.ofBld hset (by rw [regsN_len]; unfold maxLen; omega)
            have HSL : Hid (SlI Any (w2.setCell ⟨wr.heap.size, 0, none⟩ (.int .i64 k)) (some ⟨wr.heap.size, 0, none⟩) (regsN r k)) := Lib.hid hsl.any
            have HBS : Hid (Below wr.heap.size wr (w2.setCell ⟨wr.heap.size, 0, none⟩ (.int .i64 k))) := Lib.hid (hb2.setCell (Nat.le_refl _) _)
            have hsz : (w2.setCell ⟨wr.heap.size, 0, none⟩ (.int .i64 k)).heap.size = w2.heap.size := (Exc.setCell w2 ⟨wr.heap.size, 0, none⟩ _).size
            have i1 : ∀ w', (Instr.indexAt 22 (.slice (some ⟨wr.heap.size, 0, none⟩) r r) (.int .i64 0)).run Try.prog w' = .ok (.pointer (some ⟨wr.heap.size, 0, none⟩)) w' := fun w' => by
              have := ix_of (P := Try.prog) tabI.under tabI.size (a := some ⟨wr.heap.size, 0, none⟩) (n := r) (fun _ => ⟨_, _, rfl⟩) r 0 w' (by omega) (by omega)
              simpa [adr, blk, ofs] using this
            have Q0 := (bcell1 HBS.out (by omega)).trans P0
            have Q1 := (bcell1 HBS.out (by omega)).trans P1
            have HASK := Lib.hid (accF_ask (st := st) HVP.out (show k ≤ 1000 by omega) HS.out)
            have hrun := l05Run_c r os st w.heap.size ao co (some ⟨wr.heap.size, 0, none⟩) r (regsN r k) _ (HO.out.below (HB.out.trans (HBS.out.mono HB.out.size))) HSL.out Q0 Q1 HVP.out (regsN_ok (by omega)) hs2
            rw [regsN_len] at hrun
            have HRUN := Lib.hid hrun
            clear hbl2 hb2 hset hsl hrun
            go_wp2_with fail
            refine HRUN.out.mono ?_
            rintro e w4 ⟨v4, F4, rfl, hb4, ho4, hn4, hf4⟩
            obtain ⟨n, hn⟩ : ∃ n, (runC os st ⟨0, regsN r k⟩).1.length = n + 1 := ⟨(runC os st ⟨0, regsN r k⟩).1.length - 1, by have := runC_pos os st ⟨0, regsN r k⟩; omega⟩
            have hn2 : n ≤ 200 := by have := runC_len os st ⟨0, regsN r k⟩; omega
            obtain ⟨g3, o3, c3, a5, c5, F5, ev, d0, _, _, _, _⟩ := ho4.cfgAt hn4 (i := n) (by omega)
            rw [hn] at ev
            subst ev
            have HN := Lib.hid hn
            have hz4 : wr.heap.size + 1 ≤ w4.heap.size := by have := hb4.size; (try simp at this); omega
            have HB4 : Hid (Below wr.heap.size wr w4) := Lib.hid (bnext HBS.out hb4 (Nat.le_refl _))
            have HBW : Hid (Below w.heap.size w w4) := Lib.hid (HB.out.trans (HB4.out.mono HB.out.size))
            have R0 := (bcell1 HB4.out (by omega)).trans P0
            have R1 := (bcell1 HB4.out (by omega)).trans P1
            have i3 : ∀ w', (Instr.indexAt 69 (.slice (some ⟨g3, o3, none⟩) (n + 1) c3) (.int .i64 n)).run Try.prog w' = .ok (.pointer (some ⟨g3, o3 + n * 2, none⟩)) w' := fun w' => by
              have := ix_of (P := Try.prog) tabConfigSM.under tabConfigSM.size (a := some ⟨g3, o3, none⟩) (n := n + 1) (fun _ => ⟨g3, o3, rfl⟩) c3 n w' (by omega) (by omega)
              simpa [adr, blk, ofs] using this
            clear hb4 ho4 hn4 hf4 hn P0 P1 Q0 Q1
            by_cases h5 : (runC os st ⟨0, regsN r k⟩).2 = 0
            rotate_left
            · have h6 : (accF r os st k).2 ≠ 0 := by rw [accF_err HASK.out h5]; exact h5
              have HE : Hid (accTo (accF r os st) (m + 1) = ([], (runC os st ⟨0, regsN r k⟩).2)) := Lib.hid (by rw [accTo_err (m := m + 1) HZ.out h6 (by omega), accF_err HASK.out h5])
              have bk : ((runC os st ⟨0, regsN r k⟩).2 != 0) = true := by simp [h5]
              clear h5 h6
              go_wp2
              go_ret2
              rw [HFN.out, HE.out]
              exact RetDC.none _ _ _ (HBW.out.alloc HBW.out.size _)
            · have hfin := accF_fine HASK.out h5 HN.out
              have bk : ((runC os st ⟨0, regsN r k⟩).2 != 0) = false := by simp [h5]
              have HF := Lib.hid hfin
              have hpc := runP_pc (R := r) (os := os) (regs := regsN r k) (steps := st)
              rw [runP_fine HASK.out h5 HN.out] at hpc
              clear h5 hfin
              go_wp2_with fail
              refine (l05Halts_c os (nthCfg (runC os st ⟨0, regsN r k⟩).1 n).pc ao co w.heap.size _ (HO.out.below HBW.out) R1 hpc.1 hpc.2).mono ?_
              rintro e w5 ⟨rfl, rfl⟩
              have HL5 := Lib.hid (HL.out.below HB4.out)
              cases hh : haltS os (nthCfg (runC os st ⟨0, regsN r k⟩).1 n).pc
              · have HE := Lib.hid (accTo_no HZ.out (show (accF r os st k).2 = 0 by rw [HF.out]) (show (accF r os st k).1 = false by rw [HF.out]; exact hh))
                clear hh
                go_wp2
                go_roundw
                case rel => exact ⟨k + 1, by omega, by go_num, by rw [HE.out], HBW, by rw [HE.out]; exact HL5, R0, R1, by omega⟩
                case measure => simp [intOf]; omega
              · have HE := Lib.hid (accTo_yes HZ.out (show (accF r os st k).2 = 0 by rw [HF.out]) (show (accF r os st k).1 = true by rw [HF.out]; exact hh))
                clear hh
                have hbl' := HL5.out.below (below_alloc w4 (.cells #[.int .i64 k] 2))
                have hln := accTo_len (accF r os st) k
                go_wp2_with (at_builtin; refine app_one rfl _ _ 22 rfl tabI rfl (by decide) (w.heap.size + 1) _ _ rfl hbl' w4.heap.size (.int .i64 k) rfl rfl ?c1 ?c2 ?c3 ?_)
                case c1 => simp
                case c2 => simp; omega
                case c3 => simp; omega
                intro v' w6 hbl6 hb6
                have hz6 : w4.heap.size + 1 ≤ w6.heap.size := by have := hb6.size; (try simp at this); omega
                have HL6 : Hid (Bld 2 w6 (w.heap.size + 1) v' ((accTo (accF r os st) (k + 1)).1.map (.int .i64))) := Lib.hid (by rw [HE.out]; simpa using hbl6)
                have HBW6 : Hid (Below w.heap.size w w6) := Lib.hid ((HBW.out.alloc HBW.out.size _).trans (hb6.mono (by omega)))
                replace R0 := (bcell1 hb6 (by omega)).trans ((bcell1 (below_alloc w4 _) (by omega)).trans R0)
                replace R1 := (bcell1 hb6 (by omega)).trans ((bcell1 (below_alloc w4 _) (by omega)).trans R1)
                clear hbl' hbl6 hb6
                go_wp2
                go_roundw
                case rel => exact ⟨k + 1, by omega, by go_num, by rw [HE.out], HBW6, HL6, R0, R1, by omega⟩
                case measure => simp [intOf]; omega
end Go.Proofs.Ytkoojiplfbcalaa
