/- IsPassChoice: the program's function. Written by mkcr.py. -/
import Derived.Test.YtkoojiplfbcalaaCI
import Derived.Test.YtkoojiplfbcalaaCS
namespace Go.Proofs.Ytkoojiplfbcalaa
open Go.RowKit

theorem isMode_c (m : Int) (w : World) : Calls Try.prog 70 #[.int .i64 m] w (RetP w (.bool (inRg m 1 3))) := by
  go_enter Try.func70, Try.ntmps70
  go_wp2_with fail
  refine (inRange_c _ _ _ _).mono ?_
  rintro e w' ⟨rfl, rfl⟩
  go_wp2
  go_ret
  exact ⟨rfl, rfl⟩
set_option maxHeartbeats 2000000 in
theorem implIsPassChoice_c (x0 : Int) (x1 : List Int) (x2 : List Bool) (x3 : List PR) (y0 : List (List Int)) (y1 : List Int) (a1 a2 a3 b0 b1 : Option Addr) (c1 c2 c3 d0 d1 : Nat) (w : World) (h1 : SlI Any w a1 x1) (hc1 : x1.length ≤ c1) (h2 : SlB Any w a2 x2) (h3 : Rd Any w (dPR x3) (.slice a3 x3.length c3)) (k0 : SlII Any w b0 y0) (k1 : SlI Any w b1 y1) (cs : List Int) (bc : Option Addr) (cc : Nat) (kc : SlI Any w bc cs) (mode : Int) :
    Calls Try.prog 16 #[.agg #[.int .i64 x0, .slice a1 x1.length c1, .slice a2 x2.length c2, .slice a3 x3.length c3], .agg #[.slice b0 y0.length d0, .slice b1 y1.length d1], .slice bc cs.length cc, .int .i64 mode] w (RetV w (.tuple #[.bool (choiceS x0 x1 x2 x3 y0 y1 cs mode).1, .int .i64 (choiceS x0 x1 x2 x3 y0 y1 cs mode).2])) := by
  have hb0 : Below w.heap.size w ((w.alloc (.cells #[.int .i64 x0, .slice a1 x1.length c1, .slice a2 x2.length c2, .slice a3 x3.length c3] 36)).alloc (.cells #[.slice b0 y0.length d0, .slice b1 y1.length d1] 38)) := ((Below.refl _ _).alloc (Nat.le_refl _) _).alloc (by simp) _
  have HC := Lib.hid (passCode_c x0 x1 x2 x3 y0 y1 a1 a2 a3 b0 b1 c1 c2 c3 d0 d1 ((w.alloc (.cells #[.int .i64 x0, .slice a1 x1.length c1, .slice a2 x2.length c2, .slice a3 x3.length c3] 36)).alloc (.cells #[.slice b0 y0.length d0, .slice b1 y1.length d1] 38)) (h1.below hb0) hc1 (h2.below hb0) (h3.below hb0) (k0.below hb0) (k1.below hb0) cs bc cc (kc.below hb0))
  have HB0 := Lib.hid hb0
  clear hb0
  by_cases hcode : passCodeS x0 x1 x2 x3 y0 y1 cs = 0
  · have hok := passCode_ok hcode
    obtain ⟨K, hxK, hps, hst⟩ := stockAll_ok (stCode_ok hok.1)
    have hcs := bag6_ok hok.2
    rw [hcode] at HC
    cases hm : inRg mode 1 3
    · have ev : choiceS x0 x1 x2 x3 y0 y1 cs mode = (false, 2) := by simp [choiceS, hcode, hm]
      rw [ev]
      have HM := Lib.hid (fun wx => isMode_c mode wx)
      rw [hm] at HM
      clear ev hcode hok hps hst hcs h1 h2 h3 k0 k1 kc hxK hm
      go_enter Try.func16, Try.ntmps16
      go_wp2_with fail
      refine HC.out.mono ?_
      rintro e w1 ⟨rfl, hb1⟩
      have HB1 := Lib.hid (HB0.out.trans (hb1.mono (by simp <;> omega)))
      clear hb1
      go_wp2_with fail
      refine (HM.out _).mono ?_
      rintro e w2 ⟨rfl, rfl⟩
      go_wp2
      go_ret2
      exact ⟨rfl, HB1.out⟩
    · have ev : choiceS x0 x1 x2 x3 y0 y1 cs mode = (fitsB x1 x2 x3 (bagsS y0 y1) cs && chosenS x1 x2 x3 (bagsS y0 y1) cs mode, 0) := by simp [choiceS, hcode, hm]
      rw [ev]
      have HM := Lib.hid (fun wx => isMode_c mode wx)
      rw [hm] at HM
      have HF := Lib.hid (fun wx (h : Below w.heap.size w wx) => fits_c x0 x1 x2 x3 y0 y1 a1 a2 a3 b0 b1 c1 c2 c3 d0 d1 wx (h1.below h) (h2.below h) (h3.below h) (k0.below h) (k1.below h) cs bc cc (kc.below h) K hps hst hcs.1 (fun j => by have := hcs.2 j; omega))
      have HI := Lib.hid (fun wx (h : Below w.heap.size w wx) => isChoice_c x0 x1 x2 x3 y0 y1 a1 a2 a3 b0 b1 c1 c2 c3 d0 d1 wx (h1.below h) (h2.below h) (h3.below h) (k0.below h) (k1.below h) cs bc cc (kc.below h) K hps hst hcs.1 (fun j => by have := hcs.2 j; omega) mode)
      clear ev hcode hok hps hst hcs h1 h2 h3 k0 k1 kc hxK hm
      cases hf : fitsB x1 x2 x3 (bagsS y0 y1) cs
      · rw [hf] at HF
        go_enter Try.func16, Try.ntmps16
        go_wp2_with fail
        refine HC.out.mono ?_
        rintro e w1 ⟨rfl, hb1⟩
        have f0 : w1.cell? ⟨w.heap.size, 0, none⟩ = some (.int .i64 x0) := by rw [bcell1 hb1 (by simp <;> omega)]; simp [go_sem]
        have f1 : w1.cell? ⟨w.heap.size, 1, none⟩ = some (.slice a1 x1.length c1) := by rw [bcell1 hb1 (by simp <;> omega)]; simp [go_sem]
        have f2 : w1.cell? ⟨w.heap.size, 2, none⟩ = some (.slice a2 x2.length c2) := by rw [bcell1 hb1 (by simp <;> omega)]; simp [go_sem]
        have f3 : w1.cell? ⟨w.heap.size, 3, none⟩ = some (.slice a3 x3.length c3) := by rw [bcell1 hb1 (by simp <;> omega)]; simp [go_sem]
        have e0 : w1.cell? ⟨w.heap.size + 1, 0, none⟩ = some (.slice b0 y0.length d0) := by rw [bcell1 hb1 (by simp <;> omega)]; simp [go_sem]
        have e1 : w1.cell? ⟨w.heap.size + 1, 1, none⟩ = some (.slice b1 y1.length d1) := by rw [bcell1 hb1 (by simp <;> omega)]; simp [go_sem]
        have HB1 := Lib.hid (HB0.out.trans (hb1.mono (by simp <;> omega)))
        have zz : w.heap.size + 1 < w1.heap.size := World.block_lt_of_cell? w1 _ e0
        clear hb1
        go_wp2_with fail
        refine (HM.out _).mono ?_
        rintro e w2 ⟨rfl, rfl⟩
        go_wp2_with fail
        refine (HF.out _ HB1.out).mono ?_
        rintro e w2 ⟨rfl, hb2⟩
        have HB2 := Lib.hid (bnext HB1.out hb2 (Nat.le_refl _))
        clear hb2
        go_wp2
        go_ret2
        exact ⟨rfl, HB2.out⟩
      · rw [hf] at HF
        go_enter Try.func16, Try.ntmps16
        go_wp2_with fail
        refine HC.out.mono ?_
        rintro e w1 ⟨rfl, hb1⟩
        have f0 : w1.cell? ⟨w.heap.size, 0, none⟩ = some (.int .i64 x0) := by rw [bcell1 hb1 (by simp <;> omega)]; simp [go_sem]
        have f1 : w1.cell? ⟨w.heap.size, 1, none⟩ = some (.slice a1 x1.length c1) := by rw [bcell1 hb1 (by simp <;> omega)]; simp [go_sem]
        have f2 : w1.cell? ⟨w.heap.size, 2, none⟩ = some (.slice a2 x2.length c2) := by rw [bcell1 hb1 (by simp <;> omega)]; simp [go_sem]
        have f3 : w1.cell? ⟨w.heap.size, 3, none⟩ = some (.slice a3 x3.length c3) := by rw [bcell1 hb1 (by simp <;> omega)]; simp [go_sem]
        have e0 : w1.cell? ⟨w.heap.size + 1, 0, none⟩ = some (.slice b0 y0.length d0) := by rw [bcell1 hb1 (by simp <;> omega)]; simp [go_sem]
        have e1 : w1.cell? ⟨w.heap.size + 1, 1, none⟩ = some (.slice b1 y1.length d1) := by rw [bcell1 hb1 (by simp <;> omega)]; simp [go_sem]
        have HB1 := Lib.hid (HB0.out.trans (hb1.mono (by simp <;> omega)))
        have zz : w.heap.size + 1 < w1.heap.size := World.block_lt_of_cell? w1 _ e0
        clear hb1
        go_wp2_with fail
        refine (HM.out _).mono ?_
        rintro e w2 ⟨rfl, rfl⟩
        go_wp2_with fail
        refine (HF.out _ HB1.out).mono ?_
        rintro e w2 ⟨rfl, hb2⟩
        have HB2 := Lib.hid (bnext HB1.out hb2 (Nat.le_refl _))
        replace f0 := (bcell1 hb2 (by omega)).trans f0
        replace f1 := (bcell1 hb2 (by omega)).trans f1
        replace f2 := (bcell1 hb2 (by omega)).trans f2
        replace f3 := (bcell1 hb2 (by omega)).trans f3
        replace e0 := (bcell1 hb2 (by omega)).trans e0
        replace e1 := (bcell1 hb2 (by omega)).trans e1
        clear hb2
        go_wp2_with fail
        refine (HI.out _ HB2.out).mono ?_
        rintro e w3 ⟨rfl, hb3⟩
        have HB3 := Lib.hid (bnext HB2.out hb3 (Nat.le_refl _))
        clear hb3
        go_wp2
        go_ret2
        exact ⟨rfl, HB3.out⟩
  · have ev : choiceS x0 x1 x2 x3 y0 y1 cs mode = (false, passCodeS x0 x1 x2 x3 y0 y1 cs) := by simp [choiceS, hcode]
    have hc1' : (passCodeS x0 x1 x2 x3 y0 y1 cs != 0) = true := by simpa using hcode
    have hc2' : (passCodeS x0 x1 x2 x3 y0 y1 cs == 0) = false := by simpa using hcode
    rw [ev]
    clear ev hcode h1 h2 h3 k0 k1 kc
    go_enter Try.func16, Try.ntmps16
    go_wp2_with fail
    refine HC.out.mono ?_
    rintro e w1 ⟨rfl, hb1⟩
    have HB1 := Lib.hid (HB0.out.trans (hb1.mono (by simp <;> omega)))
    clear hb1
    go_wp2
    go_ret2
    exact ⟨rfl, HB1.out⟩
theorem implIsPassChoice_d (x0 : Int) (x1 : List Int) (x2 : List Bool) (x3 : List PR) (y0 : List (List Int)) (y1 : List Int) (cs : List Int) (mode : Int) {v1 v2 v3 u0 u1 uc : Value} {F1 F2 F3 G0 G1 Gc : List Nat} (w : World) (h1 : Ow w (dI x1) v1 F1) (h2 : Ow w (dB x2) v2 F2) (h3 : Ow w (dPR x3) v3 F3) (k0 : Ow w (dII y0) u0 G0) (k1 : Ow w (dI y1) u1 G1) (kc : Ow w (dI cs) uc Gc) :
    Calls Try.prog 16 #[.agg #[.int .i64 x0, v1, v2, v3], .agg #[u0, u1], uc, .int .i64 mode] w (RetV w (.tuple #[.bool (choiceS x0 x1 x2 x3 y0 y1 cs mode).1, .int .i64 (choiceS x0 x1 x2 x3 y0 y1 cs mode).2])) := by
  obtain ⟨a1, c1, rfl, hc, k1'⟩ := h1.capI
  obtain ⟨a2, c2, rfl, k2'⟩ := Rd_B.1 h2.rdA
  have h3' := h3.rdA
  obtain ⟨a3, c3, rfl, _⟩ := Rd_PR h3'
  obtain ⟨b0, d0, rfl, j3⟩ := Rd_II.1 k0.rdA
  obtain ⟨b1, d1, rfl, j4⟩ := Rd_I.1 k1.rdA
  obtain ⟨bc, cc, rfl, j5⟩ := Rd_I.1 kc.rdA
  exact implIsPassChoice_c x0 x1 x2 x3 y0 y1 a1 a2 a3 b0 b1 c1 c2 c3 d0 d1 w k1' hc k2' h3' j3 j4 cs bc cc j5 mode
end Go.Proofs.Ytkoojiplfbcalaa
