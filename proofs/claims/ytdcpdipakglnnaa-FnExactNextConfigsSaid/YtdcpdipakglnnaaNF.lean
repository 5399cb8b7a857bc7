/- Configs that follow: the exported function, and what the reference looks at. -/
import Derived.Test.YtdcpdipakglnnaaNE
import Derived.Test.YtdcpdipakglnnaaPY
namespace Go.Proofs.Ytdcpdipakglnnaa
open Go.RowKit

set_option maxHeartbeats 2000000 in
theorem implNextConfigs_d (R : Int) (os : List Ord) (pc : Int) (regs : List Int) {vo vr : Value} (w : World) (h1 : Rd Any w (dO os) vo) (h2 : Rd Any w (dI regs) vr) :
    Calls Try.prog 52 #[.agg #[.int .i64 R, vo], .agg #[.int .i64 pc, vr]] w (RetDC w (dCS (nextConfigsS R os pc regs).1) (nextConfigsS R os pc regs).2) := by
  obtain ⟨ao, co, rfl, ho⟩ := Rd_O.1 h1
  obtain ⟨a, c, rfl, hx⟩ := Rd_I.1 h2
  clear h1 h2
  have hb : Below w.heap.size w ((w.alloc (.cells #[.int .i64 R, .slice ao os.length co] 65)).alloc (.cells #[.int .i64 pc, .slice a regs.length c] 78)) := ((Below.refl _ _).alloc (Nat.le_refl _) _).alloc (by simp) _
  have HV := Lib.hid (implValidProgram_c R Any ao co os _ (ho.below hb))
  have HB := Lib.hid hb
  have HO := Lib.hid ho
  have HX := Lib.hid hx
  have hlo := ho.len
  clear hb ho hx
  cases hv : validProgS R os
  · have ev : nextConfigsS R os pc regs = ([], 1) := by simp [nextConfigsS, hv]
    rw [ev]
    rw [hv] at HV
    clear ev hv
    go_enter Try.func52, Try.ntmps52
    go_wp2_with fail
    refine HV.out.mono ?_
    rintro e w1 ⟨rfl, hb1⟩
    have HB1 := Lib.hid (HB.out.trans (hb1.mono (by simp <;> omega)))
    clear hb1
    go_wp2
    go_ret2
    exact RetDC.noneC _ _ _ HB1.out
  · rw [hv] at HV
    have HVP := Lib.hid hv
    cases hc : confOk R os.length pc regs
    · have ev : nextConfigsS R os pc regs = ([], 2) := by simp [nextConfigsS, hv, hc]
      rw [ev]
      have HCF := Lib.hid hc
      clear ev hv hc
      go_enter Try.func52, Try.ntmps52
      go_wp2_with fail
      refine HV.out.mono ?_
      rintro e w1 ⟨rfl, hb1⟩
      have e0 : w1.cell? ⟨w.heap.size, 0, none⟩ = some (.int .i64 R) := by rw [bcell1 hb1 (by simp <;> omega)]; simp [go_sem]
      have e1 : w1.cell? ⟨w.heap.size, 1, none⟩ = some (.slice ao os.length co) := by rw [bcell1 hb1 (by simp <;> omega)]; simp [go_sem]
      have e2 : w1.cell? ⟨w.heap.size + 1, 0, none⟩ = some (.int .i64 pc) := by rw [bcell1 hb1 (by simp)]; simp [go_sem]
      have e3 : w1.cell? ⟨w.heap.size + 1, 1, none⟩ = some (.slice a regs.length c) := by rw [bcell1 hb1 (by simp)]; simp [go_sem]
      have HB1 := Lib.hid (HB.out.trans (hb1.mono (by simp <;> omega)))
      have hic := isConfig_c R ao os.length co hlo pc a c regs w1 (HX.out.below HB1.out)
      rw [HCF.out] at hic
      have HIC := Lib.hid hic
      clear hb1 hic
      go_wp2_with fail
      refine HIC.out.mono ?_
      rintro e w2 ⟨rfl, hb2⟩
      have HB2 := Lib.hid (bnext HB1.out hb2 (Nat.le_refl _))
      clear hb2
      go_wp2
      go_ret2
      exact RetDC.noneC _ _ _ HB2.out
    · have ev : nextConfigsS R os pc regs = nextS os pc regs := by simp [nextConfigsS, hv, hc]
      rw [ev]
      have HCF := Lib.hid hc
      clear ev hv hc
      go_enter Try.func52, Try.ntmps52
      go_wp2_with fail
      refine HV.out.mono ?_
      rintro e w1 ⟨rfl, hb1⟩
      have e0 : w1.cell? ⟨w.heap.size, 0, none⟩ = some (.int .i64 R) := by rw [bcell1 hb1 (by simp <;> omega)]; simp [go_sem]
      have e1 : w1.cell? ⟨w.heap.size, 1, none⟩ = some (.slice ao os.length co) := by rw [bcell1 hb1 (by simp <;> omega)]; simp [go_sem]
      have e2 : w1.cell? ⟨w.heap.size + 1, 0, none⟩ = some (.int .i64 pc) := by rw [bcell1 hb1 (by simp)]; simp [go_sem]
      have e3 : w1.cell? ⟨w.heap.size + 1, 1, none⟩ = some (.slice a regs.length c) := by rw [bcell1 hb1 (by simp)]; simp [go_sem]
      have hz1 : w.heap.size + 2 ≤ w1.heap.size := by have := hb1.size; (try simp at this); omega
      have HB1 := Lib.hid (HB.out.trans (hb1.mono (by simp <;> omega)))
      have hic := isConfig_c R ao os.length co hlo pc a c regs w1 (HX.out.below HB1.out)
      rw [HCF.out] at hic
      have HIC := Lib.hid hic
      clear hb1 hic
      go_wp2_with fail
      refine HIC.out.mono ?_
      rintro e w2 ⟨rfl, hb2⟩
      have f0 := (bcell1 hb2 (i := 0) (b := w.heap.size) (by omega)).trans e0
      have f1 := (bcell1 hb2 (i := 1) (b := w.heap.size) (by omega)).trans e1
      have f2 := (bcell1 hb2 (i := 0) (b := w.heap.size + 1) (by omega)).trans e2
      have f3 := (bcell1 hb2 (i := 1) (b := w.heap.size + 1) (by omega)).trans e3
      have HB2 := Lib.hid (bnext HB1.out hb2 (Nat.le_refl _))
      have HN := Lib.hid (next_c R ao co os pc a c regs w2 (HO.out.below HB2.out) (HX.out.below HB2.out) HVP.out HCF.out)
      clear hb2 e0 e1 e2 e3
      go_wp2_with fail
      refine HN.out.mono ?_
      rintro e w3 ⟨v, F, rfl, hr⟩
      have HR : Hid (RetDC w (dCS (nextS os pc regs).1) (nextS os pc regs).2 _ w3) := Lib.hid (RetDC.from HB2.out (show RetDC w2 (dCS (nextS os pc regs).1) (nextS os pc regs).2 _ w3 from ⟨v, F, rfl, hr⟩))
      clear hr
      go_wp2
      go_ret2
      exact HR.out
set_option maxHeartbeats 1000000 in
theorem l05Halts_c (os : List Ord) (at_ : Int) (ao : Option Addr) (co p : Nat) (w : World) (ho : SlO Any w ao os) (hp1 : w.cell? ⟨p, 1, none⟩ = some (.slice ao os.length co)) (h0 : 0 ≤ at_) (h1 : at_ ≤ os.length) :
    Calls Try.prog 128 #[.pointer (some ⟨p, 0, none⟩), .int .i64 at_] w (RetP w (.bool (haltS os at_))) := by
  have i1 := ixO ho co
  cases e1 : (at_ == (os.length : Int))
  · have hlt : at_ < os.length := by simp at e1; omega
    have e : haltS os at_ = ((nthO os at_.toNat).op == 3) := by simp [haltS, e1]
    rw [e]
    have i2 := fun w' => i1 at_ w' h0 hlt
    have g0 := ho.c0 at_.toNat (by omega)
    clear e
    go_enter Try.func128, Try.ntmps128
    go_wp2
    go_ret
    exact ⟨rfl, rfl⟩
  · have e : haltS os at_ = true := by simp [haltS, e1]
    rw [e]
    clear e
    go_enter Try.func128, Try.ntmps128
    go_wp2
    go_ret
    exact ⟨rfl, rfl⟩
theorem l05Regs_c (R : Int) (p : Nat) (a : Option Addr) (c : Nat) (regs : List Int) (w : World) (hx : SlI Any w a regs) (hp0 : w.cell? ⟨p, 0, none⟩ = some (.int .i64 R)) :
    Calls Try.prog 188 #[.pointer (some ⟨p, 0, none⟩), .slice a regs.length c] w (RetP w (.bool (regsOk R regs))) := by
  have hb : bag6 R regs = regsOk R regs := by rw [bag6, regsOk, Bool.and_comm]
  have HC := Lib.hid (l06Bag_c R Any a c regs w hx)
  rw [hb] at HC
  clear hb
  go_enter Try.func188, Try.ntmps188
  go_wp2_with fail
  refine HC.out.mono ?_
  rintro e w' ⟨rfl, rfl⟩
  go_wp2
  go_ret
  exact ⟨rfl, rfl⟩
set_option maxHeartbeats 1000000 in
theorem l05Config_c (R : Int) (p q : Nat) (ao : Option Addr) (no co : Nat) (pc : Int) (a : Option Addr) (c : Nat) (regs : List Int) (w : World) (hx : SlI Any w a regs) (hno : no ≤ maxLen) (hp0 : w.cell? ⟨p, 0, none⟩ = some (.int .i64 R)) (hp1 : w.cell? ⟨p, 1, none⟩ = some (.slice ao no co)) (hq0 : w.cell? ⟨q, 0, none⟩ = some (.int .i64 pc)) (hq1 : w.cell? ⟨q, 1, none⟩ = some (.slice a regs.length c)) :
    Calls Try.prog 142 #[.pointer (some ⟨p, 0, none⟩), .pointer (some ⟨q, 0, none⟩)] w (RetV w (.bool (confOk R no pc regs))) := by
  have hpl : p < w.heap.size := World.block_lt_of_cell? w _ hp0
  have HI := Lib.hid (fun x : Wd w => callsP (l00In_c pc 0 no (wat x)))
  have HA := Lib.hid (fun x : Wd w => callsP (l05Regs_c R p a c regs (wat x) (hx.below (wat_below x)) (wat_cell hp0 x)))
  have q0 := wat_cell hp0
  have q1 := wat_cell hp1
  have q2 := wat_cell hq0
  have q3 := wat_cell hq1
  unfold maxLen at hno
  clear hx
  cases h1 : inRg pc 0 no
  · have e : confOk R no pc regs = false := by simp [confOk, h1]
    rw [e]
    rw [h1] at HI
    clear e h1
    go_enter Try.func142, Try.ntmps142
    go_wp2
    refine wp_quiet_wd (by kernel_rfl) (by kernel_rfl) ?_
    repeat (go_big_quiet_step (first | with_reducible exact wdV (HI.out _) | with_reducible exact wdV (HA.out _)))
    refine wpQuiet_nil ?_
    rintro _ ⟨wq, rfl⟩
    go_wp2
    go_ret
    exact ⟨rfl, wat_below wq⟩
  · have e : confOk R no pc regs = regsOk R regs := by simp [confOk, h1]
    rw [e]
    rw [h1] at HI
    clear e h1
    go_enter Try.func142, Try.ntmps142
    go_wp2
    refine wp_quiet_wd (by kernel_rfl) (by kernel_rfl) ?_
    repeat (go_big_quiet_step (first | with_reducible exact wdV (HI.out _) | with_reducible exact wdV (HA.out _)))
    refine wpQuiet_nil ?_
    rintro _ ⟨wq, rfl⟩
    go_wp2
    go_ret
    exact ⟨rfl, wat_below wq⟩
end Go.Proofs.Ytdcpdipakglnnaa
