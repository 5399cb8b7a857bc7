/- Configs that follow: the reference's exported function, and how much a result holds. -/
import Derived.Test.YtdcpdipakglnnaaNG
import Derived.Test.YtdcpdipakglnnaaOF
namespace Go.Proofs.Ytdcpdipakglnnaa
open Go.RowKit

theorem nextO_code (o : Ord) (regs : List Int) : (nextO o regs).2 = 0 ∨ ((nextO o regs).1 = [] ∧ (nextO o regs).2 = 3) := by
  unfold nextO
  split
  · split <;> simp
  · split <;> simp
theorem nextS_code (os : List Ord) (pc : Int) (regs : List Int) : (nextS os pc regs).2 = 0 ∨ ((nextS os pc regs).1 = [] ∧ (nextS os pc regs).2 = 3) := by
  unfold nextS
  split
  · simp
  · exact nextO_code _ _
theorem cfgs_cnt : ∀ (cs : List Cfg) (m : Nat), (∀ c, c ∈ cs → c.regs.length ≤ m) → cnt (dCS cs) ≤ cs.length * (m + 1)
  | [], m, _ => by simp [dCS, cnt, cntL]
  | c :: cs, m, h => by
    have h1 := cfgs_cnt cs m fun x hx => h x (by simp [hx])
    have h2 := h c (by simp)
    have h3 : cnt (dCS (c :: cs)) = 1 + (c.regs.length + cnt (dCS cs)) := by
      simp only [dCS, cnt, List.flatMap_cons, Cfg.ds, List.cons_append, List.nil_append, cntL, cntL_ints, dI] <;> omega
    rw [h3]
    simp only [List.length_cons, Nat.add_mul]
    omega
theorem nextO_small (o : Ord) (regs : List Int) : (nextO o regs).1.length ≤ 2 ∧ ∀ c, c ∈ (nextO o regs).1 → c.regs.length = regs.length := by
  unfold nextO
  split
  · split <;> simp
  · split
    · simp
    · split <;> simp
theorem nextS_small (os : List Ord) (pc : Int) (regs : List Int) : (nextS os pc regs).1.length ≤ 2 ∧ ∀ c, c ∈ (nextS os pc regs).1 → c.regs.length = regs.length := by
  unfold nextS
  split
  · simp
  · exact nextO_small _ _
theorem nextConfigs_cnt (R : Int) (os : List Ord) (pc : Int) (regs : List Int) : cnt (dCS (nextConfigsS R os pc regs).1) ≤ 16777216 := by
  unfold nextConfigsS
  split
  · rename_i hv
    split
    · rename_i hc
      have hR : 1 ≤ R ∧ R ≤ 3 := by simp [validProgS, inRg] at hv; omega
      have hRg := regsOk_ok (show regsOk R regs = true by simp only [confOk, Bool.and_eq_true] at hc; exact hc.2)
      have h1 := nextS_small os pc regs
      have h2 := cfgs_cnt (nextS os pc regs).1 3 fun c hcx => by have := h1.2 c hcx; omega
      omega
    · simp [dCS, cnt, cntL]
  · simp [dCS, cnt, cntL]
set_option maxHeartbeats 2000000 in
theorem specNextConfigs_d (R : Int) (os : List Ord) (pc : Int) (regs : List Int) {vo vr : Value} (w : World) (h1 : Rd Any w (dO os) vo) (h2 : Rd Any w (dI regs) vr) :
    Calls Try.prog 67 #[.agg #[.int .i64 R, vo], .agg #[.int .i64 pc, vr]] w (RetDC w (dCS (nextConfigsS R os pc regs).1) (nextConfigsS R os pc regs).2) := by
  obtain ⟨ao, co, rfl, ho⟩ := Rd_O.1 h1
  obtain ⟨a, c, rfl, hx⟩ := Rd_I.1 h2
  clear h1 h2
  have hb : Below w.heap.size w ((w.alloc (.cells #[.int .i64 R, .slice ao os.length co] 65)).alloc (.cells #[.int .i64 pc, .slice a regs.length c] 78)) := ((Below.refl _ _).alloc (Nat.le_refl _) _).alloc (by simp) _
  have HV := Lib.hid (l05Ok_c R Any ao co os w.heap.size _ (ho.below hb) (by simp [go_sem]) (by simp [go_sem]))
  have HB := Lib.hid hb
  have HO := Lib.hid ho
  have HX := Lib.hid hx
  have hlo := ho.len
  clear hb ho hx
  cases hv : validProgS R os
  · have ev : nextConfigsS R os pc regs = ([], 1) := by simp [nextConfigsS, hv]
    rw [ev]
    rw [hv] at HV
    clear ev hv
    go_enter Try.func67, Try.ntmps67
    go_wp2_with fail
    refine HV.out.mono ?_
    rintro e w1 ⟨rfl, hb1⟩
    have HB1 := Lib.hid (HB.out.trans (hb1.mono (by simp <;> omega)))
    clear hb1
    go_wp2
    go_ret2
    exact RetDC.noneC _ _ _ (HB1.out.alloc HB1.out.size _)
  · rw [hv] at HV
    have HVP := Lib.hid hv
    cases hc : confOk R os.length pc regs
    · have ev : nextConfigsS R os pc regs = ([], 2) := by simp [nextConfigsS, hv, hc]
      rw [ev]
      have HCF := Lib.hid hc
      clear ev hv hc
      go_enter Try.func67, Try.ntmps67
      go_wp2_with fail
      refine HV.out.mono ?_
      rintro e w1 ⟨rfl, hb1⟩
      have e0 : w1.cell? ⟨w.heap.size, 0, none⟩ = some (.int .i64 R) := by rw [bcell1 hb1 (by simp <;> omega)]; simp [go_sem]
      have e1 : w1.cell? ⟨w.heap.size, 1, none⟩ = some (.slice ao os.length co) := by rw [bcell1 hb1 (by simp <;> omega)]; simp [go_sem]
      have e2 : w1.cell? ⟨w.heap.size + 1, 0, none⟩ = some (.int .i64 pc) := by rw [bcell1 hb1 (by simp)]; simp [go_sem]
      have e3 : w1.cell? ⟨w.heap.size + 1, 1, none⟩ = some (.slice a regs.length c) := by rw [bcell1 hb1 (by simp)]; simp [go_sem]
      have hz1 : w.heap.size + 2 ≤ w1.heap.size := by have := hb1.size; (try simp at this); omega
      have HB1 := Lib.hid (HB.out.trans (hb1.mono (by simp <;> omega)))
      have hic := l05Config_c R w.heap.size (w.heap.size + 1) ao os.length co pc a c regs w1 (HX.out.below HB1.out) hlo e0 e1 e2 e3
      rw [HCF.out] at hic
      have HIC := Lib.hid hic
      clear hb1 hic
      go_wp2_with fail
      refine HIC.out.mono ?_
      rintro e w2 ⟨rfl, hb2⟩
      have f0 := (bcell1 hb2 (i := 0) (b := w.heap.size) (by omega)).trans e0
      have f1 := (bcell1 hb2 (i := 1) (b := w.heap.size) (by omega)).trans e1
      have f2 := (bcell1 hb2 (i := 0) (b := w.heap.size + 1) (by omega)).trans e2
      have f3 := (bcell1 hb2 (i := 1) (b := w.heap.size + 1) (by omega)).trans e3
      have HB2 := Lib.hid (bnext HB1.out hb2 (Nat.le_refl _))
      clear hb2 e0 e1 e2 e3
      go_wp2
      go_ret2
      exact RetDC.noneC _ _ _ (HB2.out.alloc HB2.out.size _)
    · have ev : nextConfigsS R os pc regs = nextS os pc regs := by simp [nextConfigsS, hv, hc]
      rw [ev]
      have HCF := Lib.hid hc
      clear ev hv hc
      go_enter Try.func67, Try.ntmps67
      go_wp2_with fail
      refine HV.out.mono ?_
      rintro e w1 ⟨rfl, hb1⟩
      have e0 : w1.cell? ⟨w.heap.size, 0, none⟩ = some (.int .i64 R) := by rw [bcell1 hb1 (by simp <;> omega)]; simp [go_sem]
      have e1 : w1.cell? ⟨w.heap.size, 1, none⟩ = some (.slice ao os.length co) := by rw [bcell1 hb1 (by simp <;> omega)]; simp [go_sem]
      have e2 : w1.cell? ⟨w.heap.size + 1, 0, none⟩ = some (.int .i64 pc) := by rw [bcell1 hb1 (by simp)]; simp [go_sem]
      have e3 : w1.cell? ⟨w.heap.size + 1, 1, none⟩ = some (.slice a regs.length c) := by rw [bcell1 hb1 (by simp)]; simp [go_sem]
      have hz1 : w.heap.size + 2 ≤ w1.heap.size := by have := hb1.size; (try simp at this); omega
      have HB1 := Lib.hid (HB.out.trans (hb1.mono (by simp <;> omega)))
      have hic := l05Config_c R w.heap.size (w.heap.size + 1) ao os.length co pc a c regs w1 (HX.out.below HB1.out) hlo e0 e1 e2 e3
      rw [HCF.out] at hic
      have HIC := Lib.hid hic
      clear hb1 hic
      go_wp2_with fail
      refine HIC.out.mono ?_
      rintro e w2 ⟨rfl, hb2⟩
      have f0 := (bcell1 hb2 (i := 0) (b := w.heap.size) (by omega)).trans e0
      have f1 := (bcell1 hb2 (i := 1) (b := w.heap.size) (by omega)).trans e1
      have f2 := (bcell1 hb2 (i := 0) (b := w.heap.size + 1) (by omega)).trans e2
      have f3 := (bcell1 hb2 (i := 1) (b := w.heap.size + 1) (by omega)).trans e3
      have HB2 := Lib.hid (bnext HB1.out hb2 (Nat.le_refl _))
      clear hb2 e0 e1 e2 e3
      have HN := Lib.hid (l05Next_c R ao co w.heap.size (w.heap.size + 1) os pc a c regs w2 (HO.out.below HB2.out) (HX.out.below HB2.out) f0 f1 f2 f3 HVP.out HCF.out)
      rcases nextS_code os pc regs with hk | ⟨hk1, hk2⟩
      · have hq : ((nextS os pc regs).2 == 0) = true := by simp [hk]
        rw [hq] at HN
        have hk' := Lib.hid hk
        clear hq hk
        go_wp2_with fail
        refine HN.out.mono ?_
        rintro e w3 ⟨v, F, rfl, hr⟩
        have HR : Hid (RetDC w (dCS (nextS os pc regs).1) 0 _ w3) := Lib.hid (RetDC.from HB2.out (show RetDC w2 (dCS (nextS os pc regs).1) 0 _ w3 from ⟨v, F, rfl, hr⟩))
        clear hr
        go_wp2
        go_ret2
        rw [hk'.out]
        exact HR.out
      · have hq : ((nextS os pc regs).2 == 0) = false := by simp [hk2]
        rw [hq, hk1] at HN
        have hk3 := Lib.hid hk1
        have hk4 := Lib.hid hk2
        clear hq hk1 hk2
        go_wp2_with fail
        refine HN.out.mono ?_
        rintro e w3 ⟨v, F, rfl, hb3, _⟩
        have HB3 := Lib.hid (bnext HB2.out hb3 (Nat.le_refl _))
        clear hb3
        go_wp2
        go_ret2
        rw [hk3.out, hk4.out]
        exact RetDC.noneC _ _ _ (HB3.out.alloc HB3.out.size _)
end Go.Proofs.Ytdcpdipakglnnaa
