/- CanPass and PassFits: the program's functions. -/
import Derived.Test.YtkjmehpehopncaaZ5
import Derived.Test.YtkjmehpehopncaaZ4
import Derived.Test.YtkjmehpehopncaaZ1
import Derived.Deep.RegionHeld3
namespace Go.Proofs.Ytkjmehpehopncaa
open Go.RowKit

theorem size_pr_c (a : Option Addr) (n c : Nat) (w : World) (_hn : n ≤ maxLen) : Calls Try.prog 34 #[.slice a n c] w (RetP w (.int .i64 n)) := by
  go_enter Try.func34, Try.ntmps34
  go_wp2
  go_ret
  exact ⟨rfl, rfl⟩
set_option maxHeartbeats 2000000 in
theorem fits_c (x0 : Int) (x1 : List Int) (x2 : List Bool) (x3 : List PR) (y0 : List (List Int)) (y1 : List Int) (a1 a2 a3 b0 b1 : Option Addr) (c1 c2 c3 d0 d1 : Nat) (w : World) (h1 : SlI Any w a1 x1) (h2 : SlB Any w a2 x2) (h3 : Rd Any w (dPR x3) (.slice a3 x3.length c3)) (k0 : SlII Any w b0 y0) (k1 : SlI Any w b1 y1) (cs : List Int) (bc : Option Addr) (cc : Nat) (kc : SlI Any w bc cs) (K0 : Nat) (hps : PsOk K0 x1 x2 x3) (hst : StOk K0 x1.length y0 y1) (hcl : cs.length = x3.length) (hcb : ∀ j, 0 ≤ nth cs j ∧ nth cs j ≤ 1001) :
    Calls Try.prog 22 #[.agg #[.int .i64 x0, .slice a1 x1.length c1, .slice a2 x2.length c2, .slice a3 x3.length c3], .agg #[.slice b0 y0.length d0, .slice b1 y1.length d1], .slice bc cs.length cc] w (RetV w (.bool (fitsB x1 x2 x3 (bagsS y0 y1) cs))) := by
  have hb0 : Below w.heap.size w ((w.alloc (.cells #[.int .i64 x0, .slice a1 x1.length c1, .slice a2 x2.length c2, .slice a3 x3.length c3] 28)).alloc (.cells #[.slice b0 y0.length d0, .slice b1 y1.length d1] 31)) := ((Below.refl _ _).alloc (Nat.le_refl _) _).alloc (by simp) _
  have HC := Lib.hid (changed_c x0 x1 x2 x3 y0 y1 a1 a2 a3 b0 b1 c1 c2 c3 d0 d1 ((w.alloc (.cells #[.int .i64 x0, .slice a1 x1.length c1, .slice a2 x2.length c2, .slice a3 x3.length c3] 28)).alloc (.cells #[.slice b0 y0.length d0, .slice b1 y1.length d1] 31)) (h1.below hb0) (h2.below hb0) (h3.below hb0) (k0.below hb0) (k1.below hb0) cs bc cc (kc.below hb0) K0 hps hst hcl hcb)
  have HE : Hid (fitsB x1 x2 x3 (bagsS y0 y1) cs = allII geB (takeTo x1 x2 x3 cs (bagsS y0 y1) x3.length)) := Lib.hid (by rw [fitsB, hcl])
  have HL : Hid (∀ j, j < (takeTo x1 x2 x3 cs (bagsS y0 y1) x3.length).length → 0 < (nthR (takeTo x1 x2 x3 cs (bagsS y0 y1) x3.length) j).length) := Lib.hid (fun j hj => by
    rw [takeTo_len, bagsS_len, hst.len] at hj
    rw [(takeTo_at hps hst hcb x3.length (Nat.le_refl _) j (by omega)).1]
    exact hps.k1)
  have HN : Hid ((takeTo x1 x2 x3 cs (bagsS y0 y1) x3.length).length = x1.length + 1) := Lib.hid (by rw [takeTo_len, bagsS_len, hst.len])
  have hp4 := hps.p4
  have HB0 := Lib.hid hb0
  rw [HE.out]
  generalize takeTo x1 x2 x3 cs (bagsS y0 y1) x3.length = L at *
  clear HE hb0 h1 h2 h3 k0 k1 kc hps hst hcl hcb
  go_enter Try.func22, Try.ntmps22
  go_wp2_with fail
  refine HC.out.mono ?_
  rintro e w1 ⟨g, c, rfl, hb1, hbg⟩
  have HB1 := Lib.hid (HB0.out.trans (hb1.mono (by simp <;> omega)))
  have HF := containsFuncII_v 43 #[] (fun b => !geB b) (callFunc_run Try.func43 (by kernel_rfl) rfl) Any (some ⟨g, 0, none⟩) c L w1 (hbg.slII (by unfold maxLen; omega)) (Lib.hid fun j hj a' c' w' _ hs => callsP (fits1_c a' c' _ w' hs (HL.out j hj)))
  rw [HN.out, anyII_not] at HF
  have HFF := Lib.hid HF
  clear hb1 hbg HF
  go_wp2_with fail
  refine HFF.out.mono ?_
  rintro e w2 ⟨rfl, hb2⟩
  have HB2 := Lib.hid (bnext HB1.out hb2 (Nat.le_refl _))
  clear hb2
  go_wp2
  go_ret
  exact ⟨ret_bool (by simp), HB2.out⟩
theorem passCode1_c (n : Int) (w : World) : Calls Try.prog 40 #[.int .i64 n] w (RetP w (.bool (!cntOk n))) := by
  go_enter Try.func40, Try.ntmps40
  go_wp2_with fail
  refine (inRange_c _ _ _ _).mono ?_
  rintro e w' ⟨rfl, rfl⟩
  go_wp2
  go_ret
  exact ⟨rfl, rfl⟩
set_option maxHeartbeats 2000000 in
theorem passCode_c (x0 : Int) (x1 : List Int) (x2 : List Bool) (x3 : List PR) (y0 : List (List Int)) (y1 : List Int) (a1 a2 a3 b0 b1 : Option Addr) (c1 c2 c3 d0 d1 : Nat) (w : World) (h1 : SlI Any w a1 x1) (hc1 : x1.length ≤ c1) (h2 : SlB Any w a2 x2) (h3 : Rd Any w (dPR x3) (.slice a3 x3.length c3)) (k0 : SlII Any w b0 y0) (k1 : SlI Any w b1 y1) (cs : List Int) (bc : Option Addr) (cc : Nat) (kc : SlI Any w bc cs) :
    Calls Try.prog 21 #[.agg #[.int .i64 x0, .slice a1 x1.length c1, .slice a2 x2.length c2, .slice a3 x3.length c3], .agg #[.slice b0 y0.length d0, .slice b1 y1.length d1], .slice bc cs.length cc] w (RetV w (.int .i64 (passCodeS x0 x1 x2 x3 y0 y1 cs))) := by
  have hb0 : Below w.heap.size w ((w.alloc (.cells #[.int .i64 x0, .slice a1 x1.length c1, .slice a2 x2.length c2, .slice a3 x3.length c3] 28)).alloc (.cells #[.slice b0 y0.length d0, .slice b1 y1.length d1] 31)) := ((Below.refl _ _).alloc (Nat.le_refl _) _).alloc (by simp) _
  have HC := Lib.hid (stockCode_c x0 x1 x2 x3 y0 y1 a1 a2 a3 b0 b1 c1 c2 c3 d0 d1 ((w.alloc (.cells #[.int .i64 x0, .slice a1 x1.length c1, .slice a2 x2.length c2, .slice a3 x3.length c3] 28)).alloc (.cells #[.slice b0 y0.length d0, .slice b1 y1.length d1] 31)) (h1.below hb0) hc1 (h2.below hb0) (h3.below hb0) (k0.below hb0) (k1.below hb0))
  have HCF := Lib.hid (fun wx (h : Below w.heap.size w wx) => containsFuncI_c 40 #[] (fun n => !cntOk n) (callFunc_run Try.func40 (by kernel_rfl) rfl) Any bc cc cs wx (kc.below h) (Lib.hid fun n => passCode1_c n wx))
  rw [anyB_not] at HCF
  have HB0 := Lib.hid hb0
  have lc := kc.len
  unfold maxLen at lc
  have h3' := h3
  obtain ⟨_, _, e3, k3⟩ := Rd_PR h3'
  cases e3
  have l3 := k3.len
  unfold maxLen at l3
  clear hb0 h1 h2 h3 k0 k1 kc h3' k3
  by_cases hcode : stCode x0 x1 x2 x3 y0 y1 = 0
  · rw [hcode] at HC
    by_cases hl : cs.length = x3.length
    · have hlb : ((cs.length : Int) != (x3.length : Int)) = false := by simp [hl]
      cases hp : allB cntOk cs
      · have HR : Hid (passCodeS x0 x1 x2 x3 y0 y1 cs = 2) := Lib.hid (by simp [passCodeS, hcode, bag6, hp, hl])
        rw [HR.out]
        rw [hp] at HCF
        clear hp hcode hl
        go_enter Try.func21, Try.ntmps21
        go_wp2_with fail
        refine HC.out.mono ?_
        rintro e w1 ⟨rfl, hb1⟩
        have f0 : w1.cell? ⟨w.heap.size, 0, none⟩ = some (.int .i64 x0) := by rw [bcell1 hb1 (by simp <;> omega)]; simp [go_sem]
        have f1 : w1.cell? ⟨w.heap.size, 1, none⟩ = some (.slice a1 x1.length c1) := by rw [bcell1 hb1 (by simp <;> omega)]; simp [go_sem]
        have f2 : w1.cell? ⟨w.heap.size, 2, none⟩ = some (.slice a2 x2.length c2) := by rw [bcell1 hb1 (by simp <;> omega)]; simp [go_sem]
        have f3 : w1.cell? ⟨w.heap.size, 3, none⟩ = some (.slice a3 x3.length c3) := by rw [bcell1 hb1 (by simp <;> omega)]; simp [go_sem]
        have e0 : w1.cell? ⟨w.heap.size + 1, 0, none⟩ = some (.slice b0 y0.length d0) := by rw [bcell1 hb1 (by simp <;> omega)]; simp [go_sem]
        have e1 : w1.cell? ⟨w.heap.size + 1, 1, none⟩ = some (.slice b1 y1.length d1) := by rw [bcell1 hb1 (by simp <;> omega)]; simp [go_sem]
        have HB1 := Lib.hid (HB0.out.trans (hb1.mono (by simp <;> omega)))
        clear hb1
        go_wp2_with fail
        refine (HCF.out w1 HB1.out).mono ?_
        rintro e w2 ⟨rfl, rfl⟩
        go_wp2
        go_ret
        exact ⟨rfl, HB1.out⟩
      · have HR : Hid (passCodeS x0 x1 x2 x3 y0 y1 cs = 0) := Lib.hid (by simp [passCodeS, hcode, bag6, hp, hl])
        rw [HR.out]
        rw [hp] at HCF
        clear hp hcode hl
        go_enter Try.func21, Try.ntmps21
        go_wp2_with fail
        refine HC.out.mono ?_
        rintro e w1 ⟨rfl, hb1⟩
        have f0 : w1.cell? ⟨w.heap.size, 0, none⟩ = some (.int .i64 x0) := by rw [bcell1 hb1 (by simp <;> omega)]; simp [go_sem]
        have f1 : w1.cell? ⟨w.heap.size, 1, none⟩ = some (.slice a1 x1.length c1) := by rw [bcell1 hb1 (by simp <;> omega)]; simp [go_sem]
        have f2 : w1.cell? ⟨w.heap.size, 2, none⟩ = some (.slice a2 x2.length c2) := by rw [bcell1 hb1 (by simp <;> omega)]; simp [go_sem]
        have f3 : w1.cell? ⟨w.heap.size, 3, none⟩ = some (.slice a3 x3.length c3) := by rw [bcell1 hb1 (by simp <;> omega)]; simp [go_sem]
        have e0 : w1.cell? ⟨w.heap.size + 1, 0, none⟩ = some (.slice b0 y0.length d0) := by rw [bcell1 hb1 (by simp <;> omega)]; simp [go_sem]
        have e1 : w1.cell? ⟨w.heap.size + 1, 1, none⟩ = some (.slice b1 y1.length d1) := by rw [bcell1 hb1 (by simp <;> omega)]; simp [go_sem]
        have HB1 := Lib.hid (HB0.out.trans (hb1.mono (by simp <;> omega)))
        clear hb1
        go_wp2_with fail
        refine (HCF.out w1 HB1.out).mono ?_
        rintro e w2 ⟨rfl, rfl⟩
        go_wp2
        go_ret
        exact ⟨rfl, HB1.out⟩
    · have hlb : ((cs.length : Int) != (x3.length : Int)) = true := by simp; omega
      have HR : Hid (passCodeS x0 x1 x2 x3 y0 y1 cs = 2) := Lib.hid (by
        have : ((cs.length : Int) == (x3.length : Int)) = false := by simp; omega
        simp [passCodeS, hcode, bag6, this])
      rw [HR.out]
      clear hcode hl
      go_enter Try.func21, Try.ntmps21
      go_wp2_with fail
      refine HC.out.mono ?_
      rintro e w1 ⟨rfl, hb1⟩
      have f0 : w1.cell? ⟨w.heap.size, 0, none⟩ = some (.int .i64 x0) := by rw [bcell1 hb1 (by simp <;> omega)]; simp [go_sem]
      have f1 : w1.cell? ⟨w.heap.size, 1, none⟩ = some (.slice a1 x1.length c1) := by rw [bcell1 hb1 (by simp <;> omega)]; simp [go_sem]
      have f2 : w1.cell? ⟨w.heap.size, 2, none⟩ = some (.slice a2 x2.length c2) := by rw [bcell1 hb1 (by simp <;> omega)]; simp [go_sem]
      have f3 : w1.cell? ⟨w.heap.size, 3, none⟩ = some (.slice a3 x3.length c3) := by rw [bcell1 hb1 (by simp <;> omega)]; simp [go_sem]
      have e0 : w1.cell? ⟨w.heap.size + 1, 0, none⟩ = some (.slice b0 y0.length d0) := by rw [bcell1 hb1 (by simp <;> omega)]; simp [go_sem]
      have e1 : w1.cell? ⟨w.heap.size + 1, 1, none⟩ = some (.slice b1 y1.length d1) := by rw [bcell1 hb1 (by simp <;> omega)]; simp [go_sem]
      have HB1 := Lib.hid (HB0.out.trans (hb1.mono (by simp <;> omega)))
      clear hb1
      go_wp2
      go_ret
      exact ⟨rfl, HB1.out⟩
  · have HR : Hid (passCodeS x0 x1 x2 x3 y0 y1 cs = stCode x0 x1 x2 x3 y0 y1) := Lib.hid (by simp [passCodeS, hcode])
    have hc1' : (stCode x0 x1 x2 x3 y0 y1 == 0) = false := by simpa using hcode
    rw [HR.out]
    clear hcode
    go_enter Try.func21, Try.ntmps21
    go_wp2_with fail
    refine HC.out.mono ?_
    rintro e w1 ⟨rfl, hb1⟩
    have HB1 := Lib.hid (HB0.out.trans (hb1.mono (by simp <;> omega)))
    clear hb1
    go_wp2
    go_ret
    exact ⟨rfl, HB1.out⟩
set_option maxHeartbeats 2000000 in
theorem implPassFits_c (x0 : Int) (x1 : List Int) (x2 : List Bool) (x3 : List PR) (y0 : List (List Int)) (y1 : List Int) (a1 a2 a3 b0 b1 : Option Addr) (c1 c2 c3 d0 d1 : Nat) (w : World) (h1 : SlI Any w a1 x1) (hc1 : x1.length ≤ c1) (h2 : SlB Any w a2 x2) (h3 : Rd Any w (dPR x3) (.slice a3 x3.length c3)) (k0 : SlII Any w b0 y0) (k1 : SlI Any w b1 y1) (cs : List Int) (bc : Option Addr) (cc : Nat) (kc : SlI Any w bc cs) :
    Calls Try.prog 7 #[.agg #[.int .i64 x0, .slice a1 x1.length c1, .slice a2 x2.length c2, .slice a3 x3.length c3], .agg #[.slice b0 y0.length d0, .slice b1 y1.length d1], .slice bc cs.length cc] w (RetV w (.tuple #[.bool (passFitsS x0 x1 x2 x3 y0 y1 cs).1, .int .i64 (passFitsS x0 x1 x2 x3 y0 y1 cs).2])) := by
  have hb0 : Below w.heap.size w ((w.alloc (.cells #[.int .i64 x0, .slice a1 x1.length c1, .slice a2 x2.length c2, .slice a3 x3.length c3] 28)).alloc (.cells #[.slice b0 y0.length d0, .slice b1 y1.length d1] 31)) := ((Below.refl _ _).alloc (Nat.le_refl _) _).alloc (by simp) _
  have HC := Lib.hid (passCode_c x0 x1 x2 x3 y0 y1 a1 a2 a3 b0 b1 c1 c2 c3 d0 d1 ((w.alloc (.cells #[.int .i64 x0, .slice a1 x1.length c1, .slice a2 x2.length c2, .slice a3 x3.length c3] 28)).alloc (.cells #[.slice b0 y0.length d0, .slice b1 y1.length d1] 31)) (h1.below hb0) hc1 (h2.below hb0) (h3.below hb0) (k0.below hb0) (k1.below hb0) cs bc cc (kc.below hb0))
  have HB0 := Lib.hid hb0
  clear hb0
  by_cases hcode : passCodeS x0 x1 x2 x3 y0 y1 cs = 0
  · have hok := passCode_ok hcode
    obtain ⟨K, hxK, hps, hst⟩ := stockAll_ok (stCode_ok hok.1)
    have hcs := bag6_ok hok.2
    have ev : passFitsS x0 x1 x2 x3 y0 y1 cs = (fitsB x1 x2 x3 (bagsS y0 y1) cs, 0) := by simp [passFitsS, hcode]
    have HF := Lib.hid (fun wx (h : Below w.heap.size w wx) => fits_c x0 x1 x2 x3 y0 y1 a1 a2 a3 b0 b1 c1 c2 c3 d0 d1 wx (h1.below h) (h2.below h) (h3.below h) (k0.below h) (k1.below h) cs bc cc (kc.below h) K hps hst hcs.1 (fun j => by have := hcs.2 j; omega))
    rw [ev]
    rw [hcode] at HC
    clear ev hcode hok hps hst hcs h1 h2 h3 k0 k1 kc hxK
    go_enter Try.func7, Try.ntmps7
    go_wp2_with fail
    refine HC.out.mono ?_
    rintro e w1 ⟨rfl, hb1⟩
    have f0 : w1.cell? ⟨w.heap.size, 0, none⟩ = some (.int .i64 x0) := by rw [bcell1 hb1 (by simp <;> omega)]; simp [go_sem]
    have f1 : w1.cell? ⟨w.heap.size, 1, none⟩ = some (.slice a1 x1.length c1) := by rw [bcell1 hb1 (by simp <;> omega)]; simp [go_sem]
    have f2 : w1.cell? ⟨w.heap.size, 2, none⟩ = some (.slice a2 x2.length c2) := by rw [bcell1 hb1 (by simp <;> omega)]; simp [go_sem]
    have f3 : w1.cell? ⟨w.heap.size, 3, none⟩ = some (.slice a3 x3.length c3) := by rw [bcell1 hb1 (by simp <;> omega)]; simp [go_sem]
    have e0 : w1.cell? ⟨w.heap.size + 1, 0, none⟩ = some (.slice b0 y0.length d0) := by rw [bcell1 hb1 (by simp <;> omega)]; simp [go_sem]
    have e1 : w1.cell? ⟨w.heap.size + 1, 1, none⟩ = some (.slice b1 y1.length d1) := by rw [bcell1 hb1 (by simp <;> omega)]; simp [go_sem]
    have HB1 := Lib.hid (HB0.out.trans (hb1.mono (by simp <;> omega)))
    clear hb1
    go_wp2_with fail
    refine (HF.out w1 HB1.out).mono ?_
    rintro e w2 ⟨rfl, hb2⟩
    have HB2 := Lib.hid (bnext HB1.out hb2 (Nat.le_refl _))
    clear hb2
    go_wp2
    go_ret2
    exact ⟨rfl, HB2.out⟩
  · have ev : passFitsS x0 x1 x2 x3 y0 y1 cs = (false, passCodeS x0 x1 x2 x3 y0 y1 cs) := by simp [passFitsS, hcode]
    have hc1' : (passCodeS x0 x1 x2 x3 y0 y1 cs != 0) = true := by simpa using hcode
    rw [ev]
    clear ev hcode h1 h2 h3 k0 k1 kc
    go_enter Try.func7, Try.ntmps7
    go_wp2_with fail
    refine HC.out.mono ?_
    rintro e w1 ⟨rfl, hb1⟩
    have HB1 := Lib.hid (HB0.out.trans (hb1.mono (by simp <;> omega)))
    clear hb1
    go_wp2
    go_ret2
    exact ⟨rfl, HB1.out⟩
set_option maxHeartbeats 4000000 in
set_option maxRecDepth 100000 in
theorem implCanPass_c (x0 : Int) (x1 : List Int) (x2 : List Bool) (x3 : List PR) (y0 : List (List Int)) (y1 : List Int) (a1 a2 a3 b0 b1 : Option Addr) (c1 c2 c3 d0 d1 : Nat) (k : Int) (w : World) (h1 : SlI Any w a1 x1) (hc1 : x1.length ≤ c1) (h2 : SlB Any w a2 x2) (h3 : Rd Any w (dPR x3) (.slice a3 x3.length c3)) (k0 : SlII Any w b0 y0) (k1 : SlI Any w b1 y1) :
    Calls Try.prog 14 #[.agg #[.int .i64 x0, .slice a1 x1.length c1, .slice a2 x2.length c2, .slice a3 x3.length c3], .agg #[.slice b0 y0.length d0, .slice b1 y1.length d1], .int .i64 k] w (RetV w (.tuple #[.bool (canPassS x0 x1 x2 x3 y0 y1 k).1, .int .i64 (canPassS x0 x1 x2 x3 y0 y1 k).2])) := by
  have hb0 : Below w.heap.size w ((w.alloc (.cells #[.int .i64 x0, .slice a1 x1.length c1, .slice a2 x2.length c2, .slice a3 x3.length c3] 28)).alloc (.cells #[.slice b0 y0.length d0, .slice b1 y1.length d1] 31)) := ((Below.refl _ _).alloc (Nat.le_refl _) _).alloc (by simp) _
  have HC := Lib.hid (stockCode_c x0 x1 x2 x3 y0 y1 a1 a2 a3 b0 b1 c1 c2 c3 d0 d1 ((w.alloc (.cells #[.int .i64 x0, .slice a1 x1.length c1, .slice a2 x2.length c2, .slice a3 x3.length c3] 28)).alloc (.cells #[.slice b0 y0.length d0, .slice b1 y1.length d1] 31)) (h1.below hb0) hc1 (h2.below hb0) (h3.below hb0) (k0.below hb0) (k1.below hb0))
  have HB0 := Lib.hid hb0
  have h3' := h3
  obtain ⟨_, _, e3, k3⟩ := Rd_PR h3'
  cases e3
  have l3 := k3.len
  clear hb0 h3' k3
  by_cases hcode : stCode x0 x1 x2 x3 y0 y1 = 0
  · obtain ⟨K, hxK, hps, hst⟩ := stockAll_ok (stCode_ok hcode)
    have h8 := hps.r8
    have hw64 : IntKind.i64.wrap ((x3.length : Int) - 1) = (x3.length : Int) - 1 := by rw [wrap_64]; unfold wrap64; omega
    rw [hcode] at HC
    cases hin : inRg k 0 ((x3.length : Int) - 1)
    · have ev : canPassS x0 x1 x2 x3 y0 y1 k = (false, 2) := by simp [canPassS, hcode, hin]
      rw [ev]
      clear ev hcode hps hst h1 h2 h3 k0 k1 hxK
      go_enter Try.func14, Try.ntmps14
      go_wp2_with fail
      refine HC.out.mono ?_
      rintro e w1 ⟨rfl, hb1⟩
      have f0 : w1.cell? ⟨w.heap.size, 0, none⟩ = some (.int .i64 x0) := by rw [bcell1 hb1 (by simp <;> omega)]; simp [go_sem]
      have f1 : w1.cell? ⟨w.heap.size, 1, none⟩ = some (.slice a1 x1.length c1) := by rw [bcell1 hb1 (by simp <;> omega)]; simp [go_sem]
      have f2 : w1.cell? ⟨w.heap.size, 2, none⟩ = some (.slice a2 x2.length c2) := by rw [bcell1 hb1 (by simp <;> omega)]; simp [go_sem]
      have f3 : w1.cell? ⟨w.heap.size, 3, none⟩ = some (.slice a3 x3.length c3) := by rw [bcell1 hb1 (by simp <;> omega)]; simp [go_sem]
      have e0 : w1.cell? ⟨w.heap.size + 1, 0, none⟩ = some (.slice b0 y0.length d0) := by rw [bcell1 hb1 (by simp <;> omega)]; simp [go_sem]
      have e1 : w1.cell? ⟨w.heap.size + 1, 1, none⟩ = some (.slice b1 y1.length d1) := by rw [bcell1 hb1 (by simp <;> omega)]; simp [go_sem]
      have HB1 := Lib.hid (HB0.out.trans (hb1.mono (by simp <;> omega)))
      clear hb1
      go_wp2_with fail
      refine (size_pr_c _ _ _ _ l3).mono ?_
      rintro e w2 ⟨rfl, rfl⟩
      go_wp2_with fail
      refine (inRange_c _ _ _ _).mono ?_
      rintro e w2 ⟨rfl, rfl⟩
      go_wp2
      go_ret2
      exact ⟨rfl, HB1.out⟩
    · have ev : canPassS x0 x1 x2 x3 y0 y1 k = (fitsB x1 x2 x3 (bagsS y0 y1) ((List.replicate x3.length 0).set k.toNat 1), 0) := by simp [canPassS, hcode, hin]
      have hk : 0 ≤ k ∧ k < x3.length := by simp [inRg] at hin; omega
      obtain ⟨L, hL⟩ : ∃ L, L = (List.replicate x3.length (0 : Int)).set k.toNat 1 := ⟨_, rfl⟩
      have hLl : L.length = x3.length := by rw [hL]; simp
      have hLb : ∀ j, 0 ≤ nth L j ∧ nth L j ≤ 1001 := fun j => by rw [hL]; exact one_ok j
      have HF := Lib.hid (fun wx b c (h : Below w.heap.size w wx) (kc : SlI Any wx b L) => fits_c x0 x1 x2 x3 y0 y1 a1 a2 a3 b0 b1 c1 c2 c3 d0 d1 wx (h1.below h) (h2.below h) (h3.below h) (k0.below h) (k1.below h) L b c kc K hps hst hLl hLb)
      rw [hLl] at HF
      rw [ev, ← hL]
      have HL := Lib.hid hL
      have HLL := Lib.hid hLl
      clear ev hcode hps hst h1 h2 h3 k0 k1 hxK hL hLl hLb
      go_enter Try.func14, Try.ntmps14
      go_wp2_with fail
      refine HC.out.mono ?_
      rintro e w1 ⟨rfl, hb1⟩
      have f0 : w1.cell? ⟨w.heap.size, 0, none⟩ = some (.int .i64 x0) := by rw [bcell1 hb1 (by simp <;> omega)]; simp [go_sem]
      have f1 : w1.cell? ⟨w.heap.size, 1, none⟩ = some (.slice a1 x1.length c1) := by rw [bcell1 hb1 (by simp <;> omega)]; simp [go_sem]
      have f2 : w1.cell? ⟨w.heap.size, 2, none⟩ = some (.slice a2 x2.length c2) := by rw [bcell1 hb1 (by simp <;> omega)]; simp [go_sem]
      have f3 : w1.cell? ⟨w.heap.size, 3, none⟩ = some (.slice a3 x3.length c3) := by rw [bcell1 hb1 (by simp <;> omega)]; simp [go_sem]
      have e0 : w1.cell? ⟨w.heap.size + 1, 0, none⟩ = some (.slice b0 y0.length d0) := by rw [bcell1 hb1 (by simp <;> omega)]; simp [go_sem]
      have e1 : w1.cell? ⟨w.heap.size + 1, 1, none⟩ = some (.slice b1 y1.length d1) := by rw [bcell1 hb1 (by simp <;> omega)]; simp [go_sem]
      have HB1 := Lib.hid (HB0.out.trans (hb1.mono (by simp <;> omega)))
      have zz : w.heap.size + 1 < w1.heap.size := World.block_lt_of_cell? w1 _ e0
      clear hb1
      go_wp2_with fail
      refine (size_pr_c _ _ _ _ l3).mono ?_
      rintro e w2 ⟨rfl, rfl⟩
      go_wp2_with fail
      refine (inRange_c _ _ _ _).mono ?_
      rintro e w2 ⟨rfl, rfl⟩
      go_wp2_with (refine make_one rfl _ _ 24 rfl tabI rfl (by decide) x3.length x3.length x3.length rfl rfl rfl rfl (by omega) w1.heap.size (Nat.le_refl _) ?_)
      intro w3 hbl hb3 _
      have hrep : ((List.replicate x3.length (0 : Int)).map (Value.int .i64)) = List.replicate x3.length (.int .i64 0) := by simp
      rw [← hrep] at hbl
      have hbs := hbl.set_nth k.toNat 1
      rw [← HL.out] at hbs
      have HB3 := Lib.hid (HB1.out.trans (hb3.mono (by have := HB1.out.size; omega)))
      have hb3s := hb3.setCell (p := ⟨w1.heap.size, k.toNat, none⟩) (Nat.le_refl _) (.int .i64 1)
      have hsl : SlI Any (w3.setCell ⟨w1.heap.size, k.toNat, none⟩ (.int .i64 1)) (some ⟨w1.heap.size, 0, none⟩) L := (SlI.ofBld (c := x3.length) (n := x3.length) hbs (by rw [HLL.out]; exact l3)).any
      have HS := Lib.hid hsl
      have HB4 := Lib.hid (HB1.out.trans (hb3s.mono (by have := HB1.out.size; omega)))
      have z3 := hbl.free k.toNat
      have g3 := hbl.at_nth (i := k.toNat) (by simp; omega)
      have i3 := ix_of (P := Try.prog) tabI.under tabI.size (a := some ⟨w1.heap.size, 0, none⟩) (n := x3.length) (fun _ => ⟨_, 0, rfl⟩) x3.length
      simp only [Nat.mul_one, adr, blk, ofs, Nat.zero_add] at i3
      have i4 := fun w' => i3 k w' hk.1 hk.2
      have hlt3 : ∀ q, w1.heap.size ≠ q → True := fun _ _ => trivial
      have F0 := (bcell1 hb3s (by omega)).trans f0
      have F1 := (bcell1 hb3s (by omega)).trans f1
      have F2 := (bcell1 hb3s (by omega)).trans f2
      have F3 := (bcell1 hb3s (by omega)).trans f3
      have E0 := (bcell1 hb3s (by omega)).trans e0
      have E1 := (bcell1 hb3s (by omega)).trans e1
      clear hbl hbs hb3 hb3s hsl hrep i3 hlt3 f0 f1 f2 f3 e0 e1
      go_wp2_with fail
      refine (HF.out _ _ _ HB4.out HS.out).mono ?_
      rintro e w5 ⟨rfl, hb5⟩
      have HB5 := Lib.hid (bnext HB4.out hb5 (Nat.le_refl _))
      clear hb5
      go_wp2
      go_ret2
      exact ⟨rfl, HB5.out⟩
  · have ev : canPassS x0 x1 x2 x3 y0 y1 k = (false, stCode x0 x1 x2 x3 y0 y1) := by simp [canPassS, hcode]
    have hc1' : (stCode x0 x1 x2 x3 y0 y1 == 0) = false := by simpa using hcode
    have hc2' : (stCode x0 x1 x2 x3 y0 y1 != 0) = true := by simpa using hcode
    rw [ev]
    clear ev hcode h1 h2 h3 k0 k1
    go_enter Try.func14, Try.ntmps14
    go_wp2_with fail
    refine HC.out.mono ?_
    rintro e w1 ⟨rfl, hb1⟩
    have HB1 := Lib.hid (HB0.out.trans (hb1.mono (by simp <;> omega)))
    clear hb1
    go_wp2
    go_ret2
    exact ⟨rfl, HB1.out⟩
theorem implPassFits_d (x0 : Int) (x1 : List Int) (x2 : List Bool) (x3 : List PR) (y0 : List (List Int)) (y1 : List Int) (cs : List Int) {v1 v2 v3 u0 u1 uc : Value} {F1 F2 F3 G0 G1 Gc : List Nat} (w : World) (h1 : Ow w (dI x1) v1 F1) (h2 : Ow w (dB x2) v2 F2) (h3 : Ow w (dPR x3) v3 F3) (k0 : Ow w (dII y0) u0 G0) (k1 : Ow w (dI y1) u1 G1) (kc : Ow w (dI cs) uc Gc) :
    Calls Try.prog 7 #[.agg #[.int .i64 x0, v1, v2, v3], .agg #[u0, u1], uc] w (RetV w (.tuple #[.bool (passFitsS x0 x1 x2 x3 y0 y1 cs).1, .int .i64 (passFitsS x0 x1 x2 x3 y0 y1 cs).2])) := by
  obtain ⟨a1, c1, rfl, hc, k1'⟩ := h1.capI
  obtain ⟨a2, c2, rfl, k2'⟩ := Rd_B.1 h2.rdA
  have h3' := h3.rdA
  obtain ⟨a3, c3, rfl, _⟩ := Rd_PR h3'
  obtain ⟨b0, d0, rfl, j3⟩ := Rd_II.1 k0.rdA
  obtain ⟨b1, d1, rfl, j4⟩ := Rd_I.1 k1.rdA
  obtain ⟨bc, cc, rfl, j5⟩ := Rd_I.1 kc.rdA
  exact implPassFits_c x0 x1 x2 x3 y0 y1 a1 a2 a3 b0 b1 c1 c2 c3 d0 d1 w k1' hc k2' h3' j3 j4 cs bc cc j5
theorem specPassFits_d (x0 : Int) (x1 : List Int) (x2 : List Bool) (x3 : List PR) (y0 : List (List Int)) (y1 : List Int) (cs : List Int) {v1 v2 v3 u0 u1 uc : Value} (w : World) (h1 : Rd Any w (dI x1) v1) (h2 : Rd Any w (dB x2) v2) (h3 : Rd Any w (dPR x3) v3) (k0 : Rd Any w (dII y0) u0) (k1 : Rd Any w (dI y1) u1) (kc : Rd Any w (dI cs) uc) :
    Calls Try.prog 8 #[.agg #[.int .i64 x0, v1, v2, v3], .agg #[u0, u1], uc] w (RetV w (.tuple #[.bool (passFitsS x0 x1 x2 x3 y0 y1 cs).1, .int .i64 (passFitsS x0 x1 x2 x3 y0 y1 cs).2])) := by
  obtain ⟨a1, c1, rfl, k1'⟩ := Rd_I.1 h1
  obtain ⟨a2, c2, rfl, k2'⟩ := Rd_B.1 h2
  have h3' := h3
  obtain ⟨a3, c3, rfl, _⟩ := Rd_PR h3'
  obtain ⟨b0, d0, rfl, j3⟩ := Rd_II.1 k0
  obtain ⟨b1, d1, rfl, j4⟩ := Rd_I.1 k1
  obtain ⟨bc, cc, rfl, j5⟩ := Rd_I.1 kc
  exact specPassFits_c x0 x1 x2 x3 y0 y1 a1 a2 a3 b0 b1 c1 c2 c3 d0 d1 w k1' k2' h3' j3 j4 cs bc cc j5
theorem implCanPass_d (x0 : Int) (x1 : List Int) (x2 : List Bool) (x3 : List PR) (y0 : List (List Int)) (y1 : List Int) (k : Int) {v1 v2 v3 u0 u1 : Value} {F1 F2 F3 G0 G1 : List Nat} (w : World) (h1 : Ow w (dI x1) v1 F1) (h2 : Ow w (dB x2) v2 F2) (h3 : Ow w (dPR x3) v3 F3) (k0 : Ow w (dII y0) u0 G0) (k1 : Ow w (dI y1) u1 G1)  :
    Calls Try.prog 14 #[.agg #[.int .i64 x0, v1, v2, v3], .agg #[u0, u1], .int .i64 k] w (RetV w (.tuple #[.bool (canPassS x0 x1 x2 x3 y0 y1 k).1, .int .i64 (canPassS x0 x1 x2 x3 y0 y1 k).2])) := by
  obtain ⟨a1, c1, rfl, hc, k1'⟩ := h1.capI
  obtain ⟨a2, c2, rfl, k2'⟩ := Rd_B.1 h2.rdA
  have h3' := h3.rdA
  obtain ⟨a3, c3, rfl, _⟩ := Rd_PR h3'
  obtain ⟨b0, d0, rfl, j3⟩ := Rd_II.1 k0.rdA
  obtain ⟨b1, d1, rfl, j4⟩ := Rd_I.1 k1.rdA
  exact implCanPass_c x0 x1 x2 x3 y0 y1 a1 a2 a3 b0 b1 c1 c2 c3 d0 d1 k w k1' hc k2' h3' j3 j4
end Go.Proofs.Ytkjmehpehopncaa

/- Choices of passing systems: the program's functions. Written by mkch.py. -/
namespace Go.Proofs.Ytkjmehpehopncaa
open Go.RowKit

/-- Which cells are busy by the first k rules. -/
def bsyL (x3 : List PR) (cs : List Int) (mode : Int) (n k : Nat) : List Bool := (List.range n).map fun (c : Nat) => busyTo x3 cs mode (c : Int) k
theorem bsyL_zero (x3 : List PR) (cs : List Int) (mode : Int) (n : Nat) : (bsyL x3 cs mode n 0).map Value.bool = List.replicate n (.bool false) := by
  simp [bsyL, busyTo, List.map_const']
theorem bsyL_at {x3 : List PR} {cs : List Int} {mode : Int} {n k c : Nat} (h : c < n) : ((bsyL x3 cs mode n k).map Value.bool)[c]? = some (.bool (busyTo x3 cs mode (c : Int) k)) := by
  simp [bsyL, h]
theorem bsyL_set {x3 : List PR} {cs : List Int} {mode : Int} {n k c : Nat} {b : Bool} (hc : (nthPR x3 k).cell = c) (hb : b = busyTo x3 cs mode (c : Int) (k + 1)) : ((bsyL x3 cs mode n k).map Value.bool).set c (.bool b) = (bsyL x3 cs mode n (k + 1)).map Value.bool := by
  apply List.ext_getElem?
  intro j
  rw [List.getElem?_set]
  by_cases e : c = j
  · subst e
    by_cases hn : c < n
    · simp [bsyL, hn, hb]
    · simp [bsyL, hn]
  · rw [if_neg e]
    have e2 : ¬ (c : Int) = j := by omega
    by_cases hn : j < n
    · simp [bsyL, hn, busyTo, hc, e2]
    · simp [bsyL, hn]

set_option maxHeartbeats 2000000 in
set_option maxRecDepth 100000 in
theorem canAdd_c (x0 : Int) (x1 : List Int) (x2 : List Bool) (x3 : List PR) (y0 : List (List Int)) (y1 : List Int) (a1 a2 a3 b0 b1 : Option Addr) (c1 c2 c3 d0 d1 : Nat) (w : World) (h1 : SlI Any w a1 x1) (h2 : SlB Any w a2 x2) (h3 : Rd Any w (dPR x3) (.slice a3 x3.length c3)) (k0 : SlII Any w b0 y0) (k1 : SlI Any w b1 y1) (cs : List Int) (bc : Option Addr) (cc : Nat) (kc : SlI Any w bc cs) (K0 : Nat) (hps : PsOk K0 x1 x2 x3) (hst : StOk K0 x1.length y0 y1) (hcl : cs.length = x3.length) (hcb : ∀ j, 0 ≤ nth cs j ∧ nth cs j ≤ 1000) (k : Nat) (hk : k < x3.length) :
    Calls Try.prog 54 #[.agg #[.int .i64 x0, .slice a1 x1.length c1, .slice a2 x2.length c2, .slice a3 x3.length c3], .agg #[.slice b0 y0.length d0, .slice b1 y1.length d1], .slice bc cs.length cc, .int .i64 k] w (RetV w (.bool (roomS x1 x2 x3 (bagsS y0 y1) cs k))) := by
  have hb0 : Below w.heap.size w ((w.alloc (.cells #[.int .i64 x0, .slice a1 x1.length c1, .slice a2 x2.length c2, .slice a3 x3.length c3] 28)).alloc (.cells #[.slice b0 y0.length d0, .slice b1 y1.length d1] 31)) := ((Below.refl _ _).alloc (Nat.le_refl _) _).alloc (by simp) _
  obtain ⟨_, g0, o0, rfl⟩ := kc.ptr (by omega)
  have lc := kc.len
  unfold maxLen at lc
  have h8 := hps.r8
  have HF := Lib.hid (fun (wx : World) (hb : Below w.heap.size w wx) (bx : Option Addr) (cx : Nat) (kx : SlI Any wx bx (cs.set k (nth cs k + 1))) => fits_c x0 x1 x2 x3 y0 y1 a1 a2 a3 b0 b1 c1 c2 c3 d0 d1 wx (h1.below hb) (h2.below hb) (h3.below hb) (k0.below hb) (k1.below hb) (cs.set k (nth cs k + 1)) bx cx kx K0 hps hst (by simpa using hcl) (fun j => by
    rw [nth_set (by omega)]
    have := hcb j
    have := hcb k
    split <;> omega))
  have HC := Lib.hid (cloneB_c Any ⟨g0, o0, none⟩ cc cs ((w.alloc (.cells #[.int .i64 x0, .slice a1 x1.length c1, .slice a2 x2.length c2, .slice a3 x3.length c3] 28)).alloc (.cells #[.slice b0 y0.length d0, .slice b1 y1.length d1] 31)) (kc.below hb0) (by omega))
  have HB0 := Lib.hid hb0
  have hkb := hcb k
  have hkc : k < cs.length := by omega
  have lc8 : cs.length ≤ 8 := by omega
  have HCLN := Lib.hid hcl
  clear hb0 h1 h2 h3 k0 k1 kc hps hst hcb hcl
  go_enter Try.func54, Try.ntmps54
  go_wp2_with fail
  refine HC.out.mono ?_
  rintro e w1 ⟨v, rfl, hb1, hbl⟩
  obtain ⟨g, c, rfl⟩ := hbl.ptr (by simp; omega)
  simp only [List.length_map] at hbl ⊢
  have g1 := hbl.at_nth (i := k) (by omega)
  have z1 := hbl.free k
  have i1 := ix_of (P := Try.prog) tabI.under tabI.size (a := some ⟨g, 0, none⟩) (n := cs.length) (fun _ => ⟨g, 0, rfl⟩) c
  have hkl : (k : Int) < cs.length := by omega
  have ea : adr (some ⟨g, 0, none⟩) k = ⟨g, k, none⟩ := by simp [adr, blk, ofs]
  rw [← ea] at g1 z1
  have hbase := hbl.base
  have bp : ∀ j, j < 4 → w1.cell? ⟨w.heap.size, j, none⟩ = ((w.alloc (.cells #[.int .i64 x0, .slice a1 x1.length c1, .slice a2 x2.length c2, .slice a3 x3.length c3] 28)).alloc (.cells #[.slice b0 y0.length d0, .slice b1 y1.length d1] 31)).cell? ⟨w.heap.size, j, none⟩ := fun j _ => bcell1 hb1 (by simp <;> omega)
  have bs : ∀ j, j < 2 → w1.cell? ⟨w.heap.size + 1, j, none⟩ = ((w.alloc (.cells #[.int .i64 x0, .slice a1 x1.length c1, .slice a2 x2.length c2, .slice a3 x3.length c3] 28)).alloc (.cells #[.slice b0 y0.length d0, .slice b1 y1.length d1] 31)).cell? ⟨w.heap.size + 1, j, none⟩ := fun j _ => bcell1 hb1 (by simp <;> omega)
  have p0 := (bp 0 (by omega)).trans (show _ = some (.int .i64 x0) by simp [go_sem])
  have p1 := (bp 1 (by omega)).trans (show _ = some (.slice a1 x1.length c1) by simp [go_sem])
  have p2 := (bp 2 (by omega)).trans (show _ = some (.slice a2 x2.length c2) by simp [go_sem])
  have p3 := (bp 3 (by omega)).trans (show _ = some (.slice a3 x3.length c3) by simp [go_sem])
  have q0 := (bs 0 (by omega)).trans (show _ = some (.slice b0 y0.length d0) by simp [go_sem])
  have q1 := (bs 1 (by omega)).trans (show _ = some (.slice b1 y1.length d1) by simp [go_sem])
  have hgs : w.heap.size + 2 ≤ g := by have := hbase.1; simp at this; omega
  obtain ⟨w2, hw2⟩ : ∃ wz, wz = w1.setCell (adr (some ⟨g, 0, none⟩) k) (.int .i64 (nth cs k + 1)) := ⟨_, rfl⟩
  have hb2 : Below g w1 w2 := by rw [hw2, ea]; exact (Below.refl _ _).setCell (by exact Nat.le_refl _) _
  have HB2 : Hid (Below w.heap.size w w2) := Lib.hid (HB0.out.trans ((hb1.mono (by simp; omega)).trans (hb2.mono (by omega))))
  have hbl2 := hbl.set_nth k (nth cs k + 1)
  rw [← ea, ← hw2] at hbl2
  have kx := SlI.ofBld hbl2 (by unfold maxLen; simp; omega)
  have KX : Hid (SlI Any w2 (some ⟨g, 0, none⟩) (cs.set k (nth cs k + 1))) := Lib.hid ⟨kx.len, fun h0 => ⟨trivial, (kx.ptr h0).2⟩, kx.cell⟩
  have HFF := HF.out w2 HB2.out (some ⟨g, 0, none⟩) c KX.out
  rw [List.length_set] at HFF
  have HFH := Lib.hid HFF
  have r0 := (bcell1 hb2 (by omega)).trans p0
  have r1 := (bcell1 hb2 (by omega)).trans p1
  have r2 := (bcell1 hb2 (by omega)).trans p2
  have r3 := (bcell1 hb2 (by omega)).trans p3
  have s0 := (bcell1 hb2 (by omega)).trans q0
  have s1 := (bcell1 hb2 (by omega)).trans q1
  clear hb2 hbl2 HFF hbl hb1 bp bs HF HC hbase kx KX ea
  subst hw2
  go_wp2_with fail
  refine HFH.out.mono ?_
  rintro e w9 ⟨rfl, hb9⟩
  have HB9 := Lib.hid (bnext HB2.out hb9 (Nat.le_refl _))
  clear hb9 HFH
  go_wp2
  go_ret
  exact ⟨rfl, HB9.out⟩
set_option maxHeartbeats 4000000 in
set_option maxRecDepth 100000 in
theorem isChoice_c (x0 : Int) (x1 : List Int) (x2 : List Bool) (x3 : List PR) (y0 : List (List Int)) (y1 : List Int) (a1 a2 a3 b0 b1 : Option Addr) (c1 c2 c3 d0 d1 : Nat) (w : World) (h1 : SlI Any w a1 x1) (h2 : SlB Any w a2 x2) (h3 : Rd Any w (dPR x3) (.slice a3 x3.length c3)) (k0 : SlII Any w b0 y0) (k1 : SlI Any w b1 y1) (cs : List Int) (bc : Option Addr) (cc : Nat) (kc : SlI Any w bc cs) (K0 : Nat) (hps : PsOk K0 x1 x2 x3) (hst : StOk K0 x1.length y0 y1) (hcl : cs.length = x3.length) (hcb : ∀ j, 0 ≤ nth cs j ∧ nth cs j ≤ 1000) (mode : Int) :
    Calls Try.prog 30 #[.agg #[.int .i64 x0, .slice a1 x1.length c1, .slice a2 x2.length c2, .slice a3 x3.length c3], .agg #[.slice b0 y0.length d0, .slice b1 y1.length d1], .slice bc cs.length cc, .int .i64 mode] w (RetV w (.bool (chosenS x1 x2 x3 (bagsS y0 y1) cs mode))) := by
  have hb0 : Below w.heap.size w ((w.alloc (.cells #[.int .i64 x0, .slice a1 x1.length c1, .slice a2 x2.length c2, .slice a3 x3.length c3] 28)).alloc (.cells #[.slice b0 y0.length d0, .slice b1 y1.length d1] 31)) := ((Below.refl _ _).alloc (Nat.le_refl _) _).alloc (by simp) _
  have HC := bagSize_c Any bc cc cs ((w.alloc (.cells #[.int .i64 x0, .slice a1 x1.length c1, .slice a2 x2.length c2, .slice a3 x3.length c3] 28)).alloc (.cells #[.slice b0 y0.length d0, .slice b1 y1.length d1] 31)) (kc.below hb0)
  have HCA := Lib.hid (fun (wx : World) (hb : Below w.heap.size w wx) (k : Nat) (hk : k < x3.length) => canAdd_c x0 x1 x2 x3 y0 y1 a1 a2 a3 b0 b1 c1 c2 c3 d0 d1 wx (h1.below hb) (h2.below hb) (h3.below hb) (k0.below hb) (k1.below hb) cs bc cc (kc.below hb) K0 hps hst hcl hcb k hk)
  obtain ⟨_, _, ex, hxs⟩ := Rd_PR h3
  cases ex
  have i4 := ix_of (P := Try.prog) tabPassRuleSM.under tabPassRuleSM.size hxs.ptr c3
  have ic := kc.ix tabI.under tabI.size cc
  have h8 := hps.r8
  have hp4 := hps.p4
  have hp1 := hps.p1
  have HCELL := Lib.hid hps.cell
  have lc8 : cs.length ≤ 8 := by omega
  obtain ⟨s, hs⟩ : ∃ s, s = sumS cs := ⟨_, rfl⟩
  rw [← hs] at HC
  replace HC := Lib.hid HC
  have hch : chosenS x1 x2 x3 (bagsS y0 y1) cs mode = if (s == 0 || mode == 3) = true then s == 1 else chosenTo x1 x2 x3 (bagsS y0 y1) cs mode x3.length := by rw [hs]; rfl
  rw [hch]
  have HX := Lib.hid hxs
  have HK := Lib.hid kc
  have HCLN := Lib.hid hcl
  have HB0 := Lib.hid hb0
  clear hch hs hxs h1 h2 h3 k0 k1 kc hps hst hcl hcb hb0
  by_cases g1 : s = 0
  · subst g1
    rw [if_pos (by simp)]
    go_enter Try.func30, Try.ntmps30
    go_wp2_with fail
    refine HC.out.mono ?_
    rintro e w9 ⟨rfl, rfl⟩
    go_wp2
    go_ret
    exact ⟨rfl, HB0.out⟩
  by_cases g2 : mode = 3
  · subst g2
    rw [if_pos (by simp)]
    have g1' : (s == 0) = false := by simpa using g1
    clear g1
    go_enter Try.func30, Try.ntmps30
    go_wp2_with fail
    refine HC.out.mono ?_
    rintro e w9 ⟨rfl, rfl⟩
    go_wp2
    go_ret
    exact ⟨rfl, HB0.out⟩
  rw [if_neg (by simp [g1, g2])]
  have g1' : (s == 0) = false := by simpa using g1
  have g2' : (mode == 3) = false := by simpa using g2
  clear g1 g2
  go_enter Try.func30, Try.ntmps30
  go_wp2_with fail
  refine HC.out.mono ?_
  rintro e w9 ⟨rfl, rfl⟩
  clear HC
  obtain ⟨wA, hwA⟩ : ∃ wz, wz = ((w.alloc (.cells #[.int .i64 x0, .slice a1 x1.length c1, .slice a2 x2.length c2, .slice a3 x3.length c3] 28)).alloc (.cells #[.slice b0 y0.length d0, .slice b1 y1.length d1] 31)) := ⟨_, rfl⟩
  have hzA : wA.heap.size = w.heap.size + 2 := by rw [hwA]; simp
  have HBA : Hid (Below w.heap.size w wA) := Lib.hid (by rw [hwA]; exact HB0.out)
  have p0 : wA.cell? ⟨w.heap.size, 0, none⟩ = some (.int .i64 x0) := by rw [hwA]; simp [go_sem]
  have p1 : wA.cell? ⟨w.heap.size, 1, none⟩ = some (.slice a1 x1.length c1) := by rw [hwA]; simp [go_sem]
  have p2 : wA.cell? ⟨w.heap.size, 2, none⟩ = some (.slice a2 x2.length c2) := by rw [hwA]; simp [go_sem]
  have p3 : wA.cell? ⟨w.heap.size, 3, none⟩ = some (.slice a3 x3.length c3) := by rw [hwA]; simp [go_sem]
  have q0 : wA.cell? ⟨w.heap.size + 1, 0, none⟩ = some (.slice b0 y0.length d0) := by rw [hwA]; simp [go_sem]
  have q1 : wA.cell? ⟨w.heap.size + 1, 1, none⟩ = some (.slice b1 y1.length d1) := by rw [hwA]; simp [go_sem]
  rw [← hwA]
  clear hwA HB0
  go_wp2_with (at_make; refine make_one rfl _ _ 25 rfl tabB rfl (by decide) x1.length _ _ rfl rfl rfl rfl (by omega) wA.heap.size (Nat.le_refl _) ?_)
  intro w1 hbl1 hb1 hz1
  try simp only [hzA] at hbl1 hb1 hz1 ⊢
  obtain ⟨G, hG⟩ : ∃ G, G = w.heap.size + 2 := ⟨_, rfl⟩
  rw [← hG] at hbl1 hb1 hz1 ⊢
  have hGl : w.heap.size + 2 ≤ G := by omega
  clear hzA hG
  have i2 := ix_of (P := Try.prog) tabB.under tabB.size (a := some ⟨G, 0, none⟩) (n := x1.length) (fun _ => ⟨G, 0, rfl⟩) x1.length
  simp only [Nat.mul_one, adr, blk, ofs, Nat.zero_add] at i2
  have HL1 : Hid (Bld 4 w1 G (.slice (some ⟨G, 0, none⟩) x1.length x1.length) ((bsyL x3 cs mode x1.length 0).map Value.bool)) := Lib.hid (by rw [bsyL_zero]; exact hbl1)
  have HB1 := Lib.hid hb1
  clear hbl1 hb1
  go_wp2
  go_loopw [11, 12, 31] (fun _ _ i wr => ∃ k : Nat, k ≤ cs.length ∧ i = .int .i64 k ∧ Hid (Below G wA wr) ∧ Hid (Bld 4 wr G (.slice (some ⟨G, 0, none⟩) x1.length x1.length) ((bsyL x3 cs mode x1.length k).map Value.bool))) (fun _ _ i _ => cs.length - (intOf i).toNat)
  case atStart => exact ⟨0, Nat.zero_le _, rfl, HB1, HL1⟩
  case round =>
    obtain ⟨k, hk, rfl, HB, HL⟩ := hrel
    have HBW : Hid (Below w.heap.size w wr) := Lib.hid (HBA.out.trans (HB.out.mono (by omega)))
    have r0 := (bcell1 HB.out (by omega)).trans p0
    have r1 := (bcell1 HB.out (by omega)).trans p1
    have r2 := (bcell1 HB.out (by omega)).trans p2
    have r3 := (bcell1 HB.out (by omega)).trans p3
    have s0 := (bcell1 HB.out (by omega)).trans q0
    have s1 := (bcell1 HB.out (by omega)).trans q1
    by_cases hlt : k < cs.length
    · have hk3 : k < x3.length := by rw [← HCLN.out]; exact hlt
      have gc := (HK.out.below HBW.out).cell k hlt
      have gr := (HBW.out.cell (World.block_lt_of_cell? w _ (HX.out.c0 k hk3))).trans (HX.out.c0 k hk3)
      obtain ⟨hc1, hc2⟩ := HCELL.out k hk3
      obtain ⟨c, hc⟩ : ∃ c : Nat, (nthPR x3 k).cell = c := ⟨(nthPR x3 k).cell.toNat, by omega⟩
      rw [hc] at gr hc2
      have HCC := Lib.hid hc
      clear hc hc1
      have hcn : c < x1.length := by omega
      have gB := HL.out.cell (bsyL_at (x3 := x3) (cs := cs) (mode := mode) (k := k) hcn)
      have zB := HL.out.free c
      have HNX : Hid (∀ b, b = busyTo x3 cs mode (c : Int) (k + 1) → Bld 4 ((wr.setCell ⟨G, c, none⟩ (.bool b)).drew) G (.slice (some ⟨G, 0, none⟩) x1.length x1.length) ((bsyL x3 cs mode x1.length (k + 1)).map Value.bool)) := Lib.hid (fun b hb => by
        rw [← bsyL_set HCC.out hb]
        exact (HL.out.set c (.bool b)).below (Below.refl _ _).drew)
      have HBX : Hid (∀ b, Below G wA ((wr.setCell ⟨G, c, none⟩ (.bool b)).drew)) := Lib.hid (fun b => (HB.out.setCell (by exact Nat.le_refl _) _).drew)
      have HBT : Hid (busyTo x3 cs mode (c : Int) (k + 1) = (busyTo x3 cs mode (c : Int) k || (decide (0 < nth cs k) && mode == 2))) := Lib.hid (by rw [busyTo, HCC.out]; simp)
      cases hb : busyTo x3 cs mode (c : Int) k
      · rw [hb] at gB
        obtain ⟨n, hn⟩ : ∃ n, n = nth cs k := ⟨_, rfl⟩
        rw [← hn] at gc HBT
        clear hn
        cases hd : decide (0 < n)
        · have HV : Hid (false = busyTo x3 cs mode (c : Int) (k + 1)) := Lib.hid (by rw [HBT.out, hb, hd]; rfl)
          clear hb
          go_wp2
          go_region
          all_goals
            clear gB zB r0 r1 r2 r3 s0 s1 gc gr
            go_wp2
            refine ⟨⟨k + 1, by omega, by go_num, Lib.hid (HBX.out _), Lib.hid (HNX.out _ HV.out)⟩, ?_⟩
            simp [intOf]; omega
        · have HV : Hid ((mode == 2) = busyTo x3 cs mode (c : Int) (k + 1)) := Lib.hid (by rw [HBT.out, hb, hd]; simp)
          clear hb
          go_wp2
          go_region
          all_goals
            clear gB zB r0 r1 r2 r3 s0 s1 gc gr
            go_wp2
            refine ⟨⟨k + 1, by omega, by go_num, Lib.hid (HBX.out _), Lib.hid (HNX.out _ HV.out)⟩, ?_⟩
            simp [intOf]; omega
      · rw [hb] at gB
        have HV : Hid (true = busyTo x3 cs mode (c : Int) (k + 1)) := Lib.hid (by rw [HBT.out, hb]; simp)
        clear hb
        go_wp2
        go_region
        all_goals
          clear gB zB r0 r1 r2 r3 s0 s1 gc gr
          go_wp2
          refine ⟨⟨k + 1, by omega, by go_num, Lib.hid (HBX.out _), Lib.hid (HNX.out _ HV.out)⟩, ?_⟩
          simp [intOf]; omega
    · obtain rfl : k = cs.length := by omega
      obtain ⟨w5, e5⟩ : ∃ z, z = wr := ⟨_, rfl⟩
      subst e5
      have hg5 : G < w5.heap.size := HL.out.base.2
      have HGB : Hid (∀ wx, Below w5.heap.size w5 wx → ∀ c : Nat, c < x1.length → wx.cell? ⟨G, c, none⟩ = some (.bool (busyTo x3 cs mode (c : Int) cs.length))) := Lib.hid (fun wx h c hc => (bcell1 h hg5).trans (HL.out.cell (bsyL_at hc)))
      have HP : Hid (∀ wx, Below w5.heap.size w5 wx → Below w.heap.size w wx) := Lib.hid (fun wx h => bnext HBW.out h (Nat.le_refl _))
      have hz5 := HB.out.size
      clear p0 p1 p2 p3 q0 q1
      go_wp2
      go_loopw [13, 14, 65] (fun _ _ i w2 => ∃ q : Nat, q ≤ x3.length ∧ i = .int .i64 q ∧ Hid (chosenTo x1 x2 x3 (bagsS y0 y1) cs mode q = true) ∧ Hid (Below w5.heap.size w5 w2)) (fun _ _ i _ => x3.length - (intOf i).toNat)
      case atStart => exact ⟨0, Nat.zero_le _, rfl, Lib.hid rfl, Lib.hid (Below.refl _ _)⟩
      case round =>
        obtain ⟨q, hq, rfl, HT, HB2⟩ := hrel
        by_cases hlq : q < x3.length
        · have HX5 : Hid (∀ X, Below w5.heap.size w5 (wr.alloc X)) := Lib.hid (fun X => HB2.out.alloc HB2.out.size X)
          have t0 := fun X => (bcell1 (HX5.out X) (by omega)).trans r0
          have t1 := fun X => (bcell1 (HX5.out X) (by omega)).trans r1
          have t2 := fun X => (bcell1 (HX5.out X) (by omega)).trans r2
          have t3 := fun X => (bcell1 (HX5.out X) (by omega)).trans r3
          have v0 := fun X => (bcell1 (HX5.out X) (by omega)).trans s0
          have v1 := fun X => (bcell1 (HX5.out X) (by omega)).trans s1
          have HW := HP.out wr HB2.out
          have gr := (HW.cell (World.block_lt_of_cell? w _ (HX.out.c0 q hlq))).trans (HX.out.c0 q hlq)
          obtain ⟨u1, f1, k1, _⟩ := HX.out.c1 q hlq
          obtain ⟨u2, f2, k2, _⟩ := HX.out.c2 q hlq
          have gr1 := (HW.cell (World.block_lt_of_cell? w _ k1)).trans k1
          have gr2 := (HW.cell (World.block_lt_of_cell? w _ k2)).trans k2
          obtain ⟨hc1, hc2⟩ := HCELL.out q hlq
          obtain ⟨c, hc⟩ : ∃ c : Nat, (nthPR x3 q).cell = c := ⟨(nthPR x3 q).cell.toNat, by omega⟩
          rw [hc] at gr hc2
          have HCC := Lib.hid hc
          have hcn : c < x1.length := by omega
          have gB := fun X => HGB.out (wr.alloc X) (HX5.out X) c hcn
          have HCQ := Lib.hid (fun X => HCA.out (wr.alloc X) (HP.out _ (HX5.out X)) q hlq)
          clear hc hc1 k1 k2 HW
          cases hb : busyTo x3 cs mode (c : Int) cs.length
          · rw [hb] at gB
            have HBF : Hid (busyTo x3 cs mode (nthPR x3 q).cell cs.length = false) := Lib.hid (by rw [HCC.out]; exact hb)
            clear hb
            go_wp2_with fail
            refine (HCQ.out _).mono ?_
            rintro e w7 ⟨rfl, hb7⟩
            have HB7 : Hid (Below w5.heap.size w5 w7) := Lib.hid (bnext (HX5.out _) hb7 (Nat.le_refl _))
            clear hb7
            cases hr : roomS x1 x2 x3 (bagsS y0 y1) cs q
            · have HT2 : Hid (chosenTo x1 x2 x3 (bagsS y0 y1) cs mode (q + 1) = true) := Lib.hid (by rw [chosenTo, HT.out, hr]; simp)
              go_wp2
              first
                | (go_roundw
                   case rel => exact ⟨q + 1, by omega, by go_num, HT2, HB7⟩
                   case measure => simp [intOf]; omega)
                | (refine ⟨⟨q + 1, by omega, by go_num, HT2, HB7⟩, ?_⟩
                   simp [intOf]; omega)
            · have HST : Hid (chosenTo x1 x2 x3 (bagsS y0 y1) cs mode x3.length = false) := Lib.hid (chosen_stop HBF.out hr x3.length hlq)
              go_wp2
              go_ret
              exact ⟨ret_bool HST.out.symm, HP.out _ HB7.out⟩
          · rw [hb] at gB
            have HT2 : Hid (chosenTo x1 x2 x3 (bagsS y0 y1) cs mode (q + 1) = true) := Lib.hid (by rw [chosenTo, HT.out, HCC.out, hb]; simp)
            clear hb
            go_wp2
            first
              | (go_roundw
                 case rel => exact ⟨q + 1, by omega, by go_num, HT2, Lib.hid (HX5.out _)⟩
                 case measure => simp [intOf]; omega)
              | (refine ⟨⟨q + 1, by omega, by go_num, HT2, Lib.hid (HX5.out _)⟩, ?_⟩
                 simp [intOf]; omega)
        · obtain rfl : q = x3.length := by omega
          go_wp2
          go_ret
          exact ⟨ret_bool HT.out.symm, HP.out _ HB2.out⟩
end Go.Proofs.Ytkjmehpehopncaa

/- A region that draws its order: a load may be taken first where only its last operations write the cell. No program is in sight. -/
namespace Go.Proofs.Ytkjmehpehopncaa
open Go.RowKit

section
variable {P : Program} {ops : Array Oper} {Q : Exit → Act → World → Prop} {md : Region.Mode} {S : World → Prop} {E : List Nat}

/-- Whatever order is picked from here on; S holds behind every operation but those in E. -/
def wpC (P : Program) (md : Region.Mode) (ops : Array Oper) (Q : Exit → Act → World → Prop) (S : World → Prop) (E : List Nat) : Nat → Array Bool → Act → World → Prop
  | 0, l, a, w => Region.ready md ops l = [] ∧ Q .normal a w
  | f + 1, l, a, w => (Region.ready md ops l = [] → Q .normal a w) ∧ ∀ i ∈ Region.ready md ops l, wpOp P ops Q i (fun a' w' => (i ∉ E → S w') ∧ wpC P md ops Q S E f (l.setIfInBounds i true) a' w') a w
theorem wpC_any : ∀ (f : Nat) (l : Array Bool) (a : Act) (w : World), wpC P md ops Q S E f l a w → wpAny P md ops Q f l a w
  | 0, _, _, _, h => h
  | f + 1, _, _, _, h => ⟨h.1, fun i hi => wpOp_mono (fun a' w' h' => wpC_any f _ a' w' h'.2) (h.2 i hi)⟩
/-- None of D has come up; each of them waits for i or for another one of D. -/
def blockedB (md : Region.Mode) (ops : Array Oper) (l : Array Bool) (i : Nat) (D : List Nat) : Bool :=
  D.all fun d => !l.getD d false && match ops[d]? with | some o => o.after.any (fun e => Region.binds md e && (e.on == i || D.contains e.on)) | none => true
theorem blocked_not {l : Array Bool} {i : Nat} {D : List Nat} (h : blockedB md ops l i D = true) (hi : l.getD i false = false) {d : Nat} (hd : d ∈ D) : d ∉ Region.ready md ops l := fun hr => by
  obtain ⟨_, o, ho, hall⟩ := mem_ready.1 hr
  have h1 := List.all_eq_true.1 h d hd
  rw [ho] at h1
  simp only [Bool.and_eq_true] at h1
  obtain ⟨e, he, hb⟩ := Array.any_eq_true'.1 h1.2
  simp only [Bool.and_eq_true, Bool.or_eq_true, beq_iff_eq] at hb
  have h2 := hall e he hb.1
  rcases hb.2 with h3 | h3
  · rw [h3, hi] at h2; cases h2
  · have h4 : e.on ∈ D := by simpa using h3
    have h5 := List.all_eq_true.1 h e.on h4
    simp only [Bool.and_eq_true, Bool.not_eq_true'] at h5
    rw [h5.1] at h2; cases h2
theorem blocked_set {l : Array Bool} {i j : Nat} {D : List Nat} (h : blockedB md ops l i D = true) (hj : j ∉ D) : blockedB md ops (l.setIfInBounds j true) i D = true := by
  refine List.all_eq_true.2 fun d hd => ?_
  have h1 := List.all_eq_true.1 h d hd
  rw [getD_set_ne false (show j ≠ d from fun e => hj (by rw [e]; exact hd))]
  exact h1
theorem ready_un {l : Array Bool} {i : Nat} (h : i ∈ Region.ready md ops l) : l.getD i false = false := by
  have h0 := (mem_ready.1 h).1
  rcases Nat.lt_or_ge i l.size with h' | h'
  · simp [h'] at h0 ⊢; exact h0
  · simp [Array.getElem?_eq_none h'] at h0
theorem wpC_first {i : Nat} {oi : Oper} {v : Value} {D : List Nat} (hi : ops[i]? = some oi) (hsel : ∀ (j : Nat) (o : Oper) cs b, ops[j]? = some o → o.op ≠ .select cs b)
    (hQ : ∀ c a w, Q (.panic c) (a.put oi.dst v) w → Q (.panic c) a w) (hE : ∀ e, e ∈ E → e ∈ D) :
    ∀ (f : Nat) (l : Array Bool) (a : Act) (w : World),
      (∀ j oj, ops[j]? = some oj → j ≠ i → l.getD j true = false → (∀ e ∈ oj.after, Region.binds md e = true → e.on ≠ i) → oi.apart ops oj = true) →
      i ∈ Region.ready md ops l → blockedB md ops l i D = true → YieldsIf P ops S oi v a → S w →
      wpC P md ops Q S E f (l.setIfInBounds i true) (a.put oi.dst v) w → wpC P md ops Q S E (f + 1) l a w := by
  intro f
  induction f with
  | zero =>
    intro l a w _ hr _ hy hS H
    refine ⟨fun h => (by rw [h] at hr; cases hr), fun j hj => ?_⟩
    by_cases e : j = i
    · subst e; exact hy.wpOp hi hS ⟨fun _ => hS, H⟩
    · have h9 := ready_mono hj e
      rw [H.1] at h9
      cases h9
  | succ f ih =>
    intro l a w hfree hr hB hy hS H
    refine ⟨fun h => (by rw [h] at hr; cases hr), fun j hj => ?_⟩
    by_cases e : j = i
    · subst e; exact hy.wpOp hi hS ⟨fun _ => hS, H⟩
    · have hun := ready_un hr
      have hjD : j ∉ D := fun h => blocked_not hB hun h hj
      have hjE : j ∉ E := fun h => hjD (hE j h)
      obtain ⟨hju, oj, hoj, hall⟩ := mem_ready.1 hj
      have hno : ∀ x ∈ oj.after, Region.binds md x = true → x.on ≠ i := fun x hx hb hxi => by
        have h1 := hall x hx hb
        rw [hxi, hun] at h1
        cases h1
      have h1 := H.2 j (ready_mono hj e)
      have h2 := wpOp_putIf hoj (hfree j oj hoj e hju hno) (fun cs b => hsel i oi cs b hi) (fun cs b => hsel j oj cs b hoj) hQ hy h1
      refine wpOp_mono (fun a' w' h3 => ⟨h3.2.1, ih (l.setIfInBounds j true) a' w' (fun k ok hk hki hku hkn => hfree k ok hk hki ?_ hkn) (ready_mono hr (Ne.symm e)) (blocked_set hB hjD) h3.1 (h3.2.1 hjE) ?_⟩) h2
      · by_cases hjk : j = k
        · subst hjk; exact hju
        · rw [getD_set_ne true hjk] at hku; exact hku
      · rw [Array.setIfInBounds_comm _ _ e]
        exact h3.2.2
/-- Number i is taken first. -/
theorem wpC_take {i : Nat} {oi : Oper} {v : Value} {f : Nat} {l l' : Array Bool} {a : Act} {w : World} (D : List Nat) (hi : ops[i]? = some oi) (hs : Region.noSelect ops = true) (hf : Region.free md ops l i = true) (hr : (Region.ready md ops l).contains i = true) (hB : blockedB md ops l i D = true) (hE : E.all D.contains = true)
    (hl : l.setIfInBounds i true = l') (hQ : ∀ c a w, Q (.panic c) (a.put oi.dst v) w → Q (.panic c) a w) (hw : Region.wanted oi (yielded ops a.tmps) = true) (hy : ∀ w', S w' → (execOp a.eval oi).run P w' = .ok (.value v) w') (hS : S w)
    (h : wpC P md ops Q S E f l' (a.put oi.dst v) w) : wpC P md ops Q S E (f + 1) l a w := by
  subst hl
  exact wpC_first hi (Region.noSelect_spec hs) hQ (fun e he => by have := List.all_eq_true.1 hE e he; simpa using this) f l a w (Region.free_spec hi hf) (by simpa using hr) hB (.inl ⟨hw, hy⟩) hS h
/-- Number i alone can come up. -/
theorem wpC_one {i : Nat} {o : Oper} {f : Nat} {l l' : Array Bool} {a : Act} {w : World} (hr : Region.ready md ops l = [i]) (ho : ops[i]? = some o) (hl : l.setIfInBounds i true = l') (hw : Region.wanted o (yielded ops a.tmps) = true)
    (h : ∀ K : Act → World → Prop, (∀ a' w', (i ∉ E → S w') → wpC P md ops Q S E f l' a' w' → K a' w') → if Region.wanted o (yielded ops a.tmps) = true then Oper.wp P o a w K Q else False) : wpC P md ops Q S E (f + 1) l a w := by
  subst hl
  refine ⟨fun h0 => (by rw [hr] at h0; cases h0), fun j hj => ?_⟩
  rw [hr] at hj
  have e : j = i := by simpa using hj
  subst e
  have h1 := h (fun a' w' => (j ∉ E → S w') ∧ wpC P md ops Q S E f (l.setIfInBounds j true) a' w') (fun a' w' h2 h3 => ⟨h2, h3⟩)
  rw [if_pos hw] at h1
  unfold wpOp
  simp only [ho, hw, if_true]
  exact .inl h1
/-- Two can come up. -/
theorem wpC_two {i j : Nat} {o p : Oper} {f : Nat} {l l' l'' : Array Bool} {a : Act} {w : World} (hr : Region.ready md ops l = [i, j]) (ho : ops[i]? = some o) (hp : ops[j]? = some p) (hl : l.setIfInBounds i true = l') (hl2 : l.setIfInBounds j true = l'') (hw : Region.wanted o (yielded ops a.tmps) = true) (hw2 : Region.wanted p (yielded ops a.tmps) = true)
    (h : ∀ K : Act → World → Prop, (∀ a' w', (i ∉ E → S w') → wpC P md ops Q S E f l' a' w' → K a' w') → if Region.wanted o (yielded ops a.tmps) = true then Oper.wp P o a w K Q else False)
    (h2 : ∀ K : Act → World → Prop, (∀ a' w', (j ∉ E → S w') → wpC P md ops Q S E f l'' a' w' → K a' w') → if Region.wanted p (yielded ops a.tmps) = true then Oper.wp P p a w K Q else False) : wpC P md ops Q S E (f + 1) l a w := by
  subst hl
  subst hl2
  refine ⟨fun h0 => (by rw [hr] at h0; cases h0), fun k hk => ?_⟩
  rw [hr] at hk
  have e : k = i ∨ k = j := by simpa using hk
  rcases e with e | e
  · subst e
    have h1 := h (fun a' w' => (k ∉ E → S w') ∧ wpC P md ops Q S E f (l.setIfInBounds k true) a' w') (fun a' w' h2 h3 => ⟨h2, h3⟩)
    rw [if_pos hw] at h1
    unfold wpOp
    simp only [ho, hw, if_true]
    exact .inl h1
  · subst e
    have h1 := h2 (fun a' w' => (k ∉ E → S w') ∧ wpC P md ops Q S E f (l.setIfInBounds k true) a' w') (fun a' w' h2 h3 => ⟨h2, h3⟩)
    rw [if_pos hw2] at h1
    unfold wpOp
    simp only [hp, hw2, if_true]
    exact .inl h1
/-- Three can come up. -/
theorem wpC_three {i j m : Nat} {o p q : Oper} {f : Nat} {l l1 l2 l3 : Array Bool} {a : Act} {w : World} (hr : Region.ready md ops l = [i, j, m]) (ho : ops[i]? = some o) (hp : ops[j]? = some p) (hq : ops[m]? = some q) (e1 : l.setIfInBounds i true = l1) (e2 : l.setIfInBounds j true = l2) (e3 : l.setIfInBounds m true = l3)
    (hw : Region.wanted o (yielded ops a.tmps) = true) (hw2 : Region.wanted p (yielded ops a.tmps) = true) (hw3 : Region.wanted q (yielded ops a.tmps) = true)
    (h : ∀ K : Act → World → Prop, (∀ a' w', (i ∉ E → S w') → wpC P md ops Q S E f l1 a' w' → K a' w') → if Region.wanted o (yielded ops a.tmps) = true then Oper.wp P o a w K Q else False)
    (h2 : ∀ K : Act → World → Prop, (∀ a' w', (j ∉ E → S w') → wpC P md ops Q S E f l2 a' w' → K a' w') → if Region.wanted p (yielded ops a.tmps) = true then Oper.wp P p a w K Q else False)
    (h3 : ∀ K : Act → World → Prop, (∀ a' w', (m ∉ E → S w') → wpC P md ops Q S E f l3 a' w' → K a' w') → if Region.wanted q (yielded ops a.tmps) = true then Oper.wp P q a w K Q else False) : wpC P md ops Q S E (f + 1) l a w := by
  subst e1
  subst e2
  subst e3
  refine ⟨fun h0 => (by rw [hr] at h0; cases h0), fun k hk => ?_⟩
  rw [hr] at hk
  have e : k = i ∨ k = j ∨ k = m := by simpa using hk
  rcases e with e | e | e
  · subst e
    have h1 := h (fun a' w' => (k ∉ E → S w') ∧ wpC P md ops Q S E f (l.setIfInBounds k true) a' w') (fun a' w' h2 h3 => ⟨h2, h3⟩)
    rw [if_pos hw] at h1
    unfold wpOp
    simp only [ho, hw, if_true]
    exact .inl h1
  · subst e
    have h1 := h2 (fun a' w' => (k ∉ E → S w') ∧ wpC P md ops Q S E f (l.setIfInBounds k true) a' w') (fun a' w' h2 h3 => ⟨h2, h3⟩)
    rw [if_pos hw2] at h1
    unfold wpOp
    simp only [hp, hw2, if_true]
    exact .inl h1
  · subst e
    have h1 := h3 (fun a' w' => (k ∉ E → S w') ∧ wpC P md ops Q S E f (l.setIfInBounds k true) a' w') (fun a' w' h2 h3 => ⟨h2, h3⟩)
    rw [if_pos hw3] at h1
    unfold wpOp
    simp only [hq, hw3, if_true]
    exact .inl h1
theorem wpC_done {l : Array Bool} {a : Act} {w : World} (hr : Region.ready md ops l = []) (h : Q .normal a w) : ∀ f, wpC P md ops Q S E f l a w
  | 0 => ⟨hr, h⟩
  | _ + 1 => ⟨fun _ => h, by rw [hr]; simp⟩
theorem wp_region_C {id : Nat} {a : Act} {w : World} {n : Nat} {l : Array Bool} (S : World → Prop) (E : List Nat) (hm : P.follows .mixedOrders = true) (hn : ops.size = n) (hl : Array.replicate n false = l)
    (h : wpC P .any ops Q S E n l a w.drew) : (Code.region id ops true).wp P Q a w := by
  subst hl
  subst hn
  exact wp_region_any hm (wpC_any _ _ _ _ h)
end
/-- A call that hands back one value, at a step of a region that draws its order. -/
theorem step_callV {P : Program} {ops : Array Oper} {o : Oper} {ac : Act} {w : World} {K : Act → World → Prop} {Q : Exit → Act → World → Prop} {X : Prop} (hgd : o.guard = none) (f : FuncId) (xs : Array Operand) (ts : Array TypeId)
    (ho : o.op = .call { callee := .value (.func f), args := xs, argTypes := ts }) (hrun : ∀ args w, (callFunc f args).run P w = .ok (.enter f args) w) (vs : Array Value) (hv : xs.map ac.eval = vs) {R : Ending → World → Prop}
    (h : Calls P f vs w R) (hK : ∀ e w', R e w' → ∃ v, e = .returned v ∧ K (ac.put o.dst v) w') : if Region.wanted o (yielded ops ac.tmps) = true then Oper.wp P o ac w K Q else X := by
  have hw : Region.wanted o (yielded ops ac.tmps) = true := by simp [Region.wanted, hgd]
  rw [if_pos hw]
  unfold Oper.wp execOp
  simp only [ho, resolve, Act.eval, Deferred.ofValue, Sem.run_bind, Sem.run_pure, Result.andThen_ok, invoke, Array.append_empty]
  rw [show xs.map (Act.eval ac) = vs from hv]
  simp only [Array.empty_append, hrun, Oper.upon_enter]
  refine h.mono fun e w' hR => ?_
  obtain ⟨v, he, hk⟩ := hK e w' hR
  subst he
  exact hk
end Go.Proofs.Ytkjmehpehopncaa

/- IsPassChoice: the reference's function. Written by mkcr.py. -/
namespace Go.Proofs.Ytkjmehpehopncaa
open Go.RowKit

theorem busy_hit {x3 : List PR} {cs : List Int} {c : Int} {i : Nat} (h1 : (nthPR x3 i).cell = c) (h2 : 0 < nth cs i) : ∀ n, i < n → busyTo x3 cs 2 c n = true
  | n + 1, hn => by
    rw [busyTo]
    by_cases e : i = n
    · subst e; simp [h1, h2]
    · rw [busy_hit h1 h2 n (by omega)]; rfl
theorem busy_off {x3 : List PR} {cs : List Int} {c mode : Int} (h : (mode == 2) = false) : ∀ n, busyTo x3 cs mode c n = false
  | 0 => rfl
  | n + 1 => by rw [busyTo, busy_off h n, h]; simp
theorem room_ref {K : Nat} {x1 : List Int} {x2 : List Bool} {x3 : List PR} {y0 : List (List Int)} {y1 : List Int} {cs : List Int} (h : PsOk K x1 x2 x3) (hs : StOk K x1.length y0 y1) (hc : ∀ j, 0 ≤ nth cs j ∧ nth cs j ≤ 1000) (hl : cs.length = x3.length) {q : Nat} (hq : q < x3.length)
    (hf : fitsB x1 x2 x3 (bagsS y0 y1) cs = true) :
    (decide (nth cs q < 1000) && (takeF (cellN (nthPR x3 q) * K) (upN x1 (nthPR x3 q) * K) x2 (nthPR x3 q) 1 (leftF K x1 x2 x3 cs (bagsS y0 y1).flatten x3.length).1 K).2) = roomS x1 x2 x3 (bagsS y0 y1) cs q := by
  have hc1 : cntBd cs := fun j => by have := hc j; omega
  have := hc q
  by_cases e : nth cs q < 1000
  · rw [decide_eq_true e, Bool.true_and]
    exact room_fits h hs hc hl hq hf ((leftF_at h hs hc1 _ (Nat.le_refl _)).2 (by rw [left_fits h hs hc1 hl]; exact hf))
  · rw [decide_eq_false e, Bool.false_and]
    exact (over_fits h hs hc hl hq (by omega)).symm
/-- What IsPassChoice returns. -/
def choiceS (x0 : Int) (x1 : List Int) (x2 : List Bool) (x3 : List PR) (y0 : List (List Int)) (y1 : List Int) (cs : List Int) (mode : Int) : Bool × Int :=
  if passCodeS x0 x1 x2 x3 y0 y1 cs = 0 then (if inRg mode 1 3 = true then (fitsB x1 x2 x3 (bagsS y0 y1) cs && chosenS x1 x2 x3 (bagsS y0 y1) cs mode, 0) else (false, 2)) else (false, passCodeS x0 x1 x2 x3 y0 y1 cs)
theorem l06Mode_c (m : Int) (w : World) : Calls Try.prog 27 #[.int .i64 m] w (RetP w (.bool (inRg m 1 3))) := by
  go_enter Try.func27, Try.ntmps27
  go_wp2_with fail
  refine (l00In_c _ _ _ _).mono ?_
  rintro e w' ⟨rfl, rfl⟩
  go_wp2
  go_ret
  exact ⟨rfl, rfl⟩
/-- A guarded call that hands back one value, at a step of a region that draws its order. -/
theorem step_callW {P : Program} {ops : Array Oper} {o : Oper} {ac : Act} {w : World} {K : Act → World → Prop} {Q : Exit → Act → World → Prop} {X : Prop} (hw : Region.wanted o (yielded ops ac.tmps) = true) (f : FuncId) (xs : Array Operand) (ts : Array TypeId)
    (ho : o.op = .call { callee := .value (.func f), args := xs, argTypes := ts }) (hrun : ∀ args w, (callFunc f args).run P w = .ok (.enter f args) w) (vs : Array Value) (hv : xs.map ac.eval = vs) {R : Ending → World → Prop}
    (h : Calls P f vs w R) (hK : ∀ e w', R e w' → ∃ v, e = .returned v ∧ K (ac.put o.dst v) w') : if Region.wanted o (yielded ops ac.tmps) = true then Oper.wp P o ac w K Q else X := by
  rw [if_pos hw]
  unfold Oper.wp execOp
  simp only [ho, resolve, Act.eval, Deferred.ofValue, Sem.run_bind, Sem.run_pure, Result.andThen_ok, invoke, Array.append_empty]
  rw [show xs.map (Act.eval ac) = vs from hv]
  simp only [Array.empty_append, hrun, Oper.upon_enter]
  refine h.mono fun e w' hR => ?_
  obtain ⟨v, he, hk⟩ := hK e w' hR
  subst he
  exact hk
set_option maxHeartbeats 2000000 in
set_option maxRecDepth 100000 in
theorem l06Busy_c (x3 : List PR) (a3 : Option Addr) (c3 p : Nat) (bc : Option Addr) (cc : Nat) (cs : List Int) (k : Nat) (w : World) (h3 : Rd Any w (dPR x3) (.slice a3 x3.length c3)) (kc : SlI Any w bc cs) (hp3 : w.cell? ⟨p, 3, none⟩ = some (.slice a3 x3.length c3)) (hk : k < x3.length) (hcl : cs.length = x3.length) :
    Calls Try.prog 77 #[.pointer (some ⟨p, 0, none⟩), .slice bc cs.length cc, .int .i64 k] w (RetV w (.bool (busyTo x3 cs 2 (nthPR x3 k).cell cs.length))) := by
  obtain ⟨_, _, ex, hxs⟩ := Rd_PR h3
  cases ex
  have i4 := ix_of (P := Try.prog) tabPassRuleSM.under tabPassRuleSM.size hxs.ptr c3
  have ic := kc.ix tabI.under tabI.size cc
  have l3 := kc.len
  unfold maxLen at l3
  have zp := World.block_lt_of_cell? w _ hp3
  have hk0 := hxs.c0 k hk
  obtain ⟨c, hc⟩ : ∃ c, c = (nthPR x3 k).cell := ⟨_, rfl⟩
  rw [← hc] at hk0 ⊢
  have HX := Lib.hid hxs
  have HK := Lib.hid kc
  have HCLN := Lib.hid hcl
  have hkx : (k : Int) < x3.length := by omega
  have HK0 := Lib.hid hk0
  have HP3 := Lib.hid hp3
  clear hc hxs kc h3 hcl hk0 hp3
  go_enter Try.func77, Try.ntmps77
  go_wp2
  go_loopw [7] (fun i wr => ∃ j : Nat, j ≤ cs.length ∧ i = .int .i64 j ∧ Hid (Below w.heap.size w wr) ∧ Hid (busyTo x3 cs 2 c j = false)) (fun i _ => cs.length - (intOf i).toNat)
  case atStart => exact ⟨0, Nat.zero_le _, rfl, Lib.hid (Below.refl _ _), Lib.hid rfl⟩
  case round =>
    obtain ⟨j, hj, rfl, HB, HJ⟩ := hrel
    by_cases hlt : j < cs.length
    · have hj3 : j < x3.length := by rw [← HCLN.out]; exact hlt
      have gp := (bcell1 HB.out zp).trans HP3.out
      have gc := (HK.out.below HB.out).cell j hlt
      have gr := (HB.out.cell (World.block_lt_of_cell? w _ (HX.out.c0 j hj3))).trans (HX.out.c0 j hj3)
      have gk := (HB.out.cell (World.block_lt_of_cell? w _ HK0.out)).trans HK0.out
      obtain ⟨n, hn⟩ : ∃ n, n = nth cs j := ⟨_, rfl⟩
      obtain ⟨d, hd⟩ : ∃ d, d = (nthPR x3 j).cell := ⟨_, rfl⟩
      rw [← hn] at gc
      rw [← hd] at gr
      have HBT : Hid (busyTo x3 cs 2 c (j + 1) = (busyTo x3 cs 2 c j || ((d == c) && decide (0 < n)))) := Lib.hid (by rw [busyTo, ← hd, ← hn]; simp)
      have HHIT : Hid (d = c → 0 < n → busyTo x3 cs 2 c cs.length = true) := Lib.hid (fun e1 e2 => busy_hit (i := j) (by rw [← hd]; exact e1) (by rw [← hn]; exact e2) _ hlt)
      clear hn hd
      have HD : ∀ m, Hid (Below w.heap.size w (wr.drewN m)) := fun m => Lib.hid (HB.out.trans (below_drewN _ _ _))
      cases hd : decide (0 < n)
      · have HJ2 : Hid (busyTo x3 cs 2 c (j + 1) = false) := Lib.hid (by rw [HBT.out, HJ.out, hd]; simp)
        clear HBT HHIT
        go_wp2
        go_quiet (fail)
        go_wp2
        first
          | (go_roundw
             case rel => exact ⟨j + 1, by omega, by go_num, HD _, HJ2⟩
             case measure => simp [intOf]; omega)
          | (refine ⟨⟨j + 1, by omega, by go_num, HD _, HJ2⟩, ?_⟩
             simp [intOf]; omega)
      · cases he : d == c
        · have HJ2 : Hid (busyTo x3 cs 2 c (j + 1) = false) := Lib.hid (by rw [HBT.out, HJ.out, he]; simp)
          clear HBT HHIT
          go_wp2
          go_quiet (fail)
          go_wp2
          first
            | (go_roundw
               case rel => exact ⟨j + 1, by omega, by go_num, HD _, HJ2⟩
               case measure => simp [intOf]; omega)
            | (refine ⟨⟨j + 1, by omega, by go_num, HD _, HJ2⟩, ?_⟩
               simp [intOf]; omega)
        · have HT : Hid (busyTo x3 cs 2 c cs.length = true) := Lib.hid (HHIT.out (by simpa using he) (by simpa using hd))
          clear HBT HHIT
          go_wp2
          go_quiet (fail)
          go_wp2
          go_ret
          exact ⟨ret_bool HT.out.symm, (HD _).out⟩
    · obtain rfl : j = cs.length := by omega
      go_wp2
      go_ret
      exact ⟨ret_bool HJ.out.symm, HB.out⟩
set_option maxHeartbeats 4000000 in
set_option maxRecDepth 100000 in
theorem l06Room_c (K : Nat) (x1 : List Int) (x2 : List Bool) (x3 : List PR) (a1 a2 a3 : Option Addr) (c1 c2 c3 : Nat) (k : Nat) (xs : List Int) (g0 cg0 : Nat) (p : Nat) (bc : Option Addr) (cc : Nat) (cs : List Int) (w : World) (h1 : SlI Any w a1 x1) (h2 : SlB Any w a2 x2) (h3 : Rd Any w (dPR x3) (.slice a3 x3.length c3)) (hp0 : w.cell? ⟨p, 0, none⟩ = some (.int .i64 K)) (hp1 : w.cell? ⟨p, 1, none⟩ = some (.slice a1 x1.length c1)) (hp2 : w.cell? ⟨p, 2, none⟩ = some (.slice a2 x2.length c2)) (hp3 : w.cell? ⟨p, 3, none⟩ = some (.slice a3 x3.length c3)) (hps : PsOk K x1 x2 x3) (hk : k < x3.length) (kc : SlI Any w bc cs) (hcl : cs.length = x3.length) (hl : SlI Any w (some ⟨g0, 0, none⟩) xs) (hlen : xs.length = (x1.length + 1) * K) :
    Calls Try.prog 78 #[.pointer (some ⟨p, 0, none⟩), .slice (some ⟨g0, 0, none⟩) xs.length cg0, .slice bc cs.length cc, .int .i64 k] w (RetV w (.bool (decide (nth cs k < 1000) && (takeF (cellN (nthPR x3 k) * K) (upN x1 (nthPR x3 k) * K) x2 (nthPR x3 k) 1 xs K).2))) := by
  have ic := kc.ix tabI.under tabI.size cc
  have l3 := kc.len
  have hm := small_mul (k := x1.length + 1) (K := K) (n := 5) (by have := hps.p4; omega) hps.k8
  have hpos : 0 < xs.length := by rw [hlen]; exact Nat.mul_pos (by omega) hps.k1
  have zp := World.block_lt_of_cell? w _ hp3
  obtain ⟨_, _, ex, hxs⟩ := Rd_PR h3
  cases ex
  have i4 := ix_of (P := Try.prog) tabPassRuleSM.under tabPassRuleSM.size hxs.ptr c3
  have gc := kc.cell k (by omega)
  have zc := World.block_lt_of_cell? w _ gc
  have hkx : (k : Int) < x3.length := by omega
  have hkc : (k : Int) < cs.length := by omega
  have HFX : Hid (∀ wx, Below w.heap.size w wx → Calls Try.prog 67 #[.slice (some ⟨g0, 0, none⟩) xs.length cg0] wx (RetB 2 wx xs)) := Lib.hid (fun wx h => l00OwnB_c Any (some ⟨g0, 0, none⟩) cg0 xs wx (hl.below h) ⟨_, rfl⟩ (by omega))
  have HTX : Hid (∀ g cg wx, Below w.heap.size w wx → Bld 2 wx w.heap.size (.slice (some ⟨g, 0, none⟩) xs.length cg) (xs.map (.int .i64)) → Calls Try.prog 38 #[.pointer (some ⟨p, 0, none⟩), .slice (some ⟨g, 0, none⟩) xs.length cg, .pointer (some ⟨blk a3, ofs a3 + k * 3, none⟩), .int .i64 1] wx (fun e w' => TakePost w.heap.size g xs.length cg (takeF (cellN (nthPR x3 k) * K) (upN x1 (nthPR x3 k) * K) x2 (nthPR x3 k) 1 xs K) e w' ∧ Below w.heap.size wx w')) := Lib.hid (fun g cg wx h hbl => take_at K x1 x2 x3 a1 a2 a3 c1 c2 c3 k 1 xs g cg p w wx h1 h2 h3 hp0 hp1 hp2 hp3 hps hk h hbl hlen)
  have hrunT := callFunc_run Try.func38 (by kernel_rfl) rfl
  have hrunF := callFunc_run Try.func67 (by kernel_rfl) rfl
  obtain ⟨n, hn⟩ : ∃ n, n = nth cs k := ⟨_, rfl⟩
  rw [← hn] at gc ⊢
  have HFL := Lib.hid hpos
  have F3 := Lib.hid hp3
  clear hn hxs h1 h2 h3 hp0 hp1 hp2 hps kc hcl hl hlen hm hpos
  cases hd : decide (n < 1000)
  · rw [Bool.false_and]
    go_enter Try.func78, Try.ntmps78
    go_wp2
    go_quiet (fail)
    go_wp2
    go_ret
    exact ⟨rfl, below_drewN _ _ _⟩
  · rw [Bool.true_and]
    go_enter Try.func78, Try.ntmps78
    go_wp2
    have hS0 : w.drew.cell? (adr bc k) = some (.int .i64 n) ∧ w.drew.cell? ⟨p, 3, none⟩ = some (.slice a3 x3.length c3) := ⟨gc, F3.out⟩
    refine wp_region_C (n := 18) (l := #[false, false, false, false, false, false, false, false, false, false, false, false, false, false, false, false, false, false]) (fun wx => wx.cell? (adr bc k) = some (.int .i64 n) ∧ wx.cell? ⟨p, 3, none⟩ = some (.slice a3 x3.length c3)) [] (by kernel_rfl) rfl rfl ?_
    refine wpC_take (i := 0) (v := ?v0_1) (l' := #[true, false, false, false, false, false, false, false, false, false, false, false, false, false, false, false, false, false]) [2, 3, 4, 5, 6, 7, 8, 9, 10, 11, 12, 13, 14, 15, 16, 17] rfl (by kernel_rfl) (by kernel_rfl) (by kernel_rfl) (by kernel_rfl) (by kernel_rfl) rfl (fun _ _ _ h => h) (by rfl) (fun wx hS => ?q0_1) (by assumption) ?_
    case q0_1 => (go_simp; try with_reducible rfl)
    try simp only [List.getElem_toArray, List.getElem_cons_zero, Act.put, List.setIfInBounds_toArray, List.set_cons_zero, List.set_cons_succ]
    refine wpC_take (i := 1) (v := ?v1_2) (l' := #[true, true, false, false, false, false, false, false, false, false, false, false, false, false, false, false, false, false]) [2, 3, 4, 5, 6, 7, 8, 9, 10, 11, 12, 13, 14, 15, 16, 17] rfl (by kernel_rfl) (by kernel_rfl) (by kernel_rfl) (by kernel_rfl) (by kernel_rfl) rfl (fun _ _ _ h => h) (by rfl) (fun wx hS => ?q1_2) (by assumption) ?_
    case q1_2 => (go_simp; try with_reducible rfl)
    try simp only [List.getElem_toArray, List.getElem_cons_succ, List.getElem_cons_zero, Act.put, List.setIfInBounds_toArray, List.set_cons_zero, List.set_cons_succ]
    refine wpC_take (i := 2) (v := ?v2_3) (l' := #[true, true, true, false, false, false, false, false, false, false, false, false, false, false, false, false, false, false]) [3, 4, 5, 6, 7, 8, 9, 10, 11, 12, 13, 14, 15, 16, 17] rfl (by kernel_rfl) (by kernel_rfl) (by kernel_rfl) (by kernel_rfl) (by kernel_rfl) rfl (fun _ _ _ h => h) (by rfl) (fun wx hS => ?q2_3) (by assumption) ?_
    case q2_3 => (go_simp; try with_reducible rfl)
    try simp only [List.getElem_toArray, List.getElem_cons_succ, List.getElem_cons_zero, Act.put, List.setIfInBounds_toArray, List.set_cons_zero, List.set_cons_succ]
    refine wpC_take (i := 3) (v := ?v3_4) (l' := #[true, true, true, true, false, false, false, false, false, false, false, false, false, false, false, false, false, false]) [4, 5, 6, 7, 8, 9, 10, 11, 12, 13, 14, 15, 16, 17] rfl (by kernel_rfl) (by kernel_rfl) (by kernel_rfl) (by kernel_rfl) (by kernel_rfl) rfl (fun _ _ _ h => h) (by rfl) (fun wx hS => ?q3_4) (by assumption) ?_
    case q3_4 => ((try dsimp only at hS); obtain ⟨hS1, hS2⟩ := hS; go_simp; try with_reducible rfl)
    try simp only [List.getElem_toArray, List.getElem_cons_succ, List.getElem_cons_zero, Act.put, List.setIfInBounds_toArray, List.set_cons_zero, List.set_cons_succ]
    refine wpC_take (i := 4) (v := ?v4_5) (l' := #[true, true, true, true, true, false, false, false, false, false, false, false, false, false, false, false, false, false]) [5, 6, 7, 8, 9, 10, 11, 12, 13, 14, 15, 16, 17] rfl (by kernel_rfl) (by kernel_rfl) (by kernel_rfl) (by kernel_rfl) (by kernel_rfl) rfl (fun _ _ _ h => h) (by rfl) (fun wx hS => ?q4_5) (by assumption) ?_
    case q4_5 => (go_simp; try with_reducible rfl)
    try simp only [List.getElem_toArray, List.getElem_cons_succ, List.getElem_cons_zero, Act.put, List.setIfInBounds_toArray, List.set_cons_zero, List.set_cons_succ]
    refine wpC_take (i := 5) (v := ?v5_6) (l' := #[true, true, true, true, true, true, false, false, false, false, false, false, false, false, false, false, false, false]) [6, 7, 8, 9, 10, 11, 12, 13, 14, 15, 16, 17] rfl (by kernel_rfl) (by kernel_rfl) (by kernel_rfl) (by kernel_rfl) (by kernel_rfl) rfl (fun _ _ _ h => h) (by rfl) (fun wx hS => ?q5_6) (by assumption) ?_
    case q5_6 => (go_simp; try with_reducible rfl)
    try simp only [List.getElem_toArray, List.getElem_cons_succ, List.getElem_cons_zero, Act.put, List.setIfInBounds_toArray, List.set_cons_zero, List.set_cons_succ]
    refine wpC_take (i := 6) (v := ?v6_7) (l' := #[true, true, true, true, true, true, true, false, false, false, false, false, false, false, false, false, false, false]) [15, 16, 17] rfl (by kernel_rfl) (by kernel_rfl) (by kernel_rfl) (by kernel_rfl) (by kernel_rfl) rfl (fun _ _ _ h => h) (by rfl) (fun wx hS => ?q6_7) (by assumption) ?_
    case q6_7 => (go_simp; try with_reducible rfl)
    try simp only [List.getElem_toArray, List.getElem_cons_succ, List.getElem_cons_zero, Act.put, List.setIfInBounds_toArray, List.set_cons_zero, List.set_cons_succ]
    refine wpC_take (i := 7) (v := ?v7_8) (l' := #[true, true, true, true, true, true, true, true, false, false, false, false, false, false, false, false, false, false]) [8, 15, 16, 17] rfl (by kernel_rfl) (by kernel_rfl) (by kernel_rfl) (by kernel_rfl) (by kernel_rfl) rfl (fun _ _ _ h => h) (by rfl) (fun wx hS => ?q7_8) (by assumption) ?_
    case q7_8 => (go_simp; try with_reducible rfl)
    try simp only [List.getElem_toArray, List.getElem_cons_succ, List.getElem_cons_zero, Act.put, List.setIfInBounds_toArray, List.set_cons_zero, List.set_cons_succ]
    refine wpC_take (i := 9) (v := ?v9_9) (l' := #[true, true, true, true, true, true, true, true, false, true, false, false, false, false, false, false, false, false]) [10, 11, 12, 14, 15, 16, 17] rfl (by kernel_rfl) (by kernel_rfl) (by kernel_rfl) (by kernel_rfl) (by kernel_rfl) rfl (fun _ _ _ h => h) (by rfl) (fun wx hS => ?q9_9) (by assumption) ?_
    case q9_9 => (go_simp; try with_reducible rfl)
    try simp only [List.getElem_toArray, List.getElem_cons_succ, List.getElem_cons_zero, Act.put, List.setIfInBounds_toArray, List.set_cons_zero, List.set_cons_succ]
    refine wpC_take (i := 10) (v := ?v10_10) (l' := #[true, true, true, true, true, true, true, true, false, true, true, false, false, false, false, false, false, false]) [11, 12, 14, 15, 16, 17] rfl (by kernel_rfl) (by kernel_rfl) (by kernel_rfl) (by kernel_rfl) (by kernel_rfl) rfl (fun _ _ _ h => h) (by rfl) (fun wx hS => ?q10_10) (by assumption) ?_
    case q10_10 => (go_simp; try with_reducible rfl)
    try simp only [List.getElem_toArray, List.getElem_cons_succ, List.getElem_cons_zero, Act.put, List.setIfInBounds_toArray, List.set_cons_zero, List.set_cons_succ]
    refine wpC_take (i := 11) (v := ?v11_11) (l' := #[true, true, true, true, true, true, true, true, false, true, true, true, false, false, false, false, false, false]) [12, 14, 15, 16, 17] rfl (by kernel_rfl) (by kernel_rfl) (by kernel_rfl) (by kernel_rfl) (by kernel_rfl) rfl (fun _ _ _ h => h) (by rfl) (fun wx hS => ?q11_11) (by assumption) ?_
    case q11_11 => (go_simp; try with_reducible rfl)
    try simp only [List.getElem_toArray, List.getElem_cons_succ, List.getElem_cons_zero, Act.put, List.setIfInBounds_toArray, List.set_cons_zero, List.set_cons_succ]
    refine wpC_take (i := 12) (v := ?v12_12) (l' := #[true, true, true, true, true, true, true, true, false, true, true, true, true, false, false, false, false, false]) [14, 15, 16, 17] rfl (by kernel_rfl) (by kernel_rfl) (by kernel_rfl) (by kernel_rfl) (by kernel_rfl) rfl (fun _ _ _ h => h) (by rfl) (fun wx hS => ?q12_12) (by assumption) ?_
    case q12_12 => ((try dsimp only at hS); obtain ⟨hS1, hS2⟩ := hS; go_simp; try with_reducible rfl)
    try simp only [List.getElem_toArray, List.getElem_cons_succ, List.getElem_cons_zero, Act.put, List.setIfInBounds_toArray, List.set_cons_zero, List.set_cons_succ]
    refine wpC_take (i := 13) (v := ?v13_13) (l' := #[true, true, true, true, true, true, true, true, false, true, true, true, true, true, false, false, false, false]) [14, 15, 16, 17] rfl (by kernel_rfl) (by kernel_rfl) (by kernel_rfl) (by kernel_rfl) (by kernel_rfl) rfl (fun _ _ _ h => h) (by rfl) (fun wx hS => ?q13_13) (by assumption) ?_
    case q13_13 => (go_simp; try with_reducible rfl)
    try simp only [List.getElem_toArray, List.getElem_cons_succ, List.getElem_cons_zero, Act.put, List.setIfInBounds_toArray, List.set_cons_zero, List.set_cons_succ]
    refine wpC_take (i := 14) (v := ?v14_14) (l' := #[true, true, true, true, true, true, true, true, false, true, true, true, true, true, true, false, false, false]) [15, 16, 17] rfl (by kernel_rfl) (by kernel_rfl) (by kernel_rfl) (by kernel_rfl) (by kernel_rfl) rfl (fun _ _ _ h => h) (by rfl) (fun wx hS => ?q14_14) (by assumption) ?_
    case q14_14 => (go_simp; try with_reducible rfl)
    try simp only [List.getElem_toArray, List.getElem_cons_succ, List.getElem_cons_zero, Act.put, List.setIfInBounds_toArray, List.set_cons_zero, List.set_cons_succ]
    refine wpC_one (i := 8) (l' := #[true, true, true, true, true, true, true, true, true, true, true, true, true, true, true, false, false, false]) (by kernel_rfl) rfl rfl (by rfl) (fun Kr hKr => ?_)
    refine step_callW (by rfl) 67 _ _ rfl hrunF #[.slice (some ⟨g0, 0, none⟩) xs.length cg0] (by first | rfl | (simp [Act.eval]; done) | (simp [Act.eval]; rfl) | (simp [Act.eval]; repeat' constructor)) (HFX.out _ (Below.drew (Below.refl _ _))) ?_
    rintro e w4 ⟨v4, rfl, hb4, hbl4⟩
    obtain ⟨g, cg, rfl⟩ : ∃ g c, v4 = .slice (some ⟨g, 0, none⟩) xs.length c := (by have := hbl4.ptr (by have := HFL.out; simp; omega); simpa using this)
    refine ⟨_, rfl, ?_⟩
    have hx4 : Below w.heap.size w w4 := (Below.drew (Below.refl _ _)).trans (hb4.mono (by simp))
    have hs4 : w4.cell? (adr bc k) = some (.int .i64 n) ∧ w4.cell? ⟨p, 3, none⟩ = some (.slice a3 x3.length c3) := ⟨(hx4.cell zc).trans gc, (bcell1 hx4 zp).trans F3.out⟩
    refine hKr _ _ (fun _ => hs4) ?_
    clear hKr Kr
    try simp only [List.getElem_toArray, List.getElem_cons_succ, List.getElem_cons_zero, Act.put, List.setIfInBounds_toArray, List.set_cons_zero, List.set_cons_succ]
    refine wpC_one (i := 15) (l' := #[true, true, true, true, true, true, true, true, true, true, true, true, true, true, true, true, false, false]) (by kernel_rfl) rfl rfl (by rfl) (fun Kr hKr => ?_)
    refine step_callW (by rfl) 38 _ _ rfl hrunT #[.pointer (some ⟨p, 0, none⟩), .slice (some ⟨g, 0, none⟩) xs.length cg, .pointer (some ⟨blk a3, ofs a3 + k * 3, none⟩), .int .i64 1] (by first | rfl | (simp [Act.eval]; done) | (simp [Act.eval]; rfl) | (simp [Act.eval]; repeat' constructor)) (HTX.out g cg _ hx4 (hbl4.lower (by simp))) ?_
    rintro e w9 ⟨⟨rfl, hbl9⟩, hb9⟩
    refine ⟨_, rfl, ?_⟩
    have hx9 : Below w.heap.size w w9 := hx4.trans hb9
    have hs9 : w9.cell? (adr bc k) = some (.int .i64 n) ∧ w9.cell? ⟨p, 3, none⟩ = some (.slice a3 x3.length c3) := ⟨(hx9.cell zc).trans gc, (bcell1 hx9 zp).trans F3.out⟩
    refine hKr _ _ (fun _ => hs9) ?_
    clear hKr Kr
    try simp only [List.getElem_toArray, List.getElem_cons_succ, List.getElem_cons_zero, Act.put, List.setIfInBounds_toArray, List.set_cons_zero, List.set_cons_succ]
    refine wpC_take (i := 16) (v := ?v16_15) (l' := #[true, true, true, true, true, true, true, true, true, true, true, true, true, true, true, true, true, false]) [17] rfl (by kernel_rfl) (by kernel_rfl) (by kernel_rfl) (by kernel_rfl) (by kernel_rfl) rfl (fun _ _ _ h => h) (by rfl) (fun wx hS => ?q16_15) (by assumption) ?_
    case q16_15 => (go_simp; try with_reducible rfl)
    try simp only [List.getElem_toArray, List.getElem_cons_succ, List.getElem_cons_zero, Act.put, List.setIfInBounds_toArray, List.set_cons_zero, List.set_cons_succ]
    refine wpC_take (i := 17) (v := ?v17_16) (l' := #[true, true, true, true, true, true, true, true, true, true, true, true, true, true, true, true, true, true]) [] rfl (by kernel_rfl) (by kernel_rfl) (by kernel_rfl) (by kernel_rfl) (by kernel_rfl) rfl (fun _ _ _ h => h) (by rfl) (fun wx hS => ?q17_16) (by assumption) ?_
    case q17_16 => (go_simp; try with_reducible rfl)
    try simp only [List.getElem_toArray, List.getElem_cons_succ, List.getElem_cons_zero, Act.put, List.setIfInBounds_toArray, List.set_cons_zero, List.set_cons_succ]
    refine wpC_done (by kernel_rfl) ?_ _
    have HB9 := Lib.hid hx9
    clear hx9 hx4 hbl9 hbl4 hb4 hb9
    go_wp2
    go_ret
    exact ⟨rfl, HB9.out⟩
set_option maxHeartbeats 4000000 in
set_option maxRecDepth 100000 in
theorem l06Chosen_c (K : Nat) (x1 : List Int) (x2 : List Bool) (x3 : List PR) (bags : List (List Int)) (a3 : Option Addr) (c3 : Nat) (n0 : Nat) (g0 cg0 : Nat) (p : Nat) (bc : Option Addr) (cc : Nat) (cs : List Int) (mode : Int) (w : World) (h3 : Rd Any w (dPR x3) (.slice a3 x3.length c3)) (hp3 : w.cell? ⟨p, 3, none⟩ = some (.slice a3 x3.length c3)) (kc : SlI Any w bc cs) (hcl : cs.length = x3.length)
    (hroom : ∀ wx, Below w.heap.size w wx → ∀ k, k < x3.length → Calls Try.prog 78 #[.pointer (some ⟨p, 0, none⟩), .slice (some ⟨g0, 0, none⟩) n0 cg0, .slice bc cs.length cc, .int .i64 k] wx (RetV wx (.bool (roomS x1 x2 x3 bags cs k)))) :
    Calls Try.prog 66 #[.pointer (some ⟨p, 0, none⟩), .slice (some ⟨g0, 0, none⟩) n0 cg0, .slice bc cs.length cc, .int .i64 mode] w (RetV w (.bool (chosenS x1 x2 x3 bags cs mode))) := by
  have zp := World.block_lt_of_cell? w _ hp3
  have l3 := kc.len
  unfold maxLen at l3
  have HS := l06Sum_c Any bc cc cs w kc
  have HR := Lib.hid hroom
  have HBZ := Lib.hid (fun wx (h : Below w.heap.size w wx) k hk => l06Busy_c x3 a3 c3 p bc cc cs k wx (h3.below h) (kc.below h) ((bcell1 h zp).trans hp3) hk hcl)
  have HCLN := Lib.hid hcl
  obtain ⟨s, hs⟩ : ∃ s, s = sumS cs := ⟨_, rfl⟩
  rw [← hs] at HS
  replace HS := Lib.hid HS
  have hch : chosenS x1 x2 x3 bags cs mode = if (s == 0 || mode == 3) = true then s == 1 else chosenTo x1 x2 x3 bags cs mode x3.length := by rw [hs]; rfl
  rw [hch]
  clear hch hs hroom h3 kc hcl hp3
  by_cases g2 : mode = 3
  · subst g2
    rw [if_pos (by simp)]
    go_enter Try.func66, Try.ntmps66
    go_wp2_with fail
    refine HS.out.mono ?_
    rintro e w9 ⟨rfl, rfl⟩
    go_wp2
    go_ret
    exact ⟨rfl, Below.refl _ _⟩
  by_cases g1 : s = 0
  · subst g1
    rw [if_pos (by simp)]
    have g2' : (mode == 3) = false := by simpa using g2
    clear g2
    go_enter Try.func66, Try.ntmps66
    go_wp2_with fail
    refine HS.out.mono ?_
    rintro e w9 ⟨rfl, rfl⟩
    go_wp2
    go_ret
    exact ⟨rfl, Below.refl _ _⟩
  rw [if_neg (by simp [g1, g2])]
  have g1' : (s == 0) = false := by simpa using g1
  have g2' : (mode == 3) = false := by simpa using g2
  clear g1 g2
  cases hmd : mode == 2
  · have HOFF : Hid (∀ c n, busyTo x3 cs mode c n = false) := Lib.hid (fun c n => busy_off hmd n)
    go_enter Try.func66, Try.ntmps66
    go_wp2_with fail
    refine HS.out.mono ?_
    rintro e w9 ⟨rfl, rfl⟩
    clear HS
    go_wp2
    go_loopw [10] (fun i wr => ∃ q : Nat, q ≤ cs.length ∧ i = .int .i64 q ∧ Hid (chosenTo x1 x2 x3 bags cs mode q = true) ∧ Hid (Below w.heap.size w wr)) (fun i _ => cs.length - (intOf i).toNat)
    case atStart => exact ⟨0, Nat.zero_le _, rfl, Lib.hid rfl, Lib.hid (Below.refl _ _)⟩
    case round =>
      obtain ⟨q, hq, rfl, HT, HB⟩ := hrel
      by_cases hlt : q < cs.length
      · have hq3 : q < x3.length := by rw [← HCLN.out]; exact hlt
        have HRQ := Lib.hid (fun wx h => HR.out wx h q hq3)
        have HBF : Hid (busyTo x3 cs mode (nthPR x3 q).cell cs.length = false) := Lib.hid (HOFF.out _ _)
        go_wp2_with fail
        refine (HRQ.out _ HB.out).mono ?_
        rintro e w7 ⟨rfl, hb7⟩
        have HB7 : Hid (Below w.heap.size w w7) := Lib.hid (bnext HB.out hb7 (Nat.le_refl _))
        clear hb7
        cases hr : roomS x1 x2 x3 bags cs q
        · have HT2 : Hid (chosenTo x1 x2 x3 bags cs mode (q + 1) = true) := Lib.hid (by rw [chosenTo, HT.out, hr]; simp)
          go_wp2
          first
            | (go_roundw
               case rel => exact ⟨q + 1, by omega, by go_num, HT2, HB7⟩
               case measure => simp [intOf]; omega)
            | (refine ⟨⟨q + 1, by omega, by go_num, HT2, HB7⟩, ?_⟩
               simp [intOf]; omega)
        · have HST : Hid (chosenTo x1 x2 x3 bags cs mode x3.length = false) := Lib.hid (chosen_stop HBF.out hr x3.length hq3)
          go_wp2
          go_ret
          exact ⟨ret_bool HST.out.symm, HB7.out⟩
      · obtain rfl : q = cs.length := by omega
        go_wp2
        go_ret
        exact ⟨ret_bool (by rw [← HCLN.out]; exact HT.out.symm), HB.out⟩
  · obtain rfl : mode = 2 := by simpa using hmd
    go_enter Try.func66, Try.ntmps66
    go_wp2_with fail
    refine HS.out.mono ?_
    rintro e w9 ⟨rfl, rfl⟩
    clear HS
    go_wp2
    go_loopw [10] (fun i wr => ∃ q : Nat, q ≤ cs.length ∧ i = .int .i64 q ∧ Hid (chosenTo x1 x2 x3 bags cs 2 q = true) ∧ Hid (Below w.heap.size w wr)) (fun i _ => cs.length - (intOf i).toNat)
    case atStart => exact ⟨0, Nat.zero_le _, rfl, Lib.hid rfl, Lib.hid (Below.refl _ _)⟩
    case round =>
      obtain ⟨q, hq, rfl, HT, HB⟩ := hrel
      by_cases hlt : q < cs.length
      · have hq3 : q < x3.length := by rw [← HCLN.out]; exact hlt
        have HRQ := Lib.hid (fun wx h => HR.out wx h q hq3)
        have HBQ := Lib.hid (HBZ.out wr HB.out q hq3)
        cases hb : busyTo x3 cs 2 (nthPR x3 q).cell cs.length
        · rw [hb] at HBQ
          have HBF : Hid (busyTo x3 cs 2 (nthPR x3 q).cell cs.length = false) := Lib.hid hb
          clear hb
          go_wp2_with fail
          refine HBQ.out.mono ?_
          rintro e w6 ⟨rfl, hb6⟩
          have HB6 : Hid (Below w.heap.size w w6) := Lib.hid (bnext HB.out hb6 (Nat.le_refl _))
          clear hb6
          go_wp2_with fail
          refine (HRQ.out _ HB6.out).mono ?_
          rintro e w7 ⟨rfl, hb7⟩
          have HB7 : Hid (Below w.heap.size w w7) := Lib.hid (bnext HB6.out hb7 (Nat.le_refl _))
          clear hb7
          cases hr : roomS x1 x2 x3 bags cs q
          · have HT2 : Hid (chosenTo x1 x2 x3 bags cs 2 (q + 1) = true) := Lib.hid (by rw [chosenTo, HT.out, hr]; simp)
            go_wp2
            first
              | (go_roundw
                 case rel => exact ⟨q + 1, by omega, by go_num, HT2, HB7⟩
                 case measure => simp [intOf]; omega)
              | (refine ⟨⟨q + 1, by omega, by go_num, HT2, HB7⟩, ?_⟩
                 simp [intOf]; omega)
          · have HST : Hid (chosenTo x1 x2 x3 bags cs 2 x3.length = false) := Lib.hid (chosen_stop HBF.out hr x3.length hq3)
            go_wp2
            go_ret
            exact ⟨ret_bool HST.out.symm, HB7.out⟩
        · rw [hb] at HBQ
          have HT2 : Hid (chosenTo x1 x2 x3 bags cs 2 (q + 1) = true) := Lib.hid (by rw [chosenTo, HT.out, hb]; simp)
          clear hb
          go_wp2_with fail
          refine HBQ.out.mono ?_
          rintro e w6 ⟨rfl, hb6⟩
          have HB6 : Hid (Below w.heap.size w w6) := Lib.hid (bnext HB.out hb6 (Nat.le_refl _))
          clear hb6
          go_wp2
          first
            | (go_roundw
               case rel => exact ⟨q + 1, by omega, by go_num, HT2, HB6⟩
               case measure => simp [intOf]; omega)
            | (refine ⟨⟨q + 1, by omega, by go_num, HT2, HB6⟩, ?_⟩
               simp [intOf]; omega)
      · obtain rfl : q = cs.length := by omega
        go_wp2
        go_ret
        exact ⟨ret_bool (by rw [← HCLN.out]; exact HT.out.symm), HB.out⟩
end Go.Proofs.Ytkjmehpehopncaa

/- IsPassChoice: the program's function. Written by mkcr.py. -/
namespace Go.Proofs.Ytkjmehpehopncaa
open Go.RowKit

theorem isMode_c (m : Int) (w : World) : Calls Try.prog 29 #[.int .i64 m] w (RetP w (.bool (inRg m 1 3))) := by
  go_enter Try.func29, Try.ntmps29
  go_wp2_with fail
  refine (inRange_c _ _ _ _).mono ?_
  rintro e w' ⟨rfl, rfl⟩
  go_wp2
  go_ret
  exact ⟨rfl, rfl⟩
set_option maxHeartbeats 2000000 in
theorem implIsPassChoice_c (x0 : Int) (x1 : List Int) (x2 : List Bool) (x3 : List PR) (y0 : List (List Int)) (y1 : List Int) (a1 a2 a3 b0 b1 : Option Addr) (c1 c2 c3 d0 d1 : Nat) (w : World) (h1 : SlI Any w a1 x1) (hc1 : x1.length ≤ c1) (h2 : SlB Any w a2 x2) (h3 : Rd Any w (dPR x3) (.slice a3 x3.length c3)) (k0 : SlII Any w b0 y0) (k1 : SlI Any w b1 y1) (cs : List Int) (bc : Option Addr) (cc : Nat) (kc : SlI Any w bc cs) (mode : Int) :
    Calls Try.prog 11 #[.agg #[.int .i64 x0, .slice a1 x1.length c1, .slice a2 x2.length c2, .slice a3 x3.length c3], .agg #[.slice b0 y0.length d0, .slice b1 y1.length d1], .slice bc cs.length cc, .int .i64 mode] w (RetV w (.tuple #[.bool (choiceS x0 x1 x2 x3 y0 y1 cs mode).1, .int .i64 (choiceS x0 x1 x2 x3 y0 y1 cs mode).2])) := by
  have hb0 : Below w.heap.size w ((w.alloc (.cells #[.int .i64 x0, .slice a1 x1.length c1, .slice a2 x2.length c2, .slice a3 x3.length c3] 28)).alloc (.cells #[.slice b0 y0.length d0, .slice b1 y1.length d1] 31)) := ((Below.refl _ _).alloc (Nat.le_refl _) _).alloc (by simp) _
  have HC := Lib.hid (passCode_c x0 x1 x2 x3 y0 y1 a1 a2 a3 b0 b1 c1 c2 c3 d0 d1 ((w.alloc (.cells #[.int .i64 x0, .slice a1 x1.length c1, .slice a2 x2.length c2, .slice a3 x3.length c3] 28)).alloc (.cells #[.slice b0 y0.length d0, .slice b1 y1.length d1] 31)) (h1.below hb0) hc1 (h2.below hb0) (h3.below hb0) (k0.below hb0) (k1.below hb0) cs bc cc (kc.below hb0))
  have HB0 := Lib.hid hb0
  clear hb0
  by_cases hcode : passCodeS x0 x1 x2 x3 y0 y1 cs = 0
  · have hok := passCode_ok hcode
    obtain ⟨K, hxK, hps, hst⟩ := stockAll_ok (stCode_ok hok.1)
    have hcs := bag6_ok hok.2
    rw [hcode] at HC
    cases hm : inRg mode 1 3
    · have ev : choiceS x0 x1 x2 x3 y0 y1 cs mode = (false, 2) := by simp [choiceS, hcode, hm]
      rw [ev]
      have HM := Lib.hid (fun wx => isMode_c mode wx)
      rw [hm] at HM
      clear ev hcode hok hps hst hcs h1 h2 h3 k0 k1 kc hxK hm
      go_enter Try.func11, Try.ntmps11
      go_wp2_with fail
      refine HC.out.mono ?_
      rintro e w1 ⟨rfl, hb1⟩
      have HB1 := Lib.hid (HB0.out.trans (hb1.mono (by simp <;> omega)))
      clear hb1
      go_wp2_with fail
      refine (HM.out _).mono ?_
      rintro e w2 ⟨rfl, rfl⟩
      go_wp2
      go_ret2
      exact ⟨rfl, HB1.out⟩
    · have ev : choiceS x0 x1 x2 x3 y0 y1 cs mode = (fitsB x1 x2 x3 (bagsS y0 y1) cs && chosenS x1 x2 x3 (bagsS y0 y1) cs mode, 0) := by simp [choiceS, hcode, hm]
      rw [ev]
      have HM := Lib.hid (fun wx => isMode_c mode wx)
      rw [hm] at HM
      have HF := Lib.hid (fun wx (h : Below w.heap.size w wx) => fits_c x0 x1 x2 x3 y0 y1 a1 a2 a3 b0 b1 c1 c2 c3 d0 d1 wx (h1.below h) (h2.below h) (h3.below h) (k0.below h) (k1.below h) cs bc cc (kc.below h) K hps hst hcs.1 (fun j => by have := hcs.2 j; omega))
      have HI := Lib.hid (fun wx (h : Below w.heap.size w wx) => isChoice_c x0 x1 x2 x3 y0 y1 a1 a2 a3 b0 b1 c1 c2 c3 d0 d1 wx (h1.below h) (h2.below h) (h3.below h) (k0.below h) (k1.below h) cs bc cc (kc.below h) K hps hst hcs.1 (fun j => by have := hcs.2 j; omega) mode)
      clear ev hcode hok hps hst hcs h1 h2 h3 k0 k1 kc hxK hm
      cases hf : fitsB x1 x2 x3 (bagsS y0 y1) cs
      · rw [hf] at HF
        go_enter Try.func11, Try.ntmps11
        go_wp2_with fail
        refine HC.out.mono ?_
        rintro e w1 ⟨rfl, hb1⟩
        have f0 : w1.cell? ⟨w.heap.size, 0, none⟩ = some (.int .i64 x0) := by rw [bcell1 hb1 (by simp <;> omega)]; simp [go_sem]
        have f1 : w1.cell? ⟨w.heap.size, 1, none⟩ = some (.slice a1 x1.length c1) := by rw [bcell1 hb1 (by simp <;> omega)]; simp [go_sem]
        have f2 : w1.cell? ⟨w.heap.size, 2, none⟩ = some (.slice a2 x2.length c2) := by rw [bcell1 hb1 (by simp <;> omega)]; simp [go_sem]
        have f3 : w1.cell? ⟨w.heap.size, 3, none⟩ = some (.slice a3 x3.length c3) := by rw [bcell1 hb1 (by simp <;> omega)]; simp [go_sem]
        have e0 : w1.cell? ⟨w.heap.size + 1, 0, none⟩ = some (.slice b0 y0.length d0) := by rw [bcell1 hb1 (by simp <;> omega)]; simp [go_sem]
        have e1 : w1.cell? ⟨w.heap.size + 1, 1, none⟩ = some (.slice b1 y1.length d1) := by rw [bcell1 hb1 (by simp <;> omega)]; simp [go_sem]
        have HB1 := Lib.hid (HB0.out.trans (hb1.mono (by simp <;> omega)))
        have zz : w.heap.size + 1 < w1.heap.size := World.block_lt_of_cell? w1 _ e0
        clear hb1
        go_wp2_with fail
        refine (HM.out _).mono ?_
        rintro e w2 ⟨rfl, rfl⟩
        go_wp2_with fail
        refine (HF.out _ HB1.out).mono ?_
        rintro e w2 ⟨rfl, hb2⟩
        have HB2 := Lib.hid (bnext HB1.out hb2 (Nat.le_refl _))
        clear hb2
        go_wp2
        go_ret2
        exact ⟨rfl, HB2.out⟩
      · rw [hf] at HF
        go_enter Try.func11, Try.ntmps11
        go_wp2_with fail
        refine HC.out.mono ?_
        rintro e w1 ⟨rfl, hb1⟩
        have f0 : w1.cell? ⟨w.heap.size, 0, none⟩ = some (.int .i64 x0) := by rw [bcell1 hb1 (by simp <;> omega)]; simp [go_sem]
        have f1 : w1.cell? ⟨w.heap.size, 1, none⟩ = some (.slice a1 x1.length c1) := by rw [bcell1 hb1 (by simp <;> omega)]; simp [go_sem]
        have f2 : w1.cell? ⟨w.heap.size, 2, none⟩ = some (.slice a2 x2.length c2) := by rw [bcell1 hb1 (by simp <;> omega)]; simp [go_sem]
        have f3 : w1.cell? ⟨w.heap.size, 3, none⟩ = some (.slice a3 x3.length c3) := by rw [bcell1 hb1 (by simp <;> omega)]; simp [go_sem]
        have e0 : w1.cell? ⟨w.heap.size + 1, 0, none⟩ = some (.slice b0 y0.length d0) := by rw [bcell1 hb1 (by simp <;> omega)]; simp [go_sem]
        have e1 : w1.cell? ⟨w.heap.size + 1, 1, none⟩ = some (.slice b1 y1.length d1) := by rw [bcell1 hb1 (by simp <;> omega)]; simp [go_sem]
        have HB1 := Lib.hid (HB0.out.trans (hb1.mono (by simp <;> omega)))
        have zz : w.heap.size + 1 < w1.heap.size := World.block_lt_of_cell? w1 _ e0
        clear hb1
        go_wp2_with fail
        refine (HM.out _).mono ?_
        rintro e w2 ⟨rfl, rfl⟩
        go_wp2_with fail
        refine (HF.out _ HB1.out).mono ?_
        rintro e w2 ⟨rfl, hb2⟩
        have HB2 := Lib.hid (bnext HB1.out hb2 (Nat.le_refl _))
        replace f0 := (bcell1 hb2 (by omega)).trans f0
        replace f1 := (bcell1 hb2 (by omega)).trans f1
        replace f2 := (bcell1 hb2 (by omega)).trans f2
        replace f3 := (bcell1 hb2 (by omega)).trans f3
        replace e0 := (bcell1 hb2 (by omega)).trans e0
        replace e1 := (bcell1 hb2 (by omega)).trans e1
        clear hb2
        go_wp2_with fail
        refine (HI.out _ HB2.out).mono ?_
        rintro e w3 ⟨rfl, hb3⟩
        have HB3 := Lib.hid (bnext HB2.out hb3 (Nat.le_refl _))
        clear hb3
        go_wp2
        go_ret2
        exact ⟨rfl, HB3.out⟩
  · have ev : choiceS x0 x1 x2 x3 y0 y1 cs mode = (false, passCodeS x0 x1 x2 x3 y0 y1 cs) := by simp [choiceS, hcode]
    have hc1' : (passCodeS x0 x1 x2 x3 y0 y1 cs != 0) = true := by simpa using hcode
    have hc2' : (passCodeS x0 x1 x2 x3 y0 y1 cs == 0) = false := by simpa using hcode
    rw [ev]
    clear ev hcode h1 h2 h3 k0 k1 kc
    go_enter Try.func11, Try.ntmps11
    go_wp2_with fail
    refine HC.out.mono ?_
    rintro e w1 ⟨rfl, hb1⟩
    have HB1 := Lib.hid (HB0.out.trans (hb1.mono (by simp <;> omega)))
    clear hb1
    go_wp2
    go_ret2
    exact ⟨rfl, HB1.out⟩
theorem implIsPassChoice_d (x0 : Int) (x1 : List Int) (x2 : List Bool) (x3 : List PR) (y0 : List (List Int)) (y1 : List Int) (cs : List Int) (mode : Int) {v1 v2 v3 u0 u1 uc : Value} {F1 F2 F3 G0 G1 Gc : List Nat} (w : World) (h1 : Ow w (dI x1) v1 F1) (h2 : Ow w (dB x2) v2 F2) (h3 : Ow w (dPR x3) v3 F3) (k0 : Ow w (dII y0) u0 G0) (k1 : Ow w (dI y1) u1 G1) (kc : Ow w (dI cs) uc Gc) :
    Calls Try.prog 11 #[.agg #[.int .i64 x0, v1, v2, v3], .agg #[u0, u1], uc, .int .i64 mode] w (RetV w (.tuple #[.bool (choiceS x0 x1 x2 x3 y0 y1 cs mode).1, .int .i64 (choiceS x0 x1 x2 x3 y0 y1 cs mode).2])) := by
  obtain ⟨a1, c1, rfl, hc, k1'⟩ := h1.capI
  obtain ⟨a2, c2, rfl, k2'⟩ := Rd_B.1 h2.rdA
  have h3' := h3.rdA
  obtain ⟨a3, c3, rfl, _⟩ := Rd_PR h3'
  obtain ⟨b0, d0, rfl, j3⟩ := Rd_II.1 k0.rdA
  obtain ⟨b1, d1, rfl, j4⟩ := Rd_I.1 k1.rdA
  obtain ⟨bc, cc, rfl, j5⟩ := Rd_I.1 kc.rdA
  exact implIsPassChoice_c x0 x1 x2 x3 y0 y1 a1 a2 a3 b0 b1 c1 c2 c3 d0 d1 w k1' hc k2' h3' j3 j4 cs bc cc j5 mode
end Go.Proofs.Ytkjmehpehopncaa
