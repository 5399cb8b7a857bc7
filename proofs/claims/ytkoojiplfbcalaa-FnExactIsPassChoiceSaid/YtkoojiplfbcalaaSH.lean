/- CanPass and PassFits: the program's functions. -/
import Derived.Test.YtkoojiplfbcalaaSG
import Derived.Test.YtkoojiplfbcalaaSI
namespace Go.Proofs.Ytkoojiplfbcalaa
open Go.RowKit

theorem size_pr_c (a : Option Addr) (n c : Nat) (w : World) (_hn : n ≤ maxLen) : Calls Try.prog 85 #[.slice a n c] w (RetP w (.int .i64 n)) := by
  go_enter Try.func85, Try.ntmps85
  go_wp2
  go_ret
  exact ⟨rfl, rfl⟩
set_option maxHeartbeats 2000000 in
theorem fits_c (x0 : Int) (x1 : List Int) (x2 : List Bool) (x3 : List PR) (y0 : List (List Int)) (y1 : List Int) (a1 a2 a3 b0 b1 : Option Addr) (c1 c2 c3 d0 d1 : Nat) (w : World) (h1 : SlI Any w a1 x1) (h2 : SlB Any w a2 x2) (h3 : Rd Any w (dPR x3) (.slice a3 x3.length c3)) (k0 : SlII Any w b0 y0) (k1 : SlI Any w b1 y1) (cs : List Int) (bc : Option Addr) (cc : Nat) (kc : SlI Any w bc cs) (K0 : Nat) (hps : PsOk K0 x1 x2 x3) (hst : StOk K0 x1.length y0 y1) (hcl : cs.length = x3.length) (hcb : ∀ j, 0 ≤ nth cs j ∧ nth cs j ≤ 1001) :
    Calls Try.prog 71 #[.agg #[.int .i64 x0, .slice a1 x1.length c1, .slice a2 x2.length c2, .slice a3 x3.length c3], .agg #[.slice b0 y0.length d0, .slice b1 y1.length d1], .slice bc cs.length cc] w (RetV w (.bool (fitsB x1 x2 x3 (bagsS y0 y1) cs))) := by
  have hb0 : Below w.heap.size w ((w.alloc (.cells #[.int .i64 x0, .slice a1 x1.length c1, .slice a2 x2.length c2, .slice a3 x3.length c3] 36)).alloc (.cells #[.slice b0 y0.length d0, .slice b1 y1.length d1] 38)) := ((Below.refl _ _).alloc (Nat.le_refl _) _).alloc (by simp) _
  have HC := Lib.hid (changed_c x0 x1 x2 x3 y0 y1 a1 a2 a3 b0 b1 c1 c2 c3 d0 d1 ((w.alloc (.cells #[.int .i64 x0, .slice a1 x1.length c1, .slice a2 x2.length c2, .slice a3 x3.length c3] 36)).alloc (.cells #[.slice b0 y0.length d0, .slice b1 y1.length d1] 38)) (h1.below hb0) (h2.below hb0) (h3.below hb0) (k0.below hb0) (k1.below hb0) cs bc cc (kc.below hb0) K0 hps hst hcl hcb)
  have HE : Hid (fitsB x1 x2 x3 (bagsS y0 y1) cs = allII geB (takeTo x1 x2 x3 cs (bagsS y0 y1) x3.length)) := Lib.hid (by rw [fitsB, hcl])
  have HL : Hid (∀ j, j < (takeTo x1 x2 x3 cs (bagsS y0 y1) x3.length).length → 0 < (nthR (takeTo x1 x2 x3 cs (bagsS y0 y1) x3.length) j).length) := Lib.hid (fun j hj => by
    rw [takeTo_len, bagsS_len, hst.len] at hj
    rw [(takeTo_at hps hst hcb x3.length (Nat.le_refl _) j (by omega)).1]
    exact hps.k1)
  have HN : Hid ((takeTo x1 x2 x3 cs (bagsS y0 y1) x3.length).length = x1.length + 1) := Lib.hid (by rw [takeTo_len, bagsS_len, hst.len])
  have hp4 := hps.p4
  have HB0 := Lib.hid hb0
  rw [HE.out]
  generalize takeTo x1 x2 x3 cs (bagsS y0 y1) x3.length = L at *
  clear HE hb0 h1 h2 h3 k0 k1 kc hps hst hcl hcb
  go_enter Try.func71, Try.ntmps71
  go_wp2_with fail
  refine HC.out.mono ?_
  rintro e w1 ⟨g, c, rfl, hb1, hbg⟩
  have HB1 := Lib.hid (HB0.out.trans (hb1.mono (by simp <;> omega)))
  have HF := containsFuncII_v 142 #[] (fun b => !geB b) (callFunc_run Try.func142 (by kernel_rfl) rfl) Any (some ⟨g, 0, none⟩) c L w1 (hbg.slII (by unfold maxLen; omega)) (Lib.hid fun j hj a' c' w' _ hs => callsP (fits1_c a' c' _ w' hs (HL.out j hj)))
  rw [HN.out, anyII_not] at HF
  have HFF := Lib.hid HF
  clear hb1 hbg HF
  go_wp2_with fail
  refine HFF.out.mono ?_
  rintro e w2 ⟨rfl, hb2⟩
  have HB2 := Lib.hid (bnext HB1.out hb2 (Nat.le_refl _))
  clear hb2
  go_wp2
  go_ret
  exact ⟨ret_bool (by simp), HB2.out⟩
theorem passCode1_c (n : Int) (w : World) : Calls Try.prog 139 #[.int .i64 n] w (RetP w (.bool (!cntOk n))) := by
  go_enter Try.func139, Try.ntmps139
  go_wp2_with fail
  refine (inRange_c _ _ _ _).mono ?_
  rintro e w' ⟨rfl, rfl⟩
  go_wp2
  go_ret
  exact ⟨rfl, rfl⟩
set_option maxHeartbeats 2000000 in
theorem passCode_c (x0 : Int) (x1 : List Int) (x2 : List Bool) (x3 : List PR) (y0 : List (List Int)) (y1 : List Int) (a1 a2 a3 b0 b1 : Option Addr) (c1 c2 c3 d0 d1 : Nat) (w : World) (h1 : SlI Any w a1 x1) (hc1 : x1.length ≤ c1) (h2 : SlB Any w a2 x2) (h3 : Rd Any w (dPR x3) (.slice a3 x3.length c3)) (k0 : SlII Any w b0 y0) (k1 : SlI Any w b1 y1) (cs : List Int) (bc : Option Addr) (cc : Nat) (kc : SlI Any w bc cs) :
    Calls Try.prog 69 #[.agg #[.int .i64 x0, .slice a1 x1.length c1, .slice a2 x2.length c2, .slice a3 x3.length c3], .agg #[.slice b0 y0.length d0, .slice b1 y1.length d1], .slice bc cs.length cc] w (RetV w (.int .i64 (passCodeS x0 x1 x2 x3 y0 y1 cs))) := by
  have hb0 : Below w.heap.size w ((w.alloc (.cells #[.int .i64 x0, .slice a1 x1.length c1, .slice a2 x2.length c2, .slice a3 x3.length c3] 36)).alloc (.cells #[.slice b0 y0.length d0, .slice b1 y1.length d1] 38)) := ((Below.refl _ _).alloc (Nat.le_refl _) _).alloc (by simp) _
  have HC := Lib.hid (stockCode_c x0 x1 x2 x3 y0 y1 a1 a2 a3 b0 b1 c1 c2 c3 d0 d1 ((w.alloc (.cells #[.int .i64 x0, .slice a1 x1.length c1, .slice a2 x2.length c2, .slice a3 x3.length c3] 36)).alloc (.cells #[.slice b0 y0.length d0, .slice b1 y1.length d1] 38)) (h1.below hb0) hc1 (h2.below hb0) (h3.below hb0) (k0.below hb0) (k1.below hb0))
  have HCF := Lib.hid (fun wx (h : Below w.heap.size w wx) => containsFuncI_c 139 #[] (fun n => !cntOk n) (callFunc_run Try.func139 (by kernel_rfl) rfl) Any bc cc cs wx (kc.below h) (Lib.hid fun n => passCode1_c n wx))
  rw [anyB_not] at HCF
  have HB0 := Lib.hid hb0
  have lc := kc.len
  unfold maxLen at lc
  have h3' := h3
  obtain ⟨_, _, e3, k3⟩ := Rd_PR h3'
  cases e3
  have l3 := k3.len
  unfold maxLen at l3
  clear hb0 h1 h2 h3 k0 k1 kc h3' k3
  by_cases hcode : stCode x0 x1 x2 x3 y0 y1 = 0
  · rw [hcode] at HC
    by_cases hl : cs.length = x3.length
    · have hlb : ((cs.length : Int) != (x3.length : Int)) = false := by simp [hl]
      cases hp : allB cntOk cs
      · have HR : Hid (passCodeS x0 x1 x2 x3 y0 y1 cs = 2) := Lib.hid (by simp [passCodeS, hcode, bag6, hp, hl])
        rw [HR.out]
        rw [hp] at HCF
        clear hp hcode hl
        go_enter Try.func69, Try.ntmps69
        go_wp2_with fail
        refine HC.out.mono ?_
        rintro e w1 ⟨rfl, hb1⟩
        have f0 : w1.cell? ⟨w.heap.size, 0, none⟩ = some (.int .i64 x0) := by rw [bcell1 hb1 (by simp <;> omega)]; simp [go_sem]
        have f1 : w1.cell? ⟨w.heap.size, 1, none⟩ = some (.slice a1 x1.length c1) := by rw [bcell1 hb1 (by simp <;> omega)]; simp [go_sem]
        have f2 : w1.cell? ⟨w.heap.size, 2, none⟩ = some (.slice a2 x2.length c2) := by rw [bcell1 hb1 (by simp <;> omega)]; simp [go_sem]
        have f3 : w1.cell? ⟨w.heap.size, 3, none⟩ = some (.slice a3 x3.length c3) := by rw [bcell1 hb1 (by simp <;> omega)]; simp [go_sem]
        have e0 : w1.cell? ⟨w.heap.size + 1, 0, none⟩ = some (.slice b0 y0.length d0) := by rw [bcell1 hb1 (by simp <;> omega)]; simp [go_sem]
        have e1 : w1.cell? ⟨w.heap.size + 1, 1, none⟩ = some (.slice b1 y1.length d1) := by rw [bcell1 hb1 (by simp <;> omega)]; simp [go_sem]
        have HB1 := Lib.hid (HB0.out.trans (hb1.mono (by simp <;> omega)))
        clear hb1
        go_wp2_with fail
        refine (HCF.out w1 HB1.out).mono ?_
        rintro e w2 ⟨rfl, rfl⟩
        go_wp2
        go_ret
        exact ⟨rfl, HB1.out⟩
      · have HR : Hid (passCodeS x0 x1 x2 x3 y0 y1 cs = 0) := Lib.hid (by simp [passCodeS, hcode, bag6, hp, hl])
        rw [HR.out]
        rw [hp] at HCF
        clear hp hcode hl
        go_enter Try.func69, Try.ntmps69
        go_wp2_with fail
        refine HC.out.mono ?_
        rintro e w1 ⟨rfl, hb1⟩
        have f0 : w1.cell? ⟨w.heap.size, 0, none⟩ = some (.int .i64 x0) := by rw [bcell1 hb1 (by simp <;> omega)]; simp [go_sem]
        have f1 : w1.cell? ⟨w.heap.size, 1, none⟩ = some (.slice a1 x1.length c1) := by rw [bcell1 hb1 (by simp <;> omega)]; simp [go_sem]
        have f2 : w1.cell? ⟨w.heap.size, 2, none⟩ = some (.slice a2 x2.length c2) := by rw [bcell1 hb1 (by simp <;> omega)]; simp [go_sem]
        have f3 : w1.cell? ⟨w.heap.size, 3, none⟩ = some (.slice a3 x3.length c3) := by rw [bcell1 hb1 (by simp <;> omega)]; simp [go_sem]
        have e0 : w1.cell? ⟨w.heap.size + 1, 0, none⟩ = some (.slice b0 y0.length d0) := by rw [bcell1 hb1 (by simp <;> omega)]; simp [go_sem]
        have e1 : w1.cell? ⟨w.heap.size + 1, 1, none⟩ = some (.slice b1 y1.length d1) := by rw [bcell1 hb1 (by simp <;> omega)]; simp [go_sem]
        have HB1 := Lib.hid (HB0.out.trans (hb1.mono (by simp <;> omega)))
        clear hb1
        go_wp2_with fail
        refine (HCF.out w1 HB1.out).mono ?_
        rintro e w2 ⟨rfl, rfl⟩
        go_wp2
        go_ret
        exact ⟨rfl, HB1.out⟩
    · have hlb : ((cs.length : Int) != (x3.length : Int)) = true := by simp; omega
      have HR : Hid (passCodeS x0 x1 x2 x3 y0 y1 cs = 2) := Lib.hid (by
        have : ((cs.length : Int) == (x3.length : Int)) = false := by simp; omega
        simp [passCodeS, hcode, bag6, this])
      rw [HR.out]
      clear hcode hl
      go_enter Try.func69, Try.ntmps69
      go_wp2_with fail
      refine HC.out.mono ?_
      rintro e w1 ⟨rfl, hb1⟩
      have f0 : w1.cell? ⟨w.heap.size, 0, none⟩ = some (.int .i64 x0) := by rw [bcell1 hb1 (by simp <;> omega)]; simp [go_sem]
      have f1 : w1.cell? ⟨w.heap.size, 1, none⟩ = some (.slice a1 x1.length c1) := by rw [bcell1 hb1 (by simp <;> omega)]; simp [go_sem]
      have f2 : w1.cell? ⟨w.heap.size, 2, none⟩ = some (.slice a2 x2.length c2) := by rw [bcell1 hb1 (by simp <;> omega)]; simp [go_sem]
      have f3 : w1.cell? ⟨w.heap.size, 3, none⟩ = some (.slice a3 x3.length c3) := by rw [bcell1 hb1 (by simp <;> omega)]; simp [go_sem]
      have e0 : w1.cell? ⟨w.heap.size + 1, 0, none⟩ = some (.slice b0 y0.length d0) := by rw [bcell1 hb1 (by simp <;> omega)]; simp [go_sem]
      have e1 : w1.cell? ⟨w.heap.size + 1, 1, none⟩ = some (.slice b1 y1.length d1) := by rw [bcell1 hb1 (by simp <;> omega)]; simp [go_sem]
      have HB1 := Lib.hid (HB0.out.trans (hb1.mono (by simp <;> omega)))
      clear hb1
      go_wp2
      go_ret
      exact ⟨rfl, HB1.out⟩
  · have HR : Hid (passCodeS x0 x1 x2 x3 y0 y1 cs = stCode x0 x1 x2 x3 y0 y1) := Lib.hid (by simp [passCodeS, hcode])
    have hc1' : (stCode x0 x1 x2 x3 y0 y1 == 0) = false := by simpa using hcode
    rw [HR.out]
    clear hcode
    go_enter Try.func69, Try.ntmps69
    go_wp2_with fail
    refine HC.out.mono ?_
    rintro e w1 ⟨rfl, hb1⟩
    have HB1 := Lib.hid (HB0.out.trans (hb1.mono (by simp <;> omega)))
    clear hb1
    go_wp2
    go_ret
    exact ⟨rfl, HB1.out⟩
set_option maxHeartbeats 2000000 in
theorem implPassFits_c (x0 : Int) (x1 : List Int) (x2 : List Bool) (x3 : List PR) (y0 : List (List Int)) (y1 : List Int) (a1 a2 a3 b0 b1 : Option Addr) (c1 c2 c3 d0 d1 : Nat) (w : World) (h1 : SlI Any w a1 x1) (hc1 : x1.length ≤ c1) (h2 : SlB Any w a2 x2) (h3 : Rd Any w (dPR x3) (.slice a3 x3.length c3)) (k0 : SlII Any w b0 y0) (k1 : SlI Any w b1 y1) (cs : List Int) (bc : Option Addr) (cc : Nat) (kc : SlI Any w bc cs) :
    Calls Try.prog 23 #[.agg #[.int .i64 x0, .slice a1 x1.length c1, .slice a2 x2.length c2, .slice a3 x3.length c3], .agg #[.slice b0 y0.length d0, .slice b1 y1.length d1], .slice bc cs.length cc] w (RetV w (.tuple #[.bool (passFitsS x0 x1 x2 x3 y0 y1 cs).1, .int .i64 (passFitsS x0 x1 x2 x3 y0 y1 cs).2])) := by
  have hb0 : Below w.heap.size w ((w.alloc (.cells #[.int .i64 x0, .slice a1 x1.length c1, .slice a2 x2.length c2, .slice a3 x3.length c3] 36)).alloc (.cells #[.slice b0 y0.length d0, .slice b1 y1.length d1] 38)) := ((Below.refl _ _).alloc (Nat.le_refl _) _).alloc (by simp) _
  have HC := Lib.hid (passCode_c x0 x1 x2 x3 y0 y1 a1 a2 a3 b0 b1 c1 c2 c3 d0 d1 ((w.alloc (.cells #[.int .i64 x0, .slice a1 x1.length c1, .slice a2 x2.length c2, .slice a3 x3.length c3] 36)).alloc (.cells #[.slice b0 y0.length d0, .slice b1 y1.length d1] 38)) (h1.below hb0) hc1 (h2.below hb0) (h3.below hb0) (k0.below hb0) (k1.below hb0) cs bc cc (kc.below hb0))
  have HB0 := Lib.hid hb0
  clear hb0
  by_cases hcode : passCodeS x0 x1 x2 x3 y0 y1 cs = 0
  · have hok := passCode_ok hcode
    obtain ⟨K, hxK, hps, hst⟩ := stockAll_ok (stCode_ok hok.1)
    have hcs := bag6_ok hok.2
    have ev : passFitsS x0 x1 x2 x3 y0 y1 cs = (fitsB x1 x2 x3 (bagsS y0 y1) cs, 0) := by simp [passFitsS, hcode]
    have HF := Lib.hid (fun wx (h : Below w.heap.size w wx) => fits_c x0 x1 x2 x3 y0 y1 a1 a2 a3 b0 b1 c1 c2 c3 d0 d1 wx (h1.below h) (h2.below h) (h3.below h) (k0.below h) (k1.below h) cs bc cc (kc.below h) K hps hst hcs.1 (fun j => by have := hcs.2 j; omega))
    rw [ev]
    rw [hcode] at HC
    clear ev hcode hok hps hst hcs h1 h2 h3 k0 k1 kc hxK
    go_enter Try.func23, Try.ntmps23
    go_wp2_with fail
    refine HC.out.mono ?_
    rintro e w1 ⟨rfl, hb1⟩
    have f0 : w1.cell? ⟨w.heap.size, 0, none⟩ = some (.int .i64 x0) := by rw [bcell1 hb1 (by simp <;> omega)]; simp [go_sem]
    have f1 : w1.cell? ⟨w.heap.size, 1, none⟩ = some (.slice a1 x1.length c1) := by rw [bcell1 hb1 (by simp <;> omega)]; simp [go_sem]
    have f2 : w1.cell? ⟨w.heap.size, 2, none⟩ = some (.slice a2 x2.length c2) := by rw [bcell1 hb1 (by simp <;> omega)]; simp [go_sem]
    have f3 : w1.cell? ⟨w.heap.size, 3, none⟩ = some (.slice a3 x3.length c3) := by rw [bcell1 hb1 (by simp <;> omega)]; simp [go_sem]
    have e0 : w1.cell? ⟨w.heap.size + 1, 0, none⟩ = some (.slice b0 y0.length d0) := by rw [bcell1 hb1 (by simp <;> omega)]; simp [go_sem]
    have e1 : w1.cell? ⟨w.heap.size + 1, 1, none⟩ = some (.slice b1 y1.length d1) := by rw [bcell1 hb1 (by simp <;> omega)]; simp [go_sem]
    have HB1 := Lib.hid (HB0.out.trans (hb1.mono (by simp <;> omega)))
    clear hb1
    go_wp2_with fail
    refine (HF.out w1 HB1.out).mono ?_
    rintro e w2 ⟨rfl, hb2⟩
    have HB2 := Lib.hid (bnext HB1.out hb2 (Nat.le_refl _))
    clear hb2
    go_wp2
    go_ret2
    exact ⟨rfl, HB2.out⟩
  · have ev : passFitsS x0 x1 x2 x3 y0 y1 cs = (false, passCodeS x0 x1 x2 x3 y0 y1 cs) := by simp [passFitsS, hcode]
    have hc1' : (passCodeS x0 x1 x2 x3 y0 y1 cs != 0) = true := by simpa using hcode
    rw [ev]
    clear ev hcode h1 h2 h3 k0 k1 kc
    go_enter Try.func23, Try.ntmps23
    go_wp2_with fail
    refine HC.out.mono ?_
    rintro e w1 ⟨rfl, hb1⟩
    have HB1 := Lib.hid (HB0.out.trans (hb1.mono (by simp <;> omega)))
    clear hb1
    go_wp2
    go_ret2
    exact ⟨rfl, HB1.out⟩
set_option maxHeartbeats 4000000 in
set_option maxRecDepth 100000 in
theorem implCanPass_c (x0 : Int) (x1 : List Int) (x2 : List Bool) (x3 : List PR) (y0 : List (List Int)) (y1 : List Int) (a1 a2 a3 b0 b1 : Option Addr) (c1 c2 c3 d0 d1 : Nat) (k : Int) (w : World) (h1 : SlI Any w a1 x1) (hc1 : x1.length ≤ c1) (h2 : SlB Any w a2 x2) (h3 : Rd Any w (dPR x3) (.slice a3 x3.length c3)) (k0 : SlII Any w b0 y0) (k1 : SlI Any w b1 y1) :
    Calls Try.prog 29 #[.agg #[.int .i64 x0, .slice a1 x1.length c1, .slice a2 x2.length c2, .slice a3 x3.length c3], .agg #[.slice b0 y0.length d0, .slice b1 y1.length d1], .int .i64 k] w (RetV w (.tuple #[.bool (canPassS x0 x1 x2 x3 y0 y1 k).1, .int .i64 (canPassS x0 x1 x2 x3 y0 y1 k).2])) := by
  have hb0 : Below w.heap.size w ((w.alloc (.cells #[.int .i64 x0, .slice a1 x1.length c1, .slice a2 x2.length c2, .slice a3 x3.length c3] 36)).alloc (.cells #[.slice b0 y0.length d0, .slice b1 y1.length d1] 38)) := ((Below.refl _ _).alloc (Nat.le_refl _) _).alloc (by simp) _
  have HC := Lib.hid (stockCode_c x0 x1 x2 x3 y0 y1 a1 a2 a3 b0 b1 c1 c2 c3 d0 d1 ((w.alloc (.cells #[.int .i64 x0, .slice a1 x1.length c1, .slice a2 x2.length c2, .slice a3 x3.length c3] 36)).alloc (.cells #[.slice b0 y0.length d0, .slice b1 y1.length d1] 38)) (h1.below hb0) hc1 (h2.below hb0) (h3.below hb0) (k0.below hb0) (k1.below hb0))
  have HB0 := Lib.hid hb0
  have h3' := h3
  obtain ⟨_, _, e3, k3⟩ := Rd_PR h3'
  cases e3
  have l3 := k3.len
  clear hb0 h3' k3
  by_cases hcode : stCode x0 x1 x2 x3 y0 y1 = 0
  · obtain ⟨K, hxK, hps, hst⟩ := stockAll_ok (stCode_ok hcode)
    have h8 := hps.r8
    have hw64 : IntKind.i64.wrap ((x3.length : Int) - 1) = (x3.length : Int) - 1 := by rw [wrap_64]; unfold wrap64; omega
    rw [hcode] at HC
    cases hin : inRg k 0 ((x3.length : Int) - 1)
    · have ev : canPassS x0 x1 x2 x3 y0 y1 k = (false, 2) := by simp [canPassS, hcode, hin]
      rw [ev]
      clear ev hcode hps hst h1 h2 h3 k0 k1 hxK
      go_enter Try.func29, Try.ntmps29
      go_wp2_with fail
      refine HC.out.mono ?_
      rintro e w1 ⟨rfl, hb1⟩
      have f0 : w1.cell? ⟨w.heap.size, 0, none⟩ = some (.int .i64 x0) := by rw [bcell1 hb1 (by simp <;> omega)]; simp [go_sem]
      have f1 : w1.cell? ⟨w.heap.size, 1, none⟩ = some (.slice a1 x1.length c1) := by rw [bcell1 hb1 (by simp <;> omega)]; simp [go_sem]
      have f2 : w1.cell? ⟨w.heap.size, 2, none⟩ = some (.slice a2 x2.length c2) := by rw [bcell1 hb1 (by simp <;> omega)]; simp [go_sem]
      have f3 : w1.cell? ⟨w.heap.size, 3, none⟩ = some (.slice a3 x3.length c3) := by rw [bcell1 hb1 (by simp <;> omega)]; simp [go_sem]
      have e0 : w1.cell? ⟨w.heap.size + 1, 0, none⟩ = some (.slice b0 y0.length d0) := by rw [bcell1 hb1 (by simp <;> omega)]; simp [go_sem]
      have e1 : w1.cell? ⟨w.heap.size + 1, 1, none⟩ = some (.slice b1 y1.length d1) := by rw [bcell1 hb1 (by simp <;> omega)]; simp [go_sem]
      have HB1 := Lib.hid (HB0.out.trans (hb1.mono (by simp <;> omega)))
      clear hb1
      go_wp2_with fail
      refine (size_pr_c _ _ _ _ l3).mono ?_
      rintro e w2 ⟨rfl, rfl⟩
      go_wp2_with fail
      refine (inRange_c _ _ _ _).mono ?_
      rintro e w2 ⟨rfl, rfl⟩
      go_wp2
      go_ret2
      exact ⟨rfl, HB1.out⟩
    · have ev : canPassS x0 x1 x2 x3 y0 y1 k = (fitsB x1 x2 x3 (bagsS y0 y1) ((List.replicate x3.length 0).set k.toNat 1), 0) := by simp [canPassS, hcode, hin]
      have hk : 0 ≤ k ∧ k < x3.length := by simp [inRg] at hin; omega
      obtain ⟨L, hL⟩ : ∃ L, L = (List.replicate x3.length (0 : Int)).set k.toNat 1 := ⟨_, rfl⟩
      have hLl : L.length = x3.length := by rw [hL]; simp
      have hLb : ∀ j, 0 ≤ nth L j ∧ nth L j ≤ 1001 := fun j => by rw [hL]; exact one_ok j
      have HF := Lib.hid (fun wx b c (h : Below w.heap.size w wx) (kc : SlI Any wx b L) => fits_c x0 x1 x2 x3 y0 y1 a1 a2 a3 b0 b1 c1 c2 c3 d0 d1 wx (h1.below h) (h2.below h) (h3.below h) (k0.below h) (k1.below h) L b c kc K hps hst hLl hLb)
      rw [hLl] at HF
      rw [ev, ← hL]
      have HL := Lib.hid hL
      have HLL := Lib.hid hLl
      clear ev hcode hps hst h1 h2 h3 k0 k1 hxK hL hLl hLb
      go_enter Try.func29, Try.ntmps29
      go_wp2_with fail
      refine HC.out.mono ?_
      rintro e w1 ⟨rfl, hb1⟩
      have f0 : w1.cell? ⟨w.heap.size, 0, none⟩ = some (.int .i64 x0) := by rw [bcell1 hb1 (by simp <;> omega)]; simp [go_sem]
      have f1 : w1.cell? ⟨w.heap.size, 1, none⟩ = some (.slice a1 x1.length c1) := by rw [bcell1 hb1 (by simp <;> omega)]; simp [go_sem]
      have f2 : w1.cell? ⟨w.heap.size, 2, none⟩ = some (.slice a2 x2.length c2) := by rw [bcell1 hb1 (by simp <;> omega)]; simp [go_sem]
      have f3 : w1.cell? ⟨w.heap.size, 3, none⟩ = some (.slice a3 x3.length c3) := by rw [bcell1 hb1 (by simp <;> omega)]; simp [go_sem]
      have e0 : w1.cell? ⟨w.heap.size + 1, 0, none⟩ = some (.slice b0 y0.length d0) := by rw [bcell1 hb1 (by simp <;> omega)]; simp [go_sem]
      have e1 : w1.cell? ⟨w.heap.size + 1, 1, none⟩ = some (.slice b1 y1.length d1) := by rw [bcell1 hb1 (by simp <;> omega)]; simp [go_sem]
      have HB1 := Lib.hid (HB0.out.trans (hb1.mono (by simp <;> omega)))
      have zz : w.heap.size + 1 < w1.heap.size := World.block_lt_of_cell? w1 _ e0
      clear hb1
      go_wp2_with fail
      refine (size_pr_c _ _ _ _ l3).mono ?_
      rintro e w2 ⟨rfl, rfl⟩
      go_wp2_with fail
      refine (inRange_c _ _ _ _).mono ?_
      rintro e w2 ⟨rfl, rfl⟩
      go_wp2_with (refine make_one rfl _ _ 22 rfl tabI rfl (by decide) x3.length x3.length x3.length rfl rfl rfl rfl (by omega) w1.heap.size (Nat.le_refl _) ?_)
      intro w3 hbl hb3 _
      have hrep : ((List.replicate x3.length (0 : Int)).map (Value.int .i64)) = List.replicate x3.length (.int .i64 0) := by simp
      rw [← hrep] at hbl
      have hbs := hbl.set_nth k.toNat 1
      rw [← HL.out] at hbs
      have HB3 := Lib.hid (HB1.out.trans (hb3.mono (by have := HB1.out.size; omega)))
      have hb3s := hb3.setCell (p := ⟨w1.heap.size, k.toNat, none⟩) (Nat.le_refl _) (.int .i64 1)
      have hsl : SlI Any (w3.setCell ⟨w1.heap.size, k.toNat, none⟩ (.int .i64 1)) (some ⟨w1.heap.size, 0, none⟩) L := (SlI.ofBld (c := x3.length) (n := x3.length) hbs (by rw [HLL.out]; exact l3)).any
      have HS := Lib.hid hsl
      have HB4 := Lib.hid (HB1.out.trans (hb3s.mono (by have := HB1.out.size; omega)))
      have z3 := hbl.free k.toNat
      have g3 := hbl.at_nth (i := k.toNat) (by simp; omega)
      have i3 := ix_of (P := Try.prog) tabI.under tabI.size (a := some ⟨w1.heap.size, 0, none⟩) (n := x3.length) (fun _ => ⟨_, 0, rfl⟩) x3.length
      simp only [Nat.mul_one, adr, blk, ofs, Nat.zero_add] at i3
      have i4 := fun w' => i3 k w' hk.1 hk.2
      have hlt3 : ∀ q, w1.heap.size ≠ q → True := fun _ _ => trivial
      have F0 := (bcell1 hb3s (by omega)).trans f0
      have F1 := (bcell1 hb3s (by omega)).trans f1
      have F2 := (bcell1 hb3s (by omega)).trans f2
      have F3 := (bcell1 hb3s (by omega)).trans f3
      have E0 := (bcell1 hb3s (by omega)).trans e0
      have E1 := (bcell1 hb3s (by omega)).trans e1
      clear hbl hbs hb3 hb3s hsl hrep i3 hlt3 f0 f1 f2 f3 e0 e1
      go_wp2_with fail
      refine (HF.out _ _ _ HB4.out HS.out).mono ?_
      rintro e w5 ⟨rfl, hb5⟩
      have HB5 := Lib.hid (bnext HB4.out hb5 (Nat.le_refl _))
      clear hb5
      go_wp2
      go_ret2
      exact ⟨rfl, HB5.out⟩
  · have ev : canPassS x0 x1 x2 x3 y0 y1 k = (false, stCode x0 x1 x2 x3 y0 y1) := by simp [canPassS, hcode]
    have hc1' : (stCode x0 x1 x2 x3 y0 y1 == 0) = false := by simpa using hcode
    have hc2' : (stCode x0 x1 x2 x3 y0 y1 != 0) = true := by simpa using hcode
    rw [ev]
    clear ev hcode h1 h2 h3 k0 k1
    go_enter Try.func29, Try.ntmps29
    go_wp2_with fail
    refine HC.out.mono ?_
    rintro e w1 ⟨rfl, hb1⟩
    have HB1 := Lib.hid (HB0.out.trans (hb1.mono (by simp <;> omega)))
    clear hb1
    go_wp2
    go_ret2
    exact ⟨rfl, HB1.out⟩
theorem implPassFits_d (x0 : Int) (x1 : List Int) (x2 : List Bool) (x3 : List PR) (y0 : List (List Int)) (y1 : List Int) (cs : List Int) {v1 v2 v3 u0 u1 uc : Value} {F1 F2 F3 G0 G1 Gc : List Nat} (w : World) (h1 : Ow w (dI x1) v1 F1) (h2 : Ow w (dB x2) v2 F2) (h3 : Ow w (dPR x3) v3 F3) (k0 : Ow w (dII y0) u0 G0) (k1 : Ow w (dI y1) u1 G1) (kc : Ow w (dI cs) uc Gc) :
    Calls Try.prog 23 #[.agg #[.int .i64 x0, v1, v2, v3], .agg #[u0, u1], uc] w (RetV w (.tuple #[.bool (passFitsS x0 x1 x2 x3 y0 y1 cs).1, .int .i64 (passFitsS x0 x1 x2 x3 y0 y1 cs).2])) := by
  obtain ⟨a1, c1, rfl, hc, k1'⟩ := h1.capI
  obtain ⟨a2, c2, rfl, k2'⟩ := Rd_B.1 h2.rdA
  have h3' := h3.rdA
  obtain ⟨a3, c3, rfl, _⟩ := Rd_PR h3'
  obtain ⟨b0, d0, rfl, j3⟩ := Rd_II.1 k0.rdA
  obtain ⟨b1, d1, rfl, j4⟩ := Rd_I.1 k1.rdA
  obtain ⟨bc, cc, rfl, j5⟩ := Rd_I.1 kc.rdA
  exact implPassFits_c x0 x1 x2 x3 y0 y1 a1 a2 a3 b0 b1 c1 c2 c3 d0 d1 w k1' hc k2' h3' j3 j4 cs bc cc j5
theorem specPassFits_d (x0 : Int) (x1 : List Int) (x2 : List Bool) (x3 : List PR) (y0 : List (List Int)) (y1 : List Int) (cs : List Int) {v1 v2 v3 u0 u1 uc : Value} (w : World) (h1 : Rd Any w (dI x1) v1) (h2 : Rd Any w (dB x2) v2) (h3 : Rd Any w (dPR x3) v3) (k0 : Rd Any w (dII y0) u0) (k1 : Rd Any w (dI y1) u1) (kc : Rd Any w (dI cs) uc) :
    Calls Try.prog 24 #[.agg #[.int .i64 x0, v1, v2, v3], .agg #[u0, u1], uc] w (RetV w (.tuple #[.bool (passFitsS x0 x1 x2 x3 y0 y1 cs).1, .int .i64 (passFitsS x0 x1 x2 x3 y0 y1 cs).2])) := by
  obtain ⟨a1, c1, rfl, k1'⟩ := Rd_I.1 h1
  obtain ⟨a2, c2, rfl, k2'⟩ := Rd_B.1 h2
  have h3' := h3
  obtain ⟨a3, c3, rfl, _⟩ := Rd_PR h3'
  obtain ⟨b0, d0, rfl, j3⟩ := Rd_II.1 k0
  obtain ⟨b1, d1, rfl, j4⟩ := Rd_I.1 k1
  obtain ⟨bc, cc, rfl, j5⟩ := Rd_I.1 kc
  exact specPassFits_c x0 x1 x2 x3 y0 y1 a1 a2 a3 b0 b1 c1 c2 c3 d0 d1 w k1' k2' h3' j3 j4 cs bc cc j5
theorem implCanPass_d (x0 : Int) (x1 : List Int) (x2 : List Bool) (x3 : List PR) (y0 : List (List Int)) (y1 : List Int) (k : Int) {v1 v2 v3 u0 u1 : Value} {F1 F2 F3 G0 G1 : List Nat} (w : World) (h1 : Ow w (dI x1) v1 F1) (h2 : Ow w (dB x2) v2 F2) (h3 : Ow w (dPR x3) v3 F3) (k0 : Ow w (dII y0) u0 G0) (k1 : Ow w (dI y1) u1 G1)  :
    Calls Try.prog 29 #[.agg #[.int .i64 x0, v1, v2, v3], .agg #[u0, u1], .int .i64 k] w (RetV w (.tuple #[.bool (canPassS x0 x1 x2 x3 y0 y1 k).1, .int .i64 (canPassS x0 x1 x2 x3 y0 y1 k).2])) := by
  obtain ⟨a1, c1, rfl, hc, k1'⟩ := h1.capI
  obtain ⟨a2, c2, rfl, k2'⟩ := Rd_B.1 h2.rdA
  have h3' := h3.rdA
  obtain ⟨a3, c3, rfl, _⟩ := Rd_PR h3'
  obtain ⟨b0, d0, rfl, j3⟩ := Rd_II.1 k0.rdA
  obtain ⟨b1, d1, rfl, j4⟩ := Rd_I.1 k1.rdA
  exact implCanPass_c x0 x1 x2 x3 y0 y1 a1 a2 a3 b0 b1 c1 c2 c3 d0 d1 k w k1' hc k2' h3' j3 j4
