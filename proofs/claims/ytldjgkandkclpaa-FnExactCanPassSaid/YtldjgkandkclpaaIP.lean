/- Whether weights are an invariant: contracts. -/
import Derived.Test.YtldjgkandkclpaaTK
namespace Go.Proofs.Ytldjgkandkclpaa
open Go.RowKit

def isPassInvS (x0 : Int) (x1 : List Int) (x2 : List Bool) (x3 : List PR) (ws : List (List Int)) : Bool × Int :=
  if okPass x0 x1 x2 x3 = true then (if areW x0 x1.length ws = true then (freeZero x2 (nthR ws x1.length) && allPR (invRule x1 ws) x3, 0) else (false, 2)) else (false, 1)
theorem isPassInv_bad {x0 : Int} {x1 : List Int} {x2 : List Bool} {x3 : List PR} {ws : List (List Int)} (h : okPass x0 x1 x2 x3 = false) : isPassInvS x0 x1 x2 x3 ws = (false, 1) := by simp [isPassInvS, h]
theorem isPassInv_two {x0 : Int} {x1 : List Int} {x2 : List Bool} {x3 : List PR} {ws : List (List Int)} (h : okPass x0 x1 x2 x3 = true) (h2 : areW x0 x1.length ws = false) : isPassInvS x0 x1 x2 x3 ws = (false, 2) := by simp [isPassInvS, h, h2]
theorem isPassInv_fine {x0 : Int} {x1 : List Int} {x2 : List Bool} {x3 : List PR} {ws : List (List Int)} (h : okPass x0 x1 x2 x3 = true) (h2 : areW x0 x1.length ws = true) : isPassInvS x0 x1 x2 x3 ws = (freeZero x2 (nthR ws x1.length) && allPR (invRule x1 ws) x3, 0) := by simp [isPassInvS, h, h2]
set_option maxHeartbeats 1000000 in
theorem parent_c (x0 : Int) (x1 : List Int) (a1 : Option Addr) (c1 : Nat) (v2 v3 : Value) (c : Int) (w : World) (h1 : SlI Any w a1 x1) (hc : 0 ≤ c ∧ c < x1.length) :
    Calls Try.prog 94 #[.agg #[.int .i64 x0, .slice a1 x1.length c1, v2, v3], .int .i64 c] w (RetV w (.int .i64 (upS x1 c))) := by
  have hb0 := below_alloc w (.cells #[.int .i64 x0, .slice a1 x1.length c1, v2, v3] 30)
  have l1 := h1.len
  have HO := Lib.hid (outside_c x0 x1.length c1 a1 v2 v3 (w.alloc (.cells #[.int .i64 x0, .slice a1 x1.length c1, v2, v3] 30)) l1)
  have i1 := fun w' => h1.ix tabI.under tabI.size c1 c w' hc.1 hc.2
  have g1 := (h1.below hb0).cell c.toNat (by omega)
  have HB0 := Lib.hid hb0
  clear hb0 h1
  by_cases e : c = 0
  · have e2 : upS x1 c = x1.length := by simp [upS, e]
    have e3 : (c == 0) = true := by simpa using e
    rw [e2]
    clear e2 e g1 i1
    go_enter Try.func94, Try.ntmps94
    go_wp2_with fail
    refine HO.out.mono ?_
    rintro e w1 ⟨rfl, hb1⟩
    have HB1 := Lib.hid (HB0.out.trans (hb1.mono (by simp <;> omega)))
    clear hb1
    go_wp2
    go_ret
    exact ⟨rfl, HB1.out⟩
  · have e2 : upS x1 c = nth x1 c.toNat := by simp [upS, e]
    have e3 : (c == 0) = false := by simpa using e
    rw [e2]
    clear e2 e
    go_enter Try.func94, Try.ntmps94
    go_wp2
    go_ret
    exact ⟨rfl, HB0.out⟩
set_option maxHeartbeats 4000000 in
theorem isPassInvariant1_c (K : Nat) (x0 : Int) (x1 : List Int) (a1 : Option Addr) (c1 : Nat) (v2 v3 : Value) (r : PR) (u1 u2 b : Option Addr) (e1 e2 d : Nat) (ws : List (List Int)) (pw pp : Nat) (w : World) (h1 : SlI Any w a1 x1) (kw : SlII Any w b ws) (k1 : SlI Any w u1 r.out) (k2 : SlI Any w u2 r.inn)
    (hw0 : w.cell? ⟨pw, 0, none⟩ = some (.slice b ws.length d)) (hp0 : w.cell? ⟨pp, 0, none⟩ = some (.int .i64 x0)) (hp1 : w.cell? ⟨pp, 1, none⟩ = some (.slice a1 x1.length c1)) (hp2 : w.cell? ⟨pp, 2, none⟩ = some v2) (hp3 : w.cell? ⟨pp, 3, none⟩ = some v3)
    (hc : 0 ≤ r.cell ∧ r.cell < x1.length) (hU : upS x1 r.cell = (upN x1 r : Int)) (hUl : upN x1 r ≤ x1.length) (hwl : ws.length = x1.length + 1) (hwk : ∀ i, i < ws.length → (nthR ws i).length = K) (ho : r.out.length = K) (hi : r.inn.length = K) (hK : K ≤ 8) :
    Calls Try.prog 91 #[.agg #[.int .i64 r.cell, .slice u1 r.out.length e1, .slice u2 r.inn.length e2], .pointer (some ⟨pw, 0, none⟩), .pointer (some ⟨pp, 0, none⟩)] w (RetV w (.bool (!invRule x1 ws r))) := by
  have hb0 := below_alloc w (.cells #[.int .i64 r.cell, .slice u1 r.out.length e1, .slice u2 r.inn.length e2] 110)
  have HPL := Lib.hid (plus_c Any u1 u2 e1 e2 r.out r.inn (-1) _ (k1.below hb0) (k2.below hb0) (by omega) (by omega))
  have zw := World.block_lt_of_cell? w _ hw0
  have zp := World.block_lt_of_cell? w _ hp0
  have HB0 := Lib.hid hb0
  have H1 := Lib.hid h1
  have KW := Lib.hid kw
  have HWK := Lib.hid hwk
  have HWL := Lib.hid hwl
  have HU := Lib.hid hU
  have HGL : Hid ((goesS r).length = K ∧ K ≤ 8) := Lib.hid ⟨by rw [goesS, plusS_len, ho], hK⟩
  have hcn : r.cell = (cellN r : Int) := by unfold cellN; omega
  have hu0 : (upN x1 r : Int) < ws.length := by omega
  have hcl : r.cell < ws.length := by omega
  have hcx : cellN r < ws.length := by omega
  have hux : upN x1 r < ws.length := by omega
  have i1 := fun w' => kw.ix tabII.under tabII.size d r.cell w' hc.1 hcl
  have i2 := fun w' => kw.ix tabII.under tabII.size d (upN x1 r : Int) w' (by omega) hu0
  rw [show r.cell.toNat = cellN r from rfl] at i1
  rw [Int.toNat_natCast] at i2
  clear h1 kw k1 k2 hb0 hwk hwl hU ho hi hK hcn
  go_enter Try.func91, Try.ntmps91
  go_wp2_with fail
  refine HPL.out.mono ?_
  intro e w1 h
  obtain ⟨v, F, rfl, hb1, ho, _, _⟩ := h
  obtain ⟨ag, cg, rfl⟩ := ho.val
  have r0 : w1.cell? ⟨w.heap.size, 0, none⟩ = some (.int .i64 r.cell) := by rw [bcell1 hb1 (by simp)]; simp [go_sem]
  have hbw := HB0.out.trans (hb1.mono (by simp <;> omega))
  have q0 := wat_cell ((bcell1 hbw zw).trans hw0)
  have q1 := wat_cell ((bcell1 hbw zp).trans hp0)
  have q2 := wat_cell ((bcell1 hbw zp).trans hp1)
  have q3 := wat_cell ((bcell1 hbw zp).trans hp2)
  have q4 := wat_cell ((bcell1 hbw zp).trans hp3)
  have q5 := wat_cell r0
  obtain ⟨aw, cw, gw, hsw⟩ := (KW.out.below hbw).cell (cellN r) hcx
  obtain ⟨au, cu, gu, hsu⟩ := (KW.out.below hbw).cell (upN x1 r) hux
  have q6 := wat_cell gw
  have q7 := wat_cell gu
  have hgs : SlI Any w1 ag (goesS r) := ho.arg
  have HW1 := Lib.hid (fun x : Wd w1 => weigh_c Any ag aw cg cw (goesS r) (nthR ws (cellN r)) (wat x) (hgs.below (wat_below x)) (hsw.any.below (wat_below x)) (by rw [HGL.out.1, HWK.out _ hcx]; exact Nat.le_refl _) (by have := HGL.out; omega))
  have HW2 := Lib.hid (fun x : Wd w1 => weigh_c Any ag au cg cu (goesS r) (nthR ws (upN x1 r)) (wat x) (hgs.below (wat_below x)) (hsu.any.below (wat_below x)) (by rw [HGL.out.1, HWK.out _ hux]; exact Nat.le_refl _) (by have := HGL.out; omega))
  have HPA := Lib.hid (fun x : Wd w1 => parent_c x0 x1 a1 c1 v2 v3 r.cell (wat x) ((H1.out.below hbw).below (wat_below x)) hc)
  rw [HU.out] at HPA
  have HBW := Lib.hid hbw
  have hgl : (plusS r.out r.inn (-1)).length = (goesS r).length := rfl
  simp only [hgl]
  clear hgl hb1 ho hbw r0 gw gu hsw hsu hgs hw0 hp0 hp1 hp2 hp3
  go_wp2
  refine wp_quiet_wd (by kernel_rfl) (by kernel_rfl) ?_
  repeat (go_big_quiet_step (first | with_reducible exact wdV (HW1.out _) | with_reducible exact wdV (HPA.out _) | with_reducible exact wdV (HW2.out _)))
  refine wpQuiet_nil ?_
  rintro _ ⟨wq, rfl⟩
  have HB3 := Lib.hid (bnext HBW.out (wat_below wq) (Nat.le_refl _))
  clear q0 q1 q2 q3 q4 q5 q6 q7
  go_wp2
  go_ret
  exact ⟨ret_bool (by simp [invRule, bne]), HB3.out⟩
set_option maxHeartbeats 8000000 in
set_option maxRecDepth 100000 in
theorem implIsPassInvariant_c (x0 : Int) (x1 : List Int) (x2 : List Bool) (x3 : List PR) (a1 a2 a3 b : Option Addr) (c1 c2 c3 d : Nat) (ws : List (List Int)) (w : World) (h1 : SlI Any w a1 x1) (hc1 : x1.length ≤ c1) (h2 : SlB Any w a2 x2) (h3 : Rd Any w (dPR x3) (.slice a3 x3.length c3)) (kw : SlII Any w b ws) :
    Calls Try.prog 23 #[.agg #[.int .i64 x0, .slice a1 x1.length c1, .slice a2 x2.length c2, .slice a3 x3.length c3], .slice b ws.length d] w (RetV w (.tuple #[.bool (isPassInvS x0 x1 x2 x3 ws).1, .int .i64 (isPassInvS x0 x1 x2 x3 ws).2])) := by
  have hb0 : Below w.heap.size w ((w.alloc (.cells #[.int .i64 x0, .slice a1 x1.length c1, .slice a2 x2.length c2, .slice a3 x3.length c3] 30)).alloc (.cells #[.slice b ws.length d] 37)) := ((Below.refl _ _).alloc (Nat.le_refl _) _).alloc (by simp) _
  have HP := Lib.hid (validPassing_c x0 x1 x2 x3 a1 a2 a3 c1 c2 c3 ((w.alloc (.cells #[.int .i64 x0, .slice a1 x1.length c1, .slice a2 x2.length c2, .slice a3 x3.length c3] 30)).alloc (.cells #[.slice b ws.length d] 37)) (h1.below hb0) hc1 (h2.below hb0) (h3.below hb0))
  have HB0 := Lib.hid hb0
  clear hb0
  cases hP : okPass x0 x1 x2 x3
  · rw [isPassInv_bad hP]
    rw [hP] at HP
    clear hP h1 h2 h3 kw
    go_enter Try.func23, Try.ntmps23
    go_wp2_with fail
    refine HP.out.mono ?_
    rintro e w1 ⟨rfl, hb1⟩
    have HB1 := Lib.hid (HB0.out.trans (hb1.mono (by simp <;> omega)))
    clear hb1
    go_wp2
    go_ret2
    exact ⟨rfl, HB1.out⟩
  · obtain ⟨K, hxK, hps⟩ := PsOk.of hP
    have h4 := hps.p4
    have HA := Lib.hid (fun wx (h : Below w.heap.size w wx) => areWeights_c x0 x1.length c1 a1 (.slice a2 x2.length c2) (.slice a3 x3.length c3) b d ws wx h4 (kw.below h))
    cases hw : areW x0 x1.length ws
    · rw [isPassInv_two hP hw]
      rw [hw] at HA
      rw [hP] at HP
      clear hxK hps hP hw h1 h2 h3 kw
      go_enter Try.func23, Try.ntmps23
      go_wp2_with fail
      refine HP.out.mono ?_
      rintro e w1 ⟨rfl, hb1⟩
      have f0 : w1.cell? ⟨w.heap.size, 0, none⟩ = some (.int .i64 x0) := by rw [bcell1 hb1 (by simp <;> omega)]; simp [go_sem]
      have f1 : w1.cell? ⟨w.heap.size, 1, none⟩ = some (.slice a1 x1.length c1) := by rw [bcell1 hb1 (by simp <;> omega)]; simp [go_sem]
      have f2 : w1.cell? ⟨w.heap.size, 2, none⟩ = some (.slice a2 x2.length c2) := by rw [bcell1 hb1 (by simp <;> omega)]; simp [go_sem]
      have f3 : w1.cell? ⟨w.heap.size, 3, none⟩ = some (.slice a3 x3.length c3) := by rw [bcell1 hb1 (by simp <;> omega)]; simp [go_sem]
      have e0 : w1.cell? ⟨w.heap.size + 1, 0, none⟩ = some (.slice b ws.length d) := by rw [bcell1 hb1 (by simp <;> omega)]; simp [go_sem]
      have zz : w.heap.size + 1 < w1.heap.size := World.block_lt_of_cell? w1 _ e0
      have HB1 := Lib.hid (HB0.out.trans (hb1.mono (by simp <;> omega)))
      clear hb1
      go_wp2_with fail
      refine (HA.out w1 HB1.out).mono ?_
      rintro e w2 ⟨rfl, hb2⟩
      have HB2 := Lib.hid (bnext HB1.out hb2 (Nat.le_refl _))
      clear hb2 f0 f1 f2 f3 e0
      go_wp2
      go_ret2
      exact ⟨rfl, HB2.out⟩
    · rw [isPassInv_fine hP hw]
      have hw2 := hw
      rw [hxK] at hw2
      have HWN : Hid (ws.length = x1.length + 1) := Lib.hid (areW_ok hw2).1
      have HWK : Hid (∀ i, i < ws.length → (nthR ws i).length = K) := Lib.hid fun i hi => by have h := (areW_ok hw2).1; exact ((areW_ok hw2).2 i (by omega)).1
      have HPS := Lib.hid hps
      have HF2 : Hid (x2.length = K) := Lib.hid hps.free
      have l2 := h2.len
      have l3 := kw.len
      unfold maxLen at l2 l3
      have i2 := h2.ix tabB.under tabB.size c2
      have i3 := kw.ix tabII.under tabII.size d
      have HO := Lib.hid (fun wx => outside_c x0 x1.length c1 a1 (.slice a2 x2.length c2) (.slice a3 x3.length c3) wx (by unfold maxLen; omega))
      have H1 := Lib.hid h1
      have H2 := Lib.hid h2
      have H3 := Lib.hid h3
      have KW := Lib.hid kw
      obtain ⟨l, hl⟩ : ∃ l, l = nthR ws x1.length := ⟨_, rfl⟩
      have HLL := Lib.hid hl
      rw [← hl]
      rw [hw] at HA
      rw [hP] at HP
      clear hl hw2
      clear hxK hps hP hw h1 h2 h3 kw
      go_enter Try.func23, Try.ntmps23
      go_wp2_with fail
      refine HP.out.mono ?_
      rintro e w1 ⟨rfl, hb1⟩
      have f0 : w1.cell? ⟨w.heap.size, 0, none⟩ = some (.int .i64 x0) := by rw [bcell1 hb1 (by simp <;> omega)]; simp [go_sem]
      have f1 : w1.cell? ⟨w.heap.size, 1, none⟩ = some (.slice a1 x1.length c1) := by rw [bcell1 hb1 (by simp <;> omega)]; simp [go_sem]
      have f2 : w1.cell? ⟨w.heap.size, 2, none⟩ = some (.slice a2 x2.length c2) := by rw [bcell1 hb1 (by simp <;> omega)]; simp [go_sem]
      have f3 : w1.cell? ⟨w.heap.size, 3, none⟩ = some (.slice a3 x3.length c3) := by rw [bcell1 hb1 (by simp <;> omega)]; simp [go_sem]
      have e0 : w1.cell? ⟨w.heap.size + 1, 0, none⟩ = some (.slice b ws.length d) := by rw [bcell1 hb1 (by simp <;> omega)]; simp [go_sem]
      have zz : w.heap.size + 1 < w1.heap.size := World.block_lt_of_cell? w1 _ e0
      have HB1 := Lib.hid (HB0.out.trans (hb1.mono (by simp <;> omega)))
      clear hb1
      go_wp2_with fail
      refine (HA.out w1 HB1.out).mono ?_
      rintro e w2 ⟨rfl, hb2⟩
      have HB2 := Lib.hid (bnext HB1.out hb2 (Nat.le_refl _))
      replace f0 := (bcell1 hb2 (by omega)).trans f0
      replace f1 := (bcell1 hb2 (by omega)).trans f1
      replace f2 := (bcell1 hb2 (by omega)).trans f2
      replace f3 := (bcell1 hb2 (by omega)).trans f3
      replace e0 := (bcell1 hb2 (by omega)).trans e0
      have z2 : w.heap.size + 1 < w2.heap.size := Nat.lt_of_lt_of_le zz hb2.size
      have E0 := Lib.hid e0
      have Q0 := Lib.hid f0
      have Q1 := Lib.hid f1
      have Q2 := Lib.hid f2
      have Q3 := Lib.hid f3
      clear hb2 zz e0 f0 f1 f3
      go_wp2
      clear f2
      go_loopw [6, 7, 18] (fun _ _ i wr => ∃ k : Nat, k ≤ x2.length ∧ i = .int .i64 k ∧ Below w2.heap.size w2 wr ∧ (∀ j, j < k → (nthB x2 j && nth l j != 0) = false)) (fun _ _ i _ => x2.length - (intOf i).toNat)
      case atStart => exact ⟨0, Nat.zero_le _, rfl, Below.refl _ _, by omega⟩
      case round =>
        obtain ⟨k, hk, rfl, hb, hj⟩ := hrel
        have HJ := Lib.hid hj
        have hbw := bnext HB2.out hb (Nat.le_refl _)
        have f0 := (bcell1 hb (by omega)).trans Q0.out
        have f1 := (bcell1 hb (by omega)).trans Q1.out
        have f2 := (bcell1 hb (by omega)).trans Q2.out
        have f3 := (bcell1 hb (by omega)).trans Q3.out
        have e0 := (bcell1 hb (by omega)).trans E0.out
        have HB := Lib.hid hbw
        have HBB := Lib.hid hb
        clear hj hb hbw
        by_cases hlt : k < x2.length
        · have hxn : (x1.length : Int) < ws.length := by have := HWN.out; omega
          obtain ⟨aw, cw, gw, hsw⟩ := (KW.out.below HB.out).cell x1.length (by have := HWN.out; omega)
          have hll := HWK.out x1.length (by have := HWN.out; omega)
          rw [← HLL.out] at gw hsw hll
          have hkl : (k : Int) < l.length := by have := HF2.out; omega
          have i4 := hsw.ix tabI.under tabI.size cw
          have gl := hsw.cell k (by omega)
          have gf := (H2.out.below HB.out).cell k hlt
          have HOV := Lib.hid (fun x : Wd wr => HO.out (wat x))
          have q0 := wat_cell f0
          have q1 := wat_cell f1
          have q2 := wat_cell f2
          have q3 := wat_cell f3
          have q4 := wat_cell e0
          have q5 := wat_cell gw
          have q6 := wat_cell gl
          clear hsw hll gw gl
          cases hf : nthB x2 k
          · have HR : Hid ((nthB x2 k && nth l k != 0) = false) := Lib.hid (by rw [hf]; rfl)
            rw [hf] at gf
            clear hf
            go_wp2
            refine wp_quiet_wd (by kernel_rfl) (by kernel_rfl) ?_
            repeat (go_big_quiet_step (first | with_reducible exact wdV (HOV.out _)))
            refine wpQuiet_nil ?_
            rintro _ ⟨wq, rfl⟩
            have HB3 := Lib.hid (bnext HBB.out (wat_below wq) (Nat.le_refl _))
            clear q0 q1 q2 q3 q4 q5 q6 gf
            go_wp2
            go_roundw
            case rel => exact ⟨k + 1, by omega, by go_num, HB3.out, upto HJ.out HR.out⟩
            case measure => simp [intOf]; omega
          · rw [hf] at gf
            cases hn : (nth l k != 0)
            · have HR : Hid ((nthB x2 k && nth l k != 0) = false) := Lib.hid (by rw [hn, Bool.and_false])
              clear hf
              go_wp2
              refine wp_quiet_wd (by kernel_rfl) (by kernel_rfl) ?_
              repeat (go_big_quiet_step (first | with_reducible exact wdV (HOV.out _)))
              refine wpQuiet_nil ?_
              rintro _ ⟨wq, rfl⟩
              have HB3 := Lib.hid (bnext HBB.out (wat_below wq) (Nat.le_refl _))
              clear q0 q1 q2 q3 q4 q5 q6 gf
              go_wp2
              go_roundw
              case rel => exact ⟨k + 1, by omega, by go_num, HB3.out, upto HJ.out HR.out⟩
              case measure => simp [intOf]; omega
            · have HR : Hid (freeZero x2 l = false) := Lib.hid (freeZero_false hlt (by rw [hf, hn]; rfl))
              clear hf
              go_wp2
              refine wp_quiet_wd (by kernel_rfl) (by kernel_rfl) ?_
              repeat (go_big_quiet_step (first | with_reducible exact wdV (HOV.out _)))
              refine wpQuiet_nil ?_
              rintro _ ⟨wq, rfl⟩
              have HB3 := Lib.hid (bnext HB.out (wat_below wq) (Nat.le_refl _))
              clear q0 q1 q2 q3 q4 q5 q6 gf
              go_wp2
              go_ret2
              exact ⟨by rw [HR.out]; rfl, HB3.out⟩
        · have e : k = x2.length := by omega
          have HZ := Lib.hid (freeZero_true (x2 := x2) (l := l) (e ▸ HJ.out))
          have zr : w.heap.size + 1 < wr.heap.size := Nat.lt_of_lt_of_le z2 HBB.out.size
          have HCF := Lib.hid (containsFuncPR_c 91 #[.pointer (some ⟨w.heap.size + 1, 0, none⟩), .pointer (some ⟨w.heap.size, 0, none⟩)] (fun r => !invRule x1 ws r) (callFunc_run Try.func91 (by kernel_rfl) rfl) x3 (.slice a3 x3.length c3) wr (H3.out.below HB.out)
            (Lib.hid fun wx hb j hj u1 e1 u2 e2 k1 k2 => by
              have hu := HPS.out.upN hj
              have := HPS.out.cell j hj
              exact isPassInvariant1_c K x0 x1 a1 c1 (.slice a2 x2.length c2) (.slice a3 x3.length c3) (nthPR x3 j) u1 u2 b e1 e2 d ws (w.heap.size + 1) w.heap.size wx ((H1.out.below HB.out).below hb) ((KW.out.below HB.out).below hb) k1 k2 ((bcell1 hb (by omega)).trans e0) ((bcell1 hb (by omega)).trans f0) ((bcell1 hb (by omega)).trans f1) ((bcell1 hb (by omega)).trans f2) ((bcell1 hb (by omega)).trans f3)
                this hu.2.2.2.1 hu.2.1 HWN.out HWK.out (HPS.out.out j hj).2 (HPS.out.inn j hj).2 HPS.out.k8))
          simp only [Bool.not_not] at HCF
          clear f0 f1 f2 e0
          go_wp2_with fail
          refine HCF.out.mono ?_
          rintro e w3 ⟨rfl, hb3⟩
          have HB3 := Lib.hid (bnext HB.out hb3 (Nat.le_refl _))
          clear hb3
          go_wp2
          go_ret2
          exact ⟨by rw [HZ.out]; simp, HB3.out⟩
set_option maxHeartbeats 8000000 in
set_option maxRecDepth 100000 in
theorem specIsPassInvariant_c (x0 : Int) (x1 : List Int) (x2 : List Bool) (x3 : List PR) (a1 a2 a3 b : Option Addr) (c1 c2 c3 d : Nat) (ws : List (List Int)) (w : World) (h1 : SlI Any w a1 x1) (h2 : SlB Any w a2 x2) (h3 : Rd Any w (dPR x3) (.slice a3 x3.length c3)) (kw : SlII Any w b ws) :
    Calls Try.prog 21 #[.agg #[.int .i64 x0, .slice a1 x1.length c1, .slice a2 x2.length c2, .slice a3 x3.length c3], .slice b ws.length d] w (RetV w (.tuple #[.bool (isPassInvS x0 x1 x2 x3 ws).1, .int .i64 (isPassInvS x0 x1 x2 x3 ws).2])) := by
  have hb0 := below_alloc w (.cells #[.int .i64 x0, .slice a1 x1.length c1, .slice a2 x2.length c2, .slice a3 x3.length c3] 30)
  have HP := Lib.hid (l06Ok_c x0 x1 x2 x3 a1 a2 a3 c1 c2 c3 w.heap.size (w.alloc (.cells #[.int .i64 x0, .slice a1 x1.length c1, .slice a2 x2.length c2, .slice a3 x3.length c3] 30)) (h1.below hb0) (h2.below hb0) (h3.below hb0) (by simp [go_sem]) (by simp [go_sem]) (by simp [go_sem]) (by simp [go_sem]))
  have HB0 := Lib.hid hb0
  clear hb0
  cases hP : okPass x0 x1 x2 x3
  · rw [isPassInv_bad hP]
    rw [hP] at HP
    clear hP h1 h2 h3 kw
    go_enter Try.func21, Try.ntmps21
    go_wp2_with fail
    refine HP.out.mono ?_
    rintro e w1 ⟨rfl, hb1⟩
    have HB1 := Lib.hid (HB0.out.trans (hb1.mono (by simp <;> omega)))
    clear hb1
    go_wp2
    go_ret2
    exact ⟨rfl, HB1.out⟩
  · obtain ⟨K, hxK, hps⟩ := PsOk.of hP
    have h4 := hps.p4
    have KW := Lib.hid kw
    cases hw : areW x0 x1.length ws
    · rw [isPassInv_two hP hw]
      have HW := Lib.hid hw
      rw [hP] at HP
      clear hxK hps hP hw h1 h2 h3 kw
      go_enter Try.func21, Try.ntmps21
      go_wp2_with fail
      refine HP.out.mono ?_
      rintro e w1 ⟨rfl, hb1⟩
      have f0 : w1.cell? ⟨w.heap.size, 0, none⟩ = some (.int .i64 x0) := by rw [bcell1 hb1 (by simp <;> omega)]; simp [go_sem]
      have f1 : w1.cell? ⟨w.heap.size, 1, none⟩ = some (.slice a1 x1.length c1) := by rw [bcell1 hb1 (by simp <;> omega)]; simp [go_sem]
      have f2 : w1.cell? ⟨w.heap.size, 2, none⟩ = some (.slice a2 x2.length c2) := by rw [bcell1 hb1 (by simp <;> omega)]; simp [go_sem]
      have f3 : w1.cell? ⟨w.heap.size, 3, none⟩ = some (.slice a3 x3.length c3) := by rw [bcell1 hb1 (by simp <;> omega)]; simp [go_sem]
      have zz : w.heap.size < w1.heap.size := World.block_lt_of_cell? w1 _ f0
      have HB1 := Lib.hid (HB0.out.trans (hb1.mono (by simp <;> omega)))
      have HA := Lib.hid (l06Weights_c x0 x1.length c1 a1 w.heap.size b d ws w1 h4 (KW.out.below HB1.out) f0 f1)
      rw [HW.out] at HA
      clear hb1
      go_wp2_with fail
      refine HA.out.mono ?_
      rintro e w2 ⟨rfl, hb2⟩
      have HB2 := Lib.hid (bnext HB1.out hb2 (Nat.le_refl _))
      clear hb2 f0 f1 f2 f3
      go_wp2
      go_ret2
      exact ⟨rfl, HB2.out⟩
    · rw [isPassInv_fine hP hw]
      have HW := Lib.hid hw
      rw [hxK] at hw
      have HWA := Lib.hid hw
      have HWN : Hid (ws.length = x1.length + 1) := Lib.hid (areW_ok hw).1
      have HWK : Hid (∀ i, i < ws.length → (nthR ws i).length = K) := Lib.hid fun i hi => by have h := (areW_ok hw).1; exact ((areW_ok hw).2 i (by omega)).1
      have HPS := Lib.hid hps
      have HXK := Lib.hid hxK
      have HF2 : Hid (x2.length = K) := Lib.hid hps.free
      have l2 := h2.len
      have l3 := kw.len
      unfold maxLen at l2 l3
      have i2 := h2.ix tabB.under tabB.size c2
      have i3 := kw.ix tabII.under tabII.size d
      have h3' := h3
      obtain ⟨_, _, e3, k3⟩ := Rd_PR h3'
      cases e3
      have l4 := k3.len
      unfold maxLen at l4
      have i4 := ix_of (P := Try.prog) tabPassRuleSM.under tabPassRuleSM.size k3.ptr c3
      have H1 := Lib.hid h1
      have H2 := Lib.hid h2
      have H3 := Lib.hid h3
      have HSZ : Hid ((x1.length + 1) * K ≤ 40) := Lib.hid (small_mul (k := x1.length + 1) (K := K) (n := 5) (by omega) hps.k8)
      have HL2L : Hid (ws.flatten.length = (x1.length + 1) * K) := Lib.hid (flat_weights hw).1
      obtain ⟨L2, hL2⟩ : ∃ L, L = ws.flatten := ⟨_, rfl⟩
      have HL2 := Lib.hid hL2
      rw [← hL2] at HL2L
      have HR8 : Hid (x3.length ≤ 8) := Lib.hid hps.r8
      obtain ⟨l, hl⟩ : ∃ l, l = nthR ws x1.length := ⟨_, rfl⟩
      have HLL := Lib.hid hl
      rw [← hl]
      rw [hP] at HP
      clear hl hL2 h3' k3
      clear hxK hps hP hw h1 h2 h3 kw
      go_enter Try.func21, Try.ntmps21
      go_wp2_with fail
      refine HP.out.mono ?_
      rintro e w1 ⟨rfl, hb1⟩
      have f0 : w1.cell? ⟨w.heap.size, 0, none⟩ = some (.int .i64 x0) := by rw [bcell1 hb1 (by simp <;> omega)]; simp [go_sem]
      have f1 : w1.cell? ⟨w.heap.size, 1, none⟩ = some (.slice a1 x1.length c1) := by rw [bcell1 hb1 (by simp <;> omega)]; simp [go_sem]
      have f2 : w1.cell? ⟨w.heap.size, 2, none⟩ = some (.slice a2 x2.length c2) := by rw [bcell1 hb1 (by simp <;> omega)]; simp [go_sem]
      have f3 : w1.cell? ⟨w.heap.size, 3, none⟩ = some (.slice a3 x3.length c3) := by rw [bcell1 hb1 (by simp <;> omega)]; simp [go_sem]
      have zz : w.heap.size < w1.heap.size := World.block_lt_of_cell? w1 _ f0
      have HB1 := Lib.hid (HB0.out.trans (hb1.mono (by simp <;> omega)))
      have HA := Lib.hid (l06Weights_c x0 x1.length c1 a1 w.heap.size b d ws w1 h4 (KW.out.below HB1.out) f0 f1)
      rw [HW.out] at HA
      clear hb1
      go_wp2_with fail
      refine HA.out.mono ?_
      rintro e w2 ⟨rfl, hb2⟩
      have HB2 := Lib.hid (bnext HB1.out hb2 (Nat.le_refl _))
      replace f0 := (bcell1 hb2 (by omega)).trans f0
      replace f1 := (bcell1 hb2 (by omega)).trans f1
      replace f2 := (bcell1 hb2 (by omega)).trans f2
      replace f3 := (bcell1 hb2 (by omega)).trans f3
      have z2 : w.heap.size < w2.heap.size := Nat.lt_of_lt_of_le zz hb2.size
      have Q0 := Lib.hid f0
      have Q1 := Lib.hid f1
      have Q2 := Lib.hid f2
      have Q3 := Lib.hid f3
      have hxn : (x1.length : Int) < ws.length := by have := HWN.out; omega
      obtain ⟨aw, cw, gw, hsw⟩ := (KW.out.below HB2.out).cell x1.length (by have := HWN.out; omega)
      have hll := HWK.out x1.length (by have := HWN.out; omega)
      rw [← HLL.out] at gw hsw hll
      have HSW := Lib.hid hsw
      have HLK := Lib.hid hll
      have i5 := hsw.ix tabI.under tabI.size cw
      have l5 : l.length ≤ 8 := by rw [hll]; exact HPS.out.k8
      clear hb2 zz hsw hll
      go_wp2
      go_loopw [7] (fun i wr => ∃ k : Nat, k ≤ l.length ∧ i = .int .i64 k ∧ w2 = wr ∧ (∀ j, j < k → (nthB x2 j && nth l j != 0) = false)) (fun i _ => l.length - (intOf i).toNat)
      case atStart => exact ⟨0, Nat.zero_le _, rfl, rfl, by omega⟩
      case round =>
        obtain ⟨k, hk, rfl, rfl, hj⟩ := hrel
        have HJ := Lib.hid hj
        clear hj
        by_cases hlt : k < l.length
        · have hkx : (k : Int) < x2.length := by have := HF2.out; have := HLK.out; omega
          have gl := HSW.out.cell k hlt
          have gf := (H2.out.below HB2.out).cell k (by omega)
          cases hf : nthB x2 k
          · have HR : Hid ((nthB x2 k && nth l k != 0) = false) := Lib.hid (by rw [hf]; rfl)
            rw [hf] at gf
            clear hf
            go_wp2
            go_roundw
            case rel => exact ⟨k + 1, by omega, by go_num, trivial, upto HJ.out HR.out⟩
            case measure => simp [intOf]; omega
          · rw [hf] at gf
            cases hn : (nth l k != 0)
            · have HR : Hid ((nthB x2 k && nth l k != 0) = false) := Lib.hid (by rw [hn, Bool.and_false])
              clear hf
              go_wp2
              go_roundw
              case rel => exact ⟨k + 1, by omega, by go_num, trivial, upto HJ.out HR.out⟩
              case measure => simp [intOf]; omega
            · have HR : Hid (freeZero x2 l = false) := Lib.hid (freeZero_false (k := k) (by omega) (by rw [hf, hn]; rfl))
              clear hf
              go_wp2
              go_ret2
              exact ⟨by rw [HR.out]; rfl, HB2.out⟩
        · have e : k = l.length := by omega
          have HZ := Lib.hid (freeZero_true (x2 := x2) (l := l) (fun j hj => HJ.out j (by have := HF2.out; have := HLK.out; omega)))
          have HLV := Lib.hid (l06Level_c K ws b d w2 (KW.out.below HB2.out) HWK HPS.out.k1 HPS.out.k8 (by have := HWN.out; omega))
          rw [← HL2.out] at HLV
          clear gw i5
          go_wp2_with fail
          refine HLV.out.mono ?_
          rintro e w3 ⟨v3, rfl, hb3, hl3⟩
          obtain ⟨av, cv, F3, rfl, ho3, _, _⟩ := Ow.ofBld hl3 (by have := HSZ.out; have := HL2L.out; unfold maxLen; omega)
          have HO3 := Lib.hid ho3.arg
          have HB3 := Lib.hid (bnext HB2.out hb3 (Nat.le_refl _))
          have z3 : w.heap.size < w3.heap.size := Nat.lt_of_lt_of_le z2 hb3.size
          replace f0 := (bcell1 hb3 (by omega)).trans f0
          replace f1 := (bcell1 hb3 (by omega)).trans f1
          replace f2 := (bcell1 hb3 (by omega)).trans f2
          replace f3 := (bcell1 hb3 (by omega)).trans f3
          have G0 := Lib.hid f0
          have G1 := Lib.hid f1
          have G2 := Lib.hid f2
          have G3 := Lib.hid f3
          have hLN : L2.length ≤ 40 := by have := HSZ.out; have := HL2L.out; omega
          clear hb3 hl3 ho3 Q0 Q1 Q2 Q3 f0 f1 f2 f3
          go_wp2
          go_loopw [9, 10] (fun i _ wr => ∃ k : Nat, k ≤ x3.length ∧ i = .int .i64 k ∧ Below w3.heap.size w3 wr ∧ (∀ j, j < k → invRule x1 ws (nthPR x3 j) = true)) (fun i _ _ => x3.length - (intOf i).toNat)
          case atStart => exact ⟨0, Nat.zero_le _, rfl, Below.refl _ _, by omega⟩
          case round =>
            obtain ⟨k, hk, rfl, hb, hj⟩ := hrel
            have HJ2 := Lib.hid hj
            have HBr := Lib.hid hb
            have f0 := (bcell1 hb (by omega)).trans G0.out
            have f1 := (bcell1 hb (by omega)).trans G1.out
            have f2 := (bcell1 hb (by omega)).trans G2.out
            have f3 := (bcell1 hb (by omega)).trans G3.out
            have hz3 := hb.size
            clear hj hb
            by_cases hlt3 : k < x3.length
            · obtain ⟨_, _, ex, hxs⟩ := Rd_PR ((H3.out.below HB3.out).below HBr.out)
              cases ex
              have r0 := hxs.c0 k hlt3
              obtain ⟨u1, e1, r1, k1⟩ := hxs.c1 k hlt3
              obtain ⟨u2, e2, r2, k2⟩ := hxs.c2 k hlt3
              have hu := HPS.out.upN hlt3
              have hcell := HPS.out.cell k hlt3
              have hrb : blk a3 < wr.heap.size := World.block_lt_of_cell? wr _ r0
              have HXS := Lib.hid hxs
              have K1 := Lib.hid (k1.under (Nat.le_refl wr.heap.size))
              have K2 := Lib.hid (k2.under (Nat.le_refl wr.heap.size))
              have HU := Lib.hid hu
              have HCE := Lib.hid hcell
              have R0 := Lib.hid r0
              have R1 := Lib.hid r1
              have R2 := Lib.hid r2
              have F0 := Lib.hid f0
              have F1 := Lib.hid f1
              have F2 := Lib.hid f2
              have F3' := Lib.hid f3
              clear hxs k1 k2 hu hcell r0 r1 r2
              go_wp2_with (refine make_one rfl _ _ 22 rfl tabI rfl (by decide) L2.length L2.length L2.length rfl rfl rfl rfl (by omega) wr.heap.size (Nat.le_refl _) ?_)
              intro w4 hbl hb4 _
              have hz4 := hb4.size
              have f0' := (bcell1 hb4 (by omega)).trans F0.out
              have f1' := (bcell1 hb4 (by omega)).trans F1.out
              have f2' := (bcell1 hb4 (by omega)).trans F2.out
              have f3' := (bcell1 hb4 (by omega)).trans F3'.out
              have hrep : ((List.replicate L2.length (0 : Int)).map (Value.int .i64)) = List.replicate L2.length (.int .i64 0) := by simp
              have hbl' : Bld 2 w4 wr.heap.size (.slice (some ⟨wr.heap.size, 0, none⟩) (List.replicate L2.length (0 : Int)).length L2.length) ((List.replicate L2.length (0 : Int)).map (.int .i64)) := by rw [hrep, List.length_replicate]; exact hbl
              have HT := Lib.hid (l06Take_c K x1 x2 (nthPR x3 k) 1 (List.replicate L2.length (0 : Int)) a1 a2 u1 u2 c1 c2 e1 e2 w.heap.size (blk a3) (ofs a3 + k * 3) wr.heap.size L2.length wr.heap.size (.slice a3 x3.length c3) w4
                ((((H1.out.below HB3.out).below HBr.out).under (Nat.le_refl _)).low hb4) ((((H2.out.below HB3.out).below HBr.out).under (Nat.le_refl _)).low hb4) (K1.out.low hb4) (K2.out.low hb4)
                (by rw [f0', HXK.out]) f1' f2' f3' ((bcell1 hb4 hrb).trans R0.out) ((bcell1 hb4 hrb).trans R1.out) ((bcell1 hb4 hrb).trans R2.out) (by omega) hrb hbl' (by omega) HPS.out.k1 HPS.out.k8 h4 (by rw [List.length_replicate]; exact HL2L.out) HF2.out (HPS.out.out k hlt3).2 (HPS.out.inn k hlt3).2
                HCE.out HU.out.2.2.2.1 HU.out.2.1 (fun h => (HPS.out.par _ (by have := HU.out; unfold cellN at this; omega) (by have := HU.out; unfold cellN at this; omega)).1) HPS.out.par0)
              rw [List.length_replicate] at HT
              have HB4 := Lib.hid hb4
              clear hbl hbl' hb4 hrep f0 f1 f2 f3
              go_wp2_with fail
              refine HT.out.mono ?_
              rintro e w5 ⟨⟨rfl, hbl5⟩, hb5⟩
              have hz5 := hb5.size
              have hb45 := HB4.out.trans hb5
              have f0 := (bcell1 hb45 (by omega)).trans F0.out
              have f1 := (bcell1 hb45 (by omega)).trans F1.out
              have f2 := (bcell1 hb45 (by omega)).trans F2.out
              have f3 := (bcell1 hb45 (by omega)).trans F3'.out
              have ht1 := takeF_len (cellN (nthPR x3 k) * K) (upN x1 (nthPR x3 k) * K) x2 (nthPR x3 k) 1 (List.replicate L2.length (0 : Int)) K
              rw [List.length_replicate] at ht1
              generalize hT1 : (takeF (cellN (nthPR x3 k) * K) (upN x1 (nthPR x3 k) * K) x2 (nthPR x3 k) 1 (List.replicate L2.length (0 : Int)) K).1 = T1 at *
              have hbl5' : Bld 2 w5 wr.heap.size (.slice (some ⟨wr.heap.size, 0, none⟩) T1.length L2.length) (T1.map (.int .i64)) := by rw [ht1]; exact hbl5
              have HG := Lib.hid (l06Give_c K x1 x2 (nthPR x3 k) 1 T1 a1 a2 u1 u2 c1 c2 e1 e2 w.heap.size (blk a3) (ofs a3 + k * 3) wr.heap.size L2.length wr.heap.size w5
                ((((H1.out.below HB3.out).below HBr.out).under (Nat.le_refl _)).low hb45) ((((H2.out.below HB3.out).below HBr.out).under (Nat.le_refl _)).low hb45) (K1.out.low hb45) (K2.out.low hb45)
                (by rw [f0, HXK.out]) f1 f2 ((bcell1 hb45 hrb).trans R0.out) ((bcell1 hb45 hrb).trans R1.out) ((bcell1 hb45 hrb).trans R2.out) (by omega) hrb hbl5' (by omega) HPS.out.k1 HPS.out.k8 h4 (by rw [ht1]; exact HL2L.out) HF2.out (HPS.out.out k hlt3).2 (HPS.out.inn k hlt3).2
                HCE.out HU.out.2.2.2.1 HU.out.2.1 (fun h => (HPS.out.par _ (by have := HU.out; unfold cellN at this; omega) (by have := HU.out; unfold cellN at this; omega)).1) HPS.out.par0)
              rw [ht1] at HG
              have HT1 := Lib.hid hT1
              have HTL := Lib.hid ht1
              have HB5 := Lib.hid hb45
              clear hbl5 hbl5' hb5 hb45 hT1 ht1 f0' f1' f2' f3'
              go_wp2_with fail
              refine HG.out.mono ?_
              rintro e w6 ⟨⟨rfl, hbl6⟩, hb6⟩
              have hz6 := hb6.size
              have hch : giveF (cellN (nthPR x3 k) * K) (upN x1 (nthPR x3 k) * K) x2 (nthPR x3 k) 1 T1 K = changeF K x1 x2 (nthPR x3 k) := by rw [changeF, ← HL2L.out, HT1.out]
              have hcl := giveF_len (cellN (nthPR x3 k) * K) (upN x1 (nthPR x3 k) * K) x2 (nthPR x3 k) 1 T1 K
              rw [hch] at hbl6 hcl
              have hdot := change_dot HPS.out HWA.out (by rw [← HLL.out]; exact HZ.out) hlt3
              rw [← HL2.out] at hdot
              generalize changeF K x1 x2 (nthPR x3 k) = CH at *
              have hcl2 : CH.length = L2.length := by rw [hcl, HTL.out]
              have hsl : SlI Any w6 (some ⟨wr.heap.size, 0, none⟩) CH := (SlI.ofBld (c := L2.length) (n := L2.length) hbl6 (by rw [hcl2]; unfold maxLen; omega)).any
              have HD := Lib.hid (l06Dot_c (some ⟨wr.heap.size, 0, none⟩) av L2.length cv CH L2 w6 hsl ((((HO3.out.below HBr.out).under (Nat.le_refl _)).low (HB5.out.trans hb6)).any) (by omega))
              rw [hcl2] at HD hdot
              have HDOT := Lib.hid hdot
              have HB6 := Lib.hid (HBr.out.trans ((HB5.out.trans hb6).mono hz3))
              clear hbl6 hb6 hch hcl hdot hcl2 hsl f0 f1 f2 f3
              go_wp2_with fail
              refine HD.out.mono ?_
              rintro e w7 ⟨rfl, hb7⟩
              have HB7 := Lib.hid (HB6.out.trans (hb7.mono (by omega)))
              clear hb7
              cases hv : (dotTo CH L2 L2.length == 0)
              · have hv2 : (dotTo CH L2 L2.length != 0) = true := by rw [bne, hv]; rfl
                have HR : Hid (allPR (invRule x1 ws) x3 = false) := Lib.hid (allPR_false hlt3 (by rw [← HDOT.out]; exact hv))
                clear hv
                go_wp2
                go_ret2
                exact ⟨by rw [HR.out, Bool.and_false]; rfl, bnext HB3.out HB7.out (Nat.le_refl _)⟩
              · have hv2 : (dotTo CH L2 L2.length != 0) = false := by rw [bne, hv]; rfl
                have HR : Hid (invRule x1 ws (nthPR x3 k) = true) := Lib.hid (by rw [← HDOT.out]; exact hv)
                clear hv
                go_wp2
                go_roundw
                case rel => exact ⟨k + 1, by omega, by go_num, HB7.out, upto HJ2.out HR.out⟩
                case measure => simp [intOf]; omega
            · have e : k = x3.length := by omega
              have HR := Lib.hid (allPR_true (p := invRule x1 ws) (rs := x3) (e ▸ HJ2.out))
              go_wp2
              go_ret2
              exact ⟨by rw [HZ.out, HR.out]; rfl, bnext HB3.out HBr.out (Nat.le_refl _)⟩
theorem implIsPassInvariant_d (x0 : Int) (x1 : List Int) (x2 : List Bool) (x3 : List PR) (ws : List (List Int)) {v1 v2 v3 uw : Value} {F1 F2 F3 Gw : List Nat} (w : World) (h1 : Ow w (dI x1) v1 F1) (h2 : Ow w (dB x2) v2 F2) (h3 : Ow w (dPR x3) v3 F3) (kw : Ow w (dII ws) uw Gw) :
    Calls Try.prog 23 #[.agg #[.int .i64 x0, v1, v2, v3], uw] w (RetV w (.tuple #[.bool (isPassInvS x0 x1 x2 x3 ws).1, .int .i64 (isPassInvS x0 x1 x2 x3 ws).2])) := by
  obtain ⟨a1, c1, rfl, hc, j1⟩ := h1.capI
  obtain ⟨a2, c2, rfl, j2⟩ := Rd_B.1 h2.rdA
  have h3' := h3.rdA
  obtain ⟨a3, c3, rfl, _⟩ := Rd_PR h3'
  obtain ⟨b, d, rfl, j5⟩ := Rd_II.1 kw.rdA
  exact implIsPassInvariant_c x0 x1 x2 x3 a1 a2 a3 b c1 c2 c3 d ws w j1 hc j2 h3' j5
theorem specIsPassInvariant_d (x0 : Int) (x1 : List Int) (x2 : List Bool) (x3 : List PR) (ws : List (List Int)) {v1 v2 v3 uw : Value} (w : World) (h1 : Rd Any w (dI x1) v1) (h2 : Rd Any w (dB x2) v2) (h3 : Rd Any w (dPR x3) v3) (kw : Rd Any w (dII ws) uw) :
    Calls Try.prog 21 #[.agg #[.int .i64 x0, v1, v2, v3], uw] w (RetV w (.tuple #[.bool (isPassInvS x0 x1 x2 x3 ws).1, .int .i64 (isPassInvS x0 x1 x2 x3 ws).2])) := by
  obtain ⟨a1, c1, rfl, j1⟩ := Rd_I.1 h1
  obtain ⟨a2, c2, rfl, j2⟩ := Rd_B.1 h2
  have h3' := h3
  obtain ⟨a3, c3, rfl, _⟩ := Rd_PR h3'
  obtain ⟨b, d, rfl, j5⟩ := Rd_II.1 kw
  exact specIsPassInvariant_c x0 x1 x2 x3 a1 a2 a3 b c1 c2 c3 d ws w j1 j2 h3' j5
end Go.Proofs.Ytldjgkandkclpaa
