/- The laws' functions on orders, programs and configs: by shape. Written by tygen.py. -/
import Derived.Test.YtbnikblhnibgiaaDoorYB
namespace Go.Proofs.YtbnikblhnibgiaaDoor
open Go.RowKit

set_option maxHeartbeats 2000000 in
theorem eqOrder_d (x0 : Int) (x1 : Int) (x2 : Int) (x3 : Int)  (w : World)    :
    Calls Tryd.prog 66 #[.agg #[.int .i64 x0, .int .i64 x1, .int .i64 x2, .int .i64 x3], .agg #[.int .i64 x0, .int .i64 x1, .int .i64 x2, .int .i64 x3]] w (RetV w (.bool true)) := by
  have hb : Below w.heap.size w ((w.alloc (.cells #[.int .i64 x0, .int .i64 x1, .int .i64 x2, .int .i64 x3] 60)).alloc (.cells #[.int .i64 x0, .int .i64 x1, .int .i64 x2, .int .i64 x3] 60)) := ((Below.refl _ _).alloc (Nat.le_refl _) _).alloc (by simp) _
  have HB0 := Lib.hid hb
  clear hb 
  go_enter Tryd.func66, Tryd.ntmps66
  go_wp2
  go_ret
  exact ⟨rfl, HB0.out⟩
theorem tabOrderSM : Tab Tryd.prog 34 60 (.agg #[.int .i64 0, .int .i64 0, .int .i64 0, .int .i64 0]) 4 32 := ⟨by kernel_rfl, by kernel_rfl⟩
set_option maxHeartbeats 2000000 in
theorem eqOrderS_d (d : D) (v v' : Value) (w : World) (h : Rd Any w d v) (h' : Rd Any w d v') (hf : Fit (.l [.i, .i, .i, .i]) d) :
    Calls Tryd.prog 48 #[v, v'] w (RetV w (.bool true)) := by
  obtain ⟨ds, rfl, n, hn, HR⟩ := Fit.rows (k := 4) rfl hf
  obtain ⟨a, c, rfl, hm, hp, HG⟩ := h.row hn (by omega)
  obtain ⟨ap, cp, rfl, hmp, hpp, HGp⟩ := h'.row hn (by omega)
  unfold maxLen at hm
  have i1 := ix_of (P := Tryd.prog) tabOrderSM.under tabOrderSM.size (a := a) (n := n) hp c
  have i2 := ix_of (P := Tryd.prog) tabOrderSM.under tabOrderSM.size (a := ap) (n := n) hpp cp
  clear hn hmp
  go_enter Tryd.func48, Tryd.ntmps48
  go_wp2
  go_loopw [5] (fun i0 wr => ∃ i : Nat, i ≤ n ∧ i0 = .int .i64 i ∧ Below w.heap.size w wr) (fun i _ => n - (intOf i).toNat)
  case atStart => exact ⟨0, Nat.zero_le _, rfl, Below.refl _ _⟩
  case round =>
      obtain ⟨i, hi, rfl, hb⟩ := hrel
      have HB := Lib.hid hb
      clear hb
      by_cases hlt : i < n
      · skip
        obtain ⟨x0, q0, f0⟩ := HR.out i hlt 0 _ rfl
        rw [Nat.add_zero] at q0
        obtain ⟨x1, q1, f1⟩ := HR.out i hlt 1 _ rfl
        obtain ⟨x2, q2, f2⟩ := HR.out i hlt 2 _ rfl
        obtain ⟨x3, q3, f3⟩ := HR.out i hlt 3 _ rfl
        obtain ⟨u0, g0, r0⟩ := HG.out wr HB.out _ _ q0
        obtain ⟨y0, rfl⟩ := f0
        obtain rfl : u0 = .int .i64 y0 := r0
        obtain ⟨u1, g1, r1⟩ := HG.out wr HB.out _ _ q1
        obtain ⟨y1, rfl⟩ := f1
        obtain rfl : u1 = .int .i64 y1 := r1
        obtain ⟨u2, g2, r2⟩ := HG.out wr HB.out _ _ q2
        obtain ⟨y2, rfl⟩ := f2
        obtain rfl : u2 = .int .i64 y2 := r2
        obtain ⟨u3, g3, r3⟩ := HG.out wr HB.out _ _ q3
        obtain ⟨y3, rfl⟩ := f3
        obtain rfl : u3 = .int .i64 y3 := r3
        obtain ⟨u0p, g0p, r0p⟩ := HGp.out wr HB.out _ _ q0
        obtain rfl : u0p = .int .i64 y0 := r0p
        obtain ⟨u1p, g1p, r1p⟩ := HGp.out wr HB.out _ _ q1
        obtain rfl : u1p = .int .i64 y1 := r1p
        obtain ⟨u2p, g2p, r2p⟩ := HGp.out wr HB.out _ _ q2
        obtain rfl : u2p = .int .i64 y2 := r2p
        obtain ⟨u3p, g3p, r3p⟩ := HGp.out wr HB.out _ _ q3
        obtain rfl : u3p = .int .i64 y3 := r3p
        clear q0 q1 q2 q3
        go_wp2_with fail
        go_region_with (go_at_call 66; refine (eqOrder_d y0 y1 y2 y3  _   ).mono ?_; rintro e w' ⟨rfl, hb'⟩)
        all_goals
          have hbb := bnext HB.out.drew hb' (Nat.le_refl _)
          clear hb' g0 g0p g1 g1p g2 g2p g3 g3p
          go_wp2
          go_roundw
          case rel => exact ⟨i + 1, by omega, by go_num, hbb⟩
          case measure => simp [intOf]; omega
      · go_wp2
        go_ret
        exact ⟨rfl, HB.out⟩
set_option maxHeartbeats 4000000 in
theorem markOrderS_d (d : D) (v : Value) (F : List Nat) (m : Int) (w : World) (h : Ow w d v F) (hnd : F.Nodup) (hf : Fit (.l [.i, .i, .i, .i]) d) (hv : cnt d ≤ 16777216) (m0 : 0 ≤ m) (m1 : m ≤ 34359738368) :
    Calls Tryd.prog 49 #[v, .int .i64 m] w (RetMk w F m d v) := by
  obtain ⟨ds, rfl, n, hn, HR⟩ := Fit.rows (k := 4) rfl hf
  obtain ⟨a, c, F', rfl, hm, hp, hcp, hM⟩ := h.mks hnd hn (by omega)
  have HCP := Lib.hid hcp
  clear hcp
  have hM0 := Lib.hid (hM m)
  have HM := Lib.hid hm
  unfold maxLen at hm
  simp only [cnt] at hv
  have HN := Lib.hid hn
  clear hM hn
  have i1 := ix_of (P := Tryd.prog) tabOrderSM.under tabOrderSM.size (a := a) (n := n) hp c
  go_enter Tryd.func49, Tryd.ntmps49
  go_wp2
  go_loopw [1, 5] (fun q i0 wr => ∃ (i : Nat) (K : Int), i ≤ n ∧ i0 = .int .i64 i ∧ q = .int .i64 K ∧ Mks w wr a ds F' F m K (i * 4)) (fun _ i _ => n - (intOf i).toNat)
  case atStart => exact ⟨0, m, Nat.zero_le _, rfl, rfl, by simpa using hM0.out⟩
  case round =>
      obtain ⟨i, K0, hi, rfl, rfl, hk0⟩ := hrel
      by_cases hlt : i < n
      · skip
        obtain ⟨x0, q0, f0⟩ := HR.out i hlt 0 _ rfl
        rw [Nat.add_zero] at q0
        obtain ⟨x1, q1, f1⟩ := HR.out i hlt 1 _ rfl
        obtain ⟨x2, q2, f2⟩ := HR.out i hlt 2 _ rfl
        obtain ⟨x3, q3, f3⟩ := HR.out i hlt 3 _ rfl
        obtain ⟨y0, rfl⟩ := f0
        obtain ⟨y1, rfl⟩ := f1
        obtain ⟨y2, rfl⟩ := f2
        obtain ⟨y3, rfl⟩ := f3
        have B0 := hk0.le
        obtain ⟨⟨o0, e0⟩, z0⟩ := hk0.celln (q' := i * 4) (by omega) q0
        have hk_0 : Mks w _ a ds F' F m _ (i * 4 + 1) := hk0.int q0
        obtain ⟨⟨o1, e1⟩, z1⟩ := hk_0.celln (q' := i * 4 + 1) (by omega) q1
        have hk_1 : Mks w _ a ds F' F m _ (i * 4 + 2) := hk_0.int q1
        obtain ⟨⟨o2, e2⟩, z2⟩ := hk_1.celln (q' := i * 4 + 2) (by omega) q2
        have hk_2 : Mks w _ a ds F' F m _ (i * 4 + 3) := hk_1.int q2
        obtain ⟨⟨o3, e3⟩, z3⟩ := hk_2.celln (q' := i * 4 + 3) (by omega) q3
        have hk_3 : Mks w _ a ds F' F m _ (i * 4 + 4) := hk_2.int q3
        have HK := Lib.hid hk_3
        clear hk0 hk_0 hk_1 hk_2 hk_3
        go_wp2
        go_roundw
        case rel => exact ⟨i + 1, _, by omega, by go_num, rfl, by have := HK.out; rwa [show (i + 1) * 4 = i * 4 + 4 from by omega]⟩
        case measure => simp [intOf]; omega
      · have HK := Lib.hid hk0
        clear hk0
        go_wp2
        go_ret
        obtain rfl : i = n := by omega
        have h2 := HK.out
        rw [← HN.out] at h2
        exact h2.done hp HM.out HN.out HCP.out
set_option maxHeartbeats 4000000 in
theorem heldOrderS_d (S : Nat → Prop) (d : D) (v : Value) (m : Int) (w : World) (h : Rd S w (mkD m d) v) (hf : Fit (.l [.i, .i, .i, .i]) d) (hv : cnt d ≤ 16777216) (m0 : 0 ≤ m) (m1 : m ≤ 34359738368) :
    Calls Tryd.prog 50 #[v, .int .i64 m] w (RetV w (.int .i64 (m + cnt d))) := by
  obtain ⟨ds, rfl, n, hn, HR⟩ := Fit.rows (k := 4) rfl hf
  rw [mkD] at h
  obtain ⟨a, c, rfl, hm, hp, HG⟩ := h.row (n := n) (by rw [mkL_len]; exact hn) (by omega)
  unfold maxLen at hm
  simp only [cnt] at hv
  have HN := Lib.hid hn
  clear hn
  have i1 := ix_of (P := Tryd.prog) tabOrderSM.under tabOrderSM.size (a := a) (n := n) hp c
  go_enter Tryd.func50, Tryd.ntmps50
  go_wp2
  go_loopw [1, 5] (fun q i0 wr => ∃ (i : Nat) (K : Int), i ≤ n ∧ i0 = .int .i64 i ∧ q = .int .i64 K ∧ Hid (K = m + cntL (ds.take (i * 4))) ∧ Below w.heap.size w wr) (fun _ i _ => n - (intOf i).toNat)
  case atStart => exact ⟨0, m, Nat.zero_le _, rfl, rfl, Lib.hid (by simp [cntL]), Below.refl _ _⟩
  case round =>
      obtain ⟨i, K, hi, rfl, rfl, HK, hb⟩ := hrel
      have HB := Lib.hid hb
      clear hb
      by_cases hlt : i < n
      · skip
        obtain ⟨x0, q0, f0⟩ := HR.out i hlt 0 _ rfl
        rw [Nat.add_zero] at q0
        obtain ⟨x1, q1, f1⟩ := HR.out i hlt 1 _ rfl
        obtain ⟨x2, q2, f2⟩ := HR.out i hlt 2 _ rfl
        obtain ⟨x3, q3, f3⟩ := HR.out i hlt 3 _ rfl
        have k0 : K ≤ m + 16777216 ∧ 0 ≤ K := by have := HK.out; have := cntL_take_le ds (i * 4); omega
        have HK0 := HK
        obtain ⟨u0, g0, r0⟩ := HG.out wr HB.out _ _ (mkL_get ds m _ x0 q0)
        obtain ⟨u1, g1, r1⟩ := HG.out wr HB.out _ _ (mkL_get ds m _ x1 q1)
        obtain ⟨u2, g2, r2⟩ := HG.out wr HB.out _ _ (mkL_get ds m _ x2 q2)
        obtain ⟨u3, g3, r3⟩ := HG.out wr HB.out _ _ (mkL_get ds m _ x3 q3)
        rw [← HK0.out] at r0
        obtain ⟨y0, rfl⟩ := f0
        obtain rfl : u0 = .int .i64 (K) := r0
        have HK1 : Hid (K + 1 = m + cntL (ds.take (i * 4 + 1))) := Lib.hid (by have a1 := HK0.out; have a2 := cntL_take q0; show _ = m + ((cntL (ds.take (i * 4 + 1)) : Nat) : Int); rw [a2]; simp only [cnt]; omega)
        have k1 : K + 1 ≤ m + 16777216 ∧ 0 ≤ K + 1 := by have := HK1.out; have := cntL_take_le ds (i * 4 + 1); omega
        rw [← HK1.out] at r1
        obtain ⟨y1, rfl⟩ := f1
        obtain rfl : u1 = .int .i64 (K + 1) := r1
        have HK2 : Hid (K + 1 + 1 = m + cntL (ds.take (i * 4 + 2))) := Lib.hid (by have a1 := HK1.out; have a2 := cntL_take q1; show _ = m + ((cntL (ds.take (i * 4 + 1 + 1)) : Nat) : Int); rw [a2]; simp only [cnt]; omega)
        have k2 : K + 1 + 1 ≤ m + 16777216 ∧ 0 ≤ K + 1 + 1 := by have := HK2.out; have := cntL_take_le ds (i * 4 + 2); omega
        rw [← HK2.out] at r2
        obtain ⟨y2, rfl⟩ := f2
        obtain rfl : u2 = .int .i64 (K + 1 + 1) := r2
        have HK3 : Hid (K + 1 + 1 + 1 = m + cntL (ds.take (i * 4 + 3))) := Lib.hid (by have a1 := HK2.out; have a2 := cntL_take q2; show _ = m + ((cntL (ds.take (i * 4 + 2 + 1)) : Nat) : Int); rw [a2]; simp only [cnt]; omega)
        have k3 : K + 1 + 1 + 1 ≤ m + 16777216 ∧ 0 ≤ K + 1 + 1 + 1 := by have := HK3.out; have := cntL_take_le ds (i * 4 + 3); omega
        rw [← HK3.out] at r3
        obtain ⟨y3, rfl⟩ := f3
        obtain rfl : u3 = .int .i64 (K + 1 + 1 + 1) := r3
        have HK4 : Hid (K + 1 + 1 + 1 + 1 = m + cntL (ds.take (i * 4 + 3 + 1))) := Lib.hid (by have a1 := HK3.out; have a2 := cntL_take q3; show _ = m + ((cntL (ds.take (i * 4 + 3 + 1)) : Nat) : Int); rw [a2]; simp only [cnt]; omega)
        have k4 : K + 1 + 1 + 1 + 1 ≤ m + 16777216 ∧ 0 ≤ K + 1 + 1 + 1 + 1 := by have := HK4.out; have := cntL_take_le ds (i * 4 + 3 + 1); omega
        clear q0 q1 q2 q3
        go_wp2
        go_roundw
        case rel => exact ⟨i + 1, _, by omega, by go_num, rfl, Lib.hid (by have := HK4.out; rw [show (i + 1) * 4 = i * 4 + 3 + 1 from by omega]; exact this), HB.out⟩
        case measure => simp [intOf]; omega
      · go_wp2
        go_ret
        obtain rfl : i = n := by omega
        refine ⟨ret_int ?_, HB.out⟩
        have a1 := HK.out
        rw [take_full HN.out] at a1
        simp only [cnt]; exact a1
set_option maxHeartbeats 2000000 in
theorem eqProgram_d (x0 : Int) (d1 : D) (v1 : Value) (v1p : Value) (w : World) (h1 : Rd Any w d1 v1) (h1p : Rd Any w d1 v1p) (f1 : Fit (.l [.i, .i, .i, .i]) d1) :
    Calls Tryd.prog 19 #[.agg #[.int .i64 x0, v1], .agg #[.int .i64 x0, v1p]] w (RetV w (.bool true)) := by
  obtain ⟨va1, vn1, vc1, rfl⟩ := f1.sliceR h1
  obtain ⟨va1p, vn1p, vc1p, rfl⟩ := f1.sliceR h1p
  have hb : Below w.heap.size w ((w.alloc (.cells #[.int .i64 x0, .slice va1 vn1 vc1] 36)).alloc (.cells #[.int .i64 x0, .slice va1p vn1p vc1p] 36)) := ((Below.refl _ _).alloc (Nat.le_refl _) _).alloc (by simp) _
  have H_1 := Lib.hid (fun (wx : World) (hb : Below w.heap.size w wx) => eqOrderS_d d1 _ _ wx (h1.below hb) (h1p.below hb) f1)
  have HB0 := Lib.hid hb
  clear hb h1 h1p
  go_enter Tryd.func19, Tryd.ntmps19
  go_wp2_with fail
  refine (H_1.out _ HB0.out).mono ?_
  rintro e w1 ⟨rfl, hb1⟩
  have HB1 := Lib.hid (bnext HB0.out hb1 (by first | omega | (simp; done) | (simp; omega)))
  have hz1 : w.heap.size + 1 < w1.heap.size := by have := hb1.size; (try simp at this); omega
  clear hb1 
  go_wp2
  go_ret
  exact ⟨rfl, HB1.out⟩
set_option maxHeartbeats 2000000 in
theorem markProgram_d (x0 : Int) (d1 : D) (v1 : Value) (F1 : List Nat) (m : Int) (w : World) (h1 : Ow w d1 v1 F1) (f1 : Fit (.l [.i, .i, .i, .i]) d1) (hn : (F1).Nodup) (c1 : cnt d1 ≤ 16777216) (m0 : 0 ≤ m) (m1 : m ≤ 4294967296) :
    Calls Tryd.prog 20 #[.agg #[.int .i64 x0, v1], .int .i64 m] w fun e w' => e = .returned (.int .i64 (m + cnt d1)) ∧ Chg (F1) w w' ∧ Ow w' (mkD (m) d1) v1 F1 := by
  obtain ⟨va1, vn1, vc1, rfl⟩ := f1.sliceO h1
  have hb0 : Below w.heap.size w (w.alloc (.cells #[.int .i64 x0, .slice va1 vn1 vc1] 36)) := below_alloc _ _
  have dn1 := hn
  have e1 := Ow.lt _ _ _ h1
  have o1_0 := h1.below hb0
  have HC0 := Lib.hid (Chg.ofBelow (F := F1) hb0)
  have HE1 := Lib.hid e1
  have HO1_0 := Lib.hid o1_0
  clear hb0 hn   e1 o1_0 h1
  go_enter Tryd.func20, Tryd.ntmps20
  go_wp2_with fail
  refine (markOrderS_d d1 _ F1 (m) _ HO1_0.out dn1 f1 (by omega) (by omega) (by omega)).mono ?_
  rintro e w1 ⟨rfl, he1, hk1⟩
  have HC1 := Lib.hid (HC0.out.trans (he1.chg.wider (fun k hk => by simp [hk])))
  have HO1_1 := Lib.hid hk1
  clear he1 hk1
  go_wp2
  go_ret
  exact ⟨rfl, HC1.out, HO1_1.out⟩
set_option maxHeartbeats 2000000 in
theorem heldProgram_d (S : Nat → Prop) (x0 : Int) (d1 : D) (v1 : Value) (m : Int) (w : World) (h1 : Rd S w (mkD (m) d1) v1) (f1 : Fit (.l [.i, .i, .i, .i]) d1) (c1 : cnt d1 ≤ 16777216) (m0 : 0 ≤ m) (m1 : m ≤ 4294967296) :
    Calls Tryd.prog 21 #[.agg #[.int .i64 x0, v1], .int .i64 m] w (RetV w (.int .i64 (m + cnt d1))) := by
  obtain ⟨va1, vn1, vc1, rfl⟩ := f1.sliceM h1
  have hb0 : Below w.heap.size w (w.alloc (.cells #[.int .i64 x0, .slice va1 vn1 vc1] 36)) := below_alloc _ _
  have H_1 := Lib.hid (fun (wx : World) (hb : Below w.heap.size w wx) => heldOrderS_d S d1 _ (m) wx (h1.below hb) f1)
  have HB0 := Lib.hid hb0
  clear hb0 h1
  go_enter Tryd.func21, Tryd.ntmps21
  go_wp2_with fail
  refine (H_1.out _ HB0.out (by omega) (by omega) (by omega)).mono ?_
  rintro e w1 ⟨rfl, hb1⟩
  have HB1 := Lib.hid (bnext HB0.out hb1 (by first | omega | (simp; done) | (simp; omega)))
  have hz1 : w.heap.size < w1.heap.size := by have := hb1.size; (try simp at this); omega
  clear hb1
  go_wp2
  go_ret
  exact ⟨rfl, HB1.out⟩
