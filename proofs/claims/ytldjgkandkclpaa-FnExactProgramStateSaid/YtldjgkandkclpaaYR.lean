/- The laws' functions on rules, systems and states: by shape. Written by tygen.py. -/
import Derived.Test.YtldjgkandkclpaaYA
namespace Go.Proofs.Ytldjgkandkclpaa
open Go.RowKit

theorem uncons {n : Nat} {l : List Value} (h : l.length = n + 1) : ∃ x t, l = x :: t ∧ t.length = n := by
  cases l with
  | nil => simp at h
  | cons x t => exact ⟨x, t, rfl, by simpa using h⟩
set_option maxHeartbeats 2000000 in
theorem eqInto_d (x0 : Int) (d1 : D) (v1 : Value) (v1p : Value) (w : World) (h1 : Rd Any w d1 v1) (h1p : Rd Any w d1 v1p) (f1 : Fit (.l [.i]) d1) :
    Calls Try.prog 201 #[.agg #[.int .i64 x0, v1], .agg #[.int .i64 x0, v1p]] w (RetV w (.bool true)) := by
  obtain ⟨va1, vn1, vc1, rfl⟩ := f1.sliceR h1
  obtain ⟨va1p, vn1p, vc1p, rfl⟩ := f1.sliceR h1p
  have hb : Below w.heap.size w ((w.alloc (.cells #[.int .i64 x0, .slice va1 vn1 vc1] 223)).alloc (.cells #[.int .i64 x0, .slice va1p vn1p vc1p] 223)) := ((Below.refl _ _).alloc (Nat.le_refl _) _).alloc (by simp) _
  have H_1 := Lib.hid (fun (wx : World) (hb : Below w.heap.size w wx) => eqInt64S_d d1 _ _ wx (h1.below hb) (h1p.below hb) f1)
  have HB0 := Lib.hid hb
  clear hb h1 h1p
  go_enter Try.func201, Try.ntmps201
  go_wp2_with fail
  refine (H_1.out _ HB0.out).mono ?_
  rintro e w1 ⟨rfl, hb1⟩
  have HB1 := Lib.hid (bnext HB0.out hb1 (by first | omega | (simp; done) | (simp; omega)))
  have hz1 : w.heap.size + 1 < w1.heap.size := by have := hb1.size; (try simp at this); omega
  clear hb1 
  go_wp2
  go_ret
  exact ⟨rfl, HB1.out⟩
theorem tabIntoSM : Tab Try.prog 201 223 (.agg #[.int .i64 0, .slice none 0 0]) 2 32 := ⟨by kernel_rfl, by kernel_rfl⟩
set_option maxHeartbeats 2000000 in
theorem eqIntoS_d (d : D) (v v' : Value) (w : World) (h : Rd Any w d v) (h' : Rd Any w d v') (hf : Fit (.l [.i, .l [.i]]) d) :
    Calls Try.prog 196 #[v, v'] w (RetV w (.bool true)) := by
  obtain ⟨ds, rfl, n, hn, HR⟩ := Fit.rows (k := 2) rfl hf
  obtain ⟨a, c, rfl, hm, hp, HG⟩ := h.row hn (by omega)
  obtain ⟨ap, cp, rfl, hmp, hpp, HGp⟩ := h'.row hn (by omega)
  unfold maxLen at hm
  have i1 := ix_of (P := Try.prog) tabIntoSM.under tabIntoSM.size (a := a) (n := n) hp c
  have i2 := ix_of (P := Try.prog) tabIntoSM.under tabIntoSM.size (a := ap) (n := n) hpp cp
  clear hn hmp
  go_enter Try.func196, Try.ntmps196
  go_wp2
  go_loopw [5] (fun i0 wr => ∃ i : Nat, i ≤ n ∧ i0 = .int .i64 i ∧ Below w.heap.size w wr) (fun i _ => n - (intOf i).toNat)
  case atStart => exact ⟨0, Nat.zero_le _, rfl, Below.refl _ _⟩
  case round =>
      obtain ⟨i, hi, rfl, hb⟩ := hrel
      have HB := Lib.hid hb
      clear hb
      by_cases hlt : i < n
      · skip
        obtain ⟨x0, q0, f0⟩ := HR.out i hlt 0 _ rfl
        rw [Nat.add_zero] at q0
        obtain ⟨x1, q1, f1⟩ := HR.out i hlt 1 _ rfl
        obtain ⟨u0, g0, r0⟩ := HG.out wr HB.out _ _ q0
        obtain ⟨y0, rfl⟩ := f0
        obtain rfl : u0 = .int .i64 y0 := r0
        obtain ⟨u1, g1, r1⟩ := HG.out wr HB.out _ _ q1
        obtain ⟨ua1, un1, uc1, rfl⟩ := f1.sliceR r1
        obtain ⟨u0p, g0p, r0p⟩ := HGp.out wr HB.out _ _ q0
        obtain rfl : u0p = .int .i64 y0 := r0p
        obtain ⟨u1p, g1p, r1p⟩ := HGp.out wr HB.out _ _ q1
        obtain ⟨ua1p, un1p, uc1p, rfl⟩ := f1.sliceR r1p
        clear q0 q1
        go_wp2_with fail
        go_region_with (go_at_call 201; refine (eqInto_d y0 x1 _ _ _ (r1.below (below_drewN _ _ 1)) (r1p.below (below_drewN _ _ 1)) f1).mono ?_; rintro e w' ⟨rfl, hb'⟩)
        all_goals
          have hbb := bnext HB.out.drew hb' (Nat.le_refl _)
          clear hb' g0 g0p g1 g1p
          go_wp2
          go_roundw
          case rel => exact ⟨i + 1, by omega, by go_num, hbb⟩
          case measure => simp [intOf]; omega
      · go_wp2
        go_ret
        exact ⟨rfl, HB.out⟩
set_option maxHeartbeats 4000000 in
set_option maxRecDepth 100000 in
theorem markIntoS_d (d : D) (v : Value) (F : List Nat) (m : Int) (w : World) (h : Ow w d v F) (hnd : F.Nodup) (hf : Fit (.l [.i, .l [.i]]) d) (hv : cnt d ≤ 16777216) (m0 : 0 ≤ m) (m1 : m ≤ 17179869184) :
    Calls Try.prog 174 #[v, .int .i64 m] w (RetMk w F m d v) := by
  obtain ⟨ds, rfl, n, hn, HR⟩ := Fit.rows (k := 2) rfl hf
  obtain ⟨a, c, F', rfl, hm, hp, hcp, hM⟩ := h.mks hnd hn (by omega)
  have HCP := Lib.hid hcp
  clear hcp
  have hM0 := Lib.hid (hM m)
  have HM := Lib.hid hm
  unfold maxLen at hm
  simp only [cnt] at hv
  have HN := Lib.hid hn
  clear hM hn
  have i1 := ix_of (P := Try.prog) tabIntoSM.under tabIntoSM.size (a := a) (n := n) hp c
  go_enter Try.func174, Try.ntmps174
  go_wp2
  go_loopw [1, 5] (fun q i0 wr => ∃ (i : Nat) (K : Int), i ≤ n ∧ i0 = .int .i64 i ∧ q = .int .i64 K ∧ Mks w wr a ds F' F m K (i * 2)) (fun _ i _ => n - (intOf i).toNat)
  case atStart => exact ⟨0, m, Nat.zero_le _, rfl, rfl, by simpa using hM0.out⟩
  case round =>
      obtain ⟨i, K0, hi, rfl, rfl, hk0⟩ := hrel
      by_cases hlt : i < n
      · skip
        obtain ⟨x0, q0, f0⟩ := HR.out i hlt 0 _ rfl
        rw [Nat.add_zero] at q0
        obtain ⟨x1, q1, f1⟩ := HR.out i hlt 1 _ rfl
        obtain ⟨y0, rfl⟩ := f0
        have B0 := hk0.le
        obtain ⟨⟨o0, e0⟩, z0⟩ := hk0.celln (q' := i * 2) (by omega) q0
        have hk_0 := hk0.int q0
        obtain ⟨u1, G1, c1, b1, n1, N1⟩ := hk_0.list q1
        obtain ⟨ua1, un1, uc1, rfl⟩ := f1.sliceO b1
        have cc1 : wr.cell? (adr a (i * 2 + 1)) = some (.slice ua1 un1 uc1) := by rw [← c1]; rw [World.cell?_setCell_other _ _ _ _ (adr_ne (by omega))]
        have B2 := hk_0.le
        have V1 : cnt x1 ≤ 16777216 := by have := cntL_at ds _ x1 q1; omega
        clear hk0 hk_0
        go_wp2_with fail
        refine (markInt64S_d x1 _ G1 _ _ b1 n1 f1 V1 (by omega) (by omega)).mono ?_
        rintro e w1 ⟨rfl, he1, hy1⟩
        have hk_1 := N1.out _ he1 hy1
        clear he1 hy1 b1 c1 N1 cc1
        have HK := Lib.hid hk_1
        clear hk_1
        go_wp2
        go_roundw
        case rel => exact ⟨i + 1, _, by omega, by go_num, rfl, by have := HK.out; rwa [show (i + 1) * 2 = i * 2 + 2 from by omega]⟩
        case measure => simp [intOf]; omega
      · have HK := Lib.hid hk0
        clear hk0
        go_wp2
        go_ret
        obtain rfl : i = n := by omega
        have h2 := HK.out
        rw [← HN.out] at h2
        exact h2.done hp HM.out HN.out HCP.out
set_option maxHeartbeats 4000000 in
set_option maxRecDepth 100000 in
theorem heldIntoS_d (S : Nat → Prop) (d : D) (v : Value) (m : Int) (w : World) (h : Rd S w (mkD m d) v) (hf : Fit (.l [.i, .l [.i]]) d) (hv : cnt d ≤ 16777216) (m0 : 0 ≤ m) (m1 : m ≤ 17179869184) :
    Calls Try.prog 175 #[v, .int .i64 m] w (RetV w (.int .i64 (m + cnt d))) := by
  obtain ⟨ds, rfl, n, hn, HR⟩ := Fit.rows (k := 2) rfl hf
  rw [mkD] at h
  obtain ⟨a, c, rfl, hm, hp, HG⟩ := h.row (n := n) (by rw [mkL_len]; exact hn) (by omega)
  unfold maxLen at hm
  simp only [cnt] at hv
  have HN := Lib.hid hn
  clear hn
  have i1 := ix_of (P := Try.prog) tabIntoSM.under tabIntoSM.size (a := a) (n := n) hp c
  go_enter Try.func175, Try.ntmps175
  go_wp2
  go_loopw [1, 5] (fun q i0 wr => ∃ (i : Nat) (K : Int), i ≤ n ∧ i0 = .int .i64 i ∧ q = .int .i64 K ∧ Hid (K = m + cntL (ds.take (i * 2))) ∧ Below w.heap.size w wr) (fun _ i _ => n - (intOf i).toNat)
  case atStart => exact ⟨0, m, Nat.zero_le _, rfl, rfl, Lib.hid (by simp [cntL]), Below.refl _ _⟩
  case round =>
      obtain ⟨i, K, hi, rfl, rfl, HK, hb⟩ := hrel
      have HB := Lib.hid hb
      clear hb
      by_cases hlt : i < n
      · skip
        obtain ⟨x0, q0, f0⟩ := HR.out i hlt 0 _ rfl
        rw [Nat.add_zero] at q0
        obtain ⟨x1, q1, f1⟩ := HR.out i hlt 1 _ rfl
        have k0 : K ≤ m + 16777216 ∧ 0 ≤ K := by have := HK.out; have := cntL_take_le ds (i * 2); omega
        have HK0 := HK
        obtain ⟨u0, g0, r0⟩ := HG.out wr HB.out _ _ (mkL_get ds m _ x0 q0)
        obtain ⟨u1, g1, r1⟩ := HG.out wr HB.out _ _ (mkL_get ds m _ x1 q1)
        rw [← HK0.out] at r0
        obtain ⟨y0, rfl⟩ := f0
        obtain rfl : u0 = .int .i64 (K) := r0
        have HK1 : Hid (K + 1 = m + cntL (ds.take (i * 2 + 1))) := Lib.hid (by have a1 := HK0.out; have a2 := cntL_take q0; show _ = m + ((cntL (ds.take (i * 2 + 1)) : Nat) : Int); rw [a2]; simp only [cnt]; omega)
        have k1 : K + 1 ≤ m + 16777216 ∧ 0 ≤ K + 1 := by have := HK1.out; have := cntL_take_le ds (i * 2 + 1); omega
        rw [← HK1.out] at r1
        obtain ⟨ua1, un1, uc1, rfl⟩ := f1.sliceM r1
        have HK2 : Hid (K + 1 + cnt x1 = m + cntL (ds.take (i * 2 + 1 + 1))) := Lib.hid (by have a1 := HK1.out; have a2 := cntL_take q1; show _ = m + ((cntL (ds.take (i * 2 + 1 + 1)) : Nat) : Int); rw [a2]; omega)
        have k2 : K + 1 + cnt x1 ≤ m + 16777216 ∧ 0 ≤ K + 1 + cnt x1 := by have := HK2.out; have := cntL_take_le ds (i * 2 + 1 + 1); omega
        have V1 : cnt x1 ≤ 16777216 := by have := cntL_at ds _ x1 q1; omega
        clear q0 q1
        go_wp2_with fail
        refine (heldInt64S_d S x1 _ (K + 1) _ r1 f1 V1 (by omega) (by omega)).mono ?_
        rintro e w1 ⟨rfl, hb1⟩
        have HX1 := Lib.hid (hb1)
        clear hb1 g1
        go_wp2
        go_roundw
        case rel => exact ⟨i + 1, _, by omega, by go_num, rfl, Lib.hid (by have := HK2.out; rw [show (i + 1) * 2 = i * 2 + 1 + 1 from by omega]; exact this), bnext HB.out HX1.out (Nat.le_refl _)⟩
        case measure => simp [intOf]; omega
      · go_wp2
        go_ret
        obtain rfl : i = n := by omega
        refine ⟨ret_int ?_, HB.out⟩
        have a1 := HK.out
        rw [take_full HN.out] at a1
        simp only [cnt]; exact a1
set_option maxHeartbeats 2000000 in
theorem eqRule_d (x0 : Int) (x1 : Int) (d2 : D) (v2 : Value) (d3 : D) (v3 : Value) (d4 : D) (v4 : Value) (d5 : D) (v5 : Value) (d6 : D) (v6 : Value) (d7 : D) (v7 : Value) (x8 : Bool) (v2p : Value) (v3p : Value) (v4p : Value) (v5p : Value) (v6p : Value) (v7p : Value) (w : World) (h2 : Rd Any w d2 v2) (h3 : Rd Any w d3 v3) (h4 : Rd Any w d4 v4) (h5 : Rd Any w d5 v5) (h6 : Rd Any w d6 v6) (h7 : Rd Any w d7 v7) (h2p : Rd Any w d2 v2p) (h3p : Rd Any w d3 v3p) (h4p : Rd Any w d4 v4p) (h5p : Rd Any w d5 v5p) (h6p : Rd Any w d6 v6p) (h7p : Rd Any w d7 v7p) (f2 : Fit (.l [.i]) d2) (f3 : Fit (.l [.i]) d3) (f4 : Fit (.l [.i]) d4) (f5 : Fit (.l [.i]) d5) (f6 : Fit (.l [.i]) d6) (f7 : Fit (.l [.i, .l [.i]]) d7) :
    Calls Try.prog 173 #[.agg #[.int .i64 x0, .int .i64 x1, v2, v3, v4, v5, v6, v7, .bool x8], .agg #[.int .i64 x0, .int .i64 x1, v2p, v3p, v4p, v5p, v6p, v7p, .bool x8]] w (RetV w (.bool true)) := by
  obtain ⟨va2, vn2, vc2, rfl⟩ := f2.sliceR h2
  obtain ⟨va3, vn3, vc3, rfl⟩ := f3.sliceR h3
  obtain ⟨va4, vn4, vc4, rfl⟩ := f4.sliceR h4
  obtain ⟨va5, vn5, vc5, rfl⟩ := f5.sliceR h5
  obtain ⟨va6, vn6, vc6, rfl⟩ := f6.sliceR h6
  obtain ⟨va7, vn7, vc7, rfl⟩ := f7.sliceR h7
  obtain ⟨va2p, vn2p, vc2p, rfl⟩ := f2.sliceR h2p
  obtain ⟨va3p, vn3p, vc3p, rfl⟩ := f3.sliceR h3p
  obtain ⟨va4p, vn4p, vc4p, rfl⟩ := f4.sliceR h4p
  obtain ⟨va5p, vn5p, vc5p, rfl⟩ := f5.sliceR h5p
  obtain ⟨va6p, vn6p, vc6p, rfl⟩ := f6.sliceR h6p
  obtain ⟨va7p, vn7p, vc7p, rfl⟩ := f7.sliceR h7p
  have hb : Below w.heap.size w ((w.alloc (.cells #[.int .i64 x0, .int .i64 x1, .slice va2 vn2 vc2, .slice va3 vn3 vc3, .slice va4 vn4 vc4, .slice va5 vn5 vc5, .slice va6 vn6 vc6, .slice va7 vn7 vc7, .bool x8] 203)).alloc (.cells #[.int .i64 x0, .int .i64 x1, .slice va2p vn2p vc2p, .slice va3p vn3p vc3p, .slice va4p vn4p vc4p, .slice va5p vn5p vc5p, .slice va6p vn6p vc6p, .slice va7p vn7p vc7p, .bool x8] 203)) := ((Below.refl _ _).alloc (Nat.le_refl _) _).alloc (by simp) _
  have H_2 := Lib.hid (fun (wx : World) (hb : Below w.heap.size w wx) => eqInt64S_d d2 _ _ wx (h2.below hb) (h2p.below hb) f2)
  have H_3 := Lib.hid (fun (wx : World) (hb : Below w.heap.size w wx) => eqInt64S_d d3 _ _ wx (h3.below hb) (h3p.below hb) f3)
  have H_4 := Lib.hid (fun (wx : World) (hb : Below w.heap.size w wx) => eqInt64S_d d4 _ _ wx (h4.below hb) (h4p.below hb) f4)
  have H_5 := Lib.hid (fun (wx : World) (hb : Below w.heap.size w wx) => eqInt64S_d d5 _ _ wx (h5.below hb) (h5p.below hb) f5)
  have H_6 := Lib.hid (fun (wx : World) (hb : Below w.heap.size w wx) => eqInt64S_d d6 _ _ wx (h6.below hb) (h6p.below hb) f6)
  have H_7 := Lib.hid (fun (wx : World) (hb : Below w.heap.size w wx) => eqIntoS_d d7 _ _ wx (h7.below hb) (h7p.below hb) f7)
  have HB0 := Lib.hid hb
  clear hb h2 h2p h3 h3p h4 h4p h5 h5p h6 h6p h7 h7p
  go_enter Try.func173, Try.ntmps173
  go_wp2_with fail
  refine (H_2.out _ HB0.out).mono ?_
  rintro e w1 ⟨rfl, hb1⟩
  have g1_3 : w1.cell? ⟨w.heap.size, 3, none⟩ = some (.slice va3 vn3 vc3) := by rw [bcell1 hb1 (by first | omega | (simp; done) | (simp; omega))]; simp [go_sem]
  have g1_3p : w1.cell? ⟨w.heap.size + 1, 3, none⟩ = some (.slice va3p vn3p vc3p) := by rw [bcell1 hb1 (by first | omega | (simp; done) | (simp; omega))]; simp [go_sem]
  have g1_4 : w1.cell? ⟨w.heap.size, 4, none⟩ = some (.slice va4 vn4 vc4) := by rw [bcell1 hb1 (by first | omega | (simp; done) | (simp; omega))]; simp [go_sem]
  have g1_4p : w1.cell? ⟨w.heap.size + 1, 4, none⟩ = some (.slice va4p vn4p vc4p) := by rw [bcell1 hb1 (by first | omega | (simp; done) | (simp; omega))]; simp [go_sem]
  have g1_5 : w1.cell? ⟨w.heap.size, 5, none⟩ = some (.slice va5 vn5 vc5) := by rw [bcell1 hb1 (by first | omega | (simp; done) | (simp; omega))]; simp [go_sem]
  have g1_5p : w1.cell? ⟨w.heap.size + 1, 5, none⟩ = some (.slice va5p vn5p vc5p) := by rw [bcell1 hb1 (by first | omega | (simp; done) | (simp; omega))]; simp [go_sem]
  have g1_6 : w1.cell? ⟨w.heap.size, 6, none⟩ = some (.slice va6 vn6 vc6) := by rw [bcell1 hb1 (by first | omega | (simp; done) | (simp; omega))]; simp [go_sem]
  have g1_6p : w1.cell? ⟨w.heap.size + 1, 6, none⟩ = some (.slice va6p vn6p vc6p) := by rw [bcell1 hb1 (by first | omega | (simp; done) | (simp; omega))]; simp [go_sem]
  have g1_7 : w1.cell? ⟨w.heap.size, 7, none⟩ = some (.slice va7 vn7 vc7) := by rw [bcell1 hb1 (by first | omega | (simp; done) | (simp; omega))]; simp [go_sem]
  have g1_7p : w1.cell? ⟨w.heap.size + 1, 7, none⟩ = some (.slice va7p vn7p vc7p) := by rw [bcell1 hb1 (by first | omega | (simp; done) | (simp; omega))]; simp [go_sem]
  have g1_8 : w1.cell? ⟨w.heap.size, 8, none⟩ = some (.bool x8) := by rw [bcell1 hb1 (by first | omega | (simp; done) | (simp; omega))]; simp [go_sem]
  have g1_8p : w1.cell? ⟨w.heap.size + 1, 8, none⟩ = some (.bool x8) := by rw [bcell1 hb1 (by first | omega | (simp; done) | (simp; omega))]; simp [go_sem]
  have HB1 := Lib.hid (bnext HB0.out hb1 (by first | omega | (simp; done) | (simp; omega)))
  have hz1 : w.heap.size + 1 < w1.heap.size := by have := hb1.size; (try simp at this); omega
  clear hb1 
  go_wp2_with fail
  refine (H_3.out _ HB1.out).mono ?_
  rintro e w2 ⟨rfl, hb2⟩
  have g2_4 : w2.cell? ⟨w.heap.size, 4, none⟩ = some (.slice va4 vn4 vc4) := by rw [bcell1 hb2 (by first | omega | (simp; done) | (simp; omega))]; exact g1_4
  have g2_4p : w2.cell? ⟨w.heap.size + 1, 4, none⟩ = some (.slice va4p vn4p vc4p) := by rw [bcell1 hb2 (by first | omega | (simp; done) | (simp; omega))]; exact g1_4p
  have g2_5 : w2.cell? ⟨w.heap.size, 5, none⟩ = some (.slice va5 vn5 vc5) := by rw [bcell1 hb2 (by first | omega | (simp; done) | (simp; omega))]; exact g1_5
  have g2_5p : w2.cell? ⟨w.heap.size + 1, 5, none⟩ = some (.slice va5p vn5p vc5p) := by rw [bcell1 hb2 (by first | omega | (simp; done) | (simp; omega))]; exact g1_5p
  have g2_6 : w2.cell? ⟨w.heap.size, 6, none⟩ = some (.slice va6 vn6 vc6) := by rw [bcell1 hb2 (by first | omega | (simp; done) | (simp; omega))]; exact g1_6
  have g2_6p : w2.cell? ⟨w.heap.size + 1, 6, none⟩ = some (.slice va6p vn6p vc6p) := by rw [bcell1 hb2 (by first | omega | (simp; done) | (simp; omega))]; exact g1_6p
  have g2_7 : w2.cell? ⟨w.heap.size, 7, none⟩ = some (.slice va7 vn7 vc7) := by rw [bcell1 hb2 (by first | omega | (simp; done) | (simp; omega))]; exact g1_7
  have g2_7p : w2.cell? ⟨w.heap.size + 1, 7, none⟩ = some (.slice va7p vn7p vc7p) := by rw [bcell1 hb2 (by first | omega | (simp; done) | (simp; omega))]; exact g1_7p
  have g2_8 : w2.cell? ⟨w.heap.size, 8, none⟩ = some (.bool x8) := by rw [bcell1 hb2 (by first | omega | (simp; done) | (simp; omega))]; exact g1_8
  have g2_8p : w2.cell? ⟨w.heap.size + 1, 8, none⟩ = some (.bool x8) := by rw [bcell1 hb2 (by first | omega | (simp; done) | (simp; omega))]; exact g1_8p
  have HB2 := Lib.hid (bnext HB1.out hb2 (by first | omega | (simp; done) | (simp; omega)))
  have hz2 : w.heap.size + 1 < w2.heap.size := by have := hb2.size; (try simp at this); omega
  clear hb2 g1_3 g1_3p g1_4 g1_4p g1_5 g1_5p g1_6 g1_6p g1_7 g1_7p g1_8 g1_8p
  go_wp2_with fail
  refine (H_4.out _ HB2.out).mono ?_
  rintro e w3 ⟨rfl, hb3⟩
  have g3_5 : w3.cell? ⟨w.heap.size, 5, none⟩ = some (.slice va5 vn5 vc5) := by rw [bcell1 hb3 (by first | omega | (simp; done) | (simp; omega))]; exact g2_5
  have g3_5p : w3.cell? ⟨w.heap.size + 1, 5, none⟩ = some (.slice va5p vn5p vc5p) := by rw [bcell1 hb3 (by first | omega | (simp; done) | (simp; omega))]; exact g2_5p
  have g3_6 : w3.cell? ⟨w.heap.size, 6, none⟩ = some (.slice va6 vn6 vc6) := by rw [bcell1 hb3 (by first | omega | (simp; done) | (simp; omega))]; exact g2_6
  have g3_6p : w3.cell? ⟨w.heap.size + 1, 6, none⟩ = some (.slice va6p vn6p vc6p) := by rw [bcell1 hb3 (by first | omega | (simp; done) | (simp; omega))]; exact g2_6p
  have g3_7 : w3.cell? ⟨w.heap.size, 7, none⟩ = some (.slice va7 vn7 vc7) := by rw [bcell1 hb3 (by first | omega | (simp; done) | (simp; omega))]; exact g2_7
  have g3_7p : w3.cell? ⟨w.heap.size + 1, 7, none⟩ = some (.slice va7p vn7p vc7p) := by rw [bcell1 hb3 (by first | omega | (simp; done) | (simp; omega))]; exact g2_7p
  have g3_8 : w3.cell? ⟨w.heap.size, 8, none⟩ = some (.bool x8) := by rw [bcell1 hb3 (by first | omega | (simp; done) | (simp; omega))]; exact g2_8
  have g3_8p : w3.cell? ⟨w.heap.size + 1, 8, none⟩ = some (.bool x8) := by rw [bcell1 hb3 (by first | omega | (simp; done) | (simp; omega))]; exact g2_8p
  have HB3 := Lib.hid (bnext HB2.out hb3 (by first | omega | (simp; done) | (simp; omega)))
  have hz3 : w.heap.size + 1 < w3.heap.size := by have := hb3.size; (try simp at this); omega
  clear hb3 g2_4 g2_4p g2_5 g2_5p g2_6 g2_6p g2_7 g2_7p g2_8 g2_8p
  go_wp2_with fail
  refine (H_5.out _ HB3.out).mono ?_
  rintro e w4 ⟨rfl, hb4⟩
  have g4_6 : w4.cell? ⟨w.heap.size, 6, none⟩ = some (.slice va6 vn6 vc6) := by rw [bcell1 hb4 (by first | omega | (simp; done) | (simp; omega))]; exact g3_6
  have g4_6p : w4.cell? ⟨w.heap.size + 1, 6, none⟩ = some (.slice va6p vn6p vc6p) := by rw [bcell1 hb4 (by first | omega | (simp; done) | (simp; omega))]; exact g3_6p
  have g4_7 : w4.cell? ⟨w.heap.size, 7, none⟩ = some (.slice va7 vn7 vc7) := by rw [bcell1 hb4 (by first | omega | (simp; done) | (simp; omega))]; exact g3_7
  have g4_7p : w4.cell? ⟨w.heap.size + 1, 7, none⟩ = some (.slice va7p vn7p vc7p) := by rw [bcell1 hb4 (by first | omega | (simp; done) | (simp; omega))]; exact g3_7p
  have g4_8 : w4.cell? ⟨w.heap.size, 8, none⟩ = some (.bool x8) := by rw [bcell1 hb4 (by first | omega | (simp; done) | (simp; omega))]; exact g3_8
  have g4_8p : w4.cell? ⟨w.heap.size + 1, 8, none⟩ = some (.bool x8) := by rw [bcell1 hb4 (by first | omega | (simp; done) | (simp; omega))]; exact g3_8p
  have HB4 := Lib.hid (bnext HB3.out hb4 (by first | omega | (simp; done) | (simp; omega)))
  have hz4 : w.heap.size + 1 < w4.heap.size := by have := hb4.size; (try simp at this); omega
  clear hb4 g3_5 g3_5p g3_6 g3_6p g3_7 g3_7p g3_8 g3_8p
  go_wp2_with fail
  refine (H_6.out _ HB4.out).mono ?_
  rintro e w5 ⟨rfl, hb5⟩
  have g5_7 : w5.cell? ⟨w.heap.size, 7, none⟩ = some (.slice va7 vn7 vc7) := by rw [bcell1 hb5 (by first | omega | (simp; done) | (simp; omega))]; exact g4_7
  have g5_7p : w5.cell? ⟨w.heap.size + 1, 7, none⟩ = some (.slice va7p vn7p vc7p) := by rw [bcell1 hb5 (by first | omega | (simp; done) | (simp; omega))]; exact g4_7p
  have g5_8 : w5.cell? ⟨w.heap.size, 8, none⟩ = some (.bool x8) := by rw [bcell1 hb5 (by first | omega | (simp; done) | (simp; omega))]; exact g4_8
  have g5_8p : w5.cell? ⟨w.heap.size + 1, 8, none⟩ = some (.bool x8) := by rw [bcell1 hb5 (by first | omega | (simp; done) | (simp; omega))]; exact g4_8p
  have HB5 := Lib.hid (bnext HB4.out hb5 (by first | omega | (simp; done) | (simp; omega)))
  have hz5 : w.heap.size + 1 < w5.heap.size := by have := hb5.size; (try simp at this); omega
  clear hb5 g4_6 g4_6p g4_7 g4_7p g4_8 g4_8p
  go_wp2_with fail
  refine (H_7.out _ HB5.out).mono ?_
  rintro e w6 ⟨rfl, hb6⟩
  have g6_8 : w6.cell? ⟨w.heap.size, 8, none⟩ = some (.bool x8) := by rw [bcell1 hb6 (by first | omega | (simp; done) | (simp; omega))]; exact g5_8
  have g6_8p : w6.cell? ⟨w.heap.size + 1, 8, none⟩ = some (.bool x8) := by rw [bcell1 hb6 (by first | omega | (simp; done) | (simp; omega))]; exact g5_8p
  have HB6 := Lib.hid (bnext HB5.out hb6 (by first | omega | (simp; done) | (simp; omega)))
  have hz6 : w.heap.size + 1 < w6.heap.size := by have := hb6.size; (try simp at this); omega
  clear hb6 g5_7 g5_7p g5_8 g5_8p
  go_wp2
  go_ret
  exact ⟨rfl, HB6.out⟩
theorem tabRuleSM : Tab Try.prog 93 203 (.agg #[.int .i64 0, .int .i64 0, .slice none 0 0, .slice none 0 0, .slice none 0 0, .slice none 0 0, .slice none 0 0, .slice none 0 0, .bool false]) 9 168 := ⟨by kernel_rfl, by kernel_rfl⟩
set_option maxHeartbeats 2000000 in
theorem eqRuleS_d (d : D) (v v' : Value) (w : World) (h : Rd Any w d v) (h' : Rd Any w d v') (hf : Fit (.l [.i, .i, .l [.i], .l [.i], .l [.i], .l [.i], .l [.i], .l [.i, .l [.i]], .b]) d) :
    Calls Try.prog 122 #[v, v'] w (RetV w (.bool true)) := by
  obtain ⟨ds, rfl, n, hn, HR⟩ := Fit.rows (k := 9) rfl hf
  obtain ⟨a, c, rfl, hm, hp, HG⟩ := h.row hn (by omega)
  obtain ⟨ap, cp, rfl, hmp, hpp, HGp⟩ := h'.row hn (by omega)
  unfold maxLen at hm
  have i1 := ix_of (P := Try.prog) tabRuleSM.under tabRuleSM.size (a := a) (n := n) hp c
  have i2 := ix_of (P := Try.prog) tabRuleSM.under tabRuleSM.size (a := ap) (n := n) hpp cp
  clear hn hmp
  go_enter Try.func122, Try.ntmps122
  go_wp2
  go_loopw [5] (fun i0 wr => ∃ i : Nat, i ≤ n ∧ i0 = .int .i64 i ∧ Below w.heap.size w wr) (fun i _ => n - (intOf i).toNat)
  case atStart => exact ⟨0, Nat.zero_le _, rfl, Below.refl _ _⟩
  case round =>
      obtain ⟨i, hi, rfl, hb⟩ := hrel
      have HB := Lib.hid hb
      clear hb
      by_cases hlt : i < n
      · skip
        obtain ⟨x0, q0, f0⟩ := HR.out i hlt 0 _ rfl
        rw [Nat.add_zero] at q0
        obtain ⟨x1, q1, f1⟩ := HR.out i hlt 1 _ rfl
        obtain ⟨x2, q2, f2⟩ := HR.out i hlt 2 _ rfl
        obtain ⟨x3, q3, f3⟩ := HR.out i hlt 3 _ rfl
        obtain ⟨x4, q4, f4⟩ := HR.out i hlt 4 _ rfl
        obtain ⟨x5, q5, f5⟩ := HR.out i hlt 5 _ rfl
        obtain ⟨x6, q6, f6⟩ := HR.out i hlt 6 _ rfl
        obtain ⟨x7, q7, f7⟩ := HR.out i hlt 7 _ rfl
        obtain ⟨x8, q8, f8⟩ := HR.out i hlt 8 _ rfl
        obtain ⟨u0, g0, r0⟩ := HG.out wr HB.out _ _ q0
        obtain ⟨y0, rfl⟩ := f0
        obtain rfl : u0 = .int .i64 y0 := r0
        obtain ⟨u1, g1, r1⟩ := HG.out wr HB.out _ _ q1
        obtain ⟨y1, rfl⟩ := f1
        obtain rfl : u1 = .int .i64 y1 := r1
        obtain ⟨u2, g2, r2⟩ := HG.out wr HB.out _ _ q2
        obtain ⟨ua2, un2, uc2, rfl⟩ := f2.sliceR r2
        obtain ⟨u3, g3, r3⟩ := HG.out wr HB.out _ _ q3
        obtain ⟨ua3, un3, uc3, rfl⟩ := f3.sliceR r3
        obtain ⟨u4, g4, r4⟩ := HG.out wr HB.out _ _ q4
        obtain ⟨ua4, un4, uc4, rfl⟩ := f4.sliceR r4
        obtain ⟨u5, g5, r5⟩ := HG.out wr HB.out _ _ q5
        obtain ⟨ua5, un5, uc5, rfl⟩ := f5.sliceR r5
        obtain ⟨u6, g6, r6⟩ := HG.out wr HB.out _ _ q6
        obtain ⟨ua6, un6, uc6, rfl⟩ := f6.sliceR r6
        obtain ⟨u7, g7, r7⟩ := HG.out wr HB.out _ _ q7
        obtain ⟨ua7, un7, uc7, rfl⟩ := f7.sliceR r7
        obtain ⟨u8, g8, r8⟩ := HG.out wr HB.out _ _ q8
        obtain ⟨y8, rfl⟩ := f8
        obtain rfl : u8 = .bool y8 := r8
        obtain ⟨u0p, g0p, r0p⟩ := HGp.out wr HB.out _ _ q0
        obtain rfl : u0p = .int .i64 y0 := r0p
        obtain ⟨u1p, g1p, r1p⟩ := HGp.out wr HB.out _ _ q1
        obtain rfl : u1p = .int .i64 y1 := r1p
        obtain ⟨u2p, g2p, r2p⟩ := HGp.out wr HB.out _ _ q2
        obtain ⟨ua2p, un2p, uc2p, rfl⟩ := f2.sliceR r2p
        obtain ⟨u3p, g3p, r3p⟩ := HGp.out wr HB.out _ _ q3
        obtain ⟨ua3p, un3p, uc3p, rfl⟩ := f3.sliceR r3p
        obtain ⟨u4p, g4p, r4p⟩ := HGp.out wr HB.out _ _ q4
        obtain ⟨ua4p, un4p, uc4p, rfl⟩ := f4.sliceR r4p
        obtain ⟨u5p, g5p, r5p⟩ := HGp.out wr HB.out _ _ q5
        obtain ⟨ua5p, un5p, uc5p, rfl⟩ := f5.sliceR r5p
        obtain ⟨u6p, g6p, r6p⟩ := HGp.out wr HB.out _ _ q6
        obtain ⟨ua6p, un6p, uc6p, rfl⟩ := f6.sliceR r6p
        obtain ⟨u7p, g7p, r7p⟩ := HGp.out wr HB.out _ _ q7
        obtain ⟨ua7p, un7p, uc7p, rfl⟩ := f7.sliceR r7p
        obtain ⟨u8p, g8p, r8p⟩ := HGp.out wr HB.out _ _ q8
        obtain rfl : u8p = .bool y8 := r8p
        clear q0 q1 q2 q3 q4 q5 q6 q7 q8
        go_wp2_with fail
        go_region_with (go_at_call 173; refine (eqRule_d y0 y1 x2 _ x3 _ x4 _ x5 _ x6 _ x7 _ y8 _ _ _ _ _ _ _ (r2.below (below_drewN _ _ 1)) (r3.below (below_drewN _ _ 1)) (r4.below (below_drewN _ _ 1)) (r5.below (below_drewN _ _ 1)) (r6.below (below_drewN _ _ 1)) (r7.below (below_drewN _ _ 1)) (r2p.below (below_drewN _ _ 1)) (r3p.below (below_drewN _ _ 1)) (r4p.below (below_drewN _ _ 1)) (r5p.below (below_drewN _ _ 1)) (r6p.below (below_drewN _ _ 1)) (r7p.below (below_drewN _ _ 1)) f2 f3 f4 f5 f6 f7).mono ?_; rintro e w' ⟨rfl, hb'⟩)
        all_goals
          have hbb := bnext HB.out.drew hb' (Nat.le_refl _)
          clear hb' g0 g0p g1 g1p g2 g2p g3 g3p g4 g4p g5 g5p g6 g6p g7 g7p g8 g8p
          go_wp2
          go_roundw
          case rel => exact ⟨i + 1, by omega, by go_num, hbb⟩
          case measure => simp [intOf]; omega
      · go_wp2
        go_ret
        exact ⟨rfl, HB.out⟩
set_option maxHeartbeats 4000000 in
set_option maxRecDepth 100000 in
theorem markRuleS_d (d : D) (v : Value) (F : List Nat) (m : Int) (w : World) (h : Ow w d v F) (hnd : F.Nodup) (hf : Fit (.l [.i, .i, .l [.i], .l [.i], .l [.i], .l [.i], .l [.i], .l [.i, .l [.i]], .b]) d) (hv : cnt d ≤ 16777216) (m0 : 0 ≤ m) (m1 : m ≤ 8589934592) :
    Calls Try.prog 123 #[v, .int .i64 m] w (RetMk w F m d v) := by
  obtain ⟨ds, rfl, n, hn, HR⟩ := Fit.rows (k := 9) rfl hf
  obtain ⟨a, c, F', rfl, hm, hp, hcp, hM⟩ := h.mks hnd hn (by omega)
  have HCP := Lib.hid hcp
  clear hcp
  have hM0 := Lib.hid (hM m)
  have HM := Lib.hid hm
  unfold maxLen at hm
  simp only [cnt] at hv
  have HN := Lib.hid hn
  clear hM hn
  have i1 := ix_of (P := Try.prog) tabRuleSM.under tabRuleSM.size (a := a) (n := n) hp c
  go_enter Try.func123, Try.ntmps123
  go_wp2
  go_loopw [1, 5] (fun q i0 wr => ∃ (i : Nat) (K : Int), i ≤ n ∧ i0 = .int .i64 i ∧ q = .int .i64 K ∧ Mks w wr a ds F' F m K (i * 9)) (fun _ i _ => n - (intOf i).toNat)
  case atStart => exact ⟨0, m, Nat.zero_le _, rfl, rfl, by simpa using hM0.out⟩
  case round =>
      obtain ⟨i, K0, hi, rfl, rfl, hk0⟩ := hrel
      by_cases hlt : i < n
      · skip
        obtain ⟨x0, q0, f0⟩ := HR.out i hlt 0 _ rfl
        rw [Nat.add_zero] at q0
        obtain ⟨x1, q1, f1⟩ := HR.out i hlt 1 _ rfl
        obtain ⟨x2, q2, f2⟩ := HR.out i hlt 2 _ rfl
        obtain ⟨x3, q3, f3⟩ := HR.out i hlt 3 _ rfl
        obtain ⟨x4, q4, f4⟩ := HR.out i hlt 4 _ rfl
        obtain ⟨x5, q5, f5⟩ := HR.out i hlt 5 _ rfl
        obtain ⟨x6, q6, f6⟩ := HR.out i hlt 6 _ rfl
        obtain ⟨x7, q7, f7⟩ := HR.out i hlt 7 _ rfl
        obtain ⟨x8, q8, f8⟩ := HR.out i hlt 8 _ rfl
        obtain ⟨y0, rfl⟩ := f0
        obtain ⟨y1, rfl⟩ := f1
        obtain ⟨y8, rfl⟩ := f8
        have B0 := hk0.le
        obtain ⟨⟨o0, e0⟩, z0⟩ := hk0.celln (q' := i * 9) (by omega) q0
        have hk_0 : Mks w _ a ds F' F m _ (i * 9 + 1) := hk0.int q0
        obtain ⟨⟨o1, e1⟩, z1⟩ := hk_0.celln (q' := i * 9 + 1) (by omega) q1
        have hk_1 : Mks w _ a ds F' F m _ (i * 9 + 2) := hk_0.int q1
        obtain ⟨u2, G2, c2, b2, n2, N2⟩ := hk_1.list q2
        obtain ⟨ua2, un2, uc2, rfl⟩ := f2.sliceO b2
        have cc2 : wr.cell? (adr a (i * 9 + 2)) = some (.slice ua2 un2 uc2) := by rw [← c2]; rw [World.cell?_setCell_other _ _ _ _ (adr_ne (by omega))]; rw [World.cell?_setCell_other _ _ _ _ (adr_ne (by omega))]
        have B3 := hk_1.le
        have V2 : cnt x2 ≤ 16777216 := by have := cntL_at ds _ x2 q2; omega
        clear hk0 hk_0 hk_1
        go_wp2_with fail
        refine (markInt64S_d x2 _ G2 _ _ b2 n2 f2 V2 (by omega) (by omega)).mono ?_
        rintro e w2 ⟨rfl, he2, hy2⟩
        have hk_2 := N2.out _ he2 hy2
        clear he2 hy2 b2 c2 N2 cc2
        obtain ⟨u3, G3, c3, b3, n3, N3⟩ := hk_2.list q3
        obtain ⟨ua3, un3, uc3, rfl⟩ := f3.sliceO b3
        have B4 := hk_2.le
        have V3 : cnt x3 ≤ 16777216 := by have := cntL_at ds _ x3 q3; omega
        clear hk_2
        go_wp2_with fail
        refine (markInt64S_d x3 _ G3 _ _ b3 n3 f3 V3 (by omega) (by omega)).mono ?_
        rintro e w3 ⟨rfl, he3, hy3⟩
        have hk_3 := N3.out _ he3 hy3
        clear he3 hy3 b3 c3 N3
        obtain ⟨u4, G4, c4, b4, n4, N4⟩ := hk_3.list q4
        obtain ⟨ua4, un4, uc4, rfl⟩ := f4.sliceO b4
        have B5 := hk_3.le
        have V4 : cnt x4 ≤ 16777216 := by have := cntL_at ds _ x4 q4; omega
        clear hk_3
        go_wp2_with fail
        refine (markInt64S_d x4 _ G4 _ _ b4 n4 f4 V4 (by omega) (by omega)).mono ?_
        rintro e w4 ⟨rfl, he4, hy4⟩
        have hk_4 := N4.out _ he4 hy4
        clear he4 hy4 b4 c4 N4
        obtain ⟨u5, G5, c5, b5, n5, N5⟩ := hk_4.list q5
        obtain ⟨ua5, un5, uc5, rfl⟩ := f5.sliceO b5
        have B6 := hk_4.le
        have V5 : cnt x5 ≤ 16777216 := by have := cntL_at ds _ x5 q5; omega
        clear hk_4
        go_wp2_with fail
        refine (markInt64S_d x5 _ G5 _ _ b5 n5 f5 V5 (by omega) (by omega)).mono ?_
        rintro e w5 ⟨rfl, he5, hy5⟩
        have hk_5 := N5.out _ he5 hy5
        clear he5 hy5 b5 c5 N5
        obtain ⟨u6, G6, c6, b6, n6, N6⟩ := hk_5.list q6
        obtain ⟨ua6, un6, uc6, rfl⟩ := f6.sliceO b6
        have B7 := hk_5.le
        have V6 : cnt x6 ≤ 16777216 := by have := cntL_at ds _ x6 q6; omega
        clear hk_5
        go_wp2_with fail
        refine (markInt64S_d x6 _ G6 _ _ b6 n6 f6 V6 (by omega) (by omega)).mono ?_
        rintro e w6 ⟨rfl, he6, hy6⟩
        have hk_6 := N6.out _ he6 hy6
        clear he6 hy6 b6 c6 N6
        obtain ⟨u7, G7, c7, b7, n7, N7⟩ := hk_6.list q7
        obtain ⟨ua7, un7, uc7, rfl⟩ := f7.sliceO b7
        have B8 := hk_6.le
        have V7 : cnt x7 ≤ 16777216 := by have := cntL_at ds _ x7 q7; omega
        clear hk_6
        go_wp2_with fail
        refine (markIntoS_d x7 _ G7 _ _ b7 n7 f7 V7 (by omega) (by omega)).mono ?_
        rintro e w7 ⟨rfl, he7, hy7⟩
        have hk_7 := N7.out _ he7 hy7
        clear he7 hy7 b7 c7 N7
        obtain ⟨⟨o8, e8⟩, z8⟩ := hk_7.celln (q' := i * 9 + 8) (by omega) q8
        have hk_8 := hk_7.bool q8
        have HK := Lib.hid hk_8
        clear hk_8
        go_wp2
        go_roundw
        case rel => exact ⟨i + 1, _, by omega, by go_num, rfl, by have := HK.out; rwa [show (i + 1) * 9 = i * 9 + 9 from by omega]⟩
        case measure => simp [intOf]; omega
      · have HK := Lib.hid hk0
        clear hk0
        go_wp2
        go_ret
        obtain rfl : i = n := by omega
        have h2 := HK.out
        rw [← HN.out] at h2
        exact h2.done hp HM.out HN.out HCP.out
set_option maxHeartbeats 4000000 in
set_option maxRecDepth 100000 in
theorem heldRuleS_d (S : Nat → Prop) (d : D) (v : Value) (m : Int) (w : World) (h : Rd S w (mkD m d) v) (hf : Fit (.l [.i, .i, .l [.i], .l [.i], .l [.i], .l [.i], .l [.i], .l [.i, .l [.i]], .b]) d) (hv : cnt d ≤ 16777216) (m0 : 0 ≤ m) (m1 : m ≤ 8589934592) :
    Calls Try.prog 124 #[v, .int .i64 m] w (RetV w (.int .i64 (m + cnt d))) := by
  obtain ⟨ds, rfl, n, hn, HR⟩ := Fit.rows (k := 9) rfl hf
  rw [mkD] at h
  obtain ⟨a, c, rfl, hm, hp, HG⟩ := h.row (n := n) (by rw [mkL_len]; exact hn) (by omega)
  unfold maxLen at hm
  simp only [cnt] at hv
  have HN := Lib.hid hn
  clear hn
  have i1 := ix_of (P := Try.prog) tabRuleSM.under tabRuleSM.size (a := a) (n := n) hp c
  go_enter Try.func124, Try.ntmps124
  go_wp2
  go_loopw [1, 5] (fun q i0 wr => ∃ (i : Nat) (K : Int), i ≤ n ∧ i0 = .int .i64 i ∧ q = .int .i64 K ∧ Hid (K = m + cntL (ds.take (i * 9))) ∧ Below w.heap.size w wr) (fun _ i _ => n - (intOf i).toNat)
  case atStart => exact ⟨0, m, Nat.zero_le _, rfl, rfl, Lib.hid (by simp [cntL]), Below.refl _ _⟩
  case round =>
      obtain ⟨i, K, hi, rfl, rfl, HK, hb⟩ := hrel
      have HB := Lib.hid hb
      clear hb
      by_cases hlt : i < n
      · skip
        obtain ⟨x0, q0, f0⟩ := HR.out i hlt 0 _ rfl
        rw [Nat.add_zero] at q0
        obtain ⟨x1, q1, f1⟩ := HR.out i hlt 1 _ rfl
        obtain ⟨x2, q2, f2⟩ := HR.out i hlt 2 _ rfl
        obtain ⟨x3, q3, f3⟩ := HR.out i hlt 3 _ rfl
        obtain ⟨x4, q4, f4⟩ := HR.out i hlt 4 _ rfl
        obtain ⟨x5, q5, f5⟩ := HR.out i hlt 5 _ rfl
        obtain ⟨x6, q6, f6⟩ := HR.out i hlt 6 _ rfl
        obtain ⟨x7, q7, f7⟩ := HR.out i hlt 7 _ rfl
        obtain ⟨x8, q8, f8⟩ := HR.out i hlt 8 _ rfl
        have k0 : K ≤ m + 16777216 ∧ 0 ≤ K := by have := HK.out; have := cntL_take_le ds (i * 9); omega
        have HK0 := HK
        obtain ⟨u0, g0, r0⟩ := HG.out wr HB.out _ _ (mkL_get ds m _ x0 q0)
        obtain ⟨u1, g1, r1⟩ := HG.out wr HB.out _ _ (mkL_get ds m _ x1 q1)
        obtain ⟨u2, g2, r2⟩ := HG.out wr HB.out _ _ (mkL_get ds m _ x2 q2)
        obtain ⟨u3, g3, r3⟩ := HG.out wr HB.out _ _ (mkL_get ds m _ x3 q3)
        obtain ⟨u4, g4, r4⟩ := HG.out wr HB.out _ _ (mkL_get ds m _ x4 q4)
        obtain ⟨u5, g5, r5⟩ := HG.out wr HB.out _ _ (mkL_get ds m _ x5 q5)
        obtain ⟨u6, g6, r6⟩ := HG.out wr HB.out _ _ (mkL_get ds m _ x6 q6)
        obtain ⟨u7, g7, r7⟩ := HG.out wr HB.out _ _ (mkL_get ds m _ x7 q7)
        obtain ⟨u8, g8, r8⟩ := HG.out wr HB.out _ _ (mkL_get ds m _ x8 q8)
        rw [← HK0.out] at r0
        obtain ⟨y0, rfl⟩ := f0
        obtain rfl : u0 = .int .i64 (K) := r0
        have HK1 : Hid (K + 1 = m + cntL (ds.take (i * 9 + 1))) := Lib.hid (by have a1 := HK0.out; have a2 := cntL_take q0; show _ = m + ((cntL (ds.take (i * 9 + 1)) : Nat) : Int); rw [a2]; simp only [cnt]; omega)
        have k1 : K + 1 ≤ m + 16777216 ∧ 0 ≤ K + 1 := by have := HK1.out; have := cntL_take_le ds (i * 9 + 1); omega
        rw [← HK1.out] at r1
        obtain ⟨y1, rfl⟩ := f1
        obtain rfl : u1 = .int .i64 (K + 1) := r1
        have HK2 : Hid (K + 1 + 1 = m + cntL (ds.take (i * 9 + 2))) := Lib.hid (by have a1 := HK1.out; have a2 := cntL_take q1; show _ = m + ((cntL (ds.take (i * 9 + 1 + 1)) : Nat) : Int); rw [a2]; simp only [cnt]; omega)
        have k2 : K + 1 + 1 ≤ m + 16777216 ∧ 0 ≤ K + 1 + 1 := by have := HK2.out; have := cntL_take_le ds (i * 9 + 2); omega
        rw [← HK2.out] at r2
        obtain ⟨ua2, un2, uc2, rfl⟩ := f2.sliceM r2
        have HK3 : Hid (K + 1 + 1 + cnt x2 = m + cntL (ds.take (i * 9 + 3))) := Lib.hid (by have a1 := HK2.out; have a2 := cntL_take q2; show _ = m + ((cntL (ds.take (i * 9 + 2 + 1)) : Nat) : Int); rw [a2]; omega)
        have k3 : K + 1 + 1 + cnt x2 ≤ m + 16777216 ∧ 0 ≤ K + 1 + 1 + cnt x2 := by have := HK3.out; have := cntL_take_le ds (i * 9 + 3); omega
        rw [← HK3.out] at r3
        obtain ⟨ua3, un3, uc3, rfl⟩ := f3.sliceM r3
        have HK4 : Hid (K + 1 + 1 + cnt x2 + cnt x3 = m + cntL (ds.take (i * 9 + 4))) := Lib.hid (by have a1 := HK3.out; have a2 := cntL_take q3; show _ = m + ((cntL (ds.take (i * 9 + 3 + 1)) : Nat) : Int); rw [a2]; omega)
        have k4 : K + 1 + 1 + cnt x2 + cnt x3 ≤ m + 16777216 ∧ 0 ≤ K + 1 + 1 + cnt x2 + cnt x3 := by have := HK4.out; have := cntL_take_le ds (i * 9 + 4); omega
        rw [← HK4.out] at r4
        obtain ⟨ua4, un4, uc4, rfl⟩ := f4.sliceM r4
        have HK5 : Hid (K + 1 + 1 + cnt x2 + cnt x3 + cnt x4 = m + cntL (ds.take (i * 9 + 5))) := Lib.hid (by have a1 := HK4.out; have a2 := cntL_take q4; show _ = m + ((cntL (ds.take (i * 9 + 4 + 1)) : Nat) : Int); rw [a2]; omega)
        have k5 : K + 1 + 1 + cnt x2 + cnt x3 + cnt x4 ≤ m + 16777216 ∧ 0 ≤ K + 1 + 1 + cnt x2 + cnt x3 + cnt x4 := by have := HK5.out; have := cntL_take_le ds (i * 9 + 5); omega
        rw [← HK5.out] at r5
        obtain ⟨ua5, un5, uc5, rfl⟩ := f5.sliceM r5
        have HK6 : Hid (K + 1 + 1 + cnt x2 + cnt x3 + cnt x4 + cnt x5 = m + cntL (ds.take (i * 9 + 6))) := Lib.hid (by have a1 := HK5.out; have a2 := cntL_take q5; show _ = m + ((cntL (ds.take (i * 9 + 5 + 1)) : Nat) : Int); rw [a2]; omega)
        have k6 : K + 1 + 1 + cnt x2 + cnt x3 + cnt x4 + cnt x5 ≤ m + 16777216 ∧ 0 ≤ K + 1 + 1 + cnt x2 + cnt x3 + cnt x4 + cnt x5 := by have := HK6.out; have := cntL_take_le ds (i * 9 + 6); omega
        rw [← HK6.out] at r6
        obtain ⟨ua6, un6, uc6, rfl⟩ := f6.sliceM r6
        have HK7 : Hid (K + 1 + 1 + cnt x2 + cnt x3 + cnt x4 + cnt x5 + cnt x6 = m + cntL (ds.take (i * 9 + 7))) := Lib.hid (by have a1 := HK6.out; have a2 := cntL_take q6; show _ = m + ((cntL (ds.take (i * 9 + 6 + 1)) : Nat) : Int); rw [a2]; omega)
        have k7 : K + 1 + 1 + cnt x2 + cnt x3 + cnt x4 + cnt x5 + cnt x6 ≤ m + 16777216 ∧ 0 ≤ K + 1 + 1 + cnt x2 + cnt x3 + cnt x4 + cnt x5 + cnt x6 := by have := HK7.out; have := cntL_take_le ds (i * 9 + 7); omega
        rw [← HK7.out] at r7
        obtain ⟨ua7, un7, uc7, rfl⟩ := f7.sliceM r7
        have HK8 : Hid (K + 1 + 1 + cnt x2 + cnt x3 + cnt x4 + cnt x5 + cnt x6 + cnt x7 = m + cntL (ds.take (i * 9 + 8))) := Lib.hid (by have a1 := HK7.out; have a2 := cntL_take q7; show _ = m + ((cntL (ds.take (i * 9 + 7 + 1)) : Nat) : Int); rw [a2]; omega)
        have k8 : K + 1 + 1 + cnt x2 + cnt x3 + cnt x4 + cnt x5 + cnt x6 + cnt x7 ≤ m + 16777216 ∧ 0 ≤ K + 1 + 1 + cnt x2 + cnt x3 + cnt x4 + cnt x5 + cnt x6 + cnt x7 := by have := HK8.out; have := cntL_take_le ds (i * 9 + 8); omega
        rw [← HK8.out] at r8
        obtain ⟨y8, rfl⟩ := f8
        obtain rfl : u8 = .bool ((K + 1 + 1 + cnt x2 + cnt x3 + cnt x4 + cnt x5 + cnt x6 + cnt x7) % 3 == 0) := r8
        have HK9 : Hid (K + 1 + 1 + cnt x2 + cnt x3 + cnt x4 + cnt x5 + cnt x6 + cnt x7 + 1 = m + cntL (ds.take (i * 9 + 8 + 1))) := Lib.hid (by have a1 := HK8.out; have a2 := cntL_take q8; show _ = m + ((cntL (ds.take (i * 9 + 8 + 1)) : Nat) : Int); rw [a2]; simp only [cnt]; omega)
        have k9 : K + 1 + 1 + cnt x2 + cnt x3 + cnt x4 + cnt x5 + cnt x6 + cnt x7 + 1 ≤ m + 16777216 ∧ 0 ≤ K + 1 + 1 + cnt x2 + cnt x3 + cnt x4 + cnt x5 + cnt x6 + cnt x7 + 1 := by have := HK9.out; have := cntL_take_le ds (i * 9 + 8 + 1); omega
        have V2 : cnt x2 ≤ 16777216 := by have := cntL_at ds _ x2 q2; omega
        have V3 : cnt x3 ≤ 16777216 := by have := cntL_at ds _ x3 q3; omega
        have V4 : cnt x4 ≤ 16777216 := by have := cntL_at ds _ x4 q4; omega
        have V5 : cnt x5 ≤ 16777216 := by have := cntL_at ds _ x5 q5; omega
        have V6 : cnt x6 ≤ 16777216 := by have := cntL_at ds _ x6 q6; omega
        have V7 : cnt x7 ≤ 16777216 := by have := cntL_at ds _ x7 q7; omega
        clear q0 q1 q2 q3 q4 q5 q6 q7 q8
        go_wp2_with fail
        refine (heldInt64S_d S x2 _ (K + 1 + 1) _ r2 f2 V2 (by omega) (by omega)).mono ?_
        rintro e w1 ⟨rfl, hb1⟩
        have s1_3 : w1.cell? (adr a (i * 9 + 3)) = _ := (bcell1 hb1 (World.block_lt_of_cell? _ _ g3)).trans g3
        have s1_4 : w1.cell? (adr a (i * 9 + 4)) = _ := (bcell1 hb1 (World.block_lt_of_cell? _ _ g4)).trans g4
        have s1_5 : w1.cell? (adr a (i * 9 + 5)) = _ := (bcell1 hb1 (World.block_lt_of_cell? _ _ g5)).trans g5
        have s1_6 : w1.cell? (adr a (i * 9 + 6)) = _ := (bcell1 hb1 (World.block_lt_of_cell? _ _ g6)).trans g6
        have s1_7 : w1.cell? (adr a (i * 9 + 7)) = _ := (bcell1 hb1 (World.block_lt_of_cell? _ _ g7)).trans g7
        have s1_8 : w1.cell? (adr a (i * 9 + 8)) = _ := (bcell1 hb1 (World.block_lt_of_cell? _ _ g8)).trans g8
        have HX1 := Lib.hid (hb1)
        clear hb1 g2 g3 g4 g5 g6 g7 g8
        go_wp2_with fail
        refine (heldInt64S_d S x3 _ (K + 1 + 1 + cnt x2) _ (r3.below HX1.out) f3 V3 (by omega) (by omega)).mono ?_
        rintro e w2 ⟨rfl, hb2⟩
        have s2_4 : w2.cell? (adr a (i * 9 + 4)) = _ := (bcell1 hb2 (World.block_lt_of_cell? _ _ s1_4)).trans s1_4
        have s2_5 : w2.cell? (adr a (i * 9 + 5)) = _ := (bcell1 hb2 (World.block_lt_of_cell? _ _ s1_5)).trans s1_5
        have s2_6 : w2.cell? (adr a (i * 9 + 6)) = _ := (bcell1 hb2 (World.block_lt_of_cell? _ _ s1_6)).trans s1_6
        have s2_7 : w2.cell? (adr a (i * 9 + 7)) = _ := (bcell1 hb2 (World.block_lt_of_cell? _ _ s1_7)).trans s1_7
        have s2_8 : w2.cell? (adr a (i * 9 + 8)) = _ := (bcell1 hb2 (World.block_lt_of_cell? _ _ s1_8)).trans s1_8
        have HX2 := Lib.hid (bnext HX1.out hb2 (Nat.le_refl _))
        clear hb2 s1_3 s1_4 s1_5 s1_6 s1_7 s1_8
        go_wp2_with fail
        refine (heldInt64S_d S x4 _ (K + 1 + 1 + cnt x2 + cnt x3) _ (r4.below HX2.out) f4 V4 (by omega) (by omega)).mono ?_
        rintro e w3 ⟨rfl, hb3⟩
        have s3_5 : w3.cell? (adr a (i * 9 + 5)) = _ := (bcell1 hb3 (World.block_lt_of_cell? _ _ s2_5)).trans s2_5
        have s3_6 : w3.cell? (adr a (i * 9 + 6)) = _ := (bcell1 hb3 (World.block_lt_of_cell? _ _ s2_6)).trans s2_6
        have s3_7 : w3.cell? (adr a (i * 9 + 7)) = _ := (bcell1 hb3 (World.block_lt_of_cell? _ _ s2_7)).trans s2_7
        have s3_8 : w3.cell? (adr a (i * 9 + 8)) = _ := (bcell1 hb3 (World.block_lt_of_cell? _ _ s2_8)).trans s2_8
        have HX3 := Lib.hid (bnext HX2.out hb3 (Nat.le_refl _))
        clear hb3 s2_4 s2_5 s2_6 s2_7 s2_8
        go_wp2_with fail
        refine (heldInt64S_d S x5 _ (K + 1 + 1 + cnt x2 + cnt x3 + cnt x4) _ (r5.below HX3.out) f5 V5 (by omega) (by omega)).mono ?_
        rintro e w4 ⟨rfl, hb4⟩
        have s4_6 : w4.cell? (adr a (i * 9 + 6)) = _ := (bcell1 hb4 (World.block_lt_of_cell? _ _ s3_6)).trans s3_6
        have s4_7 : w4.cell? (adr a (i * 9 + 7)) = _ := (bcell1 hb4 (World.block_lt_of_cell? _ _ s3_7)).trans s3_7
        have s4_8 : w4.cell? (adr a (i * 9 + 8)) = _ := (bcell1 hb4 (World.block_lt_of_cell? _ _ s3_8)).trans s3_8
        have HX4 := Lib.hid (bnext HX3.out hb4 (Nat.le_refl _))
        clear hb4 s3_5 s3_6 s3_7 s3_8
        go_wp2_with fail
        refine (heldInt64S_d S x6 _ (K + 1 + 1 + cnt x2 + cnt x3 + cnt x4 + cnt x5) _ (r6.below HX4.out) f6 V6 (by omega) (by omega)).mono ?_
        rintro e w5 ⟨rfl, hb5⟩
        have s5_7 : w5.cell? (adr a (i * 9 + 7)) = _ := (bcell1 hb5 (World.block_lt_of_cell? _ _ s4_7)).trans s4_7
        have s5_8 : w5.cell? (adr a (i * 9 + 8)) = _ := (bcell1 hb5 (World.block_lt_of_cell? _ _ s4_8)).trans s4_8
        have HX5 := Lib.hid (bnext HX4.out hb5 (Nat.le_refl _))
        clear hb5 s4_6 s4_7 s4_8
        go_wp2_with fail
        refine (heldIntoS_d S x7 _ (K + 1 + 1 + cnt x2 + cnt x3 + cnt x4 + cnt x5 + cnt x6) _ (r7.below HX5.out) f7 V7 (by omega) (by omega)).mono ?_
        rintro e w6 ⟨rfl, hb6⟩
        have s6_8 : w6.cell? (adr a (i * 9 + 8)) = _ := (bcell1 hb6 (World.block_lt_of_cell? _ _ s5_8)).trans s5_8
        have HX6 := Lib.hid (bnext HX5.out hb6 (Nat.le_refl _))
        clear hb6 s5_7 s5_8
        go_wp2
        go_roundw
        case rel => exact ⟨i + 1, _, by omega, by go_num, rfl, Lib.hid (by have := HK9.out; rw [show (i + 1) * 9 = i * 9 + 8 + 1 from by omega]; exact this), bnext HB.out HX6.out (Nat.le_refl _)⟩
        case measure => simp [intOf]; omega
      · go_wp2
        go_ret
        obtain rfl : i = n := by omega
        refine ⟨ret_int ?_, HB.out⟩
        have a1 := HK.out
        rw [take_full HN.out] at a1
        simp only [cnt]; exact a1
set_option maxHeartbeats 2000000 in
theorem eqSystem_d (x0 : Int) (d1 : D) (v1 : Value) (d2 : D) (v2 : Value) (v1p : Value) (v2p : Value) (w : World) (h1 : Rd Any w d1 v1) (h2 : Rd Any w d2 v2) (h1p : Rd Any w d1 v1p) (h2p : Rd Any w d2 v2p) (f1 : Fit (.l [.i]) d1) (f2 : Fit (.l [.i, .i, .l [.i], .l [.i], .l [.i], .l [.i], .l [.i], .l [.i, .l [.i]], .b]) d2) :
    Calls Try.prog 60 #[.agg #[.int .i64 x0, v1, v2], .agg #[.int .i64 x0, v1p, v2p]] w (RetV w (.bool true)) := by
  obtain ⟨va1, vn1, vc1, rfl⟩ := f1.sliceR h1
  obtain ⟨va2, vn2, vc2, rfl⟩ := f2.sliceR h2
  obtain ⟨va1p, vn1p, vc1p, rfl⟩ := f1.sliceR h1p
  obtain ⟨va2p, vn2p, vc2p, rfl⟩ := f2.sliceR h2p
  have hb : Below w.heap.size w ((w.alloc (.cells #[.int .i64 x0, .slice va1 vn1 vc1, .slice va2 vn2 vc2] 95)).alloc (.cells #[.int .i64 x0, .slice va1p vn1p vc1p, .slice va2p vn2p vc2p] 95)) := ((Below.refl _ _).alloc (Nat.le_refl _) _).alloc (by simp) _
  have H_1 := Lib.hid (fun (wx : World) (hb : Below w.heap.size w wx) => eqInt64S_d d1 _ _ wx (h1.below hb) (h1p.below hb) f1)
  have H_2 := Lib.hid (fun (wx : World) (hb : Below w.heap.size w wx) => eqRuleS_d d2 _ _ wx (h2.below hb) (h2p.below hb) f2)
  have HB0 := Lib.hid hb
  clear hb h1 h1p h2 h2p
  go_enter Try.func60, Try.ntmps60
  go_wp2_with fail
  refine (H_1.out _ HB0.out).mono ?_
  rintro e w1 ⟨rfl, hb1⟩
  have g1_2 : w1.cell? ⟨w.heap.size, 2, none⟩ = some (.slice va2 vn2 vc2) := by rw [bcell1 hb1 (by first | omega | (simp; done) | (simp; omega))]; simp [go_sem]
  have g1_2p : w1.cell? ⟨w.heap.size + 1, 2, none⟩ = some (.slice va2p vn2p vc2p) := by rw [bcell1 hb1 (by first | omega | (simp; done) | (simp; omega))]; simp [go_sem]
  have HB1 := Lib.hid (bnext HB0.out hb1 (by first | omega | (simp; done) | (simp; omega)))
  have hz1 : w.heap.size + 1 < w1.heap.size := by have := hb1.size; (try simp at this); omega
  clear hb1 
  go_wp2_with fail
  refine (H_2.out _ HB1.out).mono ?_
  rintro e w2 ⟨rfl, hb2⟩
  have HB2 := Lib.hid (bnext HB1.out hb2 (by first | omega | (simp; done) | (simp; omega)))
  have hz2 : w.heap.size + 1 < w2.heap.size := by have := hb2.size; (try simp at this); omega
  clear hb2 g1_2 g1_2p
  go_wp2
  go_ret
  exact ⟨rfl, HB2.out⟩
set_option maxHeartbeats 2000000 in
set_option maxRecDepth 100000 in
theorem markSystem_d (x0 : Int) (d1 : D) (v1 : Value) (d2 : D) (v2 : Value) (F1 : List Nat) (F2 : List Nat) (m : Int) (w : World) (h1 : Ow w d1 v1 F1) (h2 : Ow w d2 v2 F2) (f1 : Fit (.l [.i]) d1) (f2 : Fit (.l [.i, .i, .l [.i], .l [.i], .l [.i], .l [.i], .l [.i], .l [.i, .l [.i]], .b]) d2) (hn : (F1 ++ F2).Nodup) (c1 : cnt d1 ≤ 16777216) (c2 : cnt d2 ≤ 16777216) (m0 : 0 ≤ m) (m1 : m ≤ 4294967296) :
    Calls Try.prog 61 #[.agg #[.int .i64 x0, v1, v2], .int .i64 m] w fun e w' => e = .returned (.int .i64 (m + cnt d1 + cnt d2)) ∧ Chg (F1 ++ F2) w w' ∧ Ow w' (mkD (m) d1) v1 F1 ∧ Ow w' (mkD (m + cnt d1) d2) v2 F2 := by
  obtain ⟨va1, vn1, vc1, rfl⟩ := f1.sliceO h1
  obtain ⟨va2, vn2, vc2, rfl⟩ := f2.sliceO h2
  have hb0 : Below w.heap.size w (w.alloc (.cells #[.int .i64 x0, .slice va1 vn1 vc1, .slice va2 vn2 vc2] 95)) := below_alloc _ _
  obtain ⟨dn1, hn2, dx1⟩ := List.nodup_append.1 hn
  have dn2 := hn2
  have e1 := Ow.lt _ _ _ h1
  have o1_0 := h1.below hb0
  have e2 := Ow.lt _ _ _ h2
  have o2_0 := h2.below hb0
  have HC0 := Lib.hid (Chg.ofBelow (F := F1 ++ F2) hb0)
  have DX1 := Lib.hid dx1
  have HE1 := Lib.hid e1
  have HO1_0 := Lib.hid o1_0
  have HE2 := Lib.hid e2
  have HO2_0 := Lib.hid o2_0
  clear hb0 hn dx1  e1 o1_0 h1  e2 o2_0 h2
  go_enter Try.func61, Try.ntmps61
  go_wp2_with fail
  refine (markInt64S_d d1 _ F1 (m) _ HO1_0.out dn1 f1 (by omega) (by omega) (by omega)).mono ?_
  rintro e w1 ⟨rfl, he1, hk1⟩
  have g1_2 : w1.cell? ⟨w.heap.size, 2, none⟩ = some (.slice va2 vn2 vc2) := by rw [excell he1 (fun hg => by have := HE1.out _ hg; omega)]; simp [go_sem]
  have HC1 := Lib.hid (HC0.out.trans (he1.chg.wider (fun k hk => by simp [hk])))
  have HO1_1 := Lib.hid hk1
  have HO2_1 := Lib.hid (he1.ow HO2_0.out (fun g h1 h2 => DX1.out g h2 g (by simp [h1]) rfl))
  clear he1 hk1
  go_wp2_with fail
  refine (markRuleS_d d2 _ F2 (m + cnt d1) _ HO2_1.out dn2 f2 (by omega) (by omega) (by omega)).mono ?_
  rintro e w2 ⟨rfl, he2, hk2⟩
  have HC2 := Lib.hid (HC1.out.trans (he2.chg.wider (fun k hk => by simp [hk])))
  have HO1_2 := Lib.hid (he2.ow HO1_1.out (fun g h1 h2 => DX1.out g h1 g (by simp [h2]) rfl))
  have HO2_2 := Lib.hid hk2
  clear he2 hk2 g1_2
  go_wp2
  go_ret
  exact ⟨rfl, HC2.out, HO1_2.out, HO2_2.out⟩
set_option maxHeartbeats 2000000 in
set_option maxRecDepth 100000 in
theorem heldSystem_d (S : Nat → Prop) (x0 : Int) (d1 : D) (v1 : Value) (d2 : D) (v2 : Value) (m : Int) (w : World) (h1 : Rd S w (mkD (m) d1) v1) (h2 : Rd S w (mkD (m + cnt d1) d2) v2) (f1 : Fit (.l [.i]) d1) (f2 : Fit (.l [.i, .i, .l [.i], .l [.i], .l [.i], .l [.i], .l [.i], .l [.i, .l [.i]], .b]) d2) (c1 : cnt d1 ≤ 16777216) (c2 : cnt d2 ≤ 16777216) (m0 : 0 ≤ m) (m1 : m ≤ 4294967296) :
    Calls Try.prog 62 #[.agg #[.int .i64 x0, v1, v2], .int .i64 m] w (RetV w (.int .i64 (m + cnt d1 + cnt d2))) := by
  obtain ⟨va1, vn1, vc1, rfl⟩ := f1.sliceM h1
  obtain ⟨va2, vn2, vc2, rfl⟩ := f2.sliceM h2
  have hb0 : Below w.heap.size w (w.alloc (.cells #[.int .i64 x0, .slice va1 vn1 vc1, .slice va2 vn2 vc2] 95)) := below_alloc _ _
  have H_1 := Lib.hid (fun (wx : World) (hb : Below w.heap.size w wx) => heldInt64S_d S d1 _ (m) wx (h1.below hb) f1)
  have H_2 := Lib.hid (fun (wx : World) (hb : Below w.heap.size w wx) => heldRuleS_d S d2 _ (m + cnt d1) wx (h2.below hb) f2)
  have HB0 := Lib.hid hb0
  clear hb0 h1 h2
  go_enter Try.func62, Try.ntmps62
  go_wp2_with fail
  refine (H_1.out _ HB0.out (by omega) (by omega) (by omega)).mono ?_
  rintro e w1 ⟨rfl, hb1⟩
  have g1_2 : w1.cell? ⟨w.heap.size, 2, none⟩ = some (.slice va2 vn2 vc2) := by rw [bcell1 hb1 (by first | omega | (simp; done) | (simp; omega))]; simp [go_sem]
  have HB1 := Lib.hid (bnext HB0.out hb1 (by first | omega | (simp; done) | (simp; omega)))
  have hz1 : w.heap.size < w1.heap.size := by have := hb1.size; (try simp at this); omega
  clear hb1
  go_wp2_with fail
  refine (H_2.out _ HB1.out (by omega) (by omega) (by omega)).mono ?_
  rintro e w2 ⟨rfl, hb2⟩
  have HB2 := Lib.hid (bnext HB1.out hb2 (by first | omega | (simp; done) | (simp; omega)))
  have hz2 : w.heap.size < w2.heap.size := by have := hb2.size; (try simp at this); omega
  clear hb2 g1_2
  go_wp2
  go_ret
  exact ⟨rfl, HB2.out⟩
set_option maxHeartbeats 2000000 in
theorem szState_d (S : Nat → Prop) (d0 : D) (v0 : Value) (d1 : D) (v1 : Value) (d2 : D) (v2 : Value) (left : Int) (w : World) (h0 : Rd S w d0 v0) (h1 : Rd S w d1 v1) (h2 : Rd S w d2 v2) (f0 : Fit (.l [.b]) d0) (f1 : Fit (.l [.l [.i]]) d1) (f2 : Fit (.l [.i]) d2) (bl0 : 0 ≤ left) (bl1 : left ≤ 1048576) :
    Calls Try.prog 26 #[.agg #[v0, v1, v2], .int .i64 left] w (RetSv w left (vol d0 + vol d1 + vol d2)) := by
  obtain ⟨va0, vn0, vc0, rfl⟩ := f0.sliceR h0
  obtain ⟨va1, vn1, vc1, rfl⟩ := f1.sliceR h1
  obtain ⟨va2, vn2, vc2, rfl⟩ := f2.sliceR h2
  have hb0 : Below w.heap.size w (w.alloc (.cells #[.slice va0 vn0 vc0, .slice va1 vn1 vc1, .slice va2 vn2 vc2] 48)) := below_alloc _ _
  have H_0 := Lib.hid (fun (l : Int) (wx : World) (hb : Below w.heap.size w wx) => szBoolS_d S d0 _ l wx (h0.below hb) f0)
  have H_1 := Lib.hid (fun (l : Int) (wx : World) (hb : Below w.heap.size w wx) => szInt64SS_d S d1 _ l wx (h1.below hb) f1)
  have H_2 := Lib.hid (fun (l : Int) (wx : World) (hb : Below w.heap.size w wx) => szInt64S_d S d2 _ l wx (h2.below hb) f2)
  have HB0 := Lib.hid hb0
  clear hb0 h0 f0 h1 f1 h2 f2
  go_enter Try.func26, Try.ntmps26
  go_wp2_with fail
  refine (H_0.out left _ HB0.out (by omega) (by omega)).mono ?_
  rintro e w1 ⟨L1, rfl, hb1, y1, z1, p1⟩
  have g1_1 : w1.cell? ⟨w.heap.size, 1, none⟩ = some (.slice va1 vn1 vc1) := by rw [bcell1 hb1 (by first | omega | (simp; done) | (simp; omega))]; simp [go_sem]
  have g1_2 : w1.cell? ⟨w.heap.size, 2, none⟩ = some (.slice va2 vn2 vc2) := by rw [bcell1 hb1 (by first | omega | (simp; done) | (simp; omega))]; simp [go_sem]
  have HB1 := Lib.hid (bnext HB0.out hb1 (by first | omega | (simp; done) | (simp; omega)))
  have hz1 : w.heap.size < w1.heap.size := by have := hb1.size; (try simp at this); omega
  have P1 := Lib.hid p1
  clear hb1 p1
  by_cases n1 : L1 < 0
  · go_wp2
    go_ret
    exact ⟨-1, rfl, HB1.out, by omega, by omega, fun h => absurd h (by omega)⟩
  · have m1 : 0 ≤ L1 := by omega
    go_wp2_with fail
    refine (H_1.out L1 _ HB1.out (by omega) (by omega)).mono ?_
    rintro e w2 ⟨L2, rfl, hb2, y2, z2, p2⟩
    have g2_2 : w2.cell? ⟨w.heap.size, 2, none⟩ = some (.slice va2 vn2 vc2) := by rw [bcell1 hb2 (by first | omega | (simp; done) | (simp; omega))]; exact g1_2
    have HB2 := Lib.hid (bnext HB1.out hb2 (by first | omega | (simp; done) | (simp; omega)))
    have hz2 : w.heap.size < w2.heap.size := by have := hb2.size; (try simp at this); omega
    have P2 := Lib.hid p2
    clear hb2 p2 g1_1 g1_2
    by_cases n2 : L2 < 0
    · go_wp2
      go_ret
      exact ⟨-1, rfl, HB2.out, by omega, by omega, fun h => absurd h (by omega)⟩
    · have m2 : 0 ≤ L2 := by omega
      go_wp2_with fail
      refine (H_2.out L2 _ HB2.out (by omega) (by omega)).mono ?_
      rintro e w3 ⟨L3, rfl, hb3, y3, z3, p3⟩
      have HB3 := Lib.hid (bnext HB2.out hb3 (by first | omega | (simp; done) | (simp; omega)))
      have hz3 : w.heap.size < w3.heap.size := by have := hb3.size; (try simp at this); omega
      have P3 := Lib.hid p3
      clear hb3 p3 g2_2
      by_cases n3 : L3 < 0
      · go_wp2
        go_ret
        exact ⟨-1, rfl, HB3.out, by omega, by omega, fun h => absurd h (by omega)⟩
      · have m3 : 0 ≤ L3 := by omega
        go_wp2
        go_ret
        exact ⟨L3, rfl, HB3.out, by omega, by omega, fun _ => by have t1 := P1.out m1; have t2 := P2.out m2; have t3 := P3.out m3; omega⟩
set_option maxHeartbeats 4000000 in
theorem toState_d (S : Nat → Prop) (d0 : D) (v0 : Value) (d1 : D) (v1 : Value) (d2 : D) (v2 : Value) (w : World) (h0 : Rd S w d0 v0) (h1 : Rd S w d1 v1) (h2 : Rd S w d2 v2) (f0 : Fit (.l [.b]) d0) (f1 : Fit (.l [.l [.i]]) d1) (f2 : Fit (.l [.i]) d2) (l0 : vol d0 ≤ 16777216) (l1 : vol d1 ≤ 16777216) (l2 : vol d2 ≤ 16777216) :
    Calls Try.prog 29 #[.agg #[v0, v1, v2]] w (RetA w [d0, d1, d2]) := by
  obtain ⟨va0, vn0, vc0, rfl⟩ := f0.sliceR h0
  obtain ⟨va1, vn1, vc1, rfl⟩ := f1.sliceR h1
  obtain ⟨va2, vn2, vc2, rfl⟩ := f2.sliceR h2
  have H_0 := Lib.hid (fun (wx : World) (hb : Below w.heap.size w wx) => toBoolS_d S d0 _ wx (h0.below hb) f0 l0)
  have H_1 := Lib.hid (fun (wx : World) (hb : Below w.heap.size w wx) => toInt64SS_d S d1 _ wx (h1.below hb) f1 l1)
  have H_2 := Lib.hid (fun (wx : World) (hb : Below w.heap.size w wx) => toInt64S_d S d2 _ wx (h2.below hb) f2 l2)
  clear h0 l0 h1 l1 h2 l2
  go_enter Try.func29, Try.ntmps29
  go_wp2_with fail
  refine (H_0.out _ (by repeat (first | exact Below.refl _ _ | assumption | refine Below.alloc ?_ (by simp; try omega) _ | refine Below.setCell ?_ (by simp; try omega) _))).mono ?_
  rintro e w1 ⟨u1, F1, rfl, hb1, ho1_1, hn1, hl1⟩
  obtain ⟨ua1, un1, uc1, rfl⟩ := f0.sliceO ho1_1
  have hB1 : Below w.heap.size w w1 := bnext (by repeat (first | exact Below.refl _ _ | assumption | refine Below.alloc ?_ (by simp; try omega) _ | refine Below.setCell ?_ (by simp; try omega) _)) hb1 (by simp; try omega)
  obtain ⟨hc1, hf1⟩ := bcell hb1
  have hz1 : w.heap.size + 2 < w1.heap.size := by have := hb1.size; simp at this; omega
  have hv1 : w.heap.size + 1 < w1.heap.size := by omega
  have hu1 : w.heap.size < w1.heap.size := by omega
  have fr1 : ∀ g, g ∈ F1 → w.heap.size + 2 < g := fun g hg => by have := hl1 g hg; simp at this; omega
  have HO1_1 := Lib.hid ho1_1
  have HR1 := Lib.hid fr1
  have HN1 := Lib.hid hn1
  have HB1 := Lib.hid hB1
  clear hb1 hl1 fr1 hn1 hB1  ho1_1
  go_wp2_with fail
  refine (H_1.out _ (by repeat (first | exact Below.refl _ _ | assumption | refine Below.alloc ?_ (by simp; try omega) _ | refine Below.setCell ?_ (by simp; try omega) _))).mono ?_
  rintro e w2 ⟨u2, F2, rfl, hb2, ho2_2, hn2, hl2⟩
  obtain ⟨ua2, un2, uc2, rfl⟩ := f1.sliceO ho2_2
  have hB2 : Below w.heap.size w w2 := bnext (by repeat (first | exact Below.refl _ _ | assumption | refine Below.alloc ?_ (by simp; try omega) _ | refine Below.setCell ?_ (by simp; try omega) _)) hb2 (by simp; try omega)
  obtain ⟨hc2, hf2⟩ := bcell hb2
  have hz2 : w.heap.size + 2 < w2.heap.size := by have := hb2.size; simp at this; omega
  have hv2 : w.heap.size + 1 < w2.heap.size := by omega
  have hu2 : w.heap.size < w2.heap.size := by omega
  have hy2 : w1.heap.size ≤ w2.heap.size := by have := hb2.size; simpa using this
  have fr2 : ∀ g, g ∈ F2 → w.heap.size + 2 < g := fun g hg => by have := hl2 g hg; simp at this; omega
  have fs2 : ∀ g, g ∈ F2 → w1.heap.size ≤ g := fun g hg => by have := hl2 g hg; simp at this; omega
  have ho1_2 := (show Ow _ d0 (.slice ua1 un1 uc1) F1 from by repeat (first | exact HO1_1.out | refine Ow.box ?_ HR1.out _ _)).below hb2
  have HO1_2 := Lib.hid ho1_2
  have HO2_2 := Lib.hid ho2_2
  have HR2 := Lib.hid fr2
  have HN2 := Lib.hid hn2
  have HB2 := Lib.hid hB2
  have HS2 := Lib.hid fs2
  clear hb2 hl2 fr2 hn2 hB2 fs2 ho1_2 ho2_2
  go_wp2_with fail
  refine (H_2.out _ (by repeat (first | exact Below.refl _ _ | assumption | refine Below.alloc ?_ (by simp; try omega) _ | refine Below.setCell ?_ (by simp; try omega) _))).mono ?_
  rintro e w3 ⟨u3, F3, rfl, hb3, ho3_3, hn3, hl3⟩
  obtain ⟨ua3, un3, uc3, rfl⟩ := f2.sliceO ho3_3
  have hB3 : Below w.heap.size w w3 := bnext (by repeat (first | exact Below.refl _ _ | assumption | refine Below.alloc ?_ (by simp; try omega) _ | refine Below.setCell ?_ (by simp; try omega) _)) hb3 (by simp; try omega)
  obtain ⟨hc3, hf3⟩ := bcell hb3
  have hz3 : w.heap.size + 2 < w3.heap.size := by have := hb3.size; simp at this; omega
  have hv3 : w.heap.size + 1 < w3.heap.size := by omega
  have hu3 : w.heap.size < w3.heap.size := by omega
  have hy3 : w2.heap.size ≤ w3.heap.size := by have := hb3.size; simpa using this
  have fr3 : ∀ g, g ∈ F3 → w.heap.size + 2 < g := fun g hg => by have := hl3 g hg; simp at this; omega
  have fs3 : ∀ g, g ∈ F3 → w2.heap.size ≤ g := fun g hg => by have := hl3 g hg; simp at this; omega
  have ho1_3 := (show Ow _ d0 (.slice ua1 un1 uc1) F1 from by repeat (first | exact HO1_2.out | refine Ow.box ?_ HR1.out _ _)).below hb3
  have ho2_3 := (show Ow _ d1 (.slice ua2 un2 uc2) F2 from by repeat (first | exact HO2_2.out | refine Ow.box ?_ HR2.out _ _)).below hb3
  have HO1_3 := Lib.hid ho1_3
  have HO2_3 := Lib.hid ho2_3
  have HO3_3 := Lib.hid ho3_3
  have HR3 := Lib.hid fr3
  have HN3 := Lib.hid hn3
  have HB3 := Lib.hid hB3
  have HS3 := Lib.hid fs3
  clear hb3 hl3 fr3 hn3 hB3 fs3 ho1_3 ho2_3 ho3_3
  go_wp2
  refine bodyPost_end (v := .agg #[.slice ua1 un1 uc1, .slice ua2 un2 uc2, .slice ua3 un3 uc3]) (by simp [results, Try.results29, go_sem, hc1, hv1, hc2, hv2, hc3]) rfl ?_
  have hR1 := HR1.out
  have hT1 : ∀ g, g ∈ F1 → g < w1.heap.size := Ow.lt _ _ _ HO1_1.out
  have hR2 := HR2.out
  have hS2 := HS2.out
  have hT2 : ∀ g, g ∈ F2 → g < w2.heap.size := Ow.lt _ _ _ HO2_2.out
  have hR3 := HR3.out
  have hS3 := HS3.out
  have hT3 : ∀ g, g ∈ F3 → g < w3.heap.size := Ow.lt _ _ _ HO3_3.out
  refine ⟨[.slice ua1 un1 uc1, .slice ua2 un2 uc2, .slice ua3 un3 uc3], (F1 ++ (F2 ++ (F3 ++ []))), rfl, ?be, ⟨F1, _, ?o1, ⟨F2, _, ?o2, ⟨F3, _, ?o3, rfl, rfl⟩, rfl⟩, rfl⟩, ?nd, ?fr⟩
  case be => repeat (first | with_reducible exact HB3.out | refine Below.setCell ?_ (by simp; try omega) _ | refine Below.alloc ?_ (by simp; try omega) _)
  case o1 => repeat (first | with_reducible exact HO1_3.out | refine Ow.setCell ?_ (by intro hg; have := hR1 _ hg; simp at this; try omega) _)
  case o2 => repeat (first | with_reducible exact HO2_3.out | refine Ow.setCell ?_ (by intro hg; have := hR2 _ hg; simp at this; try omega) _)
  case o3 => repeat (first | with_reducible exact HO3_3.out | refine Ow.setCell ?_ (by intro hg; have := hR3 _ hg; simp at this; try omega) _)
  case nd =>
    simp only [List.append_nil]
    exact nodup_next w1.heap.size HN1.out (nodup_next w2.heap.size HN2.out (HN3.out) hT2 (fun g hg => hS3 g hg)) hT1 (fun g hg => by (try simp only [List.mem_append] at hg); rcases hg with hg | hg <;> first | exact hS2 g hg | (have := hS3 g hg; omega))
  case fr =>
    intro g hg
    simp only [List.append_nil, List.mem_append] at hg
    rcases hg with hg | hg | hg
    · have := hR1 g hg; omega
    · have := hR2 g hg; omega
    · have := hR3 g hg; omega
set_option maxHeartbeats 2000000 in
theorem eqState_d (d0 : D) (v0 : Value) (d1 : D) (v1 : Value) (d2 : D) (v2 : Value) (v0p : Value) (v1p : Value) (v2p : Value) (w : World) (h0 : Rd Any w d0 v0) (h1 : Rd Any w d1 v1) (h2 : Rd Any w d2 v2) (h0p : Rd Any w d0 v0p) (h1p : Rd Any w d1 v1p) (h2p : Rd Any w d2 v2p) (f0 : Fit (.l [.b]) d0) (f1 : Fit (.l [.l [.i]]) d1) (f2 : Fit (.l [.i]) d2) :
    Calls Try.prog 32 #[.agg #[v0, v1, v2], .agg #[v0p, v1p, v2p]] w (RetV w (.bool true)) := by
  obtain ⟨va0, vn0, vc0, rfl⟩ := f0.sliceR h0
  obtain ⟨va1, vn1, vc1, rfl⟩ := f1.sliceR h1
  obtain ⟨va2, vn2, vc2, rfl⟩ := f2.sliceR h2
  obtain ⟨va0p, vn0p, vc0p, rfl⟩ := f0.sliceR h0p
  obtain ⟨va1p, vn1p, vc1p, rfl⟩ := f1.sliceR h1p
  obtain ⟨va2p, vn2p, vc2p, rfl⟩ := f2.sliceR h2p
  have hb : Below w.heap.size w ((w.alloc (.cells #[.slice va0 vn0 vc0, .slice va1 vn1 vc1, .slice va2 vn2 vc2] 56)).alloc (.cells #[.slice va0p vn0p vc0p, .slice va1p vn1p vc1p, .slice va2p vn2p vc2p] 56)) := ((Below.refl _ _).alloc (Nat.le_refl _) _).alloc (by simp) _
  have H_0 := Lib.hid (fun (wx : World) (hb : Below w.heap.size w wx) => eqBoolS_d d0 _ _ wx (h0.below hb) (h0p.below hb) f0)
  have H_1 := Lib.hid (fun (wx : World) (hb : Below w.heap.size w wx) => eqInt64SS_d d1 _ _ wx (h1.below hb) (h1p.below hb) f1)
  have H_2 := Lib.hid (fun (wx : World) (hb : Below w.heap.size w wx) => eqInt64S_d d2 _ _ wx (h2.below hb) (h2p.below hb) f2)
  have HB0 := Lib.hid hb
  clear hb h0 h0p h1 h1p h2 h2p
  go_enter Try.func32, Try.ntmps32
  go_wp2_with fail
  refine (H_0.out _ HB0.out).mono ?_
  rintro e w1 ⟨rfl, hb1⟩
  have g1_1 : w1.cell? ⟨w.heap.size, 1, none⟩ = some (.slice va1 vn1 vc1) := by rw [bcell1 hb1 (by first | omega | (simp; done) | (simp; omega))]; simp [go_sem]
  have g1_1p : w1.cell? ⟨w.heap.size + 1, 1, none⟩ = some (.slice va1p vn1p vc1p) := by rw [bcell1 hb1 (by first | omega | (simp; done) | (simp; omega))]; simp [go_sem]
  have g1_2 : w1.cell? ⟨w.heap.size, 2, none⟩ = some (.slice va2 vn2 vc2) := by rw [bcell1 hb1 (by first | omega | (simp; done) | (simp; omega))]; simp [go_sem]
  have g1_2p : w1.cell? ⟨w.heap.size + 1, 2, none⟩ = some (.slice va2p vn2p vc2p) := by rw [bcell1 hb1 (by first | omega | (simp; done) | (simp; omega))]; simp [go_sem]
  have HB1 := Lib.hid (bnext HB0.out hb1 (by first | omega | (simp; done) | (simp; omega)))
  have hz1 : w.heap.size + 1 < w1.heap.size := by have := hb1.size; (try simp at this); omega
  clear hb1 
  go_wp2_with fail
  refine (H_1.out _ HB1.out).mono ?_
  rintro e w2 ⟨rfl, hb2⟩
  have g2_2 : w2.cell? ⟨w.heap.size, 2, none⟩ = some (.slice va2 vn2 vc2) := by rw [bcell1 hb2 (by first | omega | (simp; done) | (simp; omega))]; exact g1_2
  have g2_2p : w2.cell? ⟨w.heap.size + 1, 2, none⟩ = some (.slice va2p vn2p vc2p) := by rw [bcell1 hb2 (by first | omega | (simp; done) | (simp; omega))]; exact g1_2p
  have HB2 := Lib.hid (bnext HB1.out hb2 (by first | omega | (simp; done) | (simp; omega)))
  have hz2 : w.heap.size + 1 < w2.heap.size := by have := hb2.size; (try simp at this); omega
  clear hb2 g1_1 g1_1p g1_2 g1_2p
  go_wp2_with fail
  refine (H_2.out _ HB2.out).mono ?_
  rintro e w3 ⟨rfl, hb3⟩
  have HB3 := Lib.hid (bnext HB2.out hb3 (by first | omega | (simp; done) | (simp; omega)))
  have hz3 : w.heap.size + 1 < w3.heap.size := by have := hb3.size; (try simp at this); omega
  clear hb3 g2_2 g2_2p
  go_wp2
  go_ret
  exact ⟨rfl, HB3.out⟩
set_option maxHeartbeats 2000000 in
set_option maxRecDepth 100000 in
theorem markState_d (d0 : D) (v0 : Value) (d1 : D) (v1 : Value) (d2 : D) (v2 : Value) (F0 : List Nat) (F1 : List Nat) (F2 : List Nat) (m : Int) (w : World) (h0 : Ow w d0 v0 F0) (h1 : Ow w d1 v1 F1) (h2 : Ow w d2 v2 F2) (f0 : Fit (.l [.b]) d0) (f1 : Fit (.l [.l [.i]]) d1) (f2 : Fit (.l [.i]) d2) (hn : (F0 ++ (F1 ++ F2)).Nodup) (c0 : cnt d0 ≤ 16777216) (c1 : cnt d1 ≤ 16777216) (c2 : cnt d2 ≤ 16777216) (m0 : 0 ≤ m) (m1 : m ≤ 4294967296) :
    Calls Try.prog 56 #[.agg #[v0, v1, v2], .int .i64 m] w fun e w' => e = .returned (.int .i64 (m + cnt d0 + cnt d1 + cnt d2)) ∧ Chg (F0 ++ (F1 ++ F2)) w w' ∧ Ow w' (mkD (m) d0) v0 F0 ∧ Ow w' (mkD (m + cnt d0) d1) v1 F1 ∧ Ow w' (mkD (m + cnt d0 + cnt d1) d2) v2 F2 := by
  obtain ⟨va0, vn0, vc0, rfl⟩ := f0.sliceO h0
  obtain ⟨va1, vn1, vc1, rfl⟩ := f1.sliceO h1
  obtain ⟨va2, vn2, vc2, rfl⟩ := f2.sliceO h2
  have hb0 : Below w.heap.size w (w.alloc (.cells #[.slice va0 vn0 vc0, .slice va1 vn1 vc1, .slice va2 vn2 vc2] 56)) := below_alloc _ _
  obtain ⟨dn0, hn2, dx0⟩ := List.nodup_append.1 hn
  obtain ⟨dn1, dn2, dx1⟩ := List.nodup_append.1 hn2
  have e0 := Ow.lt _ _ _ h0
  have o0_0 := h0.below hb0
  have e1 := Ow.lt _ _ _ h1
  have o1_0 := h1.below hb0
  have e2 := Ow.lt _ _ _ h2
  have o2_0 := h2.below hb0
  have HC0 := Lib.hid (Chg.ofBelow (F := F0 ++ (F1 ++ F2)) hb0)
  have DX0 := Lib.hid dx0
  have DX1 := Lib.hid dx1
  have HE0 := Lib.hid e0
  have HO0_0 := Lib.hid o0_0
  have HE1 := Lib.hid e1
  have HO1_0 := Lib.hid o1_0
  have HE2 := Lib.hid e2
  have HO2_0 := Lib.hid o2_0
  clear hb0 hn dx0 dx1  hn2 e0 o0_0 h0  e1 o1_0 h1  e2 o2_0 h2
  go_enter Try.func56, Try.ntmps56
  go_wp2_with fail
  refine (markBoolS_d d0 _ F0 (m) _ HO0_0.out dn0 f0 (by omega) (by omega) (by omega)).mono ?_
  rintro e w1 ⟨rfl, he1, hk1⟩
  have g1_1 : w1.cell? ⟨w.heap.size, 1, none⟩ = some (.slice va1 vn1 vc1) := by rw [excell he1 (fun hg => by have := HE0.out _ hg; omega)]; simp [go_sem]
  have g1_2 : w1.cell? ⟨w.heap.size, 2, none⟩ = some (.slice va2 vn2 vc2) := by rw [excell he1 (fun hg => by have := HE0.out _ hg; omega)]; simp [go_sem]
  have HC1 := Lib.hid (HC0.out.trans (he1.chg.wider (fun k hk => by simp [hk])))
  have HO0_1 := Lib.hid hk1
  have HO1_1 := Lib.hid (he1.ow HO1_0.out (fun g h1 h2 => DX0.out g h2 g (by simp [h1]) rfl))
  have HO2_1 := Lib.hid (he1.ow HO2_0.out (fun g h1 h2 => DX0.out g h2 g (by simp [h1]) rfl))
  clear he1 hk1
  go_wp2_with fail
  refine (markInt64SS_d d1 _ F1 (m + cnt d0) _ HO1_1.out dn1 f1 (by omega) (by omega) (by omega)).mono ?_
  rintro e w2 ⟨rfl, he2, hk2⟩
  have g2_2 : w2.cell? ⟨w.heap.size, 2, none⟩ = some (.slice va2 vn2 vc2) := by rw [excell he2 (fun hg => by have := HE1.out _ hg; omega)]; exact g1_2
  have HC2 := Lib.hid (HC1.out.trans (he2.chg.wider (fun k hk => by simp [hk])))
  have HO0_2 := Lib.hid (he2.ow HO0_1.out (fun g h1 h2 => DX0.out g h1 g (by simp [h2]) rfl))
  have HO1_2 := Lib.hid hk2
  have HO2_2 := Lib.hid (he2.ow HO2_1.out (fun g h1 h2 => DX1.out g h2 g (by simp [h1]) rfl))
  clear he2 hk2 g1_1 g1_2
  go_wp2_with fail
  refine (markInt64S_d d2 _ F2 (m + cnt d0 + cnt d1) _ HO2_2.out dn2 f2 (by omega) (by omega) (by omega)).mono ?_
  rintro e w3 ⟨rfl, he3, hk3⟩
  have HC3 := Lib.hid (HC2.out.trans (he3.chg.wider (fun k hk => by simp [hk])))
  have HO0_3 := Lib.hid (he3.ow HO0_2.out (fun g h1 h2 => DX0.out g h1 g (by simp [h2]) rfl))
  have HO1_3 := Lib.hid (he3.ow HO1_2.out (fun g h1 h2 => DX1.out g h1 g (by simp [h2]) rfl))
  have HO2_3 := Lib.hid hk3
  clear he3 hk3 g2_2
  go_wp2
  go_ret
  exact ⟨rfl, HC3.out, HO0_3.out, HO1_3.out, HO2_3.out⟩
set_option maxHeartbeats 2000000 in
set_option maxRecDepth 100000 in
theorem heldState_d (S : Nat → Prop) (d0 : D) (v0 : Value) (d1 : D) (v1 : Value) (d2 : D) (v2 : Value) (m : Int) (w : World) (h0 : Rd S w (mkD (m) d0) v0) (h1 : Rd S w (mkD (m + cnt d0) d1) v1) (h2 : Rd S w (mkD (m + cnt d0 + cnt d1) d2) v2) (f0 : Fit (.l [.b]) d0) (f1 : Fit (.l [.l [.i]]) d1) (f2 : Fit (.l [.i]) d2) (c0 : cnt d0 ≤ 16777216) (c1 : cnt d1 ≤ 16777216) (c2 : cnt d2 ≤ 16777216) (m0 : 0 ≤ m) (m1 : m ≤ 4294967296) :
    Calls Try.prog 57 #[.agg #[v0, v1, v2], .int .i64 m] w (RetV w (.int .i64 (m + cnt d0 + cnt d1 + cnt d2))) := by
  obtain ⟨va0, vn0, vc0, rfl⟩ := f0.sliceM h0
  obtain ⟨va1, vn1, vc1, rfl⟩ := f1.sliceM h1
  obtain ⟨va2, vn2, vc2, rfl⟩ := f2.sliceM h2
  have hb0 : Below w.heap.size w (w.alloc (.cells #[.slice va0 vn0 vc0, .slice va1 vn1 vc1, .slice va2 vn2 vc2] 56)) := below_alloc _ _
  have H_0 := Lib.hid (fun (wx : World) (hb : Below w.heap.size w wx) => heldBoolS_d S d0 _ (m) wx (h0.below hb) f0)
  have H_1 := Lib.hid (fun (wx : World) (hb : Below w.heap.size w wx) => heldInt64SS_d S d1 _ (m + cnt d0) wx (h1.below hb) f1)
  have H_2 := Lib.hid (fun (wx : World) (hb : Below w.heap.size w wx) => heldInt64S_d S d2 _ (m + cnt d0 + cnt d1) wx (h2.below hb) f2)
  have HB0 := Lib.hid hb0
  clear hb0 h0 h1 h2
  go_enter Try.func57, Try.ntmps57
  go_wp2_with fail
  refine (H_0.out _ HB0.out (by omega) (by omega) (by omega)).mono ?_
  rintro e w1 ⟨rfl, hb1⟩
  have g1_1 : w1.cell? ⟨w.heap.size, 1, none⟩ = some (.slice va1 vn1 vc1) := by rw [bcell1 hb1 (by first | omega | (simp; done) | (simp; omega))]; simp [go_sem]
  have g1_2 : w1.cell? ⟨w.heap.size, 2, none⟩ = some (.slice va2 vn2 vc2) := by rw [bcell1 hb1 (by first | omega | (simp; done) | (simp; omega))]; simp [go_sem]
  have HB1 := Lib.hid (bnext HB0.out hb1 (by first | omega | (simp; done) | (simp; omega)))
  have hz1 : w.heap.size < w1.heap.size := by have := hb1.size; (try simp at this); omega
  clear hb1
  go_wp2_with fail
  refine (H_1.out _ HB1.out (by omega) (by omega) (by omega)).mono ?_
  rintro e w2 ⟨rfl, hb2⟩
  have g2_2 : w2.cell? ⟨w.heap.size, 2, none⟩ = some (.slice va2 vn2 vc2) := by rw [bcell1 hb2 (by first | omega | (simp; done) | (simp; omega))]; exact g1_2
  have HB2 := Lib.hid (bnext HB1.out hb2 (by first | omega | (simp; done) | (simp; omega)))
  have hz2 : w.heap.size < w2.heap.size := by have := hb2.size; (try simp at this); omega
  clear hb2 g1_1 g1_2
  go_wp2_with fail
  refine (H_2.out _ HB2.out (by omega) (by omega) (by omega)).mono ?_
  rintro e w3 ⟨rfl, hb3⟩
  have HB3 := Lib.hid (bnext HB2.out hb3 (by first | omega | (simp; done) | (simp; omega)))
  have hz3 : w.heap.size < w3.heap.size := by have := hb3.size; (try simp at this); omega
  clear hb3 g2_2
  go_wp2
  go_ret
  exact ⟨rfl, HB3.out⟩
end Go.Proofs.Ytldjgkandkclpaa
