/- The laws' functions on orders, programs and configs: by shape. Written by tygen.py. -/
import Derived.Test.YtncndnholheemaaYB
namespace Go.Proofs.Ytncndnholheemaa
open Go.RowKit

set_option maxHeartbeats 4000000 in
theorem toOrder_d (_S : Nat → Prop) (x0 : Int) (x1 : Int) (x2 : Int) (x3 : Int) (w : World)    :
    Calls Try.prog 115 #[.agg #[.int .i64 x0, .int .i64 x1, .int .i64 x2, .int .i64 x3]] w (RetA w [.i x0, .i x1, .i x2, .i x3]) := by
  go_enter Try.func115, Try.ntmps115
  go_wp2
  refine bodyPost_end (v := .agg #[.int .i64 x0, .int .i64 x1, .int .i64 x2, .int .i64 x3]) (by simp [results, Try.results115, go_sem]) rfl ?_
  refine ⟨[.int .i64 x0, .int .i64 x1, .int .i64 x2, .int .i64 x3], ([] ++ ([] ++ ([] ++ ([] ++ [])))), rfl, ?be, ⟨[], _, ⟨rfl, rfl⟩, ⟨[], _, ⟨rfl, rfl⟩, ⟨[], _, ⟨rfl, rfl⟩, ⟨[], _, ⟨rfl, rfl⟩, rfl, rfl⟩, rfl⟩, rfl⟩, rfl⟩, ?nd, ?fr⟩
  case be => repeat (first | with_reducible exact Below.refl _ _ | refine Below.setCell ?_ (by simp; try omega) _ | refine Below.alloc ?_ (by simp; try omega) _)
  case nd =>
    simp
  case fr =>
    simp
set_option maxHeartbeats 2000000 in
theorem eqOrder_d (x0 : Int) (x1 : Int) (x2 : Int) (x3 : Int)  (w : World)    :
    Calls Try.prog 122 #[.agg #[.int .i64 x0, .int .i64 x1, .int .i64 x2, .int .i64 x3], .agg #[.int .i64 x0, .int .i64 x1, .int .i64 x2, .int .i64 x3]] w (RetV w (.bool true)) := by
  have hb : Below w.heap.size w ((w.alloc (.cells #[.int .i64 x0, .int .i64 x1, .int .i64 x2, .int .i64 x3] 125)).alloc (.cells #[.int .i64 x0, .int .i64 x1, .int .i64 x2, .int .i64 x3] 125)) := ((Below.refl _ _).alloc (Nat.le_refl _) _).alloc (by simp) _
  have HB0 := Lib.hid hb
  clear hb 
  go_enter Try.func122, Try.ntmps122
  go_wp2
  go_ret
  exact ⟨rfl, HB0.out⟩
theorem tabOrderSL : Tab Try.prog 44 161 (.agg #[.int .i64 0, .int .i64 0, .int .i64 0, .int .i64 0]) 4 32 := ⟨by kernel_rfl, by kernel_rfl⟩
theorem tabOrderSM : Tab Try.prog 50 125 (.agg #[.int .i64 0, .int .i64 0, .int .i64 0, .int .i64 0]) 4 32 := ⟨by kernel_rfl, by kernel_rfl⟩
set_option maxHeartbeats 2000000 in
theorem szOrderS_d (S : Nat → Prop) (d : D) (v : Value) (left : Int) (w : World) (h : Rd S w d v) (hf : Fit (.l [.i, .i, .i, .i]) d) (h0 : 0 ≤ left) (h1 : left ≤ 1048576) :
    Calls Try.prog 59 #[v, .int .i64 left] w (RetSv w left (vol d)) := by
  obtain ⟨ds, rfl, n, hn, HR⟩ := Fit.rows (k := 4) rfl hf
  obtain ⟨a, c, rfl, hm, hp, HG⟩ := h.row hn (by omega)
  unfold maxLen at hm
  have hsv := volL_svol ds
  have hs0 : svol ds = 0 := svol_zero ds (fun q d hd => by
    have hq := (List.getElem?_eq_some_iff.1 hd).1
    obtain ⟨i, j, rfl, hj⟩ : ∃ i j, q = i * 4 + j ∧ j < 4 := ⟨q / 4, q % 4, by omega, by omega⟩
    have hi : i < n := by omega
    match j, hj with
    | 0, _ => obtain ⟨x, hx, y, rfl⟩ := HR.out i hi 0 _ rfl; rw [hx] at hd; cases hd; rfl
    | 1, _ => obtain ⟨x, hx, y, rfl⟩ := HR.out i hi 1 _ rfl; rw [hx] at hd; cases hd; rfl
    | 2, _ => obtain ⟨x, hx, y, rfl⟩ := HR.out i hi 2 _ rfl; rw [hx] at hd; cases hd; rfl
    | 3, _ => obtain ⟨x, hx, y, rfl⟩ := HR.out i hi 3 _ rfl; rw [hx] at hd; cases hd; rfl)
  have HS := Lib.hid hsv
  have HZ := Lib.hid hs0
  have HN := Lib.hid hn
  clear hsv hs0 hn
  by_cases hq : left < n
  · go_enter Try.func59, Try.ntmps59
    go_wp2
    go_ret
    exact ⟨-1, rfl, Below.refl _ _, by omega, by omega, fun h => absurd h (by omega)⟩
  · go_enter Try.func59, Try.ntmps59
    go_wp2
    go_ret
    exact ⟨left - n, rfl, Below.refl _ _, by omega, by omega, fun h => by have := HS.out; have := HZ.out; have := HN.out; simp only [vol]; omega⟩
set_option maxHeartbeats 4000000 in
theorem toOrderS_d (S : Nat → Prop) (d : D) (v : Value) (w : World) (h : Rd S w d v) (hf : Fit (.l [.i, .i, .i, .i]) d) (hv : vol d ≤ 16777216) :
    Calls Try.prog 66 #[v] w (RetD w d) := by
  obtain ⟨ds, rfl, n, hn, HR⟩ := Fit.rows (k := 4) rfl hf
  obtain ⟨a, c, rfl, hm, hp, HG⟩ := h.row hn (by omega)
  have hl := volL_len ds
  simp only [vol] at hv
  have l1 : n ≤ 16777216 := by omega
  have HN := Lib.hid hn
  have HV := Lib.hid hv
  have HM := Lib.hid hm
  clear hn hv hl hm
  have i1 := ix_of (P := Try.prog) tabOrderSL.under tabOrderSL.size (a := a) (n := n) hp c
  obtain ⟨i0, hi, hz0, hz1, hz2⟩ := info_parts tabOrderSM.info
  go_enter Try.func66, Try.ntmps66
  go_wp2_with (at_make; refine wpList_make_full w rfl _ _ 50 rfl w.heap.size 125 i0 _ 4 tabOrderSM.under hi hz0 hz1 _ _ _ _ n rfl rfl rfl rfl ?b2 ?b3 (Nat.le_refl _) ?_)
  case b2 => rw [hz2]; omega
  case b3 => unfold maxLen; omega
  intro w0 hown hgr
  have hfil := Fil.startRow hown ⟨hgr.os, hgr.tape, hgr.output, hgr.size, fun k hk => hgr.block k hk (by simp)⟩
  clear hown hgr hi hz0 hz1 hz2
  go_wp2
  go_loopw [4] (fun i0 wr => ∃ (i : Nat) (F : List Nat), i ≤ n ∧ i0 = .int .i64 i ∧ Fil w wr w.heap.size (n * 4) (ds.take (i * 4)) F) (fun i _ => n - (intOf i).toNat)
  case atStart => exact ⟨0, [], Nat.zero_le _, rfl, by simpa using hfil⟩
  case round =>
      obtain ⟨i, F, hi, rfl, hfi⟩ := hrel
      clear hfil
      by_cases hlt : i < n
      · have HF := Lib.hid hfi
        clear hfi
        obtain ⟨x0, q0, f0⟩ := HR.out i hlt 0 _ rfl
        rw [Nat.add_zero] at q0
        obtain ⟨x1, q1, f1⟩ := HR.out i hlt 1 _ rfl
        obtain ⟨x2, q2, f2⟩ := HR.out i hlt 2 _ rfl
        obtain ⟨x3, q3, f3⟩ := HR.out i hlt 3 _ rfl
        have hlen : (ds.take (i * 4)).length = i * 4 := by have := HN.out; rw [List.length_take]; omega
        have t0 := take_succ_get q0
        have t1 := take_succ_get q1
        have t2 := take_succ_get q2
        have t3 := take_succ_get q3
        have HT := Lib.hid (show ds.take ((i + 1) * 4) = ds.take (i * 4) ++ [x0, x1, x2, x3] from by rw [show (i + 1) * 4 = i * 4 + 4 from by omega]; rw [t3, t2, t1, t0]; simp)
        obtain ⟨u0, g0, r0⟩ := HG.out wr HF.out.below _ _ q0
        obtain ⟨y0, rfl⟩ := f0
        obtain rfl : u0 = .int .i64 y0 := r0
        obtain ⟨u1, g1, r1⟩ := HG.out wr HF.out.below _ _ q1
        obtain ⟨y1, rfl⟩ := f1
        obtain rfl : u1 = .int .i64 y1 := r1
        obtain ⟨u2, g2, r2⟩ := HG.out wr HF.out.below _ _ q2
        obtain ⟨y2, rfl⟩ := f2
        obtain rfl : u2 = .int .i64 y2 := r2
        obtain ⟨u3, g3, r3⟩ := HG.out wr HF.out.below _ _ q3
        obtain ⟨y3, rfl⟩ := f3
        obtain rfl : u3 = .int .i64 y3 := r3
        have HL := Lib.hid hlen
        clear hlen t0 q0 t1 q1 t2 q2 t3 q3
        go_wp2_with fail
        refine (toOrder_d S y0 y1 y2 y3 wr   ).mono ?_
        rintro e w' ⟨vs, F', rfl, hb, ho, hn', hl⟩
        have HNX := HF.out.row hb ho hn' hl (by rw [HL.out]; simp only [List.length_cons, List.length_nil]; have := Nat.mul_le_mul_right 4 (show i + 1 ≤ n from hlt); omega)
        rw [HL.out, ← HT.out] at HNX
        obtain ⟨z0, z1, z2, z3, rfl⟩ : ∃ z0 z1 z2 z3, vs = [z0, z1, z2, z3] := by
          have hvl := owA_len _ _ _ ho
          match vs, hvl with
          | [z0, z1, z2, z3], _ => exact ⟨z0, z1, z2, z3, rfl⟩
        skip
        obtain ⟨_, _, ⟨ev0, _⟩, ho0, _⟩ := ho
        subst ev0
        obtain ⟨_, _, ⟨ev1, _⟩, ho1, _⟩ := ho0
        subst ev1
        obtain ⟨_, _, ⟨ev2, _⟩, ho2, _⟩ := ho1
        subst ev2
        obtain ⟨_, _, ⟨ev3, _⟩, ho3, _⟩ := ho2
        subst ev3
        have hN := Lib.hid HNX
        simp only [setRow, Nat.add_assoc] at hN
        obtain ⟨o0, e0⟩ := (HF.out.carry hb).has (i * 4) (by omega)
        have z0_ := (HF.out.carry hb).free (i * 4)
        obtain ⟨o1, e1⟩ := (HF.out.carry hb).has (i * 4 + 1) (by omega)
        have z1_ := (HF.out.carry hb).free (i * 4 + 1)
        obtain ⟨o2, e2⟩ := (HF.out.carry hb).has (i * 4 + 2) (by omega)
        have z2_ := (HF.out.carry hb).free (i * 4 + 2)
        obtain ⟨o3, e3⟩ := (HF.out.carry hb).has (i * 4 + 3) (by omega)
        have z3_ := (HF.out.carry hb).free (i * 4 + 3)
        clear HNX hb hl hn' g0 g1 g2 g3
        go_wp2
        go_roundw
        case rel => exact ⟨i + 1, _, by omega, by go_num, hN.out⟩
        case measure => simp [intOf]; omega
      · have HF := Lib.hid hfi
        clear hfi
        go_wp2
        go_ret
        obtain rfl : i = n := by omega
        have h2 := HF.out
        rw [take_full HN.out] at h2
        exact h2.retRow HN.out HM.out
set_option maxHeartbeats 2000000 in
theorem eqOrderS_d (d : D) (v v' : Value) (w : World) (h : Rd Any w d v) (h' : Rd Any w d v') (hf : Fit (.l [.i, .i, .i, .i]) d) :
    Calls Try.prog 76 #[v, v'] w (RetV w (.bool true)) := by
  obtain ⟨ds, rfl, n, hn, HR⟩ := Fit.rows (k := 4) rfl hf
  obtain ⟨a, c, rfl, hm, hp, HG⟩ := h.row hn (by omega)
  obtain ⟨ap, cp, rfl, hmp, hpp, HGp⟩ := h'.row hn (by omega)
  unfold maxLen at hm
  have i1 := ix_of (P := Try.prog) tabOrderSM.under tabOrderSM.size (a := a) (n := n) hp c
  have i2 := ix_of (P := Try.prog) tabOrderSM.under tabOrderSM.size (a := ap) (n := n) hpp cp
  clear hn hmp
  go_enter Try.func76, Try.ntmps76
  go_wp2
  go_loopw [5] (fun i0 wr => ∃ i : Nat, i ≤ n ∧ i0 = .int .i64 i ∧ Below w.heap.size w wr) (fun i _ => n - (intOf i).toNat)
  case atStart => exact ⟨0, Nat.zero_le _, rfl, Below.refl _ _⟩
  case round =>
      obtain ⟨i, hi, rfl, hb⟩ := hrel
      have HB := Lib.hid hb
      clear hb
      by_cases hlt : i < n
      · skip
        obtain ⟨x0, q0, f0⟩ := HR.out i hlt 0 _ rfl
        rw [Nat.add_zero] at q0
        obtain ⟨x1, q1, f1⟩ := HR.out i hlt 1 _ rfl
        obtain ⟨x2, q2, f2⟩ := HR.out i hlt 2 _ rfl
        obtain ⟨x3, q3, f3⟩ := HR.out i hlt 3 _ rfl
        obtain ⟨u0, g0, r0⟩ := HG.out wr HB.out _ _ q0
        obtain ⟨y0, rfl⟩ := f0
        obtain rfl : u0 = .int .i64 y0 := r0
        obtain ⟨u1, g1, r1⟩ := HG.out wr HB.out _ _ q1
        obtain ⟨y1, rfl⟩ := f1
        obtain rfl : u1 = .int .i64 y1 := r1
        obtain ⟨u2, g2, r2⟩ := HG.out wr HB.out _ _ q2
        obtain ⟨y2, rfl⟩ := f2
        obtain rfl : u2 = .int .i64 y2 := r2
        obtain ⟨u3, g3, r3⟩ := HG.out wr HB.out _ _ q3
        obtain ⟨y3, rfl⟩ := f3
        obtain rfl : u3 = .int .i64 y3 := r3
        obtain ⟨u0p, g0p, r0p⟩ := HGp.out wr HB.out _ _ q0
        obtain rfl : u0p = .int .i64 y0 := r0p
        obtain ⟨u1p, g1p, r1p⟩ := HGp.out wr HB.out _ _ q1
        obtain rfl : u1p = .int .i64 y1 := r1p
        obtain ⟨u2p, g2p, r2p⟩ := HGp.out wr HB.out _ _ q2
        obtain rfl : u2p = .int .i64 y2 := r2p
        obtain ⟨u3p, g3p, r3p⟩ := HGp.out wr HB.out _ _ q3
        obtain rfl : u3p = .int .i64 y3 := r3p
        clear q0 q1 q2 q3
        go_wp2_with fail
        go_region_with (go_at_call 122; refine (eqOrder_d y0 y1 y2 y3  _   ).mono ?_; rintro e w' ⟨rfl, hb'⟩)
        all_goals
          have hbb := bnext HB.out.drew hb' (Nat.le_refl _)
          clear hb' g0 g0p g1 g1p g2 g2p g3 g3p
          go_wp2
          go_roundw
          case rel => exact ⟨i + 1, by omega, by go_num, hbb⟩
          case measure => simp [intOf]; omega
      · go_wp2
        go_ret
        exact ⟨rfl, HB.out⟩
set_option maxHeartbeats 4000000 in
theorem markOrderS_d (d : D) (v : Value) (F : List Nat) (m : Int) (w : World) (h : Ow w d v F) (hnd : F.Nodup) (hf : Fit (.l [.i, .i, .i, .i]) d) (hv : cnt d ≤ 16777216) (m0 : 0 ≤ m) (m1 : m ≤ 34359738368) :
    Calls Try.prog 77 #[v, .int .i64 m] w (RetMk w F m d v) := by
  obtain ⟨ds, rfl, n, hn, HR⟩ := Fit.rows (k := 4) rfl hf
  obtain ⟨a, c, F', rfl, hm, hp, hcp, hM⟩ := h.mks hnd hn (by omega)
  have HCP := Lib.hid hcp
  clear hcp
  have hM0 := Lib.hid (hM m)
  have HM := Lib.hid hm
  unfold maxLen at hm
  simp only [cnt] at hv
  have HN := Lib.hid hn
  clear hM hn
  have i1 := ix_of (P := Try.prog) tabOrderSM.under tabOrderSM.size (a := a) (n := n) hp c
  go_enter Try.func77, Try.ntmps77
  go_wp2
  go_loopw [1, 5] (fun q i0 wr => ∃ (i : Nat) (K : Int), i ≤ n ∧ i0 = .int .i64 i ∧ q = .int .i64 K ∧ Mks w wr a ds F' F m K (i * 4)) (fun _ i _ => n - (intOf i).toNat)
  case atStart => exact ⟨0, m, Nat.zero_le _, rfl, rfl, by simpa using hM0.out⟩
  case round =>
      obtain ⟨i, K0, hi, rfl, rfl, hk0⟩ := hrel
      by_cases hlt : i < n
      · skip
        obtain ⟨x0, q0, f0⟩ := HR.out i hlt 0 _ rfl
        rw [Nat.add_zero] at q0
        obtain ⟨x1, q1, f1⟩ := HR.out i hlt 1 _ rfl
        obtain ⟨x2, q2, f2⟩ := HR.out i hlt 2 _ rfl
        obtain ⟨x3, q3, f3⟩ := HR.out i hlt 3 _ rfl
        obtain ⟨y0, rfl⟩ := f0
        obtain ⟨y1, rfl⟩ := f1
        obtain ⟨y2, rfl⟩ := f2
        obtain ⟨y3, rfl⟩ := f3
        have B0 := hk0.le
        obtain ⟨⟨o0, e0⟩, z0⟩ := hk0.celln (q' := i * 4) (by omega) q0
        have hk_0 : Mks w _ a ds F' F m _ (i * 4 + 1) := hk0.int q0
        obtain ⟨⟨o1, e1⟩, z1⟩ := hk_0.celln (q' := i * 4 + 1) (by omega) q1
        have hk_1 : Mks w _ a ds F' F m _ (i * 4 + 2) := hk_0.int q1
        obtain ⟨⟨o2, e2⟩, z2⟩ := hk_1.celln (q' := i * 4 + 2) (by omega) q2
        have hk_2 : Mks w _ a ds F' F m _ (i * 4 + 3) := hk_1.int q2
        obtain ⟨⟨o3, e3⟩, z3⟩ := hk_2.celln (q' := i * 4 + 3) (by omega) q3
        have hk_3 : Mks w _ a ds F' F m _ (i * 4 + 4) := hk_2.int q3
        have HK := Lib.hid hk_3
        clear hk0 hk_0 hk_1 hk_2 hk_3
        go_wp2
        go_roundw
        case rel => exact ⟨i + 1, _, by omega, by go_num, rfl, by have := HK.out; rwa [show (i + 1) * 4 = i * 4 + 4 from by omega]⟩
        case measure => simp [intOf]; omega
      · have HK := Lib.hid hk0
        clear hk0
        go_wp2
        go_ret
        obtain rfl : i = n := by omega
        have h2 := HK.out
        rw [← HN.out] at h2
        exact h2.done hp HM.out HN.out HCP.out
set_option maxHeartbeats 2000000 in
theorem szProgram_d (S : Nat → Prop) (x0 : Int) (d1 : D) (v1 : Value) (left : Int) (w : World) (h1 : Rd S w d1 v1) (f1 : Fit (.l [.i, .i, .i, .i]) d1) (bl0 : 0 ≤ left) (bl1 : left ≤ 1048576) :
    Calls Try.prog 18 #[.agg #[.int .i64 x0, v1], .int .i64 left] w (RetSv w left (vol d1)) := by
  obtain ⟨va1, vn1, vc1, rfl⟩ := f1.sliceR h1
  have hb0 : Below w.heap.size w (w.alloc (.cells #[.int .i64 x0, .slice va1 vn1 vc1] 46)) := below_alloc _ _
  have H_1 := Lib.hid (fun (l : Int) (wx : World) (hb : Below w.heap.size w wx) => szOrderS_d S d1 _ l wx (h1.below hb) f1)
  have HB0 := Lib.hid hb0
  clear hb0 h1 f1
  go_enter Try.func18, Try.ntmps18
  go_wp2_with fail
  refine (H_1.out left _ HB0.out (by omega) (by omega)).mono ?_
  rintro e w1 ⟨L1, rfl, hb1, y1, z1, p1⟩
  have HB1 := Lib.hid (bnext HB0.out hb1 (by first | omega | (simp; done) | (simp; omega)))
  have hz1 : w.heap.size < w1.heap.size := by have := hb1.size; (try simp at this); omega
  have P1 := Lib.hid p1
  clear hb1 p1
  by_cases n1 : L1 < 0
  · go_wp2
    go_ret
    exact ⟨-1, rfl, HB1.out, by omega, by omega, fun h => absurd h (by omega)⟩
  · have m1 : 0 ≤ L1 := by omega
    go_wp2
    go_ret
    exact ⟨L1, rfl, HB1.out, by omega, by omega, fun _ => by have t1 := P1.out m1; omega⟩
set_option maxHeartbeats 4000000 in
theorem toProgram_d (S : Nat → Prop) (x0 : Int) (d1 : D) (v1 : Value) (w : World) (h1 : Rd S w d1 v1) (f1 : Fit (.l [.i, .i, .i, .i]) d1) (l1 : vol d1 ≤ 16777216) :
    Calls Try.prog 20 #[.agg #[.int .i64 x0, v1]] w (RetA w [.i x0, d1]) := by
  obtain ⟨va1, vn1, vc1, rfl⟩ := f1.sliceR h1
  have H_1 := Lib.hid (fun (wx : World) (hb : Below w.heap.size w wx) => toOrderS_d S d1 _ wx (h1.below hb) f1 l1)
  clear h1 l1
  go_enter Try.func20, Try.ntmps20
  go_wp2_with fail
  refine (H_1.out _ (by repeat (first | exact Below.refl _ _ | assumption | refine Below.alloc ?_ (by simp; try omega) _ | refine Below.setCell ?_ (by simp; try omega) _))).mono ?_
  rintro e w1 ⟨u1, F1, rfl, hb1, ho1_1, hn1, hl1⟩
  obtain ⟨ua1, un1, uc1, rfl⟩ := f1.sliceO ho1_1
  have hB1 : Below w.heap.size w w1 := bnext (by repeat (first | exact Below.refl _ _ | assumption | refine Below.alloc ?_ (by simp; try omega) _ | refine Below.setCell ?_ (by simp; try omega) _)) hb1 (by simp; try omega)
  obtain ⟨hc1, hf1⟩ := bcell hb1
  have hz1 : w.heap.size + 2 < w1.heap.size := by have := hb1.size; simp at this; omega
  have hv1 : w.heap.size + 1 < w1.heap.size := by omega
  have hu1 : w.heap.size < w1.heap.size := by omega
  have fr1 : ∀ g, g ∈ F1 → w.heap.size + 2 < g := fun g hg => by have := hl1 g hg; simp at this; omega
  have HO1_1 := Lib.hid ho1_1
  have HR1 := Lib.hid fr1
  have HN1 := Lib.hid hn1
  have HB1 := Lib.hid hB1
  clear hb1 hl1 fr1 hn1 hB1  ho1_1
  go_wp2
  refine bodyPost_end (v := .agg #[.int .i64 x0, .slice ua1 un1 uc1]) (by simp [results, Try.results20, go_sem, hc1]) rfl ?_
  have hR1 := HR1.out
  have hT1 : ∀ g, g ∈ F1 → g < w1.heap.size := Ow.lt _ _ _ HO1_1.out
  refine ⟨[.int .i64 x0, .slice ua1 un1 uc1], ([] ++ (F1 ++ [])), rfl, ?be, ⟨[], _, ⟨rfl, rfl⟩, ⟨F1, _, ?o1, rfl, rfl⟩, rfl⟩, ?nd, ?fr⟩
  case be => repeat (first | with_reducible exact HB1.out | refine Below.setCell ?_ (by simp; try omega) _ | refine Below.alloc ?_ (by simp; try omega) _)
  case o1 => repeat (first | with_reducible exact HO1_1.out | refine Ow.setCell ?_ (by intro hg; have := hR1 _ hg; simp at this; try omega) _)
  case nd =>
    simp only [List.nil_append, List.append_nil]
    exact HN1.out
  case fr =>
    intro g hg
    simp only [List.nil_append, List.append_nil] at hg
    have := hR1 g hg; omega
set_option maxHeartbeats 2000000 in
theorem eqProgram_d (x0 : Int) (d1 : D) (v1 : Value) (v1p : Value) (w : World) (h1 : Rd Any w d1 v1) (h1p : Rd Any w d1 v1p) (f1 : Fit (.l [.i, .i, .i, .i]) d1) :
    Calls Try.prog 24 #[.agg #[.int .i64 x0, v1], .agg #[.int .i64 x0, v1p]] w (RetV w (.bool true)) := by
  obtain ⟨va1, vn1, vc1, rfl⟩ := f1.sliceR h1
  obtain ⟨va1p, vn1p, vc1p, rfl⟩ := f1.sliceR h1p
  have hb : Below w.heap.size w ((w.alloc (.cells #[.int .i64 x0, .slice va1 vn1 vc1] 52)).alloc (.cells #[.int .i64 x0, .slice va1p vn1p vc1p] 52)) := ((Below.refl _ _).alloc (Nat.le_refl _) _).alloc (by simp) _
  have H_1 := Lib.hid (fun (wx : World) (hb : Below w.heap.size w wx) => eqOrderS_d d1 _ _ wx (h1.below hb) (h1p.below hb) f1)
  have HB0 := Lib.hid hb
  clear hb h1 h1p
  go_enter Try.func24, Try.ntmps24
  go_wp2_with fail
  refine (H_1.out _ HB0.out).mono ?_
  rintro e w1 ⟨rfl, hb1⟩
  have HB1 := Lib.hid (bnext HB0.out hb1 (by first | omega | (simp; done) | (simp; omega)))
  have hz1 : w.heap.size + 1 < w1.heap.size := by have := hb1.size; (try simp at this); omega
  clear hb1 
  go_wp2
  go_ret
  exact ⟨rfl, HB1.out⟩
set_option maxHeartbeats 2000000 in
theorem markProgram_d (x0 : Int) (d1 : D) (v1 : Value) (F1 : List Nat) (m : Int) (w : World) (h1 : Ow w d1 v1 F1) (f1 : Fit (.l [.i, .i, .i, .i]) d1) (hn : (F1).Nodup) (c1 : cnt d1 ≤ 16777216) (m0 : 0 ≤ m) (m1 : m ≤ 4294967296) :
    Calls Try.prog 25 #[.agg #[.int .i64 x0, v1], .int .i64 m] w fun e w' => e = .returned (.int .i64 (m + cnt d1)) ∧ Chg (F1) w w' ∧ Ow w' (mkD (m) d1) v1 F1 := by
  obtain ⟨va1, vn1, vc1, rfl⟩ := f1.sliceO h1
  have hb0 : Below w.heap.size w (w.alloc (.cells #[.int .i64 x0, .slice va1 vn1 vc1] 52)) := below_alloc _ _
  have dn1 := hn
  have e1 := Ow.lt _ _ _ h1
  have o1_0 := h1.below hb0
  have HC0 := Lib.hid (Chg.ofBelow (F := F1) hb0)
  have HE1 := Lib.hid e1
  have HO1_0 := Lib.hid o1_0
  clear hb0 hn   e1 o1_0 h1
  go_enter Try.func25, Try.ntmps25
  go_wp2_with fail
  refine (markOrderS_d d1 _ F1 (m) _ HO1_0.out dn1 f1 (by omega) (by omega) (by omega)).mono ?_
  rintro e w1 ⟨rfl, he1, hk1⟩
  have HC1 := Lib.hid (HC0.out.trans (he1.chg.wider (fun k hk => by simp [hk])))
  have HO1_1 := Lib.hid hk1
  clear he1 hk1
  go_wp2
  go_ret
  exact ⟨rfl, HC1.out, HO1_1.out⟩
theorem tabConfigSM : Tab Try.prog 64 68 (.agg #[.int .i64 0, .slice none 0 0]) 2 32 := ⟨by kernel_rfl, by kernel_rfl⟩
