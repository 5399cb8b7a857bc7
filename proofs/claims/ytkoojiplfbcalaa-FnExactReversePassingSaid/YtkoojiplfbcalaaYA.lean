/- The laws' functions on lists of lists of numbers: by shape. Written by tygen.py. -/
import Derived.Test.YtkoojiplfbcalaaYB
namespace Go.Proofs.Ytkoojiplfbcalaa
open Go.RowKit

set_option maxHeartbeats 2000000 in
theorem szInt64SS_d (S : Nat → Prop) (d : D) (v : Value) (left : Int) (w : World) (h : Rd S w d v) (hf : Fit (.l [.l [.i]]) d) (h0 : 0 ≤ left) (h1 : left ≤ 1048576) :
    Calls Try.prog 60 #[v, .int .i64 left] w (RetSv w left (vol d)) := by
  obtain ⟨ds, rfl, n, hn, HR⟩ := Fit.rows (k := 1) rfl hf
  obtain ⟨a, c, rfl, hm, hp, HG⟩ := h.row hn (by omega)
  unfold maxLen at hm
  have hsv := volL_svol ds
  have HS := Lib.hid hsv
  have HN := Lib.hid hn
  clear hsv hn
  have i1 := ix_of (P := Try.prog) tabII.under tabII.size (a := a) (n := n) hp c
  simp only [Nat.mul_one] at i1
  by_cases hq : left < n
  · go_enter Try.func60, Try.ntmps60
    go_wp2
    go_ret
    exact ⟨-1, rfl, Below.refl _ _, by omega, by omega, fun h => absurd h (by omega)⟩
  · go_enter Try.func60, Try.ntmps60
    go_wp2
    go_loopw [1, 5] (fun q i0 wr => ∃ (i : Nat) (l : Int), i ≤ n ∧ i0 = .int .i64 i ∧ q = .int .i64 l ∧ 0 ≤ l ∧ l ≤ left ∧ Below w.heap.size w wr ∧ (svol (ds.take (i * 1)) : Int) + 16 * l ≤ 16 * (left - n)) (fun _ i _ => n - (intOf i).toNat)
    case atStart => exact ⟨0, left - n, Nat.zero_le _, rfl, by simp, by omega, by omega, Below.refl _ _, by simp [svol, volL]⟩
    case round =>
      obtain ⟨i, l, hi, rfl, rfl, b0, b1, hb, hv⟩ := hrel
      by_cases hlt : i < n
      · have HB := Lib.hid hb
        have HV := Lib.hid hv
        clear hb hv
        obtain ⟨x0, q0, f0⟩ := HR.out i hlt 0 _ rfl
        rw [Nat.mul_one, Nat.add_zero] at q0
        have t0 := svol_take q0
        have HT := Lib.hid (show svol (ds.take ((i + 1) * 1)) = svol (ds.take (i * 1)) + (vol x0) from by rw [show (i + 1) * 1 = i * 1 + 1 from by omega]; (try simp only [Nat.mul_one] at t0); (try simp only [Nat.mul_one]); (try simp only [Nat.add_zero] at t0); omega)
        obtain ⟨u0, g0, r0⟩ := HG.out wr HB.out _ _ q0
        obtain ⟨ua0, un0, uc0, rfl⟩ := f0.sliceR r0
        clear t0 q0
        go_wp2_with fail
        refine (szInt64S_d S x0 _ l wr r0 f0 b0 (by omega)).mono ?_
        rintro e w' ⟨L, rfl, hb', c0, c1, c2⟩
        have hbb := bnext HB.out hb' (Nat.le_refl _)
        have H2 := Lib.hid c2
        clear hb' c2 g0
        by_cases hL : L < 0
        · go_wp2
          go_ret
          exact ⟨-1, rfl, hbb, by omega, by omega, fun h => absurd h (by omega)⟩
        · go_wp2
          go_roundw
          case rel => exact ⟨i + 1, L, by omega, by go_num, rfl, by omega, by omega, hbb, by have a1 := HT.out; have a2 := HV.out; have a3 := H2.out (by omega); (try simp only [vol] at a1); omega⟩
          case measure => simp [intOf]; omega
      · have HB := Lib.hid hb
        have HV := Lib.hid hv
        clear hb hv
        go_wp2
        go_ret
        have e : i = n := by omega
        exact ⟨l, rfl, HB.out, by omega, by omega, fun _ => by have a1 := HS.out; have a2 := HV.out; have a3 := HN.out; rw [e, take_full a3] at a2; simp only [vol]; omega⟩
set_option maxHeartbeats 4000000 in
theorem toInt64SS_d (S : Nat → Prop) (d : D) (v : Value) (w : World) (h : Rd S w d v) (hf : Fit (.l [.l [.i]]) d) (hv : vol d ≤ 16777216) :
    Calls Try.prog 68 #[v] w (RetD w d) := by
  obtain ⟨ds, rfl, n, hn, HR⟩ := Fit.rows (k := 1) rfl hf
  obtain ⟨a, c, rfl, hm, hp, HG⟩ := h.row hn (by omega)
  have hl := volL_len ds
  simp only [vol] at hv
  have l1 : n ≤ 16777216 := by omega
  have HN := Lib.hid hn
  have HV := Lib.hid hv
  have HM := Lib.hid hm
  clear hn hv hl hm
  have i1 := ix_of (P := Try.prog) tabII.under tabII.size (a := a) (n := n) hp c
  simp only [Nat.mul_one] at i1
  obtain ⟨i0, hi, hz0, hz1, hz2⟩ := info_parts tabII.info
  go_enter Try.func68, Try.ntmps68
  go_wp2_with (at_make; refine wpList_make_full w rfl _ _ 27 rfl w.heap.size 22 i0 _ 1 tabII.under hi hz0 hz1 _ _ _ _ n rfl rfl rfl rfl ?b2 ?b3 (Nat.le_refl _) ?_)
  case b2 => rw [hz2]; omega
  case b3 => unfold maxLen; omega
  intro w0 hown hgr
  have hfil := Fil.startRow hown ⟨hgr.os, hgr.tape, hgr.output, hgr.size, fun k hk => hgr.block k hk (by simp)⟩
  clear hown hgr hi hz0 hz1 hz2
  go_wp2
  go_loopw [4] (fun i0 wr => ∃ (i : Nat) (F : List Nat), i ≤ n ∧ i0 = .int .i64 i ∧ Fil w wr w.heap.size (n * 1) (ds.take (i * 1)) F) (fun i _ => n - (intOf i).toNat)
  case atStart => exact ⟨0, [], Nat.zero_le _, rfl, by simpa using hfil⟩
  case round =>
      obtain ⟨i, F, hi, rfl, hfi⟩ := hrel
      clear hfil
      by_cases hlt : i < n
      · have HF := Lib.hid hfi
        clear hfi
        obtain ⟨x0, q0, f0⟩ := HR.out i hlt 0 _ rfl
        rw [Nat.mul_one, Nat.add_zero] at q0
        have hlen : (ds.take (i * 1)).length = i * 1 := by have := HN.out; rw [List.length_take]; omega
        have t0 := take_succ_get q0
        have HT := Lib.hid (show ds.take ((i + 1) * 1) = ds.take (i * 1) ++ [x0] from by rw [show (i + 1) * 1 = i * 1 + 1 from by omega]; simp only [Nat.mul_one]; rw [t0]; (try simp); done)
        have s0 : vol x0 ≤ 16777216 := by have := volL_at ds _ x0 q0; have := HV.out; omega
        obtain ⟨u0, g0, r0⟩ := HG.out wr HF.out.below _ _ q0
        obtain ⟨ua0, un0, uc0, rfl⟩ := f0.sliceR r0
        have HL := Lib.hid hlen
        clear hlen t0 q0
        go_wp2_with fail
        refine (toInt64S_d S x0 _ wr r0 f0 s0).mono ?_
        rintro e w' ⟨z0, F', rfl, hb, ho, hn', hl⟩
        obtain ⟨za0, zn0, zc0, rfl⟩ := f0.sliceO ho
        have HNX := HF.out.row (rs := [x0]) (vs := [.slice za0 zn0 zc0]) hb ⟨F', [], ho, rfl, (List.append_nil _).symm⟩ hn' hl (by rw [HL.out]; simp only [List.length_cons, List.length_nil]; omega)
        rw [HL.out, ← HT.out] at HNX
        have hN := Lib.hid HNX
        simp only [setRow, Nat.mul_one] at hN
        obtain ⟨o0, e0⟩ := (HF.out.carry hb).has (i) (by omega)
        have z0_ := (HF.out.carry hb).free (i)
        clear HNX hb hl hn' ho g0
        go_wp2
        go_roundw
        case rel => exact ⟨i + 1, _, by omega, by go_num, by have := hN.out; simpa only [Nat.mul_one] using this⟩
        case measure => simp [intOf]; omega
      · have HF := Lib.hid hfi
        clear hfi
        go_wp2
        go_ret
        obtain rfl : i = n := by omega
        have h2 := HF.out
        rw [take_full HN.out] at h2
        exact h2.retRow HN.out HM.out
set_option maxHeartbeats 2000000 in
theorem eqInt64SS_d (d : D) (v v' : Value) (w : World) (h : Rd Any w d v) (h' : Rd Any w d v') (hf : Fit (.l [.l [.i]]) d) :
    Calls Try.prog 54 #[v, v'] w (RetV w (.bool true)) := by
  obtain ⟨ds, rfl, n, hn, HR⟩ := Fit.rows (k := 1) rfl hf
  obtain ⟨a, c, rfl, hm, hp, HG⟩ := h.row hn (by omega)
  obtain ⟨ap, cp, rfl, hmp, hpp, HGp⟩ := h'.row hn (by omega)
  unfold maxLen at hm
  have i1 := ix_of (P := Try.prog) tabII.under tabII.size (a := a) (n := n) hp c
  simp only [Nat.mul_one] at i1
  have i2 := ix_of (P := Try.prog) tabII.under tabII.size (a := ap) (n := n) hpp cp
  simp only [Nat.mul_one] at i2
  clear hn hmp
  go_enter Try.func54, Try.ntmps54
  go_wp2
  go_loopw [5] (fun i0 wr => ∃ i : Nat, i ≤ n ∧ i0 = .int .i64 i ∧ Below w.heap.size w wr) (fun i _ => n - (intOf i).toNat)
  case atStart => exact ⟨0, Nat.zero_le _, rfl, Below.refl _ _⟩
  case round =>
      obtain ⟨i, hi, rfl, hb⟩ := hrel
      have HB := Lib.hid hb
      clear hb
      by_cases hlt : i < n
      · skip
        obtain ⟨x0, q0, f0⟩ := HR.out i hlt 0 _ rfl
        rw [Nat.mul_one, Nat.add_zero] at q0
        obtain ⟨u0, g0, r0⟩ := HG.out wr HB.out _ _ q0
        obtain ⟨ua0, un0, uc0, rfl⟩ := f0.sliceR r0
        obtain ⟨u0p, g0p, r0p⟩ := HGp.out wr HB.out _ _ q0
        obtain ⟨ua0p, un0p, uc0p, rfl⟩ := f0.sliceR r0p
        clear q0
        go_wp2_with fail
        go_region_with (go_at_call 19; refine (eqInt64S_d x0 _ _ _ (r0.below (below_drewN _ _ 1)) (r0p.below (below_drewN _ _ 1)) f0).mono ?_; rintro e w' ⟨rfl, hb'⟩)
        all_goals
          have hbb := bnext HB.out.drew hb' (Nat.le_refl _)
          clear hb' g0 g0p
          go_wp2
          go_roundw
          case rel => exact ⟨i + 1, by omega, by go_num, hbb⟩
          case measure => simp [intOf]; omega
      · go_wp2
        go_ret
        exact ⟨rfl, HB.out⟩
set_option maxHeartbeats 4000000 in
theorem markInt64SS_d (d : D) (v : Value) (F : List Nat) (m : Int) (w : World) (h : Ow w d v F) (hnd : F.Nodup) (hf : Fit (.l [.l [.i]]) d) (hv : cnt d ≤ 16777216) (m0 : 0 ≤ m) (m1 : m ≤ 17179869184) :
    Calls Try.prog 55 #[v, .int .i64 m] w (RetMk w F m d v) := by
  obtain ⟨ds, rfl, n, hn, HR⟩ := Fit.rows (k := 1) rfl hf
  obtain ⟨a, c, F', rfl, hm, hp, hcp, hM⟩ := h.mks hnd hn (by omega)
  have HCP := Lib.hid hcp
  clear hcp
  have hM0 := Lib.hid (hM m)
  have HM := Lib.hid hm
  unfold maxLen at hm
  simp only [cnt] at hv
  have HN := Lib.hid hn
  clear hM hn
  have i1 := ix_of (P := Try.prog) tabII.under tabII.size (a := a) (n := n) hp c
  simp only [Nat.mul_one] at i1
  go_enter Try.func55, Try.ntmps55
  go_wp2
  go_loopw [1, 5] (fun q i0 wr => ∃ (i : Nat) (K : Int), i ≤ n ∧ i0 = .int .i64 i ∧ q = .int .i64 K ∧ Mks w wr a ds F' F m K (i * 1)) (fun _ i _ => n - (intOf i).toNat)
  case atStart => exact ⟨0, m, Nat.zero_le _, rfl, rfl, by simpa using hM0.out⟩
  case round =>
      obtain ⟨i, K0, hi, rfl, rfl, hk0⟩ := hrel
      by_cases hlt : i < n
      · skip
        obtain ⟨x0, q0, f0⟩ := HR.out i hlt 0 _ rfl
        rw [Nat.mul_one, Nat.add_zero] at q0
        rw [Nat.mul_one] at hk0
        have B0 := hk0.le
        obtain ⟨u0, G0, c0, b0, n0, N0⟩ := hk0.list q0
        obtain ⟨ua0, un0, uc0, rfl⟩ := f0.sliceO b0
        have B1 := hk0.le
        have V0 : cnt x0 ≤ 16777216 := by have := cntL_at ds _ x0 q0; omega
        clear hk0
        go_wp2_with fail
        refine (markInt64S_d x0 _ G0 _ _ b0 n0 f0 V0 (by omega) (by omega)).mono ?_
        rintro e w0 ⟨rfl, he0, hy0⟩
        have hk_0 := N0.out _ he0 hy0
        clear he0 hy0 b0 c0 N0
        have HK := Lib.hid hk_0
        clear hk_0
        go_wp2
        go_roundw
        case rel => exact ⟨i + 1, _, by omega, by go_num, rfl, by have := HK.out; rwa [Nat.mul_one]⟩
        case measure => simp [intOf]; omega
      · have HK := Lib.hid hk0
        clear hk0
        go_wp2
        go_ret
        obtain rfl : i = n := by omega
        have h2 := HK.out
        rw [← HN.out] at h2
        exact h2.done hp HM.out HN.out HCP.out
set_option maxHeartbeats 4000000 in
theorem heldInt64SS_d (S : Nat → Prop) (d : D) (v : Value) (m : Int) (w : World) (h : Rd S w (mkD m d) v) (hf : Fit (.l [.l [.i]]) d) (hv : cnt d ≤ 16777216) (m0 : 0 ≤ m) (m1 : m ≤ 17179869184) :
    Calls Try.prog 56 #[v, .int .i64 m] w (RetV w (.int .i64 (m + cnt d))) := by
  obtain ⟨ds, rfl, n, hn, HR⟩ := Fit.rows (k := 1) rfl hf
  rw [mkD] at h
  obtain ⟨a, c, rfl, hm, hp, HG⟩ := h.row (n := n) (by rw [mkL_len]; exact hn) (by omega)
  unfold maxLen at hm
  simp only [cnt] at hv
  have HN := Lib.hid hn
  clear hn
  have i1 := ix_of (P := Try.prog) tabII.under tabII.size (a := a) (n := n) hp c
  simp only [Nat.mul_one] at i1
  go_enter Try.func56, Try.ntmps56
  go_wp2
  go_loopw [1, 5] (fun q i0 wr => ∃ (i : Nat) (K : Int), i ≤ n ∧ i0 = .int .i64 i ∧ q = .int .i64 K ∧ Hid (K = m + cntL (ds.take (i * 1))) ∧ Below w.heap.size w wr) (fun _ i _ => n - (intOf i).toNat)
  case atStart => exact ⟨0, m, Nat.zero_le _, rfl, rfl, Lib.hid (by simp [cntL]), Below.refl _ _⟩
  case round =>
      obtain ⟨i, K, hi, rfl, rfl, HK, hb⟩ := hrel
      have HB := Lib.hid hb
      clear hb
      by_cases hlt : i < n
      · skip
        obtain ⟨x0, q0, f0⟩ := HR.out i hlt 0 _ rfl
        rw [Nat.mul_one, Nat.add_zero] at q0
        have k0 : K ≤ m + 16777216 ∧ 0 ≤ K := by have := HK.out; have := cntL_take_le ds (i * 1); omega
        have HK0 : Hid (K = m + cntL (ds.take i)) := Lib.hid (by have := HK.out; rwa [Nat.mul_one] at this)
        obtain ⟨u0, g0, r0⟩ := HG.out wr HB.out _ _ (mkL_get ds m _ x0 q0)
        rw [← HK0.out] at r0
        obtain ⟨ua0, un0, uc0, rfl⟩ := f0.sliceM r0
        have HK1 : Hid (K + cnt x0 = m + cntL (ds.take (i + 1))) := Lib.hid (by have a1 := HK0.out; have a2 := cntL_take q0; show _ = m + ((cntL (ds.take (i + 1)) : Nat) : Int); rw [a2]; omega)
        have k1 : K + cnt x0 ≤ m + 16777216 ∧ 0 ≤ K + cnt x0 := by have := HK1.out; have := cntL_take_le ds (i + 1); omega
        have V0 : cnt x0 ≤ 16777216 := by have := cntL_at ds _ x0 q0; omega
        clear q0
        go_wp2_with fail
        refine (heldInt64S_d S x0 _ (K) _ r0 f0 V0 (by omega) (by omega)).mono ?_
        rintro e w1 ⟨rfl, hb1⟩
        have HX1 := Lib.hid (hb1)
        clear hb1 g0
        go_wp2
        go_roundw
        case rel => exact ⟨i + 1, _, by omega, by go_num, rfl, Lib.hid (by have := HK1.out; rw [show (i + 1) * 1 = i + 1 from by omega]; exact this), bnext HB.out HX1.out (Nat.le_refl _)⟩
        case measure => simp [intOf]; omega
      · go_wp2
        go_ret
        obtain rfl : i = n := by omega
        refine ⟨ret_int ?_, HB.out⟩
        have a1 := HK.out
        rw [take_full HN.out] at a1
        simp only [cnt]; exact a1
end Go.Proofs.Ytkoojiplfbcalaa
